/- The walks of the reference of layer 4 (prime). The walks of the reference of layer 4 (prime): the test. The walks of the reference of layer 10 (rsagroup). The walks of the reference of layer 3 (modular): Mod, check, times, Mul; the division of layer 1 in general. The walks of the reference: exponents (03), integers (02), elements of groups of prime order (09). Taken out of Sm1. -/
import Derived.Test.YtiacajjpkncomaaGreatDoorExRA
import Derived.Test.YtiacajjpkncomaaGreatDoorExBP
import Derived.Test.YtiacajjpkncomaaGreatDoorExBM
import Derived.Test.YtiacajjpkncomaaGreatDoorExBE
import Derived.Test.YtiacajjpkncomaaGreatDoorExUU
import Derived.Deep.RegionHeld3
namespace Go.Proofs.YtiacajjpkncomaaGreatDoor
open Go.RowKit
set_option maxRecDepth 100000
set_option linter.unusedVariables false
set_option maxHeartbeats 400000
theorem r04_Formed (s:ByteArray) (w:World) :
  Calls Tryz.prog 75 #[.string s] w fun e w'=>e=.returned (.bool (valid s))∧w=w':=by
 by_cases h0:0<s.size
 · have hv:=Lib.hid (valid_pos h0)
   go_enter Tryz.func75, Tryz.ntmps75
   go_wp2
   all_goals
    go_ret;exact ⟨ret_bool (by rw [hv.out];first|(simp [*];done)|(simp;intros;omega)),rfl⟩
 · obtain rfl:s=ByteArray.empty:=by
    apply ByteArray.ext;apply Array.eq_empty_of_size_eq_zero;show s.size=0;omega
   go_enter Tryz.func75, Tryz.ntmps75
   go_wp2;go_ret;exact ⟨rfl,rfl⟩
theorem wrap_u64_step (v b m:Nat) (h:v%18446744073709551616=m):IntKind.u64.wrap (IntKind.u64.wrap ((m:Int)*256)+IntKind.u64.wrap (b:Int))=(((v*256+b)%18446744073709551616:Nat):Int):=by
 rw [IntKind.wrap_u64,IntKind.wrap_u64,IntKind.wrap_u64];omega
theorem r04_U (s:ByteArray) (w:World) (hs:s.size≤1000000) :
  Calls Tryz.prog 76 #[.string s] w fun e w'=>e=.returned (.tuple #[.int .u64 (num s%18446744073709551616:Nat),.bool (decide (s.size≤8))])∧w=w':=by
 have HE:=Lib.hid (show num s=val (s.data.toList.take s.size) by rw [size_eq,List.take_length];rfl)
 go_enter Tryz.func76, Tryz.ntmps76
 go_wp2;go_loop [4,5] (fun n c=>∃ i:Nat,i≤s.size∧c=.int .i64 i∧n=.int .u64 (val (s.data.toList.take i)%18446744073709551616:Nat)) (fun _ c=>s.size-(intOf c).toNat)
 case atStart=>exact ⟨0,by omega,rfl,rfl⟩
 case round =>
  obtain ⟨i,hi,rfl,rfl⟩:=hrel;by_cases hlt:i<s.size
  · have h3:(s.data.toList)[i]'(by rw [← size_eq];exact hlt)=s[i]:=rfl
    have h4:=val_take_succ s.data.toList i (by rw [← size_eq];exact hlt);rw [h3] at h4;have H4:=Lib.hid h4;clear h3 h4;have hbig:val (s.data.toList.take i)%18446744073709551616<18446744073709551616:=Nat.mod_lt _ (by decide);generalize val (s.data.toList.take i)=v at *
    obtain ⟨m,hm⟩:∃ m,v%18446744073709551616=m:=⟨_,rfl⟩;have HS:=Lib.hid (wrap_u64_step v s[i].toNat m hm);rw [hm];clear hm hbig;go_wp2;go_round
    case rel=>exact ⟨i+1,by omega,by go_num,by rw [HS.out,H4.out]⟩
    case measure=>simp [intOf];omega
  · obtain rfl:i=s.size:=by omega
    go_wp2;go_ret2;exact ⟨ret_ib (by rw [HE.out]) (by simp;omega),rfl⟩
theorem r04_AddMod (a b m:Nat) (w:World) (ha:a<m) (hb:b<m) (hm:m<18446744073709551616) :
  Calls Tryz.prog 182 #[.int .u64 a,.int .u64 b,.int .u64 m] w fun e w'=>e=.returned (.int .u64 ((a+b)%m:Nat))∧w=w':=by
 obtain ⟨c,hc⟩:∃ c,m-b=c:=⟨_,rfl⟩;have ec:((m:Int)-(b:Int))=(c:Int):=by omega
 have wc:IntKind.u64.wrap (c:Int)=(c:Int):=by rw [IntKind.wrap_u64];omega
 by_cases h:c≤a
 · obtain ⟨r,hr⟩:∃ r,a-c=r:=⟨_,rfl⟩
   have er:((a:Int)-(c:Int))=(r:Int):=by omega
   have wr:IntKind.u64.wrap (r:Int)=(r:Int):=by rw [IntKind.wrap_u64];omega
   have HR:=Lib.hid (show (a+b)%m=r by rw [show a+b=r+m by omega,Nat.add_mod_right,Nat.mod_eq_of_lt (by omega)]);have k1:decide ((c:Int)≤(a:Int))=true:=by simpa using h
   clear hc hr ha hb hm
   go_enter Tryz.func182, Tryz.ntmps182
   go_wp2;go_ret;exact ⟨ret_int (by rw [HR.out]),rfl⟩
 · obtain ⟨r,hr⟩:∃ r,a+b=r:=⟨_,rfl⟩
   have er:((a:Int)+(b:Int))=(r:Int):=by omega
   have wr:IntKind.u64.wrap (r:Int)=(r:Int):=by rw [IntKind.wrap_u64];omega
   have HR:=Lib.hid (show (a+b)%m=r by rw [Nat.mod_eq_of_lt (by omega)];exact hr);have k1:decide ((c:Int)≤(a:Int))=false:=by simpa using h
   clear hc hr ha hb hm
   go_enter Tryz.func182, Tryz.ntmps182
   go_wp2;go_ret;exact ⟨ret_int (by rw [HR.out]),rfl⟩
theorem mul_step_odd (o a b m:Nat) (h:b%2=1):((o+a)%m+(a+a)%m*(b/2))%m=(o+a*b)%m:=by
 rw [Nat.add_mod,Nat.mod_mod,mul_mod_l,← Nat.add_mod];congr 1
 conv=>rhs;rw [show b=1+2*(b/2) by omega,Nat.mul_add]
 rw [← Nat.mul_assoc,Nat.mul_two,Nat.mul_one];omega
theorem mul_step_even (o a b m:Nat) (h:b%2≠1):(o+(a+a)%m*(b/2))%m=(o+a*b)%m:=by
 rw [Nat.add_mod,mul_mod_l,← Nat.add_mod];congr 1
 conv=>rhs;rw [show b=2*(b/2) by omega]
 rw [← Nat.mul_assoc,Nat.mul_two]
theorem r04_MulMod_small (a b m:Nat) (w:World) (ha:a<m) (hb:b<m) (hm:m<4294967296) :
  Calls Tryz.prog 158 #[.int .u64 a,.int .u64 b,.int .u64 m] w fun e w'=>e=.returned (.int .u64 (a*b%m:Nat))∧w=w':=by
 have hp:a*b<18446744073709551616:=by
  have:=Nat.mul_le_mul (show a≤4294967295 by omega) (show b≤4294967295 by omega);omega
 obtain ⟨p,hpp⟩:∃ p,a*b=p:=⟨_,rfl⟩;have ep:((a:Int)*(b:Int))=(p:Int):=by rw [← hpp,Int.natCast_mul]
 have wp:IntKind.u64.wrap (p:Int)=(p:Int):=by rw [IntKind.wrap_u64];omega
 rw [hpp];have hm0:0<m:=by omega
 have k1:decide ((m:Int)<4294967296)=true:=by simp;omega
 obtain ⟨R,hR⟩:∃ R,p%m=R:=⟨_,rfl⟩;have er:((p:Int)%(m:Int))=(R:Int):=by rw [← hR];simp
 rw [hR];clear hp hpp ha hb hm hR
 go_enter Tryz.func158, Tryz.ntmps158
 go_wp2;go_ret;exact ⟨ret_int er,rfl⟩
theorem r04_MulMod_great (a0 b0 m:Nat) (w:World) (ha:a0<m) (hb:b0<m) (hm:m<18446744073709551616) (hg:4294967296≤m) :
  Calls Tryz.prog 158 #[.int .u64 a0,.int .u64 b0,.int .u64 m] w fun e w'=>e=.returned (.int .u64 (a0*b0%m:Nat))∧w=w':=by
 have HM:=Lib.hid hm;have HB0:=Lib.hid (show b0<18446744073709551616 by omega);have k1:decide ((m:Int)<4294967296)=false:=by simp;omega
 have hm0:0<m:=by omega
 obtain ⟨R,hR⟩:∃ R,a0*b0%m=R:=⟨_,rfl⟩;rw [hR];have HRR:=Lib.hid hR;clear hm hg hR
 go_enter Tryz.func158, Tryz.ntmps158
 go_wp2_with fail;go_loop [0,1,7] (fun va vb vo=>∃ a b o:Nat,va=.int .u64 a∧vb=.int .u64 b∧vo=.int .u64 o∧a<m∧o<m∧b≤b0∧(o+a*b)%m=R) (fun _ vb _=>(intOf vb).toNat)
 case atStart=>exact ⟨a0,b0,0,rfl,rfl,rfl,ha,by omega,Nat.le_refl _,by rw [Nat.zero_add];exact HRR.out⟩
 case round =>
  obtain ⟨a,b,o,rfl,rfl,rfl,ha1,ho1,hb1,hinv⟩:=hrel;have HI:=Lib.hid hinv;have HAM:=Lib.hid ha1;have HOM:=Lib.hid ho1;clear hinv ha1 ho1;by_cases hz:b=0
  · subst hz
    go_wp2_with fail;go_ret;exact ⟨ret_int (by rw [← HI.out,Nat.mul_zero,Nat.add_zero,Nat.mod_eq_of_lt HOM.out]),rfl⟩
  · have hpos:(0:Int)<(b:Int):=by omega
    have hpe:0<b:=by omega
    have hq:=u64_quo b 2 (Nat.lt_of_le_of_lt hb1 HB0.out);have HQ:=Lib.hid hq;clear hq;by_cases ho:b%2=1
    · have B1:((b:Int)%2==1)=true:=by rw [beq_iff_eq];omega
      have HO:=Lib.hid ho;clear ho hz;go_wp2_with (first|(go_at_call 182;(with_reducible refine (r04_AddMod o a m _ HOM.out HAM.out HM.out).mono ?_);rintro e w' ⟨rfl,rfl⟩)|(go_at_call 182;(with_reducible refine (r04_AddMod a a m _ HAM.out HAM.out HM.out).mono ?_);rintro e w' ⟨rfl,rfl⟩));go_round
      case rel=>exact ⟨(a+a)%m,b/2,(o+a)%m,by congr 1,by rw [← HQ.out];rfl,by congr 1,Nat.mod_lt _ (by omega),Nat.mod_lt _ (by omega),by omega,by rw [mul_step_odd _ _ _ _ HO.out];exact HI.out⟩
      case measure =>
       have hq2:IntKind.u64.wrap ((b:Int)/2)=((b/2:Nat):Int):=HQ.out;rw [hq2];simp [intOf];omega
    · have B1:((b:Int)%2==1)=false:=by rw [beq_eq_false_iff_ne];omega
      have HO:=Lib.hid ho;clear ho hz;go_wp2_with (first|(go_at_call 182;(with_reducible refine (r04_AddMod a a m _ HAM.out HAM.out HM.out).mono ?_);rintro e w' ⟨rfl,rfl⟩));go_round
      case rel=>exact ⟨(a+a)%m,b/2,o,by congr 1,by rw [← HQ.out];rfl,rfl,Nat.mod_lt _ (by omega),HOM.out,by omega,by rw [mul_step_even _ _ _ _ HO.out];exact HI.out⟩
      case measure =>
       have hq2:IntKind.u64.wrap ((b:Int)/2)=((b/2:Nat):Int):=HQ.out;rw [hq2];simp [intOf];omega
theorem r04_MulMod (a b m:Nat) (w:World) (ha:a<m) (hb:b<m) (hm:m<18446744073709551616) :
  Calls Tryz.prog 158 #[.int .u64 a,.int .u64 b,.int .u64 m] w fun e w'=>e=.returned (.int .u64 (a*b%m:Nat))∧w=w':=by
 rcases Nat.lt_or_ge m 4294967296 with h|h
 · exact r04_MulMod_small a b m w ha hb h
 · exact r04_MulMod_great a b m w ha hb hm h
theorem r04_ExpMod (a0 e0 m:Nat) (w:World) (ha:a0<m) (he:e0<18446744073709551616) (hm:m<18446744073709551616) :
  Calls Tryz.prog 157 #[.int .u64 a0,.int .u64 e0,.int .u64 m] w fun e w'=>e=.returned (.int .u64 (a0^e0%m:Nat))∧w=w':=by
 have hm0:1≤m:=by omega
 have h1:((1:Int)%(m:Int))=((1%m:Nat):Int):=by simp
 have HE:=Lib.hid he;have HM:=Lib.hid hm;obtain ⟨R,hR⟩:∃ R,a0^e0%m=R:=⟨_,rfl⟩;rw [hR];have HRR:=Lib.hid hR;clear he hm hR
 go_enter Tryz.func157, Tryz.ntmps157
 go_wp2_with fail;go_loop [0,1,7] (fun va ve vx=>∃ a e x:Nat,va=.int .u64 a∧ve=.int .u64 e∧vx=.int .u64 x∧a<m∧x<m∧e≤e0∧x*a^e%m=R) (fun _ ve _=>(intOf ve).toNat)
 case atStart=>exact ⟨a0,e0,1%m,rfl,rfl,by rw [← h1],ha,Nat.mod_lt _ (by omega),Nat.le_refl _,by rw [mul_mod_l,Nat.one_mul];exact HRR.out⟩
 case round =>
  obtain ⟨a,e,x,rfl,rfl,rfl,ha1,hx1,he1,hinv⟩:=hrel;have HI:=Lib.hid hinv;have HAM:=Lib.hid ha1;have HXM:=Lib.hid hx1;clear hinv h1 ha1 hx1;by_cases hz:e=0
  · subst hz
    go_wp2_with fail;go_ret;exact ⟨ret_int (by rw [← HI.out,Nat.pow_zero,Nat.mul_one,Nat.mod_eq_of_lt HXM.out]),rfl⟩
  · have hpos:(0:Int)<(e:Int):=by omega
    have HQ:=Lib.hid (u64_quo e 2 (Nat.lt_of_le_of_lt he1 HE.out));have hpe:0<e:=by omega
    by_cases ho:e%2=1
    · have B1:((e:Int)%2==1)=true:=by rw [beq_iff_eq];omega
      have HO:=Lib.hid ho;clear ho hz;go_wp2_with (first|(go_at_call 158;(with_reducible refine (r04_MulMod x a m _ HXM.out HAM.out HM.out).mono ?_);rintro e w' ⟨rfl,rfl⟩)|(go_at_call 158;(with_reducible refine (r04_MulMod a a m _ HAM.out HAM.out HM.out).mono ?_);rintro e w' ⟨rfl,rfl⟩));go_round
      case rel=>exact ⟨a*a%m,e/2,x*a%m,by congr 1,by rw [← HQ.out];rfl,by congr 1,Nat.mod_lt _ (by omega),Nat.mod_lt _ (by omega),by omega,by rw [pow_step_odd _ _ _ _ HO.out];exact HI.out⟩
      case measure =>
       have hq2:IntKind.u64.wrap ((e:Int)/2)=((e/2:Nat):Int):=HQ.out;rw [hq2];simp [intOf];omega
    · have B1:((e:Int)%2==1)=false:=by rw [beq_eq_false_iff_ne];omega
      have HO:=Lib.hid ho;clear ho hz;go_wp2_with (first|(go_at_call 158;(with_reducible refine (r04_MulMod a a m _ HAM.out HAM.out HM.out).mono ?_);rintro e w' ⟨rfl,rfl⟩));go_round
      case rel=>exact ⟨a*a%m,e/2,x,by congr 1,by rw [← HQ.out];rfl,rfl,Nat.mod_lt _ (by omega),HXM.out,by omega,by rw [pow_step_even _ _ _ _ HO.out];exact HI.out⟩
      case measure =>
       have hq2:IntKind.u64.wrap ((e:Int)/2)=((e/2:Nat):Int):=HQ.out;rw [hq2];simp [intOf];omega
end Go.Proofs.YtiacajjpkncomaaGreatDoor
namespace Go.Proofs.YtiacajjpkncomaaGreatDoor
open Go.RowKit
set_option maxRecDepth 100000
set_option linter.unusedVariables false
set_option maxHeartbeats 400000
theorem tz_spec {n:Nat} (h1:2≤n) (h:n<18446744073709551616):∃ q,n-1=2^tz n*(2*q+1)∧tz n<64:=by
 obtain ⟨m,hm,hk⟩:=Lib.ctzFrom_spec 64 (n-1) (by omega) (by omega);have e:tz n=Lib.ctzFrom 64 (n-1):=by unfold tz Lib.ctz;rw [if_neg (by omega)]
 rw [e];exact ⟨m,hm,hk⟩
theorem tz_below {n j:Nat} (h1:2≤n) (h:n<18446744073709551616) (hj:j<tz n):(n-1)/2^j%2=0:=by
 obtain ⟨q,hq,_⟩:=tz_spec h1 h
 have e:2^tz n=2^j*(2*2^(tz n-j-1)):=by
  rw [← Nat.pow_succ',← Nat.pow_add];congr 1;omega
 rw [hq,e,Nat.mul_assoc,Nat.mul_div_cancel_left _ (Nat.two_pow_pos j),Nat.mul_assoc];omega
theorem tz_at {n:Nat} (h1:2≤n) (h:n<18446744073709551616):(n-1)/2^tz n%2=1:=by
 obtain ⟨q,hq,_⟩:=tz_spec h1 h
 have e:(n-1)/2^tz n=2*q+1:=by
  conv=>lhs;rw [hq]
  rw [Nat.mul_div_cancel_left _ (Nat.two_pow_pos _)]
 rw [e];omega
theorem r04_StrongU (n a:Nat) (w:World) (hn:n<18446744073709551616) (h3:3≤n) (hodd:n%2=1) (ha:a<n) (ha0:0<a) :
  Calls Tryz.prog 131 #[.int .u64 n,.int .u64 a] w fun e w'=>e=.returned (.bool (strongB n a))∧w=w':=by
 obtain ⟨N,hN⟩:∃ N,n-1=N:=⟨_,rfl⟩;have eN:((n:Int)-1)=(N:Int):=by omega
 have wN:IntKind.u64.wrap (N:Int)=(N:Int):=by rw [IntKind.wrap_u64];omega
 have hNl:=Lib.hid (show N<18446744073709551616 by omega);have hb:=@tz_below n;have ht:=tz_at (show 2≤n by omega) hn;obtain ⟨_,_,ht64⟩:=tz_spec (show 2≤n by omega) hn;rw [hN] at hb ht;obtain ⟨t,htt⟩:∃ t,tz n=t:=⟨_,rfl⟩;have hb':∀ j,j<t→N/2^j%2=0:=fun j hj=>hb (by omega) hn (by rw [htt];exact hj)
 rw [htt] at ht ht64;obtain ⟨d,hd⟩:∃ d,oddPart n=d:=⟨_,rfl⟩;have hd2:N/2^t=d:=by rw [← hd,← hN,← htt];rfl
 obtain ⟨x0,hx0⟩:∃ x0,first n a=x0:=⟨_,rfl⟩;have hdl:d<18446744073709551616:=by rw [← hd2];exact Nat.lt_of_le_of_lt (Nat.div_le_self _ _) (by omega)
 have hexp:=fun w=>r04_ExpMod a d n w ha hdl hn
 rw [show a^d%n=x0 by rw [← hx0,← hd];unfold first;rw [Nat.mod_eq_of_lt ha]] at hexp;have HMU:=Lib.hid (fun x w (hx:x<n)=>r04_MulMod x x n w hx hx hn)
 have HTP:Hid (0<t):=by
  apply Lib.hid
  rcases Nat.eq_zero_or_pos t with h|h
  · rw [h,Nat.pow_zero,Nat.div_one] at ht;omega
  · exact h
 have HB:=Lib.hid hb';have HT:=Lib.hid ht;have HTT:=Lib.hid htt;have HD2:=Lib.hid hd2;have HX0:=Lib.hid hx0;have HE:=Lib.hid hexp;have HNN:=Lib.hid hN;have HXN:=Lib.hid (show x0<n by rw [← hx0];exact Nat.mod_lt _ (by omega));have c1:decide ((n:Int)<3)=false:=by simp;omega
 have c2:((n:Int)%2==0)=false:=by rw [beq_eq_false_iff_ne];omega
 have c3:((a:Int)==0)=false:=by rw [beq_eq_false_iff_ne];omega
 have HN:=Lib.hid hn;clear hb hb' ht htt hd hd2 hx0 hexp hN hdl hn hodd ha
 go_enter Tryz.func131, Tryz.ntmps131
 go_wp2_with fail;go_loop [5,6] (fun vd vs=>∃ s:Nat,s≤t∧vd=.int .u64 (N/2^s:Nat)∧vs=.int .i64 s) (fun _ vs=>t-(intOf vs).toNat)
 case atStart=>exact ⟨0,by omega,by simp,rfl⟩
 case round =>
  obtain ⟨s,hs,rfl,rfl⟩:=hrel;by_cases hlt:s<t
  · have h1:=HB.out s hlt
    have hnx:N/2^s/2=N/2^(s+1):=by rw [Nat.div_div_eq_div_mul,← Nat.pow_succ]
    have HNX:=Lib.hid hnx;have HQ:=Lib.hid (u64_quo (N/2^s) 2 (Nat.lt_of_le_of_lt (Nat.div_le_self _ _) hNl.out));clear hnx;generalize N/2^s=m at *
    have B1:((m:Int)%2==0)=true:=by rw [beq_iff_eq];omega
    clear h1;go_wp2_with fail;go_round
    case rel=>exact ⟨s+1,by omega,by rw [← HNX.out,← HQ.out];rfl,by go_num⟩
    case measure=>simp [intOf];omega
  · obtain rfl:s=t:=by omega
    have hd2:=HD2.out;rw [hd2];have h1:d%2=1:=by rw [← hd2];exact HT.out
    have B1:((d:Int)%2==0)=false:=by rw [beq_eq_false_iff_ne];omega
    clear h1 hd2;by_cases h1:x0=1
    · subst h1
      have HST:=Lib.hid (strong_one HX0.out);go_wp2_with (go_at_call 157;refine (HE.out _).mono ?_;rintro e w' ⟨rfl,rfl⟩);go_ret;exact ⟨ret_bool HST.out.symm,rfl⟩
    · have C1:((x0:Int)==1)=false:=by rw [beq_eq_false_iff_ne];omega
      have H1:=Lib.hid h1;clear h1;go_wp2_with (go_at_call 157;refine (HE.out _).mono ?_;rintro e w' ⟨rfl,rfl⟩);go_loop [7,8] (fun vx c=>∃ i x:Nat,i≤s∧vx=.int .u64 x∧c=.int .i64 i∧x<n∧sqr n x0 i=x∧(∀ j,j<i→sqr n x0 j≠N)) (fun _ c=>s-(intOf c).toNat)
      case atStart=>exact ⟨0,x0,by omega,rfl,rfl,HXN.out,sqr_zero HXN.out,fun j h=>absurd h (by omega)⟩
      case round =>
       obtain ⟨i,x,hi,rfl,rfl,hx,hsq,hnot⟩:=hrel;have HX:=Lib.hid hx;have HSQ:=Lib.hid hsq;have HNOT:=Lib.hid hnot;clear hx hsq hnot;by_cases hit:i<s
       · by_cases hxl:x=N
         · subst hxl
           have HST:Hid (strongB n a=true):=by
            by_cases h0:i=0
            · subst h0
              exact Lib.hid (strong_last (by rw [HX0.out,← sqr_zero HXN.out,HSQ.out,HNN.out]))
            · exact Lib.hid (strong_sqr (i:=i) (by omega) (by rw [HTT.out];exact hit) (by rw [HX0.out,HSQ.out,HNN.out]))
           go_wp2_with fail;go_ret;exact ⟨ret_bool HST.out.symm,rfl⟩
         · have D1:((x:Int)==(N:Int))=false:=by rw [beq_eq_false_iff_ne];omega
           have HY:=Lib.hid hxl;obtain ⟨y,hy⟩:∃ y,x*x%n=y:=⟨_,rfl⟩;have hmul:=fun w=>HMU.out x w HX.out
           rw [hy] at hmul;have HMUL:=Lib.hid hmul;have HYY:=Lib.hid hy;clear hxl hmul hy;go_wp2_with (go_at_call 158;refine (HMUL.out _).mono ?_;rintro e w' ⟨rfl,rfl⟩);go_round
           case rel=>exact ⟨i+1,y,by omega,rfl,by go_num,by rw [← HYY.out];exact Nat.mod_lt _ (by omega),by rw [← sqr_succ,HSQ.out,HYY.out],fun j hj=>by
            by_cases e:j=i
            · subst e;rw [HSQ.out];exact HY.out
            · exact HNOT.out j (by omega)⟩
           case measure=>simp [intOf];omega
       · have HST:Hid (strongB n a=false):=by
          exact Lib.hid (strong_not (by rw [HX0.out];exact H1.out) (by
           rw [HX0.out,HNN.out];have:=HNOT.out 0 (by have:=HTP.out;omega)
           rwa [sqr_zero HXN.out] at this) (fun j h1 h2=>by rw [HX0.out,HNN.out];exact HNOT.out j (by rw [HTT.out] at h2;omega)))
         go_wp2_with fail;go_ret;exact ⟨ret_bool HST.out.symm,rfl⟩
theorem bases_cells (w:World) (T:TypeId):∀ k,k<12→(w.alloc (.cells basesV T)).cell? ⟨w.heap.size,k,none⟩=some (.int .u64 (basesL.getD k 0:Nat)):=by
 intro k hk;have h:(w.alloc (.cells basesV T)).heap[w.heap.size]?=some (.cells basesV T (0,0)):=heap_alloc_new w _;simp only [World.cell?,h]
 match k,hk with
 | 0,_=>rfl
 | 1,_=>rfl
 | 2,_=>rfl
 | 3,_=>rfl
 | 4,_=>rfl
 | 5,_=>rfl
 | 6,_=>rfl
 | 7,_=>rfl
 | 8,_=>rfl
 | 9,_=>rfl
 | 10,_=>rfl
 | 11,_=>rfl
 | n+12,h=>exact absurd h (by omega)
theorem above_bases {n:Nat} (h2:2≤n) (h:∀ j,j<12→n%basesL.getD j 0≠0):38≤n:=by
 rcases Nat.lt_or_ge n 38 with hl|hl
 · exfalso
   have:∀ m,m<38→2≤m→∃ j,j<12∧m%basesL.getD j 0=0:=by decide
   obtain ⟨j,hj,hz⟩:=this n hl h2;exact h j hj hz
 · exact hl
theorem r04_IsU (n:Nat) (w:World) (hn:n<18446744073709551616) :
  Calls Tryz.prog 77 #[.int .u64 n] w fun e w'=>e=.returned (.bool (isS n))∧Below w.heap.size w w':=by
 by_cases h2:n<2
 · have HR:=Lib.hid (isS_small h2)
   go_enter Tryz.func77, Tryz.ntmps77
   go_wp2_with fail;go_ret;exact ⟨ret_bool HR.out.symm,Below.refl _ _⟩
 · have HN:=Lib.hid hn
   have hce:=bases_cells w 57;unfold basesV at hce;have hbw:=Lib.hid (show Below w.heap.size w (w.alloc (.cells basesV 57)) from (Below.refl _ _).alloc (Nat.le_refl _) _);unfold basesV at hbw;have HC:=Lib.hid hce;clear hn hce
   go_enter Tryz.func77, Tryz.ntmps77
   go_wp2_with fail;have HH:=Lib.hid h2;obtain ⟨wo,hwo⟩:∃ wo,w.alloc (.cells #[.int .u64 2,.int .u64 3,.int .u64 5,.int .u64 7,.int .u64 11,.int .u64 13,.int .u64 17,.int .u64 19,.int .u64 23,.int .u64 29,.int .u64 31,.int .u64 37] 57)=wo:=⟨_,rfl⟩;rw [hwo] at HC hbw ⊢;clear hwo h2;go_loop [4] (fun c=>∃ k:Nat,k≤12∧c=.int .i64 k∧(∀ j,j<k→n%basesL.getD j 0≠0)) (fun c=>12-(intOf c).toNat)
   case atStart=>exact ⟨0,by omega,rfl,fun j h=>absurd h (by omega)⟩
   case round =>
    obtain ⟨k,hk,rfl,hall⟩:=hrel;have HALL:=Lib.hid hall;clear hall;by_cases hlt:k<12
    · have hc:=HC.out k hlt
      obtain ⟨hb2,hb37⟩:=base_pos k hlt;obtain ⟨p,hp⟩:∃ p,basesL.getD k 0=p:=⟨_,rfl⟩;simp only [hp] at hc hb2 hb37;have HP:=Lib.hid hp;clear hp;by_cases he:n=p
      · have HR:=Lib.hid (show isS n=true by
         rw [isS_hit (k:=k) (by have:=HH.out;omega) hlt HALL.out (by rw [HP.out,he,Nat.mod_self]),HP.out,he];simp)
        have B0:((n:Int)==(p:Int))=true:=by rw [beq_iff_eq];omega
        clear he;go_wp2_with fail;go_ret;exact ⟨ret_bool HR.out.symm,hbw.out⟩
      · have B0:((n:Int)==(p:Int))=false:=by rw [beq_eq_false_iff_ne];omega
        by_cases hd:n%p=0
        · have B1:((n:Int)%(p:Int)==0)=true:=by rw [beq_iff_eq];omega
          have HR:=Lib.hid (show isS n=false by
           rw [isS_hit (k:=k) (by have:=HH.out;omega) hlt HALL.out (by rw [HP.out];exact hd),HP.out];simpa using he)
          clear hd he;go_wp2_with fail;go_ret;exact ⟨ret_bool HR.out.symm,hbw.out⟩
        · have B1:((n:Int)%(p:Int)==0)=false:=by rw [beq_eq_false_iff_ne];omega
          have HD:=Lib.hid hd;clear hd he;go_wp2_with fail;go_round
          case rel=>exact ⟨k+1,by omega,by go_num,fun j hj=>by
           by_cases e:j=k
           · subst e;rw [HP.out];exact HD.out
           · exact HALL.out j (by omega)⟩
          case measure=>simp [intOf];omega
    · obtain rfl:k=12:=by omega
      have hn38:=above_bases (by have:=HH.out;omega) HALL.out;have hodd:n%2=1:=by have:=HALL.out 0 (by omega);rw [show basesL.getD 0 0=2 from rfl] at this;omega
      have HST:=Lib.hid (fun p w (h2:2≤p) (h37:p≤37)=>r04_StrongU n p w HN.out (by omega) hodd (by omega) (by omega));clear hodd;go_wp2_with fail;go_loop [5] (fun c=>∃ k:Nat,k≤12∧c=.int .i64 k∧(∀ j,j<k→strongB n (basesL.getD j 0)=true)) (fun c=>12-(intOf c).toNat)
      case atStart=>exact ⟨0,by omega,rfl,fun j h=>absurd h (by omega)⟩
      case round =>
       obtain ⟨k,hk,rfl,hall⟩:=hrel;have HAL2:=Lib.hid hall;clear hall;by_cases hlt:k<12
       · have hc:=HC.out k hlt
         obtain ⟨hb2,hb37⟩:=base_pos k hlt;obtain ⟨p,hp⟩:∃ p,basesL.getD k 0=p:=⟨_,rfl⟩;simp only [hp] at hc hb2 hb37;have HP:=Lib.hid hp;have hst:=fun w=>HST.out p w hb2 hb37
         obtain ⟨b,hb⟩:∃ b,strongB n p=b:=⟨_,rfl⟩;rw [hb] at hst;have HS:=Lib.hid hst;have HB:=Lib.hid hb;clear hp hst hb
         cases b
         · have HR:=Lib.hid (isS_no (by have:=HH.out;omega) HALL.out hlt (by rw [HP.out];exact HB.out))
           go_wp2_with (go_at_call 131;refine (HS.out _).mono ?_;rintro e w' ⟨rfl,rfl⟩);go_ret;exact ⟨ret_bool HR.out.symm,hbw.out⟩
         · go_wp2_with (go_at_call 131;refine (HS.out _).mono ?_;rintro e w' ⟨rfl,rfl⟩)
           go_round
           case rel=>exact ⟨k+1,by omega,by go_num,fun j hj=>by
            by_cases e:j=k
            · subst e;rw [HP.out];exact HB.out
            · exact HAL2.out j (by omega)⟩
           case measure=>simp [intOf];omega
       · obtain rfl:k=12:=by omega
         have HR:=Lib.hid (isS_yes (by have:=HH.out;omega) HALL.out HAL2.out);go_wp2_with fail;go_ret;exact ⟨ret_bool HR.out.symm,hbw.out⟩
def isPS (s:ByteArray):Bool × Int:=(decide ((smallS s).2=0)&&isS (smallS s).1,(smallS s).2)
theorem r04_U8 (s:ByteArray) (w:World) (hs:s.size≤8) :
  Calls Tryz.prog 76 #[.string s] w fun e w'=>e=.returned (.tuple #[.int .u64 (num s:Nat),.bool true])∧w=w':=by
 have:=r04_U s w (by omega);rw [Nat.mod_eq_of_lt (natSmall_bound s hs),decide_eq_true hs] at this;exact this
theorem r04_U9 (s:ByteArray) (w:World) (hv:valid s=true) (hs:¬ s.size≤8) :
  Calls Tryz.prog 76 #[.string s] w fun e w'=>∃ u:Nat,e=.returned (.tuple #[.int .u64 u,.bool false])∧w=w':=by
 refine (r04_U s w (by have:=valid_size hv;omega)).mono ?_;rintro e w' ⟨rfl,rfl⟩;rw [decide_eq_false hs];exact ⟨_,rfl,rfl⟩
theorem r04_Is (s:ByteArray) (w:World) :
  Calls Tryz.prog 31 #[.string s] w fun e w'=>e=.returned (.tuple #[.bool (isPS s).1,.int .i64 (isPS s).2])∧Below w.heap.size w w':=by
 cases hv:valid s
 · have HR:=Lib.hid (show isPS s=(false,3) by unfold isPS smallS;simp [hv])
   go_enter Tryz.func31, Tryz.ntmps31
   go_wp2_with (go_at_call 75;refine (r04_Formed _ _).mono ?_;rintro e w' ⟨rfl,rfl⟩);go_ret2;exact ⟨ret_be (by rw [HR.out]) (by rw [HR.out]),Below.refl _ _⟩
 · by_cases h8:s.size≤8
   · have HR:=Lib.hid (show isPS s=(isS (num s),0) by unfold isPS smallS;simp [hv,h8])
     have HI:=Lib.hid (fun w=>r04_IsU (num s) w (natSmall_bound s h8));have HU:=Lib.hid (fun w=>r04_U8 s w h8);generalize num s=n at *
     go_enter Tryz.func31, Tryz.ntmps31
     go_wp2_with (first|(go_at_call 75;refine (r04_Formed _ _).mono ?_;rintro e w' ⟨rfl,rfl⟩)|(go_at_call 76;refine (HU.out _).mono ?_;rintro e w' ⟨rfl,rfl⟩)|(go_at_call 77;refine (HI.out _).mono ?_;rintro e w' ⟨rfl,hb1⟩));go_ret2;exact ⟨ret_be (by rw [HR.out]) (by rw [HR.out]),hb1⟩
   · have HR:=Lib.hid (show isPS s=(false,5) by unfold isPS smallS;simp [hv,h8])
     have HU:=Lib.hid (fun w=>r04_U9 s w hv h8)
     go_enter Tryz.func31, Tryz.ntmps31
     go_wp2_with (first|(go_at_call 75;refine (r04_Formed _ _).mono ?_;rintro e w' ⟨rfl,rfl⟩)|(go_at_call 76;refine (HU.out _).mono ?_;rintro e w' ⟨u,rfl,rfl⟩));go_ret2;exact ⟨ret_be (by rw [HR.out]) (by rw [HR.out]),Below.refl _ _⟩
theorem r04_Safe (s:ByteArray) (w:World) :
  Calls Tryz.prog 127 #[.string s] w fun e w'=>e=.returned (.tuple #[.bool (safeS s).1,.int .i64 (safeS s).2])∧Below w.heap.size w w':=by
 have HP:=Lib.hid (fun w=>r04_Is s w);have hr:safeS s=(decide ((smallS s).2=0)&&(isS (smallS s).1&&isS (((smallS s).1-1)/2)),(smallS s).2):=rfl;have hp:isPS s=(decide ((smallS s).2=0)&&isS (smallS s).1,(smallS s).2):=rfl;by_cases he:(smallS s).2=0
 · have hv:valid s=true∧s.size≤8:=by
    unfold smallS at he;by_cases hv:valid s=true
    · rw [if_pos hv] at he
      by_cases h8:s.size≤8
      · exact ⟨hv,h8⟩
      · rw [if_neg h8] at he;cases he
    · rw [if_neg hv] at he;cases he
   have hs1:(smallS s).1=num s:=by unfold smallS;rw [if_pos hv.1,if_pos hv.2]
   have HU:=Lib.hid (fun w=>r04_U8 s w hv.2);have hn:=natSmall_bound s hv.2;have HI:=Lib.hid (fun w=>r04_IsU ((num s-1)/2) w (by omega));rw [he,hs1] at hr hp;rw [hp] at HP
   have hbig:isS (num s)=true→2≤num s:=fun h=>by
    rcases Nat.lt_or_ge (num s) 2 with h2|h2
    · rw [isS_small h2] at h;cases h
    · exact h2
   have HR:=Lib.hid hr;have HN:=Lib.hid hn;generalize num s=n at *
   cases hi:isS n
   · rw [hi] at HR HP
     clear hr hp hn hbig he hv hs1 hi
     go_enter Tryz.func127, Tryz.ntmps127
     go_wp2_with (first|(go_at_call 31;refine (HP.out _).mono ?_;rintro e w' ⟨rfl,hb1⟩)|(go_at_call 76;refine (HU.out _).mono ?_;rintro e w' ⟨rfl,rfl⟩));go_ret2;exact ⟨ret_be (by rw [HR.out];rfl) (by rw [HR.out]),hb1⟩
   · have h2:=hbig hi
     rw [hi] at HR HP;obtain ⟨N,hN⟩:∃ N,n-1=N:=⟨_,rfl⟩;have eN:((n:Int)-1)=(N:Int):=by omega
     have wN:IntKind.u64.wrap (N:Int)=(N:Int):=by rw [IntKind.wrap_u64];omega
     have hq:=u64_quo N 2 (by omega);have hq2:((N:Int)/2)=((N/2:Nat):Int):=by simp
     have wq:IntKind.u64.wrap ((N/2:Nat):Int)=((N/2:Nat):Int):=by rw [← hq2];exact hq
     rw [hN] at HI HR;generalize N/2=M at *
     clear hr hp hn hbig he hv hs1 hi hq h2 hN
     go_enter Tryz.func127, Tryz.ntmps127
     go_wp2_with (first|(go_at_call 31;refine (HP.out _).mono ?_;rintro e w' ⟨rfl,hb1⟩)|(go_at_call 76;refine (HU.out _).mono ?_;rintro e w' ⟨rfl,rfl⟩)|(go_at_call 77;refine (HI.out _).mono ?_;rintro e w' ⟨rfl,hb2⟩));go_ret2;exact ⟨ret_be (by rw [HR.out];rfl) (by rw [HR.out]),below2 hb1 hb2⟩
 · rw [decide_eq_false he] at hr hp
   rw [hp] at HP;have HR:=Lib.hid hr;generalize (smallS s).2=er at *
   have B1:(er != 0)=true:=by rw [bne_iff_ne];exact he
   clear hr hp he
   go_enter Tryz.func127, Tryz.ntmps127
   go_wp2_with (first|(go_at_call 31;refine (HP.out _).mono ?_;rintro e w' ⟨rfl,hb1⟩));go_ret2;exact ⟨ret_be (by rw [HR.out];rfl) (by rw [HR.out]),hb1⟩
end Go.Proofs.YtiacajjpkncomaaGreatDoor
namespace Go.Proofs.YtiacajjpkncomaaGreatDoor
open Go.RowKit
set_option maxRecDepth 100000
set_option linter.unusedVariables false
set_option maxHeartbeats 400000
theorem r10_Good (m o:ByteArray) (w:World) (sm:m.size≤100000) :
  Calls Tryz.prog 152 #[.agg #[.string m,.string o]] w fun e w'=>e=.returned (.bool (goodS m o))∧Below w.heap.size w w':=by
 have hr:goodS m o=(valid m&&o.toList.isEmpty&&natBit m 0&&decide (0<natCmp m (B 8))):=rfl;have HR:=Lib.hid hr;clear hr
 cases h1:valid m
 · go_enter Tryz.func152, Tryz.ntmps152
   go_wp2_with fail;go_quiet ((go_at_call 62;exact quiet_of_eq (r01_Valid _ _)));go_wp2_with fail;go_ret;exact ⟨ret_bool (by rw [HR.out,h1];rfl),below_drewN ((Below.refl _ _).alloc (Nat.le_refl _) _) _⟩
 · cases h2:o.toList.isEmpty
   · go_enter Tryz.func152, Tryz.ntmps152
     go_wp2_with fail;go_quiet ((go_at_call 62;exact quiet_of_eq (r01_Valid _ _)));go_wp2_with fail;go_ret;exact ⟨ret_bool (by rw [HR.out,h1,h2];rfl),below_drewN ((Below.refl _ _).alloc (Nat.le_refl _) _) _⟩
   · cases h3:natBit m 0
     · go_enter Tryz.func152, Tryz.ntmps152
       go_wp2_with fail;go_quiet ((first|(go_at_call 62;exact quiet_of_eq (r01_Valid _ _))|(go_at_call 65;exact quiet_of_eq (r01_Bit m 0 0 _ rfl (by omega)))));go_wp2_with fail;go_ret;exact ⟨ret_bool (by rw [HR.out,h1,h2,h3];rfl),below_drewN ((Below.refl _ _).alloc (Nat.le_refl _) _) _⟩
     · go_enter Tryz.func152, Tryz.ntmps152
       go_wp2_with fail;go_region_with (first|(go_at_call 62;refine (r01_Valid _ _).mono ?_;rintro e w' ⟨rfl,rfl⟩)|(go_at_call 65;refine (r01_Bit m 0 0 _ rfl (by omega)).mono ?_;rintro e w' ⟨rfl,rfl⟩)|(go_at_call 67;(with_reducible refine (r01_Of' 8 8 _ rfl (by decide)).mono ?_);rintro e w' ⟨rfl,hb1⟩;have hcw:=(bcell hb1).1)|(go_at_call 123;refine (r01_Cmp _ _ _).mono ?_;rintro e w2 ⟨rfl,hb2⟩))
       all_goals
        clear hcw;go_wp2_with fail;go_ret;exact ⟨ret_bool (by rw [HR.out,h1,h2,h3];rfl),below2 (((Below.refl w.heap.size w).alloc (Nat.le_refl _) _).drew.trans (hb1.mono (by simp))) hb2⟩
theorem r10_primes (p q:ByteArray) (w:World) :
  Calls Tryz.prog 70 #[.agg #[.string p,.string q]] w fun e w'=>e=.returned (.int .i64 (trapS p q))∧Below w.heap.size w w':=by
 have hr:trapS p q=if (safeS p).2≠0 then (safeS p).2 else if (safeS q).2≠0 then (safeS q).2 else if (safeS p).1&&((safeS q).1&&!(p.toList==q.toList)) then 0 else 12:=rfl
 have F0:=Lib.hid (show Below w.heap.size w (w.alloc (.cells #[.string p,.string q] 35)) from (Below.refl _ _).alloc (Nat.le_refl _) _);have hsp:=r04_Safe p;have hsq:=r04_Safe q;generalize (safeS p).1=a1 at *
 generalize (safeS p).2=e1 at *
 generalize (safeS q).1=a2 at *
 generalize (safeS q).2=e2 at *
 have HR:=Lib.hid hr;have HP:=Lib.hid hsp;have HQ:=Lib.hid hsq;clear hr hsp hsq;by_cases h1:e1=0
 · subst h1
   by_cases h2:e2=0
   · subst h2
     cases a1<;>cases a2<;>cases hpq:(p.toList==q.toList)
     all_goals
      go_enter Tryz.func70, Tryz.ntmps70
      go_wp2_with (first|(go_at_call 127;(with_reducible refine (HP.out _).mono ?_);rintro e w1 ⟨rfl,hb1⟩;have hcw1:=(bcell hb1).1;have hs1:=hb1.size;have hq1:w.heap.size<w1.heap.size:=by { simp at hs1;omega })|(go_at_call 127;(with_reducible refine (HQ.out _).mono ?_);rintro e w2 ⟨rfl,hb2⟩;have hcw2:=(bcell hb2).1));go_ret;exact ⟨ret_int (by rw [HR.out];simp [hpq]),below2 (below2 F0.out hb1) hb2⟩
   · have heb:(e2 != 0)=true:=by rw [bne_iff_ne];exact h2
     have HE:=Lib.hid h2;clear h2
     go_enter Tryz.func70, Tryz.ntmps70
     go_wp2_with (first|(go_at_call 127;(with_reducible refine (HP.out _).mono ?_);rintro e w1 ⟨rfl,hb1⟩;have hcw1:=(bcell hb1).1;have hs1:=hb1.size;have hq1:w.heap.size<w1.heap.size:=by { simp at hs1;omega })|(go_at_call 127;(with_reducible refine (HQ.out _).mono ?_);rintro e w2 ⟨rfl,hb2⟩;have hcw2:=(bcell hb2).1));go_ret;exact ⟨ret_int (by rw [HR.out,if_neg (by simp),if_pos HE.out]<;>rfl),below2 (below2 F0.out hb1) hb2⟩
 · have heb:(e1 != 0)=true:=by rw [bne_iff_ne];exact h1
   have HE:=Lib.hid h1;clear h1
   go_enter Tryz.func70, Tryz.ntmps70
   go_wp2_with (first|(go_at_call 127;(with_reducible refine (HP.out _).mono ?_);rintro e w1 ⟨rfl,hb1⟩;have hcw1:=(bcell hb1).1));go_ret;exact ⟨ret_int (by rw [HR.out,if_pos HE.out]<;>rfl),below2 F0.out hb1⟩
theorem r10_half (n:Nat) (w:World) (h:n<18446744073709551616) :
  Calls Tryz.prog 71 #[.string (B n)] w fun e w'=>e=.returned (.string (B (n/2)))∧Below w.heap.size w w':=by
 have H:=Lib.hid h;clear h
 go_enter Tryz.func71, Tryz.ntmps71
 go_wp2_with (first|(go_at_call 67;(with_reducible refine (r01_Of' 2 2 _ rfl (by decide)).mono ?_);rintro e w1 ⟨rfl,hb1⟩)|(go_at_call 32;(with_reducible refine (r01_DivMod8 n 2 _ H.out (by decide) (by decide)).mono ?_);rintro e w2 ⟨rfl,hb2⟩));go_ret;exact ⟨rfl,below2 hb1 hb2⟩
set_option maxHeartbeats 1600000 in
theorem r10_Order (p q:ByteArray) (w:World) :
  Calls Tryz.prog 28 #[.agg #[.string p,.string q]] w fun e w'=>e=.returned (.tuple #[.string (orderS p q).1,.int .i64 (orderS p q).2])∧Below w.heap.size w w':=by
 have hr:orderS p q=if valid p&&valid q then (if trapS p q=0 then natMul (B ((num p-1)/2)) (B ((num q-1)/2)) else (E0,trapS p q)) else (E0,3):=rfl
 have HR:=Lib.hid hr;clear hr;have F0:=Lib.hid (show Below w.heap.size w (w.alloc (.cells #[.string p,.string q] 35)) from (Below.refl _ _).alloc (Nat.le_refl _) _);by_cases hv:(valid p&&valid q)=true
 · have hv':=hv
   rw [Bool.and_eq_true] at hv';obtain ⟨v1,v2⟩:=hv';rw [if_pos hv] at HR;clear hv;by_cases ht:trapS p q=0
   · obtain ⟨hp,hq,_⟩:=trapS_zero ht
     obtain ⟨_,p2,p3,_,_⟩:=safeS_zero hp.1 hp.2;obtain ⟨_,q2,q3,_,_⟩:=safeS_zero hq.1 hq.2;rw [if_pos ht] at HR;have ep:=B_num v1;have eq:=B_num v2;have hmul:=r01_Mul (B ((num p-1)/2)) (B ((num q-1)/2));rw [← HR.out] at hmul;have HMUL:=Lib.hid hmul;have hhp:=fun w=>r10_half (num p) w p3
     have hhq:=fun w=>r10_half (num q) w q3
     have odp:=safeS_odd hp.1 hp.2;have odq:=safeS_odd hq.1 hq.2;rw [ep,show num p/2=(num p-1)/2 by omega] at hhp;rw [eq,show num q/2=(num q-1)/2 by omega] at hhq;have HHP:=Lib.hid hhp;have HHQ:=Lib.hid hhq;have hsf:=r10_primes p q;rw [ht] at hsf;have HSF:=Lib.hid hsf;clear hmul hhp hhq hsf ht hp hq p2 p3 q2 q3 ep eq odp odq
     go_enter Tryz.func28, Tryz.ntmps28
     go_wp2_with (first|(go_at_call 62;refine (r01_Valid _ _).mono ?_;rintro e w' ⟨rfl,rfl⟩)|(go_at_call 70;refine (HSF.out _).mono ?_;rintro e w1 ⟨rfl,hb1⟩;have hcw1:=(bcell hb1).1;have hs1:=hb1.size;have hq1:w.heap.size<w1.heap.size:=by { simp at hs1;omega }));have hcell1:w1.cell? ⟨w.heap.size,1,none⟩=some (.string q):=(hb1.cell (p:=⟨w.heap.size,1,none⟩) (by simp)).trans (by simp);have hcell0:w1.cell? ⟨w.heap.size,0,none⟩=some (.string p):=(hb1.cell (p:=⟨w.heap.size,0,none⟩) (by simp)).trans (by simp);clear hcw1;go_region_with (first|(go_at_call 71;(with_reducible refine (HHP.out _).mono ?_);rintro e w2 ⟨rfl,hb2⟩;have hcell2:w2.cell? ⟨w.heap.size,1,none⟩=some (.string q):=(hb2.cell (p:=⟨w.heap.size,1,none⟩) (by simpa using hq1)).trans hcell1)|(go_at_call 71;(with_reducible refine (HHQ.out _).mono ?_);rintro e w3 ⟨rfl,hb3⟩)|(go_at_call 69;refine (HMUL.out _).mono ?_;rintro e w4 ⟨rfl,hb4⟩))
     all_goals
      go_wp2_with fail;go_ret2;have b1:Below w.heap.size w w1:=below2 F0.out hb1;have b2:Below w.heap.size w w2:=below2 (Below.drew b1) hb2;have b3:Below w.heap.size w w3:=below2 b2 hb3;exact ⟨ret_se rfl rfl,below2 b3 hb4⟩
   · have hsf:=r10_primes p q
     have HSF:=Lib.hid hsf;have htb:(trapS p q != 0)=true:=by rw [bne_iff_ne];exact ht
     rw [if_neg ht] at HR;clear hsf ht
     go_enter Tryz.func28, Tryz.ntmps28
     go_wp2_with (first|(go_at_call 62;refine (r01_Valid _ _).mono ?_;rintro e w' ⟨rfl,rfl⟩)|(go_at_call 70;refine (HSF.out _).mono ?_;rintro e w1 ⟨rfl,hb1⟩));go_ret2;exact ⟨ret_se (by rw [HR.out]<;>rfl) (by rw [HR.out]<;>rfl),below2 F0.out hb1⟩
 · rw [if_neg hv] at HR
   cases v1:valid p
   · clear hv
     go_enter Tryz.func28, Tryz.ntmps28
     go_wp2_with (first|(go_at_call 62;refine (r01_Valid _ _).mono ?_;rintro e w' ⟨rfl,rfl⟩));go_ret2;exact ⟨ret_se (by rw [HR.out]<;>rfl) (by rw [HR.out]<;>rfl),F0.out⟩
   · cases v2:valid q
     · clear hv
       go_enter Tryz.func28, Tryz.ntmps28
       go_wp2_with (first|(go_at_call 62;refine (r01_Valid _ _).mono ?_;rintro e w' ⟨rfl,rfl⟩));go_ret2;exact ⟨ret_se (by rw [HR.out]<;>rfl) (by rw [HR.out]<;>rfl),F0.out⟩
     · exact absurd (by rw [v1,v2];rfl) hv
theorem r10_Has (m o x:ByteArray) (w:World) (sm:m.size≤8) :
  Calls Tryz.prog 125 #[.agg #[.string m,.string o],.string x] w fun e w'=>e=.returned (.bool (hasS m o x))∧Below w.heap.size w w':=by
 have hr:hasS m o x=(goodS m o&&valid x&&!x.toList.isEmpty&&decide (natCmp x m<0)&&decide (Nat.gcd (num x) (num m)=1)):=rfl;have HR:=Lib.hid hr;clear hr
 cases h1:goodS m o
 · go_enter Tryz.func125, Tryz.ntmps125
   go_wp2_with (first|(go_at_call 152;refine (r10_Good _ _ _ (by omega)).mono ?_;rintro e w1 ⟨rfl,hb1⟩;have hcw:=(bcell hb1).1;have hs1:=hb1.size;have hq1:w.heap.size<w1.heap.size:=by { simp at hs1;omega }));go_ret;exact ⟨ret_bool (by rw [HR.out,h1];rfl),below_box' hb1⟩
 · cases h2:valid x
   · go_enter Tryz.func125, Tryz.ntmps125
     go_wp2_with (first|(go_at_call 152;refine (r10_Good _ _ _ (by omega)).mono ?_;rintro e w1 ⟨rfl,hb1⟩;have hcw:=(bcell hb1).1;have hs1:=hb1.size;have hq1:w.heap.size<w1.heap.size:=by { simp at hs1;omega })|(go_at_call 62;refine (r01_Valid _ _).mono ?_;rintro e w' ⟨rfl,rfl⟩));go_ret;exact ⟨ret_bool (by rw [HR.out,h1,h2];rfl),below_box' hb1⟩
   · cases h3:x.toList.isEmpty
     · have hcm:=Lib.hid (fun h=>natCmp_neg h2 (goodS_valid h1) h)
       by_cases h4:natCmp x m<0
       · have hlt:=hcm.out h4
         have hm8:=natSmall_bound m sm;have ex:=B_num h2;have em:=B_num (goodS_valid h1);have H4:=Lib.hid h4;have hge:¬ 0≤natCmp x m:=by omega
         clear hcm;have HX:=Lib.hid ex;have HM:=Lib.hid em;have HL:=Lib.hid (Nat.lt_trans hlt hm8);have H8:=Lib.hid hm8;clear ex em hlt hm8
         go_enter Tryz.func125, Tryz.ntmps125
         go_wp2_with (first|(go_at_call 152;refine (r10_Good _ _ _ (by omega)).mono ?_;rintro e w1 ⟨rfl,hb1⟩;have hcw:=(bcell hb1).1;have hs1:=hb1.size;have hq1:w.heap.size<w1.heap.size:=by { simp at hs1;omega })|(go_at_call 62;refine (r01_Valid _ _).mono ?_;rintro e w' ⟨rfl,rfl⟩)|(go_at_call 123;refine (r01_Cmp _ _ _).mono ?_;rintro e w4 ⟨rfl,hb4⟩;have hcw4:=(bcell hb4).1;have hs4:=hb4.size;have hq5:w.heap.size<w4.heap.size:=by { omega })|(go_at_call 153;refine (r01_Gcd _ _ _ HX HM HL H8).mono ?_;rintro e w' ⟨rfl,hb2⟩)|(go_at_call 67;(with_reducible refine (r01_Of' 1 1 _ rfl (by decide)).mono ?_);rintro e w3 ⟨rfl,hb3⟩));go_ret;exact ⟨ret_bool (by rw [HR.out,h1,h2,h3,decide_eq_true H4.out,B_beq];rfl),below2 (below2 (below2 (below_box' hb1) hb4) hb2) hb3⟩
       · clear hcm
         have H4:=Lib.hid h4
         go_enter Tryz.func125, Tryz.ntmps125
         go_wp2_with (first|(go_at_call 152;refine (r10_Good _ _ _ (by omega)).mono ?_;rintro e w1 ⟨rfl,hb1⟩;have hcw:=(bcell hb1).1;have hs1:=hb1.size;have hq1:w.heap.size<w1.heap.size:=by { simp at hs1;omega })|(go_at_call 62;refine (r01_Valid _ _).mono ?_;rintro e w' ⟨rfl,rfl⟩)|(go_at_call 123;refine (r01_Cmp _ _ _).mono ?_;rintro e w4 ⟨rfl,hb4⟩;have hcw4:=(bcell hb4).1;have hs4:=hb4.size;have hq5:w.heap.size<w4.heap.size:=by { omega }));go_ret;exact ⟨ret_bool (by rw [HR.out,h1,h2,h3,decide_eq_false (show ¬ natCmp x m<0 by have:=H4.out;omega)];rfl),below2 (below_box' hb1) hb4⟩
     · go_enter Tryz.func125, Tryz.ntmps125
       go_wp2_with (first|(go_at_call 152;refine (r10_Good _ _ _ (by omega)).mono ?_;rintro e w1 ⟨rfl,hb1⟩;have hcw:=(bcell hb1).1;have hs1:=hb1.size;have hq1:w.heap.size<w1.heap.size:=by { simp at hs1;omega })|(go_at_call 62;refine (r01_Valid _ _).mono ?_;rintro e w' ⟨rfl,rfl⟩));go_ret;exact ⟨ret_bool (by rw [HR.out,h1,h2,h3];rfl),below_box' hb1⟩
theorem r01_Over (x y:Nat) (w:World) (hx:x<lim) (hy:y<lim) (h0:0<y) :
  Calls Tryz.prog 78 #[.string (B x),.string (B y)] w fun e w'=>e=.returned (.tuple #[.string (B (x/y)),.string (B (x%y))])∧Below w.heap.size w w':=by
 by_cases h8:(B x).size≤8∧(B y).size≤8
 · exact r01_Over8 x y w (B_size_le'.1 h8.1) (B_size_le'.1 h8.2) h0
 · exact r01_Over_long x y w hx hy h0 h8
theorem r01_DivMod (x y:Nat) (w:World) (hx:x<lim) (hy:y<lim) (h0:0<y) :
  Calls Tryz.prog 32 #[.string (B x),.string (B y)] w fun e w'=>e=.returned (.tuple #[.string (B (x/y)),.string (B (x%y)),.int .i64 0])∧Below w.heap.size w w':=by
 have va:=valid_B hx;have vb:=valid_B hy;have he:=B_isEmpty_false (n:=y) (by omega);have HC:=Lib.hid (fun w=>r01_Over x y w hx hy h0);clear hx hy
 go_enter Tryz.func32, Tryz.ntmps32
 go_wp2_with (first|(go_at_call 62;refine (r01_Valid _ _).mono ?_;rintro e w' ⟨rfl,rfl⟩)|(go_at_call 78;refine (HC.out _).mono ?_;rintro e w' ⟨rfl,hb1⟩));go_ret3;exact ⟨rfl,hb1⟩
theorem r03_Mod (x y:Nat) (w:World) (hx:x<lim) (hy:y<lim) (h0:0<y) :
  Calls Tryz.prog 193 #[.string (B x),.string (B y)] w fun e w'=>e=.returned (.string (B (x%y)))∧Below w.heap.size w w':=by
 have HC:=Lib.hid (fun w=>r01_DivMod x y w hx hy h0);clear hx hy
 go_enter Tryz.func193, Tryz.ntmps193
 go_wp2_with (first|(go_at_call 32;refine (HC.out _).mono ?_;rintro e w' ⟨rfl,hb1⟩));go_ret;exact ⟨rfl,hb1⟩
theorem r03_check (ls:List ByteArray) (n g:Nat) (w:World) (hn:ls.length=n) (h0:0<n) (hm:n≤1000) (hrow:SRow w g ls) (hv:∀ j,j<n→valid (ls.getD j ByteArray.empty)=true) (hl:(ls.getD (n-1) ByteArray.empty).toList.isEmpty=false) :
  Calls Tryz.prog 177 #[.slice (some ⟨g,0,none⟩) n n] w fun e w'=>e=.returned (.int .i64 0)∧w=w':=by
 have HN:=Lib.hid hn;have HR:=Lib.hid hrow;have HV:=Lib.hid hv;have HL:=Lib.hid hl;clear hn hrow hv hl
 go_enter Tryz.func177, Tryz.ntmps177
 go_wp2;go_loop [3] (fun c=>∃ k:Nat,k≤n∧c=.int .i64 k) (fun c=>n-(intOf c).toNat)
 case atStart=>exact ⟨0,by omega,rfl⟩
 case round =>
  obtain ⟨k,hk,rfl⟩:=hrel;by_cases hlt:k<n
  · have hc:=HR.out k (by have:=HN.out;omega)
    have hvk:=HV.out k hlt;obtain ⟨s,hs⟩:∃ s,ls.getD k ByteArray.empty=s:=⟨_,rfl⟩;rw [hs] at hc hvk;clear hs;go_wp2_with (first|(go_at_call 62;refine (r01_Valid _ _).mono ?_;rintro e w' ⟨rfl,rfl⟩));go_round
    case rel=>exact ⟨k+1,by omega,by go_num⟩
    case measure=>simp [intOf];omega
  · obtain rfl:k=n:=by omega
    have hc:=HR.out (k-1) (by have:=HN.out;omega);have hle:=HL.out;obtain ⟨s,hs⟩:∃ s,ls.getD (k-1) ByteArray.empty=s:=⟨_,rfl⟩;rw [hs] at hc hle;clear hs;obtain ⟨i,rfl⟩:∃ i,k=i+1:=⟨k-1,by omega⟩;have ei:IntKind.i64.wrap (((i+1:Nat):Int)-1)=(i:Int):=by rw [IntKind.wrap_i64];omega
    have ei2:(((i+1:Nat):Int)-1)=(i:Int):=by omega
    have ei3:((i:Int)+1-1)=(i:Int):=by omega
    rw [Nat.add_sub_cancel] at hc;go_wp2;go_ret;exact ⟨rfl,rfl⟩
end Go.Proofs.YtiacajjpkncomaaGreatDoor
namespace Go.Proofs.YtiacajjpkncomaaGreatDoor
open Go.RowKit
set_option maxRecDepth 100000
set_option linter.unusedVariables false
set_option maxHeartbeats 1000000
theorem r03_times_small2 (x y a b m:Nat) (w:World) (hxa:x%m=a) (hyb:y%m=b) (hx:x<lim) (hy:y<lim) (ha:a<m) (hb:b<m) (hm:m<2147483648) :
  Calls Tryz.prog 194 #[.string (B x),.string (B y),.string (B m)] w fun e w'=>e=.returned (.string (B (a*b%m)))∧Below w.heap.size w w':=by
 have hp:a*b<18446744073709551616:=by
  have:=Nat.mul_le_mul (show a≤4294967295 by omega) (show b≤4294967295 by omega);omega
 have HMa:=Lib.hid (fun w=>hxa ▸ r03_Mod x m w hx (u64_lt_lim (by omega)) (by omega));have HMb:=Lib.hid (fun w=>hyb ▸ r03_Mod y m w hy (u64_lt_lim (by omega)) (by omega))
 have hsm:∀ (n:Nat),n<2147483648→natSmall (B n)=(n,true):=fun n hn=>by
  unfold natSmall;rw [valid_B (u64_lt_lim (by omega)),num_B];have:(B n).size≤8:=B_size_le'.2 (by omega);simp [this]
 have HS:∀ (n:Nat),n<2147483648→∀ w,Calls Tryz.prog 201 #[.string (B n)] w fun e w'=>e=.returned (.tuple #[.int .u64 (n:Nat),.bool true])∧w=w':=fun n hn w=>by
  have:=r01_Small (B n) w
  rwa [hsm n hn] at this
 have HSm:=Lib.hid (HS m hm);have HSa:=Lib.hid (HS a (by omega));have HSb:=Lib.hid (HS b (by omega));obtain ⟨p,hpp⟩:∃ p,a*b=p:=⟨_,rfl⟩;have ep:((a:Int)*(b:Int))=(p:Int):=by rw [← hpp,Int.natCast_mul]
 have wp:IntKind.u64.wrap (p:Int)=(p:Int):=by rw [IntKind.wrap_u64];omega
 rw [hpp];have hm0:0<m:=by omega
 have k1:decide ((m:Int)<2147483648)=true:=by simp;omega
 obtain ⟨R,hR⟩:∃ R,p%m=R:=⟨_,rfl⟩;have er:((p:Int)%(m:Int))=(R:Int):=by rw [← hR];simp
 have er2:((p:Int).tmod (m:Int))=(R:Int):=by rw [Int.tmod_eq_emod_of_nonneg (by omega)];exact er
 have hRl:R<18446744073709551616:=by rw [← hR];have:=Nat.mod_lt p hm0;omega
 rw [hR];have HOF:=Lib.hid (fun w=>r01_Of R w hRl);clear hp hpp ha hb hm hR HS hsm hRl hxa hyb hx hy
 go_enter Tryz.func194, Tryz.ntmps194
 go_wp2_with (first|(go_at_call 201;(with_reducible refine (HSm.out _).mono ?_);rintro e w' ⟨rfl,rfl⟩)|(go_at_call 193;(with_reducible refine (HMa.out _).mono ?_);rintro e w1 ⟨rfl,hb1⟩)|(go_at_call 201;(with_reducible refine (HSa.out _).mono ?_);rintro e w' ⟨rfl,rfl⟩)|(go_at_call 193;(with_reducible refine (HMb.out _).mono ?_);rintro e w2 ⟨rfl,hb2⟩)|(go_at_call 201;(with_reducible refine (HSb.out _).mono ?_);rintro e w' ⟨rfl,rfl⟩)|(go_at_call 67;(with_reducible refine (HOF.out _).mono ?_);rintro e w3 ⟨rfl,hb3⟩));go_ret;exact ⟨rfl,below2 (below2 hb1 hb2) hb3⟩
theorem r03_times_great2 (x y a b m:Nat) (w:World) (hxa:x%m=a) (hyb:y%m=b) (hx:x<lim) (hy:y<lim) (ha:a<m) (hb:b<m) (hm:m<18446744073709551616) (hg:2147483648≤m) :
  Calls Tryz.prog 194 #[.string (B x),.string (B y),.string (B m)] w fun e w'=>e=.returned (.string (B (a*b%m)))∧Below w.heap.size w w':=by
 have HMa:=Lib.hid (fun w=>hxa ▸ r03_Mod x m w hx (u64_lt_lim hm) (by omega));have HMb:=Lib.hid (fun w=>hyb ▸ r03_Mod y m w hy (u64_lt_lim hm) (by omega))
 have hsm:natSmall (B m)=(m,true):=by
  unfold natSmall;rw [valid_B (u64_lt_lim hm),num_B];have:(B m).size≤8:=B_size_le'.2 hm;simp [this]
 have HSm:Hid (∀ w,Calls Tryz.prog 201 #[.string (B m)] w fun e w'=>e=.returned (.tuple #[.int .u64 (m:Nat),.bool true])∧w=w'):=Lib.hid (fun w=>by
  have:=r01_Small (B m) w
  rwa [hsm] at this)
 have hp:a*b<lim:=by
  have h1:a*b≤18446744073709551616*18446744073709551616:=Nat.mul_le_mul (by omega) (by omega);exact Nat.lt_of_le_of_lt h1 (by decide)
 have hmul:natMul (B a) (B b)=(B (a*b),0):=by
  unfold natMul;rw [valid_B (u64_lt_lim (by omega)),valid_B (u64_lt_lim (by omega)),num_B,num_B];unfold fitted;simp [hp]
 have HMUL:Hid (∀ w,Calls Tryz.prog 69 #[.string (B a),.string (B b)] w fun e w'=>e=.returned (.tuple #[.string (B (a*b)),.int .i64 0])∧Below w.heap.size w w'):=Lib.hid (fun w=>by
  have:=r01_Mul (B a) (B b) w
  rwa [hmul] at this)
 have HMp:=Lib.hid (fun w=>r03_Mod (a*b) m w hp (u64_lt_lim hm) (by omega));have k1:decide ((m:Int)<2147483648)=false:=by simp;omega
 clear hmul hp hsm ha hb hm hg hxa hyb hx hy;generalize a*b%m=R at *
 generalize a*b=p at *
 go_enter Tryz.func194, Tryz.ntmps194
 go_wp2_with (first|(go_at_call 201;(with_reducible refine (HSm.out _).mono ?_);rintro e w' ⟨rfl,rfl⟩)|(go_at_call 193;(with_reducible refine (HMa.out _).mono ?_);rintro e w1 ⟨rfl,hb1⟩)|(go_at_call 193;(with_reducible refine (HMb.out _).mono ?_);rintro e w2 ⟨rfl,hb2⟩)|(go_at_call 69;(with_reducible refine (HMUL.out _).mono ?_);rintro e w3 ⟨rfl,hb3⟩)|(go_at_call 193;(with_reducible refine (HMp.out _).mono ?_);rintro e w4 ⟨rfl,hb4⟩));go_ret;exact ⟨rfl,below2 (below2 (below2 hb1 hb2) hb3) hb4⟩
theorem r03_times2 (x y m:Nat) (w:World) (hx:x<lim) (hy:y<lim) (h0:0<m) (hm:m<18446744073709551616) :
  Calls Tryz.prog 194 #[.string (B x),.string (B y),.string (B m)] w fun e w'=>e=.returned (.string (B (x*y%m)))∧Below w.heap.size w w':=by
 rw [Nat.mul_mod];by_cases h:m<2147483648
 · exact r03_times_small2 x y (x%m) (y%m) m w rfl rfl hx hy (Nat.mod_lt _ h0) (Nat.mod_lt _ h0) h
 · exact r03_times_great2 x y (x%m) (y%m) m w rfl rfl hx hy (Nat.mod_lt _ h0) (Nat.mod_lt _ h0) hm (by omega)
theorem r01_Bits (s:ByteArray) (w:World) (hv:valid s=true) :
  Calls Tryz.prog 129 #[.string s] w fun e w'=>e=.returned (.int .i64 (natBits s))∧w=w':=by
 have HB:=Lib.hid (fun w=>r01_bits s w hv);have hva:=fun w=>r01_Valid s w
 rw [hv] at hva;have HVA:=Lib.hid hva;clear hva hv
 go_enter Tryz.func129, Tryz.ntmps129
 go_wp2_with (first|(go_at_call 62;(with_reducible refine (HVA.out _).mono ?_);rintro e w' ⟨rfl,rfl⟩)|(go_at_call 121;(with_reducible refine (HB.out _).mono ?_);rintro e w' ⟨rfl,rfl⟩));go_ret;exact ⟨rfl,rfl⟩
theorem r03_raise (a m:Nat) (s:ByteArray) (w:World) (ha:a<lim) (hm:m<18446744073709551616) (h0:0<m) (hv:valid s=true) :
  Calls Tryz.prog 178 #[.string (B a),.string s,.string (B m)] w fun e w'=>e=.returned (.string (B (a^num s%m)))∧Below w.heap.size w w':=by
 have HMO:=Lib.hid (fun w=>r03_Mod 1 m w (u64_lt_lim (by decide)) (u64_lt_lim hm) h0);have HTT:=Lib.hid (fun y w (hy:y<m)=>r03_times2 y y m w (u64_lt_lim (Nat.lt_trans hy hm)) (u64_lt_lim (Nat.lt_trans hy hm)) h0 hm);have HTA:=Lib.hid (fun y w (hy:y<m)=>r03_times2 y a m w (u64_lt_lim (Nat.lt_trans hy hm)) ha h0 hm);have hpa:=powL_all a m s hv;have hpl:=powL_lt (a%m) m h0;have hnb:=natBits_le hv;obtain ⟨nb,hNB⟩:∃ nb,natBits s=nb:=⟨_,rfl⟩;have hbits:=fun w=>r01_Bits s w hv
 rw [hNB] at hbits hnb;have HBITS:=Lib.hid hbits;have HNB:=Lib.hid hNB;obtain ⟨R,hR⟩:∃ R,a^num s%m=R:=⟨_,rfl⟩;rw [hR] at hpa ⊢;have HPA:=Lib.hid hpa;have HPL:=Lib.hid hpl;have HAM:=Lib.hid (fun y:Nat=>show y*a%m=y*(a%m)%m by rw [Nat.mul_mod y a m,Nat.mul_mod y (a%m) m,Nat.mod_mod]);have HMP:=Lib.hid h0;clear hpa hpl hbits hNB hR ha hm h0 hv
 go_enter Tryz.func178, Tryz.ntmps178
 go_wp2_with (first|(go_at_call 67;(with_reducible refine (r01_Of' 1 1 _ rfl (by decide)).mono ?_);rintro e w1 ⟨rfl,hb1⟩)|(go_at_call 193;(with_reducible refine (HMO.out _).mono ?_);rintro e w2 ⟨rfl,hb2⟩)|(go_at_call 129;(with_reducible refine (HBITS.out _).mono ?_);rintro e w' ⟨rfl,rfl⟩));have HBB:=Lib.hid (below2 hb1 hb2);clear hb1 hb2;go_loopw [7,8] (fun v7 v8 wr=>∃ (k y:Nat) (z:Int),v7=.string (B y)∧v8=.int .i64 z∧z=(nb:Int)-1-k∧k≤nb∧y=powL (a%m) m ((bitsL s).take k)∧Below w.heap.size w wr) (fun _ v8 _=>(intOf v8+1).toNat)
 case atStart=>exact ⟨0,1%m,(nb:Int)-1,rfl,rfl,by omega,by omega,by rw [List.take_zero];rfl,HBB.out⟩
 case round =>
  obtain ⟨k,y,z,rfl,rfl,hz,hk,hy,hbel⟩:=hrel;have HZ:=Lib.hid hz;have HY:=Lib.hid hy;have HYM:=Lib.hid (show y<m by rw [hy];exact HPL.out _);have HBE:=Lib.hid hbel;clear hz hy hbel;by_cases hlt:k<nb
  · have hz0:0≤z:=by have:=HZ.out;omega
    have hz1:z≤2000:=by have:=HZ.out;omega
    obtain ⟨i,hi⟩:∃ i:Nat,nb-1-k=i:=⟨_,rfl⟩;have HI:=Lib.hid (show z=(i:Int) by have:=HZ.out;omega);have HI2:=Lib.hid (show i≤100000 by omega);have hst:=bitsL_take_succ s k (by rw [HNB.out];exact hlt);rw [HNB.out,hi] at hst;have hsn:=powL_snoc (a%m) m ((bitsL s).take k) (natBit s i);rw [← hst,← HY.out] at hsn;have HSN:=Lib.hid hsn;have HLT:=Lib.hid hlt;obtain ⟨Q,hQ⟩:∃ Q,y*y%m=Q:=⟨_,rfl⟩;have HQM:=Lib.hid (show Q<m by rw [← hQ];exact Nat.mod_lt _ HMP.out);have HT1:=Lib.hid (fun w=>hQ ▸ HTT.out y w HYM.out);have HT2:=Lib.hid (fun w=>HTA.out Q w HQM.out);have HQQ:=Lib.hid hQ;obtain ⟨S,hS⟩:∃ S,Q*a%m=S:=⟨_,rfl⟩;rw [hS] at HT2;have HSS:=Lib.hid hS;clear hst hsn hi hlt hQ hS
    cases hbit:natBit s i
    · have HB:=Lib.hid hbit
      clear hbit;go_wp2_with (first|(go_at_call 194;(with_reducible refine (HT1.out _).mono ?_);rintro e w5 ⟨rfl,hb5⟩)|(go_at_call 65;(with_reducible refine (r01_Bit s _ i _ HI.out HI2.out).mono ?_);rw [HB.out];rintro e w' ⟨rfl,rfl⟩));go_roundw
      case rel=>exact ⟨k+1,Q,z-1,rfl,rfl,by have:=HZ.out;omega,by have:=HLT.out;omega,by rw [HSN.out,HB.out,← HQQ.out];rfl,below2 HBE.out hb5⟩
      case measure=>simp only [intOf];omega
    · have HB:=Lib.hid hbit
      clear hbit;go_wp2_with (first|(go_at_call 194;(with_reducible refine (HT1.out _).mono ?_);rintro e w5 ⟨rfl,hb5⟩)|(go_at_call 65;(with_reducible refine (r01_Bit s _ i _ HI.out HI2.out).mono ?_);rw [HB.out];rintro e w' ⟨rfl,rfl⟩)|(go_at_call 194;(with_reducible refine (HT2.out _).mono ?_);rintro e w6 ⟨rfl,hb6⟩));go_roundw
      case rel=>exact ⟨k+1,S,z-1,rfl,rfl,by have:=HZ.out;omega,by have:=HLT.out;omega,by rw [HSN.out,HB.out,← HSS.out,HAM.out,← HQQ.out];rfl,below2 (below2 HBE.out hb5) hb6⟩
      case measure=>simp only [intOf];omega
  · have hz0:z=-1:=by have:=HZ.out;omega
    subst hz0;go_wp2_with fail;go_ret;have hk':(bitsL s).take k=bitsL s:=by rw [List.take_of_length_le];rw [bitsL_length,HNB.out];have:=HZ.out;omega
    exact ⟨ret_string (by rw [HY.out,hk',HPA.out]),HBE.out⟩
theorem r03_Exp (a m:Nat) (s:ByteArray) (w:World) (ha:a<lim) (hm:m<18446744073709551616) (h0:0<m) (hv:valid s=true) :
  Calls Tryz.prog 151 #[.string (B a),.string s,.string (B m)] w fun e w'=>e=.returned (.tuple #[.string (B (a^num s%m)),.int .i64 0])∧Below w.heap.size w w':=by
 have hrow:=SRow.new w 22 [B a,s,B m]
 have HCK:=Lib.hid (r03_check [B a,s,B m] 3 w.heap.size (w.alloc (.cells #[.string (B a),.string s,.string (B m)] 22)) rfl (by decide) (by decide) hrow
  (fun j hj=>by
   rcases j with _|_|_|j
   · exact valid_B ha
   · exact hv
   · exact valid_B (u64_lt_lim hm)
   · omega)
  (B_isEmpty_false (by omega)))
 have HR:=Lib.hid (fun w=>r03_raise a m s w ha hm h0 hv);clear hrow ha hm h0 hv;generalize a^num s%m=R at *
 go_enter Tryz.func151, Tryz.ntmps151
 go_wp2_with (first|(go_at_call 177;(with_reducible refine HCK.out.mono ?_);rintro e w' ⟨rfl,rfl⟩)|(go_at_call 178;(with_reducible refine (HR.out _).mono ?_);rintro e w1 ⟨rfl,hb1⟩));go_ret2;exact ⟨rfl,below_box' hb1⟩
end Go.Proofs.YtiacajjpkncomaaGreatDoor
namespace Go.Proofs.YtiacajjpkncomaaGreatDoor
open Go.RowKit
set_option maxRecDepth 100000
set_option linter.unusedVariables false
set_option maxHeartbeats 1000000
theorem r09_form (m o:ByteArray) (w:World) :
  Calls Tryz.prog 118 #[.agg #[.string m,.string o]] w fun e w'=>e=.returned (.bool (valid m&&valid o))∧Below w.heap.size w w':=by
 have HS:=Lib.hid (GrAt.box w m o 26)
 cases h1:valid m<;>cases h2:valid o
 all_goals
  go_enter Tryz.func118, Tryz.ntmps118
  go_wp2_with (first|(go_at_call 62;refine (r01_Valid _ _).mono ?_;rintro e w' ⟨rfl,rfl⟩));go_ret;exact ⟨rfl,HS.out.below⟩
theorem r01_Order_valid (a b:ByteArray) (w:World) (ha:valid a=true) (hb:valid b=true) :
  Calls Tryz.prog 133 #[.string a,.string b] w fun e w'=>e=.returned (.int .i64 (natCmp a b))∧Below w.heap.size w w':=by
 have h:=r01_Order (num a) (num b) w (by rw [B_num ha];have:=valid_size ha;omega) (by rw [B_num hb];have:=valid_size hb;omega);rw [B_num ha,B_num hb] at h;unfold natCmp;rw [ha,hb];exact h
theorem r09_Has (m o x:ByteArray) (w:World) (sm:m.size≤8) :
  Calls Tryz.prog 120 #[.agg #[.string m,.string o],.string x] w fun e w'=>e=.returned (.bool (pgHas m o x))∧Below w.heap.size w w':=by
 have hr:pgHas m o x=(valid m&&(valid o&&(valid x&&(!o.toList.isEmpty&&(!x.toList.isEmpty&&(decide (natCmp x m<0)&&decide (num x^num o%num m=1%num m))))))):=rfl;have HR:=Lib.hid hr;have HS:=Lib.hid (GrAt.box w m o 26);have hfo:=fun w=>r09_form m o w
 clear hr
 cases h1:(valid m&&valid o)
 · rw [h1] at hfo
   have HFO:=Lib.hid hfo;have HF:Hid (pgHas m o x=false):=Lib.hid (by rw [HR.out,← Bool.and_assoc,h1];rfl);clear hfo h1
   go_enter Tryz.func120, Tryz.ntmps120
   go_wp2_with (first|(go_at_call 118;(with_reducible refine (HFO.out _).mono ?_);rintro e w1 ⟨rfl,hb1⟩;have n1:=HS.out.next hb1;have p1:=n1.c0;have q1:=n1.c1;have H1:=Lib.hid n1;clear n1 hb1));go_ret;exact ⟨ret_bool HF.out.symm,H1.out.below⟩
 · rw [h1] at hfo
   have HFO:=Lib.hid hfo;have h1':=h1;rw [Bool.and_eq_true] at h1';obtain ⟨vm,vo⟩:=h1';have HVM:=Lib.hid vm;have HVO:=Lib.hid vo;have HR2:Hid (pgHas m o x=(valid x&&(!o.toList.isEmpty&&(!x.toList.isEmpty&&(decide (natCmp x m<0)&&decide (num x^num o%num m=1%num m)))))):=Lib.hid (by rw [HR.out,vm,vo];rfl);clear hfo h1 vm vo HR
   cases h2:valid x
   · go_enter Tryz.func120, Tryz.ntmps120
     go_wp2_with (first|(go_at_call 118;(with_reducible refine (HFO.out _).mono ?_);rintro e w1 ⟨rfl,hb1⟩;have n1:=HS.out.next hb1;have p1:=n1.c0;have q1:=n1.c1;have H1:=Lib.hid n1;clear n1 hb1)|(go_at_call 62;refine (r01_Valid _ _).mono ?_;rintro e w' ⟨rfl,rfl⟩));go_ret;exact ⟨ret_bool (by rw [HR2.out,h2];rfl),H1.out.below⟩
   · cases h3:o.toList.isEmpty
     · cases h4:x.toList.isEmpty
       · obtain ⟨cv,hcv⟩:∃ cv,natCmp x m=cv:=⟨_,rfl⟩
         have hcm:=fun w=>r01_Order_valid x m w h2 HVM.out
         have hcn:=fun h=>natCmp_neg h2 HVM.out h
         rw [hcv] at hcm HR2 hcn;have HCMP:=Lib.hid hcm;have H8:=u64_of_size sm;clear hcm hcv;by_cases h5:cv<0
         · have hlt:=hcn h5
           have k1:decide (0≤cv)=false:=decide_eq_false (by omega);have h0:0<num m:=by omega
           have hx0:num x≠0:=by
            intro h0;rw [← B_num h2,h0,B_isEmpty_true] at h4
            cases h4
           have e1:=fun w=>r03_Exp (num x) (num m) o w (u64_lt_lim (by omega)) H8 h0 HVO.out
           rw [B_num h2,B_num HVM.out] at e1;have HE1:=Lib.hid e1;have kb:=B_beq1 (num x^num o%num m);have HR3:Hid (pgHas m o x=decide (num x^num o%num m=1)):=Lib.hid (by rw [HR2.out,h2,h3,h4,decide_eq_true h5,Nat.mod_eq_of_lt (show 1<num m by omega)];rfl);generalize num x^num o%num m=P at *
           clear e1 hcn hlt h0 H8 h5 hx0
           go_enter Tryz.func120, Tryz.ntmps120
           go_wp2_with (first|(go_at_call 118;(with_reducible refine (HFO.out _).mono ?_);rintro e w1 ⟨rfl,hb1⟩;have n1:=HS.out.next hb1;have p1:=n1.c0;have q1:=n1.c1;have H1:=Lib.hid n1;clear n1 hb1)|(go_at_call 62;refine (r01_Valid _ _).mono ?_;rintro e w' ⟨rfl,rfl⟩)|(go_at_call 133;(with_reducible refine (HCMP.out _).mono ?_);rintro e w2 ⟨rfl,hb2⟩;have n2:=H1.out.next hb2;have p2:=n2.c0;have q2:=n2.c1;have H2:=Lib.hid n2;clear n2 hb2)|(go_at_call 151;(with_reducible refine (HE1.out _).mono ?_);rintro e w3 ⟨rfl,hb3⟩;have n3:=H2.out.next hb3;have H3:=Lib.hid n3;clear n3 hb3));go_ret;exact ⟨ret_bool HR3.out.symm,H3.out.below⟩
         · have k1:decide (0≤cv)=true:=decide_eq_true (by omega)
           have HF:Hid (pgHas m o x=false):=Lib.hid (by rw [HR2.out,h2,h3,h4,decide_eq_false h5];rfl);clear h5 hcn
           go_enter Tryz.func120, Tryz.ntmps120
           go_wp2_with (first|(go_at_call 118;(with_reducible refine (HFO.out _).mono ?_);rintro e w1 ⟨rfl,hb1⟩;have n1:=HS.out.next hb1;have p1:=n1.c0;have q1:=n1.c1;have H1:=Lib.hid n1;clear n1 hb1)|(go_at_call 62;refine (r01_Valid _ _).mono ?_;rintro e w' ⟨rfl,rfl⟩)|(go_at_call 133;(with_reducible refine (HCMP.out _).mono ?_);rintro e w2 ⟨rfl,hb2⟩;have n2:=H1.out.next hb2;have p2:=n2.c0;have q2:=n2.c1;have H2:=Lib.hid n2;clear n2 hb2));go_ret;exact ⟨ret_bool HF.out.symm,H2.out.below⟩
       · go_enter Tryz.func120, Tryz.ntmps120
         go_wp2_with (first|(go_at_call 118;(with_reducible refine (HFO.out _).mono ?_);rintro e w1 ⟨rfl,hb1⟩;have n1:=HS.out.next hb1;have p1:=n1.c0;have q1:=n1.c1;have H1:=Lib.hid n1;clear n1 hb1)|(go_at_call 62;refine (r01_Valid _ _).mono ?_;rintro e w' ⟨rfl,rfl⟩));go_ret;exact ⟨ret_bool (by rw [HR2.out,h2,h3,h4];rfl),H1.out.below⟩
     · go_enter Tryz.func120, Tryz.ntmps120
       go_wp2_with (first|(go_at_call 118;(with_reducible refine (HFO.out _).mono ?_);rintro e w1 ⟨rfl,hb1⟩;have n1:=HS.out.next hb1;have p1:=n1.c0;have q1:=n1.c1;have H1:=Lib.hid n1;clear n1 hb1)|(go_at_call 62;refine (r01_Valid _ _).mono ?_;rintro e w' ⟨rfl,rfl⟩));go_ret;exact ⟨ret_bool (by rw [HR2.out,h2,h3];rfl),H1.out.below⟩
end Go.Proofs.YtiacajjpkncomaaGreatDoor
