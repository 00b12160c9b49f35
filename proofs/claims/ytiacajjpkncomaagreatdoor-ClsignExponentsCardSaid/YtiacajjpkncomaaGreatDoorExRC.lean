/- The walks of the reference's package 06 (coins): Decimal, canonical, Good. The walk of the reference's package 06 (coins): attempt. The walks of the reference's package 06 (coins): draw. The walks of the reference's package 06 (coins): Below, Same. -/
import Derived.Test.YtiacajjpkncomaaGreatDoorExRH
import Derived.Test.YtiacajjpkncomaaGreatDoorExJ1
import Derived.Test.YtiacajjpkncomaaGreatDoorExRA
import Derived.Test.YtiacajjpkncomaaGreatDoorExJ5
import Derived.Test.YtiacajjpkncomaaGreatDoorExJ3
import Derived.Test.YtiacajjpkncomaaGreatDoorExZM4
import Derived.Deep.DeepCutAuto
import Derived.Deep.CutBlock
namespace Go.Proofs.YtiacajjpkncomaaGreatDoor
open Go.RowKit
set_option maxRecDepth 100000
set_option linter.unusedVariables false
set_option maxHeartbeats 4000000
theorem digit_piece:∀ i:Fin 10,((⟨#[48,49,50,51,52,53,54,55,56,57]⟩:ByteArray).extract i.val (i.val+1)).data.toList=[UInt8.ofNat (48+i.val)]:=by decide +kernel
theorem itS_list (n:Nat):(itS (n:Int)).data.toList=Lib.decDigits n:=by
 unfold itS Lib.itoa;rw [if_neg (by omega),Int.toNat_natCast]
theorem decS_small {n:Nat} (h:n<10):(⟨#[48,49,50,51,52,53,54,55,56,57]⟩:ByteArray).extract n (n+1)=itS (n:Int):=by
 refine (of_list (digit_piece ⟨n,h⟩)).trans (of_list ?_).symm;rw [itS_list,Lib.decDigits_one h]
theorem decS_big {n:Nat} (h:¬ n<10):itS ((n/10:Nat):Int)++(⟨#[48,49,50,51,52,53,54,55,56,57]⟩:ByteArray).extract (n%10) (n%10+1)=itS (n:Int):=by
 have hr:n%10<10:=Nat.mod_lt _ (by decide);rw [decS_small hr];refine (of_list (L:=(itS (n:Int)).data.toList) ?_).trans (of_list rfl).symm;rw [data_app,itS_list,itS_list,itS_list,Lib.decDigits_one hr]
 conv=>rhs;rw [Lib.decDigits,dif_neg h]
theorem r06_Decimal:∀ (n:Nat) (w:World),n≤9223372036854775807→Calls Tryz.prog 155 #[.int .i64 n] w fun e w'=>e=.returned (.string (itS (n:Int)))∧Below w.heap.size w w':=by
 intro n
 induction n using Nat.strongRecOn with
 | _ n ih =>
   intro w hn;have q0:¬ (n:Int)<0:=by omega
   by_cases h:n<10
   · have p1:decide ((n:Int)<10)=true:=decide_eq_true (by omega)
     go_enter Tryz.func155, Tryz.ntmps155
     go_wp2_with fail;go_ret;exact ⟨ret_string (decS_small h),Below.refl _ _⟩
   · have p1:decide ((n:Int)<10)=false:=decide_eq_false (by omega)
     have HB:=Lib.hid (decS_big h);obtain ⟨q,hq⟩:∃ q,q=n/10:=⟨_,rfl⟩;obtain ⟨r,hr⟩:∃ r,r=n%10:=⟨_,rfl⟩;rw [← hq,← hr] at HB;have KD:=Lib.hid (fun w=>ih q (by omega) w (by omega));have d1:Int.tdiv (n:Int) 10=(q:Int):=by rw [Int.tdiv_eq_ediv_of_nonneg (by omega)];omega
     have d2:Int.tmod (n:Int) 10=(r:Int):=by rw [Int.tmod_eq_emod_of_nonneg (by omega)];omega
     have d3:(n:Int)/10=(q:Int):=by omega
     have d4:(n:Int)%10=(r:Int):=by omega
     have d5:IntKind.i64.wrap (q:Int)=(q:Int):=IntWalk.i64_in _ (by omega);have r0:(0:Int)≤(r:Int):=by omega
     have r1:(r:Int)<10:=by omega
     have r2:IntKind.i64.wrap ((r:Int)+1)=(r:Int)+1:=IntWalk.i64_in _ (by omega);have z1:(itS (q:Int)).size≤21:=itS_size _ (by omega) (by omega)
     have z2:((⟨#[48,49,50,51,52,53,54,55,56,57]⟩:ByteArray).extract r (r+1)).size≤10:=by
      rw [ByteArray.size_extract];exact Nat.le_trans (Nat.sub_le _ _) (Nat.min_le_right _ _)
     clear ih hq hr
     go_enter Tryz.func155, Tryz.ntmps155
     go_wp2_with fail;go_region_with (go_at_call 155;(with_reducible refine (KD.out _).mono ?_);rintro e w1 ⟨rfl,hb1⟩;have HB1:=Lib.hid hb1;clear hb1)
     all_goals
      go_wp2_with fail;go_ret;exact ⟨ret_string HB.out,(Below.refl w.heap.size w).drew.trans HB1.out⟩
theorem tail_list (s:ByteArray):(s.extract 1 s.size).data.toList=s.data.toList.drop 1:=by
 rw [ByteArray.data_extract,Array.toList_extract];rw [List.extract_eq_take_drop];exact List.take_of_length_le (by rw [List.length_drop,size_list];exact Nat.le_refl _)
theorem trim_stop {s:ByteArray} (h:s.data.toList=trimL s.data.toList):s=B (num s):=by
 refine (of_list (L:=s.data.toList) rfl).trans ?_;unfold B num;rw [← trimL_eq,← h]
theorem r06_canonical (s:ByteArray) (w:World) (hs:s.size≤100000) :
  Calls Tryz.prog 156 #[.string s] w fun e w'=>e=.returned (.string (B (num s)))∧w=w':=by
 go_enter Tryz.func156, Tryz.ntmps156
 go_wp2_with fail;go_loop [0] (fun v=>∃ t:ByteArray,v=.string t∧trimL t.data.toList=trimL s.data.toList∧t.size≤100000) (fun v=>strLen v)
 case atStart=>exact ⟨s,rfl,rfl,hs⟩
 case round =>
  obtain ⟨t,rfl,ht,htz⟩:=hrel;have HT:=Lib.hid ht
  cases hl:t.data.toList with
  | nil =>
    have h0:t.size=0:=by rw [← size_list,hl];rfl
    have HR:Hid (t=B (num s)):=Lib.hid (by
     have e1:=trim_stop (s:=t) (by rw [hl];rfl);rw [e1];congr 1;unfold num
     rw [← val_trimL,ht,val_trimL])
    clear ht hl;go_wp2_with fail;go_ret;exact ⟨ret_string HR.out,rfl⟩
  | cons b r =>
    have hp:0<t.size:=by rw [← size_list,hl];exact Nat.succ_pos _
    have hb0:t[0]'hp=b:=by rw [← byte_get t 0 hp,hl];rfl
    have pp:(0:Int)<(t.size:Int):=by omega
    by_cases hb:b=0
    · have q0:(t[0]'hp).toNat=0:=by rw [hb0,hb];rfl
      have HN:Hid (trimL (t.extract 1 t.size).data.toList=trimL s.data.toList):=Lib.hid (by
       rw [tail_list,← ht,hl,hb]
       simp [trimL])
      have HZ:Hid ((t.extract 1 t.size).size=t.size-1):=Lib.hid (by rw [ByteArray.size_extract,Nat.min_self]);have HTZ:=Lib.hid htz;have HP:=Lib.hid hp;have p1:(1:Int)≤(t.size:Int):=by omega
      clear ht hl hb hb0;go_wp2_with fail;go_round
      case rel=>exact ⟨_,rfl,HN.out,by rw [HZ.out];have:=HTZ.out;omega⟩
      case measure =>
       show (t.extract 1 t.size).size<t.size;rw [HZ.out];have:=HP.out;omega
    · have q0:((t[0]'hp).toNat:Int)≠0:=by
       rw [hb0];intro e;exact hb (UInt8.toNat_inj.mp (by simpa using e))
      have q1:(((t[0]'hp).toNat:Int)==0)=false:=by rw [beq_eq_false_iff_ne];exact q0
      have HR:Hid (t=B (num s)):=Lib.hid (by
       have e1:=trim_stop (s:=t) (by rw [hl];unfold trimL;rw [if_neg hb]);rw [e1];congr 1;unfold num
       rw [← val_trimL,ht,val_trimL])
      clear ht hl hb hb0;go_wp2_with fail;go_ret;exact ⟨ret_string HR.out,rfl⟩
theorem all_no' {p:ByteArray→Bool} {ls:List ByteArray} {k:Nat} (hk:k<ls.length) (h:p (ls.getD k ByteArray.empty)=false):ls.all p=false:=by
 rw [List.all_eq_false];refine ⟨ls[k],List.getElem_mem hk,?_⟩;rw [sgetD_lt hk] at h;rw [h];exact Bool.false_ne_true
theorem all_yes' {p:ByteArray→Bool} {ls:List ByteArray} (h:∀ j,j<ls.length→p (ls.getD j ByteArray.empty)=true):ls.all p=true:=by
 rw [List.all_eq_true];intro x hx;obtain ⟨j,hj,rfl⟩:=List.getElem_of_mem hx;have:=h j hj
 rwa [sgetD_lt hj] at this
theorem meas_lt {k n:Nat} (h:k<n):n-(intOf (.int .i64 ((k:Int)+1))).toNat<n-(intOf (.int .i64 (k:Int))).toNat:=by
 simp only [intOf];omega
theorem r06_Good (vals:List ByteArray) (A:Option Addr) (n c:Nat) (seed:ByteArray) (z:Int) (w:World) (hn:vals.length=n) (hm:n≤maxLen) (h:SLs w w.heap.size A vals) :
  Calls Tryz.prog 27 #[.agg #[.slice A n c,.string seed,.int .i64 z]] w fun e w'=>e=.returned (.bool (goodT vals z))∧Below w.heap.size w w':=by
 have hb:Below w.heap.size w (w.alloc (.cells #[.slice A n c,.string seed,.int .i64 z] 39)):=(Below.refl _ _).alloc (Nat.le_refl _) _;have HS:=Lib.hid (h.below hb);have HB:=Lib.hid hb;have HN:=Lib.hid hn;have HM:=Lib.hid (show n≤9223372036854775807 from Nat.le_trans hm (by decide));clear hn hm h hb
 go_enter Tryz.func27, Tryz.ntmps27
 go_wp2_with fail;go_loop [3] (fun v=>∃ k:Nat,v=.int .i64 k∧k≤n∧∀ j,j<k→valid (vals.getD j ByteArray.empty)=true) (fun v=>n-(intOf v).toNat)
 case atStart=>exact ⟨0,rfl,Nat.zero_le _,fun j h=>absurd h (Nat.not_lt_zero _)⟩
 case round =>
  obtain ⟨k,rfl,hk,hall⟩:=hrel;have HA:=Lib.hid hall;clear hall;by_cases hlt:k<n
  · obtain ⟨ad,rfl,hc⟩:=HS.out.at_ (k:=k) (by rw [HN.out];exact hlt)
    obtain ⟨x,hx⟩:∃ x,vals.getD k ByteArray.empty=x:=⟨_,rfl⟩;rw [hx] at hc;have HX:=Lib.hid hx;have k1:decide ((k:Int)<(n:Int))=true:=decide_eq_true (by omega);have k2:(k:Int)<(n:Int):=by omega
    have HLT:=Lib.hid hlt;have KV:=Lib.hid (fun w=>r01_Valid x w);have w1:wrap64 ((k:Int)+1)=(k:Int)+1:=IntWalk.wrap64_in _ (by have:=HM.out;omega)
    cases hv:valid x
    · rw [hv] at KV
      have HF:Hid (goodT vals z=false):=Lib.hid (by
       unfold goodT;rw [all_no' (k:=k) (by rw [HN.out];exact hlt) (by rw [hx];exact hv)]
       simp)
      clear hv hx;go_wp2_with (go_at_call 62;(with_reducible refine (KV.out _).mono ?_);rintro e w' ⟨rfl,rfl⟩);go_ret;exact ⟨ret_bool HF.out.symm,HB.out⟩
    · rw [hv] at KV
      have HV:=Lib.hid hv;clear hv hx;go_wp2_with (go_at_call 62;(with_reducible refine (KV.out _).mono ?_);rintro e w' ⟨rfl,rfl⟩);go_round
      case rel=>exact ⟨k+1,by rw [w1];rfl,HLT.out,fun j hj=>by
       by_cases e:j=k
       · subst e;rw [HX.out];exact HV.out
       · exact HA.out j (by omega)⟩
      case measure=>rw [w1];exact meas_lt HLT.out
  · obtain rfl:k=n:=by omega
    have HF:Hid (goodT vals z=(decide (0≤z)&&decide (z≤2147483647))):=Lib.hid (by
     unfold goodT
     rw [all_yes' (fun j hj=>HA.out j (by rw [HN.out] at hj;omega)),Bool.and_true])
    have k1:decide ((k:Int)<(k:Int))=false:=decide_eq_false (by omega);clear hlt HA hk;by_cases z0:0≤z
    · have HF:Hid (goodT vals z=decide (z≤2147483647)):=Lib.hid (by rw [HF.out,decide_eq_true z0];rfl)
      go_wp2_with fail;go_ret;exact ⟨ret_bool HF.out.symm,HB.out⟩
    · have HF:Hid (goodT vals z=false):=Lib.hid (by rw [HF.out,decide_eq_false z0];rfl)
      have z1:decide (0≤z)=false:=decide_eq_false z0;go_wp2_with fail;go_ret;exact ⟨ret_bool HF.out.symm,HB.out⟩
end Go.Proofs.YtiacajjpkncomaaGreatDoor
namespace Go.Proofs.YtiacajjpkncomaaGreatDoor
open Go.RowKit
set_option maxRecDepth 100000
set_option linter.unusedVariables false
set_option maxHeartbeats 4000000
theorem r06_DecimalZ (z:Int) (w:World) (h0:0≤z) (h1:z≤9223372036854775807):Calls Tryz.prog 155 #[.int .i64 z] w fun e w'=>e=.returned (.string (itS z))∧Below w.heap.size w w':=by
 obtain ⟨n,rfl⟩:∃ n:Nat,z=(n:Int):=⟨z.toNat,by omega⟩;exact r06_Decimal n w (by omega)
theorem nil_app (s:ByteArray):(⟨#[]⟩:ByteArray)++s=s:=(of_list (by rw [data_app];rfl)).trans (of_list rfl).symm
theorem mod_half (b P:Nat):(P≤b%(2*P)→b%(2*P)-P=b%P)∧(¬ P≤b%(2*P)→b%(2*P)=b%P):=by
 have e:b%(2*P)%P=b%P:=Nat.mod_mul_left_mod b 2 P;have hlt:0<P→b%(2*P)<2*P:=fun h=>Nat.mod_lt _ (by omega)
 generalize b%(2*P)=r at *
 rw [← e]
 constructor
 · intro hp
   rcases Nat.eq_zero_or_pos P with h0|h0
   · subst h0;simp
   · have h1:=hlt h0
     rw [Nat.mod_eq_sub_mod hp,Nat.mod_eq_of_lt (by omega)]
 · intro hp
   rw [Nat.mod_eq_of_lt (by omega)]
theorem r06_attempt (seed:ByteArray) (z a:Int) (len:Nat) (w:World) (hz0:0≤z) (hz1:z≤2147483647) (ha0:0≤a) (ha1:a≤1000) (hs:seed.size≤100000) (hl0:1≤len) (hl1:len≤64) :
  Calls Tryz.prog 128 #[.string seed,.int .i64 z,.int .i64 a,.int .i64 len] w fun e w'=>e=.returned (.string (B (attN seed z a len)))∧Below w.heap.size w w':=by
 obtain ⟨M,hM⟩:∃ M,M=macS seed (nameS z a 0):=⟨_,rfl⟩;have hMz:M.size=32:=by rw [hM];exact macS_size _ _
 have hnz:(nameS z a 0).size≤90000:=by
  have:=itS_size z hz0 (by omega);have:=itS_size a ha0 (by omega);have:=itS_size 0 (by omega) (by omega);unfold nameS;simp only [ByteArray.size_append];have e:(⟨#[46]⟩:ByteArray).size=1:=rfl;omega
 have KM:=fun w=>r05_Mac seed (nameS z a 0) w hs hnz
 rw [← hM] at KM;unfold nameS at KM;have KZ:=Lib.hid (fun w=>r06_DecimalZ z w hz0 (by omega));have KA:=Lib.hid (fun w=>r06_DecimalZ a w ha0 (by omega));have K0:=Lib.hid (fun w=>r06_DecimalZ 0 w (by omega) (by omega));have s1:=itS_size z hz0 (by omega);have s2:=itS_size a ha0 (by omega);have s3:=itS_size 0 (by omega) (by omega);obtain ⟨tz,htz⟩:∃ t,t=itS z:=⟨_,rfl⟩;obtain ⟨ta,hta⟩:∃ t,t=itS a:=⟨_,rfl⟩;obtain ⟨t0,ht0⟩:∃ t,t=itS 0:=⟨_,rfl⟩;rw [← htz] at KZ s1 KM;rw [← hta] at KA s2 KM;rw [← ht0] at K0 s3 KM;have KM:=Lib.hid KM;obtain ⟨size,hsz⟩:∃ size,size=(len+7)/8:=⟨_,rfl⟩;have hs8:1≤size∧size≤8:=by omega
 have d1:((len:Int)+7)/8=(size:Int):=by omega
 have d2:Int.tdiv ((len:Int)+7) 8=(size:Int):=by rw [Int.tdiv_eq_ediv_of_nonneg (by omega)];omega
 have p1:(0:Int)<(size:Int):=by omega
 have p2:¬ (32:Int)<(size:Int):=by omega
 have w7:wrap64 ((len:Int)+7)=(len:Int)+7:=IntWalk.wrap64_in _ (by omega);have w8:wrap64 (size:Int)=(size:Int):=IntWalk.wrap64_in _ (by omega);have e1:=nil_app M;have HSZ:=Lib.hid hsz;have HM:=Lib.hid hM;have HLEN:=Lib.hid (And.intro hl0 hl1);have H8:=Lib.hid hs8;clear htz hta ht0 hM hsz hnz hz0 hz1 ha0 ha1 hs hl0 hl1 hs8
 go_enter Tryz.func128, Tryz.ntmps128
 go_wp2_with fail;refine wp_loop_rounds 2 ?_;rw [rounds_succ]
 go_wp2_with (first
  | (go_at_call 155;(with_reducible refine (KZ.out _).mono ?_);rintro e w1 ⟨rfl,hb1⟩;have HB1:=Lib.hid hb1;clear hb1)
  | (go_at_call 155;(with_reducible refine (KA.out _).mono ?_);rintro e w2 ⟨rfl,hb2⟩;have HB2:=Lib.hid (HB1.out.trans (hb2.mono HB1.out.size));clear hb2)
  | (go_at_call 155;(with_reducible refine (K0.out _).mono ?_);rintro e w3 ⟨rfl,hb3⟩;have HB3:=Lib.hid (HB2.out.trans (hb3.mono HB2.out.size));clear hb3)
  | (go_at_call 154;(with_reducible refine (KM.out _).mono ?_);rintro e w4 ⟨rfl,hb4⟩;have HB4:=Lib.hid (HB3.out.trans (hb4.mono HB3.out.size));clear hb4))
 rw [rounds_succ]
 obtain ⟨b,r,hbr,hrl⟩:∃ b r,M.data.toList=b::r∧r.length=31:=by
  have hl:M.data.toList.length=32:=by rw [size_list,hMz]
  cases hm:M.data.toList with
  | nil=>rw [hm] at hl;cases hl
  | cons b r=>rw [hm] at hl;exact ⟨b,r,rfl,by simpa using hl⟩
 have hM0:M[0]'(by rw [hMz];decide)=b:=by rw [← byte_get M 0 (by rw [hMz];decide),hbr];rfl
 have wb:wrap64 (b.toNat:Int)=(b.toNat:Int):=wrap64_byte b;go_wp2_with fail;clear w7 w8 d1 d2 p1 p2 e1;obtain ⟨sh,hsh⟩:∃ sh,sh=8*size-len:=⟨_,rfl⟩;have hsh2:sh≤7∧8*size=len+sh:=by have:=HSZ.out;have:=HLEN.out;omega
 have v3:(8*(size:Int)-(len:Int))=(sh:Int):=by omega
 have q8:(size:Int)≤8:=by have:=H8.out;omega
 have HSH:=Lib.hid hsh2;have HBR:=Lib.hid hbr;have HRL:=Lib.hid hrl;have WB:=Lib.hid (show Value.int .i64 (wrap64 (b.toNat:Int))=.int .i64 (b.toNat:Int) by rw [wb]);clear wb;obtain ⟨u1,u3,u4⟩:wrap64 (8*(size:Int))=8*(size:Int)∧wrap64 (sh:Int)=(sh:Int)∧wrap64 (8-(sh:Int))=8-(sh:Int):=⟨IntWalk.wrap64_in _ (by omega),IntWalk.wrap64_in _ (by omega),IntWalk.wrap64_in _ (by omega)⟩;rw [WB.out];clear hsh hbr hrl hM0 s1 s2 s3 KZ KA K0 KM HB1 HB2 HB3;go_loop [12,13] (fun v12 v13=>∃ (j F:Nat) (zi:Int),v12=.int .i64 (F:Nat)∧v13=.int .i64 zi∧zi=7-(j:Int)∧F=b.toNat%2^(8-j)∧j≤sh) (fun _ v=>(intOf v+1).toNat)
 case atStart=>exact ⟨0,b.toNat,7,rfl,rfl,rfl,(Nat.mod_eq_of_lt (byte_lt b)).symm,Nat.zero_le _⟩
 case round =>
  obtain ⟨j,F,zi,rfl,rfl,hzi,hF,hj⟩:=hrel;by_cases hlt:j<sh
  · obtain ⟨k,hk⟩:∃ k,k=7-j:=⟨_,rfl⟩
    obtain ⟨P,hP⟩:∃ P,P=2^k:=⟨_,rfl⟩;have h2:=hsh2.1;have hF2:F=b.toNat%(2*P):=by rw [hF,hP,show 8-j=k+1 by omega,Nat.pow_succ,Nat.mul_comm]
    have hnext:8-(j+1)=k:=by omega
    have hmod:=mod_half b.toNat P;rw [← hF2] at hmod;have hk7:k=1∨k=2∨k=3∨k=4∨k=5∨k=6∨k=7:=by omega
    have hF256:F<256:=by rw [hF];exact Nat.lt_of_le_of_lt (Nat.mod_le _ _) (byte_lt b)
    have HJ:Hid (∀ Fn:Nat,Fn=b.toNat%P→Fn=b.toNat%2^(8-(j+1))):=Lib.hid (fun Fn h=>by rw [h,hnext,hP]);have HLT:=Lib.hid hlt;have HJK:=Lib.hid (show j+k=7 by omega);clear hF hF2 hnext hj hlt h2 hk;obtain rfl|rfl|rfl|rfl|rfl|rfl|rfl:=hk7
    · obtain rfl:P=2:=by rw [hP]
      obtain rfl:zi=1:=by have:=HJK.out;omega
      have HWR:Hid (2≤F→Value.int .i64 (wrap64 ((F:Int)-2))=.int .i64 ((F-2:Nat):Int)):=Lib.hid (fun h=>by rw [IntWalk.wrap64_in _ (by omega)];congr 1;omega);have g1:decide (8-(sh:Int)≤1)=true:=decide_eq_true (by have:=HJK.out;have:=HLT.out;omega);by_cases hge:2≤F
      · have g2:decide ((2:Int)≤(F:Int))=true:=decide_eq_true (by omega)
        have HG:=Lib.hid hge;have HM1:=Lib.hid (hmod.1 hge);clear hge hmod hP hF256 hzi;go_wp2_with fail;go_round
        case rel=>exact ⟨j+1,F-2,0,HWR.out HG.out,rfl,by have:=HJK.out;omega,HJ.out _ HM1.out,HLT.out⟩
        case measure=>decide
      · have g2:decide ((2:Int)≤(F:Int))=false:=decide_eq_false (by omega)
        have HM1:=Lib.hid (hmod.2 hge);clear hge hmod hP hF256 hzi;go_wp2_with fail;go_round
        case rel=>exact ⟨j+1,F,0,rfl,rfl,by have:=HJK.out;omega,HJ.out _ HM1.out,HLT.out⟩
        case measure=>decide
    · obtain rfl:P=4:=by rw [hP]
      obtain rfl:zi=2:=by have:=HJK.out;omega
      have HWR:Hid (4≤F→Value.int .i64 (wrap64 ((F:Int)-4))=.int .i64 ((F-4:Nat):Int)):=Lib.hid (fun h=>by rw [IntWalk.wrap64_in _ (by omega)];congr 1;omega);have g1:decide (8-(sh:Int)≤2)=true:=decide_eq_true (by have:=HJK.out;have:=HLT.out;omega);by_cases hge:4≤F
      · have g2:decide ((4:Int)≤(F:Int))=true:=decide_eq_true (by omega)
        have HG:=Lib.hid hge;have HM1:=Lib.hid (hmod.1 hge);clear hge hmod hP hF256 hzi;go_wp2_with fail;go_round
        case rel=>exact ⟨j+1,F-4,1,HWR.out HG.out,rfl,by have:=HJK.out;omega,HJ.out _ HM1.out,HLT.out⟩
        case measure=>decide
      · have g2:decide ((4:Int)≤(F:Int))=false:=decide_eq_false (by omega)
        have HM1:=Lib.hid (hmod.2 hge);clear hge hmod hP hF256 hzi;go_wp2_with fail;go_round
        case rel=>exact ⟨j+1,F,1,rfl,rfl,by have:=HJK.out;omega,HJ.out _ HM1.out,HLT.out⟩
        case measure=>decide
    · obtain rfl:P=8:=by rw [hP]
      obtain rfl:zi=3:=by have:=HJK.out;omega
      have HWR:Hid (8≤F→Value.int .i64 (wrap64 ((F:Int)-8))=.int .i64 ((F-8:Nat):Int)):=Lib.hid (fun h=>by rw [IntWalk.wrap64_in _ (by omega)];congr 1;omega);have g1:decide (8-(sh:Int)≤3)=true:=decide_eq_true (by have:=HJK.out;have:=HLT.out;omega);by_cases hge:8≤F
      · have g2:decide ((8:Int)≤(F:Int))=true:=decide_eq_true (by omega)
        have HG:=Lib.hid hge;have HM1:=Lib.hid (hmod.1 hge);clear hge hmod hP hF256 hzi;go_wp2_with fail;go_round
        case rel=>exact ⟨j+1,F-8,2,HWR.out HG.out,rfl,by have:=HJK.out;omega,HJ.out _ HM1.out,HLT.out⟩
        case measure=>decide
      · have g2:decide ((8:Int)≤(F:Int))=false:=decide_eq_false (by omega)
        have HM1:=Lib.hid (hmod.2 hge);clear hge hmod hP hF256 hzi;go_wp2_with fail;go_round
        case rel=>exact ⟨j+1,F,2,rfl,rfl,by have:=HJK.out;omega,HJ.out _ HM1.out,HLT.out⟩
        case measure=>decide
    · obtain rfl:P=16:=by rw [hP]
      obtain rfl:zi=4:=by have:=HJK.out;omega
      have HWR:Hid (16≤F→Value.int .i64 (wrap64 ((F:Int)-16))=.int .i64 ((F-16:Nat):Int)):=Lib.hid (fun h=>by rw [IntWalk.wrap64_in _ (by omega)];congr 1;omega);have g1:decide (8-(sh:Int)≤4)=true:=decide_eq_true (by have:=HJK.out;have:=HLT.out;omega);by_cases hge:16≤F
      · have g2:decide ((16:Int)≤(F:Int))=true:=decide_eq_true (by omega)
        have HG:=Lib.hid hge;have HM1:=Lib.hid (hmod.1 hge);clear hge hmod hP hF256 hzi;go_wp2_with fail;go_round
        case rel=>exact ⟨j+1,F-16,3,HWR.out HG.out,rfl,by have:=HJK.out;omega,HJ.out _ HM1.out,HLT.out⟩
        case measure=>decide
      · have g2:decide ((16:Int)≤(F:Int))=false:=decide_eq_false (by omega)
        have HM1:=Lib.hid (hmod.2 hge);clear hge hmod hP hF256 hzi;go_wp2_with fail;go_round
        case rel=>exact ⟨j+1,F,3,rfl,rfl,by have:=HJK.out;omega,HJ.out _ HM1.out,HLT.out⟩
        case measure=>decide
    · obtain rfl:P=32:=by rw [hP]
      obtain rfl:zi=5:=by have:=HJK.out;omega
      have HWR:Hid (32≤F→Value.int .i64 (wrap64 ((F:Int)-32))=.int .i64 ((F-32:Nat):Int)):=Lib.hid (fun h=>by rw [IntWalk.wrap64_in _ (by omega)];congr 1;omega);have g1:decide (8-(sh:Int)≤5)=true:=decide_eq_true (by have:=HJK.out;have:=HLT.out;omega);by_cases hge:32≤F
      · have g2:decide ((32:Int)≤(F:Int))=true:=decide_eq_true (by omega)
        have HG:=Lib.hid hge;have HM1:=Lib.hid (hmod.1 hge);clear hge hmod hP hF256 hzi;go_wp2_with fail;go_round
        case rel=>exact ⟨j+1,F-32,4,HWR.out HG.out,rfl,by have:=HJK.out;omega,HJ.out _ HM1.out,HLT.out⟩
        case measure=>decide
      · have g2:decide ((32:Int)≤(F:Int))=false:=decide_eq_false (by omega)
        have HM1:=Lib.hid (hmod.2 hge);clear hge hmod hP hF256 hzi;go_wp2_with fail;go_round
        case rel=>exact ⟨j+1,F,4,rfl,rfl,by have:=HJK.out;omega,HJ.out _ HM1.out,HLT.out⟩
        case measure=>decide
    · obtain rfl:P=64:=by rw [hP]
      obtain rfl:zi=6:=by have:=HJK.out;omega
      have HWR:Hid (64≤F→Value.int .i64 (wrap64 ((F:Int)-64))=.int .i64 ((F-64:Nat):Int)):=Lib.hid (fun h=>by rw [IntWalk.wrap64_in _ (by omega)];congr 1;omega);have g1:decide (8-(sh:Int)≤6)=true:=decide_eq_true (by have:=HJK.out;have:=HLT.out;omega);by_cases hge:64≤F
      · have g2:decide ((64:Int)≤(F:Int))=true:=decide_eq_true (by omega)
        have HG:=Lib.hid hge;have HM1:=Lib.hid (hmod.1 hge);clear hge hmod hP hF256 hzi;go_wp2_with fail;go_round
        case rel=>exact ⟨j+1,F-64,5,HWR.out HG.out,rfl,by have:=HJK.out;omega,HJ.out _ HM1.out,HLT.out⟩
        case measure=>decide
      · have g2:decide ((64:Int)≤(F:Int))=false:=decide_eq_false (by omega)
        have HM1:=Lib.hid (hmod.2 hge);clear hge hmod hP hF256 hzi;go_wp2_with fail;go_round
        case rel=>exact ⟨j+1,F,5,rfl,rfl,by have:=HJK.out;omega,HJ.out _ HM1.out,HLT.out⟩
        case measure=>decide
    · obtain rfl:P=128:=by rw [hP]
      obtain rfl:zi=7:=by have:=HJK.out;omega
      have HWR:Hid (128≤F→Value.int .i64 (wrap64 ((F:Int)-128))=.int .i64 ((F-128:Nat):Int)):=Lib.hid (fun h=>by rw [IntWalk.wrap64_in _ (by omega)];congr 1;omega);have g1:decide (8-(sh:Int)≤7)=true:=decide_eq_true (by have:=HJK.out;have:=HLT.out;omega);by_cases hge:128≤F
      · have g2:decide ((128:Int)≤(F:Int))=true:=decide_eq_true (by omega)
        have HG:=Lib.hid hge;have HM1:=Lib.hid (hmod.1 hge);clear hge hmod hP hF256 hzi;go_wp2_with fail;go_round
        case rel=>exact ⟨j+1,F-128,6,HWR.out HG.out,rfl,by have:=HJK.out;omega,HJ.out _ HM1.out,HLT.out⟩
        case measure=>decide
      · have g2:decide ((128:Int)≤(F:Int))=false:=decide_eq_false (by omega)
        have HM1:=Lib.hid (hmod.2 hge);clear hge hmod hP hF256 hzi;go_wp2_with fail;go_round
        case rel=>exact ⟨j+1,F,6,rfl,rfl,by have:=HJK.out;omega,HJ.out _ HM1.out,HLT.out⟩
        case measure=>decide
  · obtain rfl:j=sh:=by omega
    have g1:decide (8-(j:Int)≤zi)=false:=decide_eq_false (by omega);obtain ⟨c,hc⟩:∃ c,c=UInt8.ofNat F:=⟨_,rfl⟩;have hFl:F<256:=by rw [hF];exact Nat.lt_of_le_of_lt (Nat.mod_le _ _) (byte_lt b)
    have f1:(F:Int)%256=(c.toNat:Int):=by rw [hc,UInt8.toNat_ofNat'];omega
    have f2:IntKind.u8.wrap (F:Int)=(c.toNat:Int):=by rw [IntKind.wrap_u8];exact f1
    obtain ⟨X,hX⟩:∃ X:ByteArray,X=⟨#[c]⟩++M.extract 1 size:=⟨_,rfl⟩;have s8:=H8.out
    have hXz:X.size≤100000:=by
     rw [hX,ByteArray.size_append,ByteArray.size_extract];have e:(⟨#[c]⟩:ByteArray).size=1:=rfl;omega
    have hXn:num X=attN seed z a len:=by
     have h1:=att_val seed z a len size j b r (by show (macS seed (nameS z a 0)).data.toList=_;rw [← HM.out];exact HBR.out) HRL.out HSZ.out s8.1 (by omega) hsh2.2 hsh2.1;rw [← h1,← hF,← hc];unfold num;rw [hX,data_app,show M.extract 1 size=M.extract 1 (1+(size-1)) by congr 1;omega,str_mid M 1 (size-1) (by omega),HBR.out];congr 1;rw [show size=(size-1)+1 by omega];rfl
    have KC:=fun w=>r06_canonical X w hXz
    rw [hXn,hX] at KC;have KC:=Lib.hid KC;have g2:(1:Int)≤(size:Int):=by omega
    have g3:(size:Int)≤32:=by omega
    have g4:(M.extract 1 size).size≤100:=by rw [ByteArray.size_extract];omega
    have hcv:(convert 94 9 (.slice (some ⟨w4.heap.size,0,none⟩) 1 1)).run Tryz.prog (w4.alloc (.cells #[.int .u8 c.toNat] 5)).drew=.ok (.string ⟨#[c]⟩) (w4.alloc (.cells #[.int .u8 c.toNat] 5)).drew :=
     conv_str (w:=(w4.alloc (.cells #[.int .u8 c.toNat] 5)).drew) (row_one w4 c _ rfl 5) 1 1 rfl
    clear hlt hj hc hFl hX hXz hXn hF hzi hsh2;go_wp2_with fail;go_region_with (go_at_call 156;(with_reducible refine (KC.out _).mono ?_);rintro e w9 ⟨rfl,rfl⟩)
    all_goals
     go_wp2_with fail;go_ret;exact ⟨rfl,(HB4.out.alloc HB4.out.size _).drew⟩
end Go.Proofs.YtiacajjpkncomaaGreatDoor
namespace Go.Proofs.YtiacajjpkncomaaGreatDoor
open Go.RowKit
set_option maxRecDepth 100000
set_option linter.unusedVariables false
set_option maxHeartbeats 4000000
theorem AtB.nextB {w wx wy:World} {A:Option Addr} {n c:Nat} {seed:ByteArray} {z:Int} (h:AtB w wx A n c seed z) (hb:Below (w.heap.size+2) wx wy):AtB w wy A n c seed z:=by
 have l0:w.heap.size<w.heap.size+2:=by omega
 exact ⟨(hb.cell (p:=⟨w.heap.size,0,none⟩) l0).trans h.t0,(hb.cell (p:=⟨w.heap.size,1,none⟩) l0).trans h.t1,(hb.cell (p:=⟨w.heap.size,2,none⟩) l0).trans h.t2,(hb.block _ (by omega)).trans h.r,h.bel.trans (hb.mono (by omega))⟩
structure RdAt (w wx:World) (A:Option Addr) (n c:Nat) (seed:ByteArray) (z:Int) (v:Value) (vals:List ByteArray):Prop where
 a:AtB w wx A n c seed z
 nx:wx.heap[w.heap.size+2]?=some (.cells #[v,.string seed,.int .i64 (z+1)] 39 (0,0))
 own:OwnS wx (w.heap.size+3) v n vals
theorem RdAt.size {w wx:World} {A:Option Addr} {n c:Nat} {seed:ByteArray} {z:Int} {v:Value} {vals:List ByteArray} (h:RdAt w wx A n c seed z v vals):w.heap.size+3≤wx.heap.size:=(Array.getElem?_eq_some_iff.1 h.nx).1
theorem RdAt.next {w wx wy:World} {A:Option Addr} {n c:Nat} {seed:ByteArray} {z:Int} {v:Value} {vals:List ByteArray} (h:RdAt w wx A n c seed z v vals) (hb:Below wx.heap.size wx wy):RdAt w wy A n c seed z v vals :=
 ⟨h.a.next hb,(hb.block _ (Array.getElem?_eq_some_iff.1 h.nx).1).trans h.nx,h.own.kept (B:=0) hb⟩
theorem RdAt.cells {w wx:World} {A:Option Addr} {n c:Nat} {seed:ByteArray} {z:Int} {v:Value} {vals:List ByteArray} (h:RdAt w wx A n c seed z v vals) :
  wx.cell? ⟨w.heap.size,0,none⟩=some (.slice A n c)∧wx.cell? ⟨w.heap.size,1,none⟩=some (.string seed)∧wx.cell? ⟨w.heap.size,2,none⟩=some (.int .i64 z) ∧
  wx.cell? ⟨w.heap.size+2,0,none⟩=some v∧wx.cell? ⟨w.heap.size+2,1,none⟩=some (.string seed)∧wx.cell? ⟨w.heap.size+2,2,none⟩=some (.int .i64 (z+1)):=by
 refine ⟨h.a.t0,h.a.t1,h.a.t2,?_,?_,?_⟩<;>simp [World.cell?,h.nx]
theorem OwnS.farS {w:World} {base n:Nat} {v u:Value} {ls:List ByteArray} {p:Addr} (h:OwnS w base v n ls) (hp:p.block<base):OwnS (w.setCell p u) base v n ls:=by
 refine ⟨h.1,h.2.1,?_⟩
 rcases h.2.2 with hn|⟨g,cap,cur,rfl,h1,hg,rest⟩
 · exact .inl hn
 · exact .inr ⟨g,cap,cur,rfl,h1,(Below.heap_setCell _ _ _ _ (fun e=>by rw [e] at h1;omega)).trans hg,rest⟩
theorem RdAt.fin {w wx:World} {A:Option Addr} {n c:Nat} {seed:ByteArray} {z:Int} {v x y t:Value} {vals:List ByteArray} (h:RdAt w wx A n c seed z v vals) :
  ∃ A' c',v=.slice A' n c'∧SLs (((wx.setCell ⟨w.heap.size+1,0,none⟩ x).setCell ⟨w.heap.size+1,1,none⟩ y).setCell ⟨w.heap.size+1,2,none⟩ t) (((wx.setCell ⟨w.heap.size+1,0,none⟩ x).setCell ⟨w.heap.size+1,1,none⟩ y).setCell ⟨w.heap.size+1,2,none⟩ t).heap.size A' vals∧∀ a,A'=some a→w.heap.size≤a.block:=by
 have l1:w.heap.size+1<w.heap.size+3:=by omega
 have ho:=((h.own.farS (p:=⟨w.heap.size+1,0,none⟩) (u:=x) l1).farS (p:=⟨w.heap.size+1,1,none⟩) (u:=y) l1).farS (p:=⟨w.heap.size+1,2,none⟩) (u:=t) l1;obtain ⟨A',c',e,hs⟩:=ho.form (by have:=h.size;simpa using this);refine ⟨A',c',e,hs,fun a ha=>?_⟩;have:=(ho.blockOf a.block (by rw [e,ha];rfl)).1;omega
def drawPostR (k:Nat) (d:Int × Nat) (n:Nat) (seed:ByteArray) (z:Int) (vals:List ByteArray) (e:Ending) (w':World):Prop :=
 (d.1=0∧∃ A' c',e=.returned (.tuple #[.string (B d.2),.agg #[.slice A' n c',.string seed,.int .i64 (z+1)],.int .i64 0])∧SLs w' w'.heap.size A' vals∧∀ a,A'=some a→k≤a.block) ∨
 (d.1≠0∧e=.returned (.tuple #[.string ⟨#[]⟩,.agg #[.slice none 0 0,.string ⟨#[]⟩,.int .i64 0],.int .i64 d.1]))
theorem natCmp_of' {a b:ByteArray} (ha:valid a=true) (hb:valid b=true):natCmp a b=cmpN (num a) (num b):=by unfold natCmp;rw [ha,hb];rfl
theorem cell_in'' {W:World} {a:Addr} {v:Value} (h:W.cell? a=some v):a.block<W.heap.size:=World.block_lt_of_cell? W a h
theorem r06_draw (vals:List ByteArray) (A:Option Addr) (n c:Nat) (seed:ByteArray) (z:Int) (m:Nat) (w:World) (hn:vals.length=n) (hm:n≤1000) (h:SLs w w.heap.size A vals) (hg:goodT vals z=true)
  (hm0:1≤m) (hm1:m<18446744073709551616) (hs:seed.size≤100000) :
  Calls Tryz.prog 72 #[.agg #[.slice A n c,.string seed,.int .i64 z],.string (B m)] w fun e w'=>drawPostR w.heap.size (drawS vals seed z m) n seed z vals e w'∧Below w.heap.size w w':=by
 obtain ⟨h0,h1,hall⟩:=good_parts hg;have hz1:wrap64 (z+1)=z+1:=IntWalk.wrap64_in _ (by omega);have HA0:=Lib.hid (AtB.start w A n c seed z);have HS:=Lib.hid h;have HN:=Lib.hid hn;obtain ⟨W3,hW3⟩:∃ W,W=((w.alloc (.cells #[.slice A n c,.string seed,.int .i64 z] 39)).alloc (.cells #[.slice none 0 0,.string ⟨#[]⟩,.int .i64 0] 39)).alloc (.cells #[.slice none 0 0,.string seed,.int .i64 (z+1)] 39):=⟨_,rfl⟩;have b23:Below ((w.alloc (.cells #[.slice A n c,.string seed,.int .i64 z] 39)).alloc (.cells #[.slice none 0 0,.string ⟨#[]⟩,.int .i64 0] 39)).heap.size ((w.alloc (.cells #[.slice A n c,.string seed,.int .i64 z] 39)).alloc (.cells #[.slice none 0 0,.string ⟨#[]⟩,.int .i64 0] 39)) W3:=by rw [hW3];exact (Below.refl _ _).alloc (Nat.le_refl _) _
 have s3:W3.heap.size=w.heap.size+3:=by rw [hW3,World.size_alloc,World.size_alloc,World.size_alloc]
 have HA3:=Lib.hid (HA0.out.next b23)
 have HN3:Hid (W3.heap[w.heap.size+2]?=some (.cells #[.slice none 0 0,.string seed,.int .i64 (z+1)] 39 (0,0))):=Lib.hid (by
  have:=heap_alloc_new ((w.alloc (.cells #[.slice A n c,.string seed,.int .i64 z] 39)).alloc (.cells #[.slice none 0 0,.string ⟨#[]⟩,.int .i64 0] 39)) (.cells #[.slice none 0 0,.string seed,.int .i64 (z+1)] 39);rw [World.size_alloc,World.size_alloc] at this;rw [hW3]
  exact this)
 have HS3:=Lib.hid ((h.below (HA3.out.bel)).more HA3.out.bel.size);have HL3:=Lib.hid s3;have hnn:=hn;clear b23 s3 HA0 h;subst hW3
 go_enter Tryz.func72, Tryz.ntmps72
 go_upto_region 3 with (at_builtin;refine wpList_append_S rfl (.tmp 17) (.tmp 19) rfl (w.heap.size+3) (.slice none 0 0) 0 [] rfl (OwnS.nil_ _ _) A n c vals rfl HS3.out hnn (by omega) (by rw [HL3.out];exact Nat.le_refl _) ?_
                        intro v5 w5 h1' h2' h3';rw [Nat.zero_add,List.nil_append] at h1';have hsz5:w.heap.size+3≤w5.heap.size:=by have:=h2'.size;rw [HL3.out] at this;exact this
                        obtain ⟨A5,c5,rfl,_⟩:=h1'.form hsz5;have HO5:=Lib.hid h1';have hb5:=below_grown h2' (Nat.le_refl _) (fun g hg=>by cases hg);have HA5:=Lib.hid (HA3.out.next hb5);have HN5:=Lib.hid ((hb5.block (w.heap.size+2) (by rw [HL3.out];omega)).trans HN3.out);have x0:w5.cell? ⟨w.heap.size+1+1,0,none⟩=some (.slice none 0 0):=by simp [World.cell?,HN5.out]
                        have y0:w5.frozen? ⟨w.heap.size+1+1,0,none⟩=false:=by simp [World.frozen?,HN5.out]
                        have hlt5:w.heap.size+2<w5.heap.size:=by omega
                        clear h1' h2' h3' hb5 hsz5)
 have HR0:=Lib.hid (show RdAt w (w5.setCell ⟨w.heap.size+1+1,0,none⟩ (.slice A5 n c5)) A n c seed z (.slice A5 n c5) vals from
  ⟨HA5.out.nextB ((Below.refl _ _).setCell (p:=⟨w.heap.size+1+1,0,none⟩) (Nat.le_refl _) _),by
   have hq:=HN5.out;show (w5.setCell ⟨w.heap.size+2,0,none⟩ (.slice A5 n c5)).heap[w.heap.size+2]?=_
   simp [World.setCell,Array.getElem?_modify,hq],HO5.out.farS (p:=⟨w.heap.size+1+1,0,none⟩) (by show w.heap.size+2<_;omega)⟩)
 obtain ⟨W,hW⟩:∃ W,W=w5.setCell ⟨w.heap.size+1+1,0,none⟩ (.slice A5 n c5):=⟨_,rfl⟩;rw [← hW] at HR0 ⊢;clear hW HO5 HA5 HN5 x0 y0 HS3 HL3 HN3 HA3 hnn hlt5;obtain ⟨t0,t1,t2,x0,x1,x2⟩:=HR0.out.cells;obtain ⟨r0,r1,r2,g0,g1,g2⟩:=HR0.out.a.r0;by_cases hz:z<(n:Int)
 · obtain ⟨k,rfl⟩:∃ k:Nat,z=(k:Int):=⟨z.toNat,by omega⟩
   have hk:k<n:=by omega
   have hvalid:valid (vals.getD k ByteArray.empty)=true:=by
    rw [List.all_eq_true] at hall;rw [sgetD_lt (by omega)];exact hall _ (List.getElem_mem _)
   obtain ⟨ad,rfl,hc⟩:=(HS.out.below HR0.out.a.bel).at_ (k:=k) (by rw [hn];exact hk)
   have hd:drawS vals seed (k:Int) m=if m≤num (vals.getD k ByteArray.empty) then (2,0) else (0,num (vals.getD k ByteArray.empty)):=by
    unfold drawS;rw [if_pos (by rw [hn];exact hz)];rfl
   have KC:=fun wq=>r01_Cmp (vals.getD k ByteArray.empty) (B m) wq
   rw [natCmp_of' hvalid (valid_B (Nat.lt_trans hm1 (by decide))),num_B] at KC;have hBx:vals.getD k ByteArray.empty=B (num (vals.getD k ByteArray.empty)):=(B_num hvalid).symm;obtain ⟨X,hX⟩:∃ X,X=vals.getD k ByteArray.empty:=⟨_,rfl⟩;rw [← hX] at KC hc hd hBx;have hneg:=cmpN_neg (x:=num X) (y:=m);obtain ⟨y,hy⟩:∃ y,y=cmpN (num X) m:=⟨_,rfl⟩;rw [← hy] at KC hneg;have KC:=Lib.hid KC;have HBX:=Lib.hid hBx;have k0:(0:Int)≤(k:Int):=by omega
   have HC:=Lib.hid hc;clear hBx hX hy hvalid;by_cases hvm:m≤num X
   · rw [if_pos hvm] at hd
     have HD:=Lib.hid hd
     have y0:decide (0≤y)=true:=decide_eq_true (by
      by_cases h:y<0
      · have:=hneg.1 h;omega
      · omega)
     clear hd hvm hneg hall hg;go_wp2_with (go_at_call 123;(with_reducible refine (KC.out _).mono ?_);rintro e w7 ⟨rfl,hb7⟩;have HR1:=Lib.hid (HR0.out.next hb7);obtain ⟨r0,r1,r2,g0,g1,g2⟩:=HR1.out.a.r0;clear hb7);refine bodyPost_ret (v:=.tuple #[.string ⟨#[]⟩,.agg #[.slice none 0 0,.string ⟨#[]⟩,.int .i64 0],.int .i64 2]) (by simp [results,Tryz.results72,go_sem,r0,r1,r2]) rfl ⟨.inr ⟨by rw [HD.out];decide,by rw [HD.out]⟩,HR1.out.a.bel3⟩
   · rw [if_neg hvm] at hd
     have HD:=Lib.hid hd;have y0:decide (0≤y)=false:=decide_eq_false (by have:=hneg.2 (by omega);omega);clear hd hvm hneg hall hg;go_upto_region 6 with (go_at_call 123;(with_reducible refine (KC.out _).mono ?_);rintro e w7 ⟨rfl,hb7⟩;have HR1:=Lib.hid (HR0.out.next hb7);have hc:=((hb7.cell (cell_in'' HC.out)).trans HC.out);obtain ⟨t0,t1,t2,x0,x1,x2⟩:=HR1.out.cells;obtain ⟨r0,r1,r2,g0,g1,g2⟩:=HR1.out.a.r0;clear hb7)
     have hx2:w.heap.size+2=w.heap.size+1+1:=rfl;rw [hx2] at x0 x1 x2;clear hx2;go_region
     all_goals
      go_wp2_with fail;refine bodyPost_ret (v:=.tuple #[.string X,.agg #[.slice A5 n c5,.string seed,.int .i64 ((k:Int)+1)],.int .i64 0]) (by simp [results,Tryz.results72,go_sem,r0,r1,r2]) rfl ⟨.inl ⟨by rw [HD.out],A5,c5,?_,?_⟩,HR1.out.a.bel3.drew⟩
      · rw [HD.out]
        show _=Ending.returned (.tuple #[.string (B (num X)),.agg #[.slice A5 n c5,.string seed,.int .i64 ((k:Int)+1)],.int .i64 0]);rw [← HBX.out]
      · obtain ⟨_,_,e,hsl,hfr⟩:=HR1.out.fin (x:=.slice A5 n c5) (y:=.string seed) (t:=.int .i64 ((k:Int)+1))
        cases e
        exact ⟨hsl,hfr⟩
 · have z0:decide (z<(n:Int))=false:=decide_eq_false hz
   by_cases hq:seed.toList.isEmpty=true∨z=2147483647
   · have hd:drawS vals seed z m=(14,0):=by unfold drawS;rw [if_neg (by rw [hn];exact hz),if_pos hq]
     have HD:=Lib.hid hd;clear hd hall hg;by_cases he:seed.toList.isEmpty=true
     · clear hq
       go_wp2_with fail;refine bodyPost_ret (v:=.tuple #[.string ⟨#[]⟩,.agg #[.slice none 0 0,.string ⟨#[]⟩,.int .i64 0],.int .i64 14]) (by simp [results,Tryz.results72,go_sem,r0,r1,r2]) rfl ⟨.inr ⟨by rw [HD.out];decide,by rw [HD.out]⟩,HR0.out.a.bel3⟩
     · have hz3:z=2147483647:=hq.resolve_left he
       subst hz3;have he:seed.toList.isEmpty=false:=by simpa using he
       clear hq;go_wp2_with fail;refine bodyPost_ret (v:=.tuple #[.string ⟨#[]⟩,.agg #[.slice none 0 0,.string ⟨#[]⟩,.int .i64 0],.int .i64 14]) (by simp [results,Tryz.results72,go_sem,r0,r1,r2]) rfl ⟨.inr ⟨by rw [HD.out];decide,by rw [HD.out]⟩,HR0.out.a.bel3⟩
   · have he:seed.toList.isEmpty=false:=by
      cases hh:seed.toList.isEmpty
      · rfl
      · exact absurd (.inl hh) hq
     have hz3:¬ z=2147483647:=fun e=>hq (.inr e)
     have z3:(z==2147483647)=false:=by rw [beq_eq_false_iff_ne];exact hz3
     have hd:drawS vals seed z m=match tryF seed z m with|some x=>(0,x)|none=>(14,0):=by
      unfold drawS;rw [if_neg (by rw [hn];exact hz),if_neg hq];rfl
     have HD:=Lib.hid hd;clear hd hall hg hq;have hbl:1≤bitsN m∧bitsN m≤64:=⟨by unfold bitsN;rw [if_neg (by omega)];omega,bitsN_le (by omega)⟩;have KB:=fun w=>r01_Bits (B m) w (valid_B (Nat.lt_trans hm1 (by decide)))
     rw [show natBits (B m)=bitsN m by unfold natBits;rw [valid_B (Nat.lt_trans hm1 (by decide)),num_B];rfl] at KB;have KT:=fun (a:Nat) w (ha:a<256)=>r06_attempt seed z (a:Int) (bitsN m) w h0 h1 (by omega) (by omega) hs hbl.1 hbl.2
     have KC:=fun (X:Nat) (hX:X<lim) w=>r01_Cmp (B X) (B m) w
     have KB:=Lib.hid KB;have KT:=Lib.hid KT;have KC:=Lib.hid KC;have HM:=Lib.hid hm1;have z1:(z==2147483647)=false:=z3;clear hbl h0 h1 hm0 hm1 hs;go_wp2_with fail;clear t0 t1 t2 x0 x1 x2 r0 r1 r2 g0 g1 g2;go_loopw [8] (fun v wr=>∃ k:Nat,v=.int .i64 k∧k≤256∧(∀ j:Nat,j<k→¬ attN seed z j (bitsN m)<m)∧RdAt w wr A n c seed z (.slice A5 n c5) vals) (fun v _=>256-(intOf v).toNat)
     case atStart=>exact ⟨0,rfl,by decide,fun j h=>absurd h (Nat.not_lt_zero _),HR0.out⟩
     case round =>
      clear HR0;obtain ⟨k,rfl,hk,hno,hr⟩:=hrel;have HR:=Lib.hid hr;have HNO:=Lib.hid hno;clear hno hr;by_cases hlt:k<256
      · have KT1:=Lib.hid (fun w=>KT.out k w hlt)
        obtain ⟨X,hX⟩:∃ X,X=attN seed z k (bitsN m):=⟨_,rfl⟩;rw [← hX] at KT1;have hXl:X<lim:=by rw [hX];unfold attN;exact Nat.lt_of_lt_of_le (Nat.mod_lt _ (Nat.pow_pos (by decide))) (Nat.le_trans (Nat.pow_le_pow_right (by decide) (bitsN_le (x:=m) (k:=64) HM.out)) (by decide))
        have KC1:=fun w=>KC.out X hXl w
        rw [natCmp_BB hXl (Nat.lt_trans HM.out (by decide))] at KC1;have hneg:=cmpN_neg (x:=X) (y:=m);obtain ⟨y,hy⟩:∃ y,y=cmpN X m:=⟨_,rfl⟩;rw [← hy] at KC1 hneg;have KC1:=Lib.hid KC1;have HX:=Lib.hid hX;have HLT:=Lib.hid hlt;have HW:=Lib.hid (show wrap64 ((k:Int)+1)=(k:Int)+1 from IntWalk.wrap64_in _ (by omega));have k1:decide ((k:Int)<256)=true:=decide_eq_true (by omega);obtain ⟨t0,t1,t2,x0,x1,x2⟩:=HR.out.cells;clear hX hXl hy hk;go_wp2_with fail
        go_region_held3 (fun w'=>w'.cell? ⟨w.heap.size,1,none⟩=some (.string seed)∧w'.cell? ⟨w.heap.size,2,none⟩=some (.int .i64 z)) (first|go_keep) (first
         | (go_at_call 129;(with_reducible refine (KB.out _).mono ?_);rintro e w5 ⟨rfl,rfl⟩)
         | (go_at_call 128;(with_reducible refine (KT1.out _).mono ?_);rintro e w6 ⟨rfl,hb6⟩;have HR6:Hid (RdAt w w6 A n c seed z (.slice A5 n c5) vals):=(by first|exact Lib.hid (HR.out.next hb6)|exact Lib.hid ((HR.out.next (Below.refl _ _).drew).next hb6));obtain ⟨t0,t1,t2,x0,x1,x2⟩:=HR6.out.cells;clear hb6))
        all_goals
         by_cases hxm:X<m
         · have y0:decide (y<0)=true:=decide_eq_true (hneg.2 hxm)
           have HD2:Hid (drawS vals seed z m=(0,X)):=Lib.hid (by
            rw [HD.out,find_hit HLT.out HNO.out (by rw [← HX.out];exact hxm),← HX.out])
           clear hxm hneg hlt;go_upto_region 14 with (go_at_call 123;(with_reducible refine (KC1.out _).mono ?_);rintro e w7 ⟨rfl,hb7⟩;have HR7:Hid (RdAt w w7 A n c seed z (.slice A5 n c5) vals):=(by first|exact Lib.hid (HR6.out.next hb7)|exact Lib.hid ((HR6.out.next (Below.refl _ _).drew).next hb7));obtain ⟨t0,t1,t2,x0,x1,x2⟩:=HR7.out.cells;obtain ⟨r0,r1,r2,g0,g1,g2⟩:=HR7.out.a.r0;clear hb7)
           have hx2:w.heap.size+2=w.heap.size+1+1:=rfl;rw [hx2] at x0 x1 x2;clear hx2;go_region
           all_goals
            go_wp2_with fail;refine bodyPost_ret (v:=.tuple #[.string (B X),.agg #[.slice A5 n c5,.string seed,.int .i64 (z+1)],.int .i64 0]) (by simp [results,Tryz.results72,go_sem,r0,r1,r2]) rfl ⟨.inl ⟨by rw [HD2.out],A5,c5,by rw [HD2.out],?_⟩,HR7.out.a.bel3.drew⟩;obtain ⟨_,_,e,hsl,hfr⟩:=HR7.out.fin (x:=.slice A5 n c5) (y:=.string seed) (t:=.int .i64 (z+1))
            cases e
            exact ⟨hsl,hfr⟩
         · have y0:decide (y<0)=false:=decide_eq_false (fun h=>hxm (hneg.1 h))
           have HNX:Hid (¬ attN seed z k (bitsN m)<m):=Lib.hid (by rw [← HX.out];exact hxm);clear hxm hneg hlt;go_wp2_with (go_at_call 123;(with_reducible refine (KC1.out _).mono ?_);rintro e w7 ⟨rfl,hb7⟩;have HR7:Hid (RdAt w w7 A n c seed z (.slice A5 n c5) vals):=(by first|exact Lib.hid (HR6.out.next hb7)|exact Lib.hid ((HR6.out.next (Below.refl _ _).drew).next hb7));clear hb7);go_roundw
           case rel=>exact ⟨k+1,by rw [HW.out];rfl,HLT.out,fun j hj=>by
            by_cases e:j=k
            · subst e;exact HNX.out
            · exact HNO.out j (by omega),HR7.out⟩
           case measure=>rw [HW.out];have:=HLT.out;show 256-((k:Int)+1).toNat<256-(k:Int).toNat;omega
      · obtain rfl:k=256:=by omega
        have HD2:Hid (drawS vals seed z m=(14,0)):=Lib.hid (by rw [HD.out,find_miss HNO.out]);obtain ⟨r0,r1,r2,g0,g1,g2⟩:=HR.out.a.r0;clear hlt hk;go_wp2_with fail;refine bodyPost_ret (v:=.tuple #[.string ⟨#[]⟩,.agg #[.slice none 0 0,.string ⟨#[]⟩,.int .i64 0],.int .i64 14]) (by simp [results,Tryz.results72,go_sem,r0,r1,r2]) rfl ⟨.inr ⟨by rw [HD2.out];decide,by rw [HD2.out]⟩,HR.out.a.bel3⟩
end Go.Proofs.YtiacajjpkncomaaGreatDoor
namespace Go.Proofs.YtiacajjpkncomaaGreatDoor
open Go.RowKit
set_option maxRecDepth 100000
set_option linter.unusedVariables false
set_option maxHeartbeats 4000000
theorem r06_Below (vals:List ByteArray) (A:Option Addr) (n c:Nat) (seed:ByteArray) (z:Int) (m:Nat) (w:World) (hn:vals.length=n) (hm:n≤1000) (h:SLs w w.heap.size A vals)
  (hm0:1≤m) (hm1:m<18446744073709551616) (hs:seed.size≤100000) :
  Calls Tryz.prog 29 #[.agg #[.slice A n c,.string seed,.int .i64 z],.string (B m)] w fun e w'=>drawPostR w.heap.size (belowS vals seed z m) n seed z vals e w'∧Below w.heap.size w w':=by
 have HA0:=Lib.hid (AtB.start w A n c seed z);have hsz0:((w.alloc (.cells #[.slice A n c,.string seed,.int .i64 z] 39)).alloc (.cells #[.slice none 0 0,.string ⟨#[]⟩,.int .i64 0] 39)).heap.size=w.heap.size+2:=by rw [World.size_alloc,World.size_alloc]
 have KG:=fun wq (h1:Below w.heap.size w wq)=>r06_Good vals A n c seed z wq hn (Nat.le_trans hm (by decide)) ((h.below h1).more h1.size)
 have KV:=Lib.hid (fun w=>r01_Valid (B m) w);rw [valid_B (Nat.lt_trans hm1 (by decide))] at KV;have eB:(B m).toList.isEmpty=false:=B_isEmpty_false (by omega);have HZ0:=Lib.hid hsz0
 cases hg:goodT vals z
 · rw [hg] at KG
   have KG:=Lib.hid KG;have hd:belowS vals seed z m=(3,0):=by unfold belowS;rw [hg];rfl
   have HD:=Lib.hid hd;clear hn h hs hd hg hm0 hm1 hsz0
   go_enter Tryz.func29, Tryz.ntmps29
   go_wp2_with (first
    | (go_at_call 27;(with_reducible refine (KG.out _ HA0.out.bel).mono ?_);rintro e w1 ⟨rfl,hb1⟩
       have HA1:=Lib.hid (HA0.out.next hb1);obtain ⟨r0,r1,r2,g0,g1,g2⟩:=HA1.out.r0
       clear hb1))
   refine bodyPost_ret (v:=.tuple #[.string ⟨#[]⟩,.agg #[.slice none 0 0,.string ⟨#[]⟩,.int .i64 0],.int .i64 3]) (by simp [results,Tryz.results29,go_sem,r0,r1,r2]) rfl ⟨.inr ⟨by rw [HD.out];decide,by rw [HD.out]⟩,HA1.out.bel3⟩
 · rw [hg] at KG
   have KG:=Lib.hid KG;have hd:belowS vals seed z m=drawS vals seed z m:=by unfold belowS;rw [hg];rfl
   have KD:=fun wq (h1:Below w.heap.size w wq)=>r06_draw vals A n c seed z m wq hn hm ((h.below h1).more h1.size) hg hm0 hm1 hs
   obtain ⟨d,hdd⟩:∃ d,d=drawS vals seed z m:=⟨_,rfl⟩;rw [← hdd] at KD hd;have HD:=Lib.hid hd;clear hn h hs hd hg hm0 hm1 hdd hsz0;by_cases h0:d.1=0
   · have KE:Hid (∀ wq,Below w.heap.size w wq→Calls Tryz.prog 72 #[.agg #[.slice A n c,.string seed,.int .i64 z],.string (B m)] wq fun e w'=>(∃ A' c',e=.returned (.tuple #[.string (B d.2),.agg #[.slice A' n c',.string seed,.int .i64 (z+1)],.int .i64 0])∧SLs w' w'.heap.size A' vals∧∀ a,A'=some a→wq.heap.size≤a.block)∧Below wq.heap.size wq w'):=Lib.hid (fun wq h1=>(KD wq h1).mono (by
      rintro e w' ⟨⟨_,hp⟩|⟨h,_⟩,hb⟩
      · exact ⟨hp,hb⟩
      · exact absurd h0 h))
     have H0:=Lib.hid h0;clear h0 KD
     go_enter Tryz.func29, Tryz.ntmps29
     go_wp2_with (first
      | (go_at_call 27;(with_reducible refine (KG.out _ HA0.out.bel).mono ?_);rintro e w1 ⟨rfl,hb1⟩
         have HA1:=Lib.hid (HA0.out.next hb1);have HS1:=Lib.hid (show w.heap.size+2≤w1.heap.size by have:=hb1.size;have:=HZ0.out;omega);have t0:=HA1.out.t0;have t1:=HA1.out.t1;have t2:=HA1.out.t2
         clear hb1)
      | (go_at_call 62;(with_reducible refine (KV.out _).mono ?_);rintro e w4 ⟨rfl,rfl⟩)
      | (go_at_call 72;(with_reducible refine (KE.out _ HA1.out.bel).mono ?_);rintro e w2 ⟨⟨A',c',rfl,hsl,hfr⟩,hb2⟩
         have HA2:=Lib.hid (HA1.out.next hb2);have HSL:=Lib.hid hsl;have HFR:=Lib.hid hfr;obtain ⟨r0,r1,r2,g0,g1,g2⟩:=HA2.out.r0
         clear hb2 hsl hfr))
     refine bodyPost_ret (v:=.tuple #[.string (B d.2),.agg #[.slice A' n c',.string seed,.int .i64 (z+1)],.int .i64 0]) (by simp [results,Tryz.results29,go_sem,r0,r1,r2]) rfl ⟨.inl ⟨by rw [HD.out];exact H0.out,A',c',by rw [HD.out],?_⟩,HA2.out.bel3⟩;have hsl:=HSL.out.far3 (b:=w.heap.size+1) (x:=.slice A' n c') (y:=.string seed) (t:=.int .i64 (z+1)) (fun a ha e=>by have:=HFR.out a ha;have:=HS1.out;omega);exact ⟨by simpa using hsl,fun a ha=>by have:=HFR.out a ha;have:=HS1.out;omega⟩
   · have KE:Hid (∀ wq,Below w.heap.size w wq→Calls Tryz.prog 72 #[.agg #[.slice A n c,.string seed,.int .i64 z],.string (B m)] wq fun e w'=>e=.returned (.tuple #[.string ⟨#[]⟩,.agg #[.slice none 0 0,.string ⟨#[]⟩,.int .i64 0],.int .i64 d.1])∧Below wq.heap.size wq w'):=Lib.hid (fun wq h1=>(KD wq h1).mono (by
      rintro e w' ⟨⟨h,_⟩|⟨_,hp⟩,hb⟩
      · exact absurd h h0
      · exact ⟨hp,hb⟩))
     have H0:=Lib.hid h0;clear h0 KD
     go_enter Tryz.func29, Tryz.ntmps29
     go_wp2_with (first
      | (go_at_call 27;(with_reducible refine (KG.out _ HA0.out.bel).mono ?_);rintro e w1 ⟨rfl,hb1⟩
         have HA1:=Lib.hid (HA0.out.next hb1);have t0:=HA1.out.t0;have t1:=HA1.out.t1;have t2:=HA1.out.t2
         clear hb1)
      | (go_at_call 62;(with_reducible refine (KV.out _).mono ?_);rintro e w4 ⟨rfl,rfl⟩)
      | (go_at_call 72;(with_reducible refine (KE.out _ HA1.out.bel).mono ?_);rintro e w2 ⟨rfl,hb2⟩
         have HA2:=Lib.hid (HA1.out.next hb2);obtain ⟨r0,r1,r2,g0,g1,g2⟩:=HA2.out.r0
         clear hb2))
     refine bodyPost_ret (v:=.tuple #[.string ⟨#[]⟩,.agg #[.slice none 0 0,.string ⟨#[]⟩,.int .i64 0],.int .i64 d.1]) (by simp [results,Tryz.results29,go_sem,r0,r1,r2]) rfl ⟨.inr ⟨by rw [HD.out];exact H0.out,by rw [HD.out]⟩,HA2.out.bel3⟩
end Go.Proofs.YtiacajjpkncomaaGreatDoor
