/- The walks of the reference of layer 1 (natural). The walks of the reference of layer 1: bits, division of short numbers, greatest common divisor. The walks of the reference of layer 1: products. The walks of the reference of layer 1: sums and differences of any length. The walks of the reference of layer 1: long division. -/
import Derived.Test.YtiacajjpkncomaaGreatDoorExBW
namespace Go.Proofs.YtiacajjpkncomaaGreatDoor
open Go.RowKit
set_option maxRecDepth 100000
set_option linter.unusedVariables false
set_option maxHeartbeats 400000
theorem below_drewNr {B:Nat} {a w:World} (h:Below B a w) (n:Nat):Below B a (w.drewN n):=⟨h.os,h.tape,h.output,h.size,h.block⟩
theorem valid_pos' {s:ByteArray} (h:0<s.size):valid s=(decide ((s.size:Int)≤128)&&((s[0].toNat:Int) != 0)):=by
 have h1:((s.size:Int)==0)=false:=by rw [beq_eq_false_iff_ne];omega
 rw [valid_pos h,h1,Bool.false_or]
theorem isEmpty_size {s:ByteArray} (h:0<s.size):s.toList.isEmpty=false:=by
 rw [ByteArray.toList_eq];obtain ⟨⟨l⟩⟩:=s
 cases l with
 | nil=>simp [ByteArray.size] at h
 | cons b l=>rfl
theorem r01_Valid (s:ByteArray) (w:World) :
  Calls Tryz.prog 62 #[.string s] w fun e w'=>e=.returned (.bool (valid s))∧w=w':=by
 by_cases h0:0<s.size
 · have hv:=Lib.hid (valid_pos' h0)
   have he:=isEmpty_size h0
   go_enter Tryz.func62, Tryz.ntmps62
   go_wp2
   all_goals
    go_ret;exact ⟨ret_bool (by rw [hv.out];first|(simp [*];done)|(simp;intros;omega)),rfl⟩
 · obtain rfl:s=ByteArray.empty:=by
    apply ByteArray.ext;apply Array.eq_empty_of_size_eq_zero;show s.size=0;omega
   go_enter Tryz.func62, Tryz.ntmps62
   go_wp2;go_ret;exact ⟨rfl,rfl⟩
theorem r01_trim (g o:Nat) (L:List UInt8) (n cap:Nat) (w:World) (hn:L.length=n) (hnc:n≤cap) (hm:n≤1000000) (hrow:Row w g o L) :
  Calls Tryz.prog 124 #[.slice (some ⟨g,o,none⟩) n cap] w fun e w'=>e=.returned (.string ⟨(trimL L).toArray⟩)∧w=w':=by
 have HN:=Lib.hid hn;have HR:=Lib.hid hrow;clear hn hrow
 go_enter Tryz.func124, Tryz.ntmps124
 go_wp2;go_loop [3] (fun v=>∃ k:Nat,k≤n∧trimL (L.drop k)=trimL L∧v=.int .i64 k) (fun v=>n-(intOf v).toNat)
 case atStart=>exact ⟨0,Nat.zero_le _,rfl,rfl⟩
 case round =>
  obtain ⟨k,hk,ht,rfl⟩:=hrel;have HT:=Lib.hid ht;clear ht;by_cases hlt:k<n
  · have hc:=HR.out k (by have:=HN.out;omega)
    by_cases h0:L.getD k 0=0
    · have H0:=Lib.hid h0
      have hc0:w.cell? ⟨g,o+k,none⟩=some (.int .u8 0):=by rw [hc,h0];rfl
      clear h0 hc;go_wp2;go_round
      case rel =>
       exact ⟨k+1,by omega,by rw [← trimL_drop_zero (by have:=HN.out;omega) H0.out,HT.out],by go_num⟩
      case measure=>simp [intOf];omega
    · obtain ⟨z,hz⟩:∃ z:Int,((L.getD k 0).toNat:Int)=z:=⟨_,rfl⟩
      have hb:(z==0)=false:=by
       rw [beq_eq_false_iff_ne];intro e;exact h0 (UInt8.toNat_inj.mp (by rw [e] at hz;simpa using hz))
      rw [hz] at hc;have H0:=Lib.hid h0;clear h0 hz;have hcv:=conv_row (HR.out.drop k) (n-k) (cap-k) (by have:=HN.out;simp;omega);generalize hS:(⟨(List.drop k L).toArray⟩:ByteArray)=S at hcv;have HS:=Lib.hid hS;clear hS;go_wp2;go_ret;exact ⟨ret_string (by rw [← HS.out,← HT.out,trimL_drop_stop (by have:=HN.out;omega) H0.out]),rfl⟩
  · obtain rfl:k=n:=by omega
    have hcv:=fun A=>conv_row_zero w g A (cap-k)
    by_cases hcap:cap=k
    · subst hcap
      have hcv:=fun A=>conv_row_zero w g A 0
      go_wp2;go_ret;refine ⟨ret_string ?_,rfl⟩;rw [← HT.out,List.drop_eq_nil_of_le (by have:=HN.out;omega)];rfl
    · go_wp2
      go_ret;refine ⟨ret_string ?_,rfl⟩;rw [← HT.out,List.drop_eq_nil_of_le (by have:=HN.out;omega)];rfl
theorem r01_Of (n:Nat) (w:World) (hn:n<18446744073709551616) :
  Calls Tryz.prog 67 #[.int .u64 n] w fun e w'=>e=.returned (.string (B n))∧Below w.heap.size w w':=by
 have hmk:∀ w,(Instr.makeSlice 94 (.int .i64 8) (.int .i64 8)).run Tryz.prog w=.ok (.slice (some ⟨w.heap.size,0,none⟩) 8 8) (w.alloc (.cells (cellsOf (List.replicate 8 0)) 5)):=make_bytes 8 (by omega)
 go_enter Tryz.func67, Tryz.ntmps67
 go_wp2;go_loopw [0,4] (fun c k wr=>∃ i:Nat,i≤8∧k=.int .i64 (7-(i:Int))∧c=.int .u64 (n/256^i:Nat)∧Bk wr w.heap.size 5 (fill 8 i n)∧Below w.heap.size w wr) (fun _ k _=>(intOf k+1).toNat)
 case atStart=>exact ⟨0,by omega,rfl,by rw [Nat.pow_zero,Nat.div_one],by rw [fill_zero];exact Bk.new w 5 (List.replicate 8 0),(Below.refl _ _).alloc (Nat.le_refl _) _⟩
 case round =>
  obtain ⟨i,hi,rfl,rfl,hb,hbel⟩:=hrel;by_cases hlt:i<8
  · have HB:=Lib.hid hb
    have hc:=hb.cell (k:=7-i) (by rw [fill_length _ hi];omega);have hf:=hb.free (7-i);obtain ⟨z,hz⟩:∃ z:Int,7-(i:Int)=z:=⟨_,rfl⟩;have hzz:z.toNat=7-i:=by omega
    have z0:0≤z:=by omega
    have z1:z≤7:=by omega
    have HZ:=Lib.hid hz;have hnn:n/256^i<18446744073709551616:=Nat.lt_of_le_of_lt (Nat.div_le_self _ _) hn;have hnx:n/256^i/256=n/256^(i+1):=by rw [Nat.div_div_eq_div_mul,← Nat.pow_succ]
    have hset:=fill_set (N:=8) n hlt;have HSET:=Lib.hid hset;clear hset;generalize n/256^i=m at *
    rw [hz];have HNX:=Lib.hid hnx;clear hb hz hnx;go_wp2;go_roundw
    case rel =>
     refine ⟨i+1,by omega,by have:=HZ.out;rw [show z-1=7-((i+1:Nat):Int) by omega],by rw [← HNX.out];rfl,?_,hbel.setCell (by simp) _⟩;rw [u8_wrap_nat];have:=HB.out.set (7-i) (UInt8.ofNat m);rw [show 7-i=8-1-i by omega,HSET.out] at this;rw [show 7-i=8-1-i by omega];exact this
    case measure=>simp [intOf];omega
  · obtain rfl:i=8:=by omega
    rw [fill_full] at hb;have HB:=Lib.hid hb;clear hb;go_wp2_with (go_at_call 124;refine (r01_trim w.heap.size 0 (be 8 n) 8 8 _ (be_length _ _) (by omega) (by omega) HB.out.row).mono ?_;rintro e w' ⟨rfl,rfl⟩);go_ret;exact ⟨ret_string (by rw [trimL_be (by omega)];rfl),hbel⟩
theorem r01_U64 (s:ByteArray) (w:World) (h:s.size≤8) :
  Calls Tryz.prog 132 #[.string s] w fun e w'=>e=.returned (.int .u64 (num s:Nat))∧w=w':=by
 have HE:=Lib.hid (show num s=val (s.data.toList.take s.size) by rw [size_eq,List.take_length];rfl)
 go_enter Tryz.func132, Tryz.ntmps132
 go_wp2;go_loop [3,4] (fun n c=>∃ i:Nat,i≤s.size∧c=.int .i64 i∧n=.int .u64 (val (s.data.toList.take i):Nat)) (fun _ c=>s.size-(intOf c).toNat)
 case atStart=>exact ⟨0,by omega,rfl,rfl⟩
 case round =>
  obtain ⟨i,hi,rfl,rfl⟩:=hrel;by_cases hlt:i<s.size
  · have h1:=val_take_lt s.data.toList (i+1)
    have h2:256^(i+1)≤256^8:=Nat.pow_le_pow_right (by omega) (by omega);have h3:(s.data.toList)[i]'(by rw [← size_eq];exact hlt)=s[i]:=rfl;have h4:=val_take_succ s.data.toList i (by rw [← size_eq];exact hlt);rw [h3] at h4;have h5:val (s.data.toList.take i)*256+s[i].toNat<18446744073709551616:=by rw [← h4];omega
    have H4:=Lib.hid h4;have h6:=s[i].toNat_lt;clear h1 h2 h3 h4;generalize val (s.data.toList.take i)=v at *
    go_wp2;go_round
    case rel=>exact ⟨i+1,by omega,by go_num,by rw [H4.out];go_num⟩
    case measure=>simp [intOf];omega
  · obtain rfl:i=s.size:=by omega
    go_wp2;go_ret;exact ⟨ret_int (by rw [HE.out]),rfl⟩
theorem r01_Small (s:ByteArray) (w:World) :
  Calls Tryz.prog 201 #[.string s] w fun e w'=>e=.returned (.tuple #[.int .u64 (natSmall s).1,.bool (natSmall s).2])∧w=w':=by
 cases hv:valid s
 · have HR:=Lib.hid (show natSmall s=(0,false) by unfold natSmall;simp [hv])
   go_enter Tryz.func201, Tryz.ntmps201
   go_wp2_with (go_at_call 62;refine (r01_Valid _ _).mono ?_;rintro e w' ⟨rfl,rfl⟩);go_ret2;exact ⟨ret_ib (by rw [HR.out];rfl) (by rw [HR.out]),rfl⟩
 · by_cases h8:s.size≤8
   · have HR:=Lib.hid (show natSmall s=(num s,true) by unfold natSmall;rw [hv];simp [h8])
     go_enter Tryz.func201, Tryz.ntmps201
     go_wp2_with (first|(go_at_call 62;refine (r01_Valid _ _).mono ?_;rintro e w' ⟨rfl,rfl⟩)|(go_at_call 132;refine (r01_U64 _ _ h8).mono ?_;rintro e w' ⟨rfl,rfl⟩));go_ret2;exact ⟨ret_ib (by rw [HR.out]) (by rw [HR.out]),rfl⟩
   · have HR:=Lib.hid (show natSmall s=(0,false) by unfold natSmall;simp [h8])
     go_enter Tryz.func201, Tryz.ntmps201
     go_wp2_with (first|(go_at_call 62;refine (r01_Valid _ _).mono ?_;rintro e w' ⟨rfl,rfl⟩));go_ret2;exact ⟨ret_ib (by rw [HR.out];rfl) (by rw [HR.out]),rfl⟩
theorem r01_at (s:ByteArray) (i:Nat) (w:World) (hi:i≤1000000) (hs:s.size≤1000000) :
  Calls Tryz.prog 130 #[.string s,.int .i64 i] w fun e w'=>e=.returned (.int .i64 ((num s/256^i%256:Nat):Int))∧w=w':=by
 by_cases h:i<s.size
 · have hd:=Lib.hid (num_digit s i h)
   go_enter Tryz.func130, Tryz.ntmps130
   go_wp2;go_ret;refine ⟨ret_int ?_,rfl⟩;rw [wrap64_byte,hd.out]
 · have hd:=Lib.hid (num_digit_high s i (by omega))
   go_enter Tryz.func130, Tryz.ntmps130
   go_wp2;go_ret;exact ⟨ret_int (by rw [hd.out];rfl),rfl⟩
theorem val_first_lt {l m:List UInt8} {k:Nat} (hl:l.length=m.length) (hk:k<l.length) (ht:l.take k=m.take k) (h:l[k].toNat<(m[k]'(by omega)).toNat):val l<val m:=by
 have e1:l=l.take k++l[k]::l.drop (k+1):=by
  conv=>lhs;rw [← List.take_append_drop k l]
  rw [List.drop_eq_getElem_cons hk]
 have hk':k<m.length:=by omega
 have e2:m=m.take k++m[k]::m.drop (k+1):=by
  conv=>lhs;rw [← List.take_append_drop k m]
  rw [List.drop_eq_getElem_cons hk']
 rw [e1,e2,ht,val_append,val_append,val_cons,val_cons];have d:(l.drop (k+1)).length=(m.drop (k+1)).length:=by simp;omega
 have h1:=val_lt (l.drop (k+1));simp only [List.length_cons,d] at *
 generalize 256^(m.drop (k+1)).length=p at *
 have h2:=Nat.mul_le_mul_right p (show l[k].toNat+1≤m[k].toNat by omega);rw [Nat.add_mul,Nat.one_mul] at h2;omega
theorem r01_Order (x y:Nat) (w:World) (sx:(B x).size≤1000000) (sy:(B y).size≤1000000) :
  Calls Tryz.prog 133 #[.string (B x),.string (B y)] w fun e w'=>e=.returned (.int .i64 (cmpN x y))∧Below w.heap.size w w':=by
 have ex:=num_B x;have ey:=num_B y;have hsx:=fun h=>length_lt_of_val (l:=enc x) (m:=enc y) (lead_enc y) h
 have hsy:=fun h=>length_lt_of_val (l:=enc y) (m:=enc x) (lead_enc x) h
 rw [val_enc,val_enc,← B_size,← B_size] at hsx hsy;generalize B x=a at *
 generalize B y=b at *
 have HX:=Lib.hid ex;have HY:=Lib.hid ey;have HSX:=Lib.hid hsx;have HSY:=Lib.hid hsy;clear ex ey hsx hsy;by_cases hs:a.size=b.size
 · have HS:=Lib.hid hs
   have hb:((a.size:Int) != (b.size:Int))=false:=by rw [hs];simp
   clear hs
   go_enter Tryz.func133, Tryz.ntmps133
   go_wp2;go_loopw [5] (fun c wr=>∃ i:Nat,i≤a.size∧c=.int .i64 i∧a.data.toList.take i=b.data.toList.take i∧Below w.heap.size w wr) (fun c _=>a.size-(intOf c).toNat)
   case atStart=>exact ⟨0,by omega,rfl,rfl,Below.refl _ _⟩
   case round =>
    obtain ⟨i,hi,rfl,ht,hbel⟩:=hrel;have HT:=Lib.hid ht;clear ht;by_cases hlt:i<a.size
    · have hlt2:i<b.size:=by rw [← HS.out];exact hlt
      have ga:(a.data.toList)[i]'(by rw [← size_eq];exact hlt)=a[i]:=rfl;have gb:(b.data.toList)[i]'(by rw [← size_eq];exact hlt2)=b[i]:=rfl
      have hts:a.data.toList.take (i+1)=b.data.toList.take (i+1)↔a[i]=b[i]:=by
       rw [List.take_succ_eq_append_getElem (by rw [← size_eq];exact hlt),List.take_succ_eq_append_getElem (by rw [← size_eq];exact hlt2),HT.out,ga,gb];simp
      have HTS:=Lib.hid hts;have h255a:=a[i].toNat_lt;have h255b:=b[i].toNat_lt;clear hts ga gb;by_cases heq:a[i]=b[i]
      · have hb1:((a[i].toNat:Int) != (b[i].toNat:Int))=false:=by rw [heq];simp
        have HEQ:=Lib.hid heq;clear heq;go_wp2;go_quiet (fail)
        all_goals
         go_wp2;go_roundw
         case rel=>exact ⟨i+1,by omega,by go_num,HTS.out.2 HEQ.out,below_drewNr hbel _⟩
         case measure=>simp [intOf];omega
      · have hne:a[i].toNat≠b[i].toNat:=fun h=>heq (UInt8.toNat_inj.mp h)
        have hb1:((a[i].toNat:Int) != (b[i].toNat:Int))=true:=by rw [bne_iff_ne];omega
        clear heq;by_cases hl:a[i].toNat<b[i].toNat
        · have hb2:decide (a[i].toNat<b[i].toNat)=true:=by simpa using hl
          have HC:=Lib.hid (cmpN_lt (show x<y by
           rw [← HX.out,← HY.out]
           exact val_first_lt (k:=i) (by rw [← size_eq,← size_eq];exact HS.out) (by rw [← size_eq];exact hlt) HT.out hl))
          clear hl hne;go_wp2;go_quiet (fail)
          all_goals
           go_wp2;go_quiet (fail)
           all_goals
            go_wp2;go_ret;exact ⟨ret_int (by rw [HC.out]),below_drewNr (below_drewNr hbel _) _⟩
        · have hb2:decide (a[i].toNat<b[i].toNat)=false:=by simp;omega
          have HC:=Lib.hid (cmpN_gt (show y<x by
           rw [← HX.out,← HY.out]
           exact val_first_lt (k:=i) (by rw [← size_eq,← size_eq];exact HS.out.symm) (by rw [← size_eq];exact hlt2) HT.out.symm (show b[i].toNat<a[i].toNat by omega)))
          clear hl hne;go_wp2;go_quiet (fail)
          all_goals
           go_wp2;go_quiet (fail)
           all_goals
            go_wp2;go_ret;exact ⟨ret_int (by rw [HC.out]),below_drewNr (below_drewNr hbel _) _⟩
    · obtain rfl:i=a.size:=by omega
      have HC:Hid (cmpN x y=0):=by
       apply Lib.hid;have h1:=HT.out;have h2:b.data.toList.take a.size=b.data.toList:=by rw [HS.out,size_eq,List.take_length]
       rw [h2,size_eq,List.take_length] at h1;have:x=y:=by rw [← HX.out,← HY.out];unfold num;rw [h1]
       subst this;unfold cmpN;simp
      go_wp2;go_ret;exact ⟨ret_int (by rw [HC.out]),hbel⟩
 · have hb:((a.size:Int) != (b.size:Int))=true:=by rw [bne_iff_ne];omega
   by_cases hl:a.size<b.size
   · have HC:=Lib.hid (cmpN_lt (HSX.out hl))
     have hb2:decide ((a.size:Int)<(b.size:Int))=true:=by simpa using hl
     go_enter Tryz.func133, Tryz.ntmps133
     go_wp2;go_ret;exact ⟨ret_int (by rw [HC.out]),Below.refl _ _⟩
   · have HC:=Lib.hid (cmpN_gt (HSY.out (by omega)))
     have hb2:decide ((a.size:Int)<(b.size:Int))=false:=by simp;omega
     go_enter Tryz.func133, Tryz.ntmps133
     go_wp2;go_ret;exact ⟨ret_int (by rw [HC.out]),Below.refl _ _⟩
end Go.Proofs.YtiacajjpkncomaaGreatDoor
namespace Go.Proofs.YtiacajjpkncomaaGreatDoor
open Go.RowKit
set_option maxRecDepth 100000
set_option linter.unusedVariables false
set_option maxHeartbeats 400000
theorem r01_fit (n:Nat) (w:World) :
  Calls Tryz.prog 73 #[.string (B n)] w fun e w'=>e=.returned (.tuple #[.string (fitted n).1,.int .i64 (fitted n).2])∧w=w':=by
 have hf:(fitted n).1=(if n<lim then B n else E0)∧(fitted n).2=(if n<lim then 0 else 5):=by unfold fitted;split<;>exact ⟨rfl,rfl⟩
 have HF:=Lib.hid hf;clear hf;by_cases h:n<lim
 · have h2:=B_size_le.2 h
   have H:=Lib.hid h;clear h
   go_enter Tryz.func73, Tryz.ntmps73
   go_wp2;go_ret2;exact ⟨ret_se (by rw [HF.out.1,if_pos H.out]) (by rw [HF.out.2,if_pos H.out]),rfl⟩
 · have h2:¬ (B n).size≤128:=fun h2=>h (B_size_le.1 h2)
   have H:=Lib.hid h;clear h
   go_enter Tryz.func73, Tryz.ntmps73
   go_wp2;go_ret2;exact ⟨ret_se (by rw [HF.out.1,if_neg H.out];rfl) (by rw [HF.out.2,if_neg H.out]),rfl⟩
theorem r01_Cmp (a b:ByteArray) (w:World) :
  Calls Tryz.prog 123 #[.string a,.string b] w fun e w'=>e=.returned (.int .i64 (natCmp a b))∧Below w.heap.size w w':=by
 by_cases ha:valid a=true
 · by_cases hb:valid b=true
   · have hc:natCmp a b=cmpN (num a) (num b):=by unfold natCmp;rw [ha,hb];rfl
     have HC:=Lib.hid hc;have sa:=valid_size ha;have sb:=valid_size hb;have ea:=B_num ha;have eb:=B_num hb;generalize num a=x at *
     generalize num b=y at *
     subst ea;subst eb;have HO:=Lib.hid (fun w=>r01_Order x y w (by omega) (by omega));clear hc sa sb
     go_enter Tryz.func123, Tryz.ntmps123
     go_wp2_with (first|(go_at_call 62;refine (r01_Valid _ _).mono ?_;rintro e w' ⟨rfl,rfl⟩)|(go_at_call 133;refine (HO.out _).mono ?_;rintro e w' ⟨rfl,hb1⟩));go_ret;exact ⟨ret_int HC.out.symm,hb1⟩
   · have hb':valid b=false:=by simpa using hb
     have hc:natCmp a b=0:=by unfold natCmp;rw [hb'];simp
     have HC:=Lib.hid hc;clear hc hb
     go_enter Tryz.func123, Tryz.ntmps123
     go_wp2_with (first|(go_at_call 62;refine (r01_Valid _ _).mono ?_;rintro e w' ⟨rfl,rfl⟩));go_ret;exact ⟨ret_int HC.out.symm,Below.refl _ _⟩
 · have ha':valid a=false:=by simpa using ha
   have hc:natCmp a b=0:=by unfold natCmp;rw [ha'];simp
   have HC:=Lib.hid hc;clear hc ha
   go_enter Tryz.func123, Tryz.ntmps123
   go_wp2_with (first|(go_at_call 62;refine (r01_Valid _ _).mono ?_;rintro e w' ⟨rfl,rfl⟩));go_ret;exact ⟨ret_int HC.out.symm,Below.refl _ _⟩
theorem bits_lead {s:ByteArray} (hv:valid s=true) (h:0<s.size):∃ k,(natBits s:Int)=8*((s.size:Int)-1)+((k+1:Nat):Int)∧2^k≤s[0].toNat∧s[0].toNat<2^(k+1):=by
 have h0:s[0].toNat≠0:=by
  intro e;have:=valid_pos' h;rw [hv,e] at this;simp at this
 obtain ⟨k,hk,h1,h2⟩:=bitLen_pos h0 s[0].toNat_lt;exact ⟨k,by rw [bits_of_bytes hv h,hk];rfl,h1,h2⟩
theorem natBits_empty:natBits ByteArray.empty=0:=by unfold natBits;simp [valid_empty,num,val,bitsN]
theorem r01_bits (s:ByteArray) (w:World) (hv:valid s=true) :
  Calls Tryz.prog 121 #[.string s] w fun e w'=>e=.returned (.int .i64 (natBits s))∧w=w':=by
 have hs:=valid_size hv;by_cases h0:0<s.size
 · have he:=isEmpty_size h0
   obtain ⟨K,hK,p1,p2⟩:=bits_lead hv h0
   have hK8:K≤7:=by
    rcases Nat.lt_or_ge 7 K with h|h
    · have:=s[0].toNat_lt
      have:2^8≤2^K:=Nat.pow_le_pow_right (by omega) h;omega
    · exact h
   have HK:=Lib.hid hK;have HV:=Lib.hid hv;have P1:=Lib.hid p1;have P2:=Lib.hid p2;have hb:=wrap64_byte s[0];have h255:=s[0].toNat_lt;obtain ⟨d,hd⟩:∃ d,s[0].toNat=d:=⟨_,rfl⟩;rw [hd] at P1 P2 hb h255;clear hK p1 p2 hv
   go_enter Tryz.func121, Tryz.ntmps121
   go_wp2;clear hb hd;go_loop [3,4] (fun n x=>∃ k:Nat,k≤K+1∧n=.int .i64 (8*((s.size:Int)-1)+k)∧x=.int .i64 (d/2^k:Nat)) (fun _ x=>(intOf x).toNat)
   case atStart=>exact ⟨0,by omega,by simp,by simp⟩
   case round =>
    obtain ⟨k,hk,rfl,rfl⟩:=hrel;have hle:d/2^k≤d:=Nat.div_le_self _ _;by_cases hlt:k≤K
    · have hpos:0<d/2^k:=by
       refine Nat.div_pos (Nat.le_trans (Nat.pow_le_pow_right (by omega) hlt) P1.out) (Nat.two_pow_pos k)
      have hnx:d/2^k/2=d/2^(k+1):=by rw [Nat.div_div_eq_div_mul,← Nat.pow_succ]
      have HNX:=Lib.hid hnx;clear hnx;generalize d/2^k=m at *
      go_wp2;go_round
      case rel=>exact ⟨k+1,by omega,by go_num,by rw [← HNX.out];go_num⟩
      case measure=>simp [intOf];omega
    · obtain rfl:k=K+1:=by omega
      have hz:d/2^(K+1)=0:=Nat.div_eq_of_lt P2.out;rw [hz];go_wp2;go_ret;exact ⟨ret_int (by rw [HK.out];omega),rfl⟩
 · obtain rfl:s=ByteArray.empty:=by
    apply ByteArray.ext;apply Array.eq_empty_of_size_eq_zero;show s.size=0;omega
   have HK:=Lib.hid natBits_empty
   go_enter Tryz.func121, Tryz.ntmps121
   go_wp2;go_ret;exact ⟨ret_int (by rw [HK.out];rfl),rfl⟩
theorem r01_at_int (s:ByteArray) (z:Int) (i:Nat) (w:World) (hz:z=i) (hi:i≤1000000) (hs:s.size≤1000000) :
  Calls Tryz.prog 130 #[.string s,.int .i64 z] w fun e w'=>e=.returned (.int .i64 ((num s/256^i%256:Nat):Int))∧w=w':=by
 subst hz;exact r01_at s i w hi hs
theorem beq_mod2 (m:Nat):(((m:Int)%2)==1)=(m%2==1):=by
 rw [Bool.eq_iff_iff,beq_iff_eq,beq_iff_eq];omega
theorem r01_one (s:ByteArray) (z:Int) (i:Nat) (w:World) (hz:z=i) (hi:i≤1000000) (hs:s.size≤1000000) :
  Calls Tryz.prog 122 #[.string s,.int .i64 z] w fun e w'=>e=.returned (.bool (num s/2^i%2==1))∧w=w':=by
 subst hz;have hdg:=natBit_digit (num s) i;have hat:=fun w=>r01_at_int s ((i:Int)/8) (i/8) w (by omega) (by omega) hs
 obtain ⟨d,hd⟩:∃ d,num s/256^(i/8)%256=d:=⟨_,rfl⟩;have hdl:d<256:=by omega
 rw [hd] at hdg hat;obtain ⟨r,hr⟩:∃ r,i%8=r:=⟨_,rfl⟩;have hri:(i:Int)%8=(r:Int):=by omega
 have hr8:r<8:=by omega
 rw [hr] at hdg;have HDG:=Lib.hid hdg;have HAT:=Lib.hid hat;have HRI:=Lib.hid hri;clear hdg hat hd hr hri
 go_enter Tryz.func122, Tryz.ntmps122
 go_wp2_with (go_at_call 130;refine (HAT.out _).mono ?_;rintro e w' ⟨rfl,rfl⟩);go_loop [5,6] (fun x k=>∃ j:Nat,j≤r∧k=.int .i64 j∧x=.int .i64 (d/2^j:Nat)) (fun _ k=>r-(intOf k).toNat)
 case atStart=>exact ⟨0,by omega,rfl,by simp⟩
 case round =>
  obtain ⟨j,hj,rfl,rfl⟩:=hrel;have hle:d/2^j≤d:=Nat.div_le_self _ _;have hri:=HRI.out;by_cases hlt:j<r
  · have K1:decide ((j:Int)<(i:Int)%8)=true:=by rw [hri];simpa using hlt
    have hnx:d/2^j/2=d/2^(j+1):=by rw [Nat.div_div_eq_div_mul,← Nat.pow_succ]
    have HNX:=Lib.hid hnx;clear hnx hri;generalize d/2^j=m at *
    go_wp2;go_round
    case rel=>exact ⟨j+1,by omega,by go_num,by rw [← HNX.out];go_num⟩
    case measure=>simp [intOf];omega
  · obtain rfl:j=r:=by omega
    have K1:decide ((j:Int)<(i:Int)%8)=false:=by rw [hri];simp
    have HB:=Lib.hid (beq_mod2 (d/2^j));clear hri;generalize d/2^j=m at *
    go_wp2;go_ret;exact ⟨ret_bool (by rw [HB.out,HDG.out]),rfl⟩
theorem lt_pow_bitsN (n:Nat):n<2^bitsN n:=by
 unfold bitsN
 split
 · omega
 · exact Nat.lt_log2_self
theorem natBit_above {a:ByteArray} {i:Nat} (h:natBits a≤i):natBit a i=false:=by
 unfold natBit
 cases hv:valid a
 · rfl
 · unfold natBits at h
   rw [hv,if_pos rfl] at h;have h1:=lt_pow_bitsN (num a);have h2:2^bitsN (num a)≤2^i:=Nat.pow_le_pow_right (by omega) h;rw [Nat.div_eq_of_lt (by omega)];rfl
theorem r01_Bit (a:ByteArray) (z:Int) (i:Nat) (w:World) (hz:z=i) (hi:i≤100000) :
  Calls Tryz.prog 65 #[.string a,.int .i64 z] w fun e w'=>e=.returned (.bool (natBit a i))∧w=w':=by
 subst hz
 cases hv:valid a
 · have HR:=Lib.hid (show natBit a i=false by unfold natBit;rw [hv];rfl)
   go_enter Tryz.func65, Tryz.ntmps65
   go_wp2_with (first|(go_at_call 62;refine (r01_Valid _ _).mono ?_;rintro e w' ⟨rfl,rfl⟩));go_ret;exact ⟨ret_bool HR.out.symm,rfl⟩
 · have hb:=fun w=>r01_bits a w hv
   have ho:=fun w=>r01_one a i i w rfl (by omega) (by have:=valid_size hv;omega)
   have ha:=natBit_above (a:=a) (i:=i);have hr:natBit a i=(num a/2^i%2==1):=by unfold natBit;rw [hv];rfl
   generalize natBits a=nb at *
   have HB:=Lib.hid hb;have HO:=Lib.hid ho;have HA:=Lib.hid ha;have HR:=Lib.hid hr;clear hb ho ha hr;by_cases hlt:i<nb
   · have K1:decide ((i:Int)<(nb:Int))=true:=by simpa using hlt
     go_enter Tryz.func65, Tryz.ntmps65
     go_wp2_with (first|(go_at_call 62;refine (r01_Valid _ _).mono ?_;rintro e w' ⟨rfl,rfl⟩)|(go_at_call 121;refine (HB.out _).mono ?_;rintro e w' ⟨rfl,rfl⟩)|(go_at_call 122;refine (HO.out _).mono ?_;rintro e w' ⟨rfl,rfl⟩));go_ret;exact ⟨ret_bool HR.out.symm,rfl⟩
   · have K1:decide ((i:Int)<(nb:Int))=false:=by simp;omega
     go_enter Tryz.func65, Tryz.ntmps65
     go_wp2_with (first|(go_at_call 62;refine (r01_Valid _ _).mono ?_;rintro e w' ⟨rfl,rfl⟩)|(go_at_call 121;refine (HB.out _).mono ?_;rintro e w' ⟨rfl,rfl⟩)|(go_at_call 122;refine (HO.out _).mono ?_;rintro e w' ⟨rfl,rfl⟩));go_ret;exact ⟨ret_bool (HA.out (by omega)).symm,rfl⟩
theorem r01_Of' (z:Int) (n:Nat) (w:World) (hz:z=n) (hn:n<18446744073709551616) :
  Calls Tryz.prog 67 #[.int .u64 z] w fun e w'=>e=.returned (.string (B n))∧Below w.heap.size w w':=by
 subst hz;exact r01_Of n w hn
theorem r01_U64' (x:Nat) (w:World) (h:x<18446744073709551616) :
  Calls Tryz.prog 132 #[.string (B x)] w fun e w'=>e=.returned (.int .u64 (x:Nat))∧w=w':=by
 have:=r01_U64 (B x) w (B_size_le'.2 h);rw [num_B] at this;exact this
theorem r01_Over8 (x y:Nat) (w:World) (hx:x<18446744073709551616) (hy1:y<18446744073709551616) (hy:0<y) :
  Calls Tryz.prog 78 #[.string (B x),.string (B y)] w fun e w'=>e=.returned (.tuple #[.string (B (x/y)),.string (B (x%y))])∧Below w.heap.size w w':=by
 have hs:(B x).size≤8:=B_size_le'.2 hx;have hs2:(B y).size≤8:=B_size_le'.2 hy1;have HX:=Lib.hid hx;have HY:=Lib.hid hy1;clear hx hy1
 go_enter Tryz.func78, Tryz.ntmps78
 go_wp2_with (first|(go_at_call 132;(with_reducible refine (r01_U64' x _ HX.out).mono ?_);rintro e w' ⟨rfl,rfl⟩)|(go_at_call 132;(with_reducible refine (r01_U64' y _ HY.out).mono ?_);rintro e w' ⟨rfl,rfl⟩))
 have hq:IntKind.u64.wrap ((x:Int)/(y:Int))=((x/y:Nat):Int):=by
  have h1:x/y<18446744073709551616:=Nat.lt_of_le_of_lt (Nat.div_le_self x y) HX.out;have h2:((x:Int)/(y:Int))=((x/y:Nat):Int):=by simp
  rw [h2,IntKind.wrap_u64];generalize x/y=q at *
  omega
 have hm:((x:Int).tmod (y:Int))=((x%y:Nat):Int):=by rw [Int.tmod_eq_emod_of_nonneg (by omega)];simp
 have hql:x/y<18446744073709551616:=Nat.lt_of_le_of_lt (Nat.div_le_self x y) HX.out;have hml:x%y<18446744073709551616:=Nat.lt_of_le_of_lt (Nat.mod_le x y) HX.out;have hq2:((x:Int)/(y:Int))=((x/y:Nat):Int):=by simp
 have hm2:((x:Int)%(y:Int))=((x%y:Nat):Int):=by simp
 have HQ:=Lib.hid hq;have HM:=Lib.hid hm;have HQ2:=Lib.hid hq2;have HM2:=Lib.hid hm2;have HQL:=Lib.hid hql;have HML:=Lib.hid hml;clear hq hm hq2 hm2 hql hml;go_region_with (first|(go_at_call 67;(with_reducible refine (r01_Of' _ _ _ HQ.out HQL.out).mono ?_);rintro e w' ⟨rfl,hb1⟩)|(go_at_call 67;(with_reducible refine (r01_Of' _ _ _ HQ2.out HQL.out).mono ?_);rintro e w' ⟨rfl,hb1⟩)|(go_at_call 67;(with_reducible refine (r01_Of' _ _ _ HM.out HML.out).mono ?_);rintro e w' ⟨rfl,hb2⟩)|(go_at_call 67;(with_reducible refine (r01_Of' _ _ _ HM2.out HML.out).mono ?_);rintro e w' ⟨rfl,hb2⟩))
 all_goals
  go_wp2;go_ret2;exact ⟨rfl,((Below.refl _ _).drew.trans hb1).trans (hb2.mono hb1.size)⟩
theorem r01_Common (x0 y0:Nat) (w:World) (hx:x0<18446744073709551616) (hy:y0<18446744073709551616) :
  Calls Tryz.prog 179 #[.string (B x0),.string (B y0)] w fun e w'=>e=.returned (.string (B (Nat.gcd x0 y0)))∧Below w.heap.size w w':=by
 go_enter Tryz.func179, Tryz.ntmps179
 go_wp2;go_loopw [0,1] (fun u v wr=>∃ x y:Nat,u=.string (B x)∧v=.string (B y)∧x<18446744073709551616∧y<18446744073709551616∧Nat.gcd x y=Nat.gcd x0 y0∧Below w.heap.size w wr) (fun _ v _=>strNum v)
 case atStart=>exact ⟨x0,y0,rfl,rfl,hx,hy,rfl,Below.refl _ _⟩
 case round =>
  obtain ⟨x,y,rfl,rfl,hx1,hy1,hg,hbel⟩:=hrel;have HG:=Lib.hid hg;clear hg;by_cases hz:y=0
  · subst hz
    have he:=B_isEmpty_true;go_wp2_with fail;go_ret;exact ⟨ret_string (by rw [← HG.out,Nat.gcd_zero_right]),hbel⟩
  · have he:=B_isEmpty_false hz
    go_wp2_with (first|(go_at_call 78;(with_reducible refine (r01_Over8 x y _ hx1 hy1 (by omega)).mono ?_);rintro e w' ⟨rfl,hb1⟩));go_roundw
    case rel=>exact ⟨y,x%y,rfl,rfl,hy1,Nat.lt_trans (Nat.mod_lt x (by omega)) hy1,by rw [← HG.out,Nat.gcd_comm x y,Nat.gcd_rec y x,Nat.gcd_comm],hbel.trans (hb1.mono hbel.size)⟩
    case measure=>simp only [strNum,num_B];exact Nat.mod_lt x (by omega)
theorem r01_Gcd (a b:ByteArray) (w:World) (ha:Hid (B (num a)=a)) (hb:Hid (B (num b)=b)) (hx:Hid (num a<18446744073709551616)) (hy:Hid (num b<18446744073709551616)) :
  Calls Tryz.prog 153 #[.string a,.string b] w fun e w'=>e=.returned (.tuple #[.string (B (Nat.gcd (num a) (num b))),.int .i64 0])∧Below w.heap.size w w':=by
 have va:valid a=true:=by rw [← ha.out];exact valid_B (u64_lt_lim hx.out)
 have vb:valid b=true:=by rw [← hb.out];exact valid_B (u64_lt_lim hy.out)
 have hc:=fun w=>r01_Common (num a) (num b) w hx.out hy.out
 rw [ha.out,hb.out] at hc;generalize Nat.gcd (num a) (num b)=g at *
 have HC:=Lib.hid hc;clear hc ha hb hx hy
 go_enter Tryz.func153, Tryz.ntmps153
 go_wp2_with (first|(go_at_call 62;refine (r01_Valid _ _).mono ?_;rintro e w' ⟨rfl,rfl⟩)|(go_at_call 179;refine (HC.out _).mono ?_;rintro e w' ⟨rfl,hb1⟩));go_ret2;exact ⟨rfl,hb1⟩
theorem r01_DivMod8 (x y:Nat) (w:World) (hx:x<18446744073709551616) (hy:y<18446744073709551616) (h0:0<y) :
  Calls Tryz.prog 32 #[.string (B x),.string (B y)] w fun e w'=>e=.returned (.tuple #[.string (B (x/y)),.string (B (x%y)),.int .i64 0])∧Below w.heap.size w w':=by
 have va:=valid_B (u64_lt_lim hx);have vb:=valid_B (u64_lt_lim hy);have he:=B_isEmpty_false (n:=y) (by omega);have HC:=Lib.hid (fun w=>r01_Over8 x y w hx hy h0);clear hx hy
 go_enter Tryz.func32, Tryz.ntmps32
 go_wp2_with (first|(go_at_call 62;refine (r01_Valid _ _).mono ?_;rintro e w' ⟨rfl,rfl⟩)|(go_at_call 78;refine (HC.out _).mono ?_;rintro e w' ⟨rfl,hb1⟩));go_ret3;exact ⟨rfl,hb1⟩
end Go.Proofs.YtiacajjpkncomaaGreatDoor
namespace Go.Proofs.YtiacajjpkncomaaGreatDoor
open Go.RowKit
set_option maxRecDepth 100000
set_option linter.unusedVariables false
set_option maxHeartbeats 400000
theorem madeCells_ints (n:Nat):madeCells #[Value.int .i64 0] n=intCells (List.replicate n 0):=by
 apply Array.ext
 · simp [madeCells,intCells]
 · intro i h1 h2
   simp [madeCells,intCells,Nat.mod_one]
theorem make_ints (n:Nat) (h:n≤1000000) (w:World):(Instr.makeSlice 152 (.int .i64 (n:Int)) (.int .i64 (n:Int))).run Tryz.prog w =
  .ok (.slice (some ⟨w.heap.size,0,none⟩) n n) (w.alloc (.cells (intCells (List.replicate n 0)) 3)):=by
 rw [← madeCells_ints];exact run_make_row' 152 3 (.int .i64 0) 8 Tryz.underlying152 i64_info rfl .i64 .i64 n (by omega) (by omega) w
theorem r01_at' (s:ByteArray) (i d:Nat) (w:World) (hi:i≤1000000) (hs:s.size≤1000000) (hd:Hid (num s/256^i%256=d)) :
  Calls Tryz.prog 130 #[.string s,.int .i64 i] w fun e w'=>e=.returned (.int .i64 (d:Int))∧w=w':=by
 have:=r01_at s i w hi hs;rw [hd.out] at this;exact this
theorem Ck.newL (w:World) (T:TypeId) (L:List Nat):Ck (w.alloc (.cells (intCells L) T)) w.heap.size T L:=heap_alloc_new w _
theorem r01_trim' (g:Nat) (L:List UInt8) (n cap x:Nat) (w:World) (hn:L.length=n) (hnc:n≤cap) (hm:n≤1000000) (hrow:Row w g 0 L) (hx:trimL L=enc x) :
  Calls Tryz.prog 124 #[.slice (some ⟨g,0,none⟩) n cap] w fun e w'=>e=.returned (.string (B x))∧w=w':=by
 have:=r01_trim g 0 L n cap w hn hnc hm hrow;rw [hx] at this;exact this
theorem num_mul_lt (a b:ByteArray) {n:Nat} (h:a.size+b.size≤n):num a*num b<256^n:=by
 have h1:num a*num b<256^a.size*256^b.size:=Nat.mul_lt_mul'' (num_lt a) (num_lt b);rw [← Nat.pow_add] at h1;exact Nat.lt_of_lt_of_le h1 (Nat.pow_le_pow_right (by omega) h)
set_option maxHeartbeats 1000000 in
theorem r01_Times_short (a b:ByteArray) (w:World) (h8:a.size+b.size≤8) :
  Calls Tryz.prog 126 #[.string a,.string b] w fun e w'=>e=.returned (.string (B (num a*num b)))∧Below w.heap.size w w':=by
 have hp:=num_mul_lt a b h8;have ha:=fun w=>r01_U64 a w (by omega)
 have hb:=fun w=>r01_U64 b w (by omega)
 generalize num a=x at *
 generalize num b=y at *
 have hq:((x:Int)*(y:Int))=((x*y:Nat):Int):=by rw [Int.natCast_mul]
 have hw:IntKind.u64.wrap ((x:Int)*(y:Int))=((x*y:Nat):Int):=by rw [hq,IntKind.wrap_u64];omega
 have HA:=Lib.hid ha;have HB:=Lib.hid hb;have HP:=Lib.hid hp;have HQ:=Lib.hid hq;clear ha hb hp hq
 go_enter Tryz.func126, Tryz.ntmps126
 go_wp2_with (first|(go_at_call 132;(with_reducible refine (HA.out _).mono ?_);rintro e w' ⟨rfl,rfl⟩)|(go_at_call 132;(with_reducible refine (HB.out _).mono ?_);rintro e w' ⟨rfl,rfl⟩)|(go_at_call 67;(refine (r01_Of' _ _ _ HQ.out HP.out).mono ?_);rintro e w' ⟨rfl,hb1⟩));go_ret;exact ⟨rfl,hb1⟩
set_option maxHeartbeats 4000000 in
theorem r01_Times_long (a b:ByteArray) (w:World) (sa:a.size≤200) (sb:b.size≤200) (h8:8<a.size+b.size) :
  Calls Tryz.prog 126 #[.string a,.string b] w fun e w'=>e=.returned (.string (B (num a*num b)))∧Below w.heap.size w w':=by
 have la:=Lib.hid (num_lt a);have lb:=Lib.hid (num_lt b);have hmk:=make_bytes (a.size+b.size) (by omega);rw [show ((a.size+b.size:Nat):Int)=(a.size:Int)+(b.size:Int) by omega] at hmk;have hmk2:=make_ints (a.size+b.size+1) (by omega);rw [show ((a.size+b.size+1:Nat):Int)=(a.size:Int)+(b.size:Int)+1 by omega] at hmk2
 go_enter Tryz.func126, Tryz.ntmps126
 go_wp2_with fail;go_loopw [7,8] (fun c _ wr=>∃ (i:Nat) (L:List Nat),i≤a.size∧c=.int .i64 i∧Ck wr w.heap.size 3 L∧L.length=a.size+b.size+1∧ev L=(num a%256^i)*num b∧(∀ k,L.getD k 0≤65025*(200*i))∧Below w.heap.size w wr) (fun c _ _=>a.size-(intOf c).toNat)
 case atStart=>exact ⟨0,List.replicate (a.size+b.size+1) 0,by omega,rfl,Ck.newL w 3 _,by simp,by rw [ev_zeros];simp [Nat.mod_one],by intro k;rw [getD_zeros];omega,(Below.refl _ _).alloc (Nat.le_refl _) _⟩
 case round =>
  obtain ⟨i,L,hi,rfl,hck,hlen,hev,hbd,hbel⟩:=hrel;have HC:=Lib.hid hck;have HE:=Lib.hid hev;have HBD:=Lib.hid hbd;have HLN:=Lib.hid hlen;clear hck hev hbd hlen;by_cases hlt:i<a.size
  · obtain ⟨da,hda⟩:∃ d,num a/256^i%256=d:=⟨_,rfl⟩
    have da1:da≤255:=by omega
    have HA:=Lib.hid hda;clear hda;go_wp2_with fail;go_loopw [8] (fun c wr2=>∃ (j:Nat) (L2:List Nat),j≤b.size∧c=.int .i64 j∧Ck wr2 w.heap.size 3 L2∧L2.length=a.size+b.size+1∧ev L2=(num a%256^i)*num b+da*256^i*(num b%256^j)∧(∀ k,L2.getD k 0≤65025*(200*i+j))∧Below w.heap.size w wr2) (fun c _=>b.size-(intOf c).toNat)
    case atStart=>exact ⟨0,L,by omega,rfl,HC.out,HLN.out,by rw [HE.out];simp [Nat.mod_one],HBD.out,hbel⟩
    case round =>
     obtain ⟨j,L2,hj,rfl,hck,hlen,hev,hbd,hbel2⟩:=hrel;have HC2:=Lib.hid hck;have HE2:=Lib.hid hev;have HBD2:=Lib.hid hbd;have HLN2:=Lib.hid hlen;by_cases hltj:j<b.size
     · obtain ⟨db,hdb⟩:∃ d,num b/256^j%256=d:=⟨_,rfl⟩
       have db1:db≤255:=by omega
       have HB:=Lib.hid hdb;have hcell:=hck.cell (k:=i+j) (by omega);have hfree:=hck.free (i+j);have hcb:=hbd (i+j);obtain ⟨c0,hc0⟩:∃ c,L2.getD (i+j) 0=c:=⟨_,rfl⟩;rw [hc0] at hcell hcb;have HC0:=Lib.hid hc0;have hprod:da*db≤65025:=Nat.mul_le_mul da1 db1;have c0b:c0≤3000000000:=by omega
       clear hdb hck hev hbd hlen hc0 hcb
       have hpi:(da:Int)*(db:Int)≤65025:=by have h:((da*db:Nat):Int)≤65025:=by omega
                                            rwa [Int.natCast_mul] at h
       have hpn:0≤(da:Int)*(db:Int):=Int.mul_nonneg (by omega) (by omega);have s1:IntKind.i64.wrap ((i:Int)+(j:Int))=(i:Int)+(j:Int):=IntWalk.i64_in _ (by omega);have s2:0≤(i:Int)+(j:Int):=by omega
       have s3:((i:Int)+(j:Int)).toNat=i+j:=by omega
       have s4:IntKind.i64.wrap ((da:Int)*(db:Int))=(da:Int)*(db:Int):=IntWalk.i64_in _ (by omega);have s5:IntKind.i64.wrap ((c0:Int)+(da:Int)*(db:Int))=(c0:Int)+(da:Int)*(db:Int):=IntWalk.i64_in _ (by omega);have s6:(i:Int)+(j:Int)<(a.size:Int)+(b.size:Int)+1:=by omega
       have s7:i+j<a.size+b.size+1:=by omega
       go_wp2_with fail;go_region_with (first|(go_at_call 130;(with_reducible refine (r01_at' b _ _ _ (by omega) (by omega) HB).mono ?_);rintro e w' ⟨rfl,rfl⟩)|(go_at_call 130;(with_reducible refine (r01_at' a _ _ _ (by omega) (by omega) HA).mono ?_);rintro e w' ⟨rfl,rfl⟩))
       all_goals
        clear s1 s2 s3 s4 s5 s6;go_wp2_with fail;go_roundw
        case rel =>
         have h1:=ev_set L2 (i+j) (da*db) (by rw [HLN2.out];omega);have h2:=getD_set_le L2 _ (da*db) (i+j) HBD2.out;refine ⟨j+1,L2.set (i+j) (L2.getD (i+j) 0+da*db),by omega,by go_num,?_,by rw [List.length_set];exact HLN2.out,?_,fun k=>Nat.le_trans (h2 k) (by omega),?_⟩
         · have:=HC2.out.set (i+j) (c0+da*db)
           rw [HC0.out];rw [show (((c0+da*db:Nat)):Int)=(c0:Int)+(da:Int)*(db:Int) by rw [Int.natCast_add,Int.natCast_mul]] at this;exact this
         · rw [h1,HE2.out];exact prod_step _ _ _ _ _ HB.out _
         · exact (hbel2.drew).setCell (Nat.le_refl _) _
        case measure=>simp [intOf];omega
     · obtain rfl:j=b.size:=by omega
       clear hck hev hbd hlen;go_wp2_with fail;go_roundw
       case rel=>exact ⟨i+1,L2,by omega,by go_num,HC2.out,HLN2.out,by rw [HE2.out,Nat.mod_eq_of_lt lb.out];exact prod_row _ _ _ _ HA.out,fun k=>Nat.le_trans (HBD2.out k) (by omega),hbel2⟩
       case measure=>simp [intOf];omega
  · obtain rfl:i=a.size:=by omega
    obtain ⟨wo,rfl⟩:∃ wo:World,wo=wr:=⟨_,rfl⟩;have hev2:ev L=num a*num b:=by rw [HE.out,Nat.mod_eq_of_lt la.out]
    have HE2:=Lib.hid hev2;clear hev2;go_wp2_with fail;go_loopw [10,11,12] (fun cy c _ wr2=>∃ i:Nat,i≤a.size+b.size∧c=.int .i64 i∧cy=.int .i64 (colCarry L i:Nat)∧Bk wr2 wo.heap.size 5 (fill (a.size+b.size) i (num a*num b))∧Below wo.heap.size wo wr2) (fun _ c _ _=>a.size+b.size-(intOf c).toNat)
    case atStart=>exact ⟨0,by omega,rfl,by rw [colCarry_zero];rfl,by rw [fill_zero];exact Bk.new wo 5 (List.replicate (a.size+b.size) 0),(Below.refl _ _).alloc (Nat.le_refl _) _⟩
    case round =>
     obtain ⟨i,hi,rfl,rfl,hbk,hbel2⟩:=hrel;by_cases hlt2:i<a.size+b.size
     · have HB:=Lib.hid hbk
       have hc2:=hbk.cell (k:=a.size+b.size-1-i) (by rw [fill_length _ hi];omega);have hf2:=hbk.free (a.size+b.size-1-i);have hgw:=HC.out.lt;have hcell:=(HC.out.below hbel2 hgw).cell (k:=i) (by rw [HLN.out];omega);have hcb:=HBD.out i;have hcc:=colCarry_le L _ HBD.out i (by rw [HLN.out];omega);have h1:=colCarry_digit L i (by rw [HLN.out];omega);have h2:=colCarry_next L i (by rw [HLN.out];omega);rw [HE2.out] at h1;obtain ⟨c0,hc0⟩:∃ c,L.getD i 0=c:=⟨_,rfl⟩;rw [hc0] at hcell hcb h1 h2;generalize colCarry L i=cy at *
       have H1:=Lib.hid h1;have H2:=Lib.hid h2;have c0b:c0≤3000000000:=by omega
       have cyb:cy≤3000000000:=by omega
       clear hbk h1 h2 hc0 hcb hcc;go_wp2_with fail;go_roundw
       case rel =>
        refine ⟨i+1,by omega,by go_num,?_,?_,hbel2.setCell (by simp) _⟩
        · rw [← H2.out];rw [show ((c0:Int)+(cy:Int))=((cy+c0:Nat):Int) by omega];congr 1
        · rw [show ((c0:Int)+(cy:Int))=((cy+c0:Nat):Int) by omega,u8_wrap_nat]
          have:=HB.out.set (a.size+b.size-1-i) (UInt8.ofNat (cy+c0));rw [show UInt8.ofNat (cy+c0)=UInt8.ofNat ((num a*num b)/256^i) from UInt8.toNat_inj.mp (by rw [toNat_ofNat8,toNat_ofNat8,H1.out])] at this ⊢;rw [fill_set _ hlt2] at this;exact this
       case measure=>simp [intOf];omega
     · obtain rfl:i=a.size+b.size:=by omega
       rw [fill_full] at hbk;have HB:=Lib.hid hbk;have HT:=Lib.hid (trimL_be (num_mul_lt a b (Nat.le_refl (a.size+b.size))));clear hbk;go_wp2_with (first|(go_at_call 124;(refine (r01_trim' wo.heap.size (be (a.size+b.size) (num a*num b)) (a.size+b.size) (a.size+b.size) _ _ (be_length _ _) (by omega) (by omega) HB.out.row HT.out).mono ?_);rintro e w' ⟨rfl,rfl⟩));go_ret;exact ⟨rfl,hbel.trans (hbel2.mono (by have:=HC.out.lt;omega))⟩
theorem r01_Times (x y:Nat) (w:World) (sx:(B x).size≤200) (sy:(B y).size≤200) :
  Calls Tryz.prog 126 #[.string (B x),.string (B y)] w fun e w'=>e=.returned (.string (B (x*y)))∧Below w.heap.size w w':=by
 have hx:=num_B x;have hy:=num_B y;by_cases h:(B x).size+(B y).size≤8
 · have:=r01_Times_short (B x) (B y) w h
   rwa [hx,hy] at this
 · have:=r01_Times_long (B x) (B y) w sx sy (by omega)
   rwa [hx,hy] at this
theorem r01_Mul (a b:ByteArray) (w:World) :
  Calls Tryz.prog 69 #[.string a,.string b] w fun e w'=>e=.returned (.tuple #[.string (natMul a b).1,.int .i64 (natMul a b).2])∧Below w.heap.size w w':=by
 cases ha:valid a
 · have HR:=Lib.hid (show natMul a b=(E0,3) by unfold natMul;rw [ha];simp)
   go_enter Tryz.func69, Tryz.ntmps69
   go_wp2_with (first|(go_at_call 62;refine (r01_Valid _ _).mono ?_;rintro e w' ⟨rfl,rfl⟩));go_ret2;exact ⟨ret_se (by rw [HR.out];rfl) (by rw [HR.out]),Below.refl _ _⟩
 · cases hb:valid b
   · have HR:=Lib.hid (show natMul a b=(E0,3) by unfold natMul;rw [hb];simp)
     go_enter Tryz.func69, Tryz.ntmps69
     go_wp2_with (first|(go_at_call 62;refine (r01_Valid _ _).mono ?_;rintro e w' ⟨rfl,rfl⟩));go_ret2;exact ⟨ret_se (by rw [HR.out];rfl) (by rw [HR.out]),Below.refl _ _⟩
   · have HR:=Lib.hid (show natMul a b=fitted (num a*num b) by unfold natMul;rw [ha,hb];rfl)
     have sa:=valid_size ha;have sb:=valid_size hb;have HT:=Lib.hid (fun w=>r01_Times (num a) (num b) w (by rw [B_num ha];omega) (by rw [B_num hb];omega));rw [B_num ha,B_num hb] at HT
     go_enter Tryz.func69, Tryz.ntmps69
     go_wp2_with (first|(go_at_call 62;refine (r01_Valid _ _).mono ?_;rintro e w' ⟨rfl,rfl⟩)|(go_at_call 126;refine (HT.out _).mono ?_;rintro e w' ⟨rfl,hb1⟩)|(go_at_call 73;refine (r01_fit _ _).mono ?_;rintro e w' ⟨rfl,rfl⟩));go_ret2;exact ⟨ret_se (by rw [HR.out]) (by rw [HR.out]),hb1⟩
end Go.Proofs.YtiacajjpkncomaaGreatDoor
namespace Go.Proofs.YtiacajjpkncomaaGreatDoor
open Go.RowKit
set_option maxRecDepth 100000
set_option linter.unusedVariables false
set_option maxHeartbeats 400000
theorem r01_Plus_b (a b:ByteArray) (w:World) (sa:a.size≤200) (sb:b.size≤200) :
  Calls Tryz.prog 74 #[.string a,.string b] w fun e w'=>e=.returned (.string (B (num a+num b)))∧Below w.heap.size w w':=by
 have la:=Lib.hid (num_lt a);have lb:=Lib.hid (num_lt b);obtain ⟨m,hm⟩:∃ m:Nat,max a.size b.size=m:=⟨_,rfl⟩;have ma:a.size≤m:=by omega
 have mb:b.size≤m:=by omega
 have mm:m≤200:=by omega
 have hmx:max (a.size:Int) (b.size:Int)=(m:Int):=by omega
 clear hm;have hmk:=make_bytes (m+1) (by omega);rw [show ((m+1:Nat):Int)=(m:Int)+1 by omega] at hmk
 go_enter Tryz.func74, Tryz.ntmps74
 go_wp2_with fail;go_loopw [7,8,9] (fun c k _ wr=>∃ i:Nat,i≤m+1∧k=.int .i64 i∧c=.int .i64 (carryAt (num a) (num b) i:Nat)∧Bk wr w.heap.size 5 (fill (m+1) i (num a+num b))∧Below w.heap.size w wr) (fun _ k _ _=>m+1-(intOf k).toNat)
 case atStart=>exact ⟨0,by omega,rfl,by rw [carryAt_zero];rfl,by rw [fill_zero];exact Bk.new w 5 (List.replicate (m+1) 0),(Below.refl _ _).alloc (Nat.le_refl _) _⟩
 case round =>
  obtain ⟨i,hi,rfl,rfl,hbk,hbel⟩:=hrel;by_cases hlt:i<m+1
  · have HB:=Lib.hid hbk
    have hc:=hbk.cell (k:=m-i) (by rw [fill_length _ hi];omega);have hf:=hbk.free (m-i);have hcl:=carryAt_le (num a) (num b) i;have h1:=carryAt_digit (num a) (num b) i;have h2:=carryAt_next (num a) (num b) i;generalize carryAt (num a) (num b) i=c at *
    obtain ⟨da,hda⟩:∃ d,num a/256^i%256=d:=⟨_,rfl⟩;obtain ⟨db,hdb⟩:∃ d,num b/256^i%256=d:=⟨_,rfl⟩;have da1:da≤255:=by omega
    have db1:db≤255:=by omega
    rw [hda,hdb] at h1 h2;have H1:=Lib.hid h1;have H2:=Lib.hid h2;have HA:=Lib.hid hda;have HD:=Lib.hid hdb;clear hbk h1 h2 hda hdb;go_wp2_with (first|(go_at_call 130;(with_reducible refine (r01_at' a _ _ _ (by omega) (by omega) HA).mono ?_);rintro e w' ⟨rfl,rfl⟩)|(go_at_call 130;(with_reducible refine (r01_at' b _ _ _ (by omega) (by omega) HD).mono ?_);rintro e w' ⟨rfl,rfl⟩));go_roundw
    case rel =>
     refine ⟨i+1,by omega,by go_num,?_,?_,hbel.setCell (by simp) _⟩
     · rw [← H2.out,show ((da:Int)+(db:Int)+(c:Int))=((c+(da+db):Nat):Int) by omega];congr 1
     · rw [show ((da:Int)+(db:Int)+(c:Int))=((c+(da+db):Nat):Int) by omega,u8_wrap_nat]
       have:=HB.out.set (m-i) (UInt8.ofNat (c+(da+db)));rw [show UInt8.ofNat (c+(da+db))=UInt8.ofNat ((num a+num b)/256^i) from UInt8.toNat_inj.mp (by rw [toNat_ofNat8,toNat_ofNat8,H1.out])] at this ⊢;rw [show m-i=m+1-1-i by omega,fill_set _ hlt] at this;exact this
    case measure=>simp [intOf];omega
  · obtain rfl:i=m+1:=by omega
    rw [fill_full] at hbk;have HB:=Lib.hid hbk;have HT:=Lib.hid (trimL_be (num_add_lt la.out lb.out ma mb));clear hbk;go_wp2_with (first|(go_at_call 124;(refine (r01_trim' w.heap.size (be (m+1) (num a+num b)) (m+1) (m+1) _ _ (be_length _ _) (by omega) (by omega) HB.out.row HT.out).mono ?_);rintro e w' ⟨rfl,rfl⟩));go_ret;exact ⟨rfl,hbel⟩
theorem r01_Plus (x y:Nat) (w:World) (sa:(B x).size≤200) (sb:(B y).size≤200) :
  Calls Tryz.prog 74 #[.string (B x),.string (B y)] w fun e w'=>e=.returned (.string (B (x+y)))∧Below w.heap.size w w':=by
 have:=r01_Plus_b (B x) (B y) w sa sb
 rwa [num_B,num_B] at this
theorem r01_Minus_b (a b:ByteArray) (w:World) (sa:a.size≤200) (sb:b.size≤200) (hle:num b≤num a) :
  Calls Tryz.prog 134 #[.string a,.string b] w fun e w'=>e=.returned (.string (B (num a-num b)))∧Below w.heap.size w w':=by
 have la:=Lib.hid (num_lt a);have hmk:=make_bytes a.size (by omega);have HLE:=Lib.hid hle;clear hle
 go_enter Tryz.func134, Tryz.ntmps134
 go_wp2_with fail;go_loopw [7,8,9] (fun c k _ wr=>∃ i:Nat,i≤a.size∧k=.int .i64 i∧c=.int .i64 (borrowAt (num a) (num b) i:Nat)∧Bk wr w.heap.size 5 (fill a.size i (num a-num b))∧Below w.heap.size w wr) (fun _ k _ _=>a.size-(intOf k).toNat)
 case atStart=>exact ⟨0,by omega,rfl,by rw [borrowAt_zero];rfl,by rw [fill_zero];exact Bk.new w 5 (List.replicate a.size 0),(Below.refl _ _).alloc (Nat.le_refl _) _⟩
 case round =>
  obtain ⟨i,hi,rfl,rfl,hbk,hbel⟩:=hrel;by_cases hlt:i<a.size
  · have HB:=Lib.hid hbk
    have hc:=hbk.cell (k:=a.size-1-i) (by rw [fill_length _ hi];omega);have hf:=hbk.free (a.size-1-i);have hcl:=borrowAt_le (num a) (num b) i;have h1:=borrowAt_digit (num a) (num b) i HLE.out;have h2:=borrowAt_next (num a) (num b) i;generalize borrowAt (num a) (num b) i=c at *
    obtain ⟨da,hda⟩:∃ d,num a/256^i%256=d:=⟨_,rfl⟩;obtain ⟨db,hdb⟩:∃ d,num b/256^i%256=d:=⟨_,rfl⟩;have da1:da≤255:=by omega
    have db1:db≤255:=by omega
    rw [hda,hdb] at h1 h2;have H1:=Lib.hid h1;have H2:=Lib.hid h2;have HA:=Lib.hid hda;have HD:=Lib.hid hdb;clear hbk h1 h2 hda hdb
    have fin:∀ z:Int,(((num a-num b)/256^i%256:Nat):Int)=z→Bk (wr.setCell ⟨w.heap.size,a.size-1-i,none⟩ (.int .u8 z)) w.heap.size 5 (fill a.size (i+1) (num a-num b)):=by
     intro z hz;have:=HB.out.set (a.size-1-i) (UInt8.ofNat ((num a-num b)/256^i));rw [fill_set _ hlt,toNat_ofNat8,hz] at this;exact this
    have FIN:=Lib.hid fin;clear fin;by_cases hneg:da<db+c
    all_goals
     go_wp2_with (first|(go_at_call 130;(with_reducible refine (r01_at' a _ _ _ (by omega) (by omega) HA).mono ?_);rintro e w' ⟨rfl,rfl⟩)|(go_at_call 130;(with_reducible refine (r01_at' b _ _ _ (by omega) (by omega) HD).mono ?_);rintro e w' ⟨rfl,rfl⟩));go_roundw
     case rel =>
      refine ⟨i+1,by omega,by go_num,?_,FIN.out _ ?_,hbel.setCell (by simp) _⟩
      · rw [H2.out];first|rw [if_pos hneg]|rw [if_neg hneg]
        rfl
      · rw [H1.out];first|rw [if_pos hneg]|rw [if_neg hneg]
     case measure=>simp [intOf];omega
  · obtain rfl:i=a.size:=by omega
    rw [fill_full] at hbk;have HB:=Lib.hid hbk;have HT:=Lib.hid (trimL_be (Nat.lt_of_le_of_lt (Nat.sub_le (num a) (num b)) la.out));clear hbk;go_wp2_with (first|(go_at_call 124;(refine (r01_trim' w.heap.size (be a.size (num a-num b)) a.size a.size _ _ (be_length _ _) (by omega) (by omega) HB.out.row HT.out).mono ?_);rintro e w' ⟨rfl,rfl⟩));go_ret;exact ⟨rfl,hbel⟩
theorem r01_Minus (x y:Nat) (w:World) (sa:(B x).size≤200) (sb:(B y).size≤200) (hle:y≤x) :
  Calls Tryz.prog 134 #[.string (B x),.string (B y)] w fun e w'=>e=.returned (.string (B (x-y)))∧Below w.heap.size w w':=by
 have:=r01_Minus_b (B x) (B y) w sa sb (by rw [num_B,num_B];exact hle)
 rwa [num_B,num_B] at this
end Go.Proofs.YtiacajjpkncomaaGreatDoor
namespace Go.Proofs.YtiacajjpkncomaaGreatDoor
open Go.RowKit
set_option maxRecDepth 100000
set_option linter.unusedVariables false
set_option maxHeartbeats 1000000
theorem be_get (n v t:Nat) (h:t<n):(be n v)[t]'(by rw [be_length];exact h)=UInt8.ofNat (v/256^(n-1-t)):=by
 induction n generalizing t with
 | zero=>omega
 | succ n ih =>
   cases t with
   | zero=>simp [be]
   | succ t =>
     simp only [be,List.getElem_cons_succ];rw [ih t (by omega)];congr 2;congr 1;omega
theorem ofNat_congr {a b:Nat} (h:a%256=b%256):UInt8.ofNat a=UInt8.ofNat b:=UInt8.toNat_inj.mp (by rw [toNat_ofNat8,toNat_ofNat8,h])
theorem be_add (n v j d:Nat) (hj:j<n) (hd:v/256^j%256+d<256):be n (v+d*256^j)=(be n v).set (n-1-j) (UInt8.ofNat (v/256^j+d)):=by
 have hpj:0<256^j:=Nat.pow_pos (by omega);have e0:(v+d*256^j)/256^j=v/256^j+d:=by rw [Nat.mul_comm d,Nat.add_mul_div_left _ _ hpj]
 apply List.ext_getElem
 · rw [List.length_set,be_length,be_length]
 · intro t h1 h2
   rw [be_length] at h1;rw [be_get _ _ _ h1,List.getElem_set];by_cases ht:n-1-j=t
   · rw [if_pos ht,show n-1-t=j by omega,e0]
   · rw [if_neg ht,be_get _ _ _ h1]
     obtain ⟨k,hk⟩:∃ k,n-1-t=k:=⟨_,rfl⟩;rw [hk];apply ofNat_congr
     rcases Nat.lt_or_ge k j with hl|hl
     · have e1:d*256^j=256^k*(256*(d*256^(j-k-1))):=by
        rw [show 256^j=256^k*(256*256^(j-k-1)) by rw [← Nat.pow_succ',← Nat.pow_add];congr 1;omega];rw [Nat.mul_left_comm,Nat.mul_left_comm d 256]
       rw [e1,Nat.add_mul_div_left _ _ (Nat.pow_pos (by omega))];omega
     · have hkj:k≠j:=by omega
       have e2:256^k=256^j*(256*256^(k-j-1)):=by rw [← Nat.pow_succ',← Nat.pow_add];congr 1;omega
       rw [e2,← Nat.div_div_eq_div_mul,← Nat.div_div_eq_div_mul,← Nat.div_div_eq_div_mul,← Nat.div_div_eq_div_mul,e0];congr 2;omega
theorem bitsN_le {x k:Nat} (h:x<2^k):bitsN x≤k:=by
 unfold bitsN
 split
 · omega
 · rename_i h0
   have:=(Nat.log2_lt h0).2 h;omega
theorem div_step {p b y:Nat} (hb:b≤1) (hy:0<y):(2*p+b)/y=2*(p/y)+(if y≤2*(p%y)+b then 1 else 0)∧(2*p+b)%y=(if y≤2*(p%y)+b then 2*(p%y)+b-y else 2*(p%y)+b):=by
 have h:=Nat.div_add_mod p y;have hl:=Nat.mod_lt p hy;generalize p%y=r at *
 generalize p/y=q at *
 have e:2*p+b=2*r+b+y*(2*q):=by rw [← h,Nat.mul_left_comm];omega
 rw [e,Nat.add_mul_div_left _ _ hy,Nat.add_mul_mod_self_left]
 split
 · rename_i h1
   have e1:(2*r+b)/y=1:=Nat.div_eq_of_lt_le (by omega) (by omega);have e2:(2*r+b)%y=2*r+b-y:=by rw [Nat.mod_eq_sub_mod h1,Nat.mod_eq_of_lt (by omega)]
   rw [e1,e2];exact ⟨by omega,rfl⟩
 · rename_i h1
   rw [Nat.div_eq_of_lt (by omega),Nat.mod_eq_of_lt (by omega)];exact ⟨by omega,rfl⟩
theorem byte_room (Q t:Nat) (h:t<8):(Q*2^(t+1))%256+2^t<256:=by
 match t,h with
 | 0,_=>first|(simp;done)|(simp;omega)
 | 1,_=>first|(simp;done)|(simp;omega)
 | 2,_=>first|(simp;done)|(simp;omega)
 | 3,_=>first|(simp;done)|(simp;omega)
 | 4,_=>first|(simp;done)|(simp;omega)
 | 5,_=>first|(simp;done)|(simp;omega)
 | 6,_=>first|(simp;done)|(simp;omega)
 | 7,_=>first|(simp;done)|(simp;omega)
theorem quo_bit (n Q i:Nat) (hi:i/8<n):∃ D:Nat,D=(Q*2^(i+1))/256^(i/8)∧D%256+2^(i%8)<256∧be n ((2*Q+1)*2^i)=(be n (Q*2^(i+1))).set (n-1-i/8) (UInt8.ofNat (D+2^(i%8))):=by
 have hv:Q*2^(i+1)/256^(i/8)=Q*2^(i%8+1):=by
  rw [← pow_256,show i+1=(i%8+1)+8*(i/8) by omega,Nat.pow_add,← Nat.mul_assoc,Nat.mul_div_cancel _ (Nat.two_pow_pos _)]
 refine ⟨_,rfl,by rw [hv];exact byte_room _ _ (Nat.mod_lt _ (by omega)),?_⟩;rw [← be_add n _ (i/8) (2^(i%8)) hi (by rw [hv];exact byte_room _ _ (Nat.mod_lt _ (by omega)))];congr 1;rw [← pow_256,← Nat.pow_add,show i%8+8*(i/8)=i by omega,Nat.add_mul,Nat.one_mul,Nat.pow_succ];congr 1;rw [Nat.mul_comm (2^i),← Nat.mul_assoc,Nat.mul_comm Q]
theorem be_zero (n:Nat):be n 0=List.replicate n 0:=by
 induction n with
 | zero=>rfl
 | succ n ih=>rw [be,ih,List.replicate_succ,Nat.zero_div];rfl
theorem half_bit (x i:Nat):x/2^i=2*(x/2^(i+1))+x/2^i%2:=by
 rw [Nat.pow_succ,← Nat.div_div_eq_div_mul];omega
theorem B_one1:(⟨#[1]⟩:ByteArray)=B 1:=rfl
theorem r01_Plus_one (r:Nat) (w:World) (sa:(B r).size≤200) :
  Calls Tryz.prog 74 #[.string (B r),.string ⟨#[1]⟩] w fun e w'=>e=.returned (.string (B (r+1)))∧Below w.heap.size w w':=by
 rw [B_one1];exact r01_Plus r 1 w sa (B_size_le'.2 (by decide))
theorem dbl (Q i:Nat):(Q+Q)*2^i=Q*2^(i+1):=by
 rw [← Nat.two_mul,Nat.mul_assoc,Nat.mul_left_comm,← Nat.pow_succ']
theorem pow_le_64 {j t:Nat} (h:j<t) (ht:t≤7):2^j≤64:=show 2^j≤2^6 from Nat.pow_le_pow_right (by omega) (by omega)
theorem pow_le_128 {t:Nat} (ht:t≤7):2^t≤128:=show 2^t≤2^7 from Nat.pow_le_pow_right (by omega) ht
theorem ge_cmp {a b:Nat} (h:b≤a):0≤cmpN a b:=by
 unfold cmpN;rw [if_neg (by omega)];split<;>omega
theorem lt_cmp {a b:Nat} (h:a<b):¬ 0≤cmpN a b:=by
 rw [cmpN_lt h];omega
set_option maxHeartbeats 4000000 in
theorem r01_Over_long (x y:Nat) (w:World) (hx:x<lim) (hy:y<lim) (h0:0<y) (h8:¬ ((B x).size≤8∧(B y).size≤8)) :
  Calls Tryz.prog 78 #[.string (B x),.string (B y)] w fun e w'=>e=.returned (.tuple #[.string (B (x/y)),.string (B (x%y))])∧Below w.heap.size w w':=by
 have hbits:=fun w=>r01_bits (B x) w (valid_B hx)
 have hone:=fun (i:Nat) w (hi:i≤1000000)=>r01_one (B x) i i w rfl hi (by have:=B_size_le.2 hx;omega)
 simp only [num_B] at hone;have hsx:=B_size_le.2 hx;have hsy:=B_size_le.2 hy;have hxp:=num_lt (B x);rw [num_B] at hxp;have hxl:x<2^(natBits (B x)):=by unfold natBits;rw [valid_B hx,if_pos rfl,num_B];exact lt_pow_bitsN x
 have hNn:natBits (B x)≤8*(B x).size:=by
  unfold natBits;rw [valid_B hx,if_pos rfl,num_B];exact bitsN_le (by rw [pow_256];exact hxp)
 have hYL:=B_size_le' (n:=2*y) (k:=129)
 have hr2:∀ r,r<2*y→(B r).size≤200:=fun r hr=>by
  have:r<256^129:=by
   have e:(256:Nat)^129=lim*256:=by rw [lim_eq,← Nat.pow_succ]
   rw [e];omega
  have:=B_size_le'.2 this;omega
 have HR2:=Lib.hid hr2;obtain ⟨n,hn⟩:∃ n,(B x).size=n:=⟨_,rfl⟩;obtain ⟨N,hN⟩:∃ N,natBits (B x)=N:=⟨_,rfl⟩;have hmk:=make_bytes n (by omega);rw [hn] at hsx hNn h8;rw [hN] at hbits hxl hNn;have HBITS:=Lib.hid hbits;have HONE:=Lib.hid hone;have HXL:=Lib.hid hxl;have HXP:=Lib.hid (show x<256^n by rw [← hn];exact hxp);have HSY:=Lib.hid hsy;have hen:((B x).size:Int)=(n:Int):=by rw [hn]
 have HEN:=Lib.hid hn;have H8:Hid (¬ ((B x).size≤8∧(B y).size≤8)):=Lib.hid (by rw [hn];exact h8);clear hbits hone hxl hxp hYL hr2 hN hx hy
 have hcase:(8<n∧decide ((n:Int)≤8)=false)∨(decide ((n:Int)≤8)=true∧decide (((B y).size:Int)≤8)=false):=by
  by_cases h:n≤8
  · exact .inr ⟨by simp;omega,by simp;omega⟩
  · exact .inl ⟨by omega,by simp;omega⟩
 rcases hcase with ⟨_,kk1⟩|⟨kk1,kk2⟩
 all_goals
  clear h8
  go_enter Tryz.func78, Tryz.ntmps78
  go_wp2_with (first|(go_at_call 121;refine (HBITS.out _).mono ?_;rintro e w' ⟨rfl,rfl⟩));go_loopw [9,10,11,12] (fun vr vi _ _ wr=>∃ k:Nat,k≤N∧vi=.int .i64 ((N:Int)-1-k)∧vr=.string (B (x/2^(N-k)%y))∧Bk wr w.heap.size 5 (be n (x/2^(N-k)/y*2^(N-k)))∧Below w.heap.size w wr) (fun _ vi _ _ _=>(intOf vi+1).toNat)
  case atStart=>exact ⟨0,by omega,by simp,by rw [Nat.sub_zero,Nat.div_eq_of_lt HXL.out,Nat.zero_mod];rfl,by rw [Nat.sub_zero,Nat.div_eq_of_lt HXL.out,Nat.zero_div,Nat.zero_mul,be_zero];exact Bk.new w 5 (List.replicate n 0),(Below.refl _ _).alloc (Nat.le_refl _) _⟩
  case round =>
   obtain ⟨k,hk,rfl,rfl,hbk,hbel⟩:=hrel;by_cases hlt:k<N
   · obtain ⟨i,hi⟩:∃ i:Nat,N-1-k=i:=⟨_,rfl⟩
     have ei:((N:Int)-1-(k:Int))=(i:Int):=by omega
     have eM:N-k=i+1:=by omega
     have eM2:N-(k+1)=i:=by omega
     have hib:i≤1024:=by omega
     have hi8:i/8<n:=by omega
     rw [eM] at hbk;rw [ei,eM];have hb1:x/2^i%2≤1:=by omega
     have hhalf:=half_bit x i;obtain ⟨b,hb⟩:∃ b,x/2^i%2=b:=⟨_,rfl⟩;have hon:=fun w=>HONE.out i w (by omega)
     rw [hb] at hon hb1 hhalf;obtain ⟨p,hp⟩:∃ p,x/2^(i+1)=p:=⟨_,rfl⟩;rw [hp] at hbk hhalf;rw [hp];obtain ⟨hd1,hd2⟩:=div_step (p:=p) hb1 h0;have hq:=quo_bit n (p/y) i hi8;have hrl:=Nat.mod_lt p h0;obtain ⟨r,hr⟩:∃ r,p%y=r:=⟨_,rfl⟩;obtain ⟨Q,hQ⟩:∃ Q,p/y=Q:=⟨_,rfl⟩;rw [hr] at hd1 hd2 hrl;rw [hQ] at hd1 hq hbk;rw [hr];rw [← hhalf] at hd1 hd2;have HD1:=Lib.hid hd1;have HD2:=Lib.hid hd2;have HQ:=Lib.hid hq;have HBK:=Lib.hid hbk;have HON:=Lib.hid hon;have E2:=Lib.hid eM2;have HSr:=Lib.hid (HR2.out r (by omega));have HS2:=Lib.hid (HR2.out (r+r) (by omega));have HI:=Lib.hid hi;obtain ⟨t,ht⟩:∃ t,i%8=t:=⟨_,rfl⟩;obtain ⟨j,hj⟩:∃ j,i/8=j:=⟨_,rfl⟩;have et:((i:Int)%8)=(t:Int):=by omega
     have ej:((i:Int)/8)=(j:Int):=by omega
     have ht8:t≤7:=by omega
     have hjn:j<n:=by omega
     rw [ht,hj] at HQ;have HS3:=Lib.hid (HR2.out (r+r+1) (by omega));clear hd1 hd2 hq hbk hon eM eM2 hi ei hhalf hp hr hQ hb ht hj hi8;have hb01:b=0∨b=1:=by omega
     rcases hb01 with rfl|rfl
     all_goals simp only [Nat.add_zero,Nat.two_mul] at HD1 HD2
     · rw [show ((0:Nat)==1)=false from rfl] at HON
       by_cases hge:y≤r+r
       · have hcm:=ge_cmp hge
         have HORD:=Lib.hid (fun w=>r01_Order (r+r) y w (by have:=HS2.out;omega) (by have:=HSY.out;omega));have HMIN:=Lib.hid (fun w=>r01_Minus (r+r) y w (by have:=HS2.out;omega) (by have:=HSY.out;omega) hge);generalize cmpN (r+r) y=cv at *
         have HGE:=Lib.hid hge;clear hge;go_wp2_with (first|(go_at_call 74;(with_reducible refine (r01_Plus r r _ HSr.out HSr.out).mono ?_);rintro e w1 ⟨rfl,hb1⟩)|(go_at_call 122;(with_reducible refine (HON.out _).mono ?_);rintro e w' ⟨rfl,rfl⟩)|(go_at_call 133;(with_reducible refine (HORD.out _).mono ?_);rintro e w3 ⟨rfl,hb3⟩)|(go_at_call 134;(with_reducible refine (HMIN.out _).mono ?_);rintro e w4 ⟨rfl,hb4⟩));have HB4:Below w.heap.size w w4:=below2 (below2 (below2 hbel hb1) hb3) hb4;have k1:=HBK.out.below hb1 HBK.out.lt;have k3:=k1.below hb3 k1.lt;have hbk4:=k3.below hb4 k3.lt;obtain ⟨D,hD,hroom,hset⟩:=HQ.out;have hcell:=hbk4.cell (k:=n-1-j) (by rw [be_length];omega);have hfree:=hbk4.free (n-1-j)
         have hgd:((be n (Q*2^(i+1))).getD (n-1-j) 0).toNat=D%256:=by
          rw [getD_lt (by rw [be_length];omega),be_get _ _ _ (by omega),toNat_ofNat8,show n-1-(n-1-j)=j by omega,hD]
         rw [hgd] at hcell;have HBK4:=Lib.hid hbk4;have HSET:=Lib.hid hset;have hp128:=pow_le_128 ht8;obtain ⟨c,hc⟩:∃ c,D%256=c:=⟨_,rfl⟩;rw [hc] at hcell hroom;have HC:=Lib.hid hc;have HB4':=Lib.hid HB4;clear hbk4 hset k1 k3 hgd hD hc HB4;go_loop [11,12] (fun vk vj=>∃ jj:Nat,jj≤t∧vj=.int .i64 jj∧vk=.int .u8 (2^jj:Nat)) (fun _ vj=>t-(intOf vj).toNat)
         case atStart=>exact ⟨0,by omega,rfl,rfl⟩
         case round =>
          obtain ⟨jj,hjj,rfl,rfl⟩:=hrel;by_cases hlj:jj<t
          · have h64:=pow_le_64 hlj ht8
            have k5:decide ((jj:Int)<(t:Int))=true:=by simpa using hlj
            have hpw:2^jj*2=2^(jj+1):=(Nat.pow_succ 2 jj).symm;have HPW:=Lib.hid hpw;clear hpw;generalize 2^jj=kk at *
            go_wp2_with fail;go_round
            case rel=>exact ⟨jj+1,by omega,by go_num,by rw [← HPW.out];go_num⟩
            case measure=>simp [intOf];omega
          · obtain rfl:jj=t:=by omega
            have k5:decide ((jj:Int)<(jj:Int))=false:=by simp
            obtain ⟨kk,hkk⟩:∃ kk,2^jj=kk:=⟨_,rfl⟩;rw [hkk] at hroom hp128 HSET;rw [hkk];clear hkk;go_wp2_with fail;go_roundw
            case rel =>
             refine ⟨k+1,by omega,by have:=HI.out;congr 1;omega,?_,?_,HB4'.out.setCell (by simp) _⟩
             · rw [E2.out,HD2.out,if_pos HGE.out]
             · rw [E2.out,HD1.out,if_pos HGE.out,show Q+Q+1=2*Q+1 by omega,HSET.out]
               have hh:=HBK4.out.set (n-1-j) (UInt8.ofNat (D+kk));rw [toNat_ofNat8,show (D+kk)%256=c+kk by have:=HC.out;omega,Int.natCast_add] at hh;exact hh
            case measure=>simp [intOf]
       · have hcm:=lt_cmp (Nat.lt_of_not_le hge)
         have HORD:=Lib.hid (fun w=>r01_Order (r+r) y w (by have:=HS2.out;omega) (by have:=HSY.out;omega));generalize cmpN (r+r) y=cv at *
         have HGE:=Lib.hid hge;clear hge;go_wp2_with (first|(go_at_call 74;(with_reducible refine (r01_Plus r r _ HSr.out HSr.out).mono ?_);rintro e w1 ⟨rfl,hb1⟩)|(go_at_call 122;(with_reducible refine (HON.out _).mono ?_);rintro e w' ⟨rfl,rfl⟩)|(go_at_call 133;(with_reducible refine (HORD.out _).mono ?_);rintro e w3 ⟨rfl,hb3⟩));go_roundw
         case rel =>
          have HB3:Below w.heap.size w w3:=below2 (below2 hbel hb1) hb3;have hbk3:Bk w3 w.heap.size 5 (be n (Q*2^(i+1))):=(HBK.out.below hb1 HBK.out.lt).below hb3 (by have:=hb1.size;have:=HBK.out.lt;omega);refine ⟨k+1,by omega,by have:=HI.out;congr 1;omega,?_,?_,HB3⟩
          · rw [E2.out,HD2.out,if_neg (by have:=HGE.out;omega)]
          · rw [E2.out,HD1.out,if_neg (by have:=HGE.out;omega),Nat.add_zero,dbl]
            exact hbk3
         case measure=>simp [intOf]
     · rw [show ((1:Nat)==1)=true from rfl] at HON
       by_cases hge:y≤r+r+1
       · have hcm:=ge_cmp hge
         have HORD:=Lib.hid (fun w=>r01_Order (r+r+1) y w (by have:=HS3.out;omega) (by have:=HSY.out;omega));have HMIN:=Lib.hid (fun w=>r01_Minus (r+r+1) y w (by have:=HS3.out;omega) (by have:=HSY.out;omega) hge);generalize cmpN (r+r+1) y=cv at *
         have HGE:=Lib.hid hge;clear hge;go_wp2_with (first|(go_at_call 74;(with_reducible refine (r01_Plus r r _ HSr.out HSr.out).mono ?_);rintro e w1 ⟨rfl,hb1⟩)|(go_at_call 122;(with_reducible refine (HON.out _).mono ?_);rintro e w' ⟨rfl,rfl⟩)|(go_at_call 74;(with_reducible refine (r01_Plus_one (r+r) _ HS2.out).mono ?_);rintro e w2 ⟨rfl,hb2⟩)|(go_at_call 133;(with_reducible refine (HORD.out _).mono ?_);rintro e w3 ⟨rfl,hb3⟩)|(go_at_call 134;(with_reducible refine (HMIN.out _).mono ?_);rintro e w4 ⟨rfl,hb4⟩));have HB4:Below w.heap.size w w4:=below2 (below2 (below2 (below2 hbel hb1) hb2) hb3) hb4;have k1:=HBK.out.below hb1 HBK.out.lt;have k2:=k1.below hb2 k1.lt;have k3:=k2.below hb3 k2.lt;have hbk4:=k3.below hb4 k3.lt;obtain ⟨D,hD,hroom,hset⟩:=HQ.out;have hcell:=hbk4.cell (k:=n-1-j) (by rw [be_length];omega);have hfree:=hbk4.free (n-1-j)
         have hgd:((be n (Q*2^(i+1))).getD (n-1-j) 0).toNat=D%256:=by
          rw [getD_lt (by rw [be_length];omega),be_get _ _ _ (by omega),toNat_ofNat8,show n-1-(n-1-j)=j by omega,hD]
         rw [hgd] at hcell;have HBK4:=Lib.hid hbk4;have HSET:=Lib.hid hset;have hp128:=pow_le_128 ht8;obtain ⟨c,hc⟩:∃ c,D%256=c:=⟨_,rfl⟩;rw [hc] at hcell hroom;have HC:=Lib.hid hc;have HB4':=Lib.hid HB4;clear hbk4 hset k1 k3 hgd hD hc HB4;go_loop [11,12] (fun vk vj=>∃ jj:Nat,jj≤t∧vj=.int .i64 jj∧vk=.int .u8 (2^jj:Nat)) (fun _ vj=>t-(intOf vj).toNat)
         case atStart=>exact ⟨0,by omega,rfl,rfl⟩
         case round =>
          obtain ⟨jj,hjj,rfl,rfl⟩:=hrel;by_cases hlj:jj<t
          · have h64:=pow_le_64 hlj ht8
            have k5:decide ((jj:Int)<(t:Int))=true:=by simpa using hlj
            have hpw:2^jj*2=2^(jj+1):=(Nat.pow_succ 2 jj).symm;have HPW:=Lib.hid hpw;clear hpw;generalize 2^jj=kk at *
            go_wp2_with fail;go_round
            case rel=>exact ⟨jj+1,by omega,by go_num,by rw [← HPW.out];go_num⟩
            case measure=>simp [intOf];omega
          · obtain rfl:jj=t:=by omega
            have k5:decide ((jj:Int)<(jj:Int))=false:=by simp
            obtain ⟨kk,hkk⟩:∃ kk,2^jj=kk:=⟨_,rfl⟩;rw [hkk] at hroom hp128 HSET;rw [hkk];clear hkk;go_wp2_with fail;go_roundw
            case rel =>
             refine ⟨k+1,by omega,by have:=HI.out;congr 1;omega,?_,?_,HB4'.out.setCell (by simp) _⟩
             · rw [E2.out,HD2.out,if_pos HGE.out]
             · rw [E2.out,HD1.out,if_pos HGE.out,show Q+Q+1=2*Q+1 by omega,HSET.out]
               have hh:=HBK4.out.set (n-1-j) (UInt8.ofNat (D+kk));rw [toNat_ofNat8,show (D+kk)%256=c+kk by have:=HC.out;omega,Int.natCast_add] at hh;exact hh
            case measure=>simp [intOf]
       · have hcm:=lt_cmp (Nat.lt_of_not_le hge)
         have HORD:=Lib.hid (fun w=>r01_Order (r+r+1) y w (by have:=HS3.out;omega) (by have:=HSY.out;omega));generalize cmpN (r+r+1) y=cv at *
         have HGE:=Lib.hid hge;clear hge;go_wp2_with (first|(go_at_call 74;(with_reducible refine (r01_Plus r r _ HSr.out HSr.out).mono ?_);rintro e w1 ⟨rfl,hb1⟩)|(go_at_call 122;(with_reducible refine (HON.out _).mono ?_);rintro e w' ⟨rfl,rfl⟩)|(go_at_call 74;(with_reducible refine (r01_Plus_one (r+r) _ HS2.out).mono ?_);rintro e w2 ⟨rfl,hb2⟩)|(go_at_call 133;(with_reducible refine (HORD.out _).mono ?_);rintro e w3 ⟨rfl,hb3⟩));go_roundw
         case rel =>
          have HB3:Below w.heap.size w w3:=below2 (below2 (below2 hbel hb1) hb2) hb3;have hbk3:Bk w3 w.heap.size 5 (be n (Q*2^(i+1))):=((HBK.out.below hb1 HBK.out.lt).below hb2 (by have:=hb1.size;have:=HBK.out.lt;omega)).below hb3 (by have:=hb1.size;have:=hb2.size;have:=HBK.out.lt;omega);refine ⟨k+1,by omega,by have:=HI.out;congr 1;omega,?_,?_,HB3⟩
          · rw [E2.out,HD2.out,if_neg (by have:=HGE.out;omega)]
          · rw [E2.out,HD1.out,if_neg (by have:=HGE.out;omega),Nat.add_zero,dbl]
            exact hbk3
         case measure=>simp [intOf]
   · obtain rfl:k=N:=by omega
     rw [Nat.sub_self,Nat.pow_zero,Nat.div_one,Nat.mul_one] at hbk;rw [Nat.sub_self,Nat.pow_zero,Nat.div_one];have em:((k:Int)-1-(k:Int))=-1:=by omega
     rw [em];have HBK:=Lib.hid hbk;have HT:=Lib.hid (trimL_be (show x/y<256^n from Nat.lt_of_le_of_lt (Nat.div_le_self _ _) HXP.out));clear hbk em;go_wp2_with (first|(go_at_call 124;(refine (r01_trim' w.heap.size (be n (x/y)) n n _ _ (be_length _ _) (by omega) (by omega) HBK.out.row HT.out).mono ?_);rintro e w' ⟨rfl,rfl⟩));go_ret2;exact ⟨rfl,hbel⟩
end Go.Proofs.YtiacajjpkncomaaGreatDoor
