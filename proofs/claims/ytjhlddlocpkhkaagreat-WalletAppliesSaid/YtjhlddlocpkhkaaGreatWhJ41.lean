/- Encoding: (*reader).size where it reads no length: it panics. Printed by genApb.py. Encoding, plain: why an item is not read. The reference of encoding: read. The reference of encoding: read. The reference of encoding: Read, Decode. -/
import Derived.Test.YtjhlddlocpkhkaaGreatWhYb
import Derived.WalkSmall
import Derived.Test.YtjhlddlocpkhkaaGreatWhYc
import Derived.Test.YtjhlddlocpkhkaaGreatWhJ04
import Derived.Test.YtjhlddlocpkhkaaGreatWhJ08
import Derived.Deep.DeepCutAuto
import Derived.Deep.CutBlock
namespace Go.Proofs.YtjhlddlocpkhkaaGreat
open Go.RowKit
set_option maxRecDepth 100000
set_option linter.unusedVariables false
set_option maxHeartbeats 4000000
theorem dumm {P : Program} {a : Act} {w : World} {p : Prop} (hp : p) (h : wpAny P .any (#[] : Array Oper) (fun _ _ _=>True) 0 #[] a w) : p:=hp
def PanE (w : World) (rb : Nat) (z : Int) (o : Ending) (w' : World) : Prop:=o=.panicked [{ v:=.iface 30 (.int .i64 z),recovered:=false }]∧w.grownBy w' (some rb)
theorem wOr5 {x y k : Nat} (hx : x < 2 ^ k) (hy : y < 128) (hk : k≤28) : bits .or .i64 (x : Int) ((y : Int)*2 ^ k)=((x+2 ^ k*y : Nat) : Int):=by
 have hp : 2 ^ k≤2 ^ 28:=Nat.pow_le_pow_right (by decide) hk
 have hb : y*2 ^ k < 128*2 ^ 28:=Nat.lt_of_lt_of_le (Nat.mul_lt_mul_of_pos_right hy (Nat.two_pow_pos k)) (Nat.mul_le_mul_left _ hp)
 have e1 : ((y : Int)*2 ^ k)=((y*2 ^ k : Nat) : Int):=by simp
 have hx2 : x ||| y*2 ^ k < 2 ^ 63:=Nat.or_lt_two_pow (by omega) (by omega)
 rw [e1]
 show IntKind.i64.wrap ((BitVec.ofInt 64 (x : Int) ||| BitVec.ofInt 64 ((y*2 ^ k : Nat) : Int)).toNat : Int)=_
 rw [BitVec.toNat_or,ofInt_u64 x (by omega),ofInt_u64 (y*2 ^ k) (by omega)]
 have e2 : x ||| y*2 ^ k=x+2 ^ k*y:=by
  rw [Nat.or_comm,Nat.mul_comm y]
  have:=Nat.two_pow_add_eq_or_of_lt hx y
  omega
 rw [e2] at hx2 ⊢
 generalize x+2 ^ k*y=c at hx2 ⊢
 simp only [IntKind.wrap,IntKind.bits,IntKind.signed]
 simp
 omega
def BadZ (f k : Nat) (L : List UInt8) (acc p : Nat) : Prop:=∀ m r,szS f k L=some (m,r)→r.length < acc+p*m
theorem badZ_step {f k acc p : Nat} {b : UInt8} {L : List UInt8} (h : BadZ (f+1) k (b::L) acc p) (h0 : ¬ (b.toNat=0∧0 < k)) :
  (b.toNat < 128→L.length < acc+p*b.toNat)∧(128≤b.toNat→BadZ f (k+1) L (acc+p*(b.toNat - 128)) (p*128)):=by
 refine ⟨fun hb=>?_,fun hb m r hm=>?_⟩
 · refine h b.toNat L ?_
   simp only [szS]
   rw [if_neg h0,if_pos hb]
 · have:=h (b.toNat - 128+128*m) r (by
    simp only [szS]
    rw [if_neg h0,if_neg (by omega),hm])
   rw [Nat.mul_add,← Nat.mul_assoc,← Nat.add_assoc] at this
   exact this
theorem enc_sizeF (s : ByteArray) (a e rb : Nat) (w : World) (he : e≤s.size) (hs : s.size≤65536) (h : BadZ 5 0 (seg s a e) 0 1) (hb : RdB s a rb w) :
  Calls Tryz.prog 123 #[.pointer (some ⟨rb,0,none⟩),.int .i64 (e : Int)] w (PanE w rb 4):=by
 have HP:=Lib.hid (And.intro he hs)
 have HB:=Lib.hid hb
 have HZ:=Lib.hid h
 clear h hb
 go_enter Tryz.func123, Tryz.ntmps123
 go_wp2_with fail
 go_loopw [5,6] (fun v5 v6 wr=>∃ k c acc : Nat,k≤5∧v5=.int .i64 (acc : Int)∧v6=.int .i64 (k : Int)∧acc < 2 ^ (7*k)∧BadZ (5 - k) k (seg s c e) acc (2 ^ (7*k))∧RdB s c rb wr∧w.grownBy wr (some rb)) (fun _ v6 _=>6 - (intOf v6).toNat)
 case atStart=>exact ⟨0,a,0,by omega,rfl,rfl,by decide,HZ.out,HB.out,gb_refl⟩
 case round =>
  obtain ⟨k,c,acc,hk,rfl,rfl,hacc,hbad,hbx,hgr⟩:=hrel
  have HBX:=Lib.hid hbx
  have HGR:=Lib.hid hgr
  have HACC:=Lib.hid hacc
  obtain ⟨⟨c0,c1⟩,f1⟩:=hbx.cells
  by_cases hce : c < e
  · have hcs : c < s.size:=by omega
    have i1 : (c : Int) < (s.size : Int):=by omega
    have d1 : decide ((e : Int)≤(c : Int))=false:=decide_eq_false (by omega)
    have d2 : decide (e≤c)=false:=decide_eq_false (by omega)
    have i2 : decide (c < s.size)=true:=decide_eq_true (by omega)
    rw [seg_cons hce he] at hbad
    obtain ⟨b,hbv⟩ : ∃ b,s[c]'hcs=b:=⟨_,rfl⟩
    rw [hbv] at hbad
    have HBAD:=Lib.hid hbad
    have HBV:=Lib.hid hbv
    clear hbx hgr hacc hbad hbv
    obtain ⟨y,hy⟩ : ∃ y,b.toNat=y:=⟨_,rfl⟩
    have hy8 : y < 256:=by rw [← hy];exact b.toNat_lt
    have HY : Hid (wrap64 (((s[c]'hcs).toNat : Nat) : Int)=(y : Int)):=Lib.hid (by rw [HBV.out,hy,← hy];exact wrap64_byte b)
    have HST:=Lib.hid (fun (f k acc p : Nat) (h : BadZ (f+1) k (b::seg s (c+1) e) acc p) (h0 : ¬ (y=0∧0 < k))=>badZ_step h (by rw [hy];exact h0))
    rw [hy] at HST
    have HA:=Lib.hid (wAnd hy8)
    have HLN:=Lib.hid (seg_len (a:=c+1) he)
    clear hy
    rcases (show k=0∨k=1∨k=2∨k=3∨k=4∨k=5 by omega) with rfl | rfl | rfl | rfl | rfl | rfl
    · rw [show ((0 : Nat) : Int)=0 from rfl]
      go_upto_region 6 with fail
      go_quiet ((fail))
      rw [HY.out]
      by_cases hy0 : y=0
      · have HS:=Lib.hid ((HST.out 4 0 acc (2 ^ (7*0)) HBAD.out (by omega)).1 (by omega))
        have hyz : ((y : Int)==0)=true:=by simp;omega
        have HY0:=Lib.hid hy0
        have hl : y < 128:=by omega
        clear hy0
        have l1 : decide ((y : Int) < 128)=true:=decide_eq_true (by omega)
        have l2 : decide (y < 128)=true:=decide_eq_true hl
        obtain ⟨q,hq⟩ : ∃ q,e - (c+1)=q:=⟨_,rfl⟩
        obtain ⟨n,hn⟩ : ∃ n,acc+2 ^ (7*0)*y=n:=⟨_,rfl⟩
        have hqn : q < n:=by rw [← hq,← hn,← HLN.out];exact HS.out
        have d7 : (e : Int) - ((c : Int)+1) < (n : Int):=by omega
        have d6 : decide ((e : Int) - ((c : Int)+1) < (n : Int))=true:=decide_eq_true d7
        have HV : Hid (bits .or .i64 (acc : Int) (wrap64 (bits .and .i64 (y : Int) 127))=(n : Int)):=Lib.hid (by
         have hor:=wOr5 (x:=acc) (y:=y) (k:=7*0) HACC.out (by omega) (by decide)
         rw [HA.out,Nat.mod_eq_of_lt (by omega)]
         rw [show wrap64 ((((y : Nat)) : Int))=(((y : Nat)) : Int)*2 ^ (7*0) by unfold wrap64;omega,hor,hn])
        clear hq hn
        go_upto_region 12 with fail
        rw [HV.out]
        go_wp2_with fail
        exact ⟨rfl,rfl,HGR.out.trans (gb_drewN.trans gb_set)⟩
      · have HS:=Lib.hid (HST.out 4 0 acc (2 ^ (7*0)) HBAD.out (by omega))
        have hyz : ((y : Int)==0)=false:=by simp;omega
        have HY0:=Lib.hid hy0
        clear hy0
        by_cases hl : y < 128
        · have HS:=Lib.hid (HS.out.1 hl)
          have l1 : decide ((y : Int) < 128)=true:=decide_eq_true (by omega)
          have l2 : decide (y < 128)=true:=decide_eq_true hl
          obtain ⟨q,hq⟩ : ∃ q,e - (c+1)=q:=⟨_,rfl⟩
          obtain ⟨n,hn⟩ : ∃ n,acc+2 ^ (7*0)*y=n:=⟨_,rfl⟩
          have hqn : q < n:=by rw [← hq,← hn,← HLN.out];exact HS.out
          have d7 : (e : Int) - ((c : Int)+1) < (n : Int):=by omega
          have d6 : decide ((e : Int) - ((c : Int)+1) < (n : Int))=true:=decide_eq_true d7
          have HV : Hid (bits .or .i64 (acc : Int) (wrap64 (bits .and .i64 (y : Int) 127))=(n : Int)):=Lib.hid (by
           have hor:=wOr5 (x:=acc) (y:=y) (k:=7*0) HACC.out (by omega) (by decide)
           rw [HA.out,Nat.mod_eq_of_lt (by omega)]
           rw [show wrap64 ((((y : Nat)) : Int))=(((y : Nat)) : Int)*2 ^ (7*0) by unfold wrap64;omega,hor,hn])
          clear hq hn
          go_upto_region 12 with fail
          rw [HV.out]
          go_wp2_with fail
          exact ⟨rfl,rfl,HGR.out.trans (gb_drewN.trans gb_set)⟩
        · have HS:=Lib.hid (HS.out.2 (by omega))
          have l1 : decide ((y : Int) < 128)=false:=decide_eq_false (by omega)
          have l2 : decide (y < 128)=false:=decide_eq_false hl
          have HV : Hid (bits .or .i64 (acc : Int) (wrap64 (bits .and .i64 (y : Int) 127))=((acc+2 ^ (7*0)*(y - 128) : Nat) : Int)):=Lib.hid (by
           have hor:=wOr5 (x:=acc) (y:=y - 128) (k:=7*0) HACC.out (by omega) (by decide)
           rw [HA.out,show y % 128=y - 128 by omega]
           rw [show wrap64 (((y - 128 : Nat) : Int))=((y - 128 : Nat) : Int)*2 ^ (7*0) by unfold wrap64;omega,hor])
          go_wp2_with fail
          go_roundw
          case rel=>exact ⟨0+1,c+1,acc+2 ^ (7*0)*(y - 128),by omega,by rw [HV.out],rfl,by have:=HACC.out;omega,HS.out,HBX.out.put (c+1),HGR.out.trans (gb_drewN.trans gb_set)⟩
          case measure=>simp [intOf]
    · rw [show ((1 : Nat) : Int)=1 from rfl]
      go_upto_region 6 with fail
      go_quiet ((fail))
      rw [HY.out]
      by_cases hy0 : y=0
      · subst hy0
        go_wp2_with fail
        exact ⟨rfl,rfl,HGR.out.trans (gb_drewN.trans gb_set)⟩
      · have HS:=Lib.hid (HST.out 3 1 acc (2 ^ (7*1)) HBAD.out (by omega))
        have hyz : ((y : Int)==0)=false:=by simp;omega
        have HY0:=Lib.hid hy0
        clear hy0
        by_cases hl : y < 128
        · have HS:=Lib.hid (HS.out.1 hl)
          have l1 : decide ((y : Int) < 128)=true:=decide_eq_true (by omega)
          have l2 : decide (y < 128)=true:=decide_eq_true hl
          obtain ⟨q,hq⟩ : ∃ q,e - (c+1)=q:=⟨_,rfl⟩
          obtain ⟨n,hn⟩ : ∃ n,acc+2 ^ (7*1)*y=n:=⟨_,rfl⟩
          have hqn : q < n:=by rw [← hq,← hn,← HLN.out];exact HS.out
          have d7 : (e : Int) - ((c : Int)+1) < (n : Int):=by omega
          have d6 : decide ((e : Int) - ((c : Int)+1) < (n : Int))=true:=decide_eq_true d7
          have HV : Hid (bits .or .i64 (acc : Int) (wrap64 (bits .and .i64 (y : Int) 127*128))=(n : Int)):=Lib.hid (by
           have hor:=wOr5 (x:=acc) (y:=y) (k:=7*1) HACC.out (by omega) (by decide)
           rw [HA.out,Nat.mod_eq_of_lt (by omega)]
           rw [show wrap64 ((((y : Nat)) : Int)*128)=(((y : Nat)) : Int)*2 ^ (7*1) by unfold wrap64;omega,hor,hn])
          clear hq hn
          go_upto_region 12 with fail
          rw [HV.out]
          go_wp2_with fail
          exact ⟨rfl,rfl,HGR.out.trans (gb_drewN.trans gb_set)⟩
        · have HS:=Lib.hid (HS.out.2 (by omega))
          have l1 : decide ((y : Int) < 128)=false:=decide_eq_false (by omega)
          have l2 : decide (y < 128)=false:=decide_eq_false hl
          have HV : Hid (bits .or .i64 (acc : Int) (wrap64 (bits .and .i64 (y : Int) 127*128))=((acc+2 ^ (7*1)*(y - 128) : Nat) : Int)):=Lib.hid (by
           have hor:=wOr5 (x:=acc) (y:=y - 128) (k:=7*1) HACC.out (by omega) (by decide)
           rw [HA.out,show y % 128=y - 128 by omega]
           rw [show wrap64 (((y - 128 : Nat) : Int)*128)=((y - 128 : Nat) : Int)*2 ^ (7*1) by unfold wrap64;omega,hor])
          go_wp2_with fail
          go_roundw
          case rel=>exact ⟨1+1,c+1,acc+2 ^ (7*1)*(y - 128),by omega,by rw [HV.out],rfl,by have:=HACC.out;omega,HS.out,HBX.out.put (c+1),HGR.out.trans (gb_drewN.trans gb_set)⟩
          case measure=>simp [intOf]
    · rw [show ((2 : Nat) : Int)=2 from rfl]
      go_upto_region 6 with fail
      go_quiet ((fail))
      rw [HY.out]
      by_cases hy0 : y=0
      · subst hy0
        go_wp2_with fail
        exact ⟨rfl,rfl,HGR.out.trans (gb_drewN.trans gb_set)⟩
      · have HS:=Lib.hid (HST.out 2 2 acc (2 ^ (7*2)) HBAD.out (by omega))
        have hyz : ((y : Int)==0)=false:=by simp;omega
        have HY0:=Lib.hid hy0
        clear hy0
        by_cases hl : y < 128
        · have HS:=Lib.hid (HS.out.1 hl)
          have l1 : decide ((y : Int) < 128)=true:=decide_eq_true (by omega)
          have l2 : decide (y < 128)=true:=decide_eq_true hl
          obtain ⟨q,hq⟩ : ∃ q,e - (c+1)=q:=⟨_,rfl⟩
          obtain ⟨n,hn⟩ : ∃ n,acc+2 ^ (7*2)*y=n:=⟨_,rfl⟩
          have hqn : q < n:=by rw [← hq,← hn,← HLN.out];exact HS.out
          have d7 : (e : Int) - ((c : Int)+1) < (n : Int):=by omega
          have d6 : decide ((e : Int) - ((c : Int)+1) < (n : Int))=true:=decide_eq_true d7
          have HV : Hid (bits .or .i64 (acc : Int) (wrap64 (bits .and .i64 (y : Int) 127*16384))=(n : Int)):=Lib.hid (by
           have hor:=wOr5 (x:=acc) (y:=y) (k:=7*2) HACC.out (by omega) (by decide)
           rw [HA.out,Nat.mod_eq_of_lt (by omega)]
           rw [show wrap64 ((((y : Nat)) : Int)*16384)=(((y : Nat)) : Int)*2 ^ (7*2) by unfold wrap64;omega,hor,hn])
          clear hq hn
          go_upto_region 12 with fail
          rw [HV.out]
          go_wp2_with fail
          exact ⟨rfl,rfl,HGR.out.trans (gb_drewN.trans gb_set)⟩
        · have HS:=Lib.hid (HS.out.2 (by omega))
          have l1 : decide ((y : Int) < 128)=false:=decide_eq_false (by omega)
          have l2 : decide (y < 128)=false:=decide_eq_false hl
          have HV : Hid (bits .or .i64 (acc : Int) (wrap64 (bits .and .i64 (y : Int) 127*16384))=((acc+2 ^ (7*2)*(y - 128) : Nat) : Int)):=Lib.hid (by
           have hor:=wOr5 (x:=acc) (y:=y - 128) (k:=7*2) HACC.out (by omega) (by decide)
           rw [HA.out,show y % 128=y - 128 by omega]
           rw [show wrap64 (((y - 128 : Nat) : Int)*16384)=((y - 128 : Nat) : Int)*2 ^ (7*2) by unfold wrap64;omega,hor])
          go_wp2_with fail
          go_roundw
          case rel=>exact ⟨2+1,c+1,acc+2 ^ (7*2)*(y - 128),by omega,by rw [HV.out],rfl,by have:=HACC.out;omega,HS.out,HBX.out.put (c+1),HGR.out.trans (gb_drewN.trans gb_set)⟩
          case measure=>simp [intOf]
    · rw [show ((3 : Nat) : Int)=3 from rfl]
      go_upto_region 6 with fail
      go_quiet ((fail))
      rw [HY.out]
      by_cases hy0 : y=0
      · subst hy0
        go_wp2_with fail
        exact ⟨rfl,rfl,HGR.out.trans (gb_drewN.trans gb_set)⟩
      · have HS:=Lib.hid (HST.out 1 3 acc (2 ^ (7*3)) HBAD.out (by omega))
        have hyz : ((y : Int)==0)=false:=by simp;omega
        have HY0:=Lib.hid hy0
        clear hy0
        by_cases hl : y < 128
        · have HS:=Lib.hid (HS.out.1 hl)
          have l1 : decide ((y : Int) < 128)=true:=decide_eq_true (by omega)
          have l2 : decide (y < 128)=true:=decide_eq_true hl
          obtain ⟨q,hq⟩ : ∃ q,e - (c+1)=q:=⟨_,rfl⟩
          obtain ⟨n,hn⟩ : ∃ n,acc+2 ^ (7*3)*y=n:=⟨_,rfl⟩
          have hqn : q < n:=by rw [← hq,← hn,← HLN.out];exact HS.out
          have d7 : (e : Int) - ((c : Int)+1) < (n : Int):=by omega
          have d6 : decide ((e : Int) - ((c : Int)+1) < (n : Int))=true:=decide_eq_true d7
          have HV : Hid (bits .or .i64 (acc : Int) (wrap64 (bits .and .i64 (y : Int) 127*2097152))=(n : Int)):=Lib.hid (by
           have hor:=wOr5 (x:=acc) (y:=y) (k:=7*3) HACC.out (by omega) (by decide)
           rw [HA.out,Nat.mod_eq_of_lt (by omega)]
           rw [show wrap64 ((((y : Nat)) : Int)*2097152)=(((y : Nat)) : Int)*2 ^ (7*3) by unfold wrap64;omega,hor,hn])
          clear hq hn
          go_upto_region 12 with fail
          rw [HV.out]
          go_wp2_with fail
          exact ⟨rfl,rfl,HGR.out.trans (gb_drewN.trans gb_set)⟩
        · have HS:=Lib.hid (HS.out.2 (by omega))
          have l1 : decide ((y : Int) < 128)=false:=decide_eq_false (by omega)
          have l2 : decide (y < 128)=false:=decide_eq_false hl
          have HV : Hid (bits .or .i64 (acc : Int) (wrap64 (bits .and .i64 (y : Int) 127*2097152))=((acc+2 ^ (7*3)*(y - 128) : Nat) : Int)):=Lib.hid (by
           have hor:=wOr5 (x:=acc) (y:=y - 128) (k:=7*3) HACC.out (by omega) (by decide)
           rw [HA.out,show y % 128=y - 128 by omega]
           rw [show wrap64 (((y - 128 : Nat) : Int)*2097152)=((y - 128 : Nat) : Int)*2 ^ (7*3) by unfold wrap64;omega,hor])
          go_wp2_with fail
          go_roundw
          case rel=>exact ⟨3+1,c+1,acc+2 ^ (7*3)*(y - 128),by omega,by rw [HV.out],rfl,by have:=HACC.out;omega,HS.out,HBX.out.put (c+1),HGR.out.trans (gb_drewN.trans gb_set)⟩
          case measure=>simp [intOf]
    · rw [show ((4 : Nat) : Int)=4 from rfl]
      go_upto_region 6 with fail
      go_quiet ((fail))
      rw [HY.out]
      by_cases hy0 : y=0
      · subst hy0
        go_wp2_with fail
        exact ⟨rfl,rfl,HGR.out.trans (gb_drewN.trans gb_set)⟩
      · have HS:=Lib.hid (HST.out 0 4 acc (2 ^ (7*4)) HBAD.out (by omega))
        have hyz : ((y : Int)==0)=false:=by simp;omega
        have HY0:=Lib.hid hy0
        clear hy0
        by_cases hl : y < 128
        · have HS:=Lib.hid (HS.out.1 hl)
          have l1 : decide ((y : Int) < 128)=true:=decide_eq_true (by omega)
          have l2 : decide (y < 128)=true:=decide_eq_true hl
          obtain ⟨q,hq⟩ : ∃ q,e - (c+1)=q:=⟨_,rfl⟩
          obtain ⟨n,hn⟩ : ∃ n,acc+2 ^ (7*4)*y=n:=⟨_,rfl⟩
          have hqn : q < n:=by rw [← hq,← hn,← HLN.out];exact HS.out
          have d7 : (e : Int) - ((c : Int)+1) < (n : Int):=by omega
          have d6 : decide ((e : Int) - ((c : Int)+1) < (n : Int))=true:=decide_eq_true d7
          have HV : Hid (bits .or .i64 (acc : Int) (wrap64 (bits .and .i64 (y : Int) 127*268435456))=(n : Int)):=Lib.hid (by
           have hor:=wOr5 (x:=acc) (y:=y) (k:=7*4) HACC.out (by omega) (by decide)
           rw [HA.out,Nat.mod_eq_of_lt (by omega)]
           rw [show wrap64 ((((y : Nat)) : Int)*268435456)=(((y : Nat)) : Int)*2 ^ (7*4) by unfold wrap64;omega,hor,hn])
          clear hq hn
          go_upto_region 12 with fail
          rw [HV.out]
          go_wp2_with fail
          exact ⟨rfl,rfl,HGR.out.trans (gb_drewN.trans gb_set)⟩
        · have HS:=Lib.hid (HS.out.2 (by omega))
          have l1 : decide ((y : Int) < 128)=false:=decide_eq_false (by omega)
          have l2 : decide (y < 128)=false:=decide_eq_false hl
          have HV : Hid (bits .or .i64 (acc : Int) (wrap64 (bits .and .i64 (y : Int) 127*268435456))=((acc+2 ^ (7*4)*(y - 128) : Nat) : Int)):=Lib.hid (by
           have hor:=wOr5 (x:=acc) (y:=y - 128) (k:=7*4) HACC.out (by omega) (by decide)
           rw [HA.out,show y % 128=y - 128 by omega]
           rw [show wrap64 (((y - 128 : Nat) : Int)*268435456)=((y - 128 : Nat) : Int)*2 ^ (7*4) by unfold wrap64;omega,hor])
          go_wp2_with fail
          go_roundw
          case rel=>exact ⟨4+1,c+1,acc+2 ^ (7*4)*(y - 128),by omega,by rw [HV.out],rfl,by have:=HACC.out;omega,HS.out,HBX.out.put (c+1),HGR.out.trans (gb_drewN.trans gb_set)⟩
          case measure=>simp [intOf]
    · rw [show ((5 : Nat) : Int)=5 from rfl]
      go_wp2_with fail
      exact ⟨rfl,rfl,HGR.out⟩
  · have d1 : decide ((e : Int)≤(c : Int))=true:=decide_eq_true (by omega)
    have d2 : decide (e≤c)=true:=decide_eq_true (by omega)
    go_wp2_with fail
    exact ⟨rfl,rfl,HGR.out⟩
theorem rdO_err {lists : Nat} {s : ByteArray} {a e : Nat} {z : Int} (he : e≤s.size) (h : rdO lists (seg s a e)=.err z) :
  (e≤a∧z=4)∨(∃ ha : a < e,2 < (s[a]'(by omega)).toNat∧z=4)∨(∃ ha : a < e,(s[a]'(by omega)).toNat=2∧lists=32∧z=7) ∨
  (∃ ha : a < e,(s[a]'(by omega)).toNat≤2∧¬ ((s[a]'(by omega)).toNat=2∧lists=32)∧BadZ 5 0 (seg s (a+1) e) 0 1∧z=4) ∨
  (∃ (ha : a < e) (n a2 : Nat),szS 5 0 (seg s (a+1) e)=some (n,seg s a2 e)∧a < a2∧a2≤e∧n≤e - a2 ∧
   (((s[a]'(by omega)).toNat=0∧valid ⟨(seg s a2 (a2+n)).toArray⟩=false∧z=4) ∨
    ((s[a]'(by omega)).toNat=2∧lists≠32∧rdA (lists+1) (seg s a2 (a2+n))=.err z))):=by
 unfold rdO at h
 by_cases ha : a < e
 · rw [seg_cons ha he] at h
   simp only [rd1] at h
   split at h
   · rename_i h2
     injection h with h
     exact .inr (.inl ⟨ha,h2,h.symm⟩)
   · rename_i h2
     split at h
     · rename_i h3
       injection h with h
       exact .inr (.inr (.inl ⟨ha,h3.1,h3.2,h.symm⟩))
     · rename_i h3
       cases hs : szS 5 0 (seg s (a+1) e) with
       | none =>
         rw [hs] at h
         injection h with h
         exact .inr (.inr (.inr (.inl ⟨ha,by omega,h3,(fun m r hm=>by rw [hs] at hm;cases hm),h.symm⟩)))
       | some x =>
         obtain ⟨n,r0⟩:=x
         obtain ⟨a2,h5,h6,rfl⟩:=szS_seg he hs
         rw [hs] at h
         dsimp only at h
         split at h
         · rename_i h7
           injection h with h
           refine .inr (.inr (.inr (.inl ⟨ha,by omega,h3,(fun m r hm=>?_),h.symm⟩)))
           rw [hs] at hm
           simp only [Option.some.injEq,Prod.mk.injEq] at hm
           obtain ⟨rfl,rfl⟩:=hm
           omega
         · rename_i h7
           rw [seg_len he] at h7
           rw [seg_take (show a2+n≤e by omega),seg_drop] at h
           refine .inr (.inr (.inr (.inr ⟨ha,n,a2,rfl,by omega,h6,by omega,?_⟩)))
           split at h
           · rename_i h8
             split at h
             · cases h
             · rename_i h9
               injection h with h
               exact .inl ⟨h8,by simpa using h9,h.symm⟩
           · split at h
             · cases h
             · cases hl : rdA (lists+1) (seg s a2 (a2+n)) with
               | ok l=>rw [hl] at h;cases h
               | err e' =>
                 rw [hl] at h
                 dsimp only at h
                 injection h with h
                 subst h
                 exact .inr ⟨by omega,fun e=>h3 ⟨by omega,e⟩,rfl⟩
 · rw [seg_nil (by omega)] at h
   injection h with h
   exact .inl ⟨by omega,h.symm⟩
theorem rdA_err {lists : Nat} {L : List UInt8} {z : Int} (h : rdA lists L=.err z) : L≠[]∧(rdO lists L=.err z∨∃ y r,rdO lists L=.ok (y,r)∧rdA lists r=.err z):=by
 by_cases h0 : L=[]
 · subst h0;rw [rdA_nil] at h;cases h
 · refine ⟨h0,?_⟩
   rw [rdA_cons lists h0] at h
   cases hr : rdO lists L with
   | err e=>rw [hr] at h;dsimp only at h;injection h with h;rw [h];exact .inl rfl
   | ok y =>
     obtain ⟨y,r⟩:=y
     rw [hr] at h
     dsimp only at h
     cases ha : rdA lists r with
     | ok l=>rw [ha] at h;cases h
     | err e=>rw [ha] at h;dsimp only at h;injection h with h;rw [h] at ha;exact .inr ⟨y,r,rfl,ha⟩
end Go.Proofs.YtjhlddlocpkhkaaGreat
namespace Go.Proofs.YtjhlddlocpkhkaaGreat
open Go.RowKit
set_option maxRecDepth 100000
set_option linter.unusedVariables false
set_option maxHeartbeats 16000000
theorem rdO_z {lists : Nat} {s : ByteArray} {a e : Nat} {z : Int} (he : e≤s.size) (h : rdO lists (seg s a e)=.err z) : z=4∨z=7:=by
 have H : ∀ (N : Nat) (lists a e : Nat),e - a≤N→e≤s.size→(rdO lists (seg s a e)=.err z→z=4∨z=7)∧(rdA lists (seg s a e)=.err z→z=4∨z=7):=by
  intro N
  induction N with
  | zero =>
    intro lists a e hN he
    have hn : seg s a e=[]:=seg_nil (by omega)
    rw [hn]
    refine ⟨fun h=>?_,fun h=>by rw [rdA_nil] at h;cases h⟩
    unfold rdO rd1 at h
    injection h with h
    exact .inl h.symm
  | succ N ih =>
    intro lists a e hN he
    have h1 : rdO lists (seg s a e)=.err z→z=4∨z=7:=by
     intro h
     rcases rdO_err he h with ⟨_,h⟩ | ⟨_,_,h⟩ | ⟨_,_,_,h⟩ | ⟨_,_,_,_,h⟩ | ⟨ha,n,a2,h0,h2,h3,h4,⟨_,_,h⟩ | ⟨_,_,h⟩⟩
     · exact .inl h
     · exact .inl h
     · exact .inr h
     · exact .inl h
     · exact .inl h
     · exact (ih (lists+1) a2 (a2+n) (by omega) (by omega)).2 h
    refine ⟨h1,fun h=>?_⟩
    obtain ⟨h0,h2 | ⟨y,r,h2,h3⟩⟩:=rdA_err h
    · exact h1 h2
    · obtain ⟨ha,n,a2,_,_,_,h5,h6,h7,rfl,_⟩:=rdO_inv he h2
      exact (ih lists (a2+n) e (by omega) he).2 h3
 exact (H _ lists a e (Nat.le_refl _) he).1 h
def RdR (w : World) (s : ByteArray) (e : Nat) (p : Rd (Its.One × List UInt8)) (o : Ending) (w' : World) : Prop :=
 match p with
 | .ok (y,r)=>∃ A c a3,o=.returned (.tuple #[.agg #[.int .i64 y.1,.string y.2.1,.string y.2.2.1,.slice A y.2.2.2.len c],.int .i64 ((a3 : Nat) : Int),.int .i64 0])∧r=seg s a3 e∧a3≤e∧y.2.2.2.len≤c∧SlK w' (fun g=>w.heap.size≤g∧g < w'.heap.size) A y.2.2.2∧Below w.heap.size w w'
 | .err z=>o=.returned (.tuple #[.agg #[.int .i64 0,.string ⟨#[]⟩,.string ⟨#[]⟩,.slice none 0 0],.int .i64 0,.int .i64 z])∧Below w.heap.size w w'
structure ItR (w : World) (k : Int) (n t : ByteArray) (A : Option Addr) (ln c : Nat) (wx : World) : Prop where
 res : wx.heap[w.heap.size]?=some (.cells #[.int .i64 0,.string ⟨#[]⟩,.string ⟨#[]⟩,.slice none 0 0] 63 (0,0))
 it : wx.heap[w.heap.size+1]?=some (.cells #[.int .i64 k,.string n,.string t,.slice A ln c] 63 (0,0))
 bel : Below w.heap.size w wx
 size : w.heap.size+2≤wx.heap.size
section
variable {w wx w' : World} {k : Int} {n t : ByteArray} {A : Option Addr} {ln c : Nat}
theorem ItR.start {z : Int} (hz : z=k) : ItR w k ⟨#[]⟩ ⟨#[]⟩ none 0 0 ((w.alloc (.cells #[.int .i64 0,.string ⟨#[]⟩,.string ⟨#[]⟩,.slice none 0 0] 63)).alloc (.cells #[.int .i64 z,.string ⟨#[]⟩,.string ⟨#[]⟩,.slice none 0 0] 63)):=by
 subst hz
 exact ⟨(two_boxes w _ _).1,(two_boxes w _ _).2,((Below.refl _ _).alloc (Nat.le_refl _) _).alloc (by simp) _,by simp⟩
theorem ItR.next (h : ItR w k n t A ln c wx) (hb : Below wx.heap.size wx w') : ItR w k n t A ln c w' :=
 have hz:=h.size
 ⟨(hb.block _ (by omega)).trans h.res,(hb.block _ (by omega)).trans h.it,below2 h.bel hb,Nat.le_trans h.size hb.size⟩
theorem ItR.far (h : ItR w k n t A ln c wx) (hb : Below (w.heap.size+2) wx w') : ItR w k n t A ln c w' :=
 ⟨(hb.block _ (by omega)).trans h.res,(hb.block _ (by omega)).trans h.it,h.bel.trans (hb.mono (by omega)),Nat.le_trans h.size hb.size⟩
theorem ItR.cells (h : ItR w k n t A ln c wx) : (wx.cell? ⟨w.heap.size+1,0,none⟩=some (.int .i64 k)∧wx.cell? ⟨w.heap.size+1,1,none⟩=some (.string n)∧wx.cell? ⟨w.heap.size+1,2,none⟩=some (.string t)∧wx.cell? ⟨w.heap.size+1,3,none⟩=some (.slice A ln c)) ∧
  (wx.frozen? ⟨w.heap.size+1,0,none⟩=false∧wx.frozen? ⟨w.heap.size+1,1,none⟩=false∧wx.frozen? ⟨w.heap.size+1,2,none⟩=false∧wx.frozen? ⟨w.heap.size+1,3,none⟩=false) :=
 ⟨⟨cell_of_row wx _ 0 _ _ _ h.it,cell_of_row wx _ 1 _ _ _ h.it,cell_of_row wx _ 2 _ _ _ h.it,cell_of_row wx _ 3 _ _ _ h.it⟩,frozen_of_row wx _ 0 _ _ h.it,frozen_of_row wx _ 1 _ _ h.it,frozen_of_row wx _ 2 _ _ h.it,frozen_of_row wx _ 3 _ _ h.it⟩
theorem ItR.rc (h : ItR w k n t A ln c wx) : (wx.cell? ⟨w.heap.size,0,none⟩=some (.int .i64 0)∧wx.cell? ⟨w.heap.size,1,none⟩=some (.string ⟨#[]⟩)∧wx.cell? ⟨w.heap.size,2,none⟩=some (.string ⟨#[]⟩)∧wx.cell? ⟨w.heap.size,3,none⟩=some (.slice none 0 0)) ∧
  (wx.frozen? ⟨w.heap.size,0,none⟩=false∧wx.frozen? ⟨w.heap.size,1,none⟩=false∧wx.frozen? ⟨w.heap.size,2,none⟩=false∧wx.frozen? ⟨w.heap.size,3,none⟩=false) :=
 ⟨⟨cell_of_row wx _ 0 _ _ _ h.res,cell_of_row wx _ 1 _ _ _ h.res,cell_of_row wx _ 2 _ _ _ h.res,cell_of_row wx _ 3 _ _ _ h.res⟩,frozen_of_row wx _ 0 _ _ h.res,frozen_of_row wx _ 1 _ _ h.res,frozen_of_row wx _ 2 _ _ h.res,frozen_of_row wx _ 3 _ _ h.res⟩
theorem ItR.put1 (h : ItR w k n t A ln c wx) (x : ByteArray) : ItR w k x t A ln c (wx.setCell ⟨w.heap.size+1,1,none⟩ (.string x)) :=
 ⟨(heap_setCell_other _ _ _ _ (show w.heap.size≠w.heap.size+1 by omega)).trans h.res,heap_setCell_same wx (w.heap.size+1) 1 _ _ _ h.it,h.bel.setCell (p:=⟨w.heap.size+1,1,none⟩) (Nat.le_succ _) _,by simpa using h.size⟩
theorem ItR.put2 (h : ItR w k n t A ln c wx) (x : ByteArray) : ItR w k n x A ln c (wx.setCell ⟨w.heap.size+1,2,none⟩ (.string x)) :=
 ⟨(heap_setCell_other _ _ _ _ (show w.heap.size≠w.heap.size+1 by omega)).trans h.res,heap_setCell_same wx (w.heap.size+1) 2 _ _ _ h.it,h.bel.setCell (p:=⟨w.heap.size+1,2,none⟩) (Nat.le_succ _) _,by simpa using h.size⟩
theorem ItR.put3 (h : ItR w k n t A ln c wx) (A' : Option Addr) (ln' c' : Nat) : ItR w k n t A' ln' c' (wx.setCell ⟨w.heap.size+1,3,none⟩ (.slice A' ln' c')) :=
 ⟨(heap_setCell_other _ _ _ _ (show w.heap.size≠w.heap.size+1 by omega)).trans h.res,heap_setCell_same wx (w.heap.size+1) 3 _ _ _ h.it,h.bel.setCell (p:=⟨w.heap.size+1,3,none⟩) (Nat.le_succ _) _,by simpa using h.size⟩
theorem fin4 (h : Below w.heap.size w wx) (v0 v1 v2 v3 : Value) : Below w.heap.size w ((((wx.setCell ⟨w.heap.size,0,none⟩ v0).setCell ⟨w.heap.size,1,none⟩ v1).setCell ⟨w.heap.size,2,none⟩ v2).setCell ⟨w.heap.size,3,none⟩ v3) :=
 (((h.setCell (p:=⟨w.heap.size,0,none⟩) (Nat.le_refl _) _).setCell (p:=⟨w.heap.size,1,none⟩) (Nat.le_refl _) _).setCell (p:=⟨w.heap.size,2,none⟩) (Nat.le_refl _) _).setCell (p:=⟨w.heap.size,3,none⟩) (Nat.le_refl _) _
end
theorem wpList_append_K {ops : Array Oper} {rest : List Oper} {o : Oper} {a : Act} {Q : Exit→Act→World→Prop} {w : World} (hgd : o.guard=none) (s x : Operand)
  (ho : o.op=.call { callee:=.builtin .append,args:=#[s,x],argTypes:=#[61,61] })
  (base : Nat) (v : Value) (l : Its) (hs : a.eval s=v) (hown : OwnK w base v l) (y : Its.One) (A : Option Addr) (c g c' : Nat) (hx : a.eval x=.slice (some ⟨g,0,none⟩) 1 c')
  (hg : w.heap[g]?=some (.cells (cellsI y A c).toArray 63 (0,0))) (hyc : y.2.2.2.len≤c) (hy : SlK w (fun g=>base≤g∧g < w.heap.size∧v.ownBlock≠some g) A y.2.2.2) (hsz : l.len≤100000) (hbase : base≤w.heap.size)
  (h : ∀ v' w',OwnK w' base v' (l.app (Its.one y))→w.grownBy w' v.ownBlock→wpList Tryz.prog ops Q rest (a.put o.dst v') w') : wpList Tryz.prog ops Q (o::rest) a w:=by
 obtain ⟨i,hi,hz,hs1,hb1⟩:=itemE
 have hbk:=hown.blockOf
 obtain ⟨L,h1,h2⟩:=hown
 have hlt : g < w.heap.size:=(Array.getElem?_eq_some_iff.1 hg).1
 have hr : Reads w w.heap.size 4 (some ⟨g,0,none⟩) 1 (cellsI y A c):=⟨rfl,fun _=>⟨_,rfl,hlt,fun j u hu=>by
  rw [addr_add,Nat.zero_add]
  have:=cell_of_row w g j _ _ _ hg
  rw [this,← hu]
  simp⟩⟩
 have hone : ∀ u ∈ cellsI y A c,u.oneCell'=true:=fun u hu=>by
  simp only [cellsI,List.mem_cons,List.not_mem_nil,or_false] at hu
  rcases hu with rfl | rfl | rfl | rfl<;>rfl
 refine wpList_append_any w hgd s x 61 ho base 63 i (.agg #[.int .i64 0,.string ByteArray.empty,.string ByteArray.empty,.slice none 0 0]) 4 64 Tryz.underlying61 hi hz hs1 hb1 rfl (by decide) v l.len L hs h1 w.heap.size (some ⟨g,0,none⟩) 1 c' (cellsI y A c) hx hr hone (by unfold maxLen;omega) (by omega) hbase ?_
 intro v' w' g1 g2 g3
 have hkeep : ∀ p : Addr,(base≤p.block∧p.block < w.heap.size∧v.ownBlock≠some p.block)→w'.cell? p=w.cell? p:=fun p hp=>World.cell?_of_block (g2.block p.block hp.2.1 (fun e=>hp.2.2 e.symm))
 have hset : ∀ k,(base≤k∧k < w.heap.size∧v.ownBlock≠some k)→(base≤k∧k < w'.heap.size∧v'.ownBlock≠some k):=fun k hk=>by
  refine ⟨hk.1,Nat.lt_of_lt_of_le hk.2.1 g2.size,?_⟩
  rcases g3 with e | e
  · rw [e];exact hk.2.2
  · rw [e];intro e2;injection e2 with e2;have:=hk.2.1;omega
 refine h v' w' ⟨L++cellsI y A c,by rw [Its.len_app];exact g1,((h2.keep hkeep).mono hset).app (RelK.single hyc ((hy.keep hkeep).mono hset))⟩ g2
theorem OwnK.setB {w : World} {base : Nat} {v : Value} {l : Its} (h : OwnK w base v l) {p : Addr} (hp : p.block < base) (u : Value) : OwnK (w.setCell p u) base v l:=by
 obtain ⟨L,h1,h2⟩:=h
 exact ⟨L,owns_set h1 (fun e=>by have:=(h1.lt _ e).1;omega) _,(h2.keep fun q hq=>World.cell?_setCell_other _ _ _ _ (fun e=>by have:=congrArg Addr.block e;have:=hq.1;omega)).mono fun g hg'=>by simpa using hg'⟩
theorem rdO_front {lists : Nat} {s : ByteArray} {a e : Nat} (he : e≤s.size) (ha : a < e) (h2 : (s[a]'(by omega)).toNat≤2) (h3 : ¬ ((s[a]'(by omega)).toNat=2∧lists=32)) :
  (BadZ 5 0 (seg s (a+1) e) 0 1→rdO lists (seg s a e)=.err 4)∧(∀ n a2,szS 5 0 (seg s (a+1) e)=some (n,seg s a2 e)→a2≤e→n≤e - a2 →
   rdO lists (seg s a e)=if (s[a]'(by omega)).toNat=0 then (if valid ⟨(seg s a2 (a2+n)).toArray⟩=true then .ok ((0,⟨(seg s a2 (a2+n)).toArray⟩,E0,.nil),seg s (a2+n) e) else .err 4)
    else if (s[a]'(by omega)).toNat=1 then .ok ((1,E0,⟨(seg s a2 (a2+n)).toArray⟩,.nil),seg s (a2+n) e)
    else match rdA (lists+1) (seg s a2 (a2+n)) with
     | .err z=>.err z
     | .ok l=>.ok ((2,E0,E0,l),seg s (a2+n) e)):=by
 refine ⟨fun hb=>?_,fun n a2 hs ha2 hn=>?_⟩
 · unfold rdO
   rw [seg_cons ha he]
   simp only [rd1]
   rw [if_neg (by omega),if_neg (show ¬ (_∧lists=deepMax) from h3)]
   cases hs : szS 5 0 (seg s (a+1) e) with
   | none=>rfl
   | some x =>
     dsimp only
     rw [if_pos (by have:=hb x.1 x.2 hs;omega)]
 · unfold rdO
   rw [seg_cons ha he]
   simp only [rd1]
   rw [if_neg (by omega),if_neg (show ¬ (_∧lists=deepMax) from h3),hs]
   dsimp only
   rw [if_neg (by rw [seg_len he];omega),seg_take (show a2+n≤e by omega),seg_drop]
   rfl
theorem szS_go {f k m : Nat} {b : UInt8} {L r : List UInt8} (h0 : ¬ (b.toNat=0∧0 < k)) (hb : 128≤b.toNat) (h : szS f (k+1) L=some (m,r)) : szS (f+1) k (b::L)=some (b.toNat - 128+128*m,r):=by
 simp only [szS]
 rw [if_neg h0,if_neg (by omega),h]
theorem szS_end {f k : Nat} {b : UInt8} {L : List UInt8} (h0 : ¬ (b.toNat=0∧0 < k)) (hb : b.toNat < 128) : szS (f+1) k (b::L)=some (b.toNat,L):=by
 simp only [szS]
 rw [if_neg h0,if_pos hb]
theorem badZ_go {f k acc p : Nat} {b : UInt8} {L : List UInt8} (h0 : ¬ (b.toNat=0∧0 < k)) (hb : 128≤b.toNat) (h : BadZ f (k+1) L (acc+p*(b.toNat - 128)) (p*128)) : BadZ (f+1) k (b::L) acc p:=by
 intro m r hm
 simp only [szS] at hm
 rw [if_neg h0,if_neg (by omega)] at hm
 cases hs : szS f (k+1) L with
 | none=>rw [hs] at hm;cases hm
 | some x =>
   rw [hs] at hm
   simp only [Option.some.injEq,Prod.mk.injEq] at hm
   obtain ⟨rfl,rfl⟩:=hm
   have:=h x.1 x.2 hs
   rw [Nat.mul_add,← Nat.mul_assoc,← Nat.add_assoc]
   exact this
theorem badZ_none {f k acc p : Nat} {L : List UInt8} (h : szS f k L=none) : BadZ f k L acc p:=fun m r hm=>by rw [h] at hm;cases hm
theorem accW {acc y p : Nat} (hp : p≤268435456) (ha : acc < p) : wrap64 ((acc : Int)+wrap64 ((y : Int) % 128*(p : Int)))=((acc+p*(y % 128) : Nat) : Int):=by
 have h1 : (y % 128)*p≤127*268435456:=Nat.mul_le_mul (by omega) hp
 have e1 : (y : Int) % 128*(p : Int)=((y % 128*p : Nat) : Int):=by simp
 rw [e1,Nat.mul_comm p]
 generalize y % 128*p=d at h1 ⊢
 unfold wrap64
 omega
theorem pow128 {j : Nat} (h : j≤4) : 128 ^ j≤268435456:=Nat.le_trans (Nat.pow_le_pow_right (by decide) h) (by decide)
def preR (d : Its) (p : Rd Its) : Rd Its:=match p with | .err z=>.err z | .ok l=>.ok (d.app l)
theorem preR_nil (p : Rd Its) : preR .nil p=p:=by cases p<;>rfl
theorem preR_app (d e : Its) (p : Rd Its) : preR (d.app e) p=preR d (preR e p):=by
 cases p with
 | err z=>rfl
 | ok l=>unfold preR;dsimp only;rw [Its.app_assoc]
theorem r08_read0 (s : ByteArray) (a e lists : Nat) (w : World) (he : e≤s.size) (hs : s.size≤65536) (hli : lists≤32) (ha : a < e) (hk : (s[a]'(by omega)).toNat=0) :
  Calls Tryz.prog 107 #[.string s,.int .i64 (a : Int),.int .i64 (e : Int),.int .i64 (lists : Int)] w (RdR w s e (rdO lists (seg s a e))):=by
 have HE:=Lib.hid (And.intro he (And.intro hs ha))
 obtain ⟨P,hP⟩ : ∃ P,rdO lists (seg s a e)=P:=⟨_,rfl⟩
 rw [hP]
 have d1 : decide ((e : Int)≤(a : Int))=false:=decide_eq_false (by omega)
 have d2 : decide (e≤a)=false:=decide_eq_false (by omega)
 have i1 : (a : Int) < (s.size : Int):=by omega
 have i2 : decide (a < s.size)=true:=decide_eq_true (by omega)
 have hfr:=rdO_front (lists:=lists) he ha (by omega) (by omega)
 rw [hP,hk] at hfr
 have HFR:=Lib.hid hfr
 have HI0:=Lib.hid (ItR.start (w:=w) (k:=0) (z:=0) rfl)
 clear hP hfr
 go_enter Tryz.func107, Tryz.ntmps107
 go_upto_region 7 with fail
 obtain ⟨w1,hw1⟩ : ∃ w1,((w.alloc (.cells #[.int .i64 0,.string ⟨#[]⟩,.string ⟨#[]⟩,.slice none 0 0] 63)).alloc (.cells #[.int .i64 0,.string ⟨#[]⟩,.string ⟨#[]⟩,.slice none 0 0] 63))=w1:=⟨_,rfl⟩
 rw [hw1] at HI0 ⊢
 clear hw1 hk d1 d2 i1 i2
 go_upto_region 8 with fail
 go_loopw [1,12,13,14] (fun v1 v12 v13 v14 wr=>∃ c acc p j : Nat,v1=.int .i64 (c : Int)∧v12=.int .i64 (acc : Int)∧v13=.int .i64 (p : Int)∧v14=.int .i64 (j : Int)∧j≤5∧p=128 ^ j∧acc < p∧a < c∧c≤e ∧
   (BadZ (5 - j) j (seg s c e) acc p→BadZ 5 0 (seg s (a+1) e) 0 1)∧(∀ m r,szS (5 - j) j (seg s c e)=some (m,r)→szS 5 0 (seg s (a+1) e)=some (acc+p*m,r))∧ItR w 0 ⟨#[]⟩ ⟨#[]⟩ none 0 0 wr) (fun _ _ _ v14 _=>6 - (intOf v14).toNat)
 case atStart=>exact ⟨a+1,0,1,0,rfl,rfl,rfl,rfl,by omega,rfl,by omega,by omega,by have:=HE.out;omega,fun h=>h,fun m r h=>by rw [h];simp,HI0.out⟩
 case round =>
  obtain ⟨c,acc,p,j,rfl,rfl,rfl,rfl,hj,hp,hacc,hac,hce,hbad,hgood,hit⟩:=hrel
  have HBAD:=Lib.hid hbad
  have HGOOD:=Lib.hid hgood
  have HIT:=Lib.hid hit
  have HPP:=Lib.hid hp
  have HAC:=Lib.hid (And.intro hacc (And.intro hac hce))
  clear hbad hgood hit HI0 hp hacc hac hce
  have hfail : BadZ (5 - j) j (seg s c e) acc p→P=.err 4:=fun h=>HFR.out.1 (HBAD.out h)
  have HFAIL:=Lib.hid hfail
  clear hfail
  obtain ⟨⟨x0,x1,x2,x3⟩,f0,f1,f2,f3⟩:=HIT.out.cells
  obtain ⟨⟨r0,r1,r2,r3⟩,g0,g1,g2,g3⟩:=HIT.out.rc
  by_cases hlt : c < e
  · by_cases hj5 : j=5
    · subst hj5
      have hPE:=HFAIL.out (badZ_none rfl)
      subst hPE
      have d1 : decide ((e : Int)≤(c : Int))=false:=decide_eq_false (by omega)
      have d2 : decide (e≤c)=false:=decide_eq_false (by omega)
      rw [show ((5 : Nat) : Int)=5 from rfl]
      go_wp2_with fail
      refine bodyPost_ret (v:=.tuple #[.agg #[.int .i64 0,.string ⟨#[]⟩,.string ⟨#[]⟩,.slice none 0 0],.int .i64 0,.int .i64 4]) (by simp [results,Tryz.results107,go_sem,r0,r1,r2,r3]) rfl ?_
      exact ⟨rfl,fin4 HIT.out.bel _ _ _ _⟩
    · have hcs : c < s.size:=by omega
      have i1 : (c : Int) < (s.size : Int):=by omega
      have d1 : decide ((e : Int)≤(c : Int))=false:=decide_eq_false (by omega)
      have d2 : decide (e≤c)=false:=decide_eq_false (by omega)
      have i2 : decide (c < s.size)=true:=decide_eq_true (by omega)
      have d5 : ((j : Int)==5)=false:=by simp;omega
      obtain ⟨y,hy⟩ : ∃ y,(s[c]'hcs).toNat=y:=⟨_,rfl⟩
      have hy8 : y < 256:=by rw [← hy];exact (s[c]'hcs).toNat_lt
      have hj4 : j≤4:=by omega
      have HJ:=Lib.hid (And.intro hj hj5)
      have HLT:=Lib.hid hlt
      clear hj hj5 hlt
      go_upto_region 13 with fail
      go_upto_region 14 with fail
      have hp4 : p≤268435456:=by rw [HPP.out];exact pow128 hj4
      rw [accW hp4 HAC.out.1]
      have HY:=Lib.hid hy
      obtain ⟨b,hb⟩ : ∃ b,s[c]'hcs=b:=⟨_,rfl⟩
      have hsc:=seg_cons HLT.out HE.out.1
      rw [hb] at hsc
      have hby : b.toNat=y:=by rw [← hb];exact hy
      rw [hsc,show 5 - j=(4 - j)+1 by omega] at HGOOD HFAIL
      have HBY:=Lib.hid hby
      have HLN:=Lib.hid (seg_len (a:=c+1) HE.out.1)
      clear hsc hb hby hy
      by_cases hl : y < 128
      · have l1 : decide ((y : Int) < 128)=true:=decide_eq_true (by omega)
        have l2 : decide (y < 128)=true:=decide_eq_true hl
        rw [Nat.mod_eq_of_lt hl]
        by_cases hz : y=0∧0 < j
        · have hPE:=HFAIL.out (badZ_none (by simp only [szS];rw [HBY.out,if_pos hz]))
          subst hPE
          obtain ⟨rfl,hj0⟩:=hz
          have k1 : decide ((1 : Int) < (j : Int)+1)=true:=decide_eq_true (by omega)
          have k2 : (1 : Int) < (j : Int)+1:=by omega
          clear HGOOD HBAD HFAIL
          go_wp2_with fail
          refine bodyPost_ret (v:=.tuple #[.agg #[.int .i64 0,.string ⟨#[]⟩,.string ⟨#[]⟩,.slice none 0 0],.int .i64 0,.int .i64 4]) (by simp [results,Tryz.results107,go_sem,r0,r1,r2,r3]) rfl ?_
          exact ⟨rfl,fin4 HIT.out.bel _ _ _ _⟩
        · have hend:=HGOOD.out y (seg s (c+1) e) (by rw [← HBY.out];exact szS_end (by rw [HBY.out];exact hz) (by rw [HBY.out];exact hl))
          obtain ⟨n,hn⟩ : ∃ n,acc+p*y=n:=⟨_,rfl⟩
          rw [hn] at hend ⊢
          have hn9 : n≤1000000000000:=by rw [← hn];have:=HAC.out.1;have : p*y≤268435456*127:=Nat.mul_le_mul hp4 (by omega);omega
          have hbz : e - (c+1) < n→P=.err 4:=fun h=>HFAIL.out (fun m r hm=>by
           have h2:=szS_end (f:=4 - j) (k:=j) (L:=seg s (c+1) e) (by rw [HBY.out];exact hz) (by rw [HBY.out];exact hl)
           rw [h2,HBY.out] at hm
           simp only [Option.some.injEq,Prod.mk.injEq] at hm
           obtain ⟨rfl,rfl⟩:=hm
           rw [HLN.out,hn]
           exact h)
          have HEND:=Lib.hid hend
          have HBZ:=Lib.hid hbz
          have hzz : (((y : Int)==0)&&decide ((1 : Int) < (j : Int)+1))=false:=by
           by_cases e : y=0
           · rw [Bool.and_eq_false_iff];exact .inr (decide_eq_false (by have : ¬ 0 < j:=fun h=>hz ⟨e,h⟩;omega))
           · rw [Bool.and_eq_false_iff];exact .inl (by simp;omega)
          have HZ:=Lib.hid (And.intro hz hn)
          clear hend hbz hz hn HGOOD HBAD HFAIL
          have hce2 : c+1≤e:=HLT.out
          by_cases hgt : e - (c+1) < n
          · have hPE:=HBZ.out hgt
            subst hPE
            have d7 : (e : Int) - ((c : Int)+1) < (n : Int):=by omega
            have d6 : decide ((e : Int) - ((c : Int)+1) < (n : Int))=true:=decide_eq_true d7
            clear HEND HBZ
            by_cases hy0 : y=0
            · subst hy0
              have k1 : decide ((1 : Int) < (j : Int)+1)=false:=decide_eq_false (by have:=HZ.out.1;omega)
              have k2 : ¬ (1 : Int) < (j : Int)+1:=by have:=HZ.out.1;omega
              clear hzz
              go_wp2_with fail
              refine bodyPost_ret (v:=.tuple #[.agg #[.int .i64 0,.string ⟨#[]⟩,.string ⟨#[]⟩,.slice none 0 0],.int .i64 0,.int .i64 4]) (by simp [results,Tryz.results107,go_sem,r0,r1,r2,r3]) rfl ?_
              exact ⟨rfl,fin4 HIT.out.bel _ _ _ _⟩
            · have k1 : ((y : Int)==0)=false:=by simp;omega
              clear hzz
              go_wp2_with fail
              refine bodyPost_ret (v:=.tuple #[.agg #[.int .i64 0,.string ⟨#[]⟩,.string ⟨#[]⟩,.slice none 0 0],.int .i64 0,.int .i64 4]) (by simp [results,Tryz.results107,go_sem,r0,r1,r2,r3]) rfl ?_
              exact ⟨rfl,fin4 HIT.out.bel _ _ _ _⟩
          · have hgo:=HFR.out.2 n (c+1) HEND.out hce2 (by omega)
            have d7 : ¬ (e : Int) - ((c : Int)+1) < (n : Int):=by omega
            have d6 : decide ((e : Int) - ((c : Int)+1) < (n : Int))=false:=decide_eq_false d7
            obtain ⟨m,hm⟩ : ∃ m,c+1+n=m:=⟨_,rfl⟩
            rw [hm] at hgo
            obtain ⟨q,hq⟩ : ∃ q,c+1=q:=⟨_,rfl⟩
            have hmi : (c : Int)+1+(n : Int)=(m : Int):=by omega
            have HM:=Lib.hid (And.intro hq (show q≤m∧m≤e∧a < q by have:=HAC.out;omega))
            rw [hq] at hgo
            have HGO:=Lib.hid hgo
            clear HEND HBZ hm hgo hq
            have hz2 : (((y : Int)==0)=true∧decide ((1 : Int) < (j : Int)+1)=false)∨((y : Int)==0)=false:=by
             by_cases e : y=0
             · exact .inl ⟨by rw [e];rfl,decide_eq_false (by have : ¬ 0 < j:=fun h=>HZ.out.1 ⟨e,h⟩;omega)⟩
             · exact .inr (by simp;omega)
            clear hzz
            rcases hz2 with ⟨k1,k2⟩ | k1
            all_goals
             go_upto_region 21 with fail
             have hqi : (c : Int)+1=(q : Int):=by have:=HM.out.1;omega
             clear d6 d7 hmi hgt l1 l2 hl
             obtain ⟨x,hx⟩ : ∃ x : ByteArray,⟨(seg s q m).toArray⟩=x:=⟨_,rfl⟩
             have hme : q≤m∧m≤s.size:=by have:=HM.out;have:=HE.out;omega
             have hext : s.extract q m=x:=by rw [← hx,seg_extract (by omega) (by omega)]
             have m1 : (q : Int)≤(m : Int):=by omega
             have m2 : (m : Int)≤(s.size : Int):=by omega
             have m3:=hme.1
             have m4:=hme.2
             have HG2:=HGO.out
             rw [hx] at HG2
             have HG3:=Lib.hid HG2
             clear hme hx HG2
             have HCAN:=Lib.hid (fun W=>r08_canonical x W)
             go_upto_region 30 with fail
             have HI2:=Lib.hid (HIT.out.put1 x)
             obtain ⟨w2,hw2⟩ : ∃ w2,wr.setCell ⟨w.heap.size+1,1,none⟩ (.string x)=w2:=⟨_,rfl⟩
             rw [hw2] at HI2 ⊢
             clear hw2 x0 x1 x2 x3 f0 f1 f2 f3 r0 r1 r2 r3 g0 g1 g2 g3
             obtain ⟨⟨x0,x1,x2,x3⟩,f0,f1,f2,f3⟩:=HI2.out.cells
             obtain ⟨⟨r0,r1,r2,r3⟩,g0,g1,g2,g3⟩:=HI2.out.rc
             cases hv : valid x
             · rw [hv] at HCAN
               have hPE : P=.err 4:=by have:=HG3.out;rw [hv] at this;exact this
               subst hPE
               go_wp2_with (go_at_call 129;(with_reducible refine (HCAN.out _).mono ?_);rintro o w3 ⟨rfl,rfl⟩)
               refine bodyPost_ret (v:=.tuple #[.agg #[.int .i64 0,.string ⟨#[]⟩,.string ⟨#[]⟩,.slice none 0 0],.int .i64 0,.int .i64 4]) (by simp [results,Tryz.results107,go_sem,r0,r1,r2,r3]) rfl ?_
               exact ⟨rfl,fin4 HI2.out.bel _ _ _ _⟩
             · rw [hv] at HCAN
               have hPE : P=.ok ((0,x,E0,.nil),seg s m e):=by have:=HG3.out;rw [hv] at this;exact this
               subst hPE
               go_wp2_with (go_at_call 129;(with_reducible refine (HCAN.out _).mono ?_);rintro o w3 ⟨rfl,rfl⟩)
               refine bodyPost_ret (v:=.tuple #[.agg #[.int .i64 0,.string x,.string ⟨#[]⟩,.slice none 0 0],.int .i64 (m : Int),.int .i64 0]) (by simp [results,Tryz.results107,go_sem,r0,r1,r2,r3]) rfl ?_
               exact ⟨none,0,m,rfl,rfl,HM.out.2.2.1,Nat.le_refl _,SlK.nil_,fin4 HI2.out.bel _ _ _ _⟩
      · have l1 : decide ((y : Int) < 128)=false:=decide_eq_false (by omega)
        have l2 : decide (y < 128)=false:=decide_eq_false hl
        have HNZ : Hid (¬ (b.toNat=0∧0 < j)):=Lib.hid (by rw [HBY.out];omega)
        have hyq : y % 128=y - 128:=by omega
        rw [hyq]
        obtain ⟨n,hn⟩ : ∃ n,acc+p*(y - 128)=n:=⟨_,rfl⟩
        obtain ⟨p2,hp2⟩ : ∃ p2,p*128=p2:=⟨_,rfl⟩
        have hwp : wrap64 ((p : Int)*128)=(p2 : Int):=by unfold wrap64;omega
        rw [hn]
        have HN:=Lib.hid (And.intro hn hp2)
        clear hn hp2 hyq
        have HAC2:=HAC.out
        have hle : p*(y - 128)≤p*127:=Nat.mul_le_mul_left _ (by omega)
        have hn2 : n < p2:=by rw [← HN.out.1,← HN.out.2];omega
        have hpj : p2=128 ^ (j+1):=by rw [← HN.out.2,HPP.out,Nat.pow_succ]
        have HB3:=Lib.hid (And.intro hn2 hpj)
        clear hle hn2 hpj HAC2
        go_wp2_with fail
        refine ⟨⟨c+1,n,p2,j+1,by go_num,rfl,by rw [← HN.out.2];go_num,by go_num,by omega,HB3.out.2,HB3.out.1,by have:=HAC.out;omega,by have:=HLT.out;omega,fun h=>HBAD.out ?_,fun m r h=>?_,HIT.out⟩,by simp only [intOf];omega⟩
        · rw [seg_cons HLT.out HE.out.1,show 5 - j=(4 - j)+1 by omega]
          refine badZ_go (by rw [show (s[c]'(by have:=HLT.out;have:=HE.out.1;omega)).toNat=y from HY.out];omega) (by rw [show (s[c]'(by have:=HLT.out;have:=HE.out.1;omega)).toNat=y from HY.out];omega) ?_
          rw [show (s[c]'(by have:=HLT.out;have:=HE.out.1;omega)).toNat=y from HY.out,HN.out.1,HN.out.2,show 4 - j=5 - (j+1) by omega]
          exact h
        · rw [show 5 - (j+1)=4 - j by omega] at h
          rw [HGOOD.out _ _ (szS_go HNZ.out (by rw [HBY.out];omega) h),HBY.out,← HN.out.1,← HN.out.2]
          congr 2
          rw [Nat.mul_add,← Nat.mul_assoc,← Nat.add_assoc]
  · have hPE:=HFAIL.out (badZ_none (by rw [seg_nil (by omega)];cases 5 - j<;>rfl))
    subst hPE
    have d1 : decide ((e : Int)≤(c : Int))=true:=decide_eq_true (by omega)
    have d2 : decide (e≤c)=true:=decide_eq_true (by omega)
    go_wp2_with fail
    refine bodyPost_ret (v:=.tuple #[.agg #[.int .i64 0,.string ⟨#[]⟩,.string ⟨#[]⟩,.slice none 0 0],.int .i64 0,.int .i64 4]) (by simp [results,Tryz.results107,go_sem,r0,r1,r2,r3]) rfl ?_
    exact ⟨rfl,fin4 HIT.out.bel _ _ _ _⟩
theorem r08_read1 (s : ByteArray) (a e lists : Nat) (w : World) (he : e≤s.size) (hs : s.size≤65536) (hli : lists≤32) (ha : a < e) (hk : (s[a]'(by omega)).toNat=1) :
  Calls Tryz.prog 107 #[.string s,.int .i64 (a : Int),.int .i64 (e : Int),.int .i64 (lists : Int)] w (RdR w s e (rdO lists (seg s a e))):=by
 have HE:=Lib.hid (And.intro he (And.intro hs ha))
 obtain ⟨P,hP⟩ : ∃ P,rdO lists (seg s a e)=P:=⟨_,rfl⟩
 rw [hP]
 have d1 : decide ((e : Int)≤(a : Int))=false:=decide_eq_false (by omega)
 have d2 : decide (e≤a)=false:=decide_eq_false (by omega)
 have i1 : (a : Int) < (s.size : Int):=by omega
 have i2 : decide (a < s.size)=true:=decide_eq_true (by omega)
 have hfr:=rdO_front (lists:=lists) he ha (by omega) (by omega)
 rw [hP,hk] at hfr
 have HFR:=Lib.hid hfr
 have HI0:=Lib.hid (ItR.start (w:=w) (k:=1) (z:=1) rfl)
 clear hP hfr
 go_enter Tryz.func107, Tryz.ntmps107
 go_upto_region 7 with fail
 obtain ⟨w1,hw1⟩ : ∃ w1,((w.alloc (.cells #[.int .i64 0,.string ⟨#[]⟩,.string ⟨#[]⟩,.slice none 0 0] 63)).alloc (.cells #[.int .i64 1,.string ⟨#[]⟩,.string ⟨#[]⟩,.slice none 0 0] 63))=w1:=⟨_,rfl⟩
 rw [hw1] at HI0 ⊢
 clear hw1 hk d1 d2 i1 i2
 go_upto_region 8 with fail
 go_loopw [1,12,13,14] (fun v1 v12 v13 v14 wr=>∃ c acc p j : Nat,v1=.int .i64 (c : Int)∧v12=.int .i64 (acc : Int)∧v13=.int .i64 (p : Int)∧v14=.int .i64 (j : Int)∧j≤5∧p=128 ^ j∧acc < p∧a < c∧c≤e ∧
   (BadZ (5 - j) j (seg s c e) acc p→BadZ 5 0 (seg s (a+1) e) 0 1)∧(∀ m r,szS (5 - j) j (seg s c e)=some (m,r)→szS 5 0 (seg s (a+1) e)=some (acc+p*m,r))∧ItR w 1 ⟨#[]⟩ ⟨#[]⟩ none 0 0 wr) (fun _ _ _ v14 _=>6 - (intOf v14).toNat)
 case atStart=>exact ⟨a+1,0,1,0,rfl,rfl,rfl,rfl,by omega,rfl,by omega,by omega,by have:=HE.out;omega,fun h=>h,fun m r h=>by rw [h];simp,HI0.out⟩
 case round =>
  obtain ⟨c,acc,p,j,rfl,rfl,rfl,rfl,hj,hp,hacc,hac,hce,hbad,hgood,hit⟩:=hrel
  have HBAD:=Lib.hid hbad
  have HGOOD:=Lib.hid hgood
  have HIT:=Lib.hid hit
  have HPP:=Lib.hid hp
  have HAC:=Lib.hid (And.intro hacc (And.intro hac hce))
  clear hbad hgood hit HI0 hp hacc hac hce
  have hfail : BadZ (5 - j) j (seg s c e) acc p→P=.err 4:=fun h=>HFR.out.1 (HBAD.out h)
  have HFAIL:=Lib.hid hfail
  clear hfail
  obtain ⟨⟨x0,x1,x2,x3⟩,f0,f1,f2,f3⟩:=HIT.out.cells
  obtain ⟨⟨r0,r1,r2,r3⟩,g0,g1,g2,g3⟩:=HIT.out.rc
  by_cases hlt : c < e
  · by_cases hj5 : j=5
    · subst hj5
      have hPE:=HFAIL.out (badZ_none rfl)
      subst hPE
      have d1 : decide ((e : Int)≤(c : Int))=false:=decide_eq_false (by omega)
      have d2 : decide (e≤c)=false:=decide_eq_false (by omega)
      rw [show ((5 : Nat) : Int)=5 from rfl]
      go_wp2_with fail
      refine bodyPost_ret (v:=.tuple #[.agg #[.int .i64 0,.string ⟨#[]⟩,.string ⟨#[]⟩,.slice none 0 0],.int .i64 0,.int .i64 4]) (by simp [results,Tryz.results107,go_sem,r0,r1,r2,r3]) rfl ?_
      exact ⟨rfl,fin4 HIT.out.bel _ _ _ _⟩
    · have hcs : c < s.size:=by omega
      have i1 : (c : Int) < (s.size : Int):=by omega
      have d1 : decide ((e : Int)≤(c : Int))=false:=decide_eq_false (by omega)
      have d2 : decide (e≤c)=false:=decide_eq_false (by omega)
      have i2 : decide (c < s.size)=true:=decide_eq_true (by omega)
      have d5 : ((j : Int)==5)=false:=by simp;omega
      obtain ⟨y,hy⟩ : ∃ y,(s[c]'hcs).toNat=y:=⟨_,rfl⟩
      have hy8 : y < 256:=by rw [← hy];exact (s[c]'hcs).toNat_lt
      have hj4 : j≤4:=by omega
      have HJ:=Lib.hid (And.intro hj hj5)
      have HLT:=Lib.hid hlt
      clear hj hj5 hlt
      go_upto_region 13 with fail
      go_upto_region 14 with fail
      have hp4 : p≤268435456:=by rw [HPP.out];exact pow128 hj4
      rw [accW hp4 HAC.out.1]
      have HY:=Lib.hid hy
      obtain ⟨b,hb⟩ : ∃ b,s[c]'hcs=b:=⟨_,rfl⟩
      have hsc:=seg_cons HLT.out HE.out.1
      rw [hb] at hsc
      have hby : b.toNat=y:=by rw [← hb];exact hy
      rw [hsc,show 5 - j=(4 - j)+1 by omega] at HGOOD HFAIL
      have HBY:=Lib.hid hby
      have HLN:=Lib.hid (seg_len (a:=c+1) HE.out.1)
      clear hsc hb hby hy
      by_cases hl : y < 128
      · have l1 : decide ((y : Int) < 128)=true:=decide_eq_true (by omega)
        have l2 : decide (y < 128)=true:=decide_eq_true hl
        rw [Nat.mod_eq_of_lt hl]
        by_cases hz : y=0∧0 < j
        · have hPE:=HFAIL.out (badZ_none (by simp only [szS];rw [HBY.out,if_pos hz]))
          subst hPE
          obtain ⟨rfl,hj0⟩:=hz
          have k1 : decide ((1 : Int) < (j : Int)+1)=true:=decide_eq_true (by omega)
          have k2 : (1 : Int) < (j : Int)+1:=by omega
          clear HGOOD HBAD HFAIL
          go_wp2_with fail
          refine bodyPost_ret (v:=.tuple #[.agg #[.int .i64 0,.string ⟨#[]⟩,.string ⟨#[]⟩,.slice none 0 0],.int .i64 0,.int .i64 4]) (by simp [results,Tryz.results107,go_sem,r0,r1,r2,r3]) rfl ?_
          exact ⟨rfl,fin4 HIT.out.bel _ _ _ _⟩
        · have hend:=HGOOD.out y (seg s (c+1) e) (by rw [← HBY.out];exact szS_end (by rw [HBY.out];exact hz) (by rw [HBY.out];exact hl))
          obtain ⟨n,hn⟩ : ∃ n,acc+p*y=n:=⟨_,rfl⟩
          rw [hn] at hend ⊢
          have hn9 : n≤1000000000000:=by rw [← hn];have:=HAC.out.1;have : p*y≤268435456*127:=Nat.mul_le_mul hp4 (by omega);omega
          have hbz : e - (c+1) < n→P=.err 4:=fun h=>HFAIL.out (fun m r hm=>by
           have h2:=szS_end (f:=4 - j) (k:=j) (L:=seg s (c+1) e) (by rw [HBY.out];exact hz) (by rw [HBY.out];exact hl)
           rw [h2,HBY.out] at hm
           simp only [Option.some.injEq,Prod.mk.injEq] at hm
           obtain ⟨rfl,rfl⟩:=hm
           rw [HLN.out,hn]
           exact h)
          have HEND:=Lib.hid hend
          have HBZ:=Lib.hid hbz
          have hzz : (((y : Int)==0)&&decide ((1 : Int) < (j : Int)+1))=false:=by
           by_cases e : y=0
           · rw [Bool.and_eq_false_iff];exact .inr (decide_eq_false (by have : ¬ 0 < j:=fun h=>hz ⟨e,h⟩;omega))
           · rw [Bool.and_eq_false_iff];exact .inl (by simp;omega)
          have HZ:=Lib.hid (And.intro hz hn)
          clear hend hbz hz hn HGOOD HBAD HFAIL
          have hce2 : c+1≤e:=HLT.out
          by_cases hgt : e - (c+1) < n
          · have hPE:=HBZ.out hgt
            subst hPE
            have d7 : (e : Int) - ((c : Int)+1) < (n : Int):=by omega
            have d6 : decide ((e : Int) - ((c : Int)+1) < (n : Int))=true:=decide_eq_true d7
            clear HEND HBZ
            by_cases hy0 : y=0
            · subst hy0
              have k1 : decide ((1 : Int) < (j : Int)+1)=false:=decide_eq_false (by have:=HZ.out.1;omega)
              have k2 : ¬ (1 : Int) < (j : Int)+1:=by have:=HZ.out.1;omega
              clear hzz
              go_wp2_with fail
              refine bodyPost_ret (v:=.tuple #[.agg #[.int .i64 0,.string ⟨#[]⟩,.string ⟨#[]⟩,.slice none 0 0],.int .i64 0,.int .i64 4]) (by simp [results,Tryz.results107,go_sem,r0,r1,r2,r3]) rfl ?_
              exact ⟨rfl,fin4 HIT.out.bel _ _ _ _⟩
            · have k1 : ((y : Int)==0)=false:=by simp;omega
              clear hzz
              go_wp2_with fail
              refine bodyPost_ret (v:=.tuple #[.agg #[.int .i64 0,.string ⟨#[]⟩,.string ⟨#[]⟩,.slice none 0 0],.int .i64 0,.int .i64 4]) (by simp [results,Tryz.results107,go_sem,r0,r1,r2,r3]) rfl ?_
              exact ⟨rfl,fin4 HIT.out.bel _ _ _ _⟩
          · have hgo:=HFR.out.2 n (c+1) HEND.out hce2 (by omega)
            have d7 : ¬ (e : Int) - ((c : Int)+1) < (n : Int):=by omega
            have d6 : decide ((e : Int) - ((c : Int)+1) < (n : Int))=false:=decide_eq_false d7
            obtain ⟨m,hm⟩ : ∃ m,c+1+n=m:=⟨_,rfl⟩
            rw [hm] at hgo
            obtain ⟨q,hq⟩ : ∃ q,c+1=q:=⟨_,rfl⟩
            have hmi : (c : Int)+1+(n : Int)=(m : Int):=by omega
            have HM:=Lib.hid (And.intro hq (show q≤m∧m≤e∧a < q by have:=HAC.out;omega))
            rw [hq] at hgo
            have HGO:=Lib.hid hgo
            clear HEND HBZ hm hgo hq
            have hz2 : (((y : Int)==0)=true∧decide ((1 : Int) < (j : Int)+1)=false)∨((y : Int)==0)=false:=by
             by_cases e : y=0
             · exact .inl ⟨by rw [e];rfl,decide_eq_false (by have : ¬ 0 < j:=fun h=>HZ.out.1 ⟨e,h⟩;omega)⟩
             · exact .inr (by simp;omega)
            clear hzz
            rcases hz2 with ⟨k1,k2⟩ | k1
            all_goals
             go_upto_region 21 with fail
             have hqi : (c : Int)+1=(q : Int):=by have:=HM.out.1;omega
             clear d6 d7 hmi hgt l1 l2 hl
             obtain ⟨x,hx⟩ : ∃ x : ByteArray,⟨(seg s q m).toArray⟩=x:=⟨_,rfl⟩
             have hme : q≤m∧m≤s.size:=by have:=HM.out;have:=HE.out;omega
             have hext : s.extract q m=x:=by rw [← hx,seg_extract (by omega) (by omega)]
             have m1 : (q : Int)≤(m : Int):=by omega
             have m2 : (m : Int)≤(s.size : Int):=by omega
             have m3:=hme.1
             have m4:=hme.2
             have HG2:=HGO.out
             rw [hx] at HG2
             have HG3:=Lib.hid HG2
             clear hme hx HG2
             have hPE : P=.ok ((1,E0,x,.nil),seg s m e):=HG3.out
             subst hPE
             go_upto_region 34 with fail
             have HI2:=Lib.hid (HIT.out.put2 x)
             obtain ⟨w2,hw2⟩ : ∃ w2,wr.setCell ⟨w.heap.size+1,2,none⟩ (.string x)=w2:=⟨_,rfl⟩
             rw [hw2] at HI2 ⊢
             clear hw2 x0 x1 x2 x3 f0 f1 f2 f3 r0 r1 r2 r3 g0 g1 g2 g3
             obtain ⟨⟨x0,x1,x2,x3⟩,f0,f1,f2,f3⟩:=HI2.out.cells
             obtain ⟨⟨r0,r1,r2,r3⟩,g0,g1,g2,g3⟩:=HI2.out.rc
             go_wp2_with fail
             refine bodyPost_ret (v:=.tuple #[.agg #[.int .i64 1,.string ⟨#[]⟩,.string x,.slice none 0 0],.int .i64 (m : Int),.int .i64 0]) (by simp [results,Tryz.results107,go_sem,r0,r1,r2,r3]) rfl ?_
             exact ⟨none,0,m,rfl,rfl,HM.out.2.2.1,Nat.le_refl _,SlK.nil_,fin4 HI2.out.bel _ _ _ _⟩
      · have l1 : decide ((y : Int) < 128)=false:=decide_eq_false (by omega)
        have l2 : decide (y < 128)=false:=decide_eq_false hl
        have HNZ : Hid (¬ (b.toNat=0∧0 < j)):=Lib.hid (by rw [HBY.out];omega)
        have hyq : y % 128=y - 128:=by omega
        rw [hyq]
        obtain ⟨n,hn⟩ : ∃ n,acc+p*(y - 128)=n:=⟨_,rfl⟩
        obtain ⟨p2,hp2⟩ : ∃ p2,p*128=p2:=⟨_,rfl⟩
        have hwp : wrap64 ((p : Int)*128)=(p2 : Int):=by unfold wrap64;omega
        rw [hn]
        have HN:=Lib.hid (And.intro hn hp2)
        clear hn hp2 hyq
        have HAC2:=HAC.out
        have hle : p*(y - 128)≤p*127:=Nat.mul_le_mul_left _ (by omega)
        have hn2 : n < p2:=by rw [← HN.out.1,← HN.out.2];omega
        have hpj : p2=128 ^ (j+1):=by rw [← HN.out.2,HPP.out,Nat.pow_succ]
        have HB3:=Lib.hid (And.intro hn2 hpj)
        clear hle hn2 hpj HAC2
        go_wp2_with fail
        refine ⟨⟨c+1,n,p2,j+1,by go_num,rfl,by rw [← HN.out.2];go_num,by go_num,by omega,HB3.out.2,HB3.out.1,by have:=HAC.out;omega,by have:=HLT.out;omega,fun h=>HBAD.out ?_,fun m r h=>?_,HIT.out⟩,by simp only [intOf];omega⟩
        · rw [seg_cons HLT.out HE.out.1,show 5 - j=(4 - j)+1 by omega]
          refine badZ_go (by rw [show (s[c]'(by have:=HLT.out;have:=HE.out.1;omega)).toNat=y from HY.out];omega) (by rw [show (s[c]'(by have:=HLT.out;have:=HE.out.1;omega)).toNat=y from HY.out];omega) ?_
          rw [show (s[c]'(by have:=HLT.out;have:=HE.out.1;omega)).toNat=y from HY.out,HN.out.1,HN.out.2,show 4 - j=5 - (j+1) by omega]
          exact h
        · rw [show 5 - (j+1)=4 - j by omega] at h
          rw [HGOOD.out _ _ (szS_go HNZ.out (by rw [HBY.out];omega) h),HBY.out,← HN.out.1,← HN.out.2]
          congr 2
          rw [Nat.mul_add,← Nat.mul_assoc,← Nat.add_assoc]
  · have hPE:=HFAIL.out (badZ_none (by rw [seg_nil (by omega)];cases 5 - j<;>rfl))
    subst hPE
    have d1 : decide ((e : Int)≤(c : Int))=true:=decide_eq_true (by omega)
    have d2 : decide (e≤c)=true:=decide_eq_true (by omega)
    go_wp2_with fail
    refine bodyPost_ret (v:=.tuple #[.agg #[.int .i64 0,.string ⟨#[]⟩,.string ⟨#[]⟩,.slice none 0 0],.int .i64 0,.int .i64 4]) (by simp [results,Tryz.results107,go_sem,r0,r1,r2,r3]) rfl ?_
    exact ⟨rfl,fin4 HIT.out.bel _ _ _ _⟩
theorem r08_read2 (s : ByteArray) (a e lists : Nat) (w : World) (he : e≤s.size) (hs : s.size≤65536) (hli : lists≤32) (ha : a < e) (hk : (s[a]'(by omega)).toNat=2) (h32 : lists≠32) (HIH : ∀ (m : Nat),m < e - a→∀ (s : ByteArray) (a e lists : Nat) (w : World),e - a≤m→e≤s.size→s.size≤65536→lists≤32→Calls Tryz.prog 107 #[.string s,.int .i64 (a : Int),.int .i64 (e : Int),.int .i64 (lists : Int)] w (RdR w s e (rdO lists (seg s a e)))) :
  Calls Tryz.prog 107 #[.string s,.int .i64 (a : Int),.int .i64 (e : Int),.int .i64 (lists : Int)] w (RdR w s e (rdO lists (seg s a e))):=by
 have HE:=Lib.hid (And.intro he (And.intro hs ha))
 obtain ⟨P,hP⟩ : ∃ P,rdO lists (seg s a e)=P:=⟨_,rfl⟩
 rw [hP]
 have d1 : decide ((e : Int)≤(a : Int))=false:=decide_eq_false (by omega)
 have d2 : decide (e≤a)=false:=decide_eq_false (by omega)
 have i1 : (a : Int) < (s.size : Int):=by omega
 have i2 : decide (a < s.size)=true:=decide_eq_true (by omega)
 have hfr:=rdO_front (lists:=lists) he ha (by omega) (by rw [hk];exact fun h=>h32 h.2)
 rw [hP,hk] at hfr
 have HFR:=Lib.hid hfr
 have HI0:=Lib.hid (ItR.start (w:=w) (k:=2) (z:=2) rfl)
 have d7 : decide ((32 : Int)≤(lists : Int))=false:=decide_eq_false (by omega)
 have d8 : decide (32≤lists)=false:=decide_eq_false (by omega)
 have HIH:=Lib.hid HIH
 have H32:=Lib.hid h32
 clear h32
 clear hP hfr
 go_enter Tryz.func107, Tryz.ntmps107
 go_upto_region 7 with fail
 obtain ⟨w1,hw1⟩ : ∃ w1,((w.alloc (.cells #[.int .i64 0,.string ⟨#[]⟩,.string ⟨#[]⟩,.slice none 0 0] 63)).alloc (.cells #[.int .i64 2,.string ⟨#[]⟩,.string ⟨#[]⟩,.slice none 0 0] 63))=w1:=⟨_,rfl⟩
 rw [hw1] at HI0 ⊢
 clear hw1 hk d1 d2 i1 i2
 go_upto_region 8 with fail
 go_loopw [1,12,13,14] (fun v1 v12 v13 v14 wr=>∃ c acc p j : Nat,v1=.int .i64 (c : Int)∧v12=.int .i64 (acc : Int)∧v13=.int .i64 (p : Int)∧v14=.int .i64 (j : Int)∧j≤5∧p=128 ^ j∧acc < p∧a < c∧c≤e ∧
   (BadZ (5 - j) j (seg s c e) acc p→BadZ 5 0 (seg s (a+1) e) 0 1)∧(∀ m r,szS (5 - j) j (seg s c e)=some (m,r)→szS 5 0 (seg s (a+1) e)=some (acc+p*m,r))∧ItR w 2 ⟨#[]⟩ ⟨#[]⟩ none 0 0 wr) (fun _ _ _ v14 _=>6 - (intOf v14).toNat)
 case atStart=>exact ⟨a+1,0,1,0,rfl,rfl,rfl,rfl,by omega,rfl,by omega,by omega,by have:=HE.out;omega,fun h=>h,fun m r h=>by rw [h];simp,HI0.out⟩
 case round =>
  obtain ⟨c,acc,p,j,rfl,rfl,rfl,rfl,hj,hp,hacc,hac,hce,hbad,hgood,hit⟩:=hrel
  have HBAD:=Lib.hid hbad
  have HGOOD:=Lib.hid hgood
  have HIT:=Lib.hid hit
  have HPP:=Lib.hid hp
  have HAC:=Lib.hid (And.intro hacc (And.intro hac hce))
  clear hbad hgood hit HI0 hp hacc hac hce
  have hfail : BadZ (5 - j) j (seg s c e) acc p→P=.err 4:=fun h=>HFR.out.1 (HBAD.out h)
  have HFAIL:=Lib.hid hfail
  clear hfail
  obtain ⟨⟨x0,x1,x2,x3⟩,f0,f1,f2,f3⟩:=HIT.out.cells
  obtain ⟨⟨r0,r1,r2,r3⟩,g0,g1,g2,g3⟩:=HIT.out.rc
  by_cases hlt : c < e
  · by_cases hj5 : j=5
    · subst hj5
      have hPE:=HFAIL.out (badZ_none rfl)
      subst hPE
      have d1 : decide ((e : Int)≤(c : Int))=false:=decide_eq_false (by omega)
      have d2 : decide (e≤c)=false:=decide_eq_false (by omega)
      rw [show ((5 : Nat) : Int)=5 from rfl]
      go_wp2_with fail
      refine bodyPost_ret (v:=.tuple #[.agg #[.int .i64 0,.string ⟨#[]⟩,.string ⟨#[]⟩,.slice none 0 0],.int .i64 0,.int .i64 4]) (by simp [results,Tryz.results107,go_sem,r0,r1,r2,r3]) rfl ?_
      exact ⟨rfl,fin4 HIT.out.bel _ _ _ _⟩
    · have hcs : c < s.size:=by omega
      have i1 : (c : Int) < (s.size : Int):=by omega
      have d1 : decide ((e : Int)≤(c : Int))=false:=decide_eq_false (by omega)
      have d2 : decide (e≤c)=false:=decide_eq_false (by omega)
      have i2 : decide (c < s.size)=true:=decide_eq_true (by omega)
      have d5 : ((j : Int)==5)=false:=by simp;omega
      obtain ⟨y,hy⟩ : ∃ y,(s[c]'hcs).toNat=y:=⟨_,rfl⟩
      have hy8 : y < 256:=by rw [← hy];exact (s[c]'hcs).toNat_lt
      have hj4 : j≤4:=by omega
      have HJ:=Lib.hid (And.intro hj hj5)
      have HLT:=Lib.hid hlt
      clear hj hj5 hlt
      go_upto_region 13 with fail
      go_upto_region 14 with fail
      have hp4 : p≤268435456:=by rw [HPP.out];exact pow128 hj4
      rw [accW hp4 HAC.out.1]
      have HY:=Lib.hid hy
      obtain ⟨b,hb⟩ : ∃ b,s[c]'hcs=b:=⟨_,rfl⟩
      have hsc:=seg_cons HLT.out HE.out.1
      rw [hb] at hsc
      have hby : b.toNat=y:=by rw [← hb];exact hy
      rw [hsc,show 5 - j=(4 - j)+1 by omega] at HGOOD HFAIL
      have HBY:=Lib.hid hby
      have HLN:=Lib.hid (seg_len (a:=c+1) HE.out.1)
      clear hsc hb hby hy
      by_cases hl : y < 128
      · have l1 : decide ((y : Int) < 128)=true:=decide_eq_true (by omega)
        have l2 : decide (y < 128)=true:=decide_eq_true hl
        rw [Nat.mod_eq_of_lt hl]
        by_cases hz : y=0∧0 < j
        · have hPE:=HFAIL.out (badZ_none (by simp only [szS];rw [HBY.out,if_pos hz]))
          subst hPE
          obtain ⟨rfl,hj0⟩:=hz
          have k1 : decide ((1 : Int) < (j : Int)+1)=true:=decide_eq_true (by omega)
          have k2 : (1 : Int) < (j : Int)+1:=by omega
          clear HGOOD HBAD HFAIL
          go_wp2_with fail
          refine bodyPost_ret (v:=.tuple #[.agg #[.int .i64 0,.string ⟨#[]⟩,.string ⟨#[]⟩,.slice none 0 0],.int .i64 0,.int .i64 4]) (by simp [results,Tryz.results107,go_sem,r0,r1,r2,r3]) rfl ?_
          exact ⟨rfl,fin4 HIT.out.bel _ _ _ _⟩
        · have hend:=HGOOD.out y (seg s (c+1) e) (by rw [← HBY.out];exact szS_end (by rw [HBY.out];exact hz) (by rw [HBY.out];exact hl))
          obtain ⟨n,hn⟩ : ∃ n,acc+p*y=n:=⟨_,rfl⟩
          rw [hn] at hend ⊢
          have hn9 : n≤1000000000000:=by rw [← hn];have:=HAC.out.1;have : p*y≤268435456*127:=Nat.mul_le_mul hp4 (by omega);omega
          have hbz : e - (c+1) < n→P=.err 4:=fun h=>HFAIL.out (fun m r hm=>by
           have h2:=szS_end (f:=4 - j) (k:=j) (L:=seg s (c+1) e) (by rw [HBY.out];exact hz) (by rw [HBY.out];exact hl)
           rw [h2,HBY.out] at hm
           simp only [Option.some.injEq,Prod.mk.injEq] at hm
           obtain ⟨rfl,rfl⟩:=hm
           rw [HLN.out,hn]
           exact h)
          have HEND:=Lib.hid hend
          have HBZ:=Lib.hid hbz
          have hzz : (((y : Int)==0)&&decide ((1 : Int) < (j : Int)+1))=false:=by
           by_cases e : y=0
           · rw [Bool.and_eq_false_iff];exact .inr (decide_eq_false (by have : ¬ 0 < j:=fun h=>hz ⟨e,h⟩;omega))
           · rw [Bool.and_eq_false_iff];exact .inl (by simp;omega)
          have HZ:=Lib.hid (And.intro hz hn)
          clear hend hbz hz hn HGOOD HBAD HFAIL
          have hce2 : c+1≤e:=HLT.out
          by_cases hgt : e - (c+1) < n
          · have hPE:=HBZ.out hgt
            subst hPE
            have d7 : (e : Int) - ((c : Int)+1) < (n : Int):=by omega
            have d6 : decide ((e : Int) - ((c : Int)+1) < (n : Int))=true:=decide_eq_true d7
            clear HEND HBZ
            by_cases hy0 : y=0
            · subst hy0
              have k1 : decide ((1 : Int) < (j : Int)+1)=false:=decide_eq_false (by have:=HZ.out.1;omega)
              have k2 : ¬ (1 : Int) < (j : Int)+1:=by have:=HZ.out.1;omega
              clear hzz
              go_wp2_with fail
              refine bodyPost_ret (v:=.tuple #[.agg #[.int .i64 0,.string ⟨#[]⟩,.string ⟨#[]⟩,.slice none 0 0],.int .i64 0,.int .i64 4]) (by simp [results,Tryz.results107,go_sem,r0,r1,r2,r3]) rfl ?_
              exact ⟨rfl,fin4 HIT.out.bel _ _ _ _⟩
            · have k1 : ((y : Int)==0)=false:=by simp;omega
              clear hzz
              go_wp2_with fail
              refine bodyPost_ret (v:=.tuple #[.agg #[.int .i64 0,.string ⟨#[]⟩,.string ⟨#[]⟩,.slice none 0 0],.int .i64 0,.int .i64 4]) (by simp [results,Tryz.results107,go_sem,r0,r1,r2,r3]) rfl ?_
              exact ⟨rfl,fin4 HIT.out.bel _ _ _ _⟩
          · have hgo:=HFR.out.2 n (c+1) HEND.out hce2 (by omega)
            have d7 : ¬ (e : Int) - ((c : Int)+1) < (n : Int):=by omega
            have d6 : decide ((e : Int) - ((c : Int)+1) < (n : Int))=false:=decide_eq_false d7
            obtain ⟨m,hm⟩ : ∃ m,c+1+n=m:=⟨_,rfl⟩
            rw [hm] at hgo
            obtain ⟨q,hq⟩ : ∃ q,c+1=q:=⟨_,rfl⟩
            have hmi : (c : Int)+1+(n : Int)=(m : Int):=by omega
            have HM:=Lib.hid (And.intro hq (show q≤m∧m≤e∧a < q by have:=HAC.out;omega))
            rw [hq] at hgo
            have HGO:=Lib.hid hgo
            clear HEND HBZ hm hgo hq
            have hz2 : (((y : Int)==0)=true∧decide ((1 : Int) < (j : Int)+1)=false)∨((y : Int)==0)=false:=by
             by_cases e : y=0
             · exact .inl ⟨by rw [e];rfl,decide_eq_false (by have : ¬ 0 < j:=fun h=>HZ.out.1 ⟨e,h⟩;omega)⟩
             · exact .inr (by simp;omega)
            clear hzz
            rcases hz2 with ⟨k1,k2⟩ | k1
            all_goals
             go_upto_region 21 with fail
             have hqi : (c : Int)+1=(q : Int):=by have:=HM.out.1;omega
             clear d6 d7 hmi hgt l1 l2 hl
             have HOW0 : Hid (OwnK wr (w.heap.size+2) (.slice none 0 0) .nil):=Lib.hid (OwnK.nil_ _ _)
             have hm6 : m≤65536:=by have:=HM.out;have:=HE.out;omega
             go_upto_region 22 with fail
             have HIT1:=HIT
             clear x0 x1 x2 x3 f0 f1 f2 f3 r0 r1 r2 r3 g0 g1 g2 g3 HIT
             go_loopw [1] (fun v1 wx=>∃ (c' : Nat) (d : Its) (A2 : Option Addr) (n2 c2 : Nat),v1=.int .i64 (c' : Int)∧q≤c'∧c'≤m∧rdA (lists+1) (seg s q m)=preR d (rdA (lists+1) (seg s c' m))∧d.len≤c'∧ItR w 2 ⟨#[]⟩ ⟨#[]⟩ A2 n2 c2 wx∧OwnK wx (w.heap.size+2) (.slice A2 n2 c2) d) (fun v1 _=>m - (intOf v1).toNat)
             case atStart=>exact ⟨q,.nil,none,0,0,by rw [← hqi],Nat.le_refl _,HM.out.2.1,(preR_nil _).symm,Nat.zero_le _,HIT1.out,HOW0.out⟩
             case round =>
              obtain ⟨c',d,A2,n2,c2,rfl,hqc,hcm,hrd,hdl,hit,how⟩:=hrel
              have HRD:=Lib.hid hrd
              have HDL:=Lib.hid hdl
              have HI:=Lib.hid hit
              have HO:=Lib.hid how
              obtain ⟨⟨x0,x1,x2,x3⟩,f0,f1,f2,f3⟩:=hit.cells
              obtain ⟨⟨r0,r1,r2,r3⟩,g0,g1,g2,g3⟩:=hit.rc
              have hxs:=hit.size
              clear hrd hdl hit how HIT1 HOW0 hqi k1
              try clear k2
              by_cases hlc : c' < m
              · have i1 : (c' : Int) < (m : Int):=by omega
                have i2 : decide ((c' : Int) < (m : Int))=true:=decide_eq_true i1
                have HIC:=Lib.hid (fun W=>HIH.out (m - c') (by have:=HM.out;have:=HAC.out;omega) s c' m (lists+1) W (Nat.le_refl _) (by have:=HM.out;have:=HE.out;omega) HE.out.2.1 (by have:=H32.out;omega))
                rw [show ((lists+1 : Nat) : Int)=(lists : Int)+1 by simp] at HIC
                have hcons:=rdA_cons (lists+1) (s:=seg s c' m) (by rw [seg_cons hlc (by have:=HM.out;have:=HE.out;omega)];simp)
                have hrz:=fun z h=>rdO_z (lists:=lists+1) (s:=s) (a:=c') (e:=m) (z:=z) (by have:=HM.out;have:=HE.out;omega) h
                cases hro : rdO (lists+1) (seg s c' m) with
                | err z =>
                  rw [hro] at HIC hcons
                  dsimp only at hcons
                  have hPE : P=.err z:=by
                   have h1:=HGO.out
                   rw [HRD.out,hcons] at h1
                   exact h1
                  subst hPE
                  have hz:=hrz z hro
                  have i3 : (z != 0)=true:=by simp;omega
                  have HZ9:=Lib.hid hz
                  clear hz hcons hrz hro
                  unfold RdR at HIC
                  dsimp only at HIC
                  go_upto_region 24 with (go_at_call 107;(with_reducible refine (HIC.out _).mono ?_);rintro o w5 ⟨rfl,hb5⟩;have HI5:=Lib.hid ((HI.out.next hb5).next ((Below.refl _ _).alloc (Nat.le_refl _) (.cells #[.int .i64 0,.string ⟨#[]⟩,.string ⟨#[]⟩,.slice none 0 0] 63)));clear hb5)
                  obtain ⟨w6,hw6⟩ : ∃ w6,w5.alloc (.cells #[.int .i64 0,.string ⟨#[]⟩,.string ⟨#[]⟩,.slice none 0 0] 63)=w6:=⟨_,rfl⟩
                  rw [hw6] at HI5 ⊢
                  clear hw6 x0 x1 x2 x3 f0 f1 f2 f3 r0 r1 r2 r3 g0 g1 g2 g3
                  obtain ⟨⟨r0,r1,r2,r3⟩,g0,g1,g2,g3⟩:=HI5.out.rc
                  go_wp2_with fail
                  refine bodyPost_ret (v:=.tuple #[.agg #[.int .i64 0,.string ⟨#[]⟩,.string ⟨#[]⟩,.slice none 0 0],.int .i64 0,.int .i64 z]) (by simp [results,Tryz.results107,go_sem,r0,r1,r2,r3]) rfl ?_
                  exact ⟨rfl,fin4 HI5.out.bel _ _ _ _⟩
                | ok yr =>
                  obtain ⟨⟨yk,yn,yt,yl⟩,r5⟩:=yr
                  rw [hro] at HIC hcons
                  have hlen:=rd1_len hro
                  have HCONS:=Lib.hid hcons
                  have HLEN:=Lib.hid hlen
                  clear hcons hrz hro hlen
                  unfold RdR at HIC
                  dsimp only at HIC
                  go_upto_region 26 with (go_at_call 107;(with_reducible refine (HIC.out _).mono ?_);rintro o w5 ⟨A5,c5,a5,rfl,hr5,ha5,hc5,hsl5,hb5⟩;have hal : Below w5.heap.size w5 (w5.alloc (.cells #[.int .i64 yk,.string yn,.string yt,.slice A5 yl.len c5] 63)):=(Below.refl _ _).alloc (Nat.le_refl _) _;have HI5:=Lib.hid ((HI.out.next hb5).next hal);have HO5:=Lib.hid ((HO.out.kept hb5).kept hal);have HX5:=Lib.hid (heap_alloc_new w5 (.cells #[.int .i64 yk,.string yn,.string yt,.slice A5 yl.len c5] 63));have HSL5:=Lib.hid ((hsl5.keep (w':=w5.alloc (.cells #[.int .i64 yk,.string yn,.string yt,.slice A5 yl.len c5] 63)) (fun p hp=>hal.cell hp.2)).mono (S':=fun g=>w.heap.size+2≤g∧g < w5.heap.size∧(Value.slice A2 n2 c2).ownBlock≠some g) (fun g hg=>⟨by have:=HI.out.size;omega,hg.2,fun e=>by have:=(HO.out.blockOf g e).2;omega⟩));have HP5:=Lib.hid (And.intro hr5 (And.intro ha5 hc5));have hz5 : w.heap.size+2≤w5.heap.size:=Nat.le_trans HI.out.size hb5.size;have HZ5:=Lib.hid hz5;clear hb5 hal hsl5 hr5 ha5 hc5 hz5)
                  obtain ⟨b5,hb5⟩ : ∃ b5,w5.heap.size=b5:=⟨_,rfl⟩
                  obtain ⟨W5,hW5⟩ : ∃ W5,w5.alloc (.cells #[.int .i64 yk,.string yn,.string yt,.slice A5 yl.len c5] 63)=W5:=⟨_,rfl⟩
                  have HL5 : Hid (b5 < W5.heap.size):=Lib.hid (by rw [← hW5,← hb5];simp)
                  rw [hW5] at HI5 HO5 HX5 HSL5 ⊢
                  rw [hb5] at HX5 HSL5 HZ5 ⊢
                  clear hW5 hb5 x0 x1 x2 x3 f0 f1 f2 f3 r0 r1 r2 r3 g0 g1 g2 g3 hxs
                  obtain ⟨⟨x0,x1,x2,x3⟩,f0,f1,f2,f3⟩:=HI5.out.cells
                  have y0:=cell_of_row _ _ 0 _ _ _ HX5.out
                  have y1:=cell_of_row _ _ 1 _ _ _ HX5.out
                  have y2:=cell_of_row _ _ 2 _ _ _ HX5.out
                  have y3:=cell_of_row _ _ 3 _ _ _ HX5.out
                  have hal2 : Below W5.heap.size W5 (W5.alloc (.cells #[.int .i64 yk,.string yn,.string yt,.slice A5 yl.len c5] 63)):=(Below.refl _ _).alloc (Nat.le_refl _) _
                  have HOA:=Lib.hid (HO5.out.kept hal2)
                  have HBK:=Lib.hid (heap_alloc_new W5 (.cells #[.int .i64 yk,.string yn,.string yt,.slice A5 yl.len c5] 63))
                  have HIA:=Lib.hid (HI5.out.next hal2)
                  have HSA:=Lib.hid ((HSL5.out.keep (w':=W5.alloc (.cells #[.int .i64 yk,.string yn,.string yt,.slice A5 yl.len c5] 63)) (fun p hp=>hal2.cell (by have:=HL5.out;omega))).mono (S':=fun g=>w.heap.size+2≤g∧g < (W5.alloc (.cells #[.int .i64 yk,.string yn,.string yt,.slice A5 yl.len c5] 63)).heap.size∧(Value.slice A2 n2 c2).ownBlock≠some g) (fun g hg=>⟨hg.1,by have:=HL5.out;have:=hal2.size;omega,hg.2.2⟩))
                  have HDS : Hid (d.len≤100000):=Lib.hid (by have:=HDL.out;omega)
                  clear hal2
                  go_wp2_with (at_builtin;go_loud (refine wpList_append_K rfl _ _ rfl (w.heap.size+2) (.slice A2 n2 c2) d rfl HOA.out (yk,yn,yt,yl) A5 c5 W5.heap.size _ rfl HBK.out HP5.out.2.2 HSA.out HDS.out HIA.out.size ?_))
                  intro v6 w6 hown6 hg6
                  obtain ⟨A6,c6,rfl,_,_⟩:=hown6.form
                  have HI6:=Lib.hid (HIA.out.far (below_grown hg6 HIA.out.size (fun k hk=>(HOA.out.blockOf k hk).1)))
                  have HO6:=Lib.hid (hown6.setB (p:=⟨w.heap.size+1,3,none⟩) (by show w.heap.size+1 < w.heap.size+2;omega) (.slice A6 (d.app (Its.one (yk,yn,yt,yl))).len c6))
                  have HI7:=Lib.hid (HI6.out.put3 A6 (d.app (Its.one (yk,yn,yt,yl))).len c6)
                  clear x0 x1 x2 x3 f0 f1 f2 f3 y0 y1 y2 y3 hown6 hg6
                  obtain ⟨⟨x0,x1,x2,x3⟩,f0,f1,f2,f3⟩:=HI6.out.cells
                  have hlen9 : a5≤m∧c' < a5:=by
                   have h1:=HLEN.out
                   rw [HP5.out.1,seg_len (by have:=HM.out;have:=HE.out;omega),seg_len (by have:=HM.out;have:=HE.out;omega)] at h1
                   exact ⟨HP5.out.2.1,by omega⟩
                  have HL9:=Lib.hid hlen9
                  clear hlen9
                  go_wp2_with fail
                  refine ⟨⟨a5,d.app (Its.one (yk,yn,yt,yl)),A6,_,c6,rfl,by have:=HL9.out;omega,HL9.out.1,?_,?_,HI7.out,HO6.out⟩,?_⟩
                  · rw [HRD.out,HCONS.out,preR_app,HP5.out.1]
                    congr 1
                  · rw [Its.len_app]
                    have:=HL9.out
                    have:=HDL.out
                    simp only [Its.one,Its.len]
                    omega
                  · have:=HL9.out
                    simp only [intOf]
                    omega
              · obtain rfl : c'=m:=by omega
                have hPE : P=.ok ((2,E0,E0,d),seg s c' e):=by
                 have h1:=HGO.out
                 rw [HRD.out,seg_nil (Nat.le_refl _),rdA_nil] at h1
                 have : preR d (.ok .nil)=.ok d:=by show Rd.ok (d.app .nil)=_;rw [Its.app_nil]
                 rw [this] at h1
                 exact h1
                subst hPE
                have i2 : decide ((c' : Int) < (c' : Int))=false:=decide_eq_false (by omega)
                go_wp2_with fail
                obtain ⟨A9,c9,e9,hc9,hs9⟩:=HO.out.form
                injection e9 with e1 e2 e3
                subst e1 e2 e3
                refine bodyPost_ret (v:=.tuple #[.agg #[.int .i64 2,.string ⟨#[]⟩,.string ⟨#[]⟩,.slice A2 d.len c2],.int .i64 (c' : Int),.int .i64 0]) (by simp [results,Tryz.results107,go_sem,r0,r1,r2,r3]) rfl ?_
                refine ⟨A2,c2,c',rfl,rfl,HM.out.2.2.1,hc9,(hs9.keep fun p hp=>?_).mono fun g hg=>⟨by have:=hg.1;omega,by simpa using hg.2⟩,fin4 HI.out.bel _ _ _ _⟩
                have h1:=hp.1
                have hcell : ∀ (W : World) (i : Nat) (u : Value),(W.setCell ⟨w.heap.size,i,none⟩ u).cell? p=W.cell? p:=fun W i u=>World.cell?_setCell_other _ _ _ _ (fun e=>by have:=congrArg Addr.block e;simp at this;omega)
                rw [hcell,hcell,hcell,hcell]
      · have l1 : decide ((y : Int) < 128)=false:=decide_eq_false (by omega)
        have l2 : decide (y < 128)=false:=decide_eq_false hl
        have HNZ : Hid (¬ (b.toNat=0∧0 < j)):=Lib.hid (by rw [HBY.out];omega)
        have hyq : y % 128=y - 128:=by omega
        rw [hyq]
        obtain ⟨n,hn⟩ : ∃ n,acc+p*(y - 128)=n:=⟨_,rfl⟩
        obtain ⟨p2,hp2⟩ : ∃ p2,p*128=p2:=⟨_,rfl⟩
        have hwp : wrap64 ((p : Int)*128)=(p2 : Int):=by unfold wrap64;omega
        rw [hn]
        have HN:=Lib.hid (And.intro hn hp2)
        clear hn hp2 hyq
        have HAC2:=HAC.out
        have hle : p*(y - 128)≤p*127:=Nat.mul_le_mul_left _ (by omega)
        have hn2 : n < p2:=by rw [← HN.out.1,← HN.out.2];omega
        have hpj : p2=128 ^ (j+1):=by rw [← HN.out.2,HPP.out,Nat.pow_succ]
        have HB3:=Lib.hid (And.intro hn2 hpj)
        clear hle hn2 hpj HAC2
        go_wp2_with fail
        refine ⟨⟨c+1,n,p2,j+1,by go_num,rfl,by rw [← HN.out.2];go_num,by go_num,by omega,HB3.out.2,HB3.out.1,by have:=HAC.out;omega,by have:=HLT.out;omega,fun h=>HBAD.out ?_,fun m r h=>?_,HIT.out⟩,by simp only [intOf];omega⟩
        · rw [seg_cons HLT.out HE.out.1,show 5 - j=(4 - j)+1 by omega]
          refine badZ_go (by rw [show (s[c]'(by have:=HLT.out;have:=HE.out.1;omega)).toNat=y from HY.out];omega) (by rw [show (s[c]'(by have:=HLT.out;have:=HE.out.1;omega)).toNat=y from HY.out];omega) ?_
          rw [show (s[c]'(by have:=HLT.out;have:=HE.out.1;omega)).toNat=y from HY.out,HN.out.1,HN.out.2,show 4 - j=5 - (j+1) by omega]
          exact h
        · rw [show 5 - (j+1)=4 - j by omega] at h
          rw [HGOOD.out _ _ (szS_go HNZ.out (by rw [HBY.out];omega) h),HBY.out,← HN.out.1,← HN.out.2]
          congr 2
          rw [Nat.mul_add,← Nat.mul_assoc,← Nat.add_assoc]
  · have hPE:=HFAIL.out (badZ_none (by rw [seg_nil (by omega)];cases 5 - j<;>rfl))
    subst hPE
    have d1 : decide ((e : Int)≤(c : Int))=true:=decide_eq_true (by omega)
    have d2 : decide (e≤c)=true:=decide_eq_true (by omega)
    go_wp2_with fail
    refine bodyPost_ret (v:=.tuple #[.agg #[.int .i64 0,.string ⟨#[]⟩,.string ⟨#[]⟩,.slice none 0 0],.int .i64 0,.int .i64 4]) (by simp [results,Tryz.results107,go_sem,r0,r1,r2,r3]) rfl ?_
    exact ⟨rfl,fin4 HIT.out.bel _ _ _ _⟩
theorem r08_read (N : Nat) : ∀ (s : ByteArray) (a e lists : Nat) (w : World),e - a≤N→e≤s.size→s.size≤65536→lists≤32 →
  Calls Tryz.prog 107 #[.string s,.int .i64 (a : Int),.int .i64 (e : Int),.int .i64 (lists : Int)] w (RdR w s e (rdO lists (seg s a e))):=by
 induction N using Nat.strongRecOn with
 | ind N ih =>
 intro s a e lists w hN he hs hli
 by_cases ha : a < e
 · obtain ⟨k,hk⟩ : ∃ k,(s[a]'(by omega)).toNat=k:=⟨_,rfl⟩
   rcases (show k=0∨k=1∨k=2∨2 < k by omega) with rfl | rfl | rfl | hk2
   · exact r08_read0 s a e lists w he hs hli ha hk
   · exact r08_read1 s a e lists w he hs hli ha hk
   · by_cases h32 : lists=32
     · have hPE : rdO lists (seg s a e)=.err 7:=by
        unfold rdO
        rw [seg_cons ha he]
        simp only [rd1]
        rw [if_neg (by omega),if_pos ⟨hk,h32⟩]
       rw [hPE]
       subst h32
       have d1 : decide ((e : Int)≤(a : Int))=false:=decide_eq_false (by omega)
       have d2 : decide (e≤a)=false:=decide_eq_false (by omega)
       have i1 : (a : Int) < (s.size : Int):=by omega
       have i2 : decide (a < s.size)=true:=decide_eq_true (by omega)
       clear hPE ih
       go_enter Tryz.func107, Tryz.ntmps107
       go_wp2_with fail
       refine bodyPost_ret (v:=.tuple #[.agg #[.int .i64 0,.string ⟨#[]⟩,.string ⟨#[]⟩,.slice none 0 0],.int .i64 0,.int .i64 7]) (by simp [results,Tryz.results107,go_sem]) rfl ?_
       exact ⟨rfl,((Below.refl _ _).alloc (Nat.le_refl _) _).alloc (by simp) _⟩
     · exact r08_read2 s a e lists w he hs hli ha hk h32 (fun m hm=>ih m (by omega))
   · have hPE : rdO lists (seg s a e)=.err 4:=by
      unfold rdO
      rw [seg_cons ha he]
      simp only [rd1]
      rw [if_pos (by rw [hk];exact hk2)]
     rw [hPE]
     have d1 : decide ((e : Int)≤(a : Int))=false:=decide_eq_false (by omega)
     have d2 : decide (e≤a)=false:=decide_eq_false (by omega)
     have d3 : decide ((2 : Int) < (k : Int))=true:=decide_eq_true (by omega)
     have d4 : decide (2 < k)=true:=decide_eq_true hk2
     have i1 : (a : Int) < (s.size : Int):=by omega
     have i2 : decide (a < s.size)=true:=decide_eq_true (by omega)
     clear hPE ih
     go_enter Tryz.func107, Tryz.ntmps107
     go_wp2_with fail
     refine bodyPost_ret (v:=.tuple #[.agg #[.int .i64 0,.string ⟨#[]⟩,.string ⟨#[]⟩,.slice none 0 0],.int .i64 0,.int .i64 4]) (by simp [results,Tryz.results107,go_sem]) rfl ?_
     exact ⟨rfl,(Below.refl _ _).alloc (Nat.le_refl _) _⟩
 · have hPE : rdO lists (seg s a e)=.err 4:=by rw [seg_nil (by omega)];rfl
   rw [hPE]
   have d1 : decide ((e : Int)≤(a : Int))=true:=decide_eq_true (by omega)
   have d2 : decide (e≤a)=true:=decide_eq_true (by omega)
   clear hPE ih
   go_enter Tryz.func107, Tryz.ntmps107
   go_wp2_with fail
   refine bodyPost_ret (v:=.tuple #[.agg #[.int .i64 0,.string ⟨#[]⟩,.string ⟨#[]⟩,.slice none 0 0],.int .i64 0,.int .i64 4]) (by simp [results,Tryz.results107,go_sem]) rfl ?_
   exact ⟨rfl,(Below.refl _ _).alloc (Nat.le_refl _) _⟩
end Go.Proofs.YtjhlddlocpkhkaaGreat
namespace Go.Proofs.YtjhlddlocpkhkaaGreat
open Go.RowKit
set_option maxRecDepth 100000
set_option linter.unusedVariables false
set_option maxHeartbeats 8000000
def rdS (s : ByteArray) : Rd (Its.One × List UInt8):=if textMax < s.size then .err 5 else rdO 0 s.data.toList
theorem r08_Read (s : ByteArray) (w : World) : Calls Tryz.prog 73 #[.string s] w (RdR w s s.size (rdS s)):=by
 have HB0:=Lib.hid (And.intro ((Below.refl w.heap.size w).alloc (Nat.le_refl _) (.cells #[.int .i64 0,.string ⟨#[]⟩,.string ⟨#[]⟩,.slice none 0 0] 63)) (heap_alloc_new w (.cells #[.int .i64 0,.string ⟨#[]⟩,.string ⟨#[]⟩,.slice none 0 0] 63)))
 unfold rdS textMax
 by_cases hs : 65536 < s.size
 · rw [if_pos hs]
   have d1 : decide ((65536 : Int) < (s.size : Int))=true:=decide_eq_true (by omega)
   have d2 : decide (65536 < s.size)=true:=decide_eq_true hs
   go_enter Tryz.func73, Tryz.ntmps73
   go_wp2_with fail
   refine bodyPost_ret (v:=.tuple #[.agg #[.int .i64 0,.string ⟨#[]⟩,.string ⟨#[]⟩,.slice none 0 0],.int .i64 0,.int .i64 5]) (by simp [results,Tryz.results73,go_sem]) rfl ?_
   exact ⟨rfl,HB0.out.1⟩
 · rw [if_neg hs]
   have HR:=Lib.hid (fun W=>r08_read s.size s 0 s.size 0 W (by omega) (Nat.le_refl _) (by omega) (by omega))
   rw [seg_all,show ((0 : Nat) : Int)=0 from rfl] at HR
   have d1 : decide ((65536 : Int) < (s.size : Int))=false:=decide_eq_false (by omega)
   have d2 : decide (65536 < s.size)=false:=decide_eq_false hs
   cases hr : rdO 0 s.data.toList with
   | err z =>
     rw [hr] at HR
     unfold RdR at HR
     dsimp only at HR
     clear hr hs
     go_enter Tryz.func73, Tryz.ntmps73
     go_wp2_with (go_at_call 107;(with_reducible refine (HR.out _).mono ?_);rintro o w5 ⟨rfl,hb5⟩;have hrow:=(hb5.block _ (by simp)).trans HB0.out.2;have x0:=cell_of_row _ _ 0 _ _ _ hrow;have x1:=cell_of_row _ _ 1 _ _ _ hrow;have x2:=cell_of_row _ _ 2 _ _ _ hrow;have x3:=cell_of_row _ _ 3 _ _ _ hrow;have f0:=frozen_of_row _ _ 0 _ _ hrow;have f1:=frozen_of_row _ _ 1 _ _ hrow;have f2:=frozen_of_row _ _ 2 _ _ hrow;have f3:=frozen_of_row _ _ 3 _ _ hrow;have HB:=Lib.hid (below2 HB0.out.1 hb5);clear hb5 hrow)
     refine bodyPost_ret (v:=.tuple #[.agg #[.int .i64 0,.string ⟨#[]⟩,.string ⟨#[]⟩,.slice none 0 0],.int .i64 0,.int .i64 z]) (by simp [results,Tryz.results73,go_sem,x0,x1,x2,x3]) rfl ?_
     exact ⟨rfl,fin4 HB.out _ _ _ _⟩
   | ok p =>
     obtain ⟨⟨yk,yn,yt,yl⟩,r⟩:=p
     rw [hr] at HR
     unfold RdR at HR
     dsimp only at HR
     clear hr hs
     go_enter Tryz.func73, Tryz.ntmps73
     go_wp2_with (go_at_call 107;(with_reducible refine (HR.out _).mono ?_);rintro o w5 ⟨A5,c5,a5,rfl,hr5,ha5,hc5,hsl5,hb5⟩;have hrow:=(hb5.block _ (by simp)).trans HB0.out.2;have x0:=cell_of_row _ _ 0 _ _ _ hrow;have x1:=cell_of_row _ _ 1 _ _ _ hrow;have x2:=cell_of_row _ _ 2 _ _ _ hrow;have x3:=cell_of_row _ _ 3 _ _ _ hrow;have f0:=frozen_of_row _ _ 0 _ _ hrow;have f1:=frozen_of_row _ _ 1 _ _ hrow;have f2:=frozen_of_row _ _ 2 _ _ hrow;have f3:=frozen_of_row _ _ 3 _ _ hrow;have HB:=Lib.hid (below2 HB0.out.1 hb5);have HP:=Lib.hid (And.intro hr5 (And.intro ha5 hc5));have HSL:=Lib.hid hsl5;clear hb5 hrow hr5 ha5 hc5 hsl5)
     refine bodyPost_ret (v:=.tuple #[.agg #[.int .i64 yk,.string yn,.string yt,.slice A5 yl.len c5],.int .i64 (a5 : Int),.int .i64 0]) (by simp [results,Tryz.results73,go_sem,x0,x1,x2,x3]) rfl ?_
     refine ⟨A5,c5,a5,rfl,HP.out.1,HP.out.2.1,HP.out.2.2,(HSL.out.keep fun p hp=>?_).mono fun g hg=>⟨by have:=hg.1;simp only [World.size_alloc] at this;omega,by simpa using hg.2⟩,fin4 HB.out _ _ _ _⟩
     have h1:=hp.1
     simp only [World.size_alloc] at h1
     have hcell : ∀ (W : World) (i : Nat) (u : Value),(W.setCell ⟨w.heap.size,i,none⟩ u).cell? p=W.cell? p:=fun W i u=>World.cell?_setCell_other _ _ _ _ (fun e=>by have:=congrArg Addr.block e;simp at this;omega)
     rw [hcell,hcell,hcell,hcell]
def DcR (w : World) (p : Rd Its.One) (o : Ending) (w' : World) : Prop :=
 match p with
 | .ok y=>∃ A c,o=.returned (.tuple #[.agg #[.int .i64 y.1,.string y.2.1,.string y.2.2.1,.slice A y.2.2.2.len c],.int .i64 0])∧y.2.2.2.len≤c∧SlK w' (fun g=>w.heap.size≤g∧g < w'.heap.size) A y.2.2.2∧Below w.heap.size w w'
 | .err z=>o=.returned (.tuple #[.agg #[.int .i64 0,.string ⟨#[]⟩,.string ⟨#[]⟩,.slice none 0 0],.int .i64 z])∧Below w.heap.size w w'
theorem item_fin {b : Nat} {w0 w : World} {k : Int} {n t : ByteArray} {A : Option Addr} {m c : Nat} (hb : Below b w0 w) (hrow : w.heap[b]?=some (.cells #[.int .i64 0,.string ⟨#[]⟩,.string ⟨#[]⟩,.slice none 0 0] 63 (0,0))) {W : World} (hW : (((w.setCell ⟨b,0,none⟩ (.int .i64 k)).setCell ⟨b,1,none⟩ (.string n)).setCell ⟨b,2,none⟩ (.string t)).setCell ⟨b,3,none⟩ (.slice A m c)=W) :
  (W.cell? ⟨b,0,none⟩=some (.int .i64 k)∧W.cell? ⟨b,1,none⟩=some (.string n)∧W.cell? ⟨b,2,none⟩=some (.string t)∧W.cell? ⟨b,3,none⟩=some (.slice A m c))∧Below b w0 W∧W.heap.size=w.heap.size∧∀ p : Addr,p.block≠b→W.cell? p=w.cell? p:=by
 subst hW
 have e0:=heap_setCell_same w b 0 _ _ (.int .i64 k) hrow
 have e1:=heap_setCell_same _ b 1 _ _ (.string n) e0
 have e2:=heap_setCell_same _ b 2 _ _ (.string t) e1
 have e3:=heap_setCell_same _ b 3 _ _ (.slice A m c) e2
 refine ⟨⟨cell_of_row _ _ 0 _ _ _ e3,cell_of_row _ _ 1 _ _ _ e3,cell_of_row _ _ 2 _ _ _ e3,cell_of_row _ _ 3 _ _ _ e3⟩,(((hb.setCell (p:=⟨b,0,none⟩) (Nat.le_refl _) _).setCell (p:=⟨b,1,none⟩) (Nat.le_refl _) _).setCell (p:=⟨b,2,none⟩) (Nat.le_refl _) _).setCell (p:=⟨b,3,none⟩) (Nat.le_refl _) _,by simp,fun p hp=>?_⟩
 have hcell : ∀ (W : World) (i : Nat) (u : Value),(W.setCell ⟨b,i,none⟩ u).cell? p=W.cell? p:=fun W i u=>World.cell?_setCell_other _ _ _ _ (fun e=>hp (by have:=congrArg Addr.block e;first | exact this | exact this.symm))
 rw [hcell,hcell,hcell,hcell]
theorem r08_Decode (s : ByteArray) (w : World) : Calls Tryz.prog 29 #[.string s] w (DcR w (decS s)):=by
 have HB0:=Lib.hid (And.intro ((Below.refl w.heap.size w).alloc (Nat.le_refl _) (.cells #[.int .i64 0,.string ⟨#[]⟩,.string ⟨#[]⟩,.slice none 0 0] 63)) (heap_alloc_new w (.cells #[.int .i64 0,.string ⟨#[]⟩,.string ⟨#[]⟩,.slice none 0 0] 63)))
 have HR:=Lib.hid (fun W=>r08_Read s W)
 have hds : decS s=match rdS s with | .err z=>.err z | .ok (y,r)=>if r=[] then .ok y else .err 4:=by
  unfold decS rdS
  split
  · rfl
  · cases rdO 0 s.data.toList with
    | err z=>rfl
    | ok p=>rfl
 cases hr : rdS s with
 | err z =>
   have hz : z≠0:=by
    unfold rdS textMax at hr
    split at hr
    · injection hr with hr;omega
    · rw [← seg_all] at hr
      have:=rdO_z (Nat.le_refl _) hr
      omega
   rw [hds,hr]
   rw [hr] at HR
   unfold RdR at HR
   dsimp only at HR ⊢
   have i1 : (z==0)=false:=by simp [hz]
   have i2 : (z != 0)=true:=by simp [hz]
   clear hr hds hz
   go_enter Tryz.func29, Tryz.ntmps29
   go_upto_region 2 with (go_at_call 73;(with_reducible refine (HR.out _).mono ?_);rintro o w5 ⟨rfl,hb5⟩;have hz5:=hb5.size;have hrow:=(Below.heap_alloc w5 (.cells #[.int .i64 0,.string ⟨#[]⟩,.string ⟨#[]⟩,.slice none 0 0] 63) _ (by simp only [World.size_alloc] at hz5;omega)).trans ((hb5.block _ (by simp)).trans HB0.out.2);have HRW:=Lib.hid hrow;have HB:=Lib.hid ((below2 HB0.out.1 hb5).alloc (by simp only [World.size_alloc] at hz5;omega) (.cells #[.int .i64 0,.string ⟨#[]⟩,.string ⟨#[]⟩,.slice none 0 0] 63));clear hb5 hrow hz5)
   obtain ⟨w6,hw6⟩ : ∃ w6,w5.alloc (.cells #[.int .i64 0,.string ⟨#[]⟩,.string ⟨#[]⟩,.slice none 0 0] 63)=w6:=⟨_,rfl⟩
   rw [hw6] at HRW HB ⊢
   clear hw6
   have x0:=cell_of_row _ _ 0 _ _ _ HRW.out
   have x1:=cell_of_row _ _ 1 _ _ _ HRW.out
   have x2:=cell_of_row _ _ 2 _ _ _ HRW.out
   have x3:=cell_of_row _ _ 3 _ _ _ HRW.out
   have f0:=frozen_of_row _ _ 0 _ _ HRW.out
   have f1:=frozen_of_row _ _ 1 _ _ HRW.out
   have f2:=frozen_of_row _ _ 2 _ _ HRW.out
   have f3:=frozen_of_row _ _ 3 _ _ HRW.out
   go_wp2_with fail
   refine bodyPost_ret (v:=.tuple #[.agg #[.int .i64 0,.string ⟨#[]⟩,.string ⟨#[]⟩,.slice none 0 0],.int .i64 z]) (by simp [results,Tryz.results29,go_sem,x0,x1,x2,x3]) rfl ?_
   exact ⟨rfl,fin4 HB.out _ _ _ _⟩
 | ok p =>
   obtain ⟨⟨yk,yn,yt,yl⟩,r⟩:=p
   rw [hr] at hds HR
   dsimp only at hds
   obtain ⟨P,hP⟩ : ∃ P,decS s=P:=⟨_,rfl⟩
   rw [hP] at hds ⊢
   have HDS:=Lib.hid hds
   unfold RdR at HR
   dsimp only at HR
   clear hr hds hP
   go_enter Tryz.func29, Tryz.ntmps29
   go_upto_region 2 with (go_at_call 73;(with_reducible refine (HR.out _).mono ?_);rintro o w5 ⟨A5,c5,a5,rfl,hr5,ha5,hc5,hsl5,hb5⟩;have hz5:=hb5.size;have hal : Below w5.heap.size w5 (w5.alloc (.cells #[.int .i64 yk,.string yn,.string yt,.slice A5 yl.len c5] 63)):=(Below.refl _ _).alloc (Nat.le_refl _) _;have hrow:=(hal.block _ (by simp only [World.size_alloc] at hz5;omega)).trans ((hb5.block _ (by simp)).trans HB0.out.2);have HRW:=Lib.hid hrow;have HB:=Lib.hid ((below2 HB0.out.1 hb5).alloc (by simp only [World.size_alloc] at hz5;omega) (.cells #[.int .i64 yk,.string yn,.string yt,.slice A5 yl.len c5] 63));have HX:=Lib.hid (heap_alloc_new w5 (.cells #[.int .i64 yk,.string yn,.string yt,.slice A5 yl.len c5] 63));have HP:=Lib.hid (And.intro hr5 (And.intro ha5 hc5));have HSL:=Lib.hid ((hsl5.keep (w':=w5.alloc (.cells #[.int .i64 yk,.string yn,.string yt,.slice A5 yl.len c5] 63)) (fun p hp=>hal.cell hp.2)).mono (S':=fun g=>w.heap.size+1≤g∧g < (w5.alloc (.cells #[.int .i64 yk,.string yn,.string yt,.slice A5 yl.len c5] 63)).heap.size) (fun g hg=>⟨by have:=hg.1;simp only [World.size_alloc] at this;omega,Nat.lt_of_lt_of_le hg.2 hal.size⟩));clear hb5 hrow hz5 hal hsl5 hr5 ha5 hc5)
   obtain ⟨b5,hb5⟩ : ∃ b5,w5.heap.size=b5:=⟨_,rfl⟩
   obtain ⟨w6,hw6⟩ : ∃ w6,w5.alloc (.cells #[.int .i64 yk,.string yn,.string yt,.slice A5 yl.len c5] 63)=w6:=⟨_,rfl⟩
   rw [hw6] at HRW HB HX HSL ⊢
   rw [hb5] at HX ⊢
   clear hw6 hb5
   have x0:=cell_of_row _ _ 0 _ _ _ HRW.out
   have x1:=cell_of_row _ _ 1 _ _ _ HRW.out
   have x2:=cell_of_row _ _ 2 _ _ _ HRW.out
   have x3:=cell_of_row _ _ 3 _ _ _ HRW.out
   have f0:=frozen_of_row _ _ 0 _ _ HRW.out
   have f1:=frozen_of_row _ _ 1 _ _ HRW.out
   have f2:=frozen_of_row _ _ 2 _ _ HRW.out
   have f3:=frozen_of_row _ _ 3 _ _ HRW.out
   have y0:=cell_of_row _ _ 0 _ _ _ HX.out
   have y1:=cell_of_row _ _ 1 _ _ _ HX.out
   have y2:=cell_of_row _ _ 2 _ _ _ HX.out
   have y3:=cell_of_row _ _ 3 _ _ _ HX.out
   by_cases hr0 : a5 < s.size
   · have hrn : r≠[]:=by
      rw [HP.out.1]
      intro e
      have:=congrArg List.length e
      rw [seg_len (Nat.le_refl _)] at this
      simp at this
      omega
     have hPE : P=.err 4:=by rw [HDS.out,if_neg hrn]
     subst hPE
     have i1 : decide ((a5 : Int) < (s.size : Int))=true:=decide_eq_true (by omega)
     have i2 : decide (a5 < s.size)=true:=decide_eq_true hr0
     clear hrn HDS
     go_wp2_with fail
     refine bodyPost_ret (v:=.tuple #[.agg #[.int .i64 0,.string ⟨#[]⟩,.string ⟨#[]⟩,.slice none 0 0],.int .i64 4]) (by simp [results,Tryz.results29,go_sem,x0,x1,x2,x3]) rfl ?_
     exact ⟨rfl,fin4 HB.out _ _ _ _⟩
   · have hrn : r=[]:=by rw [HP.out.1];exact seg_nil (by omega)
     have hPE : P=.ok (yk,yn,yt,yl):=by rw [HDS.out,if_pos hrn]
     subst hPE
     have i1 : decide ((a5 : Int) < (s.size : Int))=false:=decide_eq_false (by omega)
     have i2 : decide (a5 < s.size)=false:=decide_eq_false hr0
     clear hrn HDS
     go_wp2_with fail
     obtain ⟨W,hW⟩ : ∃ W,(((w6.setCell ⟨w.heap.size,0,none⟩ (.int .i64 yk)).setCell ⟨w.heap.size,1,none⟩ (.string yn)).setCell ⟨w.heap.size,2,none⟩ (.string yt)).setCell ⟨w.heap.size,3,none⟩ (.slice A5 yl.len c5)=W:=⟨_,rfl⟩
     obtain ⟨⟨q0,q1,q2,q3⟩,hbel,hsz,hcl⟩:=item_fin HB.out HRW.out hW
     rw [hW]
     refine bodyPost_ret (v:=.tuple #[.agg #[.int .i64 yk,.string yn,.string yt,.slice A5 yl.len c5],.int .i64 0]) (by simp [results,Tryz.results29,go_sem,q0,q1,q2,q3]) rfl ?_
     exact ⟨A5,c5,rfl,HP.out.2.2,(HSL.out.keep fun p hp=>hcl p (by have:=hp.1;omega)).mono fun g hg=>⟨by have:=hg.1;omega,by rw [hsz];exact hg.2⟩,hbel⟩
end Go.Proofs.YtjhlddlocpkhkaaGreat
