/- Encoding: (*reader).size where it reads a length. -/
import Derived.Test.YtjhlddlocpkhkaaGreatWhJ08
import Derived.Deep.DeepCutAuto
import Derived.Deep.CutBlock
namespace Go.Proofs.YtjhlddlocpkhkaaGreat
open Go.RowKit
set_option maxRecDepth 100000
set_option linter.unusedVariables false
set_option maxHeartbeats 4000000
/-- A reader's box. -/
def RdB (s : ByteArray) (at_ rb : Nat) (w : World) : Prop := w.heap[rb]? = some (.cells #[.string s, .int .i64 (at_ : Int)] 145 (0, 0))
section
variable {s : ByteArray} {a rb : Nat} {w w' : World}
theorem RdB.cells (h : RdB s a rb w) : (w.cell? ⟨rb, 0, none⟩ = some (.string s) ∧ w.cell? ⟨rb, 1, none⟩ = some (.int .i64 (a : Int))) ∧ w.frozen? ⟨rb, 1, none⟩ = false :=
  ⟨⟨cell_of_row w _ 0 _ _ _ h, cell_of_row w _ 1 _ _ _ h⟩, frozen_of_row w _ 1 _ _ h⟩
theorem RdB.drew (h : RdB s a rb w) : RdB s a rb w.drew := h
theorem RdB.put (h : RdB s a rb w) (a' : Nat) : RdB s a' rb (w.setCell ⟨rb, 1, none⟩ (.int .i64 (a' : Int))) := heap_setCell_same w rb 1 _ _ _ h
theorem RdB.keep (h : RdB s a rb w) (hb : Below w.heap.size w w') (hl : rb < w.heap.size) : RdB s a rb w' := (hb.block _ hl).trans h
theorem RdB.lt (h : RdB s a rb w) : rb < w.heap.size := (Array.getElem?_eq_some_iff.1 h).1
end
theorem wrap64_byte (b : UInt8) : wrap64 (b.toNat : Int) = (b.toNat : Int) := by
  have := b.toNat_lt
  unfold wrap64
  omega
theorem gb_drewN {w : World} {row : Option Nat} {n : Nat} : w.grownBy (w.drewN n) row := ⟨rfl, rfl, rfl, Nat.le_refl _, fun _ _ _ => rfl⟩
theorem wOr {x y k : Nat} (hx : x < 2 ^ k) (hy : y < 128) (hk : k ≤ 14) : bits .or .i64 (x : Int) ((y : Int) * 2 ^ k) = ((x + 2 ^ k * y : Nat) : Int) := by
  have hp : 2 ^ k ≤ 2 ^ 14 := Nat.pow_le_pow_right (by decide) hk
  have hb : y * 2 ^ k < 128 * 2 ^ 14 := Nat.lt_of_lt_of_le (Nat.mul_lt_mul_of_pos_right hy (Nat.two_pow_pos k)) (Nat.mul_le_mul_left _ hp)
  have e1 : ((y : Int) * 2 ^ k) = ((y * 2 ^ k : Nat) : Int) := by simp
  have hx2 : x ||| y * 2 ^ k < 2 ^ 63 := Nat.or_lt_two_pow (by omega) (by omega)
  rw [e1]
  show IntKind.i64.wrap ((BitVec.ofInt 64 (x : Int) ||| BitVec.ofInt 64 ((y * 2 ^ k : Nat) : Int)).toNat : Int) = _
  rw [BitVec.toNat_or, ofInt_u64 x (by omega), ofInt_u64 (y * 2 ^ k) (by omega)]
  have e2 : x ||| y * 2 ^ k = x + 2 ^ k * y := by
    rw [Nat.or_comm, Nat.mul_comm y]
    have := Nat.two_pow_add_eq_or_of_lt hx y
    omega
  rw [e2] at hx2 ⊢
  generalize x + 2 ^ k * y = c at hx2 ⊢
  simp only [IntKind.wrap, IntKind.bits, IntKind.signed]
  simp
  omega
theorem wAnd {y : Nat} (hy : y < 256) : bits .and .i64 (y : Int) 127 = ((y % 128 : Nat) : Int) := by
  have hx : y &&& 127 < 2 ^ 63 := Nat.and_lt_two_pow _ (by omega)
  show IntKind.i64.wrap ((BitVec.ofInt 64 (y : Int) &&& BitVec.ofInt 64 ((127 : Nat) : Int)).toNat : Int) = _
  rw [BitVec.toNat_and, ofInt_u64 y (by omega), ofInt_u64 127 (by omega)]
  have e2 : y &&& 127 = y % 128 := Nat.and_two_pow_sub_one_eq_mod y 7
  rw [e2]
  simp only [IntKind.wrap, IntKind.bits, IntKind.signed]
  simp
  omega
theorem enc_size (s : ByteArray) (a e n a2 rb : Nat) (w : World) (he : e ≤ s.size) (hs : s.size ≤ 65536) (h : szS 5 0 (seg s a e) = some (n, seg s a2 e)) (h2 : a2 ≤ e) (hn : n ≤ e - a2) (hb : RdB s a rb w) :
    Calls Tryz.prog 123 #[.pointer (some ⟨rb, 0, none⟩), .int .i64 (e : Int)] w fun o w' => o = .returned (.int .i64 (n : Int)) ∧ RdB s a2 rb w' ∧ w.grownBy w' (some rb) := by
  have HP := Lib.hid (And.intro he (And.intro hs (And.intro h2 hn)))
  have HB := Lib.hid hb
  have HZ := Lib.hid h
  clear h hb
  go_enter Tryz.func123, Tryz.ntmps123
  go_wp2_with fail
  go_loopw [5, 6] (fun v5 v6 wr => ∃ k c acc m : Nat, k ≤ 2 ∧ v5 = .int .i64 (acc : Int) ∧ v6 = .int .i64 (k : Int) ∧ acc < 2 ^ (7 * k) ∧ szS (5 - k) k (seg s c e) = some (m, seg s a2 e) ∧ acc + 2 ^ (7 * k) * m = n ∧ RdB s c rb wr ∧ w.grownBy wr (some rb)) (fun _ v6 _ => 3 - (intOf v6).toNat)
  case atStart => exact ⟨0, a, 0, n, by omega, rfl, rfl, by decide, HZ.out, by simp, HB.out, gb_refl⟩
  case round =>
    obtain ⟨k, c, acc, m, hk, rfl, rfl, hacc, hsz, hsum, hbx, hgr⟩ := hrel
    have hce : c < e := by
      apply Classical.byContradiction
      intro hh
      rw [seg_nil (by omega), show 5 - k = (4 - k) + 1 by omega] at hsz
      simp [szS] at hsz
    have hcs : c < s.size := by omega
    rw [seg_cons hce he, show 5 - k = (4 - k) + 1 by omega] at hsz
    obtain ⟨b, hbv⟩ : ∃ b, s[c]'hcs = b := ⟨_, rfl⟩
    rw [hbv] at hsz
    have hst := szS_step hsz
    have HBX := Lib.hid hbx
    have HGR := Lib.hid hgr
    obtain ⟨⟨c0, c1⟩, f1⟩ := hbx.cells
    have HSTEP := Lib.hid hst
    have HACC := Lib.hid hacc
    have HSUM := Lib.hid hsum
    have HBV := Lib.hid hbv
    have i1 : (c : Int) < (s.size : Int) := by omega
    have d1 : decide ((e : Int) ≤ (c : Int)) = false := decide_eq_false (by omega)
    have d2 : decide (e ≤ c) = false := decide_eq_false (by omega)
    have i2 : decide (c < s.size) = true := decide_eq_true (by omega)
    clear hst hsz hbx hgr hacc hsum hbv
    obtain ⟨y, hy⟩ : ∃ y, b.toNat = y := ⟨_, rfl⟩
    have hy8 : y < 256 := by rw [← hy]; exact b.toNat_lt
    have HY : Hid (wrap64 (((s[c]'hcs).toNat : Nat) : Int) = (y : Int)) := Lib.hid (by rw [HBV.out, hy, ← hy]; exact wrap64_byte b)
    have HSTY := HSTEP.out
    rw [hy] at HSTY
    have HST := Lib.hid HSTY
    have HA := Lib.hid (wAnd hy8)
    clear HSTY HSTEP hy
    have hacc' := HACC.out
    rcases (show k = 0 ∨ k = 1 ∨ k = 2 by omega) with rfl | rfl | rfl
    · rw [show ((0 : Nat) : Int) = 0 from rfl]
      go_upto_region 6 with fail
      go_quiet ((fail))
      rw [HY.out]
      by_cases hl : y < 128
      · have l1 : decide ((y : Int) < 128) = true := decide_eq_true (by omega)
        have l2 : decide (y < 128) = true := decide_eq_true hl
        cases hy0 : ((y : Int) == 0)
        · 
          have hl1 : n = acc + 2 ^ (7 * 0) * y ∧ c + 1 = a2 := by
            rcases HST.out.2 with ⟨_, h1, h3⟩ | ⟨h1, _⟩
            · refine ⟨by rw [← HSUM.out, h1], ?_⟩
              have := congrArg List.length h3
              rw [seg_len HP.out.1, seg_len HP.out.1] at this
              omega
            · omega
          obtain ⟨hn1, ha2⟩ := hl1
          have HV : Hid (bits .or .i64 (acc : Int) (wrap64 (bits .and .i64 (y : Int) 127)) = (n : Int)) := Lib.hid (by
            have hor := wOr (x := acc) (y := y) (k := 7 * 0) HACC.out hl (by decide)
            rw [HA.out, Nat.mod_eq_of_lt hl]
            rw [show wrap64 ((y : Int)) = (y : Int) * 2 ^ (7 * 0) by unfold wrap64; omega, hor, hn1])
          obtain ⟨q, hq⟩ : ∃ q, e - a2 = q := ⟨_, rfl⟩
          have hqn : n ≤ q := by rw [← hq]; exact HP.out.2.2.2
          have hwr : wrap64 ((e : Int) - ((c : Int) + 1)) = (q : Int) := by have := HP.out; unfold wrap64; omega
          have d5 : decide (q < n) = false := decide_eq_false (by omega)
          have d6 : decide ((q : Int) < (n : Int)) = false := decide_eq_false (by omega)
          have hac : ((c : Int) + 1) = ((a2 : Nat) : Int) := by omega
          have HAC := Lib.hid hac
          clear hac hn1 hq hqn
          go_upto_region 12 with fail
          rw [HV.out]
          go_wp2_with fail
          go_ret
          rw [HAC.out]
          exact ⟨rfl, (HBX.out).put a2, HGR.out.trans (gb_drewN.trans gb_set)⟩
        · 
          have hl1 : n = acc + 2 ^ (7 * 0) * y ∧ c + 1 = a2 := by
            rcases HST.out.2 with ⟨_, h1, h3⟩ | ⟨h1, _⟩
            · refine ⟨by rw [← HSUM.out, h1], ?_⟩
              have := congrArg List.length h3
              rw [seg_len HP.out.1, seg_len HP.out.1] at this
              omega
            · omega
          obtain ⟨hn1, ha2⟩ := hl1
          have HV : Hid (bits .or .i64 (acc : Int) (wrap64 (bits .and .i64 (y : Int) 127)) = (n : Int)) := Lib.hid (by
            have hor := wOr (x := acc) (y := y) (k := 7 * 0) HACC.out hl (by decide)
            rw [HA.out, Nat.mod_eq_of_lt hl]
            rw [show wrap64 ((y : Int)) = (y : Int) * 2 ^ (7 * 0) by unfold wrap64; omega, hor, hn1])
          obtain ⟨q, hq⟩ : ∃ q, e - a2 = q := ⟨_, rfl⟩
          have hqn : n ≤ q := by rw [← hq]; exact HP.out.2.2.2
          have hwr : wrap64 ((e : Int) - ((c : Int) + 1)) = (q : Int) := by have := HP.out; unfold wrap64; omega
          have d5 : decide (q < n) = false := decide_eq_false (by omega)
          have d6 : decide ((q : Int) < (n : Int)) = false := decide_eq_false (by omega)
          have hac : ((c : Int) + 1) = ((a2 : Nat) : Int) := by omega
          have HAC := Lib.hid hac
          clear hac hn1 hq hqn
          go_upto_region 12 with fail
          rw [HV.out]
          go_wp2_with fail
          go_ret
          rw [HAC.out]
          exact ⟨rfl, (HBX.out).put a2, HGR.out.trans (gb_drewN.trans gb_set)⟩
      · have l1 : decide ((y : Int) < 128) = false := decide_eq_false (by omega)
        have l2 : decide (y < 128) = false := decide_eq_false hl
        have hy0 : ((y : Int) == 0) = false := by simp; omega
        have hl1 : ∃ m', szS (5 - (0 + 1)) (0 + 1) (seg s (c + 1) e) = some (m', seg s a2 e) ∧ acc + 2 ^ (7 * 0) * (y - 128 + 128 * m') = n := by
          rcases HST.out.2 with ⟨h1, _⟩ | ⟨_, m', h1, h3⟩
          · omega
          · exact ⟨m', h1, by rw [← HSUM.out, h3]⟩
        obtain ⟨m', hm1, hm2⟩ := hl1
        have HM := Lib.hid (And.intro hm1 hm2)
        have HV : Hid (bits .or .i64 (acc : Int) (wrap64 (bits .and .i64 (y : Int) 127)) = ((acc + 2 ^ (7 * 0) * (y - 128) : Nat) : Int)) := Lib.hid (by
          have hor := wOr (x := acc) (y := y - 128) (k := 7 * 0) HACC.out (by omega) (by decide)
          rw [HA.out, show y % 128 = y - 128 by omega]
          rw [show wrap64 (((y - 128 : Nat) : Int)) = ((y - 128 : Nat) : Int) * 2 ^ (7 * 0) by unfold wrap64; omega, hor])
        clear hm1 hm2
        go_wp2_with fail
        go_roundw
        case rel => exact ⟨0 + 1, c + 1, acc + 2 ^ (7 * 0) * (y - 128), m', by omega, by rw [HV.out], rfl, by have := HACC.out; omega, HM.out.1, by have := HM.out.2; omega, HBX.out.put (c + 1), HGR.out.trans (gb_drewN.trans gb_set)⟩
        case measure => simp [intOf]
    · rw [show ((1 : Nat) : Int) = 1 from rfl]
      go_upto_region 6 with fail
      go_quiet ((fail))
      rw [HY.out]
      by_cases hl : y < 128
      · have l1 : decide ((y : Int) < 128) = true := decide_eq_true (by omega)
        have l2 : decide (y < 128) = true := decide_eq_true hl
        have hy0 : ((y : Int) == 0) = false := by
          have := HST.out.1
          simp
          omega
        have hl1 : n = acc + 2 ^ (7 * 1) * y ∧ c + 1 = a2 := by
          rcases HST.out.2 with ⟨_, h1, h3⟩ | ⟨h1, _⟩
          · refine ⟨by rw [← HSUM.out, h1], ?_⟩
            have := congrArg List.length h3
            rw [seg_len HP.out.1, seg_len HP.out.1] at this
            omega
          · omega
        obtain ⟨hn1, ha2⟩ := hl1
        have HV : Hid (bits .or .i64 (acc : Int) (wrap64 (bits .and .i64 (y : Int) 127 * 128)) = (n : Int)) := Lib.hid (by
          have hor := wOr (x := acc) (y := y) (k := 7 * 1) HACC.out hl (by decide)
          rw [HA.out, Nat.mod_eq_of_lt hl]
          rw [show wrap64 ((y : Int) * 128) = (y : Int) * 2 ^ (7 * 1) by unfold wrap64; omega, hor, hn1])
        obtain ⟨q, hq⟩ : ∃ q, e - a2 = q := ⟨_, rfl⟩
        have hqn : n ≤ q := by rw [← hq]; exact HP.out.2.2.2
        have hwr : wrap64 ((e : Int) - ((c : Int) + 1)) = (q : Int) := by have := HP.out; unfold wrap64; omega
        have d5 : decide (q < n) = false := decide_eq_false (by omega)
        have d6 : decide ((q : Int) < (n : Int)) = false := decide_eq_false (by omega)
        have hac : ((c : Int) + 1) = ((a2 : Nat) : Int) := by omega
        have HAC := Lib.hid hac
        clear hac hn1 hq hqn
        go_upto_region 12 with fail
        rw [HV.out]
        go_wp2_with fail
        go_ret
        rw [HAC.out]
        exact ⟨rfl, (HBX.out).put a2, HGR.out.trans (gb_drewN.trans gb_set)⟩
      · have l1 : decide ((y : Int) < 128) = false := decide_eq_false (by omega)
        have l2 : decide (y < 128) = false := decide_eq_false hl
        have hy0 : ((y : Int) == 0) = false := by simp; omega
        have hl1 : ∃ m', szS (5 - (1 + 1)) (1 + 1) (seg s (c + 1) e) = some (m', seg s a2 e) ∧ acc + 2 ^ (7 * 1) * (y - 128 + 128 * m') = n := by
          rcases HST.out.2 with ⟨h1, _⟩ | ⟨_, m', h1, h3⟩
          · omega
          · exact ⟨m', h1, by rw [← HSUM.out, h3]⟩
        obtain ⟨m', hm1, hm2⟩ := hl1
        have HM := Lib.hid (And.intro hm1 hm2)
        have HV : Hid (bits .or .i64 (acc : Int) (wrap64 (bits .and .i64 (y : Int) 127 * 128)) = ((acc + 2 ^ (7 * 1) * (y - 128) : Nat) : Int)) := Lib.hid (by
          have hor := wOr (x := acc) (y := y - 128) (k := 7 * 1) HACC.out (by omega) (by decide)
          rw [HA.out, show y % 128 = y - 128 by omega]
          rw [show wrap64 (((y - 128 : Nat) : Int) * 128) = ((y - 128 : Nat) : Int) * 2 ^ (7 * 1) by unfold wrap64; omega, hor])
        clear hm1 hm2
        go_wp2_with fail
        go_roundw
        case rel => exact ⟨1 + 1, c + 1, acc + 2 ^ (7 * 1) * (y - 128), m', by omega, by rw [HV.out], rfl, by have := HACC.out; omega, HM.out.1, by have := HM.out.2; omega, HBX.out.put (c + 1), HGR.out.trans (gb_drewN.trans gb_set)⟩
        case measure => simp [intOf]
    · rw [show ((2 : Nat) : Int) = 2 from rfl]
      go_upto_region 6 with fail
      go_quiet ((fail))
      rw [HY.out]
      by_cases hl : y < 128
      · have l1 : decide ((y : Int) < 128) = true := decide_eq_true (by omega)
        have l2 : decide (y < 128) = true := decide_eq_true hl
        have hy0 : ((y : Int) == 0) = false := by
          have := HST.out.1
          simp
          omega
        have hl1 : n = acc + 2 ^ (7 * 2) * y ∧ c + 1 = a2 := by
          rcases HST.out.2 with ⟨_, h1, h3⟩ | ⟨h1, _⟩
          · refine ⟨by rw [← HSUM.out, h1], ?_⟩
            have := congrArg List.length h3
            rw [seg_len HP.out.1, seg_len HP.out.1] at this
            omega
          · omega
        obtain ⟨hn1, ha2⟩ := hl1
        have HV : Hid (bits .or .i64 (acc : Int) (wrap64 (bits .and .i64 (y : Int) 127 * 16384)) = (n : Int)) := Lib.hid (by
          have hor := wOr (x := acc) (y := y) (k := 7 * 2) HACC.out hl (by decide)
          rw [HA.out, Nat.mod_eq_of_lt hl]
          rw [show wrap64 ((y : Int) * 16384) = (y : Int) * 2 ^ (7 * 2) by unfold wrap64; omega, hor, hn1])
        obtain ⟨q, hq⟩ : ∃ q, e - a2 = q := ⟨_, rfl⟩
        have hqn : n ≤ q := by rw [← hq]; exact HP.out.2.2.2
        have hwr : wrap64 ((e : Int) - ((c : Int) + 1)) = (q : Int) := by have := HP.out; unfold wrap64; omega
        have d5 : decide (q < n) = false := decide_eq_false (by omega)
        have d6 : decide ((q : Int) < (n : Int)) = false := decide_eq_false (by omega)
        have hac : ((c : Int) + 1) = ((a2 : Nat) : Int) := by omega
        have HAC := Lib.hid hac
        clear hac hn1 hq hqn
        go_upto_region 12 with fail
        rw [HV.out]
        go_wp2_with fail
        go_ret
        rw [HAC.out]
        exact ⟨rfl, (HBX.out).put a2, HGR.out.trans (gb_drewN.trans gb_set)⟩
      · exfalso
        rcases HST.out.2 with ⟨h1, _⟩ | ⟨_, m', h1, h3⟩
        · exact hl h1
        · have := szS_pos h1 (by omega)
          have h4 := HSUM.out
          have := HP.out
          rw [h3] at h4
          omega
end Go.Proofs.YtjhlddlocpkhkaaGreat
