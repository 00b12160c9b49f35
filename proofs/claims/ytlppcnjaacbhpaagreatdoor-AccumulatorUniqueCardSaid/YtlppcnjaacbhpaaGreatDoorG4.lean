/- The walks of package rsagroup: order, squares. -/
import Derived.Test.YtlppcnjaacbhpaaGreatDoorG3
namespace Go.Proofs.YtlppcnjaacbhpaaGreatDoor
open Go.RowKit
set_option maxRecDepth 100000
set_option linter.unusedVariables false
set_option maxHeartbeats 400000

/-- The order of the squares, or the error. -/
def orderS (p q : ByteArray) : ByteArray × Int :=
  if valid p && valid q then (if trapS p q = 0 then natMul (B ((num p - 1) / 2)) (B ((num q - 1) / 2)) else (E0, trapS p q)) else (E0, 3)
theorem safeS_zero {p : ByteArray} (h : (safeS p).2 = 0) (h1 : (safeS p).1 = true) : valid p = true ∧ 2 ≤ num p ∧ num p < 18446744073709551616 ∧ isS (num p) = true ∧ isS ((num p - 1) / 2) = true := by
  unfold safeS at h h1
  simp only [Bool.and_eq_true, decide_eq_true_eq] at h h1
  have hs := smallS_lt p
  unfold smallS at h h1 hs
  by_cases hv : valid p = true
  · rw [if_pos hv] at h h1 hs
    by_cases h8 : p.size ≤ 8
    · rw [if_pos h8] at h1 hs
      refine ⟨hv, ?_, hs, h1.2.1, h1.2.2⟩
      rcases Nat.lt_or_ge (num p) 2 with h2 | h2
      · have := isS_small h2
        rw [show isS (num p) = true from h1.2.1] at this
        cases this
      · exact h2
    · rw [if_neg h8] at h; cases h
  · rw [if_neg hv] at h; cases h
theorem trapS_zero {p q : ByteArray} (h : trapS p q = 0) : ((safeS p).2 = 0 ∧ (safeS p).1 = true) ∧ ((safeS q).2 = 0 ∧ (safeS q).1 = true) ∧ (p.toList == q.toList) = false := by
  unfold trapS at h
  by_cases h1 : (safeS p).2 = 0
  · by_cases h2 : (safeS q).2 = 0
    · rw [if_neg (by simpa using h1), if_neg (by simpa using h2)] at h
      split at h
      · rename_i h3
        simp only [Bool.and_eq_true, Bool.not_eq_true'] at h3
        exact ⟨⟨h1, h3.1⟩, ⟨h2, h3.2.1⟩, h3.2.2⟩
      · cases h
    · rw [if_neg (by simpa using h1), if_pos h2] at h; exact absurd h h2
  · rw [if_pos h1] at h; exact absurd h h1
set_option maxHeartbeats 1600000 in
theorem rsagroup_Order (p q : ByteArray) (w : World) (hT : Tab w) :
    Calls Tryz.prog 63 #[.agg #[.string p, .string q]] w fun e w' => e = .returned (.tuple #[.string (orderS p q).1, .int .i64 (orderS p q).2]) ∧ Below w.heap.size w w' := by
  have hr : orderS p q = if valid p && valid q then (if trapS p q = 0 then natMul (B ((num p - 1) / 2)) (B ((num q - 1) / 2)) else (E0, trapS p q)) else (E0, 3) := rfl
  have HR := Lib.hid hr
  have HT := Lib.hid (hT.alloc (.cells #[.string p, .string q] 47))
  clear hr hT
  have F0 := Lib.hid (show Below w.heap.size w (w.alloc (.cells #[.string p, .string q] 47)) from (Below.refl _ _).alloc (Nat.le_refl _) _)
  by_cases hv : (valid p && valid q) = true
  · have hv' := hv
    rw [Bool.and_eq_true] at hv'
    obtain ⟨v1, v2⟩ := hv'
    rw [if_pos hv] at HR
    clear hv
    by_cases ht : trapS p q = 0
    · obtain ⟨hp, hq, _⟩ := trapS_zero ht
      obtain ⟨_, p2, p3, _, _⟩ := safeS_zero hp.1 hp.2
      obtain ⟨_, q2, q3, _, _⟩ := safeS_zero hq.1 hq.2
      rw [if_pos ht] at HR
      have ep := B_num v1
      have eq := B_num v2
      have hmul := natural_Mul (B ((num p - 1) / 2)) (B ((num q - 1) / 2))
      rw [← HR.out] at hmul
      have HMUL := Lib.hid hmul
      have hhp := fun w => rsagroup_half (num p) w (by omega) p3
      have hhq := fun w => rsagroup_half (num q) w (by omega) q3
      rw [ep] at hhp
      rw [eq] at hhq
      have HHP := Lib.hid hhp
      have HHQ := Lib.hid hhq
      have hsf := rsagroup_safe p q
      rw [ht] at hsf
      have HSF := Lib.hid hsf
      clear hmul hhp hhq hsf ht hp hq p2 p3 q2 q3 ep eq
      go_enter Tryz.func63, Tryz.ntmps63
      go_wp2_with (first | (go_at_call 60; refine (natural_Valid _ _).mono ?_; rintro e w' ⟨rfl, rfl⟩) | (go_at_call 98; refine (HSF.out _ HT.out).mono ?_; rintro e w1 ⟨rfl, hb1⟩; have hcw1 := (bcell hb1).1; have hs1 := hb1.size; have hq1 : w.heap.size < w1.heap.size := by { simp at hs1; omega }))
      have hcell1 : w1.cell? ⟨w.heap.size, 1, none⟩ = some (.string q) := (hb1.cell (p := ⟨w.heap.size, 1, none⟩) (by simp)).trans (by simp)
      have hcell0 : w1.cell? ⟨w.heap.size, 0, none⟩ = some (.string p) := (hb1.cell (p := ⟨w.heap.size, 0, none⟩) (by simp)).trans (by simp)
      clear hcw1
      go_region_with (first | (go_at_call 100; (with_reducible refine (HHP.out _).mono ?_); rintro e w2 ⟨rfl, hb2⟩; have hcell2 : w2.cell? ⟨w.heap.size, 1, none⟩ = some (.string q) := (hb2.cell (p := ⟨w.heap.size, 1, none⟩) (by simpa using hq1)).trans hcell1) | (go_at_call 100; (with_reducible refine (HHQ.out _).mono ?_); rintro e w3 ⟨rfl, hb3⟩) | (go_at_call 99; refine (HMUL.out _).mono ?_; rintro e w4 ⟨rfl, hb4⟩))
      all_goals
        go_wp2_with fail
        go_ret2
        have b1 : Below w.heap.size w w1 := below2 F0.out hb1
        have b2 : Below w.heap.size w w2 := below2 (Below.drew b1) hb2
        have b3 : Below w.heap.size w w3 := below2 b2 hb3
        exact ⟨ret_se rfl rfl, below2 b3 hb4⟩
    · have hsf := rsagroup_safe p q
      have HSF := Lib.hid hsf
      have htb : (trapS p q != 0) = true := by rw [bne_iff_ne]; exact ht
      rw [if_neg ht] at HR
      clear hsf ht
      go_enter Tryz.func63, Tryz.ntmps63
      go_wp2_with (first | (go_at_call 60; refine (natural_Valid _ _).mono ?_; rintro e w' ⟨rfl, rfl⟩) | (go_at_call 98; refine (HSF.out _ HT.out).mono ?_; rintro e w1 ⟨rfl, hb1⟩))
      go_ret2
      exact ⟨ret_se (by rw [HR.out] <;> rfl) (by rw [HR.out] <;> rfl), below2 F0.out hb1⟩
  · rw [if_neg hv] at HR
    cases v1 : valid p
    · clear hv
      go_enter Tryz.func63, Tryz.ntmps63
      go_wp2_with (first | (go_at_call 60; refine (natural_Valid _ _).mono ?_; rintro e w' ⟨rfl, rfl⟩))
      go_ret2
      exact ⟨ret_se (by rw [HR.out] <;> rfl) (by rw [HR.out] <;> rfl), F0.out⟩
    · cases v2 : valid q
      · clear hv
        go_enter Tryz.func63, Tryz.ntmps63
        go_wp2_with (first | (go_at_call 60; refine (natural_Valid _ _).mono ?_; rintro e w' ⟨rfl, rfl⟩))
        go_ret2
        exact ⟨ret_se (by rw [HR.out] <;> rfl) (by rw [HR.out] <;> rfl), F0.out⟩
      · exact absurd (by rw [v1, v2]; rfl) hv

end Go.Proofs.YtlppcnjaacbhpaaGreatDoor
