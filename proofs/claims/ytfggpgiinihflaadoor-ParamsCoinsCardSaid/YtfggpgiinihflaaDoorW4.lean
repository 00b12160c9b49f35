/- The walks of package natural, fourth part, and of rsagroup's small parts. -/
import Derived.Test.YtfggpgiinihflaaDoorW3
namespace Go.Proofs.YtfggpgiinihflaaDoor
open Go.RowKit
set_option maxRecDepth 100000
set_option linter.unusedVariables false
set_option maxHeartbeats 400000

theorem natSmall_lt (s : ByteArray) : (natSmall s).1 < 18446744073709551616 := by
  unfold natSmall
  split
  · rename_i h
    rw [Bool.and_eq_true, decide_eq_true_eq] at h
    exact natSmall_bound s h.2
  · exact (by decide : (0 : Nat) < 18446744073709551616)
theorem bits_Mul64' (x y hi lo : Nat) (hx : x < 18446744073709551616) (hy : y < 18446744073709551616) (hh : Hid (x * y / 18446744073709551616 = hi)) (hl : Hid (x * y % 18446744073709551616 = lo)) (w : World) :
    Calls Tryd.prog 47 #[.int .u64 x, .int .u64 y] w fun e w' => e = .returned (.tuple #[.int .u64 hi, .int .u64 lo]) ∧ w = w' := by
  refine (Tryd.bits_Mul64 x y hx hy w).mono ?_
  rintro e w' ⟨rfl, rfl⟩
  rw [hh.out, hl.out]
  exact ⟨rfl, rfl⟩
theorem Ck.new256 (w : World) : Ck (w.alloc (.cells (intCells (List.replicate 256 0)) 74)) w.heap.size 74 (List.replicate 256 0) := heap_alloc_new w _
set_option maxHeartbeats 1000000 in
theorem natural_Mul (a b : ByteArray) (w : World) :
    Calls Tryd.prog 32 #[.string a, .string b] w fun e w' => e = .returned (.tuple #[.string (natMul a b).1, .int .i64 (natMul a b).2]) ∧ Below w.heap.size w w' := by
  by_cases hv : valid a = true ∧ valid b = true
  · obtain ⟨ha, hb⟩ := hv
    have hr : natMul a b = fitted (num a * num b) := by unfold natMul; rw [ha, hb]; rfl
    have HR := Lib.hid hr
    clear hr
    have sa := valid_size ha
    have sb := valid_size hb
    have HX := Lib.hid (natSmall_lt a)
    have HY := Lib.hid (natSmall_lt b)
    obtain ⟨hi, hhi⟩ : ∃ hi, (natSmall a).1 * (natSmall b).1 / 18446744073709551616 = hi := ⟨_, rfl⟩
    obtain ⟨lo, hlo⟩ : ∃ lo, (natSmall a).1 * (natSmall b).1 % 18446744073709551616 = lo := ⟨_, rfl⟩
    have HH := Lib.hid hhi
    have HL := Lib.hid hlo
    have hloL := Lib.hid (show lo < 18446744073709551616 by rw [← hlo]; exact Nat.mod_lt _ (by decide))
    by_cases hfast : (a.size ≤ 8 ∧ b.size ≤ 8) ∧ hi = 0
    · obtain ⟨⟨h8a, h8b⟩, rfl⟩ := hfast
      have hres : fitted (num a * num b) = (B lo, 0) := by
        have e1 : (natSmall a).1 = num a := by unfold natSmall; rw [ha]; simp [h8a]
        have e2 : (natSmall b).1 = num b := by unfold natSmall; rw [hb]; simp [h8b]
        have hlt : num a * num b < 18446744073709551616 := by
          rw [← e1, ← e2]
          rcases Nat.lt_or_ge ((natSmall a).1 * (natSmall b).1) 18446744073709551616 with h | h
          · exact h
          · have := Nat.div_pos h (by decide); omega
        rw [e1, e2, Nat.mod_eq_of_lt hlt] at hlo
        unfold fitted
        rw [hlo, if_pos (by rw [← hlo]; exact Nat.lt_trans hlt (by decide))]
      have HS := Lib.hid hres
      clear hres hhi hlo
      go_enter Tryd.func32, Tryd.ntmps32
      go_wp2_with (first | (go_at_call 33; refine (natural_Valid _ _).mono ?_; rintro e w' ⟨rfl, rfl⟩) | (go_at_call 36; refine (natural_Small _ _).mono ?_; rintro e w' ⟨rfl, rfl⟩) | (go_at_call 47; (with_reducible refine (bits_Mul64' _ _ _ _ HX.out HY.out HH HL _).mono ?_); rintro e w' ⟨rfl, rfl⟩) | (go_at_call 37; (with_reducible refine (natural_Of lo _ hloL.out).mono ?_); rintro e w' ⟨rfl, hb1⟩))
      go_ret2
      exact ⟨ret_se (by rw [HR.out, HS.out]) (by rw [HR.out, HS.out]), hb1⟩
    · by_cases h8a : a.size ≤ 8
      · by_cases h8b : b.size ≤ 8
        · have hne : ((hi : Int) == 0) = false := by
            rw [beq_eq_false_iff_ne]
            intro e
            exact hfast ⟨⟨h8a, h8b⟩, by omega⟩
          clear hhi hlo hfast
          go_enter Tryd.func32, Tryd.ntmps32
          go_wp2_with (first | (go_at_call 33; refine (natural_Valid _ _).mono ?_; rintro e w' ⟨rfl, rfl⟩) | (go_at_call 36; refine (natural_Small _ _).mono ?_; rintro e w' ⟨rfl, rfl⟩) | (go_at_call 47; (with_reducible refine (bits_Mul64' _ _ _ _ HX.out HY.out HH HL _).mono ?_); rintro e w' ⟨rfl, rfl⟩) | (go_at_call 49; refine (natural_product a b w.heap.size _ sa sb (Ck.new256 w)).mono ?_; rintro e w' ⟨rfl, hb1⟩) | (go_at_call 48; (refine (natural_fitting _ _).mono ?_); rintro e w' ⟨rfl, rfl⟩))
          go_ret2
          exact ⟨ret_se (by rw [HR.out]) (by rw [HR.out]), ((Below.refl _ _).alloc (Nat.le_refl _) _).trans hb1⟩
        · clear hhi hlo hfast
          go_enter Tryd.func32, Tryd.ntmps32
          go_wp2_with (first | (go_at_call 33; refine (natural_Valid _ _).mono ?_; rintro e w' ⟨rfl, rfl⟩) | (go_at_call 36; refine (natural_Small _ _).mono ?_; rintro e w' ⟨rfl, rfl⟩) | (go_at_call 47; (with_reducible refine (bits_Mul64' _ _ _ _ HX.out HY.out HH HL _).mono ?_); rintro e w' ⟨rfl, rfl⟩) | (go_at_call 49; refine (natural_product a b w.heap.size _ sa sb (Ck.new256 w)).mono ?_; rintro e w' ⟨rfl, hb1⟩) | (go_at_call 48; (refine (natural_fitting _ _).mono ?_); rintro e w' ⟨rfl, rfl⟩))
          go_ret2
          exact ⟨ret_se (by rw [HR.out]) (by rw [HR.out]), ((Below.refl _ _).alloc (Nat.le_refl _) _).trans hb1⟩
      · clear hhi hlo hfast
        go_enter Tryd.func32, Tryd.ntmps32
        go_wp2_with (first | (go_at_call 33; refine (natural_Valid _ _).mono ?_; rintro e w' ⟨rfl, rfl⟩) | (go_at_call 36; refine (natural_Small _ _).mono ?_; rintro e w' ⟨rfl, rfl⟩) | (go_at_call 47; (with_reducible refine (bits_Mul64' _ _ _ _ HX.out HY.out HH HL _).mono ?_); rintro e w' ⟨rfl, rfl⟩) | (go_at_call 49; refine (natural_product a b w.heap.size _ sa sb (Ck.new256 w)).mono ?_; rintro e w' ⟨rfl, hb1⟩) | (go_at_call 48; (refine (natural_fitting _ _).mono ?_); rintro e w' ⟨rfl, rfl⟩))
        go_ret2
        exact ⟨ret_se (by rw [HR.out]) (by rw [HR.out]), ((Below.refl _ _).alloc (Nat.le_refl _) _).trans hb1⟩
  · have hr : natMul a b = (E0, 3) := by unfold natMul; rw [if_neg (by rw [Bool.and_eq_true]; exact hv)]
    have HR := Lib.hid hr
    clear hr
    by_cases ha : valid a = true
    · have hb : valid b = false := by cases h : valid b with | false => rfl | true => exact absurd ⟨ha, h⟩ hv
      clear hv
      go_enter Tryd.func32, Tryd.ntmps32
      go_wp2_with (first | (go_at_call 33; refine (natural_Valid _ _).mono ?_; rintro e w' ⟨rfl, rfl⟩))
      go_ret2
      exact ⟨ret_se (by rw [HR.out]; rfl) (by rw [HR.out]), Below.refl _ _⟩
    · have ha' : valid a = false := by simpa using ha
      clear hv ha
      go_enter Tryd.func32, Tryd.ntmps32
      go_wp2_with (first | (go_at_call 33; refine (natural_Valid _ _).mono ?_; rintro e w' ⟨rfl, rfl⟩))
      go_ret2
      exact ⟨ret_se (by rw [HR.out]; rfl) (by rw [HR.out]), Below.refl _ _⟩

end Go.Proofs.YtfggpgiinihflaaDoor
