/- The walks of the reference: exponents (03), integers (02), elements of groups of prime order (09). Taken out of Sm1. -/
import Derived.Test.YtapplggboepfaaaGreatDoorR8
import Derived.Test.YtapplggboepfaaaGreatDoorBE
import Derived.Test.YtapplggboepfaaaGreatDoorUU
import Derived.Test.YtapplggboepfaaaGreatDoorBM
import Derived.Deep.RegionHeld3
namespace Go.Proofs.YtapplggboepfaaaGreatDoor
open Go.RowKit
set_option maxRecDepth 100000
set_option linter.unusedVariables false
set_option maxHeartbeats 1000000

theorem r03_times_small2 (x y a b m : Nat) (w : World) (hxa : x % m = a) (hyb : y % m = b) (hx : x < lim) (hy : y < lim) (ha : a < m) (hb : b < m) (hm : m < 2147483648) :
    Calls Tryz.prog 116 #[.string (B x), .string (B y), .string (B m)] w fun e w' => e = .returned (.string (B (a * b % m))) ∧ Below w.heap.size w w' := by
  have hp : a * b < 18446744073709551616 := by
    have := Nat.mul_le_mul (show a ≤ 4294967295 by omega) (show b ≤ 4294967295 by omega)
    omega
  have HMa := Lib.hid (fun w => hxa ▸ r03_Mod x m w hx (u64_lt_lim (by omega)) (by omega))
  have HMb := Lib.hid (fun w => hyb ▸ r03_Mod y m w hy (u64_lt_lim (by omega)) (by omega))
  have hsm : ∀ (n : Nat), n < 2147483648 → natSmall (B n) = (n, true) := fun n hn => by
    unfold natSmall
    rw [valid_B (u64_lt_lim (by omega)), num_B]
    have : (B n).size ≤ 8 := B_size_le'.2 (by omega)
    simp [this]
  have HS : ∀ (n : Nat), n < 2147483648 → ∀ w, Calls Tryz.prog 10 #[.string (B n)] w fun e w' => e = .returned (.tuple #[.int .u64 (n : Nat), .bool true]) ∧ w = w' := fun n hn w => by
    have := r01_Small (B n) w
    rwa [hsm n hn] at this
  have HSm := Lib.hid (HS m hm)
  have HSa := Lib.hid (HS a (by omega))
  have HSb := Lib.hid (HS b (by omega))
  obtain ⟨p, hpp⟩ : ∃ p, a * b = p := ⟨_, rfl⟩
  have ep : ((a : Int) * (b : Int)) = (p : Int) := by rw [← hpp, Int.natCast_mul]
  have wp : IntKind.u64.wrap (p : Int) = (p : Int) := by rw [IntKind.wrap_u64]; omega
  rw [hpp]
  have hm0 : 0 < m := by omega
  have k1 : decide ((m : Int) < 2147483648) = true := by simp; omega
  obtain ⟨R, hR⟩ : ∃ R, p % m = R := ⟨_, rfl⟩
  have er : ((p : Int) % (m : Int)) = (R : Int) := by rw [← hR]; simp
  have er2 : ((p : Int).tmod (m : Int)) = (R : Int) := by rw [Int.tmod_eq_emod_of_nonneg (by omega)]; exact er
  have hRl : R < 18446744073709551616 := by rw [← hR]; have := Nat.mod_lt p hm0; omega
  rw [hR]
  have HOF := Lib.hid (fun w => r01_Of R w hRl)
  clear hp hpp ha hb hm hR HS hsm hRl hxa hyb hx hy
  go_enter Tryz.func116, Tryz.ntmps116
  go_wp2_with (first | (go_at_call 10; (with_reducible refine (HSm.out _).mono ?_); rintro e w' ⟨rfl, rfl⟩) | (go_at_call 57; (with_reducible refine (HMa.out _).mono ?_); rintro e w1 ⟨rfl, hb1⟩) | (go_at_call 10; (with_reducible refine (HSa.out _).mono ?_); rintro e w' ⟨rfl, rfl⟩) | (go_at_call 57; (with_reducible refine (HMb.out _).mono ?_); rintro e w2 ⟨rfl, hb2⟩) | (go_at_call 10; (with_reducible refine (HSb.out _).mono ?_); rintro e w' ⟨rfl, rfl⟩) | (go_at_call 24; (with_reducible refine (HOF.out _).mono ?_); rintro e w3 ⟨rfl, hb3⟩))
  go_ret
  exact ⟨rfl, below2 (below2 hb1 hb2) hb3⟩
theorem r03_times_great2 (x y a b m : Nat) (w : World) (hxa : x % m = a) (hyb : y % m = b) (hx : x < lim) (hy : y < lim) (ha : a < m) (hb : b < m) (hm : m < 18446744073709551616) (hg : 2147483648 ≤ m) :
    Calls Tryz.prog 116 #[.string (B x), .string (B y), .string (B m)] w fun e w' => e = .returned (.string (B (a * b % m))) ∧ Below w.heap.size w w' := by
  have HMa := Lib.hid (fun w => hxa ▸ r03_Mod x m w hx (u64_lt_lim hm) (by omega))
  have HMb := Lib.hid (fun w => hyb ▸ r03_Mod y m w hy (u64_lt_lim hm) (by omega))
  have hsm : natSmall (B m) = (m, true) := by
    unfold natSmall
    rw [valid_B (u64_lt_lim hm), num_B]
    have : (B m).size ≤ 8 := B_size_le'.2 hm
    simp [this]
  have HSm : Hid (∀ w, Calls Tryz.prog 10 #[.string (B m)] w fun e w' => e = .returned (.tuple #[.int .u64 (m : Nat), .bool true]) ∧ w = w') := Lib.hid (fun w => by
    have := r01_Small (B m) w
    rwa [hsm] at this)
  have hp : a * b < lim := by
    have h1 : a * b ≤ 18446744073709551616 * 18446744073709551616 := Nat.mul_le_mul (by omega) (by omega)
    exact Nat.lt_of_le_of_lt h1 (by decide)
  have hmul : natMul (B a) (B b) = (B (a * b), 0) := by
    unfold natMul
    rw [valid_B (u64_lt_lim (by omega)), valid_B (u64_lt_lim (by omega)), num_B, num_B]
    unfold fitted
    simp [hp]
  have HMUL : Hid (∀ w, Calls Tryz.prog 142 #[.string (B a), .string (B b)] w fun e w' => e = .returned (.tuple #[.string (B (a * b)), .int .i64 0]) ∧ Below w.heap.size w w') := Lib.hid (fun w => by
    have := r01_Mul (B a) (B b) w
    rwa [hmul] at this)
  have HMp := Lib.hid (fun w => r03_Mod (a * b) m w hp (u64_lt_lim hm) (by omega))
  have k1 : decide ((m : Int) < 2147483648) = false := by simp; omega
  clear hmul hp hsm ha hb hm hg hxa hyb hx hy
  generalize a * b % m = R at *
  generalize a * b = p at *
  go_enter Tryz.func116, Tryz.ntmps116
  go_wp2_with (first | (go_at_call 10; (with_reducible refine (HSm.out _).mono ?_); rintro e w' ⟨rfl, rfl⟩) | (go_at_call 57; (with_reducible refine (HMa.out _).mono ?_); rintro e w1 ⟨rfl, hb1⟩) | (go_at_call 57; (with_reducible refine (HMb.out _).mono ?_); rintro e w2 ⟨rfl, hb2⟩) | (go_at_call 142; (with_reducible refine (HMUL.out _).mono ?_); rintro e w3 ⟨rfl, hb3⟩) | (go_at_call 57; (with_reducible refine (HMp.out _).mono ?_); rintro e w4 ⟨rfl, hb4⟩))
  go_ret
  exact ⟨rfl, below2 (below2 (below2 hb1 hb2) hb3) hb4⟩
theorem r03_times2 (x y m : Nat) (w : World) (hx : x < lim) (hy : y < lim) (h0 : 0 < m) (hm : m < 18446744073709551616) :
    Calls Tryz.prog 116 #[.string (B x), .string (B y), .string (B m)] w fun e w' => e = .returned (.string (B (x * y % m))) ∧ Below w.heap.size w w' := by
  rw [Nat.mul_mod]
  by_cases h : m < 2147483648
  · exact r03_times_small2 x y (x % m) (y % m) m w rfl rfl hx hy (Nat.mod_lt _ h0) (Nat.mod_lt _ h0) h
  · exact r03_times_great2 x y (x % m) (y % m) m w rfl rfl hx hy (Nat.mod_lt _ h0) (Nat.mod_lt _ h0) hm (by omega)
end Go.Proofs.YtapplggboepfaaaGreatDoor

namespace Go.Proofs.YtapplggboepfaaaGreatDoor
open Go.RowKit
set_option maxRecDepth 100000
set_option linter.unusedVariables false
set_option maxHeartbeats 1000000

theorem r02_Make (a : ByteArray) (w : World) :
    Calls Tryz.prog 160 #[.bool false, .string a] w fun e w' => e = .returned (.agg #[.bool false, .string a]) ∧ Below w.heap.size w w' := by
  go_enter Tryz.func160, Tryz.ntmps160
  go_wp2_with fail
  exact bodyPost_ret (v := .agg #[.bool false, .string a]) (by simp [results, Tryz.results160, go_sem]) rfl ⟨rfl, (Below.refl _ _).alloc (Nat.le_refl _) _⟩
theorem r02_Valid (n : Nat) (w : World) (hn : n < lim) :
    Calls Tryz.prog 149 #[.agg #[.bool false, .string (B n)]] w fun e w' => e = .returned (.bool true) ∧ Below w.heap.size w w' := by
  have hv := valid_B hn
  have F0 := Lib.hid (show Below w.heap.size w (w.alloc (.cells #[.bool false, .string (B n)] 101)) from (Below.refl _ _).alloc (Nat.le_refl _) _)
  clear hn
  go_enter Tryz.func149, Tryz.ntmps149
  go_wp2_with (go_at_call 32; refine (r01_Valid _ _).mono ?_; rintro e w' ⟨rfl, rfl⟩)
  go_ret
  exact ⟨rfl, F0.out⟩
theorem r02_From (n : Nat) (w : World) (hn : Hid (n < lim)) :
    Calls Tryz.prog 146 #[.string (B n)] w fun e w' => e = .returned (.agg #[.bool false, .string (B n)]) ∧ Below w.heap.size w w' := by
  have hv := valid_B hn.out
  go_enter Tryz.func146, Tryz.ntmps146
  go_wp2_with (first | (go_at_call 32; refine (r01_Valid _ _).mono ?_; rintro e w' ⟨rfl, rfl⟩) | (go_at_call 160; (with_reducible refine (r02_Make _ _).mono ?_); rintro e w2 ⟨rfl, hb2⟩; have hcw2 := (bcell hb2).1; have hfw2 := (bcell hb2).2; have hs2 := hb2.size; have hq3 : w.heap.size < w2.heap.size := by { simp at hs2; omega }))
  exact bodyPost_ret (v := .agg #[.bool false, .string (B n)]) (by simp [results, Tryz.results146, go_sem, hcw2]) rfl ⟨rfl, ((below2 ((Below.refl _ _).alloc (Nat.le_refl _) _) hb2).setCell (by simp) _).setCell (by simp) _⟩
/-- Order of two canonical numbers. -/
theorem r01_Order_valid (a b : ByteArray) (w : World) (ha : valid a = true) (hb : valid b = true) :
    Calls Tryz.prog 111 #[.string a, .string b] w fun e w' => e = .returned (.int .i64 (natCmp a b)) ∧ Below w.heap.size w w' := by
  have h := r01_Order (num a) (num b) w (by rw [B_num ha]; have := valid_size ha; omega) (by rw [B_num hb]; have := valid_size hb; omega)
  rw [B_num ha, B_num hb] at h
  unfold natCmp
  rw [ha, hb]
  exact h
end Go.Proofs.YtapplggboepfaaaGreatDoor
