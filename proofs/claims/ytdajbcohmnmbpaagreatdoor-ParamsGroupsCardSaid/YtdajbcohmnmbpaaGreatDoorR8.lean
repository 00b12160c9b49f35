/- The walks of the reference of layer 3 (modular): Mod, check, times, Mul; the division of layer 1 in general. -/
import Derived.Test.YtdajbcohmnmbpaaGreatDoorRA
import Derived.Test.YtdajbcohmnmbpaaGreatDoorBM
namespace Go.Proofs.YtdajbcohmnmbpaaGreatDoor
open Go.RowKit
set_option maxRecDepth 100000
set_option linter.unusedVariables false
set_option maxHeartbeats 400000

theorem r01_Over (x y : Nat) (w : World) (hx : x < lim) (hy : y < lim) (h0 : 0 < y) :
    Calls Tryz.prog 167 #[.string (B x), .string (B y)] w fun e w' => e = .returned (.tuple #[.string (B (x / y)), .string (B (x % y))]) ∧ Below w.heap.size w w' := by
  by_cases h8 : (B x).size ≤ 8 ∧ (B y).size ≤ 8
  · exact r01_Over8 x y w (B_size_le'.1 h8.1) (B_size_le'.1 h8.2) h0
  · exact r01_Over_long x y w hx hy h0 h8
theorem r01_DivMod (x y : Nat) (w : World) (hx : x < lim) (hy : y < lim) (h0 : 0 < y) :
    Calls Tryz.prog 90 #[.string (B x), .string (B y)] w fun e w' => e = .returned (.tuple #[.string (B (x / y)), .string (B (x % y)), .int .i64 0]) ∧ Below w.heap.size w w' := by
  have va := valid_B hx
  have vb := valid_B hy
  have he := B_isEmpty_false (n := y) (by omega)
  have HC := Lib.hid (fun w => r01_Over x y w hx hy h0)
  clear hx hy
  go_enter Tryz.func90, Tryz.ntmps90
  go_wp2_with (first | (go_at_call 117; refine (r01_Valid _ _).mono ?_; rintro e w' ⟨rfl, rfl⟩) | (go_at_call 167; refine (HC.out _).mono ?_; rintro e w' ⟨rfl, hb1⟩))
  go_ret3
  exact ⟨rfl, hb1⟩
theorem r03_Mod (x y : Nat) (w : World) (hx : x < lim) (hy : y < lim) (h0 : 0 < y) :
    Calls Tryz.prog 250 #[.string (B x), .string (B y)] w fun e w' => e = .returned (.string (B (x % y))) ∧ Below w.heap.size w w' := by
  have HC := Lib.hid (fun w => r01_DivMod x y w hx hy h0)
  clear hx hy
  go_enter Tryz.func250, Tryz.ntmps250
  go_wp2_with (first | (go_at_call 90; refine (HC.out _).mono ?_; rintro e w' ⟨rfl, hb1⟩))
  go_ret
  exact ⟨rfl, hb1⟩
theorem r03_Mod_small (x y : Nat) (w : World) (h : x < y) (hy : y < 18446744073709551616) :
    Calls Tryz.prog 250 #[.string (B x), .string (B y)] w fun e w' => e = .returned (.string (B x)) ∧ Below w.heap.size w w' := by
  have := r03_Mod x y w (u64_lt_lim (by omega)) (u64_lt_lim hy) (by omega)
  rwa [Nat.mod_eq_of_lt h] at this
theorem r03_check (ls : List ByteArray) (n g : Nat) (w : World) (hn : ls.length = n) (h0 : 0 < n) (hm : n ≤ 1000) (hrow : SRow w g ls) (hv : ∀ j, j < n → valid (ls.getD j ByteArray.empty) = true) (hl : (ls.getD (n - 1) ByteArray.empty).toList.isEmpty = false) :
    Calls Tryz.prog 229 #[.slice (some ⟨g, 0, none⟩) n n] w fun e w' => e = .returned (.int .i64 0) ∧ w = w' := by
  have HN := Lib.hid hn
  have HR := Lib.hid hrow
  have HV := Lib.hid hv
  have HL := Lib.hid hl
  clear hn hrow hv hl
  go_enter Tryz.func229, Tryz.ntmps229
  go_wp2
  go_loop [3] (fun c => ∃ k : Nat, k ≤ n ∧ c = .int .i64 k) (fun c => n - (intOf c).toNat)
  case atStart => exact ⟨0, by omega, rfl⟩
  case round =>
    obtain ⟨k, hk, rfl⟩ := hrel
    by_cases hlt : k < n
    · have hc := HR.out k (by have := HN.out; omega)
      have hvk := HV.out k hlt
      obtain ⟨s, hs⟩ : ∃ s, ls.getD k ByteArray.empty = s := ⟨_, rfl⟩
      rw [hs] at hc hvk
      clear hs
      go_wp2_with (first | (go_at_call 117; refine (r01_Valid _ _).mono ?_; rintro e w' ⟨rfl, rfl⟩))
      go_round
      case rel => exact ⟨k + 1, by omega, by go_num⟩
      case measure => simp [intOf]; omega
    · obtain rfl : k = n := by omega
      have hc := HR.out (k - 1) (by have := HN.out; omega)
      have hle := HL.out
      obtain ⟨s, hs⟩ : ∃ s, ls.getD (k - 1) ByteArray.empty = s := ⟨_, rfl⟩
      rw [hs] at hc hle
      clear hs
      obtain ⟨i, rfl⟩ : ∃ i, k = i + 1 := ⟨k - 1, by omega⟩
      have ei : IntKind.i64.wrap (((i + 1 : Nat) : Int) - 1) = (i : Int) := by rw [IntKind.wrap_i64]; omega
      have ei2 : (((i + 1 : Nat) : Int) - 1) = (i : Int) := by omega
      have ei3 : ((i : Int) + 1 - 1) = (i : Int) := by omega
      rw [Nat.add_sub_cancel] at hc
      go_wp2
      go_ret
      exact ⟨rfl, rfl⟩
theorem r03_times_small (a b m : Nat) (w : World) (ha : a < m) (hb : b < m) (hm : m < 2147483648) :
    Calls Tryz.prog 230 #[.string (B a), .string (B b), .string (B m)] w fun e w' => e = .returned (.string (B (a * b % m))) ∧ Below w.heap.size w w' := by
  have hp : a * b < 18446744073709551616 := by
    have := Nat.mul_le_mul (show a ≤ 4294967295 by omega) (show b ≤ 4294967295 by omega)
    omega
  have HMa := Lib.hid (fun w => r03_Mod_small a m w ha (by omega))
  have HMb := Lib.hid (fun w => r03_Mod_small b m w hb (by omega))
  have hsm : ∀ (n : Nat), n < 2147483648 → natSmall (B n) = (n, true) := fun n hn => by
    unfold natSmall
    rw [valid_B (u64_lt_lim (by omega)), num_B]
    have : (B n).size ≤ 8 := B_size_le'.2 (by omega)
    simp [this]
  have HS : ∀ (n : Nat), n < 2147483648 → ∀ w, Calls Tryz.prog 52 #[.string (B n)] w fun e w' => e = .returned (.tuple #[.int .u64 (n : Nat), .bool true]) ∧ w = w' := fun n hn w => by
    have := r01_Small (B n) w
    rwa [hsm n hn] at this
  have HSm := Lib.hid (HS m hm)
  have HSa := Lib.hid (HS a (by omega))
  have HSb := Lib.hid (HS b (by omega))
  obtain ⟨p, hpp⟩ : ∃ p, a * b = p := ⟨_, rfl⟩
  have ep : ((a : Int) * (b : Int)) = (p : Int) := by rw [← hpp, Int.natCast_mul]
  have wp : IntKind.u64.wrap (p : Int) = (p : Int) := by rw [IntKind.wrap_u64]; omega
  rw [hpp]
  have hm0 : 0 < m := by omega
  have k1 : decide ((m : Int) < 2147483648) = true := by simp; omega
  obtain ⟨R, hR⟩ : ∃ R, p % m = R := ⟨_, rfl⟩
  have er : ((p : Int) % (m : Int)) = (R : Int) := by rw [← hR]; simp
  have er2 : ((p : Int).tmod (m : Int)) = (R : Int) := by rw [Int.tmod_eq_emod_of_nonneg (by omega)]; exact er
  have hRl : R < 18446744073709551616 := by rw [← hR]; have := Nat.mod_lt p hm0; omega
  rw [hR]
  have HOF := Lib.hid (fun w => r01_Of R w hRl)
  clear hp hpp ha hb hm hR HS hsm hRl
  go_enter Tryz.func230, Tryz.ntmps230
  go_wp2_with (first | (go_at_call 52; (with_reducible refine (HSm.out _).mono ?_); rintro e w' ⟨rfl, rfl⟩) | (go_at_call 250; (with_reducible refine (HMa.out _).mono ?_); rintro e w1 ⟨rfl, hb1⟩) | (go_at_call 52; (with_reducible refine (HSa.out _).mono ?_); rintro e w' ⟨rfl, rfl⟩) | (go_at_call 250; (with_reducible refine (HMb.out _).mono ?_); rintro e w2 ⟨rfl, hb2⟩) | (go_at_call 52; (with_reducible refine (HSb.out _).mono ?_); rintro e w' ⟨rfl, rfl⟩) | (go_at_call 54; (with_reducible refine (HOF.out _).mono ?_); rintro e w3 ⟨rfl, hb3⟩))
  go_ret
  exact ⟨rfl, below2 (below2 hb1 hb2) hb3⟩
theorem r03_times_great (a b m : Nat) (w : World) (ha : a < m) (hb : b < m) (hm : m < 18446744073709551616) (hg : 2147483648 ≤ m) :
    Calls Tryz.prog 230 #[.string (B a), .string (B b), .string (B m)] w fun e w' => e = .returned (.string (B (a * b % m))) ∧ Below w.heap.size w w' := by
  have HMa := Lib.hid (fun w => r03_Mod_small a m w ha hm)
  have HMb := Lib.hid (fun w => r03_Mod_small b m w hb hm)
  have hsm : natSmall (B m) = (m, true) := by
    unfold natSmall
    rw [valid_B (u64_lt_lim hm), num_B]
    have : (B m).size ≤ 8 := B_size_le'.2 hm
    simp [this]
  have HSm : Hid (∀ w, Calls Tryz.prog 52 #[.string (B m)] w fun e w' => e = .returned (.tuple #[.int .u64 (m : Nat), .bool true]) ∧ w = w') := Lib.hid (fun w => by
    have := r01_Small (B m) w
    rwa [hsm] at this)
  have hp : a * b < lim := by
    have h1 : a * b ≤ 18446744073709551616 * 18446744073709551616 := Nat.mul_le_mul (by omega) (by omega)
    exact Nat.lt_of_le_of_lt h1 (by decide)
  have hmul : natMul (B a) (B b) = (B (a * b), 0) := by
    unfold natMul
    rw [valid_B (u64_lt_lim (by omega)), valid_B (u64_lt_lim (by omega)), num_B, num_B]
    unfold fitted
    simp [hp]
  have HMUL : Hid (∀ w, Calls Tryz.prog 57 #[.string (B a), .string (B b)] w fun e w' => e = .returned (.tuple #[.string (B (a * b)), .int .i64 0]) ∧ Below w.heap.size w w') := Lib.hid (fun w => by
    have := r01_Mul (B a) (B b) w
    rwa [hmul] at this)
  have HMp := Lib.hid (fun w => r03_Mod (a * b) m w hp (u64_lt_lim hm) (by omega))
  have k1 : decide ((m : Int) < 2147483648) = false := by simp; omega
  clear hmul hp hsm ha hb hm hg
  generalize a * b % m = R at *
  generalize a * b = p at *
  go_enter Tryz.func230, Tryz.ntmps230
  go_wp2_with (first | (go_at_call 52; (with_reducible refine (HSm.out _).mono ?_); rintro e w' ⟨rfl, rfl⟩) | (go_at_call 250; (with_reducible refine (HMa.out _).mono ?_); rintro e w1 ⟨rfl, hb1⟩) | (go_at_call 250; (with_reducible refine (HMb.out _).mono ?_); rintro e w2 ⟨rfl, hb2⟩) | (go_at_call 57; (with_reducible refine (HMUL.out _).mono ?_); rintro e w3 ⟨rfl, hb3⟩) | (go_at_call 250; (with_reducible refine (HMp.out _).mono ?_); rintro e w4 ⟨rfl, hb4⟩))
  go_ret
  exact ⟨rfl, below2 (below2 (below2 hb1 hb2) hb3) hb4⟩
theorem r03_times (a b m : Nat) (w : World) (ha : a < m) (hb : b < m) (hm : m < 18446744073709551616) :
    Calls Tryz.prog 230 #[.string (B a), .string (B b), .string (B m)] w fun e w' => e = .returned (.string (B (a * b % m))) ∧ Below w.heap.size w w' := by
  by_cases h : m < 2147483648
  · exact r03_times_small a b m w ha hb h
  · exact r03_times_great a b m w ha hb hm (by omega)
theorem r03_Mul (a b m : Nat) (w : World) (ha : a < m) (hb : b < m) (hm : m < 18446744073709551616) :
    Calls Tryz.prog 194 #[.string (B a), .string (B b), .string (B m)] w fun e w' => e = .returned (.tuple #[.string (B (a * b % m)), .int .i64 0]) ∧ Below w.heap.size w w' := by
  have HT := Lib.hid (fun w => r03_times a b m w ha hb hm)
  have hrow : SRow (w.alloc (.cells #[.string (B a), .string (B b), .string (B m)] 28)) w.heap.size [B a, B b, B m] := SRow.new w 28 [B a, B b, B m]
  have HCK := Lib.hid (r03_check [B a, B b, B m] 3 w.heap.size _ rfl (by decide) (by decide) hrow (fun j hj => by
    match j, hj with
    | 0, _ => exact valid_B (u64_lt_lim (by omega))
    | 1, _ => exact valid_B (u64_lt_lim (by omega))
    | 2, _ => exact valid_B (u64_lt_lim hm)) (B_isEmpty_false (n := m) (by omega)))
  clear hrow ha hb hm
  generalize a * b % m = R at *
  go_enter Tryz.func194, Tryz.ntmps194
  go_wp2_with (first | (go_at_call 229; refine HCK.out.mono ?_; rintro e w' ⟨rfl, rfl⟩) | (go_at_call 230; (with_reducible refine (HT.out _).mono ?_); rintro e w2 ⟨rfl, hb2⟩))
  go_ret2
  exact ⟨rfl, below2 ((Below.refl _ _).alloc (Nat.le_refl _) _) hb2⟩

end Go.Proofs.YtdajbcohmnmbpaaGreatDoor
