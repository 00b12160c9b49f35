/- The walks of the reference: exponents (03), integers (02), elements of groups of prime order (09). Taken out of Sm1. -/
import Derived.Test.YtdajbcohmnmbpaaGreatDoorR8
import Derived.Test.YtdajbcohmnmbpaaGreatDoorBE
import Derived.Test.YtdajbcohmnmbpaaGreatDoorUU
import Derived.Test.YtdajbcohmnmbpaaGreatDoorBM
import Derived.Deep.RegionHeld3
namespace Go.Proofs.YtdajbcohmnmbpaaGreatDoor
open Go.RowKit
set_option maxRecDepth 100000
set_option linter.unusedVariables false
set_option maxHeartbeats 1000000

theorem r03_times_small2 (x y a b m : Nat) (w : World) (hxa : x % m = a) (hyb : y % m = b) (hx : x < lim) (hy : y < lim) (ha : a < m) (hb : b < m) (hm : m < 2147483648) :
    Calls Tryz.prog 230 #[.string (B x), .string (B y), .string (B m)] w fun e w' => e = .returned (.string (B (a * b % m))) ∧ Below w.heap.size w w' := by
  have hp : a * b < 18446744073709551616 := by
    have := Nat.mul_le_mul (show a ≤ 4294967295 by omega) (show b ≤ 4294967295 by omega)
    omega
  have HMa := Lib.hid (fun w => hxa ▸ r03_Mod x m w hx (u64_lt_lim (by omega)) (by omega))
  have HMb := Lib.hid (fun w => hyb ▸ r03_Mod y m w hy (u64_lt_lim (by omega)) (by omega))
  have hsm : ∀ (n : Nat), n < 2147483648 → natSmall (B n) = (n, true) := fun n hn => by
    unfold natSmall
    rw [valid_B (u64_lt_lim (by omega)), num_B]
    have : (B n).size ≤ 8 := B_size_le'.2 (by omega)
    simp [this]
  have HS : ∀ (n : Nat), n < 2147483648 → ∀ w, Calls Tryz.prog 52 #[.string (B n)] w fun e w' => e = .returned (.tuple #[.int .u64 (n : Nat), .bool true]) ∧ w = w' := fun n hn w => by
    have := r01_Small (B n) w
    rwa [hsm n hn] at this
  have HSm := Lib.hid (HS m hm)
  have HSa := Lib.hid (HS a (by omega))
  have HSb := Lib.hid (HS b (by omega))
  obtain ⟨p, hpp⟩ : ∃ p, a * b = p := ⟨_, rfl⟩
  have ep : ((a : Int) * (b : Int)) = (p : Int) := by rw [← hpp, Int.natCast_mul]
  have wp : IntKind.u64.wrap (p : Int) = (p : Int) := by rw [IntKind.wrap_u64]; omega
  rw [hpp]
  have hm0 : 0 < m := by omega
  have k1 : decide ((m : Int) < 2147483648) = true := by simp; omega
  obtain ⟨R, hR⟩ : ∃ R, p % m = R := ⟨_, rfl⟩
  have er : ((p : Int) % (m : Int)) = (R : Int) := by rw [← hR]; simp
  have er2 : ((p : Int).tmod (m : Int)) = (R : Int) := by rw [Int.tmod_eq_emod_of_nonneg (by omega)]; exact er
  have hRl : R < 18446744073709551616 := by rw [← hR]; have := Nat.mod_lt p hm0; omega
  rw [hR]
  have HOF := Lib.hid (fun w => r01_Of R w hRl)
  clear hp hpp ha hb hm hR HS hsm hRl hxa hyb hx hy
  go_enter Tryz.func230, Tryz.ntmps230
  go_wp2_with (first | (go_at_call 52; (with_reducible refine (HSm.out _).mono ?_); rintro e w' ⟨rfl, rfl⟩) | (go_at_call 250; (with_reducible refine (HMa.out _).mono ?_); rintro e w1 ⟨rfl, hb1⟩) | (go_at_call 52; (with_reducible refine (HSa.out _).mono ?_); rintro e w' ⟨rfl, rfl⟩) | (go_at_call 250; (with_reducible refine (HMb.out _).mono ?_); rintro e w2 ⟨rfl, hb2⟩) | (go_at_call 52; (with_reducible refine (HSb.out _).mono ?_); rintro e w' ⟨rfl, rfl⟩) | (go_at_call 54; (with_reducible refine (HOF.out _).mono ?_); rintro e w3 ⟨rfl, hb3⟩))
  go_ret
  exact ⟨rfl, below2 (below2 hb1 hb2) hb3⟩
theorem r03_times_great2 (x y a b m : Nat) (w : World) (hxa : x % m = a) (hyb : y % m = b) (hx : x < lim) (hy : y < lim) (ha : a < m) (hb : b < m) (hm : m < 18446744073709551616) (hg : 2147483648 ≤ m) :
    Calls Tryz.prog 230 #[.string (B x), .string (B y), .string (B m)] w fun e w' => e = .returned (.string (B (a * b % m))) ∧ Below w.heap.size w w' := by
  have HMa := Lib.hid (fun w => hxa ▸ r03_Mod x m w hx (u64_lt_lim hm) (by omega))
  have HMb := Lib.hid (fun w => hyb ▸ r03_Mod y m w hy (u64_lt_lim hm) (by omega))
  have hsm : natSmall (B m) = (m, true) := by
    unfold natSmall
    rw [valid_B (u64_lt_lim hm), num_B]
    have : (B m).size ≤ 8 := B_size_le'.2 hm
    simp [this]
  have HSm : Hid (∀ w, Calls Tryz.prog 52 #[.string (B m)] w fun e w' => e = .returned (.tuple #[.int .u64 (m : Nat), .bool true]) ∧ w = w') := Lib.hid (fun w => by
    have := r01_Small (B m) w
    rwa [hsm] at this)
  have hp : a * b < lim := by
    have h1 : a * b ≤ 18446744073709551616 * 18446744073709551616 := Nat.mul_le_mul (by omega) (by omega)
    exact Nat.lt_of_le_of_lt h1 (by decide)
  have hmul : natMul (B a) (B b) = (B (a * b), 0) := by
    unfold natMul
    rw [valid_B (u64_lt_lim (by omega)), valid_B (u64_lt_lim (by omega)), num_B, num_B]
    unfold fitted
    simp [hp]
  have HMUL : Hid (∀ w, Calls Tryz.prog 57 #[.string (B a), .string (B b)] w fun e w' => e = .returned (.tuple #[.string (B (a * b)), .int .i64 0]) ∧ Below w.heap.size w w') := Lib.hid (fun w => by
    have := r01_Mul (B a) (B b) w
    rwa [hmul] at this)
  have HMp := Lib.hid (fun w => r03_Mod (a * b) m w hp (u64_lt_lim hm) (by omega))
  have k1 : decide ((m : Int) < 2147483648) = false := by simp; omega
  clear hmul hp hsm ha hb hm hg hxa hyb hx hy
  generalize a * b % m = R at *
  generalize a * b = p at *
  go_enter Tryz.func230, Tryz.ntmps230
  go_wp2_with (first | (go_at_call 52; (with_reducible refine (HSm.out _).mono ?_); rintro e w' ⟨rfl, rfl⟩) | (go_at_call 250; (with_reducible refine (HMa.out _).mono ?_); rintro e w1 ⟨rfl, hb1⟩) | (go_at_call 250; (with_reducible refine (HMb.out _).mono ?_); rintro e w2 ⟨rfl, hb2⟩) | (go_at_call 57; (with_reducible refine (HMUL.out _).mono ?_); rintro e w3 ⟨rfl, hb3⟩) | (go_at_call 250; (with_reducible refine (HMp.out _).mono ?_); rintro e w4 ⟨rfl, hb4⟩))
  go_ret
  exact ⟨rfl, below2 (below2 (below2 hb1 hb2) hb3) hb4⟩
theorem r03_times2 (x y m : Nat) (w : World) (hx : x < lim) (hy : y < lim) (h0 : 0 < m) (hm : m < 18446744073709551616) :
    Calls Tryz.prog 230 #[.string (B x), .string (B y), .string (B m)] w fun e w' => e = .returned (.string (B (x * y % m))) ∧ Below w.heap.size w w' := by
  rw [Nat.mul_mod]
  by_cases h : m < 2147483648
  · exact r03_times_small2 x y (x % m) (y % m) m w rfl rfl hx hy (Nat.mod_lt _ h0) (Nat.mod_lt _ h0) h
  · exact r03_times_great2 x y (x % m) (y % m) m w rfl rfl hx hy (Nat.mod_lt _ h0) (Nat.mod_lt _ h0) hm (by omega)
theorem r01_Bits (s : ByteArray) (w : World) (hv : valid s = true) :
    Calls Tryz.prog 214 #[.string s] w fun e w' => e = .returned (.int .i64 (natBits s)) ∧ w = w' := by
  have HB := Lib.hid (fun w => r01_bits s w hv)
  have hva := fun w => r01_Valid s w
  rw [hv] at hva
  have HVA := Lib.hid hva
  clear hva hv
  go_enter Tryz.func214, Tryz.ntmps214
  go_wp2_with (first | (go_at_call 117; (with_reducible refine (HVA.out _).mono ?_); rintro e w' ⟨rfl, rfl⟩) | (go_at_call 209; (with_reducible refine (HB.out _).mono ?_); rintro e w' ⟨rfl, rfl⟩))
  go_ret
  exact ⟨rfl, rfl⟩
theorem r03_raise (a m : Nat) (s : ByteArray) (w : World) (ha : a < lim) (hm : m < 18446744073709551616) (h0 : 0 < m) (hv : valid s = true) :
    Calls Tryz.prog 252 #[.string (B a), .string s, .string (B m)] w fun e w' => e = .returned (.string (B (a ^ num s % m))) ∧ Below w.heap.size w w' := by
  have HMO := Lib.hid (fun w => r03_Mod 1 m w (u64_lt_lim (by decide)) (u64_lt_lim hm) h0)
  have HTT := Lib.hid (fun y w (hy : y < m) => r03_times2 y y m w (u64_lt_lim (Nat.lt_trans hy hm)) (u64_lt_lim (Nat.lt_trans hy hm)) h0 hm)
  have HTA := Lib.hid (fun y w (hy : y < m) => r03_times2 y a m w (u64_lt_lim (Nat.lt_trans hy hm)) ha h0 hm)
  have hpa := powL_all a m s hv
  have hpl := powL_lt (a % m) m h0
  have hnb := natBits_le hv
  obtain ⟨nb, hNB⟩ : ∃ nb, natBits s = nb := ⟨_, rfl⟩
  have hbits := fun w => r01_Bits s w hv
  rw [hNB] at hbits hnb
  have HBITS := Lib.hid hbits
  have HNB := Lib.hid hNB
  obtain ⟨R, hR⟩ : ∃ R, a ^ num s % m = R := ⟨_, rfl⟩
  rw [hR] at hpa ⊢
  have HPA := Lib.hid hpa
  have HPL := Lib.hid hpl
  have HAM := Lib.hid (fun y : Nat => show y * a % m = y * (a % m) % m by rw [Nat.mul_mod y a m, Nat.mul_mod y (a % m) m, Nat.mod_mod])
  have HMP := Lib.hid h0
  clear hpa hpl hbits hNB hR ha hm h0 hv
  go_enter Tryz.func252, Tryz.ntmps252
  go_wp2_with (first | (go_at_call 54; (with_reducible refine (r01_Of' 1 1 _ rfl (by decide)).mono ?_); rintro e w1 ⟨rfl, hb1⟩) | (go_at_call 250; (with_reducible refine (HMO.out _).mono ?_); rintro e w2 ⟨rfl, hb2⟩) | (go_at_call 214; (with_reducible refine (HBITS.out _).mono ?_); rintro e w' ⟨rfl, rfl⟩))
  have HBB := Lib.hid (below2 hb1 hb2)
  clear hb1 hb2
  go_loopw [7, 8] (fun v7 v8 wr => ∃ (k y : Nat) (z : Int), v7 = .string (B y) ∧ v8 = .int .i64 z ∧ z = (nb : Int) - 1 - k ∧ k ≤ nb ∧ y = powL (a % m) m ((bitsL s).take k) ∧ Below w.heap.size w wr) (fun _ v8 _ => (intOf v8 + 1).toNat)
  case atStart => exact ⟨0, 1 % m, (nb : Int) - 1, rfl, rfl, by omega, by omega, by rw [List.take_zero]; rfl, HBB.out⟩
  case round =>
    obtain ⟨k, y, z, rfl, rfl, hz, hk, hy, hbel⟩ := hrel
    have HZ := Lib.hid hz
    have HY := Lib.hid hy
    have HYM := Lib.hid (show y < m by rw [hy]; exact HPL.out _)
    have HBE := Lib.hid hbel
    clear hz hy hbel
    by_cases hlt : k < nb
    · have hz0 : 0 ≤ z := by have := HZ.out; omega
      have hz1 : z ≤ 2000 := by have := HZ.out; omega
      obtain ⟨i, hi⟩ : ∃ i : Nat, nb - 1 - k = i := ⟨_, rfl⟩
      have HI := Lib.hid (show z = (i : Int) by have := HZ.out; omega)
      have HI2 := Lib.hid (show i ≤ 100000 by omega)
      have hst := bitsL_take_succ s k (by rw [HNB.out]; exact hlt)
      rw [HNB.out, hi] at hst
      have hsn := powL_snoc (a % m) m ((bitsL s).take k) (natBit s i)
      rw [← hst, ← HY.out] at hsn
      have HSN := Lib.hid hsn
      have HLT := Lib.hid hlt
      obtain ⟨Q, hQ⟩ : ∃ Q, y * y % m = Q := ⟨_, rfl⟩
      have HQM := Lib.hid (show Q < m by rw [← hQ]; exact Nat.mod_lt _ HMP.out)
      have HT1 := Lib.hid (fun w => hQ ▸ HTT.out y w HYM.out)
      have HT2 := Lib.hid (fun w => HTA.out Q w HQM.out)
      have HQQ := Lib.hid hQ
      obtain ⟨S, hS⟩ : ∃ S, Q * a % m = S := ⟨_, rfl⟩
      rw [hS] at HT2
      have HSS := Lib.hid hS
      clear hst hsn hi hlt hQ hS
      cases hbit : natBit s i
      · have HB := Lib.hid hbit
        clear hbit
        go_wp2_with (first | (go_at_call 230; (with_reducible refine (HT1.out _).mono ?_); rintro e w5 ⟨rfl, hb5⟩) | (go_at_call 157; (with_reducible refine (r01_Bit s _ i _ HI.out HI2.out).mono ?_); rw [HB.out]; rintro e w' ⟨rfl, rfl⟩))
        go_roundw
        case rel => exact ⟨k + 1, Q, z - 1, rfl, rfl, by have := HZ.out; omega, by have := HLT.out; omega, by rw [HSN.out, HB.out, ← HQQ.out]; rfl, below2 HBE.out hb5⟩
        case measure => simp only [intOf]; omega
      · have HB := Lib.hid hbit
        clear hbit
        go_wp2_with (first | (go_at_call 230; (with_reducible refine (HT1.out _).mono ?_); rintro e w5 ⟨rfl, hb5⟩) | (go_at_call 157; (with_reducible refine (r01_Bit s _ i _ HI.out HI2.out).mono ?_); rw [HB.out]; rintro e w' ⟨rfl, rfl⟩) | (go_at_call 230; (with_reducible refine (HT2.out _).mono ?_); rintro e w6 ⟨rfl, hb6⟩))
        go_roundw
        case rel => exact ⟨k + 1, S, z - 1, rfl, rfl, by have := HZ.out; omega, by have := HLT.out; omega, by rw [HSN.out, HB.out, ← HSS.out, HAM.out, ← HQQ.out]; rfl, below2 (below2 HBE.out hb5) hb6⟩
        case measure => simp only [intOf]; omega
    · have hz0 : z = -1 := by have := HZ.out; omega
      subst hz0
      go_wp2_with fail
      go_ret
      have hk' : (bitsL s).take k = bitsL s := by rw [List.take_of_length_le]; rw [bitsL_length, HNB.out]; have := HZ.out; omega
      exact ⟨ret_string (by rw [HY.out, hk', HPA.out]), HBE.out⟩
theorem r03_Exp (a m : Nat) (s : ByteArray) (w : World) (ha : a < lim) (hm : m < 18446744073709551616) (h0 : 0 < m) (hv : valid s = true) :
    Calls Tryz.prog 235 #[.string (B a), .string s, .string (B m)] w fun e w' => e = .returned (.tuple #[.string (B (a ^ num s % m)), .int .i64 0]) ∧ Below w.heap.size w w' := by
  have hrow := SRow.new w 28 [B a, s, B m]
  have HCK := Lib.hid (r03_check [B a, s, B m] 3 w.heap.size (w.alloc (.cells #[.string (B a), .string s, .string (B m)] 28)) rfl (by decide) (by decide) hrow
    (fun j hj => by
      rcases j with _ | _ | _ | j
      · exact valid_B ha
      · exact hv
      · exact valid_B (u64_lt_lim hm)
      · omega)
    (B_isEmpty_false (by omega)))
  have HR := Lib.hid (fun w => r03_raise a m s w ha hm h0 hv)
  clear hrow ha hm h0 hv
  generalize a ^ num s % m = R at *
  go_enter Tryz.func235, Tryz.ntmps235
  go_wp2_with (first | (go_at_call 229; (with_reducible refine HCK.out.mono ?_); rintro e w' ⟨rfl, rfl⟩) | (go_at_call 252; (with_reducible refine (HR.out _).mono ?_); rintro e w1 ⟨rfl, hb1⟩))
  go_ret2
  exact ⟨rfl, below_box' hb1⟩

end Go.Proofs.YtdajbcohmnmbpaaGreatDoor

namespace Go.Proofs.YtdajbcohmnmbpaaGreatDoor
open Go.RowKit
set_option maxRecDepth 100000
set_option linter.unusedVariables false
set_option maxHeartbeats 1000000

theorem r02_Make (a : ByteArray) (w : World) :
    Calls Tryz.prog 192 #[.bool false, .string a] w fun e w' => e = .returned (.agg #[.bool false, .string a]) ∧ Below w.heap.size w w' := by
  go_enter Tryz.func192, Tryz.ntmps192
  go_wp2_with fail
  exact bodyPost_ret (v := .agg #[.bool false, .string a]) (by simp [results, Tryz.results192, go_sem]) rfl ⟨rfl, (Below.refl _ _).alloc (Nat.le_refl _) _⟩
theorem r02_Valid (n : Nat) (w : World) (hn : n < lim) :
    Calls Tryz.prog 193 #[.agg #[.bool false, .string (B n)]] w fun e w' => e = .returned (.bool true) ∧ Below w.heap.size w w' := by
  have hv := valid_B hn
  have F0 := Lib.hid (show Below w.heap.size w (w.alloc (.cells #[.bool false, .string (B n)] 98)) from (Below.refl _ _).alloc (Nat.le_refl _) _)
  clear hn
  go_enter Tryz.func193, Tryz.ntmps193
  go_wp2_with (go_at_call 117; refine (r01_Valid _ _).mono ?_; rintro e w' ⟨rfl, rfl⟩)
  go_ret
  exact ⟨rfl, F0.out⟩
theorem r02_From (n : Nat) (w : World) (hn : Hid (n < lim)) :
    Calls Tryz.prog 141 #[.string (B n)] w fun e w' => e = .returned (.agg #[.bool false, .string (B n)]) ∧ Below w.heap.size w w' := by
  have hv := valid_B hn.out
  go_enter Tryz.func141, Tryz.ntmps141
  go_wp2_with (first | (go_at_call 117; refine (r01_Valid _ _).mono ?_; rintro e w' ⟨rfl, rfl⟩) | (go_at_call 192; (with_reducible refine (r02_Make _ _).mono ?_); rintro e w2 ⟨rfl, hb2⟩; have hcw2 := (bcell hb2).1; have hfw2 := (bcell hb2).2; have hs2 := hb2.size; have hq3 : w.heap.size < w2.heap.size := by { simp at hs2; omega }))
  exact bodyPost_ret (v := .agg #[.bool false, .string (B n)]) (by simp [results, Tryz.results141, go_sem, hcw2]) rfl ⟨rfl, ((below2 ((Below.refl _ _).alloc (Nat.le_refl _) _) hb2).setCell (by simp) _).setCell (by simp) _⟩
theorem r09_form (m o : ByteArray) (w : World) :
    Calls Tryz.prog 206 #[.agg #[.string m, .string o]] w fun e w' => e = .returned (.bool (valid m && valid o)) ∧ Below w.heap.size w w' := by
  have HS := Lib.hid (GrAt.box w m o 30)
  cases h1 : valid m <;> cases h2 : valid o
  all_goals
    go_enter Tryz.func206, Tryz.ntmps206
    go_wp2_with (first | (go_at_call 117; refine (r01_Valid _ _).mono ?_; rintro e w' ⟨rfl, rfl⟩))
    go_ret
    exact ⟨rfl, HS.out.below⟩
/-- Order of two canonical numbers. -/
theorem r01_Order_valid (a b : ByteArray) (w : World) (ha : valid a = true) (hb : valid b = true) :
    Calls Tryz.prog 170 #[.string a, .string b] w fun e w' => e = .returned (.int .i64 (natCmp a b)) ∧ Below w.heap.size w w' := by
  have h := r01_Order (num a) (num b) w (by rw [B_num ha]; have := valid_size ha; omega) (by rw [B_num hb]; have := valid_size hb; omega)
  rw [B_num ha, B_num hb] at h
  unfold natCmp
  rw [ha, hb]
  exact h
theorem r09_Has (m o x : ByteArray) (w : World) (sm : m.size ≤ 8) :
    Calls Tryz.prog 208 #[.agg #[.string m, .string o], .string x] w fun e w' => e = .returned (.bool (pgHas m o x)) ∧ Below w.heap.size w w' := by
  have hr : pgHas m o x = (valid m && (valid o && (valid x && (!o.toList.isEmpty && (!x.toList.isEmpty && (decide (natCmp x m < 0) && decide (num x ^ num o % num m = 1 % num m))))))) := rfl
  have HR := Lib.hid hr
  have HS := Lib.hid (GrAt.box w m o 30)
  have hfo := fun w => r09_form m o w
  clear hr
  cases h1 : (valid m && valid o)
  · rw [h1] at hfo
    have HFO := Lib.hid hfo
    have HF : Hid (pgHas m o x = false) := Lib.hid (by rw [HR.out, ← Bool.and_assoc, h1]; rfl)
    clear hfo h1
    go_enter Tryz.func208, Tryz.ntmps208
    go_wp2_with (first | (go_at_call 206; (with_reducible refine (HFO.out _).mono ?_); rintro e w1 ⟨rfl, hb1⟩; have n1 := HS.out.next hb1; have p1 := n1.c0; have q1 := n1.c1; have H1 := Lib.hid n1; clear n1 hb1))
    go_ret
    exact ⟨ret_bool HF.out.symm, H1.out.below⟩
  · rw [h1] at hfo
    have HFO := Lib.hid hfo
    have h1' := h1
    rw [Bool.and_eq_true] at h1'
    obtain ⟨vm, vo⟩ := h1'
    have HVM := Lib.hid vm
    have HVO := Lib.hid vo
    have HR2 : Hid (pgHas m o x = (valid x && (!o.toList.isEmpty && (!x.toList.isEmpty && (decide (natCmp x m < 0) && decide (num x ^ num o % num m = 1 % num m)))))) := Lib.hid (by rw [HR.out, vm, vo]; rfl)
    clear hfo h1 vm vo HR
    cases h2 : valid x
    · go_enter Tryz.func208, Tryz.ntmps208
      go_wp2_with (first | (go_at_call 206; (with_reducible refine (HFO.out _).mono ?_); rintro e w1 ⟨rfl, hb1⟩; have n1 := HS.out.next hb1; have p1 := n1.c0; have q1 := n1.c1; have H1 := Lib.hid n1; clear n1 hb1) | (go_at_call 117; refine (r01_Valid _ _).mono ?_; rintro e w' ⟨rfl, rfl⟩))
      go_ret
      exact ⟨ret_bool (by rw [HR2.out, h2]; rfl), H1.out.below⟩
    · cases h3 : o.toList.isEmpty
      · cases h4 : x.toList.isEmpty
        · obtain ⟨cv, hcv⟩ : ∃ cv, natCmp x m = cv := ⟨_, rfl⟩
          have hcm := fun w => r01_Order_valid x m w h2 HVM.out
          have hcn := fun h => natCmp_neg h2 HVM.out h
          rw [hcv] at hcm HR2 hcn
          have HCMP := Lib.hid hcm
          have H8 := u64_of_size sm
          clear hcm hcv
          by_cases h5 : cv < 0
          · have hlt := hcn h5
            have k1 : decide (0 ≤ cv) = false := decide_eq_false (by omega)
            have h0 : 0 < num m := by omega
            have hx0 : num x ≠ 0 := by
              intro h0
              rw [← B_num h2, h0, B_isEmpty_true] at h4
              cases h4
            have e1 := fun w => r03_Exp (num x) (num m) o w (u64_lt_lim (by omega)) H8 h0 HVO.out
            rw [B_num h2, B_num HVM.out] at e1
            have HE1 := Lib.hid e1
            have kb := B_beq1 (num x ^ num o % num m)
            have HR3 : Hid (pgHas m o x = decide (num x ^ num o % num m = 1)) := Lib.hid (by rw [HR2.out, h2, h3, h4, decide_eq_true h5, Nat.mod_eq_of_lt (show 1 < num m by omega)]; rfl)
            generalize num x ^ num o % num m = P at *
            clear e1 hcn hlt h0 H8 h5 hx0
            go_enter Tryz.func208, Tryz.ntmps208
            go_wp2_with (first | (go_at_call 206; (with_reducible refine (HFO.out _).mono ?_); rintro e w1 ⟨rfl, hb1⟩; have n1 := HS.out.next hb1; have p1 := n1.c0; have q1 := n1.c1; have H1 := Lib.hid n1; clear n1 hb1) | (go_at_call 117; refine (r01_Valid _ _).mono ?_; rintro e w' ⟨rfl, rfl⟩) | (go_at_call 170; (with_reducible refine (HCMP.out _).mono ?_); rintro e w2 ⟨rfl, hb2⟩; have n2 := H1.out.next hb2; have p2 := n2.c0; have q2 := n2.c1; have H2 := Lib.hid n2; clear n2 hb2) | (go_at_call 235; (with_reducible refine (HE1.out _).mono ?_); rintro e w3 ⟨rfl, hb3⟩; have n3 := H2.out.next hb3; have H3 := Lib.hid n3; clear n3 hb3))
            go_ret
            exact ⟨ret_bool HR3.out.symm, H3.out.below⟩
          · have k1 : decide (0 ≤ cv) = true := decide_eq_true (by omega)
            have HF : Hid (pgHas m o x = false) := Lib.hid (by rw [HR2.out, h2, h3, h4, decide_eq_false h5]; rfl)
            clear h5 hcn
            go_enter Tryz.func208, Tryz.ntmps208
            go_wp2_with (first | (go_at_call 206; (with_reducible refine (HFO.out _).mono ?_); rintro e w1 ⟨rfl, hb1⟩; have n1 := HS.out.next hb1; have p1 := n1.c0; have q1 := n1.c1; have H1 := Lib.hid n1; clear n1 hb1) | (go_at_call 117; refine (r01_Valid _ _).mono ?_; rintro e w' ⟨rfl, rfl⟩) | (go_at_call 170; (with_reducible refine (HCMP.out _).mono ?_); rintro e w2 ⟨rfl, hb2⟩; have n2 := H1.out.next hb2; have p2 := n2.c0; have q2 := n2.c1; have H2 := Lib.hid n2; clear n2 hb2))
            go_ret
            exact ⟨ret_bool HF.out.symm, H2.out.below⟩
        · go_enter Tryz.func208, Tryz.ntmps208
          go_wp2_with (first | (go_at_call 206; (with_reducible refine (HFO.out _).mono ?_); rintro e w1 ⟨rfl, hb1⟩; have n1 := HS.out.next hb1; have p1 := n1.c0; have q1 := n1.c1; have H1 := Lib.hid n1; clear n1 hb1) | (go_at_call 117; refine (r01_Valid _ _).mono ?_; rintro e w' ⟨rfl, rfl⟩))
          go_ret
          exact ⟨ret_bool (by rw [HR2.out, h2, h3, h4]; rfl), H1.out.below⟩
      · go_enter Tryz.func208, Tryz.ntmps208
        go_wp2_with (first | (go_at_call 206; (with_reducible refine (HFO.out _).mono ?_); rintro e w1 ⟨rfl, hb1⟩; have n1 := HS.out.next hb1; have p1 := n1.c0; have q1 := n1.c1; have H1 := Lib.hid n1; clear n1 hb1) | (go_at_call 117; refine (r01_Valid _ _).mono ?_; rintro e w' ⟨rfl, rfl⟩))
        go_ret
        exact ⟨ret_bool (by rw [HR2.out, h2, h3]; rfl), H1.out.below⟩

end Go.Proofs.YtdajbcohmnmbpaaGreatDoor
