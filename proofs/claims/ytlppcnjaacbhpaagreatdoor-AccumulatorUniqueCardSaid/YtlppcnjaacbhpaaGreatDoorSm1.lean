/- The reference of layer 3: products and powers of any numbers. The reference of layers 2, 3, 9, 13: integers, powers, groups of both kinds. The reference of layer 13: groups of both kinds, powers. The reference of layer 13: elements and powers. -/
import Derived.Test.YtlppcnjaacbhpaaGreatDoorR8
import Derived.Test.YtlppcnjaacbhpaaGreatDoorE1
import Derived.Test.YtlppcnjaacbhpaaGreatDoorU4
import Derived.Deep.RegionHeld3
namespace Go.Proofs.YtlppcnjaacbhpaaGreatDoor
open Go.RowKit
set_option maxRecDepth 100000
set_option linter.unusedVariables false
set_option maxHeartbeats 1000000

theorem r03_times_small2 (x y a b m : Nat) (w : World) (hxa : x % m = a) (hyb : y % m = b) (hx : x < lim) (hy : y < lim) (ha : a < m) (hb : b < m) (hm : m < 2147483648) :
    Calls Tryz.prog 120 #[.string (B x), .string (B y), .string (B m)] w fun e w' => e = .returned (.string (B (a * b % m))) ∧ Below w.heap.size w w' := by
  have hp : a * b < 18446744073709551616 := by
    have := Nat.mul_le_mul (show a ≤ 4294967295 by omega) (show b ≤ 4294967295 by omega)
    omega
  have HMa := Lib.hid (fun w => hxa ▸ r03_Mod x m w hx (u64_lt_lim (by omega)) (by omega))
  have HMb := Lib.hid (fun w => hyb ▸ r03_Mod y m w hy (u64_lt_lim (by omega)) (by omega))
  have hsm : ∀ (n : Nat), n < 2147483648 → natSmall (B n) = (n, true) := fun n hn => by
    unfold natSmall
    rw [valid_B (u64_lt_lim (by omega)), num_B]
    have : (B n).size ≤ 8 := B_size_le'.2 (by omega)
    simp [this]
  have HS : ∀ (n : Nat), n < 2147483648 → ∀ w, Calls Tryz.prog 14 #[.string (B n)] w fun e w' => e = .returned (.tuple #[.int .u64 (n : Nat), .bool true]) ∧ w = w' := fun n hn w => by
    have := r01_Small (B n) w
    rwa [hsm n hn] at this
  have HSm := Lib.hid (HS m hm)
  have HSa := Lib.hid (HS a (by omega))
  have HSb := Lib.hid (HS b (by omega))
  obtain ⟨p, hpp⟩ : ∃ p, a * b = p := ⟨_, rfl⟩
  have ep : ((a : Int) * (b : Int)) = (p : Int) := by rw [← hpp, Int.natCast_mul]
  have wp : IntKind.u64.wrap (p : Int) = (p : Int) := by rw [IntKind.wrap_u64]; omega
  rw [hpp]
  have hm0 : 0 < m := by omega
  have k1 : decide ((m : Int) < 2147483648) = true := by simp; omega
  obtain ⟨R, hR⟩ : ∃ R, p % m = R := ⟨_, rfl⟩
  have er : ((p : Int) % (m : Int)) = (R : Int) := by rw [← hR]; simp
  have er2 : ((p : Int).tmod (m : Int)) = (R : Int) := by rw [Int.tmod_eq_emod_of_nonneg (by omega)]; exact er
  have hRl : R < 18446744073709551616 := by rw [← hR]; have := Nat.mod_lt p hm0; omega
  rw [hR]
  have HOF := Lib.hid (fun w => r01_Of R w hRl)
  clear hp hpp ha hb hm hR HS hsm hRl hxa hyb hx hy
  go_enter Tryz.func120, Tryz.ntmps120
  go_wp2_with (first | (go_at_call 14; (with_reducible refine (HSm.out _).mono ?_); rintro e w' ⟨rfl, rfl⟩) | (go_at_call 118; (with_reducible refine (HMa.out _).mono ?_); rintro e w1 ⟨rfl, hb1⟩) | (go_at_call 14; (with_reducible refine (HSa.out _).mono ?_); rintro e w' ⟨rfl, rfl⟩) | (go_at_call 118; (with_reducible refine (HMb.out _).mono ?_); rintro e w2 ⟨rfl, hb2⟩) | (go_at_call 14; (with_reducible refine (HSb.out _).mono ?_); rintro e w' ⟨rfl, rfl⟩) | (go_at_call 39; (with_reducible refine (HOF.out _).mono ?_); rintro e w3 ⟨rfl, hb3⟩))
  go_ret
  exact ⟨rfl, below2 (below2 hb1 hb2) hb3⟩
theorem r03_times_great2 (x y a b m : Nat) (w : World) (hxa : x % m = a) (hyb : y % m = b) (hx : x < lim) (hy : y < lim) (ha : a < m) (hb : b < m) (hm : m < 18446744073709551616) (hg : 2147483648 ≤ m) :
    Calls Tryz.prog 120 #[.string (B x), .string (B y), .string (B m)] w fun e w' => e = .returned (.string (B (a * b % m))) ∧ Below w.heap.size w w' := by
  have HMa := Lib.hid (fun w => hxa ▸ r03_Mod x m w hx (u64_lt_lim hm) (by omega))
  have HMb := Lib.hid (fun w => hyb ▸ r03_Mod y m w hy (u64_lt_lim hm) (by omega))
  have hsm : natSmall (B m) = (m, true) := by
    unfold natSmall
    rw [valid_B (u64_lt_lim hm), num_B]
    have : (B m).size ≤ 8 := B_size_le'.2 hm
    simp [this]
  have HSm : Hid (∀ w, Calls Tryz.prog 14 #[.string (B m)] w fun e w' => e = .returned (.tuple #[.int .u64 (m : Nat), .bool true]) ∧ w = w') := Lib.hid (fun w => by
    have := r01_Small (B m) w
    rwa [hsm] at this)
  have hp : a * b < lim := by
    have h1 : a * b ≤ 18446744073709551616 * 18446744073709551616 := Nat.mul_le_mul (by omega) (by omega)
    exact Nat.lt_of_le_of_lt h1 (by decide)
  have hmul : natMul (B a) (B b) = (B (a * b), 0) := by
    unfold natMul
    rw [valid_B (u64_lt_lim (by omega)), valid_B (u64_lt_lim (by omega)), num_B, num_B]
    unfold fitted
    simp [hp]
  have HMUL : Hid (∀ w, Calls Tryz.prog 36 #[.string (B a), .string (B b)] w fun e w' => e = .returned (.tuple #[.string (B (a * b)), .int .i64 0]) ∧ Below w.heap.size w w') := Lib.hid (fun w => by
    have := r01_Mul (B a) (B b) w
    rwa [hmul] at this)
  have HMp := Lib.hid (fun w => r03_Mod (a * b) m w hp (u64_lt_lim hm) (by omega))
  have k1 : decide ((m : Int) < 2147483648) = false := by simp; omega
  clear hmul hp hsm ha hb hm hg hxa hyb hx hy
  generalize a * b % m = R at *
  generalize a * b = p at *
  go_enter Tryz.func120, Tryz.ntmps120
  go_wp2_with (first | (go_at_call 14; (with_reducible refine (HSm.out _).mono ?_); rintro e w' ⟨rfl, rfl⟩) | (go_at_call 118; (with_reducible refine (HMa.out _).mono ?_); rintro e w1 ⟨rfl, hb1⟩) | (go_at_call 118; (with_reducible refine (HMb.out _).mono ?_); rintro e w2 ⟨rfl, hb2⟩) | (go_at_call 36; (with_reducible refine (HMUL.out _).mono ?_); rintro e w3 ⟨rfl, hb3⟩) | (go_at_call 118; (with_reducible refine (HMp.out _).mono ?_); rintro e w4 ⟨rfl, hb4⟩))
  go_ret
  exact ⟨rfl, below2 (below2 (below2 hb1 hb2) hb3) hb4⟩
theorem r03_times2 (x y m : Nat) (w : World) (hx : x < lim) (hy : y < lim) (h0 : 0 < m) (hm : m < 18446744073709551616) :
    Calls Tryz.prog 120 #[.string (B x), .string (B y), .string (B m)] w fun e w' => e = .returned (.string (B (x * y % m))) ∧ Below w.heap.size w w' := by
  rw [Nat.mul_mod]
  by_cases h : m < 2147483648
  · exact r03_times_small2 x y (x % m) (y % m) m w rfl rfl hx hy (Nat.mod_lt _ h0) (Nat.mod_lt _ h0) h
  · exact r03_times_great2 x y (x % m) (y % m) m w rfl rfl hx hy (Nat.mod_lt _ h0) (Nat.mod_lt _ h0) hm (by omega)
theorem r01_Bits (s : ByteArray) (w : World) (hv : valid s = true) :
    Calls Tryz.prog 119 #[.string s] w fun e w' => e = .returned (.int .i64 (natBits s)) ∧ w = w' := by
  have HB := Lib.hid (fun w => r01_bits s w hv)
  have hva := fun w => r01_Valid s w
  rw [hv] at hva
  have HVA := Lib.hid hva
  clear hva hv
  go_enter Tryz.func119, Tryz.ntmps119
  go_wp2_with (first | (go_at_call 31; (with_reducible refine (HVA.out _).mono ?_); rintro e w' ⟨rfl, rfl⟩) | (go_at_call 91; (with_reducible refine (HB.out _).mono ?_); rintro e w' ⟨rfl, rfl⟩))
  go_ret
  exact ⟨rfl, rfl⟩
theorem r03_raise (a m : Nat) (s : ByteArray) (w : World) (ha : a < lim) (hm : m < 18446744073709551616) (h0 : 0 < m) (hv : valid s = true) :
    Calls Tryz.prog 86 #[.string (B a), .string s, .string (B m)] w fun e w' => e = .returned (.string (B (a ^ num s % m))) ∧ Below w.heap.size w w' := by
  have HMO := Lib.hid (fun w => r03_Mod 1 m w (u64_lt_lim (by decide)) (u64_lt_lim hm) h0)
  have HTT := Lib.hid (fun y w (hy : y < m) => r03_times2 y y m w (u64_lt_lim (Nat.lt_trans hy hm)) (u64_lt_lim (Nat.lt_trans hy hm)) h0 hm)
  have HTA := Lib.hid (fun y w (hy : y < m) => r03_times2 y a m w (u64_lt_lim (Nat.lt_trans hy hm)) ha h0 hm)
  have hpa := powL_all a m s hv
  have hpl := powL_lt (a % m) m h0
  have hnb := natBits_le hv
  obtain ⟨nb, hNB⟩ : ∃ nb, natBits s = nb := ⟨_, rfl⟩
  have hbits := fun w => r01_Bits s w hv
  rw [hNB] at hbits hnb
  have HBITS := Lib.hid hbits
  have HNB := Lib.hid hNB
  obtain ⟨R, hR⟩ : ∃ R, a ^ num s % m = R := ⟨_, rfl⟩
  rw [hR] at hpa ⊢
  have HPA := Lib.hid hpa
  have HPL := Lib.hid hpl
  have HAM := Lib.hid (fun y : Nat => show y * a % m = y * (a % m) % m by rw [Nat.mul_mod y a m, Nat.mul_mod y (a % m) m, Nat.mod_mod])
  have HMP := Lib.hid h0
  clear hpa hpl hbits hNB hR ha hm h0 hv
  go_enter Tryz.func86, Tryz.ntmps86
  go_wp2_with (first | (go_at_call 39; (with_reducible refine (r01_Of' 1 1 _ rfl (by decide)).mono ?_); rintro e w1 ⟨rfl, hb1⟩) | (go_at_call 118; (with_reducible refine (HMO.out _).mono ?_); rintro e w2 ⟨rfl, hb2⟩) | (go_at_call 119; (with_reducible refine (HBITS.out _).mono ?_); rintro e w' ⟨rfl, rfl⟩))
  have HBB := Lib.hid (below2 hb1 hb2)
  clear hb1 hb2
  go_loopw [7, 8] (fun v7 v8 wr => ∃ (k y : Nat) (z : Int), v7 = .string (B y) ∧ v8 = .int .i64 z ∧ z = (nb : Int) - 1 - k ∧ k ≤ nb ∧ y = powL (a % m) m ((bitsL s).take k) ∧ Below w.heap.size w wr) (fun _ v8 _ => (intOf v8 + 1).toNat)
  case atStart => exact ⟨0, 1 % m, (nb : Int) - 1, rfl, rfl, by omega, by omega, by rw [List.take_zero]; rfl, HBB.out⟩
  case round =>
    obtain ⟨k, y, z, rfl, rfl, hz, hk, hy, hbel⟩ := hrel
    have HZ := Lib.hid hz
    have HY := Lib.hid hy
    have HYM := Lib.hid (show y < m by rw [hy]; exact HPL.out _)
    have HBE := Lib.hid hbel
    clear hz hy hbel
    by_cases hlt : k < nb
    · have hz0 : 0 ≤ z := by have := HZ.out; omega
      have hz1 : z ≤ 2000 := by have := HZ.out; omega
      obtain ⟨i, hi⟩ : ∃ i : Nat, nb - 1 - k = i := ⟨_, rfl⟩
      have HI := Lib.hid (show z = (i : Int) by have := HZ.out; omega)
      have HI2 := Lib.hid (show i ≤ 100000 by omega)
      have hst := bitsL_take_succ s k (by rw [HNB.out]; exact hlt)
      rw [HNB.out, hi] at hst
      have hsn := powL_snoc (a % m) m ((bitsL s).take k) (natBit s i)
      rw [← hst, ← HY.out] at hsn
      have HSN := Lib.hid hsn
      have HLT := Lib.hid hlt
      obtain ⟨Q, hQ⟩ : ∃ Q, y * y % m = Q := ⟨_, rfl⟩
      have HQM := Lib.hid (show Q < m by rw [← hQ]; exact Nat.mod_lt _ HMP.out)
      have HT1 := Lib.hid (fun w => hQ ▸ HTT.out y w HYM.out)
      have HT2 := Lib.hid (fun w => HTA.out Q w HQM.out)
      have HQQ := Lib.hid hQ
      obtain ⟨S, hS⟩ : ∃ S, Q * a % m = S := ⟨_, rfl⟩
      rw [hS] at HT2
      have HSS := Lib.hid hS
      clear hst hsn hi hlt hQ hS
      cases hbit : natBit s i
      · have HB := Lib.hid hbit
        clear hbit
        go_wp2_with (first | (go_at_call 120; (with_reducible refine (HT1.out _).mono ?_); rintro e w5 ⟨rfl, hb5⟩) | (go_at_call 117; (with_reducible refine (r01_Bit s _ i _ HI.out HI2.out).mono ?_); rw [HB.out]; rintro e w' ⟨rfl, rfl⟩))
        go_roundw
        case rel => exact ⟨k + 1, Q, z - 1, rfl, rfl, by have := HZ.out; omega, by have := HLT.out; omega, by rw [HSN.out, HB.out, ← HQQ.out]; rfl, below2 HBE.out hb5⟩
        case measure => simp only [intOf]; omega
      · have HB := Lib.hid hbit
        clear hbit
        go_wp2_with (first | (go_at_call 120; (with_reducible refine (HT1.out _).mono ?_); rintro e w5 ⟨rfl, hb5⟩) | (go_at_call 117; (with_reducible refine (r01_Bit s _ i _ HI.out HI2.out).mono ?_); rw [HB.out]; rintro e w' ⟨rfl, rfl⟩) | (go_at_call 120; (with_reducible refine (HT2.out _).mono ?_); rintro e w6 ⟨rfl, hb6⟩))
        go_roundw
        case rel => exact ⟨k + 1, S, z - 1, rfl, rfl, by have := HZ.out; omega, by have := HLT.out; omega, by rw [HSN.out, HB.out, ← HSS.out, HAM.out, ← HQQ.out]; rfl, below2 (below2 HBE.out hb5) hb6⟩
        case measure => simp only [intOf]; omega
    · have hz0 : z = -1 := by have := HZ.out; omega
      subst hz0
      go_wp2_with fail
      go_ret
      have hk' : (bitsL s).take k = bitsL s := by rw [List.take_of_length_le]; rw [bitsL_length, HNB.out]; have := HZ.out; omega
      exact ⟨ret_string (by rw [HY.out, hk', HPA.out]), HBE.out⟩
theorem r03_Exp (a m : Nat) (s : ByteArray) (w : World) (ha : a < lim) (hm : m < 18446744073709551616) (h0 : 0 < m) (hv : valid s = true) :
    Calls Tryz.prog 53 #[.string (B a), .string s, .string (B m)] w fun e w' => e = .returned (.tuple #[.string (B (a ^ num s % m)), .int .i64 0]) ∧ Below w.heap.size w w' := by
  have hrow := SRow.new w 22 [B a, s, B m]
  have HCK := Lib.hid (r03_check [B a, s, B m] 3 w.heap.size (w.alloc (.cells #[.string (B a), .string s, .string (B m)] 22)) rfl (by decide) (by decide) hrow
    (fun j hj => by
      rcases j with _ | _ | _ | j
      · exact valid_B ha
      · exact hv
      · exact valid_B (u64_lt_lim hm)
      · omega)
    (B_isEmpty_false (by omega)))
  have HR := Lib.hid (fun w => r03_raise a m s w ha hm h0 hv)
  clear hrow ha hm h0 hv
  generalize a ^ num s % m = R at *
  go_enter Tryz.func53, Tryz.ntmps53
  go_wp2_with (first | (go_at_call 85; (with_reducible refine HCK.out.mono ?_); rintro e w' ⟨rfl, rfl⟩) | (go_at_call 86; (with_reducible refine (HR.out _).mono ?_); rintro e w1 ⟨rfl, hb1⟩))
  go_ret2
  exact ⟨rfl, below_box' hb1⟩

end Go.Proofs.YtlppcnjaacbhpaaGreatDoor

namespace Go.Proofs.YtlppcnjaacbhpaaGreatDoor
open Go.RowKit
set_option maxRecDepth 100000
set_option linter.unusedVariables false
set_option maxHeartbeats 1000000

theorem r02_Make (a : ByteArray) (w : World) :
    Calls Tryz.prog 81 #[.bool false, .string a] w fun e w' => e = .returned (.agg #[.bool false, .string a]) ∧ Below w.heap.size w w' := by
  go_enter Tryz.func81, Tryz.ntmps81
  go_wp2_with fail
  exact bodyPost_ret (v := .agg #[.bool false, .string a]) (by simp [results, Tryz.results81, go_sem]) rfl ⟨rfl, (Below.refl _ _).alloc (Nat.le_refl _) _⟩
theorem r02_Valid (n : Nat) (w : World) (hn : n < lim) :
    Calls Tryz.prog 79 #[.agg #[.bool false, .string (B n)]] w fun e w' => e = .returned (.bool true) ∧ Below w.heap.size w w' := by
  have hv := valid_B hn
  have F0 := Lib.hid (show Below w.heap.size w (w.alloc (.cells #[.bool false, .string (B n)] 89)) from (Below.refl _ _).alloc (Nat.le_refl _) _)
  clear hn
  go_enter Tryz.func79, Tryz.ntmps79
  go_wp2_with (go_at_call 31; refine (r01_Valid _ _).mono ?_; rintro e w' ⟨rfl, rfl⟩)
  go_ret
  exact ⟨rfl, F0.out⟩
theorem r02_From (n : Nat) (w : World) (hn : Hid (n < lim)) :
    Calls Tryz.prog 50 #[.string (B n)] w fun e w' => e = .returned (.agg #[.bool false, .string (B n)]) ∧ Below w.heap.size w w' := by
  have hv := valid_B hn.out
  go_enter Tryz.func50, Tryz.ntmps50
  go_wp2_with (first | (go_at_call 31; refine (r01_Valid _ _).mono ?_; rintro e w' ⟨rfl, rfl⟩) | (go_at_call 81; (with_reducible refine (r02_Make _ _).mono ?_); rintro e w2 ⟨rfl, hb2⟩; have hcw2 := (bcell hb2).1; have hfw2 := (bcell hb2).2; have hs2 := hb2.size; have hq3 : w.heap.size < w2.heap.size := by { simp at hs2; omega }))
  exact bodyPost_ret (v := .agg #[.bool false, .string (B n)]) (by simp [results, Tryz.results50, go_sem, hcw2]) rfl ⟨rfl, ((below2 ((Below.refl _ _).alloc (Nat.le_refl _) _) hb2).setCell (by simp) _).setCell (by simp) _⟩
theorem r09_form (m o : ByteArray) (w : World) :
    Calls Tryz.prog 143 #[.agg #[.string m, .string o]] w fun e w' => e = .returned (.bool (valid m && valid o)) ∧ Below w.heap.size w w' := by
  have HS := Lib.hid (GrAt.box w m o 24)
  cases h1 : valid m <;> cases h2 : valid o
  all_goals
    go_enter Tryz.func143, Tryz.ntmps143
    go_wp2_with (first | (go_at_call 31; refine (r01_Valid _ _).mono ?_; rintro e w' ⟨rfl, rfl⟩))
    go_ret
    exact ⟨rfl, HS.out.below⟩
/-- Order of two canonical numbers. -/
theorem r01_Order_valid (a b : ByteArray) (w : World) (ha : valid a = true) (hb : valid b = true) :
    Calls Tryz.prog 76 #[.string a, .string b] w fun e w' => e = .returned (.int .i64 (natCmp a b)) ∧ Below w.heap.size w w' := by
  have h := r01_Order (num a) (num b) w (by rw [B_num ha]; have := valid_size ha; omega) (by rw [B_num hb]; have := valid_size hb; omega)
  rw [B_num ha, B_num hb] at h
  unfold natCmp
  rw [ha, hb]
  exact h
theorem r09_Has (m o x : ByteArray) (w : World) (sm : m.size ≤ 8) :
    Calls Tryz.prog 115 #[.agg #[.string m, .string o], .string x] w fun e w' => e = .returned (.bool (pgHas m o x)) ∧ Below w.heap.size w w' := by
  have hr : pgHas m o x = (valid m && (valid o && (valid x && (!o.toList.isEmpty && (!x.toList.isEmpty && (decide (natCmp x m < 0) && decide (num x ^ num o % num m = 1 % num m))))))) := rfl
  have HR := Lib.hid hr
  have HS := Lib.hid (GrAt.box w m o 24)
  have hfo := fun w => r09_form m o w
  clear hr
  cases h1 : (valid m && valid o)
  · rw [h1] at hfo
    have HFO := Lib.hid hfo
    have HF : Hid (pgHas m o x = false) := Lib.hid (by rw [HR.out, ← Bool.and_assoc, h1]; rfl)
    clear hfo h1
    go_enter Tryz.func115, Tryz.ntmps115
    go_wp2_with (first | (go_at_call 143; (with_reducible refine (HFO.out _).mono ?_); rintro e w1 ⟨rfl, hb1⟩; have n1 := HS.out.next hb1; have p1 := n1.c0; have q1 := n1.c1; have H1 := Lib.hid n1; clear n1 hb1))
    go_ret
    exact ⟨ret_bool HF.out.symm, H1.out.below⟩
  · rw [h1] at hfo
    have HFO := Lib.hid hfo
    have h1' := h1
    rw [Bool.and_eq_true] at h1'
    obtain ⟨vm, vo⟩ := h1'
    have HVM := Lib.hid vm
    have HVO := Lib.hid vo
    have HR2 : Hid (pgHas m o x = (valid x && (!o.toList.isEmpty && (!x.toList.isEmpty && (decide (natCmp x m < 0) && decide (num x ^ num o % num m = 1 % num m)))))) := Lib.hid (by rw [HR.out, vm, vo]; rfl)
    clear hfo h1 vm vo HR
    cases h2 : valid x
    · go_enter Tryz.func115, Tryz.ntmps115
      go_wp2_with (first | (go_at_call 143; (with_reducible refine (HFO.out _).mono ?_); rintro e w1 ⟨rfl, hb1⟩; have n1 := HS.out.next hb1; have p1 := n1.c0; have q1 := n1.c1; have H1 := Lib.hid n1; clear n1 hb1) | (go_at_call 31; refine (r01_Valid _ _).mono ?_; rintro e w' ⟨rfl, rfl⟩))
      go_ret
      exact ⟨ret_bool (by rw [HR2.out, h2]; rfl), H1.out.below⟩
    · cases h3 : o.toList.isEmpty
      · cases h4 : x.toList.isEmpty
        · obtain ⟨cv, hcv⟩ : ∃ cv, natCmp x m = cv := ⟨_, rfl⟩
          have hcm := fun w => r01_Order_valid x m w h2 HVM.out
          have hcn := fun h => natCmp_neg h2 HVM.out h
          rw [hcv] at hcm HR2 hcn
          have HCMP := Lib.hid hcm
          have H8 := u64_of_size sm
          clear hcm hcv
          by_cases h5 : cv < 0
          · have hlt := hcn h5
            have k1 : decide (0 ≤ cv) = false := decide_eq_false (by omega)
            have h0 : 0 < num m := by omega
            have hx0 : num x ≠ 0 := by
              intro h0
              rw [← B_num h2, h0, B_isEmpty_true] at h4
              cases h4
            have e1 := fun w => r03_Exp (num x) (num m) o w (u64_lt_lim (by omega)) H8 h0 HVO.out
            rw [B_num h2, B_num HVM.out] at e1
            have HE1 := Lib.hid e1
            have kb := B_beq1 (num x ^ num o % num m)
            have HR3 : Hid (pgHas m o x = decide (num x ^ num o % num m = 1)) := Lib.hid (by rw [HR2.out, h2, h3, h4, decide_eq_true h5, Nat.mod_eq_of_lt (show 1 < num m by omega)]; rfl)
            generalize num x ^ num o % num m = P at *
            clear e1 hcn hlt h0 H8 h5 hx0
            go_enter Tryz.func115, Tryz.ntmps115
            go_wp2_with (first | (go_at_call 143; (with_reducible refine (HFO.out _).mono ?_); rintro e w1 ⟨rfl, hb1⟩; have n1 := HS.out.next hb1; have p1 := n1.c0; have q1 := n1.c1; have H1 := Lib.hid n1; clear n1 hb1) | (go_at_call 31; refine (r01_Valid _ _).mono ?_; rintro e w' ⟨rfl, rfl⟩) | (go_at_call 76; (with_reducible refine (HCMP.out _).mono ?_); rintro e w2 ⟨rfl, hb2⟩; have n2 := H1.out.next hb2; have p2 := n2.c0; have q2 := n2.c1; have H2 := Lib.hid n2; clear n2 hb2) | (go_at_call 53; (with_reducible refine (HE1.out _).mono ?_); rintro e w3 ⟨rfl, hb3⟩; have n3 := H2.out.next hb3; have H3 := Lib.hid n3; clear n3 hb3))
            go_ret
            exact ⟨ret_bool HR3.out.symm, H3.out.below⟩
          · have k1 : decide (0 ≤ cv) = true := decide_eq_true (by omega)
            have HF : Hid (pgHas m o x = false) := Lib.hid (by rw [HR2.out, h2, h3, h4, decide_eq_false h5]; rfl)
            clear h5 hcn
            go_enter Tryz.func115, Tryz.ntmps115
            go_wp2_with (first | (go_at_call 143; (with_reducible refine (HFO.out _).mono ?_); rintro e w1 ⟨rfl, hb1⟩; have n1 := HS.out.next hb1; have p1 := n1.c0; have q1 := n1.c1; have H1 := Lib.hid n1; clear n1 hb1) | (go_at_call 31; refine (r01_Valid _ _).mono ?_; rintro e w' ⟨rfl, rfl⟩) | (go_at_call 76; (with_reducible refine (HCMP.out _).mono ?_); rintro e w2 ⟨rfl, hb2⟩; have n2 := H1.out.next hb2; have p2 := n2.c0; have q2 := n2.c1; have H2 := Lib.hid n2; clear n2 hb2))
            go_ret
            exact ⟨ret_bool HF.out.symm, H2.out.below⟩
        · go_enter Tryz.func115, Tryz.ntmps115
          go_wp2_with (first | (go_at_call 143; (with_reducible refine (HFO.out _).mono ?_); rintro e w1 ⟨rfl, hb1⟩; have n1 := HS.out.next hb1; have p1 := n1.c0; have q1 := n1.c1; have H1 := Lib.hid n1; clear n1 hb1) | (go_at_call 31; refine (r01_Valid _ _).mono ?_; rintro e w' ⟨rfl, rfl⟩))
          go_ret
          exact ⟨ret_bool (by rw [HR2.out, h2, h3, h4]; rfl), H1.out.below⟩
      · go_enter Tryz.func115, Tryz.ntmps115
        go_wp2_with (first | (go_at_call 143; (with_reducible refine (HFO.out _).mono ?_); rintro e w1 ⟨rfl, hb1⟩; have n1 := HS.out.next hb1; have p1 := n1.c0; have q1 := n1.c1; have H1 := Lib.hid n1; clear n1 hb1) | (go_at_call 31; refine (r01_Valid _ _).mono ?_; rintro e w' ⟨rfl, rfl⟩))
        go_ret
        exact ⟨ret_bool (by rw [HR2.out, h2, h3]; rfl), H1.out.below⟩

end Go.Proofs.YtlppcnjaacbhpaaGreatDoor

namespace Go.Proofs.YtlppcnjaacbhpaaGreatDoor
open Go.RowKit
set_option maxRecDepth 100000
set_option linter.unusedVariables false
set_option maxHeartbeats 1000000

theorem r13_Check (m o : ByteArray) (w : World) (sm : m.size ≤ 8) :
    Calls Tryz.prog 47 #[.agg #[.string m, .string o]] w fun e w' => e = .returned (.int .i64 (groupE m o)) ∧ Below w.heap.size w w' := by
  have hr : groupE m o = if (valid m && valid o) = true then
    if o.toList.isEmpty = true then (if (natBit m 0 && decide (0 < natCmp m (B 8))) = true then 0 else 13)
    else if num m ≤ 1 then 13 else if num o < 2 then 13 else if (num m - 1) % num o = 0 then 0 else 13
  else 3 := rfl
  have HR := Lib.hid hr
  have HS := Lib.hid (GrAt.box w m o 24)
  have c0 := HS.out.c0
  have c1 := HS.out.c1
  clear hr
  cases h1 : valid m
  · go_enter Tryz.func47, Tryz.ntmps47
    go_wp2_with (first | (go_at_call 31; refine (r01_Valid _ _).mono ?_; rintro e w' ⟨rfl, rfl⟩))
    go_ret
    exact ⟨ret_int (by rw [HR.out, h1] <;> rfl), HS.out.below⟩
  · cases h2 : valid o
    · go_enter Tryz.func47, Tryz.ntmps47
      go_wp2_with (first | (go_at_call 31; refine (r01_Valid _ _).mono ?_; rintro e w' ⟨rfl, rfl⟩))
      go_ret
      exact ⟨ret_int (by rw [HR.out, h1, h2] <;> rfl), HS.out.below⟩
    · have em := B_num h1
      have h8 := u64_of_size sm
      obtain ⟨M, hM⟩ : ∃ M, num m = M := ⟨_, rfl⟩
      rw [hM] at em h8 HR
      subst em
      cases h3 : o.toList.isEmpty
      · have hO : num o ≠ 0 := by
          intro h0
          rw [← B_num h2, h0, B_isEmpty_true] at h3
          cases h3
        have e0 := B_isEmpty M
        have e1 := B_beq1 M
        have e2 := B_beq1 (num o)
        rw [B_num h2] at e2
        have h1' := h1
        rw [h1, h2] at HR
        by_cases hM0 : M = 0
        · have HF : Hid (groupE (B M) o = 13) := Lib.hid (by rw [HR.out, if_pos (by rfl), h3, if_neg (by simp), if_pos (by omega)])
          rw [decide_eq_true hM0] at e0
          clear hM0 hO e1 e2
          go_enter Tryz.func47, Tryz.ntmps47
          go_wp2_with (first | (go_at_call 31; refine (r01_Valid _ _).mono ?_; rintro e w' ⟨rfl, rfl⟩))
          go_ret
          exact ⟨ret_int HF.out.symm, HS.out.below⟩
        · rw [decide_eq_false hM0] at e0
          by_cases hM1 : M = 1
          · have HF : Hid (groupE (B M) o = 13) := Lib.hid (by rw [HR.out, if_pos (by rfl), h3, if_neg (by simp), if_pos (by omega)])
            rw [decide_eq_true hM1] at e1
            clear hM0 hM1 hO e2
            go_enter Tryz.func47, Tryz.ntmps47
            go_wp2_with (first | (go_at_call 31; refine (r01_Valid _ _).mono ?_; rintro e w' ⟨rfl, rfl⟩))
            go_ret
            exact ⟨ret_int HF.out.symm, HS.out.below⟩
          · rw [decide_eq_false hM1] at e1
            by_cases hO1 : num o = 1
            · have HF : Hid (groupE (B M) o = 13) := Lib.hid (by rw [HR.out, if_pos (by rfl), h3, if_neg (by simp), if_neg (by omega), if_pos (by omega)])
              rw [decide_eq_true hO1] at e2
              clear hM0 hM1 hO hO1
              go_enter Tryz.func47, Tryz.ntmps47
              go_wp2_with (first | (go_at_call 31; refine (r01_Valid _ _).mono ?_; rintro e w' ⟨rfl, rfl⟩))
              go_ret
              exact ⟨ret_int HF.out.symm, HS.out.below⟩
            · rw [decide_eq_false hO1] at e2
              have HR2 : Hid (groupE (B M) o = if (M - 1) % num o = 0 then 0 else 13) := Lib.hid (by rw [HR.out, if_pos (by rfl), h3, if_neg (by simp), if_neg (by omega), if_neg (by omega)])
              have hmi : ∀ w, Calls Tryz.prog 77 #[.string (B M), .string ⟨#[1]⟩] w fun e w' => e = .returned (.string (B (M - 1))) ∧ Below w.heap.size w w' := fun w => r01_Minus M 1 w (by omega) (by decide) (by omega)
              have hov := fun w => r01_Over (M - 1) (num o) w (u64_lt_lim (by omega)) (valid_num_lt h2) (by omega)
              rw [B_num h2] at hov
              have HMI := Lib.hid hmi
              obtain ⟨R, hR⟩ : ∃ R, (M - 1) % num o = R := ⟨_, rfl⟩
              rw [hR] at hov HR2
              have HOV := Lib.hid hov
              have er := B_isEmpty R
              clear hmi hov hM0 hM1 hO hO1 hR HR
              generalize M - 1 = L at *
              by_cases hR0 : R = 0
              all_goals
                first | rw [decide_eq_true hR0] at er | rw [decide_eq_false hR0] at er
                have HR0 := Lib.hid hR0
                clear hR0
                go_enter Tryz.func47, Tryz.ntmps47
                go_wp2_with (first | (go_at_call 31; refine (r01_Valid _ _).mono ?_; rintro e w' ⟨rfl, rfl⟩))
                go_region_held3 (fun w' => w'.cell? ⟨w.heap.size, 0, none⟩ = some (.string (B M)) ∧ w'.cell? ⟨w.heap.size, 1, none⟩ = some (.string o)) (first | go_keep) (first | (go_at_call 77; (with_reducible refine (HMI.out _).mono ?_); rintro e w1 ⟨rfl, hb1⟩; have n1 : GrAt w w.heap.size (B M) o w1 := by { first | exact HS.out.next hb1 | exact HS.out.drew.next hb1 }; have p1 := n1.c0; have q1 := n1.c1; have H1 := Lib.hid n1; clear n1 hb1) | (go_at_call 58; (with_reducible refine (HOV.out _).mono ?_); rintro e w2 ⟨rfl, hb2⟩; have n2 : GrAt w w.heap.size (B M) o w2 := by { first | exact H1.out.next hb2 | exact H1.out.drew.next hb2 }; have p2 := n2.c0; have q2 := n2.c1; have H2 := Lib.hid n2; clear n2 hb2))
                all_goals
                  go_wp2_with fail
                  go_ret
                  exact ⟨ret_int (by rw [HR2.out]; first | exact (if_pos HR0.out).symm | exact (if_neg HR0.out).symm), H2.out.below⟩
      · rw [h1, h2, if_pos (by rfl), h3, if_pos (by rfl)] at HR
        by_cases hM0 : M = 0
        · subst hM0
          have e0 := B_isEmpty_true
          have HF : Hid (groupE (B 0) o = 13) := Lib.hid (by rw [HR.out]; rfl)
          go_enter Tryz.func47, Tryz.ntmps47
          go_wp2_with (first | (go_at_call 31; refine (r01_Valid _ _).mono ?_; rintro e w' ⟨rfl, rfl⟩))
          go_ret
          exact ⟨ret_int HF.out.symm, HS.out.below⟩
        · have he := B_isEmpty_false hM0
          have hp : 0 < (B M).size := by
            rcases Nat.eq_zero_or_pos (B M).size with h1 | h1
            · exfalso
              rw [B_size] at h1
              exact hM0 (enc_eq_nil (List.eq_nil_of_length_eq_zero h1))
            · exact h1
          have hd := low_digit M hM0 hp
          have hbit : natBit (B M) 0 = decide (M % 2 = 1) := by
            unfold natBit
            rw [h1, num_B, Nat.pow_zero, Nat.div_one]
            rfl
          rw [hbit] at HR
          by_cases hpar : M % 2 = 1
          · have k0 : ((((B M)[(B M).size - 1]'(by omega)).toNat : Nat) : Int) % 2 = 1 := by omega
            rw [decide_eq_true hpar, Bool.true_and] at HR
            obtain ⟨cv, hcv⟩ : ∃ cv, natCmp (B M) (B 8) = cv := ⟨_, rfl⟩
            have hor : ∀ w, Calls Tryz.prog 76 #[.string (B M), .string ⟨#[8]⟩] w fun e w' => e = .returned (.int .i64 (natCmp (B M) (B 8))) ∧ Below w.heap.size w w' := fun w => r01_Order_valid (B M) (B 8) w h1 (valid_B (u64_lt_lim (by decide)))
            rw [hcv] at hor HR
            have HOR := Lib.hid hor
            clear hor hcv hd hbit hM0 hpar
            by_cases h5 : 0 < cv
            all_goals
              first | have k1 : decide (cv ≤ 0) = false := decide_eq_false (Int.not_le.2 h5) | have k1 : decide (cv ≤ 0) = true := decide_eq_true (Int.not_lt.1 h5)
              have H5 := Lib.hid h5
              clear h5
              go_enter Tryz.func47, Tryz.ntmps47
              go_wp2_with (first | (go_at_call 31; refine (r01_Valid _ _).mono ?_; rintro e w' ⟨rfl, rfl⟩) | (go_at_call 76; (with_reducible refine (HOR.out _).mono ?_); rintro e w1 ⟨rfl, hb1⟩; have n1 : GrAt w w.heap.size (B M) o w1 := by { first | exact HS.out.next hb1 | exact HS.out.drew.next hb1 }; have p1 := n1.c0; have q1 := n1.c1; have H1 := Lib.hid n1; clear n1 hb1))
              go_ret
              exact ⟨ret_int (by rw [HR.out]; first | exact (if_pos (decide_eq_true H5.out)).symm | exact (if_neg (by rw [decide_eq_false (Int.not_lt.2 H5.out)]; simp)).symm), H1.out.below⟩
          · have k0 : ((((B M)[(B M).size - 1]'(by omega)).toNat : Nat) : Int) % 2 = 0 := by omega
            rw [decide_eq_false hpar] at HR
            have HF : Hid (groupE (B M) o = 13) := Lib.hid (by rw [HR.out]; rfl)
            clear hd hbit hM0 hpar
            go_enter Tryz.func47, Tryz.ntmps47
            go_wp2_with (first | (go_at_call 31; refine (r01_Valid _ _).mono ?_; rintro e w' ⟨rfl, rfl⟩))
            go_ret
            exact ⟨ret_int HF.out.symm, HS.out.below⟩

end Go.Proofs.YtlppcnjaacbhpaaGreatDoor

namespace Go.Proofs.YtlppcnjaacbhpaaGreatDoor
open Go.RowKit
set_option maxRecDepth 100000
set_option linter.unusedVariables false
set_option maxHeartbeats 1000000

theorem groupE_good {m o : ByteArray} (hg : groupE m o = 0) : valid m = true ∧ valid o = true ∧ (o.toList.isEmpty = true → goodS m o = true) := by
  unfold groupE at hg
  split at hg
  · rename_i hv
    rw [Bool.and_eq_true] at hv
    refine ⟨hv.1, hv.2, fun ho => ?_⟩
    rw [if_pos ho] at hg
    split at hg
    · rename_i h8
      rw [Bool.and_eq_true] at h8
      unfold goodS
      rw [hv.1, ho, h8.1, h8.2]
      rfl
    · cases hg
  · cases hg
theorem r13_has (m o x : ByteArray) (w : World) (sm : m.size ≤ 8) (hg : groupE m o = 0) (hv : valid x = true) :
    Calls Tryz.prog 78 #[.agg #[.string m, .string o], .string x] w fun e w' => e = .returned (.bool (hasG m o x)) ∧ Below w.heap.size w w' := by
  obtain ⟨vm, vo, hgood⟩ := groupE_good hg
  have HS := Lib.hid (GrAt.box w m o 24)
  have c0 := HS.out.c0
  have c1 := HS.out.c1
  have H9 := Lib.hid (fun w => r09_Has m o x w sm)
  have hr : hasG m o x = if o.toList.isEmpty then hasS m o x else pgHas m o x := rfl
  have HR := Lib.hid hr
  clear hr
  cases h3 : o.toList.isEmpty
  · rw [h3] at HR
    generalize pgHas m o x = b at *
    clear hgood vm vo hg hv
    go_enter Tryz.func78, Tryz.ntmps78
    go_wp2_with (first | (go_at_call 115; (with_reducible refine (H9.out _).mono ?_); rintro e w1 ⟨rfl, hb1⟩))
    go_ret
    exact ⟨ret_bool (by rw [HR.out]; rfl), (HS.out.next hb1).below⟩
  · have hr2 : hasG m o x = (!x.toList.isEmpty && (decide (natCmp x m < 0) && decide (Nat.gcd (num x) (num m) = 1))) := by
      rw [HR.out, if_pos h3]
      unfold hasS
      rw [hgood h3, hv, Bool.true_and, Bool.true_and, Bool.and_assoc]
    have HR2 := Lib.hid hr2
    have h8 := u64_of_size sm
    have hlt := fun h => natCmp_neg (a := x) (b := m) hv vm h
    have hor := fun w => r01_Order_valid x m w hv vm
    obtain ⟨cv, hcv⟩ : ∃ cv, natCmp x m = cv := ⟨_, rfl⟩
    rw [hcv] at hor hlt HR2
    have HOR := Lib.hid hor
    clear hor hcv hr2
    cases h4 : x.toList.isEmpty
    · by_cases h5 : cv < 0
      · have k1 : decide (cv < 0) = true := decide_eq_true h5
        have hco := fun w => r01_Common (num x) (num m) w (by have := hlt h5; omega) h8
        rw [B_num hv, B_num vm] at hco
        have kb := B_beq1 (Nat.gcd (num x) (num m))
        have HF : Hid (hasG m o x = ((B (Nat.gcd (num x) (num m))).toList == [1])) := Lib.hid (by rw [HR2.out, h4, k1, kb, Bool.eq_iff_iff]; simp)
        obtain ⟨G, hG⟩ : ∃ G, Nat.gcd (num x) (num m) = G := ⟨_, rfl⟩
        clear kb
        rw [hG] at hco HF
        have HCO := Lib.hid hco
        clear hG hco hlt h5 hgood vm vo hg hv h8
        go_enter Tryz.func78, Tryz.ntmps78
        go_wp2_with (first | (go_at_call 76; (with_reducible refine (HOR.out _).mono ?_); rintro e w1 ⟨rfl, hb1⟩; have n1 := HS.out.next hb1; have p1 := n1.c0; have q1 := n1.c1; have H1 := Lib.hid n1; clear n1 hb1) | (go_at_call 38; (with_reducible refine (HCO.out _).mono ?_); rintro e w2 ⟨rfl, hb2⟩))
        go_ret
        exact ⟨ret_bool HF.out.symm, (H1.out.next hb2).below⟩
      · have k1 : decide (cv < 0) = false := decide_eq_false h5
        have HF : Hid (hasG m o x = false) := Lib.hid (by rw [HR2.out, h4, k1]; rfl)
        clear hlt h5 hgood vm vo hg hv h8
        go_enter Tryz.func78, Tryz.ntmps78
        go_wp2_with (first | (go_at_call 76; (with_reducible refine (HOR.out _).mono ?_); rintro e w1 ⟨rfl, hb1⟩; have n1 := HS.out.next hb1; have p1 := n1.c0; have q1 := n1.c1; have H1 := Lib.hid n1; clear n1 hb1))
        go_ret
        exact ⟨ret_bool HF.out.symm, H1.out.below⟩
    · have HF : Hid (hasG m o x = false) := Lib.hid (by rw [HR2.out, h4]; rfl)
      clear hlt hgood vm vo hg hv h8
      go_enter Tryz.func78, Tryz.ntmps78
      go_wp2_with fail
      go_ret
      exact ⟨ret_bool HF.out.symm, HS.out.below⟩
theorem hasG_valid {m o x : ByteArray} (h : valid x = false) : hasG m o x = false := by
  unfold hasG hasS pgHas
  rw [h]
  split <;> simp
theorem r13_Has (m o x : ByteArray) (w : World) (sm : m.size ≤ 8) :
    Calls Tryz.prog 48 #[.agg #[.string m, .string o], .string x] w fun e w' => e = .returned (.bool (decide (groupE m o = 0) && hasG m o x)) ∧ Below w.heap.size w w' := by
  have HS := Lib.hid (GrAt.box w m o 24)
  have HCK := Lib.hid (fun w => r13_Check m o w sm)
  by_cases h : groupE m o = 0
  · cases hv : valid x
    · have HF : Hid ((decide (groupE m o = 0) && hasG m o x) = false) := Lib.hid (by rw [hasG_valid hv, Bool.and_false])
      generalize (decide (groupE m o = 0) && hasG m o x) = R at *
      rw [h] at HCK
      clear h
      go_enter Tryz.func48, Tryz.ntmps48
      go_wp2_with (first | (go_at_call 47; (with_reducible refine (HCK.out _).mono ?_); rintro e w1 ⟨rfl, hb1⟩; have n1 := HS.out.next hb1; have p1 := n1.c0; have q1 := n1.c1; have HN := Lib.hid n1; clear n1 hb1) | (go_at_call 31; refine (r01_Valid _ _).mono ?_; rintro e w' ⟨rfl, rfl⟩))
      go_ret
      exact ⟨ret_bool HF.out.symm, HN.out.below⟩
    · have HH := Lib.hid (fun w => r13_has m o x w sm h hv)
      have HF : Hid ((decide (groupE m o = 0) && hasG m o x) = hasG m o x) := Lib.hid (by rw [decide_eq_true h, Bool.true_and])
      generalize (decide (groupE m o = 0) && hasG m o x) = R at *
      rw [h] at HCK
      clear h
      generalize hasG m o x = b at *
      go_enter Tryz.func48, Tryz.ntmps48
      go_wp2_with (first | (go_at_call 47; (with_reducible refine (HCK.out _).mono ?_); rintro e w1 ⟨rfl, hb1⟩; have n1 := HS.out.next hb1; have p1 := n1.c0; have q1 := n1.c1; have HN := Lib.hid n1; clear n1 hb1) | (go_at_call 31; refine (r01_Valid _ _).mono ?_; rintro e w' ⟨rfl, rfl⟩) | (go_at_call 78; (with_reducible refine (HH.out _).mono ?_); rintro e w2 ⟨rfl, hb2⟩))
      go_ret
      exact ⟨ret_bool HF.out.symm, (HN.out.next hb2).below⟩
  · have k1 : (groupE m o == 0) = false := by rw [beq_eq_false_iff_ne]; exact h
    have HF : Hid ((decide (groupE m o = 0) && hasG m o x) = false) := Lib.hid (by rw [decide_eq_false h]; rfl)
    generalize (decide (groupE m o = 0) && hasG m o x) = R at *
    generalize groupE m o = ge at *
    clear h
    go_enter Tryz.func48, Tryz.ntmps48
    go_wp2_with (first | (go_at_call 47; (with_reducible refine (HCK.out _).mono ?_); rintro e w1 ⟨rfl, hb1⟩; have n1 := HS.out.next hb1; have p1 := n1.c0; have q1 := n1.c1; have HN := Lib.hid n1; clear n1 hb1))
    go_ret
    exact ⟨ret_bool HF.out.symm, HN.out.below⟩
theorem r03_Power (a m e : Nat) (w : World) (ha : a < lim) (hm : m < 18446744073709551616) (h0 : 0 < m) (he : e < lim) :
    Calls Tryz.prog 116 #[.string (B a), .agg #[.bool false, .string (B e)], .string (B m)] w fun r w' => r = .returned (.tuple #[.string (B (a ^ e % m)), .int .i64 0]) ∧ Below w.heap.size w w' := by
  have hva := valid_B ha
  have hve := valid_B he
  have hvm := valid_B (u64_lt_lim hm)
  have hne := B_isEmpty_false (show m ≠ 0 by omega)
  have hra := fun w => r03_raise a m (B e) w ha hm h0 hve
  rw [num_B] at hra
  have HRA := Lib.hid hra
  have HVI := Lib.hid (fun w => r02_Valid e w he)
  clear ha hm h0 he hra
  generalize a ^ e % m = R at *
  go_enter Tryz.func116, Tryz.ntmps116
  go_wp2_with (first | (go_at_call 31; refine (r01_Valid _ _).mono ?_; rintro e' w' ⟨rfl, rfl⟩) | (go_at_call 79; (with_reducible refine (HVI.out _).mono ?_); rintro e' w1 ⟨rfl, hb1⟩; have c0 : w1.cell? ⟨w.heap.size, 0, none⟩ = some (.bool false) := (hb1.cell (p := ⟨w.heap.size, 0, none⟩) (by simp)).trans (by simp [go_sem]); have c1 : w1.cell? ⟨w.heap.size, 1, none⟩ = some (.string (B e)) := (hb1.cell (p := ⟨w.heap.size, 1, none⟩) (by simp)).trans (by simp [go_sem])) | (go_at_call 86; (with_reducible refine (HRA.out _).mono ?_); rintro e' w2 ⟨rfl, hb2⟩))
  go_ret2
  exact ⟨rfl, below2 (below_box' hb1) hb2⟩
theorem r13_raw (m o : ByteArray) (a e : Nat) (w : World) (ha : a < lim) (sm : m.size ≤ 8) (vm : valid m = true) (h0 : 0 < num m) (he : e < lim) :
    Calls Tryz.prog 80 #[.agg #[.string m, .string o], .string (B a), .agg #[.bool false, .string (B e)]] w fun r w' => r = .returned (.string (B (a ^ e % num m))) ∧ Below w.heap.size w w' := by
  have hp := fun w => r03_Power a (num m) e w ha (u64_of_size sm) h0 he
  rw [B_num vm] at hp
  have HP := Lib.hid hp
  clear hp ha sm vm h0 he
  generalize a ^ e % num m = R at *
  go_enter Tryz.func80, Tryz.ntmps80
  go_wp2_with (first | (go_at_call 116; (with_reducible refine (HP.out _).mono ?_); rintro e' w1 ⟨rfl, hb1⟩))
  go_ret
  exact ⟨rfl, (((Below.refl _ _).alloc (Nat.le_refl _) _).alloc (by simp) _).trans (hb1.mono (by simp; omega))⟩
/-- The box of an exponent. -/
structure GrI (w : World) (e : ByteArray) (wx : World) : Prop where
  c0 : wx.cell? ⟨w.heap.size + 1, 0, none⟩ = some (.bool false)
  c1 : wx.cell? ⟨w.heap.size + 1, 1, none⟩ = some (.string e)
  size : w.heap.size + 1 < wx.heap.size
theorem GrI.next {w wx w' : World} {e : ByteArray} (h : GrI w e wx) (hb : Below wx.heap.size wx w') : GrI w e w' :=
  ⟨(hb.cell (p := ⟨w.heap.size + 1, 0, none⟩) h.size).trans h.c0, (hb.cell (p := ⟨w.heap.size + 1, 1, none⟩) h.size).trans h.c1, Nat.lt_of_lt_of_le h.size hb.size⟩
theorem r13_Exp (m o : ByteArray) (X e : Nat) (w : World) (sm : m.size ≤ 8) (hg : groupE m o = 0) (hx : hasG m o (B X) = true) (he : e < lim) :
    Calls Tryz.prog 49 #[.agg #[.string m, .string o], .string (B X), .agg #[.bool false, .string (B e)]] w fun r w' => r = .returned (.tuple #[.string (B (X ^ e % num m)), .int .i64 0]) ∧ Below w.heap.size w w' := by
  have hvx := (hasG_lt sm hx).1
  have hlt := (hasG_lt sm hx).2.2.1
  rw [num_B] at hlt
  have hXl := valid_num_lt hvx
  rw [num_B] at hXl
  have HRW := Lib.hid (fun w => r13_raw m o X e w hXl sm (hasG_lt sm hx).2.1 (by omega) he)
  have hck := fun w => r13_Check m o w sm
  rw [hg] at hck
  have HCK := Lib.hid hck
  have hha := fun w => r13_has m o (B X) w sm hg hvx
  rw [hx] at hha
  have HHA := Lib.hid hha
  have HVI := Lib.hid (fun w => r02_Valid e w he)
  have HK := Lib.hid ((GrAt.box w m o 24).alloc (.cells #[.bool false, .string (B e)] 89))
  have hE : GrI w (B e) ((w.alloc (.cells #[.string m, .string o] 24)).alloc (.cells #[.bool false, .string (B e)] 89)) := ⟨by simp [go_sem], by simp [go_sem], by simp⟩
  have HE := Lib.hid hE
  clear hE sm hg hx he hlt hXl hck hha
  generalize X ^ e % num m = R at *
  go_enter Tryz.func49, Tryz.ntmps49
  go_wp2_with (first | (go_at_call 31; refine (r01_Valid _ _).mono ?_; rintro e' w' ⟨rfl, rfl⟩) | (go_at_call 79; (with_reducible refine (HVI.out _).mono ?_); rintro e' w1 ⟨rfl, hb1⟩; have n1 := HK.out.next hb1; have p1 := n1.c0; have q1 := n1.c1; have H1 := Lib.hid n1; have HE1 := Lib.hid (HE.out.next hb1); clear n1 hb1) | (go_at_call 47; (with_reducible refine (HCK.out _).mono ?_); rintro e' w2 ⟨rfl, hb2⟩; have n2 := H1.out.next hb2; have p2 := n2.c0; have q2 := n2.c1; have H2 := Lib.hid n2; have HE2 := Lib.hid (HE1.out.next hb2); clear n2 hb2) | (go_at_call 78; (with_reducible refine (HHA.out _).mono ?_); rintro e' w3 ⟨rfl, hb3⟩; have n3 := H2.out.next hb3; have p3 := n3.c0; have q3 := n3.c1; have H3 := Lib.hid n3; have i3 := HE2.out.next hb3; have i30 := i3.c0; have i31 := i3.c1; clear n3 hb3 i3) | (go_at_call 80; (with_reducible refine (HRW.out _).mono ?_); rintro e' w4 ⟨rfl, hb4⟩))
  go_ret2
  exact ⟨rfl, (H3.out.next hb4).below⟩

end Go.Proofs.YtlppcnjaacbhpaaGreatDoor
