/- The walks of the reference of layer 1: bits, division of short numbers, greatest common divisor. -/
import Derived.Test.YtlppcnjaacbhpaaGreatDoorR1
import Derived.Test.YtlppcnjaacbhpaaGreatDoorG2
namespace Go.Proofs.YtlppcnjaacbhpaaGreatDoor
open Go.RowKit
set_option maxRecDepth 100000
set_option linter.unusedVariables false
set_option maxHeartbeats 400000

theorem r01_fit (n : Nat) (w : World) :
    Calls Tryz.prog 55 #[.string (B n)] w fun e w' => e = .returned (.tuple #[.string (fitted n).1, .int .i64 (fitted n).2]) ∧ w = w' := by
  have hf : (fitted n).1 = (if n < lim then B n else E0) ∧ (fitted n).2 = (if n < lim then 0 else 5) := by unfold fitted; split <;> exact ⟨rfl, rfl⟩
  have HF := Lib.hid hf
  clear hf
  by_cases h : n < lim
  · have h2 := B_size_le.2 h
    have H := Lib.hid h
    clear h
    go_enter Tryz.func55, Tryz.ntmps55
    go_wp2
    go_ret2
    exact ⟨ret_se (by rw [HF.out.1, if_pos H.out]) (by rw [HF.out.2, if_pos H.out]), rfl⟩
  · have h2 : ¬ (B n).size ≤ 128 := fun h2 => h (B_size_le.1 h2)
    have H := Lib.hid h
    clear h
    go_enter Tryz.func55, Tryz.ntmps55
    go_wp2
    go_ret2
    exact ⟨ret_se (by rw [HF.out.1, if_neg H.out]; rfl) (by rw [HF.out.2, if_neg H.out]), rfl⟩
theorem r01_Cmp (a b : ByteArray) (w : World) :
    Calls Tryz.prog 84 #[.string a, .string b] w fun e w' => e = .returned (.int .i64 (natCmp a b)) ∧ Below w.heap.size w w' := by
  by_cases ha : valid a = true
  · by_cases hb : valid b = true
    · have hc : natCmp a b = cmpN (num a) (num b) := by unfold natCmp; rw [ha, hb]; rfl
      have HC := Lib.hid hc
      have sa := valid_size ha
      have sb := valid_size hb
      have ea := B_num ha
      have eb := B_num hb
      generalize num a = x at *
      generalize num b = y at *
      subst ea; subst eb
      have HO := Lib.hid (fun w => r01_Order x y w (by omega) (by omega))
      clear hc sa sb
      go_enter Tryz.func84, Tryz.ntmps84
      go_wp2_with (first | (go_at_call 31; refine (r01_Valid _ _).mono ?_; rintro e w' ⟨rfl, rfl⟩) | (go_at_call 76; refine (HO.out _).mono ?_; rintro e w' ⟨rfl, hb1⟩))
      go_ret
      exact ⟨ret_int HC.out.symm, hb1⟩
    · have hb' : valid b = false := by simpa using hb
      have hc : natCmp a b = 0 := by unfold natCmp; rw [hb']; simp
      have HC := Lib.hid hc
      clear hc hb
      go_enter Tryz.func84, Tryz.ntmps84
      go_wp2_with (first | (go_at_call 31; refine (r01_Valid _ _).mono ?_; rintro e w' ⟨rfl, rfl⟩))
      go_ret
      exact ⟨ret_int HC.out.symm, Below.refl _ _⟩
  · have ha' : valid a = false := by simpa using ha
    have hc : natCmp a b = 0 := by unfold natCmp; rw [ha']; simp
    have HC := Lib.hid hc
    clear hc ha
    go_enter Tryz.func84, Tryz.ntmps84
    go_wp2_with (first | (go_at_call 31; refine (r01_Valid _ _).mono ?_; rintro e w' ⟨rfl, rfl⟩))
    go_ret
    exact ⟨ret_int HC.out.symm, Below.refl _ _⟩

theorem bits_lead {s : ByteArray} (hv : valid s = true) (h : 0 < s.size) : ∃ k, (natBits s : Int) = 8 * ((s.size : Int) - 1) + ((k + 1 : Nat) : Int) ∧ 2 ^ k ≤ s[0].toNat ∧ s[0].toNat < 2 ^ (k + 1) := by
  have h0 : s[0].toNat ≠ 0 := by
    intro e
    have := valid_pos' h
    rw [hv, e] at this
    simp at this
  obtain ⟨k, hk, h1, h2⟩ := bitLen_pos h0 s[0].toNat_lt
  exact ⟨k, by rw [bits_of_bytes hv h, hk]; rfl, h1, h2⟩
theorem natBits_empty : natBits ByteArray.empty = 0 := by unfold natBits; simp [valid_empty, num, val, bitsN]
theorem r01_bits (s : ByteArray) (w : World) (hv : valid s = true) :
    Calls Tryz.prog 91 #[.string s] w fun e w' => e = .returned (.int .i64 (natBits s)) ∧ w = w' := by
  have hs := valid_size hv
  by_cases h0 : 0 < s.size
  · have he := isEmpty_size h0
    obtain ⟨K, hK, p1, p2⟩ := bits_lead hv h0
    have hK8 : K ≤ 7 := by
      rcases Nat.lt_or_ge 7 K with h | h
      · have := s[0].toNat_lt
        have : 2 ^ 8 ≤ 2 ^ K := Nat.pow_le_pow_right (by omega) h
        omega
      · exact h
    have HK := Lib.hid hK
    have HV := Lib.hid hv
    have P1 := Lib.hid p1
    have P2 := Lib.hid p2
    have hb := wrap64_byte s[0]
    have h255 := s[0].toNat_lt
    obtain ⟨d, hd⟩ : ∃ d, s[0].toNat = d := ⟨_, rfl⟩
    rw [hd] at P1 P2 hb h255
    clear hK p1 p2 hv
    go_enter Tryz.func91, Tryz.ntmps91
    go_wp2
    clear hb hd
    go_loop [3, 4] (fun n x => ∃ k : Nat, k ≤ K + 1 ∧ n = .int .i64 (8 * ((s.size : Int) - 1) + k) ∧ x = .int .i64 (d / 2 ^ k : Nat)) (fun _ x => (intOf x).toNat)
    case atStart => exact ⟨0, by omega, by simp, by simp⟩
    case round =>
      obtain ⟨k, hk, rfl, rfl⟩ := hrel
      have hle : d / 2 ^ k ≤ d := Nat.div_le_self _ _
      by_cases hlt : k ≤ K
      · have hpos : 0 < d / 2 ^ k := by
          refine Nat.div_pos (Nat.le_trans (Nat.pow_le_pow_right (by omega) hlt) P1.out) (Nat.two_pow_pos k)
        have hnx : d / 2 ^ k / 2 = d / 2 ^ (k + 1) := by rw [Nat.div_div_eq_div_mul, ← Nat.pow_succ]
        have HNX := Lib.hid hnx
        clear hnx
        generalize d / 2 ^ k = m at *
        go_wp2
        go_round
        case rel => exact ⟨k + 1, by omega, by go_num, by rw [← HNX.out]; go_num⟩
        case measure => simp [intOf]; omega
      · obtain rfl : k = K + 1 := by omega
        have hz : d / 2 ^ (K + 1) = 0 := Nat.div_eq_of_lt P2.out
        rw [hz]
        go_wp2
        go_ret
        exact ⟨ret_int (by rw [HK.out]; omega), rfl⟩
  · obtain rfl : s = ByteArray.empty := by
      apply ByteArray.ext
      apply Array.eq_empty_of_size_eq_zero
      show s.size = 0
      omega
    have HK := Lib.hid natBits_empty
    go_enter Tryz.func91, Tryz.ntmps91
    go_wp2
    go_ret
    exact ⟨ret_int (by rw [HK.out]; rfl), rfl⟩
theorem r01_at_int (s : ByteArray) (z : Int) (i : Nat) (w : World) (hz : z = i) (hi : i ≤ 1000000) (hs : s.size ≤ 1000000) :
    Calls Tryz.prog 90 #[.string s, .int .i64 z] w fun e w' => e = .returned (.int .i64 ((num s / 256 ^ i % 256 : Nat) : Int)) ∧ w = w' := by
  subst hz; exact r01_at s i w hi hs
theorem beq_mod2 (m : Nat) : (((m : Int) % 2) == 1) = (m % 2 == 1) := by
  rw [Bool.eq_iff_iff, beq_iff_eq, beq_iff_eq]; omega
theorem r01_one (s : ByteArray) (z : Int) (i : Nat) (w : World) (hz : z = i) (hi : i ≤ 1000000) (hs : s.size ≤ 1000000) :
    Calls Tryz.prog 93 #[.string s, .int .i64 z] w fun e w' => e = .returned (.bool (num s / 2 ^ i % 2 == 1)) ∧ w = w' := by
  subst hz
  have hdg := natBit_digit (num s) i
  have hat := fun w => r01_at_int s ((i : Int) / 8) (i / 8) w (by omega) (by omega) hs
  obtain ⟨d, hd⟩ : ∃ d, num s / 256 ^ (i / 8) % 256 = d := ⟨_, rfl⟩
  have hdl : d < 256 := by omega
  rw [hd] at hdg hat
  obtain ⟨r, hr⟩ : ∃ r, i % 8 = r := ⟨_, rfl⟩
  have hri : (i : Int) % 8 = (r : Int) := by omega
  have hr8 : r < 8 := by omega
  rw [hr] at hdg
  have HDG := Lib.hid hdg
  have HAT := Lib.hid hat
  have HRI := Lib.hid hri
  clear hdg hat hd hr hri
  go_enter Tryz.func93, Tryz.ntmps93
  go_wp2_with (go_at_call 90; refine (HAT.out _).mono ?_; rintro e w' ⟨rfl, rfl⟩)
  go_loop [5, 6] (fun x k => ∃ j : Nat, j ≤ r ∧ k = .int .i64 j ∧ x = .int .i64 (d / 2 ^ j : Nat)) (fun _ k => r - (intOf k).toNat)
  case atStart => exact ⟨0, by omega, rfl, by simp⟩
  case round =>
    obtain ⟨j, hj, rfl, rfl⟩ := hrel
    have hle : d / 2 ^ j ≤ d := Nat.div_le_self _ _
    have hri := HRI.out
    by_cases hlt : j < r
    · have K1 : decide ((j : Int) < (i : Int) % 8) = true := by rw [hri]; simpa using hlt
      have hnx : d / 2 ^ j / 2 = d / 2 ^ (j + 1) := by rw [Nat.div_div_eq_div_mul, ← Nat.pow_succ]
      have HNX := Lib.hid hnx
      clear hnx hri
      generalize d / 2 ^ j = m at *
      go_wp2
      go_round
      case rel => exact ⟨j + 1, by omega, by go_num, by rw [← HNX.out]; go_num⟩
      case measure => simp [intOf]; omega
    · obtain rfl : j = r := by omega
      have K1 : decide ((j : Int) < (i : Int) % 8) = false := by rw [hri]; simp
      have HB := Lib.hid (beq_mod2 (d / 2 ^ j))
      clear hri
      generalize d / 2 ^ j = m at *
      go_wp2
      go_ret
      exact ⟨ret_bool (by rw [HB.out, HDG.out]), rfl⟩
theorem lt_pow_bitsN (n : Nat) : n < 2 ^ bitsN n := by
  unfold bitsN
  split
  · omega
  · exact Nat.lt_log2_self
theorem natBit_above {a : ByteArray} {i : Nat} (h : natBits a ≤ i) : natBit a i = false := by
  unfold natBit
  cases hv : valid a
  · rfl
  · unfold natBits at h
    rw [hv, if_pos rfl] at h
    have h1 := lt_pow_bitsN (num a)
    have h2 : 2 ^ bitsN (num a) ≤ 2 ^ i := Nat.pow_le_pow_right (by omega) h
    rw [Nat.div_eq_of_lt (by omega)]
    rfl
theorem r01_Bit (a : ByteArray) (z : Int) (i : Nat) (w : World) (hz : z = i) (hi : i ≤ 100000) :
    Calls Tryz.prog 117 #[.string a, .int .i64 z] w fun e w' => e = .returned (.bool (natBit a i)) ∧ w = w' := by
  subst hz
  cases hv : valid a
  · have HR := Lib.hid (show natBit a i = false by unfold natBit; rw [hv]; rfl)
    go_enter Tryz.func117, Tryz.ntmps117
    go_wp2_with (first | (go_at_call 31; refine (r01_Valid _ _).mono ?_; rintro e w' ⟨rfl, rfl⟩))
    go_ret
    exact ⟨ret_bool HR.out.symm, rfl⟩
  · have hb := fun w => r01_bits a w hv
    have ho := fun w => r01_one a i i w rfl (by omega) (by have := valid_size hv; omega)
    have ha := natBit_above (a := a) (i := i)
    have hr : natBit a i = (num a / 2 ^ i % 2 == 1) := by unfold natBit; rw [hv]; rfl
    generalize natBits a = nb at *
    have HB := Lib.hid hb
    have HO := Lib.hid ho
    have HA := Lib.hid ha
    have HR := Lib.hid hr
    clear hb ho ha hr
    by_cases hlt : i < nb
    · have K1 : decide ((i : Int) < (nb : Int)) = true := by simpa using hlt
      go_enter Tryz.func117, Tryz.ntmps117
      go_wp2_with (first | (go_at_call 31; refine (r01_Valid _ _).mono ?_; rintro e w' ⟨rfl, rfl⟩) | (go_at_call 91; refine (HB.out _).mono ?_; rintro e w' ⟨rfl, rfl⟩) | (go_at_call 93; refine (HO.out _).mono ?_; rintro e w' ⟨rfl, rfl⟩))
      go_ret
      exact ⟨ret_bool HR.out.symm, rfl⟩
    · have K1 : decide ((i : Int) < (nb : Int)) = false := by simp; omega
      go_enter Tryz.func117, Tryz.ntmps117
      go_wp2_with (first | (go_at_call 31; refine (r01_Valid _ _).mono ?_; rintro e w' ⟨rfl, rfl⟩) | (go_at_call 91; refine (HB.out _).mono ?_; rintro e w' ⟨rfl, rfl⟩) | (go_at_call 93; refine (HO.out _).mono ?_; rintro e w' ⟨rfl, rfl⟩))
      go_ret
      exact ⟨ret_bool (HA.out (by omega)).symm, rfl⟩

theorem r01_Of' (z : Int) (n : Nat) (w : World) (hz : z = n) (hn : n < 18446744073709551616) :
    Calls Tryz.prog 39 #[.int .u64 z] w fun e w' => e = .returned (.string (B n)) ∧ Below w.heap.size w w' := by
  subst hz; exact r01_Of n w hn
theorem r01_U64' (x : Nat) (w : World) (h : x < 18446744073709551616) :
    Calls Tryz.prog 32 #[.string (B x)] w fun e w' => e = .returned (.int .u64 (x : Nat)) ∧ w = w' := by
  have := r01_U64 (B x) w (B_size_le'.2 h)
  rw [num_B] at this
  exact this
theorem r01_Over8 (x y : Nat) (w : World) (hx : x < 18446744073709551616) (hy1 : y < 18446744073709551616) (hy : 0 < y) :
    Calls Tryz.prog 58 #[.string (B x), .string (B y)] w fun e w' => e = .returned (.tuple #[.string (B (x / y)), .string (B (x % y))]) ∧ Below w.heap.size w w' := by
  have hs : (B x).size ≤ 8 := B_size_le'.2 hx
  have hs2 : (B y).size ≤ 8 := B_size_le'.2 hy1
  have HX := Lib.hid hx
  have HY := Lib.hid hy1
  clear hx hy1
  go_enter Tryz.func58, Tryz.ntmps58
  go_wp2_with (first | (go_at_call 32; (with_reducible refine (r01_U64' x _ HX.out).mono ?_); rintro e w' ⟨rfl, rfl⟩) | (go_at_call 32; (with_reducible refine (r01_U64' y _ HY.out).mono ?_); rintro e w' ⟨rfl, rfl⟩))
  have hq : IntKind.u64.wrap ((x : Int) / (y : Int)) = ((x / y : Nat) : Int) := by
    have h1 : x / y < 18446744073709551616 := Nat.lt_of_le_of_lt (Nat.div_le_self x y) HX.out
    have h2 : ((x : Int) / (y : Int)) = ((x / y : Nat) : Int) := by simp
    rw [h2, IntKind.wrap_u64]
    generalize x / y = q at *
    omega
  have hm : ((x : Int).tmod (y : Int)) = ((x % y : Nat) : Int) := by rw [Int.tmod_eq_emod_of_nonneg (by omega)]; simp
  have hql : x / y < 18446744073709551616 := Nat.lt_of_le_of_lt (Nat.div_le_self x y) HX.out
  have hml : x % y < 18446744073709551616 := Nat.lt_of_le_of_lt (Nat.mod_le x y) HX.out
  have hq2 : ((x : Int) / (y : Int)) = ((x / y : Nat) : Int) := by simp
  have hm2 : ((x : Int) % (y : Int)) = ((x % y : Nat) : Int) := by simp
  have HQ := Lib.hid hq
  have HM := Lib.hid hm
  have HQ2 := Lib.hid hq2
  have HM2 := Lib.hid hm2
  have HQL := Lib.hid hql
  have HML := Lib.hid hml
  clear hq hm hq2 hm2 hql hml
  go_region_with (first | (go_at_call 39; (with_reducible refine (r01_Of' _ _ _ HQ.out HQL.out).mono ?_); rintro e w' ⟨rfl, hb1⟩) | (go_at_call 39; (with_reducible refine (r01_Of' _ _ _ HQ2.out HQL.out).mono ?_); rintro e w' ⟨rfl, hb1⟩) | (go_at_call 39; (with_reducible refine (r01_Of' _ _ _ HM.out HML.out).mono ?_); rintro e w' ⟨rfl, hb2⟩) | (go_at_call 39; (with_reducible refine (r01_Of' _ _ _ HM2.out HML.out).mono ?_); rintro e w' ⟨rfl, hb2⟩))
  all_goals
    go_wp2
    go_ret2
    exact ⟨rfl, ((Below.refl _ _).drew.trans hb1).trans (hb2.mono hb1.size)⟩
theorem r01_Common (x0 y0 : Nat) (w : World) (hx : x0 < 18446744073709551616) (hy : y0 < 18446744073709551616) :
    Calls Tryz.prog 38 #[.string (B x0), .string (B y0)] w fun e w' => e = .returned (.string (B (Nat.gcd x0 y0))) ∧ Below w.heap.size w w' := by
  go_enter Tryz.func38, Tryz.ntmps38
  go_wp2
  go_loopw [0, 1] (fun u v wr => ∃ x y : Nat, u = .string (B x) ∧ v = .string (B y) ∧ x < 18446744073709551616 ∧ y < 18446744073709551616 ∧ Nat.gcd x y = Nat.gcd x0 y0 ∧ Below w.heap.size w wr) (fun _ v _ => strNum v)
  case atStart => exact ⟨x0, y0, rfl, rfl, hx, hy, rfl, Below.refl _ _⟩
  case round =>
    obtain ⟨x, y, rfl, rfl, hx1, hy1, hg, hbel⟩ := hrel
    have HG := Lib.hid hg
    clear hg
    by_cases hz : y = 0
    · subst hz
      have he := B_isEmpty_true
      go_wp2_with fail
      go_ret
      exact ⟨ret_string (by rw [← HG.out, Nat.gcd_zero_right]), hbel⟩
    · have he := B_isEmpty_false hz
      go_wp2_with (first | (go_at_call 58; (with_reducible refine (r01_Over8 x y _ hx1 hy1 (by omega)).mono ?_); rintro e w' ⟨rfl, hb1⟩))
      go_roundw
      case rel => exact ⟨y, x % y, rfl, rfl, hy1, Nat.lt_trans (Nat.mod_lt x (by omega)) hy1, by rw [← HG.out, Nat.gcd_comm x y, Nat.gcd_rec y x, Nat.gcd_comm], hbel.trans (hb1.mono hbel.size)⟩
      case measure => simp only [strNum, num_B]; exact Nat.mod_lt x (by omega)
theorem r01_Gcd (a b : ByteArray) (w : World) (ha : Hid (B (num a) = a)) (hb : Hid (B (num b) = b)) (hx : Hid (num a < 18446744073709551616)) (hy : Hid (num b < 18446744073709551616)) :
    Calls Tryz.prog 18 #[.string a, .string b] w fun e w' => e = .returned (.tuple #[.string (B (Nat.gcd (num a) (num b))), .int .i64 0]) ∧ Below w.heap.size w w' := by
  have va : valid a = true := by rw [← ha.out]; exact valid_B (u64_lt_lim hx.out)
  have vb : valid b = true := by rw [← hb.out]; exact valid_B (u64_lt_lim hy.out)
  have hc := fun w => r01_Common (num a) (num b) w hx.out hy.out
  rw [ha.out, hb.out] at hc
  generalize Nat.gcd (num a) (num b) = g at *
  have HC := Lib.hid hc
  clear hc ha hb hx hy
  go_enter Tryz.func18, Tryz.ntmps18
  go_wp2_with (first | (go_at_call 31; refine (r01_Valid _ _).mono ?_; rintro e w' ⟨rfl, rfl⟩) | (go_at_call 38; refine (HC.out _).mono ?_; rintro e w' ⟨rfl, hb1⟩))
  go_ret2
  exact ⟨rfl, hb1⟩
theorem r01_DivMod8 (x y : Nat) (w : World) (hx : x < 18446744073709551616) (hy : y < 18446744073709551616) (h0 : 0 < y) :
    Calls Tryz.prog 57 #[.string (B x), .string (B y)] w fun e w' => e = .returned (.tuple #[.string (B (x / y)), .string (B (x % y)), .int .i64 0]) ∧ Below w.heap.size w w' := by
  have va := valid_B (u64_lt_lim hx)
  have vb := valid_B (u64_lt_lim hy)
  have he := B_isEmpty_false (n := y) (by omega)
  have HC := Lib.hid (fun w => r01_Over8 x y w hx hy h0)
  clear hx hy
  go_enter Tryz.func57, Tryz.ntmps57
  go_wp2_with (first | (go_at_call 31; refine (r01_Valid _ _).mono ?_; rintro e w' ⟨rfl, rfl⟩) | (go_at_call 58; refine (HC.out _).mono ?_; rintro e w' ⟨rfl, hb1⟩))
  go_ret3
  exact ⟨rfl, hb1⟩

end Go.Proofs.YtlppcnjaacbhpaaGreatDoor
