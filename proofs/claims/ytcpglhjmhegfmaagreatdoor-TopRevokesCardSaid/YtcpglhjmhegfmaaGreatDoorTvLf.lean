/- Long division, plain facts about one round: the estimate is put right, the digit is stored. -/
import Derived.Test.YtcpglhjmhegfmaaGreatDoorTvLd
namespace Go.Proofs.YtcpglhjmhegfmaaGreatDoor
set_option maxRecDepth 100000
set_option linter.unusedVariables false
theorem top_small {R D j n : Nat} (hR : R < D * 256 ^ (j + 1)) (hD : D < 256 ^ n) : R / 256 ^ (j + n) < 256 := by
  apply Nat.div_lt_of_lt_mul
  have e : 256 ^ (j + n) * 256 = 256 ^ n * 256 ^ (j + 1) := by rw [← Nat.pow_succ, ← Nat.pow_add]; congr 1; omega
  rw [e]
  exact Nat.lt_of_lt_of_le hR (Nat.mul_le_mul_right _ (Nat.le_of_lt hD))
theorem top_start {Xv R r1 c bb g D j n : Nat} (h : Xv + g * D * 256 ^ j = R + (c + bb) * 256 ^ (j + n)) (ht : Xv / 256 ^ (j + n) = R / 256 ^ (j + n)) (hr : R / 256 ^ (j + n) % 256 = r1) (hs : R / 256 ^ (j + n) < 256) :
    ((Xv % 256 ^ (j + n) : Nat) : Int) + ((r1 : Int) - (c : Int) - (bb : Int)) * ((256 ^ (j + n) : Nat) : Int) + ((g * D * 256 ^ j : Nat) : Int) = (R : Int) := by
  rw [Nat.mod_eq_of_lt hs] at hr
  have h1 := Nat.div_add_mod Xv (256 ^ (j + n))
  rw [ht, hr] at h1
  generalize Xv % 256 ^ (j + n) = L at *
  generalize g * D * 256 ^ j = G at *
  generalize 256 ^ (j + n) = P at *
  rw [Int.sub_mul, Int.sub_mul]
  rw [Nat.add_mul] at h
  have e1 : ((P * r1 : Nat) : Int) = (r1 : Int) * (P : Int) := by rw [Nat.mul_comm]; exact Int.natCast_mul _ _
  have e2 : ((c * P : Nat) : Int) = (c : Int) * (P : Int) := Int.natCast_mul _ _
  have e3 : ((bb * P : Nat) : Int) = (bb : Int) * (P : Int) := Int.natCast_mul _ _
  omega
theorem top_round {L L' R g D Pj Pn c : Nat} {t : Int} (h : (L : Int) + t * (Pn : Int) + ((g * D * Pj : Nat) : Int) = (R : Int)) (hL : L < Pn) (ht : t < 0) (hD : 0 < D) (hP : 0 < Pj) (h2 : L' + c * Pn = L + D * Pj) :
    1 ≤ g ∧ R / (D * Pj) ≤ g - 1 ∧ (L' : Int) + (t + (c : Int)) * (Pn : Int) + (((g - 1) * D * Pj : Nat) : Int) = (R : Int) := by
  have h3 : t * (Pn : Int) ≤ (-1) * (Pn : Int) := Int.mul_le_mul_of_nonneg_right (by omega) (by omega)
  have h4 : R < g * D * Pj := by omega
  have h5 : 1 ≤ g := by
    rcases Nat.eq_zero_or_pos g with e | e
    · subst e; simp at h4
    · exact e
  obtain ⟨k, rfl⟩ : ∃ k, g = k + 1 := ⟨g - 1, by omega⟩
  have hDP := Nat.mul_pos hD hP
  refine ⟨h5, ?_, ?_⟩
  · rw [Nat.add_sub_cancel]
    have h6 : R / (D * Pj) < k + 1 := by
      apply Nat.div_lt_of_lt_mul
      rw [Nat.mul_comm, ← Nat.mul_assoc]
      exact h4
    omega
  · rw [Nat.add_sub_cancel, Int.add_mul]
    have e1 : (k + 1) * D * Pj = k * D * Pj + D * Pj := by rw [Nat.add_mul, Nat.add_mul, Nat.one_mul]
    have e2 : ((c * Pn : Nat) : Int) = (c : Int) * (Pn : Int) := Int.natCast_mul _ _
    rw [e1] at h
    omega
theorem top_end {L R g D j n : Nat} {t : Int} (h : (L : Int) + t * ((256 ^ (j + n) : Nat) : Int) + ((g * D * 256 ^ j : Nat) : Int) = (R : Int)) (ht : 0 ≤ t) (hD : 0 < D) (hD2 : D < 256 ^ n) (hg : R / (D * 256 ^ j) ≤ g) :
    t = 0 ∧ g = R / (D * 256 ^ j) ∧ L = R % (D * 256 ^ j) := by
  have h0 : 0 ≤ t * ((256 ^ (j + n) : Nat) : Int) := Int.mul_nonneg ht (Int.natCast_nonneg _)
  obtain ⟨h1, h2⟩ := round_end (X := L) (R := R) (g := g) (D := D) (j := j) (P := 256 ^ j) (top := t * ((256 ^ (j + n) : Nat) : Int)) rfl hD h (Int.add_nonneg (Int.natCast_nonneg L) h0) hg
  have h3 : R % (D * 256 ^ j) < D * 256 ^ j := Nat.mod_lt _ (Nat.mul_pos hD (pow256_pos j))
  have h4 : D * 256 ^ j ≤ 256 ^ (j + n) := by
    rw [Nat.add_comm j n, Nat.pow_add]
    exact Nat.mul_le_mul_right _ (Nat.le_of_lt hD2)
  have h5 : t = 0 := by
    rcases Int.lt_or_le t 1 with e | e
    · omega
    · have h6 : 1 * ((256 ^ (j + n) : Nat) : Int) ≤ t * ((256 ^ (j + n) : Nat) : Int) := Int.mul_le_mul_of_nonneg_right e (Int.natCast_nonneg _)
      omega
  subst h5
  exact ⟨rfl, h1, by omega⟩
theorem add_low {Xv Y D j n c : Nat} (h : Y + c * 256 ^ (n + j) = Xv + D * 256 ^ j) (ht : Y / 256 ^ (j + n) = Xv / 256 ^ (j + n)) :
    Y % 256 ^ (j + n) + c * 256 ^ (j + n) = Xv % 256 ^ (j + n) + D * 256 ^ j := by
  have h1 := Nat.div_add_mod Xv (256 ^ (j + n))
  have h2 := Nat.div_add_mod Y (256 ^ (j + n))
  rw [Nat.add_comm n j] at h
  rw [ht] at h2
  omega
theorem put_top {Xv R j n : Nat} (ht : Xv / 256 ^ (j + n) = R / 256 ^ (j + n)) (hs : R / 256 ^ (j + n) < 256) : putD Xv (j + n) 0 = Xv % 256 ^ (j + n) := by
  unfold putD
  rw [Nat.pow_succ, ← Nat.div_div_eq_div_mul, ht, Nat.div_eq_of_lt hs, Nat.zero_mul, Nat.zero_mul]
  rfl
theorem put_q {Q j g : Nat} (h : Q % 256 ^ (j + 1) = 0) : putD Q j g = Q + g * 256 ^ j ∧ putD Q j g % 256 ^ j = 0 := by
  have h1 : Q / 256 ^ j % 256 = 0 := by rw [digit_rem, h, Nat.zero_div]
  have h2 := putD_add Q j g
  rw [h1, Nat.zero_mul, Nat.add_zero] at h2
  refine ⟨h2.symm, ?_⟩
  rw [putD_low (Nat.le_refl j), ← Nat.mod_mod_of_dvd Q (Nat.pow_dvd_pow 256 (Nat.le_succ j)), h, Nat.zero_mod]
theorem div_round {E Q R D j g : Nat} (h : E = Q * D + R) (hD : 0 < D) (hQ : Q % 256 ^ (j + 1) = 0) (hg : g = R / (D * 256 ^ j)) :
    E = putD Q j g * D + R % (D * 256 ^ j) ∧ R % (D * 256 ^ j) < D * 256 ^ j ∧ putD Q j g % 256 ^ j = 0 := by
  obtain ⟨h1, h2⟩ := put_q (g := g) hQ
  refine ⟨?_, Nat.mod_lt _ (Nat.mul_pos hD (pow256_pos j)), h2⟩
  have h3 := Nat.div_add_mod R (D * 256 ^ j)
  rw [← hg] at h3
  have e : g * 256 ^ j * D = D * 256 ^ j * g := by rw [Nat.mul_comm g, Nat.mul_comm D, Nat.mul_assoc, Nat.mul_assoc, Nat.mul_comm g]
  rw [h1, Nat.add_mul, e, h]
  omega
end Go.Proofs.YtcpglhjmhegfmaaGreatDoor
