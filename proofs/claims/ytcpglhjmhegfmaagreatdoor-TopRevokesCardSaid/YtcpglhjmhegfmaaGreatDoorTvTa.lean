/- TopRevokes, plain facts: in small groups the program's test of squares is Euler's; a prime handle that does not divide the order has no divisor in common with it; powers of squares are squares. -/
import Derived.Test.YtcpglhjmhegfmaaGreatDoorTvTm1
import Derived.Test.YtcpglhjmhegfmaaGreatDoorTvZM1
import Derived.Test.YtcpglhjmhegfmaaGreatDoorTvUE
namespace Go.Proofs.YtcpglhjmhegfmaaGreatDoor
open Go.RowKit
set_option maxRecDepth 100000
set_option linter.unusedVariables false
set_option maxHeartbeats 4000000
theorem jac_eul_fin : (((List.range 126).filter safeN2).all fun p => (List.range p).all fun x => (decide (jacS x p = 1) == eulS x p)) = true := by decide +kernel
theorem jac_eul {p : Nat} (hp : safeN2 p = true) (hl : p < 126) (p1 : 1 < p) (x : Nat) : decide (jacS x p = 1) = eulS x p := by
  have h1 := List.all_eq_true.1 jac_eul_fin p (List.mem_filter.2 ⟨List.mem_range.2 hl, hp⟩)
  have h2 := List.all_eq_true.1 h1 (x % p) (List.mem_range.2 (Nat.mod_lt _ (by omega)))
  rw [beq_iff_eq] at h2
  have e1 : jacS (x % p) p = jacS x p := by unfold jacS; rw [Nat.mod_mod]
  have e2 : eulS (x % p) p = eulS x p := eul_mod (Nat.dvd_refl p)
  rw [e1, e2] at h2
  exact h2
theorem small_safe {m o p q : ByteArray} (hc : checkS m o p q = 0) : safeN2 (num p) = true ∧ safeN2 (num q) = true := by
  obtain ⟨_, _, ht, _, _⟩ := checkS_zero hc
  obtain ⟨⟨a1, a2⟩, ⟨b1, b2⟩, _⟩ := trapS_zero ht
  obtain ⟨_, _, _, p4, p5⟩ := safeS_zero a1 a2
  obtain ⟨_, _, _, q4, q5⟩ := safeS_zero b1 b2
  exact ⟨by unfold safeN2; rw [p4, p5]; rfl, by unfold safeN2; rw [q4, q5]; rfl⟩
theorem squares_same {m o p q x : ByteArray} (hn : num m ≤ 500) : isSquareS m o p q x = isEulS m o p q x := by
  unfold isSquareS isEulS
  by_cases he : elementS m o p q x = 0
  · have hc := (elementS_zero he).chk
    have sg := small_group (by omega) hc
    obtain ⟨s1, s2⟩ := small_safe hc
    have hp2 : 4 ≤ num p := by have := sg.p2; omega
    have hq2 : 4 ≤ num q := by have := sg.q2; omega
    have hpl : num p < 126 := by
      have h1 := sg.hpq
      have h2 : num p * 4 ≤ num p * num q := Nat.mul_le_mul_left _ hq2
      omega
    have hql : num q < 126 := by
      have h1 := sg.hpq
      have h2 : 4 * num q ≤ num p * num q := Nat.mul_le_mul_right _ hp2
      omega
    unfold squareS
    rw [jac_eul s1 hpl (by omega), jac_eul s2 hql (by omega)]
  · rw [decide_eq_false he]
    rfl
theorem handle_gcd {u d : Nat} (hs : isS u = true) (hu : u < 65536) (h : d % u ≠ 0) : Nat.gcd u d = 1 := by
  have hp := isS_24 hs (by omega)
  have h2 := hp.1
  have h3 : Nat.gcd u d ∣ u := Nat.gcd_dvd_left u d
  have h4 : Nat.gcd u d ∣ d := Nat.gcd_dvd_right u d
  have h0 : 0 < Nat.gcd u d := Nat.gcd_pos_of_pos_left d (by omega)
  have h5 := Nat.le_of_dvd (by omega) h3
  rcases Nat.lt_or_ge (Nat.gcd u d) 2 with h6 | h6
  · omega
  · rcases Nat.lt_or_ge (Nat.gcd u d) u with h7 | h7
    · exact absurd (Nat.mod_eq_zero_of_dvd h3) (hp.no h6 h7)
    · exfalso
      have e : Nat.gcd u d = u := by omega
      rw [e] at h4
      exact h (Nat.mod_eq_zero_of_dvd h4)
theorem eul_raise {m p x : Nat} (hpm : p ∣ m) (p1 : 1 < p) (h : eulS x p = true) (l : List ByteArray) : eulS (raiseN m l x) p = true := by
  induction l generalizing x with
  | nil => exact h
  | cons u l ih =>
    show eulS (raiseN m l (x ^ num u % m)) p = true
    exact ih (by rw [eul_mod hpm]; exact eul_pow p1 h)
end Go.Proofs.YtcpglhjmhegfmaaGreatDoor
