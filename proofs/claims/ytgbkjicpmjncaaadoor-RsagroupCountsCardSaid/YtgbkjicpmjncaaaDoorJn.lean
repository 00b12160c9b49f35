/- Plain law: products of squares. No program in sight. -/
import Derived.Test.YtgbkjicpmjncaaaDoorJm
namespace Go.Proofs.YtgbkjicpmjncaaaDoor

/-- Whether x is a square for both moduli. -/
def sqB (x p q : Nat) : Bool := decide (jacS x p = 1) && decide (jacS x q = 1)
theorem jac_pm {a n : Nat} (h : Nat.gcd a n = 1) : jac a n = 1 ∨ jac a n = -1 := by
  unfold jac; rw [if_pos h]; split <;> simp
theorem jac_dvd {a n p : Nat} (h : p ∣ n) : jac (a % n) p = jac a p := by
  rw [← jac_mod (a % n), Nat.mod_mod_of_dvd _ h, jac_mod]
theorem closed_law {a b n p q : Nat} (hn : n = p * q) (op : p % 2 = 1) (oq : q % 2 = 1) (hb : Nat.gcd b n = 1) :
    sqB (b * b % n) p q = true ∧ (sqB a p q = true → sqB (a * b % n) p q = sqB b p q) ∧ (sqB b p q = true → sqB (a * b % n) p q = sqB a p q) := by
  have hp : p ∣ n := ⟨q, hn⟩
  have hq : q ∣ n := ⟨p, by rw [hn, Nat.mul_comm]⟩
  have hbp := jac_pm (Nat.Coprime.coprime_dvd_right hp hb)
  have hbq := jac_pm (Nat.Coprime.coprime_dvd_right hq hb)
  unfold sqB
  rw [jacS_eq op, jacS_eq oq, jacS_eq op, jacS_eq oq, jacS_eq op, jacS_eq oq, jacS_eq op, jacS_eq oq]
  rw [jac_dvd hp, jac_dvd hq, jac_dvd hp, jac_dvd hq, jac_mul op, jac_mul oq, jac_mul op, jac_mul oq]
  refine ⟨?_, fun h => ?_, fun h => ?_⟩
  · rcases hbp with e | e <;> rcases hbq with f | f <;> rw [e, f] <;> rfl
  · simp only [Bool.and_eq_true, decide_eq_true_eq] at h
    rw [h.1, h.2, Int.one_mul, Int.one_mul]
  · simp only [Bool.and_eq_true, decide_eq_true_eq] at h
    rw [h.1, h.2, Int.mul_one, Int.mul_one]
theorem gcd_mul_mod {a b n : Nat} (ha : Nat.gcd a n = 1) (hb : Nat.gcd b n = 1) : Nat.gcd (a * b % n) n = 1 := by
  have h : Nat.gcd (a * b) n = 1 := Nat.Coprime.mul_left ha hb
  rw [Nat.gcd_comm, Nat.gcd_rec, Nat.gcd_comm] at h
  rw [Nat.gcd_comm]
  first | exact h | (rw [Nat.gcd_comm]; exact h)

end Go.Proofs.YtgbkjicpmjncaaaDoor
