/- Plain law: powers by squaring. -/
import Derived.Test.YtfggpgiinihflaaDoorNat
namespace Go.Proofs.YtfggpgiinihflaaDoor

theorem mul_mod_l (a b m : Nat) : (a % m) * b % m = a * b % m := by
  rw [Nat.mul_mod, Nat.mod_mod, ← Nat.mul_mod]
theorem pow_mod_l (a k m : Nat) : (a % m) ^ k % m = a ^ k % m := by rw [← Nat.pow_mod]
theorem pow_step_odd (x a e m : Nat) (h : e % 2 = 1) : (x * a % m) * (a * a % m) ^ (e / 2) % m = x * a ^ e % m := by
  rw [Nat.mul_mod, pow_mod_l, ← Nat.mul_mod, mul_mod_l]
  congr 1
  conv => rhs; rw [show e = 1 + 2 * (e / 2) by omega, Nat.pow_add, Nat.pow_mul]
  rw [Nat.pow_one, Nat.pow_two, Nat.mul_assoc]
theorem pow_step_even (x a e m : Nat) (h : e % 2 ≠ 1) : x * (a * a % m) ^ (e / 2) % m = x * a ^ e % m := by
  rw [Nat.mul_mod, pow_mod_l, ← Nat.mul_mod]
  congr 1
  conv => rhs; rw [show e = 2 * (e / 2) by omega, Nat.pow_mul]
  rw [Nat.pow_two]

end Go.Proofs.YtfggpgiinihflaaDoor
