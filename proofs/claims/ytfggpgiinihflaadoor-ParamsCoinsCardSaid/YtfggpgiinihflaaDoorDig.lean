/- Plain law: sums and differences digit by digit. -/
import Derived.Test.YtfggpgiinihflaaDoorSpec
namespace Go.Proofs.YtfggpgiinihflaaDoor

/-- The carry of a sum into the digit i. -/
def carryAt (x y i : Nat) : Nat := (x % 256 ^ i + y % 256 ^ i) / 256 ^ i
theorem carryAt_zero (x y : Nat) : carryAt x y 0 = 0 := by simp [carryAt, Nat.mod_one]
theorem carryAt_le (x y i : Nat) : carryAt x y i ≤ 1 := by
  unfold carryAt
  have hp : 0 < 256 ^ i := Nat.pow_pos (by omega)
  have h1 := Nat.mod_lt x hp
  have h2 := Nat.mod_lt y hp
  have : (x % 256 ^ i + y % 256 ^ i) / 256 ^ i < 2 := Nat.div_lt_of_lt_mul (by omega)
  omega
theorem split_div (p : Nat) (hp : 0 < p) (r q : Nat) : (r + p * q) / p = r / p + q := Nat.add_mul_div_left r q hp
theorem carryAt_sum (x y i : Nat) : carryAt x y i + (x / 256 ^ i % 256 + y / 256 ^ i % 256) = (x % 256 ^ (i + 1) + y % 256 ^ (i + 1)) / 256 ^ i := by
  unfold carryAt
  have hp : 0 < 256 ^ i := Nat.pow_pos (by omega)
  rw [Nat.pow_succ, Nat.mod_mul, Nat.mod_mul]
  generalize 256 ^ i = p at *
  rw [show x % p + p * (x / p % 256) + (y % p + p * (y / p % 256)) = (x % p + y % p) + p * (x / p % 256 + y / p % 256) by rw [Nat.mul_add]; omega]
  rw [split_div p hp]
theorem carryAt_next (x y i : Nat) : (carryAt x y i + (x / 256 ^ i % 256 + y / 256 ^ i % 256)) / 256 = carryAt x y (i + 1) := by
  rw [carryAt_sum, Nat.div_div_eq_div_mul, ← Nat.pow_succ]; rfl
theorem carryAt_digit (x y i : Nat) : (carryAt x y i + (x / 256 ^ i % 256 + y / 256 ^ i % 256)) % 256 = (x + y) / 256 ^ i % 256 := by
  have hp : 0 < 256 ^ i := Nat.pow_pos (by omega)
  have e : (x + y) / 256 ^ i = carryAt x y i + (x / 256 ^ i + y / 256 ^ i) := by
    unfold carryAt
    generalize 256 ^ i = p at *
    conv => lhs; rw [← Nat.mod_add_div x p, ← Nat.mod_add_div y p]
    rw [show x % p + p * (x / p) + (y % p + p * (y / p)) = (x % p + y % p) + p * (x / p + y / p) by rw [Nat.mul_add]; omega]
    rw [split_div p hp]
  rw [e]
  omega

/-- The borrow of a difference out of the digit i. -/
def borrowAt (x y i : Nat) : Nat := if x % 256 ^ i < y % 256 ^ i then 1 else 0
theorem borrowAt_zero (x y : Nat) : borrowAt x y 0 = 0 := by simp [borrowAt, Nat.mod_one]
theorem borrowAt_le (x y i : Nat) : borrowAt x y i ≤ 1 := by unfold borrowAt; split <;> omega
theorem borrow_core (p a b c d : Nat) (ha : a < p) (hb : b < p) : ((a + p * c < b + p * d) ↔ (c < d + (if a < b then 1 else 0))) := by
  have h1 : c < d → p * c + p ≤ p * d := fun h => by
    have := Nat.mul_le_mul_left p (show c + 1 ≤ d by omega)
    rw [Nat.mul_add, Nat.mul_one] at this
    exact this
  have h2 : d < c → p * d + p ≤ p * c := fun h => by
    have := Nat.mul_le_mul_left p (show d + 1 ≤ c by omega)
    rw [Nat.mul_add, Nat.mul_one] at this
    exact this
  rcases Nat.lt_trichotomy c d with h | h | h
  · have := h1 h
    constructor <;> intro _ <;> (first | omega | (split <;> omega))
  · subst h
    split <;> constructor <;> intro _ <;> omega
  · have := h2 h
    split <;> constructor <;> intro _ <;> omega
theorem borrowAt_next (x y i : Nat) : borrowAt x y (i + 1) = if x / 256 ^ i % 256 < y / 256 ^ i % 256 + borrowAt x y i then 1 else 0 := by
  unfold borrowAt
  have hp : 0 < 256 ^ i := Nat.pow_pos (by omega)
  rw [Nat.pow_succ, Nat.mod_mul, Nat.mod_mul]
  have h1 := Nat.mod_lt x hp
  have h2 := Nat.mod_lt y hp
  generalize 256 ^ i = p at *
  have := borrow_core p (x % p) (y % p) (x / p % 256) (y / p % 256) h1 h2
  by_cases h : x % p + p * (x / p % 256) < y % p + p * (y / p % 256)
  · rw [if_pos h, if_pos (this.1 h)]
  · rw [if_neg h, if_neg (fun h' => h (this.2 h'))]
theorem borrowAt_div (x y i : Nat) (h : y ≤ x) : (x - y) / 256 ^ i + y / 256 ^ i + borrowAt x y i = x / 256 ^ i := by
  unfold borrowAt
  have hp : 0 < 256 ^ i := Nat.pow_pos (by omega)
  generalize 256 ^ i = p at *
  have ex := Nat.mod_add_div x p
  have ey := Nat.mod_add_div y p
  have h1 := Nat.mod_lt x hp
  have h2 := Nat.mod_lt y hp
  have key := borrow_core p (x % p) (y % p) (x / p) (y / p) h1 h2
  generalize hxq : x / p = xq at *
  generalize hyq : y / p = yq at *
  generalize hxr : x % p = xr at *
  generalize hyr : y % p = yr at *
  have hle : yq + (if xr < yr then 1 else 0) ≤ xq := by
    have : ¬ (xr + p * xq < yr + p * yq) := by omega
    rw [key] at this
    omega
  by_cases hb : xr < yr
  · rw [if_pos hb] at hle ⊢
    obtain ⟨k, rfl⟩ : ∃ k, xq = yq + 1 + k := ⟨xq - (yq + 1), by omega⟩
    have e : x - y = (p + xr - yr) + p * k := by rw [Nat.mul_add, Nat.mul_add, Nat.mul_one] at ex; omega
    rw [e, split_div p hp, Nat.div_eq_of_lt (by omega)]
    omega
  · rw [if_neg hb] at hle ⊢
    obtain ⟨k, rfl⟩ : ∃ k, xq = yq + k := ⟨xq - yq, by omega⟩
    have e : x - y = (xr - yr) + p * k := by rw [Nat.mul_add] at ex; omega
    rw [e, split_div p hp, Nat.div_eq_of_lt (by omega)]
    omega
theorem borrowAt_digit (x y i : Nat) (h : y ≤ x) : (((x - y) / 256 ^ i % 256 : Nat) : Int) =
    (if (x / 256 ^ i % 256 : Nat) < y / 256 ^ i % 256 + borrowAt x y i then ((x / 256 ^ i % 256 : Nat) : Int) - (y / 256 ^ i % 256 : Nat) - borrowAt x y i + 256 else ((x / 256 ^ i % 256 : Nat) : Int) - (y / 256 ^ i % 256 : Nat) - borrowAt x y i) := by
  have h1 := borrowAt_div x y i h
  have h2 := borrowAt_le x y i
  generalize borrowAt x y i = b at *
  generalize x / 256 ^ i = u at *
  generalize y / 256 ^ i = v at *
  generalize (x - y) / 256 ^ i = d at *
  split <;> omega

end Go.Proofs.YtfggpgiinihflaaDoor
