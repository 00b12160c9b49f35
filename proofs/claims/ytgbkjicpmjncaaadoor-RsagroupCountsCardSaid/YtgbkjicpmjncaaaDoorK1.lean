/- The law RsagroupCounts in plain numbers: a finite check for the moduli up to 1000. -/
import Derived.Test.YtgbkjicpmjncaaaDoorJn
import Derived.Test.YtgbkjicpmjncaaaDoorG5
namespace Go.Proofs.YtgbkjicpmjncaaaDoor
set_option maxRecDepth 100000
set_option linter.unusedVariables false

/-- One digit of a row of counts, kept as one number. -/
def dig (S i : Nat) : Nat := S / 128 ^ i % 128
theorem dig_zero (i : Nat) : dig 0 i = 0 := by unfold dig; simp
theorem dig_parts {h c l i : Nat} (hc : c < 128) (hl : l < 128 ^ i) (j : Nat) :
    dig (h * 128 ^ (i + 1) + c * 128 ^ i + l) j = if j = i then c else if j < i then dig l j else dig h (j - i - 1) := by
  have hp : 0 < 128 ^ i := Nat.pow_pos (by decide)
  have e : h * 128 ^ (i + 1) + c * 128 ^ i + l = (h * 128 + c) * 128 ^ i + l := by rw [Nat.pow_succ, Nat.add_mul, Nat.mul_assoc h, Nat.mul_comm (128 ^ i) 128]
  have hd : ((h * 128 + c) * 128 ^ i + l) / 128 ^ i = h * 128 + c := by
    rw [Nat.mul_comm, Nat.mul_add_div hp, Nat.div_eq_of_lt hl, Nat.add_zero]
  rw [e]
  unfold dig
  by_cases h1 : j = i
  · subst h1; rw [if_pos rfl, hd]; omega
  · rw [if_neg h1]
    by_cases h2 : j < i
    · rw [if_pos h2]
      obtain ⟨d, rfl⟩ : ∃ d, i = j + (d + 1) := ⟨i - j - 1, by omega⟩
      have hpj : 0 < 128 ^ j := Nat.pow_pos (by decide)
      have e2 : (h * 128 + c) * 128 ^ (j + (d + 1)) + l = 128 ^ j * ((h * 128 + c) * 128 ^ d * 128) + l := by
        rw [Nat.pow_add, Nat.pow_succ]
        congr 1
        rw [← Nat.mul_assoc, Nat.mul_comm (h * 128 + c), Nat.mul_assoc, Nat.mul_assoc]
      rw [e2, Nat.mul_add_div hpj]
      omega
    · rw [if_neg h2]
      obtain ⟨d, rfl⟩ : ∃ d, j = i + (d + 1) := ⟨j - i - 1, by omega⟩
      rw [Nat.pow_add, ← Nat.div_div_eq_div_mul, hd, show i + (d + 1) - i - 1 = d by omega, Nat.pow_succ, Nat.mul_comm (128 ^ d) 128, ← Nat.div_div_eq_div_mul]
      congr 2
      omega
theorem parts (S i : Nat) : S = S / 128 ^ (i + 1) * 128 ^ (i + 1) + dig S i * 128 ^ i + S % 128 ^ i := by
  have h1 := Nat.div_add_mod S (128 ^ i)
  have h2 := Nat.div_add_mod (S / 128 ^ i) 128
  have e : S / 128 ^ (i + 1) = S / 128 ^ i / 128 := by rw [Nat.pow_succ, ← Nat.div_div_eq_div_mul]
  unfold dig
  rw [e, Nat.pow_succ]
  generalize S / 128 ^ i = a at *
  have e3 : a / 128 * (128 ^ i * 128) + a % 128 * 128 ^ i = 128 ^ i * a := by
    conv => rhs; rw [← h2]
    rw [Nat.mul_add, Nat.mul_comm (a % 128)]
    congr 1
    ac_rfl
  omega
theorem dig_lt (S i : Nat) : dig S i < 128 := Nat.mod_lt _ (by decide)
theorem dig_eq (S i j : Nat) (c : Nat) (hc : c < 128) : dig (S / 128 ^ (i + 1) * 128 ^ (i + 1) + c * 128 ^ i + S % 128 ^ i) j = if j = i then c else dig S j := by
  have hl := Nat.mod_lt S (show 0 < 128 ^ i from Nat.pow_pos (by decide))
  rw [dig_parts hc hl]
  by_cases h : j = i
  · rw [if_pos h, if_pos h]
  · rw [if_neg h, if_neg h]
    conv => rhs; rw [parts S i]
    rw [dig_parts (dig_lt S i) hl, if_neg h]
theorem dig_inc {S i : Nat} (h : dig S i < 100) (j : Nat) : dig (S + 128 ^ i) j = if j = i then dig S i + 1 else dig S j := by
  rw [← dig_eq S i j (dig S i + 1) (by omega)]
  congr 1
  have := parts S i
  rw [Nat.add_mul]
  omega
theorem dig_clear {S i : Nat} (h : dig S i = 4) (j : Nat) : dig (S - 4 * 128 ^ i) j = if j = i then 0 else dig S j := by
  rw [← dig_eq S i j 0 (by decide)]
  congr 1
  have := parts S i
  rw [h] at this
  omega

/-- The third loop: every power of the generator has four roots, once. -/
def loop3 (n g : Nat) : Nat → Nat → Nat → Bool
  | 0, _, x => x == 1
  | f + 1, S, x => (dig S x == 4) && loop3 n g f (S - 4 * 128 ^ x) (x * g % n)
/-- The test for a generator. -/
def genB (x p q : Nat) : Bool := sqB x p q && (!decide (x % p = 1) && !decide (x % q = 1))
/-- The second loop, then the third. -/
def loop2 (n p q m S : Nat) : Nat → Nat → Nat → Nat → Bool
  | 0, _, c, g => (c == m) && ((g != 0) && loop3 n g m S 1)
  | f + 1, x, c, g =>
    if Nat.gcd x n = 1 then
      (sqB x p q == decide (0 < dig S x)) && ((!sqB x p q || (dig S x == 4)) && loop2 n p q m S f (x + 1) (if sqB x p q then c + 1 else c) (if genB x p q then x else g))
    else loop2 n p q m S f (x + 1) c g
/-- The first loop, then the others. -/
def loop1 (n p q m : Nat) : Nat → Nat → Nat → Bool
  | 0, _, S => loop2 n p q m S (n - 1) 1 0 0
  | f + 1, x, S => if Nat.gcd x n = 1 then decide (dig S (x * x % n) < 100) && loop1 n p q m f (x + 1) (S + 128 ^ (x * x % n)) else loop1 n p q m f (x + 1) S
def counted (p q : Nat) : Bool := loop1 (p * q) p q ((p - 1) / 2 * ((q - 1) / 2)) (p * q - 1) 1 0
/-- A number and its half pass the test. -/
def safeN (p : Nat) : Bool := isS p && isS ((p - 1) / 2)
def safeL : List Nat := [5, 7, 11, 23, 47, 59, 83, 107, 167, 179, 227, 263, 347, 359, 383, 467, 479]
theorem safeL_eq : (List.range 501).filter safeN = safeL := by decide +kernel
theorem counted_all : (safeL.all fun p => safeL.all fun q => (p == q) || (decide (1000 < p * q) || counted p q)) = true := by decide +kernel
theorem counted_of {p q : Nat} (hp : safeN p = true) (hq : safeN q = true) (p2 : 2 ≤ p) (q2 : 2 ≤ q) (hne : p ≠ q) (hle : p * q ≤ 1000) : counted p q = true := by
  have h1 : p ≤ 500 := by
    have := Nat.mul_le_mul_left p q2
    omega
  have h2 : q ≤ 500 := by
    have := Nat.mul_le_mul_right q p2
    omega
  have m1 : p ∈ safeL := by rw [← safeL_eq, List.mem_filter]; exact ⟨List.mem_range.2 (by omega), hp⟩
  have m2 : q ∈ safeL := by rw [← safeL_eq, List.mem_filter]; exact ⟨List.mem_range.2 (by omega), hq⟩
  have h := List.all_eq_true.1 (List.all_eq_true.1 counted_all p m1) q m2
  simp only [Bool.or_eq_true, beq_iff_eq, decide_eq_true_eq] at h
  rcases h with h | h | h
  · exact absurd h hne
  · omega
  · exact h

end Go.Proofs.YtgbkjicpmjncaaaDoor
