/- Plain law: the test of primality, as the program does it. -/
import Derived.Test.YtfggpgiinihflaaDoorNat
import Derived.Lib.TrailingZeros
namespace Go.Proofs.YtfggpgiinihflaaDoor
open Go

def basesL : List Nat := [2, 3, 5, 7, 11, 13, 17, 19, 23, 29, 31, 37]
/-- The j-th square of the power from which the test begins. -/
def sqr (n x j : Nat) : Nat := x ^ 2 ^ j % n
def tz (n : Nat) : Nat := Lib.ctz 64 (n - 1)
def oddPart (n : Nat) : Nat := (n - 1) / 2 ^ tz n
def first (n a : Nat) : Nat := (a % n) ^ oddPart n % n
def strongB (n a : Nat) : Bool := first n a == 1 || (first n a == n - 1 || (List.range (tz n - 1)).any fun j => sqr n (first n a) (j + 1) == n - 1)
def isS (n : Nat) : Bool :=
  if n < 2 then false else
    match basesL.find? (fun p => n % p == 0) with
    | some p => n == p
    | none => basesL.all (strongB n)
theorem isS_small {n : Nat} (h : n < 2) : isS n = false := by unfold isS; rw [if_pos h]
theorem find_at {l : List Nat} {p : Nat → Bool} {k : Nat} (hk : k < l.length) (h : ∀ j, j < k → p (l.getD j 0) = false) (hp : p (l.getD k 0) = true) : l.find? p = some (l.getD k 0) := by
  induction l generalizing k with
  | nil => simp at hk
  | cons a l ih =>
    cases k with
    | zero =>
      have : p a = true := hp
      simp [List.find?, this, List.getD]
    | succ k =>
      have h0 : p a = false := h 0 (by omega)
      rw [List.find?, h0]
      have := ih (k := k) (by simpa using hk) (fun j hj => h (j + 1) (by omega)) hp
      exact this
theorem find_none {l : List Nat} {p : Nat → Bool} (h : ∀ j, j < l.length → p (l.getD j 0) = false) : l.find? p = none := by
  rw [List.find?_eq_none]
  intro x hx
  obtain ⟨j, hj, rfl⟩ := List.getElem_of_mem hx
  have := h j hj
  simp [List.getD, hj] at this
  simpa using this
theorem all_of {l : List Nat} {p : Nat → Bool} (h : ∀ j, j < l.length → p (l.getD j 0) = true) : l.all p = true := by
  rw [List.all_eq_true]
  intro x hx
  obtain ⟨j, hj, rfl⟩ := List.getElem_of_mem hx
  have := h j hj
  simpa [List.getD, hj] using this
theorem all_not {l : List Nat} {p : Nat → Bool} {k : Nat} (hk : k < l.length) (h : p (l.getD k 0) = false) : l.all p = false := by
  rw [List.all_eq_false]
  exact ⟨l[k], List.getElem_mem hk, by simpa [List.getD, hk] using h⟩
theorem isS_hit {n k : Nat} (h2 : 2 ≤ n) (hk : k < 12) (h : ∀ j, j < k → n % basesL.getD j 0 ≠ 0) (hp : n % basesL.getD k 0 = 0) : isS n = (n == basesL.getD k 0) := by
  unfold isS
  rw [if_neg (by omega), find_at (p := fun p => n % p == 0) hk (fun j hj => by simpa using h j hj) (by simpa using hp)]
theorem isS_rest {n : Nat} (h2 : 2 ≤ n) (h : ∀ j, j < 12 → n % basesL.getD j 0 ≠ 0) : isS n = basesL.all (strongB n) := by
  unfold isS
  rw [if_neg (by omega), find_none (p := fun p => n % p == 0) (fun j hj => by simpa using h j hj)]
theorem isS_yes {n : Nat} (h2 : 2 ≤ n) (h : ∀ j, j < 12 → n % basesL.getD j 0 ≠ 0) (hs : ∀ j, j < 12 → strongB n (basesL.getD j 0) = true) : isS n = true := by
  rw [isS_rest h2 h]; exact all_of hs
theorem isS_no {n k : Nat} (h2 : 2 ≤ n) (h : ∀ j, j < 12 → n % basesL.getD j 0 ≠ 0) (hk : k < 12) (hs : strongB n (basesL.getD k 0) = false) : isS n = false := by
  rw [isS_rest h2 h]; exact all_not hk hs
theorem sqr_zero {n x : Nat} (h : x < n) : sqr n x 0 = x := by simp [sqr, Nat.mod_eq_of_lt h]
theorem sqr_succ (n x j : Nat) : sqr n x j * sqr n x j % n = sqr n x (j + 1) := by
  unfold sqr
  rw [← Nat.mul_mod, ← Nat.pow_add, ← Nat.two_mul, Nat.pow_succ, Nat.mul_comm 2]
theorem strong_one {n a : Nat} (h : first n a = 1) : strongB n a = true := by unfold strongB; rw [h]; rfl
theorem strong_last {n a : Nat} (h : first n a = n - 1) : strongB n a = true := by unfold strongB; rw [h]; simp
theorem strong_sqr {n a i : Nat} (h1 : 1 ≤ i) (hi : i < tz n) (h : sqr n (first n a) i = n - 1) : strongB n a = true := by
  unfold strongB
  have : ((List.range (tz n - 1)).any fun j => sqr n (first n a) (j + 1) == n - 1) = true := by
    rw [List.any_eq_true]
    exact ⟨i - 1, List.mem_range.2 (by omega), by rw [show i - 1 + 1 = i by omega]; simpa using h⟩
  rw [this]; simp
theorem strong_not {n a : Nat} (h1 : first n a ≠ 1) (h2 : first n a ≠ n - 1) (h : ∀ i, 1 ≤ i → i < tz n → sqr n (first n a) i ≠ n - 1) : strongB n a = false := by
  unfold strongB
  have : ((List.range (tz n - 1)).any fun j => sqr n (first n a) (j + 1) == n - 1) = false := by
    rw [List.any_eq_false]
    intro j hj
    have := h (j + 1) (by omega) (by have := List.mem_range.1 hj; omega)
    simpa using this
  rw [this]
  simp [h1, h2]
theorem base_pos : ∀ j, j < 12 → 2 ≤ basesL.getD j 0 ∧ basesL.getD j 0 ≤ 37 := by decide
theorem tz_lt {n : Nat} (h1 : 2 ≤ n) (h : n < 18446744073709551616) : tz n < 64 := (Lib.lowest_bit 64 (n - 1) (by omega) (by omega)).2

end Go.Proofs.YtfggpgiinihflaaDoor
