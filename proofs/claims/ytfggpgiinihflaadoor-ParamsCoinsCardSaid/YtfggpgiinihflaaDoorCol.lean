/- Plain law: a product column by column. -/
import Derived.Test.YtfggpgiinihflaaDoorSpec
namespace Go.Proofs.YtfggpgiinihflaaDoor

/-- The number of some columns, the one of weight 1 first. -/
def ev : List Nat → Nat
  | [] => 0
  | c :: l => c + 256 * ev l
theorem ev_zeros (n : Nat) : ev (List.replicate n 0) = 0 := by
  induction n with
  | zero => rfl
  | succ n ih => rw [List.replicate_succ]; simp [ev, ih]
theorem ev_set (L : List Nat) (k d : Nat) (h : k < L.length) : ev (L.set k (L.getD k 0 + d)) = ev L + d * 256 ^ k := by
  induction L generalizing k with
  | nil => simp at h
  | cons c l ih =>
    cases k with
    | zero => simp [ev]; omega
    | succ k =>
      have := ih k (by simpa using h)
      have e : (c :: l).getD (k + 1) 0 = l.getD k 0 := by simp [List.getD]
      rw [e, List.set_cons_succ]
      show c + 256 * ev (l.set k (l.getD k 0 + d)) = c + 256 * ev l + d * 256 ^ (k + 1)
      rw [this, Nat.pow_succ, Nat.mul_add, show 256 * (d * 256 ^ k) = d * (256 ^ k * 256) by rw [Nat.mul_comm, Nat.mul_assoc]]
      omega
theorem ev_split (L : List Nat) (i : Nat) : ev L = ev (L.take i) + 256 ^ i * ev (L.drop i) := by
  induction i generalizing L with
  | zero => simp [ev]
  | succ i ih =>
    cases L with
    | nil => simp [ev]
    | cons c l =>
      show c + 256 * ev l = c + 256 * ev (l.take i) + 256 ^ (i + 1) * ev (l.drop i)
      rw [ih l, Nat.pow_succ, Nat.mul_add, ← Nat.mul_assoc, Nat.mul_comm 256 (256 ^ i)]
      omega
theorem ev_drop (L : List Nat) (i : Nat) (h : i < L.length) : ev (L.drop i) = L.getD i 0 + 256 * ev (L.drop (i + 1)) := by
  rw [List.drop_eq_getElem_cons h]
  simp [ev, List.getD, h]
theorem ev_take_succ (L : List Nat) (i : Nat) (h : i < L.length) : ev (L.take (i + 1)) = ev (L.take i) + 256 ^ i * L.getD i 0 := by
  have h1 := ev_split L i
  have h2 := ev_split L (i + 1)
  have e : 256 ^ i * 256 = 256 ^ (i + 1) := rfl
  rw [ev_drop L i h, Nat.mul_add, ← Nat.mul_assoc, e] at h1
  omega
/-- The carry into the column i. -/
def colCarry (L : List Nat) (i : Nat) : Nat := ev (L.take i) / 256 ^ i
theorem colCarry_zero (L : List Nat) : colCarry L 0 = 0 := by simp [colCarry, ev]
theorem colCarry_sum (L : List Nat) (i : Nat) (h : i < L.length) : colCarry L i + L.getD i 0 = ev (L.take (i + 1)) / 256 ^ i := by
  rw [ev_take_succ L i h, Nat.add_mul_div_left _ _ (Nat.pow_pos (by omega))]
  rfl
theorem colCarry_next (L : List Nat) (i : Nat) (h : i < L.length) : (colCarry L i + L.getD i 0) / 256 = colCarry L (i + 1) := by
  rw [colCarry_sum L i h, Nat.div_div_eq_div_mul, ← Nat.pow_succ]; rfl
theorem colCarry_digit (L : List Nat) (i : Nat) (h : i < L.length) : (colCarry L i + L.getD i 0) % 256 = ev L / 256 ^ i % 256 := by
  rw [colCarry_sum L i h, ev_split L (i + 1), Nat.pow_succ, Nat.mul_assoc, Nat.add_mul_div_left _ _ (Nat.pow_pos (by omega))]
  omega
theorem colCarry_le (L : List Nat) (M : Nat) (hM : ∀ k, L.getD k 0 ≤ M) (i : Nat) (h : i ≤ L.length) : colCarry L i ≤ M := by
  induction i with
  | zero => rw [colCarry_zero]; omega
  | succ i ih =>
    rw [← colCarry_next L i (by omega)]
    have := ih (by omega)
    have := hM i
    omega
theorem getD_set_le (L : List Nat) (M d k : Nat) (hM : ∀ j, L.getD j 0 ≤ M) (j : Nat) : (L.set k (L.getD k 0 + d)).getD j 0 ≤ M + d := by
  have h1 := hM k
  have h2 := hM j
  by_cases hj : j < L.length
  · by_cases e : k = j
    · subst e
      simp only [List.getD, List.getElem?_set_self hj, Option.getD_some] at h1 ⊢
      omega
    · rw [List.getD, List.getElem?_set_ne e]
      have : L[j]?.getD 0 ≤ M := h2
      omega
  · rw [List.getD, List.getElem?_eq_none (by simp; omega)]
    simp
/-- One row of a product, one digit more. -/
theorem prod_step (x b q i j : Nat) (hq : b / 256 ^ j % 256 = q) (xd : Nat) : x + xd * 256 ^ i * (b % 256 ^ j) + xd * q * 256 ^ (i + j) = x + xd * 256 ^ i * (b % 256 ^ (j + 1)) := by
  subst hq
  rw [Nat.pow_succ, Nat.mod_mul, Nat.mul_add, Nat.pow_add]
  have : xd * (b / 256 ^ j % 256) * (256 ^ i * 256 ^ j) = xd * 256 ^ i * (256 ^ j * (b / 256 ^ j % 256)) := by
    generalize b / 256 ^ j % 256 = r
    generalize 256 ^ i = p
    generalize 256 ^ j = s
    rw [Nat.mul_assoc xd p, Nat.mul_assoc xd r]
    congr 1
    rw [Nat.mul_comm r, Nat.mul_assoc p]
  omega
theorem prod_row (a b i : Nat) (xd : Nat) (hx : a / 256 ^ i % 256 = xd) : (a % 256 ^ i) * b + xd * 256 ^ i * b = (a % 256 ^ (i + 1)) * b := by
  subst hx
  rw [Nat.pow_succ, Nat.mod_mul, Nat.add_mul, Nat.mul_comm (256 ^ i)]

end Go.Proofs.YtfggpgiinihflaaDoor
