/- Plain words for keys and signatures: names, the error of a key, products of powers. -/
import Derived.Test.YtkdbemdobfddoaaGreatDoorUU
namespace Go.Proofs.YtkdbemdobfddoaaGreatDoor
open Go.RowKit
set_option maxRecDepth 100000
set_option linter.unusedVariables false

/-- The product of powers, exact. -/
def pwE (l : List (Nat × Nat)) : Nat := l.foldr (fun p y => p.1 ^ p.2 * y) 1
theorem pwE_nil : pwE [] = 1 := rfl
theorem pwE_cons (p : Nat × Nat) (l : List (Nat × Nat)) : pwE (p :: l) = p.1 ^ p.2 * pwE l := rfl
theorem pwE_append (a b : List (Nat × Nat)) : pwE (a ++ b) = pwE a * pwE b := by
  induction a with
  | nil => simp [pwE_nil]
  | cons p a ih => rw [List.cons_append, pwE_cons, pwE_cons, ih, Nat.mul_assoc]
theorem pwE_snoc (l : List (Nat × Nat)) (p : Nat × Nat) : pwE (l ++ [p]) = pwE l * p.1 ^ p.2 := by rw [pwE_append, pwE_cons, pwE_nil, Nat.mul_one]
/-- The exponents above a digit. -/
def upE (b : Nat) (l : List (Nat × Nat)) : List (Nat × Nat) := l.map fun p => (p.1, p.2 / 2 ^ b)
/-- The exponents' digits at a place. -/
def atE (b : Nat) (l : List (Nat × Nat)) : List (Nat × Nat) := l.map fun p => (p.1, p.2 / 2 ^ b % 2)
theorem pwE_step (b : Nat) (l : List (Nat × Nat)) : pwE (upE (b + 1) l) * pwE (upE (b + 1) l) * pwE (atE b l) = pwE (upE b l) := by
  induction l with
  | nil => rfl
  | cons p l ih =>
    show p.1 ^ (p.2 / 2 ^ (b + 1)) * pwE (upE (b + 1) l) * (p.1 ^ (p.2 / 2 ^ (b + 1)) * pwE (upE (b + 1) l)) * (p.1 ^ (p.2 / 2 ^ b % 2) * pwE (atE b l)) = p.1 ^ (p.2 / 2 ^ b) * pwE (upE b l)
    rw [← ih]
    have e : p.2 / 2 ^ b = p.2 / 2 ^ (b + 1) + p.2 / 2 ^ (b + 1) + p.2 / 2 ^ b % 2 := by
      have : p.2 / 2 ^ (b + 1) = p.2 / 2 ^ b / 2 := by rw [Nat.pow_succ, Nat.div_div_eq_div_mul]
      rw [this]
      omega
    generalize p.2 / 2 ^ (b + 1) = u at *
    generalize p.2 / 2 ^ b % 2 = v at *
    rw [e, Nat.pow_add, Nat.pow_add]
    ac_rfl
theorem upE_none {b : Nat} {l : List (Nat × Nat)} (h : ∀ p ∈ l, p.2 < 2 ^ b) : pwE (upE b l) = 1 := by
  induction l with
  | nil => rfl
  | cons p l ih =>
    show p.1 ^ (p.2 / 2 ^ b) * pwE (upE b l) = 1
    rw [ih (fun q hq => h q (List.mem_cons_of_mem _ hq)), Nat.div_eq_of_lt (h p List.mem_cons_self)]
    rfl
theorem upE_zero (l : List (Nat × Nat)) : upE 0 l = l := by
  unfold upE
  simp
/-- What stands behind k factors of a round. -/
def midE (b : Nat) (l : List (Nat × Nat)) (k m : Nat) : Nat := pwE (upE (b + 1) l) * pwE (upE (b + 1) l) * pwE (atE b (l.take k)) % m
theorem midE_zero (b : Nat) (l : List (Nat × Nat)) (m : Nat) : midE b l 0 m = pwE (upE (b + 1) l) % m * (pwE (upE (b + 1) l) % m) % m := by
  unfold midE
  rw [List.take_zero]
  show pwE (upE (b + 1) l) * pwE (upE (b + 1) l) * 1 % m = _
  rw [Nat.mul_one, ← Nat.mul_mod]
theorem midE_full (b : Nat) (l : List (Nat × Nat)) (m : Nat) : midE b l l.length m = pwE (upE b l) % m := by
  unfold midE
  rw [List.take_length, pwE_step]
theorem midE_take {b : Nat} {l : List (Nat × Nat)} {k m : Nat} (hk : k < l.length) : midE b l (k + 1) m = pwE (upE (b + 1) l) * pwE (upE (b + 1) l) * pwE (atE b (l.take k)) * (l.getD k (0, 0)).1 ^ ((l.getD k (0, 0)).2 / 2 ^ b % 2) % m := by
  unfold midE
  have e : l.take (k + 1) = l.take k ++ [l.getD k (0, 0)] := by
    rw [List.take_succ_eq_append_getElem hk, List.getD_eq_getElem?_getD, List.getElem?_eq_getElem hk]
    rfl
  rw [e]
  unfold atE
  rw [List.map_append, List.map_cons, List.map_nil, pwE_snoc, ← Nat.mul_assoc]
theorem midE_off {b : Nat} {l : List (Nat × Nat)} {k m : Nat} (hk : k < l.length) (h : (l.getD k (0, 0)).2 / 2 ^ b % 2 ≠ 1) : midE b l (k + 1) m = midE b l k m := by
  rw [midE_take hk, show (l.getD k (0, 0)).2 / 2 ^ b % 2 = 0 by omega, Nat.pow_zero, Nat.mul_one]
  rfl
theorem midE_on {b : Nat} {l : List (Nat × Nat)} {k m : Nat} (hk : k < l.length) (h : (l.getD k (0, 0)).2 / 2 ^ b % 2 = 1) : midE b l (k + 1) m = midE b l k m * (l.getD k (0, 0)).1 % m := by
  rw [midE_take hk, h, Nat.pow_one]
  unfold midE
  rw [Nat.mod_mul_mod]
/-- The reference's order: one power behind the other. -/
def rfE (m : Nat) (l : List (Nat × Nat)) (x : Nat) : Nat := l.foldl (fun x p => x * (p.1 ^ p.2 % m) % m) x
theorem rfE_eq (m : Nat) (l : List (Nat × Nat)) (x : Nat) (hx : x < m) : rfE m l x = x * pwE l % m := by
  induction l generalizing x with
  | nil => rw [pwE_nil, Nat.mul_one, Nat.mod_eq_of_lt hx]; rfl
  | cons p l ih =>
    show rfE m l (x * (p.1 ^ p.2 % m) % m) = _
    rw [ih _ (Nat.mod_lt _ (by omega)), pwE_cons, Nat.mul_mod_mod, Nat.mod_mul_mod, Nat.mul_assoc]

/-- Names. -/
def byteAt (s : ByteArray) (i : Nat) : Nat := (s.data.toList.getD i 0).toNat
def letterB (c : Nat) : Bool := (decide (97 ≤ c) && decide (c ≤ 122)) || (decide (65 ≤ c) && decide (c ≤ 90))
def nmB (i c : Nat) : Bool := letterB c || (decide (i ≠ 0) && (decide (c = 95) || (decide (48 ≤ c) && decide (c ≤ 57))))
def nmT (s : ByteArray) : Bool := (List.range s.size).all fun i => nmB i (byteAt s i)
def nmS (s : ByteArray) : Bool := nmT s && (!s.toList.isEmpty && decide (s.size ≤ 32))
theorem nmT_no {s : ByteArray} {i : Nat} (hi : i < s.size) (h : nmB i (byteAt s i) = false) : nmS s = false := by
  unfold nmS
  have : nmT s = false := by
    unfold nmT
    rw [List.all_eq_false]
    exact ⟨i, by simpa using hi, by rw [h]; decide⟩
  rw [this]
  rfl
theorem nmT_yes {s : ByteArray} (h : ∀ i, i < s.size → nmB i (byteAt s i) = true) : nmS s = (!s.toList.isEmpty && decide (s.size ≤ 32)) := by
  unfold nmS
  have : nmT s = true := by
    unfold nmT
    rw [List.all_eq_true]
    intro i hi
    exact h i (by simpa using hi)
  rw [this]
  rfl

/-- The error of a key, when the parameters' error is P. -/
def keyE (P : Int) (nm m o z s u h : ByteArray) (rs : List ByteArray) : Int :=
  if P = 0 then (if (m :: o :: s :: z :: u :: h :: rs).all valid = true then (if nmS nm = true then
    (if o.toList.isEmpty = true ∧ groupE m o = 0 then (if 2 ≤ rs.length ∧ rs.length ≤ 18 then
      (if (!(s.toList == (B 1).toList) && (s :: z :: u :: h :: rs).all (hasG m o)) = true then 0 else 13) else 6) else 13) else 1) else 3) else P
/-- The limits of attributes. -/
def limS (se ha at_ : ByteArray) (i : Nat) : ByteArray := if i = 0 then se else if i = 1 then ha else at_
/-- The error of canonical attributes. -/
def attE (se ha at_ : ByteArray) (rs ats : List ByteArray) : Int :=
  if ats.length = rs.length then (if (List.range ats.length).all (fun i => decide (num (ats.getD i ByteArray.empty) < num (limS se ha at_ i))) = true then 0 else 2) else 6
/-- Bases with their exponents. -/
def zipE (rs ats : List ByteArray) : List (Nat × Nat) := List.zipWith (fun r a => (num r, num a)) rs ats
/-- The message of attributes. -/
def msgV (m : ByteArray) (rs ats : List ByteArray) : Nat := pwE (zipE rs ats) % num m
/-- What Message answers. -/
def msgS (K : Int) (m se ha at_ : ByteArray) (rs ats : List ByteArray) : ByteArray × Int :=
  if K = 0 then (if ats.all valid = true then (if attE se ha at_ rs ats = 0 then (B (msgV m rs ats), 0) else (⟨#[]⟩, attE se ha at_ rs ats)) else (⟨#[]⟩, 3)) else (⟨#[]⟩, K)

end Go.Proofs.YtkdbemdobfddoaaGreatDoor
