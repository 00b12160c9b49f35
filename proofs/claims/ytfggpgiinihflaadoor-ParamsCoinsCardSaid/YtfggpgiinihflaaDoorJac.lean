/- Plain law: the symbol of Jacobi, as the program reckons it. -/
import Derived.Test.YtfggpgiinihflaaDoorNat
namespace Go.Proofs.YtfggpgiinihflaaDoor

/-- Halving a number till it is odd: what is left, and the sign. -/
def jacIn : Nat → Nat → Nat → Int → Nat × Int
  | 0, a, _, s => (a, s)
  | f + 1, a, n, s => if a % 2 = 0 then jacIn f (a / 2) n (if n % 8 = 3 ∨ n % 8 = 5 then -s else s) else (a, s)
def jacOut : Nat → Nat → Nat → Int → Int
  | 0, _, _, _ => 0
  | f + 1, a, n, s => if a = 0 then (if n = 1 then s else 0) else
      jacOut f (n % (jacIn a a n s).1) (jacIn a a n s).1 (if (jacIn a a n s).1 % 4 = 3 ∧ n % 4 = 3 then -(jacIn a a n s).2 else (jacIn a a n s).2)
/-- The symbol of a modulo n. -/
def jacS (a n : Nat) : Int := jacOut (a % n + 1) (a % n) n 1
theorem jacIn_even {f a n : Nat} {s : Int} (h : a % 2 = 0) : jacIn (f + 1) a n s = jacIn f (a / 2) n (if n % 8 = 3 ∨ n % 8 = 5 then -s else s) := by
  conv => lhs; unfold jacIn
  rw [if_pos h]
theorem jacIn_odd {f a n : Nat} {s : Int} (h : a % 2 ≠ 0) : jacIn f a n s = (a, s) := by
  cases f with
  | zero => rfl
  | succ f => unfold jacIn; rw [if_neg h]

end Go.Proofs.YtfggpgiinihflaaDoor
