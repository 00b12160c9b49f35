/- Plain law: what the functions on natural numbers return, as functions of strings. No program in sight. -/
import Derived.Test.YtfggpgiinihflaaDoorNat
namespace Go.Proofs.YtfggpgiinihflaaDoor

def E0 : ByteArray := B 0
/-- A number, or the error 5 if it has more than 128 bytes. -/
def fitted (n : Nat) : ByteArray × Int := if n < lim then (B n, 0) else (E0, 5)
def natAdd (a b : ByteArray) : ByteArray × Int := if valid a && valid b then fitted (num a + num b) else (E0, 3)
def natSub (a b : ByteArray) : ByteArray × Int := if valid a && valid b then (if num a < num b then (E0, 2) else (B (num a - num b), 0)) else (E0, 3)
def natMul (a b : ByteArray) : ByteArray × Int := if valid a && valid b then fitted (num a * num b) else (E0, 3)
def natDivMod (a b : ByteArray) : ByteArray × ByteArray × Int :=
  if valid a && valid b then (if num b = 0 then (E0, E0, 11) else (B (num a / num b), B (num a % num b), 0)) else (E0, E0, 3)
def natGcd (a b : ByteArray) : ByteArray × Int := if valid a && valid b then (B (Nat.gcd (num a) (num b)), 0) else (E0, 3)
def cmpN (x y : Nat) : Int := if x < y then -1 else if x = y then 0 else 1
def natCmp (a b : ByteArray) : Int := if valid a && valid b then cmpN (num a) (num b) else 0
def natSmall (a : ByteArray) : Nat × Bool := if valid a && decide (a.size ≤ 8) then (num a, true) else (0, false)
def natBit (a : ByteArray) (i : Nat) : Bool := valid a && (num a / 2 ^ i % 2 == 1)
/-- The number of binary digits. -/
def bitsN (n : Nat) : Nat := if n = 0 then 0 else Nat.log2 n + 1
def natBits (a : ByteArray) : Nat := if valid a then bitsN (num a) else 0

end Go.Proofs.YtfggpgiinihflaaDoor
