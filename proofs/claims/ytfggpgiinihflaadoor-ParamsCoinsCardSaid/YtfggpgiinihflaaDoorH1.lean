/- Plain law: SHA-256 and its code in numbers. No program in sight. -/
import Derived.Test.YtfggpgiinihflaaDoorW2
namespace Go.Proofs.YtfggpgiinihflaaDoor
set_option maxRecDepth 100000
set_option linter.unusedVariables false

/-! ### bits of 32-bit words -/
theorem ofInt_u32 (a : Nat) (h : a < 4294967296) : (BitVec.ofInt 32 (a : Int)).toNat = a := by
  rw [BitVec.toNat_ofInt]
  omega
theorem wrap_u32_nat (a : Nat) (h : a < 4294967296) : IntKind.u32.wrap (a : Int) = (a : Int) := by
  simp only [IntKind.wrap, IntKind.bits, IntKind.signed]
  simp
  omega
theorem u32_and_nat (a b : Nat) (ha : a < 4294967296) (hb : b < 4294967296) : bits .and .u32 (a : Int) (b : Int) = ((a &&& b : Nat) : Int) := by
  have hx : a &&& b < 2 ^ 32 := Nat.and_lt_two_pow _ (by omega)
  show IntKind.u32.wrap ((BitVec.ofInt 32 (a : Int) &&& BitVec.ofInt 32 (b : Int)).toNat : Int) = _
  rw [BitVec.toNat_and, ofInt_u32 a ha, ofInt_u32 b hb, wrap_u32_nat _ (by omega)]
theorem u32_or_nat (a b : Nat) (ha : a < 4294967296) (hb : b < 4294967296) : bits .or .u32 (a : Int) (b : Int) = ((a ||| b : Nat) : Int) := by
  have hx : a ||| b < 2 ^ 32 := Nat.or_lt_two_pow (by omega) (by omega)
  show IntKind.u32.wrap ((BitVec.ofInt 32 (a : Int) ||| BitVec.ofInt 32 (b : Int)).toNat : Int) = _
  rw [BitVec.toNat_or, ofInt_u32 a ha, ofInt_u32 b hb, wrap_u32_nat _ (by omega)]
theorem u32_xor_nat (a b : Nat) (ha : a < 4294967296) (hb : b < 4294967296) : bits .xor .u32 (a : Int) (b : Int) = ((a ^^^ b : Nat) : Int) := by
  have hx : a ^^^ b < 2 ^ 32 := Nat.xor_lt_two_pow (by omega) (by omega)
  show IntKind.u32.wrap ((BitVec.ofInt 32 (a : Int) ^^^ BitVec.ofInt 32 (b : Int)).toNat : Int) = _
  rw [BitVec.toNat_xor, ofInt_u32 a ha, ofInt_u32 b hb, wrap_u32_nat _ (by omega)]

/-! ### the hash -/
abbrev M32 : Nat := 4294967296
def xor32 (a b : Nat) : Nat := a ^^^ b
def and32 (a b : Nat) : Nat := a &&& b
def not32 (a : Nat) : Nat := 4294967295 - a
def add32 (a b : Nat) : Nat := (a + b) % 4294967296
/-- A word turned to the right by n places. -/
def rotr (x n : Nat) : Nat := x / 2 ^ n ||| x * 2 ^ (32 - n) % 4294967296
def xor3 (x a b c : Nat) : Nat := xor32 (xor32 (rotr x a) (rotr x b)) (rotr x c)
def sig0 (x : Nat) : Nat := xor32 (xor32 (rotr x 7) (rotr x 18)) (x / 8)
def sig1 (x : Nat) : Nat := xor32 (xor32 (rotr x 17) (rotr x 19)) (x / 1024)
theorem rotr_lt (x n : Nat) (h : x < 4294967296) (h1 : 1 ≤ n) (h2 : n < 32) : rotr x n < 4294967296 := by
  unfold rotr
  have a : x / 2 ^ n < 2 ^ 32 := Nat.lt_of_le_of_lt (Nat.div_le_self _ _) (by omega)
  have b : x * 2 ^ (32 - n) % 4294967296 < 2 ^ 32 := Nat.mod_lt _ (by decide)
  exact Nat.or_lt_two_pow a b
theorem xor32_lt {a b : Nat} (ha : a < 4294967296) (hb : b < 4294967296) : xor32 a b < 4294967296 := Nat.xor_lt_two_pow (n := 32) ha hb
theorem and32_lt {a b : Nat} (hb : b < 4294967296) : and32 a b < 4294967296 := Nat.and_lt_two_pow (n := 32) _ hb
theorem add32_lt (a b : Nat) : add32 a b < 4294967296 := Nat.mod_lt _ (by decide)
/-- The words of a block: the first sixteen, then each from four earlier ones. -/
def schedF : Nat → List Nat → List Nat
  | 0, l => l
  | k + 1, l => schedF k (l ++ [add32 (add32 (add32 (l.getD (l.length - 16) 0) (sig0 (l.getD (l.length - 15) 0))) (l.getD (l.length - 7) 0)) (sig1 (l.getD (l.length - 2) 0))])
def wordAt (b : List UInt8) (i : Nat) : Nat := (b.getD (4 * i) 0).toNat * 16777216 + (b.getD (4 * i + 1) 0).toNat * 65536 + (b.getD (4 * i + 2) 0).toNat * 256 + (b.getD (4 * i + 3) 0).toNat
def words16 (b : List UInt8) : List Nat := (List.range 16).map (wordAt b)
def sched (b : List UInt8) : List Nat := schedF 48 (words16 b)
def consts : List Nat := [0x428a2f98, 0x71374491, 0xb5c0fbcf, 0xe9b5dba5, 0x3956c25b, 0x59f111f1, 0x923f82a4, 0xab1c5ed5, 0xd807aa98, 0x12835b01, 0x243185be, 0x550c7dc3, 0x72be5d74, 0x80deb1fe, 0x9bdc06a7, 0xc19bf174,
  0xe49b69c1, 0xefbe4786, 0x0fc19dc6, 0x240ca1cc, 0x2de92c6f, 0x4a7484aa, 0x5cb0a9dc, 0x76f988da, 0x983e5152, 0xa831c66d, 0xb00327c8, 0xbf597fc7, 0xc6e00bf3, 0xd5a79147, 0x06ca6351, 0x14292967,
  0x27b70a85, 0x2e1b2138, 0x4d2c6dfc, 0x53380d13, 0x650a7354, 0x766a0abb, 0x81c2c92e, 0x92722c85, 0xa2bfe8a1, 0xa81a664b, 0xc24b8b70, 0xc76c51a3, 0xd192e819, 0xd6990624, 0xf40e3585, 0x106aa070,
  0x19a4c116, 0x1e376c08, 0x2748774c, 0x34b0bcb5, 0x391c0cb3, 0x4ed8aa4a, 0x5b9cca4f, 0x682e6ff3, 0x748f82ee, 0x78a5636f, 0x84c87814, 0x8cc70208, 0x90befffa, 0xa4506ceb, 0xbef9a3f7, 0xc67178f2]
def state0 : List Nat := [0x6a09e667, 0xbb67ae85, 0x3c6ef372, 0xa54ff53a, 0x510e527f, 0x9b05688c, 0x1f83d9ab, 0x5be0cd19]
/-- One round of the compression: the eight words behind it. -/
def roundF (v : List Nat) (k w : Nat) : List Nat :=
  let a := v.getD 0 0; let b := v.getD 1 0; let c := v.getD 2 0; let d := v.getD 3 0; let e := v.getD 4 0; let f := v.getD 5 0; let g := v.getD 6 0; let h := v.getD 7 0
  let t := add32 (add32 (add32 (add32 h (xor3 e 6 11 25)) (xor32 (and32 e f) (and32 (not32 e) g))) k) w
  let u := add32 (xor3 a 2 13 22) (xor32 (xor32 (and32 a b) (and32 a c)) (and32 b c))
  [add32 t u, a, b, c, add32 d t, e, f, g]
def roundsF (v : List Nat) (ws : List Nat) : Nat → List Nat
  | 0 => v
  | k + 1 => roundF (roundsF v ws k) (consts.getD k 0) (ws.getD k 0)
def after (s : List Nat) (b : List UInt8) : List Nat :=
  (List.range 8).map fun i => add32 ((roundsF s (sched b) 64).getD i 0) (s.getD i 0)
/-- The message with its padding. -/
def padded (s : List UInt8) : List UInt8 :=
  s ++ [128] ++ List.replicate ((119 - s.length % 64) % 64) 0 ++ (List.range 8).map fun i => UInt8.ofNat (s.length * 8 / 256 ^ (7 - i))
def blocksF : Nat → List Nat → List UInt8 → List Nat
  | 0, s, _ => s
  | k + 1, s, m => blocksF k (after s (m.take 64)) (m.drop 64)
def outBytes (s : List Nat) : List UInt8 := s.flatMap fun w => [UInt8.ofNat (w / 16777216), UInt8.ofNat (w / 65536), UInt8.ofNat (w / 256), UInt8.ofNat w]
def sumL (s : List UInt8) : List UInt8 := outBytes (blocksF ((padded s).length / 64) state0 (padded s))
def macL (key s : List UInt8) : List UInt8 :=
  let k := if 64 < key.length then sumL key else key
  let pad (x : UInt8) : List UInt8 := (List.range 64).map fun i => k.getD i 0 ^^^ x
  sumL (pad 92 ++ sumL (pad 54 ++ s))
theorem sumL_abc : sumL [97, 98, 99] = [0xba, 0x78, 0x16, 0xbf, 0x8f, 0x01, 0xcf, 0xea, 0x41, 0x41, 0x40, 0xde, 0x5d, 0xae, 0x22, 0x23, 0xb0, 0x03, 0x61, 0xa3, 0x96, 0x17, 0x7a, 0x9c, 0xb4, 0x10, 0xff, 0x61, 0xf2, 0x00, 0x15, 0xad] := by decide +kernel

end Go.Proofs.YtfggpgiinihflaaDoor
