/- Plain law: SHA-256 and its code in numbers. No program in sight. The walks of package hash: words in memory, the schedule of a block. The walks of package hash: the schedule of a block. The walks of package hash: the constants and the state at the beginning. -/
import Derived.Test.YtkdbemdobfddoaaGreatDoorBW
import Derived.Laws.Rows
import Derived.StillTailTactics
import Derived.Deep.RegionHeld3
namespace Go.Proofs.YtkdbemdobfddoaaGreatDoor
set_option maxRecDepth 100000
set_option linter.unusedVariables false

/-! ### bits of 32-bit words -/
theorem ofInt_u32 (a : Nat) (h : a < 4294967296) : (BitVec.ofInt 32 (a : Int)).toNat = a := by
  rw [BitVec.toNat_ofInt]
  omega
theorem wrap_u32_nat (a : Nat) (h : a < 4294967296) : IntKind.u32.wrap (a : Int) = (a : Int) := by
  simp only [IntKind.wrap, IntKind.bits, IntKind.signed]
  simp
  omega
theorem u32_and_nat (a b : Nat) (ha : a < 4294967296) (hb : b < 4294967296) : bits .and .u32 (a : Int) (b : Int) = ((a &&& b : Nat) : Int) := by
  have hx : a &&& b < 2 ^ 32 := Nat.and_lt_two_pow _ (by omega)
  show IntKind.u32.wrap ((BitVec.ofInt 32 (a : Int) &&& BitVec.ofInt 32 (b : Int)).toNat : Int) = _
  rw [BitVec.toNat_and, ofInt_u32 a ha, ofInt_u32 b hb, wrap_u32_nat _ (by omega)]
theorem u32_or_nat (a b : Nat) (ha : a < 4294967296) (hb : b < 4294967296) : bits .or .u32 (a : Int) (b : Int) = ((a ||| b : Nat) : Int) := by
  have hx : a ||| b < 2 ^ 32 := Nat.or_lt_two_pow (by omega) (by omega)
  show IntKind.u32.wrap ((BitVec.ofInt 32 (a : Int) ||| BitVec.ofInt 32 (b : Int)).toNat : Int) = _
  rw [BitVec.toNat_or, ofInt_u32 a ha, ofInt_u32 b hb, wrap_u32_nat _ (by omega)]
theorem u32_xor_nat (a b : Nat) (ha : a < 4294967296) (hb : b < 4294967296) : bits .xor .u32 (a : Int) (b : Int) = ((a ^^^ b : Nat) : Int) := by
  have hx : a ^^^ b < 2 ^ 32 := Nat.xor_lt_two_pow (by omega) (by omega)
  show IntKind.u32.wrap ((BitVec.ofInt 32 (a : Int) ^^^ BitVec.ofInt 32 (b : Int)).toNat : Int) = _
  rw [BitVec.toNat_xor, ofInt_u32 a ha, ofInt_u32 b hb, wrap_u32_nat _ (by omega)]

/-! ### the hash -/
abbrev M32 : Nat := 4294967296
def xor32 (a b : Nat) : Nat := a ^^^ b
def and32 (a b : Nat) : Nat := a &&& b
def not32 (a : Nat) : Nat := 4294967295 - a
def add32 (a b : Nat) : Nat := (a + b) % 4294967296
/-- A word turned to the right by n places. -/
def rotr (x n : Nat) : Nat := x / 2 ^ n ||| x * 2 ^ (32 - n) % 4294967296
def xor3 (x a b c : Nat) : Nat := xor32 (xor32 (rotr x a) (rotr x b)) (rotr x c)
def sig0 (x : Nat) : Nat := xor32 (xor32 (rotr x 7) (rotr x 18)) (x / 8)
def sig1 (x : Nat) : Nat := xor32 (xor32 (rotr x 17) (rotr x 19)) (x / 1024)
theorem rotr_lt (x n : Nat) (h : x < 4294967296) (h1 : 1 ≤ n) (h2 : n < 32) : rotr x n < 4294967296 := by
  unfold rotr
  have a : x / 2 ^ n < 2 ^ 32 := Nat.lt_of_le_of_lt (Nat.div_le_self _ _) (by omega)
  have b : x * 2 ^ (32 - n) % 4294967296 < 2 ^ 32 := Nat.mod_lt _ (by decide)
  exact Nat.or_lt_two_pow a b
theorem xor32_lt {a b : Nat} (ha : a < 4294967296) (hb : b < 4294967296) : xor32 a b < 4294967296 := Nat.xor_lt_two_pow (n := 32) ha hb
theorem and32_lt {a b : Nat} (hb : b < 4294967296) : and32 a b < 4294967296 := Nat.and_lt_two_pow (n := 32) _ hb
theorem add32_lt (a b : Nat) : add32 a b < 4294967296 := Nat.mod_lt _ (by decide)
/-- The words of a block: the first sixteen, then each from four earlier ones. -/
def schedF : Nat → List Nat → List Nat
  | 0, l => l
  | k + 1, l => schedF k (l ++ [add32 (add32 (add32 (l.getD (l.length - 16) 0) (sig0 (l.getD (l.length - 15) 0))) (l.getD (l.length - 7) 0)) (sig1 (l.getD (l.length - 2) 0))])
def wordAt (b : List UInt8) (i : Nat) : Nat := (b.getD (4 * i) 0).toNat * 16777216 + (b.getD (4 * i + 1) 0).toNat * 65536 + (b.getD (4 * i + 2) 0).toNat * 256 + (b.getD (4 * i + 3) 0).toNat
def words16 (b : List UInt8) : List Nat := (List.range 16).map (wordAt b)
def sched (b : List UInt8) : List Nat := schedF 48 (words16 b)
def consts : List Nat := [0x428a2f98, 0x71374491, 0xb5c0fbcf, 0xe9b5dba5, 0x3956c25b, 0x59f111f1, 0x923f82a4, 0xab1c5ed5, 0xd807aa98, 0x12835b01, 0x243185be, 0x550c7dc3, 0x72be5d74, 0x80deb1fe, 0x9bdc06a7, 0xc19bf174,
  0xe49b69c1, 0xefbe4786, 0x0fc19dc6, 0x240ca1cc, 0x2de92c6f, 0x4a7484aa, 0x5cb0a9dc, 0x76f988da, 0x983e5152, 0xa831c66d, 0xb00327c8, 0xbf597fc7, 0xc6e00bf3, 0xd5a79147, 0x06ca6351, 0x14292967,
  0x27b70a85, 0x2e1b2138, 0x4d2c6dfc, 0x53380d13, 0x650a7354, 0x766a0abb, 0x81c2c92e, 0x92722c85, 0xa2bfe8a1, 0xa81a664b, 0xc24b8b70, 0xc76c51a3, 0xd192e819, 0xd6990624, 0xf40e3585, 0x106aa070,
  0x19a4c116, 0x1e376c08, 0x2748774c, 0x34b0bcb5, 0x391c0cb3, 0x4ed8aa4a, 0x5b9cca4f, 0x682e6ff3, 0x748f82ee, 0x78a5636f, 0x84c87814, 0x8cc70208, 0x90befffa, 0xa4506ceb, 0xbef9a3f7, 0xc67178f2]
def state0 : List Nat := [0x6a09e667, 0xbb67ae85, 0x3c6ef372, 0xa54ff53a, 0x510e527f, 0x9b05688c, 0x1f83d9ab, 0x5be0cd19]
/-- One round of the compression: the eight words behind it. -/
def roundF (v : List Nat) (k w : Nat) : List Nat :=
  let a := v.getD 0 0; let b := v.getD 1 0; let c := v.getD 2 0; let d := v.getD 3 0; let e := v.getD 4 0; let f := v.getD 5 0; let g := v.getD 6 0; let h := v.getD 7 0
  let t := add32 (add32 (add32 (add32 h (xor3 e 6 11 25)) (xor32 (and32 e f) (and32 (not32 e) g))) k) w
  let u := add32 (xor3 a 2 13 22) (xor32 (xor32 (and32 a b) (and32 a c)) (and32 b c))
  [add32 t u, a, b, c, add32 d t, e, f, g]
def roundsF (v : List Nat) (ws : List Nat) : Nat → List Nat
  | 0 => v
  | k + 1 => roundF (roundsF v ws k) (consts.getD k 0) (ws.getD k 0)
def after (s : List Nat) (b : List UInt8) : List Nat :=
  (List.range 8).map fun i => add32 ((roundsF s (sched b) 64).getD i 0) (s.getD i 0)
/-- The message with its padding. -/
def padded (s : List UInt8) : List UInt8 :=
  s ++ [128] ++ List.replicate ((119 - s.length % 64) % 64) 0 ++ (List.range 8).map fun i => UInt8.ofNat (s.length * 8 / 256 ^ (7 - i))
def blocksF : Nat → List Nat → List UInt8 → List Nat
  | 0, s, _ => s
  | k + 1, s, m => blocksF k (after s (m.take 64)) (m.drop 64)
def outBytes (s : List Nat) : List UInt8 := s.flatMap fun w => [UInt8.ofNat (w / 16777216), UInt8.ofNat (w / 65536), UInt8.ofNat (w / 256), UInt8.ofNat w]
def sumL (s : List UInt8) : List UInt8 := outBytes (blocksF ((padded s).length / 64) state0 (padded s))
def macL (key s : List UInt8) : List UInt8 :=
  let k := if 64 < key.length then sumL key else key
  let pad (x : UInt8) : List UInt8 := (List.range 64).map fun i => k.getD i 0 ^^^ x
  sumL (pad 92 ++ sumL (pad 54 ++ s))
theorem sumL_abc : sumL [97, 98, 99] = [0xba, 0x78, 0x16, 0xbf, 0x8f, 0x01, 0xcf, 0xea, 0x41, 0x41, 0x40, 0xde, 0x5d, 0xae, 0x22, 0x23, 0xb0, 0x03, 0x61, 0xa3, 0x96, 0x17, 0x7a, 0x9c, 0xb4, 0x10, 0xff, 0x61, 0xf2, 0x00, 0x15, 0xad] := by decide +kernel

end Go.Proofs.YtkdbemdobfddoaaGreatDoor

namespace Go.Proofs.YtkdbemdobfddoaaGreatDoor
open Go.RowKit
set_option maxRecDepth 100000
set_option linter.unusedVariables false
set_option maxHeartbeats 1000000

def u32Cells (L : List Nat) : Array Value := (L.map fun (n : Nat) => Value.int .u32 n).toArray
/-- Block g is just these 32-bit words, and may be written. -/
def C32 (w : World) (g : Nat) (T : TypeId) (L : List Nat) : Prop := w.heap[g]? = some (.cells (u32Cells L) T (0, 0))
theorem u32Cells_get (L : List Nat) (k : Nat) (h : k < L.length) : (u32Cells L)[k]? = some (.int .u32 (L.getD k 0 : Nat)) := by
  simp [u32Cells, List.getD, h]
theorem u32Cells_set (L : List Nat) (k n : Nat) : (u32Cells L).setIfInBounds k (.int .u32 n) = u32Cells (L.set k n) := by
  simp [u32Cells, List.map_set]
section
variable {w w' : World} {g : Nat} {T : TypeId} {L : List Nat}
theorem C32.cell (h : C32 w g T L) {k : Nat} (hk : k < L.length) : w.cell? ⟨g, k, none⟩ = some (.int .u32 (L.getD k 0 : Nat)) := by
  unfold C32 at h
  simp only [World.cell?, h]
  exact u32Cells_get L k hk
theorem C32.free (h : C32 w g T L) (k : Nat) : w.frozen? ⟨g, k, none⟩ = false := by
  unfold C32 at h
  simp [World.frozen?, h]
theorem C32.lt (h : C32 w g T L) : g < w.heap.size := by
  rcases Nat.lt_or_ge g w.heap.size with hlt | hge
  · exact hlt
  · unfold C32 at h; rw [Array.getElem?_eq_none hge] at h; cases h
theorem C32.set (h : C32 w g T L) (k n : Nat) : C32 (w.setCell ⟨g, k, none⟩ (.int .u32 n)) g T (L.set k n) := by
  unfold C32 at h ⊢
  rw [← u32Cells_set]
  simp [World.setCell, Array.getElem?_modify, h]
theorem C32.far (h : C32 w g T L) {p : Addr} (hp : g ≠ p.block) (u : Value) : C32 (w.setCell p u) g T L := (Below.heap_setCell w p u g hp).trans h
theorem C32.alloc (h : C32 w g T L) (o : Obj) : C32 (w.alloc o) g T L := (Below.heap_alloc w o g h.lt).trans h
theorem C32.below {B : Nat} (h : C32 w g T L) (hb : Below B w w') (hg : g < B) : C32 w' g T L := (hb.block g hg).trans h
theorem C32.new (w : World) (T : TypeId) (L : List Nat) : C32 (w.alloc (.cells (u32Cells L) T)) w.heap.size T L := heap_alloc_new w _
end

theorem rot_close (x n a b : Nat) (hx : x < 4294967296) (ha : 2 ^ (32 - n) = a) (hb : 2 ^ n = b) : bits .or .u32 ((x : Int) * (a : Int) % 4294967296) ((x : Int) / (b : Int)) = ((rotr x n : Nat) : Int) := by
  have e1 : ((x : Int) * (a : Int) % 4294967296) = ((x * a % 4294967296 : Nat) : Int) := by rw [Int.natCast_emod, Int.natCast_mul]; rfl
  have e2 : ((x : Int) / (b : Int)) = ((x / b : Nat) : Int) := by rw [Int.natCast_ediv]
  rw [e1, e2, u32_or_nat _ _ (Nat.mod_lt _ (by decide)) (Nat.lt_of_le_of_lt (Nat.div_le_self _ _) hx), Nat.or_comm]
  unfold rotr
  rw [ha, hb]
theorem rot_2 (x : Nat) (w : World) (hx : x < 4294967296) :
    Calls Tryz.prog 254 #[.int .u32 x, .int .i64 (-2)] w fun e w' => e = .returned (.int .u32 (rotr x 2 : Nat)) ∧ w = w' := by
  have hb : bits .and .u64 (IntKind.u64.wrap (-2)) 31 = 30 := by decide
  have HC := Lib.hid (rot_close x 2 1073741824 4 hx (by decide) (by decide))
  go_enter Tryz.func254, Tryz.ntmps254
  go_wp2
  go_ret
  exact ⟨ret_int HC.out, rfl⟩
theorem turn_2 (x : Nat) (w : World) (hx : x < 4294967296) :
    Calls Tryz.prog 248 #[.int .u32 x, .int .i64 2] w fun e w' => e = .returned (.int .u32 (rotr x 2 : Nat)) ∧ w = w' := by
  have H := Lib.hid (fun w => rot_2 x w hx)
  go_enter Tryz.func248, Tryz.ntmps248
  go_wp2_with (go_at_call 254; (with_reducible refine (H.out _).mono ?_); rintro e w' ⟨rfl, rfl⟩)
  go_ret
  exact ⟨rfl, rfl⟩
theorem rot_6 (x : Nat) (w : World) (hx : x < 4294967296) :
    Calls Tryz.prog 254 #[.int .u32 x, .int .i64 (-6)] w fun e w' => e = .returned (.int .u32 (rotr x 6 : Nat)) ∧ w = w' := by
  have hb : bits .and .u64 (IntKind.u64.wrap (-6)) 31 = 26 := by decide
  have HC := Lib.hid (rot_close x 6 67108864 64 hx (by decide) (by decide))
  go_enter Tryz.func254, Tryz.ntmps254
  go_wp2
  go_ret
  exact ⟨ret_int HC.out, rfl⟩
theorem turn_6 (x : Nat) (w : World) (hx : x < 4294967296) :
    Calls Tryz.prog 248 #[.int .u32 x, .int .i64 6] w fun e w' => e = .returned (.int .u32 (rotr x 6 : Nat)) ∧ w = w' := by
  have H := Lib.hid (fun w => rot_6 x w hx)
  go_enter Tryz.func248, Tryz.ntmps248
  go_wp2_with (go_at_call 254; (with_reducible refine (H.out _).mono ?_); rintro e w' ⟨rfl, rfl⟩)
  go_ret
  exact ⟨rfl, rfl⟩
theorem rot_7 (x : Nat) (w : World) (hx : x < 4294967296) :
    Calls Tryz.prog 254 #[.int .u32 x, .int .i64 (-7)] w fun e w' => e = .returned (.int .u32 (rotr x 7 : Nat)) ∧ w = w' := by
  have hb : bits .and .u64 (IntKind.u64.wrap (-7)) 31 = 25 := by decide
  have HC := Lib.hid (rot_close x 7 33554432 128 hx (by decide) (by decide))
  go_enter Tryz.func254, Tryz.ntmps254
  go_wp2
  go_ret
  exact ⟨ret_int HC.out, rfl⟩
theorem turn_7 (x : Nat) (w : World) (hx : x < 4294967296) :
    Calls Tryz.prog 248 #[.int .u32 x, .int .i64 7] w fun e w' => e = .returned (.int .u32 (rotr x 7 : Nat)) ∧ w = w' := by
  have H := Lib.hid (fun w => rot_7 x w hx)
  go_enter Tryz.func248, Tryz.ntmps248
  go_wp2_with (go_at_call 254; (with_reducible refine (H.out _).mono ?_); rintro e w' ⟨rfl, rfl⟩)
  go_ret
  exact ⟨rfl, rfl⟩
theorem rot_11 (x : Nat) (w : World) (hx : x < 4294967296) :
    Calls Tryz.prog 254 #[.int .u32 x, .int .i64 (-11)] w fun e w' => e = .returned (.int .u32 (rotr x 11 : Nat)) ∧ w = w' := by
  have hb : bits .and .u64 (IntKind.u64.wrap (-11)) 31 = 21 := by decide
  have HC := Lib.hid (rot_close x 11 2097152 2048 hx (by decide) (by decide))
  go_enter Tryz.func254, Tryz.ntmps254
  go_wp2
  go_ret
  exact ⟨ret_int HC.out, rfl⟩
theorem turn_11 (x : Nat) (w : World) (hx : x < 4294967296) :
    Calls Tryz.prog 248 #[.int .u32 x, .int .i64 11] w fun e w' => e = .returned (.int .u32 (rotr x 11 : Nat)) ∧ w = w' := by
  have H := Lib.hid (fun w => rot_11 x w hx)
  go_enter Tryz.func248, Tryz.ntmps248
  go_wp2_with (go_at_call 254; (with_reducible refine (H.out _).mono ?_); rintro e w' ⟨rfl, rfl⟩)
  go_ret
  exact ⟨rfl, rfl⟩
theorem rot_13 (x : Nat) (w : World) (hx : x < 4294967296) :
    Calls Tryz.prog 254 #[.int .u32 x, .int .i64 (-13)] w fun e w' => e = .returned (.int .u32 (rotr x 13 : Nat)) ∧ w = w' := by
  have hb : bits .and .u64 (IntKind.u64.wrap (-13)) 31 = 19 := by decide
  have HC := Lib.hid (rot_close x 13 524288 8192 hx (by decide) (by decide))
  go_enter Tryz.func254, Tryz.ntmps254
  go_wp2
  go_ret
  exact ⟨ret_int HC.out, rfl⟩
theorem turn_13 (x : Nat) (w : World) (hx : x < 4294967296) :
    Calls Tryz.prog 248 #[.int .u32 x, .int .i64 13] w fun e w' => e = .returned (.int .u32 (rotr x 13 : Nat)) ∧ w = w' := by
  have H := Lib.hid (fun w => rot_13 x w hx)
  go_enter Tryz.func248, Tryz.ntmps248
  go_wp2_with (go_at_call 254; (with_reducible refine (H.out _).mono ?_); rintro e w' ⟨rfl, rfl⟩)
  go_ret
  exact ⟨rfl, rfl⟩
theorem rot_17 (x : Nat) (w : World) (hx : x < 4294967296) :
    Calls Tryz.prog 254 #[.int .u32 x, .int .i64 (-17)] w fun e w' => e = .returned (.int .u32 (rotr x 17 : Nat)) ∧ w = w' := by
  have hb : bits .and .u64 (IntKind.u64.wrap (-17)) 31 = 15 := by decide
  have HC := Lib.hid (rot_close x 17 32768 131072 hx (by decide) (by decide))
  go_enter Tryz.func254, Tryz.ntmps254
  go_wp2
  go_ret
  exact ⟨ret_int HC.out, rfl⟩
theorem turn_17 (x : Nat) (w : World) (hx : x < 4294967296) :
    Calls Tryz.prog 248 #[.int .u32 x, .int .i64 17] w fun e w' => e = .returned (.int .u32 (rotr x 17 : Nat)) ∧ w = w' := by
  have H := Lib.hid (fun w => rot_17 x w hx)
  go_enter Tryz.func248, Tryz.ntmps248
  go_wp2_with (go_at_call 254; (with_reducible refine (H.out _).mono ?_); rintro e w' ⟨rfl, rfl⟩)
  go_ret
  exact ⟨rfl, rfl⟩
theorem rot_18 (x : Nat) (w : World) (hx : x < 4294967296) :
    Calls Tryz.prog 254 #[.int .u32 x, .int .i64 (-18)] w fun e w' => e = .returned (.int .u32 (rotr x 18 : Nat)) ∧ w = w' := by
  have hb : bits .and .u64 (IntKind.u64.wrap (-18)) 31 = 14 := by decide
  have HC := Lib.hid (rot_close x 18 16384 262144 hx (by decide) (by decide))
  go_enter Tryz.func254, Tryz.ntmps254
  go_wp2
  go_ret
  exact ⟨ret_int HC.out, rfl⟩
theorem turn_18 (x : Nat) (w : World) (hx : x < 4294967296) :
    Calls Tryz.prog 248 #[.int .u32 x, .int .i64 18] w fun e w' => e = .returned (.int .u32 (rotr x 18 : Nat)) ∧ w = w' := by
  have H := Lib.hid (fun w => rot_18 x w hx)
  go_enter Tryz.func248, Tryz.ntmps248
  go_wp2_with (go_at_call 254; (with_reducible refine (H.out _).mono ?_); rintro e w' ⟨rfl, rfl⟩)
  go_ret
  exact ⟨rfl, rfl⟩
theorem rot_19 (x : Nat) (w : World) (hx : x < 4294967296) :
    Calls Tryz.prog 254 #[.int .u32 x, .int .i64 (-19)] w fun e w' => e = .returned (.int .u32 (rotr x 19 : Nat)) ∧ w = w' := by
  have hb : bits .and .u64 (IntKind.u64.wrap (-19)) 31 = 13 := by decide
  have HC := Lib.hid (rot_close x 19 8192 524288 hx (by decide) (by decide))
  go_enter Tryz.func254, Tryz.ntmps254
  go_wp2
  go_ret
  exact ⟨ret_int HC.out, rfl⟩
theorem turn_19 (x : Nat) (w : World) (hx : x < 4294967296) :
    Calls Tryz.prog 248 #[.int .u32 x, .int .i64 19] w fun e w' => e = .returned (.int .u32 (rotr x 19 : Nat)) ∧ w = w' := by
  have H := Lib.hid (fun w => rot_19 x w hx)
  go_enter Tryz.func248, Tryz.ntmps248
  go_wp2_with (go_at_call 254; (with_reducible refine (H.out _).mono ?_); rintro e w' ⟨rfl, rfl⟩)
  go_ret
  exact ⟨rfl, rfl⟩
theorem rot_22 (x : Nat) (w : World) (hx : x < 4294967296) :
    Calls Tryz.prog 254 #[.int .u32 x, .int .i64 (-22)] w fun e w' => e = .returned (.int .u32 (rotr x 22 : Nat)) ∧ w = w' := by
  have hb : bits .and .u64 (IntKind.u64.wrap (-22)) 31 = 10 := by decide
  have HC := Lib.hid (rot_close x 22 1024 4194304 hx (by decide) (by decide))
  go_enter Tryz.func254, Tryz.ntmps254
  go_wp2
  go_ret
  exact ⟨ret_int HC.out, rfl⟩
theorem turn_22 (x : Nat) (w : World) (hx : x < 4294967296) :
    Calls Tryz.prog 248 #[.int .u32 x, .int .i64 22] w fun e w' => e = .returned (.int .u32 (rotr x 22 : Nat)) ∧ w = w' := by
  have H := Lib.hid (fun w => rot_22 x w hx)
  go_enter Tryz.func248, Tryz.ntmps248
  go_wp2_with (go_at_call 254; (with_reducible refine (H.out _).mono ?_); rintro e w' ⟨rfl, rfl⟩)
  go_ret
  exact ⟨rfl, rfl⟩
theorem rot_25 (x : Nat) (w : World) (hx : x < 4294967296) :
    Calls Tryz.prog 254 #[.int .u32 x, .int .i64 (-25)] w fun e w' => e = .returned (.int .u32 (rotr x 25 : Nat)) ∧ w = w' := by
  have hb : bits .and .u64 (IntKind.u64.wrap (-25)) 31 = 7 := by decide
  have HC := Lib.hid (rot_close x 25 128 33554432 hx (by decide) (by decide))
  go_enter Tryz.func254, Tryz.ntmps254
  go_wp2
  go_ret
  exact ⟨ret_int HC.out, rfl⟩
theorem turn_25 (x : Nat) (w : World) (hx : x < 4294967296) :
    Calls Tryz.prog 248 #[.int .u32 x, .int .i64 25] w fun e w' => e = .returned (.int .u32 (rotr x 25 : Nat)) ∧ w = w' := by
  have H := Lib.hid (fun w => rot_25 x w hx)
  go_enter Tryz.func248, Tryz.ntmps248
  go_wp2_with (go_at_call 254; (with_reducible refine (H.out _).mono ?_); rintro e w' ⟨rfl, rfl⟩)
  go_ret
  exact ⟨rfl, rfl⟩

end Go.Proofs.YtkdbemdobfddoaaGreatDoor

namespace Go.Proofs.YtkdbemdobfddoaaGreatDoor
open Go.RowKit
set_option maxRecDepth 100000
set_option linter.unusedVariables false
set_option maxHeartbeats 2000000

/-- The words that are laid after k rounds of the first loop. -/
def firstW (b : List UInt8) (k : Nat) : List Nat := (List.range k).map (wordAt b) ++ List.replicate (64 - k) 0
theorem wrap_add32 (a b : Nat) : ((a : Int) + (b : Int)) % 4294967296 = ((add32 a b : Nat) : Int) := by
  unfold add32
  omega
theorem xor_part (x a b d : Nat) (hx : x < 4294967296) (ha : 1 ≤ a) (ha2 : a < 32) (hb : 1 ≤ b) (hb2 : b < 32) :
    bits .xor .u32 (bits .xor .u32 ((rotr x a : Nat) : Int) ((rotr x b : Nat) : Int)) ((x : Int) / (d : Int)) = ((xor32 (xor32 (rotr x a) (rotr x b)) (x / d) : Nat) : Int) := by
  have e : (x : Int) / (d : Int) = ((x / d : Nat) : Int) := by rw [Int.natCast_ediv]
  rw [e, u32_xor_nat _ _ (rotr_lt _ _ hx ha ha2) (rotr_lt _ _ hx hb hb2)]
  exact u32_xor_nat _ _ (xor32_lt (rotr_lt _ _ hx ha ha2) (rotr_lt _ _ hx hb hb2)) (Nat.lt_of_le_of_lt (Nat.div_le_self _ _) hx)
theorem sched_word (z x u y : Nat) (hx : x < 4294967296) (hy : y < 4294967296) :
    ((((z : Int) + bits .xor .u32 (bits .xor .u32 ((rotr x 7 : Nat) : Int) ((rotr x 18 : Nat) : Int)) ((x : Int) / 8)) % 4294967296 + (u : Int)) % 4294967296 + bits .xor .u32 (bits .xor .u32 ((rotr y 17 : Nat) : Int) ((rotr y 19 : Nat) : Int)) ((y : Int) / 1024)) % 4294967296 = ((add32 (add32 (add32 z (sig0 x)) u) (sig1 y) : Nat) : Int) := by
  have e1 := xor_part x 7 18 8 hx (by decide) (by decide) (by decide) (by decide)
  have e2 := xor_part y 17 19 1024 hy (by decide) (by decide) (by decide) (by decide)
  have e1' : bits .xor .u32 (bits .xor .u32 ((rotr x 7 : Nat) : Int) ((rotr x 18 : Nat) : Int)) ((x : Int) / 8) = ((sig0 x : Nat) : Int) := e1
  have e2' : bits .xor .u32 (bits .xor .u32 ((rotr y 17 : Nat) : Int) ((rotr y 19 : Nat) : Int)) ((y : Int) / 1024) = ((sig1 y : Nat) : Int) := e2
  rw [e1', e2', wrap_add32, wrap_add32, wrap_add32]
theorem C32.setCells {g : Nat} {T : TypeId} : ∀ (vs : List Nat) (A B : List Nat) (w : World), C32 w g T (A ++ B) → B.length = vs.length → C32 (w.setCells g A.length (vs.map fun (n : Nat) => Value.int .u32 n)) g T (A ++ vs) := by
  intro vs
  induction vs with
  | nil =>
    intro A B w h hl
    have : B = [] := List.length_eq_zero_iff.mp hl
    subst this
    exact h
  | cons v vs ih =>
    intro A B w h hl
    cases B with
    | nil => cases hl
    | cons b B =>
      have h2 := h.set A.length v
      rw [List.set_append_right _ _ (Nat.le_refl _), Nat.sub_self, List.set_cons_zero] at h2
      have h3 := ih (A ++ [v]) B (w.setCell ⟨g, A.length, none⟩ (.int .u32 v)) (by rw [List.append_assoc]; exact h2) (by simpa using hl)
      rw [List.append_assoc, List.length_append] at h3
      exact h3
theorem C32.setAll {g : Nat} {T : TypeId} {w : World} {A : List Nat} (vs : List Nat) (h : C32 w g T A) (hl : A.length = vs.length) : C32 (w.setCells g 0 (u32Cells vs).toList) g T vs := by
  have := C32.setCells vs [] A w h hl
  simpa [u32Cells] using this
theorem Below.setCells {B b : Nat} {a : World} (hb : B ≤ b) : ∀ (vs : List Value) (o : Nat) (w : World), Below B a w → Below B a (w.setCells b o vs) := by
  intro vs
  induction vs with
  | nil => intro o w h; exact h
  | cons v vs ih => intro o w h; exact ih (o + 1) _ (h.setCell hb v)
theorem C32.there {w : World} {g : Nat} {T : TypeId} {L : List Nat} (h : C32 w g T L) : w.there g 0 L.length := by
  intro j hj
  rw [Nat.zero_add, h.cell hj, h.free]
  exact ⟨rfl, rfl⟩
theorem u32Cells_one (L : List Nat) : (u32Cells L).all (·.oneCell') = true := by
  refine all_oneCell_toArray ?_
  intro v hv
  obtain ⟨n, _, rfl⟩ := List.mem_map.mp hv
  rfl
theorem firstW_step (b : List UInt8) (k : Nat) (h : k < 64) : (firstW b k).set k (wordAt b k) = firstW b (k + 1) := by
  unfold firstW
  have e : 64 - k = (64 - (k + 1)) + 1 := by omega
  rw [List.set_append_right _ _ (by simp), e, List.replicate_succ, List.length_map, List.length_range, Nat.sub_self, List.set_cons_zero, List.range_succ, List.map_append, List.append_assoc]
  rfl
theorem word_or (a b c d : Nat) (ha : a < 256) (hb : b < 256) (hc : c < 256) (hd : d < 256) :
    bits .or .u32 (bits .or .u32 (bits .or .u32 ((a : Int) * 16777216) ((b : Int) * 65536)) ((c : Int) * 256)) (d : Int) = ((a * 16777216 + b * 65536 + c * 256 + d : Nat) : Int) := by
  have ea : (a : Int) * 16777216 = ((a * 16777216 : Nat) : Int) := by omega
  have eb : (b : Int) * 65536 = ((b * 65536 : Nat) : Int) := by omega
  have ec : (c : Int) * 256 = ((c * 256 : Nat) : Int) := by omega
  have o1 : a * 16777216 ||| b * 65536 = a * 16777216 + b * 65536 := by
    have := Nat.two_pow_add_eq_or_of_lt (i := 24) (b := b * 65536) (by omega) a
    rw [Nat.mul_comm] at this
    exact this.symm
  have o2 : (a * 16777216 + b * 65536) ||| c * 256 = a * 16777216 + b * 65536 + c * 256 := by
    have := Nat.two_pow_add_eq_or_of_lt (i := 16) (b := c * 256) (by omega) (a * 256 + b)
    have e : 2 ^ 16 * (a * 256 + b) = a * 16777216 + b * 65536 := by omega
    rw [e] at this
    exact this.symm
  have o3 : (a * 16777216 + b * 65536 + c * 256) ||| d = a * 16777216 + b * 65536 + c * 256 + d := by
    have := Nat.two_pow_add_eq_or_of_lt (i := 8) (b := d) (by omega) (a * 65536 + b * 256 + c)
    have e : 2 ^ 8 * (a * 65536 + b * 256 + c) = a * 16777216 + b * 65536 + c * 256 := by omega
    rw [e] at this
    exact this.symm
  rw [ea, eb, ec, u32_or_nat _ _ (by omega) (by omega), o1, u32_or_nat _ _ (by omega) (by omega), o2, u32_or_nat _ _ (by omega) (by omega), o3]
def nextF (l : List Nat) : Nat := add32 (add32 (add32 (l.getD (l.length - 16) 0) (sig0 (l.getD (l.length - 15) 0))) (l.getD (l.length - 7) 0)) (sig1 (l.getD (l.length - 2) 0))
theorem schedF_snoc : ∀ (k : Nat) (l : List Nat), schedF (k + 1) l = schedF k l ++ [nextF (schedF k l)] := by
  intro k
  induction k with
  | zero => intro l; rfl
  | succ k ih => intro l; exact ih (l ++ [nextF l])
theorem schedF_len : ∀ (k : Nat) (l : List Nat), (schedF k l).length = l.length + k := by
  intro k
  induction k with
  | zero => intro l; rfl
  | succ k ih => intro l; rw [schedF_snoc, List.length_append, ih]; simp; omega
theorem schedF_lt : ∀ (k : Nat) (l : List Nat), (∀ x ∈ l, x < 4294967296) → ∀ x ∈ schedF k l, x < 4294967296 := by
  intro k
  induction k with
  | zero => intro l h; exact h
  | succ k ih =>
    intro l h x hx
    rw [schedF_snoc, List.mem_append] at hx
    rcases hx with hx | hx
    · exact ih l h x hx
    · rw [List.mem_singleton] at hx
      rw [hx]
      exact add32_lt _ _
theorem words16_lt (b : List UInt8) : ∀ x ∈ words16 b, x < 4294967296 := by
  intro x hx
  obtain ⟨i, _, rfl⟩ := List.mem_map.mp hx
  unfold wordAt
  have (u : UInt8) : u.toNat < 256 := u.toBitVec.isLt
  have h0 := this (b.getD (4 * i) 0)
  have h1 := this (b.getD (4 * i + 1) 0)
  have h2 := this (b.getD (4 * i + 2) 0)
  have h3 := this (b.getD (4 * i + 3) 0)
  omega
/-- The words that are laid after i rounds of the second loop. -/
def laterW (b : List UInt8) (i : Nat) : List Nat := schedF i (words16 b) ++ List.replicate (48 - i) 0
theorem laterW_zero (b : List UInt8) : firstW b 16 = laterW b 0 := rfl
theorem laterW_last (b : List UInt8) : laterW b 48 = sched b := by
  show schedF 48 (words16 b) ++ [] = _
  rw [List.append_nil]
  rfl
theorem laterW_len (b : List UInt8) {i : Nat} (h : i ≤ 48) : (laterW b i).length = 64 := by
  unfold laterW
  rw [List.length_append, schedF_len, List.length_replicate]
  simp [words16]
  omega
theorem laterW_lt (b : List UInt8) (i k : Nat) : (laterW b i).getD k 0 < 4294967296 := by
  have hall : ∀ x ∈ laterW b i, x < 4294967296 := by
    intro x hx
    rcases List.mem_append.mp hx with h | h
    · exact schedF_lt _ _ (words16_lt b) x h
    · rw [List.eq_of_mem_replicate h]; decide
  rw [List.getD_eq_getElem?_getD]
  cases hk : (laterW b i)[k]? with
  | none => decide
  | some v => exact hall v (List.mem_of_getElem? hk)
theorem laterW_step (b : List UInt8) (i : Nat) (h : i < 48) :
    (laterW b i).set (i + 16) (add32 (add32 (add32 ((laterW b i).getD i 0) (sig0 ((laterW b i).getD (i + 1) 0))) ((laterW b i).getD (i + 9) 0)) (sig1 ((laterW b i).getD (i + 14) 0))) = laterW b (i + 1) := by
  have hl : (schedF i (words16 b)).length = 16 + i := by rw [schedF_len]; simp [words16]
  have g (k : Nat) (hk : k < 16 + i) : (laterW b i).getD k 0 = (schedF i (words16 b)).getD k 0 := by
    unfold laterW
    rw [List.getD_eq_getElem?_getD, List.getD_eq_getElem?_getD, List.getElem?_append_left (by omega)]
  rw [g i (by omega), g (i + 1) (by omega), g (i + 9) (by omega), g (i + 14) (by omega)]
  have e : 48 - i = (48 - (i + 1)) + 1 := by omega
  unfold laterW
  rw [schedF_snoc, List.set_append_right _ _ (by omega), e, List.replicate_succ, hl, show i + 16 - (16 + i) = 0 from by omega, List.set_cons_zero, List.append_assoc]
  unfold nextF
  rw [hl, show 16 + i - 16 = i from by omega, show 16 + i - 15 = i + 1 from by omega, show 16 + i - 7 = i + 9 from by omega, show 16 + i - 2 = i + 14 from by omega]
  rfl
theorem byte_lt (b : UInt8) : b.toNat < 256 := by have := b.toBitVec.isLt; exact this
theorem cell_hop {w : World} {p a : Addr} {v : Value} {u : Option Value} (h : p.block ≠ a.block) (hc : w.cell? a = u) : (w.setCell p v).drew.cell? a = u :=
  (World.cell?_setCell_other _ _ _ _ (fun e => h (by rw [e]))).trans hc
theorem some_hop {w : World} {p a : Addr} {v : Value} (h : ∃ u, w.cell? a = some u) : ∃ u, (w.setCell p v).drew.cell? a = some u := by
  obtain ⟨u, hu⟩ := h
  exact cell?_setCell_some hu
theorem free_hop {w : World} {p a : Addr} {v : Value} {b : Bool} (h : w.frozen? a = b) : (w.setCell p v).drew.frozen? a = b :=
  (World.frozen?_setCell _ _ _ _).trans h
theorem off_hop {w : World} {g a b : Nat} {v : Value} {u : Option Value} (h : b ≠ a) (hc : w.cell? ⟨g, a, none⟩ = u) : (w.setCell ⟨g, b, none⟩ v).drew.cell? ⟨g, a, none⟩ = u :=
  (World.cell?_setCell_other _ _ _ _ (fun e => h (by injection e))).trans hc
theorem hash_schedule (gb o c : Nat) (L : List UInt8) (w : World) (hl : L.length = 64) (hc : 64 ≤ c) (hc2 : c ≤ 1000000) (hrow : Row w gb o L) (hg : gb < w.heap.size) :
    Calls Tryz.prog 247 #[.slice (some ⟨gb, o, none⟩) 64 c] w fun e w' => e = .returned (.agg (u32Cells (sched L))) ∧ Below w.heap.size w w' := by
  have HROW := Lib.hid hrow
  have HL := Lib.hid hl
  clear hrow hl
  go_enter Tryz.func247, Tryz.ntmps247
  go_wp2
  have h0 : C32 ((w.alloc (.cells (u32Cells (List.replicate 64 0)) 242)).alloc (.cells (u32Cells (List.replicate 64 0)) 242)) (w.heap.size + 1) 242 (firstW L 0) := by
    have := C32.new (w.alloc (.cells (u32Cells (List.replicate 64 0)) 242)) 242 (firstW L 0)
    rw [World.size_alloc] at this
    exact this
  have hb0 : Below w.heap.size w ((w.alloc (.cells (u32Cells (List.replicate 64 0)) 242)).alloc (.cells (u32Cells (List.replicate 64 0)) 242)) := ((Below.refl _ _).alloc (Nat.le_refl _) _).alloc (by simp) _
  have z0 : C32 ((w.alloc (.cells (u32Cells (List.replicate 64 0)) 242)).alloc (.cells (u32Cells (List.replicate 64 0)) 242)) w.heap.size 242 (List.replicate 64 0) := (C32.new w _ _).alloc _
  have Z0 := Lib.hid z0
  clear z0
  have H0 := Lib.hid h0
  have HB0 := Lib.hid hb0
  clear h0 hb0
  go_loopw [9] (fun v wr => ∃ k : Nat, v = .int .i64 k ∧ k ≤ 16 ∧ C32 wr w.heap.size 242 (List.replicate 64 0) ∧ C32 wr (w.heap.size + 1) 242 (firstW L k) ∧ Below w.heap.size w wr) (fun v _ => 16 - (intOf v).toNat)
  case atStart => exact ⟨0, rfl, by decide, Z0.out, H0.out, HB0.out⟩
  case round =>
    obtain ⟨k, rfl, hk, hzk, hck, hbel⟩ := hrel
    have HZK := Lib.hid hzk
    clear hzk
    have HCK := Lib.hid hck
    have HBE := Lib.hid hbel
    have HR2 := Lib.hid (HROW.out.below hbel hg)
    clear hck hbel
    by_cases hlt : k < 16
    · have e4 : 4 * k + 4 - 4 * k = 4 := by omega
      have b0 := HR2.out (4 * k) (by rw [HL.out]; omega)
      have b1 := HR2.out (4 * k + 1) (by rw [HL.out]; omega)
      have b2 := HR2.out (4 * k + 2) (by rw [HL.out]; omega)
      have b3 := HR2.out (4 * k + 3) (by rw [HL.out]; omega)
      obtain ⟨B0, hB0⟩ : ∃ x, (L.getD (4 * k) 0).toNat = x := ⟨_, rfl⟩
      obtain ⟨B1, hB1⟩ : ∃ x, (L.getD (4 * k + 1) 0).toNat = x := ⟨_, rfl⟩
      obtain ⟨B2, hB2⟩ : ∃ x, (L.getD (4 * k + 2) 0).toNat = x := ⟨_, rfl⟩
      obtain ⟨B3, hB3⟩ : ∃ x, (L.getD (4 * k + 3) 0).toNat = x := ⟨_, rfl⟩
      rw [hB0] at b0
      rw [hB1] at b1
      rw [hB2] at b2
      rw [hB3] at b3
      have l0 : B0 < 256 := by rw [← hB0]; exact byte_lt _
      have l1 : B1 < 256 := by rw [← hB1]; exact byte_lt _
      have l2 : B2 < 256 := by rw [← hB2]; exact byte_lt _
      have l3 : B3 < 256 := by rw [← hB3]; exact byte_lt _
      have ne1 : ¬ gb = w.heap.size + 1 := by omega
      have cw := HCK.out.cell (k := k) (by simp [firstW]; omega)
      have fw := HCK.out.free k
      have HLT := Lib.hid hlt
      have i0 : (0:Int) ≤ (k:Int) := by omega
      have i1 : (k:Int) < 64 / 16 * 16 := by omega
      have i2 : (k:Int) < (64:Int) := by omega
      simp only [← Nat.add_assoc] at b1 b2 b3
      go_wp2_with fail
      go_region_held3 (fun w' => w'.cell? ⟨gb, o + 4 * k, none⟩ = some (.int .u8 B0) ∧ w'.cell? ⟨gb, o + 4 * k + 1, none⟩ = some (.int .u8 B1) ∧ w'.cell? ⟨gb, o + 4 * k + 2, none⟩ = some (.int .u8 B2) ∧ w'.cell? ⟨gb, o + 4 * k + 3, none⟩ = some (.int .u8 B3) ∧ (∃ v, w'.cell? ⟨w.heap.size + 1, k, none⟩ = some v) ∧ w'.frozen? ⟨w.heap.size + 1, k, none⟩ = false) (first | (go_split_ands; (repeat' apply And.intro) <;> first | assumption | (refine cell_hop (Ne.symm ne1) ?_; assumption) | (refine some_hop ?_; assumption) | (refine free_hop ?_; assumption)) | go_keep) (first | fail)
      all_goals
        go_wp2_with fail
        go_roundw
        case rel =>
          refine ⟨k + 1, by rfl, by omega, HZK.out.far (by simp) _, ?_, ?_⟩
          · rw [← firstW_step L k (by omega)]
            have e : (Value.int .u32 (bits .or .u32 (bits .or .u32 (bits .or .u32 ((B0 : Int) * 16777216) ((B1 : Int) * 65536)) ((B2 : Int) * 256)) (B3 : Int))) = .int .u32 (wordAt L k : Nat) := by
              rw [word_or B0 B1 B2 B3 l0 l1 l2 l3]
              unfold wordAt
              rw [hB0, hB1, hB2, hB3]
            rw [e]
            exact HCK.out.set k _
          · exact (HBE.out.setCell (p := ⟨w.heap.size + 1, k, none⟩) (Nat.le_succ _) _).drew
        case measure => show 16 - ((k : Int) + 1).toNat < 16 - (k : Int).toNat; omega
    · have ek : k = 16 := by omega
      subst ek
      clear hlt hk
      go_wp2_with fail
      rw [show ((16 : Nat) : Int) = 16 from rfl]
      go_loopw [6] (fun v wr => ∃ j : Nat, v = .int .i64 j ∧ 16 ≤ j ∧ j ≤ 64 ∧ C32 wr w.heap.size 242 (List.replicate 64 0) ∧ C32 wr (w.heap.size + 1) 242 (laterW L (j - 16)) ∧ Below w.heap.size w wr) (fun v _ => 64 - (intOf v).toNat)
      case atStart => exact ⟨16, rfl, by decide, by decide, HZK.out, HCK.out, HBE.out⟩
      case round =>
        obtain ⟨j, rfl, hj1, hj2, hzj, hci, hbei⟩ := hrel
        have HZJ := Lib.hid hzj
        clear hzj
        have HCI := Lib.hid hci
        have HBI := Lib.hid hbei
        clear hci hbei
        by_cases hlt : j < 64
        · obtain ⟨i, hji⟩ : ∃ i, j = i + 16 := ⟨j - 16, by omega⟩
          obtain ⟨i1, h1⟩ : ∃ x, i + 1 = x := ⟨_, rfl⟩
          obtain ⟨i9, h9⟩ : ∃ x, i + 9 = x := ⟨_, rfl⟩
          obtain ⟨iE, hE⟩ : ∃ x, i + 14 = x := ⟨_, rfl⟩
          rw [show j - 16 = i from by omega] at HCI
          have c0 := HCI.out.cell (k := i) (by rw [laterW_len L (by omega)]; omega)
          have c1 := HCI.out.cell (k := i1) (by rw [laterW_len L (by omega)]; omega)
          have c9 := HCI.out.cell (k := i9) (by rw [laterW_len L (by omega)]; omega)
          have cE := HCI.out.cell (k := iE) (by rw [laterW_len L (by omega)]; omega)
          have cJ := HCI.out.cell (k := j) (by rw [laterW_len L (by omega)]; omega)
          have gJ := HCI.out.free j
          have X0 := Lib.hid (laterW_lt L i i)
          have X1 := Lib.hid (laterW_lt L i i1)
          have X9 := Lib.hid (laterW_lt L i i9)
          have XE := Lib.hid (laterW_lt L i iE)
          obtain ⟨z, hz⟩ : ∃ x, (laterW L i).getD i 0 = x := ⟨_, rfl⟩
          obtain ⟨x, hx⟩ : ∃ x, (laterW L i).getD i1 0 = x := ⟨_, rfl⟩
          obtain ⟨u, hu⟩ : ∃ x, (laterW L i).getD i9 0 = x := ⟨_, rfl⟩
          obtain ⟨y, hy⟩ : ∃ x, (laterW L i).getD iE 0 = x := ⟨_, rfl⟩
          rw [hz] at c0 X0
          rw [hx] at c1 X1
          rw [hu] at c9 X9
          rw [hy] at cE XE
          have F0 : IntKind.i64.wrap ((j : Int) - 16) = (i : Int) := by rw [IntKind.wrap_i64]; omega
          have F1 : IntKind.i64.wrap ((j : Int) - 15) = (i1 : Int) := by rw [IntKind.wrap_i64]; omega
          have F9 : IntKind.i64.wrap ((j : Int) - 7) = (i9 : Int) := by rw [IntKind.wrap_i64]; omega
          have FE : IntKind.i64.wrap ((j : Int) - 2) = (iE : Int) := by rw [IntKind.wrap_i64]; omega
          have FJ : IntKind.i64.wrap ((j : Int) + 1) = (j : Int) + 1 := by rw [IntKind.wrap_i64]; omega
          have p0 : (0 : Int) ≤ (i : Int) := by omega
          have r0 : (i : Int) < 64 := by omega
          have p1 : (0 : Int) ≤ (i1 : Int) := by omega
          have r1 : (i1 : Int) < 64 := by omega
          have p9 : (0 : Int) ≤ (i9 : Int) := by omega
          have r9 : (i9 : Int) < 64 := by omega
          have pE : (0 : Int) ≤ (iE : Int) := by omega
          have rE : (iE : Int) < 64 := by omega
          have pJ : (0 : Int) ≤ (j : Int) := by omega
          have rJ : (j : Int) < 64 := by omega
          have H1 := Lib.hid (And.intro h1 (And.intro h9 (And.intro hE hji)))
          have HV := Lib.hid (And.intro hz (And.intro hx (And.intro hu hy)))
          have HB := Lib.hid (And.intro hj1 hlt)
          clear h1 h9 hE hji hz hx hu hy hj1 hj2 hlt
          go_wp2_with fail
          go_region_held3 (fun w' => w'.cell? ⟨w.heap.size + 1, i1, none⟩ = some (.int .u32 x) ∧ w'.cell? ⟨w.heap.size + 1, iE, none⟩ = some (.int .u32 y)) (first | go_keep) (first | fail)
          go_wp2_with fail
          have cX : ∃ v, wr.cell? ⟨w.heap.size + 1, j, none⟩ = some v := ⟨_, cJ⟩
          clear c1 cE
          have nj : j ≠ i := by have := H1.out; omega
          have nj9 : j ≠ i9 := by have := H1.out; omega
          go_region_held3 (fun w' => w'.cell? ⟨w.heap.size + 1, i, none⟩ = some (.int .u32 z) ∧ w'.cell? ⟨w.heap.size + 1, i9, none⟩ = some (.int .u32 u) ∧ (∃ v, w'.cell? ⟨w.heap.size + 1, j, none⟩ = some v) ∧ w'.frozen? ⟨w.heap.size + 1, j, none⟩ = false) (first | assumption | (go_split_ands; (repeat' apply And.intro) <;> first | assumption | (refine off_hop nj ?_; assumption) | (refine off_hop nj9 ?_; assumption) | (refine some_hop ?_; assumption) | (refine free_hop ?_; assumption)) | go_keep) (first | (go_at_call 248; (with_reducible refine (turn_7 _ _ X1.out).mono ?_); rintro e w' ⟨rfl, rfl⟩) | (go_at_call 248; (with_reducible refine (turn_18 _ _ X1.out).mono ?_); rintro e w' ⟨rfl, rfl⟩) | (go_at_call 248; (with_reducible refine (turn_17 _ _ XE.out).mono ?_); rintro e w' ⟨rfl, rfl⟩) | (go_at_call 248; (with_reducible refine (turn_19 _ _ XE.out).mono ?_); rintro e w' ⟨rfl, rfl⟩))
          go_wp2_with fail
          go_roundw
          case rel =>
            obtain ⟨h1, h9, hE, hji⟩ := H1.out
            obtain ⟨hz, hx, hu, hy⟩ := HV.out
            obtain ⟨hj1, hlt⟩ := HB.out
            refine ⟨j + 1, by rfl, by omega, by omega, HZJ.out.far (by simp) _, ?_, ?_⟩
            · rw [show j + 1 - 16 = i + 1 from by omega, ← laterW_step L i (by omega), h1, h9, hE, hz, hx, hu, hy, ← hji, sched_word z x u y X1.out XE.out]
              exact HCI.out.set j _
            · exact (HBI.out.setCell (p := ⟨w.heap.size + 1, j, none⟩) (Nat.le_succ _) _).drew.drew
          case measure => have := HB.out; show 64 - ((j : Int) + 1).toNat < 64 - (j : Int).toNat; omega
        · have ej : j = 64 := by omega
          subst ej
          clear hlt hj1 hj2
          have HC : Hid (C32 wr (w.heap.size + 1) 242 (sched L)) := Lib.hid (by rw [← laterW_last]; exact HCI.out)
          have hlen : (u32Cells (sched L)).size = 64 := by rw [← laterW_last]; simp [u32Cells, laterW_len]
          have HLEN := Lib.hid hlen
          have hset := C32.setAll (sched L) HZJ.out (by rw [← laterW_last, laterW_len L (Nat.le_refl _)]; rfl)
          have HSET := Lib.hid hset
          clear hlen hset
          go_wp2_with (first | (refine wpList_load_row rfl 242 _ rfl (w.heap.size + 1) rfl _ _ _ _ HC.out Tryz.underlying242 rfl (by rw [HLEN.out]; rfl) ?_) | (refine wpList_store_mid rfl 242 _ _ rfl w.heap.size 0 (u32Cells (sched L)) rfl rfl (by rw [HLEN.out]; exact HZJ.out.there) (by rw [HLEN.out]; rfl) (u32Cells_one _) ?_))
          have hcell : C32 (wr.setCells w.heap.size 0 (u32Cells (sched L)).toList) w.heap.size 242 (sched L) := HSET.out
          refine bodyPost_ret (v := .agg (u32Cells (sched L))) ?_ ?_ ?_
          rotate_left 2
          · refine ⟨rfl, ?_⟩
            exact Below.setCells (Nat.le_refl _) (u32Cells (sched L)).toList 0 wr HBI.out
          rotate_left 1
          · rfl
          refine results_cell_row Tryz.results247 _ _ w.heap.size 242 (u32Cells (sched L)) (0, 0) _ ?_ hcell Tryz.underlying242 ?_ ?_
          · rfl
          · rfl
          · rw [HLEN.out]; rfl

end Go.Proofs.YtkdbemdobfddoaaGreatDoor

namespace Go.Proofs.YtkdbemdobfddoaaGreatDoor
open Go.RowKit
set_option maxRecDepth 100000
set_option linter.unusedVariables false
set_option maxHeartbeats 2000000

theorem C32.farCells {g b : Nat} {T : TypeId} {L : List Nat} (hp : g ≠ b) : ∀ (vs : List Value) (o : Nat) (w : World), C32 w g T L → C32 (w.setCells b o vs) g T L := by
  intro vs
  induction vs with
  | nil => intro o w h; exact h
  | cons v vs ih => intro o w h; exact ih (o + 1) _ (h.far hp v)
theorem hash_constants (w : World) : Calls Tryz.prog 246 #[] w fun e w' => e = .returned (.agg (u32Cells consts)) ∧ Below w.heap.size w w' := by
  have z := C32.new w 242 (List.replicate 64 0)
  have hs := C32.setAll consts z rfl
  have HS := Lib.hid hs
  have Z := Lib.hid z
  clear hs z
  go_enter Tryz.func246, Tryz.ntmps246
  go_wp2_with (first | (refine wpList_store_mid rfl 242 _ _ rfl w.heap.size 0 (u32Cells consts) rfl rfl Z.out.there rfl (u32Cells_one _) ?_))
  refine bodyPost_ret (v := .agg (u32Cells consts)) ?_ rfl ⟨rfl, Below.setCells (Nat.le_refl _) _ _ _ ((Below.refl _ _).alloc (Nat.le_refl _) _)⟩
  exact results_cell_row Tryz.results246 _ _ w.heap.size 242 (u32Cells consts) (0, 0) _ rfl HS.out Tryz.underlying242 rfl rfl
theorem hash_first (w : World) : Calls Tryz.prog 236 #[] w fun e w' => e = .returned (.agg (u32Cells state0)) ∧ Below w.heap.size w w' := by
  have z := C32.new w 232 (List.replicate 8 0)
  have hs := C32.setAll state0 z rfl
  have HS := Lib.hid hs
  have Z := Lib.hid z
  clear hs z
  go_enter Tryz.func236, Tryz.ntmps236
  go_wp2_with (first | (refine wpList_store_mid rfl 232 _ _ rfl w.heap.size 0 (u32Cells state0) rfl rfl Z.out.there rfl (u32Cells_one _) ?_))
  refine bodyPost_ret (v := .agg (u32Cells state0)) ?_ rfl ⟨rfl, Below.setCells (Nat.le_refl _) _ _ _ ((Below.refl _ _).alloc (Nat.le_refl _) _)⟩
  exact results_cell_row Tryz.results236 _ _ w.heap.size 232 (u32Cells state0) (0, 0) _ rfl HS.out Tryz.underlying232 rfl rfl

end Go.Proofs.YtkdbemdobfddoaaGreatDoor
