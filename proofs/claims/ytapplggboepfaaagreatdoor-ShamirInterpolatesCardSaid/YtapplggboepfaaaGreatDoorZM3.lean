/- The walks of package params: Main. The walks of package params: Whole. -/
import Derived.Test.YtapplggboepfaaaGreatDoorZM2
import Derived.Test.YtapplggboepfaaaGreatDoorBW
namespace Go.Proofs.YtapplggboepfaaaGreatDoor
open Go.RowKit
set_option maxRecDepth 100000
set_option linter.unusedVariables false
set_option maxHeartbeats 4000000

/-- What Main finds: the error, the modulus, the order, where the tape then stands. -/
def mainD (bits : Int) (vals : List ByteArray) (seed : ByteArray) (z : Int) : Int × Nat × Nat × Int :=
  if goodT vals z = true then (if 2 ≤ bits ∧ bits ≤ 40 then (if (primeD bits vals seed z).1 = 0 then
    (match mainL (primeD bits vals seed z).2.1 32768 2 with
      | some m => (0, m, (primeD bits vals seed z).2.1, (primeD bits vals seed z).2.2)
      | none => (12, 0, 0, 0)) else ((primeD bits vals seed z).1, 0, 0, 0)) else (2, 0, 0, 0)) else (3, 0, 0, 0)
/-- What Main hands back. -/
def mainPost (d : Int × Nat × Nat × Int) (n : Nat) (seed : ByteArray) (vals : List ByteArray) (e : Ending) (w' : World) : Prop :=
  (d.1 = 0 ∧ ∃ g, e = .returned (.tuple #[.agg #[.string (B d.2.1), .string (B d.2.2.1)], .agg #[.slice (some ⟨g, 0, none⟩) n n, .string seed, .int .i64 d.2.2.2], .int .i64 0])) ∨
  (d.1 ≠ 0 ∧ e = .returned (.tuple #[.agg #[.string ⟨#[]⟩, .string ⟨#[]⟩], .agg #[.slice none 0 0, .string ⟨#[]⟩, .int .i64 0], .int .i64 d.1]))
section
variable {w wx wy : World} {A : Option Addr} {n c : Nat} {seed : ByteArray} {z : Int} {p q x y t : Value}
end
theorem mainL_hit {q r k : Nat} (h : isS (k * q + 1) = true) : mainL q (r + 1) k = some (k * q + 1) := by rw [mainL, if_pos h]
theorem mainL_on {q r k : Nat} (h : isS (k * q + 1) = false) : mainL q (r + 1) k = mainL q r (k + 2) := by rw [mainL, h, if_neg (by decide)]

theorem keep5 {w wx : World} {k : Nat} {p q x y t : Value} {u : Option Value} (h : wx.cell? ⟨w.heap.size, k, none⟩ = u) :
    (((((wx.setCell ⟨w.heap.size + 1, 0, none⟩ p).setCell ⟨w.heap.size + 1, 1, none⟩ q).setCell ⟨w.heap.size + 1 + 1, 0, none⟩ x).setCell ⟨w.heap.size + 1 + 1, 1, none⟩ y).setCell ⟨w.heap.size + 1 + 1, 2, none⟩ t).cell? ⟨w.heap.size, k, none⟩ = u := by
  refine (World.cell?_setCell_other _ _ _ _ (by simp)).trans ((World.cell?_setCell_other _ _ _ _ (by simp)).trans ((World.cell?_setCell_other _ _ _ _ (by simp)).trans ((World.cell?_setCell_other _ _ _ _ (by simp)).trans ((World.cell?_setCell_other _ _ _ _ (by simp)).trans h))))
theorem measK {K : Nat} (h : K ≤ 65536) : 65540 - (intOf (.int .u64 ((K : Int) + 2))).toNat < 65540 - (intOf (.int .u64 (K : Int))).toNat := by
  simp only [intOf]
  omega
end Go.Proofs.YtapplggboepfaaaGreatDoor

namespace Go.Proofs.YtapplggboepfaaaGreatDoor
open Go.RowKit
set_option maxRecDepth 100000
set_option linter.unusedVariables false
set_option maxHeartbeats 4000000

/-- What Whole finds: the error, the two primes, where the tape then stands. -/
def wholeD (bits : Int) (vals : List ByteArray) (seed : ByteArray) (z : Int) : Int × Nat × Nat × Int :=
  if goodT vals z = true then (if 3 ≤ bits ∧ bits ≤ 32 then (if (safeD bits vals seed z).1 = 0 then
    (if (wholeL bits vals seed (safeD bits vals seed z).2.1 64 (safeD bits vals seed z).2.2).1 = 0
      then (0, (safeD bits vals seed z).2.1, (wholeL bits vals seed (safeD bits vals seed z).2.1 64 (safeD bits vals seed z).2.2).2)
      else ((wholeL bits vals seed (safeD bits vals seed z).2.1 64 (safeD bits vals seed z).2.2).1, 0, 0, 0)) else ((safeD bits vals seed z).1, 0, 0, 0)) else (2, 0, 0, 0)) else (3, 0, 0, 0)
/-- What Whole hands back. -/
def wholePost (d : Int × Nat × Nat × Int) (n : Nat) (seed : ByteArray) (vals : List ByteArray) (e : Ending) (w' : World) : Prop :=
  (d.1 = 0 ∧ ∃ g, e = .returned (.tuple #[.agg #[.string (B (d.2.1 * d.2.2.1)), .string ⟨#[]⟩], .agg #[.string (B d.2.1), .string (B d.2.2.1)], .agg #[.slice (some ⟨g, 0, none⟩) n n, .string seed, .int .i64 d.2.2.2], .int .i64 0])) ∨
  (d.1 ≠ 0 ∧ e = .returned (.tuple #[.agg #[.string ⟨#[]⟩, .string ⟨#[]⟩], .agg #[.string ⟨#[]⟩, .string ⟨#[]⟩], .agg #[.slice none 0 0, .string ⟨#[]⟩, .int .i64 0], .int .i64 d.1]))
section
variable {w wx wy : World} {A : Option Addr} {n c : Nat} {seed : ByteArray} {z : Int} {p q p' q' x y t : Value}
theorem BoxW.key {k : Nat} {u : Option Value} (h : wx.cell? ⟨w.heap.size, k, none⟩ = u) :
    (((((((wx.setCell ⟨w.heap.size + 1, 0, none⟩ p).setCell ⟨w.heap.size + 1, 1, none⟩ q).setCell ⟨w.heap.size + 1 + 1, 0, none⟩ p').setCell ⟨w.heap.size + 1 + 1, 1, none⟩ q').setCell ⟨w.heap.size + 1 + 1 + 1, 0, none⟩ x).setCell ⟨w.heap.size + 1 + 1 + 1, 1, none⟩ y).setCell ⟨w.heap.size + 1 + 1 + 1, 2, none⟩ t).cell? ⟨w.heap.size, k, none⟩ = u :=
  (World.cell?_setCell_other _ _ _ _ (by simp)).trans ((World.cell?_setCell_other _ _ _ _ (by simp)).trans ((World.cell?_setCell_other _ _ _ _ (by simp)).trans ((World.cell?_setCell_other _ _ _ _ (by simp)).trans ((World.cell?_setCell_other _ _ _ _ (by simp)).trans ((World.cell?_setCell_other _ _ _ _ (by simp)).trans ((World.cell?_setCell_other _ _ _ _ (by simp)).trans h))))))
theorem BoxW.key2 {k : Nat} {u : Option Value} (h : wx.cell? ⟨w.heap.size, k, none⟩ = u) :
    ((wx.setCell ⟨w.heap.size + 1, 0, none⟩ p).setCell ⟨w.heap.size + 1, 1, none⟩ q).cell? ⟨w.heap.size, k, none⟩ = u :=
  (World.cell?_setCell_other _ _ _ _ (by simp)).trans ((World.cell?_setCell_other _ _ _ _ (by simp)).trans (h))
theorem BoxW.key4 {k : Nat} {u : Option Value} (h : wx.cell? ⟨w.heap.size, k, none⟩ = u) :
    ((((wx.setCell ⟨w.heap.size + 1, 0, none⟩ p).setCell ⟨w.heap.size + 1, 1, none⟩ q).setCell ⟨w.heap.size + 1 + 1, 0, none⟩ p').setCell ⟨w.heap.size + 1 + 1, 1, none⟩ q').cell? ⟨w.heap.size, k, none⟩ = u :=
  (World.cell?_setCell_other _ _ _ _ (by simp)).trans ((World.cell?_setCell_other _ _ _ _ (by simp)).trans ((World.cell?_setCell_other _ _ _ _ (by simp)).trans ((World.cell?_setCell_other _ _ _ _ (by simp)).trans (h))))
theorem BoxW.key2d {k : Nat} {u : Option Value} (h : wx.cell? ⟨w.heap.size, k, none⟩ = u) :
    ((wx.setCell ⟨w.heap.size + 1, 0, none⟩ p).setCell ⟨w.heap.size + 1, 1, none⟩ q).drew.cell? ⟨w.heap.size, k, none⟩ = u := by
  rw [World.cell?_drew]
  exact BoxW.key2 h
theorem BoxW.key4d {k : Nat} {u : Option Value} (h : wx.cell? ⟨w.heap.size, k, none⟩ = u) :
    ((((wx.setCell ⟨w.heap.size + 1, 0, none⟩ p).setCell ⟨w.heap.size + 1, 1, none⟩ q).setCell ⟨w.heap.size + 1 + 1, 0, none⟩ p').setCell ⟨w.heap.size + 1 + 1, 1, none⟩ q').drew.cell? ⟨w.heap.size, k, none⟩ = u := by
  rw [World.cell?_drew]
  exact BoxW.key4 h
theorem BoxW.key7d {k : Nat} {u : Option Value} (h : wx.cell? ⟨w.heap.size, k, none⟩ = u) :
    (((((((wx.setCell ⟨w.heap.size + 1, 0, none⟩ p).setCell ⟨w.heap.size + 1, 1, none⟩ q).setCell ⟨w.heap.size + 1 + 1, 0, none⟩ p').setCell ⟨w.heap.size + 1 + 1, 1, none⟩ q').setCell ⟨w.heap.size + 1 + 1 + 1, 0, none⟩ x).setCell ⟨w.heap.size + 1 + 1 + 1, 1, none⟩ y).setCell ⟨w.heap.size + 1 + 1 + 1, 2, none⟩ t).drew.cell? ⟨w.heap.size, k, none⟩ = u := by
  rw [World.cell?_drew]
  exact BoxW.key h
end
theorem SLs.last0 {w2 : World} {o : Obj} {g b : Nat} {vals : List ByteArray} {x y t : Value} {u1 : Option Addr} {u2 u3 : Nat} (hs : SLs w2 w2.heap.size (some ⟨g, 0, none⟩) vals) (hb : (w2.alloc o).cell? ⟨b, 0, none⟩ = some (.slice u1 u2 u3)) :
    SLs ((((w2.alloc o).setCell ⟨b, 0, none⟩ x).setCell ⟨b, 1, none⟩ y).setCell ⟨b, 2, none⟩ t) ((((w2.alloc o).setCell ⟨b, 0, none⟩ x).setCell ⟨b, 1, none⟩ y).setCell ⟨b, 2, none⟩ t).heap.size (some ⟨g, 0, none⟩) vals := SLs.last hs hb (Below.refl _ _)
theorem SLs.put0 {w2 : World} {g b : Nat} {vals : List ByteArray} {x y t : Value} {u1 : Option Addr} {u2 u3 : Nat} (hs : SLs w2 w2.heap.size (some ⟨g, 0, none⟩) vals) (hb : w2.cell? ⟨b, 0, none⟩ = some (.slice u1 u2 u3)) :
    SLs (((w2.setCell ⟨b, 0, none⟩ x).setCell ⟨b, 1, none⟩ y).setCell ⟨b, 2, none⟩ t) (((w2.setCell ⟨b, 0, none⟩ x).setCell ⟨b, 1, none⟩ y).setCell ⟨b, 2, none⟩ t).heap.size (some ⟨g, 0, none⟩) vals := by
  have hs4 := SLs.put (x := x) (y := y) (t := t) hs hb (fun s h => by cases h)
  have e : (((w2.setCell ⟨b, 0, none⟩ x).setCell ⟨b, 1, none⟩ y).setCell ⟨b, 2, none⟩ t).heap.size = w2.heap.size := by simp
  rwa [← e] at hs4
theorem natural_MulB (x y : Nat) (w : World) (hx : x < 4294967296) (hy : y < 4294967296) :
    Calls Tryz.prog 133 #[.string (B x), .string (B y)] w fun e w' => e = .returned (.tuple #[.string (B (x * y)), .int .i64 0]) ∧ Below w.heap.size w w' := by
  have := natural_Mul (B x) (B y) w
  have hxy : x * y ≤ 4294967296 * 4294967296 := Nat.mul_le_mul (Nat.le_of_lt hx) (Nat.le_of_lt hy)
  have h64 : x * y < lim := Nat.lt_of_le_of_lt hxy (by decide)
  have e : natMul (B x) (B y) = (B (x * y), 0) := by
    unfold natMul fitted; rw [valid_B (Nat.lt_trans hx (by decide)), valid_B (Nat.lt_trans hy (by decide)), num_B, num_B, if_pos h64]; rfl
  rw [e] at this
  exact this
/-- The end of Whole's loop, put together. -/
def wholeR (p : Nat) (R : Int × Nat × Int) : Int × Nat × Nat × Int := if R.1 = 0 then (0, p, R.2) else (R.1, 0, 0, 0)
theorem step64w {i : Nat} (h : i < 64) : Value.int .i64 (wrap64 ((i : Int) + 1)) = .int .i64 ((i + 1 : Nat) : Int) := step64 (by omega)
theorem measW {T i : Nat} (hT : i < T) (h : i < 64) : T - (intOf (.int .i64 (wrap64 ((i : Int) + 1)))).toNat < T - (intOf (.int .i64 (i : Int))).toNat := measT hT (by omega)
theorem wholeL_err {bits : Int} {vals : List ByteArray} {seed : ByteArray} {p r : Nat} {z : Int} (h : (safeD bits vals seed z).1 ≠ 0) : wholeL bits vals seed p (r + 1) z = ((safeD bits vals seed z).1, 0, 0) := by rw [wholeL, if_neg h]
theorem wholeL_on {bits : Int} {vals : List ByteArray} {seed : ByteArray} {p r : Nat} {z : Int} (h : (safeD bits vals seed z).1 = 0) (hp : (safeD bits vals seed z).2.1 = p) : wholeL bits vals seed p (r + 1) z = wholeL bits vals seed p r (safeD bits vals seed z).2.2 := by rw [wholeL, if_pos h, if_pos hp]
theorem wholeL_hit {bits : Int} {vals : List ByteArray} {seed : ByteArray} {p r : Nat} {z : Int} (h : (safeD bits vals seed z).1 = 0) (hp : (safeD bits vals seed z).2.1 ≠ p) : wholeL bits vals seed p (r + 1) z = safeD bits vals seed z := by rw [wholeL, if_pos h, if_neg hp]

end Go.Proofs.YtapplggboepfaaaGreatDoor
