/- Words for memory: a block of bytes that is known whole. -/
import Derived.Test.YtfggpgiinihflaaDoorSpec
import Derived.WalkKit
import Derived.WalkSpells
import Derived.Deep.Draws
namespace Go.Proofs.YtfggpgiinihflaaDoor
open Go.RowKit

/-- The bytes that lie in a row of cells. -/
def Row (w : World) (g o : Nat) (L : List UInt8) : Prop := ∀ k, k < L.length → w.cell? ⟨g, o + k, none⟩ = some (.int .u8 (L.getD k 0).toNat)
def cellsOf (L : List UInt8) : Array Value := (L.map fun b => Value.int .u8 b.toNat).toArray
/-- Block g is just these bytes, and may be written. -/
def Bk (w : World) (g : Nat) (T : TypeId) (L : List UInt8) : Prop := w.heap[g]? = some (.cells (cellsOf L) T (0, 0))
theorem getD_lt {L : List UInt8} {k : Nat} (h : k < L.length) : L.getD k 0 = L[k] := by simp [List.getD, h]
theorem cellsOf_get (L : List UInt8) (k : Nat) (h : k < L.length) : (cellsOf L)[k]? = some (.int .u8 (L.getD k 0).toNat) := by
  simp [cellsOf, List.getD, h]
theorem cellsOf_set (L : List UInt8) (k : Nat) (b : UInt8) : (cellsOf L).setIfInBounds k (.int .u8 b.toNat) = cellsOf (L.set k b) := by
  simp [cellsOf, List.map_set]
section
variable {w w' : World} {g : Nat} {T : TypeId} {L : List UInt8}
theorem Bk.cell (h : Bk w g T L) {k : Nat} (hk : k < L.length) : w.cell? ⟨g, k, none⟩ = some (.int .u8 (L.getD k 0).toNat) := by
  unfold Bk at h
  simp only [World.cell?, h]
  exact cellsOf_get L k hk
theorem Bk.row (h : Bk w g T L) : Row w g 0 L := fun k hk => by rw [Nat.zero_add]; exact h.cell hk
theorem Bk.free (h : Bk w g T L) (k : Nat) : w.frozen? ⟨g, k, none⟩ = false := by
  unfold Bk at h
  simp [World.frozen?, h]
theorem Bk.lt (h : Bk w g T L) : g < w.heap.size := by
  rcases Nat.lt_or_ge g w.heap.size with hlt | hge
  · exact hlt
  · unfold Bk at h; rw [Array.getElem?_eq_none hge] at h; cases h
theorem Bk.new (w : World) (T : TypeId) (L : List UInt8) : Bk (w.alloc (.cells (cellsOf L) T)) w.heap.size T L := heap_alloc_new w _
theorem Bk.set (h : Bk w g T L) (k : Nat) (b : UInt8) : Bk (w.setCell ⟨g, k, none⟩ (.int .u8 b.toNat)) g T (L.set k b) := by
  unfold Bk at h ⊢
  rw [← cellsOf_set]
  simp [World.setCell, Array.getElem?_modify, h]
theorem Bk.drewN (h : Bk w g T L) (n : Nat) : Bk (w.drewN n) g T L := h
theorem Bk.alloc (h : Bk w g T L) (o : Obj) : Bk (w.alloc o) g T L := (Below.heap_alloc w o g h.lt).trans h
theorem Bk.far (h : Bk w g T L) {p : Addr} (hp : g ≠ p.block) (u : Value) : Bk (w.setCell p u) g T L := (Below.heap_setCell w p u g hp).trans h
theorem Bk.below {B : Nat} (h : Bk w g T L) (hb : Below B w w') (hg : g < B) : Bk w' g T L := (hb.block g hg).trans h
end
theorem Row.below {w w' : World} {g o B : Nat} {L : List UInt8} (h : Row w g o L) (hb : Below B w w') (hg : g < B) : Row w' g o L :=
  fun k hk => (hb.cell (p := ⟨g, o + k, none⟩) hg).trans (h k hk)
theorem cellsOf_zeros (n : Nat) : cellsOf (List.replicate n 0) = Array.replicate n (.int .u8 0) := by simp [cellsOf]
end Go.Proofs.YtfggpgiinihflaaDoor
