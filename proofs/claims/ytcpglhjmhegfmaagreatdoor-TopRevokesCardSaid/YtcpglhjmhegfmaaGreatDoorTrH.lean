/- TopRevokes: words for the law. -/
import Derived.Test.YtcpglhjmhegfmaaGreatDoorTrC
import Derived.Test.YtcpglhjmhegfmaaGreatDoorTrE
namespace Go.Proofs.YtcpglhjmhegfmaaGreatDoor
open Go.RowKit
set_option maxRecDepth 100000
set_option linter.unusedVariables false
set_option maxHeartbeats 4000000
/-- Eight cells stored into a block of eight. -/
theorem set8 {W : World} {g : Nat} {T : TypeId} {a0 a1 a2 a3 a4 a5 a6 a7 : Value} (h : W.heap[g]? = some (.cells #[a0, a1, a2, a3, a4, a5, a6, a7] T (0, 0))) (u0 u1 u2 u3 u4 u5 u6 u7 : Value) :
    ((((((((W.setCell ⟨g, 0, none⟩ u0).setCell ⟨g, 1, none⟩ u1).setCell ⟨g, 2, none⟩ u2).setCell ⟨g, 3, none⟩ u3).setCell ⟨g, 4, none⟩ u4).setCell ⟨g, 5, none⟩ u5).setCell ⟨g, 6, none⟩ u6).setCell ⟨g, 7, none⟩ u7).heap[g]? = some (.cells #[u0, u1, u2, u3, u4, u5, u6, u7] T (0, 0)) := by
  have h0' : (W.setCell ⟨g, 0, none⟩ u0).heap[g]? = some (.cells #[u0, a1, a2, a3, a4, a5, a6, a7] T (0, 0)) := heap_setCell_same _ g 0 _ _ u0 h
  have h1' : ((W.setCell ⟨g, 0, none⟩ u0).setCell ⟨g, 1, none⟩ u1).heap[g]? = some (.cells #[u0, u1, a2, a3, a4, a5, a6, a7] T (0, 0)) := heap_setCell_same _ g 1 _ _ u1 h0'
  have h2' : (((W.setCell ⟨g, 0, none⟩ u0).setCell ⟨g, 1, none⟩ u1).setCell ⟨g, 2, none⟩ u2).heap[g]? = some (.cells #[u0, u1, u2, a3, a4, a5, a6, a7] T (0, 0)) := heap_setCell_same _ g 2 _ _ u2 h1'
  have h3' : ((((W.setCell ⟨g, 0, none⟩ u0).setCell ⟨g, 1, none⟩ u1).setCell ⟨g, 2, none⟩ u2).setCell ⟨g, 3, none⟩ u3).heap[g]? = some (.cells #[u0, u1, u2, u3, a4, a5, a6, a7] T (0, 0)) := heap_setCell_same _ g 3 _ _ u3 h2'
  have h4' : (((((W.setCell ⟨g, 0, none⟩ u0).setCell ⟨g, 1, none⟩ u1).setCell ⟨g, 2, none⟩ u2).setCell ⟨g, 3, none⟩ u3).setCell ⟨g, 4, none⟩ u4).heap[g]? = some (.cells #[u0, u1, u2, u3, u4, a5, a6, a7] T (0, 0)) := heap_setCell_same _ g 4 _ _ u4 h3'
  have h5' : ((((((W.setCell ⟨g, 0, none⟩ u0).setCell ⟨g, 1, none⟩ u1).setCell ⟨g, 2, none⟩ u2).setCell ⟨g, 3, none⟩ u3).setCell ⟨g, 4, none⟩ u4).setCell ⟨g, 5, none⟩ u5).heap[g]? = some (.cells #[u0, u1, u2, u3, u4, u5, a6, a7] T (0, 0)) := heap_setCell_same _ g 5 _ _ u5 h4'
  have h6' : (((((((W.setCell ⟨g, 0, none⟩ u0).setCell ⟨g, 1, none⟩ u1).setCell ⟨g, 2, none⟩ u2).setCell ⟨g, 3, none⟩ u3).setCell ⟨g, 4, none⟩ u4).setCell ⟨g, 5, none⟩ u5).setCell ⟨g, 6, none⟩ u6).heap[g]? = some (.cells #[u0, u1, u2, u3, u4, u5, u6, a7] T (0, 0)) := heap_setCell_same _ g 6 _ _ u6 h5'
  have h7' : ((((((((W.setCell ⟨g, 0, none⟩ u0).setCell ⟨g, 1, none⟩ u1).setCell ⟨g, 2, none⟩ u2).setCell ⟨g, 3, none⟩ u3).setCell ⟨g, 4, none⟩ u4).setCell ⟨g, 5, none⟩ u5).setCell ⟨g, 6, none⟩ u6).setCell ⟨g, 7, none⟩ u7).heap[g]? = some (.cells #[u0, u1, u2, u3, u4, u5, u6, u7] T (0, 0)) := heap_setCell_same _ g 7 _ _ u7 h6'
  exact h7'
theorem HisBox.put1 {w W : World} {CC : Array Value} {g : Nat} (h : HisBox w CC W) (hT : Tab w) (hg : w.heap.size < g) (i : Nat) (u : Value) : HisBox w CC (W.setCell ⟨g, i, none⟩ u) :=
  ⟨(put_heap (Nat.ne_of_lt hg)).trans h.blk, h.bt.put hT (Nat.le_of_lt hg), by rw [World.size_setCell]; exact h.size⟩
theorem HisBox.put8 {w W : World} {CC : Array Value} {g : Nat} (h : HisBox w CC W) (hT : Tab w) (hg : w.heap.size < g) (u0 u1 u2 u3 u4 u5 u6 u7 : Value) : HisBox w CC ((((((((W.setCell ⟨g, 0, none⟩ u0).setCell ⟨g, 1, none⟩ u1).setCell ⟨g, 2, none⟩ u2).setCell ⟨g, 3, none⟩ u3).setCell ⟨g, 4, none⟩ u4).setCell ⟨g, 5, none⟩ u5).setCell ⟨g, 6, none⟩ u6).setCell ⟨g, 7, none⟩ u7) :=
  (((((((h.put1 hT hg 0 u0).put1 hT hg 1 u1).put1 hT hg 2 u2).put1 hT hg 3 u3).put1 hT hg 4 u4).put1 hT hg 5 u5).put1 hT hg 6 u6).put1 hT hg 7 u7
theorem SLs.put1 {W : World} {g : Nat} {A : Option Addr} {M : List ByteArray} (h : SLs W W.heap.size A M) (hg : ∀ a, A = some a → a.block ≠ g) (i : Nat) (u : Value) : SLs (W.setCell ⟨g, i, none⟩ u) (W.setCell ⟨g, i, none⟩ u).heap.size A M := by
  intro hne
  obtain ⟨ad, rfl, hl, hc⟩ := h hne
  refine ⟨ad, rfl, by rw [World.size_setCell]; exact hl, fun j hj => ?_⟩
  rw [World.cell?_setCell_other _ _ _ _ (fun e => hg ad rfl (by have h2 := congrArg Addr.block e; rw [block_of_add] at h2; first | exact h2 | exact h2.symm))]
  exact hc j hj
theorem SLs.put8 {W : World} {g : Nat} {A : Option Addr} {M : List ByteArray} (h : SLs W W.heap.size A M) (hg : ∀ a, A = some a → a.block ≠ g) (u0 u1 u2 u3 u4 u5 u6 u7 : Value) : SLs ((((((((W.setCell ⟨g, 0, none⟩ u0).setCell ⟨g, 1, none⟩ u1).setCell ⟨g, 2, none⟩ u2).setCell ⟨g, 3, none⟩ u3).setCell ⟨g, 4, none⟩ u4).setCell ⟨g, 5, none⟩ u5).setCell ⟨g, 6, none⟩ u6).setCell ⟨g, 7, none⟩ u7) ((((((((W.setCell ⟨g, 0, none⟩ u0).setCell ⟨g, 1, none⟩ u1).setCell ⟨g, 2, none⟩ u2).setCell ⟨g, 3, none⟩ u3).setCell ⟨g, 4, none⟩ u4).setCell ⟨g, 5, none⟩ u5).setCell ⟨g, 6, none⟩ u6).setCell ⟨g, 7, none⟩ u7).heap.size A M :=
  (((((((h.put1 hg 0 u0).put1 hg 1 u1).put1 hg 2 u2).put1 hg 3 u3).put1 hg 4 u4).put1 hg 5 u5).put1 hg 6 u6).put1 hg 7 u7
theorem S_of {w W : World} {ad : Addr} {k : Nat} {vj v0 v1 v2 v3 v4 v5 v6 v7 v8 v9 v10 v11 v12 : Value} (hc : ∀ w', BT w w' → w'.cell? (ad.add k) = some vj) (h : HisBox w #[v0, v1, v2, v3, v4, v5, v6, v7, v8, v9, v10, v11, v12] W) :
    W.cell? ⟨w.heap.size, 0, none⟩ = some v0 ∧ W.cell? ⟨w.heap.size, 1, none⟩ = some v1 ∧ W.cell? ⟨w.heap.size, 2, none⟩ = some v2 ∧ W.cell? ⟨w.heap.size, 3, none⟩ = some v3 ∧ W.cell? ⟨w.heap.size, 4, none⟩ = some v4 ∧ W.cell? ⟨w.heap.size, 5, none⟩ = some v5 ∧ W.cell? ⟨w.heap.size, 6, none⟩ = some v6 ∧ W.cell? ⟨w.heap.size, 7, none⟩ = some v7 ∧ W.cell? ⟨w.heap.size, 12, none⟩ = some v12 ∧ W.cell? (ad.add k) = some vj := by
  obtain ⟨x0, x1, x2, x3, x4, x5, x6, x7, x8, x9, x10, x11, x12⟩ := h.all
  exact ⟨x0, x1, x2, x3, x4, x5, x6, x7, x12, hc _ h.bt⟩
/-- What the law keeps of a step: the history, the value in the delta, and the members. -/
structure DAt (w : World) (CC : Array Value) (g Z1 : Nat) (A : Option Addr) (M : List ByteArray) (W : World) : Prop where
  his : HisBox w CC W
  c5 : W.cell? ⟨g, 5, none⟩ = some (.string (B Z1))
  sl : SLs W W.heap.size A M
  lt : g < W.heap.size
theorem DAt.drew {w W : World} {CC : Array Value} {g Z1 : Nat} {A : Option Addr} {M : List ByteArray} (h : DAt w CC g Z1 A M W) : DAt w CC g Z1 A M W.drew := ⟨h.his.drew, h.c5, h.sl.drew, h.lt⟩
theorem DAt.next {w W w' : World} {CC : Array Value} {g Z1 : Nat} {A : Option Addr} {M : List ByteArray} (h : DAt w CC g Z1 A M W) (hb : Below W.heap.size W w') : DAt w CC g Z1 A M w' :=
  ⟨h.his.next hb, (hb.cell (p := ⟨g, 5, none⟩) h.lt).trans h.c5, h.sl.to hb, Nat.lt_of_lt_of_le h.lt hb.size⟩
theorem DAt.old {w wr W0 w5 : World} {CC : Array Value} {Z1 : Nat} {A Aa Ar : Option Addr} {M : List ByteArray} {i0 i1 : Int} {na ca nr cr : Nat} {b : ByteArray} (hT : Tab w) (h0 : HisBox w CC wr) (h5 : HisBox w CC w5)
    (hW : W0 = (wr.alloc (.cells #[.int .i64 0, .int .i64 0, .slice none 0 0, .slice none 0 0, .string ⟨#[]⟩, .string ⟨#[]⟩, .string ⟨#[]⟩, .string ⟨#[]⟩] 46)) ∨ W0 = (wr.alloc (.cells #[.int .i64 0, .int .i64 0, .slice none 0 0, .slice none 0 0, .string ⟨#[]⟩, .string ⟨#[]⟩, .string ⟨#[]⟩, .string ⟨#[]⟩] 46)).drew) (hb : Below W0.heap.size W0 w5) (hs : SLs w5 w5.heap.size A M) (hf : ∀ a, A = some a → W0.heap.size < a.block) :
    DAt w CC wr.heap.size Z1 A M ((((((((w5.setCell ⟨wr.heap.size, 0, none⟩ (.int .i64 i0)).setCell ⟨wr.heap.size, 1, none⟩ (.int .i64 i1)).setCell ⟨wr.heap.size, 2, none⟩ (.slice Aa na ca)).setCell ⟨wr.heap.size, 3, none⟩ (.slice Ar nr cr)).setCell ⟨wr.heap.size, 4, none⟩ (.string b)).setCell ⟨wr.heap.size, 5, none⟩ (.string (B Z1))).setCell ⟨wr.heap.size, 6, none⟩ (.string ⟨#[]⟩)).setCell ⟨wr.heap.size, 7, none⟩ (.string ⟨#[]⟩)) := by
  have hsz : W0.heap.size = wr.heap.size + 1 := by rcases hW with rfl | rfl <;> simp
  have hblk : w5.heap[wr.heap.size]? = some (.cells #[.int .i64 0, .int .i64 0, .slice none 0 0, .slice none 0 0, .string ⟨#[]⟩, .string ⟨#[]⟩, .string ⟨#[]⟩, .string ⟨#[]⟩] 46) := by
    rw [hb.block _ (by omega)]
    rcases hW with rfl | rfl
    · exact heap_alloc_new wr _
    · change (wr.alloc (.cells #[.int .i64 0, .int .i64 0, .slice none 0 0, .slice none 0 0, .string ⟨#[]⟩, .string ⟨#[]⟩, .string ⟨#[]⟩, .string ⟨#[]⟩] 46)).heap[wr.heap.size]? = _
      exact heap_alloc_new wr _
  have h8 := set8 hblk (.int .i64 i0) (.int .i64 i1) (.slice Aa na ca) (.slice Ar nr cr) (.string b) (.string (B Z1)) (.string ⟨#[]⟩) (.string ⟨#[]⟩)
  refine ⟨h5.put8 hT h0.size _ _ _ _ _ _ _ _, cell_of_row _ _ 5 _ _ _ h8, hs.put8 (fun a ha => by have := hf a ha; omega) _ _ _ _ _ _ _ _, ?_⟩
  exact (Array.getElem?_eq_some_iff.1 h8).1
theorem DAt.new {w w5 : World} {CC : Array Value} {Z1 : Nat} {A Aa Ar : Option Addr} {M : List ByteArray} {i0 i1 : Int} {na ca nr cr : Nat} {b : ByteArray} (h5 : HisBox w CC w5) (hs : SLs w5 w5.heap.size A M) :
    DAt w CC w5.heap.size Z1 A M (w5.alloc (.cells #[.int .i64 i0, .int .i64 i1, .slice Aa na ca, .slice Ar nr cr, .string b, .string (B Z1), .string ⟨#[]⟩, .string ⟨#[]⟩] 46)) :=
  ⟨h5.alloc _, cell_of_row _ _ 5 _ _ _ (heap_alloc_new w5 _), hs.to ((Below.refl _ _).alloc (Nat.le_refl _) _), by simp⟩

end Go.Proofs.YtcpglhjmhegfmaaGreatDoor
