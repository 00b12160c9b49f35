/- The examples of the chapter on accumulators. The examples of the chapter on accumulators: the key, awake. The examples of the chapter on accumulators: Remove, awake. The law AccumulatorOrders: it returns true. -/
import Derived.Test.YtcpglhjmhegfmaaGreatDoorTvUm1
import Derived.Test.YtcpglhjmhegfmaaGreatDoorTvBE
import Derived.Test.YtcpglhjmhegfmaaGreatDoorTvII
import Derived.Test.YtcpglhjmhegfmaaGreatDoorTvBP
import Derived.Test.YtcpglhjmhegfmaaGreatDoorTvRA
import Derived.Deep.DeepCutAuto
import Derived.Deep.CutBlock
namespace Go.Proofs.YtcpglhjmhegfmaaGreatDoor
open Go.RowKit
set_option maxRecDepth 100000
set_option linter.unusedVariables false
set_option maxHeartbeats 4000000
end Go.Proofs.YtcpglhjmhegfmaaGreatDoor
namespace Go.Proofs.YtcpglhjmhegfmaaGreatDoor
open Go.RowKit
set_option maxRecDepth 100000
set_option linter.unusedVariables false
set_option maxHeartbeats 4000000
theorem two_boxes (w : World) (o1 o2 : Obj) : ((w.alloc o1).alloc o2).heap[w.heap.size]? = some o1 ∧ ((w.alloc o1).alloc o2).heap[w.heap.size + 1]? = some o2 :=
  ⟨(Below.heap_alloc _ o2 _ (by simp)).trans (heap_alloc_new w _), by have := heap_alloc_new (w.alloc o1) o2; rwa [World.size_alloc] at this⟩
end Go.Proofs.YtcpglhjmhegfmaaGreatDoor
namespace Go.Proofs.YtcpglhjmhegfmaaGreatDoor
open Go.RowKit
set_option maxRecDepth 100000
set_option linter.unusedVariables false
set_option maxHeartbeats 4000000
end Go.Proofs.YtcpglhjmhegfmaaGreatDoor
namespace Go.Proofs.YtcpglhjmhegfmaaGreatDoor
open Go.RowKit
set_option maxRecDepth 100000
set_option linter.unusedVariables false
set_option maxHeartbeats 1000000
/-- A key's block, whole; the table; the rest as before. -/
structure KbAt (w : World) (kn z s r h : Value) (m o u : ByteArray) (wx : World) : Prop where
  blk : wx.heap[w.heap.size]? = some (.cells #[kn, .string m, .string o, z, s, r, .string u, h] 27 (0, 0))
  tab : Tab wx
  below : Below w.heap.size w wx
  size : w.heap.size < wx.heap.size
section
variable {w wx w' : World} {kn z s r h : Value} {m o u : ByteArray}
theorem KbAt.next (k : KbAt w kn z s r h m o u wx) (hb : Below wx.heap.size wx w') : KbAt w kn z s r h m o u w' :=
  ⟨(hb.block _ k.size).trans k.blk, k.tab.below hb, below2 k.below hb, Nat.lt_of_lt_of_le k.size hb.size⟩
theorem KbAt.alloc (k : KbAt w kn z s r h m o u wx) (ob : Obj) : KbAt w kn z s r h m o u (wx.alloc ob) := k.next ((Below.refl _ _).alloc (Nat.le_refl _) _)
theorem KbAt.drew (k : KbAt w kn z s r h m o u wx) : KbAt w kn z s r h m o u wx.drew := k.next ((Below.refl _ _).drew)
theorem KbAt.box (hT : Tab w) : KbAt w kn z s r h m o u (w.alloc (.cells #[kn, .string m, .string o, z, s, r, .string u, h] 27)) :=
  ⟨heap_alloc_new w _, hT.alloc _, (Below.refl _ _).alloc (Nat.le_refl _) _, by simp⟩
theorem KbAt.all (k : KbAt w kn z s r h m o u wx) : wx.cell? ⟨w.heap.size, 0, none⟩ = some kn ∧ wx.cell? ⟨w.heap.size, 1, none⟩ = some (.string m) ∧ wx.cell? ⟨w.heap.size, 2, none⟩ = some (.string o) ∧ wx.cell? ⟨w.heap.size, 3, none⟩ = some z ∧ wx.cell? ⟨w.heap.size, 4, none⟩ = some s ∧ wx.cell? ⟨w.heap.size, 5, none⟩ = some r ∧ wx.cell? ⟨w.heap.size, 6, none⟩ = some (.string u) ∧ wx.cell? ⟨w.heap.size, 7, none⟩ = some h :=
  ⟨cell_of_row wx _ 0 _ _ _ k.blk, cell_of_row wx _ 1 _ _ _ k.blk, cell_of_row wx _ 2 _ _ _ k.blk, cell_of_row wx _ 3 _ _ _ k.blk, cell_of_row wx _ 4 _ _ _ k.blk, cell_of_row wx _ 5 _ _ _ k.blk, cell_of_row wx _ 6 _ _ _ k.blk, cell_of_row wx _ 7 _ _ _ k.blk⟩
theorem KbAt.sls {A : Option Addr} {ls : List ByteArray} (k : KbAt w kn z s r h m o u wx) (hs : SLs w w.heap.size A ls) : SLs wx wx.heap.size A ls := (hs.below k.below).more k.below.size
end
end Go.Proofs.YtcpglhjmhegfmaaGreatDoor
