/- The walk of package hash: the state after a block. The walk of package hash: Sum. -/
import Derived.Test.YtcpglhjmhegfmaaGreatDoorTvBH
import Derived.Test.YtcpglhjmhegfmaaGreatDoorTvBR
import Derived.Laws.CopyOwn
import Derived.Deep.RegionLaw
namespace Go.Proofs.YtcpglhjmhegfmaaGreatDoor
open Go.RowKit
set_option maxRecDepth 100000
set_option linter.unusedVariables false
set_option maxHeartbeats 2000000
@[simp] theorem size_cells (b : Nat) : ∀ (vs : List Value) (o : Nat) (w : World), (w.setCells b o vs).heap.size = w.heap.size := by
  intro vs
  induction vs with
  | nil => intro o w; rfl
  | cons v vs ih => intro o w; rw [World.setCells, ih]; simp
section
variable {B Q : Nat} {w wr wq : World} {S W V V' : List Nat}
end
end Go.Proofs.YtcpglhjmhegfmaaGreatDoor
namespace Go.Proofs.YtcpglhjmhegfmaaGreatDoor
open Go.RowKit
set_option maxRecDepth 100000
set_option linter.unusedVariables false
set_option maxHeartbeats 2000000
theorem OwnB.alloc {w : World} {base : Nat} {v : Value} {n : Nat} {L : List UInt8} (h : OwnB w base v n L) (hb : base ≤ w.heap.size) (o : Obj) : OwnB (w.alloc o) base v n L := by
  refine ⟨h.1, h.2.1, ?_⟩
  rcases h.2.2 with hn | ⟨g, cap, cur, rfl, h1, hg, rest⟩
  · exact .inl hn
  · exact .inr ⟨g, cap, cur, rfl, h1, (Below.heap_alloc w o g (Array.getElem?_eq_some_iff.1 hg).1).trans hg, rest⟩
end Go.Proofs.YtcpglhjmhegfmaaGreatDoor
