/- The walks of package coins: an attempt at a coin. -/
import Derived.Test.YtcpglhjmhegfmaaGreatDoorTvBW
import Derived.Test.YtcpglhjmhegfmaaGreatDoorTvBP
import Derived.Test.YtcpglhjmhegfmaaGreatDoorTvBR
import Derived.Test.YtcpglhjmhegfmaaGreatDoorTvBI
import Derived.Stop.RegionWithIn
import Derived.Lib.AppendStr
import Derived.OwnWalkIn
import Derived.Lib.AppendIntMem
import Derived.Lib.ItoaMem
import Derived.Lib.ItoaLen
import Derived.Deep.DeepCutAuto
import Derived.Deep.CutBlock
import Derived.RangeFuncNested
import Derived.RangeFuncBound
import Derived.RangeFuncCalls
import Derived.RangeFuncLeaves
import Derived.RangeFuncFrom
import Derived.Shelf.Abstract
import Derived.Shelf.RegionOpen
import Derived.WalkKit
import Derived.TacticsInMore
import Derived.LoopNIn
import Derived.LoopIn
namespace Go.Proofs.YtcpglhjmhegfmaaGreatDoor
open Go.RowKit Go.Shelf
set_option maxRecDepth 100000
set_option linter.unusedVariables false
set_option maxHeartbeats 4000000
attribute [local go_sem] Oper.semAt_some
theorem put_own {W : World} {base n l : Nat} {v : Value} {L : List UInt8} {o o' : Obj} (h : OwnB W base v n L) (hl : W.heap[l]? = some o) (ho : o.isCells = false) : OwnB (W.putObj l o') base v n L := by
  refine ⟨h.1, h.2.1, ?_⟩
  rcases h.2.2 with hn | ⟨g, cap, cur, rfl, h1, hg, rest⟩
  · exact .inl hn
  · refine .inr ⟨g, cap, cur, rfl, h1, ?_, rest⟩
    have hne : g ≠ l := by
      intro e
      subst e
      rw [hg] at hl
      cases hl
      cases ho
    rw [World.putObj_heap_other hne]
    exact hg
theorem OwnB.setCell {w : World} {base n : Nat} {v u : Value} {L : List UInt8} {p : Addr} (h : OwnB w base v n L) (hp : p.block < base) : OwnB (w.setCell p u) base v n L := by
  refine ⟨h.1, h.2.1, ?_⟩
  rcases h.2.2 with hn | ⟨g, cap, cur, rfl, h1, hg, rest⟩
  · exact .inl hn
  · exact .inr ⟨g, cap, cur, rfl, h1, (Below.heap_setCell w p u g (by omega)).trans hg, rest⟩
theorem OwnB.free {w : World} {base n g c : Nat} {L : List UInt8} (h : OwnB w base (.slice (some ⟨g, 0, none⟩) n c) n L) (hn : 0 < n) (k : Nat) : w.frozen? ⟨g, k, none⟩ = false := by
  rcases h.2.2 with ⟨hn, _⟩ | ⟨g', cap, cur, hv, h1, hg, rest⟩
  · cases hn
  · injection hv with e1 e2 e3
    injection e1 with e1
    injection e1 with e1
    subst e1
    simp [World.frozen?, hg]
end Go.Proofs.YtcpglhjmhegfmaaGreatDoor
