/- Plain law: SHA-256 and its code in numbers. No program in sight. The walks of package hash: words in memory, the schedule of a block. The walks of package hash: the schedule of a block. The walks of package hash: the constants and the state at the beginning. -/
import Derived.Test.YtcpglhjmhegfmaaGreatDoorTvBW
import Derived.Laws.Rows
import Derived.StillTailTactics
import Derived.Deep.RegionHeld3
namespace Go.Proofs.YtcpglhjmhegfmaaGreatDoor
set_option maxRecDepth 100000
set_option linter.unusedVariables false
end Go.Proofs.YtcpglhjmhegfmaaGreatDoor
namespace Go.Proofs.YtcpglhjmhegfmaaGreatDoor
open Go.RowKit
set_option maxRecDepth 100000
set_option linter.unusedVariables false
set_option maxHeartbeats 1000000
section
variable {w w' : World} {g : Nat} {T : TypeId} {L : List Nat}
end
end Go.Proofs.YtcpglhjmhegfmaaGreatDoor
namespace Go.Proofs.YtcpglhjmhegfmaaGreatDoor
open Go.RowKit
set_option maxRecDepth 100000
set_option linter.unusedVariables false
set_option maxHeartbeats 2000000
theorem Below.setCells {B b : Nat} {a : World} (hb : B ≤ b) : ∀ (vs : List Value) (o : Nat) (w : World), Below B a w → Below B a (w.setCells b o vs) := by
  intro vs
  induction vs with
  | nil => intro o w h; exact h
  | cons v vs ih => intro o w h; exact ih (o + 1) _ (h.setCell hb v)
theorem cell_hop {w : World} {p a : Addr} {v : Value} {u : Option Value} (h : p.block ≠ a.block) (hc : w.cell? a = u) : (w.setCell p v).drew.cell? a = u :=
  (World.cell?_setCell_other _ _ _ _ (fun e => h (by rw [e]))).trans hc
theorem some_hop {w : World} {p a : Addr} {v : Value} (h : ∃ u, w.cell? a = some u) : ∃ u, (w.setCell p v).drew.cell? a = some u := by
  obtain ⟨u, hu⟩ := h
  exact cell?_setCell_some hu
theorem free_hop {w : World} {p a : Addr} {v : Value} {b : Bool} (h : w.frozen? a = b) : (w.setCell p v).drew.frozen? a = b :=
  (World.frozen?_setCell _ _ _ _).trans h
end Go.Proofs.YtcpglhjmhegfmaaGreatDoor
namespace Go.Proofs.YtcpglhjmhegfmaaGreatDoor
open Go.RowKit
set_option maxRecDepth 100000
set_option linter.unusedVariables false
set_option maxHeartbeats 2000000
end Go.Proofs.YtcpglhjmhegfmaaGreatDoor
