/- The walks of slices.Clone on numbers and coins.Values. The law's examples: what the calls of awake hand back. The law's examples: awake returns true. -/
import Derived.Test.YtiacajjpkncomaaGreatDoorExJ1
import Derived.Test.YtiacajjpkncomaaGreatDoorExJ2
import Derived.Test.YtiacajjpkncomaaGreatDoorExBW
import Derived.Test.YtiacajjpkncomaaGreatDoorExBR
import Derived.Test.YtiacajjpkncomaaGreatDoorExBA
import Derived.Test.YtiacajjpkncomaaGreatDoorExRA
import Derived.Laws.OwnMore
import Derived.Deep.AppendLies
import Derived.OwnWalk
import Derived.Deep.DeepCutAuto
import Derived.Deep.CutBlock
namespace Go.Proofs.YtiacajjpkncomaaGreatDoor
open Go.RowKit
set_option maxRecDepth 100000
set_option linter.unusedVariables false
set_option maxHeartbeats 2000000
theorem addr_block (ad:Addr) (j:Nat):(ad.add j).block=ad.block:=by unfold Addr.add;split<;>rfl
theorem SLs.far3 {w:World} {b k:Nat} {A:Option Addr} {vals:List ByteArray} {x y t:Value} (hs:SLs w k A vals) (hA:∀ a,A=some a→b≠a.block) :
  SLs (((w.setCell ⟨b,0,none⟩ x).setCell ⟨b,1,none⟩ y).setCell ⟨b,2,none⟩ t) k A vals:=by
 intro hne;obtain ⟨ad,e,hb',hc⟩:=hs hne;have hg:=hA ad e;refine ⟨ad,e,hb',fun j hj=>?_⟩;exact hop3 (by rw [addr_block];exact hg) (hc j hj)
end Go.Proofs.YtiacajjpkncomaaGreatDoor
namespace Go.Proofs.YtiacajjpkncomaaGreatDoor
open Go.RowKit
set_option maxRecDepth 100000
set_option linter.unusedVariables false
set_option maxHeartbeats 1000000
end Go.Proofs.YtiacajjpkncomaaGreatDoor
namespace Go.Proofs.YtiacajjpkncomaaGreatDoor
open Go.RowKit
set_option maxRecDepth 100000
set_option linter.unusedVariables false
set_option maxHeartbeats 4000000
end Go.Proofs.YtiacajjpkncomaaGreatDoor
