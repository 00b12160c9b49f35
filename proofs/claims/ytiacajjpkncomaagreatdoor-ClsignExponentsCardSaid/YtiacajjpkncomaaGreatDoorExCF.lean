/- The walk of the reference's search (package 11). -/
import Derived.Test.YtiacajjpkncomaaGreatDoorExCS
import Derived.Test.YtiacajjpkncomaaGreatDoorExJ5
import Derived.Deep.DeepCutAuto
import Derived.Deep.CutBlock
import Derived.Deep.RegionHeld3
namespace Go.Proofs.YtiacajjpkncomaaGreatDoor
open Go.RowKit
set_option maxRecDepth 100000
set_option linter.unusedVariables false
set_option maxHeartbeats 4000000
def searchPostR (k:Nat) (d:Int × Nat × Int) (n:Nat) (seed:ByteArray) (vals:List ByteArray) (e:Ending) (w':World):Prop :=
 (d.1=0∧∃ A' c',e=.returned (.tuple #[.string (B d.2.1),.agg #[.slice A' n c',.string seed,.int .i64 d.2.2],.int .i64 0])∧SLs w' w'.heap.size A' vals∧∀ a,A'=some a→k≤a.block) ∨
 (d.1≠0∧e=.returned (.tuple #[.string ⟨#[]⟩,.agg #[.slice none 0 0,.string ⟨#[]⟩,.int .i64 0],.int .i64 d.1]))
theorem SLs.far {w:World} {b k:Nat} {A:Option Addr} {vals:List ByteArray} {x y t:Value} (hs:SLs w k A vals) (hb:∀ a,A=some a→b≠a.block) :
  SLs (((w.setCell ⟨b,0,none⟩ x).setCell ⟨b,1,none⟩ y).setCell ⟨b,2,none⟩ t) k A vals:=by
 intro hne;obtain ⟨ad,e,hb',hc⟩:=hs hne;exact ⟨ad,e,hb',fun j hj=>hop3 (a:=ad.add j) (by have:=hb ad e;rwa [show (ad.add j).block=ad.block by unfold Addr.add;split<;>rfl]) (hc j hj)⟩
end Go.Proofs.YtiacajjpkncomaaGreatDoor
