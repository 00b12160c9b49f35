/- The walks of the law file's own tests: small, isPrime by trial division, Few. -/
import Derived.Test.YtapplggboepfaaaGreatDoorBR
import Derived.Test.YtapplggboepfaaaGreatDoorBA
import Derived.Test.YtapplggboepfaaaGreatDoorRA
namespace Go.Proofs.YtapplggboepfaaaGreatDoor
open Go.RowKit
set_option maxRecDepth 100000
set_option linter.unusedVariables false
set_option maxHeartbeats 1000000

/-- The number of bits is small, or not allowed. -/
def smallT (z : Int) : Bool := decide (z ≤ 24) || decide (60 < z)
/-- What the trial division hands back. -/
def trialRes (n : Nat) (e : Ending) : Prop := ∃ b, e = .returned (.bool b) ∧ (b = true ↔ primeT n)
/-- The tape is small. -/
def FewP (vals : List ByteArray) (seed : ByteArray) (z : Int) : Prop := vals.length ≤ 80 ∧ (∀ j, j < vals.length → (vals.getD j ByteArray.empty).size ≤ 16) ∧ seed.size ≤ 40 ∧ z < 1000
/-- What Few hands back. -/
def fewRes (vals : List ByteArray) (seed : ByteArray) (z : Int) (e : Ending) : Prop :=
  ∃ b, e = .returned (.bool b) ∧ (b = true ↔ FewP vals seed z)
end Go.Proofs.YtapplggboepfaaaGreatDoor
