/- Rows of integers (two cells each): slices of api.Int. -/
import Derived.Test.YtcpglhjmhegfmaaGreatDoorTvUU
import Derived.Test.YtcpglhjmhegfmaaGreatDoorTvII
namespace Go.Proofs.YtcpglhjmhegfmaaGreatDoor
open Go.RowKit
set_option maxRecDepth 100000
set_option linter.unusedVariables false
set_option maxHeartbeats 4000000
def z0 : Bool × ByteArray := (false, ⟨#[]⟩)
section
variable {w w' : World} {b b' : Nat} {A : Option Addr} {es : List (Bool × ByteArray)}
end
end Go.Proofs.YtcpglhjmhegfmaaGreatDoor
