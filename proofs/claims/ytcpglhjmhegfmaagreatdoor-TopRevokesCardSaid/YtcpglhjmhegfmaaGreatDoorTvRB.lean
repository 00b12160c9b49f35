/- The walks of the reference of layer 4 (prime). The walks of the reference of layer 4 (prime): the test. -/
import Derived.Test.YtcpglhjmhegfmaaGreatDoorTvRA
import Derived.Test.YtcpglhjmhegfmaaGreatDoorTvBP
namespace Go.Proofs.YtcpglhjmhegfmaaGreatDoor
open Go.RowKit
set_option maxRecDepth 100000
set_option linter.unusedVariables false
set_option maxHeartbeats 400000
end Go.Proofs.YtcpglhjmhegfmaaGreatDoor
namespace Go.Proofs.YtcpglhjmhegfmaaGreatDoor
open Go.RowKit
set_option maxRecDepth 100000
set_option linter.unusedVariables false
set_option maxHeartbeats 400000
/-- Whether a number is prime, by the test, and the error. -/
def isPS (s : ByteArray) : Bool × Int := (decide ((smallS s).2 = 0) && isS (smallS s).1, (smallS s).2)
end Go.Proofs.YtcpglhjmhegfmaaGreatDoor
