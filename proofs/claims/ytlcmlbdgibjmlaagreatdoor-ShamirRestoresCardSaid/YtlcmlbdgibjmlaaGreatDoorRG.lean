/- The walks of the reference of layer 10 (rsagroup). -/
import Derived.Test.YtlcmlbdgibjmlaaGreatDoorRB
import Derived.Test.YtlcmlbdgibjmlaaGreatDoorBM
namespace Go.Proofs.YtlcmlbdgibjmlaaGreatDoor
open Go.RowKit
set_option maxRecDepth 100000
set_option linter.unusedVariables false
set_option maxHeartbeats 400000

end Go.Proofs.YtlcmlbdgibjmlaaGreatDoor
