/- The walks of the reference of layer 10 (rsagroup). -/
import Derived.Test.YtapplggboepfaaaGreatDoorRB
import Derived.Test.YtapplggboepfaaaGreatDoorBM
namespace Go.Proofs.YtapplggboepfaaaGreatDoor
open Go.RowKit
set_option maxRecDepth 100000
set_option linter.unusedVariables false
set_option maxHeartbeats 400000

end Go.Proofs.YtapplggboepfaaaGreatDoor
