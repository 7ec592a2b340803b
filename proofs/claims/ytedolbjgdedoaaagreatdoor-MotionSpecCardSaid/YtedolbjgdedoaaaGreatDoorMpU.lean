/- Walks: the laws of layer 27: MotionDropped. -/
import Derived.Test.YtedolbjgdedoaaaGreatDoorMpQ
import Derived.Test.YtedolbjgdedoaaaGreatDoorMpT
set_option linter.unusedSimpArgs false
set_option linter.unusedVariables false
set_option maxRecDepth 100000
set_option maxHeartbeats 8000000
namespace Go.Proofs.YtedolbjgdedoaaaGreatDoor
open Go.RowKit Go.Shelf
attribute [local go_sem] Oper.semAt_some
namespace Mo
end Mo
end Go.Proofs.YtedolbjgdedoaaaGreatDoor
