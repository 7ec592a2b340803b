/- Walks: the laws of layer 27: inside, limbs. -/
import Derived.Test.YtedolbjgdedoaaaGreatDoorMpT
import Derived.Test.YtedolbjgdedoaaaGreatDoorMpN
set_option linter.unusedSimpArgs false
set_option linter.unusedVariables false
set_option maxRecDepth 100000
set_option maxHeartbeats 4000000
namespace Go.Proofs.YtedolbjgdedoaaaGreatDoor
open Go.RowKit Go.Shelf
attribute [local go_sem] Oper.semAt_some
namespace Mo
end Mo
end Go.Proofs.YtedolbjgdedoaaaGreatDoor
