/- Plain: the state in the middle between two of the way, and the steps of the way (law MotionInside). -/
import Derived.Test.YtedolbjgdedoaaaGreatDoorMpV
set_option linter.unusedSimpArgs false
set_option linter.unusedVariables false
namespace Go.Proofs.YtedolbjgdedoaaaGreatDoor
open Go.RowKit Go.Shelf
namespace Mo
end Mo
end Go.Proofs.YtedolbjgdedoaaaGreatDoor
