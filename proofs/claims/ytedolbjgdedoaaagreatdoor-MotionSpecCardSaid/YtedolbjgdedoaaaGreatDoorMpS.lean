/- Walks: package pose: tips (where raised limbs end, as an iterator). -/
import Derived.Test.YtedolbjgdedoaaaGreatDoorMpe
import Derived.Test.YtedolbjgdedoaaaGreatDoorKbx
import Derived.Sort.CutIn
set_option linter.unusedSimpArgs false
set_option linter.unusedVariables false
set_option maxRecDepth 100000
set_option maxHeartbeats 8000000
namespace Go.Proofs.YtedolbjgdedoaaaGreatDoor
open Go.RowKit Go.Shelf
attribute [local go_sem] Oper.semAt_some
namespace Mo
end Mo
end Go.Proofs.YtedolbjgdedoaaaGreatDoor
