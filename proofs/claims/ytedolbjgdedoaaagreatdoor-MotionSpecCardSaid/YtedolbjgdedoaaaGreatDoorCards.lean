/-
  DERIVED. GIVEN WITH THE SEED: THE CARDS: each row of YtedolbjgdedoaaaGreatDoorRows.lean that lists a variable, with what it lists TIED to the program's text (the seventh form; the later family's looks); each row that meets fmt, with fmt's text TOLD by the authors' own Lean function (tested against real Go, not proved from fmt's source: count such statements apart). THE CARD IS WHAT COUNTS. Prove the row's statement (the work); the ties are given (YtedolbjgdedoaaaGreatDoorTie.lean); close each card by the builder's one call (the guide's Derived/Test/ToyasCard.lean, 'card_holds'). Laid BY PROGRAM, IN A SANDBOX (cutbox-door.mjs). By AI agents, Wed Nov 11 2026. No macro, syntax, notation, axiom, sorry.
-/
import Derived.Test.YtedolbjgdedoaaaGreatDoorRows
import GoSem.ClaimSeven
namespace Go.Proofs.YtedolbjgdedoaaaGreatDoor
namespace Rows

/-- THE TIED CARD OF 'kinespherelaw27.MotionSpec'. -/
def motionSpecCard : Claim7 := { stood := { row := motionSpecRow, standIns := [], harness := (true, "5bd241ff2a26f64678a8b9a141b49ba25296a7482b2ab2f2ce77c4614cd85b1e"), looks := true }, kinds := [], alts := [], laidByText := true, laidKinds := [.data, .data, .data], laidTests := true, laidLooks := .later }
def MotionSpecCardSaid : Prop := Claim7.holds Tryz.pinned (.plain (OpenSpec.ofChange motionSpecSpec)) motionSpecCard

/-- THE TIED CARD OF 'kinespherelaw27.MotionSweepSpec'. -/
def motionSweepSpecCard : Claim7 := { stood := { row := motionSweepSpecRow, standIns := [], harness := (true, "5bd241ff2a26f64678a8b9a141b49ba25296a7482b2ab2f2ce77c4614cd85b1e"), looks := true }, kinds := [], alts := [], laidByText := true, laidKinds := [.data, .data, .data], laidTests := true, laidLooks := .later }
def MotionSweepSpecCardSaid : Prop := Claim7.holds Tryz.pinned (.plain (OpenSpec.ofChange motionSweepSpecSpec)) motionSweepSpecCard

/-- THE TIED CARD OF 'kinespherelaw27.MotionAlone'. -/
def motionAloneCard : Claim7 := { stood := { row := motionAloneRow, standIns := [], harness := (true, "5bd241ff2a26f64678a8b9a141b49ba25296a7482b2ab2f2ce77c4614cd85b1e"), looks := true }, kinds := [], alts := [], laidByText := true, laidKinds := [.data, .data, .data], laidTests := true, laidLooks := .later }
def MotionAloneCardSaid : Prop := Claim7.holds Tryz.pinned (.plain (OpenSpec.ofChange motionAloneSpec)) motionAloneCard

/-- THE TIED CARD OF 'kinespherelaw27.MotionSlim'. -/
def motionSlimCard : Claim7 := { stood := { row := motionSlimRow, standIns := [], harness := (true, "5bd241ff2a26f64678a8b9a141b49ba25296a7482b2ab2f2ce77c4614cd85b1e"), looks := true }, kinds := [], alts := [], laidByText := true, laidKinds := [.data, .data, .data], laidTests := true, laidLooks := .later }
def MotionSlimCardSaid : Prop := Claim7.holds Tryz.pinned (.plain (OpenSpec.ofChange motionSlimSpec)) motionSlimCard

/-- THE TIED CARD OF 'kinespherelaw27.MotionMirror'. -/
def motionMirrorCard : Claim7 := { stood := { row := motionMirrorRow, standIns := [], harness := (true, "5bd241ff2a26f64678a8b9a141b49ba25296a7482b2ab2f2ce77c4614cd85b1e"), looks := true }, kinds := [], alts := [], laidByText := true, laidKinds := [.data, .data, .data], laidTests := true, laidLooks := .later }
def MotionMirrorCardSaid : Prop := Claim7.holds Tryz.pinned (.plain (OpenSpec.ofChange motionMirrorSpec)) motionMirrorCard

/-- THE TIED CARD OF 'kinespherelaw27.MotionDropped'. -/
def motionDroppedCard : Claim7 := { stood := { row := motionDroppedRow, standIns := [], harness := (true, "5bd241ff2a26f64678a8b9a141b49ba25296a7482b2ab2f2ce77c4614cd85b1e"), looks := true }, kinds := [], alts := [], laidByText := true, laidKinds := [.data, .data, .data], laidTests := true, laidLooks := .later }
def MotionDroppedCardSaid : Prop := Claim7.holds Tryz.pinned (.plain (OpenSpec.ofChange motionDroppedSpec)) motionDroppedCard

/-- THE TIED CARD OF 'kinespherelaw27.MotionInside'. -/
def motionInsideCard : Claim7 := { stood := { row := motionInsideRow, standIns := [], harness := (true, "5bd241ff2a26f64678a8b9a141b49ba25296a7482b2ab2f2ce77c4614cd85b1e"), looks := true }, kinds := [], alts := [], laidByText := true, laidKinds := [.data, .data, .data], laidTests := true, laidLooks := .later }
def MotionInsideCardSaid : Prop := Claim7.holds Tryz.pinned (.plain (OpenSpec.ofChange motionInsideSpec)) motionInsideCard

/-- THE SECOND FORM's CARD OF 'kinespherelaw27.MotionSpec'. -/
def motionSpecUptoCard : Claim7 := { stood := { row := motionSpecUptoRow, standIns := [], harness := (true, "5bd241ff2a26f64678a8b9a141b49ba25296a7482b2ab2f2ce77c4614cd85b1e"), looks := true }, kinds := [], alts := [], laidByText := true, laidKinds := [.data, .data, .data], laidTests := true, laidLooks := .later }
def MotionSpecUptoCardSaid : Prop := Claim7.holds Tryz.pinned (.plain (OpenSpec.upto motionSpecSpec)) motionSpecUptoCard

/-- THE SECOND FORM's CARD OF 'kinespherelaw27.MotionSweepSpec'. -/
def motionSweepSpecUptoCard : Claim7 := { stood := { row := motionSweepSpecUptoRow, standIns := [], harness := (true, "5bd241ff2a26f64678a8b9a141b49ba25296a7482b2ab2f2ce77c4614cd85b1e"), looks := true }, kinds := [], alts := [], laidByText := true, laidKinds := [.data, .data, .data], laidTests := true, laidLooks := .later }
def MotionSweepSpecUptoCardSaid : Prop := Claim7.holds Tryz.pinned (.plain (OpenSpec.upto motionSweepSpecSpec)) motionSweepSpecUptoCard

/-- THE SECOND FORM's CARD OF 'kinespherelaw27.MotionAlone'. -/
def motionAloneUptoCard : Claim7 := { stood := { row := motionAloneUptoRow, standIns := [], harness := (true, "5bd241ff2a26f64678a8b9a141b49ba25296a7482b2ab2f2ce77c4614cd85b1e"), looks := true }, kinds := [], alts := [], laidByText := true, laidKinds := [.data, .data, .data], laidTests := true, laidLooks := .later }
def MotionAloneUptoCardSaid : Prop := Claim7.holds Tryz.pinned (.plain (OpenSpec.upto motionAloneSpec)) motionAloneUptoCard

/-- THE SECOND FORM's CARD OF 'kinespherelaw27.MotionSlim'. -/
def motionSlimUptoCard : Claim7 := { stood := { row := motionSlimUptoRow, standIns := [], harness := (true, "5bd241ff2a26f64678a8b9a141b49ba25296a7482b2ab2f2ce77c4614cd85b1e"), looks := true }, kinds := [], alts := [], laidByText := true, laidKinds := [.data, .data, .data], laidTests := true, laidLooks := .later }
def MotionSlimUptoCardSaid : Prop := Claim7.holds Tryz.pinned (.plain (OpenSpec.upto motionSlimSpec)) motionSlimUptoCard

/-- THE SECOND FORM's CARD OF 'kinespherelaw27.MotionMirror'. -/
def motionMirrorUptoCard : Claim7 := { stood := { row := motionMirrorUptoRow, standIns := [], harness := (true, "5bd241ff2a26f64678a8b9a141b49ba25296a7482b2ab2f2ce77c4614cd85b1e"), looks := true }, kinds := [], alts := [], laidByText := true, laidKinds := [.data, .data, .data], laidTests := true, laidLooks := .later }
def MotionMirrorUptoCardSaid : Prop := Claim7.holds Tryz.pinned (.plain (OpenSpec.upto motionMirrorSpec)) motionMirrorUptoCard

/-- THE SECOND FORM's CARD OF 'kinespherelaw27.MotionDropped'. -/
def motionDroppedUptoCard : Claim7 := { stood := { row := motionDroppedUptoRow, standIns := [], harness := (true, "5bd241ff2a26f64678a8b9a141b49ba25296a7482b2ab2f2ce77c4614cd85b1e"), looks := true }, kinds := [], alts := [], laidByText := true, laidKinds := [.data, .data, .data], laidTests := true, laidLooks := .later }
def MotionDroppedUptoCardSaid : Prop := Claim7.holds Tryz.pinned (.plain (OpenSpec.upto motionDroppedSpec)) motionDroppedUptoCard

/-- THE SECOND FORM's CARD OF 'kinespherelaw27.MotionInside'. -/
def motionInsideUptoCard : Claim7 := { stood := { row := motionInsideUptoRow, standIns := [], harness := (true, "5bd241ff2a26f64678a8b9a141b49ba25296a7482b2ab2f2ce77c4614cd85b1e"), looks := true }, kinds := [], alts := [], laidByText := true, laidKinds := [.data, .data, .data], laidTests := true, laidLooks := .later }
def MotionInsideUptoCardSaid : Prop := Claim7.holds Tryz.pinned (.plain (OpenSpec.upto motionInsideSpec)) motionInsideUptoCard
end Rows
end Go.Proofs.YtedolbjgdedoaaaGreatDoor
