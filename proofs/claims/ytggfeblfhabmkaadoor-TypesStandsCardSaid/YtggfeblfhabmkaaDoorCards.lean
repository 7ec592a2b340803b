/-
  DERIVED. GIVEN WITH THE SEED: THE CARDS: each row of YtggfeblfhabmkaaDoorRows.lean that lists a variable, with what it lists TIED to the program's text (the seventh form; the later family's looks); each row that meets fmt, with fmt's text TOLD by the authors' own Lean function (tested against real Go, not proved from fmt's source: count such statements apart). THE CARD IS WHAT COUNTS. Prove the row's statement (the work); the ties are given (YtggfeblfhabmkaaDoorTie.lean); close each card by the builder's one call (the guide's Derived/Test/ToyasCard.lean, 'card_holds'). Laid BY PROGRAM, IN A SANDBOX (cutbox-door.mjs). By AI agents, Wed Nov 11 2026. No macro, syntax, notation, axiom, sorry.
-/
import Derived.Test.YtggfeblfhabmkaaDoorRows
import GoSem.ClaimSeven
namespace Go.Proofs.YtggfeblfhabmkaaDoor
namespace Rows

/-- THE TIED CARD OF 'kinespherelaw20.TypesStands'. -/
def typesStandsCard : Claim7 := { stood := { row := typesStandsRow, standIns := [], harness := (true, "ba6b3ce3876698859d8517b704fa973d13327de4a6b3152c89d0c67cc7c6e5cc"), looks := true }, kinds := [], alts := [], laidByText := true, laidKinds := [.data], laidTests := true, laidLooks := .later }
def TypesStandsCardSaid : Prop := Claim7.holds Tryd.pinned (.plain (OpenSpec.ofChange typesStandsSpec)) typesStandsCard

/-- THE TIED CARD OF 'kinespherelaw20.TypesMoment'. -/
def typesMomentCard : Claim7 := { stood := { row := typesMomentRow, standIns := [], harness := (true, "ba6b3ce3876698859d8517b704fa973d13327de4a6b3152c89d0c67cc7c6e5cc"), looks := true }, kinds := [], alts := [], laidByText := true, laidKinds := [.data], laidTests := true, laidLooks := .later }
def TypesMomentCardSaid : Prop := Claim7.holds Tryd.pinned (.plain (OpenSpec.ofChange typesMomentSpec)) typesMomentCard

/-- THE TIED CARD OF 'kinespherelaw20.TypesLift'. -/
def typesLiftCard : Claim7 := { stood := { row := typesLiftRow, standIns := [], harness := (true, "ba6b3ce3876698859d8517b704fa973d13327de4a6b3152c89d0c67cc7c6e5cc"), looks := true }, kinds := [], alts := [], laidByText := true, laidKinds := [.data], laidTests := true, laidLooks := .later }
def TypesLiftCardSaid : Prop := Claim7.holds Tryd.pinned (.plain (OpenSpec.ofChange typesLiftSpec)) typesLiftCard

/-- THE TIED CARD OF 'kinespherelaw20.TypesLess'. -/
def typesLessCard : Claim7 := { stood := { row := typesLessRow, standIns := [], harness := (true, "ba6b3ce3876698859d8517b704fa973d13327de4a6b3152c89d0c67cc7c6e5cc"), looks := true }, kinds := [], alts := [], laidByText := true, laidKinds := [.data], laidTests := true, laidLooks := .later }
def TypesLessCardSaid : Prop := Claim7.holds Tryd.pinned (.plain (OpenSpec.ofChange typesLessSpec)) typesLessCard

/-- THE TIED CARD OF 'kinespherelaw20.TypesMirrored'. -/
def typesMirroredCard : Claim7 := { stood := { row := typesMirroredRow, standIns := [], harness := (true, "ba6b3ce3876698859d8517b704fa973d13327de4a6b3152c89d0c67cc7c6e5cc"), looks := true }, kinds := [], alts := [], laidByText := true, laidKinds := [.data], laidTests := true, laidLooks := .later }
def TypesMirroredCardSaid : Prop := Claim7.holds Tryd.pinned (.plain (OpenSpec.ofChange typesMirroredSpec)) typesMirroredCard

/-- THE SECOND FORM's CARD OF 'kinespherelaw20.TypesStands'. -/
def typesStandsUptoCard : Claim7 := { stood := { row := typesStandsUptoRow, standIns := [], harness := (true, "ba6b3ce3876698859d8517b704fa973d13327de4a6b3152c89d0c67cc7c6e5cc"), looks := true }, kinds := [], alts := [], laidByText := true, laidKinds := [.data], laidTests := true, laidLooks := .later }
def TypesStandsUptoCardSaid : Prop := Claim7.holds Tryd.pinned (.plain (OpenSpec.upto typesStandsSpec)) typesStandsUptoCard

/-- THE SECOND FORM's CARD OF 'kinespherelaw20.TypesMoment'. -/
def typesMomentUptoCard : Claim7 := { stood := { row := typesMomentUptoRow, standIns := [], harness := (true, "ba6b3ce3876698859d8517b704fa973d13327de4a6b3152c89d0c67cc7c6e5cc"), looks := true }, kinds := [], alts := [], laidByText := true, laidKinds := [.data], laidTests := true, laidLooks := .later }
def TypesMomentUptoCardSaid : Prop := Claim7.holds Tryd.pinned (.plain (OpenSpec.upto typesMomentSpec)) typesMomentUptoCard

/-- THE SECOND FORM's CARD OF 'kinespherelaw20.TypesLift'. -/
def typesLiftUptoCard : Claim7 := { stood := { row := typesLiftUptoRow, standIns := [], harness := (true, "ba6b3ce3876698859d8517b704fa973d13327de4a6b3152c89d0c67cc7c6e5cc"), looks := true }, kinds := [], alts := [], laidByText := true, laidKinds := [.data], laidTests := true, laidLooks := .later }
def TypesLiftUptoCardSaid : Prop := Claim7.holds Tryd.pinned (.plain (OpenSpec.upto typesLiftSpec)) typesLiftUptoCard

/-- THE SECOND FORM's CARD OF 'kinespherelaw20.TypesLess'. -/
def typesLessUptoCard : Claim7 := { stood := { row := typesLessUptoRow, standIns := [], harness := (true, "ba6b3ce3876698859d8517b704fa973d13327de4a6b3152c89d0c67cc7c6e5cc"), looks := true }, kinds := [], alts := [], laidByText := true, laidKinds := [.data], laidTests := true, laidLooks := .later }
def TypesLessUptoCardSaid : Prop := Claim7.holds Tryd.pinned (.plain (OpenSpec.upto typesLessSpec)) typesLessUptoCard

/-- THE SECOND FORM's CARD OF 'kinespherelaw20.TypesMirrored'. -/
def typesMirroredUptoCard : Claim7 := { stood := { row := typesMirroredUptoRow, standIns := [], harness := (true, "ba6b3ce3876698859d8517b704fa973d13327de4a6b3152c89d0c67cc7c6e5cc"), looks := true }, kinds := [], alts := [], laidByText := true, laidKinds := [.data], laidTests := true, laidLooks := .later }
def TypesMirroredUptoCardSaid : Prop := Claim7.holds Tryd.pinned (.plain (OpenSpec.upto typesMirroredSpec)) typesMirroredUptoCard
end Rows
end Go.Proofs.YtggfeblfhabmkaaDoor
