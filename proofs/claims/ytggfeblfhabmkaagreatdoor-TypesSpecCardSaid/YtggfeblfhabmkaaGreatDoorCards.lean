/-
  DERIVED. GIVEN WITH THE SEED: THE CARDS: each row of YtggfeblfhabmkaaGreatDoorRows.lean that lists a variable, with what it lists TIED to the program's text (the seventh form; the later family's looks); each row that meets fmt, with fmt's text TOLD by the authors' own Lean function (tested against real Go, not proved from fmt's source: count such statements apart). THE CARD IS WHAT COUNTS. Prove the row's statement (the work); the ties are given (YtggfeblfhabmkaaGreatDoorTie.lean); close each card by the builder's one call (the guide's Derived/Test/ToyasCard.lean, 'card_holds'). Laid BY PROGRAM, IN A SANDBOX (cutbox-door.mjs). By AI agents, Wed Nov 11 2026. No macro, syntax, notation, axiom, sorry.
-/
import Derived.Test.YtggfeblfhabmkaaGreatDoorRows
import GoSem.ClaimSeven
namespace Go.Proofs.YtggfeblfhabmkaaGreatDoor
namespace Rows

/-- THE TIED CARD OF 'kinespherelaw20.TypesSpec'. -/
def typesSpecCard : Claim7 := { stood := { row := typesSpecRow, standIns := [], harness := (true, "e4f3d415d16d17e42af5bcc8d391f5888550e2f0e5dc57d9f4e2cd71feba9294"), looks := true }, kinds := [], alts := [], laidByText := true, laidKinds := [.data], laidTests := true, laidLooks := .later }
def TypesSpecCardSaid : Prop := Claim7.holds Tryz.pinned (.plain (OpenSpec.ofChange typesSpecSpec)) typesSpecCard

/-- THE SECOND FORM's CARD OF 'kinespherelaw20.TypesSpec'. -/
def typesSpecUptoCard : Claim7 := { stood := { row := typesSpecUptoRow, standIns := [], harness := (true, "e4f3d415d16d17e42af5bcc8d391f5888550e2f0e5dc57d9f4e2cd71feba9294"), looks := true }, kinds := [], alts := [], laidByText := true, laidKinds := [.data], laidTests := true, laidLooks := .later }
def TypesSpecUptoCardSaid : Prop := Claim7.holds Tryz.pinned (.plain (OpenSpec.upto typesSpecSpec)) typesSpecUptoCard
end Rows
end Go.Proofs.YtggfeblfhabmkaaGreatDoor
