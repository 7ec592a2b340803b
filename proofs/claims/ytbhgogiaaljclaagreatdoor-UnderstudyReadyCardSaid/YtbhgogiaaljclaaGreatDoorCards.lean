/-
  DERIVED. GIVEN WITH THE SEED: THE CARDS: each row of YtbhgogiaaljclaaGreatDoorRows.lean that lists a variable, with what it lists TIED to the program's text (the seventh form; the later family's looks); each row that meets fmt, with fmt's text TOLD by the authors' own Lean function (tested against real Go, not proved from fmt's source: count such statements apart). THE CARD IS WHAT COUNTS. Prove the row's statement (the work); the ties are given (YtbhgogiaaljclaaGreatDoorTie.lean); close each card by the builder's one call (the guide's Derived/Test/ToyasCard.lean, 'card_holds'). Laid BY PROGRAM, IN A SANDBOX (cutbox-door.mjs). By AI agents, Wed Nov 11 2026. No macro, syntax, notation, axiom, sorry.
-/
import Derived.Test.YtbhgogiaaljclaaGreatDoorRows
import GoSem.ClaimSeven
namespace Go.Proofs.YtbhgogiaaljclaaGreatDoor
namespace Rows

/-- THE TIED CARD OF 'kinespherelaw48.UnderstudySpec'. -/
def understudySpecCard : Claim7 := { stood := { row := understudySpecRow, standIns := [], harness := (true, "dd497b12fa2d065dd7e39735f6d32d66adf8a697dc352ab81722e185c34efa7a"), looks := true }, kinds := [], alts := [], laidByText := true, laidKinds := [.data, .data], laidTests := true, laidLooks := .later }
def UnderstudySpecCardSaid : Prop := Claim7.holds Tryz.pinned (.plain (OpenSpec.ofChange understudySpecSpec)) understudySpecCard

/-- THE TIED CARD OF 'kinespherelaw48.UnderstudyReadySpec'. -/
def understudyReadySpecCard : Claim7 := { stood := { row := understudyReadySpecRow, standIns := [], harness := (true, "dd497b12fa2d065dd7e39735f6d32d66adf8a697dc352ab81722e185c34efa7a"), looks := true }, kinds := [], alts := [], laidByText := true, laidKinds := [.data, .data], laidTests := true, laidLooks := .later }
def UnderstudyReadySpecCardSaid : Prop := Claim7.holds Tryz.pinned (.plain (OpenSpec.ofChange understudyReadySpecSpec)) understudyReadySpecCard

/-- THE TIED CARD OF 'kinespherelaw48.UnderstudyShown'. -/
def understudyShownCard : Claim7 := { stood := { row := understudyShownRow, standIns := [], harness := (true, "dd497b12fa2d065dd7e39735f6d32d66adf8a697dc352ab81722e185c34efa7a"), looks := true }, kinds := [], alts := [], laidByText := true, laidKinds := [.data, .data], laidTests := true, laidLooks := .later }
def UnderstudyShownCardSaid : Prop := Claim7.holds Tryz.pinned (.plain (OpenSpec.ofChange understudyShownSpec)) understudyShownCard

/-- THE TIED CARD OF 'kinespherelaw48.UnderstudyReady'. -/
def understudyReadyCard : Claim7 := { stood := { row := understudyReadyRow, standIns := [], harness := (true, "dd497b12fa2d065dd7e39735f6d32d66adf8a697dc352ab81722e185c34efa7a"), looks := true }, kinds := [], alts := [], laidByText := true, laidKinds := [.data, .data], laidTests := true, laidLooks := .later }
def UnderstudyReadyCardSaid : Prop := Claim7.holds Tryz.pinned (.plain (OpenSpec.ofChange understudyReadySpec)) understudyReadyCard

/-- THE TIED CARD OF 'kinespherelaw48.UnderstudyLater'. -/
def understudyLaterCard : Claim7 := { stood := { row := understudyLaterRow, standIns := [], harness := (true, "dd497b12fa2d065dd7e39735f6d32d66adf8a697dc352ab81722e185c34efa7a"), looks := true }, kinds := [], alts := [], laidByText := true, laidKinds := [.data, .data], laidTests := true, laidLooks := .later }
def UnderstudyLaterCardSaid : Prop := Claim7.holds Tryz.pinned (.plain (OpenSpec.ofChange understudyLaterSpec)) understudyLaterCard

/-- THE TIED CARD OF 'kinespherelaw48.UnderstudyWeaker'. -/
def understudyWeakerCard : Claim7 := { stood := { row := understudyWeakerRow, standIns := [], harness := (true, "dd497b12fa2d065dd7e39735f6d32d66adf8a697dc352ab81722e185c34efa7a"), looks := true }, kinds := [], alts := [], laidByText := true, laidKinds := [.data, .data], laidTests := true, laidLooks := .later }
def UnderstudyWeakerCardSaid : Prop := Claim7.holds Tryz.pinned (.plain (OpenSpec.ofChange understudyWeakerSpec)) understudyWeakerCard

/-- THE TIED CARD OF 'kinespherelaw48.UnderstudyDances'. -/
def understudyDancesCard : Claim7 := { stood := { row := understudyDancesRow, standIns := [], harness := (true, "dd497b12fa2d065dd7e39735f6d32d66adf8a697dc352ab81722e185c34efa7a"), looks := true }, kinds := [], alts := [], laidByText := true, laidKinds := [.data, .data], laidTests := true, laidLooks := .later }
def UnderstudyDancesCardSaid : Prop := Claim7.holds Tryz.pinned (.plain (OpenSpec.ofChange understudyDancesSpec)) understudyDancesCard

/-- THE SECOND FORM's CARD OF 'kinespherelaw48.UnderstudySpec'. -/
def understudySpecUptoCard : Claim7 := { stood := { row := understudySpecUptoRow, standIns := [], harness := (true, "dd497b12fa2d065dd7e39735f6d32d66adf8a697dc352ab81722e185c34efa7a"), looks := true }, kinds := [], alts := [], laidByText := true, laidKinds := [.data, .data], laidTests := true, laidLooks := .later }
def UnderstudySpecUptoCardSaid : Prop := Claim7.holds Tryz.pinned (.plain (OpenSpec.upto understudySpecSpec)) understudySpecUptoCard

/-- THE SECOND FORM's CARD OF 'kinespherelaw48.UnderstudyReadySpec'. -/
def understudyReadySpecUptoCard : Claim7 := { stood := { row := understudyReadySpecUptoRow, standIns := [], harness := (true, "dd497b12fa2d065dd7e39735f6d32d66adf8a697dc352ab81722e185c34efa7a"), looks := true }, kinds := [], alts := [], laidByText := true, laidKinds := [.data, .data], laidTests := true, laidLooks := .later }
def UnderstudyReadySpecUptoCardSaid : Prop := Claim7.holds Tryz.pinned (.plain (OpenSpec.upto understudyReadySpecSpec)) understudyReadySpecUptoCard

/-- THE SECOND FORM's CARD OF 'kinespherelaw48.UnderstudyShown'. -/
def understudyShownUptoCard : Claim7 := { stood := { row := understudyShownUptoRow, standIns := [], harness := (true, "dd497b12fa2d065dd7e39735f6d32d66adf8a697dc352ab81722e185c34efa7a"), looks := true }, kinds := [], alts := [], laidByText := true, laidKinds := [.data, .data], laidTests := true, laidLooks := .later }
def UnderstudyShownUptoCardSaid : Prop := Claim7.holds Tryz.pinned (.plain (OpenSpec.upto understudyShownSpec)) understudyShownUptoCard

/-- THE SECOND FORM's CARD OF 'kinespherelaw48.UnderstudyReady'. -/
def understudyReadyUptoCard : Claim7 := { stood := { row := understudyReadyUptoRow, standIns := [], harness := (true, "dd497b12fa2d065dd7e39735f6d32d66adf8a697dc352ab81722e185c34efa7a"), looks := true }, kinds := [], alts := [], laidByText := true, laidKinds := [.data, .data], laidTests := true, laidLooks := .later }
def UnderstudyReadyUptoCardSaid : Prop := Claim7.holds Tryz.pinned (.plain (OpenSpec.upto understudyReadySpec)) understudyReadyUptoCard

/-- THE SECOND FORM's CARD OF 'kinespherelaw48.UnderstudyLater'. -/
def understudyLaterUptoCard : Claim7 := { stood := { row := understudyLaterUptoRow, standIns := [], harness := (true, "dd497b12fa2d065dd7e39735f6d32d66adf8a697dc352ab81722e185c34efa7a"), looks := true }, kinds := [], alts := [], laidByText := true, laidKinds := [.data, .data], laidTests := true, laidLooks := .later }
def UnderstudyLaterUptoCardSaid : Prop := Claim7.holds Tryz.pinned (.plain (OpenSpec.upto understudyLaterSpec)) understudyLaterUptoCard

/-- THE SECOND FORM's CARD OF 'kinespherelaw48.UnderstudyWeaker'. -/
def understudyWeakerUptoCard : Claim7 := { stood := { row := understudyWeakerUptoRow, standIns := [], harness := (true, "dd497b12fa2d065dd7e39735f6d32d66adf8a697dc352ab81722e185c34efa7a"), looks := true }, kinds := [], alts := [], laidByText := true, laidKinds := [.data, .data], laidTests := true, laidLooks := .later }
def UnderstudyWeakerUptoCardSaid : Prop := Claim7.holds Tryz.pinned (.plain (OpenSpec.upto understudyWeakerSpec)) understudyWeakerUptoCard

/-- THE SECOND FORM's CARD OF 'kinespherelaw48.UnderstudyDances'. -/
def understudyDancesUptoCard : Claim7 := { stood := { row := understudyDancesUptoRow, standIns := [], harness := (true, "dd497b12fa2d065dd7e39735f6d32d66adf8a697dc352ab81722e185c34efa7a"), looks := true }, kinds := [], alts := [], laidByText := true, laidKinds := [.data, .data], laidTests := true, laidLooks := .later }
def UnderstudyDancesUptoCardSaid : Prop := Claim7.holds Tryz.pinned (.plain (OpenSpec.upto understudyDancesSpec)) understudyDancesUptoCard
end Rows
end Go.Proofs.YtbhgogiaaljclaaGreatDoor
