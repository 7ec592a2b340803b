/-
  DERIVED. GIVEN WITH THE SEED: THE CARDS: each row of YtjoieglhmladhaaDoorRows.lean that lists a variable, with what it lists TIED to the program's text (the seventh form; the later family's looks); each row that meets fmt, with fmt's text TOLD by the authors' own Lean function (tested against real Go, not proved from fmt's source: count such statements apart). THE CARD IS WHAT COUNTS. Prove the row's statement (the work); the ties are given (YtjoieglhmladhaaDoorTie.lean); close each card by the builder's one call (the guide's Derived/Test/ToyasCard.lean, 'card_holds'). Laid BY PROGRAM, IN A SANDBOX (cutbox-door.mjs). By AI agents, Wed Nov 11 2026. No macro, syntax, notation, axiom, sorry.
-/
import Derived.Test.YtjoieglhmladhaaDoorRows
import GoSem.ClaimSeven
namespace Go.Proofs.YtjoieglhmladhaaDoor
namespace Rows

/-- THE TIED CARD OF 'kinespherelaw29.ApartSpec'. -/
def apartSpecCard : Claim7 := { stood := { row := apartSpecRow, standIns := [], harness := (true, "99c09b5e9415da644c7f1d0721f83448bdb7355075c38120fdd3f90037f3c069"), looks := true }, kinds := [], alts := [], laidByText := true, laidKinds := [.data], laidTests := true, laidLooks := .later }
def ApartSpecCardSaid : Prop := Claim7.holds Tryd.pinned (.plain (OpenSpec.ofChange apartSpecSpec)) apartSpecCard

/-- THE TIED CARD OF 'kinespherelaw29.ApartGroupsSpec'. -/
def apartGroupsSpecCard : Claim7 := { stood := { row := apartGroupsSpecRow, standIns := [], harness := (true, "99c09b5e9415da644c7f1d0721f83448bdb7355075c38120fdd3f90037f3c069"), looks := true }, kinds := [], alts := [], laidByText := true, laidKinds := [.data], laidTests := true, laidLooks := .later }
def ApartGroupsSpecCardSaid : Prop := Claim7.holds Tryd.pinned (.plain (OpenSpec.ofChange apartGroupsSpecSpec)) apartGroupsSpecCard

/-- THE TIED CARD OF 'kinespherelaw29.ApartClashSpec'. -/
def apartClashSpecCard : Claim7 := { stood := { row := apartClashSpecRow, standIns := [], harness := (true, "99c09b5e9415da644c7f1d0721f83448bdb7355075c38120fdd3f90037f3c069"), looks := true }, kinds := [], alts := [], laidByText := true, laidKinds := [.data], laidTests := true, laidLooks := .later }
def ApartClashSpecCardSaid : Prop := Claim7.holds Tryd.pinned (.plain (OpenSpec.ofChange apartClashSpecSpec)) apartClashSpecCard

/-- THE TIED CARD OF 'kinespherelaw29.ApartSafe'. -/
def apartSafeCard : Claim7 := { stood := { row := apartSafeRow, standIns := [], harness := (true, "99c09b5e9415da644c7f1d0721f83448bdb7355075c38120fdd3f90037f3c069"), looks := true }, kinds := [], alts := [], laidByText := true, laidKinds := [.data], laidTests := true, laidLooks := .later }
def ApartSafeCardSaid : Prop := Claim7.holds Tryd.pinned (.plain (OpenSpec.ofChange apartSafeSpec)) apartSafeCard

/-- THE TIED CARD OF 'kinespherelaw29.ApartReal'. -/
def apartRealCard : Claim7 := { stood := { row := apartRealRow, standIns := [], harness := (true, "99c09b5e9415da644c7f1d0721f83448bdb7355075c38120fdd3f90037f3c069"), looks := true }, kinds := [], alts := [], laidByText := true, laidKinds := [.data], laidTests := true, laidLooks := .later }
def ApartRealCardSaid : Prop := Claim7.holds Tryd.pinned (.plain (OpenSpec.ofChange apartRealSpec)) apartRealCard

/-- THE TIED CARD OF 'kinespherelaw29.ApartGroups'. -/
def apartGroupsCard : Claim7 := { stood := { row := apartGroupsRow, standIns := [], harness := (true, "99c09b5e9415da644c7f1d0721f83448bdb7355075c38120fdd3f90037f3c069"), looks := true }, kinds := [], alts := [], laidByText := true, laidKinds := [.data], laidTests := true, laidLooks := .later }
def ApartGroupsCardSaid : Prop := Claim7.holds Tryd.pinned (.plain (OpenSpec.ofChange apartGroupsSpec)) apartGroupsCard

/-- THE TIED CARD OF 'kinespherelaw29.ApartLess'. -/
def apartLessCard : Claim7 := { stood := { row := apartLessRow, standIns := [], harness := (true, "99c09b5e9415da644c7f1d0721f83448bdb7355075c38120fdd3f90037f3c069"), looks := true }, kinds := [], alts := [], laidByText := true, laidKinds := [.data], laidTests := true, laidLooks := .later }
def ApartLessCardSaid : Prop := Claim7.holds Tryd.pinned (.plain (OpenSpec.ofChange apartLessSpec)) apartLessCard

/-- THE TIED CARD OF 'kinespherelaw29.ApartPath'. -/
def apartPathCard : Claim7 := { stood := { row := apartPathRow, standIns := [], harness := (true, "99c09b5e9415da644c7f1d0721f83448bdb7355075c38120fdd3f90037f3c069"), looks := true }, kinds := [], alts := [], laidByText := true, laidKinds := [.data], laidTests := true, laidLooks := .later }
def ApartPathCardSaid : Prop := Claim7.holds Tryd.pinned (.plain (OpenSpec.ofChange apartPathSpec)) apartPathCard

/-- THE SECOND FORM's CARD OF 'kinespherelaw29.ApartSpec'. -/
def apartSpecUptoCard : Claim7 := { stood := { row := apartSpecUptoRow, standIns := [], harness := (true, "99c09b5e9415da644c7f1d0721f83448bdb7355075c38120fdd3f90037f3c069"), looks := true }, kinds := [], alts := [], laidByText := true, laidKinds := [.data], laidTests := true, laidLooks := .later }
def ApartSpecUptoCardSaid : Prop := Claim7.holds Tryd.pinned (.plain (OpenSpec.upto apartSpecSpec)) apartSpecUptoCard

/-- THE SECOND FORM's CARD OF 'kinespherelaw29.ApartGroupsSpec'. -/
def apartGroupsSpecUptoCard : Claim7 := { stood := { row := apartGroupsSpecUptoRow, standIns := [], harness := (true, "99c09b5e9415da644c7f1d0721f83448bdb7355075c38120fdd3f90037f3c069"), looks := true }, kinds := [], alts := [], laidByText := true, laidKinds := [.data], laidTests := true, laidLooks := .later }
def ApartGroupsSpecUptoCardSaid : Prop := Claim7.holds Tryd.pinned (.plain (OpenSpec.upto apartGroupsSpecSpec)) apartGroupsSpecUptoCard

/-- THE SECOND FORM's CARD OF 'kinespherelaw29.ApartClashSpec'. -/
def apartClashSpecUptoCard : Claim7 := { stood := { row := apartClashSpecUptoRow, standIns := [], harness := (true, "99c09b5e9415da644c7f1d0721f83448bdb7355075c38120fdd3f90037f3c069"), looks := true }, kinds := [], alts := [], laidByText := true, laidKinds := [.data], laidTests := true, laidLooks := .later }
def ApartClashSpecUptoCardSaid : Prop := Claim7.holds Tryd.pinned (.plain (OpenSpec.upto apartClashSpecSpec)) apartClashSpecUptoCard

/-- THE SECOND FORM's CARD OF 'kinespherelaw29.ApartSafe'. -/
def apartSafeUptoCard : Claim7 := { stood := { row := apartSafeUptoRow, standIns := [], harness := (true, "99c09b5e9415da644c7f1d0721f83448bdb7355075c38120fdd3f90037f3c069"), looks := true }, kinds := [], alts := [], laidByText := true, laidKinds := [.data], laidTests := true, laidLooks := .later }
def ApartSafeUptoCardSaid : Prop := Claim7.holds Tryd.pinned (.plain (OpenSpec.upto apartSafeSpec)) apartSafeUptoCard

/-- THE SECOND FORM's CARD OF 'kinespherelaw29.ApartReal'. -/
def apartRealUptoCard : Claim7 := { stood := { row := apartRealUptoRow, standIns := [], harness := (true, "99c09b5e9415da644c7f1d0721f83448bdb7355075c38120fdd3f90037f3c069"), looks := true }, kinds := [], alts := [], laidByText := true, laidKinds := [.data], laidTests := true, laidLooks := .later }
def ApartRealUptoCardSaid : Prop := Claim7.holds Tryd.pinned (.plain (OpenSpec.upto apartRealSpec)) apartRealUptoCard

/-- THE SECOND FORM's CARD OF 'kinespherelaw29.ApartGroups'. -/
def apartGroupsUptoCard : Claim7 := { stood := { row := apartGroupsUptoRow, standIns := [], harness := (true, "99c09b5e9415da644c7f1d0721f83448bdb7355075c38120fdd3f90037f3c069"), looks := true }, kinds := [], alts := [], laidByText := true, laidKinds := [.data], laidTests := true, laidLooks := .later }
def ApartGroupsUptoCardSaid : Prop := Claim7.holds Tryd.pinned (.plain (OpenSpec.upto apartGroupsSpec)) apartGroupsUptoCard

/-- THE SECOND FORM's CARD OF 'kinespherelaw29.ApartLess'. -/
def apartLessUptoCard : Claim7 := { stood := { row := apartLessUptoRow, standIns := [], harness := (true, "99c09b5e9415da644c7f1d0721f83448bdb7355075c38120fdd3f90037f3c069"), looks := true }, kinds := [], alts := [], laidByText := true, laidKinds := [.data], laidTests := true, laidLooks := .later }
def ApartLessUptoCardSaid : Prop := Claim7.holds Tryd.pinned (.plain (OpenSpec.upto apartLessSpec)) apartLessUptoCard

/-- THE SECOND FORM's CARD OF 'kinespherelaw29.ApartPath'. -/
def apartPathUptoCard : Claim7 := { stood := { row := apartPathUptoRow, standIns := [], harness := (true, "99c09b5e9415da644c7f1d0721f83448bdb7355075c38120fdd3f90037f3c069"), looks := true }, kinds := [], alts := [], laidByText := true, laidKinds := [.data], laidTests := true, laidLooks := .later }
def ApartPathUptoCardSaid : Prop := Claim7.holds Tryd.pinned (.plain (OpenSpec.upto apartPathSpec)) apartPathUptoCard
end Rows
end Go.Proofs.YtjoieglhmladhaaDoor
