/-
  NARROWER THAN 'FOR EVERY INPUT', by the rows' own cells (each row's printed sentence says how): UnderstudySpec: laid · UnderstudyReadySpec: laid · UnderstudyShown: laid · UnderstudyReady: laid · UnderstudyLater: laid · UnderstudyWeaker: laid · UnderstudyDances: laid.
  DERIVED. THE GIVEN ROWS OF THIS SEAT. 7 by the template 'for every input the law returns true; each argument reads behind the call as it read before'; 0 by the template 'total and deterministic' (their statements: YtbhgogiaaljclaaGreatDoorTotals.lean).
  GIVEN WITH THE SEED: the statements are not yours to turn. If you find one false, say at which input.
  Laid BY PROGRAM, IN A SANDBOX (cutbox-rows.mjs): the forced cells as the released guide's own fill.sh prints them over the translation cde743f7ebc40d06… (all of the seat's roots in one cut). By AI agents, Wed Nov 11 2026. No macro, syntax, notation, axiom, sorry.
-/
import Derived.Test.YtbhgogiaaljclaaGreatDoorChecked
import GoSem.Claim
import GoSem.ClaimJoined
import GoSem.ClaimMapViews
import Derived.JoinedTies
import Derived.KernelRfl
namespace Go.Proofs.YtbhgogiaaljclaaGreatDoor
/- THE CELL 'sum', in the pinned program and in every row, IS THE sha256 OF THE DUMP (.gsa) THAT YtbhgogiaaljclaaGreatDoorProg.lean LOADS. Nothing in Lean hashes anything: it is a label: what it is worth is what the hold of that sum in a sandbox is worth. -/
noncomputable def Tryz.pinned : Pinned := { name := "ytbhgogiaaljclaagreatdoor", sum := "cde743f7ebc40d06b29c675cc273145abba70a1bf358ca632e4ae12097237604", checked := Tryz.checked }
namespace Rows
def none {H : Type} : Left H := { results := [], args := [] }

/- WHAT THE LISTED PACKAGE-LEVEL VARIABLES READ AS WHEN THE CALL BEGINS. Each datum BY PROGRAM (the guide's laid-datum.mjs) off the statement by which the dump's own 'gosem.cut.vars' lays the variable. In a bare row this is a premise. The card (YtbhgogiaaljclaaGreatDoorCards.lean) ties it to the program's text. -/
def laid_kinesphere_space_flat {H : Type} : DataW H := .agg [.agg [.lit (.int .i64 0), .lit (.int .i64 29)], .agg [.lit (.int .i64 20), .lit (.int .i64 21)], .agg [.lit (.int .i64 29), .lit (.int .i64 0)], .agg [.lit (.int .i64 20), .lit (.int .i64 (-21))], .agg [.lit (.int .i64 0), .lit (.int .i64 (-29))], .agg [.lit (.int .i64 (-20)), .lit (.int .i64 (-21))], .agg [.lit (.int .i64 (-29)), .lit (.int .i64 0)], .agg [.lit (.int .i64 (-20)), .lit (.int .i64 21)]]
def laid_kinesphere_expand_kinds {H : Type} : DataW H := .agg [.agg [.lit (.bool false), .lit (.bool false), .lit (.bool false), .lit (.int .i64 0), .lit (.int .i64 0), .lit (.int .i64 0)], .agg [.lit (.bool true), .lit (.bool true), .lit (.bool false), .lit (.int .i64 1), .lit (.int .i64 0), .lit (.int .i64 16)], .agg [.lit (.bool false), .lit (.bool true), .lit (.bool false), .lit (.int .i64 1), .lit (.int .i64 0), .lit (.int .i64 16)], .agg [.lit (.bool true), .lit (.bool true), .lit (.bool false), .lit (.int .i64 0), .lit (.int .i64 3), .lit (.int .i64 0)], .agg [.lit (.bool true), .lit (.bool true), .lit (.bool false), .lit (.int .i64 0), .lit (.int .i64 3), .lit (.int .i64 0)], .agg [.lit (.bool false), .lit (.bool true), .lit (.bool false), .lit (.int .i64 0), .lit (.int .i64 3), .lit (.int .i64 0)], .agg [.lit (.bool false), .lit (.bool false), .lit (.bool false), .lit (.int .i64 0), .lit (.int .i64 0), .lit (.int .i64 7)], .agg [.lit (.bool false), .lit (.bool false), .lit (.bool true), .lit (.int .i64 0), .lit (.int .i64 0), .lit (.int .i64 0)], .agg [.lit (.bool false), .lit (.bool false), .lit (.bool true), .lit (.int .i64 0), .lit (.int .i64 0), .lit (.int .i64 0)], .agg [.lit (.bool true), .lit (.bool false), .lit (.bool false), .lit (.int .i64 0), .lit (.int .i64 3), .lit (.int .i64 0)]]

/-- 'kinespherelaw48.UnderstudySpec': WHATEVER THE INPUT: true; the input reads as it did. -/
def understudySpecSpec : ChangeSpec := { name := "understudySpec", fn := fun _ => fun
  | [d1, d2, d3, d4, d5] => { results := [.lit (.bool true)], args := [d1, d2, d3, d4, d5] }
  | _ => none }
def understudySpecRow : OpenClaim := { program := "ytbhgogiaaljclaagreatdoor", sum := "cde743f7ebc40d06b29c675cc273145abba70a1bf358ca632e4ae12097237604", func := "kinesphere/kinespherelaw48.UnderstudySpec", spec := "understudySpec", inPlace := ["internal/bytealg.IndexByteString"], unfollowed := true, recurses := true, named := ["kinesphere/expand.kinds", "kinesphere/space.flat"], apart := false, laid := [("kinesphere/space.flat", laid_kinesphere_space_flat), ("kinesphere/expand.kinds", laid_kinesphere_expand_kinds)] }
def UnderstudySpecSaid : Prop := understudySpecRow.holds Tryz.pinned (OpenSpec.ofChange understudySpecSpec)

/-- ITS FALSE NEIGHBOUR: 'it returns false'. Refute it at one input. -/
def understudySpecWrong : ChangeSpec := { name := "understudySpec", fn := fun _ => fun
  | [d1, d2, d3, d4, d5] => { results := [.lit (.bool false)], args := [d1, d2, d3, d4, d5] }
  | _ => none }
def UnderstudySpecWrongFalsely : Prop := understudySpecRow.holds Tryz.pinned (OpenSpec.ofChange understudySpecWrong)

/-- 'kinespherelaw48.UnderstudyReadySpec': WHATEVER THE INPUT: true; the input reads as it did. -/
def understudyReadySpecSpec : ChangeSpec := { name := "understudyReadySpec", fn := fun _ => fun
  | [d1, d2, d3, d4, d5] => { results := [.lit (.bool true)], args := [d1, d2, d3, d4, d5] }
  | _ => none }
def understudyReadySpecRow : OpenClaim := { program := "ytbhgogiaaljclaagreatdoor", sum := "cde743f7ebc40d06b29c675cc273145abba70a1bf358ca632e4ae12097237604", func := "kinesphere/kinespherelaw48.UnderstudyReadySpec", spec := "understudyReadySpec", inPlace := ["internal/bytealg.IndexByteString"], unfollowed := true, recurses := true, named := ["kinesphere/expand.kinds", "kinesphere/space.flat"], apart := false, laid := [("kinesphere/space.flat", laid_kinesphere_space_flat), ("kinesphere/expand.kinds", laid_kinesphere_expand_kinds)] }
def UnderstudyReadySpecSaid : Prop := understudyReadySpecRow.holds Tryz.pinned (OpenSpec.ofChange understudyReadySpecSpec)

/-- ITS FALSE NEIGHBOUR: 'it returns false'. Refute it at one input. -/
def understudyReadySpecWrong : ChangeSpec := { name := "understudyReadySpec", fn := fun _ => fun
  | [d1, d2, d3, d4, d5] => { results := [.lit (.bool false)], args := [d1, d2, d3, d4, d5] }
  | _ => none }
def UnderstudyReadySpecWrongFalsely : Prop := understudyReadySpecRow.holds Tryz.pinned (OpenSpec.ofChange understudyReadySpecWrong)

/-- 'kinespherelaw48.UnderstudyShown': WHATEVER THE INPUT: true; the input reads as it did. -/
def understudyShownSpec : ChangeSpec := { name := "understudyShown", fn := fun _ => fun
  | [d1, d2, d3, d4, d5] => { results := [.lit (.bool true)], args := [d1, d2, d3, d4, d5] }
  | _ => none }
def understudyShownRow : OpenClaim := { program := "ytbhgogiaaljclaagreatdoor", sum := "cde743f7ebc40d06b29c675cc273145abba70a1bf358ca632e4ae12097237604", func := "kinesphere/kinespherelaw48.UnderstudyShown", spec := "understudyShown", inPlace := ["internal/bytealg.IndexByteString"], unfollowed := true, recurses := true, named := ["kinesphere/expand.kinds", "kinesphere/space.flat"], apart := false, laid := [("kinesphere/space.flat", laid_kinesphere_space_flat), ("kinesphere/expand.kinds", laid_kinesphere_expand_kinds)] }
def UnderstudyShownSaid : Prop := understudyShownRow.holds Tryz.pinned (OpenSpec.ofChange understudyShownSpec)

/-- ITS FALSE NEIGHBOUR: 'it returns false'. Refute it at one input. -/
def understudyShownWrong : ChangeSpec := { name := "understudyShown", fn := fun _ => fun
  | [d1, d2, d3, d4, d5] => { results := [.lit (.bool false)], args := [d1, d2, d3, d4, d5] }
  | _ => none }
def UnderstudyShownWrongFalsely : Prop := understudyShownRow.holds Tryz.pinned (OpenSpec.ofChange understudyShownWrong)

/-- 'kinespherelaw48.UnderstudyReady': WHATEVER THE INPUT: true; the input reads as it did. -/
def understudyReadySpec : ChangeSpec := { name := "understudyReady", fn := fun _ => fun
  | [d1, d2, d3, d4, d5] => { results := [.lit (.bool true)], args := [d1, d2, d3, d4, d5] }
  | _ => none }
def understudyReadyRow : OpenClaim := { program := "ytbhgogiaaljclaagreatdoor", sum := "cde743f7ebc40d06b29c675cc273145abba70a1bf358ca632e4ae12097237604", func := "kinesphere/kinespherelaw48.UnderstudyReady", spec := "understudyReady", inPlace := ["internal/bytealg.IndexByteString"], unfollowed := true, recurses := true, named := ["kinesphere/expand.kinds", "kinesphere/space.flat"], apart := false, laid := [("kinesphere/space.flat", laid_kinesphere_space_flat), ("kinesphere/expand.kinds", laid_kinesphere_expand_kinds)] }
def UnderstudyReadySaid : Prop := understudyReadyRow.holds Tryz.pinned (OpenSpec.ofChange understudyReadySpec)

/-- ITS FALSE NEIGHBOUR: 'it returns false'. Refute it at one input. -/
def understudyReadyWrong : ChangeSpec := { name := "understudyReady", fn := fun _ => fun
  | [d1, d2, d3, d4, d5] => { results := [.lit (.bool false)], args := [d1, d2, d3, d4, d5] }
  | _ => none }
def UnderstudyReadyWrongFalsely : Prop := understudyReadyRow.holds Tryz.pinned (OpenSpec.ofChange understudyReadyWrong)

/-- 'kinespherelaw48.UnderstudyLater': WHATEVER THE INPUT: true; the input reads as it did. -/
def understudyLaterSpec : ChangeSpec := { name := "understudyLater", fn := fun _ => fun
  | [d1, d2, d3, d4, d5, d6] => { results := [.lit (.bool true)], args := [d1, d2, d3, d4, d5, d6] }
  | _ => none }
def understudyLaterRow : OpenClaim := { program := "ytbhgogiaaljclaagreatdoor", sum := "cde743f7ebc40d06b29c675cc273145abba70a1bf358ca632e4ae12097237604", func := "kinesphere/kinespherelaw48.UnderstudyLater", spec := "understudyLater", inPlace := ["internal/bytealg.IndexByteString"], unfollowed := true, recurses := true, named := ["kinesphere/expand.kinds", "kinesphere/space.flat"], apart := false, laid := [("kinesphere/space.flat", laid_kinesphere_space_flat), ("kinesphere/expand.kinds", laid_kinesphere_expand_kinds)] }
def UnderstudyLaterSaid : Prop := understudyLaterRow.holds Tryz.pinned (OpenSpec.ofChange understudyLaterSpec)

/-- ITS FALSE NEIGHBOUR: 'it returns false'. Refute it at one input. -/
def understudyLaterWrong : ChangeSpec := { name := "understudyLater", fn := fun _ => fun
  | [d1, d2, d3, d4, d5, d6] => { results := [.lit (.bool false)], args := [d1, d2, d3, d4, d5, d6] }
  | _ => none }
def UnderstudyLaterWrongFalsely : Prop := understudyLaterRow.holds Tryz.pinned (OpenSpec.ofChange understudyLaterWrong)

/-- 'kinespherelaw48.UnderstudyWeaker': WHATEVER THE INPUT: true; the input reads as it did. -/
def understudyWeakerSpec : ChangeSpec := { name := "understudyWeaker", fn := fun _ => fun
  | [d1, d2, d3, d4, d5] => { results := [.lit (.bool true)], args := [d1, d2, d3, d4, d5] }
  | _ => none }
def understudyWeakerRow : OpenClaim := { program := "ytbhgogiaaljclaagreatdoor", sum := "cde743f7ebc40d06b29c675cc273145abba70a1bf358ca632e4ae12097237604", func := "kinesphere/kinespherelaw48.UnderstudyWeaker", spec := "understudyWeaker", inPlace := ["internal/bytealg.IndexByteString"], unfollowed := true, recurses := true, named := ["kinesphere/expand.kinds", "kinesphere/space.flat"], apart := false, laid := [("kinesphere/space.flat", laid_kinesphere_space_flat), ("kinesphere/expand.kinds", laid_kinesphere_expand_kinds)] }
def UnderstudyWeakerSaid : Prop := understudyWeakerRow.holds Tryz.pinned (OpenSpec.ofChange understudyWeakerSpec)

/-- ITS FALSE NEIGHBOUR: 'it returns false'. Refute it at one input. -/
def understudyWeakerWrong : ChangeSpec := { name := "understudyWeaker", fn := fun _ => fun
  | [d1, d2, d3, d4, d5] => { results := [.lit (.bool false)], args := [d1, d2, d3, d4, d5] }
  | _ => none }
def UnderstudyWeakerWrongFalsely : Prop := understudyWeakerRow.holds Tryz.pinned (OpenSpec.ofChange understudyWeakerWrong)

/-- 'kinespherelaw48.UnderstudyDances': WHATEVER THE INPUT: true; the input reads as it did. -/
def understudyDancesSpec : ChangeSpec := { name := "understudyDances", fn := fun _ => fun
  | [d1, d2, d3, d4, d5, d6] => { results := [.lit (.bool true)], args := [d1, d2, d3, d4, d5, d6] }
  | _ => none }
def understudyDancesRow : OpenClaim := { program := "ytbhgogiaaljclaagreatdoor", sum := "cde743f7ebc40d06b29c675cc273145abba70a1bf358ca632e4ae12097237604", func := "kinesphere/kinespherelaw48.UnderstudyDances", spec := "understudyDances", inPlace := ["internal/bytealg.IndexByteString"], unfollowed := true, recurses := true, named := ["kinesphere/expand.kinds", "kinesphere/space.flat"], apart := false, laid := [("kinesphere/space.flat", laid_kinesphere_space_flat), ("kinesphere/expand.kinds", laid_kinesphere_expand_kinds)] }
def UnderstudyDancesSaid : Prop := understudyDancesRow.holds Tryz.pinned (OpenSpec.ofChange understudyDancesSpec)

/-- ITS FALSE NEIGHBOUR: 'it returns false'. Refute it at one input. -/
def understudyDancesWrong : ChangeSpec := { name := "understudyDances", fn := fun _ => fun
  | [d1, d2, d3, d4, d5, d6] => { results := [.lit (.bool false)], args := [d1, d2, d3, d4, d5, d6] }
  | _ => none }
def UnderstudyDancesWrongFalsely : Prop := understudyDancesRow.holds Tryz.pinned (OpenSpec.ofChange understudyDancesWrong)

/- THE SECOND FORM. 'bulk': how many values and letters a reading holds, each counted each time it is reached (what is shared counts as often as it is met; a slice's spare places count too). A statement '..UptoSaid' is the law's where the arguments, and the package variables that the reading takes, are together of bulk at most 1048576: NARROWER than '..Said'. Prove '..Said' where nothing that the law and all that it calls make is longer than what came in: it says more and counts as full. Else prove '..UptoSaid'. A law counts once. -/
mutual
def uptoBulk {H : Type} : DataW H → Nat
  | .lit (.string bytes) => bytes.length + 1
  | .lit _ => 1
  | .nil => 1
  | .ptr d => uptoBulk d + 1
  | .slice elems spare => uptoBulkAll elems + uptoBulkAll spare + 1
  | .agg parts => uptoBulkAll parts + 1
  | .iface _ d => uptoBulk d + 1
  | .map entries => uptoBulkEntries entries + 1
  | .held _ => 1
def uptoBulkAll {H : Type} : List (DataW H) → Nat
  | [] => 0
  | d :: r => uptoBulk d + uptoBulkAll r
def uptoBulkEntries {H : Type} : List (Lit × DataW H) → Nat
  | [] => 0
  | x :: r => uptoBulkEntry x + uptoBulkEntries r
def uptoBulkEntry {H : Type} : Lit × DataW H → Nat
  | (.string bytes, d) => bytes.length + uptoBulk d + 1
  | (_, d) => uptoBulk d + 1
 end
def uptoSmall : (H : Type) → List (DataW H) → Bool := fun _ ds => decide (uptoBulkAll ds ≤ 1048576)
def OpenSpec.upto (s : _root_.Go.ChangeSpec) : _root_.Go.OpenSpec := { _root_.Go.OpenSpec.ofChange s with cond := some uptoSmall }

/-- 'kinespherelaw48.UnderstudySpec', WHERE WHAT IT READS IS OF BULK AT MOST 1048576: true; the input reads as it did. -/
def understudySpecUptoRow : OpenClaim := { program := "ytbhgogiaaljclaagreatdoor", sum := "cde743f7ebc40d06b29c675cc273145abba70a1bf358ca632e4ae12097237604", func := "kinesphere/kinespherelaw48.UnderstudySpec", spec := "understudySpec", inPlace := ["internal/bytealg.IndexByteString"], unfollowed := true, recurses := true, named := ["kinesphere/expand.kinds", "kinesphere/space.flat"], apart := false, laid := [("kinesphere/space.flat", laid_kinesphere_space_flat), ("kinesphere/expand.kinds", laid_kinesphere_expand_kinds)], narrowed := true }
def UnderstudySpecUptoSaid : Prop := understudySpecUptoRow.holds Tryz.pinned (OpenSpec.upto understudySpecSpec)

/-- 'kinespherelaw48.UnderstudyReadySpec', WHERE WHAT IT READS IS OF BULK AT MOST 1048576: true; the input reads as it did. -/
def understudyReadySpecUptoRow : OpenClaim := { program := "ytbhgogiaaljclaagreatdoor", sum := "cde743f7ebc40d06b29c675cc273145abba70a1bf358ca632e4ae12097237604", func := "kinesphere/kinespherelaw48.UnderstudyReadySpec", spec := "understudyReadySpec", inPlace := ["internal/bytealg.IndexByteString"], unfollowed := true, recurses := true, named := ["kinesphere/expand.kinds", "kinesphere/space.flat"], apart := false, laid := [("kinesphere/space.flat", laid_kinesphere_space_flat), ("kinesphere/expand.kinds", laid_kinesphere_expand_kinds)], narrowed := true }
def UnderstudyReadySpecUptoSaid : Prop := understudyReadySpecUptoRow.holds Tryz.pinned (OpenSpec.upto understudyReadySpecSpec)

/-- 'kinespherelaw48.UnderstudyShown', WHERE WHAT IT READS IS OF BULK AT MOST 1048576: true; the input reads as it did. -/
def understudyShownUptoRow : OpenClaim := { program := "ytbhgogiaaljclaagreatdoor", sum := "cde743f7ebc40d06b29c675cc273145abba70a1bf358ca632e4ae12097237604", func := "kinesphere/kinespherelaw48.UnderstudyShown", spec := "understudyShown", inPlace := ["internal/bytealg.IndexByteString"], unfollowed := true, recurses := true, named := ["kinesphere/expand.kinds", "kinesphere/space.flat"], apart := false, laid := [("kinesphere/space.flat", laid_kinesphere_space_flat), ("kinesphere/expand.kinds", laid_kinesphere_expand_kinds)], narrowed := true }
def UnderstudyShownUptoSaid : Prop := understudyShownUptoRow.holds Tryz.pinned (OpenSpec.upto understudyShownSpec)

/-- 'kinespherelaw48.UnderstudyReady', WHERE WHAT IT READS IS OF BULK AT MOST 1048576: true; the input reads as it did. -/
def understudyReadyUptoRow : OpenClaim := { program := "ytbhgogiaaljclaagreatdoor", sum := "cde743f7ebc40d06b29c675cc273145abba70a1bf358ca632e4ae12097237604", func := "kinesphere/kinespherelaw48.UnderstudyReady", spec := "understudyReady", inPlace := ["internal/bytealg.IndexByteString"], unfollowed := true, recurses := true, named := ["kinesphere/expand.kinds", "kinesphere/space.flat"], apart := false, laid := [("kinesphere/space.flat", laid_kinesphere_space_flat), ("kinesphere/expand.kinds", laid_kinesphere_expand_kinds)], narrowed := true }
def UnderstudyReadyUptoSaid : Prop := understudyReadyUptoRow.holds Tryz.pinned (OpenSpec.upto understudyReadySpec)

/-- 'kinespherelaw48.UnderstudyLater', WHERE WHAT IT READS IS OF BULK AT MOST 1048576: true; the input reads as it did. -/
def understudyLaterUptoRow : OpenClaim := { program := "ytbhgogiaaljclaagreatdoor", sum := "cde743f7ebc40d06b29c675cc273145abba70a1bf358ca632e4ae12097237604", func := "kinesphere/kinespherelaw48.UnderstudyLater", spec := "understudyLater", inPlace := ["internal/bytealg.IndexByteString"], unfollowed := true, recurses := true, named := ["kinesphere/expand.kinds", "kinesphere/space.flat"], apart := false, laid := [("kinesphere/space.flat", laid_kinesphere_space_flat), ("kinesphere/expand.kinds", laid_kinesphere_expand_kinds)], narrowed := true }
def UnderstudyLaterUptoSaid : Prop := understudyLaterUptoRow.holds Tryz.pinned (OpenSpec.upto understudyLaterSpec)

/-- 'kinespherelaw48.UnderstudyWeaker', WHERE WHAT IT READS IS OF BULK AT MOST 1048576: true; the input reads as it did. -/
def understudyWeakerUptoRow : OpenClaim := { program := "ytbhgogiaaljclaagreatdoor", sum := "cde743f7ebc40d06b29c675cc273145abba70a1bf358ca632e4ae12097237604", func := "kinesphere/kinespherelaw48.UnderstudyWeaker", spec := "understudyWeaker", inPlace := ["internal/bytealg.IndexByteString"], unfollowed := true, recurses := true, named := ["kinesphere/expand.kinds", "kinesphere/space.flat"], apart := false, laid := [("kinesphere/space.flat", laid_kinesphere_space_flat), ("kinesphere/expand.kinds", laid_kinesphere_expand_kinds)], narrowed := true }
def UnderstudyWeakerUptoSaid : Prop := understudyWeakerUptoRow.holds Tryz.pinned (OpenSpec.upto understudyWeakerSpec)

/-- 'kinespherelaw48.UnderstudyDances', WHERE WHAT IT READS IS OF BULK AT MOST 1048576: true; the input reads as it did. -/
def understudyDancesUptoRow : OpenClaim := { program := "ytbhgogiaaljclaagreatdoor", sum := "cde743f7ebc40d06b29c675cc273145abba70a1bf358ca632e4ae12097237604", func := "kinesphere/kinespherelaw48.UnderstudyDances", spec := "understudyDances", inPlace := ["internal/bytealg.IndexByteString"], unfollowed := true, recurses := true, named := ["kinesphere/expand.kinds", "kinesphere/space.flat"], apart := false, laid := [("kinesphere/space.flat", laid_kinesphere_space_flat), ("kinesphere/expand.kinds", laid_kinesphere_expand_kinds)], narrowed := true }
def UnderstudyDancesUptoSaid : Prop := understudyDancesUptoRow.holds Tryz.pinned (OpenSpec.upto understudyDancesSpec)

end Rows
end Go.Proofs.YtbhgogiaaljclaaGreatDoor
