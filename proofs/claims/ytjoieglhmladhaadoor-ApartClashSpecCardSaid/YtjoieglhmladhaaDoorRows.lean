/-
  NARROWER THAN 'FOR EVERY INPUT', by the rows' own cells (each row's printed sentence says how): ApartSpec: laid · ApartGroupsSpec: laid · ApartClashSpec: laid · ApartSafe: laid · ApartReal: laid · ApartGroups: laid · ApartLess: laid · ApartPath: laid.
  DERIVED. THE GIVEN ROWS OF THIS SEAT. 8 by the template 'for every input the law returns true; each argument reads behind the call as it read before'; 0 by the template 'total and deterministic' (their statements: YtjoieglhmladhaaDoorTotals.lean).
  GIVEN WITH THE SEED: the statements are not yours to turn. If you find one false, say at which input.
  Laid BY PROGRAM, IN A SANDBOX (cutbox-rows.mjs): the forced cells as the released guide's own fill.sh prints them over the translation ae5e2d5c6c8f2bd9… (all of the seat's roots in one cut). By AI agents, Wed Nov 11 2026. No macro, syntax, notation, axiom, sorry.
-/
import Derived.Test.YtjoieglhmladhaaDoorChecked
import GoSem.Claim
import GoSem.ClaimJoined
import GoSem.ClaimMapViews
import Derived.JoinedTies
import Derived.KernelRfl
namespace Go.Proofs.YtjoieglhmladhaaDoor
/- THE CELL 'sum', in the pinned program and in every row, IS THE sha256 OF THE DUMP (.gsa) THAT YtjoieglhmladhaaDoorProg.lean LOADS. Nothing in Lean hashes anything: it is a label: what it is worth is what the hold of that sum in a sandbox is worth. -/
noncomputable def Tryd.pinned : Pinned := { name := "ytjoieglhmladhaadoor", sum := "ae5e2d5c6c8f2bd9756a6aefa92c8df9ef3a750f022dafff8974a9e413fbfe9c", checked := Tryd.checked }
namespace Rows
def none {H : Type} : Left H := { results := [], args := [] }

/- WHAT THE LISTED PACKAGE-LEVEL VARIABLES READ AS WHEN THE CALL BEGINS. Each datum BY PROGRAM (the guide's laid-datum.mjs) off the statement by which the dump's own 'gosem.cut.vars' lays the variable. In a bare row this is a premise. The card (YtjoieglhmladhaaDoorCards.lean) ties it to the program's text. -/
def laid_kinesphere_expand_kinds {H : Type} : DataW H := .agg [.agg [.lit (.bool false), .lit (.bool false), .lit (.bool false), .lit (.int .i64 0), .lit (.int .i64 0), .lit (.int .i64 0)], .agg [.lit (.bool true), .lit (.bool true), .lit (.bool false), .lit (.int .i64 1), .lit (.int .i64 0), .lit (.int .i64 16)], .agg [.lit (.bool false), .lit (.bool true), .lit (.bool false), .lit (.int .i64 1), .lit (.int .i64 0), .lit (.int .i64 16)], .agg [.lit (.bool true), .lit (.bool true), .lit (.bool false), .lit (.int .i64 0), .lit (.int .i64 3), .lit (.int .i64 0)], .agg [.lit (.bool true), .lit (.bool true), .lit (.bool false), .lit (.int .i64 0), .lit (.int .i64 3), .lit (.int .i64 0)], .agg [.lit (.bool false), .lit (.bool true), .lit (.bool false), .lit (.int .i64 0), .lit (.int .i64 3), .lit (.int .i64 0)], .agg [.lit (.bool false), .lit (.bool false), .lit (.bool false), .lit (.int .i64 0), .lit (.int .i64 0), .lit (.int .i64 7)], .agg [.lit (.bool false), .lit (.bool false), .lit (.bool true), .lit (.int .i64 0), .lit (.int .i64 0), .lit (.int .i64 0)], .agg [.lit (.bool false), .lit (.bool false), .lit (.bool true), .lit (.int .i64 0), .lit (.int .i64 0), .lit (.int .i64 0)], .agg [.lit (.bool true), .lit (.bool false), .lit (.bool false), .lit (.int .i64 0), .lit (.int .i64 3), .lit (.int .i64 0)]]

/-- 'kinespherelaw29.ApartSpec': WHATEVER THE INPUT: true; the input reads as it did. -/
def apartSpecSpec : ChangeSpec := { name := "apartSpec", fn := fun _ => fun
  | [d1, d2] => { results := [.lit (.bool true)], args := [d1, d2] }
  | _ => none }
def apartSpecRow : OpenClaim := { program := "ytjoieglhmladhaadoor", sum := "ae5e2d5c6c8f2bd9756a6aefa92c8df9ef3a750f022dafff8974a9e413fbfe9c", func := "kinesphere/kinespherelaw29.ApartSpec", spec := "apartSpec", unfollowed := true, recurses := true, named := ["kinesphere/expand.kinds"], plainKeys := false, apart := false, laid := [("kinesphere/expand.kinds", laid_kinesphere_expand_kinds)] }
def ApartSpecSaid : Prop := apartSpecRow.holds Tryd.pinned (OpenSpec.ofChange apartSpecSpec)

/-- ITS FALSE NEIGHBOUR: 'it returns false'. Refute it at one input. -/
def apartSpecWrong : ChangeSpec := { name := "apartSpec", fn := fun _ => fun
  | [d1, d2] => { results := [.lit (.bool false)], args := [d1, d2] }
  | _ => none }
def ApartSpecWrongFalsely : Prop := apartSpecRow.holds Tryd.pinned (OpenSpec.ofChange apartSpecWrong)

/-- 'kinespherelaw29.ApartGroupsSpec': WHATEVER THE INPUT: true; the input reads as it did. -/
def apartGroupsSpecSpec : ChangeSpec := { name := "apartGroupsSpec", fn := fun _ => fun
  | [d1, d2] => { results := [.lit (.bool true)], args := [d1, d2] }
  | _ => none }
def apartGroupsSpecRow : OpenClaim := { program := "ytjoieglhmladhaadoor", sum := "ae5e2d5c6c8f2bd9756a6aefa92c8df9ef3a750f022dafff8974a9e413fbfe9c", func := "kinesphere/kinespherelaw29.ApartGroupsSpec", spec := "apartGroupsSpec", unfollowed := true, recurses := true, named := ["kinesphere/expand.kinds"], plainKeys := false, apart := false, laid := [("kinesphere/expand.kinds", laid_kinesphere_expand_kinds)] }
def ApartGroupsSpecSaid : Prop := apartGroupsSpecRow.holds Tryd.pinned (OpenSpec.ofChange apartGroupsSpecSpec)

/-- ITS FALSE NEIGHBOUR: 'it returns false'. Refute it at one input. -/
def apartGroupsSpecWrong : ChangeSpec := { name := "apartGroupsSpec", fn := fun _ => fun
  | [d1, d2] => { results := [.lit (.bool false)], args := [d1, d2] }
  | _ => none }
def ApartGroupsSpecWrongFalsely : Prop := apartGroupsSpecRow.holds Tryd.pinned (OpenSpec.ofChange apartGroupsSpecWrong)

/-- 'kinespherelaw29.ApartClashSpec': WHATEVER THE INPUT: true; the input reads as it did. -/
def apartClashSpecSpec : ChangeSpec := { name := "apartClashSpec", fn := fun _ => fun
  | [d1, d2, d3, d4, d5, d6] => { results := [.lit (.bool true)], args := [d1, d2, d3, d4, d5, d6] }
  | _ => none }
def apartClashSpecRow : OpenClaim := { program := "ytjoieglhmladhaadoor", sum := "ae5e2d5c6c8f2bd9756a6aefa92c8df9ef3a750f022dafff8974a9e413fbfe9c", func := "kinesphere/kinespherelaw29.ApartClashSpec", spec := "apartClashSpec", unfollowed := true, recurses := true, named := ["kinesphere/expand.kinds"], plainKeys := false, apart := false, laid := [("kinesphere/expand.kinds", laid_kinesphere_expand_kinds)] }
def ApartClashSpecSaid : Prop := apartClashSpecRow.holds Tryd.pinned (OpenSpec.ofChange apartClashSpecSpec)

/-- ITS FALSE NEIGHBOUR: 'it returns false'. Refute it at one input. -/
def apartClashSpecWrong : ChangeSpec := { name := "apartClashSpec", fn := fun _ => fun
  | [d1, d2, d3, d4, d5, d6] => { results := [.lit (.bool false)], args := [d1, d2, d3, d4, d5, d6] }
  | _ => none }
def ApartClashSpecWrongFalsely : Prop := apartClashSpecRow.holds Tryd.pinned (OpenSpec.ofChange apartClashSpecWrong)

/-- 'kinespherelaw29.ApartSafe': WHATEVER THE INPUT: true; the input reads as it did. -/
def apartSafeSpec : ChangeSpec := { name := "apartSafe", fn := fun _ => fun
  | [d1, d2, d3, d4, d5, d6, d7, d8, d9, d10, d11] => { results := [.lit (.bool true)], args := [d1, d2, d3, d4, d5, d6, d7, d8, d9, d10, d11] }
  | _ => none }
def apartSafeRow : OpenClaim := { program := "ytjoieglhmladhaadoor", sum := "ae5e2d5c6c8f2bd9756a6aefa92c8df9ef3a750f022dafff8974a9e413fbfe9c", func := "kinesphere/kinespherelaw29.ApartSafe", spec := "apartSafe", unfollowed := true, recurses := true, named := ["kinesphere/expand.kinds"], plainKeys := false, apart := false, laid := [("kinesphere/expand.kinds", laid_kinesphere_expand_kinds)] }
def ApartSafeSaid : Prop := apartSafeRow.holds Tryd.pinned (OpenSpec.ofChange apartSafeSpec)

/-- ITS FALSE NEIGHBOUR: 'it returns false'. Refute it at one input. -/
def apartSafeWrong : ChangeSpec := { name := "apartSafe", fn := fun _ => fun
  | [d1, d2, d3, d4, d5, d6, d7, d8, d9, d10, d11] => { results := [.lit (.bool false)], args := [d1, d2, d3, d4, d5, d6, d7, d8, d9, d10, d11] }
  | _ => none }
def ApartSafeWrongFalsely : Prop := apartSafeRow.holds Tryd.pinned (OpenSpec.ofChange apartSafeWrong)

/-- 'kinespherelaw29.ApartReal': WHATEVER THE INPUT: true; the input reads as it did. -/
def apartRealSpec : ChangeSpec := { name := "apartReal", fn := fun _ => fun
  | [d1, d2, d3, d4, d5, d6] => { results := [.lit (.bool true)], args := [d1, d2, d3, d4, d5, d6] }
  | _ => none }
def apartRealRow : OpenClaim := { program := "ytjoieglhmladhaadoor", sum := "ae5e2d5c6c8f2bd9756a6aefa92c8df9ef3a750f022dafff8974a9e413fbfe9c", func := "kinesphere/kinespherelaw29.ApartReal", spec := "apartReal", unfollowed := true, recurses := true, named := ["kinesphere/expand.kinds"], plainKeys := false, apart := false, laid := [("kinesphere/expand.kinds", laid_kinesphere_expand_kinds)] }
def ApartRealSaid : Prop := apartRealRow.holds Tryd.pinned (OpenSpec.ofChange apartRealSpec)

/-- ITS FALSE NEIGHBOUR: 'it returns false'. Refute it at one input. -/
def apartRealWrong : ChangeSpec := { name := "apartReal", fn := fun _ => fun
  | [d1, d2, d3, d4, d5, d6] => { results := [.lit (.bool false)], args := [d1, d2, d3, d4, d5, d6] }
  | _ => none }
def ApartRealWrongFalsely : Prop := apartRealRow.holds Tryd.pinned (OpenSpec.ofChange apartRealWrong)

/-- 'kinespherelaw29.ApartGroups': WHATEVER THE INPUT: true; the input reads as it did. -/
def apartGroupsSpec : ChangeSpec := { name := "apartGroups", fn := fun _ => fun
  | [d1, d2, d3] => { results := [.lit (.bool true)], args := [d1, d2, d3] }
  | _ => none }
def apartGroupsRow : OpenClaim := { program := "ytjoieglhmladhaadoor", sum := "ae5e2d5c6c8f2bd9756a6aefa92c8df9ef3a750f022dafff8974a9e413fbfe9c", func := "kinesphere/kinespherelaw29.ApartGroups", spec := "apartGroups", unfollowed := true, recurses := true, named := ["kinesphere/expand.kinds"], plainKeys := false, apart := false, laid := [("kinesphere/expand.kinds", laid_kinesphere_expand_kinds)] }
def ApartGroupsSaid : Prop := apartGroupsRow.holds Tryd.pinned (OpenSpec.ofChange apartGroupsSpec)

/-- ITS FALSE NEIGHBOUR: 'it returns false'. Refute it at one input. -/
def apartGroupsWrong : ChangeSpec := { name := "apartGroups", fn := fun _ => fun
  | [d1, d2, d3] => { results := [.lit (.bool false)], args := [d1, d2, d3] }
  | _ => none }
def ApartGroupsWrongFalsely : Prop := apartGroupsRow.holds Tryd.pinned (OpenSpec.ofChange apartGroupsWrong)

/-- 'kinespherelaw29.ApartLess': WHATEVER THE INPUT: true; the input reads as it did. -/
def apartLessSpec : ChangeSpec := { name := "apartLess", fn := fun _ => fun
  | [d1, d2, d3, d4, d5, d6, d7, d8, d9, d10] => { results := [.lit (.bool true)], args := [d1, d2, d3, d4, d5, d6, d7, d8, d9, d10] }
  | _ => none }
def apartLessRow : OpenClaim := { program := "ytjoieglhmladhaadoor", sum := "ae5e2d5c6c8f2bd9756a6aefa92c8df9ef3a750f022dafff8974a9e413fbfe9c", func := "kinesphere/kinespherelaw29.ApartLess", spec := "apartLess", unfollowed := true, recurses := true, named := ["kinesphere/expand.kinds"], plainKeys := false, apart := false, laid := [("kinesphere/expand.kinds", laid_kinesphere_expand_kinds)] }
def ApartLessSaid : Prop := apartLessRow.holds Tryd.pinned (OpenSpec.ofChange apartLessSpec)

/-- ITS FALSE NEIGHBOUR: 'it returns false'. Refute it at one input. -/
def apartLessWrong : ChangeSpec := { name := "apartLess", fn := fun _ => fun
  | [d1, d2, d3, d4, d5, d6, d7, d8, d9, d10] => { results := [.lit (.bool false)], args := [d1, d2, d3, d4, d5, d6, d7, d8, d9, d10] }
  | _ => none }
def ApartLessWrongFalsely : Prop := apartLessRow.holds Tryd.pinned (OpenSpec.ofChange apartLessWrong)

/-- 'kinespherelaw29.ApartPath': WHATEVER THE INPUT: true; the input reads as it did. -/
def apartPathSpec : ChangeSpec := { name := "apartPath", fn := fun _ => fun
  | [d1, d2, d3, d4] => { results := [.lit (.bool true)], args := [d1, d2, d3, d4] }
  | _ => none }
def apartPathRow : OpenClaim := { program := "ytjoieglhmladhaadoor", sum := "ae5e2d5c6c8f2bd9756a6aefa92c8df9ef3a750f022dafff8974a9e413fbfe9c", func := "kinesphere/kinespherelaw29.ApartPath", spec := "apartPath", unfollowed := true, recurses := true, named := ["kinesphere/expand.kinds"], plainKeys := false, apart := false, laid := [("kinesphere/expand.kinds", laid_kinesphere_expand_kinds)] }
def ApartPathSaid : Prop := apartPathRow.holds Tryd.pinned (OpenSpec.ofChange apartPathSpec)

/-- ITS FALSE NEIGHBOUR: 'it returns false'. Refute it at one input. -/
def apartPathWrong : ChangeSpec := { name := "apartPath", fn := fun _ => fun
  | [d1, d2, d3, d4] => { results := [.lit (.bool false)], args := [d1, d2, d3, d4] }
  | _ => none }
def ApartPathWrongFalsely : Prop := apartPathRow.holds Tryd.pinned (OpenSpec.ofChange apartPathWrong)

/- THE SECOND FORM. 'bulk': how many values and letters a reading holds, each counted each time it is reached (what is shared counts as often as it is met; a slice's spare places count too). A statement '..UptoSaid' is the law's where the arguments, and the package variables that the reading takes, are together of bulk at most 1048576: NARROWER than '..Said'. Prove '..Said' where nothing that the law and all that it calls make is longer than what came in: it says more and counts as full. Else prove '..UptoSaid'. A law counts once. -/
mutual
def uptoBulk {H : Type} : DataW H → Nat
  | .lit (.string bytes) => bytes.length + 1
  | .lit _ => 1
  | .nil => 1
  | .ptr d => uptoBulk d + 1
  | .slice elems spare => uptoBulkAll elems + uptoBulkAll spare + 1
  | .agg parts => uptoBulkAll parts + 1
  | .iface _ d => uptoBulk d + 1
  | .map entries => uptoBulkEntries entries + 1
  | .held _ => 1
def uptoBulkAll {H : Type} : List (DataW H) → Nat
  | [] => 0
  | d :: r => uptoBulk d + uptoBulkAll r
def uptoBulkEntries {H : Type} : List (Lit × DataW H) → Nat
  | [] => 0
  | x :: r => uptoBulkEntry x + uptoBulkEntries r
def uptoBulkEntry {H : Type} : Lit × DataW H → Nat
  | (.string bytes, d) => bytes.length + uptoBulk d + 1
  | (_, d) => uptoBulk d + 1
 end
def uptoSmall : (H : Type) → List (DataW H) → Bool := fun _ ds => decide (uptoBulkAll ds ≤ 1048576)
def OpenSpec.upto (s : _root_.Go.ChangeSpec) : _root_.Go.OpenSpec := { _root_.Go.OpenSpec.ofChange s with cond := some uptoSmall }

/-- 'kinespherelaw29.ApartSpec', WHERE WHAT IT READS IS OF BULK AT MOST 1048576: true; the input reads as it did. -/
def apartSpecUptoRow : OpenClaim := { program := "ytjoieglhmladhaadoor", sum := "ae5e2d5c6c8f2bd9756a6aefa92c8df9ef3a750f022dafff8974a9e413fbfe9c", func := "kinesphere/kinespherelaw29.ApartSpec", spec := "apartSpec", unfollowed := true, recurses := true, named := ["kinesphere/expand.kinds"], plainKeys := false, apart := false, laid := [("kinesphere/expand.kinds", laid_kinesphere_expand_kinds)], narrowed := true }
def ApartSpecUptoSaid : Prop := apartSpecUptoRow.holds Tryd.pinned (OpenSpec.upto apartSpecSpec)

/-- 'kinespherelaw29.ApartGroupsSpec', WHERE WHAT IT READS IS OF BULK AT MOST 1048576: true; the input reads as it did. -/
def apartGroupsSpecUptoRow : OpenClaim := { program := "ytjoieglhmladhaadoor", sum := "ae5e2d5c6c8f2bd9756a6aefa92c8df9ef3a750f022dafff8974a9e413fbfe9c", func := "kinesphere/kinespherelaw29.ApartGroupsSpec", spec := "apartGroupsSpec", unfollowed := true, recurses := true, named := ["kinesphere/expand.kinds"], plainKeys := false, apart := false, laid := [("kinesphere/expand.kinds", laid_kinesphere_expand_kinds)], narrowed := true }
def ApartGroupsSpecUptoSaid : Prop := apartGroupsSpecUptoRow.holds Tryd.pinned (OpenSpec.upto apartGroupsSpecSpec)

/-- 'kinespherelaw29.ApartClashSpec', WHERE WHAT IT READS IS OF BULK AT MOST 1048576: true; the input reads as it did. -/
def apartClashSpecUptoRow : OpenClaim := { program := "ytjoieglhmladhaadoor", sum := "ae5e2d5c6c8f2bd9756a6aefa92c8df9ef3a750f022dafff8974a9e413fbfe9c", func := "kinesphere/kinespherelaw29.ApartClashSpec", spec := "apartClashSpec", unfollowed := true, recurses := true, named := ["kinesphere/expand.kinds"], plainKeys := false, apart := false, laid := [("kinesphere/expand.kinds", laid_kinesphere_expand_kinds)], narrowed := true }
def ApartClashSpecUptoSaid : Prop := apartClashSpecUptoRow.holds Tryd.pinned (OpenSpec.upto apartClashSpecSpec)

/-- 'kinespherelaw29.ApartSafe', WHERE WHAT IT READS IS OF BULK AT MOST 1048576: true; the input reads as it did. -/
def apartSafeUptoRow : OpenClaim := { program := "ytjoieglhmladhaadoor", sum := "ae5e2d5c6c8f2bd9756a6aefa92c8df9ef3a750f022dafff8974a9e413fbfe9c", func := "kinesphere/kinespherelaw29.ApartSafe", spec := "apartSafe", unfollowed := true, recurses := true, named := ["kinesphere/expand.kinds"], plainKeys := false, apart := false, laid := [("kinesphere/expand.kinds", laid_kinesphere_expand_kinds)], narrowed := true }
def ApartSafeUptoSaid : Prop := apartSafeUptoRow.holds Tryd.pinned (OpenSpec.upto apartSafeSpec)

/-- 'kinespherelaw29.ApartReal', WHERE WHAT IT READS IS OF BULK AT MOST 1048576: true; the input reads as it did. -/
def apartRealUptoRow : OpenClaim := { program := "ytjoieglhmladhaadoor", sum := "ae5e2d5c6c8f2bd9756a6aefa92c8df9ef3a750f022dafff8974a9e413fbfe9c", func := "kinesphere/kinespherelaw29.ApartReal", spec := "apartReal", unfollowed := true, recurses := true, named := ["kinesphere/expand.kinds"], plainKeys := false, apart := false, laid := [("kinesphere/expand.kinds", laid_kinesphere_expand_kinds)], narrowed := true }
def ApartRealUptoSaid : Prop := apartRealUptoRow.holds Tryd.pinned (OpenSpec.upto apartRealSpec)

/-- 'kinespherelaw29.ApartGroups', WHERE WHAT IT READS IS OF BULK AT MOST 1048576: true; the input reads as it did. -/
def apartGroupsUptoRow : OpenClaim := { program := "ytjoieglhmladhaadoor", sum := "ae5e2d5c6c8f2bd9756a6aefa92c8df9ef3a750f022dafff8974a9e413fbfe9c", func := "kinesphere/kinespherelaw29.ApartGroups", spec := "apartGroups", unfollowed := true, recurses := true, named := ["kinesphere/expand.kinds"], plainKeys := false, apart := false, laid := [("kinesphere/expand.kinds", laid_kinesphere_expand_kinds)], narrowed := true }
def ApartGroupsUptoSaid : Prop := apartGroupsUptoRow.holds Tryd.pinned (OpenSpec.upto apartGroupsSpec)

/-- 'kinespherelaw29.ApartLess', WHERE WHAT IT READS IS OF BULK AT MOST 1048576: true; the input reads as it did. -/
def apartLessUptoRow : OpenClaim := { program := "ytjoieglhmladhaadoor", sum := "ae5e2d5c6c8f2bd9756a6aefa92c8df9ef3a750f022dafff8974a9e413fbfe9c", func := "kinesphere/kinespherelaw29.ApartLess", spec := "apartLess", unfollowed := true, recurses := true, named := ["kinesphere/expand.kinds"], plainKeys := false, apart := false, laid := [("kinesphere/expand.kinds", laid_kinesphere_expand_kinds)], narrowed := true }
def ApartLessUptoSaid : Prop := apartLessUptoRow.holds Tryd.pinned (OpenSpec.upto apartLessSpec)

/-- 'kinespherelaw29.ApartPath', WHERE WHAT IT READS IS OF BULK AT MOST 1048576: true; the input reads as it did. -/
def apartPathUptoRow : OpenClaim := { program := "ytjoieglhmladhaadoor", sum := "ae5e2d5c6c8f2bd9756a6aefa92c8df9ef3a750f022dafff8974a9e413fbfe9c", func := "kinesphere/kinespherelaw29.ApartPath", spec := "apartPath", unfollowed := true, recurses := true, named := ["kinesphere/expand.kinds"], plainKeys := false, apart := false, laid := [("kinesphere/expand.kinds", laid_kinesphere_expand_kinds)], narrowed := true }
def ApartPathUptoSaid : Prop := apartPathUptoRow.holds Tryd.pinned (OpenSpec.upto apartPathSpec)

end Rows
end Go.Proofs.YtjoieglhmladhaaDoor
