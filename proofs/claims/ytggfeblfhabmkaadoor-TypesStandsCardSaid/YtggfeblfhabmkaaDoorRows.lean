/-
  NARROWER THAN 'FOR EVERY INPUT', by the rows' own cells (each row's printed sentence says how): TypesStands: laid · TypesMoment: laid · TypesLift: laid · TypesLess: laid · TypesMirrored: laid.
  DERIVED. THE GIVEN ROWS OF THIS SEAT. 5 by the template 'for every input the law returns true; each argument reads behind the call as it read before'; 0 by the template 'total and deterministic' (their statements: YtggfeblfhabmkaaDoorTotals.lean).
  GIVEN WITH THE SEED: the statements are not yours to turn. If you find one false, say at which input.
  Laid BY PROGRAM, IN A SANDBOX (cutbox-rows.mjs): the forced cells as the released guide's own fill.sh prints them over the translation ec4246b9d2c38a1b… (all of the seat's roots in one cut). By AI agents, Wed Nov 11 2026. No macro, syntax, notation, axiom, sorry.
-/
import Derived.Test.YtggfeblfhabmkaaDoorChecked
import GoSem.Claim
import GoSem.ClaimJoined
import GoSem.ClaimMapViews
import Derived.JoinedTies
import Derived.KernelRfl
namespace Go.Proofs.YtggfeblfhabmkaaDoor
/- THE CELL 'sum', in the pinned program and in every row, IS THE sha256 OF THE DUMP (.gsa) THAT YtggfeblfhabmkaaDoorProg.lean LOADS. Nothing in Lean hashes anything: it is a label: what it is worth is what the hold of that sum in a sandbox is worth. -/
noncomputable def Tryd.pinned : Pinned := { name := "ytggfeblfhabmkaadoor", sum := "ec4246b9d2c38a1bbf1a192032e60c4c0c34798195a23abcb3c756399be6fb1d", checked := Tryd.checked }
namespace Rows
def none {H : Type} : Left H := { results := [], args := [] }

/- WHAT THE LISTED PACKAGE-LEVEL VARIABLES READ AS WHEN THE CALL BEGINS. Each datum BY PROGRAM (the guide's laid-datum.mjs) off the statement by which the dump's own 'gosem.cut.vars' lays the variable. In a bare row this is a premise. The card (YtggfeblfhabmkaaDoorCards.lean) ties it to the program's text. -/
def laid_kinesphere_expand_kinds {H : Type} : DataW H := .agg [.agg [.lit (.bool false), .lit (.bool false), .lit (.bool false), .lit (.int .i64 0), .lit (.int .i64 0), .lit (.int .i64 0)], .agg [.lit (.bool true), .lit (.bool true), .lit (.bool false), .lit (.int .i64 1), .lit (.int .i64 0), .lit (.int .i64 16)], .agg [.lit (.bool false), .lit (.bool true), .lit (.bool false), .lit (.int .i64 1), .lit (.int .i64 0), .lit (.int .i64 16)], .agg [.lit (.bool true), .lit (.bool true), .lit (.bool false), .lit (.int .i64 0), .lit (.int .i64 3), .lit (.int .i64 0)], .agg [.lit (.bool true), .lit (.bool true), .lit (.bool false), .lit (.int .i64 0), .lit (.int .i64 3), .lit (.int .i64 0)], .agg [.lit (.bool false), .lit (.bool true), .lit (.bool false), .lit (.int .i64 0), .lit (.int .i64 3), .lit (.int .i64 0)], .agg [.lit (.bool false), .lit (.bool false), .lit (.bool false), .lit (.int .i64 0), .lit (.int .i64 0), .lit (.int .i64 7)], .agg [.lit (.bool false), .lit (.bool false), .lit (.bool true), .lit (.int .i64 0), .lit (.int .i64 0), .lit (.int .i64 0)], .agg [.lit (.bool false), .lit (.bool false), .lit (.bool true), .lit (.int .i64 0), .lit (.int .i64 0), .lit (.int .i64 0)], .agg [.lit (.bool true), .lit (.bool false), .lit (.bool false), .lit (.int .i64 0), .lit (.int .i64 3), .lit (.int .i64 0)]]

/-- 'kinespherelaw20.TypesStands': WHATEVER THE INPUT: true; the input reads as it did. -/
def typesStandsSpec : ChangeSpec := { name := "typesStands", fn := fun _ => fun
  | [d1, d2, d3, d4] => { results := [.lit (.bool true)], args := [d1, d2, d3, d4] }
  | _ => none }
def typesStandsRow : OpenClaim := { program := "ytggfeblfhabmkaadoor", sum := "ec4246b9d2c38a1bbf1a192032e60c4c0c34798195a23abcb3c756399be6fb1d", func := "kinesphere/kinespherelaw20.TypesStands", spec := "typesStands", unfollowed := true, recurses := true, named := ["kinesphere/expand.kinds"], plainKeys := false, apart := false, laid := [("kinesphere/expand.kinds", laid_kinesphere_expand_kinds)] }
def TypesStandsSaid : Prop := typesStandsRow.holds Tryd.pinned (OpenSpec.ofChange typesStandsSpec)

/-- ITS FALSE NEIGHBOUR: 'it returns false'. Refute it at one input. -/
def typesStandsWrong : ChangeSpec := { name := "typesStands", fn := fun _ => fun
  | [d1, d2, d3, d4] => { results := [.lit (.bool false)], args := [d1, d2, d3, d4] }
  | _ => none }
def TypesStandsWrongFalsely : Prop := typesStandsRow.holds Tryd.pinned (OpenSpec.ofChange typesStandsWrong)

/-- 'kinespherelaw20.TypesMoment': WHATEVER THE INPUT: true; the input reads as it did. -/
def typesMomentSpec : ChangeSpec := { name := "typesMoment", fn := fun _ => fun
  | [d1, d2, d3] => { results := [.lit (.bool true)], args := [d1, d2, d3] }
  | _ => none }
def typesMomentRow : OpenClaim := { program := "ytggfeblfhabmkaadoor", sum := "ec4246b9d2c38a1bbf1a192032e60c4c0c34798195a23abcb3c756399be6fb1d", func := "kinesphere/kinespherelaw20.TypesMoment", spec := "typesMoment", unfollowed := true, recurses := true, named := ["kinesphere/expand.kinds"], plainKeys := false, apart := false, laid := [("kinesphere/expand.kinds", laid_kinesphere_expand_kinds)] }
def TypesMomentSaid : Prop := typesMomentRow.holds Tryd.pinned (OpenSpec.ofChange typesMomentSpec)

/-- ITS FALSE NEIGHBOUR: 'it returns false'. Refute it at one input. -/
def typesMomentWrong : ChangeSpec := { name := "typesMoment", fn := fun _ => fun
  | [d1, d2, d3] => { results := [.lit (.bool false)], args := [d1, d2, d3] }
  | _ => none }
def TypesMomentWrongFalsely : Prop := typesMomentRow.holds Tryd.pinned (OpenSpec.ofChange typesMomentWrong)

/-- 'kinespherelaw20.TypesLift': WHATEVER THE INPUT: true; the input reads as it did. -/
def typesLiftSpec : ChangeSpec := { name := "typesLift", fn := fun _ => fun
  | [d1, d2] => { results := [.lit (.bool true)], args := [d1, d2] }
  | _ => none }
def typesLiftRow : OpenClaim := { program := "ytggfeblfhabmkaadoor", sum := "ec4246b9d2c38a1bbf1a192032e60c4c0c34798195a23abcb3c756399be6fb1d", func := "kinesphere/kinespherelaw20.TypesLift", spec := "typesLift", unfollowed := true, recurses := true, named := ["kinesphere/expand.kinds"], plainKeys := false, apart := false, laid := [("kinesphere/expand.kinds", laid_kinesphere_expand_kinds)] }
def TypesLiftSaid : Prop := typesLiftRow.holds Tryd.pinned (OpenSpec.ofChange typesLiftSpec)

/-- ITS FALSE NEIGHBOUR: 'it returns false'. Refute it at one input. -/
def typesLiftWrong : ChangeSpec := { name := "typesLift", fn := fun _ => fun
  | [d1, d2] => { results := [.lit (.bool false)], args := [d1, d2] }
  | _ => none }
def TypesLiftWrongFalsely : Prop := typesLiftRow.holds Tryd.pinned (OpenSpec.ofChange typesLiftWrong)

/-- 'kinespherelaw20.TypesLess': WHATEVER THE INPUT: true; the input reads as it did. -/
def typesLessSpec : ChangeSpec := { name := "typesLess", fn := fun _ => fun
  | [d1, d2] => { results := [.lit (.bool true)], args := [d1, d2] }
  | _ => none }
def typesLessRow : OpenClaim := { program := "ytggfeblfhabmkaadoor", sum := "ec4246b9d2c38a1bbf1a192032e60c4c0c34798195a23abcb3c756399be6fb1d", func := "kinesphere/kinespherelaw20.TypesLess", spec := "typesLess", unfollowed := true, recurses := true, named := ["kinesphere/expand.kinds"], plainKeys := false, apart := false, laid := [("kinesphere/expand.kinds", laid_kinesphere_expand_kinds)] }
def TypesLessSaid : Prop := typesLessRow.holds Tryd.pinned (OpenSpec.ofChange typesLessSpec)

/-- ITS FALSE NEIGHBOUR: 'it returns false'. Refute it at one input. -/
def typesLessWrong : ChangeSpec := { name := "typesLess", fn := fun _ => fun
  | [d1, d2] => { results := [.lit (.bool false)], args := [d1, d2] }
  | _ => none }
def TypesLessWrongFalsely : Prop := typesLessRow.holds Tryd.pinned (OpenSpec.ofChange typesLessWrong)

/-- 'kinespherelaw20.TypesMirrored': WHATEVER THE INPUT: true; the input reads as it did. -/
def typesMirroredSpec : ChangeSpec := { name := "typesMirrored", fn := fun _ => fun
  | [d1, d2] => { results := [.lit (.bool true)], args := [d1, d2] }
  | _ => none }
def typesMirroredRow : OpenClaim := { program := "ytggfeblfhabmkaadoor", sum := "ec4246b9d2c38a1bbf1a192032e60c4c0c34798195a23abcb3c756399be6fb1d", func := "kinesphere/kinespherelaw20.TypesMirrored", spec := "typesMirrored", unfollowed := true, recurses := true, named := ["kinesphere/expand.kinds"], plainKeys := false, apart := false, laid := [("kinesphere/expand.kinds", laid_kinesphere_expand_kinds)] }
def TypesMirroredSaid : Prop := typesMirroredRow.holds Tryd.pinned (OpenSpec.ofChange typesMirroredSpec)

/-- ITS FALSE NEIGHBOUR: 'it returns false'. Refute it at one input. -/
def typesMirroredWrong : ChangeSpec := { name := "typesMirrored", fn := fun _ => fun
  | [d1, d2] => { results := [.lit (.bool false)], args := [d1, d2] }
  | _ => none }
def TypesMirroredWrongFalsely : Prop := typesMirroredRow.holds Tryd.pinned (OpenSpec.ofChange typesMirroredWrong)

/- THE SECOND FORM. 'bulk': how many values and letters a reading holds, each counted each time it is reached (what is shared counts as often as it is met; a slice's spare places count too). A statement '..UptoSaid' is the law's where the arguments, and the package variables that the reading takes, are together of bulk at most 1048576: NARROWER than '..Said'. Prove '..Said' where nothing that the law and all that it calls make is longer than what came in: it says more and counts as full. Else prove '..UptoSaid'. A law counts once. -/
mutual
def uptoBulk {H : Type} : DataW H → Nat
  | .lit (.string bytes) => bytes.length + 1
  | .lit _ => 1
  | .nil => 1
  | .ptr d => uptoBulk d + 1
  | .slice elems spare => uptoBulkAll elems + uptoBulkAll spare + 1
  | .agg parts => uptoBulkAll parts + 1
  | .iface _ d => uptoBulk d + 1
  | .map entries => uptoBulkEntries entries + 1
  | .held _ => 1
def uptoBulkAll {H : Type} : List (DataW H) → Nat
  | [] => 0
  | d :: r => uptoBulk d + uptoBulkAll r
def uptoBulkEntries {H : Type} : List (Lit × DataW H) → Nat
  | [] => 0
  | x :: r => uptoBulkEntry x + uptoBulkEntries r
def uptoBulkEntry {H : Type} : Lit × DataW H → Nat
  | (.string bytes, d) => bytes.length + uptoBulk d + 1
  | (_, d) => uptoBulk d + 1
 end
def uptoSmall : (H : Type) → List (DataW H) → Bool := fun _ ds => decide (uptoBulkAll ds ≤ 1048576)
def OpenSpec.upto (s : _root_.Go.ChangeSpec) : _root_.Go.OpenSpec := { _root_.Go.OpenSpec.ofChange s with cond := some uptoSmall }

/-- 'kinespherelaw20.TypesStands', WHERE WHAT IT READS IS OF BULK AT MOST 1048576: true; the input reads as it did. -/
def typesStandsUptoRow : OpenClaim := { program := "ytggfeblfhabmkaadoor", sum := "ec4246b9d2c38a1bbf1a192032e60c4c0c34798195a23abcb3c756399be6fb1d", func := "kinesphere/kinespherelaw20.TypesStands", spec := "typesStands", unfollowed := true, recurses := true, named := ["kinesphere/expand.kinds"], plainKeys := false, apart := false, laid := [("kinesphere/expand.kinds", laid_kinesphere_expand_kinds)], narrowed := true }
def TypesStandsUptoSaid : Prop := typesStandsUptoRow.holds Tryd.pinned (OpenSpec.upto typesStandsSpec)

/-- 'kinespherelaw20.TypesMoment', WHERE WHAT IT READS IS OF BULK AT MOST 1048576: true; the input reads as it did. -/
def typesMomentUptoRow : OpenClaim := { program := "ytggfeblfhabmkaadoor", sum := "ec4246b9d2c38a1bbf1a192032e60c4c0c34798195a23abcb3c756399be6fb1d", func := "kinesphere/kinespherelaw20.TypesMoment", spec := "typesMoment", unfollowed := true, recurses := true, named := ["kinesphere/expand.kinds"], plainKeys := false, apart := false, laid := [("kinesphere/expand.kinds", laid_kinesphere_expand_kinds)], narrowed := true }
def TypesMomentUptoSaid : Prop := typesMomentUptoRow.holds Tryd.pinned (OpenSpec.upto typesMomentSpec)

/-- 'kinespherelaw20.TypesLift', WHERE WHAT IT READS IS OF BULK AT MOST 1048576: true; the input reads as it did. -/
def typesLiftUptoRow : OpenClaim := { program := "ytggfeblfhabmkaadoor", sum := "ec4246b9d2c38a1bbf1a192032e60c4c0c34798195a23abcb3c756399be6fb1d", func := "kinesphere/kinespherelaw20.TypesLift", spec := "typesLift", unfollowed := true, recurses := true, named := ["kinesphere/expand.kinds"], plainKeys := false, apart := false, laid := [("kinesphere/expand.kinds", laid_kinesphere_expand_kinds)], narrowed := true }
def TypesLiftUptoSaid : Prop := typesLiftUptoRow.holds Tryd.pinned (OpenSpec.upto typesLiftSpec)

/-- 'kinespherelaw20.TypesLess', WHERE WHAT IT READS IS OF BULK AT MOST 1048576: true; the input reads as it did. -/
def typesLessUptoRow : OpenClaim := { program := "ytggfeblfhabmkaadoor", sum := "ec4246b9d2c38a1bbf1a192032e60c4c0c34798195a23abcb3c756399be6fb1d", func := "kinesphere/kinespherelaw20.TypesLess", spec := "typesLess", unfollowed := true, recurses := true, named := ["kinesphere/expand.kinds"], plainKeys := false, apart := false, laid := [("kinesphere/expand.kinds", laid_kinesphere_expand_kinds)], narrowed := true }
def TypesLessUptoSaid : Prop := typesLessUptoRow.holds Tryd.pinned (OpenSpec.upto typesLessSpec)

/-- 'kinespherelaw20.TypesMirrored', WHERE WHAT IT READS IS OF BULK AT MOST 1048576: true; the input reads as it did. -/
def typesMirroredUptoRow : OpenClaim := { program := "ytggfeblfhabmkaadoor", sum := "ec4246b9d2c38a1bbf1a192032e60c4c0c34798195a23abcb3c756399be6fb1d", func := "kinesphere/kinespherelaw20.TypesMirrored", spec := "typesMirrored", unfollowed := true, recurses := true, named := ["kinesphere/expand.kinds"], plainKeys := false, apart := false, laid := [("kinesphere/expand.kinds", laid_kinesphere_expand_kinds)], narrowed := true }
def TypesMirroredUptoSaid : Prop := typesMirroredUptoRow.holds Tryd.pinned (OpenSpec.upto typesMirroredSpec)

end Rows
end Go.Proofs.YtggfeblfhabmkaaDoor
