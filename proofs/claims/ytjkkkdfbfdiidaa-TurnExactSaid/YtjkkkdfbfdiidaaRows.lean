/-
  No cell of these rows narrows 'for every input' (looked for: loops, veiled, ifaces, maps, wideKeys, modest, calm, conditions, laid).
  DERIVED. THE GIVEN ROWS OF THIS SEAT. 8 by the template 'for every input the law returns true; each argument reads behind the call as it read before'; 0 by the template 'total and deterministic' (their statements: YtjkkkdfbfdiidaaTotals.lean).
  GIVEN WITH THE SEED: the statements are not yours to turn. If you find one false, say at which input.
  Laid BY PROGRAM, IN A SANDBOX (cutbox-rows.mjs): the forced cells as the released guide's own fill.sh prints them over the translation d17dd15576beb839… (all of the seat's roots in one cut). By AI agents, Wed Nov 11 2026. No macro, syntax, notation, axiom, sorry.
-/
import Derived.Test.YtjkkkdfbfdiidaaChecked
import GoSem.Claim
import GoSem.ClaimJoined
import GoSem.ClaimMapViews
import Derived.JoinedTies
import Derived.KernelRfl
namespace Go.Proofs.Ytjkkkdfbfdiidaa
/- THE CELL 'sum', in the pinned program and in every row, IS THE sha256 OF THE DUMP (.gsa) THAT YtjkkkdfbfdiidaaProg.lean LOADS. Nothing in Lean hashes anything: it is a label: what it is worth is what the hold of that sum in a sandbox is worth. -/
noncomputable def Try.pinned : Pinned := { name := "ytjkkkdfbfdiidaa", sum := "d17dd15576beb839a617764447b0c59bd57f1d605e0a3218bb46c4dff5439974", checked := Try.checked }
namespace Rows
def none {H : Type} : Left H := { results := [], args := [] }

/-- 'kinespherelaw14.TurnSpec': WHATEVER THE INPUT: true; the input reads as it did. -/
def turnSpecSpec : ChangeSpec := { name := "turnSpec", fn := fun _ => fun
  | [d1, d2, d3] => { results := [.lit (.bool true)], args := [d1, d2, d3] }
  | _ => none }
def turnSpecRow : OpenClaim := { program := "ytjkkkdfbfdiidaa", sum := "d17dd15576beb839a617764447b0c59bd57f1d605e0a3218bb46c4dff5439974", func := "kinesphere/kinespherelaw14.TurnSpec", spec := "turnSpec", unfollowed := true, recurses := true, apart := false }
def TurnSpecSaid : Prop := turnSpecRow.holds Try.pinned (OpenSpec.ofChange turnSpecSpec)

/-- ITS FALSE NEIGHBOUR: 'it returns false'. Refute it at one input. -/
def turnSpecWrong : ChangeSpec := { name := "turnSpec", fn := fun _ => fun
  | [d1, d2, d3] => { results := [.lit (.bool false)], args := [d1, d2, d3] }
  | _ => none }
def TurnSpecWrongFalsely : Prop := turnSpecRow.holds Try.pinned (OpenSpec.ofChange turnSpecWrong)

/-- 'kinespherelaw14.TurnApplySpec': WHATEVER THE INPUT: true; the input reads as it did. -/
def turnApplySpecSpec : ChangeSpec := { name := "turnApplySpec", fn := fun _ => fun
  | [d1, d2, d3, d4] => { results := [.lit (.bool true)], args := [d1, d2, d3, d4] }
  | _ => none }
def turnApplySpecRow : OpenClaim := { program := "ytjkkkdfbfdiidaa", sum := "d17dd15576beb839a617764447b0c59bd57f1d605e0a3218bb46c4dff5439974", func := "kinesphere/kinespherelaw14.TurnApplySpec", spec := "turnApplySpec", unfollowed := true, recurses := true, apart := false }
def TurnApplySpecSaid : Prop := turnApplySpecRow.holds Try.pinned (OpenSpec.ofChange turnApplySpecSpec)

/-- ITS FALSE NEIGHBOUR: 'it returns false'. Refute it at one input. -/
def turnApplySpecWrong : ChangeSpec := { name := "turnApplySpec", fn := fun _ => fun
  | [d1, d2, d3, d4] => { results := [.lit (.bool false)], args := [d1, d2, d3, d4] }
  | _ => none }
def TurnApplySpecWrongFalsely : Prop := turnApplySpecRow.holds Try.pinned (OpenSpec.ofChange turnApplySpecWrong)

/-- 'kinespherelaw14.TurnExact': WHATEVER THE INPUT: true; the input reads as it did. -/
def turnExactSpec : ChangeSpec := { name := "turnExact", fn := fun _ => fun
  | [d1, d2, d3] => { results := [.lit (.bool true)], args := [d1, d2, d3] }
  | _ => none }
def turnExactRow : OpenClaim := { program := "ytjkkkdfbfdiidaa", sum := "d17dd15576beb839a617764447b0c59bd57f1d605e0a3218bb46c4dff5439974", func := "kinesphere/kinespherelaw14.TurnExact", spec := "turnExact", unfollowed := true, recurses := true, apart := false }
def TurnExactSaid : Prop := turnExactRow.holds Try.pinned (OpenSpec.ofChange turnExactSpec)

/-- ITS FALSE NEIGHBOUR: 'it returns false'. Refute it at one input. -/
def turnExactWrong : ChangeSpec := { name := "turnExact", fn := fun _ => fun
  | [d1, d2, d3] => { results := [.lit (.bool false)], args := [d1, d2, d3] }
  | _ => none }
def TurnExactWrongFalsely : Prop := turnExactRow.holds Try.pinned (OpenSpec.ofChange turnExactWrong)

/-- 'kinespherelaw14.TurnTwice': WHATEVER THE INPUT: true; the input reads as it did. -/
def turnTwiceSpec : ChangeSpec := { name := "turnTwice", fn := fun _ => fun
  | [d1, d2, d3] => { results := [.lit (.bool true)], args := [d1, d2, d3] }
  | _ => none }
def turnTwiceRow : OpenClaim := { program := "ytjkkkdfbfdiidaa", sum := "d17dd15576beb839a617764447b0c59bd57f1d605e0a3218bb46c4dff5439974", func := "kinesphere/kinespherelaw14.TurnTwice", spec := "turnTwice", unfollowed := true, recurses := true, apart := false }
def TurnTwiceSaid : Prop := turnTwiceRow.holds Try.pinned (OpenSpec.ofChange turnTwiceSpec)

/-- ITS FALSE NEIGHBOUR: 'it returns false'. Refute it at one input. -/
def turnTwiceWrong : ChangeSpec := { name := "turnTwice", fn := fun _ => fun
  | [d1, d2, d3] => { results := [.lit (.bool false)], args := [d1, d2, d3] }
  | _ => none }
def TurnTwiceWrongFalsely : Prop := turnTwiceRow.holds Try.pinned (OpenSpec.ofChange turnTwiceWrong)

/-- 'kinespherelaw14.TurnOrdered': WHATEVER THE INPUT: true; the input reads as it did. -/
def turnOrderedSpec : ChangeSpec := { name := "turnOrdered", fn := fun _ => fun
  | [d1, d2, d3] => { results := [.lit (.bool true)], args := [d1, d2, d3] }
  | _ => none }
def turnOrderedRow : OpenClaim := { program := "ytjkkkdfbfdiidaa", sum := "d17dd15576beb839a617764447b0c59bd57f1d605e0a3218bb46c4dff5439974", func := "kinesphere/kinespherelaw14.TurnOrdered", spec := "turnOrdered", unfollowed := true, recurses := true, apart := false }
def TurnOrderedSaid : Prop := turnOrderedRow.holds Try.pinned (OpenSpec.ofChange turnOrderedSpec)

/-- ITS FALSE NEIGHBOUR: 'it returns false'. Refute it at one input. -/
def turnOrderedWrong : ChangeSpec := { name := "turnOrdered", fn := fun _ => fun
  | [d1, d2, d3] => { results := [.lit (.bool false)], args := [d1, d2, d3] }
  | _ => none }
def TurnOrderedWrongFalsely : Prop := turnOrderedRow.holds Try.pinned (OpenSpec.ofChange turnOrderedWrong)

/-- 'kinespherelaw14.TurnComposeSpec': WHATEVER THE INPUT: true; the input reads as it did. -/
def turnComposeSpecSpec : ChangeSpec := { name := "turnComposeSpec", fn := fun _ => fun
  | [d1, d2] => { results := [.lit (.bool true)], args := [d1, d2] }
  | _ => none }
def turnComposeSpecRow : OpenClaim := { program := "ytjkkkdfbfdiidaa", sum := "d17dd15576beb839a617764447b0c59bd57f1d605e0a3218bb46c4dff5439974", func := "kinesphere/kinespherelaw14.TurnComposeSpec", spec := "turnComposeSpec", unfollowed := true, recurses := true, apart := false }
def TurnComposeSpecSaid : Prop := turnComposeSpecRow.holds Try.pinned (OpenSpec.ofChange turnComposeSpecSpec)

/-- ITS FALSE NEIGHBOUR: 'it returns false'. Refute it at one input. -/
def turnComposeSpecWrong : ChangeSpec := { name := "turnComposeSpec", fn := fun _ => fun
  | [d1, d2] => { results := [.lit (.bool false)], args := [d1, d2] }
  | _ => none }
def TurnComposeSpecWrongFalsely : Prop := turnComposeSpecRow.holds Try.pinned (OpenSpec.ofChange turnComposeSpecWrong)

/-- 'kinespherelaw14.TurnGroup': WHATEVER THE INPUT: true; the input reads as it did. -/
def turnGroupSpec : ChangeSpec := { name := "turnGroup", fn := fun _ => fun
  | [d1, d2, d3] => { results := [.lit (.bool true)], args := [d1, d2, d3] }
  | _ => none }
def turnGroupRow : OpenClaim := { program := "ytjkkkdfbfdiidaa", sum := "d17dd15576beb839a617764447b0c59bd57f1d605e0a3218bb46c4dff5439974", func := "kinesphere/kinespherelaw14.TurnGroup", spec := "turnGroup", unfollowed := true, recurses := true, apart := false }
def TurnGroupSaid : Prop := turnGroupRow.holds Try.pinned (OpenSpec.ofChange turnGroupSpec)

/-- ITS FALSE NEIGHBOUR: 'it returns false'. Refute it at one input. -/
def turnGroupWrong : ChangeSpec := { name := "turnGroup", fn := fun _ => fun
  | [d1, d2, d3] => { results := [.lit (.bool false)], args := [d1, d2, d3] }
  | _ => none }
def TurnGroupWrongFalsely : Prop := turnGroupRow.holds Try.pinned (OpenSpec.ofChange turnGroupWrong)

/-- 'kinespherelaw14.TurnDirections': WHATEVER THE INPUT: true; the input reads as it did. -/
def turnDirectionsSpec : ChangeSpec := { name := "turnDirections", fn := fun _ => fun
  | [d1, d2, d3, d4] => { results := [.lit (.bool true)], args := [d1, d2, d3, d4] }
  | _ => none }
def turnDirectionsRow : OpenClaim := { program := "ytjkkkdfbfdiidaa", sum := "d17dd15576beb839a617764447b0c59bd57f1d605e0a3218bb46c4dff5439974", func := "kinesphere/kinespherelaw14.TurnDirections", spec := "turnDirections", unfollowed := true, recurses := true, apart := false }
def TurnDirectionsSaid : Prop := turnDirectionsRow.holds Try.pinned (OpenSpec.ofChange turnDirectionsSpec)

/-- ITS FALSE NEIGHBOUR: 'it returns false'. Refute it at one input. -/
def turnDirectionsWrong : ChangeSpec := { name := "turnDirections", fn := fun _ => fun
  | [d1, d2, d3, d4] => { results := [.lit (.bool false)], args := [d1, d2, d3, d4] }
  | _ => none }
def TurnDirectionsWrongFalsely : Prop := turnDirectionsRow.holds Try.pinned (OpenSpec.ofChange turnDirectionsWrong)

/- THE SECOND FORM. 'bulk': how many values and letters a reading holds, each counted each time it is reached (what is shared counts as often as it is met; a slice's spare places count too). A statement '..UptoSaid' is the law's where the arguments, and the package variables that the reading takes, are together of bulk at most 1048576: NARROWER than '..Said'. Prove '..Said' where nothing that the law and all that it calls make is longer than what came in: it says more and counts as full. Else prove '..UptoSaid'. A law counts once. -/
mutual
def uptoBulk {H : Type} : DataW H → Nat
  | .lit (.string bytes) => bytes.length + 1
  | .lit _ => 1
  | .nil => 1
  | .ptr d => uptoBulk d + 1
  | .slice elems spare => uptoBulkAll elems + uptoBulkAll spare + 1
  | .agg parts => uptoBulkAll parts + 1
  | .iface _ d => uptoBulk d + 1
  | .map entries => uptoBulkEntries entries + 1
  | .held _ => 1
def uptoBulkAll {H : Type} : List (DataW H) → Nat
  | [] => 0
  | d :: r => uptoBulk d + uptoBulkAll r
def uptoBulkEntries {H : Type} : List (Lit × DataW H) → Nat
  | [] => 0
  | x :: r => uptoBulkEntry x + uptoBulkEntries r
def uptoBulkEntry {H : Type} : Lit × DataW H → Nat
  | (.string bytes, d) => bytes.length + uptoBulk d + 1
  | (_, d) => uptoBulk d + 1
 end
def uptoSmall : (H : Type) → List (DataW H) → Bool := fun _ ds => decide (uptoBulkAll ds ≤ 1048576)
def OpenSpec.upto (s : _root_.Go.ChangeSpec) : _root_.Go.OpenSpec := { _root_.Go.OpenSpec.ofChange s with cond := some uptoSmall }

/-- 'kinespherelaw14.TurnSpec', WHERE WHAT IT READS IS OF BULK AT MOST 1048576: true; the input reads as it did. -/
def turnSpecUptoRow : OpenClaim := { program := "ytjkkkdfbfdiidaa", sum := "d17dd15576beb839a617764447b0c59bd57f1d605e0a3218bb46c4dff5439974", func := "kinesphere/kinespherelaw14.TurnSpec", spec := "turnSpec", unfollowed := true, recurses := true, apart := false, narrowed := true }
def TurnSpecUptoSaid : Prop := turnSpecUptoRow.holds Try.pinned (OpenSpec.upto turnSpecSpec)

/-- 'kinespherelaw14.TurnApplySpec', WHERE WHAT IT READS IS OF BULK AT MOST 1048576: true; the input reads as it did. -/
def turnApplySpecUptoRow : OpenClaim := { program := "ytjkkkdfbfdiidaa", sum := "d17dd15576beb839a617764447b0c59bd57f1d605e0a3218bb46c4dff5439974", func := "kinesphere/kinespherelaw14.TurnApplySpec", spec := "turnApplySpec", unfollowed := true, recurses := true, apart := false, narrowed := true }
def TurnApplySpecUptoSaid : Prop := turnApplySpecUptoRow.holds Try.pinned (OpenSpec.upto turnApplySpecSpec)

/-- 'kinespherelaw14.TurnExact', WHERE WHAT IT READS IS OF BULK AT MOST 1048576: true; the input reads as it did. -/
def turnExactUptoRow : OpenClaim := { program := "ytjkkkdfbfdiidaa", sum := "d17dd15576beb839a617764447b0c59bd57f1d605e0a3218bb46c4dff5439974", func := "kinesphere/kinespherelaw14.TurnExact", spec := "turnExact", unfollowed := true, recurses := true, apart := false, narrowed := true }
def TurnExactUptoSaid : Prop := turnExactUptoRow.holds Try.pinned (OpenSpec.upto turnExactSpec)

/-- 'kinespherelaw14.TurnTwice', WHERE WHAT IT READS IS OF BULK AT MOST 1048576: true; the input reads as it did. -/
def turnTwiceUptoRow : OpenClaim := { program := "ytjkkkdfbfdiidaa", sum := "d17dd15576beb839a617764447b0c59bd57f1d605e0a3218bb46c4dff5439974", func := "kinesphere/kinespherelaw14.TurnTwice", spec := "turnTwice", unfollowed := true, recurses := true, apart := false, narrowed := true }
def TurnTwiceUptoSaid : Prop := turnTwiceUptoRow.holds Try.pinned (OpenSpec.upto turnTwiceSpec)

/-- 'kinespherelaw14.TurnOrdered', WHERE WHAT IT READS IS OF BULK AT MOST 1048576: true; the input reads as it did. -/
def turnOrderedUptoRow : OpenClaim := { program := "ytjkkkdfbfdiidaa", sum := "d17dd15576beb839a617764447b0c59bd57f1d605e0a3218bb46c4dff5439974", func := "kinesphere/kinespherelaw14.TurnOrdered", spec := "turnOrdered", unfollowed := true, recurses := true, apart := false, narrowed := true }
def TurnOrderedUptoSaid : Prop := turnOrderedUptoRow.holds Try.pinned (OpenSpec.upto turnOrderedSpec)

/-- 'kinespherelaw14.TurnComposeSpec', WHERE WHAT IT READS IS OF BULK AT MOST 1048576: true; the input reads as it did. -/
def turnComposeSpecUptoRow : OpenClaim := { program := "ytjkkkdfbfdiidaa", sum := "d17dd15576beb839a617764447b0c59bd57f1d605e0a3218bb46c4dff5439974", func := "kinesphere/kinespherelaw14.TurnComposeSpec", spec := "turnComposeSpec", unfollowed := true, recurses := true, apart := false, narrowed := true }
def TurnComposeSpecUptoSaid : Prop := turnComposeSpecUptoRow.holds Try.pinned (OpenSpec.upto turnComposeSpecSpec)

/-- 'kinespherelaw14.TurnGroup', WHERE WHAT IT READS IS OF BULK AT MOST 1048576: true; the input reads as it did. -/
def turnGroupUptoRow : OpenClaim := { program := "ytjkkkdfbfdiidaa", sum := "d17dd15576beb839a617764447b0c59bd57f1d605e0a3218bb46c4dff5439974", func := "kinesphere/kinespherelaw14.TurnGroup", spec := "turnGroup", unfollowed := true, recurses := true, apart := false, narrowed := true }
def TurnGroupUptoSaid : Prop := turnGroupUptoRow.holds Try.pinned (OpenSpec.upto turnGroupSpec)

/-- 'kinespherelaw14.TurnDirections', WHERE WHAT IT READS IS OF BULK AT MOST 1048576: true; the input reads as it did. -/
def turnDirectionsUptoRow : OpenClaim := { program := "ytjkkkdfbfdiidaa", sum := "d17dd15576beb839a617764447b0c59bd57f1d605e0a3218bb46c4dff5439974", func := "kinesphere/kinespherelaw14.TurnDirections", spec := "turnDirections", unfollowed := true, recurses := true, apart := false, narrowed := true }
def TurnDirectionsUptoSaid : Prop := turnDirectionsUptoRow.holds Try.pinned (OpenSpec.upto turnDirectionsSpec)

end Rows
end Go.Proofs.Ytjkkkdfbfdiidaa
