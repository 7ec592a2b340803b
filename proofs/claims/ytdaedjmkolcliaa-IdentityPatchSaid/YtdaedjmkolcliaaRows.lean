/-
  No cell of these rows narrows 'for every input' (looked for: loops, veiled, ifaces, maps, wideKeys, modest, calm, conditions, laid).
  DERIVED. THE GIVEN ROWS OF THIS SEAT. 7 by the template 'for every input the law returns true; each argument reads behind the call as it read before'; 0 by the template 'total and deterministic' (their statements: YtdaedjmkolcliaaTotals.lean).
  GIVEN WITH THE SEED: the statements are not yours to turn. If you find one false, say at which input.
  Laid BY PROGRAM, IN A SANDBOX (cutbox-rows.mjs): the forced cells as the released guide's own fill.sh prints them over the translation b27f7f1942508507… (all of the seat's roots in one cut). By AI agents, Wed Nov 11 2026. No macro, syntax, notation, axiom, sorry.
-/
import Derived.Test.YtdaedjmkolcliaaChecked
import GoSem.Claim
import GoSem.ClaimJoined
import GoSem.ClaimMapViews
import Derived.JoinedTies
import Derived.KernelRfl
namespace Go.Proofs.Ytdaedjmkolcliaa
/- THE CELL 'sum', in the pinned program and in every row, IS THE sha256 OF THE DUMP (.gsa) THAT YtdaedjmkolcliaaProg.lean LOADS. Nothing in Lean hashes anything: it is a label: what it is worth is what the hold of that sum in a sandbox is worth. -/
noncomputable def Try.pinned : Pinned := { name := "ytdaedjmkolcliaa", sum := "b27f7f19425085077046985df1b850cfbf0bc479ccb273d4ca5bb0b670b6128e", checked := Try.checked }
namespace Rows
def none {H : Type} : Left H := { results := [], args := [] }

/-- 'kinespherelaw45.IdentitySpec': WHATEVER THE INPUT: true; the input reads as it did. -/
def identitySpecSpec : ChangeSpec := { name := "identitySpec", fn := fun _ => fun
  | [d1, d2, d3] => { results := [.lit (.bool true)], args := [d1, d2, d3] }
  | _ => none }
def identitySpecRow : OpenClaim := { program := "ytdaedjmkolcliaa", sum := "b27f7f19425085077046985df1b850cfbf0bc479ccb273d4ca5bb0b670b6128e", func := "kinesphere/kinespherelaw45.IdentitySpec", spec := "identitySpec", unfollowed := true, recurses := true, plainKeys := false, apart := false }
def IdentitySpecSaid : Prop := identitySpecRow.holds Try.pinned (OpenSpec.ofChange identitySpecSpec)

/-- ITS FALSE NEIGHBOUR: 'it returns false'. Refute it at one input. -/
def identitySpecWrong : ChangeSpec := { name := "identitySpec", fn := fun _ => fun
  | [d1, d2, d3] => { results := [.lit (.bool false)], args := [d1, d2, d3] }
  | _ => none }
def IdentitySpecWrongFalsely : Prop := identitySpecRow.holds Try.pinned (OpenSpec.ofChange identitySpecWrong)

/-- 'kinespherelaw45.IdentitySameSpec': WHATEVER THE INPUT: true; the input reads as it did. -/
def identitySameSpecSpec : ChangeSpec := { name := "identitySameSpec", fn := fun _ => fun
  | [d1, d2, d3, d4] => { results := [.lit (.bool true)], args := [d1, d2, d3, d4] }
  | _ => none }
def identitySameSpecRow : OpenClaim := { program := "ytdaedjmkolcliaa", sum := "b27f7f19425085077046985df1b850cfbf0bc479ccb273d4ca5bb0b670b6128e", func := "kinesphere/kinespherelaw45.IdentitySameSpec", spec := "identitySameSpec", unfollowed := true, recurses := true, plainKeys := false, apart := false }
def IdentitySameSpecSaid : Prop := identitySameSpecRow.holds Try.pinned (OpenSpec.ofChange identitySameSpecSpec)

/-- ITS FALSE NEIGHBOUR: 'it returns false'. Refute it at one input. -/
def identitySameSpecWrong : ChangeSpec := { name := "identitySameSpec", fn := fun _ => fun
  | [d1, d2, d3, d4] => { results := [.lit (.bool false)], args := [d1, d2, d3, d4] }
  | _ => none }
def IdentitySameSpecWrongFalsely : Prop := identitySameSpecRow.holds Try.pinned (OpenSpec.ofChange identitySameSpecWrong)

/-- 'kinespherelaw45.IdentityEither': WHATEVER THE INPUT: true; the input reads as it did. -/
def identityEitherSpec : ChangeSpec := { name := "identityEither", fn := fun _ => fun
  | [d1, d2, d3, d4] => { results := [.lit (.bool true)], args := [d1, d2, d3, d4] }
  | _ => none }
def identityEitherRow : OpenClaim := { program := "ytdaedjmkolcliaa", sum := "b27f7f19425085077046985df1b850cfbf0bc479ccb273d4ca5bb0b670b6128e", func := "kinesphere/kinespherelaw45.IdentityEither", spec := "identityEither", unfollowed := true, recurses := true, plainKeys := false, apart := false }
def IdentityEitherSaid : Prop := identityEitherRow.holds Try.pinned (OpenSpec.ofChange identityEitherSpec)

/-- ITS FALSE NEIGHBOUR: 'it returns false'. Refute it at one input. -/
def identityEitherWrong : ChangeSpec := { name := "identityEither", fn := fun _ => fun
  | [d1, d2, d3, d4] => { results := [.lit (.bool false)], args := [d1, d2, d3, d4] }
  | _ => none }
def IdentityEitherWrongFalsely : Prop := identityEitherRow.holds Try.pinned (OpenSpec.ofChange identityEitherWrong)

/-- 'kinespherelaw45.IdentityWorks': WHATEVER THE INPUT: true; the input reads as it did. -/
def identityWorksSpec : ChangeSpec := { name := "identityWorks", fn := fun _ => fun
  | [d1, d2] => { results := [.lit (.bool true)], args := [d1, d2] }
  | _ => none }
def identityWorksRow : OpenClaim := { program := "ytdaedjmkolcliaa", sum := "b27f7f19425085077046985df1b850cfbf0bc479ccb273d4ca5bb0b670b6128e", func := "kinesphere/kinespherelaw45.IdentityWorks", spec := "identityWorks", unfollowed := true, recurses := true, plainKeys := false, apart := false }
def IdentityWorksSaid : Prop := identityWorksRow.holds Try.pinned (OpenSpec.ofChange identityWorksSpec)

/-- ITS FALSE NEIGHBOUR: 'it returns false'. Refute it at one input. -/
def identityWorksWrong : ChangeSpec := { name := "identityWorks", fn := fun _ => fun
  | [d1, d2] => { results := [.lit (.bool false)], args := [d1, d2] }
  | _ => none }
def IdentityWorksWrongFalsely : Prop := identityWorksRow.holds Try.pinned (OpenSpec.ofChange identityWorksWrong)

/-- 'kinespherelaw45.IdentityMore': WHATEVER THE INPUT: true; the input reads as it did. -/
def identityMoreSpec : ChangeSpec := { name := "identityMore", fn := fun _ => fun
  | [d1, d2, d3, d4] => { results := [.lit (.bool true)], args := [d1, d2, d3, d4] }
  | _ => none }
def identityMoreRow : OpenClaim := { program := "ytdaedjmkolcliaa", sum := "b27f7f19425085077046985df1b850cfbf0bc479ccb273d4ca5bb0b670b6128e", func := "kinesphere/kinespherelaw45.IdentityMore", spec := "identityMore", unfollowed := true, recurses := true, plainKeys := false, apart := false }
def IdentityMoreSaid : Prop := identityMoreRow.holds Try.pinned (OpenSpec.ofChange identityMoreSpec)

/-- ITS FALSE NEIGHBOUR: 'it returns false'. Refute it at one input. -/
def identityMoreWrong : ChangeSpec := { name := "identityMore", fn := fun _ => fun
  | [d1, d2, d3, d4] => { results := [.lit (.bool false)], args := [d1, d2, d3, d4] }
  | _ => none }
def IdentityMoreWrongFalsely : Prop := identityMoreRow.holds Try.pinned (OpenSpec.ofChange identityMoreWrong)

/-- 'kinespherelaw45.IdentityOptional': WHATEVER THE INPUT: true; the input reads as it did. -/
def identityOptionalSpec : ChangeSpec := { name := "identityOptional", fn := fun _ => fun
  | [d1, d2] => { results := [.lit (.bool true)], args := [d1, d2] }
  | _ => none }
def identityOptionalRow : OpenClaim := { program := "ytdaedjmkolcliaa", sum := "b27f7f19425085077046985df1b850cfbf0bc479ccb273d4ca5bb0b670b6128e", func := "kinesphere/kinespherelaw45.IdentityOptional", spec := "identityOptional", unfollowed := true, recurses := true, plainKeys := false, apart := false }
def IdentityOptionalSaid : Prop := identityOptionalRow.holds Try.pinned (OpenSpec.ofChange identityOptionalSpec)

/-- ITS FALSE NEIGHBOUR: 'it returns false'. Refute it at one input. -/
def identityOptionalWrong : ChangeSpec := { name := "identityOptional", fn := fun _ => fun
  | [d1, d2] => { results := [.lit (.bool false)], args := [d1, d2] }
  | _ => none }
def IdentityOptionalWrongFalsely : Prop := identityOptionalRow.holds Try.pinned (OpenSpec.ofChange identityOptionalWrong)

/-- 'kinespherelaw45.IdentityPatch': WHATEVER THE INPUT: true; the input reads as it did. -/
def identityPatchSpec : ChangeSpec := { name := "identityPatch", fn := fun _ => fun
  | [d1, d2, d3] => { results := [.lit (.bool true)], args := [d1, d2, d3] }
  | _ => none }
def identityPatchRow : OpenClaim := { program := "ytdaedjmkolcliaa", sum := "b27f7f19425085077046985df1b850cfbf0bc479ccb273d4ca5bb0b670b6128e", func := "kinesphere/kinespherelaw45.IdentityPatch", spec := "identityPatch", unfollowed := true, recurses := true, plainKeys := false, apart := false }
def IdentityPatchSaid : Prop := identityPatchRow.holds Try.pinned (OpenSpec.ofChange identityPatchSpec)

/-- ITS FALSE NEIGHBOUR: 'it returns false'. Refute it at one input. -/
def identityPatchWrong : ChangeSpec := { name := "identityPatch", fn := fun _ => fun
  | [d1, d2, d3] => { results := [.lit (.bool false)], args := [d1, d2, d3] }
  | _ => none }
def IdentityPatchWrongFalsely : Prop := identityPatchRow.holds Try.pinned (OpenSpec.ofChange identityPatchWrong)

/- THE SECOND FORM. 'bulk': how many values and letters a reading holds, each counted each time it is reached (what is shared counts as often as it is met; a slice's spare places count too). A statement '..UptoSaid' is the law's where the arguments, and the package variables that the reading takes, are together of bulk at most 1048576: NARROWER than '..Said'. Prove '..Said' where nothing that the law and all that it calls make is longer than what came in: it says more and counts as full. Else prove '..UptoSaid'. A law counts once. -/
mutual
def uptoBulk {H : Type} : DataW H → Nat
  | .lit (.string bytes) => bytes.length + 1
  | .lit _ => 1
  | .nil => 1
  | .ptr d => uptoBulk d + 1
  | .slice elems spare => uptoBulkAll elems + uptoBulkAll spare + 1
  | .agg parts => uptoBulkAll parts + 1
  | .iface _ d => uptoBulk d + 1
  | .map entries => uptoBulkEntries entries + 1
  | .held _ => 1
def uptoBulkAll {H : Type} : List (DataW H) → Nat
  | [] => 0
  | d :: r => uptoBulk d + uptoBulkAll r
def uptoBulkEntries {H : Type} : List (Lit × DataW H) → Nat
  | [] => 0
  | x :: r => uptoBulkEntry x + uptoBulkEntries r
def uptoBulkEntry {H : Type} : Lit × DataW H → Nat
  | (.string bytes, d) => bytes.length + uptoBulk d + 1
  | (_, d) => uptoBulk d + 1
 end
def uptoSmall : (H : Type) → List (DataW H) → Bool := fun _ ds => decide (uptoBulkAll ds ≤ 1048576)
def OpenSpec.upto (s : _root_.Go.ChangeSpec) : _root_.Go.OpenSpec := { _root_.Go.OpenSpec.ofChange s with cond := some uptoSmall }

/-- 'kinespherelaw45.IdentitySpec', WHERE WHAT IT READS IS OF BULK AT MOST 1048576: true; the input reads as it did. -/
def identitySpecUptoRow : OpenClaim := { program := "ytdaedjmkolcliaa", sum := "b27f7f19425085077046985df1b850cfbf0bc479ccb273d4ca5bb0b670b6128e", func := "kinesphere/kinespherelaw45.IdentitySpec", spec := "identitySpec", unfollowed := true, recurses := true, plainKeys := false, apart := false, narrowed := true }
def IdentitySpecUptoSaid : Prop := identitySpecUptoRow.holds Try.pinned (OpenSpec.upto identitySpecSpec)

/-- 'kinespherelaw45.IdentitySameSpec', WHERE WHAT IT READS IS OF BULK AT MOST 1048576: true; the input reads as it did. -/
def identitySameSpecUptoRow : OpenClaim := { program := "ytdaedjmkolcliaa", sum := "b27f7f19425085077046985df1b850cfbf0bc479ccb273d4ca5bb0b670b6128e", func := "kinesphere/kinespherelaw45.IdentitySameSpec", spec := "identitySameSpec", unfollowed := true, recurses := true, plainKeys := false, apart := false, narrowed := true }
def IdentitySameSpecUptoSaid : Prop := identitySameSpecUptoRow.holds Try.pinned (OpenSpec.upto identitySameSpecSpec)

/-- 'kinespherelaw45.IdentityEither', WHERE WHAT IT READS IS OF BULK AT MOST 1048576: true; the input reads as it did. -/
def identityEitherUptoRow : OpenClaim := { program := "ytdaedjmkolcliaa", sum := "b27f7f19425085077046985df1b850cfbf0bc479ccb273d4ca5bb0b670b6128e", func := "kinesphere/kinespherelaw45.IdentityEither", spec := "identityEither", unfollowed := true, recurses := true, plainKeys := false, apart := false, narrowed := true }
def IdentityEitherUptoSaid : Prop := identityEitherUptoRow.holds Try.pinned (OpenSpec.upto identityEitherSpec)

/-- 'kinespherelaw45.IdentityWorks', WHERE WHAT IT READS IS OF BULK AT MOST 1048576: true; the input reads as it did. -/
def identityWorksUptoRow : OpenClaim := { program := "ytdaedjmkolcliaa", sum := "b27f7f19425085077046985df1b850cfbf0bc479ccb273d4ca5bb0b670b6128e", func := "kinesphere/kinespherelaw45.IdentityWorks", spec := "identityWorks", unfollowed := true, recurses := true, plainKeys := false, apart := false, narrowed := true }
def IdentityWorksUptoSaid : Prop := identityWorksUptoRow.holds Try.pinned (OpenSpec.upto identityWorksSpec)

/-- 'kinespherelaw45.IdentityMore', WHERE WHAT IT READS IS OF BULK AT MOST 1048576: true; the input reads as it did. -/
def identityMoreUptoRow : OpenClaim := { program := "ytdaedjmkolcliaa", sum := "b27f7f19425085077046985df1b850cfbf0bc479ccb273d4ca5bb0b670b6128e", func := "kinesphere/kinespherelaw45.IdentityMore", spec := "identityMore", unfollowed := true, recurses := true, plainKeys := false, apart := false, narrowed := true }
def IdentityMoreUptoSaid : Prop := identityMoreUptoRow.holds Try.pinned (OpenSpec.upto identityMoreSpec)

/-- 'kinespherelaw45.IdentityOptional', WHERE WHAT IT READS IS OF BULK AT MOST 1048576: true; the input reads as it did. -/
def identityOptionalUptoRow : OpenClaim := { program := "ytdaedjmkolcliaa", sum := "b27f7f19425085077046985df1b850cfbf0bc479ccb273d4ca5bb0b670b6128e", func := "kinesphere/kinespherelaw45.IdentityOptional", spec := "identityOptional", unfollowed := true, recurses := true, plainKeys := false, apart := false, narrowed := true }
def IdentityOptionalUptoSaid : Prop := identityOptionalUptoRow.holds Try.pinned (OpenSpec.upto identityOptionalSpec)

/-- 'kinespherelaw45.IdentityPatch', WHERE WHAT IT READS IS OF BULK AT MOST 1048576: true; the input reads as it did. -/
def identityPatchUptoRow : OpenClaim := { program := "ytdaedjmkolcliaa", sum := "b27f7f19425085077046985df1b850cfbf0bc479ccb273d4ca5bb0b670b6128e", func := "kinesphere/kinespherelaw45.IdentityPatch", spec := "identityPatch", unfollowed := true, recurses := true, plainKeys := false, apart := false, narrowed := true }
def IdentityPatchUptoSaid : Prop := identityPatchUptoRow.holds Try.pinned (OpenSpec.upto identityPatchSpec)

end Rows
end Go.Proofs.Ytdaedjmkolcliaa
