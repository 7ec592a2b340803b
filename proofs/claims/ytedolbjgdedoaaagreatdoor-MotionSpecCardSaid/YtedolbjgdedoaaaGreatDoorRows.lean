/-
  NARROWER THAN 'FOR EVERY INPUT', by the rows' own cells (each row's printed sentence says how): MotionSpec: laid · MotionSweepSpec: laid · MotionAlone: laid · MotionSlim: laid · MotionMirror: laid · MotionDropped: laid · MotionInside: laid.
  DERIVED. THE GIVEN ROWS OF THIS SEAT. 7 by the template 'for every input the law returns true; each argument reads behind the call as it read before'; 0 by the template 'total and deterministic' (their statements: YtedolbjgdedoaaaGreatDoorTotals.lean).
  GIVEN WITH THE SEED: the statements are not yours to turn. If you find one false, say at which input.
  Laid BY PROGRAM, IN A SANDBOX (cutbox-rows.mjs): the forced cells as the released guide's own fill.sh prints them over the translation 383ae9f1e6a8a95f… (all of the seat's roots in one cut). By AI agents, Wed Nov 11 2026. No macro, syntax, notation, axiom, sorry.
-/
import Derived.Test.YtedolbjgdedoaaaGreatDoorChecked
import GoSem.Claim
import GoSem.ClaimJoined
import GoSem.ClaimMapViews
import Derived.JoinedTies
import Derived.KernelRfl
namespace Go.Proofs.YtedolbjgdedoaaaGreatDoor
/- THE CELL 'sum', in the pinned program and in every row, IS THE sha256 OF THE DUMP (.gsa) THAT YtedolbjgdedoaaaGreatDoorProg.lean LOADS. Nothing in Lean hashes anything: it is a label: what it is worth is what the hold of that sum in a sandbox is worth. -/
noncomputable def Tryz.pinned : Pinned := { name := "ytedolbjgdedoaaagreatdoor", sum := "383ae9f1e6a8a95f982dc52fe939e1347286bed2142fdf6491410c87d005615d", checked := Tryz.checked }
namespace Rows
def none {H : Type} : Left H := { results := [], args := [] }

/- WHAT THE LISTED PACKAGE-LEVEL VARIABLES READ AS WHEN THE CALL BEGINS. Each datum BY PROGRAM (the guide's laid-datum.mjs) off the statement by which the dump's own 'gosem.cut.vars' lays the variable. In a bare row this is a premise. The card (YtedolbjgdedoaaaGreatDoorCards.lean) ties it to the program's text. -/
def laid_kinesphere_space_flat {H : Type} : DataW H := .agg [.agg [.lit (.int .i64 0), .lit (.int .i64 29)], .agg [.lit (.int .i64 20), .lit (.int .i64 21)], .agg [.lit (.int .i64 29), .lit (.int .i64 0)], .agg [.lit (.int .i64 20), .lit (.int .i64 (-21))], .agg [.lit (.int .i64 0), .lit (.int .i64 (-29))], .agg [.lit (.int .i64 (-20)), .lit (.int .i64 (-21))], .agg [.lit (.int .i64 (-29)), .lit (.int .i64 0)], .agg [.lit (.int .i64 (-20)), .lit (.int .i64 21)]]
def laid_kinesphere_expand_kinds {H : Type} : DataW H := .agg [.agg [.lit (.bool false), .lit (.bool false), .lit (.bool false), .lit (.int .i64 0), .lit (.int .i64 0), .lit (.int .i64 0)], .agg [.lit (.bool true), .lit (.bool true), .lit (.bool false), .lit (.int .i64 1), .lit (.int .i64 0), .lit (.int .i64 16)], .agg [.lit (.bool false), .lit (.bool true), .lit (.bool false), .lit (.int .i64 1), .lit (.int .i64 0), .lit (.int .i64 16)], .agg [.lit (.bool true), .lit (.bool true), .lit (.bool false), .lit (.int .i64 0), .lit (.int .i64 3), .lit (.int .i64 0)], .agg [.lit (.bool true), .lit (.bool true), .lit (.bool false), .lit (.int .i64 0), .lit (.int .i64 3), .lit (.int .i64 0)], .agg [.lit (.bool false), .lit (.bool true), .lit (.bool false), .lit (.int .i64 0), .lit (.int .i64 3), .lit (.int .i64 0)], .agg [.lit (.bool false), .lit (.bool false), .lit (.bool false), .lit (.int .i64 0), .lit (.int .i64 0), .lit (.int .i64 7)], .agg [.lit (.bool false), .lit (.bool false), .lit (.bool true), .lit (.int .i64 0), .lit (.int .i64 0), .lit (.int .i64 0)], .agg [.lit (.bool false), .lit (.bool false), .lit (.bool true), .lit (.int .i64 0), .lit (.int .i64 0), .lit (.int .i64 0)], .agg [.lit (.bool true), .lit (.bool false), .lit (.bool false), .lit (.int .i64 0), .lit (.int .i64 3), .lit (.int .i64 0)]]
def laid_kinesphere_motion_kinds {H : Type} : DataW H := .agg [.agg [.nil, .nil], .agg [.slice [.lit (.int .i64 0)] [], .nil], .agg [.nil, .slice [.lit (.int .i64 0), .lit (.int .i64 1)] []], .agg [.slice [.lit (.int .i64 0)] [], .nil], .agg [.slice [.lit (.int .i64 2)] [], .nil], .agg [.nil, .slice [.lit (.int .i64 4)] []], .agg [.nil, .nil], .agg [.nil, .slice [.lit (.int .i64 2), .lit (.int .i64 3)] []], .agg [.nil, .slice [.lit (.int .i64 0), .lit (.int .i64 1)] []], .agg [.slice [.lit (.int .i64 2)] [], .nil]]

/-- 'kinespherelaw27.MotionSpec': WHATEVER THE INPUT: true; the input reads as it did. -/
def motionSpecSpec : ChangeSpec := { name := "motionSpec", fn := fun _ => fun
  | [d1, d2, d3, d4, d5] => { results := [.lit (.bool true)], args := [d1, d2, d3, d4, d5] }
  | _ => none }
def motionSpecRow : OpenClaim := { program := "ytedolbjgdedoaaagreatdoor", sum := "383ae9f1e6a8a95f982dc52fe939e1347286bed2142fdf6491410c87d005615d", func := "kinesphere/kinespherelaw27.MotionSpec", spec := "motionSpec", inPlace := ["internal/bytealg.IndexByteString"], unfollowed := true, recurses := true, named := ["kinesphere/expand.kinds", "kinesphere/space.flat", "kinesphere/motion.kinds"], apart := false, laid := [("kinesphere/space.flat", laid_kinesphere_space_flat), ("kinesphere/expand.kinds", laid_kinesphere_expand_kinds), ("kinesphere/motion.kinds", laid_kinesphere_motion_kinds)] }
def MotionSpecSaid : Prop := motionSpecRow.holds Tryz.pinned (OpenSpec.ofChange motionSpecSpec)

/-- ITS FALSE NEIGHBOUR: 'it returns false'. Refute it at one input. -/
def motionSpecWrong : ChangeSpec := { name := "motionSpec", fn := fun _ => fun
  | [d1, d2, d3, d4, d5] => { results := [.lit (.bool false)], args := [d1, d2, d3, d4, d5] }
  | _ => none }
def MotionSpecWrongFalsely : Prop := motionSpecRow.holds Tryz.pinned (OpenSpec.ofChange motionSpecWrong)

/-- 'kinespherelaw27.MotionSweepSpec': WHATEVER THE INPUT: true; the input reads as it did. -/
def motionSweepSpecSpec : ChangeSpec := { name := "motionSweepSpec", fn := fun _ => fun
  | [d1, d2, d3, d4, d5, d6] => { results := [.lit (.bool true)], args := [d1, d2, d3, d4, d5, d6] }
  | _ => none }
def motionSweepSpecRow : OpenClaim := { program := "ytedolbjgdedoaaagreatdoor", sum := "383ae9f1e6a8a95f982dc52fe939e1347286bed2142fdf6491410c87d005615d", func := "kinesphere/kinespherelaw27.MotionSweepSpec", spec := "motionSweepSpec", inPlace := ["internal/bytealg.IndexByteString"], unfollowed := true, recurses := true, named := ["kinesphere/expand.kinds", "kinesphere/space.flat", "kinesphere/motion.kinds"], apart := false, laid := [("kinesphere/space.flat", laid_kinesphere_space_flat), ("kinesphere/expand.kinds", laid_kinesphere_expand_kinds), ("kinesphere/motion.kinds", laid_kinesphere_motion_kinds)] }
def MotionSweepSpecSaid : Prop := motionSweepSpecRow.holds Tryz.pinned (OpenSpec.ofChange motionSweepSpecSpec)

/-- ITS FALSE NEIGHBOUR: 'it returns false'. Refute it at one input. -/
def motionSweepSpecWrong : ChangeSpec := { name := "motionSweepSpec", fn := fun _ => fun
  | [d1, d2, d3, d4, d5, d6] => { results := [.lit (.bool false)], args := [d1, d2, d3, d4, d5, d6] }
  | _ => none }
def MotionSweepSpecWrongFalsely : Prop := motionSweepSpecRow.holds Tryz.pinned (OpenSpec.ofChange motionSweepSpecWrong)

/-- 'kinespherelaw27.MotionAlone': WHATEVER THE INPUT: true; the input reads as it did. -/
def motionAloneSpec : ChangeSpec := { name := "motionAlone", fn := fun _ => fun
  | [d1, d2, d3, d4, d5, d6] => { results := [.lit (.bool true)], args := [d1, d2, d3, d4, d5, d6] }
  | _ => none }
def motionAloneRow : OpenClaim := { program := "ytedolbjgdedoaaagreatdoor", sum := "383ae9f1e6a8a95f982dc52fe939e1347286bed2142fdf6491410c87d005615d", func := "kinesphere/kinespherelaw27.MotionAlone", spec := "motionAlone", inPlace := ["internal/bytealg.IndexByteString"], unfollowed := true, recurses := true, named := ["kinesphere/expand.kinds", "kinesphere/space.flat", "kinesphere/motion.kinds"], apart := false, laid := [("kinesphere/space.flat", laid_kinesphere_space_flat), ("kinesphere/expand.kinds", laid_kinesphere_expand_kinds), ("kinesphere/motion.kinds", laid_kinesphere_motion_kinds)] }
def MotionAloneSaid : Prop := motionAloneRow.holds Tryz.pinned (OpenSpec.ofChange motionAloneSpec)

/-- ITS FALSE NEIGHBOUR: 'it returns false'. Refute it at one input. -/
def motionAloneWrong : ChangeSpec := { name := "motionAlone", fn := fun _ => fun
  | [d1, d2, d3, d4, d5, d6] => { results := [.lit (.bool false)], args := [d1, d2, d3, d4, d5, d6] }
  | _ => none }
def MotionAloneWrongFalsely : Prop := motionAloneRow.holds Tryz.pinned (OpenSpec.ofChange motionAloneWrong)

/-- 'kinespherelaw27.MotionSlim': WHATEVER THE INPUT: true; the input reads as it did. -/
def motionSlimSpec : ChangeSpec := { name := "motionSlim", fn := fun _ => fun
  | [d1, d2, d3, d4, d5, d6, d7] => { results := [.lit (.bool true)], args := [d1, d2, d3, d4, d5, d6, d7] }
  | _ => none }
def motionSlimRow : OpenClaim := { program := "ytedolbjgdedoaaagreatdoor", sum := "383ae9f1e6a8a95f982dc52fe939e1347286bed2142fdf6491410c87d005615d", func := "kinesphere/kinespherelaw27.MotionSlim", spec := "motionSlim", inPlace := ["internal/bytealg.IndexByteString"], unfollowed := true, recurses := true, named := ["kinesphere/expand.kinds", "kinesphere/space.flat", "kinesphere/motion.kinds"], apart := false, laid := [("kinesphere/space.flat", laid_kinesphere_space_flat), ("kinesphere/expand.kinds", laid_kinesphere_expand_kinds), ("kinesphere/motion.kinds", laid_kinesphere_motion_kinds)] }
def MotionSlimSaid : Prop := motionSlimRow.holds Tryz.pinned (OpenSpec.ofChange motionSlimSpec)

/-- ITS FALSE NEIGHBOUR: 'it returns false'. Refute it at one input. -/
def motionSlimWrong : ChangeSpec := { name := "motionSlim", fn := fun _ => fun
  | [d1, d2, d3, d4, d5, d6, d7] => { results := [.lit (.bool false)], args := [d1, d2, d3, d4, d5, d6, d7] }
  | _ => none }
def MotionSlimWrongFalsely : Prop := motionSlimRow.holds Tryz.pinned (OpenSpec.ofChange motionSlimWrong)

/-- 'kinespherelaw27.MotionMirror': WHATEVER THE INPUT: true; the input reads as it did. -/
def motionMirrorSpec : ChangeSpec := { name := "motionMirror", fn := fun _ => fun
  | [d1, d2, d3, d4, d5] => { results := [.lit (.bool true)], args := [d1, d2, d3, d4, d5] }
  | _ => none }
def motionMirrorRow : OpenClaim := { program := "ytedolbjgdedoaaagreatdoor", sum := "383ae9f1e6a8a95f982dc52fe939e1347286bed2142fdf6491410c87d005615d", func := "kinesphere/kinespherelaw27.MotionMirror", spec := "motionMirror", inPlace := ["internal/bytealg.IndexByteString"], unfollowed := true, recurses := true, named := ["kinesphere/expand.kinds", "kinesphere/space.flat", "kinesphere/motion.kinds"], apart := false, laid := [("kinesphere/space.flat", laid_kinesphere_space_flat), ("kinesphere/expand.kinds", laid_kinesphere_expand_kinds), ("kinesphere/motion.kinds", laid_kinesphere_motion_kinds)] }
def MotionMirrorSaid : Prop := motionMirrorRow.holds Tryz.pinned (OpenSpec.ofChange motionMirrorSpec)

/-- ITS FALSE NEIGHBOUR: 'it returns false'. Refute it at one input. -/
def motionMirrorWrong : ChangeSpec := { name := "motionMirror", fn := fun _ => fun
  | [d1, d2, d3, d4, d5] => { results := [.lit (.bool false)], args := [d1, d2, d3, d4, d5] }
  | _ => none }
def MotionMirrorWrongFalsely : Prop := motionMirrorRow.holds Tryz.pinned (OpenSpec.ofChange motionMirrorWrong)

/-- 'kinespherelaw27.MotionDropped': WHATEVER THE INPUT: true; the input reads as it did. -/
def motionDroppedSpec : ChangeSpec := { name := "motionDropped", fn := fun _ => fun
  | [d1, d2, d3, d4, d5] => { results := [.lit (.bool true)], args := [d1, d2, d3, d4, d5] }
  | _ => none }
def motionDroppedRow : OpenClaim := { program := "ytedolbjgdedoaaagreatdoor", sum := "383ae9f1e6a8a95f982dc52fe939e1347286bed2142fdf6491410c87d005615d", func := "kinesphere/kinespherelaw27.MotionDropped", spec := "motionDropped", inPlace := ["internal/bytealg.IndexByteString"], unfollowed := true, recurses := true, named := ["kinesphere/expand.kinds", "kinesphere/space.flat", "kinesphere/motion.kinds"], apart := false, laid := [("kinesphere/space.flat", laid_kinesphere_space_flat), ("kinesphere/expand.kinds", laid_kinesphere_expand_kinds), ("kinesphere/motion.kinds", laid_kinesphere_motion_kinds)] }
def MotionDroppedSaid : Prop := motionDroppedRow.holds Tryz.pinned (OpenSpec.ofChange motionDroppedSpec)

/-- ITS FALSE NEIGHBOUR: 'it returns false'. Refute it at one input. -/
def motionDroppedWrong : ChangeSpec := { name := "motionDropped", fn := fun _ => fun
  | [d1, d2, d3, d4, d5] => { results := [.lit (.bool false)], args := [d1, d2, d3, d4, d5] }
  | _ => none }
def MotionDroppedWrongFalsely : Prop := motionDroppedRow.holds Tryz.pinned (OpenSpec.ofChange motionDroppedWrong)

/-- 'kinespherelaw27.MotionInside': WHATEVER THE INPUT: true; the input reads as it did. -/
def motionInsideSpec : ChangeSpec := { name := "motionInside", fn := fun _ => fun
  | [d1, d2, d3, d4, d5, d6, d7, d8] => { results := [.lit (.bool true)], args := [d1, d2, d3, d4, d5, d6, d7, d8] }
  | _ => none }
def motionInsideRow : OpenClaim := { program := "ytedolbjgdedoaaagreatdoor", sum := "383ae9f1e6a8a95f982dc52fe939e1347286bed2142fdf6491410c87d005615d", func := "kinesphere/kinespherelaw27.MotionInside", spec := "motionInside", inPlace := ["internal/bytealg.IndexByteString"], unfollowed := true, recurses := true, named := ["kinesphere/expand.kinds", "kinesphere/space.flat", "kinesphere/motion.kinds"], apart := false, laid := [("kinesphere/space.flat", laid_kinesphere_space_flat), ("kinesphere/expand.kinds", laid_kinesphere_expand_kinds), ("kinesphere/motion.kinds", laid_kinesphere_motion_kinds)] }
def MotionInsideSaid : Prop := motionInsideRow.holds Tryz.pinned (OpenSpec.ofChange motionInsideSpec)

/-- ITS FALSE NEIGHBOUR: 'it returns false'. Refute it at one input. -/
def motionInsideWrong : ChangeSpec := { name := "motionInside", fn := fun _ => fun
  | [d1, d2, d3, d4, d5, d6, d7, d8] => { results := [.lit (.bool false)], args := [d1, d2, d3, d4, d5, d6, d7, d8] }
  | _ => none }
def MotionInsideWrongFalsely : Prop := motionInsideRow.holds Tryz.pinned (OpenSpec.ofChange motionInsideWrong)

/- THE SECOND FORM. 'bulk': how many values and letters a reading holds, each counted each time it is reached (what is shared counts as often as it is met; a slice's spare places count too). A statement '..UptoSaid' is the law's where the arguments, and the package variables that the reading takes, are together of bulk at most 1048576: NARROWER than '..Said'. Prove '..Said' where nothing that the law and all that it calls make is longer than what came in: it says more and counts as full. Else prove '..UptoSaid'. A law counts once. -/
mutual
def uptoBulk {H : Type} : DataW H → Nat
  | .lit (.string bytes) => bytes.length + 1
  | .lit _ => 1
  | .nil => 1
  | .ptr d => uptoBulk d + 1
  | .slice elems spare => uptoBulkAll elems + uptoBulkAll spare + 1
  | .agg parts => uptoBulkAll parts + 1
  | .iface _ d => uptoBulk d + 1
  | .map entries => uptoBulkEntries entries + 1
  | .held _ => 1
def uptoBulkAll {H : Type} : List (DataW H) → Nat
  | [] => 0
  | d :: r => uptoBulk d + uptoBulkAll r
def uptoBulkEntries {H : Type} : List (Lit × DataW H) → Nat
  | [] => 0
  | x :: r => uptoBulkEntry x + uptoBulkEntries r
def uptoBulkEntry {H : Type} : Lit × DataW H → Nat
  | (.string bytes, d) => bytes.length + uptoBulk d + 1
  | (_, d) => uptoBulk d + 1
 end
def uptoSmall : (H : Type) → List (DataW H) → Bool := fun _ ds => decide (uptoBulkAll ds ≤ 1048576)
def OpenSpec.upto (s : _root_.Go.ChangeSpec) : _root_.Go.OpenSpec := { _root_.Go.OpenSpec.ofChange s with cond := some uptoSmall }

/-- 'kinespherelaw27.MotionSpec', WHERE WHAT IT READS IS OF BULK AT MOST 1048576: true; the input reads as it did. -/
def motionSpecUptoRow : OpenClaim := { program := "ytedolbjgdedoaaagreatdoor", sum := "383ae9f1e6a8a95f982dc52fe939e1347286bed2142fdf6491410c87d005615d", func := "kinesphere/kinespherelaw27.MotionSpec", spec := "motionSpec", inPlace := ["internal/bytealg.IndexByteString"], unfollowed := true, recurses := true, named := ["kinesphere/expand.kinds", "kinesphere/space.flat", "kinesphere/motion.kinds"], apart := false, laid := [("kinesphere/space.flat", laid_kinesphere_space_flat), ("kinesphere/expand.kinds", laid_kinesphere_expand_kinds), ("kinesphere/motion.kinds", laid_kinesphere_motion_kinds)], narrowed := true }
def MotionSpecUptoSaid : Prop := motionSpecUptoRow.holds Tryz.pinned (OpenSpec.upto motionSpecSpec)

/-- 'kinespherelaw27.MotionSweepSpec', WHERE WHAT IT READS IS OF BULK AT MOST 1048576: true; the input reads as it did. -/
def motionSweepSpecUptoRow : OpenClaim := { program := "ytedolbjgdedoaaagreatdoor", sum := "383ae9f1e6a8a95f982dc52fe939e1347286bed2142fdf6491410c87d005615d", func := "kinesphere/kinespherelaw27.MotionSweepSpec", spec := "motionSweepSpec", inPlace := ["internal/bytealg.IndexByteString"], unfollowed := true, recurses := true, named := ["kinesphere/expand.kinds", "kinesphere/space.flat", "kinesphere/motion.kinds"], apart := false, laid := [("kinesphere/space.flat", laid_kinesphere_space_flat), ("kinesphere/expand.kinds", laid_kinesphere_expand_kinds), ("kinesphere/motion.kinds", laid_kinesphere_motion_kinds)], narrowed := true }
def MotionSweepSpecUptoSaid : Prop := motionSweepSpecUptoRow.holds Tryz.pinned (OpenSpec.upto motionSweepSpecSpec)

/-- 'kinespherelaw27.MotionAlone', WHERE WHAT IT READS IS OF BULK AT MOST 1048576: true; the input reads as it did. -/
def motionAloneUptoRow : OpenClaim := { program := "ytedolbjgdedoaaagreatdoor", sum := "383ae9f1e6a8a95f982dc52fe939e1347286bed2142fdf6491410c87d005615d", func := "kinesphere/kinespherelaw27.MotionAlone", spec := "motionAlone", inPlace := ["internal/bytealg.IndexByteString"], unfollowed := true, recurses := true, named := ["kinesphere/expand.kinds", "kinesphere/space.flat", "kinesphere/motion.kinds"], apart := false, laid := [("kinesphere/space.flat", laid_kinesphere_space_flat), ("kinesphere/expand.kinds", laid_kinesphere_expand_kinds), ("kinesphere/motion.kinds", laid_kinesphere_motion_kinds)], narrowed := true }
def MotionAloneUptoSaid : Prop := motionAloneUptoRow.holds Tryz.pinned (OpenSpec.upto motionAloneSpec)

/-- 'kinespherelaw27.MotionSlim', WHERE WHAT IT READS IS OF BULK AT MOST 1048576: true; the input reads as it did. -/
def motionSlimUptoRow : OpenClaim := { program := "ytedolbjgdedoaaagreatdoor", sum := "383ae9f1e6a8a95f982dc52fe939e1347286bed2142fdf6491410c87d005615d", func := "kinesphere/kinespherelaw27.MotionSlim", spec := "motionSlim", inPlace := ["internal/bytealg.IndexByteString"], unfollowed := true, recurses := true, named := ["kinesphere/expand.kinds", "kinesphere/space.flat", "kinesphere/motion.kinds"], apart := false, laid := [("kinesphere/space.flat", laid_kinesphere_space_flat), ("kinesphere/expand.kinds", laid_kinesphere_expand_kinds), ("kinesphere/motion.kinds", laid_kinesphere_motion_kinds)], narrowed := true }
def MotionSlimUptoSaid : Prop := motionSlimUptoRow.holds Tryz.pinned (OpenSpec.upto motionSlimSpec)

/-- 'kinespherelaw27.MotionMirror', WHERE WHAT IT READS IS OF BULK AT MOST 1048576: true; the input reads as it did. -/
def motionMirrorUptoRow : OpenClaim := { program := "ytedolbjgdedoaaagreatdoor", sum := "383ae9f1e6a8a95f982dc52fe939e1347286bed2142fdf6491410c87d005615d", func := "kinesphere/kinespherelaw27.MotionMirror", spec := "motionMirror", inPlace := ["internal/bytealg.IndexByteString"], unfollowed := true, recurses := true, named := ["kinesphere/expand.kinds", "kinesphere/space.flat", "kinesphere/motion.kinds"], apart := false, laid := [("kinesphere/space.flat", laid_kinesphere_space_flat), ("kinesphere/expand.kinds", laid_kinesphere_expand_kinds), ("kinesphere/motion.kinds", laid_kinesphere_motion_kinds)], narrowed := true }
def MotionMirrorUptoSaid : Prop := motionMirrorUptoRow.holds Tryz.pinned (OpenSpec.upto motionMirrorSpec)

/-- 'kinespherelaw27.MotionDropped', WHERE WHAT IT READS IS OF BULK AT MOST 1048576: true; the input reads as it did. -/
def motionDroppedUptoRow : OpenClaim := { program := "ytedolbjgdedoaaagreatdoor", sum := "383ae9f1e6a8a95f982dc52fe939e1347286bed2142fdf6491410c87d005615d", func := "kinesphere/kinespherelaw27.MotionDropped", spec := "motionDropped", inPlace := ["internal/bytealg.IndexByteString"], unfollowed := true, recurses := true, named := ["kinesphere/expand.kinds", "kinesphere/space.flat", "kinesphere/motion.kinds"], apart := false, laid := [("kinesphere/space.flat", laid_kinesphere_space_flat), ("kinesphere/expand.kinds", laid_kinesphere_expand_kinds), ("kinesphere/motion.kinds", laid_kinesphere_motion_kinds)], narrowed := true }
def MotionDroppedUptoSaid : Prop := motionDroppedUptoRow.holds Tryz.pinned (OpenSpec.upto motionDroppedSpec)

/-- 'kinespherelaw27.MotionInside', WHERE WHAT IT READS IS OF BULK AT MOST 1048576: true; the input reads as it did. -/
def motionInsideUptoRow : OpenClaim := { program := "ytedolbjgdedoaaagreatdoor", sum := "383ae9f1e6a8a95f982dc52fe939e1347286bed2142fdf6491410c87d005615d", func := "kinesphere/kinespherelaw27.MotionInside", spec := "motionInside", inPlace := ["internal/bytealg.IndexByteString"], unfollowed := true, recurses := true, named := ["kinesphere/expand.kinds", "kinesphere/space.flat", "kinesphere/motion.kinds"], apart := false, laid := [("kinesphere/space.flat", laid_kinesphere_space_flat), ("kinesphere/expand.kinds", laid_kinesphere_expand_kinds), ("kinesphere/motion.kinds", laid_kinesphere_motion_kinds)], narrowed := true }
def MotionInsideUptoSaid : Prop := motionInsideUptoRow.holds Tryz.pinned (OpenSpec.upto motionInsideSpec)

end Rows
end Go.Proofs.YtedolbjgdedoaaaGreatDoor
