/- The key types of package types: group, contact. -/
import Derived.Test.YtggfeblfhabmkaaGreatDoorKitn
import Derived.Test.YtggfeblfhabmkaaGreatDoorProg
namespace Go.Proofs.YtggfeblfhabmkaaGreatDoor
set_option linter.unusedVariables false
set_option linter.unusedSimpArgs false
open Go.RowKit Go.WideMaps

theorem Ty.lits_int {P : Program} {e : TypeId} (hu : P.underlying e = some (.int .i64)) (d : Nat) (a : Int) (wa : Kit.wfI a) : P.keyLits (d + 1) e [.int .i64 a] = some [.int .i64 a] := by
  have wa' : (Lit.int .i64 a).wf = true := wa
  simp [Program.keyLits, hu, wa']
theorem Ty.lits_struct {P : Program} {t : TypeId} {fs : Array Field} (hu : P.underlying t = some (.struct fs)) (d : Nat) (cs : List Value) (hc : cs.length = P.cellsOf t) (hn : fs.all (·.name != "_") = true) (ls : List (List Lit))
    (hm : fs.toList.mapM (fun f => P.keyLits d f.type ((cs.drop f.offset).take (P.cellsOf f.type))) = some ls) : P.keyLits (d + 1) t cs = some ls.flatten := by
  unfold Program.keyLits
  rw [hu]
  simp only []
  rw [if_pos ⟨hc, hn⟩, hm]
  rfl
theorem Ty.key_of {P : Program} {k : TypeId} {fs : Array Field} (hu : P.underlying k = some (.struct fs)) (hk : P.keyType k = true) (hsz : ∃ m, P.types.size = m + 3) (xs : List Int) (hc : xs.length = P.cellsOf k)
    (hl : ∀ m, P.keyLits (m + 4) k (xs.map (Value.int .i64)) = some (xs.map (Lit.int .i64))) : keyOf P k (.agg (xs.map (Value.int .i64)).toArray) = some (Kit.ikey xs) := by
  obtain ⟨m, hm⟩ := hsz
  unfold keyOf
  rw [hu]
  simp only []
  have hf : Value.formed P k (.agg (xs.map (Value.int .i64)).toArray) = true := by
    simp [Value.formed, hu, hc]
  rw [if_pos (by rw [hk, hf]; rfl), hm]
  have e := hl m
  simp only [Value.cells]
  rw [show P.keyLits (m + 3 + 1) k ((xs.map (Value.int .i64)).toArray).toList = some (xs.map (Lit.int .i64)) from e]
  rfl
theorem Ty.cI : Tryz.prog.cellsOf 3 = 1 := by kernel_rfl
set_option maxRecDepth 100000 in
theorem Ty.keyG : Kit.KeyI Tryz.prog 83 2 := by
  refine ⟨deep_law (m := 3) (by decide) (by kernel_rfl) (by kernel_rfl) (by kernel_rfl), fun xs hl hw => ?_⟩
  match xs, hl with
  | [a, b], _ =>
    have wa := hw a (by simp)
    have wb := hw b (by simp)
    refine Ty.key_of Tryz.underlying83 (by kernel_rfl) ⟨Tryz.prog.types.size - 3, by kernel_rfl⟩ _ (by kernel_rfl) fun m => ?_
    refine (Ty.lits_struct Tryz.underlying83 (m + 3) _ (by kernel_rfl) (by kernel_rfl) [[.int .i64 a], [.int .i64 b]] ?_).trans rfl
    have l : ∀ a, Kit.wfI a → Tryz.prog.keyLits (m + 3) 3 [.int .i64 a] = some [.int .i64 a] := fun a w => Ty.lits_int Tryz.underlying3 (m + 2) a w
    simp [List.mapM_cons, Ty.cI, l a wa, l b wb]
set_option maxRecDepth 100000 in
theorem Ty.keyC : Kit.KeyI Tryz.prog 61 7 := by
  have cR : Tryz.prog.cellsOf 42 = 2 := by kernel_rfl
  refine ⟨deep_law (m := 4) (by decide) (by kernel_rfl) (by kernel_rfl) (by kernel_rfl), fun xs hl hw => ?_⟩
  match xs, hl with
  | [a, b, c, d, e, f, g], _ =>
    have wa := hw a (by simp)
    have wb := hw b (by simp)
    have wc := hw c (by simp)
    have wd := hw d (by simp)
    have we := hw e (by simp)
    have wf := hw f (by simp)
    have wg := hw g (by simp)
    have lR : ∀ m x y, Kit.wfI x → Kit.wfI y → Tryz.prog.keyLits (m + 3) 42 [.int .i64 x, .int .i64 y] = some [.int .i64 x, .int .i64 y] := fun m x y wx wy => by
      refine (Ty.lits_struct Tryz.underlying42 (m + 2) _ (by kernel_rfl) (by kernel_rfl) [[.int .i64 x], [.int .i64 y]] ?_).trans rfl
      have l : ∀ a, Kit.wfI a → Tryz.prog.keyLits (m + 2) 3 [.int .i64 a] = some [.int .i64 a] := fun a w => Ty.lits_int Tryz.underlying3 (m + 1) a w
      simp [List.mapM_cons, Ty.cI, l x wx, l y wy]
    refine Ty.key_of Tryz.underlying61 (by kernel_rfl) ⟨Tryz.prog.types.size - 3, by kernel_rfl⟩ _ (by kernel_rfl) fun m => ?_
    refine (Ty.lits_struct Tryz.underlying61 (m + 3) _ (by kernel_rfl) (by kernel_rfl) [[.int .i64 a], [.int .i64 b], [.int .i64 c], [.int .i64 d, .int .i64 e], [.int .i64 f, .int .i64 g]] ?_).trans rfl
    have l : ∀ a, Kit.wfI a → Tryz.prog.keyLits (m + 3) 3 [.int .i64 a] = some [.int .i64 a] := fun a w => Ty.lits_int Tryz.underlying3 (m + 2) a w
    simp [List.mapM_cons, Ty.cI, cR, l a wa, l b wb, l c wc, lR m d e wd we, lR m f g wf wg]
end Go.Proofs.YtggfeblfhabmkaaGreatDoor
