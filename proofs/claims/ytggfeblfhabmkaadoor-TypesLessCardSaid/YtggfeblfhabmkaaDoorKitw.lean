/- Laws: a set that the call makes (map[K]bool, K a struct of ints), told as the list of its keys: look-up, store, delete, len. -/
import Derived.Test.YtggfeblfhabmkaaDoorKitn
import Derived.Maps.OwnSet
namespace Go.Proofs.YtggfeblfhabmkaaDoor.Kit
set_option linter.unusedVariables false
set_option linter.unusedSimpArgs false
open Go.RowKit Go.WideMaps Go.ChangeMaps
open Go.Maps (Keyed)

/-- Block B is a map that holds just the keys of S, each with true. -/
def FSet (P : Program) (k : TypeId) (N : Nat) (w : World) (B n : Nat) (S : List (List Int)) : Prop :=
  ∃ D : DataW Unit, w.ownsMap P k rdv B n D ∧ S.Nodup ∧ Maps.size D = S.length ∧ ∀ xs : List Int, xs.length = N → (∀ x ∈ xs, wfI x) →
    Maps.has D (ikey xs) = decide (xs ∈ S) ∧ D.atKey (ikey xs) (.lit (.bool false)) = .lit (.bool (decide (xs ∈ S)))
theorem FSet.made (P : Program) (k : TypeId) (N : Nat) (w : World) : FSet P k N (w.alloc (.map #[] 0)) w.heap.size 0 [] :=
  ⟨_, World.ownsMap_made w P k _, List.nodup_nil, rfl, fun xs _ _ => ⟨by simp [Maps.has_eq], by simp [DataW.atKey]⟩⟩
section
variable {P : Program} {k : TypeId} {N : Nat} {w : World} {B n : Nat} {S : List (List Int)}
theorem FSet.lt (h : FSet P k N w B n S) : B < w.heap.size := by
  obtain ⟨D, h1, _⟩ := h
  exact h1.lt
theorem FSet.kept {w' : World} (h : FSet P k N w B n S) (hb : w'.heap[B]? = w.heap[B]?) : FSet P k N w' B n S := by
  obtain ⟨D, ⟨es, clock, h1, h2⟩, h3⟩ := h
  exact ⟨D, ⟨es, clock, hb.trans h1, h2⟩, h3⟩
theorem FSet.alloc (h : FSet P k N w B n S) (o : Obj) : FSet P k N (w.alloc o) B n S := by
  obtain ⟨D, h1, h3⟩ := h
  exact ⟨D, h1.alloc o, h3⟩
theorem FSet.look (h : FSet P k N w B n S) (K : KeyI P k N) {t e : TypeId} (ht : P.underlying t = some (.map k e)) (hz : (zeroValue e).run P w = .ok (.bool false) w) (xs : List Int) (hl : xs.length = N) (hw : ∀ x ∈ xs, wfI x) :
    (Instr.lookup t (.map (some B)) (.agg (xs.map (Value.int .i64)).toArray) false).run P w = .ok (.bool (decide (xs ∈ S))) w := by
  obtain ⟨D, h1, _, _, h3⟩ := h
  obtain ⟨v, ps, hrun, hv⟩ := h1.lookup K.keyed ht hz (zd := .lit (.bool false)) (zp := []) rfl (K.key xs hl hw)
  rw [(h3 xs hl hw).2] at hv
  rw [hrun, rdv_inj hv (show rdv (.bool (decide (xs ∈ S))) = some (.lit (.bool (decide (xs ∈ S))), []) from rfl)]
theorem FSet.len (h : FSet P k N w B n S) {t e : TypeId} (ht : P.underlying t = some (.map k e)) (ty : TypeId) : (Builtin.len_ #[t] ty #[.map (some B)]).run P w = .ok (.int .i64 S.length) w := by
  obtain ⟨D, h1, _, h2, _⟩ := h
  rw [h1.len ht ty, h2]
/-- A key more. -/
theorem FSet.store (h : FSet P k N w B n S) (K : KeyI P k N) {t e : TypeId} (ht : P.underlying t = some (.map k e)) (hn : n < maxLen) (xs : List Int) (hl : xs.length = N) (hw : ∀ x ∈ xs, wfI x) (hnot : xs ∉ S) :
    ∃ w', (Instr.mapUpdate t (.map (some B)) (.agg (xs.map (Value.int .i64)).toArray) (.bool true)).run P w = .ok () w' ∧ FSet P k N w' B (n + 1) (S ++ [xs]) ∧ w.grownBy w' (some B) := by
  obtain ⟨D, h1, h5, h2, h3⟩ := h
  have hti := h1.tidy K.keyed
  have hmp := h1.isMap
  obtain ⟨w', hrun, g1, g2⟩ := h1.update K.keyed ht hn (K.key xs hl hw) (show rdv (.bool true) = some (.lit (.bool true), []) from rfl)
  refine ⟨w', hrun, ⟨_, g1, ?_, ?_, fun ys hy wy => ?_⟩, g2⟩
  · rw [List.nodup_append]
    exact ⟨h5, by simp, fun a ha b hb => by simp at hb; subst hb; rintro rfl; exact hnot ha⟩
  · rw [Maps.size_put hti, (h3 xs hl hw).1]; simp [hnot, h2]
  · by_cases e : ys = xs
    · subst e
      refine ⟨?_, ?_⟩
      · rw [Maps.has_put_same hmp (K.keyed.key (K.key ys hy wy))]; simp
      · rw [Maps.atKey_put_same hmp (K.keyed.key (K.key ys hy wy))]; simp
    · have hne : ikey ys ≠ ikey xs := fun h => e (K.inj hy wy hl hw h)
      refine ⟨?_, ?_⟩
      · rw [Maps.has_put_other hne, (h3 ys hy wy).1]; simp [e]
      · rw [Maps.atKey_put_other hne, (h3 ys hy wy).2]; simp [e]
/-- A key less. -/
theorem FSet.drop (h : FSet P k N w B n S) (K : KeyI P k N) {t e : TypeId} (ht : P.underlying t = some (.map k e)) (xs : List Int) (hl : xs.length = N) (hw : ∀ x ∈ xs, wfI x) (hin : xs ∈ S) (ty : TypeId) :
    ∃ w', (Builtin.delete_ #[t, k] ty #[.map (some B), .agg (xs.map (Value.int .i64)).toArray]).run P w = .ok (.tuple #[]) w' ∧ FSet P k N w' B n (S.filter fun ys => ys != xs) ∧ w.grownBy w' (some B) := by
  obtain ⟨D, h1, h5, h2, h3⟩ := h
  have hti := h1.tidy K.keyed
  obtain ⟨w', hrun, g1, g2⟩ := h1.drop K.keyed ht (K.key xs hl hw) ty
  have hlen : (S.filter fun ys => ys != xs).length + 1 = S.length := by
    have e : (S.filter fun ys => ys != xs) = S.erase xs := by rw [h5.erase_eq_filter]
    rw [e, List.length_erase_of_mem hin]
    have := List.length_pos_of_mem hin
    omega
  refine ⟨w', hrun, ⟨_, g1, h5.filter _, ?_, fun ys hy wy => ?_⟩, g2.grown⟩
  · have := Maps.size_del (k := ikey xs) hti
    rw [(h3 xs hl hw).1] at this
    simp [hin] at this
    omega
  · by_cases e : ys = xs
    · subst e
      refine ⟨?_, ?_⟩
      · rw [Maps.has_del_same]; simp
      · rw [Maps.atKey_del_same]; simp
    · have hne : ikey ys ≠ ikey xs := fun h => e (K.inj hy wy hl hw h)
      refine ⟨?_, ?_⟩
      · rw [Maps.has_del_other hne, (h3 ys hy wy).1]; simp [e]
      · rw [Maps.atKey_del_other hne, (h3 ys hy wy).2]; simp [e]
end
theorem wpList_mapUpdate_fset {P : Program} (w : World) {ops : Array Oper} {rest : List Oper} {o : Oper} {a : Act} {Q : Exit → Act → World → Prop}
    (hg : o.guard = none) (m x v : Operand) (t : TypeId) (hop : o.op = Op.mapUpdate t m x v) (k e : TypeId) (N : Nat) (K : KeyI P k N) (ht : P.underlying t = some (.map k e)) (B n : Nat) (S : List (List Int))
    (hm : a.eval m = .map (some B)) (hown : FSet P k N w B n S) (hn : n < maxLen) (xs : List Int) (hx : a.eval x = .agg (xs.map (Value.int .i64)).toArray) (hl : xs.length = N) (hw : ∀ x ∈ xs, wfI x) (hv : a.eval v = .bool true) (hnot : xs ∉ S)
    (hK : ∀ w', FSet P k N w' B (n + 1) (S ++ [xs]) → w.grownBy w' (some B) → wpList P ops Q rest (a.put o.dst undef) w') : wpList P ops Q (o :: rest) a w := by
  refine wpList_plain hg fun K' hK' => ?_
  obtain ⟨w', hrun, g1, g2⟩ := hown.store K ht hn xs hl hw hnot
  unfold Oper.wp
  simp only [execOp, hop, hm, hx, hv, Sem.run_bind, Sem.run_pure, hrun, Result.andThen]
  exact hK' _ _ (hK w' g1 g2)
theorem wpList_delete_fset {P : Program} (w : World) {ops : Array Oper} {rest : List Oper} {o : Oper} {a : Act} {Q : Exit → Act → World → Prop}
    (hg : o.guard = none) (m x : Operand) (t k : TypeId) (hop : o.op = Op.call { callee := Callee.builtin Builtin.delete, args := #[m, x], argTypes := #[t, k] }) (e : TypeId) (N : Nat) (K : KeyI P k N) (ht : P.underlying t = some (.map k e)) (B n : Nat) (S : List (List Int))
    (hm : a.eval m = .map (some B)) (hown : FSet P k N w B n S) (xs : List Int) (hx : a.eval x = .agg (xs.map (Value.int .i64)).toArray) (hl : xs.length = N) (hw : ∀ x ∈ xs, wfI x) (hin : xs ∈ S)
    (hK : ∀ w', FSet P k N w' B n (S.filter fun ys => ys != xs) → w.grownBy w' (some B) → wpList P ops Q rest (a.put o.dst (.tuple #[])) w') : wpList P ops Q (o :: rest) a w := by
  refine wpList_plain hg fun K' hK' => ?_
  obtain ⟨w', hrun, g1, g2⟩ := hown.drop K ht xs hl hw hin o.type
  unfold Oper.wp
  simp [execOp, hop, resolve, invoke, builtin, hm, hx, hrun, Result.andThen]
  exact hK' _ _ (hK w' g1 g2)
end Go.Proofs.YtggfeblfhabmkaaDoor.Kit
