/- Laws: maps that the call makes, keyed by structs of ints, told as a function from the keys to the values (bools, slices of one's own). -/
import Derived.Maps.OwnOps
import Derived.Maps.Views
import Derived.DeepKeys5
import Derived.WideKeyEntry
import Derived.OwnWalk
import Derived.OwnWalkIn
import Derived.Test.YtggfeblfhabmkaaGreatDoorKit
namespace Go.Proofs.YtggfeblfhabmkaaGreatDoor.Kit
set_option linter.unusedVariables false
set_option linter.unusedSimpArgs false
open Go.RowKit Go.WideMaps Go.ChangeMaps
open Go.Maps (Keyed)

abbrev ikey (xs : List Int) : Lit := .string (keyBytes (xs.map (Lit.int .i64)))
/-- A key type of n ints. -/
structure KeyI (P : Program) (k : TypeId) (n : Nat) : Prop where
  law : KeyLaw P k
  key : ∀ xs : List Int, xs.length = n → (∀ x ∈ xs, wfI x) → keyOf P k (.agg (xs.map (Value.int .i64)).toArray) = some (ikey xs)
theorem KeyI.keyed {P : Program} {k : TypeId} {n : Nat} (K : KeyI P k n) : Keyed P k := Keyed.of_law K.law
theorem map_int_inj : ∀ {xs ys : List Int}, xs.map (Value.int .i64) = ys.map (Value.int .i64) → xs = ys
  | [], [], _ => rfl
  | [], _ :: _, h => by simp at h
  | _ :: _, [], h => by simp at h
  | x :: xs, y :: ys, h => by
    simp only [List.map_cons, List.cons.injEq, Value.int.injEq, true_and] at h
    rw [h.1, map_int_inj h.2]
theorem KeyI.inj {P : Program} {k : TypeId} {n : Nat} (K : KeyI P k n) {xs ys : List Int} (hx : xs.length = n) (wx : ∀ x ∈ xs, wfI x) (hy : ys.length = n) (wy : ∀ x ∈ ys, wfI x) (h : ikey xs = ikey ys) : xs = ys := by
  have h1 := K.key xs hx wx
  rw [h] at h1
  have h2 := K.keyed.inj h1 (K.key ys hy wy)
  simp only [Value.agg.injEq] at h2
  exact map_int_inj (by simpa using congrArg Array.toList h2)
/-- How a value is told. -/
def rdv : Value → Option (DataW Unit × List MemPlace)
  | .bool b => some (.lit (.bool b), [])
  | .slice none 0 0 => some (.nil, [])
  | .slice (some ⟨g, 0, none⟩) n c => some (.agg [.lit (.int .i64 g), .lit (.int .i64 n), .lit (.int .i64 c)], [])
  | _ => none
theorem rdv_inj {v v' : Value} {d : DataW Unit} {p p' : List MemPlace} (h : rdv v = some (d, p)) (h' : rdv v' = some (d, p')) : v = v' := by
  unfold rdv at h h'
  split at h <;> split at h' <;> simp only [Option.some.injEq, Prod.mk.injEq, reduceCtorEq] at h h'
  all_goals (obtain ⟨h1, h2⟩ := h; obtain ⟨h3, h4⟩ := h'; rw [← h1] at h3; try simp at h3)
  all_goals first | rfl | (rw [h3]; done) | (obtain ⟨e1, e2, e3⟩ := h3; have e1' := Int.ofNat.inj e1; have e2' := Int.ofNat.inj e2; have e3' := Int.ofNat.inj e3; subst e1' e2' e3'; rfl)

/-- Block B is a map of at most n entries; f tells what stands at a key (z's word where nothing has been stored). -/
def VMap (P : Program) (k : TypeId) (N : Nat) (z : Value) (w : World) (B n : Nat) (f : List Int → Value) : Prop :=
  ∃ (D : DataW Unit) (dz : DataW Unit), w.ownsMap P k rdv B n D ∧ Maps.IsMap D ∧ rdv z = some (dz, []) ∧ ∀ xs : List Int, xs.length = N → (∀ x ∈ xs, wfI x) → ∃ d, rdv (f xs) = some (d, []) ∧ D.atKey (ikey xs) dz = d
theorem VMap.made (P : Program) (k : TypeId) (N : Nat) (z : Value) (dz : DataW Unit) (hz : rdv z = some (dz, [])) (w : World) : VMap P k N z (w.alloc (.map #[] 0)) w.heap.size 0 (fun _ => z) :=
  ⟨_, dz, World.ownsMap_made w P k _, Maps.isMap_empty, hz, fun xs _ _ => ⟨dz, hz, by simp [DataW.atKey]⟩⟩
section
variable {P : Program} {k : TypeId} {N : Nat} {z : Value} {w : World} {B n : Nat} {f : List Int → Value}
theorem VMap.lt (h : VMap P k N z w B n f) : B < w.heap.size := by
  obtain ⟨D, _, h1, _⟩ := h
  exact h1.lt
theorem VMap.kept {w' : World} (h : VMap P k N z w B n f) (hb : w'.heap[B]? = w.heap[B]?) : VMap P k N z w' B n f := by
  obtain ⟨D, dz, ⟨es, clock, h1, h2⟩, h3⟩ := h
  exact ⟨D, dz, ⟨es, clock, hb.trans h1, h2⟩, h3⟩
theorem VMap.mono {n' : Nat} (h : VMap P k N z w B n f) (hn : n ≤ n') : VMap P k N z w B n' f := by
  obtain ⟨D, dz, h1, h3⟩ := h
  exact ⟨D, dz, h1.mono hn, h3⟩
theorem VMap.alloc (h : VMap P k N z w B n f) (o : Obj) : VMap P k N z (w.alloc o) B n f := by
  obtain ⟨D, dz, h1, h3⟩ := h
  exact ⟨D, dz, h1.alloc o, h3⟩
theorem VMap.grown {w' : World} {row : Option Nat} (h : VMap P k N z w B n f) (hg : w.grownBy w' row) (hne : some B ≠ row) : VMap P k N z w' B n f := by
  obtain ⟨D, dz, h1, h3⟩ := h
  exact ⟨D, dz, h1.kept hg hne, h3⟩
theorem VMap.row (h : VMap P k N z w B n f) : ∃ es clock, w.heap[B]? = some (.map es clock) := by
  obtain ⟨D, dz, ⟨es, clock, h1, h2⟩, h3⟩ := h
  exact ⟨es, clock, h1⟩
/-- The look-up's run. -/
theorem VMap.look (h : VMap P k N z w B n f) (K : KeyI P k N) {t e : TypeId} (ht : P.underlying t = some (.map k e)) (hz : (zeroValue e).run P w = .ok z w) (xs : List Int) (hl : xs.length = N) (hw : ∀ x ∈ xs, wfI x) :
    (Instr.lookup t (.map (some B)) (.agg (xs.map (Value.int .i64)).toArray) false).run P w = .ok (f xs) w := by
  obtain ⟨D, dz, h1, _, h2, h3⟩ := h
  obtain ⟨v, ps, hrun, hv⟩ := h1.lookup K.keyed ht hz h2 (K.key xs hl hw)
  obtain ⟨d, hd, hat⟩ := h3 xs hl hw
  rw [hat] at hv
  rw [hrun, rdv_inj hv hd]
/-- The store's run. -/
theorem VMap.store (h : VMap P k N z w B n f) (K : KeyI P k N) {t e : TypeId} (ht : P.underlying t = some (.map k e)) (hn : n < maxLen) (xs : List Int) (hl : xs.length = N) (hw : ∀ x ∈ xs, wfI x) (v : Value) (d : DataW Unit) (hv : rdv v = some (d, [])) :
    ∃ w', (Instr.mapUpdate t (.map (some B)) (.agg (xs.map (Value.int .i64)).toArray) v).run P w = .ok () w' ∧ VMap P k N z w' B (n + 1) (fun ys => if ys = xs then v else f ys) ∧ w.grownBy w' (some B) := by
  obtain ⟨D, dz, h1, h5, h2, h3⟩ := h
  obtain ⟨w', hrun, g1, g2⟩ := h1.update K.keyed ht hn (K.key xs hl hw) hv
  refine ⟨w', hrun, ⟨_, dz, g1, h5.put _ _, h2, fun ys hy wy => ?_⟩, g2⟩
  by_cases e : ys = xs
  · subst e
    exact ⟨d, by simpa using hv, by rw [Maps.atKey_put_same h5 (K.keyed.key (K.key ys hy wy))]⟩
  · obtain ⟨d', hd', hat⟩ := h3 ys hy wy
    exact ⟨d', by simpa [e] using hd', by rw [Maps.atKey_put_other (fun h => e (K.inj hy wy hl hw h)), hat]⟩
end

theorem wpList_lookup_vmap {P : Program} (w : World) {ops : Array Oper} {rest : List Oper} {o : Oper} {a : Act} {Q : Exit → Act → World → Prop}
    (hg : o.guard = none) (m x : Operand) (t : TypeId) (hop : o.op = Op.lookup t m x false) (k e : TypeId) (N : Nat) (K : KeyI P k N) (ht : P.underlying t = some (.map k e)) (z : Value) (hz : (zeroValue e).run P w = .ok z w) (B n : Nat) (f : List Int → Value)
    (hm : a.eval m = .map (some B)) (hown : VMap P k N z w B n f) (xs : List Int) (hx : a.eval x = .agg (xs.map (Value.int .i64)).toArray) (hl : xs.length = N) (hw : ∀ x ∈ xs, wfI x)
    (hK : wpList P ops Q rest (a.put o.dst (f xs)) w) : wpList P ops Q (o :: rest) a w := by
  refine wpList_plain hg fun K' hK' => ?_
  have hrun := hown.look K ht hz xs hl hw
  unfold Oper.wp
  simp only [execOp, hop, hm, hx, Sem.run_bind, Sem.run_pure, hrun, Result.andThen]
  exact hK' _ _ hK
theorem wpListIn_lookup_vmap {F : Fence} {nn : Nat} {P : Program} (w : World) {ops : Array Oper} {rest : List Oper} {o : Oper} {a : Act} {Q : Exit → Act → World → Prop}
    (hg : o.guard = none) (m x : Operand) (t : TypeId) (hop : o.op = Op.lookup t m x false) (k e : TypeId) (N : Nat) (K : KeyI P k N) (ht : P.underlying t = some (.map k e)) (z : Value) (hz : (zeroValue e).run P w = .ok z w) (B n : Nat) (f : List Int → Value)
    (hm : a.eval m = .map (some B)) (hown : VMap P k N z w B n f) (xs : List Int) (hx : a.eval x = .agg (xs.map (Value.int .i64)).toArray) (hl : xs.length = N) (hw : ∀ x ∈ xs, wfI x)
    (hK : wpListIn F nn P ops Q rest (a.put o.dst (f xs)) w) : wpListIn F nn P ops Q (o :: rest) a w := by
  refine wpListIn_plain hg fun K' hK' => ?_
  have hrun := hown.look K ht hz xs hl hw
  unfold Oper.wpIn
  refine ⟨?_, ?_⟩
  · simp [Oper.about, hop]
  · rw [Oper.semAt_plain F _ _ (by rw [hop]; intro c hc'; cases hc')]
    simp only [execOp, hop, hm, hx, Sem.run_bind, Sem.run_pure, hrun, Result.andThen]
    exact hK' _ _ hK
theorem wpList_mapUpdate_vmap {P : Program} (w : World) {ops : Array Oper} {rest : List Oper} {o : Oper} {a : Act} {Q : Exit → Act → World → Prop}
    (hg : o.guard = none) (m x v : Operand) (t : TypeId) (hop : o.op = Op.mapUpdate t m x v) (k e : TypeId) (N : Nat) (K : KeyI P k N) (ht : P.underlying t = some (.map k e)) (z : Value) (B n : Nat) (f : List Int → Value)
    (hm : a.eval m = .map (some B)) (hown : VMap P k N z w B n f) (hn : n < maxLen) (xs : List Int) (hx : a.eval x = .agg (xs.map (Value.int .i64)).toArray) (hl : xs.length = N) (hw : ∀ x ∈ xs, wfI x) (val : Value) (hv : a.eval v = val) (d : DataW Unit) (hd : rdv val = some (d, []))
    (hK : ∀ w', VMap P k N z w' B (n + 1) (fun ys => if ys = xs then val else f ys) → w.grownBy w' (some B) → wpList P ops Q rest (a.put o.dst undef) w') : wpList P ops Q (o :: rest) a w := by
  refine wpList_plain hg fun K' hK' => ?_
  obtain ⟨w', hrun, g1, g2⟩ := hown.store K ht hn xs hl hw val d hd
  unfold Oper.wp
  simp only [execOp, hop, hm, hx, hv, Sem.run_bind, Sem.run_pure, hrun, Result.andThen]
  exact hK' _ _ (hK w' g1 g2)
theorem wpListIn_mapUpdate_vmap {F : Fence} {nn : Nat} {P : Program} (w : World) {ops : Array Oper} {rest : List Oper} {o : Oper} {a : Act} {Q : Exit → Act → World → Prop}
    (hg : o.guard = none) (m x v : Operand) (t : TypeId) (hop : o.op = Op.mapUpdate t m x v) (k e : TypeId) (N : Nat) (K : KeyI P k N) (ht : P.underlying t = some (.map k e)) (z : Value) (B n : Nat) (f : List Int → Value)
    (hm : a.eval m = .map (some B)) (hown : VMap P k N z w B n f) (hn : n < maxLen) (xs : List Int) (hx : a.eval x = .agg (xs.map (Value.int .i64)).toArray) (hl : xs.length = N) (hw : ∀ x ∈ xs, wfI x) (val : Value) (hv : a.eval v = val) (d : DataW Unit) (hd : rdv val = some (d, []))
    (hK : ∀ w', VMap P k N z w' B (n + 1) (fun ys => if ys = xs then val else f ys) → w.grownBy w' (some B) → wpListIn F nn P ops Q rest (a.put o.dst undef) w') : wpListIn F nn P ops Q (o :: rest) a w := by
  refine wpListIn_plain hg fun K' hK' => ?_
  obtain ⟨w', hrun, g1, g2⟩ := hown.store K ht hn xs hl hw val d hd
  unfold Oper.wpIn
  refine ⟨?_, ?_⟩
  · simp [Oper.about, hop]
  · rw [Oper.semAt_plain F _ _ (by rw [hop]; intro c hc'; cases hc')]
    simp only [execOp, hop, hm, hx, hv, Sem.run_bind, Sem.run_pure, hrun, Result.andThen]
    exact hK' _ _ (hK w' g1 g2)
/-- 'm[k] = append(m[k], ..)': the entry, and the store behind whatever leaves the map's block alone. -/
theorem VMap.entry {P : Program} {k : TypeId} {N : Nat} {z : Value} {w : World} {B n : Nat} {f : List Int → Value} (h : VMap P k N z w B n f) (K : KeyI P k N) {t e : TypeId} (ht : P.underlying t = some (.map k e)) (hz : ∀ u : World, (zeroValue e).run P u = .ok z u) (hn : n < maxLen)
    (xs : List Int) (hl : xs.length = N) (hw : ∀ x ∈ xs, wfI x) :
    ∃ (st : Nat) (w1 : World), (Instr.mapEntry t (.map (some B)) (.agg (xs.map (Value.int .i64)).toArray)).run P w = .ok (.tuple #[f xs, goInt st]) w1 ∧ w.grownBy w1 (some B) ∧
      ∀ (w2 : World) (v : Value) (d : DataW Unit), w2.heap[B]? = w1.heap[B]? → rdv v = some (d, []) → ∃ w3, (Instr.entryStore t (.map (some B)) (goInt st) v).run P w2 = .ok () w3 ∧ VMap P k N z w3 B (n + 1) (fun ys => if ys = xs then v else f ys) ∧ w2.grownBy w3 (some B) := by
  have hlook := h.look K ht (hz w) xs hl hw
  have hstore := fun v d hv => h.store K ht hn xs hl hw v d hv
  obtain ⟨D, dz, ⟨es, clock, hb, F, hs, hD⟩, h5, h2, h3⟩ := h
  have hkey := K.key xs hl hw
  obtain ⟨v0, st, es1, clock1, hrun, _, hst⟩ := WideElems.entry_then_store K.law ht hz hb F hkey
  have hv0 : v0 = f xs := by
    rcases K.law.find w hkey es.toList F.keys with ⟨h1, _⟩ | ⟨j, e0, h1, hj, hk3⟩
    · have e1 : (Instr.lookup t (.map (some B)) (.agg (xs.map (Value.int .i64)).toArray) false).run P w = .ok z w := by
        simp [Instr.lookup, run_underlying ht, MapKept.run_getObj_map hb, K.law.check w es.isEmpty hkey, h1, hz, Result.andThen]
      have e2 : (Instr.mapEntry t (.map (some B)) (.agg (xs.map (Value.int .i64)).toArray)).run P w = .ok (.tuple #[z, goInt clock]) (setBlock w B (.map (es.push ⟨(.agg (xs.map (Value.int .i64)).toArray), z, clock⟩) (clock + 1))) := by
        simp [Instr.mapEntry, run_underlying ht, MapKept.run_getObj_map hb, K.law.check w false hkey, h1, hz, MapKept.run_setObj_map _ hb, Result.andThen, setBlock]
      rw [hlook] at e1
      rw [hrun] at e2
      simp only [Result.ok.injEq, Value.tuple.injEq, and_true] at e1
      simp at e2
      rw [e1]; exact e2.1.1
    · have hj' : es[j]? = some e0 := by simpa using hj
      have e1 : (Instr.lookup t (.map (some B)) (.agg (xs.map (Value.int .i64)).toArray) false).run P w = .ok e0.val w := by
        simp [Instr.lookup, run_underlying ht, MapKept.run_getObj_map hb, K.law.check w es.isEmpty hkey, h1, Result.andThen]
      have e2 : ∃ q w', (Instr.mapEntry t (.map (some B)) (.agg (xs.map (Value.int .i64)).toArray)).run P w = .ok (.tuple #[e0.val, q]) w' := by
        exact ⟨_, _, by simp [Instr.mapEntry, run_underlying ht, MapKept.run_getObj_map hb, K.law.check w false hkey, h1, hj', hk3, K.law.stays w hkey, MapKept.run_setObj_map _ hb, Result.andThen]; exact ⟨rfl, rfl⟩⟩
      obtain ⟨q, w', e2⟩ := e2
      rw [hlook] at e1
      rw [hrun] at e2
      simp only [Result.ok.injEq, and_true] at e1
      simp at e2
      rw [e1]; exact e2.1.1
  subst hv0
  refine ⟨st, _, hrun, ⟨rfl, rfl, rfl, by simp [setBlock], fun i _ hi => heap_setBlock_other hb _ (fun e => hi (by rw [e]))⟩, ?_⟩
  intro w2 v d hw2 hv
  rw [heap_setBlock_same hb] at hw2
  obtain ⟨es', clock', hr1, hr2⟩ := hst w2 v hw2
  obtain ⟨w', g1, g2, g3⟩ := hstore v d hv
  rw [hr2] at g1
  obtain rfl : setBlock w B (.map es' clock') = w' := by simpa using g1
  refine ⟨_, hr1, ?_, ⟨rfl, rfl, rfl, by simp [setBlock], fun i _ hi => heap_setBlock_other hw2 _ (fun e => hi (by rw [e]))⟩⟩
  exact g2.kept (by rw [heap_setBlock_same hw2, heap_setBlock_same hb])
end Go.Proofs.YtggfeblfhabmkaaGreatDoor.Kit
