/- Laws: maps that the call makes, keyed by ints, told as a function from the keys to the values. -/
import Derived.Test.YtggfeblfhabmkaaGreatDoorKitn
import Derived.Deep.RegionHeld
namespace Go.Proofs.YtggfeblfhabmkaaGreatDoor.Kit
set_option linter.unusedVariables false
set_option linter.unusedSimpArgs false
open Go.RowKit Go.WideMaps Go.ChangeMaps
open Go.Maps (Keyed)

/-- Block B is a map of at most n entries; f tells what stands at a key (z's word where nothing has been stored). -/
def IMap (P : Program) (k : TypeId) (z : Value) (w : World) (B n : Nat) (f : Int → Value) : Prop :=
  ∃ (D : DataW Unit) (dz : DataW Unit), w.ownsMap P k rdv B n D ∧ Maps.IsMap D ∧ rdv z = some (dz, []) ∧ ∀ xs : Int, wfI xs → ∃ d, rdv (f xs) = some (d, []) ∧ D.atKey ((.int .i64 xs)) dz = d
theorem IMap.made (P : Program) (k : TypeId) (z : Value) (dz : DataW Unit) (hz : rdv z = some (dz, [])) (w : World) : IMap P k z (w.alloc (.map #[] 0)) w.heap.size 0 (fun _ => z) :=
  ⟨_, dz, World.ownsMap_made w P k _, Maps.isMap_empty, hz, fun xs _ => ⟨dz, hz, by simp [DataW.atKey]⟩⟩
section
variable {P : Program} {k : TypeId} {z : Value} {w : World} {B n : Nat} {f : Int → Value}
theorem IMap.lt (h : IMap P k z w B n f) : B < w.heap.size := by
  obtain ⟨D, _, h1, _⟩ := h
  exact h1.lt
theorem IMap.kept {w' : World} (h : IMap P k z w B n f) (hb : w'.heap[B]? = w.heap[B]?) : IMap P k z w' B n f := by
  obtain ⟨D, dz, ⟨es, clock, h1, h2⟩, h3⟩ := h
  exact ⟨D, dz, ⟨es, clock, hb.trans h1, h2⟩, h3⟩
theorem IMap.mono {n' : Nat} (h : IMap P k z w B n f) (hn : n ≤ n') : IMap P k z w B n' f := by
  obtain ⟨D, dz, h1, h3⟩ := h
  exact ⟨D, dz, h1.mono hn, h3⟩
theorem IMap.alloc (h : IMap P k z w B n f) (o : Obj) : IMap P k z (w.alloc o) B n f := by
  obtain ⟨D, dz, h1, h3⟩ := h
  exact ⟨D, dz, h1.alloc o, h3⟩
theorem IMap.grown {w' : World} {row : Option Nat} (h : IMap P k z w B n f) (hg : w.grownBy w' row) (hne : some B ≠ row) : IMap P k z w' B n f := by
  obtain ⟨D, dz, h1, h3⟩ := h
  exact ⟨D, dz, h1.kept hg hne, h3⟩
theorem IMap.row (h : IMap P k z w B n f) : ∃ es clock, w.heap[B]? = some (.map es clock) := by
  obtain ⟨D, dz, ⟨es, clock, h1, h2⟩, h3⟩ := h
  exact ⟨es, clock, h1⟩
/-- The look-up's run. -/
theorem IMap.look (h : IMap P k z w B n f) (K : P.underlying k = some (.int .i64)) {t e : TypeId} (ht : P.underlying t = some (.map k e)) (hz : (zeroValue e).run P w = .ok z w) (xs : Int) (hw : wfI xs) :
    (Instr.lookup t (.map (some B)) (.int .i64 xs) false).run P w = .ok (f xs) w := by
  obtain ⟨D, dz, h1, _, h2, h3⟩ := h
  obtain ⟨v, ps, hrun, hv⟩ := h1.lookup (Maps.int_keyed K) ht hz h2 (Maps.keyOf_int_mk K hw)
  obtain ⟨d, hd, hat⟩ := h3 xs hw
  rw [hat] at hv
  rw [hrun, rdv_inj hv hd]
/-- The store's run. -/
theorem IMap.store (h : IMap P k z w B n f) (K : P.underlying k = some (.int .i64)) {t e : TypeId} (ht : P.underlying t = some (.map k e)) (hn : n < maxLen) (xs : Int) (hw : wfI xs) (v : Value) (d : DataW Unit) (hv : rdv v = some (d, [])) :
    ∃ w', (Instr.mapUpdate t (.map (some B)) (.int .i64 xs) v).run P w = .ok () w' ∧ IMap P k z w' B (n + 1) (fun ys => if ys = xs then v else f ys) ∧ w.grownBy w' (some B) := by
  obtain ⟨D, dz, h1, h5, h2, h3⟩ := h
  obtain ⟨w', hrun, g1, g2⟩ := h1.update (Maps.int_keyed K) ht hn (Maps.keyOf_int_mk K hw) hv
  refine ⟨w', hrun, ⟨_, dz, g1, h5.put _ _, h2, fun ys wy => ?_⟩, g2⟩
  by_cases e : ys = xs
  · subst e
    exact ⟨d, by simpa using hv, by rw [Maps.atKey_put_same h5 ((Maps.int_keyed K).key (Maps.keyOf_int_mk K wy))]⟩
  · obtain ⟨d', hd', hat⟩ := h3 ys wy
    exact ⟨d', by simpa [e] using hd', by rw [Maps.atKey_put_other (fun h => e (by simpa using h)), hat]⟩
end

theorem wpList_lookup_imap {P : Program} (w : World) {ops : Array Oper} {rest : List Oper} {o : Oper} {a : Act} {Q : Exit → Act → World → Prop}
    (hg : o.guard = none) (m x : Operand) (t : TypeId) (hop : o.op = Op.lookup t m x false) (k e : TypeId) (K : P.underlying k = some (.int .i64)) (ht : P.underlying t = some (.map k e)) (z : Value) (hz : (zeroValue e).run P w = .ok z w) (B n : Nat) (f : Int → Value)
    (hm : a.eval m = .map (some B)) (hown : IMap P k z w B n f) (xs : Int) (hx : a.eval x = .int .i64 xs) (hw : wfI xs)
    (hK : wpList P ops Q rest (a.put o.dst (f xs)) w) : wpList P ops Q (o :: rest) a w := by
  refine wpList_plain hg fun K' hK' => ?_
  have hrun := hown.look K ht hz xs hw
  unfold Oper.wp
  simp only [execOp, hop, hm, hx, Sem.run_bind, Sem.run_pure, hrun, Result.andThen]
  exact hK' _ _ hK
theorem wpListIn_lookup_imap {F : Fence} {nn : Nat} {P : Program} (w : World) {ops : Array Oper} {rest : List Oper} {o : Oper} {a : Act} {Q : Exit → Act → World → Prop}
    (hg : o.guard = none) (m x : Operand) (t : TypeId) (hop : o.op = Op.lookup t m x false) (k e : TypeId) (K : P.underlying k = some (.int .i64)) (ht : P.underlying t = some (.map k e)) (z : Value) (hz : (zeroValue e).run P w = .ok z w) (B n : Nat) (f : Int → Value)
    (hm : a.eval m = .map (some B)) (hown : IMap P k z w B n f) (xs : Int) (hx : a.eval x = .int .i64 xs) (hw : wfI xs)
    (hK : wpListIn F nn P ops Q rest (a.put o.dst (f xs)) w) : wpListIn F nn P ops Q (o :: rest) a w := by
  refine wpListIn_plain hg fun K' hK' => ?_
  have hrun := hown.look K ht hz xs hw
  unfold Oper.wpIn
  refine ⟨?_, ?_⟩
  · simp [Oper.about, hop]
  · rw [Oper.semAt_plain F _ _ (by rw [hop]; intro c hc'; cases hc')]
    simp only [execOp, hop, hm, hx, Sem.run_bind, Sem.run_pure, hrun, Result.andThen]
    exact hK' _ _ hK
theorem wpList_mapUpdate_imap {P : Program} (w : World) {ops : Array Oper} {rest : List Oper} {o : Oper} {a : Act} {Q : Exit → Act → World → Prop}
    (hg : o.guard = none) (m x v : Operand) (t : TypeId) (hop : o.op = Op.mapUpdate t m x v) (k e : TypeId) (K : P.underlying k = some (.int .i64)) (ht : P.underlying t = some (.map k e)) (z : Value) (B n : Nat) (f : Int → Value)
    (hm : a.eval m = .map (some B)) (hown : IMap P k z w B n f) (hn : n < maxLen) (xs : Int) (hx : a.eval x = .int .i64 xs) (hw : wfI xs) (val : Value) (hv : a.eval v = val) (d : DataW Unit) (hd : rdv val = some (d, []))
    (hK : ∀ w', IMap P k z w' B (n + 1) (fun ys => if ys = xs then val else f ys) → w.grownBy w' (some B) → wpList P ops Q rest (a.put o.dst undef) w') : wpList P ops Q (o :: rest) a w := by
  refine wpList_plain hg fun K' hK' => ?_
  obtain ⟨w', hrun, g1, g2⟩ := hown.store K ht hn xs hw val d hd
  unfold Oper.wp
  simp only [execOp, hop, hm, hx, hv, Sem.run_bind, Sem.run_pure, hrun, Result.andThen]
  exact hK' _ _ (hK w' g1 g2)
theorem wpListIn_mapUpdate_imap {F : Fence} {nn : Nat} {P : Program} (w : World) {ops : Array Oper} {rest : List Oper} {o : Oper} {a : Act} {Q : Exit → Act → World → Prop}
    (hg : o.guard = none) (m x v : Operand) (t : TypeId) (hop : o.op = Op.mapUpdate t m x v) (k e : TypeId) (K : P.underlying k = some (.int .i64)) (ht : P.underlying t = some (.map k e)) (z : Value) (B n : Nat) (f : Int → Value)
    (hm : a.eval m = .map (some B)) (hown : IMap P k z w B n f) (hn : n < maxLen) (xs : Int) (hx : a.eval x = .int .i64 xs) (hw : wfI xs) (val : Value) (hv : a.eval v = val) (d : DataW Unit) (hd : rdv val = some (d, []))
    (hK : ∀ w', IMap P k z w' B (n + 1) (fun ys => if ys = xs then val else f ys) → w.grownBy w' (some B) → wpListIn F nn P ops Q rest (a.put o.dst undef) w') : wpListIn F nn P ops Q (o :: rest) a w := by
  refine wpListIn_plain hg fun K' hK' => ?_
  obtain ⟨w', hrun, g1, g2⟩ := hown.store K ht hn xs hw val d hd
  unfold Oper.wpIn
  refine ⟨?_, ?_⟩
  · simp [Oper.about, hop]
  · rw [Oper.semAt_plain F _ _ (by rw [hop]; intro c hc'; cases hc')]
    simp only [execOp, hop, hm, hx, hv, Sem.run_bind, Sem.run_pure, hrun, Result.andThen]
    exact hK' _ _ (hK w' g1 g2)

/-- 'Op.insert' at an operation, whichever comes up. -/
theorem wpOp_insert_imap {P : Program} {ops : Array Oper} {Q : Exit → Act → World → Prop} {i : Nat} {o : Oper} {t : TypeId} {m x v : Operand} {a : Act} {w : World} {k e : TypeId} {z : Value} {B n : Nat} {f : Int → Value} {xs : Int} {val : Value} {d : DataW Unit} {Kc : Act → World → Prop}
    (hi : ops[i]? = some o) (hg : o.guard = none) (hd : o.dst = none) (hop : o.op = .insert t m x v) (K : P.underlying k = some (.int .i64)) (ht : P.underlying t = some (.map k e))
    (hm : a.eval m = .map (some B)) (hx : a.eval x = .int .i64 xs) (hv : a.eval v = val) (hdd : rdv val = some (d, [])) (hw : wfI xs) (hown : IMap P k z w B n f) (hn : n < maxLen)
    (hK : ∀ w', IMap P k z w' B (n + 1) (fun ys => if ys = xs then val else f ys) → w.grownBy w' (some B) → Kc a w') : wpOp P ops Q i Kc a w := by
  obtain ⟨w', hrun, g1, g2⟩ := hown.store K ht hn xs hw val d hdd
  unfold wpOp
  simp only [hi]
  have hwt : Region.wanted o (yielded ops a.tmps) = true := by simp [Region.wanted, hg]
  rw [if_pos hwt]
  refine .inl ?_
  unfold Oper.wp
  simp only [execOp, hop, hm, hx, hv, Sem.run_bind, Sem.run_pure, hrun, Result.andThen, hd, Act.put]
  have h2 := hK w' g1 g2
  simpa [Oper.upon, hd, Act.put] using h2
/-- An operation taken first, its destination given. -/
theorem take2 {P : Program} {md : Region.Mode} {ops : Array Oper} {Q : Exit → Act → World → Prop} {S : World → Prop} {i : Nat} {oi : Oper} {v : Value} {fuel : Nat} {listed : Array Bool} {a : Act} {w : World} (ds : Option Tmp) (hi : ops[i]? = some oi) (hd : oi.dst = ds)
    (hs : Region.noSelect ops = true) (hf : Region.free md ops listed i = true) (hr : (Region.ready md ops listed).contains i = true)
    (hQ : ∀ c ds a w, Q (.panic c) (a.put ds v) w → Q (.panic c) a w) (hy : YieldsIf P ops S oi v a) (hS : S w)
    (h : wpAnyH P md ops Q S fuel (listed.setIfInBounds i true) (a.put ds v) w) : wpAnyH P md ops Q S (fuel + 1) listed a w := by
  subst hd
  exact wpAnyH_take hi hs hf hr (fun c a w => hQ c _ a w) hy hS h
theorem wpOp_value2 {P : Program} {ops : Array Oper} {Q : Exit → Act → World → Prop} {i : Nat} {o : Oper} {K : Act → World → Prop} {a : Act} {w w' : World} {v : Value} (ds : Option Tmp) (ho : ops[i]? = some o) (hd : o.dst = ds) (hg : o.guard = none) (hr : (execOp a.eval o).run P w = .ok (.value v) w') (h : K (a.put ds v) w') : wpOp P ops Q i K a w := by
  subst hd
  have hw : Region.wanted o (yielded ops a.tmps) = true := by simp [Region.wanted, hg]
  unfold wpOp
  simp only [ho, hw, if_true]
  left
  unfold Oper.wp
  rw [hr]
  exact h
theorem cell_grown {u v : World} {a : Addr} {x : Value} {B : Nat} (h : u.cell? a = some x) (hg : u.grownBy v (some B)) (hne : a.block ≠ B) : v.cell? a = some x := by
  have hlt := World.block_lt_of_cell? u a h
  simp only [World.cell?] at h ⊢
  rw [hg.block a.block hlt (fun e => hne (Option.some.inj e))]
  exact h
end Go.Proofs.YtggfeblfhabmkaaGreatDoor.Kit
