/- Laws: whole elements of several cells stored into a row of one's own; the builtin clear at elements of several cells. -/
import Derived.Laws.IdiomCopy
import Derived.Laws.Rows
import Derived.Deep.MidRow
import Derived.Lib.SliceRun
import Derived.Test.YtdaedjmkolcliaaKit
namespace Go.Proofs.Ytdaedjmkolcliaa.Kit
set_option linter.unusedVariables false
set_option linter.unusedSimpArgs false

theorem heap_setCells (b : Nat) (t : TypeId) : ∀ (vs : List Value) (o : Nat) (w : World) (cur : Array Value), w.heap[b]? = some (.cells cur t (0, 0)) →
    ∃ cur' : Array Value, (w.setCells b o vs).heap[b]? = some (.cells cur' t (0, 0)) ∧ cur'.size = cur.size ∧ (∀ i, i < o ∨ o + vs.length ≤ i → cur'[i]? = cur[i]?) ∧ (∀ q, q < vs.length → o + q < cur.size → cur'[o + q]? = vs[q]?)
  | [], _, _, cur, h => ⟨cur, h, rfl, fun _ _ => rfl, fun _ hq _ => absurd hq (Nat.not_lt_zero _)⟩
  | v :: r, o, w, cur, h => by
    obtain ⟨c, h1, h2, h3, h4⟩ := heap_setCells b t r (o + 1) _ _ (heap_setCell_same w b o cur t v h)
    refine ⟨c, h1, by simpa using h2, fun i hi => ?_, fun q hq hs => ?_⟩
    · simp only [List.length_cons] at hi
      rw [h3 i (by omega), Array.getElem?_setIfInBounds_ne (by omega)]
    · rcases q with _ | q
      · rw [h3 _ (by omega)]
        simp at hs
        simp [Array.getElem?_setIfInBounds, hs]
      · have := h4 q (by simpa using hq) (by simp; omega)
        rw [show o + (q + 1) = o + 1 + q by omega, this]
        rfl
theorem Exc.setCells {S : Nat → Prop} {A : World} {b : Nat} (hb : S b) : ∀ (vs : List Value) (o : Nat) {B : World}, Exc S A B → Exc S A (B.setCells b o vs)
  | [], _, _, h => h
  | v :: r, o, _, h => Exc.setCells hb r (o + 1) (h.setCell (p := ⟨b, o, none⟩) (.inl hb) v)
theorem zeroCells_length (c : Array Value) (n : Nat) : (Builtin.zeroCells c n).toList.length = n * c.size := by simp [Builtin.zeroCells]
theorem zeroCells_mem (c : Array Value) (n : Nat) (hc : 0 < c.size) (h1 : ∀ v ∈ c.toList, v.oneCell' = true) : ∀ v ∈ (Builtin.zeroCells c n).toList, v.oneCell' = true := by
  intro v hv
  simp only [Builtin.zeroCells, Array.toList_map, List.mem_map] at hv
  obtain ⟨i, _, rfl⟩ := hv
  have hi : i % c.size < c.size := Nat.mod_lt _ hc
  rw [getElem!_pos c _ hi]
  exact h1 _ (by simp)
/-- 'clear(s)', s a slice of n > 0 elements of several cells each. -/
theorem run_clear_sliceK {P : Program} (w : World) (t e ty : TypeId) (z : Value) (ht : P.underlying t = some (.slice e)) (hv : ∀ w, (zeroValue e).run P w = .ok z w) (hz : 0 < z.cells.size) (h1 : ∀ v ∈ z.cells.toList, v.oneCell' = true) (b o n c : Nat) (hn : 0 < n)
    (hc : ∀ j, j < n * z.cells.size → (w.cell? ⟨b, o + j, none⟩).isSome = true) (hf : ∀ j, j < n * z.cells.size → w.frozen? ⟨b, o + j, none⟩ = false) :
    (Builtin.clear_ #[t] ty #[.slice (some ⟨b, o, none⟩) n c]).run P w = .ok (.tuple #[]) (w.setCells b o (Builtin.zeroCells z.cells n).toList) := by
  have hst := run_storeCells_cells (P := P) b o (Builtin.zeroCells z.cells n).toList 0 w (by rw [zeroCells_length]; simpa using hc) (by rw [zeroCells_length]; simpa using hf) (zeroCells_mem _ _ hz h1)
  simp only [Nat.add_zero] at hst
  obtain ⟨m, rfl⟩ : ∃ m, n = m + 1 := ⟨n - 1, by omega⟩
  simp [Builtin.clear_, run_underlying ht, hv, hst]
theorem wpList_store_at {P : Program} {ops : Array Oper} {rest : List Oper} {op : Oper} {a : Act} {w : World} {Q : Exit → Act → World → Prop} {ty : TypeId} {x y : Operand} {p : Addr} {b o : Nat} {cells : Array Value} (hgd : op.guard = none) (ho : op.op = .store ty x y)
    (hx : a.eval x = .pointer (some p)) (hp : p = ⟨b, o, none⟩) (hy : a.eval y = .agg cells)
    (ht : w.there b o cells.size) (hi : (P.info? ty).map (·.size) = some cells.size) (h1 : cells.all (·.oneCell') = true)
    (h : wpList P ops Q rest (a.put op.dst undef) (w.setCells b o cells.toList)) : wpList P ops Q (op :: rest) a w := by
  subst hp
  exact wpList_store_mid hgd ty x y ho b o cells hx hy ht hi h1 h
end Go.Proofs.Ytdaedjmkolcliaa.Kit
