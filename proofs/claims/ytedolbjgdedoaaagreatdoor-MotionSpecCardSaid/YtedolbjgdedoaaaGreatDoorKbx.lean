/- Whole structs in blocks: a block's cells by one equation; loads, stores and returns of structs told by it. Slices of structs told by a list and an encoding; a whole element read. Whole structs in a fence: an operation whose run is known; stores of structs as runs; blocks that stay. -/
import Derived.Test.YtedolbjgdedoaaaGreatDoorKxb
import Derived.Test.YtedolbjgdedoaaaGreatDoorTp
set_option linter.unusedSimpArgs false
set_option linter.unusedVariables false
namespace Go.Proofs.YtedolbjgdedoaaaGreatDoor.Kit
open Go.RowKit
def Bk (w : World) (b : Nat) (t : TypeId) (cs : Array Value) : Prop := w.heap[b]? = some (.cells cs t (0, 0))
theorem Bk.lt {w : World} {b : Nat} {t : TypeId} {cs : Array Value} (h : Bk w b t cs) : b < w.heap.size := (Array.getElem?_eq_some_iff.1 h).1
theorem Bk.cell {w : World} {b : Nat} {t : TypeId} {cs : Array Value} (h : Bk w b t cs) (j : Nat) : w.cell? ⟨b, j, none⟩ = cs[j]? := by simp [World.cell?, show w.heap[b]? = _ from h]
theorem Bk.frozen {w : World} {b : Nat} {t : TypeId} {cs : Array Value} (h : Bk w b t cs) (j : Nat) : w.frozen? ⟨b, j, none⟩ = false := by simp [World.frozen?, show w.heap[b]? = _ from h]
theorem Bk.exc {S : Nat → Prop} {w W : World} {b : Nat} {t : TypeId} {cs : Array Value} (h : Bk w b t cs) (hx : Exc S w W) (hn : ¬ S b) : Bk W b t cs := (hx.block b h.lt hn).trans h
theorem Bk.below {w W : World} {b n : Nat} {t : TypeId} {cs : Array Value} (h : Bk w b t cs) (hx : Below n w W) (hn : b < n) : Bk W b t cs := (hx.block b hn).trans h
theorem Bk.alloc {w : World} {b : Nat} {t : TypeId} {cs : Array Value} (h : Bk w b t cs) (o : Obj) : Bk (w.alloc o) b t cs := (Below.heap_alloc _ _ _ h.lt).trans h
theorem Bk.drew {w : World} {b : Nat} {t : TypeId} {cs : Array Value} (h : Bk w b t cs) : Bk w.drew b t cs := h
theorem Bk.new (w : World) (t : TypeId) (cs : Array Value) : Bk (w.alloc (.cells cs t)) w.heap.size t cs := World.alloc_heap_new w _
theorem Bk.set {w : World} {b : Nat} {t : TypeId} {cs : Array Value} (h : Bk w b t cs) (j : Nat) (v : Value) : Bk (w.setCell ⟨b, j, none⟩ v) b t (cs.setIfInBounds j v) := by
 have hl := h.lt
 unfold Bk at *
 simp only [World.setCell]
 rw [Array.getElem?_modify, if_pos rfl, h]
 rfl
theorem Bk.range {w : World} {b : Nat} {t : TypeId} {cs : Array Value} (h : Bk w b t cs) (o : Nat) (vs : Array Value) (hv : ∀ j, j < vs.size → cs[o + j]? = vs[j]?) : w.rangeAt b o vs.toList := fun j v hj => by
 rw [h.cell (o + j)]
 rw [Array.getElem?_toList] at hj
 rw [hv j (Array.getElem?_eq_some_iff.1 hj).1, hj]
section
variable {P : Program} {ops : Array Oper} {rest : List Oper} {op : Oper} {a : Act} {w : World} {Q : Exit → Act → World → Prop}
theorem load_bk (hgd : op.guard = none) (ty : TypeId) (x : Operand) (ho : op.op = .load ty x) (b o : Nat) (hx : a.eval x = .pointer (some ⟨b, o, none⟩)) {t : TypeId} {cs : Array Value} (vs : Array Value) (hb : Bk w b t cs)
  (hv : ∀ j, j < vs.size → cs[o + j]? = vs[j]?) (d : TypeDesc) (hu : P.underlying ty = some d) (hd : d.isRow = true) (hi : (P.info? ty).map (·.size) = some vs.size)
  (h : wpList P ops Q rest (a.put op.dst (.agg vs)) w) : wpList P ops Q (op :: rest) a w :=
 wpList_load_mid hgd ty x ho b o hx vs.toList d (hb.range o vs hv) hu hd (by simpa using hi) (by simpa using h)
theorem store_bk (hgd : op.guard = none) (ty : TypeId) (x y : Operand) (ho : op.op = .store ty x y) (b o : Nat) (hx : a.eval x = .pointer (some ⟨b, o, none⟩)) (vs : Array Value) (hy : a.eval y = .agg vs) {t : TypeId} {cs : Array Value} (cs' : Array Value) (hb : Bk w b t cs)
  (hsz : cs'.size = cs.size) (hlo : ∀ i, i < o ∨ o + vs.size ≤ i → cs'[i]? = cs[i]?) (hin : ∀ j, j < vs.size → cs'[o + j]? = vs[j]?) (hle : o + vs.size ≤ cs.size)
  (hi : (P.info? ty).map (·.size) = some vs.size) (h1 : vs.all (·.oneCell') = true)
  (h : ∀ W, Bk W b t cs' → Exc (fun j => j = b) w W → wpList P ops Q rest (a.put op.dst undef) W) : wpList P ops Q (op :: rest) a w := by
 have ht : w.there b o vs.size := fun j hj => by
  rw [hb.cell, hb.frozen]
  exact ⟨by rw [Array.getElem?_eq_getElem omg]; rfl, rfl⟩
 refine wpList_store_mid hgd ty x y ho b o vs hx hy ht hi h1 (h _ ?_ (Exc.setCells (S := fun j => j = b) rfl _ _ (Exc.refl _ w)))
 obtain ⟨c, h2, h3, h4, h5⟩ := heap_setCells b t vs.toList o w cs hb
 have : c = cs' := by
  apply Array.ext_getElem?
  intro i
  by_cases hio : i < o ∨ o + vs.size ≤ i
  ·rw [h4 i (by simpa using hio), hlo i hio]
  ·have := h5 (i - o) (by simp; omega) omg
   rw [show o + (i - o) = i by omega] at this
   rw [this]
   have h6 := hin (i - o) omg
   rw [show o + (i - o) = i by omega] at h6
   rw [h6]
   simp
 rw [this] at h2
 exact h2
theorem store_bk0 (hgd : op.guard = none) (ty : TypeId) (x y : Operand) (ho : op.op = .store ty x y) (b : Nat) (hx : a.eval x = .pointer (some ⟨b, 0, none⟩)) (vs : Array Value) (hy : a.eval y = .agg vs) {t : TypeId} {cs : Array Value} (hb : Bk w b t cs)
  (hsz : vs.size = cs.size) (hi : (P.info? ty).map (·.size) = some vs.size) (h1 : vs.all (·.oneCell') = true)
  (h : ∀ W, Bk W b t vs → Exc (fun j => j = b) w W → wpList P ops Q rest (a.put op.dst undef) W) : wpList P ops Q (op :: rest) a w :=
 store_bk hgd ty x y ho b 0 hx vs hy vs hb hsz (fun i hi => by
  rw [Array.getElem?_eq_none omg, Array.getElem?_eq_none omg]) (fun j _ => by rw [Nat.zero_add]) omg hi h1 h
end
theorem res_bk {P : Program} {fn : Func} {tmps : Array Value} {w : World} {c u : Tmp} {ty t : TypeId} {b : Nat} {cs : Array Value} (h : fn.results = #[.cell c ty, .tmp u]) (hc : tmps.getD c undef = .pointer (some ⟨b, 0, none⟩)) (hb : Bk w b t cs) (d : TypeDesc)
  (hu : P.underlying ty = some d) (hd : d.isRow = true) (hi : (P.info? ty).map (·.size) = some cs.size) : (results fn tmps).run P w = .ok (.tuple #[.agg cs, tmps.getD u undef]) w := by
 have hl := run_loadVar_mid (P := P) w b 0 ty cs.toList d (hb.range 0 cs (fun j _ => by rw [Nat.zero_add])) hu hd (by simpa using hi)
 simp only [Array.toArray_toList] at hl
 rw [Array.getD_eq_getD_getElem?] at hc
 simp [results, h, hc, asAddr, hl]
end Go.Proofs.YtedolbjgdedoaaaGreatDoor.Kit

namespace Go.Proofs.YtedolbjgdedoaaaGreatDoor.Kit
open Go.RowKit
def Sv {α : Type} (w : World) (a : Option Addr) (k : Nat) (enc : α → List Value) (l : List α) : Prop :=
 l = [] ∨ ∃ ad, a = some ad ∧ ad.block < w.heap.size ∧ ∀ i (h : i < l.length) (j : Nat) (u : Value), (enc l[i])[j]? = some u → w.cell? (ad.add (i * k + j)) = some u
section
variable {α : Type} {k : Nat} {enc : α → List Value}
theorem flatGet [Inhabited α] (hk : ∀ x, (enc x).length = k) : ∀ (l : List α) (i j : Nat), i < l.length → j < k → (l.flatMap enc)[i * k + j]? = (enc (l.getD i default))[j]?
 | s :: l, 0, j, _, hj => by
  rw [List.flatMap_cons, List.getElem?_append_left (by rw [hk]; omega)]
  simp
 | s :: l, i + 1, j, hi, hj => by
  rw [List.flatMap_cons, List.getElem?_append_right (by rw [hk, Nat.add_mul]; omega)]
  have h2 : (i + 1) * k + j - (enc s).length = i * k + j := by rw [hk, Nat.add_mul]; omega
  rw [h2, flatGet hk l i j (by simpa using hi) hj]
  simp
theorem Sv.kept {w w' : World} {a : Option Addr} {l : List α} (h : Sv w a k enc l) {B : Nat} (hb : Below B w w') (hB : w.heap.size ≤ B) : Sv w' a k enc l := by
 rcases h with h | ⟨ad, h1, h2, h3⟩
 ·exact .inl h
 ·exact .inr ⟨ad, h1, Nat.lt_of_lt_of_le h2 hb.size, fun i hi j u hu => (hb.cell (by rw [Tp.add_block]; omega)).trans (h3 i hi j u hu)⟩
theorem Sv.then {w w' : World} {a : Option Addr} {l : List α} (h : Sv w a k enc l) (hb : Below w.heap.size w w') : Sv w' a k enc l := h.kept hb nlr
theorem Sv.alloc {w : World} {a : Option Addr} {l : List α} (h : Sv w a k enc l) (o : Obj) : Sv (w.alloc o) a k enc l := h.then ((Below.refl _ _).alloc nlr o)
theorem Sv.exc {S : Nat → Prop} {w w' : World} {a : Option Addr} {l : List α} (h : Sv w a k enc l) (hx : Exc S w w') (hn : ∀ ad, a = some ad → ¬ S ad.block) : Sv w' a k enc l := by
 rcases h with h | ⟨ad, h1, h2, h3⟩
 ·exact .inl h
 ·exact .inr ⟨ad, h1, Nat.lt_of_lt_of_le h2 hx.size, fun i hi j u hu => (World.cell?_of_block (by rw [Tp.add_block]; exact hx.block _ h2 (hn ad h1))).trans (h3 i hi j u hu)⟩
theorem Sv.isSome {w : World} {a : Option Addr} {l : List α} (h : Sv w a k enc l) (hl : 0 < l.length) : ∃ ad, a = some ad ∧ ad.block < w.heap.size := by
 rcases h with h | ⟨ad, h1, h2, _⟩
 ·rw [h] at hl; simp at hl
 ·exact ⟨ad, h1, h2⟩
theorem Sv.of_own [Inhabited α] (hk : ∀ x, (enc x).length = k) {w : World} {base : Nat} {t : TypeId} {a : Option Addr} {c m : Nat} {l : List α} (h : w.ownsRow base t k (.slice a m c) l.length (l.flatMap enc)) :
  Sv w a k enc l ∧ m = l.length ∧ ∀ b, a = some b → base ≤ b.block := by
 have hc := h
 rcases h.2 with ⟨e, hn⟩ | ⟨g, cap, cur, e, hb, hg, _⟩
 ·cases e
  exact ⟨.inl (List.eq_nil_of_length_eq_zero hn), hn.symm, fun _ h => by cases h⟩
 ·cases e
  refine ⟨.inr ⟨⟨g, 0, none⟩, rfl, (hc.lt g rfl).2, fun i hi j u hu => ?_⟩, rfl, fun b h => by cases h; exact hb⟩
  have hj : j < k := by rw [← hk l[i]]; exact (List.getElem?_eq_some_iff.1 hu).1
  have h1 := flatGet hk l i j hi hj
  have e1 : l.getD i default = l[i] := by simp [List.getD_eq_getElem?_getD, List.getElem?_eq_getElem hi]
  rw [e1, hu] at h1
  have hik : i * k + j < l.length * k := by
   have h4 : (i + 1) * k ≤ l.length * k := Nat.mul_le_mul_right k hi
   rw [Nat.succ_mul] at h4
   omega
  have h3 := (hc.cellAt (i * k + j) hik).trans h1
  have e : ∀ m : Nat, (⟨g, 0, none⟩ : Addr).add m = ⟨g, m, none⟩ := fun m => by simp [Addr.add]; exact fun h => h.symm
  rw [e]; exact h3
theorem Sv.run {P : Program} {w : World} {ad : Addr} {l : List α} (h : Sv w (some ad) k enc l) {i : Nat} (hi : i < l.length) (ty : TypeId) (x : α) (hx : l[i]? = some x) (d : TypeDesc) (hk : (enc x).length = k)
  (hu : P.underlying ty = some d) (hd : d.isRow = true) (hsz : (P.info? ty).map (·.size) = some k) : (loadVar ty (ad.add (i * k))).run P w = .ok (.agg (enc x).toArray) w := by
 have ex : l[i] = x := by rw [List.getElem?_eq_getElem hi] at hx; exact Option.some.inj hx
 have hl : (loadCells (ad.add (i * k)) (enc x).length).run P w = .ok (enc x).toArray w := by
  refine run_loadCells_list (P := P) (w := w) (ad.add (i * k)) (enc x) (fun j v hv => ?_)
  rcases h with h | ⟨ad', e, _, hc⟩
  ·rw [h] at hi; simp at hi
  cases e
  have h2 := hc i hi j v (by rw [ex]; exact hv)
  rcases Nat.eq_zero_or_pos j with rfl | h0
  ·have e0 : (ad.add (i * k)).add 0 = ad.add (i * k + 0) := by simp [Addr.add]
   rw [e0]; exact h2
  ·rw [Tp.add_pos _ _ _ omg] at h2
   have e1 : (ad.add (i * k)).add j = ⟨(ad.add (i * k)).block, (ad.add (i * k)).off + j, none⟩ := by
    conv => lhs; unfold Addr.add
    rw [if_neg omg]
    rfl
   rw [e1]; exact h2
 rw [hk] at hl
 cases hq : P.info? ty with
 | none => simp [hq] at hsz
 | some i' =>
  have hs : i'.size = k := by simpa [hq] using hsz
  have hagg : (isAgg ty).run P w = .ok true w := by
   unfold isAgg
   rw [Sem.run_bind, run_underlying hu w]
   cases d <;> simp_all
  simp [loadVar, Sem.run_bind, hagg, sizeOf, typeInfo, hq, hs, hl]
end
end Go.Proofs.YtedolbjgdedoaaaGreatDoor.Kit
namespace Go.Proofs.YtedolbjgdedoaaaGreatDoor.Kit
open Go.RowKit
theorem Bk.put {w : World} {b : Nat} {t : TypeId} {cs cs' : Array Value} (h : Bk w b t cs) (j : Nat) (v : Value) (hv : cs.setIfInBounds j v = cs') : Bk (w.setCell ⟨b, j, none⟩ v) b t cs' := hv ▸ h.set j v
theorem load_bk0 {P : Program} {ops : Array Oper} {rest : List Oper} {op : Oper} {a : Act} {w : World} {Q : Exit → Act → World → Prop} (hgd : op.guard = none) (ty : TypeId) (x : Operand) (ho : op.op = .load ty x) (b : Nat) (hx : a.eval x = .pointer (some ⟨b, 0, none⟩)) {t : TypeId} {cs : Array Value} (hb : Bk w b t cs)
  {d : TypeDesc} (hu : P.underlying ty = some d) (hd : d.isRow = true) (hi : (P.info? ty).map (·.size) = some cs.size) (h : wpList P ops Q rest (a.put op.dst (.agg cs)) w) : wpList P ops Q (op :: rest) a w :=
 load_bk hgd ty x ho b 0 hx cs hb (fun j _ => by rw [Nat.zero_add]) d hu hd hi h
theorem four (w : World) (c0 c1 c2 c3 : Array Value) (t0 t1 t2 t3 : TypeId) :
  (Bk ((((w.alloc (.cells c0 t0)).alloc (.cells c1 t1)).alloc (.cells c2 t2)).alloc (.cells c3 t3)) w.heap.size t0 c0 ∧ Bk ((((w.alloc (.cells c0 t0)).alloc (.cells c1 t1)).alloc (.cells c2 t2)).alloc (.cells c3 t3)) (w.heap.size + 1) t1 c1 ∧
  Bk ((((w.alloc (.cells c0 t0)).alloc (.cells c1 t1)).alloc (.cells c2 t2)).alloc (.cells c3 t3)) (w.heap.size + 2) t2 c2 ∧ Bk ((((w.alloc (.cells c0 t0)).alloc (.cells c1 t1)).alloc (.cells c2 t2)).alloc (.cells c3 t3)) (w.heap.size + 3) t3 c3) ∧
  Below w.heap.size w ((((w.alloc (.cells c0 t0)).alloc (.cells c1 t1)).alloc (.cells c2 t2)).alloc (.cells c3 t3)) ∧ ((((w.alloc (.cells c0 t0)).alloc (.cells c1 t1)).alloc (.cells c2 t2)).alloc (.cells c3 t3)).heap.size = w.heap.size + 4 := by
 have h0 := Bk.new w t0 c0
 have h1 := Bk.new (w.alloc (.cells c0 t0)) t1 c1
 have h2 := Bk.new ((w.alloc (.cells c0 t0)).alloc (.cells c1 t1)) t2 c2
 have h3 := Bk.new (((w.alloc (.cells c0 t0)).alloc (.cells c1 t1)).alloc (.cells c2 t2)) t3 c3
 simp only [World.size_alloc] at h1 h2 h3
 exact ⟨⟨((h0.alloc _).alloc _).alloc _, (h1.alloc _).alloc _, h2.alloc _, h3⟩, ((((Below.refl _ w).alloc nlr _).alloc (by simp) _).alloc (by simp; omega) _).alloc (by simp; omega) _, by simp⟩
theorem upon_store_bk {P : Program} {ev : Operand → Value} {o : Oper} {w : World} (ty : TypeId) (x y : Operand) (ho : o.op = .store ty x y) (b : Nat) (hx : ev x = .pointer (some ⟨b, 0, none⟩)) (vs : Array Value) (hy : ev y = .agg vs) {t : TypeId} {cs : Array Value} (hb : Bk w b t cs)
  (hsz : vs.size = cs.size) (hi : (P.info? ty).map (·.size) = some vs.size) (h1 : vs.all (·.oneCell') = true) {K : Value → World → Prop}
  (h : ∀ W, Bk W b t vs → Exc (fun j => j = b) w W → K undef W) : UponV P K ((execOp ev o).run P w) := by
 have ht : w.there b 0 vs.size := fun j hj => by
  rw [hb.cell, hb.frozen]
  exact ⟨by rw [Array.getElem?_eq_getElem omg]; rfl, rfl⟩
 have hrun := run_storeAt_mid (P := P) w b 0 ty vs ht hi h1
 obtain ⟨c, h2, h3, h4, h5⟩ := heap_setCells b t vs.toList 0 w cs hb
 have hc : c = vs := by
  apply Array.ext_getElem?
  intro i
  by_cases hi2 : i < vs.size
  ·have := h5 i (by simpa using hi2) omg
   rw [Nat.zero_add] at this
   rw [this]; simp
  ·rw [Array.getElem?_eq_none omg, Array.getElem?_eq_none omg]
 rw [hc] at h2
 have := h _ h2 (Exc.setCells (S := fun j => j = b) rfl vs.toList 0 (Exc.refl _ w))
 simp only [execOp, ho, hx, hy]
 simp [hrun, UponV]
 exact this
theorem wpList_run {P : Program} {ops : Array Oper} {rest : List Oper} {op : Oper} {a : Act} {w : World} {Q : Exit → Act → World → Prop} (hgd : op.guard = none) (v : Value) (W : World) (hrun : (execOp a.eval op).run P w = .ok (.value v) W) (h : wpList P ops Q rest (a.put op.dst v) W) : wpList P ops Q (op :: rest) a w :=
 wpList_plain hgd fun _ hK => by
  unfold Oper.wp
  rw [hrun]
  exact hK _ _ h
theorem own_shape {w : World} {base k n : Nat} {t : TypeId} {v : Value} {xs : List Value} (h : w.ownsRow base t k v n xs) : ∃ a c, v = .slice a n c := by
 rcases h.2 with ⟨e, hn⟩ | ⟨g, cap, cur, e, _⟩
 ·exact ⟨none, 0, by rw [e, hn]⟩
 ·exact ⟨_, _, e⟩
theorem own_sl {w : World} {base : Nat} {t : TypeId} {a : Option Addr} {c m k n : Nat} {xs : List Value} {f : Nat → Nat → Value} (h : w.ownsRow base t k (.slice a m c) n xs) (hf : ∀ i j, i < n → j < k → xs[i * k + j]? = some (f i j)) :
  Tp.Sl w a n k f ∧ m = n ∧ ∀ b, a = some b → base ≤ b.block := by
 have hc := h
 rcases h.2 with ⟨e, hn⟩ | ⟨g, cap, cur, e, hb, hg, _⟩
 ·cases e
  exact ⟨.inl hn, hn.symm, fun _ h => by cases h⟩
 ·cases e
  refine ⟨.inr ⟨⟨g, 0, none⟩, rfl, (hc.lt g rfl).2, fun i j hi hj => ?_⟩, rfl, fun b h => by cases h; exact hb⟩
  have h1 := hf i j hi hj
  have hik : i * k + j < m * k := by
   have h4 : (i + 1) * k ≤ m * k := Nat.mul_le_mul_right k hi
   rw [Nat.succ_mul] at h4
   omega
  have h3 := (hc.cellAt (i * k + j) hik).trans h1
  have e : ∀ m : Nat, (⟨g, 0, none⟩ : Addr).add m = ⟨g, m, none⟩ := fun m => by simp [Addr.add]; exact fun h => h.symm
  rw [e]; exact h3
theorem run_bk {P : Program} {w : World} {b : Nat} {t : TypeId} {cs : Array Value} (hb : Bk w b t cs) (ty : TypeId) {d : TypeDesc} (hu : P.underlying ty = some d) (hd : d.isRow = true) (hi : (P.info? ty).map (·.size) = some cs.size) : (loadVar ty ⟨b, 0, none⟩).run P w = .ok (.agg cs) w := by
 have := run_loadVar_mid (P := P) w b 0 ty cs.toList d (hb.range 0 cs (fun j _ => by rw [Nat.zero_add])) hu hd (by simpa using hi)
 simpa using this
theorem wpListIn_run {F : Fence} {n : Nat} {P : Program} {ops : Array Oper} {rest : List Oper} {op : Oper} {a : Act} {w : World} {Q : Exit → Act → World → Prop} (hgd : op.guard = none) (hc : ∀ c, op.op ≠ .call c) (hd : ∀ c, op.op ≠ .defer c) (v : Value) (W : World)
  (hrun : (execOp a.eval op).run P w = .ok (.value v) W) (h : wpListIn F n P ops Q rest (a.put op.dst v) W) : wpListIn F n P ops Q (op :: rest) a w := by
 refine wpListIn_plain hgd fun K hK => ?_
 unfold Oper.wpIn
 refine ⟨fun f hf => ?_, ?_⟩
 ·unfold Oper.about at hf
  split at hf
  ·rename_i c e; exact absurd e (hc c)
  ·cases hf
 ·rw [Oper.semAt_plain F _ _ hd, hrun]
  exact hK _ _ h
theorem wpListIn_run0 {F : Fence} {n : Nat} {P : Program} {ops : Array Oper} {rest : List Oper} {op : Oper} {a : Act} {w : World} {Q : Exit → Act → World → Prop} (hgd : op.guard = none) (hc : ∀ c, op.op ≠ .call c) (hd : ∀ c, op.op ≠ .defer c) (W : World)
  (hrun : (execOp a.eval op).run P w = .ok .skip W) (h : wpListIn F n P ops Q rest (a.put op.dst undef) W) : wpListIn F n P ops Q (op :: rest) a w := by
 refine wpListIn_plain hgd fun K hK => ?_
 unfold Oper.wpIn
 refine ⟨fun f hf => ?_, ?_⟩
 ·unfold Oper.about at hf
  split at hf
  ·rename_i c e; exact absurd e (hc c)
  ·cases hf
 ·rw [Oper.semAt_plain F _ _ hd, hrun]
  exact hK _ _ h
theorem run_store_bk {P : Program} {ev : Operand → Value} {o : Oper} {w : World} (ty : TypeId) (x y : Operand) (ho : o.op = .store ty x y) (b : Nat) (hx : ev x = .pointer (some ⟨b, 0, none⟩)) (vs : Array Value) (hy : ev y = .agg vs) {t : TypeId} {cs : Array Value} (hb : Bk w b t cs)
  (hsz : vs.size = cs.size) (hi : (P.info? ty).map (·.size) = some vs.size) (h1 : vs.all (·.oneCell') = true) : ∃ W, (execOp ev o).run P w = .ok .skip W ∧ Bk W b t vs ∧ Exc (fun j => j = b) w W := by
 have h := upon_store_bk (P := P) ty x y ho b hx vs hy hb hsz hi h1 (K := fun v W => v = undef ∧ Bk W b t vs ∧ Exc (fun j => j = b) w W) (fun W h2 h3 => ⟨rfl, h2, h3⟩)
 have ht : w.there b 0 vs.size := fun j hj => by
  rw [hb.cell, hb.frozen]
  exact ⟨by rw [Array.getElem?_eq_getElem omg]; rfl, rfl⟩
 have hrun := run_storeAt_mid (P := P) w b 0 ty vs ht hi h1
 have e : (execOp ev o).run P w = .ok .skip (w.setCells b 0 vs.toList) := by
  simp only [execOp, ho, hx, hy]
  simp [hrun]
 rw [e] at h
 exact ⟨_, e, h.2⟩
theorem run_load_bk {P : Program} {ev : Operand → Value} {o : Oper} {w : World} (ty : TypeId) (x : Operand) (ho : o.op = .load ty x) (b : Nat) (hx : ev x = .pointer (some ⟨b, 0, none⟩)) {t : TypeId} {cs : Array Value} (hb : Bk w b t cs)
  {d : TypeDesc} (hu : P.underlying ty = some d) (hd : d.isRow = true) (hi : (P.info? ty).map (·.size) = some cs.size) : (execOp ev o).run P w = .ok (.value (.agg cs)) w := by
 simp only [execOp, ho, hx]
 simp [Instr.loadAt, Instr.sureAddr, run_bk hb ty hu hd hi]
theorem run_load_at {P : Program} {ev : Operand → Value} {o : Oper} {w : World} (ty : TypeId) (x : Operand) (ho : o.op = .load ty x) (p : Addr) (hx : ev x = .pointer (some p)) (v : Value) (hrun : (loadVar ty p).run P w = .ok v w) : (execOp ev o).run P w = .ok (.value v) w := by
 simp only [execOp, ho, hx]
 simp [Instr.loadAt, Instr.sureAddr, hrun]
structure Kq (Z : Nat → Prop) (W A : World) : Prop where
 size : W.heap.size ≤ A.heap.size
 blk : ∀ k, Z k → k < W.heap.size ∧ A.heap[k]? = W.heap[k]?
theorem Kq.refl {Z : Nat → Prop} {W : World} (h : ∀ k, Z k → k < W.heap.size) : Kq Z W W := ⟨Nat.le_refl _, fun k hk => ⟨h k hk, rfl⟩⟩
theorem Kq.exc {Z S : Nat → Prop} {W A B : World} (h : Kq Z W A) (hx : Exc S A B) (hS : ∀ k, Z k → ¬ S k) : Kq Z W B :=
 ⟨Nat.le_trans h.size hx.size, fun k hk => ⟨(h.blk k hk).1, (hx.block k (Nat.lt_of_lt_of_le (h.blk k hk).1 h.size) (hS k hk)).trans (h.blk k hk).2⟩⟩
theorem Kq.then {Z : Nat → Prop} {W A B : World} (h : Kq Z W A) (k : Below A.heap.size A B) : Kq Z W B :=
 h.exc (S := fun _ => False) ((Exc.refl _ A).then k) (fun _ _ h => h)
theorem Kq.cell {Z : Nat → Prop} {W A : World} (h : Kq Z W A) {p : Addr} {v : Value} (hp : Z p.block) (hc : W.cell? p = some v) : A.cell? p = some v := (World.cell?_of_block (h.blk _ hp).2).trans hc
theorem Kq.bk {Z : Nat → Prop} {W A : World} (h : Kq Z W A) {b : Nat} {t : TypeId} {cs : Array Value} (hz : Z b) (hb : Bk W b t cs) : Bk A b t cs := (h.blk b hz).2.trans hb
theorem Kq.sv {α : Type} {k : Nat} {enc : α → List Value} {l : List α} {a : Option Addr} {Z : Nat → Prop} {W A : World} (h : Kq Z W A) (hs : Sv W a k enc l) (hz : ∀ ad, a = some ad → Z ad.block) : Sv A a k enc l := by
 rcases hs with hs | ⟨ad, h1, h2, h3⟩
 ·exact .inl hs
 ·exact .inr ⟨ad, h1, Nat.lt_of_lt_of_le h2 h.size, fun i hi j u hu => h.cell (by rw [Tp.add_block]; exact hz ad h1) (h3 i hi j u hu)⟩
theorem wpListIn_store_bk0 {F : Fence} {n : Nat} {P : Program} {ops : Array Oper} {rest : List Oper} {op : Oper} {a : Act} {w : World} {Q : Exit → Act → World → Prop} (hgd : op.guard = none) (ty : TypeId) (x y : Operand) (ho : op.op = .store ty x y) (b : Nat) (hx : a.eval x = .pointer (some ⟨b, 0, none⟩)) (vs : Array Value) (hy : a.eval y = .agg vs) {t : TypeId} {cs : Array Value} (hb : Bk w b t cs)
  (hsz : vs.size = cs.size) (hi : (P.info? ty).map (·.size) = some vs.size) (h1 : vs.all (·.oneCell') = true)
  (h : ∀ W, Bk W b t vs → Exc (fun j => j = b) w W → wpListIn F n P ops Q rest (a.put op.dst undef) W) : wpListIn F n P ops Q (op :: rest) a w := by
 obtain ⟨W, h2, h3, h4⟩ := run_store_bk (P := P) ty x y ho b hx vs hy hb hsz hi h1
 exact wpListIn_run0 hgd (fun c e => by rw [ho] at e; cases e) (fun c e => by rw [ho] at e; cases e) W h2 (h W h3 h4)
end Go.Proofs.YtedolbjgdedoaaaGreatDoor.Kit
