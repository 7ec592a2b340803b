/- Opening data: what a struct's or an array's reading says of its parts. Opening data: types made of integers; slices as lists. Laws: regions walked in the plain calculus, met in the round of a range over a function. -/
import Derived.OpenShut
import Derived.Lib.SmallJoins
import Derived.ProofKit
import Derived.Test.YtedolbjgdedoaaaGreatDoorTp
import Derived.Deep.Slices
import Derived.OrdersIn
import Derived.TacticsIn
import Derived.RangeFuncCalls
import Derived.Test.YtedolbjgdedoaaaGreatDoorKit
set_option linter.unusedSimpArgs false
set_option linter.unusedVariables false
namespace Go.Proofs.YtedolbjgdedoaaaGreatDoor.Kit
open Go.ChangeShapes Go.WideShapes Go.ChangeAt Go.RowKit Go.Joins
variable {H : Type} {enc : TypeId × Value → H} {P : Program} {w : World} {base : Nat} {spare : Nat → Bool} {held : Bool} {fuel : Nat} {t : TypeId} {cs : List Value} {x : DataW H × List MemPlace}

theorem sub_trod {fs : Array Field} (ht : P.underlying t = some (.struct fs)) (h : DataW.trod enc P w base spare held fuel t cs = some x) :
  ∃ ds : List (DataW H), x.1 = .agg ds ∧ ds.length = fs.size ∧ cs.length = P.cellsOf t ∧
   ∀ (i : Nat) (f : Field), fs[i]? = some f → ∃ n y, DataW.trod enc P w base spare held n f.type ((cs.drop f.offset).take (P.cellsOf f.type)) = some y ∧ ds[i]? = some y.1 := by
 obtain ⟨xs, n, _, rfl, hl, hlen, hf⟩ := DataW.trod_struct ht h
 refine ⟨xs.map (·.1), rfl, by simpa using hlen, hl, fun i f hfi => ?_⟩
 have hi : i < xs.length := by rw [hlen]; exact (Array.getElem?_eq_some_iff.1 hfi).1
 exact ⟨n, xs[i], by rw [hf i f hfi]; exact List.getElem?_eq_getElem hi, by simp [hi]⟩
theorem arr_trod {n : Nat} {e : TypeId} (ht : P.underlying t = some (.array n e)) (h : DataW.trod enc P w base spare held fuel t cs = some x) :
  ∃ ds : List (DataW H), x.1 = .agg ds ∧ ds.length = n ∧ cs.length = P.cellsOf t ∧
   ∀ (i : Nat), i < n → ∃ m y, DataW.trod enc P w base spare held m e ((cs.drop (i * P.cellsOf e)).take (P.cellsOf e)) = some y ∧ ds[i]? = some y.1 := by
 obtain ⟨xs, m, _, rfl, hl, hlen, hf⟩ := DataW.trod_array ht h
 refine ⟨xs.map (·.1), rfl, by simpa using hlen, hl, fun i hi => ?_⟩
 have hi' : i < xs.length := by omega
 exact ⟨m, xs[i], by rw [hf i hi]; exact List.getElem?_eq_getElem hi', by simp [hi']⟩
theorem int_at {k : IntKind} {c : Value} {y : DataW H × List MemPlace} (ht : P.underlying t = some (.int k)) (h : DataW.trod enc P w base spare held fuel t [c] = some y) : ∃ n, c = .int k n ∧ y.1 = .lit (.int k n) ∧ (Lit.int k n).wf = true := by
 obtain ⟨n, h1, rfl, hw⟩ := DataW.trod_int ht h
 exact ⟨n, by simpa using h1, rfl, hw⟩
theorem bool_at {c : Value} {y : DataW H × List MemPlace} (ht : P.underlying t = some .bool) (h : DataW.trod enc P w base spare held fuel t [c] = some y) : ∃ n, c = .bool n ∧ y.1 = .lit (.bool n) := by
 obtain ⟨n, h1, rfl⟩ := DataW.trod_bool ht h
 exact ⟨n, by simpa using h1, rfl⟩
end Go.Proofs.YtedolbjgdedoaaaGreatDoor.Kit

namespace Go.Proofs.YtedolbjgdedoaaaGreatDoor.Kit
open Go.ChangeShapes Go.WideShapes Go.ChangeAt Go.RowKit Go.Joins Go.Deep
variable {H : Type} {enc : TypeId × Value → H} {P : Program} {w : World} {base : Nat} {spare : Nat → Bool} {held : Bool} {fuel : Nat} {t : TypeId} {cs : List Value} {x : DataW H × List MemPlace}

def flat (P : Program) : Nat → TypeId → Bool
 | 0, _ => false
 | n + 1, t => match P.underlying t with
  | some (.int k) => decide (k = .i64) && decide (P.cellsOf t = 1)
  | some (.struct fs) => fs.toList.all (fun f => flat P n f.type) && (List.range (P.cellsOf t)).all fun j => fs.toList.any fun f => decide (f.offset ≤ j) && decide (j < f.offset + P.cellsOf f.type)
  | some (.array m e) => flat P n e && decide (P.cellsOf t = m * P.cellsOf e)
  | _ => false
theorem flat_at : ∀ (n : Nat) {fuel : Nat} {t : TypeId} {cs : List Value} {x : DataW H × List MemPlace}, flat P n t = true → DataW.trod enc P w base spare held fuel t cs = some x →
  cs.length = P.cellsOf t ∧ ∀ j, j < P.cellsOf t → ∃ z : Int, cs[j]? = some (.int .i64 z) ∧ (Lit.int .i64 z).wf = true
 | 0, _, _, _, _, h, _ => by simp [flat] at h
 | n + 1, fuel, t, cs, x, h, hd => by
  unfold flat at h
  split at h
  ·rename_i k ht
   simp only [Bool.and_eq_true, decide_eq_true_eq] at h
   obtain ⟨rfl, hc⟩ := h
   obtain ⟨z, rfl, _, hw⟩ := DataW.trod_int ht hd
   refine ⟨by simp [hc], fun j hj => ⟨z, ?_, hw⟩⟩
   obtain rfl : j = 0 := by omega
   rfl
  ·rename_i fs ht
   simp only [Bool.and_eq_true, List.all_eq_true, List.any_eq_true, decide_eq_true_eq, List.mem_range] at h
   obtain ⟨_, _, _, hc, hf⟩ := sub_trod ht hd
   refine ⟨hc, fun j hj => ?_⟩
   obtain ⟨f, hfm, h1, h2⟩ := h.2 j hj
   obtain ⟨i, hi⟩ := List.getElem?_of_mem hfm
   obtain ⟨m, y, hy, _⟩ := hf i f (by simpa using hi)
   obtain ⟨_, hz⟩ := flat_at n (h.1 f hfm) hy
   obtain ⟨z, e, hw⟩ := hz (j - f.offset) omg
   refine ⟨z, ?_, hw⟩
   rw [List.getElem?_take_of_lt omg, List.getElem?_drop, show f.offset + (j - f.offset) = j by omega] at e
   exact e
  ·rename_i m e ht
   simp only [Bool.and_eq_true, decide_eq_true_eq] at h
   obtain ⟨_, _, _, hc, hf⟩ := arr_trod ht hd
   refine ⟨hc, fun j hj => ?_⟩
   have hpos : 0 < P.cellsOf e := by
    rcases Nat.eq_zero_or_pos (P.cellsOf e) with h0 | h0
    ·rw [h.2, h0] at hj; omega
    ·exact h0
   have hdm := Nat.div_add_mod j (P.cellsOf e)
   have hml := Nat.mod_lt j hpos
   have hi : j / P.cellsOf e < m := Nat.div_lt_of_lt_mul (by rw [Nat.mul_comm, ← h.2]; exact hj)
   obtain ⟨q, y, hy, _⟩ := hf _ hi
   obtain ⟨_, hz⟩ := flat_at n h.1 hy
   obtain ⟨z, e2, hw⟩ := hz (j % P.cellsOf e) hml
   refine ⟨z, ?_, hw⟩
   rw [List.getElem?_take_of_lt hml, List.getElem?_drop] at e2
   rw [Nat.mul_comm] at hdm
   rwa [hdm] at e2
  ·simp at h
theorem flat_ints {n : Nat} (h : flat P n t = true) (hd : DataW.trod enc P w base spare held fuel t cs = some x) :
  ∃ zs : List Int, zs.length = P.cellsOf t ∧ cs = zs.map (.int .i64) ∧ ∀ z ∈ zs, (Lit.int .i64 z).wf = true := by
 obtain ⟨hl, hc⟩ := flat_at n h hd
 rw [← hl] at hc
 clear hd h
 suffices hk : ∀ l : List Value, (∀ j, j < l.length → ∃ z : Int, l[j]? = some (.int .i64 z) ∧ (Lit.int .i64 z).wf = true) → ∃ zs : List Int, l = zs.map (.int .i64) ∧ ∀ z ∈ zs, (Lit.int .i64 z).wf = true by
  obtain ⟨zs, rfl, hw⟩ := hk cs hc
  exact ⟨zs, by rw [← hl]; simp, rfl, hw⟩
 intro l
 induction l with
 | nil => exact fun _ => ⟨[], rfl, fun _ h => by cases h⟩
 | cons a l ih =>
  intro h
  obtain ⟨z, e, hw⟩ := h 0 (by simp)
  obtain ⟨zs, rfl, hws⟩ := ih (fun j hj => by have := h (j + 1) (by simpa using hj); simpa using this)
  refine ⟨z :: zs, ?_, fun y hy => ?_⟩
  ·have : a = .int .i64 z := by simpa using e
   rw [this]; rfl
  ·rcases List.mem_cons.1 hy with rfl | hy
   ·exact hw
   ·exact hws y hy

theorem sl_congr {a : Option Addr} {n k : Nat} {f g : Nat → Nat → Value} (h : ∀ i j, i < n → j < k → f i j = g i j) (hs : Tp.Sl w a n k f) : Tp.Sl w a n k g := by
 rcases hs with h0 | ⟨ad, h1, h2, h3⟩
 ·exact .inl h0
 ·exact .inr ⟨ad, h1, h2, fun i j hi hj => by rw [h3 i j hi hj, h i j hi hj]⟩

theorem slice_list {α : Type} (dflt : α) {e : TypeId} (ht : P.underlying t = some (.slice e)) {k : Nat} (hk : P.cellsOf e = k) (hk0 : 0 < k) (hB : 0 < P.bytesOf e) (F : α → List Value)
  (hF : ∀ (n : Nat) (cs : List Value) (y : DataW H × List MemPlace), DataW.trod enc P w base spare held n e cs = some y → ∃ a, cs = F a)
  (h : DataW.trod enc P w base spare held fuel t cs = some x) (hw : ∀ m ∈ x.1.weights P t, m ≤ reachBytes) :
  ∃ (ad : Option Addr) (l : List α) (cap : Nat), cs = [.slice ad l.length cap] ∧ l.length ≤ cap ∧ Tp.Sl w ad l.length k (fun i j => (F (l.getD i dflt)).getD j (.bool false)) ∧ l.length ≤ 4611686018427387904 := by
 haveI : Inhabited α := ⟨dflt⟩
 rcases open_slice ht h with ⟨rfl, rfl⟩ | ⟨a, len, cap, m, n, D, Pl, rfl, _, hl, hm, hmm, rfl, hx⟩
 ·exact ⟨none, [], 0, rfl, Nat.le_refl _, .inl rfl, by simp⟩
 ·have hlm : len ≤ m := by rw [hmm]; split <;> omega
  have hbound : len ≤ 4611686018427387904 := by
   have h1 := hw _ (by rw [DataW.weights]; simp only [ht]; exact List.mem_cons_self ..)
   simp only [List.length_map, List.length_range] at h1
   have h2 : len ≤ reachBytes := Nat.le_trans (Nat.le_trans omg (Nat.le_mul_of_pos_right _ hB)) h1
   exact Nat.le_trans h2 (by decide)
  obtain ⟨A, hA⟩ := choose_lt (α := α) (p := fun i v => w.cells? base (a.add (i * P.cellsOf e)) (P.cellsOf e) = some (F v)) (fun i hi => by
   obtain ⟨cs', h1, h2⟩ := hx i hi
   obtain ⟨v, rfl⟩ := hF _ _ _ h2
   exact ⟨v, h1⟩)
  refine ⟨some a, (List.range len).map A, cap, by simp, by simpa using hl, ?_, by simpa using hbound⟩
  rw [List.length_map, List.length_range]
  rcases Nat.eq_zero_or_pos len with h0 | h0
  ·exact .inl h0
  have cell : ∀ i j, i < len → j < k → w.cell? (a.add (i * k + j)) = some ((F (((List.range len).map A).getD i dflt)).getD j (.bool false)) := by
   intro i j hi hj
   obtain ⟨_, hlen, hget⟩ := World.cells?_some (hA i omg)
   rw [hk] at hlen hget
   have hg := hget j hj
   have hadd : (a.add (i * k)).add j = a.add (i * k + j) := by
    rcases Nat.eq_zero_or_pos j with hj0 | hj0
    ·subst hj0; simp [Addr.add]
    ·rw [Tp.add_pos _ _ _ omg]
     rw [Addr.add, if_neg omg]
   rw [hadd] at hg
   rw [hg]
   simp [List.getD, hi, hj, hlen]
  refine .inr ⟨a, rfl, ?_, cell⟩
  have hc := cell 0 0 h0 hk0
  have : (a.add (0 * k + 0)).block = a.block := Tp.add_block _ _
  unfold World.cell? at hc
  rw [this] at hc
  rcases Nat.lt_or_ge a.block w.heap.size with hlt | hge
  ·exact hlt
  ·rw [Array.getElem?_eq_none hge] at hc
   simp at hc

theorem weightsEach_at : ∀ {ts : List TypeId} {ds : List (DataW H)} {i : Nat} {u : TypeId} {d : DataW H}, ts[i]? = some u → ds[i]? = some d → ∀ m ∈ d.weights P u, m ∈ DataW.weightsEach P ts ds
 | [], _, _, _, _, h, _ => by simp at h
 | _ :: _, [], _, _, _, _, h => by simp at h
 | t :: ts, d :: ds, 0, u, d', h1, h2 => by
  simp only [List.getElem?_cons_zero, Option.some.injEq] at h1 h2
  subst h1 h2
  intro m hm
  rw [DataW.weightsEach]
  exact List.mem_append_left _ hm
 | t :: ts, d :: ds, i + 1, u, d', h1, h2 => by
  intro m hm
  rw [DataW.weightsEach]
  exact List.mem_append_right _ (weightsEach_at (ts := ts) (ds := ds) (by simpa using h1) (by simpa using h2) m hm)
theorem weights_part {fs : Array Field} (ht : P.underlying t = some (.struct fs)) {ds : List (DataW H)} {N : Nat} (h : ∀ m ∈ (DataW.agg ds).weights P t, m ≤ N) {i : Nat} {f : Field} (hf : fs[i]? = some f) {d : DataW H} (hd : ds[i]? = some d) :
  ∀ m ∈ d.weights P f.type, m ≤ N := fun m hm => h m (by
 rw [DataW.weights]
 simp only [ht]
 exact weightsEach_at (ts := fs.toList.map (·.type)) (i := i) (by simp [hf]) hd m hm)
end Go.Proofs.YtedolbjgdedoaaaGreatDoor.Kit

namespace Go.Proofs.YtedolbjgdedoaaaGreatDoor.Kit
open Go.RowKit

section
variable {l n : Nat} {P : Program} {Q : Exit → Act → World → Prop}
theorem wpIn_name {F : Fence} {c : Code} {a : Act} {w : World} (h : ∀ W, W = w → c.wpIn F n P Q a W) : c.wpIn F n P Q a w := h w rfl
end
end Go.Proofs.YtedolbjgdedoaaaGreatDoor.Kit
