/- The library's SortFunc at structs, at a row of one's own: told once, whatever the structs; the comparison told by 'Below'. -/
import Derived.Test.YtdaedjmkolcliaaKit
import Derived.Test.YtdaedjmkolcliaaKity
import Derived.Shelf.SlSortCmp.NoneTotal
namespace Go.Proofs.Ytdaedjmkolcliaa.Kit
set_option linter.unusedVariables false
set_option linter.unusedSimpArgs false
open Go.RowKit Go.Shelf Go.Lib Go.Sort

section
variable {P : Program} {ρ : Ren} {α : Type}
theorem flat_len (enc : α → List Value) (k : Nat) (hk : ∀ x, (enc x).length = k) (l : List α) : (l.flatMap enc).length = l.length * k := by
  induction l with
  | nil => simp
  | cons s l ih => simp only [List.flatMap_cons, List.length_append, List.length_cons, hk, ih, Nat.add_mul]; omega
variable [Inhabited α]
theorem flat_get (enc : α → List Value) (k : Nat) (hk : ∀ x, (enc x).length = k) : ∀ (l : List α) (i j : Nat), i < l.length → j < k → (l.flatMap enc)[i * k + j]? = (enc (l.getD i default))[j]?
  | s :: l, 0, j, _, hj => by
    rw [List.flatMap_cons, List.getElem?_append_left (by rw [hk]; omega)]
    simp
  | s :: l, i + 1, j, hi, hj => by
    rw [List.flatMap_cons, List.getElem?_append_right (by rw [hk, Nat.add_mul]; omega)]
    have h2 : (i + 1) * k + j - (enc s).length = i * k + j := by rw [hk, Nat.add_mul]; omega
    rw [h2, flat_get enc k hk l i j (by simpa using hi) hj]
    simp
theorem flatK_get' (enc : α → List Value) (k : Nat) (hk : ∀ x, (enc x).length = k) (d : Array α) (t : Nat) (h : t < d.size * k) : some ((flatK enc k d)[t]!) = (d.toList.flatMap enc)[t]? := by
  have hk0 : 0 < k := by
    rcases Nat.eq_zero_or_pos k with e | e
    · rw [e] at h; omega
    · exact e
  have hq : t / k < d.size := Nat.div_lt_of_lt_mul (by rw [Nat.mul_comm]; exact h)
  have hr : t % k < k := Nat.mod_lt _ hk0
  rw [get_flatK _ _ _ _ h]
  have h1 := flat_get enc k hk d.toList (t / k) (t % k) (by simpa using hq) hr
  rw [show t / k * k + t % k = t by rw [Nat.mul_comm]; exact Nat.div_add_mod t k] at h1
  rw [h1]
  have h2 : d.toList.getD (t / k) default = d[t / k]! := by
    simp [List.getD, hq]
  rw [h2]
  have h4 : t % k < (enc d[t / k]!).length := by rw [hk]; exact hr
  rw [List.getElem?_eq_getElem h4, getElem!_pos (enc d[t / k]!) (t % k) h4]
theorem row_sorted (enc : α → List Value) (k : Nat) {w : World} {g n : Nat} {cur : Array Value} {t : TypeId} {d : Array α} {os : Array Obj} (hg : w.heap[g]? = some (.cells cur t (0, 0))) :
    (sortWorldK enc k w g 0 n d os).heap[g]? = some (.cells (putCells id 0 (flatK enc k d) cur) t (0, 0)) := by
  have hlt := (Array.getElem?_eq_some_iff.1 hg).1
  show ((w.heap.modify g (onCells (putCells id 0 (flatK enc k d)))) ++ os)[g]? = _
  rw [Array.getElem?_append_left (by simpa using hlt), Array.getElem?_modify, if_pos rfl, hg]
  rfl
theorem row_exc (enc : α → List Value) (k : Nat) (w : World) (g n : Nat) (d : Array α) (os : Array Obj) : Kit.Exc (fun q => q = g) w (sortWorldK enc k w g 0 n d os) := by
  refine ⟨rfl, rfl, rfl, ?_, fun q hq hn => ?_⟩
  · show w.heap.size ≤ ((w.heap.modify g (onCells (putCells id 0 (flatK enc k d)))) ++ os).size
    simp
  · show ((w.heap.modify g (onCells (putCells id 0 (flatK enc k d)))) ++ os)[q]? = _
    rw [Array.getElem?_append_left (by simpa using hq), Array.getElem?_modify, if_neg (fun e => hn e.symm)]
theorem sorted_pair (lt : α → α → Bool) (d : Array α) (hs : SortedIn lt 0 d.size d) : d.toList.Pairwise fun a b => lt b a = false := by
  rw [List.pairwise_iff_getElem]
  intro i j hi hj hij
  have hi' : i < d.size := by simpa using hi
  have hj' : j < d.size := by simpa using hj
  have h := hs i j (Nat.zero_le _) hij hj'
  rw [getElem!_pos d i hi', getElem!_pos d j hj'] at h
  simpa using h
set_option maxHeartbeats 1000000 in
/-- SortFunc of a row of one's own: a permutation, in order; nothing else has changed. -/
theorem sort_own (L : Go.Proofs.SlLaysF0.n6 P ρ) (k : Nat) (aE : ∀ w, (isAgg (ρ.t 24)).run P w = .ok true w) (zE : ∀ w, (Go.sizeOf (ρ.t 24)).run P w = .ok k w) (enc : α → List Value) (hk : ∀ x, (enc x).length = k) (h1 : ∀ x, ∀ v ∈ enc x, v.oneCell' = true)
    (cf : α → α → Int) (hO : SWO (ltOf cf)) (g0 : Nat) (eg : ∀ args w, (callFunc g0 args).run P w = .ok (.enter g0 args) w)
    (hcmp : ∀ (x y : α) (W : World), Calls P g0 #[.agg (enc x).toArray, .agg (enc y).toArray] W fun e w' => e = .returned (.int .i64 (cf x y)) ∧ RowKit.Below W.heap.size W w')
    (v : Value) (s : Nat) (T : TypeId) (l : List α) (w : World) (hb : l.length ≤ 1000000000) (hS : w.ownsRow s T k v l.length (l.flatMap enc)) :
    Calls P (ρ.f 6) #[v, .func (.func g0) #[] #[]] w
      fun e w' => e = .returned (.tuple #[]) ∧ ∃ l' : List α, l'.Perm l ∧ (l'.Pairwise fun a b => ltOf cf b a = false) ∧ w'.ownsRow s T k v l'.length (l'.flatMap enc) ∧ Kit.Exc (fun q => v.ownBlock = some q) w w' := by
  rcases hS.2 with ⟨rfl, hl⟩ | ⟨g, cap, cur, rfl, hg, hh, h2, h3, h4, h5⟩
  · obtain rfl := List.eq_nil_of_length_eq_zero hl
    refine (AnyF.slices_SortFunc_none L none 0 _ w).mono ?_
    rintro e w' ⟨rfl, rfl⟩
    exact ⟨rfl, [], List.Perm.refl _, List.Pairwise.nil, hS, Kit.Exc.refl _ _⟩
  · have hlt := (Array.getElem?_eq_some_iff.1 hh).1
    have hfl := flat_len enc k hk l
    have hH : HoldsK enc k w g 0 l.toArray := fun j hj => by
      rw [size_flatK, List.size_toArray] at hj
      refine ⟨?_, frozen_of_row _ _ _ _ _ hh⟩
      have e1 := flatK_get' enc k hk l.toArray j (by simpa using hj)
      simp only [World.cell?, hh, Nat.zero_add]
      rw [show id ((flatK enc k l.toArray)[j]!) = (flatK enc k l.toArray)[j]! from rfl, e1, ← h5, List.getElem?_take_of_lt (by omega)]
      simp
    have hcon := AnyQ.slices_SortFunc L k aE zE enc hk h1 cf hO g0 #[] g 0 cap l.toArray w eg (fun _ _ _ _ x y => Dr.calls_lays (hcmp x y _)) hH hlt (by simp; omega)
    refine hcon.mono ?_
    rintro e w' ⟨rfl, d', n, os, hp, hs, rfl⟩
    have hsz : d'.size = l.length := by simpa using hp.1
    have hex := row_exc enc k w g n d' os
    have hfl' := flat_len enc k hk d'.toList
    refine ⟨rfl, d'.toList, ?_, sorted_pair _ d' (by rw [hsz]; simpa using hs), ⟨hfl', .inr ⟨g, cap, putCells id 0 (flatK enc k d') cur, by simp [hsz], hg, row_sorted enc k hh, by simpa [hsz] using h2, h3, by simp [putCells, h4], ?_⟩⟩, hex.mono (fun q _ e => by simp [Value.ownBlock, e])⟩
    · have := hp.2.2
      have e1 : d'.extract 0 l.toArray.size = d' := by rw [← hp.1]; simp
      have e2 : l.toArray.extract 0 l.toArray.size = l.toArray := by simp
      rw [e1, e2] at this
      simpa using this
    · apply List.ext_getElem?
      intro p
      simp only [Array.length_toList] at hfl'
      have hmul : d'.size * k = l.length * k := by rw [hsz]
      by_cases hpp : p < d'.size * k
      · have e1 := flatK_get' enc k hk d' p hpp
        rw [List.getElem?_take_of_lt (by simpa using hpp), ← e1]
        have e2 : p < cur.size := by have := Nat.mul_le_mul_right k h2; omega
        simp [putCells, e2, hpp]
      · rw [List.getElem?_take_eq_none (by simp; omega), List.getElem?_eq_none (by rw [hfl']; omega)]
end
end Go.Proofs.Ytdaedjmkolcliaa.Kit
