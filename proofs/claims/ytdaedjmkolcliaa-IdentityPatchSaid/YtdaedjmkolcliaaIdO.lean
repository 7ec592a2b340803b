/- Slices of slices: as they are handed in, and as one's own. -/
import Derived.Test.YtdaedjmkolcliaaIdN
namespace Go.Proofs.Ytdaedjmkolcliaa
set_option linter.unusedVariables false
set_option linter.unusedSimpArgs false
open Go.RowKit Go.Shelf

namespace Id
/-- A slice of slices, with elements of k cells. -/
def Sls {α : Type} (w : World) (a : Option Addr) (k : Nat) (f : List α → Nat → Nat → Value) (L : List (List α)) : Prop :=
  L.length = 0 ∨ ∃ ad, a = some ad ∧ ad.block < w.heap.size ∧ ∀ i, i < L.length → ∃ ai ci, w.cell? (ad.add i) = some (.slice ai (L.getD i []).length ci) ∧ Tp.Sl w ai (L.getD i []).length k (f (L.getD i []))
theorem Sls.kept {α : Type} {w w' : World} {a : Option Addr} {k : Nat} {f : List α → Nat → Nat → Value} {L : List (List α)} (h : Sls w a k f L) {B : Nat} (hb : Below B w w') (hB : w.heap.size ≤ B) : Sls w' a k f L := by
  rcases h with h | ⟨ad, h1, h2, h3⟩
  · exact .inl h
  · refine .inr ⟨ad, h1, Nat.lt_of_lt_of_le h2 hb.size, fun i hi => ?_⟩
    obtain ⟨ai, ci, h4, h5⟩ := h3 i hi
    exact ⟨ai, ci, (hb.cell (by rw [Tp.add_block]; omega)).trans h4, h5.kept hb hB⟩
theorem Sls.at {α : Type} {w : World} {a : Option Addr} {k : Nat} {f : List α → Nat → Nat → Value} {L : List (List α)} (h : Sls w a k f L) {i : Nat} (hi : i < L.length) :
    ∃ ad, a = some ad ∧ ad.block < w.heap.size ∧ ∃ ai ci, w.cell? (ad.add i) = some (.slice ai (L.getD i []).length ci) ∧ Tp.Sl w ai (L.getD i []).length k (f (L.getD i [])) := by
  rcases h with h | ⟨ad, h1, h2, h3⟩
  · omega
  · exact ⟨ad, h1, h2, h3 i hi⟩
/-- Rows of one's own, the slices vs, that hold M. -/
def Rows (B : Nat) (w : World) (e : TypeId) (vs : List Value) (M : List (List Value)) : Prop :=
  vs.length = M.length ∧ ∀ i, i < M.length → ∃ a c, vs[i]? = some (.slice a (M.getD i []).length c) ∧ w.ownsRow B e 1 (.slice a (M.getD i []).length c) (M.getD i []).length (M.getD i [])
theorem own_below {w w' : World} {s e k n : Nat} {v : Value} {xs : List Value} (h : w.ownsRow s e k v n xs) (hb : Below w.heap.size w w') : w'.ownsRow s e k v n xs :=
  own_kept h fun g hg => hb.block g (h.lt g hg).2
theorem Rows.nil (B : Nat) (w : World) (e : TypeId) : Rows B w e [] [] := ⟨rfl, fun i hi => by simp at hi⟩
theorem Rows.thn {B : Nat} {w w' : World} {e : TypeId} {vs : List Value} {M : List (List Value)} (h : Rows B w e vs M) (hb : Below w.heap.size w w') : Rows B w' e vs M :=
  ⟨h.1, fun i hi => by obtain ⟨a, c, h1, h2⟩ := h.2 i hi; exact ⟨a, c, h1, own_below h2 hb⟩⟩
theorem own_ne {w : World} {s s' e e' k k' n n' : Nat} {v v' : Value} {xs xs' : List Value} (h : w.ownsRow s e k v n xs) (h' : w.ownsRow s' e' k' v' n' xs') (he : e ≠ e') : v.ownBlock = none ∨ v.ownBlock ≠ v'.ownBlock := by
  rcases h.2 with ⟨rfl, _⟩ | ⟨g, cap, cur, rfl, _, hg, _⟩
  · exact .inl rfl
  · refine .inr fun e0 => ?_
    rcases h'.2 with ⟨rfl, _⟩ | ⟨g', cap', cur', rfl, _, hg', _⟩
    · cases e0
    · cases e0
      rw [hg] at hg'
      cases hg'
      exact he rfl
theorem Rows.grown {B : Nat} {w w' : World} {e : TypeId} {vs : List Value} {M : List (List Value)} (h : Rows B w e vs M) {s' e' k' n' : Nat} {v' : Value} {xs' : List Value} (ho : w.ownsRow s' e' k' v' n' xs') (he : e ≠ e') (hg : w.grownBy w' v'.ownBlock) : Rows B w' e vs M :=
  ⟨h.1, fun i hi => by obtain ⟨a, c, h1, h2⟩ := h.2 i hi; exact ⟨a, c, h1, h2.kept hg (own_ne h2 ho he)⟩⟩
theorem Rows.snoc {B : Nat} {w : World} {e : TypeId} {vs : List Value} {M : List (List Value)} (h : Rows B w e vs M) {a : Option Addr} {c : Nat} {m : List Value} (ho : w.ownsRow B e 1 (.slice a m.length c) m.length m) : Rows B w e (vs ++ [.slice a m.length c]) (M ++ [m]) := by
  refine ⟨by simp [h.1], fun i hi => ?_⟩
  by_cases hlt : i < M.length
  · obtain ⟨a', c', h1, h2⟩ := h.2 i hlt
    have e1 : (M ++ [m]).getD i [] = M.getD i [] := by simp [List.getD, List.getElem?_append_left hlt]
    rw [e1]
    exact ⟨a', c', by rw [List.getElem?_append_left (by rw [h.1]; exact hlt)]; exact h1, h2⟩
  · obtain rfl : i = M.length := by simp at hi; omega
    have e1 : (M ++ [m]).getD M.length [] = m := by simp [List.getD]
    rw [e1]
    exact ⟨a, c, by simp [← h.1], ho⟩
/-- A slice of rows of one's own, as a slice of slices. -/
theorem rows_sls {α : Type} {B s : Nat} {w : World} {e e' : TypeId} {a : Option Addr} {c m n : Nat} {vs : List Value} {L : List (List α)} {f : List α → Nat → Nat → Value} {g : List α → List Value} (ho : w.ownsRow s e' 1 (.slice a m c) n vs) (hr : Rows B w e vs (L.map g)) (hn : n = L.length)
    (hl : ∀ l, (g l).length = l.length) (hg : ∀ l i j, i < l.length → j < 1 → (g l)[i * 1 + j]? = some (f l i j)) : Sls w a 1 f L := by
  subst hn
  rcases Nat.eq_zero_or_pos L.length with h0 | h0
  · exact .inl h0
  obtain ⟨h1, h2, h3⟩ := own_sl ho (f := fun i j => vs.getD (i * 1 + j) undef) (fun i j hi hj => by
    have h5 := hr.1
    rw [List.length_map] at h5
    rw [List.getD_eq_getElem?_getD, List.getElem?_eq_getElem (by omega)]; rfl)
  rcases h1 with h1 | ⟨ad, h4, h5, h6⟩
  · omega
  refine .inr ⟨ad, h4, h5, fun i hi => ?_⟩
  obtain ⟨ai, ci, h7, h8⟩ := hr.2 i (by simpa using hi)
  have e1 : (L.map g).getD i [] = g (L.getD i []) := by
    simp [List.getD, List.getElem?_map, List.getElem?_eq_getElem hi]
  rw [e1, hl] at h7 h8
  refine ⟨ai, ci, ?_, (own_sl h8 (hg _)).1⟩
  have h9 := h6 i 0 hi (by omega)
  simp only [Nat.mul_one, Nat.add_zero] at h9
  rw [h9, List.getD_eq_getElem?_getD, h7]
  rfl
theorem ints_len (l : List Int) : (ints l).length = l.length := by simp [ints]
end Id
end Go.Proofs.Ytdaedjmkolcliaa
