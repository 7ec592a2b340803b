/- Plain facts of layer 45: one round of steps. -/
import Derived.Test.YtdaedjmkolcliaaIdC
namespace Go.Proofs.Ytdaedjmkolcliaa
set_option linter.unusedVariables false
set_option linter.unusedSimpArgs false
open Go.RowKit

namespace Id
/-- Was it found from the first q of a list, or from the next one, up to kk? -/
def hit (g : Nat → Nat → Bool) (N : List Nat) (q kk k : Nat) : Bool := (N.take q).any (fun i => g i k) || (decide (k < kk) && g (N.getD q 0) k)
theorem hit_row (g : Nat → Nat → Bool) (N : List Nat) (q k n : Nat) (hq : q < N.length) (hk : k < n) : hit g N q n k = hit g N (q + 1) 0 k := by
  have h1 : N.take (q + 1) = N.take q ++ [N.getD q 0] := by
    rw [List.take_add_one, List.getD_eq_getElem?_getD, List.getElem?_eq_getElem hq]; rfl
  simp [hit, h1, hk]
def upd (a : Nat → Int) (k : Nat) (v : Int) (j : Nat) : Int := if j = k then v else a j
/-- What stands in a round of steps. -/
structure StI (n : Nat) (g : Nat → Nat → Bool) (to d : Nat) (N : List Nat) (q kk : Nat) (a : Nat → Int) (X : List Nat) : Prop where
  av : ∀ k, k < n → a k = if 0 ≤ aw n g to d k then aw n g to d k else if hit g N q kk k = true then (d : Int) + 1 else -1
  mem : ∀ k, k ∈ X ↔ k < n ∧ aw n g to d k < 0 ∧ hit g N q kk k = true
  cnt : X.length + ((List.range n).filter fun k => decide (a k < 0)).length ≤ n
variable {n : Nat} {g : Nat → Nat → Bool} {to d : Nat} {N : List Nat} {q kk k : Nat} {a : Nat → Int} {X : List Nat}
theorem StI.start (h : ∀ k, k < n → a k = aw n g to d k) : StI n g to d N 0 0 a [] := by
  have h0 : ∀ k, hit g N 0 0 k = false := fun k => by simp [hit]
  refine ⟨fun k hk => ?_, fun k => by simp [h0], by
    have := List.length_filter_le (fun k => decide (a k < 0)) (List.range n)
    simpa using this⟩
  rw [h k hk, h0]
  split
  · rfl
  · rcases aw_bd (n := n) (g := g) (to := to) d k with h1 | h1
    · simp [h1]
    · omega
theorem hit_succ (g : Nat → Nat → Bool) (N : List Nat) (q k j : Nat) : hit g N q (k + 1) j = (hit g N q k j || (decide (j = k) && g (N.getD q 0) k)) := by
  by_cases hj : j = k
  · subst hj
    simp [hit]
  · have : decide (j < k + 1) = decide (j < k) := by
      apply decide_eq_decide.2; omega
    simp [hit, hj, this]
theorem StI.lt0 (h : StI n g to d N q kk a X) (hk : k < n) : a k < 0 ↔ aw n g to d k < 0 ∧ hit g N q kk k = false := by
  rw [h.av k hk]
  by_cases h1 : 0 ≤ aw n g to d k
  · rw [if_pos h1]
    exact ⟨fun h2 => by omega, fun h2 => by omega⟩
  · rw [if_neg h1]
    rcases hit g N q kk k with _ | _
    · simp; omega
    · simp; omega
theorem StI.yes (h : StI n g to d N q k a X) (hk : k < n) (hg : g (N.getD q 0) k = true) (ha : a k < 0) : StI n g to d N q (k + 1) (upd a k ((d : Int) + 1)) (X ++ [k]) := by
  have h1 := (h.lt0 hk).1 ha
  have hg' : g (N[q]?.getD 0) k = true := by simpa using hg
  refine ⟨fun j hj => ?_, fun j => ?_, ?_⟩
  · by_cases e : j = k
    · subst e
      rw [hit_succ, upd, if_pos rfl, if_neg (by omega)]
      simp [hg']
    · rw [hit_succ, upd, if_neg e, h.av j hj]
      simp [e]
  · rw [List.mem_append, h.mem, hit_succ]
    by_cases e : j = k
    · subst e
      simp [hg', h1.1, hk]
    · simp [e]
  · have h2 : ((List.range n).filter fun j => decide (upd a k ((d : Int) + 1) j < 0)).length + 1 ≤ ((List.range n).filter fun j => decide (a j < 0)).length := by
      refine filt_lt (fun j _ hj => ?_) ⟨k, by simpa using hk, by simpa using ha, by simp [upd]; omega⟩
      by_cases e : j = k
      · subst e; simpa using ha
      · simpa [upd, e] using hj
    have h3 := h.cnt
    simp only [List.length_append, List.length_cons, List.length_nil]
    omega
theorem StI.no (h : StI n g to d N q k a X) (hk : k < n) (hg : ¬(g (N.getD q 0) k = true ∧ a k < 0)) : StI n g to d N q (k + 1) a X := by
  have e1 : ∀ j, j < n → aw n g to d j < 0 → hit g N q (k + 1) j = hit g N q k j := by
    intro j hj h0
    rw [hit_succ]
    by_cases e : j = k
    · subst e
      rcases hgg : g (N.getD q 0) j with _ | _
      · simp
      · have h2 : ¬ a j < 0 := fun h => hg ⟨hgg, h⟩
        rw [h.lt0 hk] at h2
        rcases hh : hit g N q j j with _ | _
        · exact absurd ⟨h0, hh⟩ h2
        · simp
    · simp [e]
  refine ⟨fun j hj => ?_, fun j => ?_, h.cnt⟩
  · rw [h.av j hj]
    by_cases h0 : 0 ≤ aw n g to d j
    · rw [if_pos h0, if_pos h0]
    · rw [if_neg h0, if_neg h0, e1 j hj (by omega)]
  · rw [h.mem]
    constructor
    · rintro ⟨h1, h2, h3⟩
      exact ⟨h1, h2, by rw [e1 j h1 h2]; exact h3⟩
    · rintro ⟨h1, h2, h3⟩
      exact ⟨h1, h2, by rw [← e1 j h1 h2]; exact h3⟩
theorem StI.row (h : StI n g to d N q n a X) (hq : q < N.length) : StI n g to d N (q + 1) 0 a X :=
  ⟨fun k hk => by rw [h.av k hk, hit_row g N q k n hq hk], fun k => by
    rw [h.mem]
    constructor
    · rintro ⟨h1, h2, h3⟩; exact ⟨h1, h2, by rw [← hit_row g N q k n hq h1]; exact h3⟩
    · rintro ⟨h1, h2, h3⟩; exact ⟨h1, h2, by rw [hit_row g N q k n hq h1]; exact h3⟩, h.cnt⟩
theorem StI.len (h : StI n g to d N q kk a X) : X.length ≤ n := by have := h.cnt; omega
theorem StI.done (h : StI n g to d N N.length 0 a X) (hN : ∀ k, k ∈ N ↔ k < n ∧ aw n g to d k = d) : (∀ k, k < n → a k = aw n g to (d + 1) k) ∧ ∀ k, k ∈ X ↔ k < n ∧ aw n g to (d + 1) k = ((d + 1 : Nat) : Int) := by
  have hh : ∀ k, hit g N N.length 0 k = true ↔ ∃ i, i < n ∧ aw n g to d i = d ∧ g i k = true := by
    intro k
    simp only [hit, List.take_length, Nat.not_lt_zero, decide_false, Bool.false_and, Bool.or_false, List.any_eq_true]
    constructor
    · rintro ⟨i, h1, h2⟩
      exact ⟨i, ((hN i).1 h1).1, ((hN i).1 h1).2, h2⟩
    · rintro ⟨i, h1, h2, h3⟩
      exact ⟨i, (hN i).2 ⟨h1, h2⟩, h3⟩
  have e1 : ∀ k, k < n → a k = aw n g to (d + 1) k := by
    intro k hk
    rw [h.av k hk]
    by_cases h0 : 0 ≤ aw n g to d k
    · rw [if_pos h0, aw_keep h0]
    · rw [if_neg h0, aw_new (by omega)]
      by_cases h1 : hit g N N.length 0 k = true
      · rw [if_pos h1, if_pos ((hh k).1 h1)]
      · rw [if_neg h1, if_neg (fun h2 => h1 ((hh k).2 h2))]
  refine ⟨e1, fun k => ?_⟩
  rw [h.mem]
  constructor
  · rintro ⟨h1, h2, h3⟩
    refine ⟨h1, ?_⟩
    rw [aw_new h2, if_pos ((hh k).1 h3)]
    omega
  · rintro ⟨h1, h2⟩
    by_cases h0 : 0 ≤ aw n g to d k
    · rw [aw_keep h0] at h2
      rcases aw_bd (n := n) (g := g) (to := to) d k with h3 | h3
      · omega
      · omega
    · refine ⟨h1, by omega, ?_⟩
      rw [aw_new (by omega)] at h2
      by_cases h4 : ∃ i, i < n ∧ aw n g to d i = d ∧ g i k = true
      · exact (hh k).2 h4
      · rw [if_neg h4] at h2; omega
end Id
end Go.Proofs.Ytdaedjmkolcliaa
