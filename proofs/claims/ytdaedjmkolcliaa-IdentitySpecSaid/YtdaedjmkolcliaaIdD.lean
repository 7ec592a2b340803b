/- Plain facts of layer 45: shortest chains, and the first edition that is the same work. -/
import Derived.Test.YtdaedjmkolcliaaIdC
namespace Go.Proofs.Ytdaedjmkolcliaa
set_option linter.unusedVariables false
set_option linter.unusedSimpArgs false
open Go.RowKit

namespace Id
/-- The first edition near another one that is so many steps away. -/
def nxt (n : Nat) (g : Nat → Nat → Bool) (j at_ d : Nat) : Nat := ((List.range n).find? fun k => g at_ k && decide (dst n g j k = (d : Int))).getD n
/-- The shortest chain. -/
def chn (n : Nat) (g : Nat → Nat → Bool) (j : Nat) : Nat → Nat → List Nat
  | 0, at_ => [at_]
  | d + 1, at_ => at_ :: chn n g j d (nxt n g j at_ d)
/-- The first edition that is the same work. -/
def wrk (n : Nat) (g : Nat → Nat → Bool) (i : Nat) : Nat := ((List.range n).find? fun k => decide (0 ≤ dst n g i k)).getD n
section
variable {n : Nat} {g : Nat → Nat → Bool}
theorem nxt_ok (hs : ∀ i j, g i j = g j i) {j a d : Nat} (h : dst n g j a = (d : Int) + 1) : nxt n g j a d < n ∧ g a (nxt n g j a d) = true ∧ dst n g j (nxt n g j a d) = d := by
  obtain ⟨i, hi, e, hg⟩ := dst_pred h
  unfold nxt
  rcases c : (List.range n).find? (fun k => g a k && decide (dst n g j k = (d : Int))) with _ | k
  · have := List.find?_eq_none.1 c i (List.mem_range.2 hi)
    rw [hs a i, hg, e] at this
    simp at this
  · have h1 := List.find?_some c
    have h2 := List.mem_of_find?_eq_some c
    simp only [Bool.and_eq_true, decide_eq_true_eq] at h1
    exact ⟨List.mem_range.1 h2, h1.1, h1.2⟩
theorem chn_len (j : Nat) : ∀ d a, (chn n g j d a).length = d + 1
  | 0, _ => rfl
  | d + 1, a => by rw [chn, List.length_cons, chn_len j d]
theorem chn_head (j d a : Nat) : (chn n g j d a)[0]? = some a := by cases d <;> rfl
theorem chn_all (hs : ∀ i j, g i j = g j i) {j : Nat} : ∀ {d a : Nat}, a < n → dst n g j a = (d : Int) →
    (∀ x ∈ chn n g j d a, x < n) ∧ (chn n g j d a)[d]? = some j ∧ ∀ k x y, (chn n g j d a)[k]? = some x → (chn n g j d a)[k + 1]? = some y → g x y = true
  | 0, a, ha, h => by
    have e := dst_at h
    simp only [aw] at e
    have e' : a = j := by
      split at e
      case isTrue h => exact h
      case isFalse h => omega
    subst e'
    refine ⟨by simp [chn, ha], rfl, fun k x y h1 h2 => ?_⟩
    simp [chn] at h2
  | d + 1, a, ha, h => by
    obtain ⟨h1, h2, h3⟩ := nxt_ok hs (d := d) (by rw [h]; simp)
    obtain ⟨i1, i2, i3⟩ := chn_all hs h1 h3
    refine ⟨fun x hx => ?_, ?_, fun k x y hx hy => ?_⟩
    · rcases List.mem_cons.1 hx with e | e
      · subst e; exact ha
      · exact i1 x e
    · rw [chn, List.getElem?_cons_succ, i2]
    · rcases k with _ | k
      · rw [chn, List.getElem?_cons_zero] at hx
        rw [chn, List.getElem?_cons_succ, chn_head] at hy
        cases hx; cases hy
        exact h2
      · rw [chn, List.getElem?_cons_succ] at hx hy
        exact i3 k x y hx hy
theorem wrk_ok {i : Nat} (hi : i < n) : wrk n g i ≤ i ∧ 0 ≤ dst n g i (wrk n g i) := by
  unfold wrk
  rcases c : (List.range n).find? (fun k => decide (0 ≤ dst n g i k)) with _ | k
  · have := List.find?_eq_none.1 c i (List.mem_range.2 hi)
    rw [dst_to] at this
    simp at this
  · have h1 := List.find?_some c
    refine ⟨?_, by simpa using h1⟩
    have h2 := List.find?_range_eq_some.1 c
    have h3 : k ≤ i := by
      rcases Nat.lt_or_ge i k with hlt | hge
      · have := h2.2.2 i hlt
        rw [dst_to] at this
        simp at this
      · exact hge
    exact h3
theorem wrk_eq (hs : ∀ i j, g i j = g j i) {i k : Nat} (hi : i < n) (hk : k < n) (h : 0 ≤ dst n g i k) : wrk n g i = wrk n g k := by
  have h1 := (dst_rch hi).1 h
  have h2 := h1.symm hs hk
  unfold wrk
  congr 1
  congr 1
  funext x
  rw [decide_eq_decide]
  rw [dst_rch hi, dst_rch hk]
  exact ⟨fun h => h2.trans h, fun h => h1.trans h⟩
theorem wrk_iff (hs : ∀ i j, g i j = g j i) {i k : Nat} (hi : i < n) (hk : k < n) : wrk n g i = wrk n g k ↔ 0 ≤ dst n g i k := by
  refine ⟨fun h => ?_, wrk_eq hs hi hk⟩
  have hwi := wrk_ok (g := g) hi
  have hwk := wrk_ok (g := g) hk
  have h1 := (dst_rch hi).1 hwi.2
  have h2 := (dst_rch hk).1 hwk.2
  rw [← h] at h2
  exact (dst_rch hi).2 (h1.trans (h2.symm hs (by omega)))
theorem wrk_wrk (hs : ∀ i j, g i j = g j i) {i : Nat} (hi : i < n) : wrk n g (wrk n g i) = wrk n g i := by
  have h := wrk_ok (g := g) hi
  exact (wrk_eq hs hi (by omega) h.2).symm
theorem dst_back (hs : ∀ i j, g i j = g j i) {i k : Nat} (hi : i < n) (hk : k < n) : (0 ≤ dst n g i k) ↔ 0 ≤ dst n g k i := by
  rw [dst_rch hi, dst_rch hk]
  exact ⟨fun h => h.symm hs hk, fun h => h.symm hs hi⟩
theorem wrk_mono {m : Nat} {f : Nat → Nat → Bool} (hs : ∀ i j, g i j = g j i) (hsf : ∀ i j, f i j = f j i) (hm : n ≤ m) (hf : ∀ i j, i < n → j < n → g i j = true → f i j = true) {i k : Nat} (hi : i < n) (hk : k < n) (h : wrk n g i = wrk n g k) : wrk m f i = wrk m f k := by
  have h1 := (dst_rch hi).1 ((wrk_iff hs hi hk).1 h)
  exact wrk_eq hsf (by omega) (by omega) ((dst_rch (by omega)).2 (h1.mono hm hf hk))
end
end Id
end Go.Proofs.Ytdaedjmkolcliaa
