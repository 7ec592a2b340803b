/- Plain facts: one sign less: the law TypesLess. -/
import Derived.Test.YtggfeblfhabmkaaDoorTzA
namespace Go.Proofs.YtggfeblfhabmkaaDoor
set_option linter.unusedVariables false
set_option linter.unusedSimpArgs false
namespace Ty
theorem bf_iff {l : List Ex.Sg} (h : Inc l) (a b : Ex.Sg) : Bf a b l ↔ a ∈ l ∧ b ∈ l ∧ a.id < b.id := by
  constructor
  · intro hb
    exact ⟨(bf_mem hb).1, (bf_mem hb).2, bf_lt h hb⟩
  · rintro ⟨ha, hb, hlt⟩
    obtain ⟨i, hi, rfl⟩ := List.mem_iff_getElem.1 ha
    obtain ⟨j, hj, rfl⟩ := List.mem_iff_getElem.1 hb
    refine bf_of l i j _ _ ?_ (List.getElem?_eq_getElem hi) (List.getElem?_eq_getElem hj)
    rcases Nat.lt_trichotomy i j with h1 | h1 | h1
    · exact h1
    · subst h1; omega
    · have := List.pairwise_iff_getElem.1 h j i hj hi h1
      omega
theorem mem_ref {l : List Ex.Sg} (h : Inc l) (x : F3) : x ∈ refL l ↔ (∃ a ∈ l, alone l a = true ∧ x = (3, a.id, a.id)) ∨ ∃ k a b, (k = 1 ∨ k = 2 ∨ k = 4) ∧ a ∈ l ∧ b ∈ l ∧ a.id < b.id ∧ pairK k a b = true ∧ x = (k, a.id, b.id) := by
  simp only [refL, List.mem_append, mem_rK, bf_iff h]
  constructor
  · rintro ((⟨h7, _⟩ | ⟨c, d, ⟨h1, h2, h3⟩, hp, rfl⟩) | (⟨h7, _⟩ | ⟨c, d, ⟨h1, h2, h3⟩, hp, rfl⟩) | (⟨_, c, hc, h4, rfl⟩ | ⟨c, d, ⟨h1, h2, h3⟩, hp, rfl⟩) | (⟨h7, _⟩ | ⟨c, d, ⟨h1, h2, h3⟩, hp, rfl⟩))
    · omega
    · exact .inr ⟨1, c, d, by omega, h1, h2, h3, hp, rfl⟩
    · omega
    · exact .inr ⟨2, c, d, by omega, h1, h2, h3, hp, rfl⟩
    · exact .inl ⟨c, hc, h4, rfl⟩
    · simp [pairK] at hp
    · omega
    · exact .inr ⟨4, c, d, by omega, h1, h2, h3, hp, rfl⟩
  · rintro (⟨c, hc, h4, rfl⟩ | ⟨k, c, d, rfl | rfl | rfl, h1, h2, h3, hp, rfl⟩)
    · exact .inr (.inr (.inl (.inl ⟨trivial, c, hc, h4, rfl⟩)))
    · exact .inl (.inr ⟨c, d, ⟨h1, h2, h3⟩, hp, rfl⟩)
    · exact .inr (.inl (.inr ⟨c, d, ⟨h1, h2, h3⟩, hp, rfl⟩))
    · exact .inr (.inr (.inr (.inr ⟨c, d, ⟨h1, h2, h3⟩, hp, rfl⟩)))
theorem mem_erase {l : List Ex.Sg} (h : Inc l) {k : Nat} {g : Ex.Sg} (hg : l[k]? = some g) (s : Ex.Sg) : s ∈ l.eraseIdx k ↔ s ∈ l ∧ s.id ≠ g.id := by
  rw [List.mem_eraseIdx_iff_getElem]
  obtain ⟨hk, hg'⟩ := List.getElem?_eq_some_iff.1 hg
  constructor
  · rintro ⟨i, hi, hne, rfl⟩
    refine ⟨List.getElem_mem hi, fun e => ?_⟩
    have e' := inc_inj l h _ _ (List.getElem_mem hi) (List.getElem_mem hk) (by rw [e, hg'])
    rcases Nat.lt_trichotomy i k with h1 | h1 | h1
    · have := List.pairwise_iff_getElem.1 h i k hi hk h1; rw [e'] at this; omega
    · exact hne h1
    · have := List.pairwise_iff_getElem.1 h k i hk hi h1; rw [e'] at this; omega
  · rintro ⟨hs, hne⟩
    obtain ⟨i, hi, rfl⟩ := List.mem_iff_getElem.1 hs
    exact ⟨i, hi, fun e => hne (by subst e; rw [hg']), rfl⟩
theorem inc_erase {l : List Ex.Sg} (h : Inc l) (k : Nat) : Inc (l.eraseIdx k) := h.sublist (List.eraseIdx_sublist ..)
theorem ref_nodup {l : List Ex.Sg} (h : Inc l) : (refL l).Nodup := (refL_srt h).imp fun h e => by subst e; exact lt3_irrefl _ h
/-- What stays. -/
theorem less_stay {l : List Ex.Sg} (h : Inc l) {k : Nat} {g : Ex.Sg} (hg : l[k]? = some g) {y : F3} (hy : y ∈ refL l) (h1 : y.2.1 ≠ g.id) (h2 : y.2.2 ≠ g.id) : y ∈ refL (l.eraseIdx k) := by
  rw [mem_ref (inc_erase h k)]
  rcases (mem_ref h y).1 hy with ⟨c, hc, h4, rfl⟩ | ⟨kd, c, d, hk, h3, h4, h5, hp, rfl⟩
  · refine .inl ⟨c, (mem_erase h hg c).2 ⟨hc, h1⟩, ?_, rfl⟩
    unfold alone at h4 ⊢
    simp only [Bool.and_eq_true, Bool.or_eq_true, Bool.not_eq_true', List.any_eq_false] at h4 ⊢
    exact ⟨h4.1, h4.2.imp id fun h6 x hx => h6 x ((mem_erase h hg x).1 hx).1⟩
  · exact .inr ⟨kd, c, d, hk, (mem_erase h hg c).2 ⟨h3, h1⟩, (mem_erase h hg d).2 ⟨h4, h2⟩, h5, hp, rfl⟩
/-- What a sign names. -/
def nms (g s : Ex.Sg) : Bool := s.bar == g.bar && s.wth == g.role + 1 && g.wth == s.role + 1
/-- What is new. -/
theorem less_new {l : List Ex.Sg} (h : Inc l) {k : Nat} {g : Ex.Sg} (hg : l[k]? = some g) {y : F3} (hy : y ∈ refL (l.eraseIdx k)) :
    (y ∈ refL l ∧ y.2.1 ≠ g.id ∧ y.2.2 ≠ g.id) ∨ ∃ s ∈ l.eraseIdx k, nms g s = true ∧ y = (3, s.id, s.id) := by
  rw [mem_ref h]
  rcases (mem_ref (inc_erase h k) y).1 hy with ⟨c, hc, h4, rfl⟩ | ⟨kd, c, d, hk, h3, h4, h5, hp, rfl⟩
  · have hc' := (mem_erase h hg c).1 hc
    rcases ha : alone l c with _ | _
    · refine .inr ⟨c, hc, ?_, rfl⟩
      unfold alone at h4 ha
      simp only [Bool.and_eq_true, Bool.or_eq_true, Bool.not_eq_true', List.any_eq_false] at h4
      obtain ⟨h5, h6⟩ := h4
      rw [h5, Bool.true_and, Bool.or_eq_false_iff, Bool.not_eq_false', List.any_eq_true] at ha
      obtain ⟨h7, t, ht, h8⟩ := ha
      have h6 : ∀ x ∈ l.eraseIdx k, ¬(fits c x || fits x c) = true := by
        rcases h6 with h6 | h6
        · rw [h6] at h7; cases h7
        · exact fun x hx => by rw [Bool.or_eq_true]; exact h6 x hx
      have htg : t.id = g.id := Classical.byContradiction fun e => h6 t ((mem_erase h hg t).2 ⟨ht, e⟩) h8
      have : t = g := inc_inj l h _ _ ht (List.mem_of_getElem? hg) htg
      subst this
      simp only [fits, Bool.or_eq_true, Bool.and_eq_true, beq_iff_eq] at h8
      simp only [nms, Bool.and_eq_true, beq_iff_eq]
      omega
    · exact .inl ⟨.inl ⟨c, hc'.1, ha, rfl⟩, hc'.2, hc'.2⟩
  · have h3' := (mem_erase h hg c).1 h3
    have h4' := (mem_erase h hg d).1 h4
    exact .inl ⟨.inr ⟨kd, c, d, hk, h3'.1, h4'.1, h5, hp, rfl⟩, h3'.2, h4'.2⟩
end Ty
end Go.Proofs.YtggfeblfhabmkaaDoor
