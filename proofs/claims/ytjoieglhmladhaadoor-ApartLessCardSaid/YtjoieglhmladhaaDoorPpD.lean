/- Plain facts: the clashes are in order. -/
import Derived.Test.YtjoieglhmladhaaDoorPpC
namespace Go.Proofs.YtjoieglhmladhaaDoor
set_option linter.unusedVariables false
set_option linter.unusedSimpArgs false
namespace Ap
def lt3 (p c : C3) : Prop := p.1 < c.1 ∨ p.1 = c.1 ∧ (p.2.1 < c.2.1 ∨ p.2.1 = c.2.1 ∧ p.2.2 < c.2.2)
theorem srt_rowC (h : Int → Int → Bool) (kd : Int) (p : Bx) (v : List Bx) (a : Nat) : ∀ (n b : Nat), (rowC h kd p v a b n).Pairwise lt3
  | 0, b => by simp [rowC]
  | n + 1, b => by
    unfold rowC
    split
    · refine List.pairwise_cons.2 ⟨fun c hc => ?_, srt_rowC h kd p v a n (b + 1)⟩
      obtain ⟨j, h1, _, rfl, _⟩ := (mem_rowC h kd p v a c n (b + 1)).1 hc
      exact .inr ⟨rfl, .inr ⟨rfl, by dsimp only; omega⟩⟩
    · exact srt_rowC h kd p v a n (b + 1)
theorem srt_allC (h : Int → Int → Bool) (kd : Int) (u v : List Bx) (R : Nat) : ∀ (n a : Nat), (allC h kd u v R a n).Pairwise lt3
  | 0, a => by simp [allC]
  | n + 1, a => by
    rw [allC]
    refine List.pairwise_append.2 ⟨srt_rowC _ _ _ _ _ _ _, srt_allC h kd u v R n (a + 1), fun c hc d hd => ?_⟩
    obtain ⟨j, _, _, rfl, _⟩ := (mem_rowC _ _ _ _ _ c _ _).1 hc
    obtain ⟨i, j2, h1, _, _, _, rfl, _⟩ := (mem_allC _ _ _ _ _ d _ _).1 hd
    exact .inr ⟨rfl, .inl (by dsimp only; omega)⟩
theorem srt_ksC (h : Int → Int → Bool) (mv hd : List Bx) (R : Nat) : ∀ (n k : Nat), (ksC h mv hd R k n).Pairwise lt3
  | 0, k => by simp [ksC]
  | n + 1, k => by
    rw [ksC]
    refine List.pairwise_append.2 ⟨srt_allC _ _ _ _ _ _ _, srt_ksC h mv hd R n (k + 1), fun c hc d hd' => ?_⟩
    obtain ⟨i, j, _, _, _, _, rfl, _⟩ := (mem_allC _ _ _ _ _ c _ _).1 hc
    obtain ⟨q, h1, _, h3⟩ := (mem_ksC _ _ _ _ d _ _).1 hd'
    obtain ⟨i2, j2, _, _, _, _, rfl, _⟩ := (mem_allC _ _ _ _ _ d _ _).1 h3
    exact .inl (by dsimp only; omega)
theorem srt_rowW (p q : Bx) (ps : List Bx) (a : Nat) : ∀ (n b : Nat), (rowW p q ps a b n).Pairwise lt3
  | 0, b => by simp [rowW]
  | n + 1, b => by
    unfold rowW
    split
    · refine List.pairwise_cons.2 ⟨fun c hc => ?_, srt_rowW p q ps a n (b + 1)⟩
      obtain ⟨j, h1, _, rfl, _⟩ := (mem_rowW p q ps a c n (b + 1)).1 hc
      exact .inr ⟨rfl, .inr ⟨rfl, by dsimp only; omega⟩⟩
    · exact srt_rowW p q ps a n (b + 1)
theorem srt_allW (mv hd ps : List Bx) : ∀ (n a : Nat), (allW mv hd ps a n).Pairwise lt3
  | 0, a => by simp [allW]
  | n + 1, a => by
    rw [allW]
    refine List.pairwise_append.2 ⟨srt_rowW _ _ _ _ _ _, srt_allW mv hd ps n (a + 1), fun c hc d hd' => ?_⟩
    obtain ⟨j, _, _, rfl, _⟩ := (mem_rowW _ _ _ _ c _ _).1 hc
    obtain ⟨i, j2, h1, _, _, rfl, _⟩ := (mem_allW _ _ _ d _ _).1 hd'
    exact .inr ⟨rfl, .inl (by dsimp only; omega)⟩
theorem srt_allE (f : Bx) (mv hd : List Bx) : ∀ (n a : Nat), (allE f mv hd a n).Pairwise lt3
  | 0, a => by simp [allE]
  | n + 1, a => by
    unfold allE
    split
    · refine List.pairwise_cons.2 ⟨fun c hc => ?_, srt_allE f mv hd n (a + 1)⟩
      obtain ⟨j, h1, _, rfl, _⟩ := (mem_allE f mv hd c n (a + 1)).1 hc
      exact .inr ⟨rfl, .inl (by dsimp only; omega)⟩
    · exact srt_allE f mv hd n (a + 1)
theorem srt_cls (x : Ex.Wk) (gs : List Wg) (bar : Int) (mv hd : List Bx) (P : List (Int × Int)) : (cls x gs bar mv hd P).Pairwise lt3 := by
  unfold cls
  refine List.pairwise_append.2 ⟨srt_ksC _ _ _ _ _ _, List.pairwise_append.2 ⟨srt_allW _ _ _ _ _, srt_allE _ _ _ _ _, fun c hc d hd' => ?_⟩, fun c hc d hd' => ?_⟩
  · obtain ⟨i, j, _, _, _, rfl, _⟩ := (mem_allW _ _ _ c _ _).1 hc
    obtain ⟨i2, _, _, rfl, _⟩ := (mem_allE _ _ _ d _ _).1 hd'
    exact .inl (show (5 : Int) < 6 by decide)
  · obtain ⟨q, _, h2, h3⟩ := (mem_ksC _ _ _ _ c _ _).1 hc
    obtain ⟨i2, j2, _, _, _, _, rfl, _⟩ := (mem_allC _ _ _ _ _ c _ _).1 h3
    rcases List.mem_append.1 hd' with h | h
    · obtain ⟨i, j, _, _, _, rfl, _⟩ := (mem_allW _ _ _ d _ _).1 h
      exact .inl (by dsimp only; omega)
    · obtain ⟨i2, _, _, rfl, _⟩ := (mem_allE _ _ _ d _ _).1 h
      exact .inl (by dsimp only; omega)
/-- One clash behind another. -/
theorem srt_at {L : List C3} (h : L.Pairwise lt3) {k : Nat} (hk : k + 1 < L.length) : lt3 (L.getD k (0, 0, 0)) (L.getD (k + 1) (0, 0, 0)) := by
  have := List.pairwise_iff_getElem.1 h k (k + 1) (by omega) hk (by omega)
  simpa [List.getD_eq_getElem?_getD, List.getElem?_eq_getElem hk, List.getElem?_eq_getElem (show k < L.length by omega)] using this
end Ap
end Go.Proofs.YtjoieglhmladhaaDoor
