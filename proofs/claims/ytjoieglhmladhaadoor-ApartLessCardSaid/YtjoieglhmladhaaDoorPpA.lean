/- Plain facts: the paths of wagons. -/
import Derived.Test.YtjoieglhmladhaaDoorClA
namespace Go.Proofs.YtjoieglhmladhaaDoor
set_option linter.unusedVariables false
set_option linter.unusedSimpArgs false
namespace Ap
theorem mn_add (a p q : Int) : Kit.mn2 (a + p) (a + q) = a + Kit.mn2 p q := by unfold Kit.mn2; repeat' split <;> omega
theorem mx_add (a p q : Int) : Kit.mx2 (a + p) (a + q) = a + Kit.mx2 p q := by unfold Kit.mx2; repeat' split <;> omega
theorem shR_ok {a b c d p q : Int} (h : (Sp.shR a b c d p q).2.2.2.2 = 0) : Sp.shR a b c d p q = (a + p, b + p, c + q, d + q, 0) ∧ Sp.okBox a b c d = true ∧ Sp.okBox (a + p) (b + p) (c + q) (d + q) = true := by
  unfold Sp.shR at h ⊢
  split at h
  · split at h
    · split at h
      · rename_i h1 h2 h3
        exact ⟨by rw [if_pos h1, if_pos h2, if_pos h3], h1, h3⟩
      · simp at h
    · simp at h
  · simp at h
theorem pathR_err {g : Wg} {bar : Int} (h : (pathR g bar).2.2.2.2 ≠ 0) : toB (pathR g bar) = (0, 0, 0, 0) := by
  unfold pathR at h ⊢
  split
  · rename_i h1
    rw [if_pos h1] at h
    split
    · rename_i h2
      rw [if_pos h2] at h
      split
      · rename_i h3
        rw [if_pos h3] at h
        unfold Sp.joR at h ⊢
        repeat' split
        all_goals first | rfl | simp_all
      · rfl
    · rfl
  · rfl
theorem pathR_val {g : Wg} {bar : Int} (h : (pathR g bar).2.2.2.2 = 0) : okW g = true ∧ 0 ≤ bar ∧ bar ≤ 4095 ∧
    pathR g bar = (g.a + Kit.mn2 (mul g.f g.l bar * g.x) (mul g.f g.l (bar + 1) * g.x), g.b + Kit.mx2 (mul g.f g.l bar * g.x) (mul g.f g.l (bar + 1) * g.x),
      g.c + Kit.mn2 (mul g.f g.l bar * g.y) (mul g.f g.l (bar + 1) * g.y), g.d + Kit.mx2 (mul g.f g.l bar * g.y) (mul g.f g.l (bar + 1) * g.y), 0) := by
  unfold pathR at h ⊢
  split at h
  · rename_i h1
    split at h
    · rename_i h2
      have hb := (Tp.inb_iff _ _ _).1 h2
      split at h
      · rename_i h3
        obtain ⟨e1, _, k1⟩ := shR_ok h3.1
        obtain ⟨e2, _, k2⟩ := shR_ok h3.2
        refine ⟨h1, hb.1, hb.2, ?_⟩
        rw [if_pos h1, if_pos h2, if_pos h3]
        unfold at_
        rw [e1, e2]
        unfold Sp.joR
        dsimp only
        rw [if_pos k1, if_pos k2, mn_add, mx_add, mn_add, mx_add]
      · simp at h
    · simp at h
  · simp at h
theorem pathR_not {g : Wg} {bar : Int} (h : okW g = true) : (pathR g bar).2.2.2.2 ≠ 290 := by
  unfold pathR
  rw [if_pos h]
  split
  · split
    · unfold Sp.joR
      repeat' split
      all_goals (dsimp only; omega)
    · dsimp only; omega
  · dsimp only; omega
theorem mul_before {f l k : Int} (h : k ≤ f) (hl : f ≤ l) : mul f l k = 0 := by
  unfold mul Kit.mx2 Kit.mn2; repeat' split <;> omega
theorem mul_after {f l k : Int} (h : l < k) (hl : f ≤ l) : mul f l k = l + 1 - f := by
  unfold mul Kit.mx2 Kit.mn2; repeat' split <;> omega
theorem okW_box {g : Wg} (h : okW g = true) : Sp.okBox g.a g.b g.c g.d = true ∧ 0 ≤ g.f ∧ g.f ≤ g.l ∧ g.l < 4096 := by
  unfold okW at h
  simp only [Bool.and_eq_true] at h
  have := (Tp.inb_iff _ _ _).1 h.1.1.1.2
  exact ⟨h.1.1.1.1, this.1, this.2, by simpa using h.1.1.2⟩
/-- Ahead of its first bar a wagon stays where it is. -/
theorem path_before {g : Wg} {bar : Int} (h : (pathR g bar).2.2.2.2 = 0) (hb : bar < g.f) : pathR g bar = (g.a, g.b, g.c, g.d, 0) := by
  obtain ⟨h1, _, _, e⟩ := pathR_val h
  obtain ⟨_, _, k2, _⟩ := okW_box h1
  rw [e, mul_before (by omega) k2, mul_before (by omega) k2]
  simp [Kit.mn2, Kit.mx2]
/-- Behind its last bar, too. -/
theorem path_after {g : Wg} {bar : Int} (h : (pathR g bar).2.2.2.2 = 0) (h' : (pathR g (bar + 1)).2.2.2.2 = 0) (hb : g.l < bar) : pathR g bar = pathR g (bar + 1) := by
  obtain ⟨h1, _, _, e⟩ := pathR_val h
  obtain ⟨_, _, _, e'⟩ := pathR_val h'
  obtain ⟨_, _, k2, _⟩ := okW_box h1
  rw [e, e', mul_after (by omega) k2, mul_after (by omega) k2, mul_after (by omega) k2]
theorem okBox_le {a b c d : Int} (h : Sp.okBox a b c d = true) : a ≤ b ∧ c ≤ d := by
  simp [Sp.okBox] at h
  omega
/-- The paths of two bars, one after the other, have a common place. -/
theorem path_meet {g : Wg} {bar : Int} (h : (pathR g bar).2.2.2.2 = 0) (h' : (pathR g (bar + 1)).2.2.2.2 = 0) : meet (toB (pathR g bar)) (toB (pathR g (bar + 1))) = true := by
  obtain ⟨h1, _, _, e⟩ := pathR_val h
  obtain ⟨_, _, _, e'⟩ := pathR_val h'
  obtain ⟨k1, _⟩ := okW_box h1
  have k := okBox_le k1
  rw [e, e']
  generalize mul g.f g.l bar = M0
  generalize mul g.f g.l (bar + 1) = M1
  generalize mul g.f g.l (bar + 1 + 1) = M2
  generalize M0 * g.x = p0
  generalize M1 * g.x = p1
  generalize M2 * g.x = p2
  generalize M0 * g.y = q0
  generalize M1 * g.y = q1
  generalize M2 * g.y = q2
  have mm : ∀ p q : Int, Kit.mn2 p q ≤ p ∧ Kit.mn2 p q ≤ q ∧ p ≤ Kit.mx2 p q ∧ q ≤ Kit.mx2 p q := fun p q => by unfold Kit.mn2 Kit.mx2; (repeat' split) <;> omega
  have a1 := mm p0 p1
  have a2 := mm p1 p2
  have a3 := mm q0 q1
  have a4 := mm q1 q2
  simp only [meet, toB, Sp.meets, Bool.and_eq_true, decide_eq_true_eq]
  refine ⟨⟨?_, ?_⟩, ?_, ?_⟩ <;> (apply decide_eq_true; omega)
/-- A shifted wagon. -/
def moved (g : Wg) (x y : Int) : Wg := ⟨g.a + x, g.b + x, g.c + y, g.d + y, g.f, g.l, g.x, g.y⟩
theorem moved_ok {g : Wg} {x y : Int} (h : okW g = true) (hs : (Sp.shR g.a g.b g.c g.d x y).2.2.2.2 = 0) : okW (moved g x y) = true := by
  obtain ⟨_, _, k⟩ := shR_ok hs
  unfold okW at h ⊢
  simp only [Bool.and_eq_true] at h ⊢
  obtain ⟨⟨⟨⟨_, c2⟩, c3⟩, c4⟩, c5⟩ := h
  exact ⟨⟨⟨⟨k, c2⟩, c3⟩, c4⟩, c5⟩
theorem path_moved {g : Wg} {bar x y : Int} (h : (pathR g bar).2.2.2.2 = 0) (h' : (pathR (moved g x y) bar).2.2.2.2 = 0)
    (hi : (Sp.shR (pathR g bar).1 (pathR g bar).2.1 (pathR g bar).2.2.1 (pathR g bar).2.2.2.1 x y).2.2.2.2 = 0) :
    toB (pathR (moved g x y) bar) = toB (Sp.shR (pathR g bar).1 (pathR g bar).2.1 (pathR g bar).2.2.1 (pathR g bar).2.2.2.1 x y) := by
  obtain ⟨e3, _, _⟩ := shR_ok hi
  rw [e3]
  obtain ⟨_, _, _, e⟩ := pathR_val h
  obtain ⟨_, _, _, e'⟩ := pathR_val h'
  rw [e, e']
  simp only [toB, moved, Prod.mk.injEq]
  refine ⟨?_, ?_, ?_, ?_⟩ <;> omega
end Ap
end Go.Proofs.YtjoieglhmladhaaDoor
