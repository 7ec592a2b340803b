/- Walks: the law ApartPath, of whatever wagon, bar and shift. -/
import Derived.Test.YtjoieglhmladhaaDoorLwL
namespace Go.Proofs.YtjoieglhmladhaaDoor
set_option linter.unusedVariables false
set_option linter.unusedSimpArgs false
open Go.RowKit Go.Shelf

set_option maxRecDepth 100000 in
theorem law_path (g : Ap.Wg) (bar x y : Int) (w : World) (hl : Ex.Laid w) :
    Calls Tryd.prog 10 #[Ap.wgV g, .int .i64 bar, .int .i64 x, .int .i64 y] w fun e w' => e = .returned (.bool true) ∧ Below w.heap.size w w' := by
  have P1 : ∀ W, Lw.PathIs g.a g.b g.c g.d g.f g.l g.x g.y bar (Ap.pathR g bar).1 (Ap.pathR g bar).2.1 (Ap.pathR g bar).2.2.1 (Ap.pathR g bar).2.2.2.1 (Ap.pathR g bar).2.2.2.2 W := fun W => ap_path g bar W
  by_cases h : (Ap.pathR g bar).2.2.2.2 = 0
  · obtain ⟨ok, b0, b1, _⟩ := Ap.pathR_val h
    have P2 : ∀ W, Lw.PathIs g.a g.b g.c g.d g.f g.l g.x g.y (bar + 1) (Ap.pathR g (bar + 1)).1 (Ap.pathR g (bar + 1)).2.1 (Ap.pathR g (bar + 1)).2.2.1 (Ap.pathR g (bar + 1)).2.2.2.1 (Ap.pathR g (bar + 1)).2.2.2.2 W := fun W => ap_path g (bar + 1) W
    have P3 : ∀ W, Lw.ShIs g.a g.b g.c g.d x y (Sp.shR g.a g.b g.c g.d x y).1 (Sp.shR g.a g.b g.c g.d x y).2.1 (Sp.shR g.a g.b g.c g.d x y).2.2.1 (Sp.shR g.a g.b g.c g.d x y).2.2.2.1 (Sp.shR g.a g.b g.c g.d x y).2.2.2.2 W := fun W => sp_shift g.a g.b g.c g.d x y W
    have C3 : (Sp.shR g.a g.b g.c g.d x y).2.2.2.2 = 0 → (Ap.pathR ⟨(Sp.shR g.a g.b g.c g.d x y).1, (Sp.shR g.a g.b g.c g.d x y).2.1, (Sp.shR g.a g.b g.c g.d x y).2.2.1, (Sp.shR g.a g.b g.c g.d x y).2.2.2.1, g.f, g.l, g.x, g.y⟩ bar).2.2.2.2 ≠ 290 := by
      intro hs
      obtain ⟨e, _⟩ := Ap.shR_ok hs
      have := Ap.pathR_not (bar := bar) (Ap.moved_ok ok hs)
      rw [e]
      exact this
    have C4 : (Sp.shR g.a g.b g.c g.d x y).2.2.2.2 = 0 → (Ap.pathR ⟨(Sp.shR g.a g.b g.c g.d x y).1, (Sp.shR g.a g.b g.c g.d x y).2.1, (Sp.shR g.a g.b g.c g.d x y).2.2.1, (Sp.shR g.a g.b g.c g.d x y).2.2.2.1, g.f, g.l, g.x, g.y⟩ bar).2.2.2.2 = 0 →
        (Sp.shR (Ap.pathR g bar).1 (Ap.pathR g bar).2.1 (Ap.pathR g bar).2.2.1 (Ap.pathR g bar).2.2.2.1 x y).2.2.2.2 = 0 →
        Ap.toB (Ap.pathR ⟨(Sp.shR g.a g.b g.c g.d x y).1, (Sp.shR g.a g.b g.c g.d x y).2.1, (Sp.shR g.a g.b g.c g.d x y).2.2.1, (Sp.shR g.a g.b g.c g.d x y).2.2.2.1, g.f, g.l, g.x, g.y⟩ bar) = Ap.toB (Sp.shR (Ap.pathR g bar).1 (Ap.pathR g bar).2.1 (Ap.pathR g bar).2.2.1 (Ap.pathR g bar).2.2.2.1 x y) := by
      intro hs hm hk
      obtain ⟨e, _⟩ := Ap.shR_ok hs
      rw [e] at hm ⊢
      exact Ap.path_moved h hm hk
    have hA : (Ap.pathR g (bar + 1)).2.2.2.2 = 0 → ∀ W, Calls Tryd.prog 29 #[Sp.boxV (Ap.pathR g bar).1 (Ap.pathR g bar).2.1 (Ap.pathR g bar).2.2.1 (Ap.pathR g bar).2.2.2.1, Sp.boxV (Ap.pathR g (bar + 1)).1 (Ap.pathR g (bar + 1)).2.1 (Ap.pathR g (bar + 1)).2.2.1 (Ap.pathR g (bar + 1)).2.2.2.1] W fun e w' => e = .returned (.tuple #[.bool false, .int .i64 0]) ∧ Below W.heap.size W w' := by
      intro hn W
      have := sp_apart_3 (Ap.pathR g bar).1 (Ap.pathR g bar).2.1 (Ap.pathR g bar).2.2.1 (Ap.pathR g bar).2.2.2.1 (Ap.pathR g (bar + 1)).1 (Ap.pathR g (bar + 1)).2.1 (Ap.pathR g (bar + 1)).2.2.1 (Ap.pathR g (bar + 1)).2.2.2.1 W (Ap.pathR_ok h) (Ap.pathR_ok hn)
      have hm := Ap.path_meet h hn
      simp only [Ap.meet, Ap.toB] at hm
      rwa [hm] at this
    have hb := Ap.path_before (g := g) (bar := bar) h
    have ha := Ap.path_after (g := g) (bar := bar) h
    have P4 : ∀ W, Lw.PathIs (Sp.shR g.a g.b g.c g.d x y).1 (Sp.shR g.a g.b g.c g.d x y).2.1 (Sp.shR g.a g.b g.c g.d x y).2.2.1 (Sp.shR g.a g.b g.c g.d x y).2.2.2.1 g.f g.l g.x g.y bar
        (Ap.pathR ⟨(Sp.shR g.a g.b g.c g.d x y).1, (Sp.shR g.a g.b g.c g.d x y).2.1, (Sp.shR g.a g.b g.c g.d x y).2.2.1, (Sp.shR g.a g.b g.c g.d x y).2.2.2.1, g.f, g.l, g.x, g.y⟩ bar).1
        (Ap.pathR ⟨(Sp.shR g.a g.b g.c g.d x y).1, (Sp.shR g.a g.b g.c g.d x y).2.1, (Sp.shR g.a g.b g.c g.d x y).2.2.1, (Sp.shR g.a g.b g.c g.d x y).2.2.2.1, g.f, g.l, g.x, g.y⟩ bar).2.1
        (Ap.pathR ⟨(Sp.shR g.a g.b g.c g.d x y).1, (Sp.shR g.a g.b g.c g.d x y).2.1, (Sp.shR g.a g.b g.c g.d x y).2.2.1, (Sp.shR g.a g.b g.c g.d x y).2.2.2.1, g.f, g.l, g.x, g.y⟩ bar).2.2.1
        (Ap.pathR ⟨(Sp.shR g.a g.b g.c g.d x y).1, (Sp.shR g.a g.b g.c g.d x y).2.1, (Sp.shR g.a g.b g.c g.d x y).2.2.1, (Sp.shR g.a g.b g.c g.d x y).2.2.2.1, g.f, g.l, g.x, g.y⟩ bar).2.2.2.1
        (Ap.pathR ⟨(Sp.shR g.a g.b g.c g.d x y).1, (Sp.shR g.a g.b g.c g.d x y).2.1, (Sp.shR g.a g.b g.c g.d x y).2.2.1, (Sp.shR g.a g.b g.c g.d x y).2.2.2.1, g.f, g.l, g.x, g.y⟩ bar).2.2.2.2 W :=
      fun W => ap_path ⟨(Sp.shR g.a g.b g.c g.d x y).1, (Sp.shR g.a g.b g.c g.d x y).2.1, (Sp.shR g.a g.b g.c g.d x y).2.2.1, (Sp.shR g.a g.b g.c g.d x y).2.2.2.1, g.f, g.l, g.x, g.y⟩ bar W
    generalize Ap.pathR ⟨(Sp.shR g.a g.b g.c g.d x y).1, (Sp.shR g.a g.b g.c g.d x y).2.1, (Sp.shR g.a g.b g.c g.d x y).2.2.1, (Sp.shR g.a g.b g.c g.d x y).2.2.2.1, g.f, g.l, g.x, g.y⟩ bar = m at *
    generalize Sp.shR g.a g.b g.c g.d x y = s at *
    have P5 : ∀ W, Lw.ShIs (Ap.pathR g bar).1 (Ap.pathR g bar).2.1 (Ap.pathR g bar).2.2.1 (Ap.pathR g bar).2.2.2.1 x y (Sp.shR (Ap.pathR g bar).1 (Ap.pathR g bar).2.1 (Ap.pathR g bar).2.2.1 (Ap.pathR g bar).2.2.2.1 x y).1
        (Sp.shR (Ap.pathR g bar).1 (Ap.pathR g bar).2.1 (Ap.pathR g bar).2.2.1 (Ap.pathR g bar).2.2.2.1 x y).2.1 (Sp.shR (Ap.pathR g bar).1 (Ap.pathR g bar).2.1 (Ap.pathR g bar).2.2.1 (Ap.pathR g bar).2.2.2.1 x y).2.2.1
        (Sp.shR (Ap.pathR g bar).1 (Ap.pathR g bar).2.1 (Ap.pathR g bar).2.2.1 (Ap.pathR g bar).2.2.2.1 x y).2.2.2.1 (Sp.shR (Ap.pathR g bar).1 (Ap.pathR g bar).2.1 (Ap.pathR g bar).2.2.1 (Ap.pathR g bar).2.2.2.1 x y).2.2.2.2 W := fun W => sp_shift _ _ _ _ x y W
    generalize Sp.shR (Ap.pathR g bar).1 (Ap.pathR g bar).2.1 (Ap.pathR g bar).2.2.1 (Ap.pathR g bar).2.2.2.1 x y = k at *
    generalize Ap.pathR g bar = r at *
    generalize Ap.pathR g (bar + 1) = n at *
    obtain ⟨r1, r2, r3, r4, r5⟩ := r
    obtain ⟨n1, n2, n3, n4, n5⟩ := n
    obtain ⟨s1, s2, s3, s4, s5⟩ := s
    obtain ⟨m1, m2, m3, m4, m5⟩ := m
    obtain ⟨k1, k2, k3, k4, k5⟩ := k
    obtain ⟨a, b, c, d, f, l, p, q⟩ := g
    dsimp only at h P1 P2 P3 P4 P5 C3 C4 hA hb ha
    subst h
    have c3 : s5 = 0 → (m5 != 290) = true := fun hs => by simpa using C3 hs
    have c4 : s5 = 0 → m5 = 0 → k5 = 0 → m1 = k1 ∧ m2 = k2 ∧ m3 = k3 ∧ m4 = k4 := fun hs hm hk => by
      have := C4 hs hm hk
      simpa [Ap.toB] using this
    by_cases d1 : bar < f
    · have e := hb d1
      simp only [Prod.mk.injEq, and_true] at e
      obtain ⟨rfl, rfl, rfl, rfl⟩ := e
      by_cases hn : n5 = 0
      · subst hn
        by_cases d2 : l < bar
        · have e := ha rfl d2
          simp only [Prod.mk.injEq, and_true] at e
          obtain ⟨rfl, rfl, rfl, rfl⟩ := e
          exact law_path_tt _ _ _ _ _ _ _ _ _ _ _ _ _ _ _ _ _ _ _ _ _ _ _ _ _ _ w hl b0 b1 (decide_eq_true d1) P1 P2 P3 P4 P5 (hA rfl) (decide_eq_true d2) c3 c4
        · exact law_path_tf _ _ _ _ _ _ _ _ _ _ _ _ _ _ _ _ _ _ _ _ _ _ _ _ _ _ _ _ _ _ w hl b0 b1 (decide_eq_true d1) P1 P2 P3 P4 P5 (hA rfl) (decide_eq_false d2) c3 c4
      · exact law_path_te _ _ _ _ _ _ _ _ _ _ _ _ _ _ _ _ _ _ _ _ _ _ _ _ _ _ _ _ _ _ _ w hl b0 b1 (decide_eq_true d1) P1 P2 P3 P4 P5 (by simpa using hn) c3 c4
    · by_cases hn : n5 = 0
      · subst hn
        by_cases d2 : l < bar
        · have e := ha rfl d2
          simp only [Prod.mk.injEq, and_true] at e
          obtain ⟨rfl, rfl, rfl, rfl⟩ := e
          exact law_path_ft _ _ _ _ _ _ _ _ _ _ _ _ _ _ _ _ _ _ _ _ _ _ _ _ _ _ _ _ _ _ w hl b0 b1 (decide_eq_false d1) P1 P2 P3 P4 P5 (hA rfl) (decide_eq_true d2) c3 c4
        · exact law_path_ff _ _ _ _ _ _ _ _ _ _ _ _ _ _ _ _ _ _ _ _ _ _ _ _ _ _ _ _ _ _ _ _ _ _ w hl b0 b1 (decide_eq_false d1) P1 P2 P3 P4 P5 (hA rfl) (decide_eq_false d2) c3 c4
      · exact law_path_fe _ _ _ _ _ _ _ _ _ _ _ _ _ _ _ _ _ _ _ _ _ _ _ _ _ _ _ _ _ _ _ _ _ _ _ w hl b0 b1 (decide_eq_false d1) P1 P2 P3 P4 P5 (by simpa using hn) c3 c4
  · have e := Ap.pathR_err h
    simp only [Ap.toB, Prod.mk.injEq] at e
    obtain ⟨e1, e2, e3, e4⟩ := e
    rw [e1, e2, e3, e4] at P1
    exact law_path_1 g.a g.b g.c g.d g.f g.l g.x g.y bar x y _ w hl (by simpa using h) P1
end Go.Proofs.YtjoieglhmladhaaDoor
