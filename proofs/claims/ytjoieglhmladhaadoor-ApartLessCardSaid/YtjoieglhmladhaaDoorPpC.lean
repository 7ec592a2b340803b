/- Plain facts: which clashes there are. -/
import Derived.Test.YtjoieglhmladhaaDoorClA
namespace Go.Proofs.YtjoieglhmladhaaDoor
set_option linter.unusedVariables false
set_option linter.unusedSimpArgs false
namespace Ap
abbrev bz : Bx := (0, 0, 0, 0)
theorem mem_rowC (h : Int → Int → Bool) (kd : Int) (p : Bx) (v : List Bx) (a : Nat) (c : C3) : ∀ (n b : Nat), c ∈ rowC h kd p v a b n ↔ ∃ j, b ≤ j ∧ j < b + n ∧ c = (kd, (a : Int), (j : Int)) ∧ hit h p v a j = true
  | 0, b => by
    simp only [rowC, List.not_mem_nil, false_iff]
    rintro ⟨j, h1, h2, _⟩
    omega
  | n + 1, b => by
    have ih := mem_rowC h kd p v a c n (b + 1)
    have key : (∃ j, b ≤ j ∧ j < b + (n + 1) ∧ c = (kd, (a : Int), (j : Int)) ∧ hit h p v a j = true) ↔ (c = (kd, (a : Int), (b : Int)) ∧ hit h p v a b = true) ∨ c ∈ rowC h kd p v a (b + 1) n := by
      rw [ih]
      constructor
      · rintro ⟨j, h1, h2, h3, h4⟩
        by_cases e : j = b
        · subst e; exact .inl ⟨h3, h4⟩
        · exact .inr ⟨j, by omega, by omega, h3, h4⟩
      · rintro (⟨h3, h4⟩ | ⟨j, h1, h2, h3, h4⟩)
        · exact ⟨b, by omega, by omega, h3, h4⟩
        · exact ⟨j, by omega, by omega, h3, h4⟩
    rw [key]
    have e : rowC h kd p v a b (n + 1) = if hit h p v a b = true then (kd, (a : Int), (b : Int)) :: rowC h kd p v a (b + 1) n else rowC h kd p v a (b + 1) n := rfl
    rw [e]
    by_cases hh : hit h p v a b = true
    · rw [if_pos hh, List.mem_cons]
      simp only [hh, and_true]
    · rw [if_neg hh]
      simp only [hh, and_false, false_or, Bool.false_eq_true]
theorem mem_allC (h : Int → Int → Bool) (kd : Int) (u v : List Bx) (R : Nat) (c : C3) : ∀ (n a : Nat), c ∈ allC h kd u v R a n ↔ ∃ i j, a ≤ i ∧ i < a + n ∧ i < j ∧ j < R ∧ c = (kd, (i : Int), (j : Int)) ∧ hit h (u.getD i bz) v i j = true
  | 0, a => by
    simp only [allC, List.not_mem_nil, false_iff]
    rintro ⟨i, j, h1, h2, _⟩
    omega
  | n + 1, a => by
    rw [allC, List.mem_append, mem_rowC, mem_allC h kd u v R c n (a + 1)]
    constructor
    · rintro (⟨j, h1, h2, h3, h4⟩ | ⟨i, j, h1, h2, h3⟩)
      · exact ⟨a, j, by omega, by omega, by omega, by omega, h3, h4⟩
      · exact ⟨i, j, by omega, by omega, h3⟩
    · rintro ⟨i, j, h1, h2, h3, h4, h5, h6⟩
      by_cases e : i = a
      · subst e; exact .inl ⟨j, by omega, by omega, h5, h6⟩
      · exact .inr ⟨i, j, by omega, by omega, h3, h4, h5, h6⟩
theorem mem_ksC (h : Int → Int → Bool) (mv hd : List Bx) (R : Nat) (c : C3) : ∀ (n k : Nat), c ∈ ksC h mv hd R k n ↔ ∃ q : Nat, k ≤ q ∧ q < k + n ∧ c ∈ allC h (q : Int) (one mv hd q) (two mv hd q) R 0 (one mv hd q).length
  | 0, k => by
    simp only [ksC, List.not_mem_nil, false_iff]
    rintro ⟨j, h1, h2, _⟩
    omega
  | n + 1, k => by
    rw [ksC, List.mem_append, mem_ksC h mv hd R c n (k + 1)]
    constructor
    · rintro (h1 | ⟨q, h1, h2, h3⟩)
      · exact ⟨k, by omega, by omega, h1⟩
      · exact ⟨q, by omega, by omega, h3⟩
    · rintro ⟨q, h1, h2, h3⟩
      by_cases e : q = k
      · subst e; exact .inl h3
      · exact .inr ⟨q, by omega, by omega, h3⟩
theorem mem_rowW (p q : Bx) (ps : List Bx) (a : Nat) (c : C3) : ∀ (n b : Nat), c ∈ rowW p q ps a b n ↔ ∃ j, b ≤ j ∧ j < b + n ∧ c = (5, (a : Int), (j : Int)) ∧ hitW p q (ps.getD j bz) = true
  | 0, b => by
    simp only [rowW, List.not_mem_nil, false_iff]
    rintro ⟨j, h1, h2, _⟩
    omega
  | n + 1, b => by
    have ih := mem_rowW p q ps a c n (b + 1)
    have key : (∃ j, b ≤ j ∧ j < b + (n + 1) ∧ c = (5, (a : Int), (j : Int)) ∧ hitW p q (ps.getD j bz) = true) ↔ (c = (5, (a : Int), (b : Int)) ∧ hitW p q (ps.getD b bz) = true) ∨ c ∈ rowW p q ps a (b + 1) n := by
      rw [ih]
      constructor
      · rintro ⟨j, h1, h2, h3, h4⟩
        by_cases e : j = b
        · subst e; exact .inl ⟨h3, h4⟩
        · exact .inr ⟨j, by omega, by omega, h3, h4⟩
      · rintro (⟨h3, h4⟩ | ⟨j, h1, h2, h3, h4⟩)
        · exact ⟨b, by omega, by omega, h3, h4⟩
        · exact ⟨j, by omega, by omega, h3, h4⟩
    rw [key]
    have e : rowW p q ps a b (n + 1) = if hitW p q (ps.getD b bz) = true then (5, (a : Int), (b : Int)) :: rowW p q ps a (b + 1) n else rowW p q ps a (b + 1) n := rfl
    rw [e]
    by_cases hh : hitW p q (ps.getD b bz) = true
    · rw [if_pos hh, List.mem_cons]
      simp only [hh, and_true]
    · rw [if_neg hh]
      simp only [hh, and_false, false_or, Bool.false_eq_true]
theorem mem_allW (mv hd ps : List Bx) (c : C3) : ∀ (n a : Nat), c ∈ allW mv hd ps a n ↔ ∃ i j, a ≤ i ∧ i < a + n ∧ j < ps.length ∧ c = (5, (i : Int), (j : Int)) ∧ hitW (mv.getD i bz) (hd.getD i bz) (ps.getD j bz) = true
  | 0, a => by
    simp only [allW, List.not_mem_nil, false_iff]
    rintro ⟨i, j, h1, h2, _⟩
    omega
  | n + 1, a => by
    rw [allW, List.mem_append, mem_rowW, mem_allW mv hd ps c n (a + 1)]
    constructor
    · rintro (⟨j, h1, h2, h3, h4⟩ | ⟨i, j, h1, h2, h3⟩)
      · exact ⟨a, j, by omega, by omega, by omega, h3, h4⟩
      · exact ⟨i, j, by omega, by omega, h3⟩
    · rintro ⟨i, j, h1, h2, h3, h4, h5⟩
      by_cases e : i = a
      · subst e; exact .inl ⟨j, by omega, by omega, h4, h5⟩
      · exact .inr ⟨i, j, by omega, by omega, h3, h4, h5⟩
theorem mem_allE (f : Bx) (mv hd : List Bx) (c : C3) : ∀ (n a : Nat), c ∈ allE f mv hd a n ↔ ∃ i, a ≤ i ∧ i < a + n ∧ c = (6, (i : Int), 0) ∧ hitE (mv.getD i bz) (hd.getD i bz) f = true
  | 0, a => by
    simp only [allE, List.not_mem_nil, false_iff]
    rintro ⟨j, h1, h2, _⟩
    omega
  | n + 1, a => by
    have ih := mem_allE f mv hd c n (a + 1)
    have key : (∃ i, a ≤ i ∧ i < a + (n + 1) ∧ c = (6, (i : Int), 0) ∧ hitE (mv.getD i bz) (hd.getD i bz) f = true) ↔ (c = (6, (a : Int), 0) ∧ hitE (mv.getD a bz) (hd.getD a bz) f = true) ∨ c ∈ allE f mv hd (a + 1) n := by
      rw [ih]
      constructor
      · rintro ⟨j, h1, h2, h3, h4⟩
        by_cases e : j = a
        · subst e; exact .inl ⟨h3, h4⟩
        · exact .inr ⟨j, by omega, by omega, h3, h4⟩
      · rintro (⟨h3, h4⟩ | ⟨j, h1, h2, h3, h4⟩)
        · exact ⟨a, by omega, by omega, h3, h4⟩
        · exact ⟨j, by omega, by omega, h3, h4⟩
    rw [key]
    have e : allE f mv hd a (n + 1) = if hitE (mv.getD a bz) (hd.getD a bz) f = true then (6, (a : Int), 0) :: allE f mv hd (a + 1) n else allE f mv hd (a + 1) n := rfl
    rw [e]
    by_cases hh : hitE (mv.getD a bz) (hd.getD a bz) f = true
    · rw [if_pos hh, List.mem_cons]
      simp only [hh, and_true]
    · rw [if_neg hh]
      simp only [hh, and_false, false_or, Bool.false_eq_true]
/-- Whose boxes kind q compares, as the laws say it. -/
def oneL (mv hd : List Bx) (q : Nat) : List Bx := if q ≤ 2 then mv else hd
def twoL (mv hd : List Bx) (q : Nat) : List Bx := if q = 1 ∨ q = 3 then mv else hd
theorem mem_cls (x : Ex.Wk) (gs : List Wg) (bar : Int) (mv hd : List Bx) (P : List (Int × Int)) (hm : mv.length = x.ro.length) (hh : hd.length = x.ro.length) (c : C3) :
    c ∈ cls x gs bar mv hd P ↔
      (∃ q i j : Nat, 1 ≤ q ∧ q ≤ 4 ∧ i < j ∧ j < x.ro.length ∧ c = ((q : Int), (i : Int), (j : Int)) ∧ has P i j = false ∧ meet ((oneL mv hd q).getD i bz) ((twoL mv hd q).getD j bz) = true) ∨
      (∃ i j : Nat, i < x.ro.length ∧ j < gs.length ∧ c = (5, (i : Int), (j : Int)) ∧ (meet (mv.getD i bz) ((pths bar gs).getD j bz) || meet (hd.getD i bz) ((pths bar gs).getD j bz)) = true) ∨
      (∃ i : Nat, i < x.ro.length ∧ c = (6, (i : Int), 0) ∧ (!ins (mv.getD i bz) (flo x) || !ins (hd.getD i bz) (flo x)) = true) := by
  unfold cls
  rw [List.mem_append, List.mem_append, mem_ksC, mem_allW, mem_allE]
  have l1 : ∀ q : Nat, 1 ≤ q → one mv hd q = oneL mv hd q := fun q h => by unfold one oneL; rw [if_neg (by omega)]
  have l2 : ∀ q : Nat, 1 ≤ q → two mv hd q = twoL mv hd q := fun q h => by unfold two twoL; rw [if_neg (by omega)]
  have l3 : ∀ q : Nat, (oneL mv hd q).length = x.ro.length := fun q => by unfold oneL; split <;> assumption
  refine or_congr ?_ (or_congr ?_ ?_)
  · constructor
    · rintro ⟨q, h1, h2, h3⟩
      rcases Nat.eq_zero_or_pos q with e | e
      · subst e; simp [one, allC] at h3
      · rw [mem_allC] at h3
        obtain ⟨i, j, _, h4, h5, h6, h7, h8⟩ := h3
        rw [l1 q e, l2 q e] at h8
        simp only [hit, Bool.and_eq_true, Bool.not_eq_true'] at h8
        exact ⟨q, i, j, e, by omega, h5, h6, h7, h8.1, h8.2⟩
    · rintro ⟨q, i, j, h1, h2, h3, h4, h5, h6, h7⟩
      refine ⟨q, by omega, by omega, ?_⟩
      rw [mem_allC, l1 q h1, l2 q h1, l3]
      exact ⟨i, j, by omega, by omega, h3, h4, h5, by simp only [hit, Bool.and_eq_true, Bool.not_eq_true']; exact ⟨h6, h7⟩⟩
  · constructor
    · rintro ⟨i, j, _, h1, h2, h3, h4⟩
      exact ⟨i, j, by omega, by simpa [pths] using h2, h3, h4⟩
    · rintro ⟨i, j, h1, h2, h3, h4⟩
      exact ⟨i, j, by omega, by omega, by simpa [pths] using h2, h3, h4⟩
  · constructor
    · rintro ⟨i, _, h1, h2, h3⟩
      exact ⟨i, by omega, h2, h3⟩
    · rintro ⟨i, h1, h2, h3⟩
      exact ⟨i, by omega, by omega, h2, h3⟩

/-- Where there are no clashes: two roles, a role and a wagon, a role and the floor. -/
theorem no_roles {x : Ex.Wk} {gs : List Wg} {bar : Int} {mv hd : List Bx} {P : List (Int × Int)} (hm : mv.length = x.ro.length) (hh : hd.length = x.ro.length) (h : cls x gs bar mv hd P = [])
    {i j : Nat} (hij : i < j) (hj : j < x.ro.length) (hp : has P i j = false) {p q : Bx} (hp1 : p = mv.getD i bz ∨ p = hd.getD i bz) (hq1 : q = mv.getD j bz ∨ q = hd.getD j bz) : meet p q = false := by
  have key : ∀ k : Nat, 1 ≤ k → k ≤ 4 → meet ((oneL mv hd k).getD i bz) ((twoL mv hd k).getD j bz) = false := by
    intro k h1 h2
    rcases hmt : meet ((oneL mv hd k).getD i bz) ((twoL mv hd k).getD j bz) with _ | _
    · rfl
    · have := (mem_cls x gs bar mv hd P hm hh ((k : Int), (i : Int), (j : Int))).2 (.inl ⟨k, i, j, h1, h2, hij, hj, rfl, hp, hmt⟩)
      rw [h] at this
      simp at this
  have k1 := key 1 (by omega) (by omega)
  have k2 := key 2 (by omega) (by omega)
  have k3 := key 3 (by omega) (by omega)
  have k4 := key 4 (by omega) (by omega)
  simp only [oneL, twoL, show (1 : Nat) ≤ 2 by omega, show (2 : Nat) ≤ 2 by omega, show ¬ (3 : Nat) ≤ 2 by omega, show ¬ (4 : Nat) ≤ 2 by omega, show (1 : Nat) = 1 ∨ (1 : Nat) = 3 by omega, show ¬ ((2 : Nat) = 1 ∨ (2 : Nat) = 3) by omega,
    show (3 : Nat) = 1 ∨ (3 : Nat) = 3 by omega, show ¬ ((4 : Nat) = 1 ∨ (4 : Nat) = 3) by omega, if_true, if_false] at k1 k2 k3 k4
  rcases hp1 with rfl | rfl <;> rcases hq1 with rfl | rfl <;> assumption
theorem no_wagon {x : Ex.Wk} {gs : List Wg} {bar : Int} {mv hd : List Bx} {P : List (Int × Int)} (hm : mv.length = x.ro.length) (hh : hd.length = x.ro.length) (h : cls x gs bar mv hd P = [])
    {i j : Nat} (hi : i < x.ro.length) (hj : j < gs.length) {p : Bx} (hp1 : p = mv.getD i bz ∨ p = hd.getD i bz) : meet p ((pths bar gs).getD j bz) = false := by
  rcases hmt : (meet (mv.getD i bz) ((pths bar gs).getD j bz) || meet (hd.getD i bz) ((pths bar gs).getD j bz)) with _ | _
  · simp only [Bool.or_eq_false_iff] at hmt
    rcases hp1 with rfl | rfl
    · exact hmt.1
    · exact hmt.2
  · have := (mem_cls x gs bar mv hd P hm hh (5, (i : Int), (j : Int))).2 (.inr (.inl ⟨i, j, hi, hj, rfl, hmt⟩))
    rw [h] at this
    simp at this
theorem no_edge {x : Ex.Wk} {gs : List Wg} {bar : Int} {mv hd : List Bx} {P : List (Int × Int)} (hm : mv.length = x.ro.length) (hh : hd.length = x.ro.length) (h : cls x gs bar mv hd P = [])
    {i : Nat} (hi : i < x.ro.length) {p : Bx} (hp1 : p = mv.getD i bz ∨ p = hd.getD i bz) : ins p (flo x) = true := by
  rcases hmt : (!ins (mv.getD i bz) (flo x) || !ins (hd.getD i bz) (flo x)) with _ | _
  · simp only [Bool.or_eq_false_iff, Bool.not_eq_false'] at hmt
    rcases hp1 with rfl | rfl
    · exact hmt.1
    · exact hmt.2
  · have := (mem_cls x gs bar mv hd P hm hh (6, (i : Int), 0)).2 (.inr (.inr ⟨i, hi, rfl, hmt⟩))
    rw [h] at this
    simp at this
end Ap
end Go.Proofs.YtjoieglhmladhaaDoor
