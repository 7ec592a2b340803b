/- Plain facts on turns: the order of angles. -/
import Derived.Test.YtjkkkdfbfdiidaaTmathC
namespace Go.Proofs.Ytjkkkdfbfdiidaa.Tm
set_option linter.unusedVariables false
set_option linter.unusedSimpArgs false

def crs (a b a' b' : Int) : Int := a * b' - b * a'

/-- Two turns whose angles are in the same half and parallel are one. -/
theorem same_of_par {a b c a' b' c' : Int} (h : vld a b c = true) (h' : vld a' b' c' = true) (hl : lower a b = lower a' b') (hx : crs a b a' b' = 0) : a = a' ∧ b = b' ∧ c = c' := by
  have s := vld_sq h
  have s' := vld_sq h'
  have hc := vld_c h
  have hc' := vld_c h'
  have hx' : a * b' = b * a' := by unfold crs at hx; omega
  -- D * D = (c * c') * (c * c')
  have hD : (a * a' + b * b') * (a * a' + b * b') = (c * c') * (c * c') := by
    have e := sq_id a b a' (-b')
    rw [Int.mul_neg, Int.mul_neg, Int.neg_mul_neg, s, s'] at e
    have e2 : -(a * b') + b * a' = 0 := by omega
    rw [e2] at e
    have e3 : a * a' - -(b * b') = a * a' + b * b' := by omega
    rw [e3] at e
    have e4 : c * c' * (c * c') = c * c * (c' * c') := by simp only [Int.mul_comm, Int.mul_assoc, Int.mul_left_comm]
    rw [e4, ← e]; omega
  have hab := abs_le_of_sq (a * a' + b * b') (c * c') (by have := mul_pos1 hc hc'; omega) (by omega)
  have hDs : a * a' + b * b' = c * c' ∨ a * a' + b * b' = -(c * c') := by
    have e : (a * a' + b * b' - c * c') * (a * a' + b * b' + c * c') = 0 := by
      rw [Int.mul_add, Int.sub_mul, Int.sub_mul, hD, Int.mul_comm (c * c') (a * a' + b * b')]; omega
    rcases Int.mul_eq_zero.1 e with e | e <;> omega
  have p1 : a' * (c * c) = a * (a * a' + b * b') := by
    rw [← s, Int.mul_add, Int.mul_add]
    have e1 : a' * (a * a) = a * (a * a') := by simp only [Int.mul_comm, Int.mul_left_comm]
    have e2 : a' * (b * b) = a * (b * b') := by
      have : a' * (b * b) = b * (b * a') := by simp only [Int.mul_comm, Int.mul_left_comm]
      rw [this, ← hx']; simp only [Int.mul_left_comm]
    rw [e1, e2]
  have p2 : b' * (c * c) = b * (a * a' + b * b') := by
    rw [← s, Int.mul_add, Int.mul_add]
    have e1 : b' * (b * b) = b * (b * b') := by simp only [Int.mul_comm, Int.mul_left_comm]
    have e2 : b' * (a * a) = b * (a * a') := by
      have : b' * (a * a) = a * (a * b') := by simp only [Int.mul_comm, Int.mul_left_comm]
      rw [this, hx']; simp only [Int.mul_left_comm]
    rw [e1, e2]
  have hc0 : c ≠ 0 := by omega
  rcases hDs with e | e
  · rw [e] at p1 p2
    have q1 : c * a' = c' * a := Int.eq_of_mul_eq_mul_left hc0 (by
      have f1 : c * (c * a') = a' * (c * c) := by simp only [Int.mul_comm, Int.mul_left_comm]
      have f2 : c * (c' * a) = a * (c * c') := by simp only [Int.mul_comm, Int.mul_left_comm]
      rw [f1, f2]; exact p1)
    have q2 : c * b' = c' * b := Int.eq_of_mul_eq_mul_left hc0 (by
      have f1 : c * (c * b') = b' * (c * c) := by simp only [Int.mul_comm, Int.mul_left_comm]
      have f2 : c * (c' * b) = b * (c * c') := by simp only [Int.mul_comm, Int.mul_left_comm]
      rw [f1, f2]; exact p2)
    have g1 := g3_mul c a' b' c' (by omega)
    have g2 := g3_mul c' a b c (by omega)
    rw [vld_g h', q1, q2, Int.mul_comm c c', Int.mul_one] at g1
    rw [vld_g h, Int.mul_one] at g2
    have hcc : c = c' := by omega
    subst hcc
    exact ⟨(Int.eq_of_mul_eq_mul_left hc0 q1).symm, (Int.eq_of_mul_eq_mul_left hc0 q2).symm, rfl⟩
  · exfalso
    rw [e] at p1 p2
    have q1 : c * a' = c' * (-a) := Int.eq_of_mul_eq_mul_left hc0 (by
      have f1 : c * (c * a') = a' * (c * c) := by simp only [Int.mul_comm, Int.mul_left_comm]
      have f2 : c * (c' * -a) = a * -(c * c') := by simp only [Int.mul_comm, Int.mul_left_comm, Int.mul_neg]
      rw [f1, f2]; exact p1)
    have q2 : c * b' = c' * (-b) := Int.eq_of_mul_eq_mul_left hc0 (by
      have f1 : c * (c * b') = b' * (c * c) := by simp only [Int.mul_comm, Int.mul_left_comm]
      have f2 : c * (c' * -b) = b * -(c * c') := by simp only [Int.mul_comm, Int.mul_left_comm, Int.mul_neg]
      rw [f1, f2]; exact p2)
    have sgn : ∀ u v : Int, c * u = c' * (-v) → (0 < u → v < 0) ∧ (u < 0 → 0 < v) ∧ (u = 0 → v = 0) := fun u v q => by
      refine ⟨fun hu => ?_, fun hu => ?_, fun hu => ?_⟩
      · have := Int.mul_pos (show 0 < c by omega) hu
        rcases Int.lt_or_le v 0 with h | h
        · exact h
        · have := Int.mul_nonneg (show 0 ≤ c' by omega) h; rw [Int.mul_neg] at q; omega
      · have := Int.mul_pos (show 0 < c by omega) (show 0 < -u by omega)
        rw [Int.mul_neg] at this q
        rcases Int.lt_or_le 0 v with h | h
        · exact h
        · have := Int.mul_nonneg (show 0 ≤ c' by omega) (show 0 ≤ -v by omega); rw [Int.mul_neg] at this; omega
      · subst hu
        rw [Int.mul_zero] at q
        rcases Int.mul_eq_zero.1 q.symm with h | h <;> omega
    have n0 := vld_ne a b c h
    obtain ⟨u1, u2, u3⟩ := sgn _ _ q1
    obtain ⟨v1, v2, v3⟩ := sgn _ _ q2
    have n0' := vld_ne a' b' c' h'
    unfold lower at hl
    rw [decide_eq_decide] at hl
    omega

/-- The order of two valid turns: -1, 0, 1. -/
def ord (a b a' b' : Int) : Int :=
  if a = a' ∧ b = b' then 0 else if lower a b = lower a' b' then (if 0 < crs a b a' b' then -1 else 1) else if lower a' b' = true then -1 else 1

theorem crs_swap (a b a' b' : Int) : crs a' b' a b = -crs a b a' b' := by
  unfold crs; rw [Int.mul_comm a' b, Int.mul_comm b' a]; omega
theorem ord_range (a b a' b' : Int) : -1 ≤ ord a b a' b' ∧ ord a b a' b' ≤ 1 := by
  unfold ord; repeat' split
  all_goals omega
theorem ord_zero {a b a' b' : Int} : ord a b a' b' = 0 ↔ a = a' ∧ b = b' := by
  unfold ord
  constructor
  · intro h; repeat' split at h
    all_goals first | assumption | omega
  · intro h; rw [if_pos h]
theorem ord_swap {a b c a' b' c' : Int} (h : vld a b c = true) (h' : vld a' b' c' = true) : ord a' b' a b = -ord a b a' b' := by
  by_cases e : a = a' ∧ b = b'
  · rw [ord_zero.2 e, ord_zero.2 ⟨e.1.symm, e.2.symm⟩]; rfl
  have e' : ¬(a' = a ∧ b' = b) := fun x => e ⟨x.1.symm, x.2.symm⟩
  unfold ord
  rw [if_neg e, if_neg e', crs_swap]
  by_cases hl : lower a b = lower a' b'
  · rw [if_pos hl, if_pos hl.symm]
    have : crs a b a' b' ≠ 0 := fun hx => e ⟨(same_of_par h h' hl hx).1, (same_of_par h h' hl hx).2.1⟩
    split <;> split <;> omega
  · rw [if_neg hl, if_neg (fun x => hl x.symm)]
    cases ha : lower a b <;> cases hb : lower a' b' <;> rw [ha, hb] at hl <;> simp_all
theorem ord_one {a b c : Int} (h : vld a b c = true) : 0 ≤ ord a b 1 0 := by
  have l1 : lower 1 0 = false := by decide
  unfold ord
  rw [l1]
  split
  · omega
  · split
    · rename_i hl
      have : ¬0 < crs a b 1 0 := by
        unfold crs
        unfold lower at hl
        rw [decide_eq_false_iff_not] at hl
        omega
      rw [if_neg this]; omega
    · simp
theorem crs_tri (ux uy vx vy wx wy : Int) : vy * crs ux uy wx wy = uy * crs vx vy wx wy + wy * crs ux uy vx vy := by
  unfold crs
  simp only [Int.mul_sub, Int.mul_comm, Int.mul_assoc, Int.mul_left_comm]; omega
theorem crs_neg (a b a' b' : Int) : crs (-a) (-b) (-a') (-b') = crs a b a' b' := by unfold crs; rw [Int.neg_mul_neg, Int.neg_mul_neg]

/-- In the upper half plane. -/
theorem tri_up {ux uy vx vy wx wy : Int} (hu : 0 < uy ∨ (uy = 0 ∧ 0 < ux)) (hv : 0 < vy ∨ (vy = 0 ∧ 0 < vx)) (hw : 0 < wy ∨ (wy = 0 ∧ 0 < wx))
    (h1 : 0 ≤ crs ux uy vx vy) (h2 : 0 ≤ crs vx vy wx wy) : 0 ≤ crs ux uy wx wy := by
  have e := crs_tri ux uy vx vy wx wy
  rcases hv with hv | ⟨rfl, hv⟩
  · have g1 := Int.mul_nonneg (show 0 ≤ uy by omega) h2
    have g2 := Int.mul_nonneg (show 0 ≤ wy by omega) h1
    rcases Int.lt_or_le (crs ux uy wx wy) 0 with h | h
    · have := Int.mul_pos hv (show 0 < -crs ux uy wx wy by omega)
      rw [Int.mul_neg] at this; omega
    · exact h
  · unfold crs at h1
    rw [Int.mul_zero] at h1
    have : uy = 0 := by
      rcases Int.lt_or_le 0 uy with h | h
      · have := Int.mul_pos h hv; omega
      · omega
    subst this
    unfold crs
    rw [Int.zero_mul]
    have := Int.mul_nonneg (show 0 ≤ ux by omega) (show 0 ≤ wy by omega)
    omega
theorem ord_le {a b c a' b' c' : Int} (h : vld a b c = true) (h' : vld a' b' c' = true) : ord a b a' b' ≤ 0 ↔ (lower a b = lower a' b' ∧ 0 ≤ crs a b a' b') ∨ (lower a b = false ∧ lower a' b' = true) := by
  unfold ord
  by_cases e : a = a' ∧ b = b'
  · rw [if_pos e]
    obtain ⟨rfl, rfl⟩ := e
    exact ⟨fun _ => .inl ⟨rfl, by unfold crs; rw [Int.mul_comm]; omega⟩, fun _ => by omega⟩
  rw [if_neg e]
  by_cases hl : lower a b = lower a' b'
  · have : crs a b a' b' ≠ 0 := fun hx => e ⟨(same_of_par h h' hl hx).1, (same_of_par h h' hl hx).2.1⟩
    rw [if_pos hl]
    constructor
    · intro hh; left; refine ⟨hl, ?_⟩; split at hh <;> omega
    · rintro (⟨_, h2⟩ | ⟨h2, h3⟩)
      · rw [if_pos (by omega)]; omega
      · rw [h2, h3] at hl; cases hl
  · rw [if_neg hl]
    cases ha : lower a b <;> cases hb : lower a' b' <;> rw [ha, hb] at hl <;> simp_all
theorem up_of {a b c : Int} (h : vld a b c = true) (hl : lower a b = false) : 0 < b ∨ (b = 0 ∧ 0 < a) := by
  have := vld_ne a b c h
  unfold lower at hl
  rw [decide_eq_false_iff_not] at hl
  omega
theorem low_of {a b : Int} (hl : lower a b = true) : 0 < -b ∨ (-b = 0 ∧ 0 < -a) := by
  unfold lower at hl
  rw [decide_eq_true_iff] at hl
  omega
theorem ord_trans {a b c a' b' c' a'' b'' c'' : Int} (h : vld a b c = true) (h' : vld a' b' c' = true) (h'' : vld a'' b'' c'' = true) (h1 : ord a b a' b' ≤ 0) (h2 : ord a' b' a'' b'' ≤ 0) : ord a b a'' b'' ≤ 0 := by
  rw [ord_le h h'] at h1
  rw [ord_le h' h''] at h2
  rw [ord_le h h'']
  rcases h1 with ⟨l1, x1⟩ | ⟨l1, m1⟩ <;> rcases h2 with ⟨l2, x2⟩ | ⟨l2, m2⟩
  · left
    refine ⟨l1.trans l2, ?_⟩
    cases ha : lower a b
    · exact tri_up (up_of h ha) (up_of h' (l1 ▸ ha)) (up_of h'' (l2 ▸ l1 ▸ ha)) x1 x2
    · rw [← crs_neg] at x1 x2 ⊢
      exact tri_up (low_of ha) (low_of (l1 ▸ ha)) (low_of (l2 ▸ l1 ▸ ha)) x1 x2
  · right; exact ⟨l1.trans l2, m2⟩
  · right; exact ⟨l1, l2 ▸ m1⟩
  · rw [m1] at l2; cases l2
end Go.Proofs.Ytjkkkdfbfdiidaa.Tm
