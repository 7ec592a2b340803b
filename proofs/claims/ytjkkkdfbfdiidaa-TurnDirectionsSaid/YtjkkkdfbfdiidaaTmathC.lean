/- Plain facts on turns: the product of two, angles. -/
import Derived.Test.YtjkkkdfbfdiidaaTmathB
namespace Go.Proofs.Ytjkkkdfbfdiidaa.Tm
set_option linter.unusedVariables false
set_option linter.unusedSimpArgs false

def cX (a b a' b' : Int) : Int := a * a' - b * b'
def cY (a b a' b' : Int) : Int := a * b' + b * a'
def cD (a b c a' b' c' : Int) : Int := g3 (cX a b a' b') (cY a b a' b') (c * c')
/-- The product of two turns, and the error. -/
def cmp (a b c a' b' c' : Int) : Int × Int × Int × Int :=
  if vld a b c = true ∧ vld a' b' c' = true then
    if (c * c').tdiv (cD a b c a' b' c') ≤ 32768 then ((cX a b a' b').tdiv (cD a b c a' b' c'), (cY a b a' b').tdiv (cD a b c a' b' c'), (c * c').tdiv (cD a b c a' b' c'), 0)
    else (0, 0, 0, 2)
  else (0, 0, 0, 140)

theorem vld_c {a b c : Int} (h : vld a b c = true) : 1 ≤ c := ((vld_iff a b c).1 h).1
theorem vld_sq {a b c : Int} (h : vld a b c = true) : a * a + b * b = c * c := ((vld_iff a b c).1 h).2.2.2.2.2.2.1
theorem vld_g {a b c : Int} (h : vld a b c = true) : g3 a b c = 1 := ((vld_iff a b c).1 h).2.2.2.2.2.2.2
theorem mul_pos1 {c c' : Int} (h : 1 ≤ c) (h' : 1 ≤ c') : 1 ≤ c * c' := by have := Int.mul_pos (show 0 < c by omega) (show 0 < c' by omega); omega
theorem cD_pos {a b c a' b' c' : Int} (h : vld a b c = true) (h' : vld a' b' c' = true) : 1 ≤ cD a b c a' b' c' := g3_pos _ _ _ (mul_pos1 (vld_c h) (vld_c h'))
theorem cX_comm (a b a' b' : Int) : cX a' b' a b = cX a b a' b' := by unfold cX; rw [Int.mul_comm a' a, Int.mul_comm b' b]
theorem cY_comm (a b a' b' : Int) : cY a' b' a b = cY a b a' b' := by unfold cY; rw [Int.mul_comm a' b, Int.mul_comm b' a]; omega
theorem cmp_comm (a b c a' b' c' : Int) : cmp a' b' c' a b c = cmp a b c a' b' c' := by
  unfold cmp cD
  rw [cX_comm, cY_comm, Int.mul_comm c' c]
  by_cases h : vld a b c = true ∧ vld a' b' c' = true
  · rw [if_pos h, if_pos ⟨h.2, h.1⟩]
  · rw [if_neg h, if_neg (fun e => h ⟨e.2, e.1⟩)]
theorem cmp_ok {a b c a' b' c' : Int} (h : vld a b c = true) (h' : vld a' b' c' = true) (hl : (c * c').tdiv (cD a b c a' b' c') ≤ 32768) :
    cmp a b c a' b' c' = ((cX a b a' b').tdiv (cD a b c a' b' c'), (cY a b a' b').tdiv (cD a b c a' b' c'), (c * c').tdiv (cD a b c a' b' c'), 0) := by
  unfold cmp; rw [if_pos ⟨h, h'⟩, if_pos hl]
theorem cmp_lim {a b c a' b' c' : Int} (h : vld a b c = true) (h' : vld a' b' c' = true) (hl : ¬(c * c').tdiv (cD a b c a' b' c') ≤ 32768) : cmp a b c a' b' c' = (0, 0, 0, 2) := by
  unfold cmp; rw [if_pos ⟨h, h'⟩, if_neg hl]
theorem vld_one : vld 1 0 1 = true := by decide +kernel
theorem cmp_one {a b c : Int} (h : vld a b c = true) : cmp a b c 1 0 1 = (a, b, c, 0) := by
  have e1 : cX a b 1 0 = a := by unfold cX; omega
  have e2 : cY a b 1 0 = b := by unfold cY; omega
  have e3 : cD a b c 1 0 1 = 1 := by unfold cD; rw [e1, e2, Int.mul_one]; exact vld_g h
  rw [cmp_ok h vld_one (by rw [e3, Int.mul_one, Int.tdiv_one]; exact ((vld_iff a b c).1 h).2.1), e1, e2, e3]
  simp only [Int.mul_one, Int.tdiv_one]
theorem g3_neg (a b c : Int) : g3 a (-b) c = g3 a b c := by simp only [g3_def, Int.natAbs_neg]
theorem vld_neg {a b c : Int} (h : vld a b c = true) : vld a (-b) c = true := by
  rw [vld_iff] at h ⊢
  rw [g3_neg, Int.neg_mul_neg]
  omega
theorem cmp_neg {a b c : Int} (h : vld a b c = true) : cmp a b c a (-b) c = (1, 0, 1, 0) := by
  have hc := vld_c h
  have e1 : cX a b a (-b) = c * c := by unfold cX; rw [Int.mul_neg, ← vld_sq h]; omega
  have e2 : cY a b a (-b) = 0 := by unfold cY; rw [Int.mul_neg, Int.mul_comm b a]; omega
  have hp := mul_pos1 hc hc
  have e3 : cD a b c a (-b) c = c * c := by
    unfold cD; rw [e1, e2, g3_def]
    simp only [Int.natAbs_zero, Nat.gcd_zero_right, Nat.gcd_self]
    omega
  have e4 : (c * c).tdiv (c * c) = 1 := Int.tdiv_self (by omega)
  rw [cmp_ok h (vld_neg h) (by rw [e3, e4]; omega), e1, e2, e3, e4, Int.zero_tdiv]
theorem cmp_err {a b c a' b' c' : Int} (h : vld a b c = true) (h' : vld a' b' c' = true) : (cmp a b c a' b' c').2.2.2 = 0 ∨ (cmp a b c a' b' c').2.2.2 = 2 := by
  by_cases hl : (c * c').tdiv (cD a b c a' b' c') ≤ 32768
  · rw [cmp_ok h h' hl]; exact .inl rfl
  · rw [cmp_lim h h' hl]; exact .inr rfl
/-- A product that stands is a valid turn, a factor of the numbers' product. -/
theorem cmp_spec {a b c a' b' c' x y z : Int} (h : vld a b c = true) (h' : vld a' b' c' = true) (e : cmp a b c a' b' c' = (x, y, z, 0)) :
    vld x y z = true ∧ ∃ d, 1 ≤ d ∧ cX a b a' b' = d * x ∧ cY a b a' b' = d * y ∧ c * c' = d * z := by
  by_cases hl : (c * c').tdiv (cD a b c a' b' c') ≤ 32768
  · rw [cmp_ok h h' hl] at e
    simp only [Prod.mk.injEq, and_true] at e
    obtain ⟨rfl, rfl, rfl⟩ := e
    have hd := cD_pos h h'
    obtain ⟨h1, h2, h3⟩ := g3_dvd (cX a b a' b') (cY a b a' b') (c * c')
    exact ⟨red_vld _ _ _ (mul_pos1 (vld_c h) (vld_c h')) (prod_sq a b c a' b' c' (vld_sq h) (vld_sq h')) hl, _, hd, (tdiv_mul _ _ hd h1).symm, (tdiv_mul _ _ hd h2).symm, (tdiv_mul _ _ hd h3).symm⟩
  · rw [cmp_lim h h' hl] at e
    simp at e
/-- Products of multiples have the same lowest terms. -/
theorem cmp_of {a b c a' b' c' k X Y Z : Int} (h : vld a b c = true) (h' : vld a' b' c' = true) (hk : 1 ≤ k) (hZ : 1 ≤ Z) (e1 : X = k * cX a b a' b') (e2 : Y = k * cY a b a' b') (e3 : Z = k * (c * c')) :
    cmp a b c a' b' c' = if Z.tdiv (g3 X Y Z) ≤ 32768 then (X.tdiv (g3 X Y Z), Y.tdiv (g3 X Y Z), Z.tdiv (g3 X Y Z), 0) else (0, 0, 0, 2) := by
  obtain ⟨s1, s2, s3⟩ := red_scale k (cX a b a' b') (cY a b a' b') (c * c') hk (cD_pos h h')
  subst e1 e2 e3
  rw [s1, s2, s3]
  unfold cmp
  rw [if_pos ⟨h, h'⟩]
  rfl
theorem cX_assoc (a b a' b' a'' b'' : Int) : cX (cX a b a' b') (cY a b a' b') a'' b'' = cX a b (cX a' b' a'' b'') (cY a' b' a'' b'') := by
  simp only [cX, cY, Int.mul_add, Int.add_mul, Int.mul_sub, Int.sub_mul, Int.mul_comm, Int.mul_assoc, Int.mul_left_comm]; omega
theorem cY_assoc (a b a' b' a'' b'' : Int) : cY (cX a b a' b') (cY a b a' b') a'' b'' = cY a b (cX a' b' a'' b'') (cY a' b' a'' b'') := by
  simp only [cX, cY, Int.mul_add, Int.add_mul, Int.mul_sub, Int.sub_mul, Int.mul_comm, Int.mul_assoc, Int.mul_left_comm]; omega
theorem cX_left (d a b a' b' : Int) : cX (d * a) (d * b) a' b' = d * cX a b a' b' := by unfold cX; simp only [Int.mul_sub, Int.mul_assoc]
theorem cY_left (d a b a' b' : Int) : cY (d * a) (d * b) a' b' = d * cY a b a' b' := by unfold cY; simp only [Int.mul_add, Int.mul_assoc]
theorem cX_right (d a b a' b' : Int) : cX a b (d * a') (d * b') = d * cX a b a' b' := by rw [← cX_comm, cX_left, cX_comm]
theorem cY_right (d a b a' b' : Int) : cY a b (d * a') (d * b') = d * cY a b a' b' := by rw [← cY_comm, cY_left, cY_comm]
theorem cmp_assoc {a b c a' b' c' a'' b'' c'' x y z x' y' z' : Int} (h : vld a b c = true) (h' : vld a' b' c' = true) (h'' : vld a'' b'' c'' = true)
    (e : cmp a b c a' b' c' = (x, y, z, 0)) (e' : cmp a' b' c' a'' b'' c'' = (x', y', z', 0)) : cmp x y z a'' b'' c'' = cmp a b c x' y' z' := by
  obtain ⟨v, d, hd, q1, q2, q3⟩ := cmp_spec h h' e
  obtain ⟨v', d', hd', q1', q2', q3'⟩ := cmp_spec h' h'' e'
  have hZ := mul_pos1 (mul_pos1 (vld_c h) (vld_c h')) (vld_c h'')
  rw [cmp_of (X := cX (cX a b a' b') (cY a b a' b') a'' b'') (Y := cY (cX a b a' b') (cY a b a' b') a'' b'') (Z := c * c' * c'') v h'' hd hZ (by rw [q1, q2, cX_left]) (by rw [q1, q2, cY_left]) (by rw [q3, Int.mul_assoc])]
  rw [cmp_of (X := cX a b (cX a' b' a'' b'') (cY a' b' a'' b'')) (Y := cY a b (cX a' b' a'' b'') (cY a' b' a'' b'')) (Z := c * c' * c'') h v' hd' hZ (by rw [q1', q2', cX_right]) (by rw [q1', q2', cY_right])
    (by rw [Int.mul_assoc, q3']; simp only [Int.mul_comm, Int.mul_assoc, Int.mul_left_comm])]
  rw [cX_assoc, cY_assoc]
end Go.Proofs.Ytjkkkdfbfdiidaa.Tm
