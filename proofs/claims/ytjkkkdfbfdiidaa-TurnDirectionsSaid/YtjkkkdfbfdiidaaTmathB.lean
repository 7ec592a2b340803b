/- Plain facts on turns: lowest terms, products, angles. -/
import Derived.Test.YtjkkkdfbfdiidaaTmath
namespace Go.Proofs.Ytjkkkdfbfdiidaa.Tm
set_option linter.unusedVariables false
set_option linter.unusedSimpArgs false

theorem g3_dvd (a b c : Int) : g3 a b c ∣ a ∧ g3 a b c ∣ b ∧ g3 a b c ∣ c := by
  rw [g3_def]
  have h1 := Nat.gcd_dvd_left (Nat.gcd a.natAbs b.natAbs) c.natAbs
  have h2 := Nat.gcd_dvd_right (Nat.gcd a.natAbs b.natAbs) c.natAbs
  exact ⟨Int.ofNat_dvd_left.2 (Nat.dvd_trans h1 (Nat.gcd_dvd_left _ _)), Int.ofNat_dvd_left.2 (Nat.dvd_trans h1 (Nat.gcd_dvd_right _ _)), Int.ofNat_dvd_left.2 h2⟩
theorem dvd_g3 (k a b c : Int) (ha : k ∣ a) (hb : k ∣ b) (hc : k ∣ c) : k ∣ g3 a b c := by
  rw [g3_def]
  have h : k.natAbs ∣ Nat.gcd (Nat.gcd a.natAbs b.natAbs) c.natAbs := Nat.dvd_gcd (Nat.dvd_gcd (Int.natAbs_dvd_natAbs.2 ha) (Int.natAbs_dvd_natAbs.2 hb)) (Int.natAbs_dvd_natAbs.2 hc)
  exact Int.ofNat_dvd_right.2 h
theorem g3_mul (k a b c : Int) (hk : 0 ≤ k) : g3 (k * a) (k * b) (k * c) = k * g3 a b c := by
  rw [g3_def, g3_def, Int.natAbs_mul, Int.natAbs_mul, Int.natAbs_mul, Nat.gcd_mul_left, Nat.gcd_mul_left]
  have : ((k.natAbs * Nat.gcd (Nat.gcd a.natAbs b.natAbs) c.natAbs : Nat) : Int) = (k.natAbs : Int) * (Nat.gcd (Nat.gcd a.natAbs b.natAbs) c.natAbs : Nat) := Int.natCast_mul _ _
  rw [this]
  congr 1
  omega
/-- Numbers are the divisor's multiples of their quotients. -/
theorem tdiv_mul (x d : Int) (hd : 1 ≤ d) (h : d ∣ x) : d * x.tdiv d = x := by
  obtain ⟨m, rfl⟩ := h
  rw [Int.mul_tdiv_cancel_left _ (by omega)]
theorem mul_tdiv (x d : Int) (hd : 1 ≤ d) : (d * x).tdiv d = x := Int.mul_tdiv_cancel_left _ (by omega)
theorem g3_lowest (a b c : Int) (h : 1 ≤ g3 a b c) : g3 (a.tdiv (g3 a b c)) (b.tdiv (g3 a b c)) (c.tdiv (g3 a b c)) = 1 := by
  obtain ⟨h1, h2, h3⟩ := g3_dvd a b c
  have e := g3_mul (g3 a b c) (a.tdiv (g3 a b c)) (b.tdiv (g3 a b c)) (c.tdiv (g3 a b c)) (by omega)
  rw [tdiv_mul _ _ h h1, tdiv_mul _ _ h h2, tdiv_mul _ _ h h3] at e
  have : g3 a b c * 1 = g3 a b c * g3 (a.tdiv (g3 a b c)) (b.tdiv (g3 a b c)) (c.tdiv (g3 a b c)) := by rw [Int.mul_one]; exact e
  exact (Int.eq_of_mul_eq_mul_left (by omega) this).symm
/-- Lowest terms do not depend on a factor. -/
theorem red_scale (k a b c : Int) (hk : 1 ≤ k) (hg : 1 ≤ g3 a b c) : (k * a).tdiv (g3 (k * a) (k * b) (k * c)) = a.tdiv (g3 a b c) ∧ (k * b).tdiv (g3 (k * a) (k * b) (k * c)) = b.tdiv (g3 a b c) ∧ (k * c).tdiv (g3 (k * a) (k * b) (k * c)) = c.tdiv (g3 a b c) := by
  rw [g3_mul k a b c (by omega)]
  exact ⟨Int.mul_tdiv_mul_of_pos _ _ (by omega), Int.mul_tdiv_mul_of_pos _ _ (by omega), Int.mul_tdiv_mul_of_pos _ _ (by omega)⟩

theorem abs_le_of_sq (x z : Int) (hz : 0 ≤ z) (h : x * x ≤ z * z) : -z ≤ x ∧ x ≤ z := by
  have e1 : x * x = ((x.natAbs * x.natAbs : Nat) : Int) := Int.natAbs_mul_self.symm
  have e2 : z * z = ((z.natAbs * z.natAbs : Nat) : Int) := Int.natAbs_mul_self.symm
  have h1 : x.natAbs * x.natAbs ≤ z.natAbs * z.natAbs := by omega
  have h2 : x.natAbs ≤ z.natAbs := by
    rcases Nat.lt_or_ge z.natAbs x.natAbs with h' | h'
    · have := Nat.mul_lt_mul'' h' h'
      omega
    · exact h'
  omega
/-- Lowest terms of numbers on the circle are a valid turn, if they are small. -/
theorem red_vld (a b c : Int) (hc : 1 ≤ c) (h : a * a + b * b = c * c) (hl : c.tdiv (g3 a b c) ≤ 32768) : vld (a.tdiv (g3 a b c)) (b.tdiv (g3 a b c)) (c.tdiv (g3 a b c)) = true := by
  have hg := g3_pos a b c hc
  obtain ⟨h1, h2, h3⟩ := g3_dvd a b c
  have g1 := g3_lowest a b c hg
  have e1 := tdiv_mul _ _ hg h1
  have e2 := tdiv_mul _ _ hg h2
  have e3 := tdiv_mul _ _ hg h3
  generalize a.tdiv (g3 a b c) = x at *
  generalize b.tdiv (g3 a b c) = y at *
  generalize c.tdiv (g3 a b c) = z at *
  generalize g3 a b c = d at *
  subst e1 e2 e3
  have hz : 1 ≤ z := by
    rcases Int.lt_or_le 0 z with h' | h'
    · omega
    · have : d * z ≤ 0 := Int.mul_nonpos_of_nonneg_of_nonpos (by omega) h'
      omega
  have hd2 : d * d ≠ 0 := by have := sq_pos d (by omega); omega
  have hq : x * x + y * y = z * z := by
    have e : (d * d) * (x * x + y * y) = (d * d) * (z * z) := by
      rw [Int.mul_add]
      have f1 : d * d * (x * x) = d * x * (d * x) := by simp only [Int.mul_comm, Int.mul_assoc, Int.mul_left_comm]
      have f2 : d * d * (y * y) = d * y * (d * y) := by simp only [Int.mul_comm, Int.mul_assoc, Int.mul_left_comm]
      have f3 : d * d * (z * z) = d * z * (d * z) := by simp only [Int.mul_comm, Int.mul_assoc, Int.mul_left_comm]
      rw [f1, f2, f3]; exact h
    exact Int.eq_of_mul_eq_mul_left hd2 e
  have bx := abs_le_of_sq x z (by omega) (by have := sq_nonneg y; omega)
  have by' := abs_le_of_sq y z (by omega) (by have := sq_nonneg x; omega)
  rw [vld_iff]
  exact ⟨hz, hl, bx.1, bx.2, by'.1, by'.2, hq, g1⟩

theorem sq_id (a b a' b' : Int) : (a * a' - b * b') * (a * a' - b * b') + (a * b' + b * a') * (a * b' + b * a') = (a * a + b * b) * (a' * a' + b' * b') := by
  simp only [Int.mul_add, Int.add_mul, Int.mul_sub, Int.sub_mul, Int.mul_comm, Int.mul_assoc, Int.mul_left_comm]; omega
/-- The numbers of a product lie on the circle. -/
theorem prod_sq (a b c a' b' c' : Int) (h : a * a + b * b = c * c) (h' : a' * a' + b' * b' = c' * c') :
    (a * a' - b * b') * (a * a' - b * b') + (a * b' + b * a') * (a * b' + b * a') = (c * c') * (c * c') := by
  rw [sq_id, h, h']
  simp only [Int.mul_comm, Int.mul_assoc, Int.mul_left_comm]
end Go.Proofs.Ytjkkkdfbfdiidaa.Tm
