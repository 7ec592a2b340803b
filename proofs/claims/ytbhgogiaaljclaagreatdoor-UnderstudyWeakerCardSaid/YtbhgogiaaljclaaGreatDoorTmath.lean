/- Plain facts on greatest common divisors and on turns, no program in sight. -/
import Derived.Below
namespace Go.Proofs.YtbhgogiaaljclaaGreatDoor.Tm
set_option linter.unusedVariables false
set_option linter.unusedSimpArgs false

/-- The greatest common divisor, as an integer. -/
def g2 (a b : Int) : Int := (Int.gcd a b : Nat)

theorem g2_nonneg (a b : Int) : 0 ≤ g2 a b := by unfold g2; omega
theorem g2_def (a b : Int) : g2 a b = (Nat.gcd a.natAbs b.natAbs : Nat) := rfl
theorem g2_step (d n : Int) : g2 n (d.tmod n) = g2 d n := by
  simp only [g2_def, Int.natAbs_tmod]
  rw [Nat.gcd_comm n.natAbs, ← Nat.gcd_rec, Nat.gcd_comm]
theorem g2_zero (d : Int) : g2 d 0 = d.natAbs := by simp [g2_def]
theorem g2_zero_left (d : Int) : g2 0 d = d.natAbs := by simp [g2_def]
theorem tmod_lt (d n : Int) (h : n ≠ 0) : (d.tmod n).natAbs < n.natAbs := by
  rw [Int.natAbs_tmod]; exact Nat.mod_lt _ (by omega)
theorem g2_abs (d n : Int) (m : Int) (h : d.natAbs = m.natAbs) : g2 d n = g2 m n := by simp [g2_def, h]

/-- The divisor that three numbers have in common. -/
def g3 (a b c : Int) : Int := g2 (g2 a b) c
theorem g3_nonneg (a b c : Int) : 0 ≤ g3 a b c := g2_nonneg _ _
theorem natAbs_g2 (a b : Int) : (g2 a b).natAbs = Nat.gcd a.natAbs b.natAbs := by simp [g2_def]
theorem g3_def (a b c : Int) : g3 a b c = (Nat.gcd (Nat.gcd a.natAbs b.natAbs) c.natAbs : Nat) := by
  unfold g3; rw [g2_def, natAbs_g2]

/-- The k-th of three numbers, and the divisor of the first k. -/
def nth (a b c : Int) (k : Nat) : Int := if k = 0 then a else if k = 1 then b else c
def gk (a b c : Int) (k : Nat) : Int := if k = 0 then 0 else if k = 1 then g2 0 a else if k = 2 then g2 a b else g3 a b c
theorem gk_succ (a b c : Int) (k : Nat) (h : k < 3) : gk a b c (k + 1) = g2 (gk a b c k) (nth a b c k) := by
  match k, h with
  | 0, _ => rfl
  | 1, _ => simp [gk, nth, g2_def]
  | 2, _ => rfl
theorem gk_nonneg (a b c : Int) (k : Nat) : 0 ≤ gk a b c k := by
  unfold gk; repeat' split
  all_goals first | omega | exact g2_nonneg _ _ | exact g3_nonneg _ _ _
/-- The bound that keeps everything far from the ends of int. -/
def Mod (n : Int) : Prop := n.natAbs ≤ 2305843009213693952
theorem Mod.lo {n : Int} (h : Mod n) : -2305843009213693952 ≤ n := by unfold Mod at h; omega
theorem Mod.hi {n : Int} (h : Mod n) : n ≤ 2305843009213693952 := by unfold Mod at h; omega
theorem g2_le (a b : Int) (ha : Mod a) (hb : Mod b) : Mod (g2 a b) := by
  unfold Mod at *
  rw [natAbs_g2]
  by_cases h : a.natAbs = 0
  · rw [h, Nat.gcd_zero_left]; exact hb
  · exact Nat.le_trans (Nat.gcd_le_left _ (by omega)) ha
theorem gk_mod (a b c : Int) (k : Nat) (ha : Mod a) (hb : Mod b) (hc : Mod c) : Mod (gk a b c k) := by
  unfold gk; repeat' split
  · simp [Mod]
  · exact g2_le _ _ (by simp [Mod]) ha
  · exact g2_le _ _ ha hb
  · exact g2_le _ _ (g2_le _ _ ha hb) hc
theorem nth_mod (a b c : Int) (k : Nat) (ha : Mod a) (hb : Mod b) (hc : Mod c) : Mod (nth a b c k) := by
  unfold nth; repeat' split
  all_goals assumption
theorem tmod_mod (d n : Int) (h : n ≠ 0) (hn : Mod n) : Mod (d.tmod n) := by
  have := tmod_lt d n h; unfold Mod at *; omega
theorem g2_of_abs (d m : Int) : g2 d m = g2 (g2 d 0) m := by rw [g2_zero]; simp [g2_def]
theorem tdiv_mod (a d : Int) (ha : Mod a) : Mod (a.tdiv d) := by
  unfold Mod at *
  rw [Int.natAbs_tdiv]
  exact Nat.le_trans (Nat.div_le_self _ _) ha
theorem g3_mod (a b c : Int) (ha : Mod a) (hb : Mod b) (hc : Mod c) : Mod (g3 a b c) := g2_le _ _ (g2_le _ _ ha hb) hc
/-- A valid turn. -/
def vld (a b c : Int) : Bool := decide (1 ≤ c ∧ c ≤ 32768 ∧ -c ≤ a ∧ a ≤ c ∧ -c ≤ b ∧ b ≤ c ∧ a * a + b * b = c * c ∧ g3 a b c = 1)
theorem vld_iff (a b c : Int) : vld a b c = true ↔ 1 ≤ c ∧ c ≤ 32768 ∧ -c ≤ a ∧ a ≤ c ∧ -c ≤ b ∧ b ≤ c ∧ a * a + b * b = c * c ∧ g3 a b c = 1 := by
  unfold vld; exact decide_eq_true_iff
theorem tdiv_lt (c d : Int) (hc : 1 ≤ c) (hd : 2 ≤ d) : c.tdiv d < c := by
  have h1 : (c.tdiv d).natAbs = c.natAbs / d.natAbs := Int.natAbs_tdiv c d
  have h2 : 0 ≤ c.tdiv d := Int.tdiv_nonneg (by omega) (by omega)
  have h3 : c.natAbs / d.natAbs < c.natAbs := Nat.div_lt_self (by omega) (by omega)
  rw [← h1] at h3
  omega
theorem sq_bd (a c : Int) (h1 : 1 ≤ c) (h2 : c ≤ 32768) (h3 : -c ≤ a) (h4 : a ≤ c) : 0 ≤ a * a ∧ a * a ≤ 1073741824 := by
  have e : a * a = ((a.natAbs * a.natAbs : Nat) : Int) := Int.natAbs_mul_self.symm
  have h : a.natAbs * a.natAbs ≤ 32768 * 32768 := Nat.mul_le_mul (by omega) (by omega)
  omega
theorem g3_pos (a b c : Int) (hc : 1 ≤ c) : 1 ≤ g3 a b c := by
  rw [g3_def]
  have := Nat.gcd_pos_of_pos_right (Nat.gcd a.natAbs b.natAbs) (show 0 < c.natAbs by omega)
  omega
theorem sq_nat (a : Int) (n : Nat) (h : a.natAbs ≤ n) : 0 ≤ a * a ∧ a * a ≤ ((n * n : Nat) : Int) := by
  have e : a * a = ((a.natAbs * a.natAbs : Nat) : Int) := Int.natAbs_mul_self.symm
  have h : a.natAbs * a.natAbs ≤ n * n := Nat.mul_le_mul h h
  omega
theorem mul_nat (a b : Int) (m n : Nat) (ha : a.natAbs ≤ m) (hb : b.natAbs ≤ n) : -((m * n : Nat) : Int) ≤ a * b ∧ a * b ≤ ((m * n : Nat) : Int) := by
  have e := Int.natAbs_mul a b
  have h : a.natAbs * b.natAbs ≤ m * n := Nat.mul_le_mul ha hb
  omega
/-- Is the angle at least half a turn? -/
def lower (a b : Int) : Bool := decide (b < 0 ∨ (b = 0 ∧ a < 0))
/-- The least integer that is at least n / c. -/
def up (n c : Int) : Int := if n % c = 0 then n / c else n / c + 1
theorem tmul (n c : Int) : n.tdiv c * c = n - n.tmod c := by
  have := Int.tdiv_mul_add_tmod n c; omega
theorem tmod_bd (n c : Int) (hc : 1 ≤ c) : -c < n.tmod c ∧ n.tmod c < c := by
  have := tmod_lt n c (by omega)
  omega
theorem div_of (n c D t : Int) (hc : 1 ≤ c) (h : D * c = n - t) (h0 : 0 ≤ t) (h1 : t < c) : n / c = D ∧ n % c = t := by
  have := (Int.ediv_emod_unique (a := n) (b := c) (r := t) (q := D) (by omega)).2 ⟨by rw [Int.mul_comm]; omega, h0, h1⟩
  exact this
theorem out_0 (n c : Int) (hc : 1 ≤ c) (ht : n.tmod c = 0) : n / c = n.tdiv c ∧ up n c = n.tdiv c := by
  have h := div_of n c (n.tdiv c) 0 hc (by have := tmul n c; omega) (by omega) (by omega)
  exact ⟨h.1, by unfold up; rw [if_pos h.2]; exact h.1⟩
theorem out_p (n c : Int) (hc : 1 ≤ c) (ht : 0 < n.tmod c) : n / c = n.tdiv c ∧ up n c = n.tdiv c + 1 := by
  have b := tmod_bd n c hc
  have h := div_of n c (n.tdiv c) (n.tmod c) hc (tmul n c) (by omega) (by omega)
  exact ⟨h.1, by unfold up; rw [if_neg (by omega), h.1]⟩
theorem out_n (n c : Int) (hc : 1 ≤ c) (ht : n.tmod c < 0) : n / c = n.tdiv c - 1 ∧ up n c = n.tdiv c := by
  have b := tmod_bd n c hc
  have h := div_of n c (n.tdiv c - 1) (n.tmod c + c) hc (by rw [Int.sub_mul, tmul]; omega) (by omega) (by omega)
  exact ⟨h.1, by unfold up; rw [if_neg (by omega), h.1]; omega⟩
theorem tdiv_bd (n c : Int) (M : Nat) (h : n.natAbs ≤ M) : -(M : Int) ≤ n.tdiv c ∧ n.tdiv c ≤ M := by
  have : (n.tdiv c).natAbs = n.natAbs / c.natAbs := Int.natAbs_tdiv n c
  have := Nat.div_le_self n.natAbs c.natAbs
  omega
theorem vld_ne (a b c : Int) (h : vld a b c = true) : ¬(a = 0 ∧ b = 0) := by
  rintro ⟨rfl, rfl⟩
  rw [vld_iff] at h
  have : 0 < c * c := Int.mul_pos (by omega) (by omega)
  omega
theorem sq_pos (p : Int) (h : p ≠ 0) : 1 ≤ p * p := by
  have e : p * p = ((p.natAbs * p.natAbs : Nat) : Int) := Int.natAbs_mul_self.symm
  have : 0 < p.natAbs * p.natAbs := Nat.mul_pos (by omega) (by omega)
  omega
theorem sq_nonneg (p : Int) : 0 ≤ p * p := by
  have e : p * p = ((p.natAbs * p.natAbs : Nat) : Int) := Int.natAbs_mul_self.symm
  omega
theorem make_pos (p q : Int) (h : ¬(p = 0 ∧ q = 0)) : 1 ≤ p * p + q * q := by
  have := sq_nonneg p; have := sq_nonneg q
  by_cases hp : p = 0
  · have := sq_pos q (by omega); omega
  · have := sq_pos p hp; omega
end Go.Proofs.YtbhgogiaaljclaaGreatDoor.Tm
