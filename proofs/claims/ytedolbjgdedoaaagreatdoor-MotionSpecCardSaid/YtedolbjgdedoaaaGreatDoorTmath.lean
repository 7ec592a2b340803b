/- Plain facts on greatest common divisors and on turns, no program in sight. -/
import Derived.Below
set_option linter.unusedSimpArgs false
set_option linter.unusedVariables false
namespace Go.Proofs.YtedolbjgdedoaaaGreatDoor.Tm

def g2 (a b : Int) : Int := (Int.gcd a b : Nat)

theorem g2_nonneg (a b : Int) : 0 ≤ g2 a b := by unfold g2; omega
theorem g2_def (a b : Int) : g2 a b = (Nat.gcd a.natAbs b.natAbs : Nat) := rfl
theorem g2_step (d n : Int) : g2 n (d.tmod n) = g2 d n := by
 simp only [g2_def, Int.natAbs_tmod]
 rw [Nat.gcd_comm n.natAbs, ← Nat.gcd_rec, Nat.gcd_comm]
theorem g2_zero (d : Int) : g2 d 0 = d.natAbs := by simp [g2_def]
theorem tmod_lt (d n : Int) (h : n ≠ 0) : (d.tmod n).natAbs < n.natAbs := by
 rw [Int.natAbs_tmod]; exact Nat.mod_lt _ (by omega)
def g3 (a b c : Int) : Int := g2 (g2 a b) c
theorem natAbs_g2 (a b : Int) : (g2 a b).natAbs = Nat.gcd a.natAbs b.natAbs := by simp [g2_def]
theorem g3_def (a b c : Int) : g3 a b c = (Nat.gcd (Nat.gcd a.natAbs b.natAbs) c.natAbs : Nat) := by
 unfold g3; rw [g2_def, natAbs_g2]

def nth (a b c : Int) (k : Nat) : Int := if k = 0 then a else if k = 1 then b else c
def gk (a b c : Int) (k : Nat) : Int := if k = 0 then 0 else if k = 1 then g2 0 a else if k = 2 then g2 a b else g3 a b c
theorem gk_succ (a b c : Int) (k : Nat) (h : k < 3) : gk a b c (k + 1) = g2 (gk a b c k) (nth a b c k) := by
 match k, h with
 | 0, _ => rfl
 | 1, _ => simp [gk, nth, g2_def]
 | 2, _ => rfl
def Mod (n : Int) : Prop := n.natAbs ≤ 2305843009213693952
theorem Mod.lo {n : Int} (h : Mod n) : -2305843009213693952 ≤ n := by unfold Mod at h; omega
theorem Mod.hi {n : Int} (h : Mod n) : n ≤ 2305843009213693952 := by unfold Mod at h; omega
theorem g2_le (a b : Int) (ha : Mod a) (hb : Mod b) : Mod (g2 a b) := by
 unfold Mod at *
 rw [natAbs_g2]
 by_cases h : a.natAbs = 0
 ·rw [h, Nat.gcd_zero_left]; exact hb
 ·exact Nat.le_trans (Nat.gcd_le_left _ (by omega)) ha
theorem nth_mod (a b c : Int) (k : Nat) (ha : Mod a) (hb : Mod b) (hc : Mod c) : Mod (nth a b c k) := by
 unfold nth; repeat' split
 all_goals assumption
theorem tmod_mod (d n : Int) (h : n ≠ 0) (hn : Mod n) : Mod (d.tmod n) := by
 have := tmod_lt d n h; unfold Mod at *; omega
theorem g2_of_abs (d m : Int) : g2 d m = g2 (g2 d 0) m := by rw [g2_zero]; simp [g2_def]
theorem tdiv_mod (a d : Int) (ha : Mod a) : Mod (a.tdiv d) := by
 unfold Mod at *
 rw [Int.natAbs_tdiv]
 exact Nat.le_trans (Nat.div_le_self _ _) ha
theorem g3_mod (a b c : Int) (ha : Mod a) (hb : Mod b) (hc : Mod c) : Mod (g3 a b c) := g2_le _ _ (g2_le _ _ ha hb) hc
def vld (a b c : Int) : Bool := decide (1 ≤ c ∧ c ≤ 32768 ∧ -c ≤ a ∧ a ≤ c ∧ -c ≤ b ∧ b ≤ c ∧ a * a + b * b = c * c ∧ g3 a b c = 1)
theorem vld_iff (a b c : Int) : vld a b c = true ↔ 1 ≤ c ∧ c ≤ 32768 ∧ -c ≤ a ∧ a ≤ c ∧ -c ≤ b ∧ b ≤ c ∧ a * a + b * b = c * c ∧ g3 a b c = 1 := by
 unfold vld; exact decide_eq_true_iff
theorem tdiv_lt (c d : Int) (hc : 1 ≤ c) (hd : 2 ≤ d) : c.tdiv d < c := by
 have h1 : (c.tdiv d).natAbs = c.natAbs / d.natAbs := Int.natAbs_tdiv c d
 have h2 : 0 ≤ c.tdiv d := Int.tdiv_nonneg (by omega) (by omega)
 have h3 : c.natAbs / d.natAbs < c.natAbs := Nat.div_lt_self (by omega) (by omega)
 rw [← h1] at h3
 omega
theorem sq_bd (a c : Int) (h1 : 1 ≤ c) (h2 : c ≤ 32768) (h3 : -c ≤ a) (h4 : a ≤ c) : 0 ≤ a * a ∧ a * a ≤ 1073741824 := by
 have e : a * a = ((a.natAbs * a.natAbs : Nat) : Int) := Int.natAbs_mul_self.symm
 have h : a.natAbs * a.natAbs ≤ 32768 * 32768 := Nat.mul_le_mul (by omega) (by omega)
 omega
theorem g3_pos (a b c : Int) (hc : 1 ≤ c) : 1 ≤ g3 a b c := by
 rw [g3_def]
 have := Nat.gcd_pos_of_pos_right (Nat.gcd a.natAbs b.natAbs) (show 0 < c.natAbs by omega)
 omega
def up (n c : Int) : Int := if n % c = 0 then n / c else n / c + 1
end Go.Proofs.YtedolbjgdedoaaaGreatDoor.Tm
