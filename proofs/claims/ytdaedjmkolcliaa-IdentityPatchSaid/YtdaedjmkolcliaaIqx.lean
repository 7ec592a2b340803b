/- Plain facts on greatest common divisors and on turns, no program in sight. Walks: the reference of layer 12 (ratios). Walks: the reference of layer 12: Check, Cmp. -/
import Derived.Below
import Derived.Test.YtdaedjmkolcliaaRa
import Derived.Test.YtdaedjmkolcliaaKit
namespace Go.Proofs.Ytdaedjmkolcliaa.Tm
set_option linter.unusedVariables false
set_option linter.unusedSimpArgs false

/-- The greatest common divisor, as an integer. -/
def g2 (a b : Int) : Int := (Int.gcd a b : Nat)

theorem g2_nonneg (a b : Int) : 0 ≤ g2 a b := by unfold g2; omega
theorem g2_def (a b : Int) : g2 a b = (Nat.gcd a.natAbs b.natAbs : Nat) := rfl
theorem g2_step (d n : Int) : g2 n (d.tmod n) = g2 d n := by
  simp only [g2_def, Int.natAbs_tmod]
  rw [Nat.gcd_comm n.natAbs, ← Nat.gcd_rec, Nat.gcd_comm]
theorem g2_zero (d : Int) : g2 d 0 = d.natAbs := by simp [g2_def]
theorem g2_zero_left (d : Int) : g2 0 d = d.natAbs := by simp [g2_def]
theorem tmod_lt (d n : Int) (h : n ≠ 0) : (d.tmod n).natAbs < n.natAbs := by
  rw [Int.natAbs_tmod]; exact Nat.mod_lt _ (by omega)
theorem g2_abs (d n : Int) (m : Int) (h : d.natAbs = m.natAbs) : g2 d n = g2 m n := by simp [g2_def, h]

/-- The divisor that three numbers have in common. -/
def g3 (a b c : Int) : Int := g2 (g2 a b) c
theorem g3_nonneg (a b c : Int) : 0 ≤ g3 a b c := g2_nonneg _ _
theorem natAbs_g2 (a b : Int) : (g2 a b).natAbs = Nat.gcd a.natAbs b.natAbs := by simp [g2_def]
theorem g3_def (a b c : Int) : g3 a b c = (Nat.gcd (Nat.gcd a.natAbs b.natAbs) c.natAbs : Nat) := by
  unfold g3; rw [g2_def, natAbs_g2]

/-- The k-th of three numbers, and the divisor of the first k. -/
def nth (a b c : Int) (k : Nat) : Int := if k = 0 then a else if k = 1 then b else c
def gk (a b c : Int) (k : Nat) : Int := if k = 0 then 0 else if k = 1 then g2 0 a else if k = 2 then g2 a b else g3 a b c
theorem gk_succ (a b c : Int) (k : Nat) (h : k < 3) : gk a b c (k + 1) = g2 (gk a b c k) (nth a b c k) := by
  match k, h with
  | 0, _ => rfl
  | 1, _ => simp [gk, nth, g2_def]
  | 2, _ => rfl
theorem gk_nonneg (a b c : Int) (k : Nat) : 0 ≤ gk a b c k := by
  unfold gk; repeat' split
  all_goals first | omega | exact g2_nonneg _ _ | exact g3_nonneg _ _ _
/-- The bound that keeps everything far from the ends of int. -/
def Mod (n : Int) : Prop := n.natAbs ≤ 2305843009213693952
theorem Mod.lo {n : Int} (h : Mod n) : -2305843009213693952 ≤ n := by unfold Mod at h; omega
theorem Mod.hi {n : Int} (h : Mod n) : n ≤ 2305843009213693952 := by unfold Mod at h; omega
theorem g2_le (a b : Int) (ha : Mod a) (hb : Mod b) : Mod (g2 a b) := by
  unfold Mod at *
  rw [natAbs_g2]
  by_cases h : a.natAbs = 0
  · rw [h, Nat.gcd_zero_left]; exact hb
  · exact Nat.le_trans (Nat.gcd_le_left _ (by omega)) ha
theorem gk_mod (a b c : Int) (k : Nat) (ha : Mod a) (hb : Mod b) (hc : Mod c) : Mod (gk a b c k) := by
  unfold gk; repeat' split
  · simp [Mod]
  · exact g2_le _ _ (by simp [Mod]) ha
  · exact g2_le _ _ ha hb
  · exact g2_le _ _ (g2_le _ _ ha hb) hc
theorem nth_mod (a b c : Int) (k : Nat) (ha : Mod a) (hb : Mod b) (hc : Mod c) : Mod (nth a b c k) := by
  unfold nth; repeat' split
  all_goals assumption
theorem tmod_mod (d n : Int) (h : n ≠ 0) (hn : Mod n) : Mod (d.tmod n) := by
  have := tmod_lt d n h; unfold Mod at *; omega
theorem g2_of_abs (d m : Int) : g2 d m = g2 (g2 d 0) m := by rw [g2_zero]; simp [g2_def]
theorem tdiv_mod (a d : Int) (ha : Mod a) : Mod (a.tdiv d) := by
  unfold Mod at *
  rw [Int.natAbs_tdiv]
  exact Nat.le_trans (Nat.div_le_self _ _) ha
theorem g3_mod (a b c : Int) (ha : Mod a) (hb : Mod b) (hc : Mod c) : Mod (g3 a b c) := g2_le _ _ (g2_le _ _ ha hb) hc
/-- A valid turn. -/
def vld (a b c : Int) : Bool := decide (1 ≤ c ∧ c ≤ 32768 ∧ -c ≤ a ∧ a ≤ c ∧ -c ≤ b ∧ b ≤ c ∧ a * a + b * b = c * c ∧ g3 a b c = 1)
theorem vld_iff (a b c : Int) : vld a b c = true ↔ 1 ≤ c ∧ c ≤ 32768 ∧ -c ≤ a ∧ a ≤ c ∧ -c ≤ b ∧ b ≤ c ∧ a * a + b * b = c * c ∧ g3 a b c = 1 := by
  unfold vld; exact decide_eq_true_iff
theorem tdiv_lt (c d : Int) (hc : 1 ≤ c) (hd : 2 ≤ d) : c.tdiv d < c := by
  have h1 : (c.tdiv d).natAbs = c.natAbs / d.natAbs := Int.natAbs_tdiv c d
  have h2 : 0 ≤ c.tdiv d := Int.tdiv_nonneg (by omega) (by omega)
  have h3 : c.natAbs / d.natAbs < c.natAbs := Nat.div_lt_self (by omega) (by omega)
  rw [← h1] at h3
  omega
theorem sq_bd (a c : Int) (h1 : 1 ≤ c) (h2 : c ≤ 32768) (h3 : -c ≤ a) (h4 : a ≤ c) : 0 ≤ a * a ∧ a * a ≤ 1073741824 := by
  have e : a * a = ((a.natAbs * a.natAbs : Nat) : Int) := Int.natAbs_mul_self.symm
  have h : a.natAbs * a.natAbs ≤ 32768 * 32768 := Nat.mul_le_mul (by omega) (by omega)
  omega
theorem g3_pos (a b c : Int) (hc : 1 ≤ c) : 1 ≤ g3 a b c := by
  rw [g3_def]
  have := Nat.gcd_pos_of_pos_right (Nat.gcd a.natAbs b.natAbs) (show 0 < c.natAbs by omega)
  omega
theorem sq_nat (a : Int) (n : Nat) (h : a.natAbs ≤ n) : 0 ≤ a * a ∧ a * a ≤ ((n * n : Nat) : Int) := by
  have e : a * a = ((a.natAbs * a.natAbs : Nat) : Int) := Int.natAbs_mul_self.symm
  have h : a.natAbs * a.natAbs ≤ n * n := Nat.mul_le_mul h h
  omega
theorem mul_nat (a b : Int) (m n : Nat) (ha : a.natAbs ≤ m) (hb : b.natAbs ≤ n) : -((m * n : Nat) : Int) ≤ a * b ∧ a * b ≤ ((m * n : Nat) : Int) := by
  have e := Int.natAbs_mul a b
  have h : a.natAbs * b.natAbs ≤ m * n := Nat.mul_le_mul ha hb
  omega
/-- Is the angle at least half a turn? -/
def lower (a b : Int) : Bool := decide (b < 0 ∨ (b = 0 ∧ a < 0))
/-- The least integer that is at least n / c. -/
def up (n c : Int) : Int := if n % c = 0 then n / c else n / c + 1
theorem tmul (n c : Int) : n.tdiv c * c = n - n.tmod c := by
  have := Int.tdiv_mul_add_tmod n c; omega
theorem tmod_bd (n c : Int) (hc : 1 ≤ c) : -c < n.tmod c ∧ n.tmod c < c := by
  have := tmod_lt n c (by omega)
  omega
theorem div_of (n c D t : Int) (hc : 1 ≤ c) (h : D * c = n - t) (h0 : 0 ≤ t) (h1 : t < c) : n / c = D ∧ n % c = t := by
  have := (Int.ediv_emod_unique (a := n) (b := c) (r := t) (q := D) (by omega)).2 ⟨by rw [Int.mul_comm]; omega, h0, h1⟩
  exact this
theorem out_0 (n c : Int) (hc : 1 ≤ c) (ht : n.tmod c = 0) : n / c = n.tdiv c ∧ up n c = n.tdiv c := by
  have h := div_of n c (n.tdiv c) 0 hc (by have := tmul n c; omega) (by omega) (by omega)
  exact ⟨h.1, by unfold up; rw [if_pos h.2]; exact h.1⟩
theorem out_p (n c : Int) (hc : 1 ≤ c) (ht : 0 < n.tmod c) : n / c = n.tdiv c ∧ up n c = n.tdiv c + 1 := by
  have b := tmod_bd n c hc
  have h := div_of n c (n.tdiv c) (n.tmod c) hc (tmul n c) (by omega) (by omega)
  exact ⟨h.1, by unfold up; rw [if_neg (by omega), h.1]⟩
theorem out_n (n c : Int) (hc : 1 ≤ c) (ht : n.tmod c < 0) : n / c = n.tdiv c - 1 ∧ up n c = n.tdiv c := by
  have b := tmod_bd n c hc
  have h := div_of n c (n.tdiv c - 1) (n.tmod c + c) hc (by rw [Int.sub_mul, tmul]; omega) (by omega) (by omega)
  exact ⟨h.1, by unfold up; rw [if_neg (by omega), h.1]; omega⟩
theorem tdiv_bd (n c : Int) (M : Nat) (h : n.natAbs ≤ M) : -(M : Int) ≤ n.tdiv c ∧ n.tdiv c ≤ M := by
  have : (n.tdiv c).natAbs = n.natAbs / c.natAbs := Int.natAbs_tdiv n c
  have := Nat.div_le_self n.natAbs c.natAbs
  omega
theorem vld_ne (a b c : Int) (h : vld a b c = true) : ¬(a = 0 ∧ b = 0) := by
  rintro ⟨rfl, rfl⟩
  rw [vld_iff] at h
  have : 0 < c * c := Int.mul_pos (by omega) (by omega)
  omega
theorem sq_pos (p : Int) (h : p ≠ 0) : 1 ≤ p * p := by
  have e : p * p = ((p.natAbs * p.natAbs : Nat) : Int) := Int.natAbs_mul_self.symm
  have : 0 < p.natAbs * p.natAbs := Nat.mul_pos (by omega) (by omega)
  omega
theorem sq_nonneg (p : Int) : 0 ≤ p * p := by
  have e : p * p = ((p.natAbs * p.natAbs : Nat) : Int) := Int.natAbs_mul_self.symm
  omega
theorem make_pos (p q : Int) (h : ¬(p = 0 ∧ q = 0)) : 1 ≤ p * p + q * q := by
  have := sq_nonneg p; have := sq_nonneg q
  by_cases hp : p = 0
  · have := sq_pos q (by omega); omega
  · have := sq_pos p hp; omega
end Go.Proofs.Ytdaedjmkolcliaa.Tm

namespace Go.Proofs.Ytdaedjmkolcliaa
set_option linter.unusedVariables false
set_option linter.unusedSimpArgs false
open Go.RowKit

theorem ret_int {k : IntKind} {a b : Int} (h : a = b) : Ending.returned (.int k a) = .returned (.int k b) := by rw [h]

set_option maxHeartbeats 400000 in
theorem rq_divisor (a b : Int) (w : World) (ha : 0 ≤ a) (hb : 0 ≤ b) (a1 : a ≤ 2305843009213693952) (b1 : b ≤ 2305843009213693952) :
    Calls Try.prog 113 #[.int .i64 a, .int .i64 b] w fun e w' => e = .returned (.int .i64 (Tm.g2 a b)) ∧ w = w' := by
  go_enter Try.func113, Try.ntmps113
  go_wp2
  go_loop [0, 1, 5] (fun v0 v1 v5 => ∃ x y : Int, v0 = .int .i64 x ∧ v1 = .int .i64 y ∧ 0 ≤ x ∧ 0 ≤ y ∧ x ≤ 2305843009213693952 ∧ y ≤ 2305843009213693952 ∧ Hid (Tm.g2 x y = Tm.g2 a b)) (fun _ v1 _ => (intOf v1).natAbs)
  case atStart => exact ⟨a, b, rfl, rfl, ha, hb, a1, b1, rfl⟩
  case round =>
    obtain ⟨x, y, rfl, rfl, hx, hy, hx', hy', HG⟩ := hrel
    by_cases hz : 0 < y
    · have k1 := Int.tmod_nonneg y hx
      have k2 := Int.tmod_lt_of_pos x hz
      have k5 := Tm.tmod_lt x y (by omega)
      have hs := Tm.g2_step x y
      have HS := Lib.hid hs; clear hs
      have he : x % y = x.tmod y := (Int.tmod_eq_emod_of_nonneg hx).symm
      have HE := Lib.hid he; clear he
      go_wp2
      go_round
      case rel => exact ⟨_, _, rfl, rfl, by omega, by first | omega | (rw [HE.out]; omega), by omega, by first | omega | (rw [HE.out]; omega), by first | (rw [HE.out]; exact HS.out.trans HG.out) | exact HS.out.trans HG.out⟩
      case measure => simp only [intOf]; first | exact k5 | (rw [HE.out]; exact k5)
    · go_wp2
      go_ret
      refine ⟨ret_int ?_, rfl⟩
      obtain rfl : y = 0 := by omega
      have := HG.out
      rw [Tm.g2_zero] at this
      omega
theorem rq_size (n : Int) (w : World) (h1 : -4611686018427387904 ≤ n) (h2 : n ≤ 4611686018427387904) : Calls Try.prog 114 #[.int .i64 n] w fun e w' => e = .returned (.int .i64 (n.natAbs : Int)) ∧ w = w' := by
  go_enter Try.func114, Try.ntmps114
  go_wp2
  all_goals go_ret
  all_goals exact ⟨ret_int (by omega), rfl⟩

namespace Rq
theorem ok_g2 (n d : Int) : Ra.ok n d = (decide (1 ≤ d) && decide (d ≤ 1073741824) && decide (-1073741824 ≤ n) && decide (n ≤ 1073741824) && (Tm.g2 (n.natAbs : Int) d == 1)) := by
  rw [Bool.eq_iff_iff, Ra.ok_iff]
  simp only [Bool.and_eq_true, decide_eq_true_iff, beq_iff_eq, Tm.g2_def, Int.natAbs_natCast]
  omega
end Rq
set_option maxRecDepth 100000 in
set_option maxHeartbeats 1000000 in
theorem rq_valid (n d : Int) (w : World) : Calls Try.prog 106 #[Ra.V n d] w fun e w' => e = .returned (.bool (Ra.ok n d)) ∧ Below w.heap.size w w' := by
  rw [Rq.ok_g2]
  rcases b1 : decide (1 ≤ d) with _ | _
  · go_enter Try.func106, Try.ntmps106
    go_wp2
    go_quiet (fail)
    go_wp2
    go_ret
    exact ⟨rfl, by (repeat' first | (with_reducible first | exact Below.refl _ _ | assumption | refine Kit.below_drewN ?_ _ | refine Below.drew ?_ | refine Below.alloc ?_ ?_ _ | refine Below.setCell ?_ ?_ _ | exact Nat.le_refl _) | omega | (simp; omega) | (simp; done) | (apply Below.size; assumption))⟩
  rcases b2 : decide (d ≤ 1073741824) with _ | _
  · go_enter Try.func106, Try.ntmps106
    go_wp2
    go_quiet (fail)
    go_wp2
    go_ret
    exact ⟨rfl, by (repeat' first | (with_reducible first | exact Below.refl _ _ | assumption | refine Kit.below_drewN ?_ _ | refine Below.drew ?_ | refine Below.alloc ?_ ?_ _ | refine Below.setCell ?_ ?_ _ | exact Nat.le_refl _) | omega | (simp; omega) | (simp; done) | (apply Below.size; assumption))⟩
  rcases b3 : decide (-1073741824 ≤ n) with _ | _
  · go_enter Try.func106, Try.ntmps106
    go_wp2
    go_quiet (fail)
    go_wp2
    go_ret
    exact ⟨rfl, by (repeat' first | (with_reducible first | exact Below.refl _ _ | assumption | refine Kit.below_drewN ?_ _ | refine Below.drew ?_ | refine Below.alloc ?_ ?_ _ | refine Below.setCell ?_ ?_ _ | exact Nat.le_refl _) | omega | (simp; omega) | (simp; done) | (apply Below.size; assumption))⟩
  rcases b4 : decide (n ≤ 1073741824) with _ | _
  · go_enter Try.func106, Try.ntmps106
    go_wp2
    go_quiet (fail)
    go_wp2
    go_ret
    exact ⟨rfl, by (repeat' first | (with_reducible first | exact Below.refl _ _ | assumption | refine Kit.below_drewN ?_ _ | refine Below.drew ?_ | refine Below.alloc ?_ ?_ _ | refine Below.setCell ?_ ?_ _ | exact Nat.le_refl _) | omega | (simp; omega) | (simp; done) | (apply Below.size; assumption))⟩
  have h1 := of_decide_eq_true b1
  have h2 := of_decide_eq_true b2
  have h3 := of_decide_eq_true b3
  have h4 := of_decide_eq_true b4
  have c1 := Lib.hid (fun W => (rq_size n W (by omega) (by omega)).mono (fun e w' h => (⟨h.1, h.2 ▸ Below.refl _ _⟩ : e = .returned (.int .i64 (n.natAbs : Int)) ∧ Below W.heap.size W w')))
  have c2 := Lib.hid (fun W => (rq_divisor (n.natAbs : Int) d W (by omega) (by omega) (by omega) (by omega)).mono (fun e w' h => (⟨h.1, h.2 ▸ Below.refl _ _⟩ : e = .returned (.int .i64 (Tm.g2 (n.natAbs : Int) d)) ∧ Below W.heap.size W w')))
  rcases b5 : (Tm.g2 (n.natAbs : Int) d == 1) with _ | _
  · generalize Tm.g2 (n.natAbs : Int) d = g at *
    generalize ((n.natAbs : Nat) : Int) = m at *
    go_enter Try.func106, Try.ntmps106
    go_wp2
    (refine Kit.wp_name ?_; intro W1 hW1_; have bW1_ : Below w.heap.size w W1 := (by rw [hW1_]; (repeat' first | (with_reducible first | exact Below.refl _ _ | assumption | refine Kit.below_drewN ?_ _ | refine Below.drew ?_ | refine Below.alloc ?_ ?_ _ | refine Below.setCell ?_ ?_ _ | exact Nat.le_refl _) | omega | (simp; omega) | (simp; done) | (apply Below.size; assumption))); have kW1_w_0 : ∀ x : Kit.Wd W1, x.val.cell? ⟨w.heap.size, 0, none⟩ = some (.int .i64 n) := fun x => x.cell (by rw [hW1_]; first | assumption | (simp [go_sem]; done) | (simp [go_sem, *]; done)) (by rw [hW1_]; first | assumption | (simp; done) | (simp; omega)); have kW1_w_1 : ∀ x : Kit.Wd W1, x.val.cell? ⟨w.heap.size, 1, none⟩ = some (.int .i64 d) := fun x => x.cell (by rw [hW1_]; first | assumption | (simp [go_sem]; done) | (simp [go_sem, *]; done)) (by rw [hW1_]; first | assumption | (simp; done) | (simp; omega)); have HW1_ := Lib.hid hW1_; clear hW1_; refine Kit.wp_region_cls (by kernel_rfl) (by kernel_rfl) ?_; (repeat (go_big_quiet_step (first | (with_reducible exact Kit.calls_cls _ (c1.out _)) | (with_reducible exact Kit.calls_cls _ (c2.out _))))); refine wpQuiet_nil ?_; intro x; have bx_ : Below w.heap.size w x.val := bW1_.trans (x.below.mono bW1_.size))
    go_wp2
    go_ret
    exact ⟨rfl, bx_⟩
  · generalize Tm.g2 (n.natAbs : Int) d = g at *
    generalize ((n.natAbs : Nat) : Int) = m at *
    go_enter Try.func106, Try.ntmps106
    go_wp2
    (refine Kit.wp_name ?_; intro W1 hW1_; have bW1_ : Below w.heap.size w W1 := (by rw [hW1_]; (repeat' first | (with_reducible first | exact Below.refl _ _ | assumption | refine Kit.below_drewN ?_ _ | refine Below.drew ?_ | refine Below.alloc ?_ ?_ _ | refine Below.setCell ?_ ?_ _ | exact Nat.le_refl _) | omega | (simp; omega) | (simp; done) | (apply Below.size; assumption))); have kW1_w_0 : ∀ x : Kit.Wd W1, x.val.cell? ⟨w.heap.size, 0, none⟩ = some (.int .i64 n) := fun x => x.cell (by rw [hW1_]; first | assumption | (simp [go_sem]; done) | (simp [go_sem, *]; done)) (by rw [hW1_]; first | assumption | (simp; done) | (simp; omega)); have kW1_w_1 : ∀ x : Kit.Wd W1, x.val.cell? ⟨w.heap.size, 1, none⟩ = some (.int .i64 d) := fun x => x.cell (by rw [hW1_]; first | assumption | (simp [go_sem]; done) | (simp [go_sem, *]; done)) (by rw [hW1_]; first | assumption | (simp; done) | (simp; omega)); have HW1_ := Lib.hid hW1_; clear hW1_; refine Kit.wp_region_cls (by kernel_rfl) (by kernel_rfl) ?_; (repeat (go_big_quiet_step (first | (with_reducible exact Kit.calls_cls _ (c1.out _)) | (with_reducible exact Kit.calls_cls _ (c2.out _))))); refine wpQuiet_nil ?_; intro x; have bx_ : Below w.heap.size w x.val := bW1_.trans (x.below.mono bW1_.size))
    go_wp2
    go_ret
    exact ⟨rfl, bx_⟩
end Go.Proofs.Ytdaedjmkolcliaa

namespace Go.Proofs.Ytdaedjmkolcliaa
set_option linter.unusedVariables false
set_option linter.unusedSimpArgs false
open Go.RowKit

set_option maxHeartbeats 400000 in
theorem rq_both (a b c d : Int) (w : World) : Calls Try.prog 85 #[Ra.V a b, Ra.V c d] w fun e w' => e = .returned (.bool (Ra.ok a b && Ra.ok c d)) ∧ Below w.heap.size w w' := by
  have c1 := fun W => rq_valid a b W
  have c2 := fun W => rq_valid c d W
  rcases h1 : Ra.ok a b with _ | _
  · rw [h1] at c1
    have C1 := Lib.hid c1; clear c1 c2 h1
    go_enter Try.func85, Try.ntmps85
    skip
    (go_wp2_with (fail); refine (C1.out _).mono ?_; rintro e w1_ ⟨rfl, hb1_⟩; have hp1_ : Below w.heap.size w w1_ := Below.trans (by (repeat' first | (with_reducible first | exact Below.refl _ _ | assumption | refine Kit.below_drewN ?_ _ | refine Below.drew ?_ | refine Below.alloc ?_ ?_ _ | refine Below.setCell ?_ ?_ _ | exact Nat.le_refl _) | omega | (simp; omega) | (simp; done) | (apply Below.size; assumption))) (hb1_.mono (by first | assumption | (simp; done) | (simp; omega) | omega)); have hw1_ : Below w.heap.size w w1_ := hp1_; obtain ⟨hc1_, hf1_⟩ := Kit.bcell hb1_; have z1_w : w.heap.size < w1_.heap.size := (by have := hb1_.size; first | omega | (simp at this; omega)); obtain ⟨g1_w_0, g1_w_1⟩ : w1_.cell? ⟨w.heap.size, 0, none⟩ = some (.int .i64 a) ∧ w1_.cell? ⟨w.heap.size, 1, none⟩ = some (.int .i64 b) := (by refine ⟨?_, ?_⟩ <;> (rw [hc1_ _ _ (by first | assumption | (simp; done) | (simp; omega) | omega)]; first | assumption | (simp [go_sem]; done) | (simp [go_sem, *]; done))); have z1_w_1 : w.heap.size + 1 < w1_.heap.size := (by have := hb1_.size; first | omega | (simp at this; omega)); obtain ⟨g1_w_1_0, g1_w_1_1⟩ : w1_.cell? ⟨w.heap.size + 1, 0, none⟩ = some (.int .i64 c) ∧ w1_.cell? ⟨w.heap.size + 1, 1, none⟩ = some (.int .i64 d) := (by refine ⟨?_, ?_⟩ <;> (rw [hc1_ _ _ (by first | assumption | (simp; done) | (simp; omega) | omega)]; first | assumption | (simp [go_sem]; done) | (simp [go_sem, *]; done))); clear hc1_ hf1_; clear hb1_ hp1_)
    go_wp2
    go_ret
    exact ⟨rfl, by (repeat' first | (with_reducible first | exact Below.refl _ _ | assumption | refine Kit.below_drewN ?_ _ | refine Below.drew ?_ | refine Below.alloc ?_ ?_ _ | refine Below.setCell ?_ ?_ _ | exact Nat.le_refl _) | omega | (simp; omega) | (simp; done) | (apply Below.size; assumption))⟩
  · rw [h1] at c1
    generalize Ra.ok c d = r at *
    have C1 := Lib.hid c1; have C2 := Lib.hid c2; clear c1 c2 h1
    go_enter Try.func85, Try.ntmps85
    skip
    (go_wp2_with (fail); refine (C1.out _).mono ?_; rintro e w1_ ⟨rfl, hb1_⟩; have hp1_ : Below w.heap.size w w1_ := Below.trans (by (repeat' first | (with_reducible first | exact Below.refl _ _ | assumption | refine Kit.below_drewN ?_ _ | refine Below.drew ?_ | refine Below.alloc ?_ ?_ _ | refine Below.setCell ?_ ?_ _ | exact Nat.le_refl _) | omega | (simp; omega) | (simp; done) | (apply Below.size; assumption))) (hb1_.mono (by first | assumption | (simp; done) | (simp; omega) | omega)); have hw1_ : Below w.heap.size w w1_ := hp1_; obtain ⟨hc1_, hf1_⟩ := Kit.bcell hb1_; have z1_w : w.heap.size < w1_.heap.size := (by have := hb1_.size; first | omega | (simp at this; omega)); obtain ⟨g1_w_0, g1_w_1⟩ : w1_.cell? ⟨w.heap.size, 0, none⟩ = some (.int .i64 a) ∧ w1_.cell? ⟨w.heap.size, 1, none⟩ = some (.int .i64 b) := (by refine ⟨?_, ?_⟩ <;> (rw [hc1_ _ _ (by first | assumption | (simp; done) | (simp; omega) | omega)]; first | assumption | (simp [go_sem]; done) | (simp [go_sem, *]; done))); have z1_w_1 : w.heap.size + 1 < w1_.heap.size := (by have := hb1_.size; first | omega | (simp at this; omega)); obtain ⟨g1_w_1_0, g1_w_1_1⟩ : w1_.cell? ⟨w.heap.size + 1, 0, none⟩ = some (.int .i64 c) ∧ w1_.cell? ⟨w.heap.size + 1, 1, none⟩ = some (.int .i64 d) := (by refine ⟨?_, ?_⟩ <;> (rw [hc1_ _ _ (by first | assumption | (simp; done) | (simp; omega) | omega)]; first | assumption | (simp [go_sem]; done) | (simp [go_sem, *]; done))); clear hc1_ hf1_; clear hb1_ hp1_)
    (go_wp2_with (fail); refine (C2.out _).mono ?_; rintro e w2_ ⟨rfl, hb2_⟩; have hp2_ : Below w1_.heap.size w1_ w2_ := Below.trans (by (repeat' first | (with_reducible first | exact Below.refl _ _ | assumption | refine Kit.below_drewN ?_ _ | refine Below.drew ?_ | refine Below.alloc ?_ ?_ _ | refine Below.setCell ?_ ?_ _ | exact Nat.le_refl _) | omega | (simp; omega) | (simp; done) | (apply Below.size; assumption))) (hb2_.mono (by first | assumption | (simp; done) | (simp; omega) | omega)); have hw2_ : Below w.heap.size w w2_ := hw1_.trans (hp2_.mono hw1_.size); have z2_w : w.heap.size < w2_.heap.size := Nat.lt_of_lt_of_le z1_w hp2_.size; have g2_w_0 := Kit.ck hp2_ g1_w_0 z1_w; have g2_w_1 := Kit.ck hp2_ g1_w_1 z1_w; have z2_w_1 : w.heap.size + 1 < w2_.heap.size := Nat.lt_of_lt_of_le z1_w_1 hp2_.size; have g2_w_1_0 := Kit.ck hp2_ g1_w_1_0 z1_w_1; have g2_w_1_1 := Kit.ck hp2_ g1_w_1_1 z1_w_1; clear z1_w g1_w_0 g1_w_1 z1_w_1 g1_w_1_0 g1_w_1_1 hw1_ hb2_ hp2_)
    go_wp2
    go_ret
    exact ⟨by simp, by (repeat' first | (with_reducible first | exact Below.refl _ _ | assumption | refine Kit.below_drewN ?_ _ | refine Below.drew ?_ | refine Below.alloc ?_ ?_ _ | refine Below.setCell ?_ ?_ _ | exact Nat.le_refl _) | omega | (simp; omega) | (simp; done) | (apply Below.size; assumption))⟩

set_option maxHeartbeats 400000 in
theorem rq_less (a b c d : Int) (w : World) (h1 : -1152921504606846976 ≤ a * d ∧ a * d ≤ 1152921504606846976) (h2 : -1152921504606846976 ≤ c * b ∧ c * b ≤ 1152921504606846976) :
    Calls Try.prog 86 #[Ra.V a b, Ra.V c d] w fun e w' => e = .returned (.bool (decide (a * d < c * b))) ∧ Below w.heap.size w w' := by
  obtain ⟨h3, h4⟩ := h1
  obtain ⟨h5, h6⟩ := h2
  have w1 : IntKind.i64.wrap (a * d) = a * d := by rw [IntKind.wrap_i64]; omega
  have w2 : IntKind.i64.wrap (c * b) = c * b := by rw [IntKind.wrap_i64]; omega
  go_enter Try.func86, Try.ntmps86
  go_wp2
  go_ret
  exact ⟨by first | rfl | simp [w1, w2], by (repeat' first | (with_reducible first | exact Below.refl _ _ | assumption | refine Kit.below_drewN ?_ _ | refine Below.drew ?_ | refine Below.alloc ?_ ?_ _ | refine Below.setCell ?_ ?_ _ | exact Nat.le_refl _) | omega | (simp; omega) | (simp; done) | (apply Below.size; assumption))⟩

namespace Rq
def CmpIs (a b c d r e : Int) (w : World) : Prop := Calls Try.prog 63 #[Ra.V a b, Ra.V c d] w fun x w' => x = .returned (.tuple #[.int .i64 r, .int .i64 e]) ∧ Below w.heap.size w w'
end Rq
set_option maxHeartbeats 1000000 in
theorem rq_cmp_no (a b c d : Int) (w : World) (h : (Ra.ok a b && Ra.ok c d) = false) : Rq.CmpIs a b c d 0 120 w := by
  unfold Rq.CmpIs
  have c1 := fun W => rq_both a b c d W
  rw [h] at c1
  have C1 := Lib.hid c1; clear c1 h
  go_enter Try.func63, Try.ntmps63
  skip
  (go_wp2_with (fail); refine (C1.out _).mono ?_; rintro e w1_ ⟨rfl, hb1_⟩; have hp1_ : Below w.heap.size w w1_ := Below.trans (by (repeat' first | (with_reducible first | exact Below.refl _ _ | assumption | refine Kit.below_drewN ?_ _ | refine Below.drew ?_ | refine Below.alloc ?_ ?_ _ | refine Below.setCell ?_ ?_ _ | exact Nat.le_refl _) | omega | (simp; omega) | (simp; done) | (apply Below.size; assumption))) (hb1_.mono (by first | assumption | (simp; done) | (simp; omega) | omega)); have hw1_ : Below w.heap.size w w1_ := hp1_; clear hb1_ hp1_)
  go_wp2
  go_ret2
  exact ⟨rfl, by (repeat' first | (with_reducible first | exact Below.refl _ _ | assumption | refine Kit.below_drewN ?_ _ | refine Below.drew ?_ | refine Below.alloc ?_ ?_ _ | refine Below.setCell ?_ ?_ _ | exact Nat.le_refl _) | omega | (simp; omega) | (simp; done) | (apply Below.size; assumption))⟩
set_option maxHeartbeats 1000000 in
theorem rq_cmp (a b c d : Int) (w : World) (h : Ra.ok a b = true) (h' : Ra.ok c d = true) : Rq.CmpIs a b c d (Ra.sg (a * d) (c * b)) 0 w := by
  obtain ⟨p1, p2, p3, p4, _⟩ := (Ra.ok_iff a b).1 h
  obtain ⟨q1, q2, q3, q4, _⟩ := (Ra.ok_iff c d).1 h'
  have m1 := Ra.mul_in a d p3 p4 (by omega) q2
  have m2 := Ra.mul_in c b q3 q4 (by omega) p2
  unfold Rq.CmpIs
  have c1 := fun W => rq_both a b c d W
  rw [h, h'] at c1
  have c2 := fun W => rq_less a b c d W m1 m2
  have c3 := fun W => rq_less c d a b W m2 m1
  generalize a * d = x at *
  generalize c * b = y at *
  have C1 := Lib.hid c1
  unfold Ra.sg
  clear c1 h h' m1 m2 p1 p2 p3 p4 q1 q2 q3 q4
  by_cases l1 : x < y
  · have t1 : decide (x < y) = true := decide_eq_true l1
    rw [if_pos l1]
    rw [t1] at c2
    have C2 := Lib.hid c2; clear c2 c3 l1 t1
    go_enter Try.func63, Try.ntmps63
    skip
    (go_wp2_with (fail); refine (C1.out _).mono ?_; rintro e w1_ ⟨rfl, hb1_⟩; have hp1_ : Below w.heap.size w w1_ := Below.trans (by (repeat' first | (with_reducible first | exact Below.refl _ _ | assumption | refine Kit.below_drewN ?_ _ | refine Below.drew ?_ | refine Below.alloc ?_ ?_ _ | refine Below.setCell ?_ ?_ _ | exact Nat.le_refl _) | omega | (simp; omega) | (simp; done) | (apply Below.size; assumption))) (hb1_.mono (by first | assumption | (simp; done) | (simp; omega) | omega)); have hw1_ : Below w.heap.size w w1_ := hp1_; obtain ⟨hc1_, hf1_⟩ := Kit.bcell hb1_; have z1_w : w.heap.size < w1_.heap.size := (by have := hb1_.size; first | omega | (simp at this; omega)); obtain ⟨g1_w_0, g1_w_1⟩ : w1_.cell? ⟨w.heap.size, 0, none⟩ = some (.int .i64 a) ∧ w1_.cell? ⟨w.heap.size, 1, none⟩ = some (.int .i64 b) := (by refine ⟨?_, ?_⟩ <;> (rw [hc1_ _ _ (by first | assumption | (simp; done) | (simp; omega) | omega)]; first | assumption | (simp [go_sem]; done) | (simp [go_sem, *]; done))); have z1_w_1 : w.heap.size + 1 < w1_.heap.size := (by have := hb1_.size; first | omega | (simp at this; omega)); obtain ⟨g1_w_1_0, g1_w_1_1⟩ : w1_.cell? ⟨w.heap.size + 1, 0, none⟩ = some (.int .i64 c) ∧ w1_.cell? ⟨w.heap.size + 1, 1, none⟩ = some (.int .i64 d) := (by refine ⟨?_, ?_⟩ <;> (rw [hc1_ _ _ (by first | assumption | (simp; done) | (simp; omega) | omega)]; first | assumption | (simp [go_sem]; done) | (simp [go_sem, *]; done))); clear hc1_ hf1_; clear hb1_ hp1_)
    (go_wp2_with (fail); refine (C2.out _).mono ?_; rintro e w2_ ⟨rfl, hb2_⟩; have hp2_ : Below w1_.heap.size w1_ w2_ := Below.trans (by (repeat' first | (with_reducible first | exact Below.refl _ _ | assumption | refine Kit.below_drewN ?_ _ | refine Below.drew ?_ | refine Below.alloc ?_ ?_ _ | refine Below.setCell ?_ ?_ _ | exact Nat.le_refl _) | omega | (simp; omega) | (simp; done) | (apply Below.size; assumption))) (hb2_.mono (by first | assumption | (simp; done) | (simp; omega) | omega)); have hw2_ : Below w.heap.size w w2_ := hw1_.trans (hp2_.mono hw1_.size); have z2_w : w.heap.size < w2_.heap.size := Nat.lt_of_lt_of_le z1_w hp2_.size; have g2_w_0 := Kit.ck hp2_ g1_w_0 z1_w; have g2_w_1 := Kit.ck hp2_ g1_w_1 z1_w; have z2_w_1 : w.heap.size + 1 < w2_.heap.size := Nat.lt_of_lt_of_le z1_w_1 hp2_.size; have g2_w_1_0 := Kit.ck hp2_ g1_w_1_0 z1_w_1; have g2_w_1_1 := Kit.ck hp2_ g1_w_1_1 z1_w_1; clear z1_w g1_w_0 g1_w_1 z1_w_1 g1_w_1_0 g1_w_1_1 hw1_ hb2_ hp2_)
    go_wp2
    go_ret2
    exact ⟨rfl, by (repeat' first | (with_reducible first | exact Below.refl _ _ | assumption | refine Kit.below_drewN ?_ _ | refine Below.drew ?_ | refine Below.alloc ?_ ?_ _ | refine Below.setCell ?_ ?_ _ | exact Nat.le_refl _) | omega | (simp; omega) | (simp; done) | (apply Below.size; assumption))⟩
  · have t1 : decide (x < y) = false := decide_eq_false l1
    rw [if_neg l1]
    rw [t1] at c2
    by_cases l2 : y < x
    · have t2 : decide (y < x) = true := decide_eq_true l2
      rw [if_pos l2]
      rw [t2] at c3
      have C2 := Lib.hid c2; have C3 := Lib.hid c3; clear c2 c3 l1 t1 l2 t2
      go_enter Try.func63, Try.ntmps63
      skip
      (go_wp2_with (fail); refine (C1.out _).mono ?_; rintro e w1_ ⟨rfl, hb1_⟩; have hp1_ : Below w.heap.size w w1_ := Below.trans (by (repeat' first | (with_reducible first | exact Below.refl _ _ | assumption | refine Kit.below_drewN ?_ _ | refine Below.drew ?_ | refine Below.alloc ?_ ?_ _ | refine Below.setCell ?_ ?_ _ | exact Nat.le_refl _) | omega | (simp; omega) | (simp; done) | (apply Below.size; assumption))) (hb1_.mono (by first | assumption | (simp; done) | (simp; omega) | omega)); have hw1_ : Below w.heap.size w w1_ := hp1_; obtain ⟨hc1_, hf1_⟩ := Kit.bcell hb1_; have z1_w : w.heap.size < w1_.heap.size := (by have := hb1_.size; first | omega | (simp at this; omega)); obtain ⟨g1_w_0, g1_w_1⟩ : w1_.cell? ⟨w.heap.size, 0, none⟩ = some (.int .i64 a) ∧ w1_.cell? ⟨w.heap.size, 1, none⟩ = some (.int .i64 b) := (by refine ⟨?_, ?_⟩ <;> (rw [hc1_ _ _ (by first | assumption | (simp; done) | (simp; omega) | omega)]; first | assumption | (simp [go_sem]; done) | (simp [go_sem, *]; done))); have z1_w_1 : w.heap.size + 1 < w1_.heap.size := (by have := hb1_.size; first | omega | (simp at this; omega)); obtain ⟨g1_w_1_0, g1_w_1_1⟩ : w1_.cell? ⟨w.heap.size + 1, 0, none⟩ = some (.int .i64 c) ∧ w1_.cell? ⟨w.heap.size + 1, 1, none⟩ = some (.int .i64 d) := (by refine ⟨?_, ?_⟩ <;> (rw [hc1_ _ _ (by first | assumption | (simp; done) | (simp; omega) | omega)]; first | assumption | (simp [go_sem]; done) | (simp [go_sem, *]; done))); clear hc1_ hf1_; clear hb1_ hp1_)
      (go_wp2_with (fail); refine (C2.out _).mono ?_; rintro e w2_ ⟨rfl, hb2_⟩; have hp2_ : Below w1_.heap.size w1_ w2_ := Below.trans (by (repeat' first | (with_reducible first | exact Below.refl _ _ | assumption | refine Kit.below_drewN ?_ _ | refine Below.drew ?_ | refine Below.alloc ?_ ?_ _ | refine Below.setCell ?_ ?_ _ | exact Nat.le_refl _) | omega | (simp; omega) | (simp; done) | (apply Below.size; assumption))) (hb2_.mono (by first | assumption | (simp; done) | (simp; omega) | omega)); have hw2_ : Below w.heap.size w w2_ := hw1_.trans (hp2_.mono hw1_.size); have z2_w : w.heap.size < w2_.heap.size := Nat.lt_of_lt_of_le z1_w hp2_.size; have g2_w_0 := Kit.ck hp2_ g1_w_0 z1_w; have g2_w_1 := Kit.ck hp2_ g1_w_1 z1_w; have z2_w_1 : w.heap.size + 1 < w2_.heap.size := Nat.lt_of_lt_of_le z1_w_1 hp2_.size; have g2_w_1_0 := Kit.ck hp2_ g1_w_1_0 z1_w_1; have g2_w_1_1 := Kit.ck hp2_ g1_w_1_1 z1_w_1; clear z1_w g1_w_0 g1_w_1 z1_w_1 g1_w_1_0 g1_w_1_1 hw1_ hb2_ hp2_)
      (go_wp2_with (fail); refine (C3.out _).mono ?_; rintro e w3_ ⟨rfl, hb3_⟩; have hp3_ : Below w2_.heap.size w2_ w3_ := Below.trans (by (repeat' first | (with_reducible first | exact Below.refl _ _ | assumption | refine Kit.below_drewN ?_ _ | refine Below.drew ?_ | refine Below.alloc ?_ ?_ _ | refine Below.setCell ?_ ?_ _ | exact Nat.le_refl _) | omega | (simp; omega) | (simp; done) | (apply Below.size; assumption))) (hb3_.mono (by first | assumption | (simp; done) | (simp; omega) | omega)); have hw3_ : Below w.heap.size w w3_ := hw2_.trans (hp3_.mono hw2_.size); have z3_w : w.heap.size < w3_.heap.size := Nat.lt_of_lt_of_le z2_w hp3_.size; have g3_w_0 := Kit.ck hp3_ g2_w_0 z2_w; have g3_w_1 := Kit.ck hp3_ g2_w_1 z2_w; have z3_w_1 : w.heap.size + 1 < w3_.heap.size := Nat.lt_of_lt_of_le z2_w_1 hp3_.size; have g3_w_1_0 := Kit.ck hp3_ g2_w_1_0 z2_w_1; have g3_w_1_1 := Kit.ck hp3_ g2_w_1_1 z2_w_1; clear z2_w g2_w_0 g2_w_1 z2_w_1 g2_w_1_0 g2_w_1_1 hw2_ hb3_ hp3_)
      go_wp2
      go_ret2
      exact ⟨rfl, by (repeat' first | (with_reducible first | exact Below.refl _ _ | assumption | refine Kit.below_drewN ?_ _ | refine Below.drew ?_ | refine Below.alloc ?_ ?_ _ | refine Below.setCell ?_ ?_ _ | exact Nat.le_refl _) | omega | (simp; omega) | (simp; done) | (apply Below.size; assumption))⟩
    · have t2 : decide (y < x) = false := decide_eq_false l2
      rw [if_neg l2]
      rw [t2] at c3
      have C2 := Lib.hid c2; have C3 := Lib.hid c3; clear c2 c3 l1 t1 l2 t2
      go_enter Try.func63, Try.ntmps63
      skip
      (go_wp2_with (fail); refine (C1.out _).mono ?_; rintro e w1_ ⟨rfl, hb1_⟩; have hp1_ : Below w.heap.size w w1_ := Below.trans (by (repeat' first | (with_reducible first | exact Below.refl _ _ | assumption | refine Kit.below_drewN ?_ _ | refine Below.drew ?_ | refine Below.alloc ?_ ?_ _ | refine Below.setCell ?_ ?_ _ | exact Nat.le_refl _) | omega | (simp; omega) | (simp; done) | (apply Below.size; assumption))) (hb1_.mono (by first | assumption | (simp; done) | (simp; omega) | omega)); have hw1_ : Below w.heap.size w w1_ := hp1_; obtain ⟨hc1_, hf1_⟩ := Kit.bcell hb1_; have z1_w : w.heap.size < w1_.heap.size := (by have := hb1_.size; first | omega | (simp at this; omega)); obtain ⟨g1_w_0, g1_w_1⟩ : w1_.cell? ⟨w.heap.size, 0, none⟩ = some (.int .i64 a) ∧ w1_.cell? ⟨w.heap.size, 1, none⟩ = some (.int .i64 b) := (by refine ⟨?_, ?_⟩ <;> (rw [hc1_ _ _ (by first | assumption | (simp; done) | (simp; omega) | omega)]; first | assumption | (simp [go_sem]; done) | (simp [go_sem, *]; done))); have z1_w_1 : w.heap.size + 1 < w1_.heap.size := (by have := hb1_.size; first | omega | (simp at this; omega)); obtain ⟨g1_w_1_0, g1_w_1_1⟩ : w1_.cell? ⟨w.heap.size + 1, 0, none⟩ = some (.int .i64 c) ∧ w1_.cell? ⟨w.heap.size + 1, 1, none⟩ = some (.int .i64 d) := (by refine ⟨?_, ?_⟩ <;> (rw [hc1_ _ _ (by first | assumption | (simp; done) | (simp; omega) | omega)]; first | assumption | (simp [go_sem]; done) | (simp [go_sem, *]; done))); clear hc1_ hf1_; clear hb1_ hp1_)
      (go_wp2_with (fail); refine (C2.out _).mono ?_; rintro e w2_ ⟨rfl, hb2_⟩; have hp2_ : Below w1_.heap.size w1_ w2_ := Below.trans (by (repeat' first | (with_reducible first | exact Below.refl _ _ | assumption | refine Kit.below_drewN ?_ _ | refine Below.drew ?_ | refine Below.alloc ?_ ?_ _ | refine Below.setCell ?_ ?_ _ | exact Nat.le_refl _) | omega | (simp; omega) | (simp; done) | (apply Below.size; assumption))) (hb2_.mono (by first | assumption | (simp; done) | (simp; omega) | omega)); have hw2_ : Below w.heap.size w w2_ := hw1_.trans (hp2_.mono hw1_.size); have z2_w : w.heap.size < w2_.heap.size := Nat.lt_of_lt_of_le z1_w hp2_.size; have g2_w_0 := Kit.ck hp2_ g1_w_0 z1_w; have g2_w_1 := Kit.ck hp2_ g1_w_1 z1_w; have z2_w_1 : w.heap.size + 1 < w2_.heap.size := Nat.lt_of_lt_of_le z1_w_1 hp2_.size; have g2_w_1_0 := Kit.ck hp2_ g1_w_1_0 z1_w_1; have g2_w_1_1 := Kit.ck hp2_ g1_w_1_1 z1_w_1; clear z1_w g1_w_0 g1_w_1 z1_w_1 g1_w_1_0 g1_w_1_1 hw1_ hb2_ hp2_)
      (go_wp2_with (fail); refine (C3.out _).mono ?_; rintro e w3_ ⟨rfl, hb3_⟩; have hp3_ : Below w2_.heap.size w2_ w3_ := Below.trans (by (repeat' first | (with_reducible first | exact Below.refl _ _ | assumption | refine Kit.below_drewN ?_ _ | refine Below.drew ?_ | refine Below.alloc ?_ ?_ _ | refine Below.setCell ?_ ?_ _ | exact Nat.le_refl _) | omega | (simp; omega) | (simp; done) | (apply Below.size; assumption))) (hb3_.mono (by first | assumption | (simp; done) | (simp; omega) | omega)); have hw3_ : Below w.heap.size w w3_ := hw2_.trans (hp3_.mono hw2_.size); have z3_w : w.heap.size < w3_.heap.size := Nat.lt_of_lt_of_le z2_w hp3_.size; have g3_w_0 := Kit.ck hp3_ g2_w_0 z2_w; have g3_w_1 := Kit.ck hp3_ g2_w_1 z2_w; have z3_w_1 : w.heap.size + 1 < w3_.heap.size := Nat.lt_of_lt_of_le z2_w_1 hp3_.size; have g3_w_1_0 := Kit.ck hp3_ g2_w_1_0 z2_w_1; have g3_w_1_1 := Kit.ck hp3_ g2_w_1_1 z2_w_1; clear z2_w g2_w_0 g2_w_1 z2_w_1 g2_w_1_0 g2_w_1_1 hw2_ hb3_ hp3_)
      go_wp2
      go_ret2
      exact ⟨rfl, by (repeat' first | (with_reducible first | exact Below.refl _ _ | assumption | refine Kit.below_drewN ?_ _ | refine Below.drew ?_ | refine Below.alloc ?_ ?_ _ | refine Below.setCell ?_ ?_ _ | exact Nat.le_refl _) | omega | (simp; omega) | (simp; done) | (apply Below.size; assumption))⟩
end Go.Proofs.Ytdaedjmkolcliaa
