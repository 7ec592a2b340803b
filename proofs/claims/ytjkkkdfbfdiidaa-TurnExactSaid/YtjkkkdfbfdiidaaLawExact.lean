/- The ranges of Apply are as narrow as possible. -/
import Derived.Test.YtjkkkdfbfdiidaaRows
import Derived.Test.YtjkkkdfbfdiidaaTurnV
import Derived.Test.YtjkkkdfbfdiidaaKitd
import Derived.WalkKit
import Derived.ProofKit
import Derived.OpenShut
import Derived.ChangeOld
import Derived.Lib.SmallJoins
namespace Go.Proofs.Ytjkkkdfbfdiidaa.lawExact
set_option linter.unusedVariables false
set_option linter.unusedSimpArgs false
open Go.ChangeShapes Go.WideShapes Go.ChangeAt Go.RowKit Go.Joins

def Goal (a b c x y : Int) (w : World) : Prop := Calls Try.prog 5 #[.agg #[.int .i64 a, .int .i64 b, .int .i64 c], .int .i64 x, .int .i64 y] w fun e w' => e = .returned (.bool true) ∧ Below w.heap.size w w'

theorem chk (a b c : Int) (r : Bool) (h : Tm.vld a b c = r) (w : World) : TChk a b c (if r = true then 0 else 140) w := by
  have := t_check a b c w; rw [h] at this; exact this

set_option maxHeartbeats 1000000 in
theorem walk_1 (a b c x y : Int) (w : World) (h : Tm.vld a b c = false) : Goal a b c x y w := by
  have hv := chk a b c _ h
  unfold TChk at hv
  replace hv := Lib.hid hv
  clear h
  unfold Goal
  go_enter Try.func5, Try.ntmps5
  skip
  (go_wp2_with fail; refine (sane_true _).mono ?_; rintro e w1_ ⟨rfl, hb1_⟩; have hp1_ : Below w.heap.size w w1_ := Below.trans (by (repeat' (first | (with_reducible exact Below.refl _ _) | (with_reducible assumption) | (with_reducible refine Kit.below_drewN ?_ _) | (with_reducible refine Below.drew ?_) | (with_reducible refine Below.alloc ?_ ?_ _) | (with_reducible refine Below.setCell ?_ ?_ _) | (with_reducible exact Nat.le_refl _) | omega | (simp; omega) | (simp; done) | (apply Below.size; assumption)))) (hb1_.mono (by first | assumption | (simp; done) | (simp; omega) | omega)); have hw1_ : Below w.heap.size w w1_ := hp1_; obtain ⟨hc1_, hf1_⟩ := Kit.bcell hb1_; have z1_w : w.heap.size < w1_.heap.size := (by have := hb1_.size; first | omega | (simp at this; omega)); have g1_w_0 : w1_.cell? ⟨w.heap.size, 0, none⟩ = some (.int .i64 a) := (by rw [hc1_ _ _ (by first | assumption | (simp; done) | (simp; omega) | omega)]; first | assumption | (simp [go_sem]; done) | (simp [go_sem, *]; done)); have g1_w_1 : w1_.cell? ⟨w.heap.size, 1, none⟩ = some (.int .i64 b) := (by rw [hc1_ _ _ (by first | assumption | (simp; done) | (simp; omega) | omega)]; first | assumption | (simp [go_sem]; done) | (simp [go_sem, *]; done)); have g1_w_2 : w1_.cell? ⟨w.heap.size, 2, none⟩ = some (.int .i64 c) := (by rw [hc1_ _ _ (by first | assumption | (simp; done) | (simp; omega) | omega)]; first | assumption | (simp [go_sem]; done) | (simp [go_sem, *]; done)); clear hc1_ hf1_; clear hb1_ hp1_)
  (go_wp2_with fail; refine (hv.out _).mono ?_; rintro e w2_ ⟨rfl, hb2_⟩; have hp2_ : Below w1_.heap.size w1_ w2_ := Below.trans (by (repeat' (first | (with_reducible exact Below.refl _ _) | (with_reducible assumption) | (with_reducible refine Kit.below_drewN ?_ _) | (with_reducible refine Below.drew ?_) | (with_reducible refine Below.alloc ?_ ?_ _) | (with_reducible refine Below.setCell ?_ ?_ _) | (with_reducible exact Nat.le_refl _) | omega | (simp; omega) | (simp; done) | (apply Below.size; assumption)))) (hb2_.mono (by first | assumption | (simp; done) | (simp; omega) | omega)); have hw2_ : Below w.heap.size w w2_ := hw1_.trans (hp2_.mono hw1_.size); have z2_w : w.heap.size < w2_.heap.size := Nat.lt_of_lt_of_le z1_w hp2_.size; have g2_w_0 : w2_.cell? ⟨w.heap.size, 0, none⟩ = some (.int .i64 a) := (hp2_.cell (p := ⟨w.heap.size, 0, none⟩) z1_w).trans g1_w_0; have g2_w_1 : w2_.cell? ⟨w.heap.size, 1, none⟩ = some (.int .i64 b) := (hp2_.cell (p := ⟨w.heap.size, 1, none⟩) z1_w).trans g1_w_1; have g2_w_2 : w2_.cell? ⟨w.heap.size, 2, none⟩ = some (.int .i64 c) := (hp2_.cell (p := ⟨w.heap.size, 2, none⟩) z1_w).trans g1_w_2; clear z1_w g1_w_0 g1_w_1 g1_w_2 hw1_ hb2_ hp2_)
  go_wp2
  go_ret
  exact ⟨rfl, by (repeat' (first | (with_reducible exact Below.refl _ _) | (with_reducible assumption) | (with_reducible refine Kit.below_drewN ?_ _) | (with_reducible refine Below.drew ?_) | (with_reducible refine Below.alloc ?_ ?_ _) | (with_reducible refine Below.setCell ?_ ?_ _) | (with_reducible exact Nat.le_refl _) | omega | (simp; omega) | (simp; done) | (apply Below.size; assumption)))⟩
set_option maxHeartbeats 1000000 in
theorem walk_2 (a b c x y : Int) (w : World) (h : Tm.vld a b c = true) (hx : x < -1073741824 ∨ y < -1073741824 ∨ 1073741824 < x ∨ 1073741824 < y) : Goal a b c x y w := by
  have hv := chk a b c _ h
  unfold TChk at hv
  replace hv := Lib.hid hv
  clear h
  have d : decide ((if y < x then y else x) < -1073741824) = true ∨ (decide ((if y < x then y else x) < -1073741824) = false ∧ decide (1073741824 < (if x < y then y else x)) = true) := by
    by_cases h1 : x < -1073741824 ∨ y < -1073741824
    · left; rw [decide_eq_true_iff]; split <;> omega
    · right; exact ⟨by rw [decide_eq_false_iff_not]; split <;> omega, by rw [decide_eq_true_iff]; split <;> omega⟩
  clear hx
  unfold Goal
  rcases d with d1 | ⟨d1, d2⟩
  all_goals
    go_enter Try.func5, Try.ntmps5
    skip
    (go_wp2_with fail; refine (sane_true _).mono ?_; rintro e w1_ ⟨rfl, hb1_⟩; have hp1_ : Below w.heap.size w w1_ := Below.trans (by (repeat' (first | (with_reducible exact Below.refl _ _) | (with_reducible assumption) | (with_reducible refine Kit.below_drewN ?_ _) | (with_reducible refine Below.drew ?_) | (with_reducible refine Below.alloc ?_ ?_ _) | (with_reducible refine Below.setCell ?_ ?_ _) | (with_reducible exact Nat.le_refl _) | omega | (simp; omega) | (simp; done) | (apply Below.size; assumption)))) (hb1_.mono (by first | assumption | (simp; done) | (simp; omega) | omega)); have hw1_ : Below w.heap.size w w1_ := hp1_; obtain ⟨hc1_, hf1_⟩ := Kit.bcell hb1_; have z1_w : w.heap.size < w1_.heap.size := (by have := hb1_.size; first | omega | (simp at this; omega)); have g1_w_0 : w1_.cell? ⟨w.heap.size, 0, none⟩ = some (.int .i64 a) := (by rw [hc1_ _ _ (by first | assumption | (simp; done) | (simp; omega) | omega)]; first | assumption | (simp [go_sem]; done) | (simp [go_sem, *]; done)); have g1_w_1 : w1_.cell? ⟨w.heap.size, 1, none⟩ = some (.int .i64 b) := (by rw [hc1_ _ _ (by first | assumption | (simp; done) | (simp; omega) | omega)]; first | assumption | (simp [go_sem]; done) | (simp [go_sem, *]; done)); have g1_w_2 : w1_.cell? ⟨w.heap.size, 2, none⟩ = some (.int .i64 c) := (by rw [hc1_ _ _ (by first | assumption | (simp; done) | (simp; omega) | omega)]; first | assumption | (simp [go_sem]; done) | (simp [go_sem, *]; done)); clear hc1_ hf1_; clear hb1_ hp1_)
    (go_wp2_with fail; refine (hv.out _).mono ?_; rintro e w2_ ⟨rfl, hb2_⟩; have hp2_ : Below w1_.heap.size w1_ w2_ := Below.trans (by (repeat' (first | (with_reducible exact Below.refl _ _) | (with_reducible assumption) | (with_reducible refine Kit.below_drewN ?_ _) | (with_reducible refine Below.drew ?_) | (with_reducible refine Below.alloc ?_ ?_ _) | (with_reducible refine Below.setCell ?_ ?_ _) | (with_reducible exact Nat.le_refl _) | omega | (simp; omega) | (simp; done) | (apply Below.size; assumption)))) (hb2_.mono (by first | assumption | (simp; done) | (simp; omega) | omega)); have hw2_ : Below w.heap.size w w2_ := hw1_.trans (hp2_.mono hw1_.size); have z2_w : w.heap.size < w2_.heap.size := Nat.lt_of_lt_of_le z1_w hp2_.size; have g2_w_0 : w2_.cell? ⟨w.heap.size, 0, none⟩ = some (.int .i64 a) := (hp2_.cell (p := ⟨w.heap.size, 0, none⟩) z1_w).trans g1_w_0; have g2_w_1 : w2_.cell? ⟨w.heap.size, 1, none⟩ = some (.int .i64 b) := (hp2_.cell (p := ⟨w.heap.size, 1, none⟩) z1_w).trans g1_w_1; have g2_w_2 : w2_.cell? ⟨w.heap.size, 2, none⟩ = some (.int .i64 c) := (hp2_.cell (p := ⟨w.heap.size, 2, none⟩) z1_w).trans g1_w_2; clear z1_w g1_w_0 g1_w_1 g1_w_2 hw1_ hb2_ hp2_)
    go_wp2
    all_goals go_ret
    all_goals exact ⟨rfl, by (repeat' (first | (with_reducible exact Below.refl _ _) | (with_reducible assumption) | (with_reducible refine Kit.below_drewN ?_ _) | (with_reducible refine Below.drew ?_) | (with_reducible refine Below.alloc ?_ ?_ _) | (with_reducible refine Below.setCell ?_ ?_ _) | (with_reducible exact Nat.le_refl _) | omega | (simp; omega) | (simp; done) | (apply Below.size; assumption)))⟩

set_option maxRecDepth 100000 in
set_option maxHeartbeats 4000000 in
theorem walk_3 (a b c x y l1 u1 l2 u2 : Int) (w : World) (hv : Hid (∀ w, TChk a b c 0 w)) (hA : Hid (∀ w, TApply a b c x y w l1 u1 l2 u2 0)) (hc : 1 ≤ c) (hc' : c ≤ 32768)
    (d1 : decide (Kit.mn2 x y < -1073741824) = false) (d2 : decide (1073741824 < Kit.mx2 x y) = false)
    (b1 : -70368744177664 ≤ a * x) (b2 : a * x ≤ 70368744177664) (b3 : -70368744177664 ≤ b * y) (b4 : b * y ≤ 70368744177664) (b5 : -70368744177664 ≤ b * x) (b6 : b * x ≤ 70368744177664) (b7 : -70368744177664 ≤ a * y) (b8 : a * y ≤ 70368744177664)
    (t1 : -140737488355328 ≤ (a * x - b * y).tmod c) (t2 : (a * x - b * y).tmod c ≤ 140737488355328) (t3 : -140737488355328 ≤ (b * x + a * y).tmod c) (t4 : (b * x + a * y).tmod c ≤ 140737488355328)
    (p11 : -4294967296 ≤ l1) (p12 : l1 ≤ 4294967296) (p13 : -4294967296 ≤ u1) (p14 : u1 ≤ 4294967296) (p15 : -140737488355328 ≤ l1 * c) (p16 : l1 * c ≤ 140737488355328) (p17 : -140737488355328 ≤ u1 * c) (p18 : u1 * c ≤ 140737488355328)
    (f11 : decide (l1 < -4294967296) = false) (f12 : decide (4294967296 < u1) = false) (f13 : decide (a * x - b * y < l1 * c) = false) (f14 : decide (u1 * c < a * x - b * y) = false) (f15 : decide (1 < u1 - l1) = false) (z1 : Bool) (f16 : (u1 == l1) = z1) (f17 : ((a * x - b * y).tmod c == 0) = z1)
    (p21 : -4294967296 ≤ l2) (p22 : l2 ≤ 4294967296) (p23 : -4294967296 ≤ u2) (p24 : u2 ≤ 4294967296) (p25 : -140737488355328 ≤ l2 * c) (p26 : l2 * c ≤ 140737488355328) (p27 : -140737488355328 ≤ u2 * c) (p28 : u2 * c ≤ 140737488355328)
    (f21 : decide (l2 < -4294967296) = false) (f22 : decide (4294967296 < u2) = false) (f23 : decide (b * x + a * y < l2 * c) = false) (f24 : decide (u2 * c < b * x + a * y) = false) (f25 : decide (1 < u2 - l2) = false) (z2 : Bool) (f26 : (u2 == l2) = z2) (f27 : ((b * x + a * y).tmod c == 0) = z2)
    : Goal a b c x y w := by
  unfold Goal
  have hmn : (if y < x then y else x) = Kit.mn2 x y := rfl
  have hmx : (if x < y then y else x) = Kit.mx2 x y := rfl
  cases z1 <;> cases z2
  all_goals
    go_enter Try.func5, Try.ntmps5
    skip
    (go_wp2_with fail; refine (sane_true _).mono ?_; rintro e w1_ ⟨rfl, hb1_⟩; have hp1_ : Below w.heap.size w w1_ := Below.trans (by (repeat' (first | (with_reducible exact Below.refl _ _) | (with_reducible assumption) | (with_reducible refine Kit.below_drewN ?_ _) | (with_reducible refine Below.drew ?_) | (with_reducible refine Below.alloc ?_ ?_ _) | (with_reducible refine Below.setCell ?_ ?_ _) | (with_reducible exact Nat.le_refl _) | omega | (simp; omega) | (simp; done) | (apply Below.size; assumption)))) (hb1_.mono (by first | assumption | (simp; done) | (simp; omega) | omega)); have hw1_ : Below w.heap.size w w1_ := hp1_; obtain ⟨hc1_, hf1_⟩ := Kit.bcell hb1_; have z1_w : w.heap.size < w1_.heap.size := (by have := hb1_.size; first | omega | (simp at this; omega)); have g1_w_0 : w1_.cell? ⟨w.heap.size, 0, none⟩ = some (.int .i64 a) := (by rw [hc1_ _ _ (by first | assumption | (simp; done) | (simp; omega) | omega)]; first | assumption | (simp [go_sem]; done) | (simp [go_sem, *]; done)); have g1_w_1 : w1_.cell? ⟨w.heap.size, 1, none⟩ = some (.int .i64 b) := (by rw [hc1_ _ _ (by first | assumption | (simp; done) | (simp; omega) | omega)]; first | assumption | (simp [go_sem]; done) | (simp [go_sem, *]; done)); have g1_w_2 : w1_.cell? ⟨w.heap.size, 2, none⟩ = some (.int .i64 c) := (by rw [hc1_ _ _ (by first | assumption | (simp; done) | (simp; omega) | omega)]; first | assumption | (simp [go_sem]; done) | (simp [go_sem, *]; done)); clear hc1_ hf1_; clear hb1_ hp1_)
    (go_wp2_with fail; refine (hv.out _).mono ?_; rintro e w2_ ⟨rfl, hb2_⟩; have hp2_ : Below w1_.heap.size w1_ w2_ := Below.trans (by (repeat' (first | (with_reducible exact Below.refl _ _) | (with_reducible assumption) | (with_reducible refine Kit.below_drewN ?_ _) | (with_reducible refine Below.drew ?_) | (with_reducible refine Below.alloc ?_ ?_ _) | (with_reducible refine Below.setCell ?_ ?_ _) | (with_reducible exact Nat.le_refl _) | omega | (simp; omega) | (simp; done) | (apply Below.size; assumption)))) (hb2_.mono (by first | assumption | (simp; done) | (simp; omega) | omega)); have hw2_ : Below w.heap.size w w2_ := hw1_.trans (hp2_.mono hw1_.size); have z2_w : w.heap.size < w2_.heap.size := Nat.lt_of_lt_of_le z1_w hp2_.size; have g2_w_0 : w2_.cell? ⟨w.heap.size, 0, none⟩ = some (.int .i64 a) := (hp2_.cell (p := ⟨w.heap.size, 0, none⟩) z1_w).trans g1_w_0; have g2_w_1 : w2_.cell? ⟨w.heap.size, 1, none⟩ = some (.int .i64 b) := (hp2_.cell (p := ⟨w.heap.size, 1, none⟩) z1_w).trans g1_w_1; have g2_w_2 : w2_.cell? ⟨w.heap.size, 2, none⟩ = some (.int .i64 c) := (hp2_.cell (p := ⟨w.heap.size, 2, none⟩) z1_w).trans g1_w_2; clear z1_w g1_w_0 g1_w_1 g1_w_2 hw1_ hb2_ hp2_)
    (go_wp2_with fail; refine (hA.out _).mono ?_; rintro e w3_ ⟨rfl, hb3_⟩; have hp3_ : Below w2_.heap.size w2_ w3_ := Below.trans (by (repeat' (first | (with_reducible exact Below.refl _ _) | (with_reducible assumption) | (with_reducible refine Kit.below_drewN ?_ _) | (with_reducible refine Below.drew ?_) | (with_reducible refine Below.alloc ?_ ?_ _) | (with_reducible refine Below.setCell ?_ ?_ _) | (with_reducible exact Nat.le_refl _) | omega | (simp; omega) | (simp; done) | (apply Below.size; assumption)))) (hb3_.mono (by first | assumption | (simp; done) | (simp; omega) | omega)); have hw3_ : Below w.heap.size w w3_ := hw2_.trans (hp3_.mono hw2_.size); have z3_w : w.heap.size < w3_.heap.size := Nat.lt_of_lt_of_le z2_w hp3_.size; have g3_w_0 : w3_.cell? ⟨w.heap.size, 0, none⟩ = some (.int .i64 a) := (hp3_.cell (p := ⟨w.heap.size, 0, none⟩) z2_w).trans g2_w_0; have g3_w_1 : w3_.cell? ⟨w.heap.size, 1, none⟩ = some (.int .i64 b) := (hp3_.cell (p := ⟨w.heap.size, 1, none⟩) z2_w).trans g2_w_1; have g3_w_2 : w3_.cell? ⟨w.heap.size, 2, none⟩ = some (.int .i64 c) := (hp3_.cell (p := ⟨w.heap.size, 2, none⟩) z2_w).trans g2_w_2; clear z2_w g2_w_0 g2_w_1 g2_w_2 hw2_ hb3_ hp3_)
    have y1 : w.heap.size < w3_.heap.size + 1 := by omega
    have y2 : w.heap.size < w3_.heap.size + 1 + 1 := by omega
    have y3 : w.heap.size < w3_.heap.size + 1 + 1 + 1 := by omega
    have y4 : w.heap.size < w3_.heap.size + 1 + 1 + 1 + 1 := by omega
    have y5 : w.heap.size < w3_.heap.size + 1 + 1 + 1 + 1 + 1 := by omega
    ((go_wp2_with (refine Kit.veil ?_; intro X HX)); rw [HX.out]; clear HX)
    go_quiet (fail)
    go_wp2_with fail
    all_goals
      refine wp_loop_rounds 3 ?_
      rw [rounds_succ]
      go_wp2
      go_quiet (fail)
      go_wp2
      rw [rounds_succ]
      go_wp2
      go_quiet (fail)
      go_wp2
      rw [rounds_succ]
      go_wp2
      go_ret
      exact ⟨rfl, by (repeat' (first | (with_reducible exact Below.refl _ _) | (with_reducible assumption) | (with_reducible refine Kit.below_drewN ?_ _) | (with_reducible refine Below.drew ?_) | (with_reducible refine Below.alloc ?_ ?_ _) | (with_reducible refine Below.setCell ?_ ?_ _) | (with_reducible exact Nat.le_refl _) | omega | (simp; omega) | (simp; done) | (apply Below.size; assumption)))⟩

/-- What is to be shown of one coordinate. -/
theorem coord (n c : Int) (hc : 1 ≤ c) (hc' : c ≤ 32768) (h : n.natAbs ≤ 70368744177664) :
    (-4294967296 ≤ n / c ∧ n / c ≤ 4294967296 ∧ -4294967296 ≤ Tm.up n c ∧ Tm.up n c ≤ 4294967296 → (-140737488355328 ≤ n / c * c ∧ n / c * c ≤ 140737488355328) ∧ (-140737488355328 ≤ Tm.up n c * c ∧ Tm.up n c * c ≤ 140737488355328)) ∧
    n / c * c ≤ n ∧ n ≤ Tm.up n c * c ∧ Tm.up n c - n / c ≤ 1 ∧ (Tm.up n c == n / c) = (n.tmod c == 0) := by
  have hm := Int.mul_ediv_add_emod n c
  rw [Int.mul_comm] at hm
  have h1 := Int.emod_nonneg n (show c ≠ 0 by omega)
  have h2 := Int.emod_lt_of_pos n (show 0 < c by omega)
  have ht : n.tmod c = 0 ↔ n % c = 0 := by
    constructor
    · intro e; exact Int.emod_eq_zero_of_dvd (Int.dvd_of_tmod_eq_zero e)
    · intro e; exact Int.tmod_eq_zero_of_dvd (Int.dvd_of_emod_eq_zero e)
  refine ⟨fun _ => ?_, ?_, ?_, ?_, ?_⟩
  · have e := Tm.mul_nat (n / c) c 4294967296 32768 (by omega) (by omega)
    have e' := Tm.mul_nat (Tm.up n c) c 4294967296 32768 (by omega) (by omega)
    simp only [Nat.reduceMul] at e e'
    exact ⟨⟨by omega, by omega⟩, by omega, by omega⟩
  · omega
  · unfold Tm.up
    split
    · omega
    · rw [Int.add_mul]; omega
  · unfold Tm.up; split <;> omega
  · rw [Bool.eq_iff_iff, beq_iff_eq, beq_iff_eq, ht]
    unfold Tm.up
    split <;> omega
/-- A turned coordinate is not far. -/
theorem near (a b c x y : Int) (h : Tm.vld a b c = true) (h1 : x.natAbs ≤ 1073741824) (h2 : y.natAbs ≤ 1073741824) : -4294967296 * c ≤ a * x - b * y ∧ a * x - b * y ≤ 4294967296 * c ∧ -4294967296 * c ≤ b * x + a * y ∧ b * x + a * y ≤ 4294967296 * c := by
  obtain ⟨c1, c2, a1, a2, b1, b2, _, _⟩ := (Tm.vld_iff a b c).1 h
  have m1 := Tm.mul_nat a x c.natAbs 1073741824 (by omega) h1
  have m2 := Tm.mul_nat b y c.natAbs 1073741824 (by omega) h2
  have m3 := Tm.mul_nat b x c.natAbs 1073741824 (by omega) h1
  have m4 := Tm.mul_nat a y c.natAbs 1073741824 (by omega) h2
  omega
theorem div_near (n c : Int) (hc : 1 ≤ c) (h1 : -4294967295 * c ≤ n) (h2 : n ≤ 4294967295 * c) : -4294967296 ≤ n / c ∧ n / c ≤ 4294967296 ∧ -4294967296 ≤ Tm.up n c ∧ Tm.up n c ≤ 4294967296 := by
  have e1 : -4294967295 ≤ n / c := (Int.le_ediv_iff_mul_le (by omega)).2 h1
  have e2 : n / c ≤ 4294967295 := by
    have := Int.ediv_le_ediv (show 0 < c by omega) h2
    rw [Int.mul_ediv_cancel _ (by omega)] at this
    exact this
  unfold Tm.up
  split <;> omega

theorem walk (a b c x y : Int) (w : World) : Goal a b c x y w := by
  cases h : Tm.vld a b c
  · exact walk_1 a b c x y w h
  by_cases hx : x < -1073741824 ∨ y < -1073741824 ∨ 1073741824 < x ∨ 1073741824 < y
  · exact walk_2 a b c x y w h hx
  obtain ⟨c1, c2, a1, a2, b1, b2, _, _⟩ := (Tm.vld_iff a b c).1 h
  have m1 := Tm.mul_nat a x 32768 1073741824 (by omega) (by omega)
  have m2 := Tm.mul_nat b y 32768 1073741824 (by omega) (by omega)
  have m3 := Tm.mul_nat b x 32768 1073741824 (by omega) (by omega)
  have m4 := Tm.mul_nat a y 32768 1073741824 (by omega) (by omega)
  simp only [Nat.reduceMul] at m1 m2 m3 m4
  have n0 := Tm.mul_nat a x c.natAbs 1073741824 (by omega) (by omega)
  have n1 := Tm.mul_nat b y c.natAbs 1073741824 (by omega) (by omega)
  have n2 := Tm.mul_nat b x c.natAbs 1073741824 (by omega) (by omega)
  have n3 := Tm.mul_nat a y c.natAbs 1073741824 (by omega) (by omega)
  have t1 := Tm.tmod_bd (a * x - b * y) c c1
  have t2 := Tm.tmod_bd (b * x + a * y) c c1
  have q1 := coord (a * x - b * y) c c1 c2 (by omega)
  have q2 := coord (b * x + a * y) c c1 c2 (by omega)
  have r1 := div_near (a * x - b * y) c c1 (by omega) (by omega)
  have r2 := div_near (b * x + a * y) c c1 (by omega) (by omega)
  obtain ⟨q1a, q1b, q1c, q1d, q1e⟩ := q1
  obtain ⟨q2a, q2b, q2c, q2d, q2e⟩ := q2
  obtain ⟨⟨s1, s2⟩, s3, s4⟩ := q1a r1
  obtain ⟨⟨s5, s6⟩, s7, s8⟩ := q2a r2
  obtain ⟨r1a, r1b, r1c, r1d⟩ := r1
  obtain ⟨r2a, r2b, r2c, r2d⟩ := r2
  have hch := chk a b c _ h
  refine walk_3 a b c x y _ _ _ _ w hch (fun w => t_apply_3 a b c x y w h (by omega) (by omega) (by omega) (by omega)) c1 c2 ?_ ?_ (by omega) (by omega) (by omega) (by omega) (by omega) (by omega) (by omega) (by omega) (by omega) (by omega) (by omega) (by omega)
    r1a r1b r1c r1d s1 s2 s3 s4 ?_ ?_ ?_ ?_ ?_ _ q1e rfl r2a r2b r2c r2d s5 s6 s7 s8 ?_ ?_ ?_ ?_ ?_ _ q2e rfl
  · rw [decide_eq_false_iff_not]; have := Kit.mn2_le x y; omega
  · rw [decide_eq_false_iff_not]; have := Kit.mx2_le x y; omega
  all_goals rw [decide_eq_false_iff_not]; omega

theorem own : ownKnob Try.prog.godebug = none := by kernel_rfl
theorem laidOut : laidOutB Try.prog = true := by kernel_rfl

set_option maxRecDepth 100000 in
theorem lifted (os : Os) (started : os.Started) (H : Type) (enc : TypeId × Value → H) :
    ReturnsInHanded {} Try.checked os 5 .any (Rows.turnExactSpec.pre6 enc Try.prog Try.f5 Rows.turnExactRow.domain false) (Rows.turnExactSpec.post enc Try.prog Try.f5 false true false false) := by
  refine returnsInHanded_of_change (C := Try.checked) own started (by kernel_rfl) Try.func5
    (ChangeSpec.witness6 (enc := enc) (C := Try.checked) false ⟨#[], #[.agg #[.int .i64 0, .int .i64 0, .int .i64 0], .int .i64 0, .int .i64 0], []⟩ 8 (by kernel_rfl) (by kernel_rfl) (by kernel_rfl) (by kernel_rfl)) ?_
  intro W base args ds gs before hval0 hW hcnd _
  have hval : ∀ (j : Nat) t v, Try.f5.params[j]? = some t → args[j]? = some v → Value.okWide Try.prog W .any base t v := hval0
  have hW' := hW
  obtain ⟨p, q, hA0, hV, rfl, hfz, hnd⟩ := hW
  have hA : DataW.TrodAll enc Try.prog W 0 (fun _ => true) true Try.f5.params.toList args.toList ds p := hA0
  rw [Try.params5] at hA hval
  obtain ⟨v0, vs0, d0, ds0, p0, q0, hargs, rfl, rfl, h0, r0⟩ := trodAll_cons hA
  obtain ⟨v1, vs1, d1, ds1, p1, q1, rfl, rfl, rfl, h1, r1⟩ := trodAll_cons r0
  obtain ⟨v2, vs2, d2, ds2, p2, q2, rfl, rfl, rfl, h2, r2⟩ := trodAll_cons r1
  obtain ⟨rfl, rfl, rfl⟩ := trodAll_nil r2
  obtain rfl : args = #[v0, v1, v2] := by cases args; simp_all
  obtain ⟨rfl, rfl⟩ := trodVars_none hV
  have k0 := h0
  have lt0 : ∀ x ∈ p0, x.block < W.heap.size := by obtain ⟨m, hm⟩ := k0; exact DataW.trod_lt m _ _ _ hm
  have k1 := h1
  have lt1 : ∀ x ∈ p1, x.block < W.heap.size := by obtain ⟨m, hm⟩ := k1; exact DataW.trod_lt m _ _ _ hm
  have k2 := h2
  have lt2 : ∀ x ∈ p2, x.block < W.heap.size := by obtain ⟨m, hm⟩ := k2; exact DataW.trod_lt m _ _ _ hm
  obtain ⟨c0_0, c0_1, c0_2, y0_0, y0_1, y0_2, m0, rfl, _, _, hy0_0, hy0_1, hy0_2⟩ := open_agg3 Try.underlying23 (by kernel_rfl) (show Try.prog.cellsOf 23 = 3 by kernel_rfl) (hval 0 23 v0 rfl rfl) h0
  obtain ⟨x0_0, e0_0, _, w0_0⟩ := DataW.trod_int Try.underlying3 hy0_0
  obtain rfl : c0_0 = .int .i64 x0_0 := by simpa using e0_0
  obtain ⟨x0_1, e0_1, _, w0_1⟩ := DataW.trod_int Try.underlying3 hy0_1
  obtain rfl : c0_1 = .int .i64 x0_1 := by simpa using e0_1
  obtain ⟨x0_2, e0_2, _, w0_2⟩ := DataW.trod_int Try.underlying3 hy0_2
  obtain rfl : c0_2 = .int .i64 x0_2 := by simpa using e0_2
  obtain ⟨x1, rfl, _, _, w1⟩ := open_int Try.underlying3 (hval 1 3 v1 rfl rfl) h1
  obtain ⟨x2, rfl, _, _, w2⟩ := open_int Try.underlying3 (hval 2 3 v2 rfl rfl) h2
  clear hA0 hval0
  refine (walk x0_0 x0_1 x0_2 x1 x2 W).mono fun e W' ⟨he, bel⟩ => ?_
  subst he
  exact ⟨_, rfl, _, _, _, [], _, [], hW', trodAll_mk1 (shut_bool Try.underlying4 _), (trodAll_cons_mk (Below.trod laidOut (by kernel_rfl) (of_decide_eq_true (by kernel_rfl)) k0 bel lt0) (trodAll_cons_mk (Below.trod laidOut (by kernel_rfl) (of_decide_eq_true (by kernel_rfl)) k1 bel lt1) (trodAll_cons_mk (Below.trod laidOut (by kernel_rfl) (of_decide_eq_true (by kernel_rfl)) k2 bel lt2) trodAll_mk0))), rfl, bel.frame _, fun h => by cases h⟩

theorem proved : Rows.TurnExactSaid :=
  OpenClaim.holds_of_wide 5 Try.f5 rfl rfl rfl rfl rfl rfl rfl ⟨rfl, rfl, rfl, rfl, rfl⟩ rfl rfl rfl rfl rfl (by kernel_rfl) Try.func5 (by kernel_rfl)
    (of_decide_eq_true (by kernel_rfl)) (by unfold Func.isWrapper; rw [if_neg (by decide +kernel)]; exact ⟨rfl, rfl⟩)
    (fun os started H enc _ => lifted os started H enc)
end Go.Proofs.Ytjkkkdfbfdiidaa.lawExact
