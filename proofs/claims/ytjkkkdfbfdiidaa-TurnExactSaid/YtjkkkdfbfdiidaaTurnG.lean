/- Walks: Apply (package turn). -/
import Derived.Test.YtjkkkdfbfdiidaaTurnC
import Derived.Test.YtjkkkdfbfdiidaaKitc
namespace Go.Proofs.Ytjkkkdfbfdiidaa
set_option linter.unusedVariables false
set_option linter.unusedSimpArgs false
open Go.RowKit

theorem ret_range {a b a' b' : Int} (h : a = a') (h' : b = b') : Ending.returned (.agg #[.int .i64 a, .int .i64 b]) = .returned (.agg #[.int .i64 a', .int .i64 b']) := by rw [h, h']

set_option maxHeartbeats 1000000 in
theorem t_outward (n c : Int) (g : Nat) (w : World) (hc : 1 ≤ c) (hc' : c ≤ 32768) (hn : -70368744177664 ≤ n) (hn' : n ≤ 70368744177664) (hg : w.cell? ⟨g, 2, none⟩ = some (.int .i64 c)) (hgs : g < w.heap.size) :
    Calls Try.prog 28 #[.int .i64 n, .pointer (some ⟨g, 0, none⟩)] w fun e w' => e = .returned (.agg #[.int .i64 (n / c), .int .i64 (Tm.up n c)]) ∧ Below w.heap.size w w' := by
  have k := Tm.tdiv_bd n c 70368744177664 (by omega)
  obtain ⟨k1, k2⟩ := k
  have t1 := Tm.tmul n c
  have t2 := Tm.tmod_bd n c hc
  have k3 : -70368744210432 ≤ n.tdiv c * c := by omega
  have k4 : n.tdiv c * c ≤ 70368744210432 := by omega
  have hg' : ∀ o, (w.alloc o).cell? ⟨g, 2, none⟩ = some (.int .i64 c) := fun o => by rw [← hg]; exact World.cell?_alloc_lt w o _ hgs
  have fin : Calls Try.prog 28 #[.int .i64 n, .pointer (some ⟨g, 0, none⟩)] w fun e w' => e = .returned (.agg #[.int .i64 (n / c), .int .i64 (Tm.up n c)]) ∧ Below w.heap.size w w' := by
    rcases Int.lt_trichotomy (n.tmod c) 0 with ht | ht | ht
    · obtain ⟨o1, o2⟩ := Tm.out_n n c hc ht
      rw [o1, o2]
      have e1 : decide (n < n.tdiv c * c) = true := by rw [decide_eq_true_iff]; omega
      have k5 : (n.tdiv c - 1) * c = n.tdiv c * c - c := by rw [Int.sub_mul]; omega
      have k6 : -70368744276000 ≤ (n.tdiv c - 1) * c := by omega
      have k7 : (n.tdiv c - 1) * c ≤ 70368744276000 := by omega
      have e2 : decide ((n.tdiv c - 1) * c < n) = true := by rw [decide_eq_true_iff]; omega
      clear k5 t1 t2 ht o1 o2
      go_enter Try.func28, Try.ntmps28
      go_wp2
      (refine bodyPost_ret (by simp [results, Try.results28, go_sem, Kit.cell_set]; try rfl) rfl ?_)
      exact ⟨ret_range (by omega) (by omega), by (repeat' (first | (with_reducible exact Below.refl _ _) | (with_reducible assumption) | (with_reducible refine Kit.below_drewN ?_ _) | (with_reducible refine Below.drew ?_) | (with_reducible refine Below.alloc ?_ ?_ _) | (with_reducible refine Below.setCell ?_ ?_ _) | (with_reducible exact Nat.le_refl _) | omega | (simp; omega) | (simp; done) | (apply Below.size; assumption)))⟩
    · obtain ⟨o1, o2⟩ := Tm.out_0 n c hc ht
      rw [o1, o2]
      have e1 : decide (n < n.tdiv c * c) = false := by rw [decide_eq_false_iff_not]; omega
      have e2 : decide (n.tdiv c * c < n) = false := by rw [decide_eq_false_iff_not]; omega
      clear t1 t2 ht o1 o2
      go_enter Try.func28, Try.ntmps28
      go_wp2
      (refine bodyPost_ret (by simp [results, Try.results28, go_sem, Kit.cell_set]; try rfl) rfl ?_)
      exact ⟨ret_range (by omega) (by omega), by (repeat' (first | (with_reducible exact Below.refl _ _) | (with_reducible assumption) | (with_reducible refine Kit.below_drewN ?_ _) | (with_reducible refine Below.drew ?_) | (with_reducible refine Below.alloc ?_ ?_ _) | (with_reducible refine Below.setCell ?_ ?_ _) | (with_reducible exact Nat.le_refl _) | omega | (simp; omega) | (simp; done) | (apply Below.size; assumption)))⟩
    · obtain ⟨o1, o2⟩ := Tm.out_p n c hc ht
      rw [o1, o2]
      have e1 : decide (n < n.tdiv c * c) = false := by rw [decide_eq_false_iff_not]; omega
      have e2 : decide (n.tdiv c * c < n) = true := by rw [decide_eq_true_iff]; omega
      clear t1 t2 ht o1 o2
      go_enter Try.func28, Try.ntmps28
      go_wp2
      (refine bodyPost_ret (by simp [results, Try.results28, go_sem, Kit.cell_set]; try rfl) rfl ?_)
      exact ⟨ret_range (by omega) (by omega), by (repeat' (first | (with_reducible exact Below.refl _ _) | (with_reducible assumption) | (with_reducible refine Kit.below_drewN ?_ _) | (with_reducible refine Below.drew ?_) | (with_reducible refine Below.alloc ?_ ?_ _) | (with_reducible refine Below.setCell ?_ ?_ _) | (with_reducible exact Nat.le_refl _) | omega | (simp; omega) | (simp; done) | (apply Below.size; assumption)))⟩
  exact fin

def TApply (a b c x y : Int) (w : World) (r1 r2 r3 r4 e : Int) : Prop :=
  Calls Try.prog 16 #[.agg #[.int .i64 a, .int .i64 b, .int .i64 c], .int .i64 x, .int .i64 y] w fun r w' =>
    r = .returned (.tuple #[.agg #[.int .i64 r1, .int .i64 r2], .agg #[.int .i64 r3, .int .i64 r4], .int .i64 e]) ∧ Below w.heap.size w w'

set_option maxHeartbeats 1000000 in
theorem t_apply_1 (a b c x y : Int) (w : World) (h : Tm.vld a b c = false) : TApply a b c x y w 0 0 0 0 140 := by
  have H := Lib.hid h; clear h
  unfold TApply
  go_enter Try.func16, Try.ntmps16
  go_wp2_with fail
  refine (t_check a b c _).mono ?_
  rw [H.out]
  rintro e w1 ⟨rfl, hb1⟩
  (obtain ⟨hc1, hf1⟩ := Kit.bcell hb1; have hz1_0 : w.heap.size < w1.heap.size := (by have := hb1.size; first | omega | (simp at this; omega)); have hz1_1 : w.heap.size + 1 < w1.heap.size := (by have := hb1.size; first | omega | (simp at this; omega)); have hz1_2 : w.heap.size + 1 + 1 < w1.heap.size := (by have := hb1.size; first | omega | (simp at this; omega)); have hw1 : Below w.heap.size w w1 := Below.trans (by (repeat' (first | (with_reducible exact Below.refl _ _) | (with_reducible assumption) | (with_reducible refine Kit.below_drewN ?_ _) | (with_reducible refine Below.drew ?_) | (with_reducible refine Below.alloc ?_ ?_ _) | (with_reducible refine Below.setCell ?_ ?_ _) | (with_reducible exact Nat.le_refl _) | omega | (simp; omega) | (simp; done) | (apply Below.size; assumption)))) (hb1.mono (by first | (simp; done) | (simp; omega) | omega)); have gc1_1_0 : w1.cell? ⟨w.heap.size + 1, 0, none⟩ = some (.int .i64 0) := (by rw [hc1 _ _ (by first | assumption | (simp; done) | (simp; omega) | omega)]; first | assumption | (simp [go_sem]; done)); have gf1_1_0 : w1.frozen? ⟨w.heap.size + 1, 0, none⟩ = false := (by rw [hf1 _ _ (by first | assumption | (simp; done) | (simp; omega) | omega)]; first | assumption | (simp [go_sem]; done)); have gc1_1_1 : w1.cell? ⟨w.heap.size + 1, 1, none⟩ = some (.int .i64 0) := (by rw [hc1 _ _ (by first | assumption | (simp; done) | (simp; omega) | omega)]; first | assumption | (simp [go_sem]; done)); have gf1_1_1 : w1.frozen? ⟨w.heap.size + 1, 1, none⟩ = false := (by rw [hf1 _ _ (by first | assumption | (simp; done) | (simp; omega) | omega)]; first | assumption | (simp [go_sem]; done)); have gc1_2_0 : w1.cell? ⟨w.heap.size + 1 + 1, 0, none⟩ = some (.int .i64 0) := (by rw [hc1 _ _ (by first | assumption | (simp; done) | (simp; omega) | omega)]; first | assumption | (simp [go_sem]; done)); have gf1_2_0 : w1.frozen? ⟨w.heap.size + 1 + 1, 0, none⟩ = false := (by rw [hf1 _ _ (by first | assumption | (simp; done) | (simp; omega) | omega)]; first | assumption | (simp [go_sem]; done)); have gc1_2_1 : w1.cell? ⟨w.heap.size + 1 + 1, 1, none⟩ = some (.int .i64 0) := (by rw [hc1 _ _ (by first | assumption | (simp; done) | (simp; omega) | omega)]; first | assumption | (simp [go_sem]; done)); have gf1_2_1 : w1.frozen? ⟨w.heap.size + 1 + 1, 1, none⟩ = false := (by rw [hf1 _ _ (by first | assumption | (simp; done) | (simp; omega) | omega)]; first | assumption | (simp [go_sem]; done)); clear hc1 hf1)
  go_wp2
  go_region
  all_goals go_wp2
  all_goals (refine bodyPost_ret (by simp [results, Try.results16, go_sem, Kit.cell_set, gc1_1_0, gc1_1_1, gc1_2_0, gc1_2_1]; try rfl) rfl ?_)
  all_goals exact ⟨rfl, by (repeat' (first | (with_reducible exact Below.refl _ _) | (with_reducible assumption) | (with_reducible refine Kit.below_drewN ?_ _) | (with_reducible refine Below.drew ?_) | (with_reducible refine Below.alloc ?_ ?_ _) | (with_reducible refine Below.setCell ?_ ?_ _) | (with_reducible exact Nat.le_refl _) | omega | (simp; omega) | (simp; done) | (apply Below.size; assumption)))⟩
set_option maxHeartbeats 1000000 in
theorem t_apply_2 (a b c x y : Int) (w : World) (h : Tm.vld a b c = true) (hx : x < -1073741824 ∨ y < -1073741824 ∨ 1073741824 < x ∨ 1073741824 < y) : TApply a b c x y w 0 0 0 0 1 := by
  have H := Lib.hid h; clear h
  unfold TApply
  have d : decide ((if y < x then y else x) < -1073741824) = true ∨ (decide ((if y < x then y else x) < -1073741824) = false ∧ decide (1073741824 < (if x < y then y else x)) = true) := by
    by_cases h1 : x < -1073741824 ∨ y < -1073741824
    · left; rw [decide_eq_true_iff]; split <;> omega
    · right; exact ⟨by rw [decide_eq_false_iff_not]; split <;> omega, by rw [decide_eq_true_iff]; split <;> omega⟩
  clear hx
  rcases d with d1 | ⟨d1, d2⟩
  all_goals
    go_enter Try.func16, Try.ntmps16
    go_wp2_with fail
    refine (t_check a b c _).mono ?_
    rw [H.out]
    rintro e w1 ⟨rfl, hb1⟩
    (obtain ⟨hc1, hf1⟩ := Kit.bcell hb1; have hz1_0 : w.heap.size < w1.heap.size := (by have := hb1.size; first | omega | (simp at this; omega)); have hz1_1 : w.heap.size + 1 < w1.heap.size := (by have := hb1.size; first | omega | (simp at this; omega)); have hz1_2 : w.heap.size + 1 + 1 < w1.heap.size := (by have := hb1.size; first | omega | (simp at this; omega)); have hw1 : Below w.heap.size w w1 := Below.trans (by (repeat' (first | (with_reducible exact Below.refl _ _) | (with_reducible assumption) | (with_reducible refine Kit.below_drewN ?_ _) | (with_reducible refine Below.drew ?_) | (with_reducible refine Below.alloc ?_ ?_ _) | (with_reducible refine Below.setCell ?_ ?_ _) | (with_reducible exact Nat.le_refl _) | omega | (simp; omega) | (simp; done) | (apply Below.size; assumption)))) (hb1.mono (by first | (simp; done) | (simp; omega) | omega)); have gc1_1_0 : w1.cell? ⟨w.heap.size + 1, 0, none⟩ = some (.int .i64 0) := (by rw [hc1 _ _ (by first | assumption | (simp; done) | (simp; omega) | omega)]; first | assumption | (simp [go_sem]; done)); have gf1_1_0 : w1.frozen? ⟨w.heap.size + 1, 0, none⟩ = false := (by rw [hf1 _ _ (by first | assumption | (simp; done) | (simp; omega) | omega)]; first | assumption | (simp [go_sem]; done)); have gc1_1_1 : w1.cell? ⟨w.heap.size + 1, 1, none⟩ = some (.int .i64 0) := (by rw [hc1 _ _ (by first | assumption | (simp; done) | (simp; omega) | omega)]; first | assumption | (simp [go_sem]; done)); have gf1_1_1 : w1.frozen? ⟨w.heap.size + 1, 1, none⟩ = false := (by rw [hf1 _ _ (by first | assumption | (simp; done) | (simp; omega) | omega)]; first | assumption | (simp [go_sem]; done)); have gc1_2_0 : w1.cell? ⟨w.heap.size + 1 + 1, 0, none⟩ = some (.int .i64 0) := (by rw [hc1 _ _ (by first | assumption | (simp; done) | (simp; omega) | omega)]; first | assumption | (simp [go_sem]; done)); have gf1_2_0 : w1.frozen? ⟨w.heap.size + 1 + 1, 0, none⟩ = false := (by rw [hf1 _ _ (by first | assumption | (simp; done) | (simp; omega) | omega)]; first | assumption | (simp [go_sem]; done)); have gc1_2_1 : w1.cell? ⟨w.heap.size + 1 + 1, 1, none⟩ = some (.int .i64 0) := (by rw [hc1 _ _ (by first | assumption | (simp; done) | (simp; omega) | omega)]; first | assumption | (simp [go_sem]; done)); have gf1_2_1 : w1.frozen? ⟨w.heap.size + 1 + 1, 1, none⟩ = false := (by rw [hf1 _ _ (by first | assumption | (simp; done) | (simp; omega) | omega)]; first | assumption | (simp [go_sem]; done)); clear hc1 hf1)
    go_wp2
    all_goals
      go_region
      all_goals go_wp2
      all_goals (refine bodyPost_ret (by simp [results, Try.results16, go_sem, Kit.cell_set, gc1_1_0, gc1_1_1, gc1_2_0, gc1_2_1]; try rfl) rfl ?_)
      all_goals exact ⟨rfl, by (repeat' (first | (with_reducible exact Below.refl _ _) | (with_reducible assumption) | (with_reducible refine Kit.below_drewN ?_ _) | (with_reducible refine Below.drew ?_) | (with_reducible refine Below.alloc ?_ ?_ _) | (with_reducible refine Below.setCell ?_ ?_ _) | (with_reducible exact Nat.le_refl _) | omega | (simp; omega) | (simp; done) | (apply Below.size; assumption)))⟩

set_option maxHeartbeats 2000000 in
theorem t_apply_3 (a b c x y : Int) (w : World) (h : Tm.vld a b c = true) (h1 : -1073741824 ≤ x) (h2 : -1073741824 ≤ y) (h3 : x ≤ 1073741824) (h4 : y ≤ 1073741824) :
    TApply a b c x y w ((a * x - b * y) / c) (Tm.up (a * x - b * y) c) ((b * x + a * y) / c) (Tm.up (b * x + a * y) c) 0 := by
  have k := (Tm.vld_iff a b c).1 h
  obtain ⟨k1, k2, k3, k4, k5, k6, _, _⟩ := k
  obtain ⟨a1, a2⟩ := Tm.mul_nat a x 32768 1073741824 (by omega) (by omega)
  obtain ⟨a3, a4⟩ := Tm.mul_nat b y 32768 1073741824 (by omega) (by omega)
  obtain ⟨a5, a6⟩ := Tm.mul_nat b x 32768 1073741824 (by omega) (by omega)
  obtain ⟨a7, a8⟩ := Tm.mul_nat a y 32768 1073741824 (by omega) (by omega)
  simp only [Nat.reduceMul] at a1 a2 a3 a4 a5 a6 a7 a8
  have H := Lib.hid h; clear h
  unfold TApply
  have d1 : decide ((if y < x then y else x) < -1073741824) = false := by rw [decide_eq_false_iff_not]; split <;> omega
  have d2 : decide (1073741824 < (if x < y then y else x)) = false := by rw [decide_eq_false_iff_not]; split <;> omega
  have ow : ∀ (n : Int) (g : Nat) (w : World), -70368744177664 ≤ n → n ≤ 70368744177664 → w.cell? ⟨g, 2, none⟩ = some (.int .i64 c) → g < w.heap.size →
    Calls Try.prog 28 #[.int .i64 n, .pointer (some ⟨g, 0, none⟩)] w fun e w' => e = .returned (.agg #[.int .i64 (n / c), .int .i64 (Tm.up n c)]) ∧ Below w.heap.size w w' :=
    fun n g w n1 n2 hg hgs => t_outward n c g w k1 k2 n1 n2 hg hgs
  have ow := Lib.hid ow
  go_enter Try.func16, Try.ntmps16
  go_wp2_with fail
  refine (t_check a b c _).mono ?_
  rw [H.out]
  rintro e w1 ⟨rfl, hb1⟩
  (obtain ⟨hc1, hf1⟩ := Kit.bcell hb1; have hz1_0 : w.heap.size < w1.heap.size := (by have := hb1.size; first | omega | (simp at this; omega)); have hz1_1 : w.heap.size + 1 < w1.heap.size := (by have := hb1.size; first | omega | (simp at this; omega)); have hz1_2 : w.heap.size + 1 + 1 < w1.heap.size := (by have := hb1.size; first | omega | (simp at this; omega)); have hw1 : Below w.heap.size w w1 := Below.trans (by (repeat' (first | (with_reducible exact Below.refl _ _) | (with_reducible assumption) | (with_reducible refine Kit.below_drewN ?_ _) | (with_reducible refine Below.drew ?_) | (with_reducible refine Below.alloc ?_ ?_ _) | (with_reducible refine Below.setCell ?_ ?_ _) | (with_reducible exact Nat.le_refl _) | omega | (simp; omega) | (simp; done) | (apply Below.size; assumption)))) (hb1.mono (by first | (simp; done) | (simp; omega) | omega)); have gc1_0_0 : w1.cell? ⟨w.heap.size, 0, none⟩ = some (.int .i64 a) := (by rw [hc1 _ _ (by first | assumption | (simp; done) | (simp; omega) | omega)]; first | assumption | (simp [go_sem]; done)); have gf1_0_0 : w1.frozen? ⟨w.heap.size, 0, none⟩ = false := (by rw [hf1 _ _ (by first | assumption | (simp; done) | (simp; omega) | omega)]; first | assumption | (simp [go_sem]; done)); have gc1_0_1 : w1.cell? ⟨w.heap.size, 1, none⟩ = some (.int .i64 b) := (by rw [hc1 _ _ (by first | assumption | (simp; done) | (simp; omega) | omega)]; first | assumption | (simp [go_sem]; done)); have gf1_0_1 : w1.frozen? ⟨w.heap.size, 1, none⟩ = false := (by rw [hf1 _ _ (by first | assumption | (simp; done) | (simp; omega) | omega)]; first | assumption | (simp [go_sem]; done)); have gc1_0_2 : w1.cell? ⟨w.heap.size, 2, none⟩ = some (.int .i64 c) := (by rw [hc1 _ _ (by first | assumption | (simp; done) | (simp; omega) | omega)]; first | assumption | (simp [go_sem]; done)); have gf1_0_2 : w1.frozen? ⟨w.heap.size, 2, none⟩ = false := (by rw [hf1 _ _ (by first | assumption | (simp; done) | (simp; omega) | omega)]; first | assumption | (simp [go_sem]; done)); have gc1_1_0 : w1.cell? ⟨w.heap.size + 1, 0, none⟩ = some (.int .i64 0) := (by rw [hc1 _ _ (by first | assumption | (simp; done) | (simp; omega) | omega)]; first | assumption | (simp [go_sem]; done)); have gf1_1_0 : w1.frozen? ⟨w.heap.size + 1, 0, none⟩ = false := (by rw [hf1 _ _ (by first | assumption | (simp; done) | (simp; omega) | omega)]; first | assumption | (simp [go_sem]; done)); have gc1_1_1 : w1.cell? ⟨w.heap.size + 1, 1, none⟩ = some (.int .i64 0) := (by rw [hc1 _ _ (by first | assumption | (simp; done) | (simp; omega) | omega)]; first | assumption | (simp [go_sem]; done)); have gf1_1_1 : w1.frozen? ⟨w.heap.size + 1, 1, none⟩ = false := (by rw [hf1 _ _ (by first | assumption | (simp; done) | (simp; omega) | omega)]; first | assumption | (simp [go_sem]; done)); have gc1_2_0 : w1.cell? ⟨w.heap.size + 1 + 1, 0, none⟩ = some (.int .i64 0) := (by rw [hc1 _ _ (by first | assumption | (simp; done) | (simp; omega) | omega)]; first | assumption | (simp [go_sem]; done)); have gf1_2_0 : w1.frozen? ⟨w.heap.size + 1 + 1, 0, none⟩ = false := (by rw [hf1 _ _ (by first | assumption | (simp; done) | (simp; omega) | omega)]; first | assumption | (simp [go_sem]; done)); have gc1_2_1 : w1.cell? ⟨w.heap.size + 1 + 1, 1, none⟩ = some (.int .i64 0) := (by rw [hc1 _ _ (by first | assumption | (simp; done) | (simp; omega) | omega)]; first | assumption | (simp [go_sem]; done)); have gf1_2_1 : w1.frozen? ⟨w.heap.size + 1 + 1, 1, none⟩ = false := (by rw [hf1 _ _ (by first | assumption | (simp; done) | (simp; omega) | omega)]; first | assumption | (simp [go_sem]; done)); clear hc1 hf1)
  ((go_wp2_with (refine Kit.veil ?_; intro X HX)); rw [HX.out]; clear HX)
  have o1 := ow.out (a * x - b * y) w.heap.size
  have o2 := ow.out (b * x + a * y) w.heap.size
  obtain ⟨r1, E1⟩ : ∃ r, Hid ((a * x - b * y) / c = r) := ⟨_, rfl⟩
  simp only [E1.out] at o1
  obtain ⟨r2, E2⟩ : ∃ r, Hid (Tm.up (a * x - b * y) c = r) := ⟨_, rfl⟩
  simp only [E2.out] at o1
  obtain ⟨r3, E3⟩ : ∃ r, Hid ((b * x + a * y) / c = r) := ⟨_, rfl⟩
  simp only [E3.out] at o2
  obtain ⟨r4, E4⟩ : ∃ r, Hid (Tm.up (b * x + a * y) c = r) := ⟨_, rfl⟩
  simp only [E4.out] at o2
  have o1 := Lib.hid o1
  have o2 := Lib.hid o2
  obtain ⟨St, HS⟩ : ∃ St : List Kit.Plc, Hid (St = [(22, ⟨w.heap.size + 1, 0, none⟩, .int .i64 r1), (22, ⟨w.heap.size + 1, 1, none⟩, .int .i64 r2), (23, ⟨w.heap.size + 1 + 1, 0, none⟩, .int .i64 r3), (23, ⟨w.heap.size + 1 + 1, 1, none⟩, .int .i64 r4)]) := ⟨_, rfl⟩
  have f0 : ∀ x : Kit.Wx w1 St, x.val.cell? ⟨w.heap.size, 0, none⟩ = some (.int .i64 a) := fun x => x.cell gc1_0_0 hz1_0 (by rw [HS.out]; simp; omega)
  have f1 : ∀ x : Kit.Wx w1 St, x.val.cell? ⟨w.heap.size, 1, none⟩ = some (.int .i64 b) := fun x => x.cell gc1_0_1 hz1_0 (by rw [HS.out]; simp; omega)
  have f2 : ∀ x : Kit.Wx w1 St, x.val.cell? ⟨w.heap.size, 2, none⟩ = some (.int .i64 c) := fun x => x.cell gc1_0_2 hz1_0 (by rw [HS.out]; simp; omega)
  have fz : ∀ x : Kit.Wx w1 St, w.heap.size < x.val.heap.size := fun x => Nat.lt_of_lt_of_le hz1_0 x.below.size
  have fz := Lib.hid fz
  have t0 := Lib.hid (fun x : Kit.Wx w1 St => x.at_ (22, ⟨w.heap.size + 1, 0, none⟩, .int .i64 r1) (by rw [HS.out]; simp))
  have t1 := Lib.hid (fun x : Kit.Wx w1 St => x.at_ (22, ⟨w.heap.size + 1, 1, none⟩, .int .i64 r2) (by rw [HS.out]; simp))
  have t2 := Lib.hid (fun x : Kit.Wx w1 St => x.at_ (23, ⟨w.heap.size + 1 + 1, 0, none⟩, .int .i64 r3) (by rw [HS.out]; simp))
  have t3 := Lib.hid (fun x : Kit.Wx w1 St => x.at_ (23, ⟨w.heap.size + 1 + 1, 1, none⟩, .int .i64 r4) (by rw [HS.out]; simp))
  have hF := Kit.fam_start (W := w1) (St := St) (n := 25) (by rw [HS.out]; simp [gc1_1_0, gc1_1_1, gc1_2_0, gc1_2_1, gf1_1_0, gf1_1_1, gf1_2_0, gf1_2_1])
  have hne : Nonempty (Kit.Wx w1 St) := ⟨hF.choose⟩
  refine Kit.wp_region_fam (CF := Kit.Fam w1 St) (by kernel_rfl) (by kernel_rfl) hF ?_
  clear hF
  (repeat (refine Kit.fam_plain rfl rfl (by rw [HS.out]; simp) ?_; intro K hK; go_big_quiet_op; go_big_quiet_on))
  (refine Kit.fam_call _ _ _ rfl (by rw [HS.out]; simp) (by rw [HS.out]; simp; omega) (fun x => o1.out x.val (by omega) (by omega) (f2 x) (fz.out x)) (fun x => by go_simp) ?_; go_simp)
  (repeat (refine Kit.fam_plain rfl rfl (by rw [HS.out]; simp) ?_; intro K hK; go_big_quiet_op; go_big_quiet_on))
  (refine Kit.fam_call _ _ _ rfl (by rw [HS.out]; simp) (by rw [HS.out]; simp; omega) (fun x => o2.out x.val (by omega) (by omega) (f2 x) (fz.out x)) (fun x => by go_simp) ?_; go_simp)
  (repeat (refine Kit.fam_plain rfl rfl (by rw [HS.out]; simp) ?_; intro K hK; go_big_quiet_op; go_big_quiet_on))
  (refine Kit.fam_store rfl (by rw [HS.out]; simp) [(⟨w.heap.size + 1, 0, none⟩, .int .i64 r1), (⟨w.heap.size + 1, 1, none⟩, .int .i64 r2)] (by rw [HS.out]; rfl) (fun x => by obtain ⟨⟨u0, hu0⟩, hz0⟩ := t0.out x; obtain ⟨⟨u1, hu1⟩, hz1⟩ := t1.out x; dsimp only at *; go_simp; rfl) ?_; go_simp)
  (refine Kit.fam_store rfl (by rw [HS.out]; simp) [(⟨w.heap.size + 1 + 1, 0, none⟩, .int .i64 r3), (⟨w.heap.size + 1 + 1, 1, none⟩, .int .i64 r4)] (by rw [HS.out]; rfl) (fun x => by obtain ⟨⟨u0, hu0⟩, hz0⟩ := t2.out x; obtain ⟨⟨u1, hu1⟩, hz1⟩ := t3.out x; dsimp only at *; go_simp; rfl) ?_; go_simp)
  (repeat (refine Kit.fam_plain rfl rfl (by rw [HS.out]; simp) ?_; intro K hK; go_big_quiet_op; go_big_quiet_on))
  intro d w9 hd hF
  obtain ⟨hw9, hc9, _⟩ := hF.end_ (B := w.heap.size) (n := 25) hd (by rw [HS.out]; simp) hw1 (by omega) (by rw [HS.out]; simp; omega)
  have g0 : w9.cell? ⟨w.heap.size + 1, 0, none⟩ = some (.int .i64 r1) := hc9 (22, _, _) (by rw [HS.out]; simp)
  have g1 : w9.cell? ⟨w.heap.size + 1, 1, none⟩ = some (.int .i64 r2) := hc9 (22, _, _) (by rw [HS.out]; simp)
  have g2 : w9.cell? ⟨w.heap.size + 1 + 1, 0, none⟩ = some (.int .i64 r3) := hc9 (23, _, _) (by rw [HS.out]; simp)
  have g3 : w9.cell? ⟨w.heap.size + 1 + 1, 1, none⟩ = some (.int .i64 r4) := hc9 (23, _, _) (by rw [HS.out]; simp)
  clear hc9 hF
  go_wp2
  all_goals (refine bodyPost_ret (by simp [results, Try.results16, go_sem, Kit.cell_set, g0, g1, g2, g3]; try rfl) rfl ?_)
  all_goals exact ⟨by rw [E1.out, E2.out, E3.out, E4.out], hw9⟩
end Go.Proofs.Ytjkkkdfbfdiidaa
