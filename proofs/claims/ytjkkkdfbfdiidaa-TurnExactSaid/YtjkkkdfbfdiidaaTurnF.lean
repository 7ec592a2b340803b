/- Walks: Order (package turn). -/
import Derived.Test.YtjkkkdfbfdiidaaTurnE
namespace Go.Proofs.Ytjkkkdfbfdiidaa
set_option linter.unusedVariables false
set_option linter.unusedSimpArgs false
open Go.RowKit

def TOrder (a b c a' b' c' : Int) (w : World) (x e : Int) : Prop :=
  Calls Try.prog 18 #[.agg #[.int .i64 a, .int .i64 b, .int .i64 c], .agg #[.int .i64 a', .int .i64 b', .int .i64 c']] w fun r w' =>
    r = .returned (.tuple #[.int .i64 x, .int .i64 e]) ∧ Below w.heap.size w w'

set_option maxHeartbeats 1000000 in
theorem t_order_1 (a b c a' b' c' : Int) (w : World) (h : Tm.vld a b c = false) : TOrder a b c a' b' c' w 0 140 := by
  have H := Lib.hid h; clear h
  unfold TOrder
  go_enter Try.func18, Try.ntmps18
  go_wp2_with fail
  refine (t_check a b c _).mono ?_
  rw [H.out]
  rintro e w1 ⟨rfl, hb1⟩
  (obtain ⟨hc1, hf1⟩ := Kit.bcell hb1; have hz1_0 : w.heap.size < w1.heap.size := (by have := hb1.size; first | omega | (simp at this; omega)); have hz1_1 : w.heap.size + 1 < w1.heap.size := (by have := hb1.size; first | omega | (simp at this; omega)); have hw1 : Below w.heap.size w w1 := Below.trans (by (repeat' (first | (with_reducible exact Below.refl _ _) | (with_reducible assumption) | (with_reducible refine Kit.below_drewN ?_ _) | (with_reducible refine Below.drew ?_) | (with_reducible refine Below.alloc ?_ ?_ _) | (with_reducible refine Below.setCell ?_ ?_ _) | (with_reducible exact Nat.le_refl _) | omega | (simp; omega) | (simp; done) | (apply Below.size; assumption)))) (hb1.mono (by (first | (simp; done) | (simp; omega) | omega))))
  go_wp2
  go_ret2
  exact ⟨rfl, by (repeat' (first | (with_reducible exact Below.refl _ _) | (with_reducible assumption) | (with_reducible refine Kit.below_drewN ?_ _) | (with_reducible refine Below.drew ?_) | (with_reducible refine Below.alloc ?_ ?_ _) | (with_reducible refine Below.setCell ?_ ?_ _) | (with_reducible exact Nat.le_refl _) | omega | (simp; omega) | (simp; done) | (apply Below.size; assumption)))⟩
set_option maxHeartbeats 1000000 in
theorem t_order_2 (a b c a' b' c' : Int) (w : World) (h : Tm.vld a b c = true) (h' : Tm.vld a' b' c' = false) : TOrder a b c a' b' c' w 0 140 := by
  have H := Lib.hid h; clear h
  have H' := Lib.hid h'; clear h'
  unfold TOrder
  go_enter Try.func18, Try.ntmps18
  go_wp2_with fail
  refine (t_check a b c _).mono ?_
  rw [H.out]
  rintro e w1 ⟨rfl, hb1⟩
  (obtain ⟨hc1, hf1⟩ := Kit.bcell hb1; have hz1_0 : w.heap.size < w1.heap.size := (by have := hb1.size; first | omega | (simp at this; omega)); have hz1_1 : w.heap.size + 1 < w1.heap.size := (by have := hb1.size; first | omega | (simp at this; omega)); have hw1 : Below w.heap.size w w1 := Below.trans (by (repeat' (first | (with_reducible exact Below.refl _ _) | (with_reducible assumption) | (with_reducible refine Kit.below_drewN ?_ _) | (with_reducible refine Below.drew ?_) | (with_reducible refine Below.alloc ?_ ?_ _) | (with_reducible refine Below.setCell ?_ ?_ _) | (with_reducible exact Nat.le_refl _) | omega | (simp; omega) | (simp; done) | (apply Below.size; assumption)))) (hb1.mono (by first | (simp; done) | (simp; omega) | omega)); have gc1_0_0 : w1.cell? ⟨w.heap.size, 0, none⟩ = some (.int .i64 a) := (by rw [hc1 _ _ (by first | assumption | (simp; done) | (simp; omega) | omega)]; first | assumption | (simp [go_sem]; done)); have gf1_0_0 : w1.frozen? ⟨w.heap.size, 0, none⟩ = false := (by rw [hf1 _ _ (by first | assumption | (simp; done) | (simp; omega) | omega)]; first | assumption | (simp [go_sem]; done)); have gc1_0_1 : w1.cell? ⟨w.heap.size, 1, none⟩ = some (.int .i64 b) := (by rw [hc1 _ _ (by first | assumption | (simp; done) | (simp; omega) | omega)]; first | assumption | (simp [go_sem]; done)); have gf1_0_1 : w1.frozen? ⟨w.heap.size, 1, none⟩ = false := (by rw [hf1 _ _ (by first | assumption | (simp; done) | (simp; omega) | omega)]; first | assumption | (simp [go_sem]; done)); have gc1_0_2 : w1.cell? ⟨w.heap.size, 2, none⟩ = some (.int .i64 c) := (by rw [hc1 _ _ (by first | assumption | (simp; done) | (simp; omega) | omega)]; first | assumption | (simp [go_sem]; done)); have gf1_0_2 : w1.frozen? ⟨w.heap.size, 2, none⟩ = false := (by rw [hf1 _ _ (by first | assumption | (simp; done) | (simp; omega) | omega)]; first | assumption | (simp [go_sem]; done)); have gc1_1_0 : w1.cell? ⟨w.heap.size + 1, 0, none⟩ = some (.int .i64 a') := (by rw [hc1 _ _ (by first | assumption | (simp; done) | (simp; omega) | omega)]; first | assumption | (simp [go_sem]; done)); have gf1_1_0 : w1.frozen? ⟨w.heap.size + 1, 0, none⟩ = false := (by rw [hf1 _ _ (by first | assumption | (simp; done) | (simp; omega) | omega)]; first | assumption | (simp [go_sem]; done)); have gc1_1_1 : w1.cell? ⟨w.heap.size + 1, 1, none⟩ = some (.int .i64 b') := (by rw [hc1 _ _ (by first | assumption | (simp; done) | (simp; omega) | omega)]; first | assumption | (simp [go_sem]; done)); have gf1_1_1 : w1.frozen? ⟨w.heap.size + 1, 1, none⟩ = false := (by rw [hf1 _ _ (by first | assumption | (simp; done) | (simp; omega) | omega)]; first | assumption | (simp [go_sem]; done)); have gc1_1_2 : w1.cell? ⟨w.heap.size + 1, 2, none⟩ = some (.int .i64 c') := (by rw [hc1 _ _ (by first | assumption | (simp; done) | (simp; omega) | omega)]; first | assumption | (simp [go_sem]; done)); have gf1_1_2 : w1.frozen? ⟨w.heap.size + 1, 2, none⟩ = false := (by rw [hf1 _ _ (by first | assumption | (simp; done) | (simp; omega) | omega)]; first | assumption | (simp [go_sem]; done)); clear hc1 hf1)
  go_wp2_with fail
  refine (t_check a' b' c' _).mono ?_
  rw [H'.out]
  rintro e w2 ⟨rfl, hb2⟩
  (obtain ⟨hc2, hf2⟩ := Kit.bcell hb2; have hz2_0 : w.heap.size < w2.heap.size := (by have := hb2.size; first | omega | (simp at this; omega)); have hz2_1 : w.heap.size + 1 < w2.heap.size := (by have := hb2.size; first | omega | (simp at this; omega)); have hw2 : Below w.heap.size w w2 := Below.trans (by (repeat' (first | (with_reducible exact Below.refl _ _) | (with_reducible assumption) | (with_reducible refine Kit.below_drewN ?_ _) | (with_reducible refine Below.drew ?_) | (with_reducible refine Below.alloc ?_ ?_ _) | (with_reducible refine Below.setCell ?_ ?_ _) | (with_reducible exact Nat.le_refl _) | omega | (simp; omega) | (simp; done) | (apply Below.size; assumption)))) (hb2.mono (by first | (simp; done) | (simp; omega) | omega)); have gc2_0_0 : w2.cell? ⟨w.heap.size, 0, none⟩ = some (.int .i64 a) := (by rw [hc2 _ _ (by first | assumption | (simp; done) | (simp; omega) | omega)]; first | assumption | (simp [go_sem]; done)); have gf2_0_0 : w2.frozen? ⟨w.heap.size, 0, none⟩ = false := (by rw [hf2 _ _ (by first | assumption | (simp; done) | (simp; omega) | omega)]; first | assumption | (simp [go_sem]; done)); have gc2_0_1 : w2.cell? ⟨w.heap.size, 1, none⟩ = some (.int .i64 b) := (by rw [hc2 _ _ (by first | assumption | (simp; done) | (simp; omega) | omega)]; first | assumption | (simp [go_sem]; done)); have gf2_0_1 : w2.frozen? ⟨w.heap.size, 1, none⟩ = false := (by rw [hf2 _ _ (by first | assumption | (simp; done) | (simp; omega) | omega)]; first | assumption | (simp [go_sem]; done)); have gc2_0_2 : w2.cell? ⟨w.heap.size, 2, none⟩ = some (.int .i64 c) := (by rw [hc2 _ _ (by first | assumption | (simp; done) | (simp; omega) | omega)]; first | assumption | (simp [go_sem]; done)); have gf2_0_2 : w2.frozen? ⟨w.heap.size, 2, none⟩ = false := (by rw [hf2 _ _ (by first | assumption | (simp; done) | (simp; omega) | omega)]; first | assumption | (simp [go_sem]; done)); have gc2_1_0 : w2.cell? ⟨w.heap.size + 1, 0, none⟩ = some (.int .i64 a') := (by rw [hc2 _ _ (by first | assumption | (simp; done) | (simp; omega) | omega)]; first | assumption | (simp [go_sem]; done)); have gf2_1_0 : w2.frozen? ⟨w.heap.size + 1, 0, none⟩ = false := (by rw [hf2 _ _ (by first | assumption | (simp; done) | (simp; omega) | omega)]; first | assumption | (simp [go_sem]; done)); have gc2_1_1 : w2.cell? ⟨w.heap.size + 1, 1, none⟩ = some (.int .i64 b') := (by rw [hc2 _ _ (by first | assumption | (simp; done) | (simp; omega) | omega)]; first | assumption | (simp [go_sem]; done)); have gf2_1_1 : w2.frozen? ⟨w.heap.size + 1, 1, none⟩ = false := (by rw [hf2 _ _ (by first | assumption | (simp; done) | (simp; omega) | omega)]; first | assumption | (simp [go_sem]; done)); have gc2_1_2 : w2.cell? ⟨w.heap.size + 1, 2, none⟩ = some (.int .i64 c') := (by rw [hc2 _ _ (by first | assumption | (simp; done) | (simp; omega) | omega)]; first | assumption | (simp [go_sem]; done)); have gf2_1_2 : w2.frozen? ⟨w.heap.size + 1, 2, none⟩ = false := (by rw [hf2 _ _ (by first | assumption | (simp; done) | (simp; omega) | omega)]; first | assumption | (simp [go_sem]; done)); clear hc2 hf2)
  go_wp2
  go_ret2
  exact ⟨rfl, by (repeat' (first | (with_reducible exact Below.refl _ _) | (with_reducible assumption) | (with_reducible refine Kit.below_drewN ?_ _) | (with_reducible refine Below.drew ?_) | (with_reducible refine Below.alloc ?_ ?_ _) | (with_reducible refine Below.setCell ?_ ?_ _) | (with_reducible exact Nat.le_refl _) | omega | (simp; omega) | (simp; done) | (apply Below.size; assumption)))⟩
set_option maxHeartbeats 1000000 in
theorem t_order_3 (a b c : Int) (w : World) (h : Tm.vld a b c = true) : TOrder a b c a b c w 0 0 := by
  obtain ⟨a', ea⟩ : ∃ a', a' = a := ⟨_, rfl⟩
  obtain ⟨b', eb⟩ : ∃ b', b' = b := ⟨_, rfl⟩
  obtain ⟨c', ec⟩ : ∃ c', c' = c := ⟨_, rfl⟩
  have h' : Tm.vld a' b' c' = true := by rw [ea, eb, ec]; exact h
  have q1 : (a == a') = true := by rw [ea]; exact beq_self_eq_true a
  have q2 : (b == b') = true := by rw [eb]; exact beq_self_eq_true b
  have q3 : (c == c') = true := by rw [ec]; exact beq_self_eq_true c
  suffices TOrder a b c a' b' c' w 0 0 by rw [ea, eb, ec] at this; exact this
  clear ea eb ec
  have H := Lib.hid h; clear h
  have H' := Lib.hid h'; clear h'
  unfold TOrder
  go_enter Try.func18, Try.ntmps18
  go_wp2_with fail
  refine (t_check a b c _).mono ?_
  rw [H.out]
  rintro e w1 ⟨rfl, hb1⟩
  (obtain ⟨hc1, hf1⟩ := Kit.bcell hb1; have hz1_0 : w.heap.size < w1.heap.size := (by have := hb1.size; first | omega | (simp at this; omega)); have hz1_1 : w.heap.size + 1 < w1.heap.size := (by have := hb1.size; first | omega | (simp at this; omega)); have hw1 : Below w.heap.size w w1 := Below.trans (by (repeat' (first | (with_reducible exact Below.refl _ _) | (with_reducible assumption) | (with_reducible refine Kit.below_drewN ?_ _) | (with_reducible refine Below.drew ?_) | (with_reducible refine Below.alloc ?_ ?_ _) | (with_reducible refine Below.setCell ?_ ?_ _) | (with_reducible exact Nat.le_refl _) | omega | (simp; omega) | (simp; done) | (apply Below.size; assumption)))) (hb1.mono (by first | (simp; done) | (simp; omega) | omega)); have gc1_0_0 : w1.cell? ⟨w.heap.size, 0, none⟩ = some (.int .i64 a) := (by rw [hc1 _ _ (by first | assumption | (simp; done) | (simp; omega) | omega)]; first | assumption | (simp [go_sem]; done)); have gf1_0_0 : w1.frozen? ⟨w.heap.size, 0, none⟩ = false := (by rw [hf1 _ _ (by first | assumption | (simp; done) | (simp; omega) | omega)]; first | assumption | (simp [go_sem]; done)); have gc1_0_1 : w1.cell? ⟨w.heap.size, 1, none⟩ = some (.int .i64 b) := (by rw [hc1 _ _ (by first | assumption | (simp; done) | (simp; omega) | omega)]; first | assumption | (simp [go_sem]; done)); have gf1_0_1 : w1.frozen? ⟨w.heap.size, 1, none⟩ = false := (by rw [hf1 _ _ (by first | assumption | (simp; done) | (simp; omega) | omega)]; first | assumption | (simp [go_sem]; done)); have gc1_0_2 : w1.cell? ⟨w.heap.size, 2, none⟩ = some (.int .i64 c) := (by rw [hc1 _ _ (by first | assumption | (simp; done) | (simp; omega) | omega)]; first | assumption | (simp [go_sem]; done)); have gf1_0_2 : w1.frozen? ⟨w.heap.size, 2, none⟩ = false := (by rw [hf1 _ _ (by first | assumption | (simp; done) | (simp; omega) | omega)]; first | assumption | (simp [go_sem]; done)); have gc1_1_0 : w1.cell? ⟨w.heap.size + 1, 0, none⟩ = some (.int .i64 a') := (by rw [hc1 _ _ (by first | assumption | (simp; done) | (simp; omega) | omega)]; first | assumption | (simp [go_sem]; done)); have gf1_1_0 : w1.frozen? ⟨w.heap.size + 1, 0, none⟩ = false := (by rw [hf1 _ _ (by first | assumption | (simp; done) | (simp; omega) | omega)]; first | assumption | (simp [go_sem]; done)); have gc1_1_1 : w1.cell? ⟨w.heap.size + 1, 1, none⟩ = some (.int .i64 b') := (by rw [hc1 _ _ (by first | assumption | (simp; done) | (simp; omega) | omega)]; first | assumption | (simp [go_sem]; done)); have gf1_1_1 : w1.frozen? ⟨w.heap.size + 1, 1, none⟩ = false := (by rw [hf1 _ _ (by first | assumption | (simp; done) | (simp; omega) | omega)]; first | assumption | (simp [go_sem]; done)); have gc1_1_2 : w1.cell? ⟨w.heap.size + 1, 2, none⟩ = some (.int .i64 c') := (by rw [hc1 _ _ (by first | assumption | (simp; done) | (simp; omega) | omega)]; first | assumption | (simp [go_sem]; done)); have gf1_1_2 : w1.frozen? ⟨w.heap.size + 1, 2, none⟩ = false := (by rw [hf1 _ _ (by first | assumption | (simp; done) | (simp; omega) | omega)]; first | assumption | (simp [go_sem]; done)); clear hc1 hf1)
  go_wp2_with fail
  refine (t_check a' b' c' _).mono ?_
  rw [H'.out]
  rintro e w2 ⟨rfl, hb2⟩
  (obtain ⟨hc2, hf2⟩ := Kit.bcell hb2; have hz2_0 : w.heap.size < w2.heap.size := (by have := hb2.size; first | omega | (simp at this; omega)); have hz2_1 : w.heap.size + 1 < w2.heap.size := (by have := hb2.size; first | omega | (simp at this; omega)); have hw2 : Below w.heap.size w w2 := Below.trans (by (repeat' (first | (with_reducible exact Below.refl _ _) | (with_reducible assumption) | (with_reducible refine Kit.below_drewN ?_ _) | (with_reducible refine Below.drew ?_) | (with_reducible refine Below.alloc ?_ ?_ _) | (with_reducible refine Below.setCell ?_ ?_ _) | (with_reducible exact Nat.le_refl _) | omega | (simp; omega) | (simp; done) | (apply Below.size; assumption)))) (hb2.mono (by first | (simp; done) | (simp; omega) | omega)); have gc2_0_0 : w2.cell? ⟨w.heap.size, 0, none⟩ = some (.int .i64 a) := (by rw [hc2 _ _ (by first | assumption | (simp; done) | (simp; omega) | omega)]; first | assumption | (simp [go_sem]; done)); have gf2_0_0 : w2.frozen? ⟨w.heap.size, 0, none⟩ = false := (by rw [hf2 _ _ (by first | assumption | (simp; done) | (simp; omega) | omega)]; first | assumption | (simp [go_sem]; done)); have gc2_0_1 : w2.cell? ⟨w.heap.size, 1, none⟩ = some (.int .i64 b) := (by rw [hc2 _ _ (by first | assumption | (simp; done) | (simp; omega) | omega)]; first | assumption | (simp [go_sem]; done)); have gf2_0_1 : w2.frozen? ⟨w.heap.size, 1, none⟩ = false := (by rw [hf2 _ _ (by first | assumption | (simp; done) | (simp; omega) | omega)]; first | assumption | (simp [go_sem]; done)); have gc2_0_2 : w2.cell? ⟨w.heap.size, 2, none⟩ = some (.int .i64 c) := (by rw [hc2 _ _ (by first | assumption | (simp; done) | (simp; omega) | omega)]; first | assumption | (simp [go_sem]; done)); have gf2_0_2 : w2.frozen? ⟨w.heap.size, 2, none⟩ = false := (by rw [hf2 _ _ (by first | assumption | (simp; done) | (simp; omega) | omega)]; first | assumption | (simp [go_sem]; done)); have gc2_1_0 : w2.cell? ⟨w.heap.size + 1, 0, none⟩ = some (.int .i64 a') := (by rw [hc2 _ _ (by first | assumption | (simp; done) | (simp; omega) | omega)]; first | assumption | (simp [go_sem]; done)); have gf2_1_0 : w2.frozen? ⟨w.heap.size + 1, 0, none⟩ = false := (by rw [hf2 _ _ (by first | assumption | (simp; done) | (simp; omega) | omega)]; first | assumption | (simp [go_sem]; done)); have gc2_1_1 : w2.cell? ⟨w.heap.size + 1, 1, none⟩ = some (.int .i64 b') := (by rw [hc2 _ _ (by first | assumption | (simp; done) | (simp; omega) | omega)]; first | assumption | (simp [go_sem]; done)); have gf2_1_1 : w2.frozen? ⟨w.heap.size + 1, 1, none⟩ = false := (by rw [hf2 _ _ (by first | assumption | (simp; done) | (simp; omega) | omega)]; first | assumption | (simp [go_sem]; done)); have gc2_1_2 : w2.cell? ⟨w.heap.size + 1, 2, none⟩ = some (.int .i64 c') := (by rw [hc2 _ _ (by first | assumption | (simp; done) | (simp; omega) | omega)]; first | assumption | (simp [go_sem]; done)); have gf2_1_2 : w2.frozen? ⟨w.heap.size + 1, 2, none⟩ = false := (by rw [hf2 _ _ (by first | assumption | (simp; done) | (simp; omega) | omega)]; first | assumption | (simp [go_sem]; done)); clear hc2 hf2)
  go_wp2
  go_ret2
  exact ⟨rfl, by (repeat' (first | (with_reducible exact Below.refl _ _) | (with_reducible assumption) | (with_reducible refine Kit.below_drewN ?_ _) | (with_reducible refine Below.drew ?_) | (with_reducible refine Below.alloc ?_ ?_ _) | (with_reducible refine Below.setCell ?_ ?_ _) | (with_reducible exact Nat.le_refl _) | omega | (simp; omega) | (simp; done) | (apply Below.size; assumption)))⟩

/-- The outcome of Order at two turns that differ. -/
def ordB (LA LB x : Bool) : Int := if (LA != LB) && LB then -1 else if (LA == LB) && x then -1 else 1
set_option maxHeartbeats 2000000 in
theorem t_order_4 (a b c a' b' c' : Int) (LA LB x : Bool) (w : World) (h : Tm.vld a b c = true) (h' : Tm.vld a' b' c' = true)
    (hA : Hid (Tm.lower a b = LA)) (hB : Hid (Tm.lower a' b' = LB)) (hx : decide (b * a' < a * b') = x)
    (q : ((a == a') = false) ∨ ((a == a') = true ∧ (b == b') = false) ∨ ((a == a') = true ∧ (b == b') = true ∧ (c == c') = false)) : TOrder a b c a' b' c' w (ordB LA LB x) 0 := by
  obtain ⟨⟨k1, k2⟩, ⟨k3, k4⟩, ⟨k5, k6⟩, ⟨k7, k8⟩, ⟨k9, k10⟩⟩ := comp_bd a b c a' b' c' h h'
  clear k1 k2 k3 k4 k9 k10
  have la : ∀ w, Calls Try.prog 30 #[.agg #[.int .i64 a, .int .i64 b, .int .i64 c]] w fun r w' => r = .returned (.bool LA) ∧ Below w.heap.size w w' := fun w => by
    have := t_lower a b c w; rw [hA.out] at this; exact this
  have lb : ∀ w, Calls Try.prog 30 #[.agg #[.int .i64 a', .int .i64 b', .int .i64 c']] w fun r w' => r = .returned (.bool LB) ∧ Below w.heap.size w w' := fun w => by
    have := t_lower a' b' c' w; rw [hB.out] at this; exact this
  have la := Lib.hid la
  have lb := Lib.hid lb
  have H := Lib.hid h; clear h
  have H' := Lib.hid h'; clear h'
  unfold TOrder
  go_enter Try.func18, Try.ntmps18
  go_wp2_with fail
  refine (t_check a b c _).mono ?_
  rw [H.out]
  rintro e w1 ⟨rfl, hb1⟩
  (obtain ⟨hc1, hf1⟩ := Kit.bcell hb1; have hz1_0 : w.heap.size < w1.heap.size := (by have := hb1.size; first | omega | (simp at this; omega)); have hz1_1 : w.heap.size + 1 < w1.heap.size := (by have := hb1.size; first | omega | (simp at this; omega)); have hw1 : Below w.heap.size w w1 := Below.trans (by (repeat' (first | (with_reducible exact Below.refl _ _) | (with_reducible assumption) | (with_reducible refine Kit.below_drewN ?_ _) | (with_reducible refine Below.drew ?_) | (with_reducible refine Below.alloc ?_ ?_ _) | (with_reducible refine Below.setCell ?_ ?_ _) | (with_reducible exact Nat.le_refl _) | omega | (simp; omega) | (simp; done) | (apply Below.size; assumption)))) (hb1.mono (by first | (simp; done) | (simp; omega) | omega)); have gc1_0_0 : w1.cell? ⟨w.heap.size, 0, none⟩ = some (.int .i64 a) := (by rw [hc1 _ _ (by first | assumption | (simp; done) | (simp; omega) | omega)]; first | assumption | (simp [go_sem]; done)); have gf1_0_0 : w1.frozen? ⟨w.heap.size, 0, none⟩ = false := (by rw [hf1 _ _ (by first | assumption | (simp; done) | (simp; omega) | omega)]; first | assumption | (simp [go_sem]; done)); have gc1_0_1 : w1.cell? ⟨w.heap.size, 1, none⟩ = some (.int .i64 b) := (by rw [hc1 _ _ (by first | assumption | (simp; done) | (simp; omega) | omega)]; first | assumption | (simp [go_sem]; done)); have gf1_0_1 : w1.frozen? ⟨w.heap.size, 1, none⟩ = false := (by rw [hf1 _ _ (by first | assumption | (simp; done) | (simp; omega) | omega)]; first | assumption | (simp [go_sem]; done)); have gc1_0_2 : w1.cell? ⟨w.heap.size, 2, none⟩ = some (.int .i64 c) := (by rw [hc1 _ _ (by first | assumption | (simp; done) | (simp; omega) | omega)]; first | assumption | (simp [go_sem]; done)); have gf1_0_2 : w1.frozen? ⟨w.heap.size, 2, none⟩ = false := (by rw [hf1 _ _ (by first | assumption | (simp; done) | (simp; omega) | omega)]; first | assumption | (simp [go_sem]; done)); have gc1_1_0 : w1.cell? ⟨w.heap.size + 1, 0, none⟩ = some (.int .i64 a') := (by rw [hc1 _ _ (by first | assumption | (simp; done) | (simp; omega) | omega)]; first | assumption | (simp [go_sem]; done)); have gf1_1_0 : w1.frozen? ⟨w.heap.size + 1, 0, none⟩ = false := (by rw [hf1 _ _ (by first | assumption | (simp; done) | (simp; omega) | omega)]; first | assumption | (simp [go_sem]; done)); have gc1_1_1 : w1.cell? ⟨w.heap.size + 1, 1, none⟩ = some (.int .i64 b') := (by rw [hc1 _ _ (by first | assumption | (simp; done) | (simp; omega) | omega)]; first | assumption | (simp [go_sem]; done)); have gf1_1_1 : w1.frozen? ⟨w.heap.size + 1, 1, none⟩ = false := (by rw [hf1 _ _ (by first | assumption | (simp; done) | (simp; omega) | omega)]; first | assumption | (simp [go_sem]; done)); have gc1_1_2 : w1.cell? ⟨w.heap.size + 1, 2, none⟩ = some (.int .i64 c') := (by rw [hc1 _ _ (by first | assumption | (simp; done) | (simp; omega) | omega)]; first | assumption | (simp [go_sem]; done)); have gf1_1_2 : w1.frozen? ⟨w.heap.size + 1, 2, none⟩ = false := (by rw [hf1 _ _ (by first | assumption | (simp; done) | (simp; omega) | omega)]; first | assumption | (simp [go_sem]; done)); clear hc1 hf1)
  go_wp2_with fail
  refine (t_check a' b' c' _).mono ?_
  rw [H'.out]
  rintro e w2 ⟨rfl, hb2⟩
  (obtain ⟨hc2, hf2⟩ := Kit.bcell hb2; have hz2_0 : w.heap.size < w2.heap.size := (by have := hb2.size; first | omega | (simp at this; omega)); have hz2_1 : w.heap.size + 1 < w2.heap.size := (by have := hb2.size; first | omega | (simp at this; omega)); have hw2 : Below w.heap.size w w2 := Below.trans (by (repeat' (first | (with_reducible exact Below.refl _ _) | (with_reducible assumption) | (with_reducible refine Kit.below_drewN ?_ _) | (with_reducible refine Below.drew ?_) | (with_reducible refine Below.alloc ?_ ?_ _) | (with_reducible refine Below.setCell ?_ ?_ _) | (with_reducible exact Nat.le_refl _) | omega | (simp; omega) | (simp; done) | (apply Below.size; assumption)))) (hb2.mono (by first | (simp; done) | (simp; omega) | omega)); have gc2_0_0 : w2.cell? ⟨w.heap.size, 0, none⟩ = some (.int .i64 a) := (by rw [hc2 _ _ (by first | assumption | (simp; done) | (simp; omega) | omega)]; first | assumption | (simp [go_sem]; done)); have gf2_0_0 : w2.frozen? ⟨w.heap.size, 0, none⟩ = false := (by rw [hf2 _ _ (by first | assumption | (simp; done) | (simp; omega) | omega)]; first | assumption | (simp [go_sem]; done)); have gc2_0_1 : w2.cell? ⟨w.heap.size, 1, none⟩ = some (.int .i64 b) := (by rw [hc2 _ _ (by first | assumption | (simp; done) | (simp; omega) | omega)]; first | assumption | (simp [go_sem]; done)); have gf2_0_1 : w2.frozen? ⟨w.heap.size, 1, none⟩ = false := (by rw [hf2 _ _ (by first | assumption | (simp; done) | (simp; omega) | omega)]; first | assumption | (simp [go_sem]; done)); have gc2_0_2 : w2.cell? ⟨w.heap.size, 2, none⟩ = some (.int .i64 c) := (by rw [hc2 _ _ (by first | assumption | (simp; done) | (simp; omega) | omega)]; first | assumption | (simp [go_sem]; done)); have gf2_0_2 : w2.frozen? ⟨w.heap.size, 2, none⟩ = false := (by rw [hf2 _ _ (by first | assumption | (simp; done) | (simp; omega) | omega)]; first | assumption | (simp [go_sem]; done)); have gc2_1_0 : w2.cell? ⟨w.heap.size + 1, 0, none⟩ = some (.int .i64 a') := (by rw [hc2 _ _ (by first | assumption | (simp; done) | (simp; omega) | omega)]; first | assumption | (simp [go_sem]; done)); have gf2_1_0 : w2.frozen? ⟨w.heap.size + 1, 0, none⟩ = false := (by rw [hf2 _ _ (by first | assumption | (simp; done) | (simp; omega) | omega)]; first | assumption | (simp [go_sem]; done)); have gc2_1_1 : w2.cell? ⟨w.heap.size + 1, 1, none⟩ = some (.int .i64 b') := (by rw [hc2 _ _ (by first | assumption | (simp; done) | (simp; omega) | omega)]; first | assumption | (simp [go_sem]; done)); have gf2_1_1 : w2.frozen? ⟨w.heap.size + 1, 1, none⟩ = false := (by rw [hf2 _ _ (by first | assumption | (simp; done) | (simp; omega) | omega)]; first | assumption | (simp [go_sem]; done)); have gc2_1_2 : w2.cell? ⟨w.heap.size + 1, 2, none⟩ = some (.int .i64 c') := (by rw [hc2 _ _ (by first | assumption | (simp; done) | (simp; omega) | omega)]; first | assumption | (simp [go_sem]; done)); have gf2_1_2 : w2.frozen? ⟨w.heap.size + 1, 2, none⟩ = false := (by rw [hf2 _ _ (by first | assumption | (simp; done) | (simp; omega) | omega)]; first | assumption | (simp [go_sem]; done)); clear hc2 hf2)
  clear hA hB
  have cc200 : ∀ x : Kit.Wd w2, x.val.cell? ⟨w.heap.size, 0, none⟩ = some (.int .i64 a) := fun x => x.cell gc2_0_0 hz2_0
  have cc201 : ∀ x : Kit.Wd w2, x.val.cell? ⟨w.heap.size, 1, none⟩ = some (.int .i64 b) := fun x => x.cell gc2_0_1 hz2_0
  have cc202 : ∀ x : Kit.Wd w2, x.val.cell? ⟨w.heap.size, 2, none⟩ = some (.int .i64 c) := fun x => x.cell gc2_0_2 hz2_0
  have cc210 : ∀ x : Kit.Wd w2, x.val.cell? ⟨w.heap.size + 1, 0, none⟩ = some (.int .i64 a') := fun x => x.cell gc2_1_0 hz2_1
  have cc211 : ∀ x : Kit.Wd w2, x.val.cell? ⟨w.heap.size + 1, 1, none⟩ = some (.int .i64 b') := fun x => x.cell gc2_1_1 hz2_1
  have cc212 : ∀ x : Kit.Wd w2, x.val.cell? ⟨w.heap.size + 1, 2, none⟩ = some (.int .i64 c') := fun x => x.cell gc2_1_2 hz2_1
  rcases q with q1 | ⟨q1, q2⟩ | ⟨q1, q2, q3⟩
  all_goals
    go_wp2
    refine Kit.wp_region_cls (by kernel_rfl) (by kernel_rfl) ?_
    cases LA <;> cases LB <;> cases x
  all_goals
    (repeat (go_big_quiet_step (first | with_reducible exact Kit.calls_cls _ (la.out _) | with_reducible exact Kit.calls_cls _ (lb.out _))))
    refine wpQuiet_nil ?_
    intro x3
    go_wp2
    try
      (refine Kit.wp_name ?_
       intro W3 hW3
       have bW3 : Below w.heap.size w W3 := by rw [hW3]; exact hw2.trans (x3.below.mono (by omega))
       have cw3_00 : W3.cell? ⟨w.heap.size, 0, none⟩ = some (.int .i64 a) := by rw [hW3]; exact x3.cell gc2_0_0 hz2_0
       have cw3_01 : W3.cell? ⟨w.heap.size, 1, none⟩ = some (.int .i64 b) := by rw [hW3]; exact x3.cell gc2_0_1 hz2_0
       have cw3_02 : W3.cell? ⟨w.heap.size, 2, none⟩ = some (.int .i64 c) := by rw [hW3]; exact x3.cell gc2_0_2 hz2_0
       have cw3_10 : W3.cell? ⟨w.heap.size + 1, 0, none⟩ = some (.int .i64 a') := by rw [hW3]; exact x3.cell gc2_1_0 hz2_1
       have cw3_11 : W3.cell? ⟨w.heap.size + 1, 1, none⟩ = some (.int .i64 b') := by rw [hW3]; exact x3.cell gc2_1_1 hz2_1
       have cw3_12 : W3.cell? ⟨w.heap.size + 1, 2, none⟩ = some (.int .i64 c') := by rw [hW3]; exact x3.cell gc2_1_2 hz2_1
       have z30 : w.heap.size < W3.heap.size := by rw [hW3]; have := x3.below.size; omega
       have z31 : w.heap.size + 1 < W3.heap.size := by rw [hW3]; have := x3.below.size; omega
       have c300 : ∀ x : Kit.Wd W3, x.val.cell? ⟨w.heap.size, 0, none⟩ = some (.int .i64 a) := fun x => x.cell cw3_00 z30
       have c301 : ∀ x : Kit.Wd W3, x.val.cell? ⟨w.heap.size, 1, none⟩ = some (.int .i64 b) := fun x => x.cell cw3_01 z30
       have c302 : ∀ x : Kit.Wd W3, x.val.cell? ⟨w.heap.size, 2, none⟩ = some (.int .i64 c) := fun x => x.cell cw3_02 z30
       have c310 : ∀ x : Kit.Wd W3, x.val.cell? ⟨w.heap.size + 1, 0, none⟩ = some (.int .i64 a') := fun x => x.cell cw3_10 z31
       have c311 : ∀ x : Kit.Wd W3, x.val.cell? ⟨w.heap.size + 1, 1, none⟩ = some (.int .i64 b') := fun x => x.cell cw3_11 z31
       have c312 : ∀ x : Kit.Wd W3, x.val.cell? ⟨w.heap.size + 1, 2, none⟩ = some (.int .i64 c') := fun x => x.cell cw3_12 z31
       clear hW3
       refine Kit.wp_region_cls (by kernel_rfl) (by kernel_rfl) ?_
       (repeat (go_big_quiet_step (first | with_reducible exact Kit.calls_cls _ (la.out _) | with_reducible exact Kit.calls_cls _ (lb.out _))))
       refine wpQuiet_nil ?_
       intro x4
       have hw4 : Below w.heap.size w x4.val := bW3.trans (x4.below.mono (by omega))
       go_wp2)
    have hw3 : Below w.heap.size w x3.val := hw2.trans (x3.below.mono (by omega))
    go_ret2
    exact ⟨rfl, by first | exact hw4 | exact hw3⟩
end Go.Proofs.Ytjkkkdfbfdiidaa
