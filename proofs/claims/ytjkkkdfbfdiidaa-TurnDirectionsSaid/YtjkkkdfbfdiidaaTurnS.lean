/- Walks: the reference's Make, Compose, Inverse. -/
import Derived.Test.YtjkkkdfbfdiidaaTurnR
namespace Go.Proofs.Ytjkkkdfbfdiidaa
set_option linter.unusedVariables false
set_option linter.unusedSimpArgs false
open Go.RowKit

set_option maxHeartbeats 1000000 in
theorem r_make_err (p q : Int) (w : World) (h : p < -127 ∨ q < -127 ∨ 127 < p ∨ 127 < q ∨ (p = 0 ∧ q = 0)) :
    Calls Try.prog 13 #[.int .i64 p, .int .i64 q] w fun e w' => e = .returned (.tuple #[.agg #[.int .i64 0, .int .i64 0, .int .i64 0], .int .i64 1]) ∧ Below w.heap.size w w' := by
  have hh : (decide (p < -127) = true) ∨ (decide (p < -127) = false ∧ decide (127 < p) = true) ∨ (decide (p < -127) = false ∧ decide (127 < p) = false ∧ decide (q < -127) = true) ∨
      (decide (p < -127) = false ∧ decide (127 < p) = false ∧ decide (q < -127) = false ∧ decide (127 < q) = true) ∨
      (decide (p < -127) = false ∧ decide (127 < p) = false ∧ decide (q < -127) = false ∧ decide (127 < q) = false ∧ (p == 0) = true ∧ (q == 0) = true) := by
    simp only [decide_eq_true_iff, decide_eq_false_iff_not, beq_iff_eq]; omega
  clear h
  rcases hh with h1 | ⟨h1, h2⟩ | ⟨h1, h2, h3⟩ | ⟨h1, h2, h3, h4⟩ | ⟨h1, h2, h3, h4, h5, h6⟩
  all_goals
    go_enter Try.func13, Try.ntmps13
    go_wp2
    go_returns
    exact ⟨rfl, by (repeat' (first | (with_reducible exact Below.refl _ _) | (with_reducible assumption) | (with_reducible refine Kit.below_drewN ?_ _) | (with_reducible refine Below.drew ?_) | (with_reducible refine Below.alloc ?_ ?_ _) | (with_reducible refine Below.setCell ?_ ?_ _) | (with_reducible exact Nat.le_refl _) | omega | (simp; omega) | (simp; done) | (apply Below.size; assumption)))⟩
set_option maxHeartbeats 1000000 in
theorem r_make_ok (p q d : Int) (w : World) (h1 : -127 ≤ p) (h2 : -127 ≤ q) (h3 : p ≤ 127) (h4 : q ≤ 127) (h5 : ¬(p = 0 ∧ q = 0)) (hd : 1 ≤ d) (HD : Hid (Tm.g3 (p * p - q * q) (2 * p * q) (p * p + q * q) = d)) :
    Calls Try.prog 13 #[.int .i64 p, .int .i64 q] w fun e w' => e = .returned (.tuple #[.agg #[.int .i64 ((p * p - q * q).tdiv d), .int .i64 ((2 * p * q).tdiv d), .int .i64 ((p * p + q * q).tdiv d)], .int .i64 0]) ∧ Below w.heap.size w w' := by
  have d1 : decide (p < -127) = false := by simp; omega
  have d2 : decide (127 < p) = false := by simp; omega
  have d3 : decide (q < -127) = false := by simp; omega
  have d4 : decide (127 < q) = false := by simp; omega
  have sp := Tm.sq_nat p 127 (by omega)
  have sq := Tm.sq_nat q 127 (by omega)
  have spq := Tm.mul_nat (2 * p) q 254 127 (by omega) (by omega)
  obtain ⟨a1, a2⟩ := sp; obtain ⟨a3, a4⟩ := sq; obtain ⟨a5, a6⟩ := spq
  simp only [Nat.reduceMul] at a2 a4 a5 a6
  have ma : Hid (Tm.Mod (p * p - q * q)) := by show Tm.Mod _; unfold Tm.Mod; omega
  have mb : Hid (Tm.Mod (2 * p * q)) := by show Tm.Mod _; unfold Tm.Mod; omega
  have mc : Hid (Tm.Mod (p * p + q * q)) := by show Tm.Mod _; unfold Tm.Mod; omega
  have hc0 : 0 ≤ p * p + q * q := by omega
  have fin : ∀ p0 q0 : Bool, (p == 0) = p0 → (q == 0) = q0 → (p0 && q0) = false → Calls Try.prog 13 #[.int .i64 p, .int .i64 q] w fun e w' => e = .returned (.tuple #[.agg #[.int .i64 ((p * p - q * q).tdiv d), .int .i64 ((2 * p * q).tdiv d), .int .i64 ((p * p + q * q).tdiv d)], .int .i64 0]) ∧ Below w.heap.size w w' := by
    intro p0 q0 e0 e1 h
    clear h5
    cases p0 <;> cases q0
    all_goals first | (cases h; done) | skip
    all_goals clear h
    all_goals
      go_enter Try.func13, Try.ntmps13
      go_wp2_with fail
      refine (r_reduced_d _ _ _ d _ ma.out mb.out mc.out hc0 hd HD).mono ?_
      rintro e w1 ⟨rfl, hb1⟩
      (obtain ⟨hc1, hf1⟩ := Kit.bcell hb1; have hz1_0 : w.heap.size < w1.heap.size := (by have := hb1.size; first | omega | (simp at this; omega)); have hw1 : Below w.heap.size w w1 := Below.trans (by (repeat' (first | (with_reducible exact Below.refl _ _) | (with_reducible assumption) | (with_reducible refine Kit.below_drewN ?_ _) | (with_reducible refine Below.drew ?_) | (with_reducible refine Below.alloc ?_ ?_ _) | (with_reducible refine Below.setCell ?_ ?_ _) | (with_reducible exact Nat.le_refl _) | omega | (simp; omega) | (simp; done) | (apply Below.size; assumption)))) (hb1.mono (by first | (simp; done) | (simp; omega) | omega)); have gc1_0_0 : w1.cell? ⟨w.heap.size, 0, none⟩ = some (.int .i64 0) := (by rw [hc1 _ _ (by first | assumption | (simp; done) | (simp; omega) | omega)]; first | assumption | (simp [go_sem]; done)); have gf1_0_0 : w1.frozen? ⟨w.heap.size, 0, none⟩ = false := (by rw [hf1 _ _ (by first | assumption | (simp; done) | (simp; omega) | omega)]; first | assumption | (simp [go_sem]; done)); have gc1_0_1 : w1.cell? ⟨w.heap.size, 1, none⟩ = some (.int .i64 0) := (by rw [hc1 _ _ (by first | assumption | (simp; done) | (simp; omega) | omega)]; first | assumption | (simp [go_sem]; done)); have gf1_0_1 : w1.frozen? ⟨w.heap.size, 1, none⟩ = false := (by rw [hf1 _ _ (by first | assumption | (simp; done) | (simp; omega) | omega)]; first | assumption | (simp [go_sem]; done)); have gc1_0_2 : w1.cell? ⟨w.heap.size, 2, none⟩ = some (.int .i64 0) := (by rw [hc1 _ _ (by first | assumption | (simp; done) | (simp; omega) | omega)]; first | assumption | (simp [go_sem]; done)); have gf1_0_2 : w1.frozen? ⟨w.heap.size, 2, none⟩ = false := (by rw [hf1 _ _ (by first | assumption | (simp; done) | (simp; omega) | omega)]; first | assumption | (simp [go_sem]; done)); clear hc1 hf1)
      go_wp2
      (refine bodyPost_ret (by simp [results, Try.results13, go_sem, Kit.cell_set, gc1_0_0, gc1_0_1, gc1_0_2]; try rfl) rfl ?_)
      exact ⟨rfl, by (repeat' (first | (with_reducible exact Below.refl _ _) | (with_reducible assumption) | (with_reducible refine Kit.below_drewN ?_ _) | (with_reducible refine Below.drew ?_) | (with_reducible refine Below.alloc ?_ ?_ _) | (with_reducible refine Below.setCell ?_ ?_ _) | (with_reducible exact Nat.le_refl _) | omega | (simp; omega) | (simp; done) | (apply Below.size; assumption)))⟩
  exact fin _ _ rfl rfl (by rw [Bool.and_eq_false_iff]; simp only [beq_eq_false_iff_ne]; omega)

set_option maxHeartbeats 1000000 in
theorem r_inverse_no (a b c : Int) (w : World) (h : Tm.vld a b c = false) :
    Calls Try.prog 23 #[.agg #[.int .i64 a, .int .i64 b, .int .i64 c]] w fun e w' => e = .returned (.tuple #[.agg #[.int .i64 0, .int .i64 0, .int .i64 0], .int .i64 140]) ∧ Below w.heap.size w w' := by
  have H := Lib.hid h; clear h
  go_enter Try.func23, Try.ntmps23
  go_wp2_with fail
  refine (r_check a b c _).mono ?_
  rw [H.out]
  rintro e w1 ⟨rfl, hb1⟩
  (obtain ⟨hc1, hf1⟩ := Kit.bcell hb1; have hz1_0 : w.heap.size < w1.heap.size := (by have := hb1.size; first | omega | (simp at this; omega)); have hz1_1 : w.heap.size + 1 < w1.heap.size := (by have := hb1.size; first | omega | (simp at this; omega)); have hw1 : Below w.heap.size w w1 := Below.trans (by (repeat' (first | (with_reducible exact Below.refl _ _) | (with_reducible assumption) | (with_reducible refine Kit.below_drewN ?_ _) | (with_reducible refine Below.drew ?_) | (with_reducible refine Below.alloc ?_ ?_ _) | (with_reducible refine Below.setCell ?_ ?_ _) | (with_reducible exact Nat.le_refl _) | omega | (simp; omega) | (simp; done) | (apply Below.size; assumption)))) (hb1.mono (by first | (simp; done) | (simp; omega) | omega)); have gc1_0_0 : w1.cell? ⟨w.heap.size, 0, none⟩ = some (.int .i64 a) := (by rw [hc1 _ _ (by first | assumption | (simp; done) | (simp; omega) | omega)]; first | assumption | (simp [go_sem]; done)); have gf1_0_0 : w1.frozen? ⟨w.heap.size, 0, none⟩ = false := (by rw [hf1 _ _ (by first | assumption | (simp; done) | (simp; omega) | omega)]; first | assumption | (simp [go_sem]; done)); have gc1_0_1 : w1.cell? ⟨w.heap.size, 1, none⟩ = some (.int .i64 b) := (by rw [hc1 _ _ (by first | assumption | (simp; done) | (simp; omega) | omega)]; first | assumption | (simp [go_sem]; done)); have gf1_0_1 : w1.frozen? ⟨w.heap.size, 1, none⟩ = false := (by rw [hf1 _ _ (by first | assumption | (simp; done) | (simp; omega) | omega)]; first | assumption | (simp [go_sem]; done)); have gc1_0_2 : w1.cell? ⟨w.heap.size, 2, none⟩ = some (.int .i64 c) := (by rw [hc1 _ _ (by first | assumption | (simp; done) | (simp; omega) | omega)]; first | assumption | (simp [go_sem]; done)); have gf1_0_2 : w1.frozen? ⟨w.heap.size, 2, none⟩ = false := (by rw [hf1 _ _ (by first | assumption | (simp; done) | (simp; omega) | omega)]; first | assumption | (simp [go_sem]; done)); have gc1_1_0 : w1.cell? ⟨w.heap.size + 1, 0, none⟩ = some (.int .i64 0) := (by rw [hc1 _ _ (by first | assumption | (simp; done) | (simp; omega) | omega)]; first | assumption | (simp [go_sem]; done)); have gf1_1_0 : w1.frozen? ⟨w.heap.size + 1, 0, none⟩ = false := (by rw [hf1 _ _ (by first | assumption | (simp; done) | (simp; omega) | omega)]; first | assumption | (simp [go_sem]; done)); have gc1_1_1 : w1.cell? ⟨w.heap.size + 1, 1, none⟩ = some (.int .i64 0) := (by rw [hc1 _ _ (by first | assumption | (simp; done) | (simp; omega) | omega)]; first | assumption | (simp [go_sem]; done)); have gf1_1_1 : w1.frozen? ⟨w.heap.size + 1, 1, none⟩ = false := (by rw [hf1 _ _ (by first | assumption | (simp; done) | (simp; omega) | omega)]; first | assumption | (simp [go_sem]; done)); have gc1_1_2 : w1.cell? ⟨w.heap.size + 1, 2, none⟩ = some (.int .i64 0) := (by rw [hc1 _ _ (by first | assumption | (simp; done) | (simp; omega) | omega)]; first | assumption | (simp [go_sem]; done)); have gf1_1_2 : w1.frozen? ⟨w.heap.size + 1, 2, none⟩ = false := (by rw [hf1 _ _ (by first | assumption | (simp; done) | (simp; omega) | omega)]; first | assumption | (simp [go_sem]; done)); clear hc1 hf1)
  go_wp2
  (refine bodyPost_ret (by simp [results, Try.results23, go_sem, Kit.cell_set, gc1_1_0, gc1_1_1, gc1_1_2]; try rfl) rfl ?_)
  exact ⟨rfl, by (repeat' (first | (with_reducible exact Below.refl _ _) | (with_reducible assumption) | (with_reducible refine Kit.below_drewN ?_ _) | (with_reducible refine Below.drew ?_) | (with_reducible refine Below.alloc ?_ ?_ _) | (with_reducible refine Below.setCell ?_ ?_ _) | (with_reducible exact Nat.le_refl _) | omega | (simp; omega) | (simp; done) | (apply Below.size; assumption)))⟩
set_option maxHeartbeats 1000000 in
theorem r_inverse_ok (a b c : Int) (w : World) (h : Tm.vld a b c = true) :
    Calls Try.prog 23 #[.agg #[.int .i64 a, .int .i64 b, .int .i64 c]] w fun e w' => e = .returned (.tuple #[.agg #[.int .i64 a, .int .i64 (-b), .int .i64 c], .int .i64 0]) ∧ Below w.heap.size w w' := by
  have k := (Tm.vld_iff a b c).1 h
  obtain ⟨k1, k2, k3, k4, k5, k6, _, _⟩ := k
  have H := Lib.hid h; clear h
  go_enter Try.func23, Try.ntmps23
  go_wp2_with fail
  refine (r_check a b c _).mono ?_
  rw [H.out]
  rintro e w1 ⟨rfl, hb1⟩
  (obtain ⟨hc1, hf1⟩ := Kit.bcell hb1; have hz1_0 : w.heap.size < w1.heap.size := (by have := hb1.size; first | omega | (simp at this; omega)); have hz1_1 : w.heap.size + 1 < w1.heap.size := (by have := hb1.size; first | omega | (simp at this; omega)); have hw1 : Below w.heap.size w w1 := Below.trans (by (repeat' (first | (with_reducible exact Below.refl _ _) | (with_reducible assumption) | (with_reducible refine Kit.below_drewN ?_ _) | (with_reducible refine Below.drew ?_) | (with_reducible refine Below.alloc ?_ ?_ _) | (with_reducible refine Below.setCell ?_ ?_ _) | (with_reducible exact Nat.le_refl _) | omega | (simp; omega) | (simp; done) | (apply Below.size; assumption)))) (hb1.mono (by first | (simp; done) | (simp; omega) | omega)); have gc1_0_0 : w1.cell? ⟨w.heap.size, 0, none⟩ = some (.int .i64 a) := (by rw [hc1 _ _ (by first | assumption | (simp; done) | (simp; omega) | omega)]; first | assumption | (simp [go_sem]; done)); have gf1_0_0 : w1.frozen? ⟨w.heap.size, 0, none⟩ = false := (by rw [hf1 _ _ (by first | assumption | (simp; done) | (simp; omega) | omega)]; first | assumption | (simp [go_sem]; done)); have gc1_0_1 : w1.cell? ⟨w.heap.size, 1, none⟩ = some (.int .i64 b) := (by rw [hc1 _ _ (by first | assumption | (simp; done) | (simp; omega) | omega)]; first | assumption | (simp [go_sem]; done)); have gf1_0_1 : w1.frozen? ⟨w.heap.size, 1, none⟩ = false := (by rw [hf1 _ _ (by first | assumption | (simp; done) | (simp; omega) | omega)]; first | assumption | (simp [go_sem]; done)); have gc1_0_2 : w1.cell? ⟨w.heap.size, 2, none⟩ = some (.int .i64 c) := (by rw [hc1 _ _ (by first | assumption | (simp; done) | (simp; omega) | omega)]; first | assumption | (simp [go_sem]; done)); have gf1_0_2 : w1.frozen? ⟨w.heap.size, 2, none⟩ = false := (by rw [hf1 _ _ (by first | assumption | (simp; done) | (simp; omega) | omega)]; first | assumption | (simp [go_sem]; done)); have gc1_1_0 : w1.cell? ⟨w.heap.size + 1, 0, none⟩ = some (.int .i64 0) := (by rw [hc1 _ _ (by first | assumption | (simp; done) | (simp; omega) | omega)]; first | assumption | (simp [go_sem]; done)); have gf1_1_0 : w1.frozen? ⟨w.heap.size + 1, 0, none⟩ = false := (by rw [hf1 _ _ (by first | assumption | (simp; done) | (simp; omega) | omega)]; first | assumption | (simp [go_sem]; done)); have gc1_1_1 : w1.cell? ⟨w.heap.size + 1, 1, none⟩ = some (.int .i64 0) := (by rw [hc1 _ _ (by first | assumption | (simp; done) | (simp; omega) | omega)]; first | assumption | (simp [go_sem]; done)); have gf1_1_1 : w1.frozen? ⟨w.heap.size + 1, 1, none⟩ = false := (by rw [hf1 _ _ (by first | assumption | (simp; done) | (simp; omega) | omega)]; first | assumption | (simp [go_sem]; done)); have gc1_1_2 : w1.cell? ⟨w.heap.size + 1, 2, none⟩ = some (.int .i64 0) := (by rw [hc1 _ _ (by first | assumption | (simp; done) | (simp; omega) | omega)]; first | assumption | (simp [go_sem]; done)); have gf1_1_2 : w1.frozen? ⟨w.heap.size + 1, 2, none⟩ = false := (by rw [hf1 _ _ (by first | assumption | (simp; done) | (simp; omega) | omega)]; first | assumption | (simp [go_sem]; done)); clear hc1 hf1)
  go_wp2
  (refine bodyPost_ret (by simp [results, Try.results23, go_sem, Kit.cell_set, gc1_1_0, gc1_1_1, gc1_1_2]; try rfl) rfl ?_)
  exact ⟨rfl, by (repeat' (first | (with_reducible exact Below.refl _ _) | (with_reducible assumption) | (with_reducible refine Kit.below_drewN ?_ _) | (with_reducible refine Below.drew ?_) | (with_reducible refine Below.alloc ?_ ?_ _) | (with_reducible refine Below.setCell ?_ ?_ _) | (with_reducible exact Nat.le_refl _) | omega | (simp; omega) | (simp; done) | (apply Below.size; assumption)))⟩

def RCompose (a b c a' b' c' : Int) (w : World) (x y z e : Int) : Prop :=
  Calls Try.prog 21 #[.agg #[.int .i64 a, .int .i64 b, .int .i64 c], .agg #[.int .i64 a', .int .i64 b', .int .i64 c']] w fun r w' =>
    r = .returned (.tuple #[.agg #[.int .i64 x, .int .i64 y, .int .i64 z], .int .i64 e]) ∧ Below w.heap.size w w'
end Go.Proofs.Ytjkkkdfbfdiidaa
