/- Walks: the references of layers 15 and 29: Join, Valid, Place, Path. -/
import Derived.Test.YtjoieglhmladhaaDoorRfD
import Derived.Test.YtjoieglhmladhaaDoorApE
namespace Go.Proofs.YtjoieglhmladhaaDoor
set_option linter.unusedVariables false
set_option linter.unusedSimpArgs false
open Go.RowKit Go.Shelf

theorem rf_shift (a b c d p q : Int) (w : World) : Calls Tryd.prog 67 #[Sp.boxV a b c d, .int .i64 p, .int .i64 q] w fun e w' => e = .returned (.tuple #[Sp.boxV (Sp.shR a b c d p q).1 (Sp.shR a b c d p q).2.1 (Sp.shR a b c d p q).2.2.1 (Sp.shR a b c d p q).2.2.2.1, .int .i64 (Sp.shR a b c d p q).2.2.2.2]) ∧ Below w.heap.size w w' := by
  rcases h : Sp.okBox a b c d with _ | _
  · have e : Sp.shR a b c d p q = (0, 0, 0, 0, 150) := by unfold Sp.shR; rw [if_neg (by simp [h])]
    rw [e]; exact rf_shift_1 a b c d p q w h
  · exact rf_shift_2 a b c d p q w h

def Rf.JoinIs (a b c d a' b' c' d' : Int) (w : World) (r : Sp.BE) : Prop :=
  Calls Tryd.prog 42 #[Sp.boxV a b c d, Sp.boxV a' b' c' d'] w fun e w' => e = .returned (.tuple #[Sp.boxV r.1 r.2.1 r.2.2.1 r.2.2.2.1, .int .i64 r.2.2.2.2]) ∧ Below w.heap.size w w'

set_option maxHeartbeats 1000000 in
theorem rf_join_1 (a b c d a' b' c' d' : Int) (w : World) (p q : Bool) (h : Sp.okBox a b c d = p) (h' : Sp.okBox a' b' c' d' = q) (hpq : (p && q) = false) : Rf.JoinIs a b c d a' b' c' d' w (0, 0, 0, 0, 150) := by
  unfold Rf.JoinIs
  have H := Lib.hid h; clear h
  have H' := Lib.hid h'; clear h'
  cases p
  · clear hpq
    go_enter Tryd.func42, Tryd.ntmps42
    skip
    (go_wp2_with (fail); refine (rf_valid a b c d _).mono ?_; rintro e w1_ ⟨rfl, hb1_⟩; have hp1_ : Below w.heap.size w w1_ := Below.trans (by (repeat' first | (with_reducible first | exact Below.refl _ _ | assumption | refine Kit.below_drewN ?_ _ | refine Below.drew ?_ | refine Below.alloc ?_ ?_ _ | refine Below.setCell ?_ ?_ _ | exact Nat.le_refl _) | omega | (simp; omega) | (simp; done) | (apply Below.size; assumption))) (hb1_.mono (by first | assumption | (simp; done) | (simp; omega) | omega)); have hw1_ : Below w.heap.size w w1_ := hp1_; obtain ⟨hc1_, hf1_⟩ := Kit.bcell hb1_; have z1_w : w.heap.size < w1_.heap.size := (by have := hb1_.size; first | omega | (simp at this; omega)); obtain ⟨g1_w_0, g1_w_1, g1_w_2, g1_w_3⟩ : w1_.cell? ⟨w.heap.size, 0, none⟩ = some (.int .i64 a) ∧ w1_.cell? ⟨w.heap.size, 1, none⟩ = some (.int .i64 b) ∧ w1_.cell? ⟨w.heap.size, 2, none⟩ = some (.int .i64 c) ∧ w1_.cell? ⟨w.heap.size, 3, none⟩ = some (.int .i64 d) := (by refine ⟨?_, ?_, ?_, ?_⟩ <;> (rw [hc1_ _ _ (by first | assumption | (simp; done) | (simp; omega) | omega)]; first | assumption | (simp [go_sem]; done) | (simp [go_sem, *]; done))); have z1_w_1 : w.heap.size + 1 < w1_.heap.size := (by have := hb1_.size; first | omega | (simp at this; omega)); obtain ⟨g1_w_1_0, g1_w_1_1, g1_w_1_2, g1_w_1_3⟩ : w1_.cell? ⟨w.heap.size + 1, 0, none⟩ = some (.int .i64 a') ∧ w1_.cell? ⟨w.heap.size + 1, 1, none⟩ = some (.int .i64 b') ∧ w1_.cell? ⟨w.heap.size + 1, 2, none⟩ = some (.int .i64 c') ∧ w1_.cell? ⟨w.heap.size + 1, 3, none⟩ = some (.int .i64 d') := (by refine ⟨?_, ?_, ?_, ?_⟩ <;> (rw [hc1_ _ _ (by first | assumption | (simp; done) | (simp; omega) | omega)]; first | assumption | (simp [go_sem]; done) | (simp [go_sem, *]; done))); have z1_w_1_1 : w.heap.size + 1 + 1 < w1_.heap.size := (by have := hb1_.size; first | omega | (simp at this; omega)); obtain ⟨g1_w_1_1_0, g1_w_1_1_1, g1_w_1_1_2, g1_w_1_1_3⟩ : w1_.cell? ⟨w.heap.size + 1 + 1, 0, none⟩ = some (.int .i64 0) ∧ w1_.cell? ⟨w.heap.size + 1 + 1, 1, none⟩ = some (.int .i64 0) ∧ w1_.cell? ⟨w.heap.size + 1 + 1, 2, none⟩ = some (.int .i64 0) ∧ w1_.cell? ⟨w.heap.size + 1 + 1, 3, none⟩ = some (.int .i64 0) := (by refine ⟨?_, ?_, ?_, ?_⟩ <;> (rw [hc1_ _ _ (by first | assumption | (simp; done) | (simp; omega) | omega)]; first | assumption | (simp [go_sem]; done) | (simp [go_sem, *]; done))); have f1_w_1_1_0 : w1_.frozen? ⟨w.heap.size + 1 + 1, 0, none⟩ = false := (by rw [hf1_ _ _ (by first | assumption | (simp; done) | (simp; omega) | omega)]; first | assumption | (simp [go_sem]; done) | (simp [go_sem, *]; done)); have f1_w_1_1_1 : w1_.frozen? ⟨w.heap.size + 1 + 1, 1, none⟩ = false := (by rw [hf1_ _ _ (by first | assumption | (simp; done) | (simp; omega) | omega)]; first | assumption | (simp [go_sem]; done) | (simp [go_sem, *]; done)); have f1_w_1_1_2 : w1_.frozen? ⟨w.heap.size + 1 + 1, 2, none⟩ = false := (by rw [hf1_ _ _ (by first | assumption | (simp; done) | (simp; omega) | omega)]; first | assumption | (simp [go_sem]; done) | (simp [go_sem, *]; done)); have f1_w_1_1_3 : w1_.frozen? ⟨w.heap.size + 1 + 1, 3, none⟩ = false := (by rw [hf1_ _ _ (by first | assumption | (simp; done) | (simp; omega) | omega)]; first | assumption | (simp [go_sem]; done) | (simp [go_sem, *]; done)); clear hc1_ hf1_; clear hb1_ hp1_)
    rw [H.out]
    go_wp2
    (refine bodyPost_ret (by simp [results, Tryd.results42, go_sem, Kit.cell_set, g1_w_1_1_0, g1_w_1_1_1, g1_w_1_1_2, g1_w_1_1_3, z1_w_1_1]; try rfl) rfl ?_)
    exact ⟨rfl, by (repeat' first | (with_reducible first | exact Below.refl _ _ | assumption | refine Kit.below_drewN ?_ _ | refine Below.drew ?_ | refine Below.alloc ?_ ?_ _ | refine Below.setCell ?_ ?_ _ | exact Nat.le_refl _) | omega | (simp; omega) | (simp; done) | (apply Below.size; assumption))⟩
  · cases q
    · clear hpq
      go_enter Tryd.func42, Tryd.ntmps42
      skip
      (go_wp2_with (fail); refine (rf_valid a b c d _).mono ?_; rintro e w1_ ⟨rfl, hb1_⟩; have hp1_ : Below w.heap.size w w1_ := Below.trans (by (repeat' first | (with_reducible first | exact Below.refl _ _ | assumption | refine Kit.below_drewN ?_ _ | refine Below.drew ?_ | refine Below.alloc ?_ ?_ _ | refine Below.setCell ?_ ?_ _ | exact Nat.le_refl _) | omega | (simp; omega) | (simp; done) | (apply Below.size; assumption))) (hb1_.mono (by first | assumption | (simp; done) | (simp; omega) | omega)); have hw1_ : Below w.heap.size w w1_ := hp1_; obtain ⟨hc1_, hf1_⟩ := Kit.bcell hb1_; have z1_w : w.heap.size < w1_.heap.size := (by have := hb1_.size; first | omega | (simp at this; omega)); obtain ⟨g1_w_0, g1_w_1, g1_w_2, g1_w_3⟩ : w1_.cell? ⟨w.heap.size, 0, none⟩ = some (.int .i64 a) ∧ w1_.cell? ⟨w.heap.size, 1, none⟩ = some (.int .i64 b) ∧ w1_.cell? ⟨w.heap.size, 2, none⟩ = some (.int .i64 c) ∧ w1_.cell? ⟨w.heap.size, 3, none⟩ = some (.int .i64 d) := (by refine ⟨?_, ?_, ?_, ?_⟩ <;> (rw [hc1_ _ _ (by first | assumption | (simp; done) | (simp; omega) | omega)]; first | assumption | (simp [go_sem]; done) | (simp [go_sem, *]; done))); have z1_w_1 : w.heap.size + 1 < w1_.heap.size := (by have := hb1_.size; first | omega | (simp at this; omega)); obtain ⟨g1_w_1_0, g1_w_1_1, g1_w_1_2, g1_w_1_3⟩ : w1_.cell? ⟨w.heap.size + 1, 0, none⟩ = some (.int .i64 a') ∧ w1_.cell? ⟨w.heap.size + 1, 1, none⟩ = some (.int .i64 b') ∧ w1_.cell? ⟨w.heap.size + 1, 2, none⟩ = some (.int .i64 c') ∧ w1_.cell? ⟨w.heap.size + 1, 3, none⟩ = some (.int .i64 d') := (by refine ⟨?_, ?_, ?_, ?_⟩ <;> (rw [hc1_ _ _ (by first | assumption | (simp; done) | (simp; omega) | omega)]; first | assumption | (simp [go_sem]; done) | (simp [go_sem, *]; done))); have z1_w_1_1 : w.heap.size + 1 + 1 < w1_.heap.size := (by have := hb1_.size; first | omega | (simp at this; omega)); obtain ⟨g1_w_1_1_0, g1_w_1_1_1, g1_w_1_1_2, g1_w_1_1_3⟩ : w1_.cell? ⟨w.heap.size + 1 + 1, 0, none⟩ = some (.int .i64 0) ∧ w1_.cell? ⟨w.heap.size + 1 + 1, 1, none⟩ = some (.int .i64 0) ∧ w1_.cell? ⟨w.heap.size + 1 + 1, 2, none⟩ = some (.int .i64 0) ∧ w1_.cell? ⟨w.heap.size + 1 + 1, 3, none⟩ = some (.int .i64 0) := (by refine ⟨?_, ?_, ?_, ?_⟩ <;> (rw [hc1_ _ _ (by first | assumption | (simp; done) | (simp; omega) | omega)]; first | assumption | (simp [go_sem]; done) | (simp [go_sem, *]; done))); have f1_w_1_1_0 : w1_.frozen? ⟨w.heap.size + 1 + 1, 0, none⟩ = false := (by rw [hf1_ _ _ (by first | assumption | (simp; done) | (simp; omega) | omega)]; first | assumption | (simp [go_sem]; done) | (simp [go_sem, *]; done)); have f1_w_1_1_1 : w1_.frozen? ⟨w.heap.size + 1 + 1, 1, none⟩ = false := (by rw [hf1_ _ _ (by first | assumption | (simp; done) | (simp; omega) | omega)]; first | assumption | (simp [go_sem]; done) | (simp [go_sem, *]; done)); have f1_w_1_1_2 : w1_.frozen? ⟨w.heap.size + 1 + 1, 2, none⟩ = false := (by rw [hf1_ _ _ (by first | assumption | (simp; done) | (simp; omega) | omega)]; first | assumption | (simp [go_sem]; done) | (simp [go_sem, *]; done)); have f1_w_1_1_3 : w1_.frozen? ⟨w.heap.size + 1 + 1, 3, none⟩ = false := (by rw [hf1_ _ _ (by first | assumption | (simp; done) | (simp; omega) | omega)]; first | assumption | (simp [go_sem]; done) | (simp [go_sem, *]; done)); clear hc1_ hf1_; clear hb1_ hp1_)
      rw [H.out]
      (go_wp2_with (fail); refine (rf_valid a' b' c' d' _).mono ?_; rintro e w2_ ⟨rfl, hb2_⟩; have hp2_ : Below w1_.heap.size w1_ w2_ := Below.trans (by (repeat' first | (with_reducible first | exact Below.refl _ _ | assumption | refine Kit.below_drewN ?_ _ | refine Below.drew ?_ | refine Below.alloc ?_ ?_ _ | refine Below.setCell ?_ ?_ _ | exact Nat.le_refl _) | omega | (simp; omega) | (simp; done) | (apply Below.size; assumption))) (hb2_.mono (by first | assumption | (simp; done) | (simp; omega) | omega)); have hw2_ : Below w.heap.size w w2_ := hw1_.trans (hp2_.mono hw1_.size); have z2_w : w.heap.size < w2_.heap.size := Nat.lt_of_lt_of_le z1_w hp2_.size; have g2_w_0 := Kit.ck hp2_ g1_w_0 z1_w; have g2_w_1 := Kit.ck hp2_ g1_w_1 z1_w; have g2_w_2 := Kit.ck hp2_ g1_w_2 z1_w; have g2_w_3 := Kit.ck hp2_ g1_w_3 z1_w; have z2_w_1 : w.heap.size + 1 < w2_.heap.size := Nat.lt_of_lt_of_le z1_w_1 hp2_.size; have g2_w_1_0 := Kit.ck hp2_ g1_w_1_0 z1_w_1; have g2_w_1_1 := Kit.ck hp2_ g1_w_1_1 z1_w_1; have g2_w_1_2 := Kit.ck hp2_ g1_w_1_2 z1_w_1; have g2_w_1_3 := Kit.ck hp2_ g1_w_1_3 z1_w_1; have z2_w_1_1 : w.heap.size + 1 + 1 < w2_.heap.size := Nat.lt_of_lt_of_le z1_w_1_1 hp2_.size; have g2_w_1_1_0 := Kit.ck hp2_ g1_w_1_1_0 z1_w_1_1; have f2_w_1_1_0 := Kit.fk hp2_ f1_w_1_1_0 z1_w_1_1; have g2_w_1_1_1 := Kit.ck hp2_ g1_w_1_1_1 z1_w_1_1; have f2_w_1_1_1 := Kit.fk hp2_ f1_w_1_1_1 z1_w_1_1; have g2_w_1_1_2 := Kit.ck hp2_ g1_w_1_1_2 z1_w_1_1; have f2_w_1_1_2 := Kit.fk hp2_ f1_w_1_1_2 z1_w_1_1; have g2_w_1_1_3 := Kit.ck hp2_ g1_w_1_1_3 z1_w_1_1; have f2_w_1_1_3 := Kit.fk hp2_ f1_w_1_1_3 z1_w_1_1; clear z1_w g1_w_0 g1_w_1 g1_w_2 g1_w_3 z1_w_1 g1_w_1_0 g1_w_1_1 g1_w_1_2 g1_w_1_3 z1_w_1_1 g1_w_1_1_0 f1_w_1_1_0 g1_w_1_1_1 f1_w_1_1_1 g1_w_1_1_2 f1_w_1_1_2 g1_w_1_1_3 f1_w_1_1_3 hw1_ hb2_ hp2_)
      rw [H'.out]
      go_wp2
      (refine bodyPost_ret (by simp [results, Tryd.results42, go_sem, Kit.cell_set, g2_w_1_1_0, g2_w_1_1_1, g2_w_1_1_2, g2_w_1_1_3, z2_w_1_1]; try rfl) rfl ?_)
      exact ⟨rfl, by (repeat' first | (with_reducible first | exact Below.refl _ _ | assumption | refine Kit.below_drewN ?_ _ | refine Below.drew ?_ | refine Below.alloc ?_ ?_ _ | refine Below.setCell ?_ ?_ _ | exact Nat.le_refl _) | omega | (simp; omega) | (simp; done) | (apply Below.size; assumption))⟩
    · simp at hpq

set_option maxRecDepth 100000 in
set_option maxHeartbeats 1000000 in
theorem rf_join_3 (a b c d a' b' c' d' : Int) (w : World) (h : Sp.okBox a b c d = true) (h' : Sp.okBox a' b' c' d' = true) :
    Rf.JoinIs a b c d a' b' c' d' w (Kit.mn2 a a', Kit.mx2 b b', Kit.mn2 c c', Kit.mx2 d d', 0) := by
  unfold Rf.JoinIs
  have H := Lib.hid h; clear h
  have H' := Lib.hid h'; clear h'
  go_enter Tryd.func42, Tryd.ntmps42
  skip
  (go_wp2_with (fail); refine (rf_valid a b c d _).mono ?_; rintro e w1_ ⟨rfl, hb1_⟩; have hp1_ : Below w.heap.size w w1_ := Below.trans (by (repeat' first | (with_reducible first | exact Below.refl _ _ | assumption | refine Kit.below_drewN ?_ _ | refine Below.drew ?_ | refine Below.alloc ?_ ?_ _ | refine Below.setCell ?_ ?_ _ | exact Nat.le_refl _) | omega | (simp; omega) | (simp; done) | (apply Below.size; assumption))) (hb1_.mono (by first | assumption | (simp; done) | (simp; omega) | omega)); have hw1_ : Below w.heap.size w w1_ := hp1_; obtain ⟨hc1_, hf1_⟩ := Kit.bcell hb1_; have z1_w : w.heap.size < w1_.heap.size := (by have := hb1_.size; first | omega | (simp at this; omega)); obtain ⟨g1_w_0, g1_w_1, g1_w_2, g1_w_3⟩ : w1_.cell? ⟨w.heap.size, 0, none⟩ = some (.int .i64 a) ∧ w1_.cell? ⟨w.heap.size, 1, none⟩ = some (.int .i64 b) ∧ w1_.cell? ⟨w.heap.size, 2, none⟩ = some (.int .i64 c) ∧ w1_.cell? ⟨w.heap.size, 3, none⟩ = some (.int .i64 d) := (by refine ⟨?_, ?_, ?_, ?_⟩ <;> (rw [hc1_ _ _ (by first | assumption | (simp; done) | (simp; omega) | omega)]; first | assumption | (simp [go_sem]; done) | (simp [go_sem, *]; done))); have z1_w_1 : w.heap.size + 1 < w1_.heap.size := (by have := hb1_.size; first | omega | (simp at this; omega)); obtain ⟨g1_w_1_0, g1_w_1_1, g1_w_1_2, g1_w_1_3⟩ : w1_.cell? ⟨w.heap.size + 1, 0, none⟩ = some (.int .i64 a') ∧ w1_.cell? ⟨w.heap.size + 1, 1, none⟩ = some (.int .i64 b') ∧ w1_.cell? ⟨w.heap.size + 1, 2, none⟩ = some (.int .i64 c') ∧ w1_.cell? ⟨w.heap.size + 1, 3, none⟩ = some (.int .i64 d') := (by refine ⟨?_, ?_, ?_, ?_⟩ <;> (rw [hc1_ _ _ (by first | assumption | (simp; done) | (simp; omega) | omega)]; first | assumption | (simp [go_sem]; done) | (simp [go_sem, *]; done))); have z1_w_1_1 : w.heap.size + 1 + 1 < w1_.heap.size := (by have := hb1_.size; first | omega | (simp at this; omega)); obtain ⟨g1_w_1_1_0, g1_w_1_1_1, g1_w_1_1_2, g1_w_1_1_3⟩ : w1_.cell? ⟨w.heap.size + 1 + 1, 0, none⟩ = some (.int .i64 0) ∧ w1_.cell? ⟨w.heap.size + 1 + 1, 1, none⟩ = some (.int .i64 0) ∧ w1_.cell? ⟨w.heap.size + 1 + 1, 2, none⟩ = some (.int .i64 0) ∧ w1_.cell? ⟨w.heap.size + 1 + 1, 3, none⟩ = some (.int .i64 0) := (by refine ⟨?_, ?_, ?_, ?_⟩ <;> (rw [hc1_ _ _ (by first | assumption | (simp; done) | (simp; omega) | omega)]; first | assumption | (simp [go_sem]; done) | (simp [go_sem, *]; done))); have f1_w_1_1_0 : w1_.frozen? ⟨w.heap.size + 1 + 1, 0, none⟩ = false := (by rw [hf1_ _ _ (by first | assumption | (simp; done) | (simp; omega) | omega)]; first | assumption | (simp [go_sem]; done) | (simp [go_sem, *]; done)); have f1_w_1_1_1 : w1_.frozen? ⟨w.heap.size + 1 + 1, 1, none⟩ = false := (by rw [hf1_ _ _ (by first | assumption | (simp; done) | (simp; omega) | omega)]; first | assumption | (simp [go_sem]; done) | (simp [go_sem, *]; done)); have f1_w_1_1_2 : w1_.frozen? ⟨w.heap.size + 1 + 1, 2, none⟩ = false := (by rw [hf1_ _ _ (by first | assumption | (simp; done) | (simp; omega) | omega)]; first | assumption | (simp [go_sem]; done) | (simp [go_sem, *]; done)); have f1_w_1_1_3 : w1_.frozen? ⟨w.heap.size + 1 + 1, 3, none⟩ = false := (by rw [hf1_ _ _ (by first | assumption | (simp; done) | (simp; omega) | omega)]; first | assumption | (simp [go_sem]; done) | (simp [go_sem, *]; done)); clear hc1_ hf1_; clear hb1_ hp1_)
  rw [H.out]
  (go_wp2_with (fail); refine (rf_valid a' b' c' d' _).mono ?_; rintro e w2_ ⟨rfl, hb2_⟩; have hp2_ : Below w1_.heap.size w1_ w2_ := Below.trans (by (repeat' first | (with_reducible first | exact Below.refl _ _ | assumption | refine Kit.below_drewN ?_ _ | refine Below.drew ?_ | refine Below.alloc ?_ ?_ _ | refine Below.setCell ?_ ?_ _ | exact Nat.le_refl _) | omega | (simp; omega) | (simp; done) | (apply Below.size; assumption))) (hb2_.mono (by first | assumption | (simp; done) | (simp; omega) | omega)); have hw2_ : Below w.heap.size w w2_ := hw1_.trans (hp2_.mono hw1_.size); have z2_w : w.heap.size < w2_.heap.size := Nat.lt_of_lt_of_le z1_w hp2_.size; have g2_w_0 := Kit.ck hp2_ g1_w_0 z1_w; have g2_w_1 := Kit.ck hp2_ g1_w_1 z1_w; have g2_w_2 := Kit.ck hp2_ g1_w_2 z1_w; have g2_w_3 := Kit.ck hp2_ g1_w_3 z1_w; have z2_w_1 : w.heap.size + 1 < w2_.heap.size := Nat.lt_of_lt_of_le z1_w_1 hp2_.size; have g2_w_1_0 := Kit.ck hp2_ g1_w_1_0 z1_w_1; have g2_w_1_1 := Kit.ck hp2_ g1_w_1_1 z1_w_1; have g2_w_1_2 := Kit.ck hp2_ g1_w_1_2 z1_w_1; have g2_w_1_3 := Kit.ck hp2_ g1_w_1_3 z1_w_1; have z2_w_1_1 : w.heap.size + 1 + 1 < w2_.heap.size := Nat.lt_of_lt_of_le z1_w_1_1 hp2_.size; have g2_w_1_1_0 := Kit.ck hp2_ g1_w_1_1_0 z1_w_1_1; have f2_w_1_1_0 := Kit.fk hp2_ f1_w_1_1_0 z1_w_1_1; have g2_w_1_1_1 := Kit.ck hp2_ g1_w_1_1_1 z1_w_1_1; have f2_w_1_1_1 := Kit.fk hp2_ f1_w_1_1_1 z1_w_1_1; have g2_w_1_1_2 := Kit.ck hp2_ g1_w_1_1_2 z1_w_1_1; have f2_w_1_1_2 := Kit.fk hp2_ f1_w_1_1_2 z1_w_1_1; have g2_w_1_1_3 := Kit.ck hp2_ g1_w_1_1_3 z1_w_1_1; have f2_w_1_1_3 := Kit.fk hp2_ f1_w_1_1_3 z1_w_1_1; clear z1_w g1_w_0 g1_w_1 g1_w_2 g1_w_3 z1_w_1 g1_w_1_0 g1_w_1_1 g1_w_1_2 g1_w_1_3 z1_w_1_1 g1_w_1_1_0 f1_w_1_1_0 g1_w_1_1_1 f1_w_1_1_1 g1_w_1_1_2 f1_w_1_1_2 g1_w_1_1_3 f1_w_1_1_3 hw1_ hb2_ hp2_)
  rw [H'.out]
  go_wp2
  refine Kit.wp_name ?_
  intro W hW
  have sW : w.heap.size + 1 + 1 < W.heap.size := by rw [hW]; exact z2_w_1_1
  have bW : Below w.heap.size w W := by rw [hW]; (repeat' first | (with_reducible first | exact Below.refl _ _ | assumption | refine Kit.below_drewN ?_ _ | refine Below.drew ?_ | refine Below.alloc ?_ ?_ _ | refine Below.setCell ?_ ?_ _ | exact Nat.le_refl _) | omega | (simp; omega) | (simp; done) | (apply Below.size; assumption))
  have k0 : ∀ z : Kit.Wd W, z.val.cell? ⟨w.heap.size, 0, none⟩ = some (.int .i64 a) := fun z => z.cell (by rw [hW]; exact g2_w_0) (by simp; omega)
  have k1 : ∀ z : Kit.Wd W, z.val.cell? ⟨w.heap.size, 1, none⟩ = some (.int .i64 b) := fun z => z.cell (by rw [hW]; exact g2_w_1) (by simp; omega)
  have k2 : ∀ z : Kit.Wd W, z.val.cell? ⟨w.heap.size, 2, none⟩ = some (.int .i64 c) := fun z => z.cell (by rw [hW]; exact g2_w_2) (by simp; omega)
  have k3 : ∀ z : Kit.Wd W, z.val.cell? ⟨w.heap.size, 3, none⟩ = some (.int .i64 d) := fun z => z.cell (by rw [hW]; exact g2_w_3) (by simp; omega)
  have l0 : ∀ z : Kit.Wd W, z.val.cell? ⟨w.heap.size + 1, 0, none⟩ = some (.int .i64 a') := fun z => z.cell (by rw [hW]; exact g2_w_1_0) (by simp; omega)
  have l1 : ∀ z : Kit.Wd W, z.val.cell? ⟨w.heap.size + 1, 1, none⟩ = some (.int .i64 b') := fun z => z.cell (by rw [hW]; exact g2_w_1_1) (by simp; omega)
  have l2 : ∀ z : Kit.Wd W, z.val.cell? ⟨w.heap.size + 1, 2, none⟩ = some (.int .i64 c') := fun z => z.cell (by rw [hW]; exact g2_w_1_2) (by simp; omega)
  have l3 : ∀ z : Kit.Wd W, z.val.cell? ⟨w.heap.size + 1, 3, none⟩ = some (.int .i64 d') := fun z => z.cell (by rw [hW]; exact g2_w_1_3) (by simp; omega)
  have q0 : ∀ j, j < 4 → ∀ z : Kit.Wd W, z.val.cell? ⟨w.heap.size + 1 + 1, j, none⟩ = some (.int .i64 0) := fun j hj z => z.cell (by
    rw [hW]; rcases j with _ | _ | _ | _ | j <;> first | assumption | omega) (by simp; omega)
  have f0 : ∀ j, j < 4 → ∀ z : Kit.Wd W, z.val.frozen? ⟨w.heap.size + 1 + 1, j, none⟩ = false := fun j hj z => z.frozen (by
    rw [hW]; rcases j with _ | _ | _ | _ | j <;> first | assumption | omega) (by simp; omega)
  have Q0 := Lib.hid q0
  have F0 := Lib.hid f0
  have BW := Lib.hid bW
  clear hW q0 f0 bW g2_w_0 g2_w_1 g2_w_2 g2_w_3
  (refine Kit.wp_region_cls_tail 11 (by kernel_rfl) (by kernel_rfl) ?_; simp only [List.take_succ_cons, List.take_zero, List.drop_succ_cons, List.drop_zero]; (repeat (go_big_quiet_step (first | (with_reducible exact Kit.calls_cls _ (rf_hull a b a' b' _)) | (with_reducible exact Kit.calls_cls _ (rf_hull c d c' d' _))))); refine wpQuiet_nil ?_; intro z)
  have y0 := Q0.out 0 (by omega) z
  have y1 := Q0.out 1 (by omega) z
  have y2 := Q0.out 2 (by omega) z
  have y3 := Q0.out 3 (by omega) z
  have x0 := F0.out 0 (by omega) z
  have x1 := F0.out 1 (by omega) z
  have x2 := F0.out 2 (by omega) z
  have x3 := F0.out 3 (by omega) z
  have hz := z.below
  generalize z.val = Z at *
  have HZ := Lib.hid (BW.out.trans (hz.mono BW.out.size))
  have zz := hz.size
  clear k0 k1 k2 k3 l0 l1 l2 l3 hz
  go_wp2
  (refine bodyPost_ret (by simp [results, Tryd.results42, go_sem, Kit.cell_set, y0, y1, y2, y3]; try rfl) rfl ?_)
  exact ⟨rfl, by have := HZ.out; (repeat' first | (with_reducible first | exact Below.refl _ _ | assumption | refine Kit.below_drewN ?_ _ | refine Below.drew ?_ | refine Below.alloc ?_ ?_ _ | refine Below.setCell ?_ ?_ _ | exact Nat.le_refl _) | omega | (simp; omega) | (simp; done) | (apply Below.size; assumption))⟩

theorem rf_join (a b c d a' b' c' d' : Int) (w : World) : Rf.JoinIs a b c d a' b' c' d' w (Sp.joR a b c d a' b' c' d') := by
  rcases h : Sp.okBox a b c d with _ | _
  · have e : Sp.joR a b c d a' b' c' d' = (0, 0, 0, 0, 150) := by unfold Sp.joR; rw [if_neg (by simp [h])]
    rw [e]; exact rf_join_1 a b c d a' b' c' d' w _ _ h rfl rfl
  · rcases h' : Sp.okBox a' b' c' d' with _ | _
    · have e : Sp.joR a b c d a' b' c' d' = (0, 0, 0, 0, 150) := by unfold Sp.joR; rw [if_pos h, if_neg (by simp [h'])]
      rw [e]; exact rf_join_1 a b c d a' b' c' d' w _ _ h h' rfl
    · have e : Sp.joR a b c d a' b' c' d' = (Kit.mn2 a a', Kit.mx2 b b', Kit.mn2 c c', Kit.mx2 d d', 0) := by unfold Sp.joR; rw [if_pos h, if_pos h']
      rw [e]; exact rf_join_3 a b c d a' b' c' d' w h h'

theorem Rf.okW_eq (a b c d f l x y : Int) : Ap.okW ⟨a, b, c, d, f, l, x, y⟩ = (Sp.okBox a b c d && !decide (f < 0) && !decide (l < f) && !decide (4095 < l) && (Tp.inb x (-1048576) 1048576 && Tp.inb y (-1048576) 1048576)) := by
  unfold Ap.okW
  dsimp only
  rcases Sp.okBox a b c d with _ | _
  · rfl
  rcases Tp.inb x (-1048576) 1048576 with _ | _
  · simp
  rcases Tp.inb y (-1048576) 1048576 with _ | _
  · simp
  rw [Bool.eq_iff_iff]
  simp [Tp.inb]
  omega

set_option maxRecDepth 100000 in
set_option maxHeartbeats 1000000 in
theorem rf_Valid (g : Ap.Wg) (w : World) : Calls Tryd.prog 39 #[Ap.wgV g] w fun e w' => e = .returned (.bool (Ap.okW g)) ∧ Below w.heap.size w w' := by
  obtain ⟨a, b, c, d, f, l, x, y⟩ := g
  rw [Rf.okW_eq]
  rcases c1 : Sp.okBox a b c d with _ | _
  · have H := Lib.hid c1; clear c1
    go_enter Tryd.func39, Tryd.ntmps39
    skip
    (go_wp2_with (fail); refine (rf_valid a b c d _).mono ?_; rintro e w1_ ⟨rfl, hb1_⟩; have hp1_ : Below w.heap.size w w1_ := Below.trans (by (repeat' first | (with_reducible first | exact Below.refl _ _ | assumption | refine Kit.below_drewN ?_ _ | refine Below.drew ?_ | refine Below.alloc ?_ ?_ _ | refine Below.setCell ?_ ?_ _ | exact Nat.le_refl _) | omega | (simp; omega) | (simp; done) | (apply Below.size; assumption))) (hb1_.mono (by first | assumption | (simp; done) | (simp; omega) | omega)); have hw1_ : Below w.heap.size w w1_ := hp1_; obtain ⟨hc1_, hf1_⟩ := Kit.bcell hb1_; have z1_w : w.heap.size < w1_.heap.size := (by have := hb1_.size; first | omega | (simp at this; omega)); obtain ⟨g1_w_0, g1_w_1, g1_w_2, g1_w_3, g1_w_4, g1_w_5, g1_w_6, g1_w_7⟩ : w1_.cell? ⟨w.heap.size, 0, none⟩ = some (.int .i64 a) ∧ w1_.cell? ⟨w.heap.size, 1, none⟩ = some (.int .i64 b) ∧ w1_.cell? ⟨w.heap.size, 2, none⟩ = some (.int .i64 c) ∧ w1_.cell? ⟨w.heap.size, 3, none⟩ = some (.int .i64 d) ∧ w1_.cell? ⟨w.heap.size, 4, none⟩ = some (.int .i64 f) ∧ w1_.cell? ⟨w.heap.size, 5, none⟩ = some (.int .i64 l) ∧ w1_.cell? ⟨w.heap.size, 6, none⟩ = some (.int .i64 x) ∧ w1_.cell? ⟨w.heap.size, 7, none⟩ = some (.int .i64 y) := (by refine ⟨?_, ?_, ?_, ?_, ?_, ?_, ?_, ?_⟩ <;> (rw [hc1_ _ _ (by first | assumption | (simp; done) | (simp; omega) | omega)]; first | assumption | (simp [go_sem]; done) | (simp [go_sem, *]; done))); clear hc1_ hf1_; clear hb1_ hp1_)
    rw [H.out]
    go_wp2_with (go_at_call 40; refine (rf_within _ _ _ _).mono ?_; rintro e w' ⟨rfl, rfl⟩)
    go_ret
    exact ⟨by first | rfl | (simp; done) | (simp at *; omega), by (repeat' first | (with_reducible first | exact Below.refl _ _ | assumption | refine Kit.below_drewN ?_ _ | refine Below.drew ?_ | refine Below.alloc ?_ ?_ _ | refine Below.setCell ?_ ?_ _ | exact Nat.le_refl _) | omega | (simp; omega) | (simp; done) | (apply Below.size; assumption))⟩
  have H := Lib.hid c1; clear c1
  rcases c2 : decide (f < 0) with _ | _
  · rcases c3 : decide (l < f) with _ | _
    · rcases c4 : decide (4095 < l) with _ | _
      · rcases c5 : Tp.inb x (-1048576) 1048576 with _ | _
        · go_enter Tryd.func39, Tryd.ntmps39
          skip
          (go_wp2_with (fail); refine (rf_valid a b c d _).mono ?_; rintro e w1_ ⟨rfl, hb1_⟩; have hp1_ : Below w.heap.size w w1_ := Below.trans (by (repeat' first | (with_reducible first | exact Below.refl _ _ | assumption | refine Kit.below_drewN ?_ _ | refine Below.drew ?_ | refine Below.alloc ?_ ?_ _ | refine Below.setCell ?_ ?_ _ | exact Nat.le_refl _) | omega | (simp; omega) | (simp; done) | (apply Below.size; assumption))) (hb1_.mono (by first | assumption | (simp; done) | (simp; omega) | omega)); have hw1_ : Below w.heap.size w w1_ := hp1_; obtain ⟨hc1_, hf1_⟩ := Kit.bcell hb1_; have z1_w : w.heap.size < w1_.heap.size := (by have := hb1_.size; first | omega | (simp at this; omega)); obtain ⟨g1_w_0, g1_w_1, g1_w_2, g1_w_3, g1_w_4, g1_w_5, g1_w_6, g1_w_7⟩ : w1_.cell? ⟨w.heap.size, 0, none⟩ = some (.int .i64 a) ∧ w1_.cell? ⟨w.heap.size, 1, none⟩ = some (.int .i64 b) ∧ w1_.cell? ⟨w.heap.size, 2, none⟩ = some (.int .i64 c) ∧ w1_.cell? ⟨w.heap.size, 3, none⟩ = some (.int .i64 d) ∧ w1_.cell? ⟨w.heap.size, 4, none⟩ = some (.int .i64 f) ∧ w1_.cell? ⟨w.heap.size, 5, none⟩ = some (.int .i64 l) ∧ w1_.cell? ⟨w.heap.size, 6, none⟩ = some (.int .i64 x) ∧ w1_.cell? ⟨w.heap.size, 7, none⟩ = some (.int .i64 y) := (by refine ⟨?_, ?_, ?_, ?_, ?_, ?_, ?_, ?_⟩ <;> (rw [hc1_ _ _ (by first | assumption | (simp; done) | (simp; omega) | omega)]; first | assumption | (simp [go_sem]; done) | (simp [go_sem, *]; done))); clear hc1_ hf1_; clear hb1_ hp1_)
          rw [H.out]
          go_wp2_with (go_at_call 40; refine (rf_within _ _ _ _).mono ?_; rintro e w' ⟨rfl, rfl⟩)
          go_ret
          exact ⟨by first | rfl | (simp; done) | (simp at *; omega), by (repeat' first | (with_reducible first | exact Below.refl _ _ | assumption | refine Kit.below_drewN ?_ _ | refine Below.drew ?_ | refine Below.alloc ?_ ?_ _ | refine Below.setCell ?_ ?_ _ | exact Nat.le_refl _) | omega | (simp; omega) | (simp; done) | (apply Below.size; assumption))⟩
        · go_enter Tryd.func39, Tryd.ntmps39
          skip
          (go_wp2_with (fail); refine (rf_valid a b c d _).mono ?_; rintro e w1_ ⟨rfl, hb1_⟩; have hp1_ : Below w.heap.size w w1_ := Below.trans (by (repeat' first | (with_reducible first | exact Below.refl _ _ | assumption | refine Kit.below_drewN ?_ _ | refine Below.drew ?_ | refine Below.alloc ?_ ?_ _ | refine Below.setCell ?_ ?_ _ | exact Nat.le_refl _) | omega | (simp; omega) | (simp; done) | (apply Below.size; assumption))) (hb1_.mono (by first | assumption | (simp; done) | (simp; omega) | omega)); have hw1_ : Below w.heap.size w w1_ := hp1_; obtain ⟨hc1_, hf1_⟩ := Kit.bcell hb1_; have z1_w : w.heap.size < w1_.heap.size := (by have := hb1_.size; first | omega | (simp at this; omega)); obtain ⟨g1_w_0, g1_w_1, g1_w_2, g1_w_3, g1_w_4, g1_w_5, g1_w_6, g1_w_7⟩ : w1_.cell? ⟨w.heap.size, 0, none⟩ = some (.int .i64 a) ∧ w1_.cell? ⟨w.heap.size, 1, none⟩ = some (.int .i64 b) ∧ w1_.cell? ⟨w.heap.size, 2, none⟩ = some (.int .i64 c) ∧ w1_.cell? ⟨w.heap.size, 3, none⟩ = some (.int .i64 d) ∧ w1_.cell? ⟨w.heap.size, 4, none⟩ = some (.int .i64 f) ∧ w1_.cell? ⟨w.heap.size, 5, none⟩ = some (.int .i64 l) ∧ w1_.cell? ⟨w.heap.size, 6, none⟩ = some (.int .i64 x) ∧ w1_.cell? ⟨w.heap.size, 7, none⟩ = some (.int .i64 y) := (by refine ⟨?_, ?_, ?_, ?_, ?_, ?_, ?_, ?_⟩ <;> (rw [hc1_ _ _ (by first | assumption | (simp; done) | (simp; omega) | omega)]; first | assumption | (simp [go_sem]; done) | (simp [go_sem, *]; done))); clear hc1_ hf1_; clear hb1_ hp1_)
          rw [H.out]
          go_wp2_with (go_at_call 40; refine (rf_within _ _ _ _).mono ?_; rintro e w' ⟨rfl, rfl⟩)
          go_ret
          exact ⟨by first | rfl | (simp; done) | (simp at *; omega), by (repeat' first | (with_reducible first | exact Below.refl _ _ | assumption | refine Kit.below_drewN ?_ _ | refine Below.drew ?_ | refine Below.alloc ?_ ?_ _ | refine Below.setCell ?_ ?_ _ | exact Nat.le_refl _) | omega | (simp; omega) | (simp; done) | (apply Below.size; assumption))⟩
      · go_enter Tryd.func39, Tryd.ntmps39
        skip
        (go_wp2_with (fail); refine (rf_valid a b c d _).mono ?_; rintro e w1_ ⟨rfl, hb1_⟩; have hp1_ : Below w.heap.size w w1_ := Below.trans (by (repeat' first | (with_reducible first | exact Below.refl _ _ | assumption | refine Kit.below_drewN ?_ _ | refine Below.drew ?_ | refine Below.alloc ?_ ?_ _ | refine Below.setCell ?_ ?_ _ | exact Nat.le_refl _) | omega | (simp; omega) | (simp; done) | (apply Below.size; assumption))) (hb1_.mono (by first | assumption | (simp; done) | (simp; omega) | omega)); have hw1_ : Below w.heap.size w w1_ := hp1_; obtain ⟨hc1_, hf1_⟩ := Kit.bcell hb1_; have z1_w : w.heap.size < w1_.heap.size := (by have := hb1_.size; first | omega | (simp at this; omega)); obtain ⟨g1_w_0, g1_w_1, g1_w_2, g1_w_3, g1_w_4, g1_w_5, g1_w_6, g1_w_7⟩ : w1_.cell? ⟨w.heap.size, 0, none⟩ = some (.int .i64 a) ∧ w1_.cell? ⟨w.heap.size, 1, none⟩ = some (.int .i64 b) ∧ w1_.cell? ⟨w.heap.size, 2, none⟩ = some (.int .i64 c) ∧ w1_.cell? ⟨w.heap.size, 3, none⟩ = some (.int .i64 d) ∧ w1_.cell? ⟨w.heap.size, 4, none⟩ = some (.int .i64 f) ∧ w1_.cell? ⟨w.heap.size, 5, none⟩ = some (.int .i64 l) ∧ w1_.cell? ⟨w.heap.size, 6, none⟩ = some (.int .i64 x) ∧ w1_.cell? ⟨w.heap.size, 7, none⟩ = some (.int .i64 y) := (by refine ⟨?_, ?_, ?_, ?_, ?_, ?_, ?_, ?_⟩ <;> (rw [hc1_ _ _ (by first | assumption | (simp; done) | (simp; omega) | omega)]; first | assumption | (simp [go_sem]; done) | (simp [go_sem, *]; done))); clear hc1_ hf1_; clear hb1_ hp1_)
        rw [H.out]
        go_wp2_with (go_at_call 40; refine (rf_within _ _ _ _).mono ?_; rintro e w' ⟨rfl, rfl⟩)
        go_ret
        exact ⟨by first | rfl | (simp; done) | (simp at *; omega), by (repeat' first | (with_reducible first | exact Below.refl _ _ | assumption | refine Kit.below_drewN ?_ _ | refine Below.drew ?_ | refine Below.alloc ?_ ?_ _ | refine Below.setCell ?_ ?_ _ | exact Nat.le_refl _) | omega | (simp; omega) | (simp; done) | (apply Below.size; assumption))⟩
    · go_enter Tryd.func39, Tryd.ntmps39
      skip
      (go_wp2_with (fail); refine (rf_valid a b c d _).mono ?_; rintro e w1_ ⟨rfl, hb1_⟩; have hp1_ : Below w.heap.size w w1_ := Below.trans (by (repeat' first | (with_reducible first | exact Below.refl _ _ | assumption | refine Kit.below_drewN ?_ _ | refine Below.drew ?_ | refine Below.alloc ?_ ?_ _ | refine Below.setCell ?_ ?_ _ | exact Nat.le_refl _) | omega | (simp; omega) | (simp; done) | (apply Below.size; assumption))) (hb1_.mono (by first | assumption | (simp; done) | (simp; omega) | omega)); have hw1_ : Below w.heap.size w w1_ := hp1_; obtain ⟨hc1_, hf1_⟩ := Kit.bcell hb1_; have z1_w : w.heap.size < w1_.heap.size := (by have := hb1_.size; first | omega | (simp at this; omega)); obtain ⟨g1_w_0, g1_w_1, g1_w_2, g1_w_3, g1_w_4, g1_w_5, g1_w_6, g1_w_7⟩ : w1_.cell? ⟨w.heap.size, 0, none⟩ = some (.int .i64 a) ∧ w1_.cell? ⟨w.heap.size, 1, none⟩ = some (.int .i64 b) ∧ w1_.cell? ⟨w.heap.size, 2, none⟩ = some (.int .i64 c) ∧ w1_.cell? ⟨w.heap.size, 3, none⟩ = some (.int .i64 d) ∧ w1_.cell? ⟨w.heap.size, 4, none⟩ = some (.int .i64 f) ∧ w1_.cell? ⟨w.heap.size, 5, none⟩ = some (.int .i64 l) ∧ w1_.cell? ⟨w.heap.size, 6, none⟩ = some (.int .i64 x) ∧ w1_.cell? ⟨w.heap.size, 7, none⟩ = some (.int .i64 y) := (by refine ⟨?_, ?_, ?_, ?_, ?_, ?_, ?_, ?_⟩ <;> (rw [hc1_ _ _ (by first | assumption | (simp; done) | (simp; omega) | omega)]; first | assumption | (simp [go_sem]; done) | (simp [go_sem, *]; done))); clear hc1_ hf1_; clear hb1_ hp1_)
      rw [H.out]
      go_wp2_with (go_at_call 40; refine (rf_within _ _ _ _).mono ?_; rintro e w' ⟨rfl, rfl⟩)
      go_ret
      exact ⟨by first | rfl | (simp; done) | (simp at *; omega), by (repeat' first | (with_reducible first | exact Below.refl _ _ | assumption | refine Kit.below_drewN ?_ _ | refine Below.drew ?_ | refine Below.alloc ?_ ?_ _ | refine Below.setCell ?_ ?_ _ | exact Nat.le_refl _) | omega | (simp; omega) | (simp; done) | (apply Below.size; assumption))⟩
  · go_enter Tryd.func39, Tryd.ntmps39
    skip
    (go_wp2_with (fail); refine (rf_valid a b c d _).mono ?_; rintro e w1_ ⟨rfl, hb1_⟩; have hp1_ : Below w.heap.size w w1_ := Below.trans (by (repeat' first | (with_reducible first | exact Below.refl _ _ | assumption | refine Kit.below_drewN ?_ _ | refine Below.drew ?_ | refine Below.alloc ?_ ?_ _ | refine Below.setCell ?_ ?_ _ | exact Nat.le_refl _) | omega | (simp; omega) | (simp; done) | (apply Below.size; assumption))) (hb1_.mono (by first | assumption | (simp; done) | (simp; omega) | omega)); have hw1_ : Below w.heap.size w w1_ := hp1_; obtain ⟨hc1_, hf1_⟩ := Kit.bcell hb1_; have z1_w : w.heap.size < w1_.heap.size := (by have := hb1_.size; first | omega | (simp at this; omega)); obtain ⟨g1_w_0, g1_w_1, g1_w_2, g1_w_3, g1_w_4, g1_w_5, g1_w_6, g1_w_7⟩ : w1_.cell? ⟨w.heap.size, 0, none⟩ = some (.int .i64 a) ∧ w1_.cell? ⟨w.heap.size, 1, none⟩ = some (.int .i64 b) ∧ w1_.cell? ⟨w.heap.size, 2, none⟩ = some (.int .i64 c) ∧ w1_.cell? ⟨w.heap.size, 3, none⟩ = some (.int .i64 d) ∧ w1_.cell? ⟨w.heap.size, 4, none⟩ = some (.int .i64 f) ∧ w1_.cell? ⟨w.heap.size, 5, none⟩ = some (.int .i64 l) ∧ w1_.cell? ⟨w.heap.size, 6, none⟩ = some (.int .i64 x) ∧ w1_.cell? ⟨w.heap.size, 7, none⟩ = some (.int .i64 y) := (by refine ⟨?_, ?_, ?_, ?_, ?_, ?_, ?_, ?_⟩ <;> (rw [hc1_ _ _ (by first | assumption | (simp; done) | (simp; omega) | omega)]; first | assumption | (simp [go_sem]; done) | (simp [go_sem, *]; done))); clear hc1_ hf1_; clear hb1_ hp1_)
    rw [H.out]
    go_wp2_with (go_at_call 40; refine (rf_within _ _ _ _).mono ?_; rintro e w' ⟨rfl, rfl⟩)
    go_ret
    exact ⟨by first | rfl | (simp; done) | (simp at *; omega), by (repeat' first | (with_reducible first | exact Below.refl _ _ | assumption | refine Kit.below_drewN ?_ _ | refine Below.drew ?_ | refine Below.alloc ?_ ?_ _ | refine Below.setCell ?_ ?_ _ | exact Nat.le_refl _) | omega | (simp; omega) | (simp; done) | (apply Below.size; assumption))⟩

set_option maxRecDepth 100000 in
set_option maxHeartbeats 1000000 in
theorem rf_place (g : Ap.Wg) (bar : Int) (w : World) (h : Ap.okW g = true) (h1 : 0 ≤ bar) (h2 : bar ≤ 4096) (r : Sp.BE) (hr : Hid (Ap.at_ g bar = r)) : Calls Tryd.prog 41 #[Ap.wgV g, .int .i64 bar] w fun e w' => e = .returned (.tuple #[Sp.boxV r.1 r.2.1 r.2.2.1 r.2.2.2.1, .int .i64 r.2.2.2.2]) ∧ Below w.heap.size w w' := by
  obtain ⟨a, b, c, d, f, l, x, y⟩ := g
  unfold Ap.okW at h
  simp only [Bool.and_eq_true] at h
  obtain ⟨⟨⟨⟨c1, c2⟩, c3⟩, c4⟩, c5⟩ := h
  have rf := (Tp.inb_iff _ _ _).1 c2
  have rx := (Tp.inb_iff _ _ _).1 c4
  have ry := (Tp.inb_iff _ _ _).1 c5
  have rl : l < 4096 := by simpa using c3
  try dsimp only at rf rx ry rl
  obtain ⟨u1, u2⟩ := Ap.mul_bd f l bar rf.1 rf.2 rl
  obtain ⟨u3, u4⟩ := Ap.prod_bd _ x u1 u2 rx.1 rx.2
  obtain ⟨u5, u6⟩ := Ap.prod_bd _ y u1 u2 ry.1 ry.2
  have hr2 : Sp.shR a b c d (Ap.mul f l bar * x) (Ap.mul f l bar * y) = r := hr.out
  have hS := fun W => rf_shift a b c d (Ap.mul f l bar * x) (Ap.mul f l bar * y) W
  rw [hr2] at hS
  have m1 : (if bar - f < 0 then 0 else bar - f) = Kit.mx2 0 (bar - f) := by unfold Kit.mx2; repeat' split <;> omega
  have m1x : (if bar < f then 0 else bar - f) = Kit.mx2 0 (bar - f) := by unfold Kit.mx2; repeat' split <;> omega
  have hmul : Kit.mn2 (Kit.mx2 0 (bar - f)) (l - f + 1) = Ap.mul f l bar := by
    unfold Ap.mul Kit.mn2 Kit.mx2
    repeat' split
    all_goals omega
  have m2 : (if l - f + 1 < Kit.mx2 0 (bar - f) then l - f + 1 else Kit.mx2 0 (bar - f)) = Ap.mul f l bar := hmul
  have hb1 := Kit.mx2_le 0 (bar - f)
  have HS := Lib.hid hS
  clear hS hr2 hr hmul c1 c2 c3 c4 c5
  generalize Ap.mul f l bar = M at *
  generalize Kit.mx2 0 (bar - f) = X at *
  go_enter Tryd.func41, Tryd.ntmps41
  skip
  (go_wp2_with (fail); refine (HS.out _).mono ?_; rintro e w1_ ⟨rfl, hb1_⟩; have hp1_ : Below w.heap.size w w1_ := Below.trans (by (repeat' first | (with_reducible first | exact Below.refl _ _ | assumption | refine Kit.below_drewN ?_ _ | refine Below.drew ?_ | refine Below.alloc ?_ ?_ _ | refine Below.setCell ?_ ?_ _ | exact Nat.le_refl _) | omega | (simp; omega) | (simp; done) | (apply Below.size; assumption))) (hb1_.mono (by first | assumption | (simp; done) | (simp; omega) | omega)); have hw1_ : Below w.heap.size w w1_ := hp1_; obtain ⟨hc1_, hf1_⟩ := Kit.bcell hb1_; have z1_w_1 : w.heap.size + 1 < w1_.heap.size := (by have := hb1_.size; first | omega | (simp at this; omega)); obtain ⟨g1_w_1_0, g1_w_1_1, g1_w_1_2, g1_w_1_3⟩ : w1_.cell? ⟨w.heap.size + 1, 0, none⟩ = some (.int .i64 0) ∧ w1_.cell? ⟨w.heap.size + 1, 1, none⟩ = some (.int .i64 0) ∧ w1_.cell? ⟨w.heap.size + 1, 2, none⟩ = some (.int .i64 0) ∧ w1_.cell? ⟨w.heap.size + 1, 3, none⟩ = some (.int .i64 0) := (by refine ⟨?_, ?_, ?_, ?_⟩ <;> (rw [hc1_ _ _ (by first | assumption | (simp; done) | (simp; omega) | omega)]; first | assumption | (simp [go_sem]; done) | (simp [go_sem, *]; done))); have f1_w_1_0 : w1_.frozen? ⟨w.heap.size + 1, 0, none⟩ = false := (by rw [hf1_ _ _ (by first | assumption | (simp; done) | (simp; omega) | omega)]; first | assumption | (simp [go_sem]; done) | (simp [go_sem, *]; done)); have f1_w_1_1 : w1_.frozen? ⟨w.heap.size + 1, 1, none⟩ = false := (by rw [hf1_ _ _ (by first | assumption | (simp; done) | (simp; omega) | omega)]; first | assumption | (simp [go_sem]; done) | (simp [go_sem, *]; done)); have f1_w_1_2 : w1_.frozen? ⟨w.heap.size + 1, 2, none⟩ = false := (by rw [hf1_ _ _ (by first | assumption | (simp; done) | (simp; omega) | omega)]; first | assumption | (simp [go_sem]; done) | (simp [go_sem, *]; done)); have f1_w_1_3 : w1_.frozen? ⟨w.heap.size + 1, 3, none⟩ = false := (by rw [hf1_ _ _ (by first | assumption | (simp; done) | (simp; omega) | omega)]; first | assumption | (simp [go_sem]; done) | (simp [go_sem, *]; done)); clear hc1_ hf1_; clear hb1_ hp1_)
  go_wp2
  (refine bodyPost_ret (by simp [results, Tryd.results41, go_sem, Kit.cell_set, g1_w_1_0, g1_w_1_1, g1_w_1_2, g1_w_1_3, z1_w_1]; try rfl) rfl ?_)
  exact ⟨rfl, by (repeat' first | (with_reducible first | exact Below.refl _ _ | assumption | refine Kit.below_drewN ?_ _ | refine Below.drew ?_ | refine Below.alloc ?_ ?_ _ | refine Below.setCell ?_ ?_ _ | exact Nat.le_refl _) | omega | (simp; omega) | (simp; done) | (apply Below.size; assumption))⟩
end Go.Proofs.YtjoieglhmladhaaDoor
