/- Walks: the references of layer 15: Shift. -/
import Derived.Test.YtjoieglhmladhaaDoorRfC
namespace Go.Proofs.YtjoieglhmladhaaDoor
set_option linter.unusedVariables false
set_option linter.unusedSimpArgs false
open Go.RowKit Go.Shelf

namespace Rf
/-- What moved answers. -/
def mv (a b n : Int) : Int × Int × Bool := if Tp.inb n (-2199023255552) 2199023255552 = true then (a + n, b + n, right (a + n) (b + n)) else (a, b, false)
end Rf
theorem rf_moved (a b n : Int) (w : World) (ha : -1099511627776 ≤ a ∧ a ≤ 1099511627776) (hb : -1099511627776 ≤ b ∧ b ≤ 1099511627776) :
    Calls Tryd.prog 80 #[Sp.ranV a b, .int .i64 n] w fun e w' => e = .returned (.tuple #[Sp.ranV (Rf.mv a b n).1 (Rf.mv a b n).2.1, .bool (Rf.mv a b n).2.2]) ∧ Below w.heap.size w w' := by
  unfold Rf.mv
  rcases h : Tp.inb n (-2199023255552) 2199023255552 with _ | _
  · simpa using rf_moved_1 a b n w h
  · simpa using rf_moved_2 a b n w ((Tp.inb_iff _ _ _).1 h) ha hb
set_option maxHeartbeats 1000000 in
theorem rf_shift_1 (a b c d p q : Int) (w : World) (h : Sp.okBox a b c d = false) : Calls Tryd.prog 67 #[Sp.boxV a b c d, .int .i64 p, .int .i64 q] w fun e w' => e = .returned (.tuple #[Sp.boxV 0 0 0 0, .int .i64 150]) ∧ Below w.heap.size w w' := by
  have H := Lib.hid h; clear h
  go_enter Tryd.func67, Tryd.ntmps67
  skip
  (go_wp2_with (fail); refine (rf_valid a b c d _).mono ?_; rintro e w1_ ⟨rfl, hb1_⟩; have hp1_ : Below w.heap.size w w1_ := Below.trans (by (repeat' first | (with_reducible first | exact Below.refl _ _ | assumption | refine Kit.below_drewN ?_ _ | refine Below.drew ?_ | refine Below.alloc ?_ ?_ _ | refine Below.setCell ?_ ?_ _ | exact Nat.le_refl _) | omega | (simp; omega) | (simp; done) | (apply Below.size; assumption))) (hb1_.mono (by first | assumption | (simp; done) | (simp; omega) | omega)); have hw1_ : Below w.heap.size w w1_ := hp1_; obtain ⟨hc1_, hf1_⟩ := Kit.bcell hb1_; have z1_w : w.heap.size < w1_.heap.size := (by have := hb1_.size; first | omega | (simp at this; omega)); obtain ⟨g1_w_0, g1_w_1, g1_w_2, g1_w_3⟩ : w1_.cell? ⟨w.heap.size, 0, none⟩ = some (.int .i64 a) ∧ w1_.cell? ⟨w.heap.size, 1, none⟩ = some (.int .i64 b) ∧ w1_.cell? ⟨w.heap.size, 2, none⟩ = some (.int .i64 c) ∧ w1_.cell? ⟨w.heap.size, 3, none⟩ = some (.int .i64 d) := (by refine ⟨?_, ?_, ?_, ?_⟩ <;> (rw [hc1_ _ _ (by first | assumption | (simp; done) | (simp; omega) | omega)]; first | assumption | (simp [go_sem]; done) | (simp [go_sem, *]; done))); have z1_w_1 : w.heap.size + 1 < w1_.heap.size := (by have := hb1_.size; first | omega | (simp at this; omega)); obtain ⟨g1_w_1_0, g1_w_1_1, g1_w_1_2, g1_w_1_3⟩ : w1_.cell? ⟨w.heap.size + 1, 0, none⟩ = some (.int .i64 0) ∧ w1_.cell? ⟨w.heap.size + 1, 1, none⟩ = some (.int .i64 0) ∧ w1_.cell? ⟨w.heap.size + 1, 2, none⟩ = some (.int .i64 0) ∧ w1_.cell? ⟨w.heap.size + 1, 3, none⟩ = some (.int .i64 0) := (by refine ⟨?_, ?_, ?_, ?_⟩ <;> (rw [hc1_ _ _ (by first | assumption | (simp; done) | (simp; omega) | omega)]; first | assumption | (simp [go_sem]; done) | (simp [go_sem, *]; done))); have f1_w_1_0 : w1_.frozen? ⟨w.heap.size + 1, 0, none⟩ = false := (by rw [hf1_ _ _ (by first | assumption | (simp; done) | (simp; omega) | omega)]; first | assumption | (simp [go_sem]; done) | (simp [go_sem, *]; done)); have f1_w_1_1 : w1_.frozen? ⟨w.heap.size + 1, 1, none⟩ = false := (by rw [hf1_ _ _ (by first | assumption | (simp; done) | (simp; omega) | omega)]; first | assumption | (simp [go_sem]; done) | (simp [go_sem, *]; done)); have f1_w_1_2 : w1_.frozen? ⟨w.heap.size + 1, 2, none⟩ = false := (by rw [hf1_ _ _ (by first | assumption | (simp; done) | (simp; omega) | omega)]; first | assumption | (simp [go_sem]; done) | (simp [go_sem, *]; done)); have f1_w_1_3 : w1_.frozen? ⟨w.heap.size + 1, 3, none⟩ = false := (by rw [hf1_ _ _ (by first | assumption | (simp; done) | (simp; omega) | omega)]; first | assumption | (simp [go_sem]; done) | (simp [go_sem, *]; done)); clear hc1_ hf1_; clear hb1_ hp1_)
  rw [H.out]
  go_wp2
  (refine bodyPost_ret (by simp [results, Tryd.results67, go_sem, Kit.cell_set, g1_w_1_0, g1_w_1_1, g1_w_1_2, g1_w_1_3]; try rfl) rfl ?_)
  exact ⟨rfl, by (repeat' first | (with_reducible first | exact Below.refl _ _ | assumption | refine Kit.below_drewN ?_ _ | refine Below.drew ?_ | refine Below.alloc ?_ ?_ _ | refine Below.setCell ?_ ?_ _ | exact Nat.le_refl _) | omega | (simp; omega) | (simp; done) | (apply Below.size; assumption))⟩

set_option maxHeartbeats 2000000 in
theorem rf_shift_2 (a b c d p q : Int) (w : World) (h : Sp.okBox a b c d = true) : Calls Tryd.prog 67 #[Sp.boxV a b c d, .int .i64 p, .int .i64 q] w fun e w' => e = .returned (.tuple #[Sp.boxV (Sp.shR a b c d p q).1 (Sp.shR a b c d p q).2.1 (Sp.shR a b c d p q).2.2.1 (Sp.shR a b c d p q).2.2.2.1, .int .i64 (Sp.shR a b c d p q).2.2.2.2]) ∧ Below w.heap.size w w' := by
  have bd := Sp.okBox_bd h
  have m1 := fun W => rf_moved a b p W (by omega) (by omega)
  have m2 := fun W => rf_moved c d q W (by omega) (by omega)
  have hres : Sp.shR a b c d p q = if (Rf.mv a b p).2.2 = true then (if (Rf.mv c d q).2.2 = true then ((Rf.mv a b p).1, (Rf.mv a b p).2.1, (Rf.mv c d q).1, (Rf.mv c d q).2.1, 0) else (0, 0, 0, 0, 2)) else (0, 0, 0, 0, 2) := by
    unfold Sp.shR Rf.mv
    rw [if_pos h]
    rw [← Rf.right_box]
    have e1 : [p, q].all (Sp.inB 2199023255552) = (Tp.inb p (-2199023255552) 2199023255552 && Tp.inb q (-2199023255552) 2199023255552) := by simp [Sp.inB, Tp.inb]
    rw [e1]
    rcases Tp.inb p (-2199023255552) 2199023255552 with _ | _ <;> rcases Tp.inb q (-2199023255552) 2199023255552 with _ | _ <;> simp
    rcases Rf.right (a + p) (b + p) with _ | _ <;> simp
  rw [hres]
  clear hres bd
  generalize Rf.mv a b p = M1 at *
  generalize Rf.mv c d q = M2 at *
  obtain ⟨r1, r2, o1⟩ := M1
  obtain ⟨r3, r4, o2⟩ := M2
  dsimp only at *
  have H := Lib.hid h; clear h
  have H1 := Lib.hid m1; clear m1
  have H2 := Lib.hid m2; clear m2
  cases o1 <;> cases o2 <;>
  · simp only [if_true, if_false, Bool.false_eq_true]
    go_enter Tryd.func67, Tryd.ntmps67
    skip
    (go_wp2_with (fail); refine (rf_valid a b c d _).mono ?_; rintro e w1_ ⟨rfl, hb1_⟩; have hp1_ : Below w.heap.size w w1_ := Below.trans (by (repeat' first | (with_reducible first | exact Below.refl _ _ | assumption | refine Kit.below_drewN ?_ _ | refine Below.drew ?_ | refine Below.alloc ?_ ?_ _ | refine Below.setCell ?_ ?_ _ | exact Nat.le_refl _) | omega | (simp; omega) | (simp; done) | (apply Below.size; assumption))) (hb1_.mono (by first | assumption | (simp; done) | (simp; omega) | omega)); have hw1_ : Below w.heap.size w w1_ := hp1_; obtain ⟨hc1_, hf1_⟩ := Kit.bcell hb1_; have z1_w : w.heap.size < w1_.heap.size := (by have := hb1_.size; first | omega | (simp at this; omega)); obtain ⟨g1_w_0, g1_w_1, g1_w_2, g1_w_3⟩ : w1_.cell? ⟨w.heap.size, 0, none⟩ = some (.int .i64 a) ∧ w1_.cell? ⟨w.heap.size, 1, none⟩ = some (.int .i64 b) ∧ w1_.cell? ⟨w.heap.size, 2, none⟩ = some (.int .i64 c) ∧ w1_.cell? ⟨w.heap.size, 3, none⟩ = some (.int .i64 d) := (by refine ⟨?_, ?_, ?_, ?_⟩ <;> (rw [hc1_ _ _ (by first | assumption | (simp; done) | (simp; omega) | omega)]; first | assumption | (simp [go_sem]; done) | (simp [go_sem, *]; done))); have z1_w_1 : w.heap.size + 1 < w1_.heap.size := (by have := hb1_.size; first | omega | (simp at this; omega)); obtain ⟨g1_w_1_0, g1_w_1_1, g1_w_1_2, g1_w_1_3⟩ : w1_.cell? ⟨w.heap.size + 1, 0, none⟩ = some (.int .i64 0) ∧ w1_.cell? ⟨w.heap.size + 1, 1, none⟩ = some (.int .i64 0) ∧ w1_.cell? ⟨w.heap.size + 1, 2, none⟩ = some (.int .i64 0) ∧ w1_.cell? ⟨w.heap.size + 1, 3, none⟩ = some (.int .i64 0) := (by refine ⟨?_, ?_, ?_, ?_⟩ <;> (rw [hc1_ _ _ (by first | assumption | (simp; done) | (simp; omega) | omega)]; first | assumption | (simp [go_sem]; done) | (simp [go_sem, *]; done))); have f1_w_1_0 : w1_.frozen? ⟨w.heap.size + 1, 0, none⟩ = false := (by rw [hf1_ _ _ (by first | assumption | (simp; done) | (simp; omega) | omega)]; first | assumption | (simp [go_sem]; done) | (simp [go_sem, *]; done)); have f1_w_1_1 : w1_.frozen? ⟨w.heap.size + 1, 1, none⟩ = false := (by rw [hf1_ _ _ (by first | assumption | (simp; done) | (simp; omega) | omega)]; first | assumption | (simp [go_sem]; done) | (simp [go_sem, *]; done)); have f1_w_1_2 : w1_.frozen? ⟨w.heap.size + 1, 2, none⟩ = false := (by rw [hf1_ _ _ (by first | assumption | (simp; done) | (simp; omega) | omega)]; first | assumption | (simp [go_sem]; done) | (simp [go_sem, *]; done)); have f1_w_1_3 : w1_.frozen? ⟨w.heap.size + 1, 3, none⟩ = false := (by rw [hf1_ _ _ (by first | assumption | (simp; done) | (simp; omega) | omega)]; first | assumption | (simp [go_sem]; done) | (simp [go_sem, *]; done)); clear hc1_ hf1_; clear hb1_ hp1_)
    rw [H.out]
    (go_wp2_with (fail); refine (H1.out _).mono ?_; rintro e w2_ ⟨rfl, hb2_⟩; have hp2_ : Below w1_.heap.size w1_ w2_ := Below.trans (by (repeat' first | (with_reducible first | exact Below.refl _ _ | assumption | refine Kit.below_drewN ?_ _ | refine Below.drew ?_ | refine Below.alloc ?_ ?_ _ | refine Below.setCell ?_ ?_ _ | exact Nat.le_refl _) | omega | (simp; omega) | (simp; done) | (apply Below.size; assumption))) (hb2_.mono (by first | assumption | (simp; done) | (simp; omega) | omega)); have hw2_ : Below w.heap.size w w2_ := hw1_.trans (hp2_.mono hw1_.size); have z2_w : w.heap.size < w2_.heap.size := Nat.lt_of_lt_of_le z1_w hp2_.size; have g2_w_0 := Kit.ck hp2_ g1_w_0 z1_w; have g2_w_1 := Kit.ck hp2_ g1_w_1 z1_w; have g2_w_2 := Kit.ck hp2_ g1_w_2 z1_w; have g2_w_3 := Kit.ck hp2_ g1_w_3 z1_w; have z2_w_1 : w.heap.size + 1 < w2_.heap.size := Nat.lt_of_lt_of_le z1_w_1 hp2_.size; have g2_w_1_0 := Kit.ck hp2_ g1_w_1_0 z1_w_1; have f2_w_1_0 := Kit.fk hp2_ f1_w_1_0 z1_w_1; have g2_w_1_1 := Kit.ck hp2_ g1_w_1_1 z1_w_1; have f2_w_1_1 := Kit.fk hp2_ f1_w_1_1 z1_w_1; have g2_w_1_2 := Kit.ck hp2_ g1_w_1_2 z1_w_1; have f2_w_1_2 := Kit.fk hp2_ f1_w_1_2 z1_w_1; have g2_w_1_3 := Kit.ck hp2_ g1_w_1_3 z1_w_1; have f2_w_1_3 := Kit.fk hp2_ f1_w_1_3 z1_w_1; clear z1_w g1_w_0 g1_w_1 g1_w_2 g1_w_3 z1_w_1 g1_w_1_0 f1_w_1_0 g1_w_1_1 f1_w_1_1 g1_w_1_2 f1_w_1_2 g1_w_1_3 f1_w_1_3 hw1_ hb2_ hp2_)
    (go_wp2_with (fail); refine (H2.out _).mono ?_; rintro e w3_ ⟨rfl, hb3_⟩; have hp3_ : Below w2_.heap.size w2_ w3_ := Below.trans (by (repeat' first | (with_reducible first | exact Below.refl _ _ | assumption | refine Kit.below_drewN ?_ _ | refine Below.drew ?_ | refine Below.alloc ?_ ?_ _ | refine Below.setCell ?_ ?_ _ | exact Nat.le_refl _) | omega | (simp; omega) | (simp; done) | (apply Below.size; assumption))) (hb3_.mono (by first | assumption | (simp; done) | (simp; omega) | omega)); have hw3_ : Below w.heap.size w w3_ := hw2_.trans (hp3_.mono hw2_.size); have z3_w : w.heap.size < w3_.heap.size := Nat.lt_of_lt_of_le z2_w hp3_.size; have g3_w_0 := Kit.ck hp3_ g2_w_0 z2_w; have g3_w_1 := Kit.ck hp3_ g2_w_1 z2_w; have g3_w_2 := Kit.ck hp3_ g2_w_2 z2_w; have g3_w_3 := Kit.ck hp3_ g2_w_3 z2_w; have z3_w_1 : w.heap.size + 1 < w3_.heap.size := Nat.lt_of_lt_of_le z2_w_1 hp3_.size; have g3_w_1_0 := Kit.ck hp3_ g2_w_1_0 z2_w_1; have f3_w_1_0 := Kit.fk hp3_ f2_w_1_0 z2_w_1; have g3_w_1_1 := Kit.ck hp3_ g2_w_1_1 z2_w_1; have f3_w_1_1 := Kit.fk hp3_ f2_w_1_1 z2_w_1; have g3_w_1_2 := Kit.ck hp3_ g2_w_1_2 z2_w_1; have f3_w_1_2 := Kit.fk hp3_ f2_w_1_2 z2_w_1; have g3_w_1_3 := Kit.ck hp3_ g2_w_1_3 z2_w_1; have f3_w_1_3 := Kit.fk hp3_ f2_w_1_3 z2_w_1; obtain ⟨hc3_, hf3_⟩ := Kit.bcell hb3_; have z3_w2 : w2_.heap.size < w3_.heap.size := (by have := hb3_.size; first | omega | (simp at this; omega)); obtain ⟨g3_w2_0, g3_w2_1⟩ : w3_.cell? ⟨w2_.heap.size, 0, none⟩ = some (.int .i64 r1) ∧ w3_.cell? ⟨w2_.heap.size, 1, none⟩ = some (.int .i64 r2) := (by refine ⟨?_, ?_⟩ <;> (rw [hc3_ _ _ (by first | assumption | (simp; done) | (simp; omega) | omega)]; first | assumption | (simp [go_sem]; done) | (simp [go_sem, *]; done))); clear hc3_ hf3_; clear z2_w g2_w_0 g2_w_1 g2_w_2 g2_w_3 z2_w_1 g2_w_1_0 f2_w_1_0 g2_w_1_1 f2_w_1_1 g2_w_1_2 f2_w_1_2 g2_w_1_3 f2_w_1_3 hw2_ hb3_ hp3_)
    go_wp2
    (refine bodyPost_ret (by simp [results, Tryd.results67, go_sem, Kit.cell_set, g3_w_1_0, g3_w_1_1, g3_w_1_2, g3_w_1_3, z3_w_1]; try rfl) rfl ?_)
    exact ⟨rfl, by (repeat' first | (with_reducible first | exact Below.refl _ _ | assumption | refine Kit.below_drewN ?_ _ | refine Below.drew ?_ | refine Below.alloc ?_ ?_ _ | refine Below.setCell ?_ ?_ _ | exact Nat.le_refl _) | omega | (simp; omega) | (simp; done) | (apply Below.size; assumption))⟩
end Go.Proofs.YtjoieglhmladhaaDoor
