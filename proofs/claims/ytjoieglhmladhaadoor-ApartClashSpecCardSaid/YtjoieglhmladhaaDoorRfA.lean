/- Walks: the references of layers 15 and 29: right, Valid, within. -/
import Derived.Test.YtjoieglhmladhaaDoorApF
namespace Go.Proofs.YtjoieglhmladhaaDoor
set_option linter.unusedVariables false
set_option linter.unusedSimpArgs false
open Go.RowKit Go.Shelf

namespace Rf
def right (a b : Int) : Bool := decide (-1099511627776 ≤ a) && decide (a ≤ b) && decide (b ≤ 1099511627776)
theorem right_box (a b c d : Int) : (right a b && right c d) = Sp.okBox a b c d := by
  rw [Bool.eq_iff_iff]
  simp [right, Sp.okBox, Sp.inB]
  omega
end Rf

set_option maxHeartbeats 1000000 in
theorem rf_right (a b : Int) (w : World) : Calls Tryd.prog 79 #[Sp.ranV a b] w fun e w' => e = .returned (.bool (Rf.right a b)) ∧ Below w.heap.size w w' := by
  have fin : ∀ p q r : Bool, decide (-1099511627776 ≤ a) = p → decide (a ≤ b) = q → decide (b ≤ 1099511627776) = r → Calls Tryd.prog 79 #[Sp.ranV a b] w fun e w' => e = .returned (.bool (p && q && r)) ∧ Below w.heap.size w w' := by
    intro p q r hp hq hr
    cases p <;> cases q <;> cases r <;>
    · go_enter Tryd.func79, Tryd.ntmps79
      go_wp2
      go_ret
      exact ⟨rfl, by (repeat' first | (with_reducible first | exact Below.refl _ _ | assumption | refine Kit.below_drewN ?_ _ | refine Below.drew ?_ | refine Below.alloc ?_ ?_ _ | refine Below.setCell ?_ ?_ _ | exact Nat.le_refl _) | omega | (simp; omega) | (simp; done) | (apply Below.size; assumption))⟩
  exact fin _ _ _ rfl rfl rfl

set_option maxHeartbeats 1000000 in
theorem rf_valid (a b c d : Int) (w : World) : Calls Tryd.prog 66 #[Sp.boxV a b c d] w fun e w' => e = .returned (.bool (Sp.okBox a b c d)) ∧ Below w.heap.size w w' := by
  rw [← Rf.right_box]
  rcases h : Rf.right a b with _ | _
  · have H := Lib.hid h; clear h
    go_enter Tryd.func66, Tryd.ntmps66
    skip
    (go_wp2_with (fail); refine (rf_right a b _).mono ?_; rintro e w1_ ⟨rfl, hb1_⟩; have hp1_ : Below w.heap.size w w1_ := Below.trans (by (repeat' first | (with_reducible first | exact Below.refl _ _ | assumption | refine Kit.below_drewN ?_ _ | refine Below.drew ?_ | refine Below.alloc ?_ ?_ _ | refine Below.setCell ?_ ?_ _ | exact Nat.le_refl _) | omega | (simp; omega) | (simp; done) | (apply Below.size; assumption))) (hb1_.mono (by first | assumption | (simp; done) | (simp; omega) | omega)); have hw1_ : Below w.heap.size w w1_ := hp1_; obtain ⟨hc1_, hf1_⟩ := Kit.bcell hb1_; have z1_w : w.heap.size < w1_.heap.size := (by have := hb1_.size; first | omega | (simp at this; omega)); obtain ⟨g1_w_0, g1_w_1, g1_w_2, g1_w_3⟩ : w1_.cell? ⟨w.heap.size, 0, none⟩ = some (.int .i64 a) ∧ w1_.cell? ⟨w.heap.size, 1, none⟩ = some (.int .i64 b) ∧ w1_.cell? ⟨w.heap.size, 2, none⟩ = some (.int .i64 c) ∧ w1_.cell? ⟨w.heap.size, 3, none⟩ = some (.int .i64 d) := (by refine ⟨?_, ?_, ?_, ?_⟩ <;> (rw [hc1_ _ _ (by first | assumption | (simp; done) | (simp; omega) | omega)]; first | assumption | (simp [go_sem]; done) | (simp [go_sem, *]; done))); clear hc1_ hf1_; clear hb1_ hp1_)
    rw [H.out]
    go_wp2
    go_ret
    exact ⟨rfl, by (repeat' first | (with_reducible first | exact Below.refl _ _ | assumption | refine Kit.below_drewN ?_ _ | refine Below.drew ?_ | refine Below.alloc ?_ ?_ _ | refine Below.setCell ?_ ?_ _ | exact Nat.le_refl _) | omega | (simp; omega) | (simp; done) | (apply Below.size; assumption))⟩
  · have H := Lib.hid h; clear h
    go_enter Tryd.func66, Tryd.ntmps66
    skip
    (go_wp2_with (fail); refine (rf_right a b _).mono ?_; rintro e w1_ ⟨rfl, hb1_⟩; have hp1_ : Below w.heap.size w w1_ := Below.trans (by (repeat' first | (with_reducible first | exact Below.refl _ _ | assumption | refine Kit.below_drewN ?_ _ | refine Below.drew ?_ | refine Below.alloc ?_ ?_ _ | refine Below.setCell ?_ ?_ _ | exact Nat.le_refl _) | omega | (simp; omega) | (simp; done) | (apply Below.size; assumption))) (hb1_.mono (by first | assumption | (simp; done) | (simp; omega) | omega)); have hw1_ : Below w.heap.size w w1_ := hp1_; obtain ⟨hc1_, hf1_⟩ := Kit.bcell hb1_; have z1_w : w.heap.size < w1_.heap.size := (by have := hb1_.size; first | omega | (simp at this; omega)); obtain ⟨g1_w_0, g1_w_1, g1_w_2, g1_w_3⟩ : w1_.cell? ⟨w.heap.size, 0, none⟩ = some (.int .i64 a) ∧ w1_.cell? ⟨w.heap.size, 1, none⟩ = some (.int .i64 b) ∧ w1_.cell? ⟨w.heap.size, 2, none⟩ = some (.int .i64 c) ∧ w1_.cell? ⟨w.heap.size, 3, none⟩ = some (.int .i64 d) := (by refine ⟨?_, ?_, ?_, ?_⟩ <;> (rw [hc1_ _ _ (by first | assumption | (simp; done) | (simp; omega) | omega)]; first | assumption | (simp [go_sem]; done) | (simp [go_sem, *]; done))); clear hc1_ hf1_; clear hb1_ hp1_)
    rw [H.out]
    (go_wp2_with (fail); refine (rf_right c d _).mono ?_; rintro e w2_ ⟨rfl, hb2_⟩; have hp2_ : Below w1_.heap.size w1_ w2_ := Below.trans (by (repeat' first | (with_reducible first | exact Below.refl _ _ | assumption | refine Kit.below_drewN ?_ _ | refine Below.drew ?_ | refine Below.alloc ?_ ?_ _ | refine Below.setCell ?_ ?_ _ | exact Nat.le_refl _) | omega | (simp; omega) | (simp; done) | (apply Below.size; assumption))) (hb2_.mono (by first | assumption | (simp; done) | (simp; omega) | omega)); have hw2_ : Below w.heap.size w w2_ := hw1_.trans (hp2_.mono hw1_.size); have z2_w : w.heap.size < w2_.heap.size := Nat.lt_of_lt_of_le z1_w hp2_.size; have g2_w_0 := Kit.ck hp2_ g1_w_0 z1_w; have g2_w_1 := Kit.ck hp2_ g1_w_1 z1_w; have g2_w_2 := Kit.ck hp2_ g1_w_2 z1_w; have g2_w_3 := Kit.ck hp2_ g1_w_3 z1_w; clear z1_w g1_w_0 g1_w_1 g1_w_2 g1_w_3 hw1_ hb2_ hp2_)
    go_wp2
    go_ret
    exact ⟨by simp, by (repeat' first | (with_reducible first | exact Below.refl _ _ | assumption | refine Kit.below_drewN ?_ _ | refine Below.drew ?_ | refine Below.alloc ?_ ?_ _ | refine Below.setCell ?_ ?_ _ | exact Nat.le_refl _) | omega | (simp; omega) | (simp; done) | (apply Below.size; assumption))⟩

theorem rf_within (n lo hi : Int) (w : World) : Calls Tryd.prog 40 #[.int .i64 n, .int .i64 lo, .int .i64 hi] w fun e w' => e = .returned (.bool (Tp.inb n lo hi)) ∧ w = w' := by
  have fin : ∀ p q : Bool, decide (lo ≤ n) = p → decide (n ≤ hi) = q → Calls Tryd.prog 40 #[.int .i64 n, .int .i64 lo, .int .i64 hi] w fun e w' => e = .returned (.bool (p && q)) ∧ w = w' := by
    intro p q hp hq
    cases p <;> cases q <;>
    · go_enter Tryd.func40, Tryd.ntmps40
      go_wp2
      go_ret
      exact ⟨rfl, rfl⟩
  exact fin _ _ rfl rfl
end Go.Proofs.YtjoieglhmladhaaDoor
