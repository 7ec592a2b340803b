/- Walks: package apart: valid. -/
import Derived.Test.YtjoieglhmladhaaDoorSp
namespace Go.Proofs.YtjoieglhmladhaaDoor
set_option linter.unusedVariables false
set_option linter.unusedSimpArgs false
open Go.RowKit

set_option maxHeartbeats 400000 in
theorem ap_valid (a b c d : Int) (w : World) :
    Calls Tryd.prog 35 #[Sp.boxV a b c d] w fun e w' => e = .returned (.bool (Sp.okBox a b c d)) ∧ Below w.heap.size w w' := by
  cases h : Sp.okBox a b c d
  · go_enter Tryd.func35, Tryd.ntmps35
    skip
    (go_wp2_with (fail); refine ((sp_join_1 a b c d a b c d _ (by assumption) : Sp.JoinIs _ _ _ _ _ _ _ _ _ _ _ _ _ _)).mono ?_; rintro e w1_ ⟨rfl, hb1_⟩; have hp1_ : Below w.heap.size w w1_ := Below.trans (by (repeat' first | (with_reducible first | exact Below.refl _ _ | assumption | refine Kit.below_drewN ?_ _ | refine Below.drew ?_ | refine Below.alloc ?_ ?_ _ | refine Below.setCell ?_ ?_ _ | exact Nat.le_refl _) | omega | (simp; omega) | (simp; done) | (apply Below.size; assumption))) (hb1_.mono (by first | assumption | (simp; done) | (simp; omega) | omega)); have hw1_ : Below w.heap.size w w1_ := hp1_; clear hb1_ hp1_)
    go_wp2
    go_ret
    exact ⟨rfl, by (repeat' first | (with_reducible first | exact Below.refl _ _ | assumption | refine Kit.below_drewN ?_ _ | refine Below.drew ?_ | refine Below.alloc ?_ ?_ _ | refine Below.setCell ?_ ?_ _ | exact Nat.le_refl _) | omega | (simp; omega) | (simp; done) | (apply Below.size; assumption))⟩
  · go_enter Tryd.func35, Tryd.ntmps35
    skip
    (go_wp2_with (fail); refine ((sp_join_3 a b c d a b c d _ (by assumption) (by assumption) : Sp.JoinIs _ _ _ _ _ _ _ _ _ _ _ _ _ _)).mono ?_; rintro e w1_ ⟨rfl, hb1_⟩; have hp1_ : Below w.heap.size w w1_ := Below.trans (by (repeat' first | (with_reducible first | exact Below.refl _ _ | assumption | refine Kit.below_drewN ?_ _ | refine Below.drew ?_ | refine Below.alloc ?_ ?_ _ | refine Below.setCell ?_ ?_ _ | exact Nat.le_refl _) | omega | (simp; omega) | (simp; done) | (apply Below.size; assumption))) (hb1_.mono (by first | assumption | (simp; done) | (simp; omega) | omega)); have hw1_ : Below w.heap.size w w1_ := hp1_; clear hb1_ hp1_)
    go_wp2
    go_ret
    exact ⟨rfl, by (repeat' first | (with_reducible first | exact Below.refl _ _ | assumption | refine Kit.below_drewN ?_ _ | refine Below.drew ?_ | refine Below.alloc ?_ ?_ _ | refine Below.setCell ?_ ?_ _ | exact Nat.le_refl _) | omega | (simp; omega) | (simp; done) | (apply Below.size; assumption))⟩
end Go.Proofs.YtjoieglhmladhaaDoor
