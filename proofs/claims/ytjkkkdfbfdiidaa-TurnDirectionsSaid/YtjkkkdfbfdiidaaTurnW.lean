/- Compose and Inverse, of the package and of its reference, in one form each. -/
import Derived.Test.YtjkkkdfbfdiidaaTurnD
import Derived.Test.YtjkkkdfbfdiidaaTurnE
import Derived.Test.YtjkkkdfbfdiidaaTurnS
import Derived.Test.YtjkkkdfbfdiidaaTurnT
import Derived.Test.YtjkkkdfbfdiidaaTmathC
namespace Go.Proofs.Ytjkkkdfbfdiidaa
set_option linter.unusedVariables false
set_option linter.unusedSimpArgs false
open Go.RowKit

theorem t_cmp (a b c a' b' c' : Int) (w : World) : TCompose a b c a' b' c' w (Tm.cmp a b c a' b' c').1 (Tm.cmp a b c a' b' c').2.1 (Tm.cmp a b c a' b' c').2.2.1 (Tm.cmp a b c a' b' c').2.2.2 := by
  cases h : Tm.vld a b c
  · have e : Tm.cmp a b c a' b' c' = (0, 0, 0, 140) := by unfold Tm.cmp; rw [if_neg (by rw [h]; simp)]
    rw [e]; exact t_compose_1 a b c a' b' c' w h
  cases h' : Tm.vld a' b' c'
  · have e : Tm.cmp a b c a' b' c' = (0, 0, 0, 140) := by unfold Tm.cmp; rw [if_neg (by rw [h']; simp)]
    rw [e]; exact t_compose_2 a b c a' b' c' w h h'
  by_cases hl : (c * c').tdiv (Tm.cD a b c a' b' c') ≤ 32768
  · rw [Tm.cmp_ok h h' hl]; exact t_compose_3 a b c a' b' c' _ w h h' (Tm.cD_pos h h') rfl hl
  · rw [Tm.cmp_lim h h' hl]; exact t_compose_4 a b c a' b' c' _ w h h' (Tm.cD_pos h h') rfl (by omega)
theorem r_cmp (a b c a' b' c' : Int) (w : World) : RCompose a b c a' b' c' w (Tm.cmp a b c a' b' c').1 (Tm.cmp a b c a' b' c').2.1 (Tm.cmp a b c a' b' c').2.2.1 (Tm.cmp a b c a' b' c').2.2.2 := by
  cases h : Tm.vld a b c
  · have e : Tm.cmp a b c a' b' c' = (0, 0, 0, 140) := by unfold Tm.cmp; rw [if_neg (by rw [h]; simp)]
    rw [e]; exact r_compose_1 a b c a' b' c' w h
  cases h' : Tm.vld a' b' c'
  · have e : Tm.cmp a b c a' b' c' = (0, 0, 0, 140) := by unfold Tm.cmp; rw [if_neg (by rw [h']; simp)]
    rw [e]; exact r_compose_2 a b c a' b' c' w h h'
  by_cases hl : (c * c').tdiv (Tm.cD a b c a' b' c') ≤ 32768
  · rw [Tm.cmp_ok h h' hl]; exact r_compose_3 a b c a' b' c' _ w h h' (Tm.cD_pos h h') rfl hl
  · rw [Tm.cmp_lim h h' hl]; exact r_compose_4 a b c a' b' c' _ w h h' (Tm.cD_pos h h') rfl (by omega)

def TInv (a b c : Int) (w : World) (x y z r : Int) : Prop := Calls Try.prog 22 #[.agg #[.int .i64 a, .int .i64 b, .int .i64 c]] w fun e w' => e = .returned (.tuple #[.agg #[.int .i64 x, .int .i64 y, .int .i64 z], .int .i64 r]) ∧ Below w.heap.size w w'
def RInv (a b c : Int) (w : World) (x y z r : Int) : Prop := Calls Try.prog 23 #[.agg #[.int .i64 a, .int .i64 b, .int .i64 c]] w fun e w' => e = .returned (.tuple #[.agg #[.int .i64 x, .int .i64 y, .int .i64 z], .int .i64 r]) ∧ Below w.heap.size w w'
theorem inv_same (a b c : Int) : ∃ x y z r : Int, (∀ w, TInv a b c w x y z r) ∧ (∀ w, RInv a b c w x y z r) := by
  cases h : Tm.vld a b c
  · exact ⟨_, _, _, _, fun w => t_inverse_no a b c w h, fun w => r_inverse_no a b c w h⟩
  · exact ⟨_, _, _, _, fun w => t_inverse_ok a b c w h, fun w => r_inverse_ok a b c w h⟩
end Go.Proofs.Ytjkkkdfbfdiidaa
