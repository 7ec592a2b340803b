/- Order, of the package and of its reference, in one form. -/
import Derived.Test.YtjkkkdfbfdiidaaTurnF
import Derived.Test.YtjkkkdfbfdiidaaTurnT
import Derived.Test.YtjkkkdfbfdiidaaTmathD
namespace Go.Proofs.Ytjkkkdfbfdiidaa
set_option linter.unusedVariables false
set_option linter.unusedSimpArgs false
open Go.RowKit

theorem ordB_eq (a b a' b' : Int) (e : ¬(a = a' ∧ b = b')) : ordB (Tm.lower a b) (Tm.lower a' b') (decide (b * a' < a * b')) = Tm.ord a b a' b' := by
  have hx : decide (b * a' < a * b') = decide (0 < Tm.crs a b a' b') := by rw [decide_eq_decide]; unfold Tm.crs; omega
  rw [hx]
  unfold ordB Tm.ord
  rw [if_neg e]
  cases Tm.lower a b <;> cases Tm.lower a' b' <;> simp
theorem rordB_eq {a b c a' b' c' : Int} (h : Tm.vld a b c = true) (h' : Tm.vld a' b' c' = true) : rordB (Tm.lower a b) (Tm.lower a' b') (a * b' - b * a') = Tm.ord a b a' b' := by
  have hx : a * b' - b * a' = Tm.crs a b a' b' := rfl
  rw [hx]
  by_cases e : a = a' ∧ b = b'
  · obtain ⟨rfl, rfl⟩ := e
    rw [Tm.ord_zero.2 ⟨rfl, rfl⟩]
    have : Tm.crs a b a b = 0 := by unfold Tm.crs; rw [Int.mul_comm]; omega
    rw [this]
    unfold rordB
    simp
  · unfold rordB Tm.ord
    rw [if_neg e]
    by_cases hl : Tm.lower a b = Tm.lower a' b'
    · have : Tm.crs a b a' b' ≠ 0 := fun hx => e ⟨(Tm.same_of_par h h' hl hx).1, (Tm.same_of_par h h' hl hx).2.1⟩
      rw [if_pos hl, hl]
      simp only [bne_self_eq_false, Bool.false_eq_true, if_false]
      split
      · rfl
      · rw [if_pos (by omega)]
    · rw [if_neg hl]
      cases ha : Tm.lower a b <;> cases hb : Tm.lower a' b' <;> rw [ha, hb] at hl <;> simp_all
theorem t_ord (a b c a' b' c' : Int) (w : World) (h : Tm.vld a b c = true) (h' : Tm.vld a' b' c' = true) : TOrder a b c a' b' c' w (Tm.ord a b a' b') 0 := by
  by_cases e : a = a' ∧ b = b'
  · have ec : c = c' := (Tm.same_of_par h h' (by rw [e.1, e.2]) (by rw [e.1, e.2]; unfold Tm.crs; rw [Int.mul_comm]; omega)).2.2
    obtain ⟨rfl, rfl⟩ := e
    subst ec
    rw [Tm.ord_zero.2 ⟨rfl, rfl⟩]
    exact t_order_3 a b c w h
  · rw [← ordB_eq a b a' b' e]
    refine t_order_4 a b c a' b' c' _ _ _ w h h' rfl rfl rfl ?_
    by_cases ha : a = a'
    · right; left
      exact ⟨by rw [beq_iff_eq]; exact ha, by rw [beq_eq_false_iff_ne]; exact fun hb => e ⟨ha, hb⟩⟩
    · left; rw [beq_eq_false_iff_ne]; exact ha
theorem r_ord (a b c a' b' c' : Int) (w : World) (h : Tm.vld a b c = true) (h' : Tm.vld a' b' c' = true) : ROrder a b c a' b' c' w (Tm.ord a b a' b') 0 := by
  rw [← rordB_eq h h']
  exact r_order_3 a b c a' b' c' _ _ w h h' rfl rfl
theorem ord_same (a b c a' b' c' : Int) : ∃ x r : Int, (∀ w, TOrder a b c a' b' c' w x r) ∧ (∀ w, ROrder a b c a' b' c' w x r) := by
  cases h : Tm.vld a b c
  · exact ⟨_, _, fun w => t_order_1 a b c a' b' c' w h, fun w => r_order_1 a b c a' b' c' w h⟩
  cases h' : Tm.vld a' b' c'
  · exact ⟨_, _, fun w => t_order_2 a b c a' b' c' w h h', fun w => r_order_2 a b c a' b' c' w h h'⟩
  · exact ⟨_, _, fun w => t_ord a b c a' b' c' w h h', fun w => r_ord a b c a' b' c' w h h'⟩
end Go.Proofs.Ytjkkkdfbfdiidaa
