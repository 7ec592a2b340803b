/- Walks: Make, Compose, Inverse (package turn). -/
import Derived.Test.YtjkkkdfbfdiidaaTurnC
import Derived.Test.YtjkkkdfbfdiidaaKitb
namespace Go.Proofs.Ytjkkkdfbfdiidaa
set_option linter.unusedVariables false
set_option linter.unusedSimpArgs false
open Go.RowKit

set_option maxHeartbeats 1000000 in
theorem t_make_err (p q : Int) (w : World) (h : p < -127 ∨ q < -127 ∨ 127 < p ∨ 127 < q ∨ (p = 0 ∧ q = 0)) :
    Calls Try.prog 12 #[.int .i64 p, .int .i64 q] w fun e w' => e = .returned (.tuple #[.agg #[.int .i64 0, .int .i64 0, .int .i64 0], .int .i64 1]) ∧ Below w.heap.size w w' := by
  by_cases h1 : p < -127 ∨ q < -127
  · have d1 : decide ((if q < p then q else p) < -127) = true := by rw [decide_eq_true_iff]; split <;> omega
    clear h h1
    go_enter Try.func12, Try.ntmps12
    go_wp2
    all_goals go_returns
    all_goals exact ⟨rfl, by (repeat' (first | (with_reducible exact Below.refl _ _) | (with_reducible assumption) | (with_reducible refine Kit.below_drewN ?_ _) | (with_reducible refine Below.drew ?_) | (with_reducible refine Below.alloc ?_ ?_ _) | (with_reducible refine Below.setCell ?_ ?_ _) | (with_reducible exact Nat.le_refl _) | omega | (simp; omega) | (simp; done) | (apply Below.size; assumption)))⟩
  have d1 : decide ((if q < p then q else p) < -127) = false := by rw [decide_eq_false_iff_not]; split <;> omega
  by_cases h2 : 127 < p ∨ 127 < q
  · have d2 : decide (127 < (if p < q then q else p)) = true := by rw [decide_eq_true_iff]; split <;> omega
    clear h h2 h1
    go_enter Try.func12, Try.ntmps12
    go_wp2
    all_goals go_returns
    all_goals exact ⟨rfl, by (repeat' (first | (with_reducible exact Below.refl _ _) | (with_reducible assumption) | (with_reducible refine Kit.below_drewN ?_ _) | (with_reducible refine Below.drew ?_) | (with_reducible refine Below.alloc ?_ ?_ _) | (with_reducible refine Below.setCell ?_ ?_ _) | (with_reducible exact Nat.le_refl _) | omega | (simp; omega) | (simp; done) | (apply Below.size; assumption)))⟩
  obtain ⟨rfl, rfl⟩ : p = 0 ∧ q = 0 := by omega
  clear h h2 h1 d1
  go_enter Try.func12, Try.ntmps12
  go_wp2
  all_goals go_returns
  all_goals exact ⟨rfl, by (repeat' (first | (with_reducible exact Below.refl _ _) | (with_reducible assumption) | (with_reducible refine Kit.below_drewN ?_ _) | (with_reducible refine Below.drew ?_) | (with_reducible refine Below.alloc ?_ ?_ _) | (with_reducible refine Below.setCell ?_ ?_ _) | (with_reducible exact Nat.le_refl _) | omega | (simp; omega) | (simp; done) | (apply Below.size; assumption)))⟩
set_option maxHeartbeats 1000000 in
theorem t_make_ok (p q d : Int) (w : World) (h1 : -127 ≤ p) (h2 : -127 ≤ q) (h3 : p ≤ 127) (h4 : q ≤ 127) (h5 : ¬(p = 0 ∧ q = 0)) (hd : 1 ≤ d) (HD : Hid (Tm.g3 (p * p - q * q) (2 * p * q) (p * p + q * q) = d)) :
    Calls Try.prog 12 #[.int .i64 p, .int .i64 q] w fun e w' => e = .returned (.tuple #[.agg #[.int .i64 ((p * p - q * q).tdiv d), .int .i64 ((2 * p * q).tdiv d), .int .i64 ((p * p + q * q).tdiv d)], .int .i64 0]) ∧ Below w.heap.size w w' := by
  have d1 : decide ((if q < p then q else p) < -127) = false := by rw [decide_eq_false_iff_not]; split <;> omega
  have d2 : decide (127 < (if p < q then q else p)) = false := by rw [decide_eq_false_iff_not]; split <;> omega
  have sp := Tm.sq_nat p 127 (by omega)
  have sq := Tm.sq_nat q 127 (by omega)
  have spq := Tm.mul_nat (2 * p) q 254 127 (by omega) (by omega)
  obtain ⟨a1, a2⟩ := sp; obtain ⟨a3, a4⟩ := sq; obtain ⟨a5, a6⟩ := spq
  simp only [Nat.reduceMul] at a2 a4 a5 a6
  have ma : Hid (Tm.Mod (p * p - q * q)) := by show Tm.Mod _; unfold Tm.Mod; omega
  have mb : Hid (Tm.Mod (2 * p * q)) := by show Tm.Mod _; unfold Tm.Mod; omega
  have mc : Hid (Tm.Mod (p * p + q * q)) := by show Tm.Mod _; unfold Tm.Mod; omega
  have fin : ∀ p0 q0 : Bool, (p == 0) = p0 → (q == 0) = q0 → (p0 && q0) = false → Calls Try.prog 12 #[.int .i64 p, .int .i64 q] w fun e w' => e = .returned (.tuple #[.agg #[.int .i64 ((p * p - q * q).tdiv d), .int .i64 ((2 * p * q).tdiv d), .int .i64 ((p * p + q * q).tdiv d)], .int .i64 0]) ∧ Below w.heap.size w w' := by
    intro p0 q0 e0 e1 h
    clear h5
    cases p0 <;> cases q0
    all_goals first | (cases h; done) | skip
    all_goals clear h
    all_goals
      go_enter Try.func12, Try.ntmps12
      go_wp2_with fail
      all_goals
        refine (t_lowest_d _ _ _ d _ ma.out mb.out mc.out hd HD).mono ?_
        rintro e w1 ⟨rfl, hb⟩
        obtain ⟨hc, hf⟩ := Kit.bcell hb
        have hz : w.heap.size < w1.heap.size := by have := hb.size; simp at this; omega
        have hw1 : Below w.heap.size w w1 := ((Below.refl _ _).alloc (Nat.le_refl _) _).trans (hb.mono (by simp))
        go_wp2
        (refine bodyPost_ret (by simp [results, Try.results12, go_sem, Kit.cell_set, hc]; try rfl) rfl ?_)
        exact ⟨rfl, by (repeat' (first | (with_reducible exact Below.refl _ _) | (with_reducible assumption) | (with_reducible refine Kit.below_drewN ?_ _) | (with_reducible refine Below.drew ?_) | (with_reducible refine Below.alloc ?_ ?_ _) | (with_reducible refine Below.setCell ?_ ?_ _) | (with_reducible exact Nat.le_refl _) | omega | (simp; omega) | (simp; done) | (apply Below.size; assumption)))⟩
  exact fin _ _ rfl rfl (by rw [Bool.and_eq_false_iff]; simp only [beq_eq_false_iff_ne]; omega)

set_option maxHeartbeats 1000000 in
theorem t_inverse_no (a b c : Int) (w : World) (h : Tm.vld a b c = false) :
    Calls Try.prog 22 #[.agg #[.int .i64 a, .int .i64 b, .int .i64 c]] w fun e w' => e = .returned (.tuple #[.agg #[.int .i64 0, .int .i64 0, .int .i64 0], .int .i64 140]) ∧ Below w.heap.size w w' := by
  have H := Lib.hid h; clear h
  go_enter Try.func22, Try.ntmps22
  go_wp2_with fail
  refine (t_check a b c _).mono ?_
  rw [H.out]
  rintro e w1 ⟨rfl, hb⟩
  obtain ⟨hc, hf⟩ := Kit.bcell hb
  have hz : w.heap.size + 1 < w1.heap.size := by have := hb.size; simp at this; omega
  have hw1 : Below w.heap.size w w1 := (((Below.refl _ _).alloc (Nat.le_refl _) _).alloc (by simp) _).trans (hb.mono (by simp; omega))
  go_wp2
  (refine bodyPost_ret (by simp [results, Try.results22, go_sem, Kit.cell_set, hc]; try rfl) rfl ?_)
  exact ⟨rfl, by (repeat' (first | (with_reducible exact Below.refl _ _) | (with_reducible assumption) | (with_reducible refine Kit.below_drewN ?_ _) | (with_reducible refine Below.drew ?_) | (with_reducible refine Below.alloc ?_ ?_ _) | (with_reducible refine Below.setCell ?_ ?_ _) | (with_reducible exact Nat.le_refl _) | omega | (simp; omega) | (simp; done) | (apply Below.size; assumption)))⟩
set_option maxHeartbeats 1000000 in
theorem t_inverse_ok (a b c : Int) (w : World) (h : Tm.vld a b c = true) :
    Calls Try.prog 22 #[.agg #[.int .i64 a, .int .i64 b, .int .i64 c]] w fun e w' => e = .returned (.tuple #[.agg #[.int .i64 a, .int .i64 (-b), .int .i64 c], .int .i64 0]) ∧ Below w.heap.size w w' := by
  have k := (Tm.vld_iff a b c).1 h
  obtain ⟨k1, k2, k3, k4, k5, k6, _, _⟩ := k
  have H := Lib.hid h; clear h
  go_enter Try.func22, Try.ntmps22
  go_wp2_with fail
  refine (t_check a b c _).mono ?_
  rw [H.out]
  rintro e w1 ⟨rfl, hb⟩
  obtain ⟨hc, hf⟩ := Kit.bcell hb
  have hz : w.heap.size + 1 < w1.heap.size := by have := hb.size; simp at this; omega
  have hw1 : Below w.heap.size w w1 := (((Below.refl _ _).alloc (Nat.le_refl _) _).alloc (by simp) _).trans (hb.mono (by simp; omega))
  go_wp2
  (refine bodyPost_ret (by simp [results, Try.results22, go_sem, Kit.cell_set, hc]; try rfl) rfl ?_)
  exact ⟨rfl, by (repeat' (first | (with_reducible exact Below.refl _ _) | (with_reducible assumption) | (with_reducible refine Kit.below_drewN ?_ _) | (with_reducible refine Below.drew ?_) | (with_reducible refine Below.alloc ?_ ?_ _) | (with_reducible refine Below.setCell ?_ ?_ _) | (with_reducible exact Nat.le_refl _) | omega | (simp; omega) | (simp; done) | (apply Below.size; assumption)))⟩
end Go.Proofs.Ytjkkkdfbfdiidaa
