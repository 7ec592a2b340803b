/- Walks: the references of layer 15: hull, moved. -/
import Derived.Test.YtjoieglhmladhaaDoorRfA
namespace Go.Proofs.YtjoieglhmladhaaDoor
set_option linter.unusedVariables false
set_option linter.unusedSimpArgs false
open Go.RowKit Go.Shelf

set_option maxHeartbeats 1000000 in
theorem rf_hull (a b c d : Int) (w : World) : Calls Tryd.prog 68 #[Sp.ranV a b, Sp.ranV c d] w fun e w' => e = .returned (Sp.ranV (Kit.mn2 a c) (Kit.mx2 b d)) ∧ Below w.heap.size w w' := by
  have m1 : (if c < a then c else a) = Kit.mn2 a c := rfl
  have m2 : (if b < d then d else b) = Kit.mx2 b d := rfl
  go_enter Tryd.func68, Tryd.ntmps68
  go_wp2
  (refine bodyPost_ret (by simp [results, Tryd.results68, go_sem, Kit.cell_set]; try rfl) rfl ?_)
  exact ⟨rfl, by (repeat' first | (with_reducible first | exact Below.refl _ _ | assumption | refine Kit.below_drewN ?_ _ | refine Below.drew ?_ | refine Below.alloc ?_ ?_ _ | refine Below.setCell ?_ ?_ _ | exact Nat.le_refl _) | omega | (simp; omega) | (simp; done) | (apply Below.size; assumption))⟩

set_option maxHeartbeats 1000000 in
theorem rf_moved_1 (a b n : Int) (w : World) (h : Tp.inb n (-2199023255552) 2199023255552 = false) : Calls Tryd.prog 80 #[Sp.ranV a b, .int .i64 n] w fun e w' => e = .returned (.tuple #[Sp.ranV a b, .bool false]) ∧ Below w.heap.size w w' := by
  have fin : ∀ p q : Bool, decide (n < -2199023255552) = p → decide (2199023255552 < n) = q → (p || q) = true → Calls Tryd.prog 80 #[Sp.ranV a b, .int .i64 n] w fun e w' => e = .returned (.tuple #[Sp.ranV a b, .bool false]) ∧ Below w.heap.size w w' := by
    intro p q hp hq hpq
    cases p
    · cases q
      · simp at hpq
      · clear hpq
        go_enter Tryd.func80, Tryd.ntmps80
        go_wp2
        (refine bodyPost_ret (by simp [results, Tryd.results80, go_sem, Kit.cell_set]; try rfl) rfl ?_)
        exact ⟨rfl, by (repeat' first | (with_reducible first | exact Below.refl _ _ | assumption | refine Kit.below_drewN ?_ _ | refine Below.drew ?_ | refine Below.alloc ?_ ?_ _ | refine Below.setCell ?_ ?_ _ | exact Nat.le_refl _) | omega | (simp; omega) | (simp; done) | (apply Below.size; assumption))⟩
    · clear hpq hq
      go_enter Tryd.func80, Tryd.ntmps80
      go_wp2
      (refine bodyPost_ret (by simp [results, Tryd.results80, go_sem, Kit.cell_set]; try rfl) rfl ?_)
      exact ⟨rfl, by (repeat' first | (with_reducible first | exact Below.refl _ _ | assumption | refine Kit.below_drewN ?_ _ | refine Below.drew ?_ | refine Below.alloc ?_ ?_ _ | refine Below.setCell ?_ ?_ _ | exact Nat.le_refl _) | omega | (simp; omega) | (simp; done) | (apply Below.size; assumption))⟩
  refine fin _ _ rfl rfl ?_
  simp [Tp.inb] at h
  simp
  omega

set_option maxHeartbeats 1000000 in
theorem rf_moved_2 (a b n : Int) (w : World) (h : -2199023255552 ≤ n ∧ n ≤ 2199023255552) (ha : -1099511627776 ≤ a ∧ a ≤ 1099511627776) (hb : -1099511627776 ≤ b ∧ b ≤ 1099511627776) :
    Calls Tryd.prog 80 #[Sp.ranV a b, .int .i64 n] w fun e w' => e = .returned (.tuple #[Sp.ranV (a + n) (b + n), .bool (Rf.right (a + n) (b + n))]) ∧ Below w.heap.size w w' := by
  have d1 : decide (n < -2199023255552) = false := by simp; omega
  have d2 : decide (2199023255552 < n) = false := by simp; omega
  go_enter Tryd.func80, Tryd.ntmps80
  ((go_wp2_with (refine Kit.veil ?_; intro X HX)); rw [HX.out]; clear HX)
  refine Kit.wp_name ?_
  intro W hW
  have sW : W.heap.size = w.heap.size + 1 + 1 + 1 := by rw [hW]; simp
  have bW : Below w.heap.size w W := by rw [hW]; (repeat' first | (with_reducible first | exact Below.refl _ _ | assumption | refine Kit.below_drewN ?_ _ | refine Below.drew ?_ | refine Below.alloc ?_ ?_ _ | refine Below.setCell ?_ ?_ _ | exact Nat.le_refl _) | omega | (simp; omega) | (simp; done) | (apply Below.size; assumption))
  have k0 : ∀ z : Kit.Wd W, z.val.cell? ⟨w.heap.size + 1 + 1, 0, none⟩ = some (.int .i64 (a + n)) := fun z => z.cell (by rw [hW]; simp [go_sem]) (by simp; omega)
  have k1 : ∀ z : Kit.Wd W, z.val.cell? ⟨w.heap.size + 1 + 1, 1, none⟩ = some (.int .i64 (b + n)) := fun z => z.cell (by rw [hW]; simp [go_sem]) (by simp; omega)
  have q0 : ∀ z : Kit.Wd W, z.val.cell? ⟨w.heap.size + 1, 0, none⟩ = some (.int .i64 0) := fun z => z.cell (by rw [hW]; simp [go_sem]) (by simp; omega)
  have q1 : ∀ z : Kit.Wd W, z.val.cell? ⟨w.heap.size + 1, 1, none⟩ = some (.int .i64 0) := fun z => z.cell (by rw [hW]; simp [go_sem]) (by simp; omega)
  have f0 : ∀ z : Kit.Wd W, z.val.frozen? ⟨w.heap.size + 1, 0, none⟩ = false := fun z => (z.below.frozen (by simp; omega)).trans (by rw [hW]; simp [go_sem])
  have f1 : ∀ z : Kit.Wd W, z.val.frozen? ⟨w.heap.size + 1, 1, none⟩ = false := fun z => (z.below.frozen (by simp; omega)).trans (by rw [hW]; simp [go_sem])
  clear hW
  (refine Kit.wp_region_cls_tail 3 (by kernel_rfl) (by kernel_rfl) ?_; simp only [List.take_succ_cons, List.take_zero, List.drop_succ_cons, List.drop_zero]; (repeat (go_big_quiet_step (exact Kit.calls_cls _ (rf_right (a + n) (b + n) _)))); refine wpQuiet_nil ?_; intro z)
  have hz := z.below
  have y0 := q0 z
  have y1 := q1 z
  have x0 := f0 z
  have x1 := f1 z
  generalize z.val = Z at *
  have HZ := Lib.hid (bW.trans (hz.mono bW.size))
  have zz := hz.size
  clear k0 k1 q0 q1 f0 f1 hz
  go_wp2
  (refine bodyPost_ret (by simp [results, Tryd.results80, go_sem, Kit.cell_set, y0, y1]; try rfl) rfl ?_)
  exact ⟨rfl, by have := HZ.out; (repeat' first | (with_reducible first | exact Below.refl _ _ | assumption | refine Kit.below_drewN ?_ _ | refine Below.drew ?_ | refine Below.alloc ?_ ?_ _ | refine Below.setCell ?_ ?_ _ | exact Nat.le_refl _) | omega | (simp; omega) | (simp; done) | (apply Below.size; assumption))⟩
end Go.Proofs.YtjoieglhmladhaaDoor
