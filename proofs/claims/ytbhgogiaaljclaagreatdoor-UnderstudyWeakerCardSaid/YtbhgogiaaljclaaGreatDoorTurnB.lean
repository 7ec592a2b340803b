/- Walks: lowest terms (package turn). -/
import Derived.Test.YtbhgogiaaljclaaGreatDoorTurnA
import Derived.Test.YtbhgogiaaljclaaGreatDoorKit
namespace Go.Proofs.YtbhgogiaaljclaaGreatDoor
set_option linter.unusedVariables false
set_option linter.unusedSimpArgs false
open Go.RowKit

set_option maxHeartbeats 400000 in
theorem t_lowest_d (a b c d : Int) (w : World) (ha : Tm.Mod a) (hb : Tm.Mod b) (hc : Tm.Mod c) (hg : 1 ≤ d) (HD : Hid (Tm.g3 a b c = d)) :
    Calls Tryz.prog 117 #[.agg #[.int .i64 a, .int .i64 b, .int .i64 c]] w fun e w' =>
      e = .returned (.agg #[.int .i64 (a.tdiv d), .int .i64 (b.tdiv d), .int .i64 (c.tdiv d)]) ∧ Below w.heap.size w w' := by
  have k1 := (Tm.tdiv_mod a d ha).lo; have k2 := (Tm.tdiv_mod a d ha).hi
  have k3 := (Tm.tdiv_mod b d hb).lo; have k4 := (Tm.tdiv_mod b d hb).hi
  have k5 := (Tm.tdiv_mod c d hc).lo; have k6 := (Tm.tdiv_mod c d hc).hi
  have k8 := (Tm.g3_mod a b c ha hb hc).hi
  rw [HD.out] at k8
  go_enter Tryz.func117, Tryz.ntmps117
  go_wp2_with fail
  refine (t_common _ a b c _ ha hb hc ?_).mono ?_
  · intro k hk
    match k, hk with
    | 0, _ => simp [Tm.nth, Addr.add, go_sem]
    | 1, _ => simp [Tm.nth, Addr.add, go_sem]
    | 2, _ => simp [Tm.nth, Addr.add, go_sem]
  rintro e w' ⟨rfl, n, rfl⟩
  rw [HD.out]
  go_wp2
  (refine Kit.wp_region_drew_tail 13 (by kernel_rfl) (by kernel_rfl) ?_; simp only [List.take_succ_cons, List.take_zero, List.drop_succ_cons, List.drop_zero]; (repeat (go_big_quiet_step (fail))); refine wpQuiet_nil ?_; intro _ hw'; obtain ⟨nq, hw''⟩ := hw'; subst hw'')
  go_wp2
  go_returns
  exact ⟨rfl, by (repeat' first | (with_reducible first | exact Below.refl _ _ | assumption | refine Kit.below_drewN ?_ _ | refine Below.drew ?_ | refine Below.alloc ?_ ?_ _ | refine Below.setCell ?_ ?_ _ | exact Nat.le_refl _) | omega | (simp; omega) | (simp; done) | (apply Below.size; assumption))⟩
theorem t_lowest (a b c : Int) (w : World) (ha : Tm.Mod a) (hb : Tm.Mod b) (hc : Tm.Mod c) (hg : 1 ≤ Tm.g3 a b c) :
    Calls Tryz.prog 117 #[.agg #[.int .i64 a, .int .i64 b, .int .i64 c]] w fun e w' =>
      e = .returned (.agg #[.int .i64 (a.tdiv (Tm.g3 a b c)), .int .i64 (b.tdiv (Tm.g3 a b c)), .int .i64 (c.tdiv (Tm.g3 a b c))]) ∧ Below w.heap.size w w' :=
  t_lowest_d a b c _ w ha hb hc hg rfl
theorem t_lowest_1 (a b c : Int) (w : World) (ha : Tm.Mod a) (hb : Tm.Mod b) (hc : Tm.Mod c) (hg : Hid (Tm.g3 a b c = 1)) :
    Calls Tryz.prog 117 #[.agg #[.int .i64 a, .int .i64 b, .int .i64 c]] w fun e w' =>
      e = .returned (.agg #[.int .i64 a, .int .i64 b, .int .i64 c]) ∧ Below w.heap.size w w' := by
  have h := t_lowest_d a b c 1 w ha hb hc (by omega) hg
  simpa only [Int.tdiv_one] using h
end Go.Proofs.YtbhgogiaaljclaaGreatDoor
