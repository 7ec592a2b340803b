/- Walks: the reference of layer 19: within, Fields. -/
import Derived.Test.YtedolbjgdedoaaaGreatDoorEx
set_option linter.unusedSimpArgs false
set_option linter.unusedVariables false
set_option maxRecDepth 100000
set_option maxHeartbeats 1000000
namespace Go.Proofs.YtedolbjgdedoaaaGreatDoor
open Go.RowKit

theorem rq_in19 (n lo hi : Int) (w : World) : Calls Tryz.prog 74 #[.int .i64 n, .int .i64 lo, .int .i64 hi] w fun e w' => e = .returned (.bool (Tp.inb n lo hi)) ∧ w = w' := by
 have fin : ∀ p q : Bool, decide (lo ≤ n) = p → decide (n ≤ hi) = q → Calls Tryz.prog 74 #[.int .i64 n, .int .i64 lo, .int .i64 hi] w fun e w' => e = .returned (.bool (p && q)) ∧ w = w' := by
  intro p q hp hq
  cases p <;> cases q <;>
  ·go_enter Tryz.func74, Tryz.ntmps74
   go_wp2
   go_ret
   exact ⟨rfl, rfl⟩
 exact fin _ _ rfl rfl

namespace Rq
def Fl (s : Ex.Sg) (roles : Int) (w : World) (b : Bool) : Prop :=
 Calls Tryz.prog 159 #[Ex.sgV s, .int .i64 roles] w fun e w' => e = .returned (.bool b) ∧ Below w.heap.size w w'
theorem ret_b {a b : Bool} (h : a = b) : Ending.returned (.bool a) = .returned (.bool b) := by rw [h]
end Rq
theorem rq_fl_1 (id role bar mark side dir level size wth fn fd tn td : Int) (roles : Int) (w : World) (b : Bool) (hb : Hid (b = Ex.ok2 ⟨id, role, bar, mark, 1, side, dir, level, size, wth, fn, fd, tn, td⟩ (Ex.rule 1) roles)) :
  Rq.Fl ⟨id, role, bar, mark, 1, side, dir, level, size, wth, fn, fd, tn, td⟩ roles w b := by
 unfold Rq.Fl
 rcases d0 : Tp.inb side 1 2 with _ | _
 ·go_enter Tryz.func159, Tryz.ntmps159
  go_wp2_with (go_at_call 74; refine (rq_in19 _ _ _ _).mono ?_; rintro e w' ⟨rfl, rfl⟩)
  all_goals go_ret
  all_goals exact ⟨Rq.ret_b (by rw [hb.out]; simp [*, Ex.ok2, Ex.rule, Ex.fld]), by exact Kit.gr⟩
 rcases d1 : Tp.inb dir 1 8 with _ | _
 ·go_enter Tryz.func159, Tryz.ntmps159
  go_wp2_with (go_at_call 74; refine (rq_in19 _ _ _ _).mono ?_; rintro e w' ⟨rfl, rfl⟩)
  all_goals go_ret
  all_goals exact ⟨Rq.ret_b (by rw [hb.out]; simp [*, Ex.ok2, Ex.rule, Ex.fld]), by exact Kit.gr⟩
 rcases d2 : Tp.inb size 1 16 with _ | _
 ·go_enter Tryz.func159, Tryz.ntmps159
  go_wp2_with (go_at_call 74; refine (rq_in19 _ _ _ _).mono ?_; rintro e w' ⟨rfl, rfl⟩)
  all_goals go_ret
  all_goals exact ⟨Rq.ret_b (by rw [hb.out]; simp [*, Ex.ok2, Ex.rule, Ex.fld]), by exact Kit.gr⟩
 ·go_enter Tryz.func159, Tryz.ntmps159
  go_wp2_with (go_at_call 74; refine (rq_in19 _ _ _ _).mono ?_; rintro e w' ⟨rfl, rfl⟩)
  all_goals go_ret
  all_goals exact ⟨Rq.ret_b (by rw [hb.out]; simp [*, Ex.ok2, Ex.rule, Ex.fld]), by exact Kit.gr⟩
theorem rq_fl_2 (id role bar mark side dir level size wth fn fd tn td : Int) (roles : Int) (w : World) (b : Bool) (hb : Hid (b = Ex.ok2 ⟨id, role, bar, mark, 2, side, dir, level, size, wth, fn, fd, tn, td⟩ (Ex.rule 2) roles)) :
  Rq.Fl ⟨id, role, bar, mark, 2, side, dir, level, size, wth, fn, fd, tn, td⟩ roles w b := by
 unfold Rq.Fl
 rcases d0 : Tp.inb dir 1 8 with _ | _
 ·go_enter Tryz.func159, Tryz.ntmps159
  go_wp2_with (go_at_call 74; refine (rq_in19 _ _ _ _).mono ?_; rintro e w' ⟨rfl, rfl⟩)
  all_goals go_ret
  all_goals exact ⟨Rq.ret_b (by rw [hb.out]; simp [*, Ex.ok2, Ex.rule, Ex.fld]), by exact Kit.gr⟩
 rcases d1 : Tp.inb size 1 16 with _ | _
 ·go_enter Tryz.func159, Tryz.ntmps159
  go_wp2_with (go_at_call 74; refine (rq_in19 _ _ _ _).mono ?_; rintro e w' ⟨rfl, rfl⟩)
  all_goals go_ret
  all_goals exact ⟨Rq.ret_b (by rw [hb.out]; simp [*, Ex.ok2, Ex.rule, Ex.fld]), by exact Kit.gr⟩
 ·go_enter Tryz.func159, Tryz.ntmps159
  go_wp2_with (go_at_call 74; refine (rq_in19 _ _ _ _).mono ?_; rintro e w' ⟨rfl, rfl⟩)
  all_goals go_ret
  all_goals exact ⟨Rq.ret_b (by rw [hb.out]; simp [*, Ex.ok2, Ex.rule, Ex.fld]), by exact Kit.gr⟩
theorem rq_fl_3 (id role bar mark side dir level size wth fn fd tn td : Int) (roles : Int) (w : World) (b : Bool) (hb : Hid (b = Ex.ok2 ⟨id, role, bar, mark, 3, side, dir, level, size, wth, fn, fd, tn, td⟩ (Ex.rule 3) roles)) :
  Rq.Fl ⟨id, role, bar, mark, 3, side, dir, level, size, wth, fn, fd, tn, td⟩ roles w b := by
 unfold Rq.Fl
 rcases d0 : Tp.inb side 1 2 with _ | _
 ·go_enter Tryz.func159, Tryz.ntmps159
  go_wp2_with (go_at_call 74; refine (rq_in19 _ _ _ _).mono ?_; rintro e w' ⟨rfl, rfl⟩)
  all_goals go_ret
  all_goals exact ⟨Rq.ret_b (by rw [hb.out]; simp [*, Ex.ok2, Ex.rule, Ex.fld]), by exact Kit.gr⟩
 rcases d1 : Tp.inb dir 0 8 with _ | _
 ·go_enter Tryz.func159, Tryz.ntmps159
  go_wp2_with (go_at_call 74; refine (rq_in19 _ _ _ _).mono ?_; rintro e w' ⟨rfl, rfl⟩)
  all_goals go_ret
  all_goals exact ⟨Rq.ret_b (by rw [hb.out]; simp [*, Ex.ok2, Ex.rule, Ex.fld]), by exact Kit.gr⟩
 rcases d2 : Tp.inb level 1 3 with _ | _
 ·go_enter Tryz.func159, Tryz.ntmps159
  go_wp2_with (go_at_call 74; refine (rq_in19 _ _ _ _).mono ?_; rintro e w' ⟨rfl, rfl⟩)
  all_goals go_ret
  all_goals exact ⟨Rq.ret_b (by rw [hb.out]; simp [*, Ex.ok2, Ex.rule, Ex.fld]), by exact Kit.gr⟩
 ·go_enter Tryz.func159, Tryz.ntmps159
  go_wp2_with (go_at_call 74; refine (rq_in19 _ _ _ _).mono ?_; rintro e w' ⟨rfl, rfl⟩)
  all_goals go_ret
  all_goals exact ⟨Rq.ret_b (by rw [hb.out]; simp [*, Ex.ok2, Ex.rule, Ex.fld]), by exact Kit.gr⟩
theorem rq_fl_4 (id role bar mark side dir level size wth fn fd tn td : Int) (roles : Int) (w : World) (b : Bool) (hb : Hid (b = Ex.ok2 ⟨id, role, bar, mark, 4, side, dir, level, size, wth, fn, fd, tn, td⟩ (Ex.rule 4) roles)) :
  Rq.Fl ⟨id, role, bar, mark, 4, side, dir, level, size, wth, fn, fd, tn, td⟩ roles w b := by
 unfold Rq.Fl
 rcases d0 : Tp.inb side 1 2 with _ | _
 ·go_enter Tryz.func159, Tryz.ntmps159
  go_wp2_with (go_at_call 74; refine (rq_in19 _ _ _ _).mono ?_; rintro e w' ⟨rfl, rfl⟩)
  all_goals go_ret
  all_goals exact ⟨Rq.ret_b (by rw [hb.out]; simp [*, Ex.ok2, Ex.rule, Ex.fld]), by exact Kit.gr⟩
 rcases d1 : Tp.inb dir 0 8 with _ | _
 ·go_enter Tryz.func159, Tryz.ntmps159
  go_wp2_with (go_at_call 74; refine (rq_in19 _ _ _ _).mono ?_; rintro e w' ⟨rfl, rfl⟩)
  all_goals go_ret
  all_goals exact ⟨Rq.ret_b (by rw [hb.out]; simp [*, Ex.ok2, Ex.rule, Ex.fld]), by exact Kit.gr⟩
 rcases d2 : Tp.inb level 1 3 with _ | _
 ·go_enter Tryz.func159, Tryz.ntmps159
  go_wp2_with (go_at_call 74; refine (rq_in19 _ _ _ _).mono ?_; rintro e w' ⟨rfl, rfl⟩)
  all_goals go_ret
  all_goals exact ⟨Rq.ret_b (by rw [hb.out]; simp [*, Ex.ok2, Ex.rule, Ex.fld]), by exact Kit.gr⟩
 ·go_enter Tryz.func159, Tryz.ntmps159
  go_wp2_with (go_at_call 74; refine (rq_in19 _ _ _ _).mono ?_; rintro e w' ⟨rfl, rfl⟩)
  all_goals go_ret
  all_goals exact ⟨Rq.ret_b (by rw [hb.out]; simp [*, Ex.ok2, Ex.rule, Ex.fld]), by exact Kit.gr⟩
theorem rq_fl_5 (id role bar mark side dir level size wth fn fd tn td : Int) (roles : Int) (w : World) (b : Bool) (hb : Hid (b = Ex.ok2 ⟨id, role, bar, mark, 5, side, dir, level, size, wth, fn, fd, tn, td⟩ (Ex.rule 5) roles)) :
  Rq.Fl ⟨id, role, bar, mark, 5, side, dir, level, size, wth, fn, fd, tn, td⟩ roles w b := by
 unfold Rq.Fl
 rcases d0 : Tp.inb dir 0 8 with _ | _
 ·go_enter Tryz.func159, Tryz.ntmps159
  go_wp2_with (go_at_call 74; refine (rq_in19 _ _ _ _).mono ?_; rintro e w' ⟨rfl, rfl⟩)
  all_goals go_ret
  all_goals exact ⟨Rq.ret_b (by rw [hb.out]; simp [*, Ex.ok2, Ex.rule, Ex.fld]), by exact Kit.gr⟩
 rcases d1 : Tp.inb level 1 3 with _ | _
 ·go_enter Tryz.func159, Tryz.ntmps159
  go_wp2_with (go_at_call 74; refine (rq_in19 _ _ _ _).mono ?_; rintro e w' ⟨rfl, rfl⟩)
  all_goals go_ret
  all_goals exact ⟨Rq.ret_b (by rw [hb.out]; simp [*, Ex.ok2, Ex.rule, Ex.fld]), by exact Kit.gr⟩
 ·go_enter Tryz.func159, Tryz.ntmps159
  go_wp2_with (go_at_call 74; refine (rq_in19 _ _ _ _).mono ?_; rintro e w' ⟨rfl, rfl⟩)
  all_goals go_ret
  all_goals exact ⟨Rq.ret_b (by rw [hb.out]; simp [*, Ex.ok2, Ex.rule, Ex.fld]), by exact Kit.gr⟩
theorem rq_fl_6 (id role bar mark side dir level size wth fn fd tn td : Int) (roles : Int) (w : World) (b : Bool) (hb : Hid (b = Ex.ok2 ⟨id, role, bar, mark, 6, side, dir, level, size, wth, fn, fd, tn, td⟩ (Ex.rule 6) roles)) :
  Rq.Fl ⟨id, role, bar, mark, 6, side, dir, level, size, wth, fn, fd, tn, td⟩ roles w b := by
 unfold Rq.Fl
 rcases d0 : Tp.inb size 1 7 with _ | _
 ·go_enter Tryz.func159, Tryz.ntmps159
  go_wp2_with (go_at_call 74; refine (rq_in19 _ _ _ _).mono ?_; rintro e w' ⟨rfl, rfl⟩)
  all_goals go_ret
  all_goals exact ⟨Rq.ret_b (by rw [hb.out]; simp [*, Ex.ok2, Ex.rule, Ex.fld]), by exact Kit.gr⟩
 ·go_enter Tryz.func159, Tryz.ntmps159
  go_wp2_with (go_at_call 74; refine (rq_in19 _ _ _ _).mono ?_; rintro e w' ⟨rfl, rfl⟩)
  all_goals go_ret
  all_goals exact ⟨Rq.ret_b (by rw [hb.out]; simp [*, Ex.ok2, Ex.rule, Ex.fld]), by exact Kit.gr⟩
theorem rq_fl_7 (id role bar mark side dir level size wth fn fd tn td : Int) (roles : Int) (w : World) (b : Bool) (hb : Hid (b = Ex.ok2 ⟨id, role, bar, mark, 7, side, dir, level, size, wth, fn, fd, tn, td⟩ (Ex.rule 7) roles)) :
  Rq.Fl ⟨id, role, bar, mark, 7, side, dir, level, size, wth, fn, fd, tn, td⟩ roles w b := by
 unfold Rq.Fl
 rcases d0 : Tp.inb wth 1 roles with _ | _
 ·go_enter Tryz.func159, Tryz.ntmps159
  go_wp2_with (go_at_call 74; refine (rq_in19 _ _ _ _).mono ?_; rintro e w' ⟨rfl, rfl⟩)
  all_goals go_ret
  all_goals exact ⟨Rq.ret_b (by rw [hb.out]; simp [*, Ex.ok2, Ex.rule, Ex.fld]), by exact Kit.gr⟩
 ·go_enter Tryz.func159, Tryz.ntmps159
  go_wp2_with (go_at_call 74; refine (rq_in19 _ _ _ _).mono ?_; rintro e w' ⟨rfl, rfl⟩)
  all_goals go_ret
  all_goals exact ⟨Rq.ret_b (by rw [hb.out]; simp [*, Ex.ok2, Ex.rule, Ex.fld]), by exact Kit.gr⟩
theorem rq_fl_8 (id role bar mark side dir level size wth fn fd tn td : Int) (roles : Int) (w : World) (b : Bool) (hb : Hid (b = Ex.ok2 ⟨id, role, bar, mark, 8, side, dir, level, size, wth, fn, fd, tn, td⟩ (Ex.rule 8) roles)) :
  Rq.Fl ⟨id, role, bar, mark, 8, side, dir, level, size, wth, fn, fd, tn, td⟩ roles w b := by
 unfold Rq.Fl
 rcases d0 : Tp.inb wth 1 roles with _ | _
 ·go_enter Tryz.func159, Tryz.ntmps159
  go_wp2_with (go_at_call 74; refine (rq_in19 _ _ _ _).mono ?_; rintro e w' ⟨rfl, rfl⟩)
  all_goals go_ret
  all_goals exact ⟨Rq.ret_b (by rw [hb.out]; simp [*, Ex.ok2, Ex.rule, Ex.fld]), by exact Kit.gr⟩
 ·go_enter Tryz.func159, Tryz.ntmps159
  go_wp2_with (go_at_call 74; refine (rq_in19 _ _ _ _).mono ?_; rintro e w' ⟨rfl, rfl⟩)
  all_goals go_ret
  all_goals exact ⟨Rq.ret_b (by rw [hb.out]; simp [*, Ex.ok2, Ex.rule, Ex.fld]), by exact Kit.gr⟩
theorem rq_fl_9 (id role bar mark side dir level size wth fn fd tn td : Int) (roles : Int) (w : World) (b : Bool) (hb : Hid (b = Ex.ok2 ⟨id, role, bar, mark, 9, side, dir, level, size, wth, fn, fd, tn, td⟩ (Ex.rule 9) roles)) :
  Rq.Fl ⟨id, role, bar, mark, 9, side, dir, level, size, wth, fn, fd, tn, td⟩ roles w b := by
 unfold Rq.Fl
 rcases d0 : Tp.inb side 1 2 with _ | _
 ·go_enter Tryz.func159, Tryz.ntmps159
  go_wp2_with (go_at_call 74; refine (rq_in19 _ _ _ _).mono ?_; rintro e w' ⟨rfl, rfl⟩)
  all_goals go_ret
  all_goals exact ⟨Rq.ret_b (by rw [hb.out]; simp [*, Ex.ok2, Ex.rule, Ex.fld]), by exact Kit.gr⟩
 rcases d1 : Tp.inb level 1 3 with _ | _
 ·go_enter Tryz.func159, Tryz.ntmps159
  go_wp2_with (go_at_call 74; refine (rq_in19 _ _ _ _).mono ?_; rintro e w' ⟨rfl, rfl⟩)
  all_goals go_ret
  all_goals exact ⟨Rq.ret_b (by rw [hb.out]; simp [*, Ex.ok2, Ex.rule, Ex.fld]), by exact Kit.gr⟩
 ·go_enter Tryz.func159, Tryz.ntmps159
  go_wp2_with (go_at_call 74; refine (rq_in19 _ _ _ _).mono ?_; rintro e w' ⟨rfl, rfl⟩)
  all_goals go_ret
  all_goals exact ⟨Rq.ret_b (by rw [hb.out]; simp [*, Ex.ok2, Ex.rule, Ex.fld]), by exact Kit.gr⟩
theorem rq_fl_0 (id role bar mark kind side dir level size wth fn fd tn td : Int) (roles : Int) (w : World) (h : Tp.inb kind 1 9 = false) : Rq.Fl ⟨id, role, bar, mark, kind, side, dir, level, size, wth, fn, fd, tn, td⟩ roles w false := by
 have hk : ¬ (1 ≤ kind ∧ kind ≤ 9) := fun h' => by rw [(Tp.inb_iff _ _ _).2 h'] at h; cases h
 clear h
 have k1 : (kind == 1) = false := by simp; omega
 have k2 : (kind == 2) = false := by simp; omega
 have k3 : (kind == 3) = false := by simp; omega
 have k4 : (kind == 4) = false := by simp; omega
 have k5 : (kind == 5) = false := by simp; omega
 have k6 : (kind == 6) = false := by simp; omega
 have k7 : (kind == 7) = false := by simp; omega
 have k8 : (kind == 8) = false := by simp; omega
 have k9 : (kind == 9) = false := by simp; omega
 clear hk
 unfold Rq.Fl
 go_enter Tryz.func159, Tryz.ntmps159
 go_wp2
 go_ret
 exact ⟨rfl, by exact Kit.gr⟩

theorem rq_fields (s : Ex.Sg) (roles : Int) (w : World) : Rq.Fl s roles w (Tp.inb s.kind 1 9 && Ex.ok2 s (Ex.rule s.kind.toNat) roles) := by
 obtain ⟨id, role, bar, mark, kind, side, dir, level, size, wth, fn, fd, tn, td⟩ := s
 rcases hk : Tp.inb kind 1 9 with _ | _
 ·exact rq_fl_0 _ _ _ _ _ _ _ _ _ _ _ _ _ _ roles w hk
 have h := (Tp.inb_iff _ _ _).1 hk
 obtain ⟨K, rfl⟩ : ∃ K : Nat, kind = K := ⟨kind.toNat, by omega⟩
 clear hk
 rw [Bool.true_and]
 obtain rfl | rfl | rfl | rfl | rfl | rfl | rfl | rfl | rfl : K = 1 ∨ K = 2 ∨ K = 3 ∨ K = 4 ∨ K = 5 ∨ K = 6 ∨ K = 7 ∨ K = 8 ∨ K = 9 := by omega
 ·exact rq_fl_1 _ _ _ _ _ _ _ _ _ _ _ _ _ roles w _ rfl
 ·exact rq_fl_2 _ _ _ _ _ _ _ _ _ _ _ _ _ roles w _ rfl
 ·exact rq_fl_3 _ _ _ _ _ _ _ _ _ _ _ _ _ roles w _ rfl
 ·exact rq_fl_4 _ _ _ _ _ _ _ _ _ _ _ _ _ roles w _ rfl
 ·exact rq_fl_5 _ _ _ _ _ _ _ _ _ _ _ _ _ roles w _ rfl
 ·exact rq_fl_6 _ _ _ _ _ _ _ _ _ _ _ _ _ roles w _ rfl
 ·exact rq_fl_7 _ _ _ _ _ _ _ _ _ _ _ _ _ roles w _ rfl
 ·exact rq_fl_8 _ _ _ _ _ _ _ _ _ _ _ _ _ roles w _ rfl
 ·exact rq_fl_9 _ _ _ _ _ _ _ _ _ _ _ _ _ roles w _ rfl
end Go.Proofs.YtedolbjgdedoaaaGreatDoor
