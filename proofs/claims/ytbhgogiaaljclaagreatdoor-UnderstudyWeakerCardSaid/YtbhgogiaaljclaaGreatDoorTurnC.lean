/- Walks: which turns are valid (package turn). -/
import Derived.Test.YtbhgogiaaljclaaGreatDoorTurnB
namespace Go.Proofs.YtbhgogiaaljclaaGreatDoor
set_option linter.unusedVariables false
set_option linter.unusedSimpArgs false
open Go.RowKit

/-- What Check says of numbers. -/
def TChk (a b c : Int) (r : Int) (w : World) : Prop := Calls Tryz.prog 68 #[.agg #[.int .i64 a, .int .i64 b, .int .i64 c]] w fun e w' => e = .returned (.int .i64 r) ∧ Below w.heap.size w w'

set_option maxHeartbeats 1000000 in
theorem t_check_1 (a b c : Int) (w : World) (h1 : c < 1) : TChk a b c 140 w := by
  have d1 : decide (c < 1) = true := by simpa using h1
  unfold TChk
  go_enter Tryz.func68, Tryz.ntmps68
  go_wp2
  refine Kit.wp_name ?_
  intro W hW
  have bW : Below w.heap.size w W := by rw [hW]; exact (Below.refl _ _).alloc (Nat.le_refl _) _
  have c0 : ∀ x : Kit.Wd W, x.val.cell? ⟨w.heap.size, 0, none⟩ = some (.int .i64 a) := fun x => x.cell (by rw [hW]; simp [go_sem]) (by rw [hW]; simp)
  have c1 : ∀ x : Kit.Wd W, x.val.cell? ⟨w.heap.size, 1, none⟩ = some (.int .i64 b) := fun x => x.cell (by rw [hW]; simp [go_sem]) (by rw [hW]; simp)
  have c2 : ∀ x : Kit.Wd W, x.val.cell? ⟨w.heap.size, 2, none⟩ = some (.int .i64 c) := fun x => x.cell (by rw [hW]; simp [go_sem]) (by rw [hW]; simp)
  have HW := Lib.hid hW; clear hW
  refine Kit.wp_region_cls (by kernel_rfl) (by kernel_rfl) ?_
  (repeat (go_big_quiet_step (fail)))
  refine wpQuiet_nil ?_
  intro x
  go_wp2
  all_goals go_ret
  all_goals exact ⟨rfl, bW.trans (x.below.mono bW.size)⟩
set_option maxHeartbeats 1000000 in
theorem t_check_2 (a b c : Int) (w : World) (h1 : 1 ≤ c) (h2 : 32768 < c) : TChk a b c 140 w := by
  have d1 : decide (c < 1) = false := by simpa using h1
  have d2 : decide (32768 < c) = true := by simpa using h2
  unfold TChk
  go_enter Tryz.func68, Tryz.ntmps68
  go_wp2
  refine Kit.wp_name ?_
  intro W hW
  have bW : Below w.heap.size w W := by rw [hW]; exact (Below.refl _ _).alloc (Nat.le_refl _) _
  have c0 : ∀ x : Kit.Wd W, x.val.cell? ⟨w.heap.size, 0, none⟩ = some (.int .i64 a) := fun x => x.cell (by rw [hW]; simp [go_sem]) (by rw [hW]; simp)
  have c1 : ∀ x : Kit.Wd W, x.val.cell? ⟨w.heap.size, 1, none⟩ = some (.int .i64 b) := fun x => x.cell (by rw [hW]; simp [go_sem]) (by rw [hW]; simp)
  have c2 : ∀ x : Kit.Wd W, x.val.cell? ⟨w.heap.size, 2, none⟩ = some (.int .i64 c) := fun x => x.cell (by rw [hW]; simp [go_sem]) (by rw [hW]; simp)
  have HW := Lib.hid hW; clear hW
  refine Kit.wp_region_cls (by kernel_rfl) (by kernel_rfl) ?_
  (repeat (go_big_quiet_step (fail)))
  refine wpQuiet_nil ?_
  intro x
  go_wp2
  all_goals go_ret
  all_goals exact ⟨rfl, bW.trans (x.below.mono bW.size)⟩
set_option maxHeartbeats 1000000 in
theorem t_check_3 (a b c : Int) (w : World) (h1 : 1 ≤ c) (h2 : c ≤ 32768) (h3 : a < -c ∨ b < -c) : TChk a b c 140 w := by
  have d1 : decide (c < 1) = false := by simpa using h1
  have d2 : decide (32768 < c) = false := by simpa using h2
  have d8 : decide ((if b < a then b else a) < -c) = true := by rw [decide_eq_true_iff]; split <;> omega
  clear h3
  unfold TChk
  go_enter Tryz.func68, Tryz.ntmps68
  go_wp2
  refine Kit.wp_name ?_
  intro W hW
  have bW : Below w.heap.size w W := by rw [hW]; exact (Below.refl _ _).alloc (Nat.le_refl _) _
  have c0 : ∀ x : Kit.Wd W, x.val.cell? ⟨w.heap.size, 0, none⟩ = some (.int .i64 a) := fun x => x.cell (by rw [hW]; simp [go_sem]) (by rw [hW]; simp)
  have c1 : ∀ x : Kit.Wd W, x.val.cell? ⟨w.heap.size, 1, none⟩ = some (.int .i64 b) := fun x => x.cell (by rw [hW]; simp [go_sem]) (by rw [hW]; simp)
  have c2 : ∀ x : Kit.Wd W, x.val.cell? ⟨w.heap.size, 2, none⟩ = some (.int .i64 c) := fun x => x.cell (by rw [hW]; simp [go_sem]) (by rw [hW]; simp)
  have HW := Lib.hid hW; clear hW
  refine Kit.wp_region_cls (by kernel_rfl) (by kernel_rfl) ?_
  (repeat (go_big_quiet_step (fail)))
  refine wpQuiet_nil ?_
  intro x
  go_wp2
  all_goals go_ret
  all_goals exact ⟨rfl, bW.trans (x.below.mono bW.size)⟩
set_option maxHeartbeats 1000000 in
theorem t_check_4 (a b c : Int) (w : World) (h1 : 1 ≤ c) (h2 : c ≤ 32768) (h3 : -c ≤ a) (h5 : -c ≤ b) (h4 : c < a ∨ c < b) : TChk a b c 140 w := by
  have d1 : decide (c < 1) = false := by simpa using h1
  have d2 : decide (32768 < c) = false := by simpa using h2
  have d8 : decide ((if b < a then b else a) < -c) = false := by rw [decide_eq_false_iff_not]; split <;> omega
  have d7 : decide (c < if a < b then b else a) = true := by rw [decide_eq_true_iff]; split <;> omega
  clear h4
  unfold TChk
  go_enter Tryz.func68, Tryz.ntmps68
  go_wp2
  refine Kit.wp_name ?_
  intro W hW
  have bW : Below w.heap.size w W := by rw [hW]; exact (Below.refl _ _).alloc (Nat.le_refl _) _
  have c0 : ∀ x : Kit.Wd W, x.val.cell? ⟨w.heap.size, 0, none⟩ = some (.int .i64 a) := fun x => x.cell (by rw [hW]; simp [go_sem]) (by rw [hW]; simp)
  have c1 : ∀ x : Kit.Wd W, x.val.cell? ⟨w.heap.size, 1, none⟩ = some (.int .i64 b) := fun x => x.cell (by rw [hW]; simp [go_sem]) (by rw [hW]; simp)
  have c2 : ∀ x : Kit.Wd W, x.val.cell? ⟨w.heap.size, 2, none⟩ = some (.int .i64 c) := fun x => x.cell (by rw [hW]; simp [go_sem]) (by rw [hW]; simp)
  have HW := Lib.hid hW; clear hW
  refine Kit.wp_region_cls (by kernel_rfl) (by kernel_rfl) ?_
  (repeat (go_big_quiet_step (fail)))
  refine wpQuiet_nil ?_
  intro x
  go_wp2
  all_goals go_ret
  all_goals exact ⟨rfl, bW.trans (x.below.mono bW.size)⟩
set_option maxHeartbeats 1000000 in
theorem t_check_5 (a b c : Int) (w : World) (h1 : 1 ≤ c) (h2 : c ≤ 32768) (h3 : -c ≤ a) (h4 : a ≤ c) (h5 : -c ≤ b) (h6 : b ≤ c) (h7 : (a * a + b * b != c * c) = true)
    (s1 : 0 ≤ a * a) (s2 : a * a ≤ 1073741824) (s3 : 0 ≤ b * b) (s4 : b * b ≤ 1073741824) (s5 : 0 ≤ c * c) (s6 : c * c ≤ 1073741824) : TChk a b c 140 w := by
  have d1 : decide (c < 1) = false := by simpa using h1
  have d2 : decide (32768 < c) = false := by simpa using h2
  have d8 : decide ((if b < a then b else a) < -c) = false := by rw [decide_eq_false_iff_not]; split <;> omega
  have d7 : decide (c < if a < b then b else a) = false := by rw [decide_eq_false_iff_not]; split <;> omega
  unfold TChk
  go_enter Tryz.func68, Tryz.ntmps68
  go_wp2
  refine Kit.wp_name ?_
  intro W hW
  have bW : Below w.heap.size w W := by rw [hW]; exact (Below.refl _ _).alloc (Nat.le_refl _) _
  have c0 : ∀ x : Kit.Wd W, x.val.cell? ⟨w.heap.size, 0, none⟩ = some (.int .i64 a) := fun x => x.cell (by rw [hW]; simp [go_sem]) (by rw [hW]; simp)
  have c1 : ∀ x : Kit.Wd W, x.val.cell? ⟨w.heap.size, 1, none⟩ = some (.int .i64 b) := fun x => x.cell (by rw [hW]; simp [go_sem]) (by rw [hW]; simp)
  have c2 : ∀ x : Kit.Wd W, x.val.cell? ⟨w.heap.size, 2, none⟩ = some (.int .i64 c) := fun x => x.cell (by rw [hW]; simp [go_sem]) (by rw [hW]; simp)
  have HW := Lib.hid hW; clear hW
  refine Kit.wp_region_cls (by kernel_rfl) (by kernel_rfl) ?_
  (repeat (go_big_quiet_step (fail)))
  refine wpQuiet_nil ?_
  intro x
  go_wp2
  all_goals go_ret
  all_goals exact ⟨rfl, bW.trans (x.below.mono bW.size)⟩
set_option maxHeartbeats 1000000 in
theorem t_check_6 (a b c d : Int) (w : World) (h1 : 1 ≤ c) (h2 : c ≤ 32768) (h3 : -c ≤ a) (h4 : a ≤ c) (h5 : -c ≤ b) (h6 : b ≤ c) (h7 : (a * a + b * b != c * c) = false)
    (s1 : 0 ≤ a * a) (s2 : a * a ≤ 1073741824) (s3 : 0 ≤ b * b) (s4 : b * b ≤ 1073741824) (s5 : 0 ≤ c * c) (s6 : c * c ≤ 1073741824)
    (h8 : Hid (Tm.g3 a b c = d)) (hd : 2 ≤ d) : TChk a b c 140 w := by
  have d1 : decide (c < 1) = false := by simpa using h1
  have d2 : decide (32768 < c) = false := by simpa using h2
  have d8 : decide ((if b < a then b else a) < -c) = false := by rw [decide_eq_false_iff_not]; split <;> omega
  have d7 : decide (c < if a < b then b else a) = false := by rw [decide_eq_false_iff_not]; split <;> omega
  have ma : Hid (Tm.Mod a) := by show Tm.Mod a; unfold Tm.Mod; omega
  have mb : Hid (Tm.Mod b) := by show Tm.Mod b; unfold Tm.Mod; omega
  have mc : Hid (Tm.Mod c) := by show Tm.Mod c; unfold Tm.Mod; omega
  have k1 := Tm.tdiv_lt c d h1 hd
  have e1 : (c.tdiv d == c) = false := by rw [beq_eq_false_iff_ne]; omega
  have hd1 : 1 ≤ d := by omega
  unfold TChk
  go_enter Tryz.func68, Tryz.ntmps68
  go_wp2
  refine Kit.wp_name ?_
  intro W hW
  have bW : Below w.heap.size w W := by rw [hW]; exact (Below.refl _ _).alloc (Nat.le_refl _) _
  have c0 : ∀ x : Kit.Wd W, x.val.cell? ⟨w.heap.size, 0, none⟩ = some (.int .i64 a) := fun x => x.cell (by rw [hW]; simp [go_sem]) (by rw [hW]; simp)
  have c1 : ∀ x : Kit.Wd W, x.val.cell? ⟨w.heap.size, 1, none⟩ = some (.int .i64 b) := fun x => x.cell (by rw [hW]; simp [go_sem]) (by rw [hW]; simp)
  have c2 : ∀ x : Kit.Wd W, x.val.cell? ⟨w.heap.size, 2, none⟩ = some (.int .i64 c) := fun x => x.cell (by rw [hW]; simp [go_sem]) (by rw [hW]; simp)
  have HW := Lib.hid hW; clear hW
  refine Kit.wp_region_cls (by kernel_rfl) (by kernel_rfl) ?_
  (repeat (go_big_quiet_step (exact Kit.calls_cls _ (t_lowest_d a b c d _ ma.out mb.out mc.out hd1 h8))))
  refine wpQuiet_nil ?_
  intro x
  go_wp2
  all_goals go_ret
  all_goals exact ⟨rfl, bW.trans (x.below.mono bW.size)⟩
set_option maxHeartbeats 1000000 in
theorem t_check_7 (a b c : Int) (w : World) (h1 : 1 ≤ c) (h2 : c ≤ 32768) (h3 : -c ≤ a) (h4 : a ≤ c) (h5 : -c ≤ b) (h6 : b ≤ c) (h7 : (a * a + b * b != c * c) = false)
    (s1 : 0 ≤ a * a) (s2 : a * a ≤ 1073741824) (s3 : 0 ≤ b * b) (s4 : b * b ≤ 1073741824) (s5 : 0 ≤ c * c) (s6 : c * c ≤ 1073741824)
    (h8 : Hid (Tm.g3 a b c = 1)) : TChk a b c 0 w := by
  have d1 : decide (c < 1) = false := by simpa using h1
  have d2 : decide (32768 < c) = false := by simpa using h2
  have d8 : decide ((if b < a then b else a) < -c) = false := by rw [decide_eq_false_iff_not]; split <;> omega
  have d7 : decide (c < if a < b then b else a) = false := by rw [decide_eq_false_iff_not]; split <;> omega
  have ma : Hid (Tm.Mod a) := by show Tm.Mod a; unfold Tm.Mod; omega
  have mb : Hid (Tm.Mod b) := by show Tm.Mod b; unfold Tm.Mod; omega
  have mc : Hid (Tm.Mod c) := by show Tm.Mod c; unfold Tm.Mod; omega
  unfold TChk
  go_enter Tryz.func68, Tryz.ntmps68
  go_wp2
  refine Kit.wp_name ?_
  intro W hW
  have bW : Below w.heap.size w W := by rw [hW]; exact (Below.refl _ _).alloc (Nat.le_refl _) _
  have c0 : ∀ x : Kit.Wd W, x.val.cell? ⟨w.heap.size, 0, none⟩ = some (.int .i64 a) := fun x => x.cell (by rw [hW]; simp [go_sem]) (by rw [hW]; simp)
  have c1 : ∀ x : Kit.Wd W, x.val.cell? ⟨w.heap.size, 1, none⟩ = some (.int .i64 b) := fun x => x.cell (by rw [hW]; simp [go_sem]) (by rw [hW]; simp)
  have c2 : ∀ x : Kit.Wd W, x.val.cell? ⟨w.heap.size, 2, none⟩ = some (.int .i64 c) := fun x => x.cell (by rw [hW]; simp [go_sem]) (by rw [hW]; simp)
  have HW := Lib.hid hW; clear hW
  refine Kit.wp_region_cls (by kernel_rfl) (by kernel_rfl) ?_
  (repeat (go_big_quiet_step (exact Kit.calls_cls _ (t_lowest_1 a b c _ ma.out mb.out mc.out h8))))
  refine wpQuiet_nil ?_
  intro x
  go_wp2
  all_goals go_ret
  all_goals exact ⟨rfl, bW.trans (x.below.mono bW.size)⟩

theorem t_check (a b c : Int) (w : World) : TChk a b c (if Tm.vld a b c = true then 0 else 140) w := by
  by_cases h1 : c < 1
  · rw [if_neg (by rw [Tm.vld_iff]; omega)]; exact t_check_1 a b c w h1
  by_cases h2 : 32768 < c
  · rw [if_neg (by rw [Tm.vld_iff]; omega)]; exact t_check_2 a b c w (by omega) h2
  by_cases h3 : a < -c ∨ b < -c
  · rw [if_neg (by rw [Tm.vld_iff]; omega)]; exact t_check_3 a b c w (by omega) (by omega) h3
  by_cases h4 : c < a ∨ c < b
  · rw [if_neg (by rw [Tm.vld_iff]; omega)]; exact t_check_4 a b c w (by omega) (by omega) (by omega) (by omega) h4
  have sa := Tm.sq_bd a c (by omega) (by omega) (by omega) (by omega)
  have sb := Tm.sq_bd b c (by omega) (by omega) (by omega) (by omega)
  have sc := Tm.sq_bd c c (by omega) (by omega) (by omega) (by omega)
  by_cases h5 : a * a + b * b = c * c
  · by_cases h6 : Tm.g3 a b c = 1
    · rw [if_pos (by rw [Tm.vld_iff]; omega)]
      exact t_check_7 a b c w (by omega) (by omega) (by omega) (by omega) (by omega) (by omega) (by simpa using h5) sa.1 sa.2 sb.1 sb.2 sc.1 sc.2 h6
    · rw [if_neg (by rw [Tm.vld_iff]; omega)]
      have := Tm.g3_pos a b c (by omega)
      exact t_check_6 a b c _ w (by omega) (by omega) (by omega) (by omega) (by omega) (by omega) (by simpa using h5) sa.1 sa.2 sb.1 sb.2 sc.1 sc.2 rfl (by omega)
  · rw [if_neg (by rw [Tm.vld_iff]; omega)]
    exact t_check_5 a b c w (by omega) (by omega) (by omega) (by omega) (by omega) (by omega) (by simpa using h5) sa.1 sa.2 sb.1 sb.2 sc.1 sc.2
end Go.Proofs.YtbhgogiaaljclaaGreatDoor
