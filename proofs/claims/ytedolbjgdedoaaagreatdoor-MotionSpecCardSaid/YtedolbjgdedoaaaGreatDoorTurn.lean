/- Walks: the greatest common divisor of three numbers (package turn and its reference). Walks: lowest terms (package turn). Walks: which turns are valid (package turn). -/
import Derived.Test.YtedolbjgdedoaaaGreatDoorProg
import Derived.Test.YtedolbjgdedoaaaGreatDoorTmath
import Derived.WalkKit
import Derived.WalkSpells
import Derived.WalkLawsBesides
import Derived.Deep.QuietTactic
import Derived.BigQuiet
import Derived.Lib.Hide
import Derived.IntWalk
import Derived.Test.YtedolbjgdedoaaaGreatDoorKit
set_option linter.unusedSimpArgs false
set_option linter.unusedVariables false
set_option maxHeartbeats 1000000
namespace Go.Proofs.YtedolbjgdedoaaaGreatDoor
open Go.RowKit

def TcRel (a b c : Int) (w : World) (v2 v7 : Value) (wr : World) : Prop :=
 ∃ (k : Nat) (d : Int), k ≤ 3 ∧ v7 = .int .i64 k ∧ v2 = .int .i64 d ∧ Tm.Mod d ∧ Tm.g2 d 0 = Tm.gk a b c k ∧ ∃ n, wr = w.drewN n
def TiRel (g : Int) (w : World) (v2 v4 : Value) (wr : World) : Prop :=
 ∃ (d n : Int), v4 = .int .i64 n ∧ v2 = .int .i64 d ∧ Tm.Mod d ∧ Tm.Mod n ∧ Tm.g2 d n = g ∧ ∃ k, wr = w.drewN k

theorem ret_int {k : IntKind} {a b : Int} (h : a = b) : Ending.returned (.int k a) = .returned (.int k b) := by rw [h]

theorem t_common (ad : Addr) (a b c : Int) (w : World) (ha : Tm.Mod a) (hb : Tm.Mod b) (hc : Tm.Mod c)
  (h0 : ∀ k, k < 3 → w.cell? (ad.add k) = some (.int .i64 (Tm.nth a b c k))) :
  Calls Tryz.prog 136 #[.slice (some ad) 3 3] w fun e w' => e = .returned (.int .i64 (Tm.g3 a b c)) ∧ ∃ n, w' = w.drewN n := by
 have H0 := qh h0; clear h0
 go_enter Tryz.func136, Tryz.ntmps136
 go_wp2
 go_loopw [2, 4, 7] (fun v2 v4 v7 wr => TcRel a b c w v2 v7 wr) (fun _ _ v7 _ => 3 - (intOf v7).toNat)
 case atStart => exact ⟨0, 0, by omega, rfl, rfl, by simp [Tm.Mod], by simp [Tm.gk, Tm.g2_zero], 0, rfl⟩
 case round =>
  obtain ⟨k, d, hk, rfl, rfl, hd, hg, nn, rfl⟩ := hrel
  have HG := qh hg; clear hg
  have HD := qh hd; clear hd
  by_cases hlt : k < 3
  ·have hcell := H0.out k hlt
   have hnm := Tm.nth_mod a b c k ha hb hc
   have HN := qh hnm; clear hnm
   go_wp2
   clear hcell
   obtain ⟨wo, hwo⟩ : ∃ wo : World, wo = w.drewN nn := ⟨_, rfl⟩
   rw [← hwo]
   have HW := qh hwo; clear hwo
   have hs := Tm.gk_succ a b c k hlt
   generalize Tm.nth a b c k = m at *
   have HS := qh hs; clear hs
   go_loopw [2, 4] (fun v2 v4 wr => TiRel (Tm.g2 d m) wo v2 v4 wr) (fun _ v4 _ => (intOf v4).natAbs)
   case atStart => exact ⟨d, m, rfl, rfl, HD.out, HN.out, rfl, 0, rfl⟩
   case round =>
    obtain ⟨d', n', rfl, rfl, hd', hn', hg', k', rfl⟩ := hrel
    have HG' := qh hg'; clear hg'
    have h1 := hd'.lo; have h2 := hd'.hi; have h3 := hn'.lo; have h4 := hn'.hi
    have HD' := qh hd'; clear hd'
    have HN' := qh hn'; clear hn'
    by_cases hz : n' = 0
    ·obtain rfl := hz
     go_wp2
     go_roundw
     case rel => exact ⟨k + 1, d', by omega, by go_num, rfl, HD'.out, by
      rw [HG'.out, HS.out, ← HG.out]; exact Tm.g2_of_abs _ _, nn + k', by rw [HW.out, World.drewN_drewN]⟩
     case measure => simp [intOf]; omega
    ·have hz' : (n' != 0) = true := by simpa using hz
     have hz2 : (n' == 0) = false := by simpa using hz
     have ht := Tm.tmod_mod d' n' hz HN'.out
     have h5 := ht.lo; have h6 := ht.hi
     have HT := qh ht; clear ht
     have hl := Tm.tmod_lt d' n' hz
     go_wp2
     go_quiet (fail)
     go_roundw
     case rel => exact ⟨_, _, _, _, _, _, _, _, ⟨n', d'.tmod n', rfl, rfl, HN'.out, HT.out, by rw [Tm.g2_step]; exact HG'.out, k' + nq, by rw [World.drewN_drewN]⟩, rfl⟩
     case measure => simp only [intOf]; exact hl
  ·have h1 := HD.out.lo; have h2 := HD.out.hi
   go_wp2
   all_goals
    go_ret
    refine ⟨ret_int ?_, nn, rfl⟩
    have hg := HG.out
    rw [Tm.g2_zero] at hg
    obtain rfl : k = 3 := by omega
    have : Tm.gk a b c 3 = Tm.g3 a b c := rfl
    omega

theorem t_lowest_d (a b c d : Int) (w : World) (ha : Tm.Mod a) (hb : Tm.Mod b) (hc : Tm.Mod c) (hg : 1 ≤ d) (HD : Hid (Tm.g3 a b c = d)) :
  Calls Tryz.prog 96 #[.agg #[.int .i64 a, .int .i64 b, .int .i64 c]] w fun e w' =>
   e = .returned (.agg #[.int .i64 (a.tdiv d), .int .i64 (b.tdiv d), .int .i64 (c.tdiv d)]) ∧ Below w.heap.size w w' := by
 have k1 := (Tm.tdiv_mod a d ha).lo; have k2 := (Tm.tdiv_mod a d ha).hi
 have k3 := (Tm.tdiv_mod b d hb).lo; have k4 := (Tm.tdiv_mod b d hb).hi
 have k5 := (Tm.tdiv_mod c d hc).lo; have k6 := (Tm.tdiv_mod c d hc).hi
 have k8 := (Tm.g3_mod a b c ha hb hc).hi
 rw [HD.out] at k8
 go_enter Tryz.func96, Tryz.ntmps96
 go_wp2_with fail
 refine (t_common _ a b c _ ha hb hc ?_).mono ?_
 ·intro k hk
  match k, hk with
  | 0, _ => simp [Tm.nth, Addr.add, go_sem]
  | 1, _ => simp [Tm.nth, Addr.add, go_sem]
  | 2, _ => simp [Tm.nth, Addr.add, go_sem]
 rintro e w' ⟨rfl, n, rfl⟩
 rw [HD.out]
 go_wp2
 (refine Kit.wp_region_drew_tail 13 (by kernel_rfl) (by kernel_rfl) ?_; simp only [List.take_succ_cons, List.take_zero, List.drop_succ_cons, List.drop_zero]; (repeat (go_big_quiet_step (fail))); refine wpQuiet_nil ?_; intro _ hw'; obtain ⟨nq, hw''⟩ := hw'; subst hw'')
 go_wp2
 go_returns
 exact ⟨rfl, by exact Kit.gr⟩
theorem t_lowest_1 (a b c : Int) (w : World) (ha : Tm.Mod a) (hb : Tm.Mod b) (hc : Tm.Mod c) (hg : Hid (Tm.g3 a b c = 1)) :
  Calls Tryz.prog 96 #[.agg #[.int .i64 a, .int .i64 b, .int .i64 c]] w fun e w' =>
   e = .returned (.agg #[.int .i64 a, .int .i64 b, .int .i64 c]) ∧ Below w.heap.size w w' := by
 have h := t_lowest_d a b c 1 w ha hb hc omg hg
 simpa only [Int.tdiv_one] using h

def TChk (a b c : Int) (r : Int) (w : World) : Prop := Calls Tryz.prog 50 #[.agg #[.int .i64 a, .int .i64 b, .int .i64 c]] w fun e w' => e = .returned (.int .i64 r) ∧ Below w.heap.size w w'

theorem t_check_1 (a b c : Int) (w : World) (h1 : c < 1) : TChk a b c 140 w := by
 have d1 : decide (c < 1) = true := by simpa using h1
 unfold TChk
 go_enter Tryz.func50, Tryz.ntmps50
 go_wp2
 refine Kit.wp_name ?_
 intro W hW
 have bW : Below w.heap.size w W := by rw [hW]; exact (Below.refl _ _).alloc nlr _
 have c0 : ∀ x : Kit.Wd W, x.val.cell? ⟨w.heap.size, 0, none⟩ = some (.int .i64 a) := fun x => x.cell (by rw [hW]; simp [go_sem]) (by rw [hW]; simp)
 have c1 : ∀ x : Kit.Wd W, x.val.cell? ⟨w.heap.size, 1, none⟩ = some (.int .i64 b) := fun x => x.cell (by rw [hW]; simp [go_sem]) (by rw [hW]; simp)
 have c2 : ∀ x : Kit.Wd W, x.val.cell? ⟨w.heap.size, 2, none⟩ = some (.int .i64 c) := fun x => x.cell (by rw [hW]; simp [go_sem]) (by rw [hW]; simp)
 have HW := qh hW; clear hW
 refine Kit.wp_region_cls (by kernel_rfl) (by kernel_rfl) ?_
 (repeat (go_big_quiet_step (fail)))
 refine wpQuiet_nil ?_
 intro x
 go_wp2
 all_goals go_ret
 all_goals exact ⟨rfl, bW.trans (x.below.mono bW.size)⟩
theorem t_check_2 (a b c : Int) (w : World) (h1 : 1 ≤ c) (h2 : 32768 < c) : TChk a b c 140 w := by
 have d1 : decide (c < 1) = false := by simpa using h1
 have d2 : decide (32768 < c) = true := by simpa using h2
 unfold TChk
 go_enter Tryz.func50, Tryz.ntmps50
 go_wp2
 refine Kit.wp_name ?_
 intro W hW
 have bW : Below w.heap.size w W := by rw [hW]; exact (Below.refl _ _).alloc nlr _
 have c0 : ∀ x : Kit.Wd W, x.val.cell? ⟨w.heap.size, 0, none⟩ = some (.int .i64 a) := fun x => x.cell (by rw [hW]; simp [go_sem]) (by rw [hW]; simp)
 have c1 : ∀ x : Kit.Wd W, x.val.cell? ⟨w.heap.size, 1, none⟩ = some (.int .i64 b) := fun x => x.cell (by rw [hW]; simp [go_sem]) (by rw [hW]; simp)
 have c2 : ∀ x : Kit.Wd W, x.val.cell? ⟨w.heap.size, 2, none⟩ = some (.int .i64 c) := fun x => x.cell (by rw [hW]; simp [go_sem]) (by rw [hW]; simp)
 have HW := qh hW; clear hW
 refine Kit.wp_region_cls (by kernel_rfl) (by kernel_rfl) ?_
 (repeat (go_big_quiet_step (fail)))
 refine wpQuiet_nil ?_
 intro x
 go_wp2
 all_goals go_ret
 all_goals exact ⟨rfl, bW.trans (x.below.mono bW.size)⟩
theorem t_check_3 (a b c : Int) (w : World) (h1 : 1 ≤ c) (h2 : c ≤ 32768) (h3 : a < -c ∨ b < -c) : TChk a b c 140 w := by
 have d1 : decide (c < 1) = false := by simpa using h1
 have d2 : decide (32768 < c) = false := by simpa using h2
 have d8 : decide ((if b < a then b else a) < -c) = true := by rw [decide_eq_true_iff]; split <;> omega
 clear h3
 unfold TChk
 go_enter Tryz.func50, Tryz.ntmps50
 go_wp2
 refine Kit.wp_name ?_
 intro W hW
 have bW : Below w.heap.size w W := by rw [hW]; exact (Below.refl _ _).alloc nlr _
 have c0 : ∀ x : Kit.Wd W, x.val.cell? ⟨w.heap.size, 0, none⟩ = some (.int .i64 a) := fun x => x.cell (by rw [hW]; simp [go_sem]) (by rw [hW]; simp)
 have c1 : ∀ x : Kit.Wd W, x.val.cell? ⟨w.heap.size, 1, none⟩ = some (.int .i64 b) := fun x => x.cell (by rw [hW]; simp [go_sem]) (by rw [hW]; simp)
 have c2 : ∀ x : Kit.Wd W, x.val.cell? ⟨w.heap.size, 2, none⟩ = some (.int .i64 c) := fun x => x.cell (by rw [hW]; simp [go_sem]) (by rw [hW]; simp)
 have HW := qh hW; clear hW
 refine Kit.wp_region_cls (by kernel_rfl) (by kernel_rfl) ?_
 (repeat (go_big_quiet_step (fail)))
 refine wpQuiet_nil ?_
 intro x
 go_wp2
 all_goals go_ret
 all_goals exact ⟨rfl, bW.trans (x.below.mono bW.size)⟩
theorem t_check_4 (a b c : Int) (w : World) (h1 : 1 ≤ c) (h2 : c ≤ 32768) (h3 : -c ≤ a) (h5 : -c ≤ b) (h4 : c < a ∨ c < b) : TChk a b c 140 w := by
 have d1 : decide (c < 1) = false := by simpa using h1
 have d2 : decide (32768 < c) = false := by simpa using h2
 have d8 : decide ((if b < a then b else a) < -c) = false := by rw [decide_eq_false_iff_not]; split <;> omega
 have d7 : decide (c < if a < b then b else a) = true := by rw [decide_eq_true_iff]; split <;> omega
 clear h4
 unfold TChk
 go_enter Tryz.func50, Tryz.ntmps50
 go_wp2
 refine Kit.wp_name ?_
 intro W hW
 have bW : Below w.heap.size w W := by rw [hW]; exact (Below.refl _ _).alloc nlr _
 have c0 : ∀ x : Kit.Wd W, x.val.cell? ⟨w.heap.size, 0, none⟩ = some (.int .i64 a) := fun x => x.cell (by rw [hW]; simp [go_sem]) (by rw [hW]; simp)
 have c1 : ∀ x : Kit.Wd W, x.val.cell? ⟨w.heap.size, 1, none⟩ = some (.int .i64 b) := fun x => x.cell (by rw [hW]; simp [go_sem]) (by rw [hW]; simp)
 have c2 : ∀ x : Kit.Wd W, x.val.cell? ⟨w.heap.size, 2, none⟩ = some (.int .i64 c) := fun x => x.cell (by rw [hW]; simp [go_sem]) (by rw [hW]; simp)
 have HW := qh hW; clear hW
 refine Kit.wp_region_cls (by kernel_rfl) (by kernel_rfl) ?_
 (repeat (go_big_quiet_step (fail)))
 refine wpQuiet_nil ?_
 intro x
 go_wp2
 all_goals go_ret
 all_goals exact ⟨rfl, bW.trans (x.below.mono bW.size)⟩
theorem t_check_5 (a b c : Int) (w : World) (h1 : 1 ≤ c) (h2 : c ≤ 32768) (h3 : -c ≤ a) (h4 : a ≤ c) (h5 : -c ≤ b) (h6 : b ≤ c) (h7 : (a * a + b * b != c * c) = true)
  (s1 : 0 ≤ a * a) (s2 : a * a ≤ 1073741824) (s3 : 0 ≤ b * b) (s4 : b * b ≤ 1073741824) (s5 : 0 ≤ c * c) (s6 : c * c ≤ 1073741824) : TChk a b c 140 w := by
 have d1 : decide (c < 1) = false := by simpa using h1
 have d2 : decide (32768 < c) = false := by simpa using h2
 have d8 : decide ((if b < a then b else a) < -c) = false := by rw [decide_eq_false_iff_not]; split <;> omega
 have d7 : decide (c < if a < b then b else a) = false := by rw [decide_eq_false_iff_not]; split <;> omega
 unfold TChk
 go_enter Tryz.func50, Tryz.ntmps50
 go_wp2
 refine Kit.wp_name ?_
 intro W hW
 have bW : Below w.heap.size w W := by rw [hW]; exact (Below.refl _ _).alloc nlr _
 have c0 : ∀ x : Kit.Wd W, x.val.cell? ⟨w.heap.size, 0, none⟩ = some (.int .i64 a) := fun x => x.cell (by rw [hW]; simp [go_sem]) (by rw [hW]; simp)
 have c1 : ∀ x : Kit.Wd W, x.val.cell? ⟨w.heap.size, 1, none⟩ = some (.int .i64 b) := fun x => x.cell (by rw [hW]; simp [go_sem]) (by rw [hW]; simp)
 have c2 : ∀ x : Kit.Wd W, x.val.cell? ⟨w.heap.size, 2, none⟩ = some (.int .i64 c) := fun x => x.cell (by rw [hW]; simp [go_sem]) (by rw [hW]; simp)
 have HW := qh hW; clear hW
 refine Kit.wp_region_cls (by kernel_rfl) (by kernel_rfl) ?_
 (repeat (go_big_quiet_step (fail)))
 refine wpQuiet_nil ?_
 intro x
 go_wp2
 all_goals go_ret
 all_goals exact ⟨rfl, bW.trans (x.below.mono bW.size)⟩
theorem t_check_6 (a b c d : Int) (w : World) (h1 : 1 ≤ c) (h2 : c ≤ 32768) (h3 : -c ≤ a) (h4 : a ≤ c) (h5 : -c ≤ b) (h6 : b ≤ c) (h7 : (a * a + b * b != c * c) = false)
  (s1 : 0 ≤ a * a) (s2 : a * a ≤ 1073741824) (s3 : 0 ≤ b * b) (s4 : b * b ≤ 1073741824) (s5 : 0 ≤ c * c) (s6 : c * c ≤ 1073741824)
  (h8 : Hid (Tm.g3 a b c = d)) (hd : 2 ≤ d) : TChk a b c 140 w := by
 have d1 : decide (c < 1) = false := by simpa using h1
 have d2 : decide (32768 < c) = false := by simpa using h2
 have d8 : decide ((if b < a then b else a) < -c) = false := by rw [decide_eq_false_iff_not]; split <;> omega
 have d7 : decide (c < if a < b then b else a) = false := by rw [decide_eq_false_iff_not]; split <;> omega
 have ma : Hid (Tm.Mod a) := by show Tm.Mod a; unfold Tm.Mod; omega
 have mb : Hid (Tm.Mod b) := by show Tm.Mod b; unfold Tm.Mod; omega
 have mc : Hid (Tm.Mod c) := by show Tm.Mod c; unfold Tm.Mod; omega
 have k1 := Tm.tdiv_lt c d h1 hd
 have e1 : (c.tdiv d == c) = false := by rw [beq_eq_false_iff_ne]; omega
 have hd1 : 1 ≤ d := by omega
 unfold TChk
 go_enter Tryz.func50, Tryz.ntmps50
 go_wp2
 refine Kit.wp_name ?_
 intro W hW
 have bW : Below w.heap.size w W := by rw [hW]; exact (Below.refl _ _).alloc nlr _
 have c0 : ∀ x : Kit.Wd W, x.val.cell? ⟨w.heap.size, 0, none⟩ = some (.int .i64 a) := fun x => x.cell (by rw [hW]; simp [go_sem]) (by rw [hW]; simp)
 have c1 : ∀ x : Kit.Wd W, x.val.cell? ⟨w.heap.size, 1, none⟩ = some (.int .i64 b) := fun x => x.cell (by rw [hW]; simp [go_sem]) (by rw [hW]; simp)
 have c2 : ∀ x : Kit.Wd W, x.val.cell? ⟨w.heap.size, 2, none⟩ = some (.int .i64 c) := fun x => x.cell (by rw [hW]; simp [go_sem]) (by rw [hW]; simp)
 have HW := qh hW; clear hW
 refine Kit.wp_region_cls (by kernel_rfl) (by kernel_rfl) ?_
 (repeat (go_big_quiet_step (exact Kit.calls_cls _ (t_lowest_d a b c d _ ma.out mb.out mc.out hd1 h8))))
 refine wpQuiet_nil ?_
 intro x
 go_wp2
 all_goals go_ret
 all_goals exact ⟨rfl, bW.trans (x.below.mono bW.size)⟩
theorem t_check_7 (a b c : Int) (w : World) (h1 : 1 ≤ c) (h2 : c ≤ 32768) (h3 : -c ≤ a) (h4 : a ≤ c) (h5 : -c ≤ b) (h6 : b ≤ c) (h7 : (a * a + b * b != c * c) = false)
  (s1 : 0 ≤ a * a) (s2 : a * a ≤ 1073741824) (s3 : 0 ≤ b * b) (s4 : b * b ≤ 1073741824) (s5 : 0 ≤ c * c) (s6 : c * c ≤ 1073741824)
  (h8 : Hid (Tm.g3 a b c = 1)) : TChk a b c 0 w := by
 have d1 : decide (c < 1) = false := by simpa using h1
 have d2 : decide (32768 < c) = false := by simpa using h2
 have d8 : decide ((if b < a then b else a) < -c) = false := by rw [decide_eq_false_iff_not]; split <;> omega
 have d7 : decide (c < if a < b then b else a) = false := by rw [decide_eq_false_iff_not]; split <;> omega
 have ma : Hid (Tm.Mod a) := by show Tm.Mod a; unfold Tm.Mod; omega
 have mb : Hid (Tm.Mod b) := by show Tm.Mod b; unfold Tm.Mod; omega
 have mc : Hid (Tm.Mod c) := by show Tm.Mod c; unfold Tm.Mod; omega
 unfold TChk
 go_enter Tryz.func50, Tryz.ntmps50
 go_wp2
 refine Kit.wp_name ?_
 intro W hW
 have bW : Below w.heap.size w W := by rw [hW]; exact (Below.refl _ _).alloc nlr _
 have c0 : ∀ x : Kit.Wd W, x.val.cell? ⟨w.heap.size, 0, none⟩ = some (.int .i64 a) := fun x => x.cell (by rw [hW]; simp [go_sem]) (by rw [hW]; simp)
 have c1 : ∀ x : Kit.Wd W, x.val.cell? ⟨w.heap.size, 1, none⟩ = some (.int .i64 b) := fun x => x.cell (by rw [hW]; simp [go_sem]) (by rw [hW]; simp)
 have c2 : ∀ x : Kit.Wd W, x.val.cell? ⟨w.heap.size, 2, none⟩ = some (.int .i64 c) := fun x => x.cell (by rw [hW]; simp [go_sem]) (by rw [hW]; simp)
 have HW := qh hW; clear hW
 refine Kit.wp_region_cls (by kernel_rfl) (by kernel_rfl) ?_
 (repeat (go_big_quiet_step (exact Kit.calls_cls _ (t_lowest_1 a b c _ ma.out mb.out mc.out h8))))
 refine wpQuiet_nil ?_
 intro x
 go_wp2
 all_goals go_ret
 all_goals exact ⟨rfl, bW.trans (x.below.mono bW.size)⟩

theorem t_check (a b c : Int) (w : World) : TChk a b c (if Tm.vld a b c = true then 0 else 140) w := by
 by_cases h1 : c < 1
 ·rw [if_neg (by rw [Tm.vld_iff]; omega)]; exact t_check_1 a b c w h1
 by_cases h2 : 32768 < c
 ·rw [if_neg (by rw [Tm.vld_iff]; omega)]; exact t_check_2 a b c w omg h2
 by_cases h3 : a < -c ∨ b < -c
 ·rw [if_neg (by rw [Tm.vld_iff]; omega)]; exact t_check_3 a b c w omg omg h3
 by_cases h4 : c < a ∨ c < b
 ·rw [if_neg (by rw [Tm.vld_iff]; omega)]; exact t_check_4 a b c w omg omg omg omg h4
 have sa := Tm.sq_bd a c omg omg omg omg
 have sb := Tm.sq_bd b c omg omg omg omg
 have sc := Tm.sq_bd c c omg omg omg omg
 by_cases h5 : a * a + b * b = c * c
 ·by_cases h6 : Tm.g3 a b c = 1
  ·rw [if_pos (by rw [Tm.vld_iff]; omega)]
   exact t_check_7 a b c w omg omg omg omg omg omg (by simpa using h5) sa.1 sa.2 sb.1 sb.2 sc.1 sc.2 h6
  ·rw [if_neg (by rw [Tm.vld_iff]; omega)]
   have := Tm.g3_pos a b c omg
   exact t_check_6 a b c _ w omg omg omg omg omg omg (by simpa using h5) sa.1 sa.2 sb.1 sb.2 sc.1 sc.2 rfl omg
 ·rw [if_neg (by rw [Tm.vld_iff]; omega)]
  exact t_check_5 a b c w omg omg omg omg omg omg (by simpa using h5) sa.1 sa.2 sb.1 sb.2 sc.1 sc.2
end Go.Proofs.YtedolbjgdedoaaaGreatDoor
