/- Walks: the reference of layer 20: pair, alone. -/
import Derived.Test.YtggfeblfhabmkaaGreatDoorTrB
import Derived.Test.YtggfeblfhabmkaaGreatDoorTrG
import Derived.Test.YtggfeblfhabmkaaGreatDoorKitv
import Derived.Deep.CutRange
namespace Go.Proofs.YtggfeblfhabmkaaGreatDoor
set_option linter.unusedVariables false
set_option linter.unusedSimpArgs false
open Go.RowKit Go.Shelf

set_option maxRecDepth 100000 in
theorem Ty.bits_small64 : ∀ a : Nat, a < 64 → ∀ b : Nat, b < 64 → bits .and .i64 (a : Int) (b : Int) = ((a &&& b : Nat) : Int) := by decide +kernel
theorem Ty.com_bits64 (a b : Ex.Sg) : (bits .and .i64 (Ty.cols a.kind a.side : Int) (Ty.cols b.kind b.side : Int) != 0) = Ty.com a b := by
  rw [Ty.bits_small64 _ (Ty.cols_lt _ _) _ (Ty.cols_lt _ _)]
  unfold Ty.com
  rw [Bool.eq_iff_iff]
  simp only [bne_iff_ne, ne_eq]
  omega
set_option maxRecDepth 100000 in
set_option maxHeartbeats 4000000 in
theorem tr_pair_0 (a b : Ex.Sg) (k roles bars : Int) (ha : Ty.Rt a roles bars) (hb : Ty.Rt b roles bars) (hs : Ty.sim a b = false) (w : World) :
    Calls Tryz.prog 32 #[Ex.sgV a, Ex.sgV b, .int .i64 k] w fun e w' => e = .returned (.bool (false)) ∧ Below w.heap.size w w' := by
  have S1 := Lib.hid (fun W => tr_sim a b W ha.fok ha.tok hb.fok hb.tok)
  have CA := Lib.hid (fun W => tr_columns a W ha.kind)
  have CB := Lib.hid (fun W => tr_columns b W hb.kind)
  have LA := Lib.hid (fun W => tr_leg a W)
  have LB := Lib.hid (fun W => tr_leg b W)
  have B1 := Lib.hid (fun W => tr_both a b 7 2 W)
  have B2 := Lib.hid (fun W => tr_both a b 7 8 W)
  clear ha hb
  rw [hs] at S1
  clear hs
  as_aux_lemma =>
    go_enter Tryz.func32, Tryz.ntmps32
    skip
    (go_wp2_with (fail); refine (S1.out _).mono ?_; rintro e w1_ ⟨rfl, hb1_⟩; have hp1_ : Below w.heap.size w w1_ := Below.trans (by (repeat' first | (with_reducible first | exact Below.refl _ _ | assumption | refine Kit.below_drewN ?_ _ | refine Below.drew ?_ | refine Below.alloc ?_ ?_ _ | refine Below.setCell ?_ ?_ _ | exact Nat.le_refl _) | omega | (simp; omega) | (simp; done) | (apply Below.size; assumption))) (hb1_.mono (by first | assumption | (simp; done) | (simp; omega) | omega)); have hw1_ : Below w.heap.size w w1_ := hp1_; obtain ⟨hc1_, hf1_⟩ := Kit.bcell hb1_; have z1_w : w.heap.size < w1_.heap.size := (by have := hb1_.size; first | omega | (simp at this; omega)); obtain ⟨g1_w_0, g1_w_1, g1_w_2, g1_w_3, g1_w_4, g1_w_5, g1_w_6, g1_w_7, g1_w_8, g1_w_9, g1_w_10, g1_w_11, g1_w_12, g1_w_13⟩ : w1_.cell? ⟨w.heap.size, 0, none⟩ = some (.int .i64 a.id) ∧ w1_.cell? ⟨w.heap.size, 1, none⟩ = some (.int .i64 a.role) ∧ w1_.cell? ⟨w.heap.size, 2, none⟩ = some (.int .i64 a.bar) ∧ w1_.cell? ⟨w.heap.size, 3, none⟩ = some (.int .i64 a.mark) ∧ w1_.cell? ⟨w.heap.size, 4, none⟩ = some (.int .i64 a.kind) ∧ w1_.cell? ⟨w.heap.size, 5, none⟩ = some (.int .i64 a.side) ∧ w1_.cell? ⟨w.heap.size, 6, none⟩ = some (.int .i64 a.dir) ∧ w1_.cell? ⟨w.heap.size, 7, none⟩ = some (.int .i64 a.level) ∧ w1_.cell? ⟨w.heap.size, 8, none⟩ = some (.int .i64 a.size) ∧ w1_.cell? ⟨w.heap.size, 9, none⟩ = some (.int .i64 a.wth) ∧ w1_.cell? ⟨w.heap.size, 10, none⟩ = some (.int .i64 a.fn) ∧ w1_.cell? ⟨w.heap.size, 11, none⟩ = some (.int .i64 a.fd) ∧ w1_.cell? ⟨w.heap.size, 12, none⟩ = some (.int .i64 a.tn) ∧ w1_.cell? ⟨w.heap.size, 13, none⟩ = some (.int .i64 a.td) := (by refine ⟨?_, ?_, ?_, ?_, ?_, ?_, ?_, ?_, ?_, ?_, ?_, ?_, ?_, ?_⟩ <;> (rw [hc1_ _ _ (by first | assumption | (simp; done) | (simp; omega) | omega)]; first | assumption | (simp [go_sem]; done) | (simp [go_sem, *]; done))); have z1_w_1 : w.heap.size + 1 < w1_.heap.size := (by have := hb1_.size; first | omega | (simp at this; omega)); obtain ⟨g1_w_1_0, g1_w_1_1, g1_w_1_2, g1_w_1_3, g1_w_1_4, g1_w_1_5, g1_w_1_6, g1_w_1_7, g1_w_1_8, g1_w_1_9, g1_w_1_10, g1_w_1_11, g1_w_1_12, g1_w_1_13⟩ : w1_.cell? ⟨w.heap.size + 1, 0, none⟩ = some (.int .i64 b.id) ∧ w1_.cell? ⟨w.heap.size + 1, 1, none⟩ = some (.int .i64 b.role) ∧ w1_.cell? ⟨w.heap.size + 1, 2, none⟩ = some (.int .i64 b.bar) ∧ w1_.cell? ⟨w.heap.size + 1, 3, none⟩ = some (.int .i64 b.mark) ∧ w1_.cell? ⟨w.heap.size + 1, 4, none⟩ = some (.int .i64 b.kind) ∧ w1_.cell? ⟨w.heap.size + 1, 5, none⟩ = some (.int .i64 b.side) ∧ w1_.cell? ⟨w.heap.size + 1, 6, none⟩ = some (.int .i64 b.dir) ∧ w1_.cell? ⟨w.heap.size + 1, 7, none⟩ = some (.int .i64 b.level) ∧ w1_.cell? ⟨w.heap.size + 1, 8, none⟩ = some (.int .i64 b.size) ∧ w1_.cell? ⟨w.heap.size + 1, 9, none⟩ = some (.int .i64 b.wth) ∧ w1_.cell? ⟨w.heap.size + 1, 10, none⟩ = some (.int .i64 b.fn) ∧ w1_.cell? ⟨w.heap.size + 1, 11, none⟩ = some (.int .i64 b.fd) ∧ w1_.cell? ⟨w.heap.size + 1, 12, none⟩ = some (.int .i64 b.tn) ∧ w1_.cell? ⟨w.heap.size + 1, 13, none⟩ = some (.int .i64 b.td) := (by refine ⟨?_, ?_, ?_, ?_, ?_, ?_, ?_, ?_, ?_, ?_, ?_, ?_, ?_, ?_⟩ <;> (rw [hc1_ _ _ (by first | assumption | (simp; done) | (simp; omega) | omega)]; first | assumption | (simp [go_sem]; done) | (simp [go_sem, *]; done))); clear hc1_ hf1_; clear hb1_ hp1_)
    go_wp2
    all_goals (go_ret; exact ⟨rfl, by (repeat' first | (with_reducible first | exact Below.refl _ _ | assumption | refine Kit.below_drewN ?_ _ | refine Below.drew ?_ | refine Below.alloc ?_ ?_ _ | refine Below.setCell ?_ ?_ _ | exact Nat.le_refl _) | omega | (simp; omega) | (simp; done) | (apply Below.size; assumption))⟩)
set_option maxRecDepth 100000 in
set_option maxHeartbeats 4000000 in
theorem tr_pair_1 (a b : Ex.Sg) (k roles bars : Int) (ha : Ty.Rt a roles bars) (hb : Ty.Rt b roles bars) (hs : Ty.sim a b = true) (w : World) :
    Calls Tryz.prog 32 #[Ex.sgV a, Ex.sgV b, .int .i64 1] w fun e w' => e = .returned (.bool (Ty.com a b)) ∧ Below w.heap.size w w' := by
  have S1 := Lib.hid (fun W => tr_sim a b W ha.fok ha.tok hb.fok hb.tok)
  have CA := Lib.hid (fun W => tr_columns a W ha.kind)
  have CB := Lib.hid (fun W => tr_columns b W hb.kind)
  have LA := Lib.hid (fun W => tr_leg a W)
  have LB := Lib.hid (fun W => tr_leg b W)
  have B1 := Lib.hid (fun W => tr_both a b 7 2 W)
  have B2 := Lib.hid (fun W => tr_both a b 7 8 W)
  clear ha hb
  rw [hs] at S1
  clear hs
  go_enter Tryz.func32, Tryz.ntmps32
  skip
  (go_wp2_with (fail); refine (S1.out _).mono ?_; rintro e w1_ ⟨rfl, hb1_⟩; have hp1_ : Below w.heap.size w w1_ := Below.trans (by (repeat' first | (with_reducible first | exact Below.refl _ _ | assumption | refine Kit.below_drewN ?_ _ | refine Below.drew ?_ | refine Below.alloc ?_ ?_ _ | refine Below.setCell ?_ ?_ _ | exact Nat.le_refl _) | omega | (simp; omega) | (simp; done) | (apply Below.size; assumption))) (hb1_.mono (by first | assumption | (simp; done) | (simp; omega) | omega)); have hw1_ : Below w.heap.size w w1_ := hp1_; obtain ⟨hc1_, hf1_⟩ := Kit.bcell hb1_; have z1_w : w.heap.size < w1_.heap.size := (by have := hb1_.size; first | omega | (simp at this; omega)); obtain ⟨g1_w_0, g1_w_1, g1_w_2, g1_w_3, g1_w_4, g1_w_5, g1_w_6, g1_w_7, g1_w_8, g1_w_9, g1_w_10, g1_w_11, g1_w_12, g1_w_13⟩ : w1_.cell? ⟨w.heap.size, 0, none⟩ = some (.int .i64 a.id) ∧ w1_.cell? ⟨w.heap.size, 1, none⟩ = some (.int .i64 a.role) ∧ w1_.cell? ⟨w.heap.size, 2, none⟩ = some (.int .i64 a.bar) ∧ w1_.cell? ⟨w.heap.size, 3, none⟩ = some (.int .i64 a.mark) ∧ w1_.cell? ⟨w.heap.size, 4, none⟩ = some (.int .i64 a.kind) ∧ w1_.cell? ⟨w.heap.size, 5, none⟩ = some (.int .i64 a.side) ∧ w1_.cell? ⟨w.heap.size, 6, none⟩ = some (.int .i64 a.dir) ∧ w1_.cell? ⟨w.heap.size, 7, none⟩ = some (.int .i64 a.level) ∧ w1_.cell? ⟨w.heap.size, 8, none⟩ = some (.int .i64 a.size) ∧ w1_.cell? ⟨w.heap.size, 9, none⟩ = some (.int .i64 a.wth) ∧ w1_.cell? ⟨w.heap.size, 10, none⟩ = some (.int .i64 a.fn) ∧ w1_.cell? ⟨w.heap.size, 11, none⟩ = some (.int .i64 a.fd) ∧ w1_.cell? ⟨w.heap.size, 12, none⟩ = some (.int .i64 a.tn) ∧ w1_.cell? ⟨w.heap.size, 13, none⟩ = some (.int .i64 a.td) := (by refine ⟨?_, ?_, ?_, ?_, ?_, ?_, ?_, ?_, ?_, ?_, ?_, ?_, ?_, ?_⟩ <;> (rw [hc1_ _ _ (by first | assumption | (simp; done) | (simp; omega) | omega)]; first | assumption | (simp [go_sem]; done) | (simp [go_sem, *]; done))); have z1_w_1 : w.heap.size + 1 < w1_.heap.size := (by have := hb1_.size; first | omega | (simp at this; omega)); obtain ⟨g1_w_1_0, g1_w_1_1, g1_w_1_2, g1_w_1_3, g1_w_1_4, g1_w_1_5, g1_w_1_6, g1_w_1_7, g1_w_1_8, g1_w_1_9, g1_w_1_10, g1_w_1_11, g1_w_1_12, g1_w_1_13⟩ : w1_.cell? ⟨w.heap.size + 1, 0, none⟩ = some (.int .i64 b.id) ∧ w1_.cell? ⟨w.heap.size + 1, 1, none⟩ = some (.int .i64 b.role) ∧ w1_.cell? ⟨w.heap.size + 1, 2, none⟩ = some (.int .i64 b.bar) ∧ w1_.cell? ⟨w.heap.size + 1, 3, none⟩ = some (.int .i64 b.mark) ∧ w1_.cell? ⟨w.heap.size + 1, 4, none⟩ = some (.int .i64 b.kind) ∧ w1_.cell? ⟨w.heap.size + 1, 5, none⟩ = some (.int .i64 b.side) ∧ w1_.cell? ⟨w.heap.size + 1, 6, none⟩ = some (.int .i64 b.dir) ∧ w1_.cell? ⟨w.heap.size + 1, 7, none⟩ = some (.int .i64 b.level) ∧ w1_.cell? ⟨w.heap.size + 1, 8, none⟩ = some (.int .i64 b.size) ∧ w1_.cell? ⟨w.heap.size + 1, 9, none⟩ = some (.int .i64 b.wth) ∧ w1_.cell? ⟨w.heap.size + 1, 10, none⟩ = some (.int .i64 b.fn) ∧ w1_.cell? ⟨w.heap.size + 1, 11, none⟩ = some (.int .i64 b.fd) ∧ w1_.cell? ⟨w.heap.size + 1, 12, none⟩ = some (.int .i64 b.tn) ∧ w1_.cell? ⟨w.heap.size + 1, 13, none⟩ = some (.int .i64 b.td) := (by refine ⟨?_, ?_, ?_, ?_, ?_, ?_, ?_, ?_, ?_, ?_, ?_, ?_, ?_, ?_⟩ <;> (rw [hc1_ _ _ (by first | assumption | (simp; done) | (simp; omega) | omega)]; first | assumption | (simp [go_sem]; done) | (simp [go_sem, *]; done))); clear hc1_ hf1_; clear hb1_ hp1_)
  go_upto_region 5 with fail
  have ya0 : ∀ z : Kit.Wd w1_, z.val.cell? ⟨w.heap.size, 0, none⟩ = some (.int .i64 a.id) := fun z => z.cell (by assumption) (by assumption)
  have ya1 : ∀ z : Kit.Wd w1_, z.val.cell? ⟨w.heap.size, 1, none⟩ = some (.int .i64 a.role) := fun z => z.cell (by assumption) (by assumption)
  have ya2 : ∀ z : Kit.Wd w1_, z.val.cell? ⟨w.heap.size, 2, none⟩ = some (.int .i64 a.bar) := fun z => z.cell (by assumption) (by assumption)
  have ya3 : ∀ z : Kit.Wd w1_, z.val.cell? ⟨w.heap.size, 3, none⟩ = some (.int .i64 a.mark) := fun z => z.cell (by assumption) (by assumption)
  have ya4 : ∀ z : Kit.Wd w1_, z.val.cell? ⟨w.heap.size, 4, none⟩ = some (.int .i64 a.kind) := fun z => z.cell (by assumption) (by assumption)
  have ya5 : ∀ z : Kit.Wd w1_, z.val.cell? ⟨w.heap.size, 5, none⟩ = some (.int .i64 a.side) := fun z => z.cell (by assumption) (by assumption)
  have ya6 : ∀ z : Kit.Wd w1_, z.val.cell? ⟨w.heap.size, 6, none⟩ = some (.int .i64 a.dir) := fun z => z.cell (by assumption) (by assumption)
  have ya7 : ∀ z : Kit.Wd w1_, z.val.cell? ⟨w.heap.size, 7, none⟩ = some (.int .i64 a.level) := fun z => z.cell (by assumption) (by assumption)
  have ya8 : ∀ z : Kit.Wd w1_, z.val.cell? ⟨w.heap.size, 8, none⟩ = some (.int .i64 a.size) := fun z => z.cell (by assumption) (by assumption)
  have ya9 : ∀ z : Kit.Wd w1_, z.val.cell? ⟨w.heap.size, 9, none⟩ = some (.int .i64 a.wth) := fun z => z.cell (by assumption) (by assumption)
  have ya10 : ∀ z : Kit.Wd w1_, z.val.cell? ⟨w.heap.size, 10, none⟩ = some (.int .i64 a.fn) := fun z => z.cell (by assumption) (by assumption)
  have ya11 : ∀ z : Kit.Wd w1_, z.val.cell? ⟨w.heap.size, 11, none⟩ = some (.int .i64 a.fd) := fun z => z.cell (by assumption) (by assumption)
  have ya12 : ∀ z : Kit.Wd w1_, z.val.cell? ⟨w.heap.size, 12, none⟩ = some (.int .i64 a.tn) := fun z => z.cell (by assumption) (by assumption)
  have ya13 : ∀ z : Kit.Wd w1_, z.val.cell? ⟨w.heap.size, 13, none⟩ = some (.int .i64 a.td) := fun z => z.cell (by assumption) (by assumption)
  have yb0 : ∀ z : Kit.Wd w1_, z.val.cell? ⟨w.heap.size + 1, 0, none⟩ = some (.int .i64 b.id) := fun z => z.cell (by assumption) (by assumption)
  have yb1 : ∀ z : Kit.Wd w1_, z.val.cell? ⟨w.heap.size + 1, 1, none⟩ = some (.int .i64 b.role) := fun z => z.cell (by assumption) (by assumption)
  have yb2 : ∀ z : Kit.Wd w1_, z.val.cell? ⟨w.heap.size + 1, 2, none⟩ = some (.int .i64 b.bar) := fun z => z.cell (by assumption) (by assumption)
  have yb3 : ∀ z : Kit.Wd w1_, z.val.cell? ⟨w.heap.size + 1, 3, none⟩ = some (.int .i64 b.mark) := fun z => z.cell (by assumption) (by assumption)
  have yb4 : ∀ z : Kit.Wd w1_, z.val.cell? ⟨w.heap.size + 1, 4, none⟩ = some (.int .i64 b.kind) := fun z => z.cell (by assumption) (by assumption)
  have yb5 : ∀ z : Kit.Wd w1_, z.val.cell? ⟨w.heap.size + 1, 5, none⟩ = some (.int .i64 b.side) := fun z => z.cell (by assumption) (by assumption)
  have yb6 : ∀ z : Kit.Wd w1_, z.val.cell? ⟨w.heap.size + 1, 6, none⟩ = some (.int .i64 b.dir) := fun z => z.cell (by assumption) (by assumption)
  have yb7 : ∀ z : Kit.Wd w1_, z.val.cell? ⟨w.heap.size + 1, 7, none⟩ = some (.int .i64 b.level) := fun z => z.cell (by assumption) (by assumption)
  have yb8 : ∀ z : Kit.Wd w1_, z.val.cell? ⟨w.heap.size + 1, 8, none⟩ = some (.int .i64 b.size) := fun z => z.cell (by assumption) (by assumption)
  have yb9 : ∀ z : Kit.Wd w1_, z.val.cell? ⟨w.heap.size + 1, 9, none⟩ = some (.int .i64 b.wth) := fun z => z.cell (by assumption) (by assumption)
  have yb10 : ∀ z : Kit.Wd w1_, z.val.cell? ⟨w.heap.size + 1, 10, none⟩ = some (.int .i64 b.fn) := fun z => z.cell (by assumption) (by assumption)
  have yb11 : ∀ z : Kit.Wd w1_, z.val.cell? ⟨w.heap.size + 1, 11, none⟩ = some (.int .i64 b.fd) := fun z => z.cell (by assumption) (by assumption)
  have yb12 : ∀ z : Kit.Wd w1_, z.val.cell? ⟨w.heap.size + 1, 12, none⟩ = some (.int .i64 b.tn) := fun z => z.cell (by assumption) (by assumption)
  have yb13 : ∀ z : Kit.Wd w1_, z.val.cell? ⟨w.heap.size + 1, 13, none⟩ = some (.int .i64 b.td) := fun z => z.cell (by assumption) (by assumption)
  refine Kit.wp_region_cls (by kernel_rfl) (by kernel_rfl) ?_
  (repeat (go_big_quiet_step (first | (with_reducible exact Kit.calls_cls _ (CA.out _)) | (with_reducible exact Kit.calls_cls _ (CB.out _)))))
  refine wpQuiet_nil ?_
  intro z
  have HZ := Lib.hid (hw1_.trans (z.below.mono hw1_.size))
  clear ya0 ya1 ya2 ya3 ya4 ya5 ya6 ya7 ya8 ya9 ya10 ya11 ya12 ya13 yb0 yb1 yb2 yb3 yb4 yb5 yb6 yb7 yb8 yb9 yb10 yb11 yb12 yb13
  go_wp2
  go_ret
  exact ⟨(by rw [Ty.com_bits64]; rfl), HZ.out⟩
set_option maxRecDepth 100000 in
set_option maxHeartbeats 4000000 in
theorem tr_pair_3 (a b : Ex.Sg) (k roles bars : Int) (ha : Ty.Rt a roles bars) (hb : Ty.Rt b roles bars) (hs : Ty.sim a b = true) (w : World) :
    Calls Tryz.prog 32 #[Ex.sgV a, Ex.sgV b, .int .i64 3] w fun e w' => e = .returned (.bool (false)) ∧ Below w.heap.size w w' := by
  have S1 := Lib.hid (fun W => tr_sim a b W ha.fok ha.tok hb.fok hb.tok)
  have CA := Lib.hid (fun W => tr_columns a W ha.kind)
  have CB := Lib.hid (fun W => tr_columns b W hb.kind)
  have LA := Lib.hid (fun W => tr_leg a W)
  have LB := Lib.hid (fun W => tr_leg b W)
  have B1 := Lib.hid (fun W => tr_both a b 7 2 W)
  have B2 := Lib.hid (fun W => tr_both a b 7 8 W)
  clear ha hb
  rw [hs] at S1
  clear hs
  as_aux_lemma =>
    go_enter Tryz.func32, Tryz.ntmps32
    skip
    (go_wp2_with (fail); refine (S1.out _).mono ?_; rintro e w1_ ⟨rfl, hb1_⟩; have hp1_ : Below w.heap.size w w1_ := Below.trans (by (repeat' first | (with_reducible first | exact Below.refl _ _ | assumption | refine Kit.below_drewN ?_ _ | refine Below.drew ?_ | refine Below.alloc ?_ ?_ _ | refine Below.setCell ?_ ?_ _ | exact Nat.le_refl _) | omega | (simp; omega) | (simp; done) | (apply Below.size; assumption))) (hb1_.mono (by first | assumption | (simp; done) | (simp; omega) | omega)); have hw1_ : Below w.heap.size w w1_ := hp1_; obtain ⟨hc1_, hf1_⟩ := Kit.bcell hb1_; have z1_w : w.heap.size < w1_.heap.size := (by have := hb1_.size; first | omega | (simp at this; omega)); obtain ⟨g1_w_0, g1_w_1, g1_w_2, g1_w_3, g1_w_4, g1_w_5, g1_w_6, g1_w_7, g1_w_8, g1_w_9, g1_w_10, g1_w_11, g1_w_12, g1_w_13⟩ : w1_.cell? ⟨w.heap.size, 0, none⟩ = some (.int .i64 a.id) ∧ w1_.cell? ⟨w.heap.size, 1, none⟩ = some (.int .i64 a.role) ∧ w1_.cell? ⟨w.heap.size, 2, none⟩ = some (.int .i64 a.bar) ∧ w1_.cell? ⟨w.heap.size, 3, none⟩ = some (.int .i64 a.mark) ∧ w1_.cell? ⟨w.heap.size, 4, none⟩ = some (.int .i64 a.kind) ∧ w1_.cell? ⟨w.heap.size, 5, none⟩ = some (.int .i64 a.side) ∧ w1_.cell? ⟨w.heap.size, 6, none⟩ = some (.int .i64 a.dir) ∧ w1_.cell? ⟨w.heap.size, 7, none⟩ = some (.int .i64 a.level) ∧ w1_.cell? ⟨w.heap.size, 8, none⟩ = some (.int .i64 a.size) ∧ w1_.cell? ⟨w.heap.size, 9, none⟩ = some (.int .i64 a.wth) ∧ w1_.cell? ⟨w.heap.size, 10, none⟩ = some (.int .i64 a.fn) ∧ w1_.cell? ⟨w.heap.size, 11, none⟩ = some (.int .i64 a.fd) ∧ w1_.cell? ⟨w.heap.size, 12, none⟩ = some (.int .i64 a.tn) ∧ w1_.cell? ⟨w.heap.size, 13, none⟩ = some (.int .i64 a.td) := (by refine ⟨?_, ?_, ?_, ?_, ?_, ?_, ?_, ?_, ?_, ?_, ?_, ?_, ?_, ?_⟩ <;> (rw [hc1_ _ _ (by first | assumption | (simp; done) | (simp; omega) | omega)]; first | assumption | (simp [go_sem]; done) | (simp [go_sem, *]; done))); have z1_w_1 : w.heap.size + 1 < w1_.heap.size := (by have := hb1_.size; first | omega | (simp at this; omega)); obtain ⟨g1_w_1_0, g1_w_1_1, g1_w_1_2, g1_w_1_3, g1_w_1_4, g1_w_1_5, g1_w_1_6, g1_w_1_7, g1_w_1_8, g1_w_1_9, g1_w_1_10, g1_w_1_11, g1_w_1_12, g1_w_1_13⟩ : w1_.cell? ⟨w.heap.size + 1, 0, none⟩ = some (.int .i64 b.id) ∧ w1_.cell? ⟨w.heap.size + 1, 1, none⟩ = some (.int .i64 b.role) ∧ w1_.cell? ⟨w.heap.size + 1, 2, none⟩ = some (.int .i64 b.bar) ∧ w1_.cell? ⟨w.heap.size + 1, 3, none⟩ = some (.int .i64 b.mark) ∧ w1_.cell? ⟨w.heap.size + 1, 4, none⟩ = some (.int .i64 b.kind) ∧ w1_.cell? ⟨w.heap.size + 1, 5, none⟩ = some (.int .i64 b.side) ∧ w1_.cell? ⟨w.heap.size + 1, 6, none⟩ = some (.int .i64 b.dir) ∧ w1_.cell? ⟨w.heap.size + 1, 7, none⟩ = some (.int .i64 b.level) ∧ w1_.cell? ⟨w.heap.size + 1, 8, none⟩ = some (.int .i64 b.size) ∧ w1_.cell? ⟨w.heap.size + 1, 9, none⟩ = some (.int .i64 b.wth) ∧ w1_.cell? ⟨w.heap.size + 1, 10, none⟩ = some (.int .i64 b.fn) ∧ w1_.cell? ⟨w.heap.size + 1, 11, none⟩ = some (.int .i64 b.fd) ∧ w1_.cell? ⟨w.heap.size + 1, 12, none⟩ = some (.int .i64 b.tn) ∧ w1_.cell? ⟨w.heap.size + 1, 13, none⟩ = some (.int .i64 b.td) := (by refine ⟨?_, ?_, ?_, ?_, ?_, ?_, ?_, ?_, ?_, ?_, ?_, ?_, ?_, ?_⟩ <;> (rw [hc1_ _ _ (by first | assumption | (simp; done) | (simp; omega) | omega)]; first | assumption | (simp [go_sem]; done) | (simp [go_sem, *]; done))); clear hc1_ hf1_; clear hb1_ hp1_)
    go_wp2
    all_goals (go_ret; exact ⟨rfl, by (repeat' first | (with_reducible first | exact Below.refl _ _ | assumption | refine Kit.below_drewN ?_ _ | refine Below.drew ?_ | refine Below.alloc ?_ ?_ _ | refine Below.setCell ?_ ?_ _ | exact Nat.le_refl _) | omega | (simp; omega) | (simp; done) | (apply Below.size; assumption))⟩)
set_option maxRecDepth 100000 in
set_option maxHeartbeats 4000000 in
theorem tr_pair_4 (a b : Ex.Sg) (k roles bars : Int) (ha : Ty.Rt a roles bars) (hb : Ty.Rt b roles bars) (hs : Ty.sim a b = true) (w : World) :
    Calls Tryz.prog 32 #[Ex.sgV a, Ex.sgV b, .int .i64 4] w fun e w' => e = .returned (.bool (Ty.tow a b)) ∧ Below w.heap.size w w' := by
  have S1 := Lib.hid (fun W => tr_sim a b W ha.fok ha.tok hb.fok hb.tok)
  have CA := Lib.hid (fun W => tr_columns a W ha.kind)
  have CB := Lib.hid (fun W => tr_columns b W hb.kind)
  have LA := Lib.hid (fun W => tr_leg a W)
  have LB := Lib.hid (fun W => tr_leg b W)
  have B1 := Lib.hid (fun W => tr_both a b 7 2 W)
  have B2 := Lib.hid (fun W => tr_both a b 7 8 W)
  clear ha hb
  rw [hs] at S1
  clear hs
  unfold Ty.tow
  rcases ba : Ty.are a b 7 8 with _ | _ <;>
  · rw [ba] at B2
    as_aux_lemma =>
      go_enter Tryz.func32, Tryz.ntmps32
      skip
      (go_wp2_with (fail); refine (S1.out _).mono ?_; rintro e w1_ ⟨rfl, hb1_⟩; have hp1_ : Below w.heap.size w w1_ := Below.trans (by (repeat' first | (with_reducible first | exact Below.refl _ _ | assumption | refine Kit.below_drewN ?_ _ | refine Below.drew ?_ | refine Below.alloc ?_ ?_ _ | refine Below.setCell ?_ ?_ _ | exact Nat.le_refl _) | omega | (simp; omega) | (simp; done) | (apply Below.size; assumption))) (hb1_.mono (by first | assumption | (simp; done) | (simp; omega) | omega)); have hw1_ : Below w.heap.size w w1_ := hp1_; obtain ⟨hc1_, hf1_⟩ := Kit.bcell hb1_; have z1_w : w.heap.size < w1_.heap.size := (by have := hb1_.size; first | omega | (simp at this; omega)); obtain ⟨g1_w_0, g1_w_1, g1_w_2, g1_w_3, g1_w_4, g1_w_5, g1_w_6, g1_w_7, g1_w_8, g1_w_9, g1_w_10, g1_w_11, g1_w_12, g1_w_13⟩ : w1_.cell? ⟨w.heap.size, 0, none⟩ = some (.int .i64 a.id) ∧ w1_.cell? ⟨w.heap.size, 1, none⟩ = some (.int .i64 a.role) ∧ w1_.cell? ⟨w.heap.size, 2, none⟩ = some (.int .i64 a.bar) ∧ w1_.cell? ⟨w.heap.size, 3, none⟩ = some (.int .i64 a.mark) ∧ w1_.cell? ⟨w.heap.size, 4, none⟩ = some (.int .i64 a.kind) ∧ w1_.cell? ⟨w.heap.size, 5, none⟩ = some (.int .i64 a.side) ∧ w1_.cell? ⟨w.heap.size, 6, none⟩ = some (.int .i64 a.dir) ∧ w1_.cell? ⟨w.heap.size, 7, none⟩ = some (.int .i64 a.level) ∧ w1_.cell? ⟨w.heap.size, 8, none⟩ = some (.int .i64 a.size) ∧ w1_.cell? ⟨w.heap.size, 9, none⟩ = some (.int .i64 a.wth) ∧ w1_.cell? ⟨w.heap.size, 10, none⟩ = some (.int .i64 a.fn) ∧ w1_.cell? ⟨w.heap.size, 11, none⟩ = some (.int .i64 a.fd) ∧ w1_.cell? ⟨w.heap.size, 12, none⟩ = some (.int .i64 a.tn) ∧ w1_.cell? ⟨w.heap.size, 13, none⟩ = some (.int .i64 a.td) := (by refine ⟨?_, ?_, ?_, ?_, ?_, ?_, ?_, ?_, ?_, ?_, ?_, ?_, ?_, ?_⟩ <;> (rw [hc1_ _ _ (by first | assumption | (simp; done) | (simp; omega) | omega)]; first | assumption | (simp [go_sem]; done) | (simp [go_sem, *]; done))); have z1_w_1 : w.heap.size + 1 < w1_.heap.size := (by have := hb1_.size; first | omega | (simp at this; omega)); obtain ⟨g1_w_1_0, g1_w_1_1, g1_w_1_2, g1_w_1_3, g1_w_1_4, g1_w_1_5, g1_w_1_6, g1_w_1_7, g1_w_1_8, g1_w_1_9, g1_w_1_10, g1_w_1_11, g1_w_1_12, g1_w_1_13⟩ : w1_.cell? ⟨w.heap.size + 1, 0, none⟩ = some (.int .i64 b.id) ∧ w1_.cell? ⟨w.heap.size + 1, 1, none⟩ = some (.int .i64 b.role) ∧ w1_.cell? ⟨w.heap.size + 1, 2, none⟩ = some (.int .i64 b.bar) ∧ w1_.cell? ⟨w.heap.size + 1, 3, none⟩ = some (.int .i64 b.mark) ∧ w1_.cell? ⟨w.heap.size + 1, 4, none⟩ = some (.int .i64 b.kind) ∧ w1_.cell? ⟨w.heap.size + 1, 5, none⟩ = some (.int .i64 b.side) ∧ w1_.cell? ⟨w.heap.size + 1, 6, none⟩ = some (.int .i64 b.dir) ∧ w1_.cell? ⟨w.heap.size + 1, 7, none⟩ = some (.int .i64 b.level) ∧ w1_.cell? ⟨w.heap.size + 1, 8, none⟩ = some (.int .i64 b.size) ∧ w1_.cell? ⟨w.heap.size + 1, 9, none⟩ = some (.int .i64 b.wth) ∧ w1_.cell? ⟨w.heap.size + 1, 10, none⟩ = some (.int .i64 b.fn) ∧ w1_.cell? ⟨w.heap.size + 1, 11, none⟩ = some (.int .i64 b.fd) ∧ w1_.cell? ⟨w.heap.size + 1, 12, none⟩ = some (.int .i64 b.tn) ∧ w1_.cell? ⟨w.heap.size + 1, 13, none⟩ = some (.int .i64 b.td) := (by refine ⟨?_, ?_, ?_, ?_, ?_, ?_, ?_, ?_, ?_, ?_, ?_, ?_, ?_, ?_⟩ <;> (rw [hc1_ _ _ (by first | assumption | (simp; done) | (simp; omega) | omega)]; first | assumption | (simp [go_sem]; done) | (simp [go_sem, *]; done))); clear hc1_ hf1_; clear hb1_ hp1_)
      (go_wp2_with (fail); refine (B2.out _).mono ?_; rintro e w2_ ⟨rfl, hb2_⟩; have hp2_ : Below w1_.heap.size w1_ w2_ := Below.trans (by (repeat' first | (with_reducible first | exact Below.refl _ _ | assumption | refine Kit.below_drewN ?_ _ | refine Below.drew ?_ | refine Below.alloc ?_ ?_ _ | refine Below.setCell ?_ ?_ _ | exact Nat.le_refl _) | omega | (simp; omega) | (simp; done) | (apply Below.size; assumption))) (hb2_.mono (by first | assumption | (simp; done) | (simp; omega) | omega)); have hw2_ : Below w.heap.size w w2_ := hw1_.trans (hp2_.mono hw1_.size); have z2_w : w.heap.size < w2_.heap.size := Nat.lt_of_lt_of_le z1_w hp2_.size; have g2_w_0 := Kit.ck hp2_ g1_w_0 z1_w; have g2_w_1 := Kit.ck hp2_ g1_w_1 z1_w; have g2_w_2 := Kit.ck hp2_ g1_w_2 z1_w; have g2_w_3 := Kit.ck hp2_ g1_w_3 z1_w; have g2_w_4 := Kit.ck hp2_ g1_w_4 z1_w; have g2_w_5 := Kit.ck hp2_ g1_w_5 z1_w; have g2_w_6 := Kit.ck hp2_ g1_w_6 z1_w; have g2_w_7 := Kit.ck hp2_ g1_w_7 z1_w; have g2_w_8 := Kit.ck hp2_ g1_w_8 z1_w; have g2_w_9 := Kit.ck hp2_ g1_w_9 z1_w; have g2_w_10 := Kit.ck hp2_ g1_w_10 z1_w; have g2_w_11 := Kit.ck hp2_ g1_w_11 z1_w; have g2_w_12 := Kit.ck hp2_ g1_w_12 z1_w; have g2_w_13 := Kit.ck hp2_ g1_w_13 z1_w; have z2_w_1 : w.heap.size + 1 < w2_.heap.size := Nat.lt_of_lt_of_le z1_w_1 hp2_.size; have g2_w_1_0 := Kit.ck hp2_ g1_w_1_0 z1_w_1; have g2_w_1_1 := Kit.ck hp2_ g1_w_1_1 z1_w_1; have g2_w_1_2 := Kit.ck hp2_ g1_w_1_2 z1_w_1; have g2_w_1_3 := Kit.ck hp2_ g1_w_1_3 z1_w_1; have g2_w_1_4 := Kit.ck hp2_ g1_w_1_4 z1_w_1; have g2_w_1_5 := Kit.ck hp2_ g1_w_1_5 z1_w_1; have g2_w_1_6 := Kit.ck hp2_ g1_w_1_6 z1_w_1; have g2_w_1_7 := Kit.ck hp2_ g1_w_1_7 z1_w_1; have g2_w_1_8 := Kit.ck hp2_ g1_w_1_8 z1_w_1; have g2_w_1_9 := Kit.ck hp2_ g1_w_1_9 z1_w_1; have g2_w_1_10 := Kit.ck hp2_ g1_w_1_10 z1_w_1; have g2_w_1_11 := Kit.ck hp2_ g1_w_1_11 z1_w_1; have g2_w_1_12 := Kit.ck hp2_ g1_w_1_12 z1_w_1; have g2_w_1_13 := Kit.ck hp2_ g1_w_1_13 z1_w_1; clear z1_w g1_w_0 g1_w_1 g1_w_2 g1_w_3 g1_w_4 g1_w_5 g1_w_6 g1_w_7 g1_w_8 g1_w_9 g1_w_10 g1_w_11 g1_w_12 g1_w_13 z1_w_1 g1_w_1_0 g1_w_1_1 g1_w_1_2 g1_w_1_3 g1_w_1_4 g1_w_1_5 g1_w_1_6 g1_w_1_7 g1_w_1_8 g1_w_1_9 g1_w_1_10 g1_w_1_11 g1_w_1_12 g1_w_1_13 hw1_ hb2_ hp2_)
      go_wp2
      all_goals (go_ret; exact ⟨rfl, by (repeat' first | (with_reducible first | exact Below.refl _ _ | assumption | refine Kit.below_drewN ?_ _ | refine Below.drew ?_ | refine Below.alloc ?_ ?_ _ | refine Below.setCell ?_ ?_ _ | exact Nat.le_refl _) | omega | (simp; omega) | (simp; done) | (apply Below.size; assumption))⟩)
theorem tr_pair (a b : Ex.Sg) (k roles bars : Int) (ha : Ty.Rt a roles bars) (hb : Ty.Rt b roles bars) (hk : k = 1 ∨ k = 2 ∨ k = 3 ∨ k = 4) (w : World) :
    Calls Tryz.prog 32 #[Ex.sgV a, Ex.sgV b, .int .i64 k] w fun e w' => e = .returned (.bool (Ty.pairK k a b)) ∧ Below w.heap.size w w' := by
  unfold Ty.pairK
  rcases hs : Ty.sim a b with _ | _
  · exact tr_pair_0 a b k roles bars ha hb hs w
  rcases hk with rfl | rfl | rfl | rfl
  · exact tr_pair_1 a b 1 roles bars ha hb hs w
  · exact tr_pair_2 a b 2 roles bars ha hb hs w
  · exact tr_pair_3 a b 3 roles bars ha hb hs w
  · exact tr_pair_4 a b 4 roles bars ha hb hs w
end Go.Proofs.YtggfeblfhabmkaaGreatDoor
