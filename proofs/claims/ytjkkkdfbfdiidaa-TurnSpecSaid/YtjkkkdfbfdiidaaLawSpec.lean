/- For all turns and numbers Check and Make answer as the reference does. -/
import Derived.Test.YtjkkkdfbfdiidaaRows
import Derived.Test.YtjkkkdfbfdiidaaTurnV
import Derived.Test.YtjkkkdfbfdiidaaTurnS
import Derived.WalkKit
import Derived.ProofKit
import Derived.OpenShut
import Derived.ChangeOld
import Derived.Lib.SmallJoins
namespace Go.Proofs.Ytjkkkdfbfdiidaa.lawSpec
set_option linter.unusedVariables false
set_option linter.unusedSimpArgs false
open Go.ChangeShapes Go.WideShapes Go.ChangeAt Go.RowKit Go.Joins

theorem make_same (p q : Int) : ∃ x y z r : Int, (∀ w, Calls Try.prog 12 #[.int .i64 p, .int .i64 q] w fun e w' => e = .returned (.tuple #[.agg #[.int .i64 x, .int .i64 y, .int .i64 z], .int .i64 r]) ∧ Below w.heap.size w w') ∧
    (∀ w, Calls Try.prog 13 #[.int .i64 p, .int .i64 q] w fun e w' => e = .returned (.tuple #[.agg #[.int .i64 x, .int .i64 y, .int .i64 z], .int .i64 r]) ∧ Below w.heap.size w w') := by
  by_cases h : p < -127 ∨ q < -127 ∨ 127 < p ∨ 127 < q ∨ (p = 0 ∧ q = 0)
  · exact ⟨_, _, _, _, fun w => t_make_err p q w h, fun w => r_make_err p q w h⟩
  · have hd := Tm.g3_pos (p * p - q * q) (2 * p * q) (p * p + q * q) (Tm.make_pos p q (by omega))
    exact ⟨_, _, _, _, fun w => t_make_ok p q _ w (by omega) (by omega) (by omega) (by omega) (by omega) hd rfl, fun w => r_make_ok p q _ w (by omega) (by omega) (by omega) (by omega) (by omega) hd rfl⟩

set_option maxHeartbeats 1000000 in
theorem walk (a b c p q : Int) (w : World) : Calls Try.prog 3 #[.agg #[.int .i64 a, .int .i64 b, .int .i64 c], .int .i64 p, .int .i64 q] w fun e w' => e = .returned (.bool true) ∧ Below w.heap.size w w' := by
  obtain ⟨x, y, z, r, hT, hR⟩ := make_same p q
  have k1 := t_check a b c
  have k2 := r_check a b c
  generalize (if Tm.vld a b c = true then (0 : Int) else 140) = r2 at k1 k2
  unfold TChk at k1
  unfold RChk at k2
  replace hT := Lib.hid hT
  replace hR := Lib.hid hR
  replace k1 := Lib.hid k1
  replace k2 := Lib.hid k2
  go_enter Try.func3, Try.ntmps3
  skip
  (go_wp2_with fail; refine (sane_true _).mono ?_; rintro e w1_ ⟨rfl, hb1_⟩; have hp1_ : Below w.heap.size w w1_ := Below.trans (by (repeat' (first | (with_reducible exact Below.refl _ _) | (with_reducible assumption) | (with_reducible refine Kit.below_drewN ?_ _) | (with_reducible refine Below.drew ?_) | (with_reducible refine Below.alloc ?_ ?_ _) | (with_reducible refine Below.setCell ?_ ?_ _) | (with_reducible exact Nat.le_refl _) | omega | (simp; omega) | (simp; done)))) (hb1_.mono (by first | assumption | (simp; done) | (simp; omega) | omega)); have hw1_ : Below w.heap.size w w1_ := hp1_; obtain ⟨hc1_, hf1_⟩ := Kit.bcell hb1_; have z1_w : w.heap.size < w1_.heap.size := (by have := hb1_.size; first | omega | (simp at this; omega)); have g1_w_0 : w1_.cell? ⟨w.heap.size, 0, none⟩ = some (.int .i64 a) := (by rw [hc1_ _ _ (by first | assumption | (simp; done) | (simp; omega) | omega)]; first | assumption | (simp [go_sem]; done) | (simp [go_sem, *]; done)); have g1_w_1 : w1_.cell? ⟨w.heap.size, 1, none⟩ = some (.int .i64 b) := (by rw [hc1_ _ _ (by first | assumption | (simp; done) | (simp; omega) | omega)]; first | assumption | (simp [go_sem]; done) | (simp [go_sem, *]; done)); have g1_w_2 : w1_.cell? ⟨w.heap.size, 2, none⟩ = some (.int .i64 c) := (by rw [hc1_ _ _ (by first | assumption | (simp; done) | (simp; omega) | omega)]; first | assumption | (simp [go_sem]; done) | (simp [go_sem, *]; done)); clear hc1_ hf1_; clear hb1_ hp1_)
  (go_wp2_with fail; refine (hT.out _).mono ?_; rintro e w2_ ⟨rfl, hb2_⟩; have hp2_ : Below w1_.heap.size w1_ w2_ := Below.trans (by (repeat' (first | (with_reducible exact Below.refl _ _) | (with_reducible assumption) | (with_reducible refine Kit.below_drewN ?_ _) | (with_reducible refine Below.drew ?_) | (with_reducible refine Below.alloc ?_ ?_ _) | (with_reducible refine Below.setCell ?_ ?_ _) | (with_reducible exact Nat.le_refl _) | omega | (simp; omega) | (simp; done)))) (hb2_.mono (by first | assumption | (simp; done) | (simp; omega) | omega)); have hw2_ : Below w.heap.size w w2_ := hw1_.trans (hp2_.mono hw1_.size); have z2_w : w.heap.size < w2_.heap.size := Nat.lt_of_lt_of_le z1_w hp2_.size; have g2_w_0 : w2_.cell? ⟨w.heap.size, 0, none⟩ = some (.int .i64 a) := (hp2_.cell (p := ⟨w.heap.size, 0, none⟩) z1_w).trans g1_w_0; have g2_w_1 : w2_.cell? ⟨w.heap.size, 1, none⟩ = some (.int .i64 b) := (hp2_.cell (p := ⟨w.heap.size, 1, none⟩) z1_w).trans g1_w_1; have g2_w_2 : w2_.cell? ⟨w.heap.size, 2, none⟩ = some (.int .i64 c) := (hp2_.cell (p := ⟨w.heap.size, 2, none⟩) z1_w).trans g1_w_2; clear z1_w g1_w_0 g1_w_1 g1_w_2 hw1_ hb2_ hp2_)
  (go_wp2_with fail; refine (hR.out _).mono ?_; rintro e w3_ ⟨rfl, hb3_⟩; have hp3_ : Below w2_.heap.size w2_ w3_ := Below.trans (by (repeat' (first | (with_reducible exact Below.refl _ _) | (with_reducible assumption) | (with_reducible refine Kit.below_drewN ?_ _) | (with_reducible refine Below.drew ?_) | (with_reducible refine Below.alloc ?_ ?_ _) | (with_reducible refine Below.setCell ?_ ?_ _) | (with_reducible exact Nat.le_refl _) | omega | (simp; omega) | (simp; done)))) (hb3_.mono (by first | assumption | (simp; done) | (simp; omega) | omega)); have hw3_ : Below w.heap.size w w3_ := hw2_.trans (hp3_.mono hw2_.size); have z3_w : w.heap.size < w3_.heap.size := Nat.lt_of_lt_of_le z2_w hp3_.size; have g3_w_0 : w3_.cell? ⟨w.heap.size, 0, none⟩ = some (.int .i64 a) := (hp3_.cell (p := ⟨w.heap.size, 0, none⟩) z2_w).trans g2_w_0; have g3_w_1 : w3_.cell? ⟨w.heap.size, 1, none⟩ = some (.int .i64 b) := (hp3_.cell (p := ⟨w.heap.size, 1, none⟩) z2_w).trans g2_w_1; have g3_w_2 : w3_.cell? ⟨w.heap.size, 2, none⟩ = some (.int .i64 c) := (hp3_.cell (p := ⟨w.heap.size, 2, none⟩) z2_w).trans g2_w_2; obtain ⟨hc3_, hf3_⟩ := Kit.bcell hb3_; have z3_w2 : w2_.heap.size < w3_.heap.size := (by have := hb3_.size; first | omega | (simp at this; omega)); have g3_w2_0 : w3_.cell? ⟨w2_.heap.size, 0, none⟩ = some (.int .i64 x) := (by rw [hc3_ _ _ (by first | assumption | (simp; done) | (simp; omega) | omega)]; first | assumption | (simp [go_sem]; done) | (simp [go_sem, *]; done)); have g3_w2_1 : w3_.cell? ⟨w2_.heap.size, 1, none⟩ = some (.int .i64 y) := (by rw [hc3_ _ _ (by first | assumption | (simp; done) | (simp; omega) | omega)]; first | assumption | (simp [go_sem]; done) | (simp [go_sem, *]; done)); have g3_w2_2 : w3_.cell? ⟨w2_.heap.size, 2, none⟩ = some (.int .i64 z) := (by rw [hc3_ _ _ (by first | assumption | (simp; done) | (simp; omega) | omega)]; first | assumption | (simp [go_sem]; done) | (simp [go_sem, *]; done)); clear hc3_ hf3_; clear z2_w g2_w_0 g2_w_1 g2_w_2 hw2_ hb3_ hp3_)
  go_wp2
  refine Kit.wp_name ?_
  intro W hW
  have bW : Below w.heap.size w W := by rw [hW]; exact hw3_.trans ((Below.refl _ _).alloc (Nat.le_refl _) _ |>.mono hw3_.size)
  have q1 : w.heap.size < W.heap.size := by rw [hW]; simp; omega
  have q2 : w2_.heap.size < W.heap.size := by rw [hW]; simp; omega
  have q3 : w3_.heap.size < W.heap.size := by rw [hW]; simp
  (have cA0 : ∀ xW : Kit.Wd W, xW.val.cell? ⟨w.heap.size, 0, none⟩ = some (.int .i64 a) := fun xW => xW.cell (by rw [hW]; first | assumption | (simp [go_sem]; done) | (simp [go_sem, *]; done)) q1; have cA1 : ∀ xW : Kit.Wd W, xW.val.cell? ⟨w.heap.size, 1, none⟩ = some (.int .i64 b) := fun xW => xW.cell (by rw [hW]; first | assumption | (simp [go_sem]; done) | (simp [go_sem, *]; done)) q1; have cA2 : ∀ xW : Kit.Wd W, xW.val.cell? ⟨w.heap.size, 2, none⟩ = some (.int .i64 c) := fun xW => xW.cell (by rw [hW]; first | assumption | (simp [go_sem]; done) | (simp [go_sem, *]; done)) q1)
  (have cB0 : ∀ xW : Kit.Wd W, xW.val.cell? ⟨w2_.heap.size, 0, none⟩ = some (.int .i64 x) := fun xW => xW.cell (by rw [hW]; first | assumption | (simp [go_sem]; done) | (simp [go_sem, *]; done)) q2; have cB1 : ∀ xW : Kit.Wd W, xW.val.cell? ⟨w2_.heap.size, 1, none⟩ = some (.int .i64 y) := fun xW => xW.cell (by rw [hW]; first | assumption | (simp [go_sem]; done) | (simp [go_sem, *]; done)) q2; have cB2 : ∀ xW : Kit.Wd W, xW.val.cell? ⟨w2_.heap.size, 2, none⟩ = some (.int .i64 z) := fun xW => xW.cell (by rw [hW]; first | assumption | (simp [go_sem]; done) | (simp [go_sem, *]; done)) q2)
  (have cD0 : ∀ xW : Kit.Wd W, xW.val.cell? ⟨w3_.heap.size, 0, none⟩ = some (.int .i64 x) := fun xW => xW.cell (by rw [hW]; first | assumption | (simp [go_sem]; done) | (simp [go_sem, *]; done)) q3; have cD1 : ∀ xW : Kit.Wd W, xW.val.cell? ⟨w3_.heap.size, 1, none⟩ = some (.int .i64 y) := fun xW => xW.cell (by rw [hW]; first | assumption | (simp [go_sem]; done) | (simp [go_sem, *]; done)) q3; have cD2 : ∀ xW : Kit.Wd W, xW.val.cell? ⟨w3_.heap.size, 2, none⟩ = some (.int .i64 z) := fun xW => xW.cell (by rw [hW]; first | assumption | (simp [go_sem]; done) | (simp [go_sem, *]; done)) q3)
  clear hW
  (refine Kit.wp_region_cls (by kernel_rfl) (by kernel_rfl) ?_; (repeat (go_big_quiet_step (first | with_reducible exact Kit.calls_cls _ (k1.out _) | with_reducible exact Kit.calls_cls _ (k2.out _)))); refine wpQuiet_nil ?_; intro x9)
  go_wp2
  go_ret
  exact ⟨rfl, bW.trans (x9.below.mono bW.size)⟩

theorem own : ownKnob Try.prog.godebug = none := by kernel_rfl
theorem laidOut : laidOutB Try.prog = true := by kernel_rfl

set_option maxRecDepth 100000 in
theorem lifted (os : Os) (started : os.Started) (H : Type) (enc : TypeId × Value → H) :
    ReturnsInHanded {} Try.checked os 3 .any (Rows.turnSpecSpec.pre6 enc Try.prog Try.f3 Rows.turnSpecRow.domain false) (Rows.turnSpecSpec.post enc Try.prog Try.f3 false true false false) := by
  refine returnsInHanded_of_change (C := Try.checked) own started (by kernel_rfl) Try.func3
    (ChangeSpec.witness6 (enc := enc) (C := Try.checked) false ⟨#[], #[.agg #[.int .i64 0, .int .i64 0, .int .i64 0], .int .i64 0, .int .i64 0], []⟩ 8 (by kernel_rfl) (by kernel_rfl) (by kernel_rfl) (by kernel_rfl)) ?_
  intro W base args ds gs before hval0 hW hcnd _
  have hval : ∀ (j : Nat) t v, Try.f3.params[j]? = some t → args[j]? = some v → Value.okWide Try.prog W .any base t v := hval0
  have hW' := hW
  obtain ⟨p, q, hA0, hV, rfl, hfz, hnd⟩ := hW
  have hA : DataW.TrodAll enc Try.prog W 0 (fun _ => true) true Try.f3.params.toList args.toList ds p := hA0
  rw [Try.params3] at hA hval
  obtain ⟨v0, vs0, d0, ds0, p0, q0, hargs, rfl, rfl, h0, r0⟩ := trodAll_cons hA
  obtain ⟨v1, vs1, d1, ds1, p1, q1, rfl, rfl, rfl, h1, r1⟩ := trodAll_cons r0
  obtain ⟨v2, vs2, d2, ds2, p2, q2, rfl, rfl, rfl, h2, r2⟩ := trodAll_cons r1
  obtain ⟨rfl, rfl, rfl⟩ := trodAll_nil r2
  obtain rfl : args = #[v0, v1, v2] := by cases args; simp_all
  obtain ⟨rfl, rfl⟩ := trodVars_none hV
  have k0 := h0
  have lt0 : ∀ x ∈ p0, x.block < W.heap.size := by obtain ⟨m, hm⟩ := k0; exact DataW.trod_lt m _ _ _ hm
  have k1 := h1
  have lt1 : ∀ x ∈ p1, x.block < W.heap.size := by obtain ⟨m, hm⟩ := k1; exact DataW.trod_lt m _ _ _ hm
  have k2 := h2
  have lt2 : ∀ x ∈ p2, x.block < W.heap.size := by obtain ⟨m, hm⟩ := k2; exact DataW.trod_lt m _ _ _ hm
  obtain ⟨c0_0, c0_1, c0_2, y0_0, y0_1, y0_2, m0, rfl, _, _, hy0_0, hy0_1, hy0_2⟩ := open_agg3 Try.underlying23 (by kernel_rfl) (show Try.prog.cellsOf 23 = 3 by kernel_rfl) (hval 0 23 v0 rfl rfl) h0
  obtain ⟨x0_0, e0_0, _, w0_0⟩ := DataW.trod_int Try.underlying3 hy0_0
  obtain rfl : c0_0 = .int .i64 x0_0 := by simpa using e0_0
  obtain ⟨x0_1, e0_1, _, w0_1⟩ := DataW.trod_int Try.underlying3 hy0_1
  obtain rfl : c0_1 = .int .i64 x0_1 := by simpa using e0_1
  obtain ⟨x0_2, e0_2, _, w0_2⟩ := DataW.trod_int Try.underlying3 hy0_2
  obtain rfl : c0_2 = .int .i64 x0_2 := by simpa using e0_2
  obtain ⟨x1, rfl, _, _, w1⟩ := open_int Try.underlying3 (hval 1 3 v1 rfl rfl) h1
  obtain ⟨x2, rfl, _, _, w2⟩ := open_int Try.underlying3 (hval 2 3 v2 rfl rfl) h2
  clear hA0 hval0
  refine (walk x0_0 x0_1 x0_2 x1 x2 W).mono fun e W' ⟨he, bel⟩ => ?_
  subst he
  exact ⟨_, rfl, _, _, _, [], _, [], hW', trodAll_mk1 (shut_bool Try.underlying4 _), (trodAll_cons_mk (Below.trod laidOut (by kernel_rfl) (of_decide_eq_true (by kernel_rfl)) k0 bel lt0) (trodAll_cons_mk (Below.trod laidOut (by kernel_rfl) (of_decide_eq_true (by kernel_rfl)) k1 bel lt1) (trodAll_cons_mk (Below.trod laidOut (by kernel_rfl) (of_decide_eq_true (by kernel_rfl)) k2 bel lt2) trodAll_mk0))), rfl, bel.frame _, fun h => by cases h⟩

theorem proved : Rows.TurnSpecSaid :=
  OpenClaim.holds_of_wide 3 Try.f3 rfl rfl rfl rfl rfl rfl rfl ⟨rfl, rfl, rfl, rfl, rfl⟩ rfl rfl rfl rfl rfl (by kernel_rfl) Try.func3 (by kernel_rfl)
    (of_decide_eq_true (by kernel_rfl)) (by unfold Func.isWrapper; rw [if_neg (by decide +kernel)]; exact ⟨rfl, rfl⟩)
    (fun os started H enc _ => lifted os started H enc)
end Go.Proofs.Ytjkkkdfbfdiidaa.lawSpec
