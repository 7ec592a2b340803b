/- Walks: the reference of layer 20: columns, simultaneous, leg, both, fits, pair. -/
import Derived.Test.YtggfeblfhabmkaaGreatDoorTyG
import Derived.Test.YtggfeblfhabmkaaGreatDoorRqx
namespace Go.Proofs.YtggfeblfhabmkaaGreatDoor
set_option linter.unusedVariables false
set_option linter.unusedSimpArgs false
open Go.RowKit Go.Shelf

theorem Ty.mulB {a b : Int} (ha : -1073741824 ≤ a ∧ a ≤ 1073741824) (hb : 0 ≤ b ∧ b ≤ 1073741824) : -1152921504606846976 ≤ a * b ∧ a * b ≤ 1152921504606846976 := by
  have h1 : a * b ≤ 1073741824 * b := Int.mul_le_mul_of_nonneg_right ha.2 hb.1
  have h2 : -1073741824 * b ≤ a * b := Int.mul_le_mul_of_nonneg_right ha.1 hb.1
  omega
set_option maxHeartbeats 1000000 in
theorem tr_columns (s : Ex.Sg) (w : World) (hk : 1 ≤ s.kind ∧ s.kind ≤ 9) :
    Calls Tryz.prog 56 #[Ex.sgV s] w fun e w' => e = .returned (.int .i64 (Ty.cols s.kind s.side : Nat)) ∧ Below w.heap.size w w' := by
  obtain ⟨id, role, bar, mark, kind, side, dir, level, size, wth, fn, fd, tn, td⟩ := s
  dsimp only at hk ⊢
  have h : kind = 1 ∨ kind = 2 ∨ kind = 3 ∨ kind = 4 ∨ kind = 5 ∨ kind = 6 ∨ kind = 7 ∨ kind = 8 ∨ kind = 9 := by omega
  clear hk
  by_cases h2 : side = 2
  · subst h2
    rcases h with rfl | rfl | rfl | rfl | rfl | rfl | rfl | rfl | rfl <;>
    · go_enter Tryz.func56, Tryz.ntmps56
      go_wp2
      go_ret
      exact ⟨rfl, by (repeat' first | (with_reducible first | exact Below.refl _ _ | assumption | refine Kit.below_drewN ?_ _ | refine Below.drew ?_ | refine Below.alloc ?_ ?_ _ | refine Below.setCell ?_ ?_ _ | exact Nat.le_refl _) | omega | (simp; omega) | (simp; done) | (apply Below.size; assumption))⟩
  · have h3 : (side == 2) = false := by simpa using h2
    rcases h with rfl | rfl | rfl | rfl | rfl | rfl | rfl | rfl | rfl <;>
    · go_enter Tryz.func56, Tryz.ntmps56
      go_wp2
      go_ret
      exact ⟨by simp [Ty.cols, h2], by (repeat' first | (with_reducible first | exact Below.refl _ _ | assumption | refine Kit.below_drewN ?_ _ | refine Below.drew ?_ | refine Below.alloc ?_ ?_ _ | refine Below.setCell ?_ ?_ _ | exact Nat.le_refl _) | omega | (simp; omega) | (simp; done) | (apply Below.size; assumption))⟩
theorem tr_leg (s : Ex.Sg) (w : World) : Calls Tryz.prog 57 #[Ex.sgV s] w fun e w' => e = .returned (.bool (Ty.leg s)) ∧ Below w.heap.size w w' := by
  obtain ⟨id, role, bar, mark, kind, side, dir, level, size, wth, fn, fd, tn, td⟩ := s
  unfold Ty.leg
  dsimp only
  rcases c1 : (kind == 1) with _ | _ <;> rcases c2 : (kind == 3) with _ | _ <;>
  · go_enter Tryz.func57, Tryz.ntmps57
    go_wp2
    go_ret
    exact ⟨rfl, by (repeat' first | (with_reducible first | exact Below.refl _ _ | assumption | refine Kit.below_drewN ?_ _ | refine Below.drew ?_ | refine Below.alloc ?_ ?_ _ | refine Below.setCell ?_ ?_ _ | exact Nat.le_refl _) | omega | (simp; omega) | (simp; done) | (apply Below.size; assumption))⟩
set_option maxHeartbeats 1000000 in
theorem tr_both (a b : Ex.Sg) (x y : Int) (w : World) : Calls Tryz.prog 58 #[Ex.sgV a, Ex.sgV b, .int .i64 x, .int .i64 y] w fun e w' => e = .returned (.bool (Ty.are a b x y)) ∧ Below w.heap.size w w' := by
  obtain ⟨id, role, bar, mark, kind, side, dir, level, size, wth, fn, fd, tn, td⟩ := a
  obtain ⟨id', role', bar', mark', kind', side', dir', level', size', wth', fn', fd', tn', td'⟩ := b
  unfold Ty.are
  dsimp only
  rcases c1 : (kind == x) with _ | _ <;> rcases c2 : (kind' == y) with _ | _ <;> rcases c3 : (kind == y) with _ | _ <;> rcases c4 : (kind' == x) with _ | _ <;>
  · go_enter Tryz.func58, Tryz.ntmps58
    go_wp2
    go_ret
    exact ⟨rfl, by (repeat' first | (with_reducible first | exact Below.refl _ _ | assumption | refine Kit.below_drewN ?_ _ | refine Below.drew ?_ | refine Below.alloc ?_ ?_ _ | refine Below.setCell ?_ ?_ _ | exact Nat.le_refl _) | omega | (simp; omega) | (simp; done) | (apply Below.size; assumption))⟩
set_option maxHeartbeats 1000000 in
theorem tr_sim (a b : Ex.Sg) (w : World) (ha : Ra.ok a.fn a.fd = true) (ha' : Ra.ok a.tn a.td = true) (hb : Ra.ok b.fn b.fd = true) (hb' : Ra.ok b.tn b.td = true) :
    Calls Tryz.prog 55 #[Ex.sgV a, Ex.sgV b] w fun e w' => e = .returned (.bool (Ty.sim a b)) ∧ Below w.heap.size w w' := by
  have f := (Ra.ok_iff _ _).1 ha
  have t := (Ra.ok_iff _ _).1 ha'
  have g := (Ra.ok_iff _ _).1 hb
  have u := (Ra.ok_iff _ _).1 hb'
  have L1 := Lib.hid (fun W => rq_less a.fn a.fd b.tn b.td W (Ty.mulB (by omega) (by omega)) (Ty.mulB (by omega) (by omega)))
  have L2 := Lib.hid (fun W => rq_less b.fn b.fd a.tn a.td W (Ty.mulB (by omega) (by omega)) (Ty.mulB (by omega) (by omega)))
  clear f t g u ha ha' hb hb'
  obtain ⟨id, role, bar, mark, kind, side, dir, level, size, wth, fn, fd, tn, td⟩ := a
  obtain ⟨id', role', bar', mark', kind', side', dir', level', size', wth', fn', fd', tn', td'⟩ := b
  dsimp only at L1 L2
  unfold Ty.sim Ty.over Ty.bef
  dsimp only
  rcases c1 : (role == role') with _ | _
  · go_enter Tryz.func55, Tryz.ntmps55
    go_wp2
    go_ret
    exact ⟨rfl, by (repeat' first | (with_reducible first | exact Below.refl _ _ | assumption | refine Kit.below_drewN ?_ _ | refine Below.drew ?_ | refine Below.alloc ?_ ?_ _ | refine Below.setCell ?_ ?_ _ | exact Nat.le_refl _) | omega | (simp; omega) | (simp; done) | (apply Below.size; assumption))⟩
  rcases c2 : (bar == bar') with _ | _
  · go_enter Tryz.func55, Tryz.ntmps55
    go_wp2
    go_ret
    exact ⟨rfl, by (repeat' first | (with_reducible first | exact Below.refl _ _ | assumption | refine Kit.below_drewN ?_ _ | refine Below.drew ?_ | refine Below.alloc ?_ ?_ _ | refine Below.setCell ?_ ?_ _ | exact Nat.le_refl _) | omega | (simp; omega) | (simp; done) | (apply Below.size; assumption))⟩
  rcases c3 : decide (fn * td' < tn' * fd) with _ | _
  · rw [c3] at L1
    go_enter Tryz.func55, Tryz.ntmps55
    go_wp2_with fail
    refine (L1.out _).mono ?_
    rintro _ w1 ⟨rfl, hb1⟩
    have HB1 := Lib.hid hb1
    clear hb1
    go_wp2
    go_ret
    exact ⟨rfl, by have hh := HB1.out; exact ((((Below.refl w.heap.size w).alloc (Nat.le_refl _) _).alloc (by simp) _)).trans (hh.mono (by simp; omega))⟩
  · rw [c3] at L1
    rcases c4 : decide (fn' * td < tn * fd') with _ | _ <;>
    · rw [c4] at L2
      go_enter Tryz.func55, Tryz.ntmps55
      skip
      (go_wp2_with (fail); refine (L1.out _).mono ?_; rintro e w1_ ⟨rfl, hb1_⟩; have hp1_ : Below w.heap.size w w1_ := Below.trans (by (repeat' first | (with_reducible first | exact Below.refl _ _ | assumption | refine Kit.below_drewN ?_ _ | refine Below.drew ?_ | refine Below.alloc ?_ ?_ _ | refine Below.setCell ?_ ?_ _ | exact Nat.le_refl _) | omega | (simp; omega) | (simp; done) | (apply Below.size; assumption))) (hb1_.mono (by first | assumption | (simp; done) | (simp; omega) | omega)); have hw1_ : Below w.heap.size w w1_ := hp1_; obtain ⟨hc1_, hf1_⟩ := Kit.bcell hb1_; have z1_w : w.heap.size < w1_.heap.size := (by have := hb1_.size; first | omega | (simp at this; omega)); obtain ⟨g1_w_0, g1_w_1, g1_w_2, g1_w_3, g1_w_4, g1_w_5, g1_w_6, g1_w_7, g1_w_8, g1_w_9, g1_w_10, g1_w_11, g1_w_12, g1_w_13⟩ : w1_.cell? ⟨w.heap.size, 0, none⟩ = some (.int .i64 id) ∧ w1_.cell? ⟨w.heap.size, 1, none⟩ = some (.int .i64 role) ∧ w1_.cell? ⟨w.heap.size, 2, none⟩ = some (.int .i64 bar) ∧ w1_.cell? ⟨w.heap.size, 3, none⟩ = some (.int .i64 mark) ∧ w1_.cell? ⟨w.heap.size, 4, none⟩ = some (.int .i64 kind) ∧ w1_.cell? ⟨w.heap.size, 5, none⟩ = some (.int .i64 side) ∧ w1_.cell? ⟨w.heap.size, 6, none⟩ = some (.int .i64 dir) ∧ w1_.cell? ⟨w.heap.size, 7, none⟩ = some (.int .i64 level) ∧ w1_.cell? ⟨w.heap.size, 8, none⟩ = some (.int .i64 size) ∧ w1_.cell? ⟨w.heap.size, 9, none⟩ = some (.int .i64 wth) ∧ w1_.cell? ⟨w.heap.size, 10, none⟩ = some (.int .i64 fn) ∧ w1_.cell? ⟨w.heap.size, 11, none⟩ = some (.int .i64 fd) ∧ w1_.cell? ⟨w.heap.size, 12, none⟩ = some (.int .i64 tn) ∧ w1_.cell? ⟨w.heap.size, 13, none⟩ = some (.int .i64 td) := (by refine ⟨?_, ?_, ?_, ?_, ?_, ?_, ?_, ?_, ?_, ?_, ?_, ?_, ?_, ?_⟩ <;> (rw [hc1_ _ _ (by first | assumption | (simp; done) | (simp; omega) | omega)]; first | assumption | (simp [go_sem]; done) | (simp [go_sem, *]; done))); have z1_w_1 : w.heap.size + 1 < w1_.heap.size := (by have := hb1_.size; first | omega | (simp at this; omega)); obtain ⟨g1_w_1_0, g1_w_1_1, g1_w_1_2, g1_w_1_3, g1_w_1_4, g1_w_1_5, g1_w_1_6, g1_w_1_7, g1_w_1_8, g1_w_1_9, g1_w_1_10, g1_w_1_11, g1_w_1_12, g1_w_1_13⟩ : w1_.cell? ⟨w.heap.size + 1, 0, none⟩ = some (.int .i64 id') ∧ w1_.cell? ⟨w.heap.size + 1, 1, none⟩ = some (.int .i64 role') ∧ w1_.cell? ⟨w.heap.size + 1, 2, none⟩ = some (.int .i64 bar') ∧ w1_.cell? ⟨w.heap.size + 1, 3, none⟩ = some (.int .i64 mark') ∧ w1_.cell? ⟨w.heap.size + 1, 4, none⟩ = some (.int .i64 kind') ∧ w1_.cell? ⟨w.heap.size + 1, 5, none⟩ = some (.int .i64 side') ∧ w1_.cell? ⟨w.heap.size + 1, 6, none⟩ = some (.int .i64 dir') ∧ w1_.cell? ⟨w.heap.size + 1, 7, none⟩ = some (.int .i64 level') ∧ w1_.cell? ⟨w.heap.size + 1, 8, none⟩ = some (.int .i64 size') ∧ w1_.cell? ⟨w.heap.size + 1, 9, none⟩ = some (.int .i64 wth') ∧ w1_.cell? ⟨w.heap.size + 1, 10, none⟩ = some (.int .i64 fn') ∧ w1_.cell? ⟨w.heap.size + 1, 11, none⟩ = some (.int .i64 fd') ∧ w1_.cell? ⟨w.heap.size + 1, 12, none⟩ = some (.int .i64 tn') ∧ w1_.cell? ⟨w.heap.size + 1, 13, none⟩ = some (.int .i64 td') := (by refine ⟨?_, ?_, ?_, ?_, ?_, ?_, ?_, ?_, ?_, ?_, ?_, ?_, ?_, ?_⟩ <;> (rw [hc1_ _ _ (by first | assumption | (simp; done) | (simp; omega) | omega)]; first | assumption | (simp [go_sem]; done) | (simp [go_sem, *]; done))); clear hc1_ hf1_; clear hb1_ hp1_)
      (go_wp2_with (fail); refine (L2.out _).mono ?_; rintro e w2_ ⟨rfl, hb2_⟩; have hp2_ : Below w1_.heap.size w1_ w2_ := Below.trans (by (repeat' first | (with_reducible first | exact Below.refl _ _ | assumption | refine Kit.below_drewN ?_ _ | refine Below.drew ?_ | refine Below.alloc ?_ ?_ _ | refine Below.setCell ?_ ?_ _ | exact Nat.le_refl _) | omega | (simp; omega) | (simp; done) | (apply Below.size; assumption))) (hb2_.mono (by first | assumption | (simp; done) | (simp; omega) | omega)); have hw2_ : Below w.heap.size w w2_ := hw1_.trans (hp2_.mono hw1_.size); have z2_w : w.heap.size < w2_.heap.size := Nat.lt_of_lt_of_le z1_w hp2_.size; have g2_w_0 := Kit.ck hp2_ g1_w_0 z1_w; have g2_w_1 := Kit.ck hp2_ g1_w_1 z1_w; have g2_w_2 := Kit.ck hp2_ g1_w_2 z1_w; have g2_w_3 := Kit.ck hp2_ g1_w_3 z1_w; have g2_w_4 := Kit.ck hp2_ g1_w_4 z1_w; have g2_w_5 := Kit.ck hp2_ g1_w_5 z1_w; have g2_w_6 := Kit.ck hp2_ g1_w_6 z1_w; have g2_w_7 := Kit.ck hp2_ g1_w_7 z1_w; have g2_w_8 := Kit.ck hp2_ g1_w_8 z1_w; have g2_w_9 := Kit.ck hp2_ g1_w_9 z1_w; have g2_w_10 := Kit.ck hp2_ g1_w_10 z1_w; have g2_w_11 := Kit.ck hp2_ g1_w_11 z1_w; have g2_w_12 := Kit.ck hp2_ g1_w_12 z1_w; have g2_w_13 := Kit.ck hp2_ g1_w_13 z1_w; have z2_w_1 : w.heap.size + 1 < w2_.heap.size := Nat.lt_of_lt_of_le z1_w_1 hp2_.size; have g2_w_1_0 := Kit.ck hp2_ g1_w_1_0 z1_w_1; have g2_w_1_1 := Kit.ck hp2_ g1_w_1_1 z1_w_1; have g2_w_1_2 := Kit.ck hp2_ g1_w_1_2 z1_w_1; have g2_w_1_3 := Kit.ck hp2_ g1_w_1_3 z1_w_1; have g2_w_1_4 := Kit.ck hp2_ g1_w_1_4 z1_w_1; have g2_w_1_5 := Kit.ck hp2_ g1_w_1_5 z1_w_1; have g2_w_1_6 := Kit.ck hp2_ g1_w_1_6 z1_w_1; have g2_w_1_7 := Kit.ck hp2_ g1_w_1_7 z1_w_1; have g2_w_1_8 := Kit.ck hp2_ g1_w_1_8 z1_w_1; have g2_w_1_9 := Kit.ck hp2_ g1_w_1_9 z1_w_1; have g2_w_1_10 := Kit.ck hp2_ g1_w_1_10 z1_w_1; have g2_w_1_11 := Kit.ck hp2_ g1_w_1_11 z1_w_1; have g2_w_1_12 := Kit.ck hp2_ g1_w_1_12 z1_w_1; have g2_w_1_13 := Kit.ck hp2_ g1_w_1_13 z1_w_1; clear z1_w g1_w_0 g1_w_1 g1_w_2 g1_w_3 g1_w_4 g1_w_5 g1_w_6 g1_w_7 g1_w_8 g1_w_9 g1_w_10 g1_w_11 g1_w_12 g1_w_13 z1_w_1 g1_w_1_0 g1_w_1_1 g1_w_1_2 g1_w_1_3 g1_w_1_4 g1_w_1_5 g1_w_1_6 g1_w_1_7 g1_w_1_8 g1_w_1_9 g1_w_1_10 g1_w_1_11 g1_w_1_12 g1_w_1_13 hw1_ hb2_ hp2_)
      go_wp2
      go_ret
      exact ⟨rfl, by (repeat' first | (with_reducible first | exact Below.refl _ _ | assumption | refine Kit.below_drewN ?_ _ | refine Below.drew ?_ | refine Below.alloc ?_ ?_ _ | refine Below.setCell ?_ ?_ _ | exact Nat.le_refl _) | omega | (simp; omega) | (simp; done) | (apply Below.size; assumption))⟩
set_option maxHeartbeats 1000000 in
theorem tr_fits (r l : Ex.Sg) (w : World) (h1 : 0 ≤ r.role ∧ r.role ≤ 64) (h2 : 0 ≤ l.role ∧ l.role ≤ 64) : Calls Tryz.prog 54 #[Ex.sgV r, Ex.sgV l] w fun e w' => e = .returned (.bool (Ty.fits r l)) ∧ Below w.heap.size w w' := by
  obtain ⟨id, role, bar, mark, kind, side, dir, level, size, wth, fn, fd, tn, td⟩ := r
  obtain ⟨id', role', bar', mark', kind', side', dir', level', size', wth', fn', fd', tn', td'⟩ := l
  dsimp only at h1 h2
  unfold Ty.fits
  dsimp only
  rcases c1 : (kind == 8) with _ | _
  · go_enter Tryz.func54, Tryz.ntmps54
    go_wp2
    go_ret
    exact ⟨rfl, by (repeat' first | (with_reducible first | exact Below.refl _ _ | assumption | refine Kit.below_drewN ?_ _ | refine Below.drew ?_ | refine Below.alloc ?_ ?_ _ | refine Below.setCell ?_ ?_ _ | exact Nat.le_refl _) | omega | (simp; omega) | (simp; done) | (apply Below.size; assumption))⟩
  rcases c2 : (kind' == 7) with _ | _
  · go_enter Tryz.func54, Tryz.ntmps54
    go_wp2
    go_ret
    exact ⟨rfl, by (repeat' first | (with_reducible first | exact Below.refl _ _ | assumption | refine Kit.below_drewN ?_ _ | refine Below.drew ?_ | refine Below.alloc ?_ ?_ _ | refine Below.setCell ?_ ?_ _ | exact Nat.le_refl _) | omega | (simp; omega) | (simp; done) | (apply Below.size; assumption))⟩
  rcases c3 : (bar == bar') with _ | _
  · go_enter Tryz.func54, Tryz.ntmps54
    go_wp2
    go_ret
    exact ⟨rfl, by (repeat' first | (with_reducible first | exact Below.refl _ _ | assumption | refine Kit.below_drewN ?_ _ | refine Below.drew ?_ | refine Below.alloc ?_ ?_ _ | refine Below.setCell ?_ ?_ _ | exact Nat.le_refl _) | omega | (simp; omega) | (simp; done) | (apply Below.size; assumption))⟩
  rcases c4 : (fn == fn') with _ | _
  · rcases c5 : (fd == fd') with _ | _ <;>
    · go_enter Tryz.func54, Tryz.ntmps54
      go_wp2
      go_ret
      exact ⟨rfl, by (repeat' first | (with_reducible first | exact Below.refl _ _ | assumption | refine Kit.below_drewN ?_ _ | refine Below.drew ?_ | refine Below.alloc ?_ ?_ _ | refine Below.setCell ?_ ?_ _ | exact Nat.le_refl _) | omega | (simp; omega) | (simp; done) | (apply Below.size; assumption))⟩
  rcases c5 : (fd == fd') with _ | _
  · go_enter Tryz.func54, Tryz.ntmps54
    go_wp2
    go_ret
    exact ⟨rfl, by (repeat' first | (with_reducible first | exact Below.refl _ _ | assumption | refine Kit.below_drewN ?_ _ | refine Below.drew ?_ | refine Below.alloc ?_ ?_ _ | refine Below.setCell ?_ ?_ _ | exact Nat.le_refl _) | omega | (simp; omega) | (simp; done) | (apply Below.size; assumption))⟩
  rcases c6 : (tn == tn') with _ | _
  · rcases c7 : (td == td') with _ | _ <;>
    · go_enter Tryz.func54, Tryz.ntmps54
      go_wp2
      go_ret
      exact ⟨rfl, by (repeat' first | (with_reducible first | exact Below.refl _ _ | assumption | refine Kit.below_drewN ?_ _ | refine Below.drew ?_ | refine Below.alloc ?_ ?_ _ | refine Below.setCell ?_ ?_ _ | exact Nat.le_refl _) | omega | (simp; omega) | (simp; done) | (apply Below.size; assumption))⟩
  rcases c7 : (td == td') with _ | _
  · go_enter Tryz.func54, Tryz.ntmps54
    go_wp2
    go_ret
    exact ⟨rfl, by (repeat' first | (with_reducible first | exact Below.refl _ _ | assumption | refine Kit.below_drewN ?_ _ | refine Below.drew ?_ | refine Below.alloc ?_ ?_ _ | refine Below.setCell ?_ ?_ _ | exact Nat.le_refl _) | omega | (simp; omega) | (simp; done) | (apply Below.size; assumption))⟩
  rcases c8 : (wth == role' + 1) with _ | _
  · go_enter Tryz.func54, Tryz.ntmps54
    go_wp2
    go_ret
    exact ⟨rfl, by (repeat' first | (with_reducible first | exact Below.refl _ _ | assumption | refine Kit.below_drewN ?_ _ | refine Below.drew ?_ | refine Below.alloc ?_ ?_ _ | refine Below.setCell ?_ ?_ _ | exact Nat.le_refl _) | omega | (simp; omega) | (simp; done) | (apply Below.size; assumption))⟩
  rcases c9 : (wth' == role + 1) with _ | _ <;>
  · go_enter Tryz.func54, Tryz.ntmps54
    go_wp2
    go_ret
    exact ⟨rfl, by (repeat' first | (with_reducible first | exact Below.refl _ _ | assumption | refine Kit.below_drewN ?_ _ | refine Below.drew ?_ | refine Below.alloc ?_ ?_ _ | refine Below.setCell ?_ ?_ _ | exact Nat.le_refl _) | omega | (simp; omega) | (simp; done) | (apply Below.size; assumption))⟩
end Go.Proofs.YtggfeblfhabmkaaGreatDoor
