/- Walks: package edits: within, fine, form. -/
import Derived.Test.YtdaedjmkolcliaaIdE
import Derived.Test.YtdaedjmkolcliaaRa
namespace Go.Proofs.Ytdaedjmkolcliaa
set_option linter.unusedVariables false
set_option linter.unusedSimpArgs false
open Go.RowKit Go.Shelf

theorem ed_within (n lo hi : Int) (w : World) : Calls Try.prog 70 #[.int .i64 n, .int .i64 lo, .int .i64 hi] w fun e w' => e = .returned (.bool (Tp.inb n lo hi)) ∧ w' = w := by
  unfold Tp.inb
  rcases c1 : decide (lo ≤ n) with _ | _ <;> rcases c2 : decide (n ≤ hi) with _ | _ <;>
  · go_enter Try.func70, Try.ntmps70
    go_wp2
    go_ret
    exact ⟨rfl, rfl⟩
namespace Id
/-- May a sign last from one moment to another one? -/
def fin (fn fd tn td : Int) : Bool := Ra.ok fn fd && Ra.ok tn td && decide (fn * td < tn * fd) && decide (0 ≤ fn) && decide (tn ≤ td)
/-- Is a sign in form? -/
def form (s : Sg) : Bool := Tp.inb s.id 0 1048576 && Tp.inb s.role 0 63 && Tp.inb s.bar 0 4095 && Tp.inb s.kind 1 9 && Tp.inb s.mark 1 3 && Tp.inb s.side 0 2 && Tp.inb s.dir 0 8 && Tp.inb s.level 0 3 && Tp.inb s.size 0 255 && Tp.inb s.wth 0 64 && fin s.fn s.fd s.tn s.td
theorem sg_neg (x y : Int) : decide (Ra.sg x y < 0) = decide (x < y) := by
  unfold Ra.sg
  by_cases h : x < y
  · simp [h]
  · simp only [h, if_false, decide_false]
    split <;> rfl
end Id
set_option maxHeartbeats 1000000 in
theorem ed_fine (fn fd tn td : Int) (w : World) : Calls Try.prog 71 #[Ra.V fn fd, Ra.V tn td] w fun e w' => e = .returned (.bool (Id.fin fn fd tn td)) ∧ Below w.heap.size w w' := by
  unfold Id.fin
  rcases h1 : Ra.ok fn fd with _ | _
  · have H := Lib.hid h1
    clear h1
    go_enter Try.func71, Try.ntmps71
    skip
    (go_wp2_with (fail); refine ((ra_cmp_1 fn fd tn td _ H.out : Ra.Cmp _ _ _ _ _ _ _)).mono ?_; rintro e w1_ ⟨rfl, hb1_⟩; have hp1_ : Below w.heap.size w w1_ := Below.trans (by (repeat' first | (with_reducible first | exact Below.refl _ _ | assumption | refine Kit.below_drewN ?_ _ | refine Below.drew ?_ | refine Below.alloc ?_ ?_ _ | refine Below.setCell ?_ ?_ _ | exact Nat.le_refl _) | omega | (simp; omega) | (simp; done) | (apply Below.size; assumption))) (hb1_.mono (by first | assumption | (simp; done) | (simp; omega) | omega)); have hw1_ : Below w.heap.size w w1_ := hp1_; obtain ⟨hc1_, hf1_⟩ := Kit.bcell hb1_; have z1_w : w.heap.size < w1_.heap.size := (by have := hb1_.size; first | omega | (simp at this; omega)); obtain ⟨g1_w_0, g1_w_1⟩ : w1_.cell? ⟨w.heap.size, 0, none⟩ = some (.int .i64 fn) ∧ w1_.cell? ⟨w.heap.size, 1, none⟩ = some (.int .i64 fd) := (by refine ⟨?_, ?_⟩ <;> (rw [hc1_ _ _ (by first | assumption | (simp; done) | (simp; omega) | omega)]; first | assumption | (simp [go_sem]; done) | (simp [go_sem, *]; done))); have z1_w_1 : w.heap.size + 1 < w1_.heap.size := (by have := hb1_.size; first | omega | (simp at this; omega)); obtain ⟨g1_w_1_0, g1_w_1_1⟩ : w1_.cell? ⟨w.heap.size + 1, 0, none⟩ = some (.int .i64 tn) ∧ w1_.cell? ⟨w.heap.size + 1, 1, none⟩ = some (.int .i64 td) := (by refine ⟨?_, ?_⟩ <;> (rw [hc1_ _ _ (by first | assumption | (simp; done) | (simp; omega) | omega)]; first | assumption | (simp [go_sem]; done) | (simp [go_sem, *]; done))); clear hc1_ hf1_; clear hb1_ hp1_)
    go_wp2
    go_ret
    exact ⟨rfl, by (repeat' first | (with_reducible first | exact Below.refl _ _ | assumption | refine Kit.below_drewN ?_ _ | refine Below.drew ?_ | refine Below.alloc ?_ ?_ _ | refine Below.setCell ?_ ?_ _ | exact Nat.le_refl _) | omega | (simp; omega) | (simp; done) | (apply Below.size; assumption))⟩
  rcases h2 : Ra.ok tn td with _ | _
  · have H := Lib.hid h1
    have H' := Lib.hid h2
    clear h1 h2
    go_enter Try.func71, Try.ntmps71
    skip
    (go_wp2_with (fail); refine ((ra_cmp_2 fn fd tn td _ H.out H'.out : Ra.Cmp _ _ _ _ _ _ _)).mono ?_; rintro e w1_ ⟨rfl, hb1_⟩; have hp1_ : Below w.heap.size w w1_ := Below.trans (by (repeat' first | (with_reducible first | exact Below.refl _ _ | assumption | refine Kit.below_drewN ?_ _ | refine Below.drew ?_ | refine Below.alloc ?_ ?_ _ | refine Below.setCell ?_ ?_ _ | exact Nat.le_refl _) | omega | (simp; omega) | (simp; done) | (apply Below.size; assumption))) (hb1_.mono (by first | assumption | (simp; done) | (simp; omega) | omega)); have hw1_ : Below w.heap.size w w1_ := hp1_; obtain ⟨hc1_, hf1_⟩ := Kit.bcell hb1_; have z1_w : w.heap.size < w1_.heap.size := (by have := hb1_.size; first | omega | (simp at this; omega)); obtain ⟨g1_w_0, g1_w_1⟩ : w1_.cell? ⟨w.heap.size, 0, none⟩ = some (.int .i64 fn) ∧ w1_.cell? ⟨w.heap.size, 1, none⟩ = some (.int .i64 fd) := (by refine ⟨?_, ?_⟩ <;> (rw [hc1_ _ _ (by first | assumption | (simp; done) | (simp; omega) | omega)]; first | assumption | (simp [go_sem]; done) | (simp [go_sem, *]; done))); have z1_w_1 : w.heap.size + 1 < w1_.heap.size := (by have := hb1_.size; first | omega | (simp at this; omega)); obtain ⟨g1_w_1_0, g1_w_1_1⟩ : w1_.cell? ⟨w.heap.size + 1, 0, none⟩ = some (.int .i64 tn) ∧ w1_.cell? ⟨w.heap.size + 1, 1, none⟩ = some (.int .i64 td) := (by refine ⟨?_, ?_⟩ <;> (rw [hc1_ _ _ (by first | assumption | (simp; done) | (simp; omega) | omega)]; first | assumption | (simp [go_sem]; done) | (simp [go_sem, *]; done))); clear hc1_ hf1_; clear hb1_ hp1_)
    go_wp2
    go_ret
    exact ⟨rfl, by (repeat' first | (with_reducible first | exact Below.refl _ _ | assumption | refine Kit.below_drewN ?_ _ | refine Below.drew ?_ | refine Below.alloc ?_ ?_ _ | refine Below.setCell ?_ ?_ _ | exact Nat.le_refl _) | omega | (simp; omega) | (simp; done) | (apply Below.size; assumption))⟩
  have H := Lib.hid h1
  have H' := Lib.hid h2
  have hsg := Id.sg_neg (fn * td) (tn * fd)
  clear h1 h2
  generalize hc : Ra.sg (fn * td) (tn * fd) = c at hsg
  have HC := Lib.hid (fun W => (hc ▸ ra_cmp_3 fn fd tn td W H.out H'.out : Ra.Cmp fn fd tn td c 0 W))
  clear H H' hc
  rcases c1 : decide (fn * td < tn * fd) with _ | _
  · rw [c1] at hsg
    go_enter Try.func71, Try.ntmps71
    skip
    (go_wp2_with (fail); refine ((HC.out _ : Ra.Cmp _ _ _ _ _ _ _)).mono ?_; rintro e w1_ ⟨rfl, hb1_⟩; have hp1_ : Below w.heap.size w w1_ := Below.trans (by (repeat' first | (with_reducible first | exact Below.refl _ _ | assumption | refine Kit.below_drewN ?_ _ | refine Below.drew ?_ | refine Below.alloc ?_ ?_ _ | refine Below.setCell ?_ ?_ _ | exact Nat.le_refl _) | omega | (simp; omega) | (simp; done) | (apply Below.size; assumption))) (hb1_.mono (by first | assumption | (simp; done) | (simp; omega) | omega)); have hw1_ : Below w.heap.size w w1_ := hp1_; obtain ⟨hc1_, hf1_⟩ := Kit.bcell hb1_; have z1_w : w.heap.size < w1_.heap.size := (by have := hb1_.size; first | omega | (simp at this; omega)); obtain ⟨g1_w_0, g1_w_1⟩ : w1_.cell? ⟨w.heap.size, 0, none⟩ = some (.int .i64 fn) ∧ w1_.cell? ⟨w.heap.size, 1, none⟩ = some (.int .i64 fd) := (by refine ⟨?_, ?_⟩ <;> (rw [hc1_ _ _ (by first | assumption | (simp; done) | (simp; omega) | omega)]; first | assumption | (simp [go_sem]; done) | (simp [go_sem, *]; done))); have z1_w_1 : w.heap.size + 1 < w1_.heap.size := (by have := hb1_.size; first | omega | (simp at this; omega)); obtain ⟨g1_w_1_0, g1_w_1_1⟩ : w1_.cell? ⟨w.heap.size + 1, 0, none⟩ = some (.int .i64 tn) ∧ w1_.cell? ⟨w.heap.size + 1, 1, none⟩ = some (.int .i64 td) := (by refine ⟨?_, ?_⟩ <;> (rw [hc1_ _ _ (by first | assumption | (simp; done) | (simp; omega) | omega)]; first | assumption | (simp [go_sem]; done) | (simp [go_sem, *]; done))); clear hc1_ hf1_; clear hb1_ hp1_)
    go_wp2
    go_ret
    exact ⟨rfl, by (repeat' first | (with_reducible first | exact Below.refl _ _ | assumption | refine Kit.below_drewN ?_ _ | refine Below.drew ?_ | refine Below.alloc ?_ ?_ _ | refine Below.setCell ?_ ?_ _ | exact Nat.le_refl _) | omega | (simp; omega) | (simp; done) | (apply Below.size; assumption))⟩
  rw [c1] at hsg
  rcases c2 : decide (0 ≤ fn) with _ | _
  · go_enter Try.func71, Try.ntmps71
    skip
    (go_wp2_with (fail); refine ((HC.out _ : Ra.Cmp _ _ _ _ _ _ _)).mono ?_; rintro e w1_ ⟨rfl, hb1_⟩; have hp1_ : Below w.heap.size w w1_ := Below.trans (by (repeat' first | (with_reducible first | exact Below.refl _ _ | assumption | refine Kit.below_drewN ?_ _ | refine Below.drew ?_ | refine Below.alloc ?_ ?_ _ | refine Below.setCell ?_ ?_ _ | exact Nat.le_refl _) | omega | (simp; omega) | (simp; done) | (apply Below.size; assumption))) (hb1_.mono (by first | assumption | (simp; done) | (simp; omega) | omega)); have hw1_ : Below w.heap.size w w1_ := hp1_; obtain ⟨hc1_, hf1_⟩ := Kit.bcell hb1_; have z1_w : w.heap.size < w1_.heap.size := (by have := hb1_.size; first | omega | (simp at this; omega)); obtain ⟨g1_w_0, g1_w_1⟩ : w1_.cell? ⟨w.heap.size, 0, none⟩ = some (.int .i64 fn) ∧ w1_.cell? ⟨w.heap.size, 1, none⟩ = some (.int .i64 fd) := (by refine ⟨?_, ?_⟩ <;> (rw [hc1_ _ _ (by first | assumption | (simp; done) | (simp; omega) | omega)]; first | assumption | (simp [go_sem]; done) | (simp [go_sem, *]; done))); have z1_w_1 : w.heap.size + 1 < w1_.heap.size := (by have := hb1_.size; first | omega | (simp at this; omega)); obtain ⟨g1_w_1_0, g1_w_1_1⟩ : w1_.cell? ⟨w.heap.size + 1, 0, none⟩ = some (.int .i64 tn) ∧ w1_.cell? ⟨w.heap.size + 1, 1, none⟩ = some (.int .i64 td) := (by refine ⟨?_, ?_⟩ <;> (rw [hc1_ _ _ (by first | assumption | (simp; done) | (simp; omega) | omega)]; first | assumption | (simp [go_sem]; done) | (simp [go_sem, *]; done))); clear hc1_ hf1_; clear hb1_ hp1_)
    go_wp2
    go_ret
    exact ⟨rfl, by (repeat' first | (with_reducible first | exact Below.refl _ _ | assumption | refine Kit.below_drewN ?_ _ | refine Below.drew ?_ | refine Below.alloc ?_ ?_ _ | refine Below.setCell ?_ ?_ _ | exact Nat.le_refl _) | omega | (simp; omega) | (simp; done) | (apply Below.size; assumption))⟩
  rcases c3 : decide (tn ≤ td) with _ | _ <;>
  · go_enter Try.func71, Try.ntmps71
    skip
    (go_wp2_with (fail); refine ((HC.out _ : Ra.Cmp _ _ _ _ _ _ _)).mono ?_; rintro e w1_ ⟨rfl, hb1_⟩; have hp1_ : Below w.heap.size w w1_ := Below.trans (by (repeat' first | (with_reducible first | exact Below.refl _ _ | assumption | refine Kit.below_drewN ?_ _ | refine Below.drew ?_ | refine Below.alloc ?_ ?_ _ | refine Below.setCell ?_ ?_ _ | exact Nat.le_refl _) | omega | (simp; omega) | (simp; done) | (apply Below.size; assumption))) (hb1_.mono (by first | assumption | (simp; done) | (simp; omega) | omega)); have hw1_ : Below w.heap.size w w1_ := hp1_; obtain ⟨hc1_, hf1_⟩ := Kit.bcell hb1_; have z1_w : w.heap.size < w1_.heap.size := (by have := hb1_.size; first | omega | (simp at this; omega)); obtain ⟨g1_w_0, g1_w_1⟩ : w1_.cell? ⟨w.heap.size, 0, none⟩ = some (.int .i64 fn) ∧ w1_.cell? ⟨w.heap.size, 1, none⟩ = some (.int .i64 fd) := (by refine ⟨?_, ?_⟩ <;> (rw [hc1_ _ _ (by first | assumption | (simp; done) | (simp; omega) | omega)]; first | assumption | (simp [go_sem]; done) | (simp [go_sem, *]; done))); have z1_w_1 : w.heap.size + 1 < w1_.heap.size := (by have := hb1_.size; first | omega | (simp at this; omega)); obtain ⟨g1_w_1_0, g1_w_1_1⟩ : w1_.cell? ⟨w.heap.size + 1, 0, none⟩ = some (.int .i64 tn) ∧ w1_.cell? ⟨w.heap.size + 1, 1, none⟩ = some (.int .i64 td) := (by refine ⟨?_, ?_⟩ <;> (rw [hc1_ _ _ (by first | assumption | (simp; done) | (simp; omega) | omega)]; first | assumption | (simp [go_sem]; done) | (simp [go_sem, *]; done))); clear hc1_ hf1_; clear hb1_ hp1_)
    go_wp2
    go_ret
    exact ⟨rfl, by (repeat' first | (with_reducible first | exact Below.refl _ _ | assumption | refine Kit.below_drewN ?_ _ | refine Below.drew ?_ | refine Below.alloc ?_ ?_ _ | refine Below.setCell ?_ ?_ _ | exact Nat.le_refl _) | omega | (simp; omega) | (simp; done) | (apply Below.size; assumption))⟩
set_option maxRecDepth 100000 in
set_option maxHeartbeats 4000000 in
theorem ed_form (s : Id.Sg) (w : World) : Calls Try.prog 54 #[Id.sgV s] w fun e w' => e = .returned (.bool (Id.form s)) ∧ Below w.heap.size w w' := by
  have HF := Lib.hid (fun W => ed_fine s.fn s.fd s.tn s.td W)
  unfold Id.form
  generalize hb0 : Tp.inb s.id 0 1048576 = b0
  generalize hb1 : Tp.inb s.role 0 63 = b1
  generalize hb2 : Tp.inb s.bar 0 4095 = b2
  generalize hb3 : Tp.inb s.kind 1 9 = b3
  generalize hb4 : Tp.inb s.mark 1 3 = b4
  generalize hb5 : Tp.inb s.side 0 2 = b5
  generalize hb6 : Tp.inb s.dir 0 8 = b6
  generalize hb7 : Tp.inb s.level 0 3 = b7
  generalize hb8 : Tp.inb s.size 0 255 = b8
  generalize hb9 : Tp.inb s.wth 0 64 = b9
  generalize Id.fin s.fn s.fd s.tn s.td = b10 at HF
  have W0 := Lib.hid (fun W => (hb0 ▸ ed_within s.id 0 1048576 W : Calls Try.prog 70 #[.int .i64 s.id, .int .i64 0, .int .i64 1048576] W fun e w' => e = .returned (.bool b0) ∧ w' = W))
  have W1 := Lib.hid (fun W => (hb1 ▸ ed_within s.role 0 63 W : Calls Try.prog 70 #[.int .i64 s.role, .int .i64 0, .int .i64 63] W fun e w' => e = .returned (.bool b1) ∧ w' = W))
  have W2 := Lib.hid (fun W => (hb2 ▸ ed_within s.bar 0 4095 W : Calls Try.prog 70 #[.int .i64 s.bar, .int .i64 0, .int .i64 4095] W fun e w' => e = .returned (.bool b2) ∧ w' = W))
  have W3 := Lib.hid (fun W => (hb3 ▸ ed_within s.kind 1 9 W : Calls Try.prog 70 #[.int .i64 s.kind, .int .i64 1, .int .i64 9] W fun e w' => e = .returned (.bool b3) ∧ w' = W))
  have W4 := Lib.hid (fun W => (hb4 ▸ ed_within s.mark 1 3 W : Calls Try.prog 70 #[.int .i64 s.mark, .int .i64 1, .int .i64 3] W fun e w' => e = .returned (.bool b4) ∧ w' = W))
  have W5 := Lib.hid (fun W => (hb5 ▸ ed_within s.side 0 2 W : Calls Try.prog 70 #[.int .i64 s.side, .int .i64 0, .int .i64 2] W fun e w' => e = .returned (.bool b5) ∧ w' = W))
  have W6 := Lib.hid (fun W => (hb6 ▸ ed_within s.dir 0 8 W : Calls Try.prog 70 #[.int .i64 s.dir, .int .i64 0, .int .i64 8] W fun e w' => e = .returned (.bool b6) ∧ w' = W))
  have W7 := Lib.hid (fun W => (hb7 ▸ ed_within s.level 0 3 W : Calls Try.prog 70 #[.int .i64 s.level, .int .i64 0, .int .i64 3] W fun e w' => e = .returned (.bool b7) ∧ w' = W))
  have W8 := Lib.hid (fun W => (hb8 ▸ ed_within s.size 0 255 W : Calls Try.prog 70 #[.int .i64 s.size, .int .i64 0, .int .i64 255] W fun e w' => e = .returned (.bool b8) ∧ w' = W))
  have W9 := Lib.hid (fun W => (hb9 ▸ ed_within s.wth 0 64 W : Calls Try.prog 70 #[.int .i64 s.wth, .int .i64 0, .int .i64 64] W fun e w' => e = .returned (.bool b9) ∧ w' = W))
  clear hb0 hb1 hb2 hb3 hb4 hb5 hb6 hb7 hb8 hb9
  rcases b0 with _ | _
  · go_enter Try.func54, Try.ntmps54
    go_wp2_with fail
    refine (W0.out _).mono ?_
    rintro _ w' ⟨rfl, rfl⟩
    go_wp2
    go_ret
    exact ⟨rfl, by (repeat' first | (with_reducible first | exact Below.refl _ _ | assumption | refine Kit.below_drewN ?_ _ | refine Below.drew ?_ | refine Below.alloc ?_ ?_ _ | refine Below.setCell ?_ ?_ _ | exact Nat.le_refl _) | omega | (simp; omega) | (simp; done) | (apply Below.size; assumption))⟩
  rcases b1 with _ | _
  · go_enter Try.func54, Try.ntmps54
    go_wp2_with fail
    refine (W0.out _).mono ?_
    rintro _ w' ⟨rfl, rfl⟩
    go_wp2_with fail
    refine (W1.out _).mono ?_
    rintro _ w' ⟨rfl, rfl⟩
    go_wp2
    go_ret
    exact ⟨rfl, by (repeat' first | (with_reducible first | exact Below.refl _ _ | assumption | refine Kit.below_drewN ?_ _ | refine Below.drew ?_ | refine Below.alloc ?_ ?_ _ | refine Below.setCell ?_ ?_ _ | exact Nat.le_refl _) | omega | (simp; omega) | (simp; done) | (apply Below.size; assumption))⟩
  rcases b2 with _ | _
  · go_enter Try.func54, Try.ntmps54
    go_wp2_with fail
    refine (W0.out _).mono ?_
    rintro _ w' ⟨rfl, rfl⟩
    go_wp2_with fail
    refine (W1.out _).mono ?_
    rintro _ w' ⟨rfl, rfl⟩
    go_wp2_with fail
    refine (W2.out _).mono ?_
    rintro _ w' ⟨rfl, rfl⟩
    go_wp2
    go_ret
    exact ⟨rfl, by (repeat' first | (with_reducible first | exact Below.refl _ _ | assumption | refine Kit.below_drewN ?_ _ | refine Below.drew ?_ | refine Below.alloc ?_ ?_ _ | refine Below.setCell ?_ ?_ _ | exact Nat.le_refl _) | omega | (simp; omega) | (simp; done) | (apply Below.size; assumption))⟩
  rcases b3 with _ | _
  · go_enter Try.func54, Try.ntmps54
    go_wp2_with fail
    refine (W0.out _).mono ?_
    rintro _ w' ⟨rfl, rfl⟩
    go_wp2_with fail
    refine (W1.out _).mono ?_
    rintro _ w' ⟨rfl, rfl⟩
    go_wp2_with fail
    refine (W2.out _).mono ?_
    rintro _ w' ⟨rfl, rfl⟩
    go_wp2_with fail
    refine (W3.out _).mono ?_
    rintro _ w' ⟨rfl, rfl⟩
    go_wp2
    go_ret
    exact ⟨rfl, by (repeat' first | (with_reducible first | exact Below.refl _ _ | assumption | refine Kit.below_drewN ?_ _ | refine Below.drew ?_ | refine Below.alloc ?_ ?_ _ | refine Below.setCell ?_ ?_ _ | exact Nat.le_refl _) | omega | (simp; omega) | (simp; done) | (apply Below.size; assumption))⟩
  rcases b4 with _ | _
  · go_enter Try.func54, Try.ntmps54
    go_wp2_with fail
    refine (W0.out _).mono ?_
    rintro _ w' ⟨rfl, rfl⟩
    go_wp2_with fail
    refine (W1.out _).mono ?_
    rintro _ w' ⟨rfl, rfl⟩
    go_wp2_with fail
    refine (W2.out _).mono ?_
    rintro _ w' ⟨rfl, rfl⟩
    go_wp2_with fail
    refine (W3.out _).mono ?_
    rintro _ w' ⟨rfl, rfl⟩
    go_wp2_with fail
    refine (W4.out _).mono ?_
    rintro _ w' ⟨rfl, rfl⟩
    go_wp2
    go_ret
    exact ⟨rfl, by (repeat' first | (with_reducible first | exact Below.refl _ _ | assumption | refine Kit.below_drewN ?_ _ | refine Below.drew ?_ | refine Below.alloc ?_ ?_ _ | refine Below.setCell ?_ ?_ _ | exact Nat.le_refl _) | omega | (simp; omega) | (simp; done) | (apply Below.size; assumption))⟩
  rcases b5 with _ | _
  · go_enter Try.func54, Try.ntmps54
    go_wp2_with fail
    refine (W0.out _).mono ?_
    rintro _ w' ⟨rfl, rfl⟩
    go_wp2_with fail
    refine (W1.out _).mono ?_
    rintro _ w' ⟨rfl, rfl⟩
    go_wp2_with fail
    refine (W2.out _).mono ?_
    rintro _ w' ⟨rfl, rfl⟩
    go_wp2_with fail
    refine (W3.out _).mono ?_
    rintro _ w' ⟨rfl, rfl⟩
    go_wp2_with fail
    refine (W4.out _).mono ?_
    rintro _ w' ⟨rfl, rfl⟩
    go_wp2_with fail
    refine (W5.out _).mono ?_
    rintro _ w' ⟨rfl, rfl⟩
    go_wp2
    go_ret
    exact ⟨rfl, by (repeat' first | (with_reducible first | exact Below.refl _ _ | assumption | refine Kit.below_drewN ?_ _ | refine Below.drew ?_ | refine Below.alloc ?_ ?_ _ | refine Below.setCell ?_ ?_ _ | exact Nat.le_refl _) | omega | (simp; omega) | (simp; done) | (apply Below.size; assumption))⟩
  rcases b6 with _ | _
  · go_enter Try.func54, Try.ntmps54
    go_wp2_with fail
    refine (W0.out _).mono ?_
    rintro _ w' ⟨rfl, rfl⟩
    go_wp2_with fail
    refine (W1.out _).mono ?_
    rintro _ w' ⟨rfl, rfl⟩
    go_wp2_with fail
    refine (W2.out _).mono ?_
    rintro _ w' ⟨rfl, rfl⟩
    go_wp2_with fail
    refine (W3.out _).mono ?_
    rintro _ w' ⟨rfl, rfl⟩
    go_wp2_with fail
    refine (W4.out _).mono ?_
    rintro _ w' ⟨rfl, rfl⟩
    go_wp2_with fail
    refine (W5.out _).mono ?_
    rintro _ w' ⟨rfl, rfl⟩
    go_wp2_with fail
    refine (W6.out _).mono ?_
    rintro _ w' ⟨rfl, rfl⟩
    go_wp2
    go_ret
    exact ⟨rfl, by (repeat' first | (with_reducible first | exact Below.refl _ _ | assumption | refine Kit.below_drewN ?_ _ | refine Below.drew ?_ | refine Below.alloc ?_ ?_ _ | refine Below.setCell ?_ ?_ _ | exact Nat.le_refl _) | omega | (simp; omega) | (simp; done) | (apply Below.size; assumption))⟩
  rcases b7 with _ | _
  · go_enter Try.func54, Try.ntmps54
    go_wp2_with fail
    refine (W0.out _).mono ?_
    rintro _ w' ⟨rfl, rfl⟩
    go_wp2_with fail
    refine (W1.out _).mono ?_
    rintro _ w' ⟨rfl, rfl⟩
    go_wp2_with fail
    refine (W2.out _).mono ?_
    rintro _ w' ⟨rfl, rfl⟩
    go_wp2_with fail
    refine (W3.out _).mono ?_
    rintro _ w' ⟨rfl, rfl⟩
    go_wp2_with fail
    refine (W4.out _).mono ?_
    rintro _ w' ⟨rfl, rfl⟩
    go_wp2_with fail
    refine (W5.out _).mono ?_
    rintro _ w' ⟨rfl, rfl⟩
    go_wp2_with fail
    refine (W6.out _).mono ?_
    rintro _ w' ⟨rfl, rfl⟩
    go_wp2_with fail
    refine (W7.out _).mono ?_
    rintro _ w' ⟨rfl, rfl⟩
    go_wp2
    go_ret
    exact ⟨rfl, by (repeat' first | (with_reducible first | exact Below.refl _ _ | assumption | refine Kit.below_drewN ?_ _ | refine Below.drew ?_ | refine Below.alloc ?_ ?_ _ | refine Below.setCell ?_ ?_ _ | exact Nat.le_refl _) | omega | (simp; omega) | (simp; done) | (apply Below.size; assumption))⟩
  rcases b8 with _ | _
  · go_enter Try.func54, Try.ntmps54
    go_wp2_with fail
    refine (W0.out _).mono ?_
    rintro _ w' ⟨rfl, rfl⟩
    go_wp2_with fail
    refine (W1.out _).mono ?_
    rintro _ w' ⟨rfl, rfl⟩
    go_wp2_with fail
    refine (W2.out _).mono ?_
    rintro _ w' ⟨rfl, rfl⟩
    go_wp2_with fail
    refine (W3.out _).mono ?_
    rintro _ w' ⟨rfl, rfl⟩
    go_wp2_with fail
    refine (W4.out _).mono ?_
    rintro _ w' ⟨rfl, rfl⟩
    go_wp2_with fail
    refine (W5.out _).mono ?_
    rintro _ w' ⟨rfl, rfl⟩
    go_wp2_with fail
    refine (W6.out _).mono ?_
    rintro _ w' ⟨rfl, rfl⟩
    go_wp2_with fail
    refine (W7.out _).mono ?_
    rintro _ w' ⟨rfl, rfl⟩
    go_wp2_with fail
    refine (W8.out _).mono ?_
    rintro _ w' ⟨rfl, rfl⟩
    go_wp2
    go_ret
    exact ⟨rfl, by (repeat' first | (with_reducible first | exact Below.refl _ _ | assumption | refine Kit.below_drewN ?_ _ | refine Below.drew ?_ | refine Below.alloc ?_ ?_ _ | refine Below.setCell ?_ ?_ _ | exact Nat.le_refl _) | omega | (simp; omega) | (simp; done) | (apply Below.size; assumption))⟩
  rcases b9 with _ | _
  · go_enter Try.func54, Try.ntmps54
    go_wp2_with fail
    refine (W0.out _).mono ?_
    rintro _ w' ⟨rfl, rfl⟩
    go_wp2_with fail
    refine (W1.out _).mono ?_
    rintro _ w' ⟨rfl, rfl⟩
    go_wp2_with fail
    refine (W2.out _).mono ?_
    rintro _ w' ⟨rfl, rfl⟩
    go_wp2_with fail
    refine (W3.out _).mono ?_
    rintro _ w' ⟨rfl, rfl⟩
    go_wp2_with fail
    refine (W4.out _).mono ?_
    rintro _ w' ⟨rfl, rfl⟩
    go_wp2_with fail
    refine (W5.out _).mono ?_
    rintro _ w' ⟨rfl, rfl⟩
    go_wp2_with fail
    refine (W6.out _).mono ?_
    rintro _ w' ⟨rfl, rfl⟩
    go_wp2_with fail
    refine (W7.out _).mono ?_
    rintro _ w' ⟨rfl, rfl⟩
    go_wp2_with fail
    refine (W8.out _).mono ?_
    rintro _ w' ⟨rfl, rfl⟩
    go_wp2_with fail
    refine (W9.out _).mono ?_
    rintro _ w' ⟨rfl, rfl⟩
    go_wp2
    go_ret
    exact ⟨rfl, by (repeat' first | (with_reducible first | exact Below.refl _ _ | assumption | refine Kit.below_drewN ?_ _ | refine Below.drew ?_ | refine Below.alloc ?_ ?_ _ | refine Below.setCell ?_ ?_ _ | exact Nat.le_refl _) | omega | (simp; omega) | (simp; done) | (apply Below.size; assumption))⟩
  rcases b10 with _ | _ <;>
  · go_enter Try.func54, Try.ntmps54
    go_wp2_with fail
    refine (W0.out _).mono ?_
    rintro _ w' ⟨rfl, rfl⟩
    go_wp2_with fail
    refine (W1.out _).mono ?_
    rintro _ w' ⟨rfl, rfl⟩
    go_wp2_with fail
    refine (W2.out _).mono ?_
    rintro _ w' ⟨rfl, rfl⟩
    go_wp2_with fail
    refine (W3.out _).mono ?_
    rintro _ w' ⟨rfl, rfl⟩
    go_wp2_with fail
    refine (W4.out _).mono ?_
    rintro _ w' ⟨rfl, rfl⟩
    go_wp2_with fail
    refine (W5.out _).mono ?_
    rintro _ w' ⟨rfl, rfl⟩
    go_wp2_with fail
    refine (W6.out _).mono ?_
    rintro _ w' ⟨rfl, rfl⟩
    go_wp2_with fail
    refine (W7.out _).mono ?_
    rintro _ w' ⟨rfl, rfl⟩
    go_wp2_with fail
    refine (W8.out _).mono ?_
    rintro _ w' ⟨rfl, rfl⟩
    go_wp2_with fail
    refine (W9.out _).mono ?_
    rintro _ w' ⟨rfl, rfl⟩
    go_wp2_with fail
    refine (HF.out _).mono ?_
    rintro _ w1 ⟨rfl, hb⟩
    have HB := Lib.hid (show Below w.heap.size w w1 from ((Below.refl w.heap.size w).alloc (Nat.le_refl _) _).trans (hb.mono (by simp)))
    clear hb
    go_wp2
    go_ret
    exact ⟨rfl, HB.out⟩
end Go.Proofs.Ytdaedjmkolcliaa
