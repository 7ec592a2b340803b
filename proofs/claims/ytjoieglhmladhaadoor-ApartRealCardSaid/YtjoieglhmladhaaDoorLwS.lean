/- Walks: the law ApartReal: all clashes are real. -/
import Derived.Test.YtjoieglhmladhaaDoorLwR
import Derived.Deep.CutRange
namespace Go.Proofs.YtjoieglhmladhaaDoor
set_option linter.unusedVariables false
set_option linter.unusedSimpArgs false
open Go.RowKit Go.Shelf

namespace Lw
def bxf (M : Nat → Ap.Bx) (i j : Nat) : Value := .int .i64 (match j with | 0 => (M i).1 | 1 => (M i).2.1 | 2 => (M i).2.2.1 | _ => (M i).2.2.2)
def wgf (G : Nat → Ap.Wg) (i j : Nat) : Value := .int .i64 (match j with | 0 => (G i).a | 1 => (G i).b | 2 => (G i).c | 3 => (G i).d | 4 => (G i).f | 5 => (G i).l | 6 => (G i).x | _ => (G i).y)
/-- What a clash is: of two roles, of a role and a wagon, of a role and the floor. -/
inductive Real (hs : Int → Int → Bool) (M H pj : Nat → Ap.Bx) (fl : Ap.Bx) (nR nW : Nat) : Ap.C3 → Prop
  | k1 (i j : Nat) (h1 : i < j) (h2 : j < nR) (h3 : hs i j = false) (h4 : Ap.meet (M i) (M j) = true) : Real hs M H pj fl nR nW (1, (i : Int), (j : Int))
  | k2 (i j : Nat) (h1 : i < j) (h2 : j < nR) (h3 : hs i j = false) (h4 : Ap.meet (M i) (H j) = true) : Real hs M H pj fl nR nW (2, (i : Int), (j : Int))
  | k3 (i j : Nat) (h1 : i < j) (h2 : j < nR) (h3 : hs i j = false) (h4 : Ap.meet (H i) (M j) = true) : Real hs M H pj fl nR nW (3, (i : Int), (j : Int))
  | k4 (i j : Nat) (h1 : i < j) (h2 : j < nR) (h3 : hs i j = false) (h4 : Ap.meet (H i) (H j) = true) : Real hs M H pj fl nR nW (4, (i : Int), (j : Int))
  | k5 (i j : Nat) (h1 : i < nR) (h2 : j < nW) (h4 : Ap.meet (M i) (pj j) = true ∨ Ap.meet (H i) (pj j) = true) : Real hs M H pj fl nR nW (5, (i : Int), (j : Int))
  | k6 (i : Nat) (h1 : i < nR) (h4 : Ap.ins (M i) fl = false ∨ Ap.ins (H i) fl = false) : Real hs M H pj fl nR nW (6, (i : Int), 0)
end Lw
set_option maxRecDepth 100000 in
set_option maxHeartbeats 4000000 in
theorem law_real_3 (wd dp ta tb tc : Int) (aR : Option Addr) (nR cR : Nat) (n : Int) (aT : Option Addr) (nT cT : Nat) (aP : Option Addr) (nP cP : Nat) (aS : Option Addr) (nS cS : Nat) (aG : Option Addr) (nG cG : Nat) (aW : Option Addr) (nW cW : Nat) (bar : Int) (aM : Option Addr) (cM : Nat) (aH : Option Addr) (cH : Nat) (aQ : Option Addr) (nQ cQ : Nat) (w : World)
    (hS : ∀ W, Below w.heap.size w W → Calls Tryd.prog 11 #[] W fun e w' => e = .returned (.bool true) ∧ Below W.heap.size W w') (hF : ∀ W, Below w.heap.size w W → Calls Tryd.prog 14 #[Ex.wv wd dp ta tb tc aR nR cR n aT nT cT aP nP cP aS nS cS aG nG cG, .agg #[.slice aW nW cW], .slice aM nR cM, .slice aH nR cH, .slice aQ nQ cQ] W fun e w' => e = .returned (.bool true) ∧ Below W.heap.size W w')
    (L : List Ap.C3) (fl : Ap.Bx) (hC : ∀ W, Below w.heap.size w W → Calls Tryd.prog 21 #[Ex.wv wd dp ta tb tc aR nR cR n aT nT cT aP nP cP aS nS cS aG nG cG, .agg #[.slice aW nW cW], .int .i64 bar, .slice aM nR cM, .slice aH nR cH, .slice aQ nQ cQ] W fun e w' => ∃ ad c, e = .returned (.tuple #[.slice ad L.length c, .int .i64 0]) ∧ Tp.Sl w' ad L.length 3 (Ap.c3c L) ∧ Below W.heap.size W w')
    (M H : Nat → Ap.Bx) (G : Nat → Ap.Wg) (pj : Nat → Ap.Bx) (hs : Int → Int → Bool)
    (r1 : nR ≤ 64) (lW : nW ≤ 4611686018427387904) (lL : L.length ≤ 4611686018427387904)
    (hFl : ∀ W, Calls Tryd.prog 27 #[Ex.wv wd dp ta tb tc aR nR cR n aT nT cT aP nP cP aS nS cS aG nG cG] W fun e w' => e = .returned (Sp.boxV fl.1 fl.2.1 fl.2.2.1 fl.2.2.2) ∧ Below W.heap.size W w')
    (sW : Tp.Sl w aW nW 8 (Lw.wgf G)) (sM : Tp.Sl w aM nR 4 (Lw.bxf M)) (sH : Tp.Sl w aH nR 4 (Lw.bxf H))
    (hP : ∀ j, j < nW → ∀ W, Lw.PathIs (G j).a (G j).b (G j).c (G j).d (G j).f (G j).l (G j).x (G j).y bar (pj j).1 (pj j).2.1 (pj j).2.2.1 (pj j).2.2.2 0 W)
    (hH : ∀ (u v : Int) W, Below w.heap.size w W → Calls Tryd.prog 26 #[.slice aQ nQ cQ, .int .i64 u, .int .i64 v] W fun e w' => e = .returned (.bool (hs u v)) ∧ Below W.heap.size W w')
    (oM : ∀ i, i < nR → Ap.okB (M i) = true) (oH : ∀ i, i < nR → Ap.okB (H i) = true) (oP : ∀ j, j < nW → Ap.okB (pj j) = true) (oF : Ap.okB fl = true)
    (form : ∀ k, k < L.length → Lw.Real hs M H pj fl nR nW (L.getD k (0, 0, 0))) (srt : ∀ k, k + 1 < L.length → Ap.lt3 (L.getD k (0, 0, 0)) (L.getD (k + 1) (0, 0, 0))) :
    Calls Tryd.prog 7 #[Ex.wv wd dp ta tb tc aR nR cR n aT nT cT aP nP cP aS nS cS aG nG cG, .agg #[.slice aW nW cW], .int .i64 bar, .slice aM nR cM, .slice aH nR cH, .slice aQ nQ cQ] w fun e w' => e = .returned (.bool true) ∧ Below w.heap.size w w' := by
  have HS := Lib.hid hS; clear hS
  have HF := Lib.hid hF; clear hF
  have HC := Lib.hid hC; clear hC
  have HP := Lib.hid hP; clear hP
  have HH := Lib.hid hH; clear hH
  have HFL := Lib.hid hFl; clear hFl
  have FORM := Lib.hid form; clear form
  have SRT := Lib.hid srt; clear srt
  have OM := Lib.hid oM; clear oM
  have OH := Lib.hid oH; clear oH
  have OP := Lib.hid oP; clear oP
  have OF := Lib.hid oF; clear oF
  have HIN := Lib.hid (show ∀ p : Ap.Bx, Ap.okB p = true → ∀ W, Calls Tryd.prog 30 #[Sp.boxV p.1 p.2.1 p.2.2.1 p.2.2.2, Sp.boxV fl.1 fl.2.1 fl.2.2.1 fl.2.2.2] W fun e w' => e = .returned (.tuple #[.bool (Ap.ins p fl), .int .i64 0]) ∧ Below W.heap.size W w' from fun p hp W => sp_inside_3 p.1 p.2.1 p.2.2.1 p.2.2.2 fl.1 fl.2.1 fl.2.2.1 fl.2.2.2 W hp OF.out)
  have SW := Lib.hid sW; clear sW
  have SM := Lib.hid sM; clear sM
  have SH := Lib.hid sH; clear sH
  obtain ⟨f1, f2, f3, f4⟩ := fl
  dsimp only at HFL OF HIN
  go_enter Tryd.func7, Tryd.ntmps7
  skip
  (go_wp2_with (fail); refine (HS.out _ (by (repeat' (first | (with_reducible exact Below.refl _ _) | (with_reducible assumption) | (with_reducible refine Kit.below_drewN ?_ _) | (with_reducible refine Below.drew ?_) | (with_reducible refine Below.alloc ?_ ?_ _) | (with_reducible refine Below.setCell ?_ ?_ _) | (with_reducible exact Nat.le_refl _) | omega | (simp; omega) | (simp; done) | (apply Below.size; assumption))))).mono ?_; rintro e w1_ ⟨rfl, hb1_⟩; have hp1_ : Below w.heap.size w w1_ := Below.trans (by (repeat' (first | (with_reducible exact Below.refl _ _) | (with_reducible assumption) | (with_reducible refine Kit.below_drewN ?_ _) | (with_reducible refine Below.drew ?_) | (with_reducible refine Below.alloc ?_ ?_ _) | (with_reducible refine Below.setCell ?_ ?_ _) | (with_reducible exact Nat.le_refl _) | omega | (simp; omega) | (simp; done) | (apply Below.size; assumption)))) (hb1_.mono (by first | assumption | (simp; done) | (simp; omega) | omega)); have hw1_ : Below w.heap.size w w1_ := hp1_; obtain ⟨hc1_, hf1_⟩ := Kit.bcell hb1_; have z1_w : w.heap.size < w1_.heap.size := (by have := hb1_.size; first | omega | (simp at this; omega)); have g1_w_0 : w1_.cell? ⟨w.heap.size, 0, none⟩ = some (.int .i64 wd) := (by rw [hc1_ _ _ (by first | assumption | (simp; done) | (simp; omega) | omega)]; first | assumption | (simp [go_sem]; done) | (simp [go_sem, *]; done)); have g1_w_1 : w1_.cell? ⟨w.heap.size, 1, none⟩ = some (.int .i64 dp) := (by rw [hc1_ _ _ (by first | assumption | (simp; done) | (simp; omega) | omega)]; first | assumption | (simp [go_sem]; done) | (simp [go_sem, *]; done)); have g1_w_2 : w1_.cell? ⟨w.heap.size, 2, none⟩ = some (.int .i64 ta) := (by rw [hc1_ _ _ (by first | assumption | (simp; done) | (simp; omega) | omega)]; first | assumption | (simp [go_sem]; done) | (simp [go_sem, *]; done)); have g1_w_3 : w1_.cell? ⟨w.heap.size, 3, none⟩ = some (.int .i64 tb) := (by rw [hc1_ _ _ (by first | assumption | (simp; done) | (simp; omega) | omega)]; first | assumption | (simp [go_sem]; done) | (simp [go_sem, *]; done)); have g1_w_4 : w1_.cell? ⟨w.heap.size, 4, none⟩ = some (.int .i64 tc) := (by rw [hc1_ _ _ (by first | assumption | (simp; done) | (simp; omega) | omega)]; first | assumption | (simp [go_sem]; done) | (simp [go_sem, *]; done)); have g1_w_5 : w1_.cell? ⟨w.heap.size, 5, none⟩ = some (.slice aR nR cR) := (by rw [hc1_ _ _ (by first | assumption | (simp; done) | (simp; omega) | omega)]; first | assumption | (simp [go_sem]; done) | (simp [go_sem, *]; done)); have g1_w_6 : w1_.cell? ⟨w.heap.size, 6, none⟩ = some (.int .i64 n) := (by rw [hc1_ _ _ (by first | assumption | (simp; done) | (simp; omega) | omega)]; first | assumption | (simp [go_sem]; done) | (simp [go_sem, *]; done)); have g1_w_7 : w1_.cell? ⟨w.heap.size, 7, none⟩ = some (.slice aT nT cT) := (by rw [hc1_ _ _ (by first | assumption | (simp; done) | (simp; omega) | omega)]; first | assumption | (simp [go_sem]; done) | (simp [go_sem, *]; done)); have g1_w_8 : w1_.cell? ⟨w.heap.size, 8, none⟩ = some (.slice aP nP cP) := (by rw [hc1_ _ _ (by first | assumption | (simp; done) | (simp; omega) | omega)]; first | assumption | (simp [go_sem]; done) | (simp [go_sem, *]; done)); have g1_w_9 : w1_.cell? ⟨w.heap.size, 9, none⟩ = some (.slice aS nS cS) := (by rw [hc1_ _ _ (by first | assumption | (simp; done) | (simp; omega) | omega)]; first | assumption | (simp [go_sem]; done) | (simp [go_sem, *]; done)); have g1_w_10 : w1_.cell? ⟨w.heap.size, 10, none⟩ = some (.slice aG nG cG) := (by rw [hc1_ _ _ (by first | assumption | (simp; done) | (simp; omega) | omega)]; first | assumption | (simp [go_sem]; done) | (simp [go_sem, *]; done)); have z1_w_1 : w.heap.size + 1 < w1_.heap.size := (by have := hb1_.size; first | omega | (simp at this; omega)); have g1_w_1_0 : w1_.cell? ⟨w.heap.size + 1, 0, none⟩ = some (.slice aW nW cW) := (by rw [hc1_ _ _ (by first | assumption | (simp; done) | (simp; omega) | omega)]; first | assumption | (simp [go_sem]; done) | (simp [go_sem, *]; done)); clear hc1_ hf1_; clear hb1_ hp1_)
  (go_wp2_with (fail); refine (HF.out _ (by (repeat' (first | (with_reducible exact Below.refl _ _) | (with_reducible assumption) | (with_reducible refine Kit.below_drewN ?_ _) | (with_reducible refine Below.drew ?_) | (with_reducible refine Below.alloc ?_ ?_ _) | (with_reducible refine Below.setCell ?_ ?_ _) | (with_reducible exact Nat.le_refl _) | omega | (simp; omega) | (simp; done) | (apply Below.size; assumption))))).mono ?_; rintro e w2_ ⟨rfl, hb2_⟩; have hp2_ : Below w1_.heap.size w1_ w2_ := Below.trans (by (repeat' (first | (with_reducible exact Below.refl _ _) | (with_reducible assumption) | (with_reducible refine Kit.below_drewN ?_ _) | (with_reducible refine Below.drew ?_) | (with_reducible refine Below.alloc ?_ ?_ _) | (with_reducible refine Below.setCell ?_ ?_ _) | (with_reducible exact Nat.le_refl _) | omega | (simp; omega) | (simp; done) | (apply Below.size; assumption)))) (hb2_.mono (by first | assumption | (simp; done) | (simp; omega) | omega)); have hw2_ : Below w.heap.size w w2_ := hw1_.trans (hp2_.mono hw1_.size); have z2_w : w.heap.size < w2_.heap.size := Nat.lt_of_lt_of_le z1_w hp2_.size; have g2_w_0 : w2_.cell? ⟨w.heap.size, 0, none⟩ = some (.int .i64 wd) := (hp2_.cell (p := ⟨w.heap.size, 0, none⟩) z1_w).trans g1_w_0; have g2_w_1 : w2_.cell? ⟨w.heap.size, 1, none⟩ = some (.int .i64 dp) := (hp2_.cell (p := ⟨w.heap.size, 1, none⟩) z1_w).trans g1_w_1; have g2_w_2 : w2_.cell? ⟨w.heap.size, 2, none⟩ = some (.int .i64 ta) := (hp2_.cell (p := ⟨w.heap.size, 2, none⟩) z1_w).trans g1_w_2; have g2_w_3 : w2_.cell? ⟨w.heap.size, 3, none⟩ = some (.int .i64 tb) := (hp2_.cell (p := ⟨w.heap.size, 3, none⟩) z1_w).trans g1_w_3; have g2_w_4 : w2_.cell? ⟨w.heap.size, 4, none⟩ = some (.int .i64 tc) := (hp2_.cell (p := ⟨w.heap.size, 4, none⟩) z1_w).trans g1_w_4; have g2_w_5 : w2_.cell? ⟨w.heap.size, 5, none⟩ = some (.slice aR nR cR) := (hp2_.cell (p := ⟨w.heap.size, 5, none⟩) z1_w).trans g1_w_5; have g2_w_6 : w2_.cell? ⟨w.heap.size, 6, none⟩ = some (.int .i64 n) := (hp2_.cell (p := ⟨w.heap.size, 6, none⟩) z1_w).trans g1_w_6; have g2_w_7 : w2_.cell? ⟨w.heap.size, 7, none⟩ = some (.slice aT nT cT) := (hp2_.cell (p := ⟨w.heap.size, 7, none⟩) z1_w).trans g1_w_7; have g2_w_8 : w2_.cell? ⟨w.heap.size, 8, none⟩ = some (.slice aP nP cP) := (hp2_.cell (p := ⟨w.heap.size, 8, none⟩) z1_w).trans g1_w_8; have g2_w_9 : w2_.cell? ⟨w.heap.size, 9, none⟩ = some (.slice aS nS cS) := (hp2_.cell (p := ⟨w.heap.size, 9, none⟩) z1_w).trans g1_w_9; have g2_w_10 : w2_.cell? ⟨w.heap.size, 10, none⟩ = some (.slice aG nG cG) := (hp2_.cell (p := ⟨w.heap.size, 10, none⟩) z1_w).trans g1_w_10; have z2_w_1 : w.heap.size + 1 < w2_.heap.size := Nat.lt_of_lt_of_le z1_w_1 hp2_.size; have g2_w_1_0 : w2_.cell? ⟨w.heap.size + 1, 0, none⟩ = some (.slice aW nW cW) := (hp2_.cell (p := ⟨w.heap.size + 1, 0, none⟩) z1_w_1).trans g1_w_1_0; clear z1_w g1_w_0 g1_w_1 g1_w_2 g1_w_3 g1_w_4 g1_w_5 g1_w_6 g1_w_7 g1_w_8 g1_w_9 g1_w_10 z1_w_1 g1_w_1_0 hw1_ hb2_ hp2_)
  (go_wp2_with (fail); refine (HC.out _ (by (repeat' (first | (with_reducible exact Below.refl _ _) | (with_reducible assumption) | (with_reducible refine Kit.below_drewN ?_ _) | (with_reducible refine Below.drew ?_) | (with_reducible refine Below.alloc ?_ ?_ _) | (with_reducible refine Below.setCell ?_ ?_ _) | (with_reducible exact Nat.le_refl _) | omega | (simp; omega) | (simp; done) | (apply Below.size; assumption))))).mono ?_; rintro e w3_ ⟨ad, cc, rfl, sl, hb3_⟩; have hp3_ : Below w2_.heap.size w2_ w3_ := Below.trans (by (repeat' (first | (with_reducible exact Below.refl _ _) | (with_reducible assumption) | (with_reducible refine Kit.below_drewN ?_ _) | (with_reducible refine Below.drew ?_) | (with_reducible refine Below.alloc ?_ ?_ _) | (with_reducible refine Below.setCell ?_ ?_ _) | (with_reducible exact Nat.le_refl _) | omega | (simp; omega) | (simp; done) | (apply Below.size; assumption)))) (hb3_.mono (by first | assumption | (simp; done) | (simp; omega) | omega)); have hw3_ : Below w.heap.size w w3_ := hw2_.trans (hp3_.mono hw2_.size); have z3_w : w.heap.size < w3_.heap.size := Nat.lt_of_lt_of_le z2_w hp3_.size; have g3_w_0 : w3_.cell? ⟨w.heap.size, 0, none⟩ = some (.int .i64 wd) := (hp3_.cell (p := ⟨w.heap.size, 0, none⟩) z2_w).trans g2_w_0; have g3_w_1 : w3_.cell? ⟨w.heap.size, 1, none⟩ = some (.int .i64 dp) := (hp3_.cell (p := ⟨w.heap.size, 1, none⟩) z2_w).trans g2_w_1; have g3_w_2 : w3_.cell? ⟨w.heap.size, 2, none⟩ = some (.int .i64 ta) := (hp3_.cell (p := ⟨w.heap.size, 2, none⟩) z2_w).trans g2_w_2; have g3_w_3 : w3_.cell? ⟨w.heap.size, 3, none⟩ = some (.int .i64 tb) := (hp3_.cell (p := ⟨w.heap.size, 3, none⟩) z2_w).trans g2_w_3; have g3_w_4 : w3_.cell? ⟨w.heap.size, 4, none⟩ = some (.int .i64 tc) := (hp3_.cell (p := ⟨w.heap.size, 4, none⟩) z2_w).trans g2_w_4; have g3_w_5 : w3_.cell? ⟨w.heap.size, 5, none⟩ = some (.slice aR nR cR) := (hp3_.cell (p := ⟨w.heap.size, 5, none⟩) z2_w).trans g2_w_5; have g3_w_6 : w3_.cell? ⟨w.heap.size, 6, none⟩ = some (.int .i64 n) := (hp3_.cell (p := ⟨w.heap.size, 6, none⟩) z2_w).trans g2_w_6; have g3_w_7 : w3_.cell? ⟨w.heap.size, 7, none⟩ = some (.slice aT nT cT) := (hp3_.cell (p := ⟨w.heap.size, 7, none⟩) z2_w).trans g2_w_7; have g3_w_8 : w3_.cell? ⟨w.heap.size, 8, none⟩ = some (.slice aP nP cP) := (hp3_.cell (p := ⟨w.heap.size, 8, none⟩) z2_w).trans g2_w_8; have g3_w_9 : w3_.cell? ⟨w.heap.size, 9, none⟩ = some (.slice aS nS cS) := (hp3_.cell (p := ⟨w.heap.size, 9, none⟩) z2_w).trans g2_w_9; have g3_w_10 : w3_.cell? ⟨w.heap.size, 10, none⟩ = some (.slice aG nG cG) := (hp3_.cell (p := ⟨w.heap.size, 10, none⟩) z2_w).trans g2_w_10; have z3_w_1 : w.heap.size + 1 < w3_.heap.size := Nat.lt_of_lt_of_le z2_w_1 hp3_.size; have g3_w_1_0 : w3_.cell? ⟨w.heap.size + 1, 0, none⟩ = some (.slice aW nW cW) := (hp3_.cell (p := ⟨w.heap.size + 1, 0, none⟩) z2_w_1).trans g2_w_1_0; clear z2_w g2_w_0 g2_w_1 g2_w_2 g2_w_3 g2_w_4 g2_w_5 g2_w_6 g2_w_7 g2_w_8 g2_w_9 g2_w_10 z2_w_1 g2_w_1_0 hw2_ hb3_ hp3_)
  have SL := Lib.hid sl; clear sl
  (go_wp2_with (fail); refine (HFL.out _).mono ?_; rintro e w4_ ⟨rfl, hb4_⟩; have hp4_ : Below w3_.heap.size w3_ w4_ := Below.trans (by (repeat' (first | (with_reducible exact Below.refl _ _) | (with_reducible assumption) | (with_reducible refine Kit.below_drewN ?_ _) | (with_reducible refine Below.drew ?_) | (with_reducible refine Below.alloc ?_ ?_ _) | (with_reducible refine Below.setCell ?_ ?_ _) | (with_reducible exact Nat.le_refl _) | omega | (simp; omega) | (simp; done) | (apply Below.size; assumption)))) (hb4_.mono (by first | assumption | (simp; done) | (simp; omega) | omega)); have hw4_ : Below w.heap.size w w4_ := hw3_.trans (hp4_.mono hw3_.size); have z4_w : w.heap.size < w4_.heap.size := Nat.lt_of_lt_of_le z3_w hp4_.size; have g4_w_0 : w4_.cell? ⟨w.heap.size, 0, none⟩ = some (.int .i64 wd) := (hp4_.cell (p := ⟨w.heap.size, 0, none⟩) z3_w).trans g3_w_0; have g4_w_1 : w4_.cell? ⟨w.heap.size, 1, none⟩ = some (.int .i64 dp) := (hp4_.cell (p := ⟨w.heap.size, 1, none⟩) z3_w).trans g3_w_1; have g4_w_2 : w4_.cell? ⟨w.heap.size, 2, none⟩ = some (.int .i64 ta) := (hp4_.cell (p := ⟨w.heap.size, 2, none⟩) z3_w).trans g3_w_2; have g4_w_3 : w4_.cell? ⟨w.heap.size, 3, none⟩ = some (.int .i64 tb) := (hp4_.cell (p := ⟨w.heap.size, 3, none⟩) z3_w).trans g3_w_3; have g4_w_4 : w4_.cell? ⟨w.heap.size, 4, none⟩ = some (.int .i64 tc) := (hp4_.cell (p := ⟨w.heap.size, 4, none⟩) z3_w).trans g3_w_4; have g4_w_5 : w4_.cell? ⟨w.heap.size, 5, none⟩ = some (.slice aR nR cR) := (hp4_.cell (p := ⟨w.heap.size, 5, none⟩) z3_w).trans g3_w_5; have g4_w_6 : w4_.cell? ⟨w.heap.size, 6, none⟩ = some (.int .i64 n) := (hp4_.cell (p := ⟨w.heap.size, 6, none⟩) z3_w).trans g3_w_6; have g4_w_7 : w4_.cell? ⟨w.heap.size, 7, none⟩ = some (.slice aT nT cT) := (hp4_.cell (p := ⟨w.heap.size, 7, none⟩) z3_w).trans g3_w_7; have g4_w_8 : w4_.cell? ⟨w.heap.size, 8, none⟩ = some (.slice aP nP cP) := (hp4_.cell (p := ⟨w.heap.size, 8, none⟩) z3_w).trans g3_w_8; have g4_w_9 : w4_.cell? ⟨w.heap.size, 9, none⟩ = some (.slice aS nS cS) := (hp4_.cell (p := ⟨w.heap.size, 9, none⟩) z3_w).trans g3_w_9; have g4_w_10 : w4_.cell? ⟨w.heap.size, 10, none⟩ = some (.slice aG nG cG) := (hp4_.cell (p := ⟨w.heap.size, 10, none⟩) z3_w).trans g3_w_10; have z4_w_1 : w.heap.size + 1 < w4_.heap.size := Nat.lt_of_lt_of_le z3_w_1 hp4_.size; have g4_w_1_0 : w4_.cell? ⟨w.heap.size + 1, 0, none⟩ = some (.slice aW nW cW) := (hp4_.cell (p := ⟨w.heap.size + 1, 0, none⟩) z3_w_1).trans g3_w_1_0; have SL4 := Lib.hid (SL.out.kept hp4_ (Nat.le_refl _)); clear z3_w g3_w_0 g3_w_1 g3_w_2 g3_w_3 g3_w_4 g3_w_5 g3_w_6 g3_w_7 g3_w_8 g3_w_9 g3_w_10 z3_w_1 g3_w_1_0 hw3_ hb4_ hp4_)
  go_wp2
  refine Kit.wp_name ?_; intro W0 hW0
  have hB0 : Below w.heap.size w W0 := by rw [hW0]; (repeat' (first | (with_reducible exact Below.refl _ _) | (with_reducible assumption) | (with_reducible refine Kit.below_drewN ?_ _) | (with_reducible refine Below.drew ?_) | (with_reducible refine Below.alloc ?_ ?_ _) | (with_reducible refine Below.setCell ?_ ?_ _) | (with_reducible exact Nat.le_refl _) | omega | (simp; omega) | (simp; done) | (apply Below.size; assumption)))
  have q1 : W0.cell? ⟨w.heap.size + 1, 0, none⟩ = some (.slice aW nW cW) := by rw [hW0]; simp [go_sem, *]
  have y0 : W0.cell? ⟨w4_.heap.size, 0, none⟩ = some (.int .i64 f1) := by rw [hW0]; simp [go_sem]
  have y1 : W0.cell? ⟨w4_.heap.size, 1, none⟩ = some (.int .i64 f2) := by rw [hW0]; simp [go_sem]
  have y2 : W0.cell? ⟨w4_.heap.size, 2, none⟩ = some (.int .i64 f3) := by rw [hW0]; simp [go_sem]
  have y3 : W0.cell? ⟨w4_.heap.size, 3, none⟩ = some (.int .i64 f4) := by rw [hW0]; simp [go_sem]
  have zf : w4_.heap.size < W0.heap.size := by rw [hW0]; simp
  have zh : w.heap.size + 1 < W0.heap.size := by rw [hW0]; simp; omega
  have SL0 := Lib.hid (SL4.out.kept (w' := W0) (B := w4_.heap.size) (by rw [hW0]; (repeat' (first | (with_reducible exact Below.refl _ _) | (with_reducible assumption) | (with_reducible refine Kit.below_drewN ?_ _) | (with_reducible refine Below.drew ?_) | (with_reducible refine Below.alloc ?_ ?_ _) | (with_reducible refine Below.setCell ?_ ?_ _) | (with_reducible exact Nat.le_refl _) | omega | (simp; omega) | (simp; done) | (apply Below.size; assumption)))) (Nat.le_refl _))
  have SM0 := Lib.hid (SM.out.kept hB0 (Nat.le_refl _))
  have SH0 := Lib.hid (SH.out.kept hB0 (Nat.le_refl _))
  have SW0 := Lib.hid (SW.out.kept hB0 (Nat.le_refl _))
  have HB0 := Lib.hid hB0
  have Q1 := Lib.hid q1; have Y0 := Lib.hid y0; have Y1 := Lib.hid y1; have Y2 := Lib.hid y2; have Y3 := Lib.hid y3
  clear q1 y0 y1 y2 y3 hB0 hW0 SL4 SM SH SW HS HF HC HFL g4_w_0 g4_w_1 g4_w_2 g4_w_3 g4_w_4 g4_w_5 g4_w_6 g4_w_7 g4_w_8 g4_w_9 g4_w_10 g4_w_1_0 z4_w z4_w_1 hw4_
  go_loopw [69] (fun v69 wr => ∃ k : Nat, v69 = .int .i64 k ∧ k ≤ L.length ∧ Hid (Below W0.heap.size W0 wr)) (fun v69 _ => L.length - (intOf v69).toNat)
  case atStart => exact ⟨0, rfl, by omega, Lib.hid (Below.refl _ _)⟩
  case round =>
    obtain ⟨k, rfl, hk, HB⟩ := hrel
    have hwr := HB.out
    have zwr : W0.heap.size ≤ wr.heap.size := hwr.size
    by_cases hlt : k < L.length
    · obtain ⟨ad3, rfl, had, _⟩ := SL0.out.at hlt
      have hbk : (ad3.add (k * 3)).block < wr.heap.size := by rw [Tp.add_block]; omega
      have HSl := SL0.out.kept HB.out (Nat.le_refl _)
      have e0 := HSl.head hlt (by omega)
      have e1 := HSl.field hlt (j := 1) (by omega) (by omega)
      have e2 := HSl.field hlt (j := 2) (by omega) (by omega)
      have hform := FORM.out k hlt
      simp only [Ap.c3c] at e0 e1 e2
      clear HSl
      generalize hc : L.getD k (0, 0, 0) = c at e0 e1 e2 hform
      obtain ⟨q1, q2, q3⟩ := c
      simp only at e0 e1 e2
      have hbd : 0 ≤ q2 ∧ q2 < nR ∧ 0 ≤ q3 ∧ ((q1 ≤ 4 ∧ q2 < q3 ∧ q3 < nR ∧ hs q2 q3 = false) ∨ (q1 = 5 ∧ q3 < nW) ∨ q1 = 6) := by
        cases hform with
        | k1 i j h1 h2 h3 h4 => exact ⟨by omega, by omega, by omega, .inl ⟨by omega, by omega, by omega, h3⟩⟩
        | k2 i j h1 h2 h3 h4 => exact ⟨by omega, by omega, by omega, .inl ⟨by omega, by omega, by omega, h3⟩⟩
        | k3 i j h1 h2 h3 h4 => exact ⟨by omega, by omega, by omega, .inl ⟨by omega, by omega, by omega, h3⟩⟩
        | k4 i j h1 h2 h3 h4 => exact ⟨by omega, by omega, by omega, .inl ⟨by omega, by omega, by omega, h3⟩⟩
        | k5 i j h1 h2 h4 => exact ⟨by omega, by omega, by omega, .inr (.inl ⟨rfl, by omega⟩)⟩
        | k6 i h1 h4 => exact ⟨by omega, by omega, by omega, .inr (.inr rfl)⟩
      have HFM := Lib.hid hform
      have HCK := Lib.hid hc
      clear hform hc
      go_upto_region 16 with fail
      go_cut [69, 126] from 74 to 126 (fun s69 s126 wx => s69 = .int .i64 k ∧ s126 = .bool false ∧ Hid (Below W0.heap.size W0 wx) ∧ wr.heap.size < wx.heap.size ∧ wx.cell? ⟨wr.heap.size, 0, none⟩ = some (.int .i64 q1) ∧ wx.cell? ⟨wr.heap.size, 1, none⟩ = some (.int .i64 q2) ∧ wx.cell? ⟨wr.heap.size, 2, none⟩ = some (.int .i64 q3))
      case first =>
        obtain ⟨b1, b2, b3, b4⟩ := hbd
        have d0 : decide (q2 < 0) = false := by simp; omega
        have d1 : decide ((nR : Int) ≤ q2) = false := by simp; omega
        have d2 : decide (q3 < 0) = false := by simp; omega
        rcases b4 with ⟨b5, b6, b7, b8⟩ | ⟨b5, b6⟩ | b5
        · as_aux_lemma =>
          have d3 : decide (q1 ≤ 4) = true := by simp; omega
          have d4 : decide (q3 ≤ q2) = false := by simp; omega
          have d5 : decide ((nR : Int) ≤ q3) = false := by simp; omega
          have d6 : (q1 == 5) = false := by simp; omega
          have HSF := Lib.hid b8
          clear b1 b2 b3 b5 b6 b7 b8
          go_wp2_with fail
          refine (HH.out q2 q3 _ (HB0.out.trans (Below.mono (by (repeat' (first | (with_reducible exact Below.refl _ _) | (with_reducible assumption) | (with_reducible refine Kit.below_drewN ?_ _) | (with_reducible refine Below.drew ?_) | (with_reducible refine Below.alloc ?_ ?_ _) | (with_reducible refine Below.setCell ?_ ?_ _) | (with_reducible exact Nat.le_refl _) | omega | (simp; omega) | (simp; done) | (apply Below.size; assumption)))) HB0.out.size))).mono ?_
          rintro e w9 ⟨rfl, hb9⟩
          rw [HSF.out]
          have h9 : Below W0.heap.size W0 w9 := Below.trans (by (repeat' (first | (with_reducible exact Below.refl _ _) | (with_reducible assumption) | (with_reducible refine Kit.below_drewN ?_ _) | (with_reducible refine Below.drew ?_) | (with_reducible refine Below.alloc ?_ ?_ _) | (with_reducible refine Below.setCell ?_ ?_ _) | (with_reducible exact Nat.le_refl _) | omega | (simp; omega) | (simp; done) | (apply Below.size; assumption)))) (hb9.mono (by first | (simp; done) | (simp; omega) | omega))
          obtain ⟨hc9, _⟩ := Kit.bcell hb9
          have f0 : w9.cell? ⟨wr.heap.size, 0, none⟩ = some (.int .i64 q1) := by rw [hc9 _ _ (by first | (simp; done) | (simp; omega))]; simp [go_sem]
          have f1 : w9.cell? ⟨wr.heap.size, 1, none⟩ = some (.int .i64 q2) := by rw [hc9 _ _ (by first | (simp; done) | (simp; omega))]; simp [go_sem]
          have f2 : w9.cell? ⟨wr.heap.size, 2, none⟩ = some (.int .i64 q3) := by rw [hc9 _ _ (by first | (simp; done) | (simp; omega))]; simp [go_sem]
          have z9 : wr.heap.size < w9.heap.size := by have := hb9.size; simp at this; omega
          clear hc9 hb9
          go_wp2_with fail
          go_meet
          case rel => exact ⟨rfl, rfl, Lib.hid h9, z9, f0, f1, f2⟩
        · as_aux_lemma =>
          have d3 : decide (q1 ≤ 4) = false := by simp; omega
          have d6 : (q1 == 5) = true := by simp; omega
          have d7 : decide ((nW : Int) ≤ q3) = false := by simp; omega
          have Q1' := Q1.out
          have q1' : wr.cell? ⟨w.heap.size + 1, 0, none⟩ = some (.slice aW nW cW) := (hwr.cell (p := ⟨w.heap.size + 1, 0, none⟩) zh).trans Q1.out
          have zhr : w.heap.size + 1 < wr.heap.size := by omega
          clear b1 b2 b3 b5 b6 Q1'
          go_wp2_with fail
          go_meet
          case rel => exact ⟨rfl, rfl, Lib.hid (by (repeat' (first | (with_reducible exact Below.refl _ _) | (with_reducible assumption) | (with_reducible refine Kit.below_drewN ?_ _) | (with_reducible refine Below.drew ?_) | (with_reducible refine Below.alloc ?_ ?_ _) | (with_reducible refine Below.setCell ?_ ?_ _) | (with_reducible exact Nat.le_refl _) | omega | (simp; omega) | (simp; done) | (apply Below.size; assumption)))), by simp, by simp [go_sem], by simp [go_sem], by simp [go_sem]⟩
        · as_aux_lemma =>
          have d3 : decide (q1 ≤ 4) = false := by simp; omega
          have d6 : (q1 == 5) = false := by simp; omega
          clear b1 b2 b3 b5
          go_wp2_with fail
          go_meet
          case rel => exact ⟨rfl, rfl, Lib.hid (by (repeat' (first | (with_reducible exact Below.refl _ _) | (with_reducible assumption) | (with_reducible refine Kit.below_drewN ?_ _) | (with_reducible refine Below.drew ?_) | (with_reducible refine Below.alloc ?_ ?_ _) | (with_reducible refine Below.setCell ?_ ?_ _) | (with_reducible exact Nat.le_refl _) | omega | (simp; omega) | (simp; done) | (apply Below.size; assumption)))), by simp, by simp [go_sem], by simp [go_sem], by simp [go_sem]⟩
      case rest =>
        obtain ⟨rfl, rfl, HB1, z1, c0, c1, c2⟩ := hcut
        obtain ⟨W1, rfl⟩ : ∃ W1, W1 = wc := ⟨_, rfl⟩
        go_upto_if 128 with fail
        go_cut [69] from 127 to 166 (fun s69 wx => s69 = .int .i64 k ∧ Hid (Below W0.heap.size W0 wx) ∧ wr.heap.size < wx.heap.size ∧ wx.cell? ⟨wr.heap.size, 0, none⟩ = some (.int .i64 q1) ∧ wx.cell? ⟨wr.heap.size, 1, none⟩ = some (.int .i64 q2) ∧ wx.cell? ⟨wr.heap.size, 2, none⟩ = some (.int .i64 q3))
        case first =>
          have h1W := HB1.out
          have zW1 : W0.heap.size ≤ W1.heap.size := h1W.size
          clear hbd HFM hwr HB e0 e1 e2
          by_cases hk0 : k = 0
          · as_aux_lemma =>
            have kz : decide (0 < k) = false := by simp; omega
            have kz2 : decide ((0 : Int) < (k : Int)) = false := by simp; omega
            clear hk0
            (first | rw [kz] | rw [kz2])
            go_wp2_with fail
            go_meet
            case rel => exact ⟨rfl, Lib.hid (by (repeat' (first | (with_reducible exact Below.refl _ _) | (with_reducible assumption) | (with_reducible refine Kit.below_drewN ?_ _) | (with_reducible refine Below.drew ?_) | (with_reducible refine Below.alloc ?_ ?_ _) | (with_reducible refine Below.setCell ?_ ?_ _) | (with_reducible exact Nat.le_refl _) | omega | (simp; omega) | (simp; done) | (apply Below.size; assumption)))), by first | (simp; done) | (simp; omega) | omega, by first | assumption | (simp [go_sem, *]; done), by first | assumption | (simp [go_sem, *]; done), by first | assumption | (simp [go_sem, *]; done)⟩
          · have kz : decide (0 < k) = true := by simp; omega
            have kz2 : decide ((0 : Int) < (k : Int)) = true := by simp; omega
            (first | rw [kz] | rw [kz2])
            have hkp : k - 1 < L.length := by omega
            have HSl := SL0.out.kept h1W (Nat.le_refl _)
            have g0 := HSl.head hkp (by omega)
            have g1 := HSl.field hkp (j := 1) (by omega) (by omega)
            have g2 := HSl.field hkp (j := 2) (by omega) (by omega)
            have hlt3 := SRT.out (k - 1) (by omega)
            rw [show k - 1 + 1 = k by omega, HCK.out] at hlt3
            simp only [Ap.c3c] at g0 g1 g2
            have hbp : (ad3.add ((k - 1) * 3)).block < W1.heap.size := by rw [Tp.add_block]; omega
            clear HSl
            generalize L.getD (k - 1) (0, 0, 0) = p at g0 g1 g2 hlt3
            obtain ⟨p1, p2, p3⟩ := p
            simp only at g0 g1 g2
            simp only [Ap.lt3] at hlt3
            have hk1 : 1 ≤ k := by omega
            clear hk0
            rcases hlt3 with a1 | ⟨a1, a2 | ⟨a2, a3⟩⟩
            · as_aux_lemma =>
              have b1 : decide (q1 < p1) = false := by simp; omega
              have b2 : (p1 == q1) = false := by simp; omega
              clear a1
              go_wp2_with fail
              go_meet
              case rel => exact ⟨rfl, Lib.hid (by (repeat' (first | (with_reducible exact Below.refl _ _) | (with_reducible assumption) | (with_reducible refine Kit.below_drewN ?_ _) | (with_reducible refine Below.drew ?_) | (with_reducible refine Below.alloc ?_ ?_ _) | (with_reducible refine Below.setCell ?_ ?_ _) | (with_reducible exact Nat.le_refl _) | omega | (simp; omega) | (simp; done) | (apply Below.size; assumption)))), by first | (simp; done) | (simp; omega) | omega, by first | assumption | (simp [go_sem, *]; done), by first | assumption | (simp [go_sem, *]; done), by first | assumption | (simp [go_sem, *]; done)⟩
            · as_aux_lemma =>
              have b1 : decide (q1 < p1) = false := by simp; omega
              have b2 : (p1 == q1) = true := by simp; omega
              have b3 : decide (q2 < p2) = false := by simp; omega
              have b4 : (p2 == q2) = false := by simp; omega
              clear a1 a2
              go_wp2_with fail
              go_meet
              case rel => exact ⟨rfl, Lib.hid (by (repeat' (first | (with_reducible exact Below.refl _ _) | (with_reducible assumption) | (with_reducible refine Kit.below_drewN ?_ _) | (with_reducible refine Below.drew ?_) | (with_reducible refine Below.alloc ?_ ?_ _) | (with_reducible refine Below.setCell ?_ ?_ _) | (with_reducible exact Nat.le_refl _) | omega | (simp; omega) | (simp; done) | (apply Below.size; assumption)))), by first | (simp; done) | (simp; omega) | omega, by first | assumption | (simp [go_sem, *]; done), by first | assumption | (simp [go_sem, *]; done), by first | assumption | (simp [go_sem, *]; done)⟩
            · as_aux_lemma =>
              have b1 : decide (q1 < p1) = false := by simp; omega
              have b2 : (p1 == q1) = true := by simp; omega
              have b3 : decide (q2 < p2) = false := by simp; omega
              have b4 : (p2 == q2) = true := by simp; omega
              have b5 : decide (q3 ≤ p3) = false := by simp; omega
              clear a1 a2 a3
              go_wp2_with fail
              go_meet
              case rel => exact ⟨rfl, Lib.hid (by (repeat' (first | (with_reducible exact Below.refl _ _) | (with_reducible assumption) | (with_reducible refine Kit.below_drewN ?_ _) | (with_reducible refine Below.drew ?_) | (with_reducible refine Below.alloc ?_ ?_ _) | (with_reducible refine Below.setCell ?_ ?_ _) | (with_reducible exact Nat.le_refl _) | omega | (simp; omega) | (simp; done) | (apply Below.size; assumption)))), by first | (simp; done) | (simp; omega) | omega, by first | assumption | (simp [go_sem, *]; done), by first | assumption | (simp [go_sem, *]; done), by first | assumption | (simp [go_sem, *]; done)⟩
        case rest =>
          obtain ⟨rfl, HB2, z2, c0, c1, c2⟩ := hcut
          have hf := HFM.out
          clear HFM HCK HB1 z1 hbd hwr HB e0 e1 e2
          cases hf with
          | k1 i j h1 h2 h3 h4 =>
            as_aux_lemma =>
              have hiR : i < nR := by omega
              have TG := Lib.hid (fun W => lw_together (M i) (M j) W (OM.out i hiR) (OM.out j (by omega)))
              rw [h4] at TG; clear h3 h4
              obtain ⟨aM, rfl, _, _⟩ := SM0.out.at hiR
              go_wp2_with fail
              have e1 : ∀ z : Kit.Wd wc, z.val.cell? ⟨wr.heap.size, 1, none⟩ = some (.int .i64 i) := fun z => z.cell c1 z2
              have e2 : ∀ z : Kit.Wd wc, z.val.cell? ⟨wr.heap.size, 2, none⟩ = some (.int .i64 j) := fun z => z.cell c2 z2
              have hsu : ∀ z : Kit.Wd wc, Tp.Sl z.val (some aM) nR 4 (Lw.bxf M) := fun z => SM0.out.kept (HB2.out.trans (z.below.mono HB2.out.size)) (Nat.le_refl _)
              have u0 := fun z => (hsu z).head hiR (by omega)
              have u1 := fun z => (hsu z).field hiR (j := 1) (by omega) (by omega)
              have u2 := fun z => (hsu z).field hiR (j := 2) (by omega) (by omega)
              have u3 := fun z => (hsu z).field hiR (j := 3) (by omega) (by omega)
              simp only [Lw.bxf] at u0 u1 u2 u3
              clear hsu
              have hsv : ∀ z : Kit.Wd wc, Tp.Sl z.val (some aM) nR 4 (Lw.bxf M) := fun z => SM0.out.kept (HB2.out.trans (z.below.mono HB2.out.size)) (Nat.le_refl _)
              have v0 := fun z => (hsv z).head h2 (by omega)
              have v1 := fun z => (hsv z).field h2 (j := 1) (by omega) (by omega)
              have v2 := fun z => (hsv z).field h2 (j := 2) (by omega) (by omega)
              have v3 := fun z => (hsv z).field h2 (j := 3) (by omega) (by omega)
              simp only [Lw.bxf] at v0 v1 v2 v3
              clear hsv
              (refine Kit.wp_region_cls (by kernel_rfl) (by kernel_rfl) ?_; (repeat (go_big_quiet_step (exact Kit.calls_cls _ (TG.out _)))); refine wpQuiet_nil ?_; intro z)
              have HZ := Lib.hid (HB2.out.trans (z.below.mono HB2.out.size))
              generalize z.val = Z at *
              clear e1 e2 u0 u1 u2 u3 v0 v1 v2 v3 z
              go_wp2
              go_roundw
              case rel => first | exact ⟨k + 1, by go_num, by omega, HZ⟩ | ((repeat apply Exists.intro); exact ⟨⟨k + 1, by go_num, by omega, HZ⟩, rfl⟩)
              case measure => simp [intOf]; omega
          | k2 i j h1 h2 h3 h4 =>
            as_aux_lemma =>
              have hiR : i < nR := by omega
              have TG := Lib.hid (fun W => lw_together (M i) (H j) W (OM.out i hiR) (OH.out j (by omega)))
              rw [h4] at TG; clear h3 h4
              obtain ⟨aM, rfl, _, _⟩ := SM0.out.at hiR
              obtain ⟨aH, rfl, _, _⟩ := SH0.out.at hiR
              go_wp2_with fail
              have e1 : ∀ z : Kit.Wd wc, z.val.cell? ⟨wr.heap.size, 1, none⟩ = some (.int .i64 i) := fun z => z.cell c1 z2
              have e2 : ∀ z : Kit.Wd wc, z.val.cell? ⟨wr.heap.size, 2, none⟩ = some (.int .i64 j) := fun z => z.cell c2 z2
              have hsu : ∀ z : Kit.Wd wc, Tp.Sl z.val (some aM) nR 4 (Lw.bxf M) := fun z => SM0.out.kept (HB2.out.trans (z.below.mono HB2.out.size)) (Nat.le_refl _)
              have u0 := fun z => (hsu z).head hiR (by omega)
              have u1 := fun z => (hsu z).field hiR (j := 1) (by omega) (by omega)
              have u2 := fun z => (hsu z).field hiR (j := 2) (by omega) (by omega)
              have u3 := fun z => (hsu z).field hiR (j := 3) (by omega) (by omega)
              simp only [Lw.bxf] at u0 u1 u2 u3
              clear hsu
              have hsv : ∀ z : Kit.Wd wc, Tp.Sl z.val (some aH) nR 4 (Lw.bxf H) := fun z => SH0.out.kept (HB2.out.trans (z.below.mono HB2.out.size)) (Nat.le_refl _)
              have v0 := fun z => (hsv z).head h2 (by omega)
              have v1 := fun z => (hsv z).field h2 (j := 1) (by omega) (by omega)
              have v2 := fun z => (hsv z).field h2 (j := 2) (by omega) (by omega)
              have v3 := fun z => (hsv z).field h2 (j := 3) (by omega) (by omega)
              simp only [Lw.bxf] at v0 v1 v2 v3
              clear hsv
              (refine Kit.wp_region_cls (by kernel_rfl) (by kernel_rfl) ?_; (repeat (go_big_quiet_step (exact Kit.calls_cls _ (TG.out _)))); refine wpQuiet_nil ?_; intro z)
              have HZ := Lib.hid (HB2.out.trans (z.below.mono HB2.out.size))
              generalize z.val = Z at *
              clear e1 e2 u0 u1 u2 u3 v0 v1 v2 v3 z
              go_wp2
              go_roundw
              case rel => first | exact ⟨k + 1, by go_num, by omega, HZ⟩ | ((repeat apply Exists.intro); exact ⟨⟨k + 1, by go_num, by omega, HZ⟩, rfl⟩)
              case measure => simp [intOf]; omega
          | k3 i j h1 h2 h3 h4 =>
            as_aux_lemma =>
              have hiR : i < nR := by omega
              have TG := Lib.hid (fun W => lw_together (H i) (M j) W (OH.out i hiR) (OM.out j (by omega)))
              rw [h4] at TG; clear h3 h4
              obtain ⟨aH, rfl, _, _⟩ := SH0.out.at hiR
              obtain ⟨aM, rfl, _, _⟩ := SM0.out.at hiR
              go_wp2_with fail
              have e1 : ∀ z : Kit.Wd wc, z.val.cell? ⟨wr.heap.size, 1, none⟩ = some (.int .i64 i) := fun z => z.cell c1 z2
              have e2 : ∀ z : Kit.Wd wc, z.val.cell? ⟨wr.heap.size, 2, none⟩ = some (.int .i64 j) := fun z => z.cell c2 z2
              have hsu : ∀ z : Kit.Wd wc, Tp.Sl z.val (some aH) nR 4 (Lw.bxf H) := fun z => SH0.out.kept (HB2.out.trans (z.below.mono HB2.out.size)) (Nat.le_refl _)
              have u0 := fun z => (hsu z).head hiR (by omega)
              have u1 := fun z => (hsu z).field hiR (j := 1) (by omega) (by omega)
              have u2 := fun z => (hsu z).field hiR (j := 2) (by omega) (by omega)
              have u3 := fun z => (hsu z).field hiR (j := 3) (by omega) (by omega)
              simp only [Lw.bxf] at u0 u1 u2 u3
              clear hsu
              have hsv : ∀ z : Kit.Wd wc, Tp.Sl z.val (some aM) nR 4 (Lw.bxf M) := fun z => SM0.out.kept (HB2.out.trans (z.below.mono HB2.out.size)) (Nat.le_refl _)
              have v0 := fun z => (hsv z).head h2 (by omega)
              have v1 := fun z => (hsv z).field h2 (j := 1) (by omega) (by omega)
              have v2 := fun z => (hsv z).field h2 (j := 2) (by omega) (by omega)
              have v3 := fun z => (hsv z).field h2 (j := 3) (by omega) (by omega)
              simp only [Lw.bxf] at v0 v1 v2 v3
              clear hsv
              (refine Kit.wp_region_cls (by kernel_rfl) (by kernel_rfl) ?_; (repeat (go_big_quiet_step (exact Kit.calls_cls _ (TG.out _)))); refine wpQuiet_nil ?_; intro z)
              have HZ := Lib.hid (HB2.out.trans (z.below.mono HB2.out.size))
              generalize z.val = Z at *
              clear e1 e2 u0 u1 u2 u3 v0 v1 v2 v3 z
              go_wp2
              go_roundw
              case rel => first | exact ⟨k + 1, by go_num, by omega, HZ⟩ | ((repeat apply Exists.intro); exact ⟨⟨k + 1, by go_num, by omega, HZ⟩, rfl⟩)
              case measure => simp [intOf]; omega
          | k4 i j h1 h2 h3 h4 =>
            as_aux_lemma =>
              have hiR : i < nR := by omega
              have TG := Lib.hid (fun W => lw_together (H i) (H j) W (OH.out i hiR) (OH.out j (by omega)))
              rw [h4] at TG; clear h3 h4
              obtain ⟨aH, rfl, _, _⟩ := SH0.out.at hiR
              go_wp2_with fail
              have e1 : ∀ z : Kit.Wd wc, z.val.cell? ⟨wr.heap.size, 1, none⟩ = some (.int .i64 i) := fun z => z.cell c1 z2
              have e2 : ∀ z : Kit.Wd wc, z.val.cell? ⟨wr.heap.size, 2, none⟩ = some (.int .i64 j) := fun z => z.cell c2 z2
              have hsu : ∀ z : Kit.Wd wc, Tp.Sl z.val (some aH) nR 4 (Lw.bxf H) := fun z => SH0.out.kept (HB2.out.trans (z.below.mono HB2.out.size)) (Nat.le_refl _)
              have u0 := fun z => (hsu z).head hiR (by omega)
              have u1 := fun z => (hsu z).field hiR (j := 1) (by omega) (by omega)
              have u2 := fun z => (hsu z).field hiR (j := 2) (by omega) (by omega)
              have u3 := fun z => (hsu z).field hiR (j := 3) (by omega) (by omega)
              simp only [Lw.bxf] at u0 u1 u2 u3
              clear hsu
              have hsv : ∀ z : Kit.Wd wc, Tp.Sl z.val (some aH) nR 4 (Lw.bxf H) := fun z => SH0.out.kept (HB2.out.trans (z.below.mono HB2.out.size)) (Nat.le_refl _)
              have v0 := fun z => (hsv z).head h2 (by omega)
              have v1 := fun z => (hsv z).field h2 (j := 1) (by omega) (by omega)
              have v2 := fun z => (hsv z).field h2 (j := 2) (by omega) (by omega)
              have v3 := fun z => (hsv z).field h2 (j := 3) (by omega) (by omega)
              simp only [Lw.bxf] at v0 v1 v2 v3
              clear hsv
              (refine Kit.wp_region_cls (by kernel_rfl) (by kernel_rfl) ?_; (repeat (go_big_quiet_step (exact Kit.calls_cls _ (TG.out _)))); refine wpQuiet_nil ?_; intro z)
              have HZ := Lib.hid (HB2.out.trans (z.below.mono HB2.out.size))
              generalize z.val = Z at *
              clear e1 e2 u0 u1 u2 u3 v0 v1 v2 v3 z
              go_wp2
              go_roundw
              case rel => first | exact ⟨k + 1, by go_num, by omega, HZ⟩ | ((repeat apply Exists.intro); exact ⟨⟨k + 1, by go_num, by omega, HZ⟩, rfl⟩)
              case measure => simp [intOf]; omega
          | k5 i j h1 h2 h4 =>
            as_aux_lemma =>
              obtain ⟨aW, rfl, haW, _⟩ := SW0.out.at h2
              have HSw := SW0.out.kept HB2.out (Nat.le_refl _)
              have x0 := HSw.head h2 (by omega)
              have x1 := HSw.field h2 (j := 1) (by omega) (by omega)
              have x2 := HSw.field h2 (j := 2) (by omega) (by omega)
              have x3 := HSw.field h2 (j := 3) (by omega) (by omega)
              have x4 := HSw.field h2 (j := 4) (by omega) (by omega)
              have x5 := HSw.field h2 (j := 5) (by omega) (by omega)
              have x6 := HSw.field h2 (j := 6) (by omega) (by omega)
              have x7 := HSw.field h2 (j := 7) (by omega) (by omega)
              simp only [Lw.wgf] at x0 x1 x2 x3 x4 x5 x6 x7
              have xh : wc.cell? ⟨w.heap.size + 1, 0, none⟩ = some (.slice (some aW) nW cW) := (HB2.out.cell (p := ⟨w.heap.size + 1, 0, none⟩) zh).trans Q1.out
              have PJ := Lib.hid (HP.out j h2)
              have oM := OM.out i h1; have oH := OH.out i h1; have oP := OP.out j h2
              have TG1 := Lib.hid (fun W => lw_together (M i) (pj j) W oM oP)
              have TG2 := Lib.hid (fun W => lw_together (H i) (pj j) W oH oP)
              have H4 := Lib.hid h4
              have zwc : W0.heap.size ≤ wc.heap.size := HB2.out.size
              clear h4 HSw oM oH oP
              go_wp2_with fail
              refine (PJ.out _).mono ?_
              rintro e w9 ⟨rfl, hb9⟩
              have h9 : Below W0.heap.size W0 w9 := HB2.out.trans (hb9.mono zwc)
              have f1 : w9.cell? ⟨wr.heap.size, 1, none⟩ = some (.int .i64 i) := (hb9.cell (p := ⟨wr.heap.size, 1, none⟩) z2).trans c1
              have z9 : wr.heap.size < w9.heap.size := Nat.lt_of_lt_of_le z2 hb9.size
              clear x0 x1 x2 x3 x4 x5 x6 x7 xh hb9 c1 c2
              go_wp2_with fail
              refine Kit.wp_name ?_; intro W hW
              have hWB : Below W0.heap.size W0 W := by rw [hW]; exact h9.alloc (by omega) _
              have e1 : ∀ z : Kit.Wd W, z.val.cell? ⟨wr.heap.size, 1, none⟩ = some (.int .i64 i) := fun z => z.cell (by rw [hW]; simp [go_sem, *]) (by rw [hW]; simp; omega)
              have y0 : ∀ z : Kit.Wd W, z.val.cell? ⟨w9.heap.size, 0, none⟩ = some (.int .i64 (pj j).1) := fun z => z.cell (by rw [hW]; simp [go_sem]) (by rw [hW]; simp)
              have y1 : ∀ z : Kit.Wd W, z.val.cell? ⟨w9.heap.size, 1, none⟩ = some (.int .i64 (pj j).2.1) := fun z => z.cell (by rw [hW]; simp [go_sem]) (by rw [hW]; simp)
              have y2 : ∀ z : Kit.Wd W, z.val.cell? ⟨w9.heap.size, 2, none⟩ = some (.int .i64 (pj j).2.2.1) := fun z => z.cell (by rw [hW]; simp [go_sem]) (by rw [hW]; simp)
              have y3 : ∀ z : Kit.Wd W, z.val.cell? ⟨w9.heap.size, 3, none⟩ = some (.int .i64 (pj j).2.2.2) := fun z => z.cell (by rw [hW]; simp [go_sem]) (by rw [hW]; simp)
              have HWB := Lib.hid hWB
              obtain ⟨aM, rfl, _, _⟩ := SM0.out.at h1
              obtain ⟨aH, rfl, _, _⟩ := SH0.out.at h1
              have hsu : ∀ z : Kit.Wd W, Tp.Sl z.val (some aM) nR 4 (Lw.bxf M) := fun z => SM0.out.kept (HWB.out.trans (z.below.mono HWB.out.size)) (Nat.le_refl _)
              have u0 := fun z => (hsu z).head h1 (by omega)
              have u1 := fun z => (hsu z).field h1 (j := 1) (by omega) (by omega)
              have u2 := fun z => (hsu z).field h1 (j := 2) (by omega) (by omega)
              have u3 := fun z => (hsu z).field h1 (j := 3) (by omega) (by omega)
              simp only [Lw.bxf] at u0 u1 u2 u3
              clear hsu
              have hsv : ∀ z : Kit.Wd W, Tp.Sl z.val (some aH) nR 4 (Lw.bxf H) := fun z => SH0.out.kept (HWB.out.trans (z.below.mono HWB.out.size)) (Nat.le_refl _)
              have v0 := fun z => (hsv z).head h1 (by omega)
              have v1 := fun z => (hsv z).field h1 (j := 1) (by omega) (by omega)
              have v2 := fun z => (hsv z).field h1 (j := 2) (by omega) (by omega)
              have v3 := fun z => (hsv z).field h1 (j := 3) (by omega) (by omega)
              simp only [Lw.bxf] at v0 v1 v2 v3
              clear hsv
              clear hW f1 z9 h9 hWB
              rcases t : Ap.meet (M i) (pj j) with _ | _
              · have t2 : Ap.meet (H i) (pj j) = true := (H4.out.resolve_left (by simp [t]))
                rw [t] at TG1; rw [t2] at TG2
                clear t t2 H4
                (refine Kit.wp_region_cls (by kernel_rfl) (by kernel_rfl) ?_; (repeat (go_big_quiet_step (first | (with_reducible exact Kit.calls_cls _ (TG1.out _)) | (with_reducible exact Kit.calls_cls _ (TG2.out _))))); refine wpQuiet_nil ?_; intro z)
                have HZ := Lib.hid (HWB.out.trans (z.below.mono HWB.out.size))
                generalize z.val = Z at *
                clear e1 y0 y1 y2 y3 u0 u1 u2 u3 v0 v1 v2 v3 z
                go_wp2
                go_roundw
                case rel => first | exact ⟨k + 1, by go_num, by omega, HZ⟩ | ((repeat apply Exists.intro); exact ⟨⟨k + 1, by go_num, by omega, HZ⟩, rfl⟩)
                case measure => simp [intOf]; omega
              · rw [t] at TG1; clear t TG2 H4
                (refine Kit.wp_region_cls (by kernel_rfl) (by kernel_rfl) ?_; (repeat (go_big_quiet_step (exact Kit.calls_cls _ (TG1.out _)))); refine wpQuiet_nil ?_; intro z)
                have HZ := Lib.hid (HWB.out.trans (z.below.mono HWB.out.size))
                generalize z.val = Z at *
                clear e1 y0 y1 y2 y3 u0 u1 u2 u3 v0 v1 v2 v3 z
                go_wp2
                go_roundw
                case rel => first | exact ⟨k + 1, by go_num, by omega, HZ⟩ | ((repeat apply Exists.intro); exact ⟨⟨k + 1, by go_num, by omega, HZ⟩, rfl⟩)
                case measure => simp [intOf]; omega
          | k6 i h1 h4 =>
            as_aux_lemma =>
              have TG1 := Lib.hid (HIN.out (M i) (OM.out i h1))
              have TG2 := Lib.hid (HIN.out (H i) (OH.out i h1))
              have H4 := Lib.hid h4
              clear h4
              obtain ⟨aM, rfl, _, _⟩ := SM0.out.at h1
              obtain ⟨aH, rfl, _, _⟩ := SH0.out.at h1
              go_wp2_with fail
              have e1 : ∀ z : Kit.Wd wc, z.val.cell? ⟨wr.heap.size, 1, none⟩ = some (.int .i64 i) := fun z => z.cell c1 z2
              have e2 : ∀ z : Kit.Wd wc, z.val.cell? ⟨wr.heap.size, 2, none⟩ = some (.int .i64 0) := fun z => z.cell c2 z2
              have y0 : ∀ z : Kit.Wd wc, z.val.cell? ⟨w4_.heap.size, 0, none⟩ = some (.int .i64 f1) := fun z => z.cell ((HB2.out.cell (p := ⟨w4_.heap.size, 0, none⟩) zf).trans Y0.out) (Nat.lt_of_lt_of_le zf HB2.out.size)
              have y1 : ∀ z : Kit.Wd wc, z.val.cell? ⟨w4_.heap.size, 1, none⟩ = some (.int .i64 f2) := fun z => z.cell ((HB2.out.cell (p := ⟨w4_.heap.size, 1, none⟩) zf).trans Y1.out) (Nat.lt_of_lt_of_le zf HB2.out.size)
              have y2 : ∀ z : Kit.Wd wc, z.val.cell? ⟨w4_.heap.size, 2, none⟩ = some (.int .i64 f3) := fun z => z.cell ((HB2.out.cell (p := ⟨w4_.heap.size, 2, none⟩) zf).trans Y2.out) (Nat.lt_of_lt_of_le zf HB2.out.size)
              have y3 : ∀ z : Kit.Wd wc, z.val.cell? ⟨w4_.heap.size, 3, none⟩ = some (.int .i64 f4) := fun z => z.cell ((HB2.out.cell (p := ⟨w4_.heap.size, 3, none⟩) zf).trans Y3.out) (Nat.lt_of_lt_of_le zf HB2.out.size)
              have hsu : ∀ z : Kit.Wd wc, Tp.Sl z.val (some aM) nR 4 (Lw.bxf M) := fun z => SM0.out.kept (HB2.out.trans (z.below.mono HB2.out.size)) (Nat.le_refl _)
              have u0 := fun z => (hsu z).head h1 (by omega)
              have u1 := fun z => (hsu z).field h1 (j := 1) (by omega) (by omega)
              have u2 := fun z => (hsu z).field h1 (j := 2) (by omega) (by omega)
              have u3 := fun z => (hsu z).field h1 (j := 3) (by omega) (by omega)
              simp only [Lw.bxf] at u0 u1 u2 u3
              clear hsu
              rcases t : Ap.ins (M i) (f1, f2, f3, f4) with _ | _
              · rw [t] at TG1; clear t H4
                (refine Kit.wp_region_cls (by kernel_rfl) (by kernel_rfl) ?_; (repeat (go_big_quiet_step (exact Kit.calls_cls _ (TG1.out _)))); refine wpQuiet_nil ?_; intro z)
                have HZ := Lib.hid (HB2.out.trans (z.below.mono HB2.out.size))
                have zzr : wr.heap.size < z.val.heap.size := Nat.lt_of_lt_of_le z2 z.below.size
                have zzf : w4_.heap.size < z.val.heap.size := Nat.lt_of_lt_of_le (Nat.lt_of_lt_of_le zf HB2.out.size) z.below.size
                replace e1 := e1 z
                replace e2 := e2 z
                replace y0 := y0 z
                replace y1 := y1 z
                replace y2 := y2 z
                replace y3 := y3 z
                generalize z.val = Z at *
                clear u0 u1 u2 u3 z
                go_wp2_with fail
                replace e1 := fun z : Kit.Wd Z => z.cell e1 zzr
                replace e2 := fun z : Kit.Wd Z => z.cell e2 zzr
                replace y0 := fun z : Kit.Wd Z => z.cell y0 zzf
                replace y1 := fun z : Kit.Wd Z => z.cell y1 zzf
                replace y2 := fun z : Kit.Wd Z => z.cell y2 zzf
                replace y3 := fun z : Kit.Wd Z => z.cell y3 zzf
                have hsv : ∀ z : Kit.Wd Z, Tp.Sl z.val (some aH) nR 4 (Lw.bxf H) := fun z => SH0.out.kept (HZ.out.trans (z.below.mono HZ.out.size)) (Nat.le_refl _)
                have v0 := fun z => (hsv z).head h1 (by omega)
                have v1 := fun z => (hsv z).field h1 (j := 1) (by omega) (by omega)
                have v2 := fun z => (hsv z).field h1 (j := 2) (by omega) (by omega)
                have v3 := fun z => (hsv z).field h1 (j := 3) (by omega) (by omega)
                simp only [Lw.bxf] at v0 v1 v2 v3
                clear hsv
                (refine Kit.wp_region_cls (by kernel_rfl) (by kernel_rfl) ?_; (repeat (go_big_quiet_step (exact Kit.calls_cls _ (TG2.out _)))); refine wpQuiet_nil ?_; intro z)
                replace HZ := Lib.hid (HZ.out.trans (z.below.mono HZ.out.size))
                replace e1 := e1 z
                replace e2 := e2 z
                generalize z.val = Z2 at *
                clear y0 y1 y2 y3 v0 v1 v2 v3 z
                go_wp2
                go_roundw
                case rel => first | exact ⟨k + 1, by go_num, by omega, HZ⟩ | ((repeat apply Exists.intro); exact ⟨⟨k + 1, by go_num, by omega, HZ⟩, rfl⟩)
                case measure => simp [intOf]; omega
              · have t2 : Ap.ins (H i) (f1, f2, f3, f4) = false := (H4.out.resolve_left (by simp [t]))
                rw [t] at TG1; rw [t2] at TG2; clear t t2 H4
                (refine Kit.wp_region_cls (by kernel_rfl) (by kernel_rfl) ?_; (repeat (go_big_quiet_step (exact Kit.calls_cls _ (TG1.out _)))); refine wpQuiet_nil ?_; intro z)
                have HZ := Lib.hid (HB2.out.trans (z.below.mono HB2.out.size))
                have zzr : wr.heap.size < z.val.heap.size := Nat.lt_of_lt_of_le z2 z.below.size
                have zzf : w4_.heap.size < z.val.heap.size := Nat.lt_of_lt_of_le (Nat.lt_of_lt_of_le zf HB2.out.size) z.below.size
                replace e1 := e1 z
                replace e2 := e2 z
                replace y0 := y0 z
                replace y1 := y1 z
                replace y2 := y2 z
                replace y3 := y3 z
                generalize z.val = Z at *
                clear u0 u1 u2 u3 z
                go_wp2_with fail
                replace e1 := fun z : Kit.Wd Z => z.cell e1 zzr
                replace e2 := fun z : Kit.Wd Z => z.cell e2 zzr
                replace y0 := fun z : Kit.Wd Z => z.cell y0 zzf
                replace y1 := fun z : Kit.Wd Z => z.cell y1 zzf
                replace y2 := fun z : Kit.Wd Z => z.cell y2 zzf
                replace y3 := fun z : Kit.Wd Z => z.cell y3 zzf
                have hsv : ∀ z : Kit.Wd Z, Tp.Sl z.val (some aH) nR 4 (Lw.bxf H) := fun z => SH0.out.kept (HZ.out.trans (z.below.mono HZ.out.size)) (Nat.le_refl _)
                have v0 := fun z => (hsv z).head h1 (by omega)
                have v1 := fun z => (hsv z).field h1 (j := 1) (by omega) (by omega)
                have v2 := fun z => (hsv z).field h1 (j := 2) (by omega) (by omega)
                have v3 := fun z => (hsv z).field h1 (j := 3) (by omega) (by omega)
                simp only [Lw.bxf] at v0 v1 v2 v3
                clear hsv
                (refine Kit.wp_region_cls (by kernel_rfl) (by kernel_rfl) ?_; (repeat (go_big_quiet_step (exact Kit.calls_cls _ (TG2.out _)))); refine wpQuiet_nil ?_; intro z)
                replace HZ := Lib.hid (HZ.out.trans (z.below.mono HZ.out.size))
                replace e1 := e1 z
                replace e2 := e2 z
                generalize z.val = Z2 at *
                clear y0 y1 y2 y3 v0 v1 v2 v3 z
                go_wp2
                go_roundw
                case rel => first | exact ⟨k + 1, by go_num, by omega, HZ⟩ | ((repeat apply Exists.intro); exact ⟨⟨k + 1, by go_num, by omega, HZ⟩, rfl⟩)
                case measure => simp [intOf]; omega
    · have HE := Lib.hid (HB0.out.trans (hwr.mono HB0.out.size))
      go_wp2
      go_ret
      exact ⟨rfl, HE.out⟩
end Go.Proofs.YtjoieglhmladhaaDoor
