/- Walks: the law ApartGroups: works that are not small, or not right. Walks: the law ApartGroups: right works. Walks: the law ApartGroups, of whatever work, bar and labels. Walks: the law ApartGroupsSpec. -/
import Derived.Test.YtjoieglhmladhaaDoorLwB
import Derived.Test.YtjoieglhmladhaaDoorRfG
import Derived.Test.YtjoieglhmladhaaDoorPpB
import Derived.Test.YtjoieglhmladhaaDoorRqP
import Derived.Test.YtjoieglhmladhaaDoorRsA
namespace Go.Proofs.YtjoieglhmladhaaDoor
set_option linter.unusedVariables false
set_option linter.unusedSimpArgs false
open Go.RowKit Go.Shelf

set_option maxRecDepth 100000 in
set_option maxHeartbeats 1000000 in
theorem law_groups_1 (wd dp ta tb tc : Int) (aR : Option Addr) (nR cR : Nat) (n : Int) (aT : Option Addr) (nT cT : Nat) (aP : Option Addr) (nP cP : Nat) (aS : Option Addr) (nS cS : Nat) (aG : Option Addr) (nG cG : Nat) (bar : Int) (aL : Option Addr) (nL cL : Nat) (w : World) (hS : ∀ W, Below w.heap.size w W → Calls Tryd.prog 11 #[] W fun e w' => e = .returned (.bool true) ∧ Below W.heap.size W w') (hF : ∀ W, Below w.heap.size w W → Calls Tryd.prog 14 #[Ex.wv wd dp ta tb tc aR nR cR n aT nT cT aP nP cP aS nS cS aG nG cG, .agg #[.slice none 0 0], .slice none 0 0, .slice none 0 0, .slice none 0 0] W fun e w' => e = .returned (.bool false) ∧ Below W.heap.size W w') : Calls Tryd.prog 8 #[Ex.wv wd dp ta tb tc aR nR cR n aT nT cT aP nP cP aS nS cS aG nG cG, .int .i64 bar, .slice aL nL cL] w fun e w' => e = .returned (.bool true) ∧ Below w.heap.size w w' := by
  have HS := Lib.hid hS; clear hS
  have HF := Lib.hid hF; clear hF
  go_enter Tryd.func8, Tryd.ntmps8
  skip
  (go_wp2_with (fail); refine (HS.out _ (by (repeat' (first | (with_reducible exact Below.refl _ _) | (with_reducible assumption) | (with_reducible refine Kit.below_drewN ?_ _) | (with_reducible refine Below.drew ?_) | (with_reducible refine Below.alloc ?_ ?_ _) | (with_reducible refine Below.setCell ?_ ?_ _) | (with_reducible exact Nat.le_refl _) | omega | (simp; omega) | (simp; done) | (apply Below.size; assumption))))).mono ?_; rintro e w1_ ⟨rfl, hb1_⟩; have hp1_ : Below w.heap.size w w1_ := Below.trans (by (repeat' (first | (with_reducible exact Below.refl _ _) | (with_reducible assumption) | (with_reducible refine Kit.below_drewN ?_ _) | (with_reducible refine Below.drew ?_) | (with_reducible refine Below.alloc ?_ ?_ _) | (with_reducible refine Below.setCell ?_ ?_ _) | (with_reducible exact Nat.le_refl _) | omega | (simp; omega) | (simp; done) | (apply Below.size; assumption)))) (hb1_.mono (by first | assumption | (simp; done) | (simp; omega) | omega)); have hw1_ : Below w.heap.size w w1_ := hp1_; obtain ⟨hc1_, hf1_⟩ := Kit.bcell hb1_; have z1_w : w.heap.size < w1_.heap.size := (by have := hb1_.size; first | omega | (simp at this; omega)); have g1_w_0 : w1_.cell? ⟨w.heap.size, 0, none⟩ = some (.int .i64 wd) := (by rw [hc1_ _ _ (by first | assumption | (simp; done) | (simp; omega) | omega)]; first | assumption | (simp [go_sem]; done) | (simp [go_sem, *]; done)); have g1_w_1 : w1_.cell? ⟨w.heap.size, 1, none⟩ = some (.int .i64 dp) := (by rw [hc1_ _ _ (by first | assumption | (simp; done) | (simp; omega) | omega)]; first | assumption | (simp [go_sem]; done) | (simp [go_sem, *]; done)); have g1_w_2 : w1_.cell? ⟨w.heap.size, 2, none⟩ = some (.int .i64 ta) := (by rw [hc1_ _ _ (by first | assumption | (simp; done) | (simp; omega) | omega)]; first | assumption | (simp [go_sem]; done) | (simp [go_sem, *]; done)); have g1_w_3 : w1_.cell? ⟨w.heap.size, 3, none⟩ = some (.int .i64 tb) := (by rw [hc1_ _ _ (by first | assumption | (simp; done) | (simp; omega) | omega)]; first | assumption | (simp [go_sem]; done) | (simp [go_sem, *]; done)); have g1_w_4 : w1_.cell? ⟨w.heap.size, 4, none⟩ = some (.int .i64 tc) := (by rw [hc1_ _ _ (by first | assumption | (simp; done) | (simp; omega) | omega)]; first | assumption | (simp [go_sem]; done) | (simp [go_sem, *]; done)); have g1_w_5 : w1_.cell? ⟨w.heap.size, 5, none⟩ = some (.slice aR nR cR) := (by rw [hc1_ _ _ (by first | assumption | (simp; done) | (simp; omega) | omega)]; first | assumption | (simp [go_sem]; done) | (simp [go_sem, *]; done)); have g1_w_6 : w1_.cell? ⟨w.heap.size, 6, none⟩ = some (.int .i64 n) := (by rw [hc1_ _ _ (by first | assumption | (simp; done) | (simp; omega) | omega)]; first | assumption | (simp [go_sem]; done) | (simp [go_sem, *]; done)); have g1_w_7 : w1_.cell? ⟨w.heap.size, 7, none⟩ = some (.slice aT nT cT) := (by rw [hc1_ _ _ (by first | assumption | (simp; done) | (simp; omega) | omega)]; first | assumption | (simp [go_sem]; done) | (simp [go_sem, *]; done)); have g1_w_8 : w1_.cell? ⟨w.heap.size, 8, none⟩ = some (.slice aP nP cP) := (by rw [hc1_ _ _ (by first | assumption | (simp; done) | (simp; omega) | omega)]; first | assumption | (simp [go_sem]; done) | (simp [go_sem, *]; done)); have g1_w_9 : w1_.cell? ⟨w.heap.size, 9, none⟩ = some (.slice aS nS cS) := (by rw [hc1_ _ _ (by first | assumption | (simp; done) | (simp; omega) | omega)]; first | assumption | (simp [go_sem]; done) | (simp [go_sem, *]; done)); have g1_w_10 : w1_.cell? ⟨w.heap.size, 10, none⟩ = some (.slice aG nG cG) := (by rw [hc1_ _ _ (by first | assumption | (simp; done) | (simp; omega) | omega)]; first | assumption | (simp [go_sem]; done) | (simp [go_sem, *]; done)); clear hc1_ hf1_; clear hb1_ hp1_)
  (go_wp2_with (fail); refine (HF.out _ (by (repeat' (first | (with_reducible exact Below.refl _ _) | (with_reducible assumption) | (with_reducible refine Kit.below_drewN ?_ _) | (with_reducible refine Below.drew ?_) | (with_reducible refine Below.alloc ?_ ?_ _) | (with_reducible refine Below.setCell ?_ ?_ _) | (with_reducible exact Nat.le_refl _) | omega | (simp; omega) | (simp; done) | (apply Below.size; assumption))))).mono ?_; rintro e w2_ ⟨rfl, hb2_⟩; have hp2_ : Below w1_.heap.size w1_ w2_ := Below.trans (by (repeat' (first | (with_reducible exact Below.refl _ _) | (with_reducible assumption) | (with_reducible refine Kit.below_drewN ?_ _) | (with_reducible refine Below.drew ?_) | (with_reducible refine Below.alloc ?_ ?_ _) | (with_reducible refine Below.setCell ?_ ?_ _) | (with_reducible exact Nat.le_refl _) | omega | (simp; omega) | (simp; done) | (apply Below.size; assumption)))) (hb2_.mono (by first | assumption | (simp; done) | (simp; omega) | omega)); have hw2_ : Below w.heap.size w w2_ := hw1_.trans (hp2_.mono hw1_.size); have z2_w : w.heap.size < w2_.heap.size := Nat.lt_of_lt_of_le z1_w hp2_.size; have g2_w_0 : w2_.cell? ⟨w.heap.size, 0, none⟩ = some (.int .i64 wd) := (hp2_.cell (p := ⟨w.heap.size, 0, none⟩) z1_w).trans g1_w_0; have g2_w_1 : w2_.cell? ⟨w.heap.size, 1, none⟩ = some (.int .i64 dp) := (hp2_.cell (p := ⟨w.heap.size, 1, none⟩) z1_w).trans g1_w_1; have g2_w_2 : w2_.cell? ⟨w.heap.size, 2, none⟩ = some (.int .i64 ta) := (hp2_.cell (p := ⟨w.heap.size, 2, none⟩) z1_w).trans g1_w_2; have g2_w_3 : w2_.cell? ⟨w.heap.size, 3, none⟩ = some (.int .i64 tb) := (hp2_.cell (p := ⟨w.heap.size, 3, none⟩) z1_w).trans g1_w_3; have g2_w_4 : w2_.cell? ⟨w.heap.size, 4, none⟩ = some (.int .i64 tc) := (hp2_.cell (p := ⟨w.heap.size, 4, none⟩) z1_w).trans g1_w_4; have g2_w_5 : w2_.cell? ⟨w.heap.size, 5, none⟩ = some (.slice aR nR cR) := (hp2_.cell (p := ⟨w.heap.size, 5, none⟩) z1_w).trans g1_w_5; have g2_w_6 : w2_.cell? ⟨w.heap.size, 6, none⟩ = some (.int .i64 n) := (hp2_.cell (p := ⟨w.heap.size, 6, none⟩) z1_w).trans g1_w_6; have g2_w_7 : w2_.cell? ⟨w.heap.size, 7, none⟩ = some (.slice aT nT cT) := (hp2_.cell (p := ⟨w.heap.size, 7, none⟩) z1_w).trans g1_w_7; have g2_w_8 : w2_.cell? ⟨w.heap.size, 8, none⟩ = some (.slice aP nP cP) := (hp2_.cell (p := ⟨w.heap.size, 8, none⟩) z1_w).trans g1_w_8; have g2_w_9 : w2_.cell? ⟨w.heap.size, 9, none⟩ = some (.slice aS nS cS) := (hp2_.cell (p := ⟨w.heap.size, 9, none⟩) z1_w).trans g1_w_9; have g2_w_10 : w2_.cell? ⟨w.heap.size, 10, none⟩ = some (.slice aG nG cG) := (hp2_.cell (p := ⟨w.heap.size, 10, none⟩) z1_w).trans g1_w_10; clear z1_w g1_w_0 g1_w_1 g1_w_2 g1_w_3 g1_w_4 g1_w_5 g1_w_6 g1_w_7 g1_w_8 g1_w_9 g1_w_10 hw1_ hb2_ hp2_)
  go_wp2
  go_ret
  exact ⟨rfl, by (repeat' (first | (with_reducible exact Below.refl _ _) | (with_reducible assumption) | (with_reducible refine Kit.below_drewN ?_ _) | (with_reducible refine Below.drew ?_) | (with_reducible refine Below.alloc ?_ ?_ _) | (with_reducible refine Below.setCell ?_ ?_ _) | (with_reducible exact Nat.le_refl _) | omega | (simp; omega) | (simp; done) | (apply Below.size; assumption)))⟩

set_option maxRecDepth 100000 in
set_option maxHeartbeats 1000000 in
theorem law_groups_2 (wd dp ta tb tc : Int) (aR : Option Addr) (nR cR : Nat) (n : Int) (aT : Option Addr) (nT cT : Nat) (aP : Option Addr) (nP cP : Nat) (aS : Option Addr) (nS cS : Nat) (aG : Option Addr) (nG cG : Nat) (bar : Int) (aL : Option Addr) (nL cL : Nat) (w : World) (hS : ∀ W, Below w.heap.size w W → Calls Tryd.prog 11 #[] W fun e w' => e = .returned (.bool true) ∧ Below W.heap.size W w') (hF : ∀ W, Below w.heap.size w W → Calls Tryd.prog 14 #[Ex.wv wd dp ta tb tc aR nR cR n aT nT cT aP nP cP aS nS cS aG nG cG, .agg #[.slice none 0 0], .slice none 0 0, .slice none 0 0, .slice none 0 0] W fun e w' => e = .returned (.bool true) ∧ Below W.heap.size W w') (r : Int) (hr : (r != 0) = true)
    (hP : ∀ W, Below w.heap.size w W → Calls Tryd.prog 15 #[Ex.wv wd dp ta tb tc aR nR cR n aT nT cT aP nP cP aS nS cS aG nG cG, .int .i64 bar] W fun e w' => e = .returned (.tuple #[.slice none 0 0, .int .i64 r]) ∧ Below W.heap.size W w')
    (hG : ∀ W, Below w.heap.size w W → Calls Tryd.prog 17 #[Ex.wv wd dp ta tb tc aR nR cR n aT nT cT aP nP cP aS nS cS aG nG cG, .int .i64 bar] W fun e w' => e = .returned (.tuple #[.slice none 0 0, .int .i64 r]) ∧ Below W.heap.size W w') :
    Calls Tryd.prog 8 #[Ex.wv wd dp ta tb tc aR nR cR n aT nT cT aP nP cP aS nS cS aG nG cG, .int .i64 bar, .slice aL nL cL] w fun e w' => e = .returned (.bool true) ∧ Below w.heap.size w w' := by
  have HS := Lib.hid hS; clear hS
  have HF := Lib.hid hF; clear hF
  have HP := Lib.hid hP; clear hP
  have HG := Lib.hid hG; clear hG
  go_enter Tryd.func8, Tryd.ntmps8
  skip
  (go_wp2_with (fail); refine (HS.out _ (by (repeat' (first | (with_reducible exact Below.refl _ _) | (with_reducible assumption) | (with_reducible refine Kit.below_drewN ?_ _) | (with_reducible refine Below.drew ?_) | (with_reducible refine Below.alloc ?_ ?_ _) | (with_reducible refine Below.setCell ?_ ?_ _) | (with_reducible exact Nat.le_refl _) | omega | (simp; omega) | (simp; done) | (apply Below.size; assumption))))).mono ?_; rintro e w1_ ⟨rfl, hb1_⟩; have hp1_ : Below w.heap.size w w1_ := Below.trans (by (repeat' (first | (with_reducible exact Below.refl _ _) | (with_reducible assumption) | (with_reducible refine Kit.below_drewN ?_ _) | (with_reducible refine Below.drew ?_) | (with_reducible refine Below.alloc ?_ ?_ _) | (with_reducible refine Below.setCell ?_ ?_ _) | (with_reducible exact Nat.le_refl _) | omega | (simp; omega) | (simp; done) | (apply Below.size; assumption)))) (hb1_.mono (by first | assumption | (simp; done) | (simp; omega) | omega)); have hw1_ : Below w.heap.size w w1_ := hp1_; obtain ⟨hc1_, hf1_⟩ := Kit.bcell hb1_; have z1_w : w.heap.size < w1_.heap.size := (by have := hb1_.size; first | omega | (simp at this; omega)); have g1_w_0 : w1_.cell? ⟨w.heap.size, 0, none⟩ = some (.int .i64 wd) := (by rw [hc1_ _ _ (by first | assumption | (simp; done) | (simp; omega) | omega)]; first | assumption | (simp [go_sem]; done) | (simp [go_sem, *]; done)); have g1_w_1 : w1_.cell? ⟨w.heap.size, 1, none⟩ = some (.int .i64 dp) := (by rw [hc1_ _ _ (by first | assumption | (simp; done) | (simp; omega) | omega)]; first | assumption | (simp [go_sem]; done) | (simp [go_sem, *]; done)); have g1_w_2 : w1_.cell? ⟨w.heap.size, 2, none⟩ = some (.int .i64 ta) := (by rw [hc1_ _ _ (by first | assumption | (simp; done) | (simp; omega) | omega)]; first | assumption | (simp [go_sem]; done) | (simp [go_sem, *]; done)); have g1_w_3 : w1_.cell? ⟨w.heap.size, 3, none⟩ = some (.int .i64 tb) := (by rw [hc1_ _ _ (by first | assumption | (simp; done) | (simp; omega) | omega)]; first | assumption | (simp [go_sem]; done) | (simp [go_sem, *]; done)); have g1_w_4 : w1_.cell? ⟨w.heap.size, 4, none⟩ = some (.int .i64 tc) := (by rw [hc1_ _ _ (by first | assumption | (simp; done) | (simp; omega) | omega)]; first | assumption | (simp [go_sem]; done) | (simp [go_sem, *]; done)); have g1_w_5 : w1_.cell? ⟨w.heap.size, 5, none⟩ = some (.slice aR nR cR) := (by rw [hc1_ _ _ (by first | assumption | (simp; done) | (simp; omega) | omega)]; first | assumption | (simp [go_sem]; done) | (simp [go_sem, *]; done)); have g1_w_6 : w1_.cell? ⟨w.heap.size, 6, none⟩ = some (.int .i64 n) := (by rw [hc1_ _ _ (by first | assumption | (simp; done) | (simp; omega) | omega)]; first | assumption | (simp [go_sem]; done) | (simp [go_sem, *]; done)); have g1_w_7 : w1_.cell? ⟨w.heap.size, 7, none⟩ = some (.slice aT nT cT) := (by rw [hc1_ _ _ (by first | assumption | (simp; done) | (simp; omega) | omega)]; first | assumption | (simp [go_sem]; done) | (simp [go_sem, *]; done)); have g1_w_8 : w1_.cell? ⟨w.heap.size, 8, none⟩ = some (.slice aP nP cP) := (by rw [hc1_ _ _ (by first | assumption | (simp; done) | (simp; omega) | omega)]; first | assumption | (simp [go_sem]; done) | (simp [go_sem, *]; done)); have g1_w_9 : w1_.cell? ⟨w.heap.size, 9, none⟩ = some (.slice aS nS cS) := (by rw [hc1_ _ _ (by first | assumption | (simp; done) | (simp; omega) | omega)]; first | assumption | (simp [go_sem]; done) | (simp [go_sem, *]; done)); have g1_w_10 : w1_.cell? ⟨w.heap.size, 10, none⟩ = some (.slice aG nG cG) := (by rw [hc1_ _ _ (by first | assumption | (simp; done) | (simp; omega) | omega)]; first | assumption | (simp [go_sem]; done) | (simp [go_sem, *]; done)); clear hc1_ hf1_; clear hb1_ hp1_)
  (go_wp2_with (fail); refine (HF.out _ (by (repeat' (first | (with_reducible exact Below.refl _ _) | (with_reducible assumption) | (with_reducible refine Kit.below_drewN ?_ _) | (with_reducible refine Below.drew ?_) | (with_reducible refine Below.alloc ?_ ?_ _) | (with_reducible refine Below.setCell ?_ ?_ _) | (with_reducible exact Nat.le_refl _) | omega | (simp; omega) | (simp; done) | (apply Below.size; assumption))))).mono ?_; rintro e w2_ ⟨rfl, hb2_⟩; have hp2_ : Below w1_.heap.size w1_ w2_ := Below.trans (by (repeat' (first | (with_reducible exact Below.refl _ _) | (with_reducible assumption) | (with_reducible refine Kit.below_drewN ?_ _) | (with_reducible refine Below.drew ?_) | (with_reducible refine Below.alloc ?_ ?_ _) | (with_reducible refine Below.setCell ?_ ?_ _) | (with_reducible exact Nat.le_refl _) | omega | (simp; omega) | (simp; done) | (apply Below.size; assumption)))) (hb2_.mono (by first | assumption | (simp; done) | (simp; omega) | omega)); have hw2_ : Below w.heap.size w w2_ := hw1_.trans (hp2_.mono hw1_.size); have z2_w : w.heap.size < w2_.heap.size := Nat.lt_of_lt_of_le z1_w hp2_.size; have g2_w_0 : w2_.cell? ⟨w.heap.size, 0, none⟩ = some (.int .i64 wd) := (hp2_.cell (p := ⟨w.heap.size, 0, none⟩) z1_w).trans g1_w_0; have g2_w_1 : w2_.cell? ⟨w.heap.size, 1, none⟩ = some (.int .i64 dp) := (hp2_.cell (p := ⟨w.heap.size, 1, none⟩) z1_w).trans g1_w_1; have g2_w_2 : w2_.cell? ⟨w.heap.size, 2, none⟩ = some (.int .i64 ta) := (hp2_.cell (p := ⟨w.heap.size, 2, none⟩) z1_w).trans g1_w_2; have g2_w_3 : w2_.cell? ⟨w.heap.size, 3, none⟩ = some (.int .i64 tb) := (hp2_.cell (p := ⟨w.heap.size, 3, none⟩) z1_w).trans g1_w_3; have g2_w_4 : w2_.cell? ⟨w.heap.size, 4, none⟩ = some (.int .i64 tc) := (hp2_.cell (p := ⟨w.heap.size, 4, none⟩) z1_w).trans g1_w_4; have g2_w_5 : w2_.cell? ⟨w.heap.size, 5, none⟩ = some (.slice aR nR cR) := (hp2_.cell (p := ⟨w.heap.size, 5, none⟩) z1_w).trans g1_w_5; have g2_w_6 : w2_.cell? ⟨w.heap.size, 6, none⟩ = some (.int .i64 n) := (hp2_.cell (p := ⟨w.heap.size, 6, none⟩) z1_w).trans g1_w_6; have g2_w_7 : w2_.cell? ⟨w.heap.size, 7, none⟩ = some (.slice aT nT cT) := (hp2_.cell (p := ⟨w.heap.size, 7, none⟩) z1_w).trans g1_w_7; have g2_w_8 : w2_.cell? ⟨w.heap.size, 8, none⟩ = some (.slice aP nP cP) := (hp2_.cell (p := ⟨w.heap.size, 8, none⟩) z1_w).trans g1_w_8; have g2_w_9 : w2_.cell? ⟨w.heap.size, 9, none⟩ = some (.slice aS nS cS) := (hp2_.cell (p := ⟨w.heap.size, 9, none⟩) z1_w).trans g1_w_9; have g2_w_10 : w2_.cell? ⟨w.heap.size, 10, none⟩ = some (.slice aG nG cG) := (hp2_.cell (p := ⟨w.heap.size, 10, none⟩) z1_w).trans g1_w_10; clear z1_w g1_w_0 g1_w_1 g1_w_2 g1_w_3 g1_w_4 g1_w_5 g1_w_6 g1_w_7 g1_w_8 g1_w_9 g1_w_10 hw1_ hb2_ hp2_)
  (go_wp2_with (fail); refine (HP.out _ (by (repeat' (first | (with_reducible exact Below.refl _ _) | (with_reducible assumption) | (with_reducible refine Kit.below_drewN ?_ _) | (with_reducible refine Below.drew ?_) | (with_reducible refine Below.alloc ?_ ?_ _) | (with_reducible refine Below.setCell ?_ ?_ _) | (with_reducible exact Nat.le_refl _) | omega | (simp; omega) | (simp; done) | (apply Below.size; assumption))))).mono ?_; rintro e w3_ ⟨rfl, hb3_⟩; have hp3_ : Below w2_.heap.size w2_ w3_ := Below.trans (by (repeat' (first | (with_reducible exact Below.refl _ _) | (with_reducible assumption) | (with_reducible refine Kit.below_drewN ?_ _) | (with_reducible refine Below.drew ?_) | (with_reducible refine Below.alloc ?_ ?_ _) | (with_reducible refine Below.setCell ?_ ?_ _) | (with_reducible exact Nat.le_refl _) | omega | (simp; omega) | (simp; done) | (apply Below.size; assumption)))) (hb3_.mono (by first | assumption | (simp; done) | (simp; omega) | omega)); have hw3_ : Below w.heap.size w w3_ := hw2_.trans (hp3_.mono hw2_.size); have z3_w : w.heap.size < w3_.heap.size := Nat.lt_of_lt_of_le z2_w hp3_.size; have g3_w_0 : w3_.cell? ⟨w.heap.size, 0, none⟩ = some (.int .i64 wd) := (hp3_.cell (p := ⟨w.heap.size, 0, none⟩) z2_w).trans g2_w_0; have g3_w_1 : w3_.cell? ⟨w.heap.size, 1, none⟩ = some (.int .i64 dp) := (hp3_.cell (p := ⟨w.heap.size, 1, none⟩) z2_w).trans g2_w_1; have g3_w_2 : w3_.cell? ⟨w.heap.size, 2, none⟩ = some (.int .i64 ta) := (hp3_.cell (p := ⟨w.heap.size, 2, none⟩) z2_w).trans g2_w_2; have g3_w_3 : w3_.cell? ⟨w.heap.size, 3, none⟩ = some (.int .i64 tb) := (hp3_.cell (p := ⟨w.heap.size, 3, none⟩) z2_w).trans g2_w_3; have g3_w_4 : w3_.cell? ⟨w.heap.size, 4, none⟩ = some (.int .i64 tc) := (hp3_.cell (p := ⟨w.heap.size, 4, none⟩) z2_w).trans g2_w_4; have g3_w_5 : w3_.cell? ⟨w.heap.size, 5, none⟩ = some (.slice aR nR cR) := (hp3_.cell (p := ⟨w.heap.size, 5, none⟩) z2_w).trans g2_w_5; have g3_w_6 : w3_.cell? ⟨w.heap.size, 6, none⟩ = some (.int .i64 n) := (hp3_.cell (p := ⟨w.heap.size, 6, none⟩) z2_w).trans g2_w_6; have g3_w_7 : w3_.cell? ⟨w.heap.size, 7, none⟩ = some (.slice aT nT cT) := (hp3_.cell (p := ⟨w.heap.size, 7, none⟩) z2_w).trans g2_w_7; have g3_w_8 : w3_.cell? ⟨w.heap.size, 8, none⟩ = some (.slice aP nP cP) := (hp3_.cell (p := ⟨w.heap.size, 8, none⟩) z2_w).trans g2_w_8; have g3_w_9 : w3_.cell? ⟨w.heap.size, 9, none⟩ = some (.slice aS nS cS) := (hp3_.cell (p := ⟨w.heap.size, 9, none⟩) z2_w).trans g2_w_9; have g3_w_10 : w3_.cell? ⟨w.heap.size, 10, none⟩ = some (.slice aG nG cG) := (hp3_.cell (p := ⟨w.heap.size, 10, none⟩) z2_w).trans g2_w_10; clear z2_w g2_w_0 g2_w_1 g2_w_2 g2_w_3 g2_w_4 g2_w_5 g2_w_6 g2_w_7 g2_w_8 g2_w_9 g2_w_10 hw2_ hb3_ hp3_)
  (go_wp2_with (fail); refine (HG.out _ (by (repeat' (first | (with_reducible exact Below.refl _ _) | (with_reducible assumption) | (with_reducible refine Kit.below_drewN ?_ _) | (with_reducible refine Below.drew ?_) | (with_reducible refine Below.alloc ?_ ?_ _) | (with_reducible refine Below.setCell ?_ ?_ _) | (with_reducible exact Nat.le_refl _) | omega | (simp; omega) | (simp; done) | (apply Below.size; assumption))))).mono ?_; rintro e w4_ ⟨rfl, hb4_⟩; have hp4_ : Below w3_.heap.size w3_ w4_ := Below.trans (by (repeat' (first | (with_reducible exact Below.refl _ _) | (with_reducible assumption) | (with_reducible refine Kit.below_drewN ?_ _) | (with_reducible refine Below.drew ?_) | (with_reducible refine Below.alloc ?_ ?_ _) | (with_reducible refine Below.setCell ?_ ?_ _) | (with_reducible exact Nat.le_refl _) | omega | (simp; omega) | (simp; done) | (apply Below.size; assumption)))) (hb4_.mono (by first | assumption | (simp; done) | (simp; omega) | omega)); have hw4_ : Below w.heap.size w w4_ := hw3_.trans (hp4_.mono hw3_.size); have z4_w : w.heap.size < w4_.heap.size := Nat.lt_of_lt_of_le z3_w hp4_.size; have g4_w_0 : w4_.cell? ⟨w.heap.size, 0, none⟩ = some (.int .i64 wd) := (hp4_.cell (p := ⟨w.heap.size, 0, none⟩) z3_w).trans g3_w_0; have g4_w_1 : w4_.cell? ⟨w.heap.size, 1, none⟩ = some (.int .i64 dp) := (hp4_.cell (p := ⟨w.heap.size, 1, none⟩) z3_w).trans g3_w_1; have g4_w_2 : w4_.cell? ⟨w.heap.size, 2, none⟩ = some (.int .i64 ta) := (hp4_.cell (p := ⟨w.heap.size, 2, none⟩) z3_w).trans g3_w_2; have g4_w_3 : w4_.cell? ⟨w.heap.size, 3, none⟩ = some (.int .i64 tb) := (hp4_.cell (p := ⟨w.heap.size, 3, none⟩) z3_w).trans g3_w_3; have g4_w_4 : w4_.cell? ⟨w.heap.size, 4, none⟩ = some (.int .i64 tc) := (hp4_.cell (p := ⟨w.heap.size, 4, none⟩) z3_w).trans g3_w_4; have g4_w_5 : w4_.cell? ⟨w.heap.size, 5, none⟩ = some (.slice aR nR cR) := (hp4_.cell (p := ⟨w.heap.size, 5, none⟩) z3_w).trans g3_w_5; have g4_w_6 : w4_.cell? ⟨w.heap.size, 6, none⟩ = some (.int .i64 n) := (hp4_.cell (p := ⟨w.heap.size, 6, none⟩) z3_w).trans g3_w_6; have g4_w_7 : w4_.cell? ⟨w.heap.size, 7, none⟩ = some (.slice aT nT cT) := (hp4_.cell (p := ⟨w.heap.size, 7, none⟩) z3_w).trans g3_w_7; have g4_w_8 : w4_.cell? ⟨w.heap.size, 8, none⟩ = some (.slice aP nP cP) := (hp4_.cell (p := ⟨w.heap.size, 8, none⟩) z3_w).trans g3_w_8; have g4_w_9 : w4_.cell? ⟨w.heap.size, 9, none⟩ = some (.slice aS nS cS) := (hp4_.cell (p := ⟨w.heap.size, 9, none⟩) z3_w).trans g3_w_9; have g4_w_10 : w4_.cell? ⟨w.heap.size, 10, none⟩ = some (.slice aG nG cG) := (hp4_.cell (p := ⟨w.heap.size, 10, none⟩) z3_w).trans g3_w_10; clear z3_w g3_w_0 g3_w_1 g3_w_2 g3_w_3 g3_w_4 g3_w_5 g3_w_6 g3_w_7 g3_w_8 g3_w_9 g3_w_10 hw3_ hb4_ hp4_)
  go_wp2
  go_ret
  exact ⟨rfl, by (repeat' (first | (with_reducible exact Below.refl _ _) | (with_reducible assumption) | (with_reducible refine Kit.below_drewN ?_ _) | (with_reducible refine Below.drew ?_) | (with_reducible refine Below.alloc ?_ ?_ _) | (with_reducible refine Below.setCell ?_ ?_ _) | (with_reducible exact Nat.le_refl _) | omega | (simp; omega) | (simp; done) | (apply Below.size; assumption)))⟩
end Go.Proofs.YtjoieglhmladhaaDoor

namespace Go.Proofs.YtjoieglhmladhaaDoor
set_option linter.unusedVariables false
set_option linter.unusedSimpArgs false
open Go.RowKit Go.Shelf

namespace Lw
def eqL (lab : Nat → Int) (p : Int × Int) : Bool := lab p.1.toNat == lab p.2.toNat
end Lw
set_option maxRecDepth 100000 in
set_option maxHeartbeats 2000000 in
theorem law_groups_3 (wd dp ta tb tc : Int) (aR : Option Addr) (nR cR : Nat) (n : Int) (aT : Option Addr) (nT cT : Nat) (aP : Option Addr) (nP cP : Nat) (aS : Option Addr) (nS cS : Nat) (aG : Option Addr) (nG cG : Nat) (bar : Int) (aL : Option Addr) (nL cL : Nat) (w : World) (hS : ∀ W, Below w.heap.size w W → Calls Tryd.prog 11 #[] W fun e w' => e = .returned (.bool true) ∧ Below W.heap.size W w') (hF : ∀ W, Below w.heap.size w W → Calls Tryd.prog 14 #[Ex.wv wd dp ta tb tc aR nR cR n aT nT cT aP nP cP aS nS cS aG nG cG, .agg #[.slice none 0 0], .slice none 0 0, .slice none 0 0, .slice none 0 0] W fun e w' => e = .returned (.bool true) ∧ Below W.heap.size W w') (lR : nR ≤ 64) (lL : nL ≤ 4611686018427387904) (L : List (Int × Int)) (hLl : L.length ≤ 4096) (G : Nat → Nat) (lab : Nat → Int)
    (hP : ∀ W, Below w.heap.size w W → Calls Tryd.prog 15 #[Ex.wv wd dp ta tb tc aR nR cR n aT nT cT aP nP cP aS nS cS aG nG cG, .int .i64 bar] W fun e w' => ∃ ad c, e = .returned (.tuple #[.slice ad L.length c, .int .i64 0]) ∧ Tp.Sl w' ad L.length 2 (Ap.prc L) ∧ Below W.heap.size W w')
    (hG : ∀ W, Below w.heap.size w W → Calls Tryd.prog 17 #[Ex.wv wd dp ta tb tc aR nR cR n aT nT cT aP nP cP aS nS cS aG nG cG, .int .i64 bar] W fun e w' => ∃ ad c, e = .returned (.tuple #[.slice ad nR c, .int .i64 0]) ∧ Tp.Sl w' ad nR 1 (fun i _ => .int .i64 (G i)) ∧ Below W.heap.size W w')
    (g1 : ∀ j, G j ≤ j) (g2 : ∀ j, G (G j) = G j) (hL : ∀ p ∈ L, ∃ u v : Nat, p = ((u : Int), (v : Int)) ∧ u < v ∧ v < nR ∧ G u = G v) (sL : Tp.Sl w aL nL 1 (fun i _ => .int .u8 (lab i)))
    (hlab : L.all (Lw.eqL lab) = true → ∀ j, lab j = lab (G j)) :
    Calls Tryd.prog 8 #[Ex.wv wd dp ta tb tc aR nR cR n aT nT cT aP nP cP aS nS cS aG nG cG, .int .i64 bar, .slice aL nL cL] w fun e w' => e = .returned (.bool true) ∧ Below w.heap.size w w' := by
  have HS := Lib.hid hS; clear hS
  have HF := Lib.hid hF; clear hF
  have HP := Lib.hid hP; clear hP
  have HG := Lib.hid hG; clear hG
  have G1 := Lib.hid g1; clear g1
  have G2 := Lib.hid g2; clear g2
  have HL := Lib.hid hL; clear hL
  have SL := Lib.hid sL; clear sL
  have HLAB := Lib.hid hlab; clear hlab
  go_enter Tryd.func8, Tryd.ntmps8
  skip
  (go_wp2_with (fail); refine (HS.out _ (by (repeat' (first | (with_reducible exact Below.refl _ _) | (with_reducible assumption) | (with_reducible refine Kit.below_drewN ?_ _) | (with_reducible refine Below.drew ?_) | (with_reducible refine Below.alloc ?_ ?_ _) | (with_reducible refine Below.setCell ?_ ?_ _) | (with_reducible exact Nat.le_refl _) | omega | (simp; omega) | (simp; done) | (apply Below.size; assumption))))).mono ?_; rintro e w1_ ⟨rfl, hb1_⟩; have hp1_ : Below w.heap.size w w1_ := Below.trans (by (repeat' (first | (with_reducible exact Below.refl _ _) | (with_reducible assumption) | (with_reducible refine Kit.below_drewN ?_ _) | (with_reducible refine Below.drew ?_) | (with_reducible refine Below.alloc ?_ ?_ _) | (with_reducible refine Below.setCell ?_ ?_ _) | (with_reducible exact Nat.le_refl _) | omega | (simp; omega) | (simp; done) | (apply Below.size; assumption)))) (hb1_.mono (by first | assumption | (simp; done) | (simp; omega) | omega)); have hw1_ : Below w.heap.size w w1_ := hp1_; obtain ⟨hc1_, hf1_⟩ := Kit.bcell hb1_; have z1_w : w.heap.size < w1_.heap.size := (by have := hb1_.size; first | omega | (simp at this; omega)); have g1_w_0 : w1_.cell? ⟨w.heap.size, 0, none⟩ = some (.int .i64 wd) := (by rw [hc1_ _ _ (by first | assumption | (simp; done) | (simp; omega) | omega)]; first | assumption | (simp [go_sem]; done) | (simp [go_sem, *]; done)); have g1_w_1 : w1_.cell? ⟨w.heap.size, 1, none⟩ = some (.int .i64 dp) := (by rw [hc1_ _ _ (by first | assumption | (simp; done) | (simp; omega) | omega)]; first | assumption | (simp [go_sem]; done) | (simp [go_sem, *]; done)); have g1_w_2 : w1_.cell? ⟨w.heap.size, 2, none⟩ = some (.int .i64 ta) := (by rw [hc1_ _ _ (by first | assumption | (simp; done) | (simp; omega) | omega)]; first | assumption | (simp [go_sem]; done) | (simp [go_sem, *]; done)); have g1_w_3 : w1_.cell? ⟨w.heap.size, 3, none⟩ = some (.int .i64 tb) := (by rw [hc1_ _ _ (by first | assumption | (simp; done) | (simp; omega) | omega)]; first | assumption | (simp [go_sem]; done) | (simp [go_sem, *]; done)); have g1_w_4 : w1_.cell? ⟨w.heap.size, 4, none⟩ = some (.int .i64 tc) := (by rw [hc1_ _ _ (by first | assumption | (simp; done) | (simp; omega) | omega)]; first | assumption | (simp [go_sem]; done) | (simp [go_sem, *]; done)); have g1_w_5 : w1_.cell? ⟨w.heap.size, 5, none⟩ = some (.slice aR nR cR) := (by rw [hc1_ _ _ (by first | assumption | (simp; done) | (simp; omega) | omega)]; first | assumption | (simp [go_sem]; done) | (simp [go_sem, *]; done)); have g1_w_6 : w1_.cell? ⟨w.heap.size, 6, none⟩ = some (.int .i64 n) := (by rw [hc1_ _ _ (by first | assumption | (simp; done) | (simp; omega) | omega)]; first | assumption | (simp [go_sem]; done) | (simp [go_sem, *]; done)); have g1_w_7 : w1_.cell? ⟨w.heap.size, 7, none⟩ = some (.slice aT nT cT) := (by rw [hc1_ _ _ (by first | assumption | (simp; done) | (simp; omega) | omega)]; first | assumption | (simp [go_sem]; done) | (simp [go_sem, *]; done)); have g1_w_8 : w1_.cell? ⟨w.heap.size, 8, none⟩ = some (.slice aP nP cP) := (by rw [hc1_ _ _ (by first | assumption | (simp; done) | (simp; omega) | omega)]; first | assumption | (simp [go_sem]; done) | (simp [go_sem, *]; done)); have g1_w_9 : w1_.cell? ⟨w.heap.size, 9, none⟩ = some (.slice aS nS cS) := (by rw [hc1_ _ _ (by first | assumption | (simp; done) | (simp; omega) | omega)]; first | assumption | (simp [go_sem]; done) | (simp [go_sem, *]; done)); have g1_w_10 : w1_.cell? ⟨w.heap.size, 10, none⟩ = some (.slice aG nG cG) := (by rw [hc1_ _ _ (by first | assumption | (simp; done) | (simp; omega) | omega)]; first | assumption | (simp [go_sem]; done) | (simp [go_sem, *]; done)); clear hc1_ hf1_; clear hb1_ hp1_)
  (go_wp2_with (fail); refine (HF.out _ (by (repeat' (first | (with_reducible exact Below.refl _ _) | (with_reducible assumption) | (with_reducible refine Kit.below_drewN ?_ _) | (with_reducible refine Below.drew ?_) | (with_reducible refine Below.alloc ?_ ?_ _) | (with_reducible refine Below.setCell ?_ ?_ _) | (with_reducible exact Nat.le_refl _) | omega | (simp; omega) | (simp; done) | (apply Below.size; assumption))))).mono ?_; rintro e w2_ ⟨rfl, hb2_⟩; have hp2_ : Below w1_.heap.size w1_ w2_ := Below.trans (by (repeat' (first | (with_reducible exact Below.refl _ _) | (with_reducible assumption) | (with_reducible refine Kit.below_drewN ?_ _) | (with_reducible refine Below.drew ?_) | (with_reducible refine Below.alloc ?_ ?_ _) | (with_reducible refine Below.setCell ?_ ?_ _) | (with_reducible exact Nat.le_refl _) | omega | (simp; omega) | (simp; done) | (apply Below.size; assumption)))) (hb2_.mono (by first | assumption | (simp; done) | (simp; omega) | omega)); have hw2_ : Below w.heap.size w w2_ := hw1_.trans (hp2_.mono hw1_.size); have z2_w : w.heap.size < w2_.heap.size := Nat.lt_of_lt_of_le z1_w hp2_.size; have g2_w_0 : w2_.cell? ⟨w.heap.size, 0, none⟩ = some (.int .i64 wd) := (hp2_.cell (p := ⟨w.heap.size, 0, none⟩) z1_w).trans g1_w_0; have g2_w_1 : w2_.cell? ⟨w.heap.size, 1, none⟩ = some (.int .i64 dp) := (hp2_.cell (p := ⟨w.heap.size, 1, none⟩) z1_w).trans g1_w_1; have g2_w_2 : w2_.cell? ⟨w.heap.size, 2, none⟩ = some (.int .i64 ta) := (hp2_.cell (p := ⟨w.heap.size, 2, none⟩) z1_w).trans g1_w_2; have g2_w_3 : w2_.cell? ⟨w.heap.size, 3, none⟩ = some (.int .i64 tb) := (hp2_.cell (p := ⟨w.heap.size, 3, none⟩) z1_w).trans g1_w_3; have g2_w_4 : w2_.cell? ⟨w.heap.size, 4, none⟩ = some (.int .i64 tc) := (hp2_.cell (p := ⟨w.heap.size, 4, none⟩) z1_w).trans g1_w_4; have g2_w_5 : w2_.cell? ⟨w.heap.size, 5, none⟩ = some (.slice aR nR cR) := (hp2_.cell (p := ⟨w.heap.size, 5, none⟩) z1_w).trans g1_w_5; have g2_w_6 : w2_.cell? ⟨w.heap.size, 6, none⟩ = some (.int .i64 n) := (hp2_.cell (p := ⟨w.heap.size, 6, none⟩) z1_w).trans g1_w_6; have g2_w_7 : w2_.cell? ⟨w.heap.size, 7, none⟩ = some (.slice aT nT cT) := (hp2_.cell (p := ⟨w.heap.size, 7, none⟩) z1_w).trans g1_w_7; have g2_w_8 : w2_.cell? ⟨w.heap.size, 8, none⟩ = some (.slice aP nP cP) := (hp2_.cell (p := ⟨w.heap.size, 8, none⟩) z1_w).trans g1_w_8; have g2_w_9 : w2_.cell? ⟨w.heap.size, 9, none⟩ = some (.slice aS nS cS) := (hp2_.cell (p := ⟨w.heap.size, 9, none⟩) z1_w).trans g1_w_9; have g2_w_10 : w2_.cell? ⟨w.heap.size, 10, none⟩ = some (.slice aG nG cG) := (hp2_.cell (p := ⟨w.heap.size, 10, none⟩) z1_w).trans g1_w_10; clear z1_w g1_w_0 g1_w_1 g1_w_2 g1_w_3 g1_w_4 g1_w_5 g1_w_6 g1_w_7 g1_w_8 g1_w_9 g1_w_10 hw1_ hb2_ hp2_)
  go_wp2_with fail
  refine (HP.out _ (by (repeat' (first | (with_reducible exact Below.refl _ _) | (with_reducible assumption) | (with_reducible refine Kit.below_drewN ?_ _) | (with_reducible refine Below.drew ?_) | (with_reducible refine Below.alloc ?_ ?_ _) | (with_reducible refine Below.setCell ?_ ?_ _) | (with_reducible exact Nat.le_refl _) | omega | (simp; omega) | (simp; done) | (apply Below.size; assumption))))).mono ?_
  rintro e w3 ⟨ap, cp, rfl, hsp, hb3⟩
  have b3 : Below w.heap.size w w3 := hw2_.trans (hb3.mono hw2_.size)
  have r5 : w3.cell? ⟨w.heap.size, 5, none⟩ = some (.slice aR nR cR) := (hb3.cell (p := ⟨w.heap.size, 5, none⟩) z2_w).trans g2_w_5
  have SP := Lib.hid hsp
  have HB3 := Lib.hid b3
  have hload : ∀ j v, j < 11 → w2_.cell? ⟨w.heap.size, j, none⟩ = some v → w3.cell? ⟨w.heap.size, j, none⟩ = some v := fun j v _ h => (hb3.cell (p := ⟨w.heap.size, j, none⟩) z2_w).trans h
  have q0 := hload 0 _ (by omega) g2_w_0
  have q1 := hload 1 _ (by omega) g2_w_1
  have q2 := hload 2 _ (by omega) g2_w_2
  have q3 := hload 3 _ (by omega) g2_w_3
  have q4 := hload 4 _ (by omega) g2_w_4
  have q5 := hload 5 _ (by omega) g2_w_5
  have q6 := hload 6 _ (by omega) g2_w_6
  have q7 := hload 7 _ (by omega) g2_w_7
  have q8 := hload 8 _ (by omega) g2_w_8
  have q9 := hload 9 _ (by omega) g2_w_9
  have q10 := hload 10 _ (by omega) g2_w_10
  have z3 : w.heap.size < w3.heap.size := Nat.lt_of_lt_of_le z2_w hb3.size
  clear hsp b3 hload r5 hb3 hw2_ z2_w g2_w_0 g2_w_1 g2_w_2 g2_w_3 g2_w_4 g2_w_5 g2_w_6 g2_w_7 g2_w_8 g2_w_9 g2_w_10
  go_wp2_with fail
  refine (HG.out _ HB3.out).mono ?_
  rintro e w4 ⟨ag, cg, rfl, hsg, hb4⟩
  have HB4 := Lib.hid (HB3.out.trans (hb4.mono HB3.out.size))
  have SP4 := Lib.hid (SP.out.kept hb4 (Nat.le_refl _))
  have SG := Lib.hid hsg
  have SL4 := Lib.hid (SL.out.kept HB4.out (Nat.le_refl _))
  have k5 : w4.cell? ⟨w.heap.size, 5, none⟩ = some (.slice aR nR cR) := (hb4.cell (p := ⟨w.heap.size, 5, none⟩) z3).trans q5
  clear hsg hb4 q0 q1 q2 q3 q4 q5 q6 q7 q8 q9 q10 SP SL HB3
  go_wp2
  clear k5
  go_loopw [64] (fun v64 wr => ∃ k : Nat, v64 = .int .i64 k ∧ k ≤ nR ∧ Hid (Below w4.heap.size w4 wr)) (fun v64 _ => nR - (intOf v64).toNat)
  case atStart => exact ⟨0, rfl, by omega, Lib.hid (Below.refl _ _)⟩
  case round =>
    obtain ⟨k, rfl, hk, HB⟩ := hrel
    by_cases hlt : k < nR
    · obtain ⟨ad, rfl, had, _⟩ := SG.out.at hlt
      have e0 : wr.cell? (ad.add k) = some (.int .i64 (G k)) := by simpa using (SG.out.kept HB.out (Nat.le_refl _)).head hlt (by omega)
      have gl := G1.out k
      have hlt2 : G k < nR := by omega
      have e1 : wr.cell? (ad.add (G k)) = some (.int .i64 (G k)) := by
        have := (SG.out.kept HB.out (Nat.le_refl _)).head hlt2 (by omega)
        rw [G2.out] at this
        simpa using this
      generalize G k = x at *
      have t1 : decide ((x : Int) < 0) = false := by first | (simp; done) | (simp; omega)
      have t2 : decide ((k : Int) < (x : Int)) = false := by first | (simp; done) | (simp; omega)
      go_wp2
      go_roundw
      case rel => exact ⟨k + 1, by go_num, by omega, HB⟩
      case measure => simp [intOf]; omega
    · have HB5 := Lib.hid (HB4.out.trans (HB.out.mono HB4.out.size))
      have SP5 := Lib.hid (SP4.out.kept HB.out (Nat.le_refl _))
      have SG5 := Lib.hid (SG.out.kept HB.out (Nat.le_refl _))
      have SL5 := Lib.hid (SL4.out.kept HB.out (Nat.le_refl _))
      obtain ⟨W5, rfl⟩ : ∃ W5, W5 = wr := ⟨_, rfl⟩
      clear HB SP4 SG SL4 HB4
      go_wp2
      go_loopw [13, 92] (fun v13 v92 wq => ∃ (k : Nat) (b : Bool), v92 = .int .i64 k ∧ v13 = .bool b ∧ k ≤ L.length ∧ Hid (b = true → nR ≤ nL ∧ (L.take k).all (Lw.eqL lab) = true) ∧ Hid (Below W5.heap.size W5 wq)) (fun _ v92 _ => L.length - (intOf v92).toNat)
      case atStart => exact ⟨0, decide (nR ≤ nL), rfl, rfl, by omega, Lib.hid (fun h => ⟨by simpa using h, by simp⟩), Lib.hid (Below.refl _ _)⟩
      case round =>
        obtain ⟨k, b, rfl, rfl, hk2, HBT, HB⟩ := hrel
        by_cases hlt2 : k < L.length
        · have hpm : L.getD k (0, 0) ∈ L := List.mem_of_mem_drop (show L.getD k (0, 0) ∈ L.drop k by rw [Tp.drop_cons L _ k hlt2]; exact List.mem_cons_self ..)
          obtain ⟨u, v, hp, huv, hvR, hGG⟩ := HL.out _ hpm
          have hwr := HB5.out.trans (HB.out.mono HB5.out.size)
          obtain ⟨pa, rfl, hpa, _⟩ := SP5.out.at hlt2
          have HSl := SP5.out.kept HB.out (Nat.le_refl _)
          have e0 := HSl.head hlt2 (by omega)
          have e1 := HSl.field hlt2 (j := 1) (by omega) (by omega)
          have htake : (L.take (k + 1)).all (Lw.eqL lab) = ((L.take k).all (Lw.eqL lab) && (lab u == lab v)) := by
            rw [List.take_succ_eq_append_getElem hlt2, List.all_append]
            have : L[k] = ((u : Int), (v : Int)) := by rw [← hp]; simp [List.getD_eq_getElem?_getD, List.getElem?_eq_getElem hlt2]
            simp [this, Lw.eqL]
          have HTK := Lib.hid htake
          simp only [Ap.prc, hp, if_true, if_false, Nat.one_ne_zero] at e0 e1
          have hbk : (pa.add (k * 2)).block < wr.heap.size := by rw [Tp.add_block]; have := HB.out.size; omega
          have zq := HB.out.size
          clear HSl htake hpm hp
          go_wp2
          clear e0 e1
          refine Kit.wp_name ?_
          intro W hW
          have zW : W.heap.size = wr.heap.size + 1 := by rw [hW]; simp
          have hB5 : Below W5.heap.size W5 W := by rw [hW]; exact HB.out.alloc (by omega) _
          have p0 : ∀ z : Kit.Wd W, z.val.cell? ⟨wr.heap.size, 0, none⟩ = some (.int .i64 u) := fun z => z.cell (by rw [hW]; simp [go_sem]) (by simp; omega)
          have p1 : ∀ z : Kit.Wd W, z.val.cell? ⟨wr.heap.size, 1, none⟩ = some (.int .i64 v) := fun z => z.cell (by rw [hW]; simp [go_sem]) (by simp; omega)
          have huR : u < nR := by omega
          obtain ⟨gd, rfl, hgd, _⟩ := SG5.out.at huR
          have q0 : ∀ z : Kit.Wd W, z.val.cell? (gd.add u) = some (.int .i64 (G v)) := fun z => by
            have := (SG5.out.kept (hB5.trans (z.below.mono hB5.size)) (Nat.le_refl _)).head huR (by omega)
            rw [hGG] at this
            simpa using this
          have q1 : ∀ z : Kit.Wd W, z.val.cell? (gd.add v) = some (.int .i64 (G v)) := fun z => by simpa using (SG5.out.kept (hB5.trans (z.below.mono hB5.size)) (Nat.le_refl _)).head hvR (by omega)
          have HB6 := Lib.hid hB5
          have HGG := Lib.hid hGG
          have t1 : decide ((u : Int) < 0) = false := by first | (simp; done) | (simp; omega)
          have t2 : decide (v ≤ u) = false := by simp; omega
          have t3 : decide (nR ≤ v) = false := by simp; omega
          clear hW hB5 hGG
          (refine Kit.wp_region_cls (by kernel_rfl) (by kernel_rfl) ?_; (repeat (go_big_quiet_step (fail))); refine wpQuiet_nil ?_; intro z)
          have E0 := Lib.hid (p0 z)
          have E1 := Lib.hid (p1 z)
          have HZ := Lib.hid (HB6.out.trans (z.below.mono HB6.out.size))
          have zz := z.below.size
          generalize z.val = Z at *
          clear p0 p1 q0 q1 t1 t2 t3 z
          go_wp2
          have lz : wr.heap.size < Z.heap.size := by omega
          have p0 : ∀ z : Kit.Wd Z, z.val.cell? ⟨wr.heap.size, 0, none⟩ = some (.int .i64 u) := fun z => z.cell E0.out lz
          have p1 : ∀ z : Kit.Wd Z, z.val.cell? ⟨wr.heap.size, 1, none⟩ = some (.int .i64 v) := fun z => z.cell E1.out lz
          cases b
          · (refine Kit.wp_region_cls (by kernel_rfl) (by kernel_rfl) ?_; (repeat (go_big_quiet_step (fail))); refine wpQuiet_nil ?_; intro z)
            have HZ2 := Lib.hid (HZ.out.trans (z.below.mono HZ.out.size))
            generalize z.val = Z2 at *
            clear p0 p1 z
            go_wp2
            go_roundw
            case rel => exact ⟨k + 1, false, by go_num, rfl, by omega, Lib.hid (fun h => by cases h), HZ2⟩
            case measure => simp [intOf]; omega
          · have hnL := (HBT.out rfl).1
            have huL : u < nL := by omega
            have hvL : v < nL := by omega
            obtain ⟨ld, rfl, hld, _⟩ := SL5.out.at huL
            have c0 : ∀ z : Kit.Wd Z, z.val.cell? (ld.add u) = some (.int .u8 (lab u)) := fun z => by simpa using (SL5.out.kept (HZ.out.trans (z.below.mono HZ.out.size)) (Nat.le_refl _)).head huL (by omega)
            have c1 : ∀ z : Kit.Wd Z, z.val.cell? (ld.add v) = some (.int .u8 (lab v)) := fun z => by simpa using (SL5.out.kept (HZ.out.trans (z.below.mono HZ.out.size)) (Nat.le_refl _)).head hvL (by omega)
            rcases c : (lab u == lab v) with _ | _
            · (refine Kit.wp_region_cls (by kernel_rfl) (by kernel_rfl) ?_; (repeat (go_big_quiet_step (fail))); refine wpQuiet_nil ?_; intro z)
              have HZ2 := Lib.hid (HZ.out.trans (z.below.mono HZ.out.size))
              generalize z.val = Z2 at *
              clear p0 p1 c0 c1 z
              go_wp2
              go_roundw
              case rel => exact ⟨k + 1, false, by go_num, rfl, by omega, Lib.hid (fun h => by cases h), HZ2⟩
              case measure => simp [intOf]; omega
            · have HC := Lib.hid c
              (refine Kit.wp_region_cls (by kernel_rfl) (by kernel_rfl) ?_; (repeat (go_big_quiet_step (fail))); refine wpQuiet_nil ?_; intro z)
              have HZ2 := Lib.hid (HZ.out.trans (z.below.mono HZ.out.size))
              generalize z.val = Z2 at *
              clear p0 p1 c0 c1 z
              go_wp2
              go_roundw
              case rel => exact ⟨k + 1, true, by go_num, rfl, by omega, Lib.hid (fun _ => ⟨hnL, by rw [HTK.out, (HBT.out rfl).2, HC.out]; rfl⟩), HZ2⟩
              case measure => simp [intOf]; omega
        · have HW := Lib.hid (HB5.out.trans (HB.out.mono HB5.out.size))
          cases b
          · go_wp2
            go_ret
            exact ⟨rfl, HW.out⟩
          · have hnL := (HBT.out rfl).1
            have hall : L.all (Lw.eqL lab) = true := by have := (HBT.out rfl).2; rwa [List.take_of_length_le (by omega)] at this
            have HLB := Lib.hid (HLAB.out hall)
            have SG6 := Lib.hid (SG5.out.kept HB.out (Nat.le_refl _))
            have SL6 := Lib.hid (SL5.out.kept HB.out (Nat.le_refl _))
            obtain ⟨W6, rfl⟩ : ∃ W6, W6 = wr := ⟨_, rfl⟩
            clear hall HBT SG5 SL5 SP5 HB5 HB
            go_wp2
            go_loopw [145] (fun v145 wq => ∃ k : Nat, v145 = .int .i64 k ∧ k ≤ nR ∧ Hid (Below W6.heap.size W6 wq)) (fun v145 _ => nR - (intOf v145).toNat)
            case atStart => exact ⟨0, rfl, by omega, Lib.hid (Below.refl _ _)⟩
            case round =>
              obtain ⟨j, rfl, hj, HB⟩ := hrel
              by_cases hlt3 : j < nR
              · obtain ⟨gd, rfl, hgd, _⟩ := SG6.out.at hlt3
                have gl := G1.out j
                have hjL : j < nL := by omega
                have hxL : G j < nL := by omega
                obtain ⟨ld, rfl, hld, _⟩ := SL6.out.at hjL
                have e0 : wr.cell? (gd.add j) = some (.int .i64 (G j)) := by simpa using (SG6.out.kept HB.out (Nat.le_refl _)).head hlt3 (by omega)
                have c0 : ∀ z : Kit.Wd wr, z.val.cell? (ld.add j) = some (.int .u8 (lab j)) := fun z => by simpa using (SL6.out.kept (HB.out.trans (z.below.mono HB.out.size)) (Nat.le_refl _)).head hjL (by omega)
                have c1 : ∀ z : Kit.Wd wr, z.val.cell? (ld.add (G j)) = some (.int .u8 (lab j)) := fun z => by
                  have := (SL6.out.kept (HB.out.trans (z.below.mono HB.out.size)) (Nat.le_refl _)).head hxL (by omega)
                  rw [← HLB.out j] at this
                  simpa using this
                generalize G j = x at *
                generalize lab j = y at *
                go_wp2
                (refine Kit.wp_region_cls (by kernel_rfl) (by kernel_rfl) ?_; (repeat (go_big_quiet_step (fail))); refine wpQuiet_nil ?_; intro z)
                have HZ := Lib.hid (HB.out.trans (z.below.mono HB.out.size))
                generalize z.val = Z at *
                clear c0 c1 e0 z
                go_wp2
                go_roundw
                case rel => exact ⟨j + 1, by go_num, by omega, HZ⟩
                case measure => simp [intOf]; omega
              · go_wp2
                go_ret
                exact ⟨rfl, HW.out.trans (HB.out.mono HW.out.size)⟩
end Go.Proofs.YtjoieglhmladhaaDoor

namespace Go.Proofs.YtjoieglhmladhaaDoor
set_option linter.unusedVariables false
set_option linter.unusedSimpArgs false
open Go.RowKit Go.Shelf

namespace Ap
theorem rowP_mem (M : List (Int × Int)) (a : Nat) : ∀ (n b : Nat), ∀ p ∈ rowP M a b n, p ∈ M
  | 0, _, p, hp => by simp [rowP] at hp
  | n + 1, b, p, hp => by
    unfold rowP at hp
    split at hp
    · rename_i hm
      rcases List.mem_cons.1 hp with rfl | hp
      · exact hm
      · exact rowP_mem M a n _ p hp
    · exact rowP_mem M a n _ p hp
theorem allP_mem (M : List (Int × Int)) (R : Nat) : ∀ (n a : Nat), ∀ p ∈ allP M R a n, p ∈ M
  | 0, _, p, hp => by simp [allP] at hp
  | n + 1, a, p, hp => by
    rcases List.mem_append.1 hp with hp | hp
    · exact rowP_mem M a _ _ p hp
    · exact allP_mem M R n _ p hp
theorem met_lt (bar : Int) : ∀ (l : List Ex.Sg), ∀ p ∈ met bar l, p.1 < p.2
  | [], p, hp => by simp [met] at hp
  | s :: l, p, hp => by
    unfold met at hp
    split at hp
    · rename_i hm
      rcases List.mem_cons.1 hp with rfl | hp
      · simp only [lift, Bool.and_eq_true, bne_iff_ne, ne_eq] at hm
        have h1 := Kit.mn2_le s.role (s.wth - 1)
        have h2 := Kit.mx2_le s.role (s.wth - 1)
        simp only [prOf]
        have := hm.2
        omega
      · exact met_lt bar l p hp
    · exact met_lt bar l p hp
/-- A pair's roles: the first below the second, both roles of the work. -/
theorem prs_bd (x : Ex.Wk) (bar : Int) : ∀ p ∈ prs x bar, ∃ u v : Nat, p = ((u : Int), (v : Int)) ∧ u < v ∧ v < x.ro.length := by
  rintro ⟨a, b⟩ hp
  obtain ⟨⟨u, hu, _⟩, v, hv, hvR⟩ := allP_bd _ _ _ _ (by omega) _ hp
  have hlt := met_lt bar _ _ (allP_mem _ _ _ _ _ hp)
  dsimp only at hu hv hlt
  subst hu hv
  exact ⟨u, v, rfl, by omega, hvR⟩
theorem prs_len (x : Ex.Wk) (bar : Int) (h : x.ro.length ≤ 64) : (prs x bar).length ≤ 4096 :=
  Nat.le_trans (allP_len _ _ _ _) (Nat.le_trans (Nat.mul_le_mul h h) (by omega))
theorem chk_0 {x : Ex.Wk} {bar : Int} (h : chk x bar = 0) : Ex.chk x = 0 := by
  unfold chk at h
  split at h
  · assumption
  · exact h
end Ap

/-- Pairs, as the laws read it. -/
theorem lw_pairs_sl (x : Ex.Wk) (p : Ex.Wa) (bar : Int) (w : World) (ha : Ex.At w x p) (hl : Ex.Laid w) (h : Ap.chk x bar = 0) :
    Calls Tryd.prog 15 #[Ex.workV x p, .int .i64 bar] w fun e w' => ∃ ad c, e = .returned (.tuple #[.slice ad (Ap.prs x bar).length c, .int .i64 0]) ∧ Tp.Sl w' ad (Ap.prs x bar).length 2 (Ap.prc (Ap.prs x bar)) ∧ Below w.heap.size w w' := by
  have hc := ap_pairs x p bar w ha hl
  unfold Ap.Pairs at hc
  simp only [if_pos h] at hc
  refine hc.mono ?_
  rintro e w' ⟨v, rfl, ho, hb⟩
  obtain ⟨ad, c, rfl, hs, _⟩ := Ap.row_sl ho
  exact ⟨ad, c, rfl, hs, hb⟩
theorem lw_pairs_err (x : Ex.Wk) (p : Ex.Wa) (bar : Int) (w : World) (ha : Ex.At w x p) (hl : Ex.Laid w) (h : ¬ Ap.chk x bar = 0) :
    Calls Tryd.prog 15 #[Ex.workV x p, .int .i64 bar] w fun e w' => e = .returned (.tuple #[.slice none 0 0, .int .i64 (Ap.chk x bar)]) ∧ Below w.heap.size w w' := by
  have hc := ap_pairs x p bar w ha hl
  unfold Ap.Pairs at hc
  simpa only [if_neg h] using hc
/-- Groups, as the laws read it. -/
theorem lw_groups_sl (x : Ex.Wk) (p : Ex.Wa) (bar : Int) (w : World) (ha : Ex.At w x p) (hl : Ex.Laid w) (h : Ap.chk x bar = 0) :
    Calls Tryd.prog 17 #[Ex.workV x p, .int .i64 bar] w fun e w' => ∃ ad c, e = .returned (.tuple #[.slice ad x.ro.length c, .int .i64 0]) ∧ Tp.Sl w' ad x.ro.length 1 (fun i _ => .int .i64 (Ap.grp (Ap.prs x bar) i)) ∧ Below w.heap.size w w' := by
  have hc := ap_groups x p bar w ha hl
  unfold Ap.Groups at hc
  simp only [if_pos h] at hc
  refine hc.mono ?_
  rintro e w' ⟨g, cap, rfl, hg, hlt, hcell, hb⟩
  refine ⟨some ⟨g, 0, none⟩, cap, rfl, .inr ⟨⟨g, 0, none⟩, rfl, hlt, fun i j hi hj => ?_⟩, hb⟩
  obtain rfl : j = 0 := by omega
  have := hcell i hi
  rcases i with _ | i
  · simpa [Addr.add] using this
  · simpa [Addr.add] using this
theorem lw_groups_err (x : Ex.Wk) (p : Ex.Wa) (bar : Int) (w : World) (ha : Ex.At w x p) (hl : Ex.Laid w) (h : ¬ Ap.chk x bar = 0) :
    Calls Tryd.prog 17 #[Ex.workV x p, .int .i64 bar] w fun e w' => e = .returned (.tuple #[.slice none 0 0, .int .i64 (Ap.chk x bar)]) ∧ Below w.heap.size w w' := by
  have hc := ap_groups x p bar w ha hl
  unfold Ap.Groups at hc
  simpa only [if_neg h] using hc

set_option maxRecDepth 100000 in
theorem law_groups (x : Ex.Wk) (p : Ex.Wa) (bar : Int) (aL : Option Addr) (nL cL : Nat) (lab : Nat → Int) (w : World) (ha : Ex.At w x p) (hl : Ex.Laid w) (lL : nL ≤ 4611686018427387904) (sL : Tp.Sl w aL nL 1 (fun i _ => .int .u8 (lab i))) :
    Calls Tryd.prog 8 #[Ex.workV x p, .int .i64 bar, .slice aL nL cL] w fun e w' => e = .returned (.bool true) ∧ Below w.heap.size w w' := by
  have hS : ∀ W, Below w.heap.size w W → Calls Tryd.prog 11 #[] W fun e w' => e = .returned (.bool true) ∧ Below W.heap.size W w' := fun W hB => lw_sane W (hl.kept hB (Nat.le_refl _))
  have hF : ∀ W, Below w.heap.size w W → Calls Tryd.prog 14 #[Ex.workV x p, .agg #[.slice none 0 0], .slice none 0 0, .slice none 0 0, .slice none 0 0] W fun e w' => e = .returned (.bool (Rf.fewAll x 0 0 0 0)) ∧ Below W.heap.size W w' :=
    fun W hB => rf_few29 x p none 0 0 none 0 0 none 0 0 none 0 0 W (ha.kept hB (Nat.le_refl _)) (by omega) (by omega) (by omega) (by omega)
  have kA : ∀ W, Below w.heap.size w W → Ex.At W x p := fun W hB => ha.kept hB (Nat.le_refl _)
  have kL : ∀ W, Below w.heap.size w W → Ex.Laid W := fun W hB => hl.kept hB (Nat.le_refl _)
  rcases hf : Rf.fewAll x 0 0 0 0 with _ | _
  · rw [hf] at hF
    exact law_groups_1 _ _ _ _ _ _ _ _ _ _ _ _ _ _ _ _ _ _ _ _ _ bar aL nL cL w hS hF
  · rw [hf] at hF
    by_cases h : Ap.chk x bar = 0
    · obtain ⟨r1, r2, r3⟩ := Ex.roles (Ap.chk_0 h)
      refine law_groups_3 _ _ _ _ _ _ _ _ _ _ _ _ _ _ _ _ _ _ _ _ _ bar aL nL cL w hS hF r1 lL (Ap.prs x bar) (Ap.prs_len x bar r1) (Ap.grp (Ap.prs x bar)) lab
        (fun W hB => lw_pairs_sl x p bar W (kA W hB) (kL W hB) h) (fun W hB => lw_groups_sl x p bar W (kA W hB) (kL W hB) h) (Ap.grp_le _) (Ap.grp_fix _) ?_ sL ?_
      · intro q hq
        obtain ⟨u, v, rfl, h1, h2⟩ := Ap.prs_bd x bar q hq
        exact ⟨u, v, rfl, h1, h2, by simpa using Ap.grp_pair _ _ hq⟩
      · intro hall j
        refine (Ap.grp_label lab _ (fun q hq => ?_) j).symm
        have := (List.all_eq_true.1 hall) q hq
        simpa [Lw.eqL] using this
    · exact law_groups_2 _ _ _ _ _ _ _ _ _ _ _ _ _ _ _ _ _ _ _ _ _ bar aL nL cL w hS hF (Ap.chk x bar) (by simpa using h)
        (fun W hB => lw_pairs_err x p bar W (kA W hB) (kL W hB) h) (fun W hB => lw_groups_err x p bar W (kA W hB) (kL W hB) h)
end Go.Proofs.YtjoieglhmladhaaDoor

namespace Go.Proofs.YtjoieglhmladhaaDoor
set_option linter.unusedVariables false
set_option linter.unusedSimpArgs false
open Go.RowKit Go.Shelf

theorem rf_samepairs_t (aA : Option Addr) (l : List (Int × Int)) (cA : Nat) (aB : Option Addr) (cB : Nat) (w : World) (lA : l.length ≤ 4611686018427387904) (sA : Tp.Sl w aA l.length 2 (Ap.prc l)) (sB : Tp.Sl w aB l.length 2 (Ap.prc l)) :
    Calls Tryd.prog 19 #[.slice aA l.length cA, .slice aB l.length cB] w fun e w' => e = .returned (.bool true) ∧ Below w.heap.size w w' := by
  have h := rf_samepairs aA l cA aB l cB w lA lA sA sB
  simpa using h
theorem rf_sameints_t (aA : Option Addr) (l : List Int) (cA : Nat) (aB : Option Addr) (cB : Nat) (w : World) (lA : l.length ≤ 4611686018427387904) (sA : Tp.Sl w aA l.length 1 (Rf.intc l)) (sB : Tp.Sl w aB l.length 1 (Rf.intc l)) :
    Calls Tryd.prog 20 #[.slice aA l.length cA, .slice aB l.length cB] w fun e w' => e = .returned (.bool true) ∧ Below w.heap.size w w' := by
  have h := rf_sameints aA l cA aB l cB w lA lA sA sB
  simpa using h

set_option maxRecDepth 100000 in
set_option maxHeartbeats 1000000 in
theorem law_gspec_1 (wd dp ta tb tc : Int) (aR : Option Addr) (nR cR : Nat) (n : Int) (aT : Option Addr) (nT cT : Nat) (aP : Option Addr) (nP cP : Nat) (aS : Option Addr) (nS cS : Nat) (aG : Option Addr) (nG cG : Nat) (bar : Int) (w : World) (hS : ∀ W, Below w.heap.size w W → Calls Tryd.prog 11 #[] W fun e w' => e = .returned (.bool true) ∧ Below W.heap.size W w') (hF : ∀ W, Below w.heap.size w W → Calls Tryd.prog 14 #[Ex.wv wd dp ta tb tc aR nR cR n aT nT cT aP nP cP aS nS cS aG nG cG, .agg #[.slice none 0 0], .slice none 0 0, .slice none 0 0, .slice none 0 0] W fun e w' => e = .returned (.bool false) ∧ Below W.heap.size W w') : Calls Tryd.prog 4 #[Ex.wv wd dp ta tb tc aR nR cR n aT nT cT aP nP cP aS nS cS aG nG cG, .int .i64 bar] w fun e w' => e = .returned (.bool true) ∧ Below w.heap.size w w' := by
  have HS := Lib.hid hS; clear hS
  have HF := Lib.hid hF; clear hF
  go_enter Tryd.func4, Tryd.ntmps4
  skip
  (go_wp2_with (fail); refine (HS.out _ (by (repeat' (first | (with_reducible exact Below.refl _ _) | (with_reducible assumption) | (with_reducible refine Kit.below_drewN ?_ _) | (with_reducible refine Below.drew ?_) | (with_reducible refine Below.alloc ?_ ?_ _) | (with_reducible refine Below.setCell ?_ ?_ _) | (with_reducible exact Nat.le_refl _) | omega | (simp; omega) | (simp; done) | (apply Below.size; assumption))))).mono ?_; rintro e w1_ ⟨rfl, hb1_⟩; have hp1_ : Below w.heap.size w w1_ := Below.trans (by (repeat' (first | (with_reducible exact Below.refl _ _) | (with_reducible assumption) | (with_reducible refine Kit.below_drewN ?_ _) | (with_reducible refine Below.drew ?_) | (with_reducible refine Below.alloc ?_ ?_ _) | (with_reducible refine Below.setCell ?_ ?_ _) | (with_reducible exact Nat.le_refl _) | omega | (simp; omega) | (simp; done) | (apply Below.size; assumption)))) (hb1_.mono (by first | assumption | (simp; done) | (simp; omega) | omega)); have hw1_ : Below w.heap.size w w1_ := hp1_; obtain ⟨hc1_, hf1_⟩ := Kit.bcell hb1_; have z1_w : w.heap.size < w1_.heap.size := (by have := hb1_.size; first | omega | (simp at this; omega)); have g1_w_0 : w1_.cell? ⟨w.heap.size, 0, none⟩ = some (.int .i64 wd) := (by rw [hc1_ _ _ (by first | assumption | (simp; done) | (simp; omega) | omega)]; first | assumption | (simp [go_sem]; done) | (simp [go_sem, *]; done)); have g1_w_1 : w1_.cell? ⟨w.heap.size, 1, none⟩ = some (.int .i64 dp) := (by rw [hc1_ _ _ (by first | assumption | (simp; done) | (simp; omega) | omega)]; first | assumption | (simp [go_sem]; done) | (simp [go_sem, *]; done)); have g1_w_2 : w1_.cell? ⟨w.heap.size, 2, none⟩ = some (.int .i64 ta) := (by rw [hc1_ _ _ (by first | assumption | (simp; done) | (simp; omega) | omega)]; first | assumption | (simp [go_sem]; done) | (simp [go_sem, *]; done)); have g1_w_3 : w1_.cell? ⟨w.heap.size, 3, none⟩ = some (.int .i64 tb) := (by rw [hc1_ _ _ (by first | assumption | (simp; done) | (simp; omega) | omega)]; first | assumption | (simp [go_sem]; done) | (simp [go_sem, *]; done)); have g1_w_4 : w1_.cell? ⟨w.heap.size, 4, none⟩ = some (.int .i64 tc) := (by rw [hc1_ _ _ (by first | assumption | (simp; done) | (simp; omega) | omega)]; first | assumption | (simp [go_sem]; done) | (simp [go_sem, *]; done)); have g1_w_5 : w1_.cell? ⟨w.heap.size, 5, none⟩ = some (.slice aR nR cR) := (by rw [hc1_ _ _ (by first | assumption | (simp; done) | (simp; omega) | omega)]; first | assumption | (simp [go_sem]; done) | (simp [go_sem, *]; done)); have g1_w_6 : w1_.cell? ⟨w.heap.size, 6, none⟩ = some (.int .i64 n) := (by rw [hc1_ _ _ (by first | assumption | (simp; done) | (simp; omega) | omega)]; first | assumption | (simp [go_sem]; done) | (simp [go_sem, *]; done)); have g1_w_7 : w1_.cell? ⟨w.heap.size, 7, none⟩ = some (.slice aT nT cT) := (by rw [hc1_ _ _ (by first | assumption | (simp; done) | (simp; omega) | omega)]; first | assumption | (simp [go_sem]; done) | (simp [go_sem, *]; done)); have g1_w_8 : w1_.cell? ⟨w.heap.size, 8, none⟩ = some (.slice aP nP cP) := (by rw [hc1_ _ _ (by first | assumption | (simp; done) | (simp; omega) | omega)]; first | assumption | (simp [go_sem]; done) | (simp [go_sem, *]; done)); have g1_w_9 : w1_.cell? ⟨w.heap.size, 9, none⟩ = some (.slice aS nS cS) := (by rw [hc1_ _ _ (by first | assumption | (simp; done) | (simp; omega) | omega)]; first | assumption | (simp [go_sem]; done) | (simp [go_sem, *]; done)); have g1_w_10 : w1_.cell? ⟨w.heap.size, 10, none⟩ = some (.slice aG nG cG) := (by rw [hc1_ _ _ (by first | assumption | (simp; done) | (simp; omega) | omega)]; first | assumption | (simp [go_sem]; done) | (simp [go_sem, *]; done)); clear hc1_ hf1_; clear hb1_ hp1_)
  (go_wp2_with (fail); refine (HF.out _ (by (repeat' (first | (with_reducible exact Below.refl _ _) | (with_reducible assumption) | (with_reducible refine Kit.below_drewN ?_ _) | (with_reducible refine Below.drew ?_) | (with_reducible refine Below.alloc ?_ ?_ _) | (with_reducible refine Below.setCell ?_ ?_ _) | (with_reducible exact Nat.le_refl _) | omega | (simp; omega) | (simp; done) | (apply Below.size; assumption))))).mono ?_; rintro e w2_ ⟨rfl, hb2_⟩; have hp2_ : Below w1_.heap.size w1_ w2_ := Below.trans (by (repeat' (first | (with_reducible exact Below.refl _ _) | (with_reducible assumption) | (with_reducible refine Kit.below_drewN ?_ _) | (with_reducible refine Below.drew ?_) | (with_reducible refine Below.alloc ?_ ?_ _) | (with_reducible refine Below.setCell ?_ ?_ _) | (with_reducible exact Nat.le_refl _) | omega | (simp; omega) | (simp; done) | (apply Below.size; assumption)))) (hb2_.mono (by first | assumption | (simp; done) | (simp; omega) | omega)); have hw2_ : Below w.heap.size w w2_ := hw1_.trans (hp2_.mono hw1_.size); have z2_w : w.heap.size < w2_.heap.size := Nat.lt_of_lt_of_le z1_w hp2_.size; have g2_w_0 : w2_.cell? ⟨w.heap.size, 0, none⟩ = some (.int .i64 wd) := (hp2_.cell (p := ⟨w.heap.size, 0, none⟩) z1_w).trans g1_w_0; have g2_w_1 : w2_.cell? ⟨w.heap.size, 1, none⟩ = some (.int .i64 dp) := (hp2_.cell (p := ⟨w.heap.size, 1, none⟩) z1_w).trans g1_w_1; have g2_w_2 : w2_.cell? ⟨w.heap.size, 2, none⟩ = some (.int .i64 ta) := (hp2_.cell (p := ⟨w.heap.size, 2, none⟩) z1_w).trans g1_w_2; have g2_w_3 : w2_.cell? ⟨w.heap.size, 3, none⟩ = some (.int .i64 tb) := (hp2_.cell (p := ⟨w.heap.size, 3, none⟩) z1_w).trans g1_w_3; have g2_w_4 : w2_.cell? ⟨w.heap.size, 4, none⟩ = some (.int .i64 tc) := (hp2_.cell (p := ⟨w.heap.size, 4, none⟩) z1_w).trans g1_w_4; have g2_w_5 : w2_.cell? ⟨w.heap.size, 5, none⟩ = some (.slice aR nR cR) := (hp2_.cell (p := ⟨w.heap.size, 5, none⟩) z1_w).trans g1_w_5; have g2_w_6 : w2_.cell? ⟨w.heap.size, 6, none⟩ = some (.int .i64 n) := (hp2_.cell (p := ⟨w.heap.size, 6, none⟩) z1_w).trans g1_w_6; have g2_w_7 : w2_.cell? ⟨w.heap.size, 7, none⟩ = some (.slice aT nT cT) := (hp2_.cell (p := ⟨w.heap.size, 7, none⟩) z1_w).trans g1_w_7; have g2_w_8 : w2_.cell? ⟨w.heap.size, 8, none⟩ = some (.slice aP nP cP) := (hp2_.cell (p := ⟨w.heap.size, 8, none⟩) z1_w).trans g1_w_8; have g2_w_9 : w2_.cell? ⟨w.heap.size, 9, none⟩ = some (.slice aS nS cS) := (hp2_.cell (p := ⟨w.heap.size, 9, none⟩) z1_w).trans g1_w_9; have g2_w_10 : w2_.cell? ⟨w.heap.size, 10, none⟩ = some (.slice aG nG cG) := (hp2_.cell (p := ⟨w.heap.size, 10, none⟩) z1_w).trans g1_w_10; clear z1_w g1_w_0 g1_w_1 g1_w_2 g1_w_3 g1_w_4 g1_w_5 g1_w_6 g1_w_7 g1_w_8 g1_w_9 g1_w_10 hw1_ hb2_ hp2_)
  go_wp2
  go_ret
  exact ⟨rfl, by (repeat' (first | (with_reducible exact Below.refl _ _) | (with_reducible assumption) | (with_reducible refine Kit.below_drewN ?_ _) | (with_reducible refine Below.drew ?_) | (with_reducible refine Below.alloc ?_ ?_ _) | (with_reducible refine Below.setCell ?_ ?_ _) | (with_reducible exact Nat.le_refl _) | omega | (simp; omega) | (simp; done) | (apply Below.size; assumption)))⟩

set_option maxRecDepth 100000 in
set_option maxHeartbeats 2000000 in
theorem law_gspec_2 (wd dp ta tb tc : Int) (aR : Option Addr) (nR cR : Nat) (n : Int) (aT : Option Addr) (nT cT : Nat) (aP : Option Addr) (nP cP : Nat) (aS : Option Addr) (nS cS : Nat) (aG : Option Addr) (nG cG : Nat) (bar : Int) (w : World) (hS : ∀ W, Below w.heap.size w W → Calls Tryd.prog 11 #[] W fun e w' => e = .returned (.bool true) ∧ Below W.heap.size W w') (hF : ∀ W, Below w.heap.size w W → Calls Tryd.prog 14 #[Ex.wv wd dp ta tb tc aR nR cR n aT nT cT aP nP cP aS nS cS aG nG cG, .agg #[.slice none 0 0], .slice none 0 0, .slice none 0 0, .slice none 0 0] W fun e w' => e = .returned (.bool true) ∧ Below W.heap.size W w') (L : List (Int × Int)) (I : List Int) (r : Int) (lL : L.length ≤ 4096) (lI : I.length ≤ 4096)
    (hP : ∀ W, Below w.heap.size w W → Calls Tryd.prog 15 #[Ex.wv wd dp ta tb tc aR nR cR n aT nT cT aP nP cP aS nS cS aG nG cG, .int .i64 bar] W fun e w' => ∃ ad c, e = .returned (.tuple #[.slice ad L.length c, .int .i64 r]) ∧ Tp.Sl w' ad L.length 2 (Ap.prc L) ∧ Below W.heap.size W w')
    (hQ : ∀ W, Below w.heap.size w W → Calls Tryd.prog 16 #[Ex.wv wd dp ta tb tc aR nR cR n aT nT cT aP nP cP aS nS cS aG nG cG, .int .i64 bar] W fun e w' => ∃ ad c, e = .returned (.tuple #[.slice ad L.length c, .int .i64 r]) ∧ Tp.Sl w' ad L.length 2 (Ap.prc L) ∧ Below W.heap.size W w')
    (hG : ∀ W, Below w.heap.size w W → Calls Tryd.prog 17 #[Ex.wv wd dp ta tb tc aR nR cR n aT nT cT aP nP cP aS nS cS aG nG cG, .int .i64 bar] W fun e w' => ∃ ad c, e = .returned (.tuple #[.slice ad I.length c, .int .i64 r]) ∧ Tp.Sl w' ad I.length 1 (Rf.intc I) ∧ Below W.heap.size W w')
    (hX : ∀ W, Below w.heap.size w W → Calls Tryd.prog 18 #[Ex.wv wd dp ta tb tc aR nR cR n aT nT cT aP nP cP aS nS cS aG nG cG, .int .i64 bar] W fun e w' => ∃ ad c, e = .returned (.tuple #[.slice ad I.length c, .int .i64 r]) ∧ Tp.Sl w' ad I.length 1 (Rf.intc I) ∧ Below W.heap.size W w') :
    Calls Tryd.prog 4 #[Ex.wv wd dp ta tb tc aR nR cR n aT nT cT aP nP cP aS nS cS aG nG cG, .int .i64 bar] w fun e w' => e = .returned (.bool true) ∧ Below w.heap.size w w' := by
  have HS := Lib.hid hS; clear hS
  have HF := Lib.hid hF; clear hF
  have HP := Lib.hid hP; clear hP
  have HQ := Lib.hid hQ; clear hQ
  have HG := Lib.hid hG; clear hG
  have HX := Lib.hid hX; clear hX
  go_enter Tryd.func4, Tryd.ntmps4
  skip
  (go_wp2_with (fail); refine (HS.out _ (by (repeat' (first | (with_reducible exact Below.refl _ _) | (with_reducible assumption) | (with_reducible refine Kit.below_drewN ?_ _) | (with_reducible refine Below.drew ?_) | (with_reducible refine Below.alloc ?_ ?_ _) | (with_reducible refine Below.setCell ?_ ?_ _) | (with_reducible exact Nat.le_refl _) | omega | (simp; omega) | (simp; done) | (apply Below.size; assumption))))).mono ?_; rintro e w1_ ⟨rfl, hb1_⟩; have hp1_ : Below w.heap.size w w1_ := Below.trans (by (repeat' (first | (with_reducible exact Below.refl _ _) | (with_reducible assumption) | (with_reducible refine Kit.below_drewN ?_ _) | (with_reducible refine Below.drew ?_) | (with_reducible refine Below.alloc ?_ ?_ _) | (with_reducible refine Below.setCell ?_ ?_ _) | (with_reducible exact Nat.le_refl _) | omega | (simp; omega) | (simp; done) | (apply Below.size; assumption)))) (hb1_.mono (by first | assumption | (simp; done) | (simp; omega) | omega)); have hw1_ : Below w.heap.size w w1_ := hp1_; obtain ⟨hc1_, hf1_⟩ := Kit.bcell hb1_; have z1_w : w.heap.size < w1_.heap.size := (by have := hb1_.size; first | omega | (simp at this; omega)); have g1_w_0 : w1_.cell? ⟨w.heap.size, 0, none⟩ = some (.int .i64 wd) := (by rw [hc1_ _ _ (by first | assumption | (simp; done) | (simp; omega) | omega)]; first | assumption | (simp [go_sem]; done) | (simp [go_sem, *]; done)); have g1_w_1 : w1_.cell? ⟨w.heap.size, 1, none⟩ = some (.int .i64 dp) := (by rw [hc1_ _ _ (by first | assumption | (simp; done) | (simp; omega) | omega)]; first | assumption | (simp [go_sem]; done) | (simp [go_sem, *]; done)); have g1_w_2 : w1_.cell? ⟨w.heap.size, 2, none⟩ = some (.int .i64 ta) := (by rw [hc1_ _ _ (by first | assumption | (simp; done) | (simp; omega) | omega)]; first | assumption | (simp [go_sem]; done) | (simp [go_sem, *]; done)); have g1_w_3 : w1_.cell? ⟨w.heap.size, 3, none⟩ = some (.int .i64 tb) := (by rw [hc1_ _ _ (by first | assumption | (simp; done) | (simp; omega) | omega)]; first | assumption | (simp [go_sem]; done) | (simp [go_sem, *]; done)); have g1_w_4 : w1_.cell? ⟨w.heap.size, 4, none⟩ = some (.int .i64 tc) := (by rw [hc1_ _ _ (by first | assumption | (simp; done) | (simp; omega) | omega)]; first | assumption | (simp [go_sem]; done) | (simp [go_sem, *]; done)); have g1_w_5 : w1_.cell? ⟨w.heap.size, 5, none⟩ = some (.slice aR nR cR) := (by rw [hc1_ _ _ (by first | assumption | (simp; done) | (simp; omega) | omega)]; first | assumption | (simp [go_sem]; done) | (simp [go_sem, *]; done)); have g1_w_6 : w1_.cell? ⟨w.heap.size, 6, none⟩ = some (.int .i64 n) := (by rw [hc1_ _ _ (by first | assumption | (simp; done) | (simp; omega) | omega)]; first | assumption | (simp [go_sem]; done) | (simp [go_sem, *]; done)); have g1_w_7 : w1_.cell? ⟨w.heap.size, 7, none⟩ = some (.slice aT nT cT) := (by rw [hc1_ _ _ (by first | assumption | (simp; done) | (simp; omega) | omega)]; first | assumption | (simp [go_sem]; done) | (simp [go_sem, *]; done)); have g1_w_8 : w1_.cell? ⟨w.heap.size, 8, none⟩ = some (.slice aP nP cP) := (by rw [hc1_ _ _ (by first | assumption | (simp; done) | (simp; omega) | omega)]; first | assumption | (simp [go_sem]; done) | (simp [go_sem, *]; done)); have g1_w_9 : w1_.cell? ⟨w.heap.size, 9, none⟩ = some (.slice aS nS cS) := (by rw [hc1_ _ _ (by first | assumption | (simp; done) | (simp; omega) | omega)]; first | assumption | (simp [go_sem]; done) | (simp [go_sem, *]; done)); have g1_w_10 : w1_.cell? ⟨w.heap.size, 10, none⟩ = some (.slice aG nG cG) := (by rw [hc1_ _ _ (by first | assumption | (simp; done) | (simp; omega) | omega)]; first | assumption | (simp [go_sem]; done) | (simp [go_sem, *]; done)); clear hc1_ hf1_; clear hb1_ hp1_)
  (go_wp2_with (fail); refine (HF.out _ (by (repeat' (first | (with_reducible exact Below.refl _ _) | (with_reducible assumption) | (with_reducible refine Kit.below_drewN ?_ _) | (with_reducible refine Below.drew ?_) | (with_reducible refine Below.alloc ?_ ?_ _) | (with_reducible refine Below.setCell ?_ ?_ _) | (with_reducible exact Nat.le_refl _) | omega | (simp; omega) | (simp; done) | (apply Below.size; assumption))))).mono ?_; rintro e w2_ ⟨rfl, hb2_⟩; have hp2_ : Below w1_.heap.size w1_ w2_ := Below.trans (by (repeat' (first | (with_reducible exact Below.refl _ _) | (with_reducible assumption) | (with_reducible refine Kit.below_drewN ?_ _) | (with_reducible refine Below.drew ?_) | (with_reducible refine Below.alloc ?_ ?_ _) | (with_reducible refine Below.setCell ?_ ?_ _) | (with_reducible exact Nat.le_refl _) | omega | (simp; omega) | (simp; done) | (apply Below.size; assumption)))) (hb2_.mono (by first | assumption | (simp; done) | (simp; omega) | omega)); have hw2_ : Below w.heap.size w w2_ := hw1_.trans (hp2_.mono hw1_.size); have z2_w : w.heap.size < w2_.heap.size := Nat.lt_of_lt_of_le z1_w hp2_.size; have g2_w_0 : w2_.cell? ⟨w.heap.size, 0, none⟩ = some (.int .i64 wd) := (hp2_.cell (p := ⟨w.heap.size, 0, none⟩) z1_w).trans g1_w_0; have g2_w_1 : w2_.cell? ⟨w.heap.size, 1, none⟩ = some (.int .i64 dp) := (hp2_.cell (p := ⟨w.heap.size, 1, none⟩) z1_w).trans g1_w_1; have g2_w_2 : w2_.cell? ⟨w.heap.size, 2, none⟩ = some (.int .i64 ta) := (hp2_.cell (p := ⟨w.heap.size, 2, none⟩) z1_w).trans g1_w_2; have g2_w_3 : w2_.cell? ⟨w.heap.size, 3, none⟩ = some (.int .i64 tb) := (hp2_.cell (p := ⟨w.heap.size, 3, none⟩) z1_w).trans g1_w_3; have g2_w_4 : w2_.cell? ⟨w.heap.size, 4, none⟩ = some (.int .i64 tc) := (hp2_.cell (p := ⟨w.heap.size, 4, none⟩) z1_w).trans g1_w_4; have g2_w_5 : w2_.cell? ⟨w.heap.size, 5, none⟩ = some (.slice aR nR cR) := (hp2_.cell (p := ⟨w.heap.size, 5, none⟩) z1_w).trans g1_w_5; have g2_w_6 : w2_.cell? ⟨w.heap.size, 6, none⟩ = some (.int .i64 n) := (hp2_.cell (p := ⟨w.heap.size, 6, none⟩) z1_w).trans g1_w_6; have g2_w_7 : w2_.cell? ⟨w.heap.size, 7, none⟩ = some (.slice aT nT cT) := (hp2_.cell (p := ⟨w.heap.size, 7, none⟩) z1_w).trans g1_w_7; have g2_w_8 : w2_.cell? ⟨w.heap.size, 8, none⟩ = some (.slice aP nP cP) := (hp2_.cell (p := ⟨w.heap.size, 8, none⟩) z1_w).trans g1_w_8; have g2_w_9 : w2_.cell? ⟨w.heap.size, 9, none⟩ = some (.slice aS nS cS) := (hp2_.cell (p := ⟨w.heap.size, 9, none⟩) z1_w).trans g1_w_9; have g2_w_10 : w2_.cell? ⟨w.heap.size, 10, none⟩ = some (.slice aG nG cG) := (hp2_.cell (p := ⟨w.heap.size, 10, none⟩) z1_w).trans g1_w_10; clear z1_w g1_w_0 g1_w_1 g1_w_2 g1_w_3 g1_w_4 g1_w_5 g1_w_6 g1_w_7 g1_w_8 g1_w_9 g1_w_10 hw1_ hb2_ hp2_)
  (go_wp2_with (fail); refine (HP.out _ (by (repeat' (first | (with_reducible exact Below.refl _ _) | (with_reducible assumption) | (with_reducible refine Kit.below_drewN ?_ _) | (with_reducible refine Below.drew ?_) | (with_reducible refine Below.alloc ?_ ?_ _) | (with_reducible refine Below.setCell ?_ ?_ _) | (with_reducible exact Nat.le_refl _) | omega | (simp; omega) | (simp; done) | (apply Below.size; assumption))))).mono ?_; rintro e w3_ ⟨ap, cp, rfl, s_, hb3_⟩; have hp3_ : Below w2_.heap.size w2_ w3_ := Below.trans (by (repeat' (first | (with_reducible exact Below.refl _ _) | (with_reducible assumption) | (with_reducible refine Kit.below_drewN ?_ _) | (with_reducible refine Below.drew ?_) | (with_reducible refine Below.alloc ?_ ?_ _) | (with_reducible refine Below.setCell ?_ ?_ _) | (with_reducible exact Nat.le_refl _) | omega | (simp; omega) | (simp; done) | (apply Below.size; assumption)))) (hb3_.mono (by first | assumption | (simp; done) | (simp; omega) | omega)); have hw3_ : Below w.heap.size w w3_ := hw2_.trans (hp3_.mono hw2_.size); have z3_w : w.heap.size < w3_.heap.size := Nat.lt_of_lt_of_le z2_w hp3_.size; have g3_w_0 : w3_.cell? ⟨w.heap.size, 0, none⟩ = some (.int .i64 wd) := (hp3_.cell (p := ⟨w.heap.size, 0, none⟩) z2_w).trans g2_w_0; have g3_w_1 : w3_.cell? ⟨w.heap.size, 1, none⟩ = some (.int .i64 dp) := (hp3_.cell (p := ⟨w.heap.size, 1, none⟩) z2_w).trans g2_w_1; have g3_w_2 : w3_.cell? ⟨w.heap.size, 2, none⟩ = some (.int .i64 ta) := (hp3_.cell (p := ⟨w.heap.size, 2, none⟩) z2_w).trans g2_w_2; have g3_w_3 : w3_.cell? ⟨w.heap.size, 3, none⟩ = some (.int .i64 tb) := (hp3_.cell (p := ⟨w.heap.size, 3, none⟩) z2_w).trans g2_w_3; have g3_w_4 : w3_.cell? ⟨w.heap.size, 4, none⟩ = some (.int .i64 tc) := (hp3_.cell (p := ⟨w.heap.size, 4, none⟩) z2_w).trans g2_w_4; have g3_w_5 : w3_.cell? ⟨w.heap.size, 5, none⟩ = some (.slice aR nR cR) := (hp3_.cell (p := ⟨w.heap.size, 5, none⟩) z2_w).trans g2_w_5; have g3_w_6 : w3_.cell? ⟨w.heap.size, 6, none⟩ = some (.int .i64 n) := (hp3_.cell (p := ⟨w.heap.size, 6, none⟩) z2_w).trans g2_w_6; have g3_w_7 : w3_.cell? ⟨w.heap.size, 7, none⟩ = some (.slice aT nT cT) := (hp3_.cell (p := ⟨w.heap.size, 7, none⟩) z2_w).trans g2_w_7; have g3_w_8 : w3_.cell? ⟨w.heap.size, 8, none⟩ = some (.slice aP nP cP) := (hp3_.cell (p := ⟨w.heap.size, 8, none⟩) z2_w).trans g2_w_8; have g3_w_9 : w3_.cell? ⟨w.heap.size, 9, none⟩ = some (.slice aS nS cS) := (hp3_.cell (p := ⟨w.heap.size, 9, none⟩) z2_w).trans g2_w_9; have g3_w_10 : w3_.cell? ⟨w.heap.size, 10, none⟩ = some (.slice aG nG cG) := (hp3_.cell (p := ⟨w.heap.size, 10, none⟩) z2_w).trans g2_w_10; have SP1 := Lib.hid s_; clear s_; clear z2_w g2_w_0 g2_w_1 g2_w_2 g2_w_3 g2_w_4 g2_w_5 g2_w_6 g2_w_7 g2_w_8 g2_w_9 g2_w_10 hw2_ hb3_ hp3_)
  (go_wp2_with (fail); refine (HQ.out _ (by (repeat' (first | (with_reducible exact Below.refl _ _) | (with_reducible assumption) | (with_reducible refine Kit.below_drewN ?_ _) | (with_reducible refine Below.drew ?_) | (with_reducible refine Below.alloc ?_ ?_ _) | (with_reducible refine Below.setCell ?_ ?_ _) | (with_reducible exact Nat.le_refl _) | omega | (simp; omega) | (simp; done) | (apply Below.size; assumption))))).mono ?_; rintro e w4_ ⟨aq, cq, rfl, s_, hb4_⟩; have hp4_ : Below w3_.heap.size w3_ w4_ := Below.trans (by (repeat' (first | (with_reducible exact Below.refl _ _) | (with_reducible assumption) | (with_reducible refine Kit.below_drewN ?_ _) | (with_reducible refine Below.drew ?_) | (with_reducible refine Below.alloc ?_ ?_ _) | (with_reducible refine Below.setCell ?_ ?_ _) | (with_reducible exact Nat.le_refl _) | omega | (simp; omega) | (simp; done) | (apply Below.size; assumption)))) (hb4_.mono (by first | assumption | (simp; done) | (simp; omega) | omega)); have hw4_ : Below w.heap.size w w4_ := hw3_.trans (hp4_.mono hw3_.size); have z4_w : w.heap.size < w4_.heap.size := Nat.lt_of_lt_of_le z3_w hp4_.size; have g4_w_0 : w4_.cell? ⟨w.heap.size, 0, none⟩ = some (.int .i64 wd) := (hp4_.cell (p := ⟨w.heap.size, 0, none⟩) z3_w).trans g3_w_0; have g4_w_1 : w4_.cell? ⟨w.heap.size, 1, none⟩ = some (.int .i64 dp) := (hp4_.cell (p := ⟨w.heap.size, 1, none⟩) z3_w).trans g3_w_1; have g4_w_2 : w4_.cell? ⟨w.heap.size, 2, none⟩ = some (.int .i64 ta) := (hp4_.cell (p := ⟨w.heap.size, 2, none⟩) z3_w).trans g3_w_2; have g4_w_3 : w4_.cell? ⟨w.heap.size, 3, none⟩ = some (.int .i64 tb) := (hp4_.cell (p := ⟨w.heap.size, 3, none⟩) z3_w).trans g3_w_3; have g4_w_4 : w4_.cell? ⟨w.heap.size, 4, none⟩ = some (.int .i64 tc) := (hp4_.cell (p := ⟨w.heap.size, 4, none⟩) z3_w).trans g3_w_4; have g4_w_5 : w4_.cell? ⟨w.heap.size, 5, none⟩ = some (.slice aR nR cR) := (hp4_.cell (p := ⟨w.heap.size, 5, none⟩) z3_w).trans g3_w_5; have g4_w_6 : w4_.cell? ⟨w.heap.size, 6, none⟩ = some (.int .i64 n) := (hp4_.cell (p := ⟨w.heap.size, 6, none⟩) z3_w).trans g3_w_6; have g4_w_7 : w4_.cell? ⟨w.heap.size, 7, none⟩ = some (.slice aT nT cT) := (hp4_.cell (p := ⟨w.heap.size, 7, none⟩) z3_w).trans g3_w_7; have g4_w_8 : w4_.cell? ⟨w.heap.size, 8, none⟩ = some (.slice aP nP cP) := (hp4_.cell (p := ⟨w.heap.size, 8, none⟩) z3_w).trans g3_w_8; have g4_w_9 : w4_.cell? ⟨w.heap.size, 9, none⟩ = some (.slice aS nS cS) := (hp4_.cell (p := ⟨w.heap.size, 9, none⟩) z3_w).trans g3_w_9; have g4_w_10 : w4_.cell? ⟨w.heap.size, 10, none⟩ = some (.slice aG nG cG) := (hp4_.cell (p := ⟨w.heap.size, 10, none⟩) z3_w).trans g3_w_10; have SQ1 := Lib.hid s_; have SP2 := Lib.hid (SP1.out.kept hp4_ (Nat.le_refl _)); clear s_ SP1; clear z3_w g3_w_0 g3_w_1 g3_w_2 g3_w_3 g3_w_4 g3_w_5 g3_w_6 g3_w_7 g3_w_8 g3_w_9 g3_w_10 hw3_ hb4_ hp4_)
  (go_wp2_with (fail); refine (HG.out _ (by (repeat' (first | (with_reducible exact Below.refl _ _) | (with_reducible assumption) | (with_reducible refine Kit.below_drewN ?_ _) | (with_reducible refine Below.drew ?_) | (with_reducible refine Below.alloc ?_ ?_ _) | (with_reducible refine Below.setCell ?_ ?_ _) | (with_reducible exact Nat.le_refl _) | omega | (simp; omega) | (simp; done) | (apply Below.size; assumption))))).mono ?_; rintro e w5_ ⟨ag, cg, rfl, s_, hb5_⟩; have hp5_ : Below w4_.heap.size w4_ w5_ := Below.trans (by (repeat' (first | (with_reducible exact Below.refl _ _) | (with_reducible assumption) | (with_reducible refine Kit.below_drewN ?_ _) | (with_reducible refine Below.drew ?_) | (with_reducible refine Below.alloc ?_ ?_ _) | (with_reducible refine Below.setCell ?_ ?_ _) | (with_reducible exact Nat.le_refl _) | omega | (simp; omega) | (simp; done) | (apply Below.size; assumption)))) (hb5_.mono (by first | assumption | (simp; done) | (simp; omega) | omega)); have hw5_ : Below w.heap.size w w5_ := hw4_.trans (hp5_.mono hw4_.size); have z5_w : w.heap.size < w5_.heap.size := Nat.lt_of_lt_of_le z4_w hp5_.size; have g5_w_0 : w5_.cell? ⟨w.heap.size, 0, none⟩ = some (.int .i64 wd) := (hp5_.cell (p := ⟨w.heap.size, 0, none⟩) z4_w).trans g4_w_0; have g5_w_1 : w5_.cell? ⟨w.heap.size, 1, none⟩ = some (.int .i64 dp) := (hp5_.cell (p := ⟨w.heap.size, 1, none⟩) z4_w).trans g4_w_1; have g5_w_2 : w5_.cell? ⟨w.heap.size, 2, none⟩ = some (.int .i64 ta) := (hp5_.cell (p := ⟨w.heap.size, 2, none⟩) z4_w).trans g4_w_2; have g5_w_3 : w5_.cell? ⟨w.heap.size, 3, none⟩ = some (.int .i64 tb) := (hp5_.cell (p := ⟨w.heap.size, 3, none⟩) z4_w).trans g4_w_3; have g5_w_4 : w5_.cell? ⟨w.heap.size, 4, none⟩ = some (.int .i64 tc) := (hp5_.cell (p := ⟨w.heap.size, 4, none⟩) z4_w).trans g4_w_4; have g5_w_5 : w5_.cell? ⟨w.heap.size, 5, none⟩ = some (.slice aR nR cR) := (hp5_.cell (p := ⟨w.heap.size, 5, none⟩) z4_w).trans g4_w_5; have g5_w_6 : w5_.cell? ⟨w.heap.size, 6, none⟩ = some (.int .i64 n) := (hp5_.cell (p := ⟨w.heap.size, 6, none⟩) z4_w).trans g4_w_6; have g5_w_7 : w5_.cell? ⟨w.heap.size, 7, none⟩ = some (.slice aT nT cT) := (hp5_.cell (p := ⟨w.heap.size, 7, none⟩) z4_w).trans g4_w_7; have g5_w_8 : w5_.cell? ⟨w.heap.size, 8, none⟩ = some (.slice aP nP cP) := (hp5_.cell (p := ⟨w.heap.size, 8, none⟩) z4_w).trans g4_w_8; have g5_w_9 : w5_.cell? ⟨w.heap.size, 9, none⟩ = some (.slice aS nS cS) := (hp5_.cell (p := ⟨w.heap.size, 9, none⟩) z4_w).trans g4_w_9; have g5_w_10 : w5_.cell? ⟨w.heap.size, 10, none⟩ = some (.slice aG nG cG) := (hp5_.cell (p := ⟨w.heap.size, 10, none⟩) z4_w).trans g4_w_10; have SG1 := Lib.hid s_; have SP3 := Lib.hid (SP2.out.kept hp5_ (Nat.le_refl _)); have SQ2 := Lib.hid (SQ1.out.kept hp5_ (Nat.le_refl _)); clear s_ SP2 SQ1; clear z4_w g4_w_0 g4_w_1 g4_w_2 g4_w_3 g4_w_4 g4_w_5 g4_w_6 g4_w_7 g4_w_8 g4_w_9 g4_w_10 hw4_ hb5_ hp5_)
  (go_wp2_with (fail); refine (HX.out _ (by (repeat' (first | (with_reducible exact Below.refl _ _) | (with_reducible assumption) | (with_reducible refine Kit.below_drewN ?_ _) | (with_reducible refine Below.drew ?_) | (with_reducible refine Below.alloc ?_ ?_ _) | (with_reducible refine Below.setCell ?_ ?_ _) | (with_reducible exact Nat.le_refl _) | omega | (simp; omega) | (simp; done) | (apply Below.size; assumption))))).mono ?_; rintro e w6_ ⟨ax, cx, rfl, s_, hb6_⟩; have hp6_ : Below w5_.heap.size w5_ w6_ := Below.trans (by (repeat' (first | (with_reducible exact Below.refl _ _) | (with_reducible assumption) | (with_reducible refine Kit.below_drewN ?_ _) | (with_reducible refine Below.drew ?_) | (with_reducible refine Below.alloc ?_ ?_ _) | (with_reducible refine Below.setCell ?_ ?_ _) | (with_reducible exact Nat.le_refl _) | omega | (simp; omega) | (simp; done) | (apply Below.size; assumption)))) (hb6_.mono (by first | assumption | (simp; done) | (simp; omega) | omega)); have hw6_ : Below w.heap.size w w6_ := hw5_.trans (hp6_.mono hw5_.size); have z6_w : w.heap.size < w6_.heap.size := Nat.lt_of_lt_of_le z5_w hp6_.size; have g6_w_0 : w6_.cell? ⟨w.heap.size, 0, none⟩ = some (.int .i64 wd) := (hp6_.cell (p := ⟨w.heap.size, 0, none⟩) z5_w).trans g5_w_0; have g6_w_1 : w6_.cell? ⟨w.heap.size, 1, none⟩ = some (.int .i64 dp) := (hp6_.cell (p := ⟨w.heap.size, 1, none⟩) z5_w).trans g5_w_1; have g6_w_2 : w6_.cell? ⟨w.heap.size, 2, none⟩ = some (.int .i64 ta) := (hp6_.cell (p := ⟨w.heap.size, 2, none⟩) z5_w).trans g5_w_2; have g6_w_3 : w6_.cell? ⟨w.heap.size, 3, none⟩ = some (.int .i64 tb) := (hp6_.cell (p := ⟨w.heap.size, 3, none⟩) z5_w).trans g5_w_3; have g6_w_4 : w6_.cell? ⟨w.heap.size, 4, none⟩ = some (.int .i64 tc) := (hp6_.cell (p := ⟨w.heap.size, 4, none⟩) z5_w).trans g5_w_4; have g6_w_5 : w6_.cell? ⟨w.heap.size, 5, none⟩ = some (.slice aR nR cR) := (hp6_.cell (p := ⟨w.heap.size, 5, none⟩) z5_w).trans g5_w_5; have g6_w_6 : w6_.cell? ⟨w.heap.size, 6, none⟩ = some (.int .i64 n) := (hp6_.cell (p := ⟨w.heap.size, 6, none⟩) z5_w).trans g5_w_6; have g6_w_7 : w6_.cell? ⟨w.heap.size, 7, none⟩ = some (.slice aT nT cT) := (hp6_.cell (p := ⟨w.heap.size, 7, none⟩) z5_w).trans g5_w_7; have g6_w_8 : w6_.cell? ⟨w.heap.size, 8, none⟩ = some (.slice aP nP cP) := (hp6_.cell (p := ⟨w.heap.size, 8, none⟩) z5_w).trans g5_w_8; have g6_w_9 : w6_.cell? ⟨w.heap.size, 9, none⟩ = some (.slice aS nS cS) := (hp6_.cell (p := ⟨w.heap.size, 9, none⟩) z5_w).trans g5_w_9; have g6_w_10 : w6_.cell? ⟨w.heap.size, 10, none⟩ = some (.slice aG nG cG) := (hp6_.cell (p := ⟨w.heap.size, 10, none⟩) z5_w).trans g5_w_10; have SX1 := Lib.hid s_; have SP4 := Lib.hid (SP3.out.kept hp6_ (Nat.le_refl _)); have SQ3 := Lib.hid (SQ2.out.kept hp6_ (Nat.le_refl _)); have SG2 := Lib.hid (SG1.out.kept hp6_ (Nat.le_refl _)); clear s_ SP3 SQ2 SG1; clear z5_w g5_w_0 g5_w_1 g5_w_2 g5_w_3 g5_w_4 g5_w_5 g5_w_6 g5_w_7 g5_w_8 g5_w_9 g5_w_10 hw5_ hb6_ hp6_)
  (go_wp2_with (fail); refine (rf_samepairs_t ap L cp aq cq _ (by omega) SP4.out SQ3.out).mono ?_; rintro e w7_ ⟨rfl, hb7_⟩; have hp7_ : Below w6_.heap.size w6_ w7_ := Below.trans (by (repeat' (first | (with_reducible exact Below.refl _ _) | (with_reducible assumption) | (with_reducible refine Kit.below_drewN ?_ _) | (with_reducible refine Below.drew ?_) | (with_reducible refine Below.alloc ?_ ?_ _) | (with_reducible refine Below.setCell ?_ ?_ _) | (with_reducible exact Nat.le_refl _) | omega | (simp; omega) | (simp; done) | (apply Below.size; assumption)))) (hb7_.mono (by first | assumption | (simp; done) | (simp; omega) | omega)); have hw7_ : Below w.heap.size w w7_ := hw6_.trans (hp7_.mono hw6_.size); have z7_w : w.heap.size < w7_.heap.size := Nat.lt_of_lt_of_le z6_w hp7_.size; have g7_w_0 : w7_.cell? ⟨w.heap.size, 0, none⟩ = some (.int .i64 wd) := (hp7_.cell (p := ⟨w.heap.size, 0, none⟩) z6_w).trans g6_w_0; have g7_w_1 : w7_.cell? ⟨w.heap.size, 1, none⟩ = some (.int .i64 dp) := (hp7_.cell (p := ⟨w.heap.size, 1, none⟩) z6_w).trans g6_w_1; have g7_w_2 : w7_.cell? ⟨w.heap.size, 2, none⟩ = some (.int .i64 ta) := (hp7_.cell (p := ⟨w.heap.size, 2, none⟩) z6_w).trans g6_w_2; have g7_w_3 : w7_.cell? ⟨w.heap.size, 3, none⟩ = some (.int .i64 tb) := (hp7_.cell (p := ⟨w.heap.size, 3, none⟩) z6_w).trans g6_w_3; have g7_w_4 : w7_.cell? ⟨w.heap.size, 4, none⟩ = some (.int .i64 tc) := (hp7_.cell (p := ⟨w.heap.size, 4, none⟩) z6_w).trans g6_w_4; have g7_w_5 : w7_.cell? ⟨w.heap.size, 5, none⟩ = some (.slice aR nR cR) := (hp7_.cell (p := ⟨w.heap.size, 5, none⟩) z6_w).trans g6_w_5; have g7_w_6 : w7_.cell? ⟨w.heap.size, 6, none⟩ = some (.int .i64 n) := (hp7_.cell (p := ⟨w.heap.size, 6, none⟩) z6_w).trans g6_w_6; have g7_w_7 : w7_.cell? ⟨w.heap.size, 7, none⟩ = some (.slice aT nT cT) := (hp7_.cell (p := ⟨w.heap.size, 7, none⟩) z6_w).trans g6_w_7; have g7_w_8 : w7_.cell? ⟨w.heap.size, 8, none⟩ = some (.slice aP nP cP) := (hp7_.cell (p := ⟨w.heap.size, 8, none⟩) z6_w).trans g6_w_8; have g7_w_9 : w7_.cell? ⟨w.heap.size, 9, none⟩ = some (.slice aS nS cS) := (hp7_.cell (p := ⟨w.heap.size, 9, none⟩) z6_w).trans g6_w_9; have g7_w_10 : w7_.cell? ⟨w.heap.size, 10, none⟩ = some (.slice aG nG cG) := (hp7_.cell (p := ⟨w.heap.size, 10, none⟩) z6_w).trans g6_w_10; have SG3 := Lib.hid (SG2.out.kept hp7_ (Nat.le_refl _)); have SX2 := Lib.hid (SX1.out.kept hp7_ (Nat.le_refl _)); clear SG2 SX1; clear z6_w g6_w_0 g6_w_1 g6_w_2 g6_w_3 g6_w_4 g6_w_5 g6_w_6 g6_w_7 g6_w_8 g6_w_9 g6_w_10 hw6_ hb7_ hp7_)
  (go_wp2_with (fail); refine (rf_sameints_t ag I cg ax cx _ (by omega) SG3.out SX2.out).mono ?_; rintro e w8_ ⟨rfl, hb8_⟩; have hp8_ : Below w7_.heap.size w7_ w8_ := Below.trans (by (repeat' (first | (with_reducible exact Below.refl _ _) | (with_reducible assumption) | (with_reducible refine Kit.below_drewN ?_ _) | (with_reducible refine Below.drew ?_) | (with_reducible refine Below.alloc ?_ ?_ _) | (with_reducible refine Below.setCell ?_ ?_ _) | (with_reducible exact Nat.le_refl _) | omega | (simp; omega) | (simp; done) | (apply Below.size; assumption)))) (hb8_.mono (by first | assumption | (simp; done) | (simp; omega) | omega)); have hw8_ : Below w.heap.size w w8_ := hw7_.trans (hp8_.mono hw7_.size); have z8_w : w.heap.size < w8_.heap.size := Nat.lt_of_lt_of_le z7_w hp8_.size; have g8_w_0 : w8_.cell? ⟨w.heap.size, 0, none⟩ = some (.int .i64 wd) := (hp8_.cell (p := ⟨w.heap.size, 0, none⟩) z7_w).trans g7_w_0; have g8_w_1 : w8_.cell? ⟨w.heap.size, 1, none⟩ = some (.int .i64 dp) := (hp8_.cell (p := ⟨w.heap.size, 1, none⟩) z7_w).trans g7_w_1; have g8_w_2 : w8_.cell? ⟨w.heap.size, 2, none⟩ = some (.int .i64 ta) := (hp8_.cell (p := ⟨w.heap.size, 2, none⟩) z7_w).trans g7_w_2; have g8_w_3 : w8_.cell? ⟨w.heap.size, 3, none⟩ = some (.int .i64 tb) := (hp8_.cell (p := ⟨w.heap.size, 3, none⟩) z7_w).trans g7_w_3; have g8_w_4 : w8_.cell? ⟨w.heap.size, 4, none⟩ = some (.int .i64 tc) := (hp8_.cell (p := ⟨w.heap.size, 4, none⟩) z7_w).trans g7_w_4; have g8_w_5 : w8_.cell? ⟨w.heap.size, 5, none⟩ = some (.slice aR nR cR) := (hp8_.cell (p := ⟨w.heap.size, 5, none⟩) z7_w).trans g7_w_5; have g8_w_6 : w8_.cell? ⟨w.heap.size, 6, none⟩ = some (.int .i64 n) := (hp8_.cell (p := ⟨w.heap.size, 6, none⟩) z7_w).trans g7_w_6; have g8_w_7 : w8_.cell? ⟨w.heap.size, 7, none⟩ = some (.slice aT nT cT) := (hp8_.cell (p := ⟨w.heap.size, 7, none⟩) z7_w).trans g7_w_7; have g8_w_8 : w8_.cell? ⟨w.heap.size, 8, none⟩ = some (.slice aP nP cP) := (hp8_.cell (p := ⟨w.heap.size, 8, none⟩) z7_w).trans g7_w_8; have g8_w_9 : w8_.cell? ⟨w.heap.size, 9, none⟩ = some (.slice aS nS cS) := (hp8_.cell (p := ⟨w.heap.size, 9, none⟩) z7_w).trans g7_w_9; have g8_w_10 : w8_.cell? ⟨w.heap.size, 10, none⟩ = some (.slice aG nG cG) := (hp8_.cell (p := ⟨w.heap.size, 10, none⟩) z7_w).trans g7_w_10; skip; clear z7_w g7_w_0 g7_w_1 g7_w_2 g7_w_3 g7_w_4 g7_w_5 g7_w_6 g7_w_7 g7_w_8 g7_w_9 g7_w_10 hw7_ hb8_ hp8_)
  go_wp2
  go_ret
  exact ⟨rfl, by (repeat' (first | (with_reducible exact Below.refl _ _) | (with_reducible assumption) | (with_reducible refine Kit.below_drewN ?_ _) | (with_reducible refine Below.drew ?_) | (with_reducible refine Below.alloc ?_ ?_ _) | (with_reducible refine Below.setCell ?_ ?_ _) | (with_reducible exact Nat.le_refl _) | omega | (simp; omega) | (simp; done) | (apply Below.size; assumption)))⟩

theorem Tp.Sl.congr {w : World} {a : Option Addr} {n k : Nat} {f g : Nat → Nat → Value} (h : Tp.Sl w a n k f) (e : ∀ i j, i < n → j < k → f i j = g i j) : Tp.Sl w a n k g := by
  rcases h with h | ⟨ad, h1, h2, h3⟩
  · exact .inl h
  · exact .inr ⟨ad, h1, h2, fun i j hi hj => (h3 i j hi hj).trans (by rw [e i j hi hj])⟩
namespace Lw
def grI (x : Ex.Wk) (bar : Int) : List Int := (List.range x.ro.length).map fun j => ((Ap.grp (Ap.prs x bar) j : Nat) : Int)
theorem grI_len (x : Ex.Wk) (bar : Int) : (grI x bar).length = x.ro.length := by simp [grI]
theorem grI_at (x : Ex.Wk) (bar : Int) (i j : Nat) (h : i < x.ro.length) : Value.int .i64 (Ap.grp (Ap.prs x bar) i) = Rf.intc (grI x bar) i j := by
  unfold Rf.intc grI
  rw [List.getD_eq_getElem?_getD, List.getElem?_map, List.getElem?_range h]
  rfl
end Lw

set_option maxRecDepth 100000 in
theorem law_gspec (x : Ex.Wk) (p : Ex.Wa) (bar : Int) (w : World) (ha : Ex.At w x p) (hl : Ex.Laid w) :
    Calls Tryd.prog 4 #[Ex.workV x p, .int .i64 bar] w fun e w' => e = .returned (.bool true) ∧ Below w.heap.size w w' := by
  have hS : ∀ W, Below w.heap.size w W → Calls Tryd.prog 11 #[] W fun e w' => e = .returned (.bool true) ∧ Below W.heap.size W w' := fun W hB => lw_sane W (hl.kept hB (Nat.le_refl _))
  have hF : ∀ W, Below w.heap.size w W → Calls Tryd.prog 14 #[Ex.workV x p, .agg #[.slice none 0 0], .slice none 0 0, .slice none 0 0, .slice none 0 0] W fun e w' => e = .returned (.bool (Rf.fewAll x 0 0 0 0)) ∧ Below W.heap.size W w' :=
    fun W hB => rf_few29 x p none 0 0 none 0 0 none 0 0 none 0 0 W (ha.kept hB (Nat.le_refl _)) (by omega) (by omega) (by omega) (by omega)
  have kA : ∀ W, Below w.heap.size w W → Ex.At W x p := fun W hB => ha.kept hB (Nat.le_refl _)
  have kL : ∀ W, Below w.heap.size w W → Ex.Laid W := fun W hB => hl.kept hB (Nat.le_refl _)
  rcases hf : Rf.fewAll x 0 0 0 0 with _ | _
  · rw [hf] at hF
    exact law_gspec_1 _ _ _ _ _ _ _ _ _ _ _ _ _ _ _ _ _ _ _ _ _ bar w hS hF
  · rw [hf] at hF
    by_cases h : Ap.chk x bar = 0
    · obtain ⟨r1, r2, r3⟩ := Ex.roles (Ap.chk_0 h)
      refine law_gspec_2 _ _ _ _ _ _ _ _ _ _ _ _ _ _ _ _ _ _ _ _ _ bar w hS hF (Ap.prs x bar) (Lw.grI x bar) 0 (Ap.prs_len x bar r1) (by rw [Lw.grI_len]; omega)
        (fun W hB => lw_pairs_sl x p bar W (kA W hB) (kL W hB) h) (fun W hB => rn_pairs_sl x p bar W (kA W hB) h) ?_ ?_
      · intro W hB
        refine (lw_groups_sl x p bar W (kA W hB) (kL W hB) h).mono ?_
        rintro e w' ⟨ad, c, rfl, hs, hb⟩
        rw [← Lw.grI_len x bar]
        exact ⟨ad, c, rfl, by rw [Lw.grI_len]; exact hs.congr (fun i j hi _ => Lw.grI_at x bar i j hi), hb⟩
      · intro W hB
        refine (rn_groups_sl x p bar W (kA W hB) h).mono ?_
        rintro e w' ⟨ad, c, rfl, hs, hb⟩
        rw [← Lw.grI_len x bar]
        exact ⟨ad, c, rfl, by rw [Lw.grI_len]; exact hs.congr (fun i j hi _ => Lw.grI_at x bar i j hi), hb⟩
    · refine law_gspec_2 _ _ _ _ _ _ _ _ _ _ _ _ _ _ _ _ _ _ _ _ _ bar w hS hF [] [] (Ap.chk x bar) (by simp) (by simp) ?_ ?_ ?_ ?_
      · exact fun W hB => (lw_pairs_err x p bar W (kA W hB) (kL W hB) h).mono (fun e w' ⟨he, hb⟩ => ⟨none, 0, he, .inl rfl, hb⟩)
      · exact fun W hB => (rn_pairs_err x p bar W (kA W hB) h).mono (fun e w' ⟨he, hb⟩ => ⟨none, 0, he, .inl rfl, hb⟩)
      · exact fun W hB => (lw_groups_err x p bar W (kA W hB) (kL W hB) h).mono (fun e w' ⟨he, hb⟩ => ⟨none, 0, he, .inl rfl, hb⟩)
      · exact fun W hB => (rn_groups_err x p bar W (kA W hB) h).mono (fun e w' ⟨he, hb⟩ => ⟨none, 0, he, .inl rfl, hb⟩)
end Go.Proofs.YtjoieglhmladhaaDoor
