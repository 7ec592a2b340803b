/- Walks: the references of layers 19 and 29: Few. -/
import Derived.Test.YtjoieglhmladhaaDoorClA
namespace Go.Proofs.YtjoieglhmladhaaDoor
set_option linter.unusedVariables false
set_option linter.unusedSimpArgs false
open Go.RowKit Go.Shelf

namespace Rf
/-- Is a work small, or too large? -/
def few (nR nT nP nS nG : Nat) (n : Int) : Bool :=
  !(decide ((100 : Int) < nR) || decide ((64 : Int) < nT) || decide ((64 : Int) < nP) || decide ((64 : Int) < nS)) &&
  ((decide ((nG : Int) ≤ 80) && decide (n ≤ 4096)) || (decide ((4096 : Int) < nG) && decide ((nG : Int) ≤ 5000)) || (decide (4096 < n) && decide ((nG : Int) ≤ 80)))
end Rf

set_option maxRecDepth 100000 in
set_option maxHeartbeats 2000000 in
theorem rf_few19 (wd dp ta tb tc : Int) (aR : Option Addr) (nR cR : Nat) (n : Int) (aT : Option Addr) (nT cT : Nat) (aP : Option Addr) (nP cP : Nat) (aS : Option Addr) (nS cS : Nat) (aG : Option Addr) (nG cG : Nat) (w : World)
    (l1 : nR ≤ 4611686018427387904) (l2 : nT ≤ 4611686018427387904) (l3 : nP ≤ 4611686018427387904) (l4 : nS ≤ 4611686018427387904) (l5 : nG ≤ 4611686018427387904) :
    Calls Tryd.prog 43 #[Ex.wv wd dp ta tb tc aR nR cR n aT nT cT aP nP cP aS nS cS aG nG cG] w fun e w' => e = .returned (.bool (Rf.few nR nT nP nS nG n)) ∧ Below w.heap.size w w' := by
  unfold Rf.few
  rcases t1 : decide ((100 : Int) < nR) with _ | _
  · rcases t2 : decide ((64 : Int) < nT) with _ | _
    · rcases t3 : decide ((64 : Int) < nP) with _ | _
      · rcases t4 : decide ((64 : Int) < nS) with _ | _
        · rcases u1 : decide ((nG : Int) ≤ 80) with _ | _
          · rcases u3 : decide ((4096 : Int) < nG) with _ | _
            · rcases u5 : decide (4096 < n) with _ | _
              · go_enter Tryd.func43, Tryd.ntmps43
                go_wp2
                go_ret
                exact ⟨by first | rfl | (simp; done) | (simp at *; omega), by (repeat' first | (with_reducible first | exact Below.refl _ _ | assumption | refine Kit.below_drewN ?_ _ | refine Below.drew ?_ | refine Below.alloc ?_ ?_ _ | refine Below.setCell ?_ ?_ _ | exact Nat.le_refl _) | omega | (simp; omega) | (simp; done) | (apply Below.size; assumption))⟩
              · go_enter Tryd.func43, Tryd.ntmps43
                go_wp2
                go_ret
                exact ⟨by first | rfl | (simp; done) | (simp at *; omega), by (repeat' first | (with_reducible first | exact Below.refl _ _ | assumption | refine Kit.below_drewN ?_ _ | refine Below.drew ?_ | refine Below.alloc ?_ ?_ _ | refine Below.setCell ?_ ?_ _ | exact Nat.le_refl _) | omega | (simp; omega) | (simp; done) | (apply Below.size; assumption))⟩
            · rcases u4 : decide ((nG : Int) ≤ 5000) with _ | _
              · rcases u5 : decide (4096 < n) with _ | _
                · go_enter Tryd.func43, Tryd.ntmps43
                  go_wp2
                  go_ret
                  exact ⟨by first | rfl | (simp; done) | (simp at *; omega), by (repeat' first | (with_reducible first | exact Below.refl _ _ | assumption | refine Kit.below_drewN ?_ _ | refine Below.drew ?_ | refine Below.alloc ?_ ?_ _ | refine Below.setCell ?_ ?_ _ | exact Nat.le_refl _) | omega | (simp; omega) | (simp; done) | (apply Below.size; assumption))⟩
                · go_enter Tryd.func43, Tryd.ntmps43
                  go_wp2
                  go_ret
                  exact ⟨by first | rfl | (simp; done) | (simp at *; omega), by (repeat' first | (with_reducible first | exact Below.refl _ _ | assumption | refine Kit.below_drewN ?_ _ | refine Below.drew ?_ | refine Below.alloc ?_ ?_ _ | refine Below.setCell ?_ ?_ _ | exact Nat.le_refl _) | omega | (simp; omega) | (simp; done) | (apply Below.size; assumption))⟩
              · go_enter Tryd.func43, Tryd.ntmps43
                go_wp2
                go_ret
                exact ⟨by first | rfl | (simp; done) | (simp at *; omega), by (repeat' first | (with_reducible first | exact Below.refl _ _ | assumption | refine Kit.below_drewN ?_ _ | refine Below.drew ?_ | refine Below.alloc ?_ ?_ _ | refine Below.setCell ?_ ?_ _ | exact Nat.le_refl _) | omega | (simp; omega) | (simp; done) | (apply Below.size; assumption))⟩
          · have u3 : decide ((4096 : Int) < nG) = false := by simp at u1 ⊢; omega
            rcases u2 : decide (n ≤ 4096) with _ | _
            · have u5 : decide (4096 < n) = true := by simp at u2 ⊢; omega
              go_enter Tryd.func43, Tryd.ntmps43
              go_wp2
              go_ret
              exact ⟨by first | rfl | (simp; done) | (simp at *; omega), by (repeat' first | (with_reducible first | exact Below.refl _ _ | assumption | refine Kit.below_drewN ?_ _ | refine Below.drew ?_ | refine Below.alloc ?_ ?_ _ | refine Below.setCell ?_ ?_ _ | exact Nat.le_refl _) | omega | (simp; omega) | (simp; done) | (apply Below.size; assumption))⟩
            · go_enter Tryd.func43, Tryd.ntmps43
              go_wp2
              go_ret
              exact ⟨by first | rfl | (simp; done) | (simp at *; omega), by (repeat' first | (with_reducible first | exact Below.refl _ _ | assumption | refine Kit.below_drewN ?_ _ | refine Below.drew ?_ | refine Below.alloc ?_ ?_ _ | refine Below.setCell ?_ ?_ _ | exact Nat.le_refl _) | omega | (simp; omega) | (simp; done) | (apply Below.size; assumption))⟩
        · go_enter Tryd.func43, Tryd.ntmps43
          go_wp2
          go_ret
          exact ⟨by first | rfl | (simp; done) | (simp at *; omega), by (repeat' first | (with_reducible first | exact Below.refl _ _ | assumption | refine Kit.below_drewN ?_ _ | refine Below.drew ?_ | refine Below.alloc ?_ ?_ _ | refine Below.setCell ?_ ?_ _ | exact Nat.le_refl _) | omega | (simp; omega) | (simp; done) | (apply Below.size; assumption))⟩
      · go_enter Tryd.func43, Tryd.ntmps43
        go_wp2
        go_ret
        exact ⟨by first | rfl | (simp; done) | (simp at *; omega), by (repeat' first | (with_reducible first | exact Below.refl _ _ | assumption | refine Kit.below_drewN ?_ _ | refine Below.drew ?_ | refine Below.alloc ?_ ?_ _ | refine Below.setCell ?_ ?_ _ | exact Nat.le_refl _) | omega | (simp; omega) | (simp; done) | (apply Below.size; assumption))⟩
    · go_enter Tryd.func43, Tryd.ntmps43
      go_wp2
      go_ret
      exact ⟨by first | rfl | (simp; done) | (simp at *; omega), by (repeat' first | (with_reducible first | exact Below.refl _ _ | assumption | refine Kit.below_drewN ?_ _ | refine Below.drew ?_ | refine Below.alloc ?_ ?_ _ | refine Below.setCell ?_ ?_ _ | exact Nat.le_refl _) | omega | (simp; omega) | (simp; done) | (apply Below.size; assumption))⟩
  · go_enter Tryd.func43, Tryd.ntmps43
    go_wp2
    go_ret
    exact ⟨by first | rfl | (simp; done) | (simp at *; omega), by (repeat' first | (with_reducible first | exact Below.refl _ _ | assumption | refine Kit.below_drewN ?_ _ | refine Below.drew ?_ | refine Below.alloc ?_ ?_ _ | refine Below.setCell ?_ ?_ _ | exact Nat.le_refl _) | omega | (simp; omega) | (simp; done) | (apply Below.size; assumption))⟩

namespace Rf
def fewAll (x : Ex.Wk) (nW nM nH nQ : Nat) : Bool := few x.ro.length x.ts.length x.ps.length x.ss.length x.sg.length x.n && decide ((nW : Int) ≤ 100) && decide ((nM : Int) ≤ 100) && decide ((nH : Int) ≤ 100) && decide ((nQ : Int) ≤ 100)
end Rf
set_option maxRecDepth 100000 in
set_option maxHeartbeats 2000000 in
theorem rf_few29_a (wd dp ta tb tc : Int) (aR : Option Addr) (nR cR : Nat) (n : Int) (aT : Option Addr) (nT cT : Nat) (aP : Option Addr) (nP cP : Nat) (aS : Option Addr) (nS cS : Nat) (aG : Option Addr) (nG cG : Nat) (aW : Option Addr) (nW cW : Nat) (aM : Option Addr) (nM cM : Nat) (aH : Option Addr) (nH cH : Nat) (aQ : Option Addr) (nQ cQ : Nat) (w : World)
    (b0 : Bool) (h0 : ∀ W, Calls Tryd.prog 43 #[Ex.wv wd dp ta tb tc aR nR cR n aT nT cT aP nP cP aS nS cS aG nG cG] W fun e w' => e = .returned (.bool b0) ∧ Below W.heap.size W w')
    (m1 : nW ≤ 4611686018427387904) (m2 : nM ≤ 4611686018427387904) (m3 : nH ≤ 4611686018427387904) (m4 : nQ ≤ 4611686018427387904) :
    Calls Tryd.prog 14 #[Ex.wv wd dp ta tb tc aR nR cR n aT nT cT aP nP cP aS nS cS aG nG cG, .agg #[.slice aW nW cW], .slice aM nM cM, .slice aH nH cH, .slice aQ nQ cQ] w fun e w' =>
      e = .returned (.bool (b0 && decide ((nW : Int) ≤ 100) && decide ((nM : Int) ≤ 100) && decide ((nH : Int) ≤ 100) && decide ((nQ : Int) ≤ 100))) ∧ Below w.heap.size w w' := by
  have H0 := Lib.hid h0; clear h0
  cases b0
  · go_enter Tryd.func14, Tryd.ntmps14
    skip
    (go_wp2_with (fail); refine (H0.out _).mono ?_; rintro e w1_ ⟨rfl, hb1_⟩; have hp1_ : Below w.heap.size w w1_ := Below.trans (by (repeat' first | (with_reducible first | exact Below.refl _ _ | assumption | refine Kit.below_drewN ?_ _ | refine Below.drew ?_ | refine Below.alloc ?_ ?_ _ | refine Below.setCell ?_ ?_ _ | exact Nat.le_refl _) | omega | (simp; omega) | (simp; done) | (apply Below.size; assumption))) (hb1_.mono (by first | assumption | (simp; done) | (simp; omega) | omega)); have hw1_ : Below w.heap.size w w1_ := hp1_; obtain ⟨hc1_, hf1_⟩ := Kit.bcell hb1_; have z1_w_1 : w.heap.size + 1 < w1_.heap.size := (by have := hb1_.size; first | omega | (simp at this; omega)); have g1_w_1_0 : w1_.cell? ⟨w.heap.size + 1, 0, none⟩ = some (.slice aW nW cW) := (by rw [hc1_ _ _ (by first | assumption | (simp; done) | (simp; omega) | omega)]; first | assumption | (simp [go_sem]; done) | (simp [go_sem, *]; done)); clear hc1_ hf1_; clear hb1_ hp1_)
    go_wp2
    go_ret
    exact ⟨by first | rfl | (simp; done) | (simp at *; omega), by (repeat' first | (with_reducible first | exact Below.refl _ _ | assumption | refine Kit.below_drewN ?_ _ | refine Below.drew ?_ | refine Below.alloc ?_ ?_ _ | refine Below.setCell ?_ ?_ _ | exact Nat.le_refl _) | omega | (simp; omega) | (simp; done) | (apply Below.size; assumption))⟩
  · rcases t1 : decide ((nW : Int) ≤ 100) with _ | _
    · go_enter Tryd.func14, Tryd.ntmps14
      skip
      (go_wp2_with (fail); refine (H0.out _).mono ?_; rintro e w1_ ⟨rfl, hb1_⟩; have hp1_ : Below w.heap.size w w1_ := Below.trans (by (repeat' first | (with_reducible first | exact Below.refl _ _ | assumption | refine Kit.below_drewN ?_ _ | refine Below.drew ?_ | refine Below.alloc ?_ ?_ _ | refine Below.setCell ?_ ?_ _ | exact Nat.le_refl _) | omega | (simp; omega) | (simp; done) | (apply Below.size; assumption))) (hb1_.mono (by first | assumption | (simp; done) | (simp; omega) | omega)); have hw1_ : Below w.heap.size w w1_ := hp1_; obtain ⟨hc1_, hf1_⟩ := Kit.bcell hb1_; have z1_w_1 : w.heap.size + 1 < w1_.heap.size := (by have := hb1_.size; first | omega | (simp at this; omega)); have g1_w_1_0 : w1_.cell? ⟨w.heap.size + 1, 0, none⟩ = some (.slice aW nW cW) := (by rw [hc1_ _ _ (by first | assumption | (simp; done) | (simp; omega) | omega)]; first | assumption | (simp [go_sem]; done) | (simp [go_sem, *]; done)); clear hc1_ hf1_; clear hb1_ hp1_)
      go_wp2
      go_ret
      exact ⟨by first | rfl | (simp; done) | (simp at *; omega), by (repeat' first | (with_reducible first | exact Below.refl _ _ | assumption | refine Kit.below_drewN ?_ _ | refine Below.drew ?_ | refine Below.alloc ?_ ?_ _ | refine Below.setCell ?_ ?_ _ | exact Nat.le_refl _) | omega | (simp; omega) | (simp; done) | (apply Below.size; assumption))⟩
    · rcases t2 : decide ((nM : Int) ≤ 100) with _ | _
      · go_enter Tryd.func14, Tryd.ntmps14
        skip
        (go_wp2_with (fail); refine (H0.out _).mono ?_; rintro e w1_ ⟨rfl, hb1_⟩; have hp1_ : Below w.heap.size w w1_ := Below.trans (by (repeat' first | (with_reducible first | exact Below.refl _ _ | assumption | refine Kit.below_drewN ?_ _ | refine Below.drew ?_ | refine Below.alloc ?_ ?_ _ | refine Below.setCell ?_ ?_ _ | exact Nat.le_refl _) | omega | (simp; omega) | (simp; done) | (apply Below.size; assumption))) (hb1_.mono (by first | assumption | (simp; done) | (simp; omega) | omega)); have hw1_ : Below w.heap.size w w1_ := hp1_; obtain ⟨hc1_, hf1_⟩ := Kit.bcell hb1_; have z1_w_1 : w.heap.size + 1 < w1_.heap.size := (by have := hb1_.size; first | omega | (simp at this; omega)); have g1_w_1_0 : w1_.cell? ⟨w.heap.size + 1, 0, none⟩ = some (.slice aW nW cW) := (by rw [hc1_ _ _ (by first | assumption | (simp; done) | (simp; omega) | omega)]; first | assumption | (simp [go_sem]; done) | (simp [go_sem, *]; done)); clear hc1_ hf1_; clear hb1_ hp1_)
        go_wp2
        go_ret
        exact ⟨by first | rfl | (simp; done) | (simp at *; omega), by (repeat' first | (with_reducible first | exact Below.refl _ _ | assumption | refine Kit.below_drewN ?_ _ | refine Below.drew ?_ | refine Below.alloc ?_ ?_ _ | refine Below.setCell ?_ ?_ _ | exact Nat.le_refl _) | omega | (simp; omega) | (simp; done) | (apply Below.size; assumption))⟩
      · rcases t3 : decide ((nH : Int) ≤ 100) with _ | _
        · go_enter Tryd.func14, Tryd.ntmps14
          skip
          (go_wp2_with (fail); refine (H0.out _).mono ?_; rintro e w1_ ⟨rfl, hb1_⟩; have hp1_ : Below w.heap.size w w1_ := Below.trans (by (repeat' first | (with_reducible first | exact Below.refl _ _ | assumption | refine Kit.below_drewN ?_ _ | refine Below.drew ?_ | refine Below.alloc ?_ ?_ _ | refine Below.setCell ?_ ?_ _ | exact Nat.le_refl _) | omega | (simp; omega) | (simp; done) | (apply Below.size; assumption))) (hb1_.mono (by first | assumption | (simp; done) | (simp; omega) | omega)); have hw1_ : Below w.heap.size w w1_ := hp1_; obtain ⟨hc1_, hf1_⟩ := Kit.bcell hb1_; have z1_w_1 : w.heap.size + 1 < w1_.heap.size := (by have := hb1_.size; first | omega | (simp at this; omega)); have g1_w_1_0 : w1_.cell? ⟨w.heap.size + 1, 0, none⟩ = some (.slice aW nW cW) := (by rw [hc1_ _ _ (by first | assumption | (simp; done) | (simp; omega) | omega)]; first | assumption | (simp [go_sem]; done) | (simp [go_sem, *]; done)); clear hc1_ hf1_; clear hb1_ hp1_)
          go_wp2
          go_ret
          exact ⟨by first | rfl | (simp; done) | (simp at *; omega), by (repeat' first | (with_reducible first | exact Below.refl _ _ | assumption | refine Kit.below_drewN ?_ _ | refine Below.drew ?_ | refine Below.alloc ?_ ?_ _ | refine Below.setCell ?_ ?_ _ | exact Nat.le_refl _) | omega | (simp; omega) | (simp; done) | (apply Below.size; assumption))⟩
        · rcases t4 : decide ((nQ : Int) ≤ 100) with _ | _
          · go_enter Tryd.func14, Tryd.ntmps14
            skip
            (go_wp2_with (fail); refine (H0.out _).mono ?_; rintro e w1_ ⟨rfl, hb1_⟩; have hp1_ : Below w.heap.size w w1_ := Below.trans (by (repeat' first | (with_reducible first | exact Below.refl _ _ | assumption | refine Kit.below_drewN ?_ _ | refine Below.drew ?_ | refine Below.alloc ?_ ?_ _ | refine Below.setCell ?_ ?_ _ | exact Nat.le_refl _) | omega | (simp; omega) | (simp; done) | (apply Below.size; assumption))) (hb1_.mono (by first | assumption | (simp; done) | (simp; omega) | omega)); have hw1_ : Below w.heap.size w w1_ := hp1_; obtain ⟨hc1_, hf1_⟩ := Kit.bcell hb1_; have z1_w_1 : w.heap.size + 1 < w1_.heap.size := (by have := hb1_.size; first | omega | (simp at this; omega)); have g1_w_1_0 : w1_.cell? ⟨w.heap.size + 1, 0, none⟩ = some (.slice aW nW cW) := (by rw [hc1_ _ _ (by first | assumption | (simp; done) | (simp; omega) | omega)]; first | assumption | (simp [go_sem]; done) | (simp [go_sem, *]; done)); clear hc1_ hf1_; clear hb1_ hp1_)
            go_wp2
            go_ret
            exact ⟨by first | rfl | (simp; done) | (simp at *; omega), by (repeat' first | (with_reducible first | exact Below.refl _ _ | assumption | refine Kit.below_drewN ?_ _ | refine Below.drew ?_ | refine Below.alloc ?_ ?_ _ | refine Below.setCell ?_ ?_ _ | exact Nat.le_refl _) | omega | (simp; omega) | (simp; done) | (apply Below.size; assumption))⟩
          · go_enter Tryd.func14, Tryd.ntmps14
            skip
            (go_wp2_with (fail); refine (H0.out _).mono ?_; rintro e w1_ ⟨rfl, hb1_⟩; have hp1_ : Below w.heap.size w w1_ := Below.trans (by (repeat' first | (with_reducible first | exact Below.refl _ _ | assumption | refine Kit.below_drewN ?_ _ | refine Below.drew ?_ | refine Below.alloc ?_ ?_ _ | refine Below.setCell ?_ ?_ _ | exact Nat.le_refl _) | omega | (simp; omega) | (simp; done) | (apply Below.size; assumption))) (hb1_.mono (by first | assumption | (simp; done) | (simp; omega) | omega)); have hw1_ : Below w.heap.size w w1_ := hp1_; obtain ⟨hc1_, hf1_⟩ := Kit.bcell hb1_; have z1_w_1 : w.heap.size + 1 < w1_.heap.size := (by have := hb1_.size; first | omega | (simp at this; omega)); have g1_w_1_0 : w1_.cell? ⟨w.heap.size + 1, 0, none⟩ = some (.slice aW nW cW) := (by rw [hc1_ _ _ (by first | assumption | (simp; done) | (simp; omega) | omega)]; first | assumption | (simp [go_sem]; done) | (simp [go_sem, *]; done)); clear hc1_ hf1_; clear hb1_ hp1_)
            go_wp2
            go_ret
            exact ⟨by first | rfl | (simp; done) | (simp at *; omega), by (repeat' first | (with_reducible first | exact Below.refl _ _ | assumption | refine Kit.below_drewN ?_ _ | refine Below.drew ?_ | refine Below.alloc ?_ ?_ _ | refine Below.setCell ?_ ?_ _ | exact Nat.le_refl _) | omega | (simp; omega) | (simp; done) | (apply Below.size; assumption))⟩

theorem rf_few29 (x : Ex.Wk) (p : Ex.Wa) (aW : Option Addr) (nW cW : Nat) (aM : Option Addr) (nM cM : Nat) (aH : Option Addr) (nH cH : Nat) (aQ : Option Addr) (nQ cQ : Nat) (w : World) (ha : Ex.At w x p)
    (m1 : nW ≤ 4611686018427387904) (m2 : nM ≤ 4611686018427387904) (m3 : nH ≤ 4611686018427387904) (m4 : nQ ≤ 4611686018427387904) :
    Calls Tryd.prog 14 #[Ex.workV x p, .agg #[.slice aW nW cW], .slice aM nM cM, .slice aH nH cH, .slice aQ nQ cQ] w fun e w' =>
      e = .returned (.bool (Rf.fewAll x nW nM nH nQ)) ∧ Below w.heap.size w w' :=
  rf_few29_a _ _ _ _ _ _ _ _ _ _ _ _ _ _ _ _ _ _ _ _ _ _ _ _ _ _ _ _ _ _ _ _ _ w _ (fun W => rf_few19 _ _ _ _ _ _ _ _ _ _ _ _ _ _ _ _ _ _ _ _ _ W ha.lro ha.lts ha.lps ha.lss ha.lsg) m1 m2 m3 m4
end Go.Proofs.YtjoieglhmladhaaDoor
