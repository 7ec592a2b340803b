/- Walks: the references of layer 19 (Check) and of layer 29 (ask, lifts, PairsOf, Pairs). -/
import Derived.Test.YtjoieglhmladhaaDoorRqz
import Derived.Test.YtjoieglhmladhaaDoorPpF
import Derived.Test.YtjoieglhmladhaaDoorRfA
import Derived.Test.YtjoieglhmladhaaDoorApL
namespace Go.Proofs.YtjoieglhmladhaaDoor
set_option linter.unusedVariables false
set_option linter.unusedSimpArgs false
open Go.RowKit Go.Shelf

set_option maxRecDepth 100000 in
set_option maxHeartbeats 1000000 in
theorem rq_chk19_1 (wd dp ta tb tc : Int) (aR : Option Addr) (nR cR : Nat) (n : Int) (aT : Option Addr) (nT cT : Nat) (aP : Option Addr) (nP cP : Nat) (aS : Option Addr) (nS cS : Nat) (aG : Option Addr) (nG cG : Nat) (w : World) (l1 : nR ≤ 4611686018427387904) (l2 : nG ≤ 4611686018427387904) (d0 d1 : Bool) (e0 : decide ((64 : Int) < nR) = d0) (e1 : decide ((4096 : Int) < nG) = d1) (h : (d0 || d1) = true) :
    Calls Tryd.prog 53 #[Ex.wv wd dp ta tb tc aR nR cR n aT nT cT aP nP cP aS nS cS aG nG cG] w fun e w' => e = .returned (.int .i64 2) ∧ Below w.heap.size w w' := by
  cases d0
  · cases d1
    · simp at h
    · clear h
      go_enter Tryd.func53, Tryd.ntmps53
      go_wp2
      go_ret
      exact ⟨rfl, by (repeat' first | (with_reducible first | exact Below.refl _ _ | assumption | refine Kit.below_drewN ?_ _ | refine Below.drew ?_ | refine Below.alloc ?_ ?_ _ | refine Below.setCell ?_ ?_ _ | exact Nat.le_refl _) | omega | (simp; omega) | (simp; done) | (apply Below.size; assumption))⟩
  · clear h e1
    go_enter Tryd.func53, Tryd.ntmps53
    go_wp2
    go_ret
    exact ⟨rfl, by (repeat' first | (with_reducible first | exact Below.refl _ _ | assumption | refine Kit.below_drewN ?_ _ | refine Below.drew ?_ | refine Below.alloc ?_ ?_ _ | refine Below.setCell ?_ ?_ _ | exact Nat.le_refl _) | omega | (simp; omega) | (simp; done) | (apply Below.size; assumption))⟩

set_option maxRecDepth 100000 in
set_option maxHeartbeats 1000000 in
theorem rq_chk19_2 (wd dp ta tb tc : Int) (aR : Option Addr) (nR cR : Nat) (n : Int) (aT : Option Addr) (nT cT : Nat) (aP : Option Addr) (nP cP : Nat) (aS : Option Addr) (nS cS : Nat) (aG : Option Addr) (nG cG : Nat) (w : World) (l1 : (nR : Int) ≤ 64) (l2 : (nG : Int) ≤ 4096) (r : Int) (hr : (r != 0) = true) (hc : ∀ W, Below w.heap.size w W → Rq.Chk13 n aT nT cT aP nP cP aS nS cS W r) :
    Calls Tryd.prog 53 #[Ex.wv wd dp ta tb tc aR nR cR n aT nT cT aP nP cP aS nS cS aG nG cG] w fun e w' => e = .returned (.int .i64 r) ∧ Below w.heap.size w w' := by
  have HC := Lib.hid hc; clear hc
  go_enter Tryd.func53, Tryd.ntmps53
  skip
  (go_wp2_with (fail); refine ((HC.out _ (by (repeat' first | (with_reducible first | exact Below.refl _ _ | assumption | refine Kit.below_drewN ?_ _ | refine Below.drew ?_ | refine Below.alloc ?_ ?_ _ | refine Below.setCell ?_ ?_ _ | exact Nat.le_refl _) | omega | (simp; omega) | (simp; done) | (apply Below.size; assumption))) : Rq.Chk13 _ _ _ _ _ _ _ _ _ _ _ _)).mono ?_; rintro e w1_ ⟨rfl, hb1_⟩; have hp1_ : Below w.heap.size w w1_ := Below.trans (by (repeat' first | (with_reducible first | exact Below.refl _ _ | assumption | refine Kit.below_drewN ?_ _ | refine Below.drew ?_ | refine Below.alloc ?_ ?_ _ | refine Below.setCell ?_ ?_ _ | exact Nat.le_refl _) | omega | (simp; omega) | (simp; done) | (apply Below.size; assumption))) (hb1_.mono (by first | assumption | (simp; done) | (simp; omega) | omega)); have hw1_ : Below w.heap.size w w1_ := hp1_; obtain ⟨hc1_, hf1_⟩ := Kit.bcell hb1_; have z1_w : w.heap.size < w1_.heap.size := (by have := hb1_.size; first | omega | (simp at this; omega)); obtain ⟨g1_w_0, g1_w_1, g1_w_2, g1_w_3, g1_w_4, g1_w_5, g1_w_6, g1_w_7, g1_w_8, g1_w_9, g1_w_10⟩ : w1_.cell? ⟨w.heap.size, 0, none⟩ = some (.int .i64 wd) ∧ w1_.cell? ⟨w.heap.size, 1, none⟩ = some (.int .i64 dp) ∧ w1_.cell? ⟨w.heap.size, 2, none⟩ = some (.int .i64 ta) ∧ w1_.cell? ⟨w.heap.size, 3, none⟩ = some (.int .i64 tb) ∧ w1_.cell? ⟨w.heap.size, 4, none⟩ = some (.int .i64 tc) ∧ w1_.cell? ⟨w.heap.size, 5, none⟩ = some (.slice aR nR cR) ∧ w1_.cell? ⟨w.heap.size, 6, none⟩ = some (.int .i64 n) ∧ w1_.cell? ⟨w.heap.size, 7, none⟩ = some (.slice aT nT cT) ∧ w1_.cell? ⟨w.heap.size, 8, none⟩ = some (.slice aP nP cP) ∧ w1_.cell? ⟨w.heap.size, 9, none⟩ = some (.slice aS nS cS) ∧ w1_.cell? ⟨w.heap.size, 10, none⟩ = some (.slice aG nG cG) := (by refine ⟨?_, ?_, ?_, ?_, ?_, ?_, ?_, ?_, ?_, ?_, ?_⟩ <;> (rw [hc1_ _ _ (by first | assumption | (simp; done) | (simp; omega) | omega)]; first | assumption | (simp [go_sem]; done) | (simp [go_sem, *]; done))); clear hc1_ hf1_; clear hb1_ hp1_)
  go_wp2
  go_ret
  exact ⟨rfl, by (repeat' first | (with_reducible first | exact Below.refl _ _ | assumption | refine Kit.below_drewN ?_ _ | refine Below.drew ?_ | refine Below.alloc ?_ ?_ _ | refine Below.setCell ?_ ?_ _ | exact Nat.le_refl _) | omega | (simp; omega) | (simp; done) | (apply Below.size; assumption))⟩

set_option maxRecDepth 100000 in
set_option maxHeartbeats 1000000 in
theorem rq_chk19_3 (wd dp ta tb tc : Int) (aR : Option Addr) (nR cR : Nat) (n : Int) (aT : Option Addr) (nT cT : Nat) (aP : Option Addr) (nP cP : Nat) (aS : Option Addr) (nS cS : Nat) (aG : Option Addr) (nG cG : Nat) (w : World) (l1 : (nR : Int) ≤ 64) (l2 : (nG : Int) ≤ 4096) (hc : ∀ W, Below w.heap.size w W → Rq.Chk13 n aT nT cT aP nP cP aS nS cS W 0) (b : Bool)
    (hb : ∀ W, Below w.heap.size w W → Calls Tryd.prog 76 #[Ex.wv wd dp ta tb tc aR nR cR n aT nT cT aP nP cP aS nS cS aG nG cG] W fun e w' => e = .returned (.bool b) ∧ Below W.heap.size W w') :
    Calls Tryd.prog 53 #[Ex.wv wd dp ta tb tc aR nR cR n aT nT cT aP nP cP aS nS cS aG nG cG] w fun e w' => e = .returned (.int .i64 (if b = true then 0 else 190)) ∧ Below w.heap.size w w' := by
  have HC := Lib.hid hc; clear hc
  have HB := Lib.hid hb; clear hb
  cases b
  all_goals
    go_enter Tryd.func53, Tryd.ntmps53
    skip
    (go_wp2_with (fail); refine ((HC.out _ (by (repeat' first | (with_reducible first | exact Below.refl _ _ | assumption | refine Kit.below_drewN ?_ _ | refine Below.drew ?_ | refine Below.alloc ?_ ?_ _ | refine Below.setCell ?_ ?_ _ | exact Nat.le_refl _) | omega | (simp; omega) | (simp; done) | (apply Below.size; assumption))) : Rq.Chk13 _ _ _ _ _ _ _ _ _ _ _ _)).mono ?_; rintro e w1_ ⟨rfl, hb1_⟩; have hp1_ : Below w.heap.size w w1_ := Below.trans (by (repeat' first | (with_reducible first | exact Below.refl _ _ | assumption | refine Kit.below_drewN ?_ _ | refine Below.drew ?_ | refine Below.alloc ?_ ?_ _ | refine Below.setCell ?_ ?_ _ | exact Nat.le_refl _) | omega | (simp; omega) | (simp; done) | (apply Below.size; assumption))) (hb1_.mono (by first | assumption | (simp; done) | (simp; omega) | omega)); have hw1_ : Below w.heap.size w w1_ := hp1_; obtain ⟨hc1_, hf1_⟩ := Kit.bcell hb1_; have z1_w : w.heap.size < w1_.heap.size := (by have := hb1_.size; first | omega | (simp at this; omega)); obtain ⟨g1_w_0, g1_w_1, g1_w_2, g1_w_3, g1_w_4, g1_w_5, g1_w_6, g1_w_7, g1_w_8, g1_w_9, g1_w_10⟩ : w1_.cell? ⟨w.heap.size, 0, none⟩ = some (.int .i64 wd) ∧ w1_.cell? ⟨w.heap.size, 1, none⟩ = some (.int .i64 dp) ∧ w1_.cell? ⟨w.heap.size, 2, none⟩ = some (.int .i64 ta) ∧ w1_.cell? ⟨w.heap.size, 3, none⟩ = some (.int .i64 tb) ∧ w1_.cell? ⟨w.heap.size, 4, none⟩ = some (.int .i64 tc) ∧ w1_.cell? ⟨w.heap.size, 5, none⟩ = some (.slice aR nR cR) ∧ w1_.cell? ⟨w.heap.size, 6, none⟩ = some (.int .i64 n) ∧ w1_.cell? ⟨w.heap.size, 7, none⟩ = some (.slice aT nT cT) ∧ w1_.cell? ⟨w.heap.size, 8, none⟩ = some (.slice aP nP cP) ∧ w1_.cell? ⟨w.heap.size, 9, none⟩ = some (.slice aS nS cS) ∧ w1_.cell? ⟨w.heap.size, 10, none⟩ = some (.slice aG nG cG) := (by refine ⟨?_, ?_, ?_, ?_, ?_, ?_, ?_, ?_, ?_, ?_, ?_⟩ <;> (rw [hc1_ _ _ (by first | assumption | (simp; done) | (simp; omega) | omega)]; first | assumption | (simp [go_sem]; done) | (simp [go_sem, *]; done))); clear hc1_ hf1_; clear hb1_ hp1_)
    (go_wp2_with (fail); refine (HB.out _ (by (repeat' first | (with_reducible first | exact Below.refl _ _ | assumption | refine Kit.below_drewN ?_ _ | refine Below.drew ?_ | refine Below.alloc ?_ ?_ _ | refine Below.setCell ?_ ?_ _ | exact Nat.le_refl _) | omega | (simp; omega) | (simp; done) | (apply Below.size; assumption)))).mono ?_; rintro e w2_ ⟨rfl, hb2_⟩; have hp2_ : Below w1_.heap.size w1_ w2_ := Below.trans (by (repeat' first | (with_reducible first | exact Below.refl _ _ | assumption | refine Kit.below_drewN ?_ _ | refine Below.drew ?_ | refine Below.alloc ?_ ?_ _ | refine Below.setCell ?_ ?_ _ | exact Nat.le_refl _) | omega | (simp; omega) | (simp; done) | (apply Below.size; assumption))) (hb2_.mono (by first | assumption | (simp; done) | (simp; omega) | omega)); have hw2_ : Below w.heap.size w w2_ := hw1_.trans (hp2_.mono hw1_.size); have z2_w : w.heap.size < w2_.heap.size := Nat.lt_of_lt_of_le z1_w hp2_.size; have g2_w_0 := Kit.ck hp2_ g1_w_0 z1_w; have g2_w_1 := Kit.ck hp2_ g1_w_1 z1_w; have g2_w_2 := Kit.ck hp2_ g1_w_2 z1_w; have g2_w_3 := Kit.ck hp2_ g1_w_3 z1_w; have g2_w_4 := Kit.ck hp2_ g1_w_4 z1_w; have g2_w_5 := Kit.ck hp2_ g1_w_5 z1_w; have g2_w_6 := Kit.ck hp2_ g1_w_6 z1_w; have g2_w_7 := Kit.ck hp2_ g1_w_7 z1_w; have g2_w_8 := Kit.ck hp2_ g1_w_8 z1_w; have g2_w_9 := Kit.ck hp2_ g1_w_9 z1_w; have g2_w_10 := Kit.ck hp2_ g1_w_10 z1_w; clear z1_w g1_w_0 g1_w_1 g1_w_2 g1_w_3 g1_w_4 g1_w_5 g1_w_6 g1_w_7 g1_w_8 g1_w_9 g1_w_10 hw1_ hb2_ hp2_)
    go_wp2
    go_ret
    exact ⟨rfl, by (repeat' first | (with_reducible first | exact Below.refl _ _ | assumption | refine Kit.below_drewN ?_ _ | refine Below.drew ?_ | refine Below.alloc ?_ ?_ _ | refine Below.setCell ?_ ?_ _ | exact Nat.le_refl _) | omega | (simp; omega) | (simp; done) | (apply Below.size; assumption))⟩

/-- The reference's Check of a work says what the program's says. -/
theorem rq_check19 (x : Ex.Wk) (p : Ex.Wa) (w : World) (ha : Ex.At w x p) : Calls Tryd.prog 53 #[Ex.workV x p] w fun e w' => e = .returned (.int .i64 (Ex.chk x)) ∧ Below w.heap.size w w' := by
  have hc : ∀ W, Below w.heap.size w W → Rq.Chk13 x.n p.aT x.ts.length p.cT p.aP x.ps.length p.cP p.aS x.ss.length p.cS W (Tp.chk x.n x.ts x.ps x.ss) := fun W hB =>
    rq_check13 x.n p.aT x.ts p.cT p.aP x.ps p.cP p.aS x.ss p.cS W ha.lts ha.lps ha.lss (ha.ts.kept hB (Nat.le_refl _)) (ha.ps.kept hB (Nat.le_refl _)) (ha.ss.kept hB (Nat.le_refl _))
  unfold Ex.chk
  by_cases h : 64 < x.ro.length ∨ 4096 < x.sg.length
  · rw [if_pos h]
    exact rq_chk19_1 _ _ _ _ _ _ _ _ _ _ _ _ _ _ _ _ _ _ _ _ _ w ha.lro ha.lsg _ _ rfl rfl (by simp; omega)
  rw [if_neg h]
  by_cases hr : Tp.chk x.n x.ts x.ps x.ss = 0
  · rw [if_neg (by simpa using hr)]
    rw [hr] at hc
    have hn : 1 ≤ x.n ∧ x.n ≤ 4096 := by
      have hok : Tp.okC x.n x.ts x.ps x.ss = true := by
        unfold Tp.chk at hr
        split at hr
        · rcases hc : Tp.okC x.n x.ts x.ps x.ss with _ | _
          · simp [hc] at hr
          · rfl
        · omega
      simp only [Tp.okC, Bool.and_eq_true] at hok
      exact (Tp.inb_iff _ _ _).1 hok.1.1.1.1.1.1
    refine rq_chk19_3 _ _ _ _ _ _ _ _ _ _ _ _ _ _ _ _ _ _ _ _ _ w (by omega) (by omega) hc (Ex.okW x) (fun W hB => ?_)
    rcases hh : Ex.okH x with _ | _
    · rw [show Ex.okW x = false by simp [Ex.okW, hh]]
      exact rq_right_1 _ _ _ _ _ _ _ _ _ _ _ _ _ _ _ _ _ _ _ _ _ W (by omega) hh
    · exact rq_right_2 x.wd x.dp x.ta x.tb x.tc p.aR x.ro p.cR x.n p.aT _ p.cT p.aP _ p.cP p.aS _ p.cS p.aG x.sg p.cG W (by omega) (by omega) hh (ha.ro.kept hB (Nat.le_refl _)) (ha.sg.kept hB (Nat.le_refl _)) hn.1 hn.2 _ (by show _ = _; simp [Ex.okW, hh])
  · rw [if_pos hr]
    exact rq_chk19_2 _ _ _ _ _ _ _ _ _ _ _ _ _ _ _ _ _ _ _ _ _ w (by omega) (by omega) _ (by simpa using hr) hc

set_option maxRecDepth 100000 in
set_option maxHeartbeats 1000000 in
theorem rn_ask_1 (wd dp ta tb tc : Int) (aR : Option Addr) (nR cR : Nat) (n : Int) (aT : Option Addr) (nT cT : Nat) (aP : Option Addr) (nP cP : Nat) (aS : Option Addr) (nS cS : Nat) (aG : Option Addr) (nG cG : Nat) (bar : Int) (w : World) (r : Int) (hr : (r == 0) = false) (hc : ∀ W, Below w.heap.size w W → Calls Tryd.prog 53 #[Ex.wv wd dp ta tb tc aR nR cR n aT nT cT aP nP cP aS nS cS aG nG cG] W fun e w' => e = .returned (.int .i64 r) ∧ Below W.heap.size W w') :
    Calls Tryd.prog 45 #[Ex.wv wd dp ta tb tc aR nR cR n aT nT cT aP nP cP aS nS cS aG nG cG, .int .i64 bar] w fun e w' => e = .returned (.int .i64 r) ∧ Below w.heap.size w w' := by
  have HC := Lib.hid hc; clear hc
  go_enter Tryd.func45, Tryd.ntmps45
  skip
  (go_wp2_with (fail); refine (HC.out _ (by (repeat' first | (with_reducible first | exact Below.refl _ _ | assumption | refine Kit.below_drewN ?_ _ | refine Below.drew ?_ | refine Below.alloc ?_ ?_ _ | refine Below.setCell ?_ ?_ _ | exact Nat.le_refl _) | omega | (simp; omega) | (simp; done) | (apply Below.size; assumption)))).mono ?_; rintro e w1_ ⟨rfl, hb1_⟩; have hp1_ : Below w.heap.size w w1_ := Below.trans (by (repeat' first | (with_reducible first | exact Below.refl _ _ | assumption | refine Kit.below_drewN ?_ _ | refine Below.drew ?_ | refine Below.alloc ?_ ?_ _ | refine Below.setCell ?_ ?_ _ | exact Nat.le_refl _) | omega | (simp; omega) | (simp; done) | (apply Below.size; assumption))) (hb1_.mono (by first | assumption | (simp; done) | (simp; omega) | omega)); have hw1_ : Below w.heap.size w w1_ := hp1_; obtain ⟨hc1_, hf1_⟩ := Kit.bcell hb1_; have z1_w : w.heap.size < w1_.heap.size := (by have := hb1_.size; first | omega | (simp at this; omega)); obtain ⟨g1_w_0, g1_w_1, g1_w_2, g1_w_3, g1_w_4, g1_w_5, g1_w_6, g1_w_7, g1_w_8, g1_w_9, g1_w_10⟩ : w1_.cell? ⟨w.heap.size, 0, none⟩ = some (.int .i64 wd) ∧ w1_.cell? ⟨w.heap.size, 1, none⟩ = some (.int .i64 dp) ∧ w1_.cell? ⟨w.heap.size, 2, none⟩ = some (.int .i64 ta) ∧ w1_.cell? ⟨w.heap.size, 3, none⟩ = some (.int .i64 tb) ∧ w1_.cell? ⟨w.heap.size, 4, none⟩ = some (.int .i64 tc) ∧ w1_.cell? ⟨w.heap.size, 5, none⟩ = some (.slice aR nR cR) ∧ w1_.cell? ⟨w.heap.size, 6, none⟩ = some (.int .i64 n) ∧ w1_.cell? ⟨w.heap.size, 7, none⟩ = some (.slice aT nT cT) ∧ w1_.cell? ⟨w.heap.size, 8, none⟩ = some (.slice aP nP cP) ∧ w1_.cell? ⟨w.heap.size, 9, none⟩ = some (.slice aS nS cS) ∧ w1_.cell? ⟨w.heap.size, 10, none⟩ = some (.slice aG nG cG) := (by refine ⟨?_, ?_, ?_, ?_, ?_, ?_, ?_, ?_, ?_, ?_, ?_⟩ <;> (rw [hc1_ _ _ (by first | assumption | (simp; done) | (simp; omega) | omega)]; first | assumption | (simp [go_sem]; done) | (simp [go_sem, *]; done))); clear hc1_ hf1_; clear hb1_ hp1_)
  go_wp2
  go_ret
  exact ⟨rfl, by (repeat' first | (with_reducible first | exact Below.refl _ _ | assumption | refine Kit.below_drewN ?_ _ | refine Below.drew ?_ | refine Below.alloc ?_ ?_ _ | refine Below.setCell ?_ ?_ _ | exact Nat.le_refl _) | omega | (simp; omega) | (simp; done) | (apply Below.size; assumption))⟩

set_option maxRecDepth 100000 in
set_option maxHeartbeats 1000000 in
theorem rn_ask_2 (wd dp ta tb tc : Int) (aR : Option Addr) (nR cR : Nat) (n : Int) (aT : Option Addr) (nT cT : Nat) (aP : Option Addr) (nP cP : Nat) (aS : Option Addr) (nS cS : Nat) (aG : Option Addr) (nG cG : Nat) (bar : Int) (w : World) (n1 : 1 ≤ n) (n2 : n ≤ 4096) (hc : ∀ W, Below w.heap.size w W → Calls Tryd.prog 53 #[Ex.wv wd dp ta tb tc aR nR cR n aT nT cT aP nP cP aS nS cS aG nG cG] W fun e w' => e = .returned (.int .i64 0) ∧ Below W.heap.size W w') :
    Calls Tryd.prog 45 #[Ex.wv wd dp ta tb tc aR nR cR n aT nT cT aP nP cP aS nS cS aG nG cG, .int .i64 bar] w fun e w' => e = .returned (.int .i64 (if Tp.inb bar 0 (n - 1) = true then 0 else 1)) ∧ Below w.heap.size w w' := by
  have HC := Lib.hid hc; clear hc
  rcases d : Tp.inb bar 0 (n - 1) with _ | _
  all_goals
    go_enter Tryd.func45, Tryd.ntmps45
    skip
    (go_wp2_with (fail); refine (HC.out _ (by (repeat' first | (with_reducible first | exact Below.refl _ _ | assumption | refine Kit.below_drewN ?_ _ | refine Below.drew ?_ | refine Below.alloc ?_ ?_ _ | refine Below.setCell ?_ ?_ _ | exact Nat.le_refl _) | omega | (simp; omega) | (simp; done) | (apply Below.size; assumption)))).mono ?_; rintro e w1_ ⟨rfl, hb1_⟩; have hp1_ : Below w.heap.size w w1_ := Below.trans (by (repeat' first | (with_reducible first | exact Below.refl _ _ | assumption | refine Kit.below_drewN ?_ _ | refine Below.drew ?_ | refine Below.alloc ?_ ?_ _ | refine Below.setCell ?_ ?_ _ | exact Nat.le_refl _) | omega | (simp; omega) | (simp; done) | (apply Below.size; assumption))) (hb1_.mono (by first | assumption | (simp; done) | (simp; omega) | omega)); have hw1_ : Below w.heap.size w w1_ := hp1_; obtain ⟨hc1_, hf1_⟩ := Kit.bcell hb1_; have z1_w : w.heap.size < w1_.heap.size := (by have := hb1_.size; first | omega | (simp at this; omega)); obtain ⟨g1_w_0, g1_w_1, g1_w_2, g1_w_3, g1_w_4, g1_w_5, g1_w_6, g1_w_7, g1_w_8, g1_w_9, g1_w_10⟩ : w1_.cell? ⟨w.heap.size, 0, none⟩ = some (.int .i64 wd) ∧ w1_.cell? ⟨w.heap.size, 1, none⟩ = some (.int .i64 dp) ∧ w1_.cell? ⟨w.heap.size, 2, none⟩ = some (.int .i64 ta) ∧ w1_.cell? ⟨w.heap.size, 3, none⟩ = some (.int .i64 tb) ∧ w1_.cell? ⟨w.heap.size, 4, none⟩ = some (.int .i64 tc) ∧ w1_.cell? ⟨w.heap.size, 5, none⟩ = some (.slice aR nR cR) ∧ w1_.cell? ⟨w.heap.size, 6, none⟩ = some (.int .i64 n) ∧ w1_.cell? ⟨w.heap.size, 7, none⟩ = some (.slice aT nT cT) ∧ w1_.cell? ⟨w.heap.size, 8, none⟩ = some (.slice aP nP cP) ∧ w1_.cell? ⟨w.heap.size, 9, none⟩ = some (.slice aS nS cS) ∧ w1_.cell? ⟨w.heap.size, 10, none⟩ = some (.slice aG nG cG) := (by refine ⟨?_, ?_, ?_, ?_, ?_, ?_, ?_, ?_, ?_, ?_, ?_⟩ <;> (rw [hc1_ _ _ (by first | assumption | (simp; done) | (simp; omega) | omega)]; first | assumption | (simp [go_sem]; done) | (simp [go_sem, *]; done))); clear hc1_ hf1_; clear hb1_ hp1_)
    go_wp2_with (go_at_call 40; refine (rf_within _ _ _ _).mono ?_; rintro e w' ⟨rfl, rfl⟩)
    go_ret
    exact ⟨rfl, by (repeat' first | (with_reducible first | exact Below.refl _ _ | assumption | refine Kit.below_drewN ?_ _ | refine Below.drew ?_ | refine Below.alloc ?_ ?_ _ | refine Below.setCell ?_ ?_ _ | exact Nat.le_refl _) | omega | (simp; omega) | (simp; done) | (apply Below.size; assumption))⟩

theorem rn_ask (x : Ex.Wk) (p : Ex.Wa) (bar : Int) (w : World) (ha : Ex.At w x p) : Calls Tryd.prog 45 #[Ex.workV x p, .int .i64 bar] w fun e w' => e = .returned (.int .i64 (Ap.chk x bar)) ∧ Below w.heap.size w w' := by
  have hc := fun (W : World) (hB : Below w.heap.size w W) => rq_check19 x p W (ha.kept hB (Nat.le_refl _))
  unfold Ap.chk
  by_cases h : Ex.chk x = 0
  · rw [if_pos h]
    rw [h] at hc
    exact rn_ask_2 _ _ _ _ _ _ _ _ _ _ _ _ _ _ _ _ _ _ _ _ _ bar w (Ex.bars h).1 (Ex.bars h).2 hc
  · rw [if_neg h]
    exact rn_ask_1 _ _ _ _ _ _ _ _ _ _ _ _ _ _ _ _ _ _ _ _ _ bar w _ (by simpa using h) hc

set_option maxRecDepth 100000 in
set_option maxHeartbeats 1000000 in
theorem rn_lifts (wd dp ta tb tc : Int) (aR : Option Addr) (nR cR : Nat) (n : Int) (aT : Option Addr) (nT cT : Nat) (aP : Option Addr) (nP cP : Nat) (aS : Option Addr) (nS cS : Nat) (aG : Option Addr) (sg : List Ex.Sg) (cG : Nat) (bar x y : Int) (w : World) (lG : sg.length ≤ 4096) (hy : 0 ≤ y ∧ y ≤ 4096) (hG : Tp.Sl w aG sg.length 14 (Ex.sgc sg)) :
    Calls Tryd.prog 69 #[Ex.wv wd dp ta tb tc aR nR cR n aT nT cT aP nP cP aS nS cS aG sg.length cG, .int .i64 bar, .int .i64 x, .int .i64 y] w fun e w' => e = .returned (.bool (Rf.lf bar sg x y)) ∧ Below w.heap.size w w' := by
  obtain ⟨hy1, hy2⟩ := hy
  have HG := Lib.hid hG; clear hG
  go_enter Tryd.func69, Tryd.ntmps69
  go_wp2
  refine Kit.wp_name ?_
  intro W0 hW0
  have b0 : Below w.heap.size w W0 := by rw [hW0]; (repeat' first | (with_reducible first | exact Below.refl _ _ | assumption | refine Kit.below_drewN ?_ _ | refine Below.drew ?_ | refine Below.alloc ?_ ?_ _ | refine Below.setCell ?_ ?_ _ | exact Nat.le_refl _) | omega | (simp; omega) | (simp; done) | (apply Below.size; assumption))
  have s0 : w.heap.size < W0.heap.size := by rw [hW0]; simp
  have K10 := Lib.hid (show W0.cell? ⟨w.heap.size, 10, none⟩ = some (.slice aG sg.length cG) by rw [hW0]; simp [go_sem])
  clear hW0
  go_loopw [9] (fun v9 wr => ∃ k : Nat, v9 = .int .i64 k ∧ k ≤ sg.length ∧ Hid (Rf.lf bar sg x y = Rf.lf bar (sg.drop k) x y) ∧ Hid (Below W0.heap.size W0 wr))
    (fun v9 _ => sg.length - (intOf v9).toNat)
  case atStart => exact ⟨0, rfl, Nat.zero_le _, Lib.hid (by simp), Lib.hid (Below.refl _ _)⟩
  case round =>
    obtain ⟨k, rfl, hk, HI, HB⟩ := hrel
    have hwr : Below w.heap.size w wr := b0.trans (HB.out.mono b0.size)
    have k10 : wr.cell? ⟨w.heap.size, 10, none⟩ = some (.slice aG sg.length cG) := (HB.out.cell (by simpa using s0)).trans K10.out
    have zwr : w.heap.size < wr.heap.size := by have h5 := HB.out.size; omega
    by_cases hlt : k < sg.length
    · obtain ⟨ay, rfl, hay, _⟩ := HG.out.at hlt
      have HSl := HG.out.kept hwr (Nat.le_refl _)
      have e0 := HSl.head hlt (by omega)
      have e1 := HSl.field hlt (j := 1) (by omega) (by omega)
      have e2 := HSl.field hlt (j := 2) (by omega) (by omega)
      have e3 := HSl.field hlt (j := 3) (by omega) (by omega)
      have e4 := HSl.field hlt (j := 4) (by omega) (by omega)
      have e5 := HSl.field hlt (j := 5) (by omega) (by omega)
      have e6 := HSl.field hlt (j := 6) (by omega) (by omega)
      have e7 := HSl.field hlt (j := 7) (by omega) (by omega)
      have e8 := HSl.field hlt (j := 8) (by omega) (by omega)
      have e9 := HSl.field hlt (j := 9) (by omega) (by omega)
      have e10 := HSl.field hlt (j := 10) (by omega) (by omega)
      have e11 := HSl.field hlt (j := 11) (by omega) (by omega)
      have e12 := HSl.field hlt (j := 12) (by omega) (by omega)
      have e13 := HSl.field hlt (j := 13) (by omega) (by omega)
      clear HSl
      have hdrop := Tp.drop_cons sg default k hlt
      generalize hx : sg.getD k default = z at hdrop
      simp only [Ex.sgc, hx] at e0 e1 e2 e3 e4 e5 e6 e7 e8 e9 e10 e11 e12 e13
      have hI : Rf.lf bar sg x y = (Rf.lf1 bar x y z || Rf.lf bar (sg.drop (k + 1)) x y) := by rw [HI.out, hdrop]; rfl
      have HI2 := Lib.hid hI
      clear hI hdrop hx HI
      obtain ⟨x0, x1, x2, x3, x4, x5, x6, x7, x8, x9, x10, x11, x12, x13⟩ := z
      dsimp only at e0 e1 e2 e3 e4 e5 e6 e7 e8 e9 e10 e11 e12 e13
      simp only [Rf.lf1] at HI2
      have hbk : (ay.add (k * 14)).block < w.heap.size := by rw [Tp.add_block]; exact hay
      have zb : (ay.add (k * 14)).block < wr.heap.size := by omega
      have HWR := Lib.hid hwr
      clear hwr
      rcases d1 : (x2 == bar) with _ | _
      · have HN := Lib.hid (show Rf.lf bar sg x y = Rf.lf bar (sg.drop (k + 1)) x y by rw [HI2.out]; simp [*])
        clear HI2
        go_wp2
        go_roundw
        case rel => exact ⟨k + 1, by go_num, by omega, HN, Lib.hid (by have := HB.out; (repeat' first | (with_reducible first | exact Below.refl _ _ | assumption | refine Kit.below_drewN ?_ _ | refine Below.drew ?_ | refine Below.alloc ?_ ?_ _ | refine Below.setCell ?_ ?_ _ | exact Nat.le_refl _) | omega | (simp; omega) | (simp; done) | (apply Below.size; assumption)))⟩
        case measure => simp [intOf]; omega
      rcases d2 : (x4 == 7) with _ | _
      · have HN := Lib.hid (show Rf.lf bar sg x y = Rf.lf bar (sg.drop (k + 1)) x y by rw [HI2.out]; simp [*])
        clear HI2
        go_wp2
        go_roundw
        case rel => exact ⟨k + 1, by go_num, by omega, HN, Lib.hid (by have := HB.out; (repeat' first | (with_reducible first | exact Below.refl _ _ | assumption | refine Kit.below_drewN ?_ _ | refine Below.drew ?_ | refine Below.alloc ?_ ?_ _ | refine Below.setCell ?_ ?_ _ | exact Nat.le_refl _) | omega | (simp; omega) | (simp; done) | (apply Below.size; assumption)))⟩
        case measure => simp [intOf]; omega
      rcases d3 : (x1 == x) with _ | _
      · have HN := Lib.hid (show Rf.lf bar sg x y = Rf.lf bar (sg.drop (k + 1)) x y by rw [HI2.out]; simp [*])
        clear HI2
        go_wp2
        go_roundw
        case rel => exact ⟨k + 1, by go_num, by omega, HN, Lib.hid (by have := HB.out; (repeat' first | (with_reducible first | exact Below.refl _ _ | assumption | refine Kit.below_drewN ?_ _ | refine Below.drew ?_ | refine Below.alloc ?_ ?_ _ | refine Below.setCell ?_ ?_ _ | exact Nat.le_refl _) | omega | (simp; omega) | (simp; done) | (apply Below.size; assumption)))⟩
        case measure => simp [intOf]; omega
      rcases d4 : (x9 == y + 1) with _ | _
      · have HN := Lib.hid (show Rf.lf bar sg x y = Rf.lf bar (sg.drop (k + 1)) x y by rw [HI2.out]; simp [*])
        clear HI2
        go_wp2
        go_roundw
        case rel => exact ⟨k + 1, by go_num, by omega, HN, Lib.hid (by have := HB.out; (repeat' first | (with_reducible first | exact Below.refl _ _ | assumption | refine Kit.below_drewN ?_ _ | refine Below.drew ?_ | refine Below.alloc ?_ ?_ _ | refine Below.setCell ?_ ?_ _ | exact Nat.le_refl _) | omega | (simp; omega) | (simp; done) | (apply Below.size; assumption)))⟩
        case measure => simp [intOf]; omega
      have HN := Lib.hid (show Rf.lf bar sg x y = true by rw [HI2.out]; simp [*])
      clear HI2
      go_wp2
      go_ret
      exact ⟨by rw [HN.out]; rfl, by have := HWR.out; (repeat' first | (with_reducible first | exact Below.refl _ _ | assumption | refine Kit.below_drewN ?_ _ | refine Below.drew ?_ | refine Below.alloc ?_ ?_ _ | refine Below.setCell ?_ ?_ _ | exact Nat.le_refl _) | omega | (simp; omega) | (simp; done) | (apply Below.size; assumption))⟩
    · have HN := Lib.hid (show Rf.lf bar sg x y = false by rw [HI.out, List.drop_of_length_le (by omega)]; rfl)
      have HWR := Lib.hid hwr
      clear hwr HI
      go_wp2
      go_ret
      exact ⟨by rw [HN.out]; rfl, HWR.out⟩

end Go.Proofs.YtjoieglhmladhaaDoor
