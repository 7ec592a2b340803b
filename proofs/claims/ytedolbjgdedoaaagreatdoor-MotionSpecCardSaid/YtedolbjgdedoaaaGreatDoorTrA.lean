/- Walks: the reference of layer 19: Check. -/
import Derived.Test.YtedolbjgdedoaaaGreatDoorRqz
set_option linter.unusedSimpArgs false
set_option linter.unusedVariables false
set_option maxRecDepth 100000
set_option maxHeartbeats 1000000
namespace Go.Proofs.YtedolbjgdedoaaaGreatDoor
open Go.RowKit Go.Shelf

theorem rq_chk19_1 (wd dp ta tb tc : Int) (aR : Option Addr) (nR cR : Nat) (n : Int) (aT : Option Addr) (nT cT : Nat) (aP : Option Addr) (nP cP : Nat) (aS : Option Addr) (nS cS : Nat) (aG : Option Addr) (nG cG : Nat) (w : World) (l1 : nR ≤ 4611686018427387904) (l2 : nG ≤ 4611686018427387904) (d0 d1 : Bool) (e0 : decide ((64 : Int) < nR) = d0) (e1 : decide ((4096 : Int) < nG) = d1) (h : (d0 || d1) = true) :
  Calls Tryz.prog 73 #[Ex.wv wd dp ta tb tc aR nR cR n aT nT cT aP nP cP aS nS cS aG nG cG] w fun e w' => e = .returned (.int .i64 2) ∧ Below w.heap.size w w' := by
 cases d0
 ·cases d1
  ·simp at h
  ·clear h
   go_enter Tryz.func73, Tryz.ntmps73
   go_wp2
   go_ret
   exact ⟨rfl, by exact Kit.gr⟩
 ·clear h e1
  go_enter Tryz.func73, Tryz.ntmps73
  go_wp2
  go_ret
  exact ⟨rfl, by exact Kit.gr⟩

theorem rq_chk19_2 (wd dp ta tb tc : Int) (aR : Option Addr) (nR cR : Nat) (n : Int) (aT : Option Addr) (nT cT : Nat) (aP : Option Addr) (nP cP : Nat) (aS : Option Addr) (nS cS : Nat) (aG : Option Addr) (nG cG : Nat) (w : World) (l1 : (nR : Int) ≤ 64) (l2 : (nG : Int) ≤ 4096) (r : Int) (hr : (r != 0) = true) (hc : ∀ W, Below w.heap.size w W → Rq.Chk13 n aT nT cT aP nP cP aS nS cS W r) :
  Calls Tryz.prog 73 #[Ex.wv wd dp ta tb tc aR nR cR n aT nT cT aP nP cP aS nS cS aG nG cG] w fun e w' => e = .returned (.int .i64 r) ∧ Below w.heap.size w w' := by
 have HC := qh hc; clear hc
 go_enter Tryz.func73, Tryz.ntmps73
 skip
 (go_wp2_with (fail); refine ((HC.out _ (by exact Kit.gr) : Rq.Chk13 _ _ _ _ _ _ _ _ _ _ _ _)).mono ?_; rintro e w1_ ⟨rfl, hb1_⟩; have hp1_ : Below w.heap.size w w1_ := Below.trans (by exact Kit.gr) (hb1_.mono (by first | assumption | (simp; done) | (simp; omega) | omega)); have hw1_ : Below w.heap.size w w1_ := hp1_; obtain ⟨hc1_, hf1_⟩ := Kit.bcell hb1_; have z1_w : w.heap.size < w1_.heap.size := (by have := hb1_.size; first | omega | (simp at this; omega)); obtain ⟨g1_w_0, g1_w_1, g1_w_2, g1_w_3, g1_w_4, g1_w_5, g1_w_6, g1_w_7, g1_w_8, g1_w_9, g1_w_10⟩ : w1_.cell? ⟨w.heap.size, 0, none⟩ = some (.int .i64 wd) ∧ w1_.cell? ⟨w.heap.size, 1, none⟩ = some (.int .i64 dp) ∧ w1_.cell? ⟨w.heap.size, 2, none⟩ = some (.int .i64 ta) ∧ w1_.cell? ⟨w.heap.size, 3, none⟩ = some (.int .i64 tb) ∧ w1_.cell? ⟨w.heap.size, 4, none⟩ = some (.int .i64 tc) ∧ w1_.cell? ⟨w.heap.size, 5, none⟩ = some (.slice aR nR cR) ∧ w1_.cell? ⟨w.heap.size, 6, none⟩ = some (.int .i64 n) ∧ w1_.cell? ⟨w.heap.size, 7, none⟩ = some (.slice aT nT cT) ∧ w1_.cell? ⟨w.heap.size, 8, none⟩ = some (.slice aP nP cP) ∧ w1_.cell? ⟨w.heap.size, 9, none⟩ = some (.slice aS nS cS) ∧ w1_.cell? ⟨w.heap.size, 10, none⟩ = some (.slice aG nG cG) := (by refine ⟨?_, ?_, ?_, ?_, ?_, ?_, ?_, ?_, ?_, ?_, ?_⟩ <;> (rw [hc1_ _ _ (by first | assumption | (simp; done) | (simp; omega) | omega)]; first | assumption | (simp [go_sem]; done) | (simp [go_sem, *]; done))); clear hc1_ hf1_; clear hb1_ hp1_)
 go_wp2
 go_ret
 exact ⟨rfl, by exact Kit.gr⟩

theorem rq_chk19_3 (wd dp ta tb tc : Int) (aR : Option Addr) (nR cR : Nat) (n : Int) (aT : Option Addr) (nT cT : Nat) (aP : Option Addr) (nP cP : Nat) (aS : Option Addr) (nS cS : Nat) (aG : Option Addr) (nG cG : Nat) (w : World) (l1 : (nR : Int) ≤ 64) (l2 : (nG : Int) ≤ 4096) (hc : ∀ W, Below w.heap.size w W → Rq.Chk13 n aT nT cT aP nP cP aS nS cS W 0) (b : Bool)
  (hb : ∀ W, Below w.heap.size w W → Calls Tryz.prog 122 #[Ex.wv wd dp ta tb tc aR nR cR n aT nT cT aP nP cP aS nS cS aG nG cG] W fun e w' => e = .returned (.bool b) ∧ Below W.heap.size W w') :
  Calls Tryz.prog 73 #[Ex.wv wd dp ta tb tc aR nR cR n aT nT cT aP nP cP aS nS cS aG nG cG] w fun e w' => e = .returned (.int .i64 (if b = true then 0 else 190)) ∧ Below w.heap.size w w' := by
 have HC := qh hc; clear hc
 have HB := qh hb; clear hb
 cases b
 all_goals
  go_enter Tryz.func73, Tryz.ntmps73
  skip
  (go_wp2_with (fail); refine ((HC.out _ (by exact Kit.gr) : Rq.Chk13 _ _ _ _ _ _ _ _ _ _ _ _)).mono ?_; rintro e w1_ ⟨rfl, hb1_⟩; have hp1_ : Below w.heap.size w w1_ := Below.trans (by exact Kit.gr) (hb1_.mono (by first | assumption | (simp; done) | (simp; omega) | omega)); have hw1_ : Below w.heap.size w w1_ := hp1_; obtain ⟨hc1_, hf1_⟩ := Kit.bcell hb1_; have z1_w : w.heap.size < w1_.heap.size := (by have := hb1_.size; first | omega | (simp at this; omega)); obtain ⟨g1_w_0, g1_w_1, g1_w_2, g1_w_3, g1_w_4, g1_w_5, g1_w_6, g1_w_7, g1_w_8, g1_w_9, g1_w_10⟩ : w1_.cell? ⟨w.heap.size, 0, none⟩ = some (.int .i64 wd) ∧ w1_.cell? ⟨w.heap.size, 1, none⟩ = some (.int .i64 dp) ∧ w1_.cell? ⟨w.heap.size, 2, none⟩ = some (.int .i64 ta) ∧ w1_.cell? ⟨w.heap.size, 3, none⟩ = some (.int .i64 tb) ∧ w1_.cell? ⟨w.heap.size, 4, none⟩ = some (.int .i64 tc) ∧ w1_.cell? ⟨w.heap.size, 5, none⟩ = some (.slice aR nR cR) ∧ w1_.cell? ⟨w.heap.size, 6, none⟩ = some (.int .i64 n) ∧ w1_.cell? ⟨w.heap.size, 7, none⟩ = some (.slice aT nT cT) ∧ w1_.cell? ⟨w.heap.size, 8, none⟩ = some (.slice aP nP cP) ∧ w1_.cell? ⟨w.heap.size, 9, none⟩ = some (.slice aS nS cS) ∧ w1_.cell? ⟨w.heap.size, 10, none⟩ = some (.slice aG nG cG) := (by refine ⟨?_, ?_, ?_, ?_, ?_, ?_, ?_, ?_, ?_, ?_, ?_⟩ <;> (rw [hc1_ _ _ (by first | assumption | (simp; done) | (simp; omega) | omega)]; first | assumption | (simp [go_sem]; done) | (simp [go_sem, *]; done))); clear hc1_ hf1_; clear hb1_ hp1_)
  (go_wp2_with (fail); refine (HB.out _ (by exact Kit.gr)).mono ?_; rintro e w2_ ⟨rfl, hb2_⟩; have hp2_ : Below w1_.heap.size w1_ w2_ := Below.trans (by exact Kit.gr) (hb2_.mono (by first | assumption | (simp; done) | (simp; omega) | omega)); have hw2_ : Below w.heap.size w w2_ := hw1_.trans (hp2_.mono hw1_.size); have z2_w : w.heap.size < w2_.heap.size := Nat.lt_of_lt_of_le z1_w hp2_.size; have g2_w_0 := Kit.ck hp2_ g1_w_0 z1_w; have g2_w_1 := Kit.ck hp2_ g1_w_1 z1_w; have g2_w_2 := Kit.ck hp2_ g1_w_2 z1_w; have g2_w_3 := Kit.ck hp2_ g1_w_3 z1_w; have g2_w_4 := Kit.ck hp2_ g1_w_4 z1_w; have g2_w_5 := Kit.ck hp2_ g1_w_5 z1_w; have g2_w_6 := Kit.ck hp2_ g1_w_6 z1_w; have g2_w_7 := Kit.ck hp2_ g1_w_7 z1_w; have g2_w_8 := Kit.ck hp2_ g1_w_8 z1_w; have g2_w_9 := Kit.ck hp2_ g1_w_9 z1_w; have g2_w_10 := Kit.ck hp2_ g1_w_10 z1_w; clear z1_w g1_w_0 g1_w_1 g1_w_2 g1_w_3 g1_w_4 g1_w_5 g1_w_6 g1_w_7 g1_w_8 g1_w_9 g1_w_10 hw1_ hb2_ hp2_)
  go_wp2
  go_ret
  exact ⟨rfl, by exact Kit.gr⟩

theorem rq_check19 (x : Ex.Wk) (p : Ex.Wa) (w : World) (ha : Ex.At w x p) : Calls Tryz.prog 73 #[Ex.workV x p] w fun e w' => e = .returned (.int .i64 (Ex.chk x)) ∧ Below w.heap.size w w' := by
 have hc : ∀ W, Below w.heap.size w W → Rq.Chk13 x.n p.aT x.ts.length p.cT p.aP x.ps.length p.cP p.aS x.ss.length p.cS W (Tp.chk x.n x.ts x.ps x.ss) := fun W hB =>
  rq_check13 x.n p.aT x.ts p.cT p.aP x.ps p.cP p.aS x.ss p.cS W ha.lts ha.lps ha.lss (ha.ts.kept hB nlr) (ha.ps.kept hB nlr) (ha.ss.kept hB nlr)
 unfold Ex.chk
 by_cases h : 64 < x.ro.length ∨ 4096 < x.sg.length
 ·rw [if_pos h]
  exact rq_chk19_1 _ _ _ _ _ _ _ _ _ _ _ _ _ _ _ _ _ _ _ _ _ w ha.lro ha.lsg _ _ rfl rfl (by simp; omega)
 rw [if_neg h]
 by_cases hr : Tp.chk x.n x.ts x.ps x.ss = 0
 ·rw [if_neg (by simpa using hr)]
  rw [hr] at hc
  have hn : 1 ≤ x.n ∧ x.n ≤ 4096 := by
   have hok : Tp.okC x.n x.ts x.ps x.ss = true := by
    unfold Tp.chk at hr
    split at hr
    ·rcases hc : Tp.okC x.n x.ts x.ps x.ss with _ | _
     ·simp [hc] at hr
     ·rfl
    ·omega
   simp only [Tp.okC, Bool.and_eq_true] at hok
   exact (Tp.inb_iff _ _ _).1 hok.1.1.1.1.1.1
  refine rq_chk19_3 _ _ _ _ _ _ _ _ _ _ _ _ _ _ _ _ _ _ _ _ _ w omg omg hc (Ex.okW x) (fun W hB => ?_)
  rcases hh : Ex.okH x with _ | _
  ·rw [show Ex.okW x = false by simp [Ex.okW, hh]]
   exact rq_right_1 _ _ _ _ _ _ _ _ _ _ _ _ _ _ _ _ _ _ _ _ _ W omg hh
  ·exact rq_right_2 x.wd x.dp x.ta x.tb x.tc p.aR x.ro p.cR x.n p.aT _ p.cT p.aP _ p.cP p.aS _ p.cS p.aG x.sg p.cG W omg omg hh (ha.ro.kept hB nlr) (ha.sg.kept hB nlr) hn.1 hn.2 _ (by show _ = _; simp [Ex.okW, hh])
 ·rw [if_pos hr]
  exact rq_chk19_2 _ _ _ _ _ _ _ _ _ _ _ _ _ _ _ _ _ _ _ _ _ w omg omg _ (by simpa using hr) hc
end Go.Proofs.YtedolbjgdedoaaaGreatDoor
