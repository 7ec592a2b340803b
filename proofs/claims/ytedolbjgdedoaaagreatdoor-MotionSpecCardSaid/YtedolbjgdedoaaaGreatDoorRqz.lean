/- Walks: the reference of layer 19: right, ahead of its loops. Walks: the reference of layer 19: right, its loops. -/
import Derived.Test.YtedolbjgdedoaaaGreatDoorRqy
import Derived.Test.YtedolbjgdedoaaaGreatDoorRqK
import Derived.Test.YtedolbjgdedoaaaGreatDoorRqx
import Derived.Test.YtedolbjgdedoaaaGreatDoorEx
set_option linter.unusedSimpArgs false
set_option linter.unusedVariables false
set_option maxRecDepth 100000
set_option maxHeartbeats 8000000
namespace Go.Proofs.YtedolbjgdedoaaaGreatDoor
open Go.RowKit

theorem rq14_t (a b c : Int) (w : World) (h : Tm.vld a b c = true) : RChk a b c 0 w := by have := r_check a b c w; rwa [if_pos h] at this
theorem rq14_f (a b c : Int) (w : World) (h : Tm.vld a b c = false) : RChk a b c 140 w := by have := r_check a b c w; rwa [if_neg (by simp [h])] at this

theorem rq_right_1 (wd dp ta tb tc : Int) (aR : Option Addr) (nR cR : Nat) (n : Int) (aT : Option Addr) (nT cT : Nat) (aP : Option Addr) (nP cP : Nat) (aS : Option Addr) (nS cS : Nat) (aG : Option Addr) (nG cG : Nat) (w : World) (l1 : nR ≤ 64) (h : Ex.okHn wd dp ta tb tc nR = false) :
  Calls Tryz.prog 122 #[Ex.wv wd dp ta tb tc aR nR cR n aT nT cT aP nP cP aS nS cS aG nG cG] w fun e w' => e = .returned (.bool false) ∧ Below w.heap.size w w' := by
 unfold Ex.okHn at h
 rcases c1 : Tp.inb wd 1 1000 with _ | _
 ·clear h
  go_enter Tryz.func122, Tryz.ntmps122
  go_wp2_with (go_at_call 74; refine (rq_in19 _ _ _ _).mono ?_; rintro e w' ⟨rfl, rfl⟩)
  go_ret
  exact ⟨rfl, by exact Kit.gr⟩
 rcases c2 : Tp.inb dp 1 1000 with _ | _
 ·clear h
  go_enter Tryz.func122, Tryz.ntmps122
  go_wp2_with (go_at_call 74; refine (rq_in19 _ _ _ _).mono ?_; rintro e w' ⟨rfl, rfl⟩)
  go_ret
  exact ⟨rfl, by exact Kit.gr⟩
 rcases c3 : Tm.vld ta tb tc with _ | _
 ·have HV := qh c3
  clear h c3
  go_enter Tryz.func122, Tryz.ntmps122
  skip
  (go_wp2_with ((go_at_call 74; refine (rq_in19 _ _ _ _).mono ?_; rintro e w' ⟨rfl, rfl⟩)); refine ((rq14_f ta tb tc _ HV.out : RChk _ _ _ _ _)).mono ?_; rintro e w1_ ⟨rfl, hb1_⟩; have hp1_ : Below w.heap.size w w1_ := Below.trans (by exact Kit.gr) (hb1_.mono (by first | assumption | (simp; done) | (simp; omega) | omega)); have hw1_ : Below w.heap.size w w1_ := hp1_; obtain ⟨hc1_, hf1_⟩ := Kit.bcell hb1_; have z1_w : w.heap.size < w1_.heap.size := (by have := hb1_.size; first | omega | (simp at this; omega)); obtain ⟨g1_w_0, g1_w_1, g1_w_2, g1_w_3, g1_w_4, g1_w_5, g1_w_6, g1_w_7, g1_w_8, g1_w_9, g1_w_10⟩ : w1_.cell? ⟨w.heap.size, 0, none⟩ = some (.int .i64 wd) ∧ w1_.cell? ⟨w.heap.size, 1, none⟩ = some (.int .i64 dp) ∧ w1_.cell? ⟨w.heap.size, 2, none⟩ = some (.int .i64 ta) ∧ w1_.cell? ⟨w.heap.size, 3, none⟩ = some (.int .i64 tb) ∧ w1_.cell? ⟨w.heap.size, 4, none⟩ = some (.int .i64 tc) ∧ w1_.cell? ⟨w.heap.size, 5, none⟩ = some (.slice aR nR cR) ∧ w1_.cell? ⟨w.heap.size, 6, none⟩ = some (.int .i64 n) ∧ w1_.cell? ⟨w.heap.size, 7, none⟩ = some (.slice aT nT cT) ∧ w1_.cell? ⟨w.heap.size, 8, none⟩ = some (.slice aP nP cP) ∧ w1_.cell? ⟨w.heap.size, 9, none⟩ = some (.slice aS nS cS) ∧ w1_.cell? ⟨w.heap.size, 10, none⟩ = some (.slice aG nG cG) := (by refine ⟨?_, ?_, ?_, ?_, ?_, ?_, ?_, ?_, ?_, ?_, ?_⟩ <;> (rw [hc1_ _ _ (by first | assumption | (simp; done) | (simp; omega) | omega)]; first | assumption | (simp [go_sem]; done) | (simp [go_sem, *]; done))); clear hc1_ hf1_; clear hb1_ hp1_)
  go_wp2
  go_ret
  exact ⟨rfl, by exact Kit.gr⟩
 have HV := qh c3
 rcases c4 : decide (0 ≤ ta) with _ | _
 ·have c4' : decide (ta < 0) = true := by simp at c4 ⊢; omega
  clear h c3 c4
  go_enter Tryz.func122, Tryz.ntmps122
  skip
  (go_wp2_with ((go_at_call 74; refine (rq_in19 _ _ _ _).mono ?_; rintro e w' ⟨rfl, rfl⟩)); refine ((rq14_t ta tb tc _ HV.out : RChk _ _ _ _ _)).mono ?_; rintro e w1_ ⟨rfl, hb1_⟩; have hp1_ : Below w.heap.size w w1_ := Below.trans (by exact Kit.gr) (hb1_.mono (by first | assumption | (simp; done) | (simp; omega) | omega)); have hw1_ : Below w.heap.size w w1_ := hp1_; obtain ⟨hc1_, hf1_⟩ := Kit.bcell hb1_; have z1_w : w.heap.size < w1_.heap.size := (by have := hb1_.size; first | omega | (simp at this; omega)); obtain ⟨g1_w_0, g1_w_1, g1_w_2, g1_w_3, g1_w_4, g1_w_5, g1_w_6, g1_w_7, g1_w_8, g1_w_9, g1_w_10⟩ : w1_.cell? ⟨w.heap.size, 0, none⟩ = some (.int .i64 wd) ∧ w1_.cell? ⟨w.heap.size, 1, none⟩ = some (.int .i64 dp) ∧ w1_.cell? ⟨w.heap.size, 2, none⟩ = some (.int .i64 ta) ∧ w1_.cell? ⟨w.heap.size, 3, none⟩ = some (.int .i64 tb) ∧ w1_.cell? ⟨w.heap.size, 4, none⟩ = some (.int .i64 tc) ∧ w1_.cell? ⟨w.heap.size, 5, none⟩ = some (.slice aR nR cR) ∧ w1_.cell? ⟨w.heap.size, 6, none⟩ = some (.int .i64 n) ∧ w1_.cell? ⟨w.heap.size, 7, none⟩ = some (.slice aT nT cT) ∧ w1_.cell? ⟨w.heap.size, 8, none⟩ = some (.slice aP nP cP) ∧ w1_.cell? ⟨w.heap.size, 9, none⟩ = some (.slice aS nS cS) ∧ w1_.cell? ⟨w.heap.size, 10, none⟩ = some (.slice aG nG cG) := (by refine ⟨?_, ?_, ?_, ?_, ?_, ?_, ?_, ?_, ?_, ?_, ?_⟩ <;> (rw [hc1_ _ _ (by first | assumption | (simp; done) | (simp; omega) | omega)]; first | assumption | (simp [go_sem]; done) | (simp [go_sem, *]; done))); clear hc1_ hf1_; clear hb1_ hp1_)
  go_wp2
  go_ret
  exact ⟨rfl, by exact Kit.gr⟩
 have c4' : decide (ta < 0) = false := by simp at c4 ⊢; omega
 rcases c5 : decide (0 ≤ tb) with _ | _
 ·have c5' : decide (tb < 0) = true := by simp at c5 ⊢; omega
  clear h c3 c4 c5
  go_enter Tryz.func122, Tryz.ntmps122
  skip
  (go_wp2_with ((go_at_call 74; refine (rq_in19 _ _ _ _).mono ?_; rintro e w' ⟨rfl, rfl⟩)); refine ((rq14_t ta tb tc _ HV.out : RChk _ _ _ _ _)).mono ?_; rintro e w1_ ⟨rfl, hb1_⟩; have hp1_ : Below w.heap.size w w1_ := Below.trans (by exact Kit.gr) (hb1_.mono (by first | assumption | (simp; done) | (simp; omega) | omega)); have hw1_ : Below w.heap.size w w1_ := hp1_; obtain ⟨hc1_, hf1_⟩ := Kit.bcell hb1_; have z1_w : w.heap.size < w1_.heap.size := (by have := hb1_.size; first | omega | (simp at this; omega)); obtain ⟨g1_w_0, g1_w_1, g1_w_2, g1_w_3, g1_w_4, g1_w_5, g1_w_6, g1_w_7, g1_w_8, g1_w_9, g1_w_10⟩ : w1_.cell? ⟨w.heap.size, 0, none⟩ = some (.int .i64 wd) ∧ w1_.cell? ⟨w.heap.size, 1, none⟩ = some (.int .i64 dp) ∧ w1_.cell? ⟨w.heap.size, 2, none⟩ = some (.int .i64 ta) ∧ w1_.cell? ⟨w.heap.size, 3, none⟩ = some (.int .i64 tb) ∧ w1_.cell? ⟨w.heap.size, 4, none⟩ = some (.int .i64 tc) ∧ w1_.cell? ⟨w.heap.size, 5, none⟩ = some (.slice aR nR cR) ∧ w1_.cell? ⟨w.heap.size, 6, none⟩ = some (.int .i64 n) ∧ w1_.cell? ⟨w.heap.size, 7, none⟩ = some (.slice aT nT cT) ∧ w1_.cell? ⟨w.heap.size, 8, none⟩ = some (.slice aP nP cP) ∧ w1_.cell? ⟨w.heap.size, 9, none⟩ = some (.slice aS nS cS) ∧ w1_.cell? ⟨w.heap.size, 10, none⟩ = some (.slice aG nG cG) := (by refine ⟨?_, ?_, ?_, ?_, ?_, ?_, ?_, ?_, ?_, ?_, ?_⟩ <;> (rw [hc1_ _ _ (by first | assumption | (simp; done) | (simp; omega) | omega)]; first | assumption | (simp [go_sem]; done) | (simp [go_sem, *]; done))); clear hc1_ hf1_; clear hb1_ hp1_)
  go_wp2
  go_ret
  exact ⟨rfl, by exact Kit.gr⟩
 have c5' : decide (tb < 0) = false := by simp at c5 ⊢; omega
 rcases c6 : decide (0 < nR) with _ | _
 ·have c6' : ((nR : Int) == 0) = true := by simp at c6 ⊢; omega
  clear h c3 c4 c5 c6
  go_enter Tryz.func122, Tryz.ntmps122
  skip
  (go_wp2_with ((go_at_call 74; refine (rq_in19 _ _ _ _).mono ?_; rintro e w' ⟨rfl, rfl⟩)); refine ((rq14_t ta tb tc _ HV.out : RChk _ _ _ _ _)).mono ?_; rintro e w1_ ⟨rfl, hb1_⟩; have hp1_ : Below w.heap.size w w1_ := Below.trans (by exact Kit.gr) (hb1_.mono (by first | assumption | (simp; done) | (simp; omega) | omega)); have hw1_ : Below w.heap.size w w1_ := hp1_; obtain ⟨hc1_, hf1_⟩ := Kit.bcell hb1_; have z1_w : w.heap.size < w1_.heap.size := (by have := hb1_.size; first | omega | (simp at this; omega)); obtain ⟨g1_w_0, g1_w_1, g1_w_2, g1_w_3, g1_w_4, g1_w_5, g1_w_6, g1_w_7, g1_w_8, g1_w_9, g1_w_10⟩ : w1_.cell? ⟨w.heap.size, 0, none⟩ = some (.int .i64 wd) ∧ w1_.cell? ⟨w.heap.size, 1, none⟩ = some (.int .i64 dp) ∧ w1_.cell? ⟨w.heap.size, 2, none⟩ = some (.int .i64 ta) ∧ w1_.cell? ⟨w.heap.size, 3, none⟩ = some (.int .i64 tb) ∧ w1_.cell? ⟨w.heap.size, 4, none⟩ = some (.int .i64 tc) ∧ w1_.cell? ⟨w.heap.size, 5, none⟩ = some (.slice aR nR cR) ∧ w1_.cell? ⟨w.heap.size, 6, none⟩ = some (.int .i64 n) ∧ w1_.cell? ⟨w.heap.size, 7, none⟩ = some (.slice aT nT cT) ∧ w1_.cell? ⟨w.heap.size, 8, none⟩ = some (.slice aP nP cP) ∧ w1_.cell? ⟨w.heap.size, 9, none⟩ = some (.slice aS nS cS) ∧ w1_.cell? ⟨w.heap.size, 10, none⟩ = some (.slice aG nG cG) := (by refine ⟨?_, ?_, ?_, ?_, ?_, ?_, ?_, ?_, ?_, ?_, ?_⟩ <;> (rw [hc1_ _ _ (by first | assumption | (simp; done) | (simp; omega) | omega)]; first | assumption | (simp [go_sem]; done) | (simp [go_sem, *]; done))); clear hc1_ hf1_; clear hb1_ hp1_)
  go_wp2
  go_ret
  exact ⟨rfl, by exact Kit.gr⟩
 simp [c1, c2, c3, c4, c5, c6] at h

theorem rq_in19_b (n lo hi : Int) (w : World) : Calls Tryz.prog 74 #[.int .i64 n, .int .i64 lo, .int .i64 hi] w fun e w' => e = .returned (.bool (Tp.inb n lo hi)) ∧ Below w.heap.size w w' :=
 (rq_in19 n lo hi w).mono fun e w' ⟨h1, h2⟩ => ⟨h1, by rw [h2]; exact Below.refl _ _⟩
namespace Rq
def badG (R n pv : Int) (k : Nat) (s : Ex.Sg) : Bool := !Tp.inb s.id 0 1048576 || (decide (0 < k) && decide (s.id ≤ pv)) || !Tp.inb s.role 0 (R - 1) || !Tp.inb s.bar 0 (n - 1) || !Tp.inb s.mark 1 3
theorem badG_ok {R n pv : Int} {k : Nat} {s : Ex.Sg} (h1 : -1 ≤ pv) (h2 : k = 0 → pv = -1) (h3 : 0 < k → 0 ≤ pv) :
  Ex.okG1 R n pv s = (!badG R n pv k s && (Tp.inb s.kind 1 9 && Ex.ok2 s (Ex.rule s.kind.toNat) R) && spn s) := by
 rw [spn_bad]
 have e : (decide (pv < s.id) && decide (s.id ≤ 1048576)) = (Tp.inb s.id 0 1048576 && !(decide (0 < k) && decide (s.id ≤ pv))) := by
  rw [Bool.eq_iff_iff]
  simp only [Bool.and_eq_true, decide_eq_true_iff, Tp.inb_iff, Bool.not_eq_true', Bool.and_eq_false_iff, decide_eq_false_iff_not]
  constructor
  ·rintro ⟨a, b⟩
   exact ⟨⟨by omega, b⟩, .inr omg⟩
  ·rintro ⟨⟨a, b⟩, c⟩
   refine ⟨?_, b⟩
   by_cases hk : 0 < k
   ·have := c.resolve_left omg; omega
   ·have := h2 omg; omega
 unfold Ex.okG1 Ex.okSign Ex.ok1 badG
 rw [e]
 cases Tp.inb s.id 0 1048576 <;> cases (decide (0 < k) && decide (s.id ≤ pv)) <;> cases Tp.inb s.kind 1 9 <;> cases Tp.inb s.role 0 (R - 1) <;> cases Tp.inb s.bar 0 (n - 1) <;> cases Tp.inb s.mark 1 3 <;> simp [Bool.and_assoc]
end Rq
theorem Rq.rb_bad {r a b : Bool} (hr : Hid (r = (a && b))) (h : (a && b) = false) : Ending.returned (.bool false) = .returned (.bool r) := by rw [hr.out, h]
theorem Rq.rb_good {r a b : Bool} (hr : Hid (r = (a && b))) (h : (a && b) = true) : Ending.returned (.bool true) = .returned (.bool r) := by rw [hr.out, h]

theorem rq_right_2 (wd dp ta tb tc : Int) (aR : Option Addr) (ro : List Ex.Ro) (cR : Nat) (n : Int) (aT : Option Addr) (nT cT : Nat) (aP : Option Addr) (nP cP : Nat) (aS : Option Addr) (nS cS : Nat) (aG : Option Addr) (sg : List Ex.Sg) (cG : Nat) (w : World)
  (l1 : (ro.length : Int) ≤ 64) (l2 : (sg.length : Int) ≤ 4096) (h : Ex.okHn wd dp ta tb tc ro.length = true)
  (hR : Tp.Sl w aR ro.length 4 (Ex.roc ro)) (hG : Tp.Sl w aG sg.length 14 (Ex.sgc sg)) (n1 : 1 ≤ n) (n2 : n ≤ 4096) (r : Bool) (hr : Hid (r = (Ex.vR wd dp ro && Ex.vG ro.length n (-1) sg))) :
  Calls Tryz.prog 122 #[Ex.wv wd dp ta tb tc aR ro.length cR n aT nT cT aP nP cP aS nS cS aG sg.length cG] w fun e w' => e = .returned (.bool r) ∧ Below w.heap.size w w' := by
 have HR := qh hR; clear hR
 have HG := qh hG; clear hG
 simp only [Ex.okHn, Bool.and_eq_true, decide_eq_true_eq] at h
 obtain ⟨⟨⟨⟨⟨c1, c2⟩, c3⟩, c4⟩, c5⟩, c6⟩ := h
 have HV := qh c3; clear c3
 have wd1 := (Tp.inb_iff _ _ _).1 c1
 have dp1 := (Tp.inb_iff _ _ _).1 c2
 have c4' : decide (ta < 0) = false := by simp; omega
 have c5' : decide (tb < 0) = false := by simp; omega
 have c6' : ((ro.length : Int) == 0) = false := by simp; intro h; simp [h] at c6
 go_enter Tryz.func122, Tryz.ntmps122
 skip
 (go_wp2_with ((go_at_call 74; refine (rq_in19 _ _ _ _).mono ?_; rintro e w' ⟨rfl, rfl⟩)); refine ((rq14_t ta tb tc _ HV.out : RChk _ _ _ _ _)).mono ?_; rintro e w1_ ⟨rfl, hb1_⟩; have hp1_ : Below w.heap.size w w1_ := Below.trans (by exact Kit.gr) (hb1_.mono (by first | assumption | (simp; done) | (simp; omega) | omega)); have hw1_ : Below w.heap.size w w1_ := hp1_; obtain ⟨hc1_, hf1_⟩ := Kit.bcell hb1_; have z1_w : w.heap.size < w1_.heap.size := (by have := hb1_.size; first | omega | (simp at this; omega)); obtain ⟨g1_w_0, g1_w_1, g1_w_2, g1_w_3, g1_w_4, g1_w_5, g1_w_6, g1_w_7, g1_w_8, g1_w_9, g1_w_10⟩ : w1_.cell? ⟨w.heap.size, 0, none⟩ = some (.int .i64 wd) ∧ w1_.cell? ⟨w.heap.size, 1, none⟩ = some (.int .i64 dp) ∧ w1_.cell? ⟨w.heap.size, 2, none⟩ = some (.int .i64 ta) ∧ w1_.cell? ⟨w.heap.size, 3, none⟩ = some (.int .i64 tb) ∧ w1_.cell? ⟨w.heap.size, 4, none⟩ = some (.int .i64 tc) ∧ w1_.cell? ⟨w.heap.size, 5, none⟩ = some (.slice aR ro.length cR) ∧ w1_.cell? ⟨w.heap.size, 6, none⟩ = some (.int .i64 n) ∧ w1_.cell? ⟨w.heap.size, 7, none⟩ = some (.slice aT nT cT) ∧ w1_.cell? ⟨w.heap.size, 8, none⟩ = some (.slice aP nP cP) ∧ w1_.cell? ⟨w.heap.size, 9, none⟩ = some (.slice aS nS cS) ∧ w1_.cell? ⟨w.heap.size, 10, none⟩ = some (.slice aG sg.length cG) := (by refine ⟨?_, ?_, ?_, ?_, ?_, ?_, ?_, ?_, ?_, ?_, ?_⟩ <;> (rw [hc1_ _ _ (by first | assumption | (simp; done) | (simp; omega) | omega)]; first | assumption | (simp [go_sem]; done) | (simp [go_sem, *]; done))); clear hc1_ hf1_; clear hb1_ hp1_)
 go_wp2
 refine Kit.wp_name ?_
 intro W0 hW0
 have b0 : Below w.heap.size w W0 := by rw [hW0]; exact Kit.gr
 have k0 : W0.cell? ⟨w.heap.size, 0, none⟩ = some (.int .i64 wd) := by rw [hW0]; assumption
 have k1 : W0.cell? ⟨w.heap.size, 1, none⟩ = some (.int .i64 dp) := by rw [hW0]; assumption
 have k5 : W0.cell? ⟨w.heap.size, 5, none⟩ = some (.slice aR ro.length cR) := by rw [hW0]; assumption
 have k6 : W0.cell? ⟨w.heap.size, 6, none⟩ = some (.int .i64 n) := by rw [hW0]; assumption
 have k10 : W0.cell? ⟨w.heap.size, 10, none⟩ = some (.slice aG sg.length cG) := by rw [hW0]; assumption
 have s0 : w.heap.size < W0.heap.size := by rw [hW0]; assumption
 have K0 := qh k0; have K1 := qh k1; have K5 := qh k5; have K6 := qh k6; have K10 := qh k10
 clear k0 k1 k5 k6 k10 hW0 g1_w_0 g1_w_1 g1_w_2 g1_w_3 g1_w_4 g1_w_5 g1_w_6 g1_w_7 g1_w_8 g1_w_9 g1_w_10
 go_loopw [3] (fun v3 wr => ∃ k : Nat, v3 = .int .i64 k ∧ k ≤ ro.length ∧ Hid (Ex.vR wd dp ro = Ex.vR wd dp (ro.drop k)) ∧ Hid (Below W0.heap.size W0 wr))
  (fun v3 _ => ro.length - (intOf v3).toNat)
 case atStart => exact ⟨0, rfl, Nat.zero_le _, qh (by simp), qh (Below.refl _ _)⟩
 case round =>
  obtain ⟨k, rfl, hk, HVR, HB⟩ := hrel
  have hB := HB.out
  have hwr : Below w.heap.size w wr := b0.trans (hB.mono b0.size)
  have k5 : wr.cell? ⟨w.heap.size, 5, none⟩ = some (.slice aR ro.length cR) := (hB.cell (by simpa using s0)).trans K5.out
  by_cases hlt : k < ro.length
  ·obtain ⟨ar, rfl, har, _⟩ := HR.out.at hlt
   have HSl := (HR.out.kept b0 nlr).kept hB nlr
   have e0 := HSl.head hlt omg
   have e1 := HSl.field hlt (j := 1) omg omg
   have e2 := HSl.field hlt (j := 2) omg omg
   have e3 := HSl.field hlt (j := 3) omg omg
   clear HSl
   have hdrop := Tp.drop_cons ro (.empty, 0, 0, 0) k hlt
   generalize hx : ro.getD k (.empty, 0, 0, 0) = x at hdrop
   simp only [Ex.roc, hx] at e0 e1 e2 e3
   obtain ⟨xn, xx, xy, xf⟩ := x
   dsimp only at e0 e1 e2 e3
   have hV : Ex.vR wd dp ro = (Ex.okR1 wd dp (xn, xx, xy, xf) && Ex.vR wd dp (ro.drop (k + 1))) := by rw [HVR.out, hdrop]; rfl
   have HV2 := qh hV
   have HX := qh hx
   clear hV hdrop hx HVR
   have hbk : (ar.add (k * 4)).block < w.heap.size := by rw [Tp.add_block]; exact har
   have k0 : wr.cell? ⟨w.heap.size, 0, none⟩ = some (.int .i64 wd) := (hB.cell (by simpa using s0)).trans K0.out
   have k1 : wr.cell? ⟨w.heap.size, 1, none⟩ = some (.int .i64 dp) := (hB.cell (by simpa using s0)).trans K1.out
   have z0 : w.heap.size < wr.heap.size := by have h5 := hB.size; omega
   have HWR := qh hwr
   have zb : (ar.add (k * 4)).block < wr.heap.size := by omega
   clear hB hwr
   rcases d1 : Tp.inb xx 0 wd with _ | _
   ·go_wp2_with (go_at_call 74; refine (rq_in19 _ _ _ _).mono ?_; rintro e w' ⟨rfl, rfl⟩)
    go_ret
    exact ⟨Rq.rb_bad hr (by rw [HV2.out]; simp [Ex.okR1, d1]), by have := HWR.out; exact Kit.gr⟩
   rcases d2 : Tp.inb xy 0 dp with _ | _
   ·go_wp2_with (go_at_call 74; refine (rq_in19 _ _ _ _).mono ?_; rintro e w' ⟨rfl, rfl⟩)
    go_ret
    exact ⟨Rq.rb_bad hr (by rw [HV2.out]; simp [Ex.okR1, d2]), by have := HWR.out; exact Kit.gr⟩
   rcases d3 : Tp.inb xf 0 7 with _ | _
   ·go_wp2_with (go_at_call 74; refine (rq_in19 _ _ _ _).mono ?_; rintro e w' ⟨rfl, rfl⟩)
    go_ret
    exact ⟨Rq.rb_bad hr (by rw [HV2.out]; simp [Ex.okR1, d3]), by have := HWR.out; exact Kit.gr⟩
   go_wp2_with (go_at_call 74; refine (rq_in19 _ _ _ _).mono ?_; rintro e w' ⟨rfl, rfl⟩)
   go_roundw
   case rel => exact ⟨k + 1, by go_num, by omega, qh (by rw [HV2.out]; simp [Ex.okR1, d1, d2, d3]), qh (by have := HB.out; exact Kit.gr)⟩
   case measure => simp [intOf]; omega
  ·have hvr : Ex.vR wd dp ro = true := by rw [HVR.out, List.drop_of_length_le omg]; rfl
   have HVRT := qh hvr
   have k10 : wr.cell? ⟨w.heap.size, 10, none⟩ = some (.slice aG sg.length cG) := (hB.cell (by simpa using s0)).trans K10.out
   clear hvr HVR hB hwr
   go_wp2
   clear k10 k5
   have HB1 := HB
   clear HB hk hlt
   go_loopw [5] (fun v5 wr => ∃ (k : Nat) (pv : Int), v5 = .int .i64 k ∧ k ≤ sg.length ∧ Hid (-1 ≤ pv ∧ (0 < k → (sg.getD (k - 1) default).id = pv) ∧ (k = 0 → pv = -1) ∧ (0 < k → 0 ≤ pv)) ∧ Hid (Ex.vG ro.length n (-1) sg = Ex.vG ro.length n pv (sg.drop k)) ∧ Hid (Below W0.heap.size W0 wr))
    (fun v5 _ => sg.length - (intOf v5).toNat)
   case atStart => exact ⟨0, -1, rfl, Nat.zero_le _, qh ⟨by omega, by omega, by omega, by omega⟩, qh (by simp), HB1⟩
   case round =>
    obtain ⟨k, pv, rfl, hk, HL, HVG, HB⟩ := hrel
    have hwr : Below w.heap.size w wr := b0.trans (HB.out.mono b0.size)
    by_cases hlt : k < sg.length
    ·obtain ⟨ay, rfl, hay, _⟩ := HG.out.at hlt
     have HSl := HG.out.kept hwr nlr
     have e0 := HSl.head hlt omg
     have e1 := HSl.field hlt (j := 1) omg omg
     have e2 := HSl.field hlt (j := 2) omg omg
     have e3 := HSl.field hlt (j := 3) omg omg
     have e4 := HSl.field hlt (j := 4) omg omg
     have e5 := HSl.field hlt (j := 5) omg omg
     have e6 := HSl.field hlt (j := 6) omg omg
     have e7 := HSl.field hlt (j := 7) omg omg
     have e8 := HSl.field hlt (j := 8) omg omg
     have e9 := HSl.field hlt (j := 9) omg omg
     have e10 := HSl.field hlt (j := 10) omg omg
     have e11 := HSl.field hlt (j := 11) omg omg
     have e12 := HSl.field hlt (j := 12) omg omg
     have e13 := HSl.field hlt (j := 13) omg omg
     clear HSl
     have hdrop := Tp.drop_cons sg default k hlt
     generalize hx : sg.getD k default = x at hdrop
     simp only [Ex.sgc, hx] at e0 e1 e2 e3 e4 e5 e6 e7 e8 e9 e10 e11 e12 e13
     have hV : Ex.vG ro.length n (-1) sg = (Ex.okG1 ro.length n pv x && Ex.vG ro.length n x.id (sg.drop (k + 1))) := by rw [HVG.out, hdrop]; rfl
     rw [Rq.badG_ok (k := k) HL.out.1 HL.out.2.2.1 HL.out.2.2.2] at hV
     have HV2 := qh hV
     have HX := qh hx
     have HID := qh (show Rq.badG ro.length n pv k x = false → 0 ≤ x.id by
      intro h
      simp only [Rq.badG, Bool.or_eq_false_iff, Bool.not_eq_false', Tp.inb_iff] at h
      exact h.1.1.1.1.1)
     clear hV hdrop hx HVG
     have TF := qh (fun W => rq_fields x ro.length W)
     have TS := qh (fun W => rq_span x W)
     obtain ⟨x0, x1, x2, x3, x4, x5, x6, x7, x8, x9, x10, x11, x12, x13⟩ := x
     dsimp only at e0 e1 e2 e3 e4 e5 e6 e7 e8 e9 e10 e11 e12 e13
     generalize hbf : (Tp.inb x4 1 9 && Ex.ok2 ⟨x0, x1, x2, x3, x4, x5, x6, x7, x8, x9, x10, x11, x12, x13⟩ (Ex.rule x4.toNat) ro.length) = bf at HV2 TF
     generalize Rq.spn ⟨x0, x1, x2, x3, x4, x5, x6, x7, x8, x9, x10, x11, x12, x13⟩ = bs at HV2 TS
     clear hbf
     obtain ⟨B, hBd⟩ : ∃ B, B = Rq.badG ro.length n pv k ⟨x0, x1, x2, x3, x4, x5, x6, x7, x8, x9, x10, x11, x12, x13⟩ := ⟨_, rfl⟩
     rw [← hBd] at HV2 HID
     have hbk : (ay.add (k * 14)).block < w.heap.size := by rw [Tp.add_block]; exact hay
     have zwr : w.heap.size < wr.heap.size := by have h5 := HB.out.size; omega
     have zb : (ay.add (k * 14)).block < wr.heap.size := by omega
     have k5 : wr.cell? ⟨w.heap.size, 5, none⟩ = some (.slice aR ro.length cR) := (HB.out.cell (by simpa using s0)).trans K5.out
     have k6 : wr.cell? ⟨w.heap.size, 6, none⟩ = some (.int .i64 n) := (HB.out.cell (by simpa using s0)).trans K6.out
     have k10 : wr.cell? ⟨w.heap.size, 10, none⟩ = some (.slice (some ay) sg.length cG) := (HB.out.cell (by simpa using s0)).trans K10.out
     have HWR := qh hwr
     clear hwr
     go_upto_region 13 with fail
     refine Kit.wp_name ?_; intro W1 hW1
     have HW1 := qh hW1
     have hB1 : Below wr.heap.size wr W1 := by rw [hW1]; exact Kit.gr
     have HB2 := qh hB1
     clear hB1
     go_cut [5, 130] from 85 to 130 (fun s5 s130 wx => s5 = .int .i64 k ∧ s130 = .bool B ∧ Hid (Below W1.heap.size W1 wx))
     case first =>
      have zW : wr.heap.size < W1.heap.size := by rw [hW1]; simp
      have q5 : ∀ z : Kit.Wd W1, z.val.cell? ⟨w.heap.size, 5, none⟩ = some (.slice aR ro.length cR) := fun z => z.cell ((HB2.out.cell (p := ⟨w.heap.size, 5, none⟩) zwr).trans k5) (by simp; omega)
      have q6 : ∀ z : Kit.Wd W1, z.val.cell? ⟨w.heap.size, 6, none⟩ = some (.int .i64 n) := fun z => z.cell ((HB2.out.cell (p := ⟨w.heap.size, 6, none⟩) zwr).trans k6) (by simp; omega)
      have q10 : ∀ z : Kit.Wd W1, z.val.cell? ⟨w.heap.size, 10, none⟩ = some (.slice (some ay) sg.length cG) := fun z => z.cell ((HB2.out.cell (p := ⟨w.heap.size, 10, none⟩) zwr).trans k10) (by simp; omega)
      have p0 : ∀ z : Kit.Wd W1, z.val.cell? ⟨wr.heap.size, 0, none⟩ = some (.int .i64 x0) := fun z => z.cell (by rw [hW1]; simp [go_sem]) (by simp; omega)
      have p1 : ∀ z : Kit.Wd W1, z.val.cell? ⟨wr.heap.size, 1, none⟩ = some (.int .i64 x1) := fun z => z.cell (by rw [hW1]; simp [go_sem]) (by simp; omega)
      have p2 : ∀ z : Kit.Wd W1, z.val.cell? ⟨wr.heap.size, 2, none⟩ = some (.int .i64 x2) := fun z => z.cell (by rw [hW1]; simp [go_sem]) (by simp; omega)
      have p3 : ∀ z : Kit.Wd W1, z.val.cell? ⟨wr.heap.size, 3, none⟩ = some (.int .i64 x3) := fun z => z.cell (by rw [hW1]; simp [go_sem]) (by simp; omega)
      have hpc : 0 < k → ∀ z : Kit.Wd W1, z.val.cell? (ay.add ((k - 1) * 14)) = some (.int .i64 pv) := fun h z => by
       have := (HG.out.kept (HWR.out.trans ((HB2.out.trans (z.below.mono HB2.out.size)).mono HWR.out.size)) nlr).head (i := k - 1) omg omg
       rw [this]; simp only [Ex.sgc]; rw [HL.out.2.1 h]
      have TG0 := qh (fun W => rq_in19_b x0 0 1048576 W)
      have TG1 := qh (fun W => rq_in19_b x1 0 (ro.length - 1) W)
      have TG2 := qh (fun W => rq_in19_b x2 0 (n - 1) W)
      have TG3 := qh (fun W => rq_in19_b x3 1 3 W)
      clear hW1 k5 k6 k10 e0 e1 e2 e3 e4 e5 e6 e7 e8 e9 e10 e11 e12 e13
      rcases b0' : Tp.inb x0 0 1048576 with _ | _
      ·rw [b0'] at TG0
       have HBV := qh (show B = true by rw [hBd]; simp only [Rq.badG]; simp [*])
       clear hBd hpc
       (refine Kit.wp_region_cls (by kernel_rfl) (by kernel_rfl) ?_; (repeat (go_big_quiet_step (first | (with_reducible exact Kit.calls_cls _ (TG0.out _)) | (with_reducible exact Kit.calls_cls _ (TG1.out _)) | (with_reducible exact Kit.calls_cls _ (TG2.out _)) | (with_reducible exact Kit.calls_cls _ (TG3.out _))))); refine wpQuiet_nil ?_; intro z)
       have HZ := qh z.below
       generalize z.val = Z at *
       clear q5 q6 q10 p0 p1 p2 p3 z
       go_wp2_with fail
       go_meet
       case rel => exact ⟨rfl, by rw [HBV.out], HZ⟩
      rw [b0'] at TG0
      by_cases hk0 : k = 0
      ·have kz : decide (0 < k) = false := by simp; omega
       clear hk0 hpc
       rcases b1 : Tp.inb x1 0 (ro.length - 1) with _ | _
       ·rw [b1] at TG1
        have HBV := qh (show B = true by rw [hBd]; simp only [Rq.badG]; simp [*])
        clear hBd
        (refine Kit.wp_region_cls (by kernel_rfl) (by kernel_rfl) ?_; (repeat (go_big_quiet_step (first | (with_reducible exact Kit.calls_cls _ (TG0.out _)) | (with_reducible exact Kit.calls_cls _ (TG1.out _)) | (with_reducible exact Kit.calls_cls _ (TG2.out _)) | (with_reducible exact Kit.calls_cls _ (TG3.out _))))); refine wpQuiet_nil ?_; intro z)
        have HZ := qh z.below
        generalize z.val = Z at *
        clear q5 q6 q10 p0 p1 p2 p3 z
        go_wp2_with fail
        go_meet
        case rel => exact ⟨rfl, by rw [HBV.out], HZ⟩
       rw [b1] at TG1
       rcases b2 : Tp.inb x2 0 (n - 1) with _ | _
       ·rw [b2] at TG2
        have HBV := qh (show B = true by rw [hBd]; simp only [Rq.badG]; simp [*])
        clear hBd
        (refine Kit.wp_region_cls (by kernel_rfl) (by kernel_rfl) ?_; (repeat (go_big_quiet_step (first | (with_reducible exact Kit.calls_cls _ (TG0.out _)) | (with_reducible exact Kit.calls_cls _ (TG1.out _)) | (with_reducible exact Kit.calls_cls _ (TG2.out _)) | (with_reducible exact Kit.calls_cls _ (TG3.out _))))); refine wpQuiet_nil ?_; intro z)
        have HZ := qh z.below
        generalize z.val = Z at *
        clear q5 q6 q10 p0 p1 p2 p3 z
        go_wp2_with fail
        go_meet
        case rel => exact ⟨rfl, by rw [HBV.out], HZ⟩
       rw [b2] at TG2
       rcases b3 : Tp.inb x3 1 3 with _ | _
       ·rw [b3] at TG3
        have HBV := qh (show B = true by rw [hBd]; simp only [Rq.badG]; simp [*])
        clear hBd
        (refine Kit.wp_region_cls (by kernel_rfl) (by kernel_rfl) ?_; (repeat (go_big_quiet_step (first | (with_reducible exact Kit.calls_cls _ (TG0.out _)) | (with_reducible exact Kit.calls_cls _ (TG1.out _)) | (with_reducible exact Kit.calls_cls _ (TG2.out _)) | (with_reducible exact Kit.calls_cls _ (TG3.out _))))); refine wpQuiet_nil ?_; intro z)
        have HZ := qh z.below
        generalize z.val = Z at *
        clear q5 q6 q10 p0 p1 p2 p3 z
        go_wp2_with fail
        go_meet
        case rel => exact ⟨rfl, by rw [HBV.out], HZ⟩
       rw [b3] at TG3
       have HBV := qh (show B = false by rw [hBd]; simp only [Rq.badG]; simp [*])
       clear hBd
       (refine Kit.wp_region_cls (by kernel_rfl) (by kernel_rfl) ?_; (repeat (go_big_quiet_step (first | (with_reducible exact Kit.calls_cls _ (TG0.out _)) | (with_reducible exact Kit.calls_cls _ (TG1.out _)) | (with_reducible exact Kit.calls_cls _ (TG2.out _)) | (with_reducible exact Kit.calls_cls _ (TG3.out _))))); refine wpQuiet_nil ?_; intro z)
       have HZ := qh z.below
       generalize z.val = Z at *
       clear q5 q6 q10 p0 p1 p2 p3 z
       go_wp2_with fail
       go_meet
       case rel => exact ⟨rfl, by rw [HBV.out], HZ⟩
      ·have kz : decide (0 < k) = true := by simp; omega
       have g0 := hpc omg
       have hk1 : 1 ≤ k := by omega
       clear hk0 hpc
       rcases b4 : decide (x0 ≤ pv) with _ | _
       ·rcases b1 : Tp.inb x1 0 (ro.length - 1) with _ | _
        ·rw [b1] at TG1
         have HBV := qh (show B = true by rw [hBd]; simp only [Rq.badG]; simp [*])
         clear hBd
         (refine Kit.wp_region_cls (by kernel_rfl) (by kernel_rfl) ?_; (repeat (go_big_quiet_step (first | (with_reducible exact Kit.calls_cls _ (TG0.out _)) | (with_reducible exact Kit.calls_cls _ (TG1.out _)) | (with_reducible exact Kit.calls_cls _ (TG2.out _)) | (with_reducible exact Kit.calls_cls _ (TG3.out _))))); refine wpQuiet_nil ?_; intro z)
         have HZ := qh z.below
         generalize z.val = Z at *
         clear q5 q6 q10 p0 p1 p2 p3 z
         go_wp2_with fail
         go_meet
         case rel => exact ⟨rfl, by rw [HBV.out], HZ⟩
        rw [b1] at TG1
        rcases b2 : Tp.inb x2 0 (n - 1) with _ | _
        ·rw [b2] at TG2
         have HBV := qh (show B = true by rw [hBd]; simp only [Rq.badG]; simp [*])
         clear hBd
         (refine Kit.wp_region_cls (by kernel_rfl) (by kernel_rfl) ?_; (repeat (go_big_quiet_step (first | (with_reducible exact Kit.calls_cls _ (TG0.out _)) | (with_reducible exact Kit.calls_cls _ (TG1.out _)) | (with_reducible exact Kit.calls_cls _ (TG2.out _)) | (with_reducible exact Kit.calls_cls _ (TG3.out _))))); refine wpQuiet_nil ?_; intro z)
         have HZ := qh z.below
         generalize z.val = Z at *
         clear q5 q6 q10 p0 p1 p2 p3 z
         go_wp2_with fail
         go_meet
         case rel => exact ⟨rfl, by rw [HBV.out], HZ⟩
        rw [b2] at TG2
        rcases b3 : Tp.inb x3 1 3 with _ | _
        ·rw [b3] at TG3
         have HBV := qh (show B = true by rw [hBd]; simp only [Rq.badG]; simp [*])
         clear hBd
         (refine Kit.wp_region_cls (by kernel_rfl) (by kernel_rfl) ?_; (repeat (go_big_quiet_step (first | (with_reducible exact Kit.calls_cls _ (TG0.out _)) | (with_reducible exact Kit.calls_cls _ (TG1.out _)) | (with_reducible exact Kit.calls_cls _ (TG2.out _)) | (with_reducible exact Kit.calls_cls _ (TG3.out _))))); refine wpQuiet_nil ?_; intro z)
         have HZ := qh z.below
         generalize z.val = Z at *
         clear q5 q6 q10 p0 p1 p2 p3 z
         go_wp2_with fail
         go_meet
         case rel => exact ⟨rfl, by rw [HBV.out], HZ⟩
        rw [b3] at TG3
        have HBV := qh (show B = false by rw [hBd]; simp only [Rq.badG]; simp [*])
        clear hBd
        (refine Kit.wp_region_cls (by kernel_rfl) (by kernel_rfl) ?_; (repeat (go_big_quiet_step (first | (with_reducible exact Kit.calls_cls _ (TG0.out _)) | (with_reducible exact Kit.calls_cls _ (TG1.out _)) | (with_reducible exact Kit.calls_cls _ (TG2.out _)) | (with_reducible exact Kit.calls_cls _ (TG3.out _))))); refine wpQuiet_nil ?_; intro z)
        have HZ := qh z.below
        generalize z.val = Z at *
        clear q5 q6 q10 p0 p1 p2 p3 z
        go_wp2_with fail
        go_meet
        case rel => exact ⟨rfl, by rw [HBV.out], HZ⟩
       ·have HBV := qh (show B = true by rw [hBd]; simp only [Rq.badG]; simp [*])
        clear hBd
        (refine Kit.wp_region_cls (by kernel_rfl) (by kernel_rfl) ?_; (repeat (go_big_quiet_step (first | (with_reducible exact Kit.calls_cls _ (TG0.out _)) | (with_reducible exact Kit.calls_cls _ (TG1.out _)) | (with_reducible exact Kit.calls_cls _ (TG2.out _)) | (with_reducible exact Kit.calls_cls _ (TG3.out _))))); refine wpQuiet_nil ?_; intro z)
        have HZ := qh z.below
        generalize z.val = Z at *
        clear q5 q6 q10 p0 p1 p2 p3 z
        go_wp2_with fail
        go_meet
        case rel => exact ⟨rfl, by rw [HBV.out], HZ⟩
     case rest =>
      obtain ⟨rfl, rfl, HC⟩ := hcut
      have hwc : Below wr.heap.size wr wc := HB2.out.trans (HC.out.mono HB2.out.size)
      have HE := qh (HWR.out.trans (hwc.mono HWR.out.size))
      have HB3 := qh (HB.out.trans (hwc.mono HB.out.size))
      have zc : wr.heap.size < wc.heap.size := by have h1 := HC.out.size; have h2 : wr.heap.size < W1.heap.size := (by rw [HW1.out]; simp); omega
      have p0 : wc.cell? ⟨wr.heap.size, 0, none⟩ = some (.int .i64 x0) := (HC.out.cell (p := ⟨wr.heap.size, 0, none⟩) (by rw [HW1.out]; simp)).trans (by rw [HW1.out]; simp [go_sem])
      have p1 : wc.cell? ⟨wr.heap.size, 1, none⟩ = some (.int .i64 x1) := (HC.out.cell (p := ⟨wr.heap.size, 1, none⟩) (by rw [HW1.out]; simp)).trans (by rw [HW1.out]; simp [go_sem])
      have p2 : wc.cell? ⟨wr.heap.size, 2, none⟩ = some (.int .i64 x2) := (HC.out.cell (p := ⟨wr.heap.size, 2, none⟩) (by rw [HW1.out]; simp)).trans (by rw [HW1.out]; simp [go_sem])
      have p3 : wc.cell? ⟨wr.heap.size, 3, none⟩ = some (.int .i64 x3) := (HC.out.cell (p := ⟨wr.heap.size, 3, none⟩) (by rw [HW1.out]; simp)).trans (by rw [HW1.out]; simp [go_sem])
      have p4 : wc.cell? ⟨wr.heap.size, 4, none⟩ = some (.int .i64 x4) := (HC.out.cell (p := ⟨wr.heap.size, 4, none⟩) (by rw [HW1.out]; simp)).trans (by rw [HW1.out]; simp [go_sem])
      have p5 : wc.cell? ⟨wr.heap.size, 5, none⟩ = some (.int .i64 x5) := (HC.out.cell (p := ⟨wr.heap.size, 5, none⟩) (by rw [HW1.out]; simp)).trans (by rw [HW1.out]; simp [go_sem])
      have p6 : wc.cell? ⟨wr.heap.size, 6, none⟩ = some (.int .i64 x6) := (HC.out.cell (p := ⟨wr.heap.size, 6, none⟩) (by rw [HW1.out]; simp)).trans (by rw [HW1.out]; simp [go_sem])
      have p7 : wc.cell? ⟨wr.heap.size, 7, none⟩ = some (.int .i64 x7) := (HC.out.cell (p := ⟨wr.heap.size, 7, none⟩) (by rw [HW1.out]; simp)).trans (by rw [HW1.out]; simp [go_sem])
      have p8 : wc.cell? ⟨wr.heap.size, 8, none⟩ = some (.int .i64 x8) := (HC.out.cell (p := ⟨wr.heap.size, 8, none⟩) (by rw [HW1.out]; simp)).trans (by rw [HW1.out]; simp [go_sem])
      have p9 : wc.cell? ⟨wr.heap.size, 9, none⟩ = some (.int .i64 x9) := (HC.out.cell (p := ⟨wr.heap.size, 9, none⟩) (by rw [HW1.out]; simp)).trans (by rw [HW1.out]; simp [go_sem])
      have p10 : wc.cell? ⟨wr.heap.size, 10, none⟩ = some (.int .i64 x10) := (HC.out.cell (p := ⟨wr.heap.size, 10, none⟩) (by rw [HW1.out]; simp)).trans (by rw [HW1.out]; simp [go_sem])
      have p11 : wc.cell? ⟨wr.heap.size, 11, none⟩ = some (.int .i64 x11) := (HC.out.cell (p := ⟨wr.heap.size, 11, none⟩) (by rw [HW1.out]; simp)).trans (by rw [HW1.out]; simp [go_sem])
      have p12 : wc.cell? ⟨wr.heap.size, 12, none⟩ = some (.int .i64 x12) := (HC.out.cell (p := ⟨wr.heap.size, 12, none⟩) (by rw [HW1.out]; simp)).trans (by rw [HW1.out]; simp [go_sem])
      have p13 : wc.cell? ⟨wr.heap.size, 13, none⟩ = some (.int .i64 x13) := (HC.out.cell (p := ⟨wr.heap.size, 13, none⟩) (by rw [HW1.out]; simp)).trans (by rw [HW1.out]; simp [go_sem])
      have r5 : wc.cell? ⟨w.heap.size, 5, none⟩ = some (.slice aR ro.length cR) := (hwc.cell (p := ⟨w.heap.size, 5, none⟩) zwr).trans k5
      clear hwc HW1 HC HWR HB2 k5 k6 k10 e0 e1 e2 e3 e4 e5 e6 e7 e8 e9 e10 e11 e12 e13
      rcases B with _ | _
      ·have HL2 := qh (show -1 ≤ x0 ∧ (0 < k + 1 → (sg.getD (k + 1 - 1) default).id = x0) ∧ (k + 1 = 0 → x0 = -1) ∧ (0 < k + 1 → 0 ≤ x0) from by
        have h : 0 ≤ x0 := HID.out rfl
        exact ⟨by omega, fun _ => by rw [Nat.add_sub_cancel, HX.out], fun h => by omega, fun _ => h⟩)
       clear hBd HID HX HL
       have HEb := qh (show Below w.heap.size w wc from HE.out)
       cases bf
       ·have HR1 := qh (Rq.rb_bad hr (by rw [HV2.out]; simp))
        clear HV2
        go_wp2_with fail
        refine (TF.out _).mono ?_
        rintro e w3 ⟨rfl, hb3⟩
        have HE3 := qh (HE.out.trans (hb3.mono HE.out.size))
        clear hb3
        go_wp2
        go_ret
        exact ⟨HR1.out, HE3.out⟩
       ·go_wp2_with fail
        refine (TF.out _).mono ?_
        rintro e w3 ⟨rfl, hb3⟩
        have HE3 := qh (HE.out.trans (hb3.mono HE.out.size))
        have HB4 := qh (HB3.out.trans (hb3.mono HB3.out.size))
        have hcp : ∀ j v, wc.cell? ⟨wr.heap.size, j, none⟩ = some v → w3.cell? ⟨wr.heap.size, j, none⟩ = some v := fun j v h => (hb3.cell (p := ⟨wr.heap.size, j, none⟩) zc).trans h
        replace p0 := hcp 0 _ p0
        replace p1 := hcp 1 _ p1
        replace p2 := hcp 2 _ p2
        replace p3 := hcp 3 _ p3
        replace p4 := hcp 4 _ p4
        replace p5 := hcp 5 _ p5
        replace p6 := hcp 6 _ p6
        replace p7 := hcp 7 _ p7
        replace p8 := hcp 8 _ p8
        replace p9 := hcp 9 _ p9
        replace p10 := hcp 10 _ p10
        replace p11 := hcp 11 _ p11
        replace p12 := hcp 12 _ p12
        replace p13 := hcp 13 _ p13
        clear hb3 hcp r5
        go_wp2_with fail
        refine (TS.out _).mono ?_
        rintro e w4 ⟨rfl, hb4⟩
        have HE4 := qh (HE3.out.trans (hb4.mono HE3.out.size))
        have HB5 := qh (HB4.out.trans (hb4.mono HB4.out.size))
        clear hb4 p0 p1 p2 p3 p4 p5 p6 p7 p8 p9 p10 p11 p12 p13
        cases bs
        ·have HR1 := qh (Rq.rb_bad hr (by rw [HV2.out]; simp))
         clear HV2
         go_wp2
         go_ret
         exact ⟨HR1.out, HE4.out⟩
        ·have HVG2 := qh (show Ex.vG ro.length n (-1) sg = Ex.vG ro.length n x0 (sg.drop (k + 1)) by rw [HV2.out]; simp)
         clear HV2
         go_wp2
         go_roundw
         case rel => first | exact ⟨k + 1, x0, by go_num, by omega, HL2, HVG2, HB5⟩ | ((repeat apply Exists.intro); exact ⟨⟨k + 1, x0, by go_num, by omega, HL2, HVG2, HB5⟩, rfl⟩)
         case measure => simp [intOf]; omega
      ·have HR1 := qh (Rq.rb_bad hr (by rw [HV2.out]; simp))
       clear hBd HID HV2
       go_wp2
       go_ret
       exact ⟨HR1.out, HE.out⟩
    ·have HWR := qh hwr
     have hvg : Ex.vG ro.length n (-1) sg = true := by rw [HVG.out, List.drop_of_length_le omg]; rfl
     have hgood := qh (Rq.rb_good hr (by rw [HVRT.out, hvg]; rfl))
     have k10 : wr.cell? ⟨w.heap.size, 10, none⟩ = some (.slice aG sg.length cG) := (HB.out.cell (by simpa using s0)).trans K10.out
     clear hwr hvg
     go_wp2
     go_ret
     exact ⟨hgood.out, HWR.out⟩
end Go.Proofs.YtedolbjgdedoaaaGreatDoor
