/- Walks: package apart: check, together. -/
import Derived.Test.YtjoieglhmladhaaDoorApB
import Derived.Test.YtjoieglhmladhaaDoorEx
import Derived.Test.YtjoieglhmladhaaDoorSp
namespace Go.Proofs.YtjoieglhmladhaaDoor
set_option linter.unusedVariables false
set_option linter.unusedSimpArgs false
open Go.RowKit Go.Shelf

/-- A work whose Check is clean has from 1 to 4096 bars. -/
theorem Ex.bars {x : Ex.Wk} (h : Ex.chk x = 0) : 1 ≤ x.n ∧ x.n ≤ 4096 := by
  unfold Ex.chk at h
  split at h
  · omega
  split at h
  · omega
  rename_i hr
  have hr : Tp.chk x.n x.ts x.ps x.ss = 0 := by simpa using hr
  have hok : Tp.okC x.n x.ts x.ps x.ss = true := by
    unfold Tp.chk at hr
    split at hr
    · rcases hc : Tp.okC x.n x.ts x.ps x.ss with _ | _
      · simp [hc] at hr
      · rfl
    · omega
  simp only [Tp.okC, Bool.and_eq_true] at hok
  exact (Tp.inb_iff _ _ _).1 hok.1.1.1.1.1.1
theorem Ex.roles {x : Ex.Wk} (h : Ex.chk x = 0) : x.ro.length ≤ 64 ∧ x.sg.length ≤ 4096 ∧ 0 < x.ro.length := by
  unfold Ex.chk at h
  split at h
  · omega
  split at h
  · omega
  split at h
  · rename_i h1 h2 h3
    have : Ex.okH x = true := by simp only [Ex.okW, Bool.and_eq_true] at h3; exact h3.1.1
    have : decide (0 < x.ro.length) = true := by simp only [Ex.okH, Bool.and_eq_true] at this; exact this.2
    exact ⟨by omega, by omega, by simpa using this⟩
  · omega

namespace Ap
/-- What check says of a work and a bar. -/
def chk (x : Ex.Wk) (bar : Int) : Int := if Ex.chk x = 0 then (if Tp.inb bar 0 (x.n - 1) = true then 0 else 1) else Ex.chk x
def Chk (x : Ex.Wk) (p : Ex.Wa) (bar : Int) (w : World) (r : Int) : Prop := Calls Tryd.prog 44 #[Ex.workV x p, .int .i64 bar] w fun e w' => e = .returned (.int .i64 r) ∧ Below w.heap.size w w'
end Ap

set_option maxRecDepth 100000 in
set_option maxHeartbeats 1000000 in
theorem ap_check_1a (wd dp ta tb tc : Int) (aR : Option Addr) (nR cR : Nat) (n : Int) (aT : Option Addr) (nT cT : Nat) (aP : Option Addr) (nP cP : Nat) (aS : Option Addr) (nS cS : Nat) (aG : Option Addr) (nG cG : Nat) (bar : Int) (w : World)
    (r : Int) (hr : (r == 0) = false) (hc : ∀ W, Below w.heap.size w W → Calls Tryd.prog 49 #[Ex.wv wd dp ta tb tc aR nR cR n aT nT cT aP nP cP aS nS cS aG nG cG] W fun e w' => e = .returned (.int .i64 r) ∧ Below W.heap.size W w') :
    Calls Tryd.prog 44 #[Ex.wv wd dp ta tb tc aR nR cR n aT nT cT aP nP cP aS nS cS aG nG cG, .int .i64 bar] w fun e w' => e = .returned (.int .i64 r) ∧ Below w.heap.size w w' := by
  have HC := Lib.hid hc; clear hc
  go_enter Tryd.func44, Tryd.ntmps44
  skip
  (go_wp2_with (fail); refine (HC.out _ (by (repeat' first | (with_reducible first | exact Below.refl _ _ | assumption | refine Kit.below_drewN ?_ _ | refine Below.drew ?_ | refine Below.alloc ?_ ?_ _ | refine Below.setCell ?_ ?_ _ | exact Nat.le_refl _) | omega | (simp; omega) | (simp; done) | (apply Below.size; assumption)))).mono ?_; rintro e w1_ ⟨rfl, hb1_⟩; have hp1_ : Below w.heap.size w w1_ := Below.trans (by (repeat' first | (with_reducible first | exact Below.refl _ _ | assumption | refine Kit.below_drewN ?_ _ | refine Below.drew ?_ | refine Below.alloc ?_ ?_ _ | refine Below.setCell ?_ ?_ _ | exact Nat.le_refl _) | omega | (simp; omega) | (simp; done) | (apply Below.size; assumption))) (hb1_.mono (by first | assumption | (simp; done) | (simp; omega) | omega)); have hw1_ : Below w.heap.size w w1_ := hp1_; obtain ⟨hc1_, hf1_⟩ := Kit.bcell hb1_; have z1_w : w.heap.size < w1_.heap.size := (by have := hb1_.size; first | omega | (simp at this; omega)); obtain ⟨g1_w_0, g1_w_1, g1_w_2, g1_w_3, g1_w_4, g1_w_5, g1_w_6, g1_w_7, g1_w_8, g1_w_9, g1_w_10⟩ : w1_.cell? ⟨w.heap.size, 0, none⟩ = some (.int .i64 wd) ∧ w1_.cell? ⟨w.heap.size, 1, none⟩ = some (.int .i64 dp) ∧ w1_.cell? ⟨w.heap.size, 2, none⟩ = some (.int .i64 ta) ∧ w1_.cell? ⟨w.heap.size, 3, none⟩ = some (.int .i64 tb) ∧ w1_.cell? ⟨w.heap.size, 4, none⟩ = some (.int .i64 tc) ∧ w1_.cell? ⟨w.heap.size, 5, none⟩ = some (.slice aR nR cR) ∧ w1_.cell? ⟨w.heap.size, 6, none⟩ = some (.int .i64 n) ∧ w1_.cell? ⟨w.heap.size, 7, none⟩ = some (.slice aT nT cT) ∧ w1_.cell? ⟨w.heap.size, 8, none⟩ = some (.slice aP nP cP) ∧ w1_.cell? ⟨w.heap.size, 9, none⟩ = some (.slice aS nS cS) ∧ w1_.cell? ⟨w.heap.size, 10, none⟩ = some (.slice aG nG cG) := (by refine ⟨?_, ?_, ?_, ?_, ?_, ?_, ?_, ?_, ?_, ?_, ?_⟩ <;> (rw [hc1_ _ _ (by first | assumption | (simp; done) | (simp; omega) | omega)]; first | assumption | (simp [go_sem]; done) | (simp [go_sem, *]; done))); clear hc1_ hf1_; clear hb1_ hp1_)
  go_wp2
  go_ret
  exact ⟨rfl, by (repeat' first | (with_reducible first | exact Below.refl _ _ | assumption | refine Kit.below_drewN ?_ _ | refine Below.drew ?_ | refine Below.alloc ?_ ?_ _ | refine Below.setCell ?_ ?_ _ | exact Nat.le_refl _) | omega | (simp; omega) | (simp; done) | (apply Below.size; assumption))⟩

set_option maxRecDepth 100000 in
set_option maxHeartbeats 1000000 in
theorem ap_check_2a (wd dp ta tb tc : Int) (aR : Option Addr) (nR cR : Nat) (n : Int) (aT : Option Addr) (nT cT : Nat) (aP : Option Addr) (nP cP : Nat) (aS : Option Addr) (nS cS : Nat) (aG : Option Addr) (nG cG : Nat) (bar : Int) (w : World)
    (n1 : 1 ≤ n) (n2 : n ≤ 4096) (b : Bool) (hb : Tp.inb bar 0 (n - 1) = b) (hc : ∀ W, Below w.heap.size w W → Calls Tryd.prog 49 #[Ex.wv wd dp ta tb tc aR nR cR n aT nT cT aP nP cP aS nS cS aG nG cG] W fun e w' => e = .returned (.int .i64 0) ∧ Below W.heap.size W w') :
    Calls Tryd.prog 44 #[Ex.wv wd dp ta tb tc aR nR cR n aT nT cT aP nP cP aS nS cS aG nG cG, .int .i64 bar] w fun e w' => e = .returned (.int .i64 (if b = true then 0 else 1)) ∧ Below w.heap.size w w' := by
  have HC := Lib.hid hc; clear hc
  cases b
  · go_enter Tryd.func44, Tryd.ntmps44
    skip
    (go_wp2_with (fail); refine (HC.out _ (by (repeat' first | (with_reducible first | exact Below.refl _ _ | assumption | refine Kit.below_drewN ?_ _ | refine Below.drew ?_ | refine Below.alloc ?_ ?_ _ | refine Below.setCell ?_ ?_ _ | exact Nat.le_refl _) | omega | (simp; omega) | (simp; done) | (apply Below.size; assumption)))).mono ?_; rintro e w1_ ⟨rfl, hb1_⟩; have hp1_ : Below w.heap.size w w1_ := Below.trans (by (repeat' first | (with_reducible first | exact Below.refl _ _ | assumption | refine Kit.below_drewN ?_ _ | refine Below.drew ?_ | refine Below.alloc ?_ ?_ _ | refine Below.setCell ?_ ?_ _ | exact Nat.le_refl _) | omega | (simp; omega) | (simp; done) | (apply Below.size; assumption))) (hb1_.mono (by first | assumption | (simp; done) | (simp; omega) | omega)); have hw1_ : Below w.heap.size w w1_ := hp1_; obtain ⟨hc1_, hf1_⟩ := Kit.bcell hb1_; have z1_w : w.heap.size < w1_.heap.size := (by have := hb1_.size; first | omega | (simp at this; omega)); obtain ⟨g1_w_0, g1_w_1, g1_w_2, g1_w_3, g1_w_4, g1_w_5, g1_w_6, g1_w_7, g1_w_8, g1_w_9, g1_w_10⟩ : w1_.cell? ⟨w.heap.size, 0, none⟩ = some (.int .i64 wd) ∧ w1_.cell? ⟨w.heap.size, 1, none⟩ = some (.int .i64 dp) ∧ w1_.cell? ⟨w.heap.size, 2, none⟩ = some (.int .i64 ta) ∧ w1_.cell? ⟨w.heap.size, 3, none⟩ = some (.int .i64 tb) ∧ w1_.cell? ⟨w.heap.size, 4, none⟩ = some (.int .i64 tc) ∧ w1_.cell? ⟨w.heap.size, 5, none⟩ = some (.slice aR nR cR) ∧ w1_.cell? ⟨w.heap.size, 6, none⟩ = some (.int .i64 n) ∧ w1_.cell? ⟨w.heap.size, 7, none⟩ = some (.slice aT nT cT) ∧ w1_.cell? ⟨w.heap.size, 8, none⟩ = some (.slice aP nP cP) ∧ w1_.cell? ⟨w.heap.size, 9, none⟩ = some (.slice aS nS cS) ∧ w1_.cell? ⟨w.heap.size, 10, none⟩ = some (.slice aG nG cG) := (by refine ⟨?_, ?_, ?_, ?_, ?_, ?_, ?_, ?_, ?_, ?_, ?_⟩ <;> (rw [hc1_ _ _ (by first | assumption | (simp; done) | (simp; omega) | omega)]; first | assumption | (simp [go_sem]; done) | (simp [go_sem, *]; done))); clear hc1_ hf1_; clear hb1_ hp1_)
    go_wp2_with (go_at_call 36; refine (ap_in _ _ _ _).mono ?_; rintro e w' ⟨rfl, rfl⟩)
    go_ret
    exact ⟨rfl, by (repeat' first | (with_reducible first | exact Below.refl _ _ | assumption | refine Kit.below_drewN ?_ _ | refine Below.drew ?_ | refine Below.alloc ?_ ?_ _ | refine Below.setCell ?_ ?_ _ | exact Nat.le_refl _) | omega | (simp; omega) | (simp; done) | (apply Below.size; assumption))⟩
  · go_enter Tryd.func44, Tryd.ntmps44
    skip
    (go_wp2_with (fail); refine (HC.out _ (by (repeat' first | (with_reducible first | exact Below.refl _ _ | assumption | refine Kit.below_drewN ?_ _ | refine Below.drew ?_ | refine Below.alloc ?_ ?_ _ | refine Below.setCell ?_ ?_ _ | exact Nat.le_refl _) | omega | (simp; omega) | (simp; done) | (apply Below.size; assumption)))).mono ?_; rintro e w1_ ⟨rfl, hb1_⟩; have hp1_ : Below w.heap.size w w1_ := Below.trans (by (repeat' first | (with_reducible first | exact Below.refl _ _ | assumption | refine Kit.below_drewN ?_ _ | refine Below.drew ?_ | refine Below.alloc ?_ ?_ _ | refine Below.setCell ?_ ?_ _ | exact Nat.le_refl _) | omega | (simp; omega) | (simp; done) | (apply Below.size; assumption))) (hb1_.mono (by first | assumption | (simp; done) | (simp; omega) | omega)); have hw1_ : Below w.heap.size w w1_ := hp1_; obtain ⟨hc1_, hf1_⟩ := Kit.bcell hb1_; have z1_w : w.heap.size < w1_.heap.size := (by have := hb1_.size; first | omega | (simp at this; omega)); obtain ⟨g1_w_0, g1_w_1, g1_w_2, g1_w_3, g1_w_4, g1_w_5, g1_w_6, g1_w_7, g1_w_8, g1_w_9, g1_w_10⟩ : w1_.cell? ⟨w.heap.size, 0, none⟩ = some (.int .i64 wd) ∧ w1_.cell? ⟨w.heap.size, 1, none⟩ = some (.int .i64 dp) ∧ w1_.cell? ⟨w.heap.size, 2, none⟩ = some (.int .i64 ta) ∧ w1_.cell? ⟨w.heap.size, 3, none⟩ = some (.int .i64 tb) ∧ w1_.cell? ⟨w.heap.size, 4, none⟩ = some (.int .i64 tc) ∧ w1_.cell? ⟨w.heap.size, 5, none⟩ = some (.slice aR nR cR) ∧ w1_.cell? ⟨w.heap.size, 6, none⟩ = some (.int .i64 n) ∧ w1_.cell? ⟨w.heap.size, 7, none⟩ = some (.slice aT nT cT) ∧ w1_.cell? ⟨w.heap.size, 8, none⟩ = some (.slice aP nP cP) ∧ w1_.cell? ⟨w.heap.size, 9, none⟩ = some (.slice aS nS cS) ∧ w1_.cell? ⟨w.heap.size, 10, none⟩ = some (.slice aG nG cG) := (by refine ⟨?_, ?_, ?_, ?_, ?_, ?_, ?_, ?_, ?_, ?_, ?_⟩ <;> (rw [hc1_ _ _ (by first | assumption | (simp; done) | (simp; omega) | omega)]; first | assumption | (simp [go_sem]; done) | (simp [go_sem, *]; done))); clear hc1_ hf1_; clear hb1_ hp1_)
    go_wp2_with (go_at_call 36; refine (ap_in _ _ _ _).mono ?_; rintro e w' ⟨rfl, rfl⟩)
    go_ret
    exact ⟨rfl, by (repeat' first | (with_reducible first | exact Below.refl _ _ | assumption | refine Kit.below_drewN ?_ _ | refine Below.drew ?_ | refine Below.alloc ?_ ?_ _ | refine Below.setCell ?_ ?_ _ | exact Nat.le_refl _) | omega | (simp; omega) | (simp; done) | (apply Below.size; assumption))⟩

/-- check, of whatever work and bar. -/
theorem ap_check (x : Ex.Wk) (p : Ex.Wa) (bar : Int) (w : World) (ha : Ex.At w x p) (hl : Ex.Laid w) : Ap.Chk x p bar w (Ap.chk x bar) := by
  unfold Ap.Chk Ap.chk
  have hc : ∀ W, Below w.heap.size w W → Ex.Chk x p W (Ex.chk x) := fun W hB => ex_check x p W (ha.kept hB (Nat.le_refl _)) (hl.kept hB (Nat.le_refl _))
  by_cases h : Ex.chk x = 0
  · rw [if_pos h]
    obtain ⟨n1, n2⟩ := Ex.bars h
    rw [h] at hc
    exact ap_check_2a _ _ _ _ _ _ _ _ _ _ _ _ _ _ _ _ _ _ _ _ _ bar w n1 n2 _ rfl hc
  · rw [if_neg h]
    exact ap_check_1a _ _ _ _ _ _ _ _ _ _ _ _ _ _ _ _ _ _ _ _ _ bar w _ (by simpa using h) hc

set_option maxHeartbeats 1000000 in
/-- together, of two valid boxes. -/
theorem ap_together (a b c d a' b' c' d' : Int) (w : World) (h : Sp.okBox a b c d = true) (h' : Sp.okBox a' b' c' d' = true) :
    Calls Tryd.prog 52 #[Sp.boxV a b c d, Sp.boxV a' b' c' d'] w fun e w' => e = .returned (.bool (Sp.meets a b c d a' b' c' d')) ∧ Below w.heap.size w w' := by
  have H := Lib.hid h; clear h
  have H' := Lib.hid h'; clear h'
  go_enter Tryd.func52, Tryd.ntmps52
  skip
  (go_wp2_with (fail); refine (sp_apart_3 a b c d a' b' c' d' _ H.out H'.out).mono ?_; rintro e w1_ ⟨rfl, hb1_⟩; have hp1_ : Below w.heap.size w w1_ := Below.trans (by (repeat' first | (with_reducible first | exact Below.refl _ _ | assumption | refine Kit.below_drewN ?_ _ | refine Below.drew ?_ | refine Below.alloc ?_ ?_ _ | refine Below.setCell ?_ ?_ _ | exact Nat.le_refl _) | omega | (simp; omega) | (simp; done) | (apply Below.size; assumption))) (hb1_.mono (by first | assumption | (simp; done) | (simp; omega) | omega)); have hw1_ : Below w.heap.size w w1_ := hp1_; obtain ⟨hc1_, hf1_⟩ := Kit.bcell hb1_; have z1_w : w.heap.size < w1_.heap.size := (by have := hb1_.size; first | omega | (simp at this; omega)); obtain ⟨g1_w_0, g1_w_1, g1_w_2, g1_w_3⟩ : w1_.cell? ⟨w.heap.size, 0, none⟩ = some (.int .i64 a) ∧ w1_.cell? ⟨w.heap.size, 1, none⟩ = some (.int .i64 b) ∧ w1_.cell? ⟨w.heap.size, 2, none⟩ = some (.int .i64 c) ∧ w1_.cell? ⟨w.heap.size, 3, none⟩ = some (.int .i64 d) := (by refine ⟨?_, ?_, ?_, ?_⟩ <;> (rw [hc1_ _ _ (by first | assumption | (simp; done) | (simp; omega) | omega)]; first | assumption | (simp [go_sem]; done) | (simp [go_sem, *]; done))); have z1_w_1 : w.heap.size + 1 < w1_.heap.size := (by have := hb1_.size; first | omega | (simp at this; omega)); obtain ⟨g1_w_1_0, g1_w_1_1, g1_w_1_2, g1_w_1_3⟩ : w1_.cell? ⟨w.heap.size + 1, 0, none⟩ = some (.int .i64 a') ∧ w1_.cell? ⟨w.heap.size + 1, 1, none⟩ = some (.int .i64 b') ∧ w1_.cell? ⟨w.heap.size + 1, 2, none⟩ = some (.int .i64 c') ∧ w1_.cell? ⟨w.heap.size + 1, 3, none⟩ = some (.int .i64 d') := (by refine ⟨?_, ?_, ?_, ?_⟩ <;> (rw [hc1_ _ _ (by first | assumption | (simp; done) | (simp; omega) | omega)]; first | assumption | (simp [go_sem]; done) | (simp [go_sem, *]; done))); clear hc1_ hf1_; clear hb1_ hp1_)
  go_wp2
  go_ret
  exact ⟨by simp, by (repeat' first | (with_reducible first | exact Below.refl _ _ | assumption | refine Kit.below_drewN ?_ _ | refine Below.drew ?_ | refine Below.alloc ?_ ?_ _ | refine Below.setCell ?_ ?_ _ | exact Nat.le_refl _) | omega | (simp; omega) | (simp; done) | (apply Below.size; assumption))⟩
end Go.Proofs.YtjoieglhmladhaaDoor
