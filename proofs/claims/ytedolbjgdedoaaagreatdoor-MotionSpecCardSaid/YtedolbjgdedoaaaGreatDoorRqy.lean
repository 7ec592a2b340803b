/- Walks: the reference of layer 13: spans. Walks: the reference of layer 13: pauses. Walks: the reference of layer 13: ticks. Plain facts: the ticks of all bars lie in their range if those of each tempo's first and last bar do. Walks: the reference of layer 13: tempos. Walks: the reference of layer 13: Check. -/
import Derived.Test.YtedolbjgdedoaaaGreatDoorTp
import Derived.Test.YtedolbjgdedoaaaGreatDoorKit
import Derived.Deep.CutRange
set_option linter.unusedSimpArgs false
set_option linter.unusedVariables false
set_option maxRecDepth 100000
set_option maxHeartbeats 4000000
namespace Go.Proofs.YtedolbjgdedoaaaGreatDoor
open Go.RowKit

namespace Rq
abbrev clk (n : Int) (aT : Option Addr) (nT cT : Nat) (aP : Option Addr) (nP cP : Nat) (aS : Option Addr) (nS cS : Nat) : Value := .agg #[.int .i64 n, .slice aT nT cT, .slice aP nP cP, .slice aS nS cS]
end Rq
theorem rq_in13 (n lo hi : Int) (w : World) : Calls Tryz.prog 154 #[.int .i64 n, .int .i64 lo, .int .i64 hi] w fun e w' => e = .returned (.bool (Tp.inb n lo hi)) ∧ w = w' := by
 have fin : ∀ p q : Bool, decide (lo ≤ n) = p → decide (n ≤ hi) = q → Calls Tryz.prog 154 #[.int .i64 n, .int .i64 lo, .int .i64 hi] w fun e w' => e = .returned (.bool (p && q)) ∧ w = w' := by
  intro p q hp hq
  cases p <;> cases q <;>
  ·go_enter Tryz.func154, Tryz.ntmps154
   go_wp2
   go_ret
   exact ⟨rfl, rfl⟩
 exact fin _ _ rfl rfl

theorem rq_spans (n : Int) (aT : Option Addr) (nT cT : Nat) (aP : Option Addr) (nP cP : Nat) (aS : Option Addr) (ss : List Tp.Q) (cS : Nat) (w : World) (l3 : ss.length ≤ 4611686018427387904) (hS : Tp.Sl w aS ss.length 4 (Tp.qc ss)) :
  Calls Tryz.prog 157 #[Rq.clk n aT nT cT aP nP cP aS ss.length cS] w fun e w' => e = .returned (.bool (Tp.vS n ss)) ∧ Below w.heap.size w w' := by
 have SS := qh hS; clear hS
 go_enter Tryz.func157, Tryz.ntmps157
 go_wp2_with fail
 refine Kit.wp_name ?_; intro W0 hW0
 have hB0 : Below w.heap.size w W0 := by rw [hW0]; exact Kit.gr
 have z0 : w.heap.size < W0.heap.size := by rw [hW0]; simp
 have k0 : W0.cell? ⟨w.heap.size, 0, none⟩ = some (.int .i64 n) := by rw [hW0]; simp [go_sem]
 have k3 : W0.cell? ⟨w.heap.size, 3, none⟩ = some (.slice aS ss.length cS) := by rw [hW0]; simp [go_sem]
 have K0 := qh k0; have K3 := qh k3; have HB0 := qh hB0
 clear k0 k3 hB0 hW0
 go_wp2_with fail
 go_loopw [3] (fun v3 wr => ∃ k : Nat, v3 = .int .i64 k ∧ k ≤ ss.length ∧ Hid (Tp.vS n ss = Tp.vS n (ss.drop k)) ∧ Hid (Below W0.heap.size W0 wr)) (fun v3 _ => ss.length - (intOf v3).toNat)
 case atStart => exact ⟨0, rfl, Nat.zero_le _, qh (by simp), qh (Below.refl _ _)⟩
 case round =>
  obtain ⟨k, rfl, hk, HI, HB⟩ := hrel
  have hwr := HB.out
  have zwr : W0.heap.size ≤ wr.heap.size := hwr.size
  have k0 : wr.cell? ⟨w.heap.size, 0, none⟩ = some (.int .i64 n) := (hwr.cell (p := ⟨w.heap.size, 0, none⟩) z0).trans K0.out
  have k3 : wr.cell? ⟨w.heap.size, 3, none⟩ = some (.slice aS ss.length cS) := (hwr.cell (p := ⟨w.heap.size, 3, none⟩) z0).trans K3.out
  have zz : w.heap.size < wr.heap.size := by omega
  by_cases hlt : k < ss.length
  ·obtain ⟨ad, rfl, had, _⟩ := SS.out.at hlt
   have HSl := SS.out.kept (HB0.out.trans (hwr.mono HB0.out.size)) nlr
   have e0 := HSl.head hlt omg
   have e1 := HSl.field hlt (j := 1) omg omg
   have e2 := HSl.field hlt (j := 2) omg omg
   have e3 := HSl.field hlt (j := 3) omg omg
   have hbk : (ad.add (k * 4)).block < wr.heap.size := by rw [Tp.add_block]; have := HB0.out.size; omega
   have hdrop := Tp.drop_cons ss (0, 0, 0, 0) k hlt
   simp only [Tp.qc] at e0 e1 e2 e3
   clear HSl
   generalize ss.getD k (0, 0, 0, 0) = s at e0 e1 e2 e3 hdrop
   obtain ⟨x1, x2, x3, x4⟩ := s
   simp only at e0 e1 e2 e3
   have HI2 := qh (show Tp.vS n ss = (Tp.okS1 n (x1, x2, x3, x4) && Tp.vS n (ss.drop (k + 1))) by rw [HI.out, hdrop]; simp only [Tp.vS, List.all_cons])
   clear hdrop HI
   rcases b1 : Tp.inb x1 0 n with _ | _
   ·have HR := qh (show Tp.vS n ss = false by rw [HI2.out]; simp only [Tp.okS1]; simp [*])
    clear HI2
    go_wp2_with (go_at_call 154; refine (rq_in13 _ _ _ _).mono ?_; rintro e w' ⟨rfl, rfl⟩)
    go_ret
    exact ⟨by rw [HR.out]; rfl, HB0.out.trans (Below.mono (by exact Kit.gr) HB0.out.size)⟩
   rcases b2 : Tp.inb x2 0 n with _ | _
   ·have HR := qh (show Tp.vS n ss = false by rw [HI2.out]; simp only [Tp.okS1]; simp [*])
    clear HI2
    go_wp2_with (go_at_call 154; refine (rq_in13 _ _ _ _).mono ?_; rintro e w' ⟨rfl, rfl⟩)
    go_ret
    exact ⟨by rw [HR.out]; rfl, HB0.out.trans (Below.mono (by exact Kit.gr) HB0.out.size)⟩
   by_cases b3 : x1 = x2
   ·have d3 : (x1 == x2) = true := by simpa using b3
    have b3' : (x1 != x2) = false := by simpa using b3
    clear b3
    have HR := qh (show Tp.vS n ss = false by rw [HI2.out]; simp only [Tp.okS1]; simp [*])
    clear HI2
    go_wp2_with (go_at_call 154; refine (rq_in13 _ _ _ _).mono ?_; rintro e w' ⟨rfl, rfl⟩)
    go_ret
    exact ⟨by rw [HR.out]; rfl, HB0.out.trans (Below.mono (by exact Kit.gr) HB0.out.size)⟩
   have d3 : (x1 == x2) = false := by simpa using b3
   have b3' : (x1 != x2) = true := by simpa using b3
   clear b3
   by_cases b4 : x3 < -1099511627776
   ·have d4 : decide (x3 < -1099511627776) = true := decide_eq_true b4
    have b4' : Tp.inb x3 (-1099511627776) x4 = false := by simp [Tp.inb]; omega
    clear b4
    have HR := qh (show Tp.vS n ss = false by rw [HI2.out]; simp only [Tp.okS1]; simp [*])
    clear HI2
    go_wp2_with (go_at_call 154; refine (rq_in13 _ _ _ _).mono ?_; rintro e w' ⟨rfl, rfl⟩)
    go_ret
    exact ⟨by rw [HR.out]; rfl, HB0.out.trans (Below.mono (by exact Kit.gr) HB0.out.size)⟩
   have d4 : decide (x3 < -1099511627776) = false := decide_eq_false b4
   by_cases b5 : x4 < x3
   ·have d5 : decide (x4 < x3) = true := decide_eq_true b5
    have b4' : Tp.inb x3 (-1099511627776) x4 = false := by simp [Tp.inb]; omega
    clear b4 b5
    have HR := qh (show Tp.vS n ss = false by rw [HI2.out]; simp only [Tp.okS1]; simp [*])
    clear HI2
    go_wp2_with (go_at_call 154; refine (rq_in13 _ _ _ _).mono ?_; rintro e w' ⟨rfl, rfl⟩)
    go_ret
    exact ⟨by rw [HR.out]; rfl, HB0.out.trans (Below.mono (by exact Kit.gr) HB0.out.size)⟩
   have d5 : decide (x4 < x3) = false := decide_eq_false b5
   have b4' : Tp.inb x3 (-1099511627776) x4 = true := by simp [Tp.inb]; omega
   by_cases b6 : 1099511627776 < x4
   ·have d6 : decide (1099511627776 < x4) = true := decide_eq_true b6
    have b6' : decide (x4 ≤ 1099511627776) = false := by simp; omega
    clear b4 b5 b6
    have HR := qh (show Tp.vS n ss = false by rw [HI2.out]; simp only [Tp.okS1]; simp [*])
    clear HI2
    go_wp2_with (go_at_call 154; refine (rq_in13 _ _ _ _).mono ?_; rintro e w' ⟨rfl, rfl⟩)
    go_ret
    exact ⟨by rw [HR.out]; rfl, HB0.out.trans (Below.mono (by exact Kit.gr) HB0.out.size)⟩
   have d6 : decide (1099511627776 < x4) = false := decide_eq_false b6
   have b6' : decide (x4 ≤ 1099511627776) = true := by simp; omega
   have HR := qh (show Tp.vS n ss = Tp.vS n (ss.drop (k + 1)) by rw [HI2.out]; simp only [Tp.okS1]; simp [*])
   clear HI2 b4 b5 b6
   go_wp2_with (go_at_call 154; refine (rq_in13 _ _ _ _).mono ?_; rintro e w' ⟨rfl, rfl⟩)
   go_roundw
   case rel => exact ⟨k + 1, by go_num, by omega, HR, qh (by exact Kit.gr)⟩
   case measure => simp [intOf]; omega
  ·have HR := qh (show Tp.vS n ss = true by rw [HI.out, List.drop_of_length_le omg]; rfl)
   clear HI
   go_wp2
   go_ret
   exact ⟨by rw [HR.out]; rfl, HB0.out.trans (Below.mono (by exact Kit.gr) HB0.out.size)⟩
end Go.Proofs.YtedolbjgdedoaaaGreatDoor

namespace Go.Proofs.YtedolbjgdedoaaaGreatDoor
open Go.RowKit

theorem rq_in13_b (n lo hi : Int) (w : World) : Calls Tryz.prog 154 #[.int .i64 n, .int .i64 lo, .int .i64 hi] w fun e w' => e = .returned (.bool (Tp.inb n lo hi)) ∧ Below w.heap.size w w' :=
 (rq_in13 n lo hi w).mono (fun e w' h => ⟨h.1, h.2 ▸ Below.refl _ _⟩)
namespace Rq
def badP (n x1 x2 pv : Int) (k : Nat) : Bool := !Tp.inb x1 0 (n - 2) || (decide (0 < k) && decide (x1 ≤ pv)) || ((x2 != 1) && (x2 != 2))
theorem badP_ok {n x1 x2 pv last : Int} {k : Nat} (h1 : -1 ≤ last) (h2 : 0 < k → pv = last) (h3 : k = 0 → last = -1) : (Tp.inb x1 (last + 1) (n - 2) && Tp.inb x2 1 2) = !badP n x1 x2 pv k := by
 unfold badP
 rw [Bool.eq_iff_iff]
 simp only [Bool.and_eq_true, Tp.inb_iff, Bool.not_or, Bool.not_not, Bool.not_and, Bool.or_eq_true, Bool.not_eq_true', decide_eq_false_iff_not, bne_eq_false_iff_eq]
 rcases Nat.eq_zero_or_pos k with h | h
 ·have := h3 h; omega
 ·have := h2 h; omega
end Rq

theorem rq_pauses (n : Int) (aT : Option Addr) (nT cT : Nat) (aP : Option Addr) (ps : List Tp.Q) (cP : Nat) (aS : Option Addr) (nS cS : Nat) (w : World) (hn : 1 ≤ n ∧ n ≤ 4096) (l2 : ps.length ≤ 4611686018427387904) (hP : Tp.Sl w aP ps.length 4 (Tp.qc ps)) :
  Calls Tryz.prog 156 #[Rq.clk n aT nT cT aP ps.length cP aS nS cS] w fun e w' => e = .returned (.bool (Tp.vP n (-1) ps)) ∧ Below w.heap.size w w' := by
 obtain ⟨hn1, hn2⟩ := hn
 have SP := qh hP; clear hP
 go_enter Tryz.func156, Tryz.ntmps156
 go_wp2_with fail
 refine Kit.wp_name ?_; intro W0 hW0
 have hB0 : Below w.heap.size w W0 := by rw [hW0]; exact Kit.gr
 have z0 : w.heap.size < W0.heap.size := by rw [hW0]; simp
 have k0 : W0.cell? ⟨w.heap.size, 0, none⟩ = some (.int .i64 n) := by rw [hW0]; simp [go_sem]
 have k2 : W0.cell? ⟨w.heap.size, 2, none⟩ = some (.slice aP ps.length cP) := by rw [hW0]; simp [go_sem]
 have K0 := qh k0; have K2 := qh k2; have HB0 := qh hB0
 clear k0 k2 hB0 hW0
 go_wp2_with fail
 go_loopw [3] (fun v3 wr => ∃ (k : Nat) (last : Int), v3 = .int .i64 k ∧ k ≤ ps.length ∧ Hid (-1 ≤ last ∧ (0 < k → (ps.getD (k - 1) (0, 0, 0, 0)).1 = last) ∧ (k = 0 → last = -1)) ∧ Hid (Tp.vP n (-1) ps = Tp.vP n last (ps.drop k)) ∧ Hid (Below W0.heap.size W0 wr)) (fun v3 _ => ps.length - (intOf v3).toNat)
 case atStart => exact ⟨0, -1, rfl, Nat.zero_le _, qh ⟨by omega, fun h => by omega, fun _ => rfl⟩, qh (by simp), qh (Below.refl _ _)⟩
 case round =>
  obtain ⟨k, last, rfl, hk, HL, HI, HB⟩ := hrel
  have hwr := HB.out
  have zwr : W0.heap.size ≤ wr.heap.size := hwr.size
  have k0 : wr.cell? ⟨w.heap.size, 0, none⟩ = some (.int .i64 n) := (hwr.cell (p := ⟨w.heap.size, 0, none⟩) z0).trans K0.out
  have k2 : wr.cell? ⟨w.heap.size, 2, none⟩ = some (.slice aP ps.length cP) := (hwr.cell (p := ⟨w.heap.size, 2, none⟩) z0).trans K2.out
  have zz : w.heap.size < wr.heap.size := by omega
  by_cases hlt : k < ps.length
  ·obtain ⟨ad, rfl, had, _⟩ := SP.out.at hlt
   have HSl := SP.out.kept (HB0.out.trans (hwr.mono HB0.out.size)) nlr
   have e0 := HSl.head hlt omg
   have e1 := HSl.field hlt (j := 1) omg omg
   have e2 := HSl.field hlt (j := 2) omg omg
   have e3 := HSl.field hlt (j := 3) omg omg
   have hbk : (ad.add (k * 4)).block < wr.heap.size := by rw [Tp.add_block]; have := HB0.out.size; omega
   have hdrop := Tp.drop_cons ps (0, 0, 0, 0) k hlt
   simp only [Tp.qc] at e0 e1 e2 e3
   clear HSl
   obtain ⟨pv, hpv⟩ : ∃ pv, pv = (ps.getD (k - 1) (0, 0, 0, 0)).1 := ⟨_, rfl⟩
   have HPV := qh hpv
   have hlast := HL.out
   rw [← hpv] at hlast
   clear hpv
   have HNX : Hid (ps.getD k (0, 0, 0, 0) = ps.getD k (0, 0, 0, 0)) := qh rfl
   generalize hs : ps.getD k (0, 0, 0, 0) = s at e0 e1 e2 e3 hdrop HNX
   obtain ⟨x1, x2, x3, x4⟩ := s
   have HSE := qh hs; clear hs HNX
   simp only at e0 e1 e2 e3
   have hbad := Rq.badP_ok (n := n) (x1 := x1) (x2 := x2) (pv := pv) hlast.1 hlast.2.1 hlast.2.2
   have HI2 := qh (show Tp.vP n (-1) ps = (!Rq.badP n x1 x2 pv k && (Tp.inb x3 0 x4 && decide (x4 ≤ 1048576) && Tp.vP n x1 (ps.drop (k + 1)))) by
    rw [HI.out, hdrop, Tp.vP, Tp.okP1, ← hbad]; simp only [Bool.and_assoc])
   have HLB := qh (show Rq.badP n x1 x2 pv k = false → -1 ≤ x1 by
    intro h
    rw [h] at hbad
    simp only [Bool.not_false, Bool.and_eq_true, Tp.inb_iff] at hbad
    omega)
   clear hdrop HI hbad hlast
   obtain ⟨B, hBd⟩ : ∃ B, B = Rq.badP n x1 x2 pv k := ⟨_, rfl⟩
   rw [← hBd] at HI2 HLB
   go_upto_region 5 with fail
   refine Kit.wp_name ?_; intro W1 hW1
   have HW1 := qh hW1
   go_cut [3, 49] from 17 to 49 (fun s3 s49 wx => s3 = .int .i64 k ∧ s49 = .bool B ∧ Hid (Below W1.heap.size W1 wx))
   case first =>
    have q0 : ∀ z : Kit.Wd W1, z.val.cell? ⟨w.heap.size, 0, none⟩ = some (.int .i64 n) := fun z => z.cell (by rw [hW1]; simp [go_sem, *]) (by rw [hW1]; simp; omega)
    have q2 : ∀ z : Kit.Wd W1, z.val.cell? ⟨w.heap.size, 2, none⟩ = some (.slice (some ad) ps.length cP) := fun z => z.cell (by rw [hW1]; simp [go_sem, *]) (by rw [hW1]; simp; omega)
    have p0 : ∀ z : Kit.Wd W1, z.val.cell? ⟨wr.heap.size, 0, none⟩ = some (.int .i64 x1) := fun z => z.cell (by rw [hW1]; simp [go_sem]) (by rw [hW1]; simp)
    have p1 : ∀ z : Kit.Wd W1, z.val.cell? ⟨wr.heap.size, 1, none⟩ = some (.int .i64 x2) := fun z => z.cell (by rw [hW1]; simp [go_sem]) (by rw [hW1]; simp)
    have hpc : 0 < k → ∀ z : Kit.Wd W1, z.val.cell? (ad.add ((k - 1) * 4)) = some (.int .i64 pv) := fun h z => by
     have h5 : Below wr.heap.size wr W1 := by rw [hW1]; exact Kit.gr
     have := (SP.out.kept (HB0.out.trans ((hwr.trans (h5.mono zwr)).mono HB0.out.size |>.trans (z.below.mono (Nat.le_trans HB0.out.size (Nat.le_trans zwr h5.size))))) nlr).head (i := k - 1) omg omg
     rw [this]; simp only [Tp.qc]; rw [HPV.out]
    have TG := qh (fun W => rq_in13_b x1 0 (n - 2) W)
    rcases b1 : Tp.inb x1 0 (n - 2) with _ | _
    ·rw [b1] at TG
     have HBV := qh (show B = true by rw [hBd]; simp only [Rq.badP]; simp [*])
     clear hBd hW1 hpc
     (refine Kit.wp_region_cls (by kernel_rfl) (by kernel_rfl) ?_; (repeat (go_big_quiet_step (exact Kit.calls_cls _ (TG.out _)))); refine wpQuiet_nil ?_; intro z)
     have HZ := qh z.below
     generalize z.val = Z at *
     clear q0 q2 p0 p1 z
     go_wp2_with fail
     go_meet
     case rel => exact ⟨rfl, by rw [HBV.out], HZ⟩
    ·rw [b1] at TG
     by_cases hk0 : k = 0
     ·have kz : decide (0 < k) = false := by simp; omega
      clear hk0 hpc
      rcases b5 : (x2 != 1) with _ | _
      ·have HBV := qh (show B = false by rw [hBd]; simp only [Rq.badP]; simp [*])
       clear hBd hW1
       (refine Kit.wp_region_cls (by kernel_rfl) (by kernel_rfl) ?_; (repeat (go_big_quiet_step (exact Kit.calls_cls _ (TG.out _)))); refine wpQuiet_nil ?_; intro z)
       have HZ := qh z.below
       generalize z.val = Z at *
       clear q0 q2 p0 p1 z
       go_wp2_with fail
       go_meet
       case rel => exact ⟨rfl, by rw [HBV.out], HZ⟩
      ·rcases b6 : (x2 != 2) with _ | _
       ·have HBV := qh (show B = false by rw [hBd]; simp only [Rq.badP]; simp [*])
        clear hBd hW1
        (refine Kit.wp_region_cls (by kernel_rfl) (by kernel_rfl) ?_; (repeat (go_big_quiet_step (exact Kit.calls_cls _ (TG.out _)))); refine wpQuiet_nil ?_; intro z)
        have HZ := qh z.below
        generalize z.val = Z at *
        clear q0 q2 p0 p1 z
        go_wp2_with fail
        go_meet
        case rel => exact ⟨rfl, by rw [HBV.out], HZ⟩
       ·have HBV := qh (show B = true by rw [hBd]; simp only [Rq.badP]; simp [*])
        clear hBd hW1
        (refine Kit.wp_region_cls (by kernel_rfl) (by kernel_rfl) ?_; (repeat (go_big_quiet_step (exact Kit.calls_cls _ (TG.out _)))); refine wpQuiet_nil ?_; intro z)
        have HZ := qh z.below
        generalize z.val = Z at *
        clear q0 q2 p0 p1 z
        go_wp2_with fail
        go_meet
        case rel => exact ⟨rfl, by rw [HBV.out], HZ⟩
     ·have kz : decide (0 < k) = true := by simp; omega
      have g0 := hpc omg
      have hk1 : 1 ≤ k := by omega
      clear hk0 hpc
      rcases b4 : decide (x1 ≤ pv) with _ | _
      ·rcases b5 : (x2 != 1) with _ | _
       ·have HBV := qh (show B = false by rw [hBd]; simp only [Rq.badP]; simp [*])
        clear hBd hW1
        (refine Kit.wp_region_cls (by kernel_rfl) (by kernel_rfl) ?_; (repeat (go_big_quiet_step (exact Kit.calls_cls _ (TG.out _)))); refine wpQuiet_nil ?_; intro z)
        have HZ := qh z.below
        generalize z.val = Z at *
        clear q0 q2 p0 p1 z
        go_wp2_with fail
        go_meet
        case rel => exact ⟨rfl, by rw [HBV.out], HZ⟩
       ·rcases b6 : (x2 != 2) with _ | _
        ·have HBV := qh (show B = false by rw [hBd]; simp only [Rq.badP]; simp [*])
         clear hBd hW1
         (refine Kit.wp_region_cls (by kernel_rfl) (by kernel_rfl) ?_; (repeat (go_big_quiet_step (exact Kit.calls_cls _ (TG.out _)))); refine wpQuiet_nil ?_; intro z)
         have HZ := qh z.below
         generalize z.val = Z at *
         clear q0 q2 p0 p1 z
         go_wp2_with fail
         go_meet
         case rel => exact ⟨rfl, by rw [HBV.out], HZ⟩
        ·have HBV := qh (show B = true by rw [hBd]; simp only [Rq.badP]; simp [*])
         clear hBd hW1
         (refine Kit.wp_region_cls (by kernel_rfl) (by kernel_rfl) ?_; (repeat (go_big_quiet_step (exact Kit.calls_cls _ (TG.out _)))); refine wpQuiet_nil ?_; intro z)
         have HZ := qh z.below
         generalize z.val = Z at *
         clear q0 q2 p0 p1 z
         go_wp2_with fail
         go_meet
         case rel => exact ⟨rfl, by rw [HBV.out], HZ⟩
      ·have HBV := qh (show B = true by rw [hBd]; simp only [Rq.badP]; simp [*])
       clear hBd hW1
       (refine Kit.wp_region_cls (by kernel_rfl) (by kernel_rfl) ?_; (repeat (go_big_quiet_step (exact Kit.calls_cls _ (TG.out _)))); refine wpQuiet_nil ?_; intro z)
       have HZ := qh z.below
       generalize z.val = Z at *
       clear q0 q2 p0 p1 z
       go_wp2_with fail
       go_meet
       case rel => exact ⟨rfl, by rw [HBV.out], HZ⟩
   case rest =>
    obtain ⟨rfl, rfl, HC⟩ := hcut
    have h1 : Below W0.heap.size W0 W1 := by rw [HW1.out]; exact Kit.gr
    have hwc : Below W0.heap.size W0 wc := h1.trans (HC.out.mono h1.size)
    have HWC := qh hwc
    have HE := qh (HB0.out.trans (hwc.mono HB0.out.size))
    have p0 : wc.cell? ⟨wr.heap.size, 2, none⟩ = some (.int .i64 x3) := (HC.out.cell (p := ⟨wr.heap.size, 2, none⟩) (by rw [HW1.out]; simp)).trans (by rw [HW1.out]; simp [go_sem])
    have p1 : wc.cell? ⟨wr.heap.size, 3, none⟩ = some (.int .i64 x4) := (HC.out.cell (p := ⟨wr.heap.size, 3, none⟩) (by rw [HW1.out]; simp)).trans (by rw [HW1.out]; simp [go_sem])
    clear hwc h1 HW1 HC hwr k0 k2 e0 e1 e2 e3 HB HL HPV
    rcases B with _ | _
    ·by_cases c1 : x3 < 0
     ·have d1 : decide (x3 < 0) = true := decide_eq_true c1
      have d1' : Tp.inb x3 0 x4 = false := by simp [Tp.inb]; omega
      clear c1 hBd
      have HR := qh (show Tp.vP n (-1) ps = false by rw [HI2.out]; simp [*])
      clear HI2 HLB
      go_wp2
      go_ret
      exact ⟨by rw [HR.out]; rfl, HE.out⟩
     have d1 : decide (x3 < 0) = false := decide_eq_false c1
     by_cases c2 : x4 < x3
     ·have d2 : decide (x4 < x3) = true := decide_eq_true c2
      have d2' : Tp.inb x3 0 x4 = false := by simp [Tp.inb]; omega
      clear c1 c2 hBd
      have HR := qh (show Tp.vP n (-1) ps = false by rw [HI2.out]; simp [*])
      clear HI2 HLB
      go_wp2
      go_ret
      exact ⟨by rw [HR.out]; rfl, HE.out⟩
     have d2 : decide (x4 < x3) = false := decide_eq_false c2
     have d2' : Tp.inb x3 0 x4 = true := by simp [Tp.inb]; omega
     by_cases c3 : 1048576 < x4
     ·have d3 : decide (1048576 < x4) = true := decide_eq_true c3
      have d3' : decide (x4 ≤ 1048576) = false := by simp; omega
      clear c1 c2 c3 hBd
      have HR := qh (show Tp.vP n (-1) ps = false by rw [HI2.out]; simp [*])
      clear HI2 HLB
      go_wp2
      go_ret
      exact ⟨by rw [HR.out]; rfl, HE.out⟩
     have d3 : decide (1048576 < x4) = false := decide_eq_false c3
     have d3' : decide (x4 ≤ 1048576) = true := by simp; omega
     have HR := qh (show Tp.vP n (-1) ps = Tp.vP n x1 (ps.drop (k + 1)) by rw [HI2.out]; simp [*])
     have HL2 := qh (show -1 ≤ x1 ∧ (0 < k + 1 → (ps.getD (k + 1 - 1) (0, 0, 0, 0)).1 = x1) ∧ (k + 1 = 0 → x1 = -1) from ⟨HLB.out rfl, fun _ => by rw [Nat.add_sub_cancel, HSE.out], fun h => by omega⟩)
     clear HI2 HLB c1 c2 c3 hBd HSE
     go_wp2
     go_roundw
     case rel => first | exact ⟨k + 1, x1, by go_num, by omega, HL2, HR, HWC⟩ | ((repeat apply Exists.intro); exact ⟨⟨k + 1, x1, by go_num, by omega, HL2, HR, HWC⟩, rfl⟩)
     case measure => simp [intOf]; omega
    ·clear hBd
     have HR := qh (show Tp.vP n (-1) ps = false by rw [HI2.out]; simp [*])
     clear HI2 HLB
     go_wp2
     go_ret
     exact ⟨by rw [HR.out]; rfl, HE.out⟩
  ·have HR := qh (show Tp.vP n (-1) ps = true by rw [HI.out, List.drop_of_length_le omg]; rfl)
   clear HI
   go_wp2
   go_ret
   exact ⟨by rw [HR.out]; rfl, HB0.out.trans (Below.mono (by exact Kit.gr) HB0.out.size)⟩
end Go.Proofs.YtedolbjgdedoaaaGreatDoor

namespace Go.Proofs.YtedolbjgdedoaaaGreatDoor
open Go.RowKit

theorem Rq.cur_uniq {ts : List Tp.T} {bar : Int} {k m : Nat} (h : Tp.cur ts bar k) (h' : Tp.cur ts bar m) : k = m := by
 obtain ⟨a1, a2, a3⟩ := h
 obtain ⟨b1, b2, b3⟩ := h'
 rcases Nat.lt_trichotomy k m with e | e | e
 ·have := a3 m e b1; omega
 ·exact e
 ·have := b3 k e a1; omega

theorem rq_ticks (n : Int) (aT : Option Addr) (ts : List Tp.T) (cT : Nat) (aP : Option Addr) (nP cP : Nat) (aS : Option Addr) (nS cS : Nat) (bar : Int) (w : World) (lT : ts.length ≤ 4096) (hT : Tp.Sl w aT ts.length 3 (Tp.tc ts)) (hr : Tp.Rise ts) (hb : 0 ≤ bar ∧ bar ≤ 4096)
  (hbd : ∀ i, i < ts.length → 0 ≤ Tp.bars ts i ∧ -65536 ≤ (ts.getD i (0, 0, 0)).2.1 ∧ (ts.getD i (0, 0, 0)).2.1 ≤ 65536 ∧ -65536 ≤ (ts.getD i (0, 0, 0)).2.2 ∧ (ts.getD i (0, 0, 0)).2.2 ≤ 65536) :
  Calls Tryz.prog 176 #[Rq.clk n aT ts.length cT aP nP cP aS nS cS, .int .i64 bar] w fun e w' => e = .returned (.int .i64 (Tp.tk ts bar)) ∧ Below w.heap.size w w' := by
 obtain ⟨hb1, hb2⟩ := hb
 have hcur := Tp.cur_curI hr hb1
 obtain ⟨ad, rfl, had, _⟩ := hT.at hr.1
 have HT := qh hT; clear hT
 have HR := qh hr
 have HBD := qh hbd; clear hbd
 have HCU := qh hcur; clear hcur
 have h0 := hr.1
 have hz := qh (show Tp.bars ts 0 ≤ bar by rw [hr.2.1]; exact hb1)
 clear hr
 go_enter Tryz.func176, Tryz.ntmps176
 go_wp2_with fail
 go_loopw [5] (fun v5 wr => ∃ k : Nat, v5 = .int .i64 k ∧ k < ts.length ∧ Hid (Tp.bars ts k ≤ bar) ∧ wr = w.alloc (.cells #[.int .i64 n, .slice (some ad) ts.length cT, .slice aP nP cP, .slice aS nS cS] 29)) (fun v5 _ => ts.length - (intOf v5).toNat)
 case atStart => exact ⟨0, rfl, h0, hz, rfl⟩
 case round =>
  obtain ⟨k, rfl, hk, HK, rfl⟩ := hrel
  have fin : Tp.cur ts bar k → Hid (k = Tp.curI ts bar) := fun h => qh (Rq.cur_uniq h HCU.out)
  by_cases hlt : k + 1 < ts.length
  ·have e0 := HT.out.head hlt omg
   simp only [Tp.tc] at e0
   have hbk : (ad.add ((k + 1) * 3)).block < w.heap.size := by rw [Tp.add_block]; exact had
   have t1 : decide (k + 1 < ts.length) = true := decide_eq_true hlt
   by_cases hnx : Tp.bars ts (k + 1) ≤ bar
   ·have t2 : decide ((ts.getD (k + 1) (0, 0, 0)).1 ≤ bar) = true := decide_eq_true hnx
    have HN := qh hnx
    clear hnx fin
    generalize (ts.getD (k + 1) (0, 0, 0)).1 = y at e0 t2
    go_wp2
    go_roundw
    case rel => exact ⟨k + 1, by go_num, hlt, HN, by first | rfl | trivial⟩
    case measure => simp [intOf]; omega
   ·have t2 : decide ((ts.getD (k + 1) (0, 0, 0)).1 ≤ bar) = false := decide_eq_false hnx
    have HF := fin ⟨hk, HK.out, fun i hi hl => by
     by_cases e : i = k + 1
     ·subst e; omega
     ·have := HR.out.2.2 (k + 1) i omg hl; omega⟩
    clear hnx
    generalize (ts.getD (k + 1) (0, 0, 0)).1 = y at e0 t2
    have q0 := HT.out.head hk omg
    have q1 := HT.out.field hk (j := 1) omg omg
    have q2 := HT.out.field hk (j := 2) omg omg
    have hbq : (ad.add (k * 3)).block < w.heap.size := by rw [Tp.add_block]; exact had
    have hv : Tp.tk ts bar = Tp.val ts bar k := by unfold Tp.tk; rw [← HF.out]
    have hbb := HBD.out k hk
    have hkb := HK.out
    unfold Tp.val at hv
    unfold Tp.bars at hbb hkb
    simp only [Tp.tc] at q0 q1 q2
    generalize ts.getD k (0, 0, 0) = t at q0 q1 q2 hv hbb hkb
    obtain ⟨x1, x2, x3⟩ := t
    simp only at q0 q1 q2 hv hbb hkb
    obtain ⟨b0, b1, b2, b3, b4⟩ := hbb
    obtain ⟨hm1, hm2⟩ := Tp.val_bd (bar - x1) x3 omg omg b3 b4
    have HV := qh hv
    clear hv fin
    go_wp2
    go_ret
    exact ⟨by rw [HV.out]; first | rfl | (simp; done), by exact Kit.gr⟩
  ·have t1 : decide (k + 1 < ts.length) = false := decide_eq_false hlt
   have HF := fin ⟨hk, HK.out, fun i hi hl => by omega⟩
   have q0 := HT.out.head hk omg
   have q1 := HT.out.field hk (j := 1) omg omg
   have q2 := HT.out.field hk (j := 2) omg omg
   have hbq : (ad.add (k * 3)).block < w.heap.size := by rw [Tp.add_block]; exact had
   have hv : Tp.tk ts bar = Tp.val ts bar k := by unfold Tp.tk; rw [← HF.out]
   have hbb := HBD.out k hk
   have hkb := HK.out
   unfold Tp.val at hv
   unfold Tp.bars at hbb hkb
   simp only [Tp.tc] at q0 q1 q2
   generalize ts.getD k (0, 0, 0) = t at q0 q1 q2 hv hbb hkb
   obtain ⟨x1, x2, x3⟩ := t
   simp only at q0 q1 q2 hv hbb hkb
   obtain ⟨b0, b1, b2, b3, b4⟩ := hbb
   obtain ⟨hm1, hm2⟩ := Tp.val_bd (bar - x1) x3 omg omg b3 b4
   have HV := qh hv
   clear hv fin
   go_wp2
   go_ret
   exact ⟨by rw [HV.out]; first | rfl | (simp; done), by exact Kit.gr⟩
end Go.Proofs.YtedolbjgdedoaaaGreatDoor

namespace Go.Proofs.YtedolbjgdedoaaaGreatDoor
namespace Rq
def lst (ts : List Tp.T) (n : Int) (i : Nat) : Int := if i + 1 < ts.length then Tp.bars ts (i + 1) - 1 else n - 1
def sB (ts : List Tp.T) (n : Int) (i : Nat) : Bool := Tp.inb (Tp.tk ts (Tp.bars ts i)) 1 65536 && Tp.inb (Tp.tk ts (lst ts n i)) 1 65536
theorem tk_cur {ts : List Tp.T} {bar : Int} {k : Nat} (hr : Tp.Rise ts) (hb : 0 ≤ bar) (h : Tp.cur ts bar k) : Tp.tk ts bar = Tp.val ts bar k := by
 unfold Tp.tk
 rw [cur_uniq (Tp.cur_curI hr hb) h]
theorem bars_nonneg {ts : List Tp.T} (hr : Tp.Rise ts) {i : Nat} (hi : i < ts.length) : 0 ≤ Tp.bars ts i := by
 rcases Nat.eq_zero_or_pos i with h | h
 ·subst h; rw [hr.2.1]; omega
 ·have := hr.2.2 0 i h hi
  rw [hr.2.1] at this
  omega
theorem cur_at {ts : List Tp.T} (hr : Tp.Rise ts) {n : Int} (hn : ∀ i, i < ts.length → Tp.bars ts i ≤ n - 1) {i : Nat} (hi : i < ts.length) {b : Int} (h1 : Tp.bars ts i ≤ b) (h2 : b ≤ lst ts n i) : Tp.cur ts b i := by
 refine ⟨hi, h1, fun j hj hl => ?_⟩
 unfold lst at h2
 rw [if_pos omg] at h2
 by_cases e : j = i + 1
 ·subst e; omega
 ·have := hr.2.2 (i + 1) j omg hl; omega
theorem lst_bd {ts : List Tp.T} (hr : Tp.Rise ts) {n : Int} (hn : ∀ i, i < ts.length → Tp.bars ts i ≤ n - 1) {i : Nat} (hi : i < ts.length) : Tp.bars ts i ≤ lst ts n i ∧ lst ts n i ≤ n - 1 := by
 unfold lst
 split
 ·rename_i h
  have h1 := hr.2.2 i (i + 1) omg h
  have h2 := hn (i + 1) h
  omega
 ·have := hn i hi; omega
theorem between {a b c s : Int} (h1 : a ≤ b) (h2 : b ≤ c) : (a * s ≤ b * s ∧ b * s ≤ c * s) ∨ (c * s ≤ b * s ∧ b * s ≤ a * s) := by
 rcases Int.le_total 0 s with h | h
 ·exact .inl ⟨Int.mul_le_mul_of_nonneg_right h1 h, Int.mul_le_mul_of_nonneg_right h2 h⟩
 ·exact .inr ⟨Int.mul_le_mul_of_nonpos_right h2 h, Int.mul_le_mul_of_nonpos_right h1 h⟩
theorem vB_iff {ts : List Tp.T} {n : Int} (hr : Tp.Rise ts) (hn : ∀ i, i < ts.length → Tp.bars ts i ≤ n - 1) : Tp.vB ts n = true ↔ ∀ i, i < ts.length → sB ts n i = true := by
 unfold Tp.vB
 rw [List.all_eq_true]
 constructor
 ·intro h i hi
  have b0 := bars_nonneg hr hi
  obtain ⟨l1, l2⟩ := lst_bd hr hn hi
  have hb := hn i hi
  have e1 := h (Tp.bars ts i).toNat (List.mem_range.2 omg)
  have e2 := h (lst ts n i).toNat (List.mem_range.2 omg)
  rw [show ((Tp.bars ts i).toNat : Int) = Tp.bars ts i by omega] at e1
  rw [show ((lst ts n i).toNat : Int) = lst ts n i by omega] at e2
  simp only [sB, Bool.and_eq_true]
  exact ⟨e1, e2⟩
 ·intro h b hb
  have hb2 := List.mem_range.1 hb
  have hc := Tp.cur_curI hr (show (0 : Int) ≤ (b : Int) by omega)
  obtain ⟨c1, c2, c3⟩ := hc
  have hs := h _ c1
  have hle : (b : Int) ≤ lst ts n (Tp.curI ts b) := by
   unfold lst
   split
   ·rename_i h5
    have := c3 _ omg h5
    omega
   ·omega
  have b0 := bars_nonneg hr c1
  obtain ⟨l1, l2⟩ := lst_bd hr hn c1
  simp only [sB, Bool.and_eq_true, Tp.inb_iff] at hs
  rw [tk_cur hr b0 (cur_at hr hn c1 (Int.le_refl _) l1), tk_cur hr omg (cur_at hr hn c1 l1 (Int.le_refl _))] at hs
  rw [Tp.inb_iff, tk_cur hr omg (Tp.cur_curI hr omg)]
  unfold Tp.val at hs ⊢
  have e : (ts.getD (Tp.curI ts b) (0, 0, 0)).1 = Tp.bars ts (Tp.curI ts b) := rfl
  rw [e] at hs ⊢
  generalize Tp.curI ts (b : Int) = k at *
  have hbt := between (s := (ts.getD k (0, 0, 0)).2.2) (show Tp.bars ts k - Tp.bars ts k ≤ (b : Int) - Tp.bars ts k by omega) (show (b : Int) - Tp.bars ts k ≤ lst ts n k - Tp.bars ts k by omega)
  omega
end Rq
end Go.Proofs.YtedolbjgdedoaaaGreatDoor

namespace Go.Proofs.YtedolbjgdedoaaaGreatDoor
open Go.RowKit

namespace Rq
def tmp (n : Int) (ts : List Tp.T) : Bool := decide (0 < ts.length) && (Tp.bars ts 0 == 0) && Tp.vT n (-1) ts && Tp.vB ts n
def badT (n x1 pv : Int) (k : Nat) : Bool := (decide (0 < k) && decide (x1 ≤ pv)) || decide (n ≤ x1)
theorem badT_ok {n x1 pv last : Int} {k : Nat} (h2 : 0 < k → pv = last) (h3 : k = 0 → last = -1 ∧ x1 = 0) : Tp.inb x1 (last + 1) (n - 1) = !badT n x1 pv k := by
 unfold badT
 rw [Bool.eq_iff_iff]
 simp only [Tp.inb_iff, Bool.not_or, Bool.not_and, Bool.and_eq_true, Bool.or_eq_true, Bool.not_eq_true', decide_eq_false_iff_not]
 rcases Nat.eq_zero_or_pos k with h | h
 ·have := h3 h; omega
 ·have := h2 h; omega
end Rq

theorem rq_tempos (n : Int) (aT : Option Addr) (ts : List Tp.T) (cT : Nat) (aP : Option Addr) (nP cP : Nat) (aS : Option Addr) (nS cS : Nat) (w : World) (hn : 1 ≤ n ∧ n ≤ 4096) (lT : ts.length ≤ 4096) (hT : Tp.Sl w aT ts.length 3 (Tp.tc ts)) :
  Calls Tryz.prog 155 #[Rq.clk n aT ts.length cT aP nP cP aS nS cS] w fun e w' => e = .returned (.bool (Rq.tmp n ts)) ∧ Below w.heap.size w w' := by
 obtain ⟨hn1, hn2⟩ := hn
 rcases Nat.eq_zero_or_pos ts.length with h0 | h0
 ·have t1 : ((ts.length : Int) == 0) = true := by rw [beq_iff_eq]; omega
  have hr : Rq.tmp n ts = false := by simp [Rq.tmp, h0]
  rw [hr]
  generalize ts.length = L at *
  clear hr h0 hT
  go_enter Tryz.func155, Tryz.ntmps155
  go_wp2
  go_ret
  exact ⟨rfl, by exact Kit.gr⟩
 have t1 : ((ts.length : Int) == 0) = false := by rw [beq_eq_false_iff_ne]; omega
 obtain ⟨ad, rfl, had, _⟩ := hT.at h0
 have HT := qh hT
 have e00 : w.cell? ad = some (.int .i64 (Tp.bars ts 0)) := by have := hT.head h0 omg; simpa [Addr.add, Tp.tc, Tp.bars] using this
 clear hT
 by_cases hz : Tp.bars ts 0 = 0
 ·rw [hz] at e00
  have HZ0 := qh hz
  have FIN : Hid (Rq.tmp n ts = (Tp.vT n (-1) ts && Tp.vB ts n)) := qh (by unfold Rq.tmp; rw [hz]; simp [h0])
  clear hz
  go_enter Tryz.func155, Tryz.ntmps155
  go_wp2_with fail
  refine Kit.wp_name ?_; intro W0 hW0
  have hB0 : Below w.heap.size w W0 := by rw [hW0]; exact Kit.gr
  have z0 : w.heap.size < W0.heap.size := by rw [hW0]; simp
  have k0 : W0.cell? ⟨w.heap.size, 0, none⟩ = some (.int .i64 n) := by rw [hW0]; simp [go_sem]
  have k1 : W0.cell? ⟨w.heap.size, 1, none⟩ = some (.slice (some ad) ts.length cT) := by rw [hW0]; simp [go_sem]
  have k2 : W0.cell? ⟨w.heap.size, 2, none⟩ = some (.slice aP nP cP) := by rw [hW0]; simp [go_sem]
  have k3 : W0.cell? ⟨w.heap.size, 3, none⟩ = some (.slice aS nS cS) := by rw [hW0]; simp [go_sem]
  have K0 := qh k0; have K1 := qh k1; have K2 := qh k2; have K3 := qh k3; have HB0 := qh hB0
  clear k0 k1 k2 k3 hB0 hW0 e00
  go_loopw [3] (fun v3 wr => ∃ (k : Nat) (last : Int), v3 = .int .i64 k ∧ k ≤ ts.length ∧ Hid ((0 < k → (ts.getD (k - 1) (0, 0, 0)).1 = last) ∧ (k = 0 → last = -1)) ∧ Hid (Tp.vT n (-1) ts = Tp.vT n last (ts.drop k)) ∧ Hid (Below W0.heap.size W0 wr)) (fun v3 _ => ts.length - (intOf v3).toNat)
  case atStart => exact ⟨0, -1, rfl, Nat.zero_le _, qh ⟨fun h => by omega, fun _ => rfl⟩, qh (by simp), qh (Below.refl _ _)⟩
  case round =>
   obtain ⟨k, last, rfl, hk, HL, HI, HB⟩ := hrel
   have hwr := HB.out
   have zwr : W0.heap.size ≤ wr.heap.size := hwr.size
   have k0 : wr.cell? ⟨w.heap.size, 0, none⟩ = some (.int .i64 n) := (hwr.cell (p := ⟨w.heap.size, 0, none⟩) z0).trans K0.out
   have k1 : wr.cell? ⟨w.heap.size, 1, none⟩ = some (.slice (some ad) ts.length cT) := (hwr.cell (p := ⟨w.heap.size, 1, none⟩) z0).trans K1.out
   have zz : w.heap.size < wr.heap.size := by omega
   by_cases hlt : k < ts.length
   ·have HSl := HT.out.kept (HB0.out.trans (hwr.mono HB0.out.size)) nlr
    have e0 := HSl.head hlt omg
    have e1 := HSl.field hlt (j := 1) omg omg
    have e2 := HSl.field hlt (j := 2) omg omg
    have hbk : (ad.add (k * 3)).block < wr.heap.size := by rw [Tp.add_block]; have := HB0.out.size; omega
    have hdrop := Tp.drop_cons ts (0, 0, 0) k hlt
    simp only [Tp.tc] at e0 e1 e2
    clear HSl
    obtain ⟨pv, hpv⟩ : ∃ pv, pv = (ts.getD (k - 1) (0, 0, 0)).1 := ⟨_, rfl⟩
    have HPV := qh hpv
    have hlast := HL.out
    rw [← hpv] at hlast
    clear hpv
    have hx0 : k = 0 → (ts.getD k (0, 0, 0)).1 = 0 := fun h => by subst h; exact HZ0.out
    generalize hs : ts.getD k (0, 0, 0) = s at e0 e1 e2 hdrop hx0
    obtain ⟨x1, x2, x3⟩ := s
    have HSE := qh hs; clear hs
    simp only at e0 e1 e2 hx0
    have hbad := Rq.badT_ok (n := n) (x1 := x1) (pv := pv) (last := last) (k := k) hlast.1 (fun h => ⟨hlast.2 h, hx0 h⟩)
    have HI2 := qh (show Tp.vT n (-1) ts = (!Rq.badT n x1 pv k && (Tp.inb x2 (-65536) 65536 && Tp.inb x3 (-65536) 65536 && Tp.vT n x1 (ts.drop (k + 1)))) by
     rw [HI.out, hdrop, Tp.vT, Tp.okT1, hbad]; simp only [Bool.and_assoc])
    clear hdrop HI hbad hlast hx0
    obtain ⟨B, hBd⟩ : ∃ B, B = Rq.badT n x1 pv k := ⟨_, rfl⟩
    rw [← hBd] at HI2
    go_upto_region 7 with fail
    refine Kit.wp_name ?_; intro W1 hW1
    have HW1 := qh hW1
    go_cut [3, 51] from 31 to 51 (fun s3 s51 wx => s3 = .int .i64 k ∧ s51 = .bool B ∧ Hid (Below W1.heap.size W1 wx))
    case first =>
     have q0 : ∀ z : Kit.Wd W1, z.val.cell? ⟨w.heap.size, 0, none⟩ = some (.int .i64 n) := fun z => z.cell (by rw [hW1]; simp [go_sem, *]) (by rw [hW1]; simp; omega)
     have q1 : ∀ z : Kit.Wd W1, z.val.cell? ⟨w.heap.size, 1, none⟩ = some (.slice (some ad) ts.length cT) := fun z => z.cell (by rw [hW1]; simp [go_sem, *]) (by rw [hW1]; simp; omega)
     have p0 : ∀ z : Kit.Wd W1, z.val.cell? ⟨wr.heap.size, 0, none⟩ = some (.int .i64 x1) := fun z => z.cell (by rw [hW1]; simp [go_sem]) (by rw [hW1]; simp)
     have hpc : 0 < k → ∀ z : Kit.Wd W1, z.val.cell? (ad.add ((k - 1) * 3)) = some (.int .i64 pv) := fun h z => by
      have h5 : Below wr.heap.size wr W1 := by rw [hW1]; exact Kit.gr
      have := (HT.out.kept (HB0.out.trans ((hwr.trans (h5.mono zwr)).mono HB0.out.size |>.trans (z.below.mono (Nat.le_trans HB0.out.size (Nat.le_trans zwr h5.size))))) nlr).head (i := k - 1) omg omg
      rw [this]; simp only [Tp.tc]; rw [HPV.out]
     by_cases hk0 : k = 0
     ·have kz : decide (0 < k) = false := by simp; omega
      clear hk0 hpc
      rcases b5 : decide (n ≤ x1) with _ | _
      ·have HBV := qh (show B = false by rw [hBd]; simp only [Rq.badT]; simp [*])
       clear hBd hW1
       (refine Kit.wp_region_cls (by kernel_rfl) (by kernel_rfl) ?_; (repeat (go_big_quiet_step (fail))); refine wpQuiet_nil ?_; intro z)
       have HZ := qh z.below
       generalize z.val = Z at *
       clear q0 q1 p0 z
       go_wp2_with fail
       go_meet
       case rel => exact ⟨rfl, by rw [HBV.out], HZ⟩
      ·have HBV := qh (show B = true by rw [hBd]; simp only [Rq.badT]; simp [*])
       clear hBd hW1
       (refine Kit.wp_region_cls (by kernel_rfl) (by kernel_rfl) ?_; (repeat (go_big_quiet_step (fail))); refine wpQuiet_nil ?_; intro z)
       have HZ := qh z.below
       generalize z.val = Z at *
       clear q0 q1 p0 z
       go_wp2_with fail
       go_meet
       case rel => exact ⟨rfl, by rw [HBV.out], HZ⟩
     ·have kz : decide (0 < k) = true := by simp; omega
      have g0 := hpc omg
      have hk1 : 1 ≤ k := by omega
      clear hk0 hpc
      rcases b4 : decide (x1 ≤ pv) with _ | _
      ·rcases b5 : decide (n ≤ x1) with _ | _
       ·have HBV := qh (show B = false by rw [hBd]; simp only [Rq.badT]; simp [*])
        clear hBd hW1
        (refine Kit.wp_region_cls (by kernel_rfl) (by kernel_rfl) ?_; (repeat (go_big_quiet_step (fail))); refine wpQuiet_nil ?_; intro z)
        have HZ := qh z.below
        generalize z.val = Z at *
        clear q0 q1 p0 z
        go_wp2_with fail
        go_meet
        case rel => exact ⟨rfl, by rw [HBV.out], HZ⟩
       ·have HBV := qh (show B = true by rw [hBd]; simp only [Rq.badT]; simp [*])
        clear hBd hW1
        (refine Kit.wp_region_cls (by kernel_rfl) (by kernel_rfl) ?_; (repeat (go_big_quiet_step (fail))); refine wpQuiet_nil ?_; intro z)
        have HZ := qh z.below
        generalize z.val = Z at *
        clear q0 q1 p0 z
        go_wp2_with fail
        go_meet
        case rel => exact ⟨rfl, by rw [HBV.out], HZ⟩
      ·have HBV := qh (show B = true by rw [hBd]; simp only [Rq.badT]; simp [*])
       clear hBd hW1
       (refine Kit.wp_region_cls (by kernel_rfl) (by kernel_rfl) ?_; (repeat (go_big_quiet_step (fail))); refine wpQuiet_nil ?_; intro z)
       have HZ := qh z.below
       generalize z.val = Z at *
       clear q0 q1 p0 z
       go_wp2_with fail
       go_meet
       case rel => exact ⟨rfl, by rw [HBV.out], HZ⟩
    case rest =>
     obtain ⟨rfl, rfl, HC⟩ := hcut
     have h1 : Below W0.heap.size W0 W1 := by rw [HW1.out]; exact Kit.gr
     have hwc : Below W0.heap.size W0 wc := h1.trans (HC.out.mono h1.size)
     have HWC := qh hwc
     have HE := qh (HB0.out.trans (hwc.mono HB0.out.size))
     have p1 : wc.cell? ⟨wr.heap.size, 1, none⟩ = some (.int .i64 x2) := (HC.out.cell (p := ⟨wr.heap.size, 1, none⟩) (by rw [HW1.out]; simp)).trans (by rw [HW1.out]; simp [go_sem])
     have p2 : wc.cell? ⟨wr.heap.size, 2, none⟩ = some (.int .i64 x3) := (HC.out.cell (p := ⟨wr.heap.size, 2, none⟩) (by rw [HW1.out]; simp)).trans (by rw [HW1.out]; simp [go_sem])
     clear hwc h1 HW1 HC hwr k0 k1 e0 e1 e2 HB HL HPV hBd
     rcases B with _ | _
     ·rcases b2 : Tp.inb x2 (-65536) 65536 with _ | _
      ·have HR := qh (show Rq.tmp n ts = false by unfold Rq.tmp; rw [HI2.out]; simp [*])
       clear HI2
       go_wp2_with (go_at_call 154; refine (rq_in13 _ _ _ _).mono ?_; rintro e w' ⟨rfl, rfl⟩)
       go_ret
       exact ⟨by rw [HR.out]; rfl, HE.out⟩
      rcases b3 : Tp.inb x3 (-65536) 65536 with _ | _
      ·have HR := qh (show Rq.tmp n ts = false by unfold Rq.tmp; rw [HI2.out]; simp [*])
       clear HI2
       go_wp2_with (go_at_call 154; refine (rq_in13 _ _ _ _).mono ?_; rintro e w' ⟨rfl, rfl⟩)
       go_ret
       exact ⟨by rw [HR.out]; rfl, HE.out⟩
      have HR := qh (show Tp.vT n (-1) ts = Tp.vT n x1 (ts.drop (k + 1)) by rw [HI2.out]; simp [*])
      have HL2 := qh (show (0 < k + 1 → (ts.getD (k + 1 - 1) (0, 0, 0)).1 = x1) ∧ (k + 1 = 0 → x1 = -1) from ⟨fun _ => by rw [Nat.add_sub_cancel, HSE.out], fun h => by omega⟩)
      clear HI2 HSE
      go_wp2_with (go_at_call 154; refine (rq_in13 _ _ _ _).mono ?_; rintro e w' ⟨rfl, rfl⟩)
      go_roundw
      case rel => first | exact ⟨k + 1, x1, by go_num, by omega, HL2, HR, HWC⟩ | ((repeat apply Exists.intro); exact ⟨⟨k + 1, x1, by go_num, by omega, HL2, HR, HWC⟩, rfl⟩)
      case measure => simp [intOf]; omega
     ·have HR := qh (show Rq.tmp n ts = false by unfold Rq.tmp; rw [HI2.out]; simp [*])
      clear HI2
      go_wp2_with fail
      go_ret
      exact ⟨by rw [HR.out]; rfl, HE.out⟩
   ·have HV := qh (show Tp.vT n (-1) ts = true by rw [HI.out, List.drop_of_length_le omg]; rfl)
    have RISE := qh (show Tp.Rise ts from ⟨h0, HZ0.out, Tp.vT_rise HV.out⟩)
    have NB := qh (show ∀ i, i < ts.length → Tp.bars ts i ≤ n - 1 from fun i hi => (Tp.vT_mem HV.out i hi).2.1)
    have HBD := qh (show ∀ i, i < ts.length → 0 ≤ Tp.bars ts i ∧ -65536 ≤ (ts.getD i (0, 0, 0)).2.1 ∧ (ts.getD i (0, 0, 0)).2.1 ≤ 65536 ∧ -65536 ≤ (ts.getD i (0, 0, 0)).2.2 ∧ (ts.getD i (0, 0, 0)).2.2 ≤ 65536 from
     fun i hi => ⟨Rq.bars_nonneg RISE.out hi, (Tp.vT_mem HV.out i hi).2.2⟩)
    have FAIL := qh (show ∀ i, i < ts.length → Rq.sB ts n i = false → Rq.tmp n ts = false from fun i hi h => by
     rw [FIN.out, HV.out, Bool.true_and]
     rcases hv : Tp.vB ts n with _ | _
     ·rfl
     ·have := (Rq.vB_iff RISE.out NB.out).1 hv i hi
      rw [h] at this
      exact this.symm)
    have GOOD := qh (show (∀ i, i < ts.length → Rq.sB ts n i = true) → Rq.tmp n ts = true from fun h => by
     rw [FIN.out, HV.out, Bool.true_and]
     exact (Rq.vB_iff RISE.out NB.out).2 h)
    have HB2 := qh (HB0.out.trans (hwr.mono HB0.out.size))
    have z2 : w.heap.size < wr.heap.size := by omega
    have y0 := qh k0; have y1 := qh k1
    have y2 := qh ((hwr.cell (p := ⟨w.heap.size, 2, none⟩) z0).trans K2.out)
    have y3 := qh ((hwr.cell (p := ⟨w.heap.size, 3, none⟩) z0).trans K3.out)
    clear k0 k1 HI HL HB hwr zwr HV
    obtain ⟨W2, rfl⟩ : ∃ W2, W2 = wr := ⟨_, rfl⟩
    have kk1 := y1.out
    go_wp2_with fail
    clear kk1
    go_loopw [5] (fun v5 wr => ∃ i : Nat, v5 = .int .i64 i ∧ i ≤ ts.length ∧ Hid (∀ j, j < i → Rq.sB ts n j = true) ∧ Hid (Below W2.heap.size W2 wr)) (fun v5 _ => ts.length - (intOf v5).toNat)
    case atStart => exact ⟨0, rfl, Nat.zero_le _, qh (fun j hj => by omega), qh (Below.refl _ _)⟩
    case round =>
     obtain ⟨i, rfl, hi, HA, HB⟩ := hrel
     have hwr := HB.out
     have zwr : W2.heap.size ≤ wr.heap.size := hwr.size
     have k0 : wr.cell? ⟨w.heap.size, 0, none⟩ = some (.int .i64 n) := (hwr.cell (p := ⟨w.heap.size, 0, none⟩) z2).trans y0.out
     have k1 : wr.cell? ⟨w.heap.size, 1, none⟩ = some (.slice (some ad) ts.length cT) := (hwr.cell (p := ⟨w.heap.size, 1, none⟩) z2).trans y1.out
     have k2 := (hwr.cell (p := ⟨w.heap.size, 2, none⟩) z2).trans y2.out
     have k3 := (hwr.cell (p := ⟨w.heap.size, 3, none⟩) z2).trans y3.out
     have zz : w.heap.size < wr.heap.size := by omega
     by_cases hlt : i < ts.length
     ·have HSl := HT.out.kept (HB2.out.trans (hwr.mono HB2.out.size)) nlr
      have e0 : wr.cell? (ad.add (i * 3)) = some (.int .i64 (Tp.bars ts i)) := HSl.head hlt omg
      have hbk : (ad.add (i * 3)).block < wr.heap.size := by rw [Tp.add_block]; have := HB2.out.size; omega
      have hbi : 0 ≤ Tp.bars ts i ∧ Tp.bars ts i ≤ n - 1 := ⟨Rq.bars_nonneg RISE.out hlt, NB.out i hlt⟩
      have q0 : ∀ z : Kit.Wd wr, z.val.cell? ⟨w.heap.size, 0, none⟩ = some (.int .i64 n) := fun z => z.cell k0 zz
      have q1 : ∀ z : Kit.Wd wr, z.val.cell? ⟨w.heap.size, 1, none⟩ = some (.slice (some ad) ts.length cT) := fun z => z.cell k1 zz
      have q2 : ∀ z : Kit.Wd wr, z.val.cell? ⟨w.heap.size, 2, none⟩ = some (.slice aP nP cP) := fun z => z.cell k2 zz
      have q3 : ∀ z : Kit.Wd wr, z.val.cell? ⟨w.heap.size, 3, none⟩ = some (.slice aS nS cS) := fun z => z.cell k3 zz
      have c0 : ∀ z : Kit.Wd wr, z.val.cell? (ad.add (i * 3)) = some (.int .i64 (Tp.bars ts i)) := fun z => z.cell e0 hbk
      obtain ⟨hbi1, hbi2⟩ := hbi
      have hbi : 0 ≤ Tp.bars ts i ∧ Tp.bars ts i ≤ n - 1 := ⟨hbi1, hbi2⟩
      by_cases hnx : i + 1 < ts.length
      ·have d5 : decide (i + 1 < ts.length) = true := decide_eq_true hnx
       have f0 : wr.cell? (ad.add ((i + 1) * 3)) = some (.int .i64 (Tp.bars ts (i + 1))) := HSl.head hnx omg
       have hb1 := Rq.bars_nonneg RISE.out hnx
       have hb2 := NB.out (i + 1) hnx
       have hb3 := RISE.out.2.2 i (i + 1) omg hnx
       have hlst : Rq.lst ts n i = Tp.bars ts (i + 1) - 1 := by unfold Rq.lst; rw [if_pos hnx]
       clear HSl
       have TG1 := qh (fun (W : World) (h : Below wr.heap.size wr W) => rq_ticks n (some ad) ts cT aP nP cP aS nS cS (Tp.bars ts i) W lT (HT.out.kept (HB2.out.trans ((hwr.trans (h.mono zwr)).mono HB2.out.size)) nlr) RISE.out ⟨hbi.1, by omega⟩ HBD.out)
       have TG2 := qh (fun (W : World) (h : Below wr.heap.size wr W) => rq_ticks n (some ad) ts cT aP nP cP aS nS cS (Tp.bars ts (i + 1) - 1) W lT (HT.out.kept (HB2.out.trans ((hwr.trans (h.mono zwr)).mono HB2.out.size)) nlr) RISE.out ⟨by omega, by omega⟩ HBD.out)
       have hsb : Rq.sB ts n i = (Tp.inb (Tp.tk ts (Tp.bars ts i)) 1 65536 && Tp.inb (Tp.tk ts (Tp.bars ts (i + 1) - 1)) 1 65536) := by unfold Rq.sB; rw [hlst]
       have IN1 := qh (fun W => rq_in13_b (Tp.tk ts (Tp.bars ts i)) 1 65536 W)
       have IN2 := qh (fun W => rq_in13_b (Tp.tk ts (Tp.bars ts (i + 1) - 1)) 1 65536 W)
       have HSB := qh hsb; clear hsb hlst
       generalize Tp.tk ts (Tp.bars ts i) = ka at *
       generalize Tp.tk ts (Tp.bars ts (i + 1) - 1) = kb at *
       rcases v1 : Tp.inb ka 1 65536 with _ | _
       ·have HR := qh (show Rq.tmp n ts = false from FAIL.out i hlt (by rw [HSB.out, v1]; rfl))
        rw [v1] at IN1; clear HSB v1
        go_wp2_with fail
        (refine Kit.wp_region_cls (by kernel_rfl) (by kernel_rfl) ?_; (repeat (go_big_quiet_step (first | (with_reducible exact Kit.calls_cls _ (TG1.out _ (Kit.Wd.below _))) | (with_reducible exact Kit.calls_cls _ (TG2.out _ (Kit.Wd.below _))) | (with_reducible exact Kit.calls_cls _ (IN1.out _)) | (with_reducible exact Kit.calls_cls _ (IN2.out _))))); refine wpQuiet_nil ?_; intro z)
        have HZ := qh (hwr.trans (z.below.mono zwr))
        generalize z.val = Z at *
        clear q0 q1 q2 q3 c0 z
        go_wp2
        go_ret
        exact ⟨by rw [HR.out]; rfl, HB2.out.trans (HZ.out.mono HB2.out.size)⟩
       rcases v2 : Tp.inb kb 1 65536 with _ | _
       ·have HR := qh (show Rq.tmp n ts = false from FAIL.out i hlt (by rw [HSB.out, v1, v2]; rfl))
        rw [v1] at IN1; rw [v2] at IN2; clear HSB v1 v2
        go_wp2_with fail
        (refine Kit.wp_region_cls (by kernel_rfl) (by kernel_rfl) ?_; (repeat (go_big_quiet_step (first | (with_reducible exact Kit.calls_cls _ (TG1.out _ (Kit.Wd.below _))) | (with_reducible exact Kit.calls_cls _ (TG2.out _ (Kit.Wd.below _))) | (with_reducible exact Kit.calls_cls _ (IN1.out _)) | (with_reducible exact Kit.calls_cls _ (IN2.out _))))); refine wpQuiet_nil ?_; intro z)
        have HZ := qh (hwr.trans (z.below.mono zwr))
        generalize z.val = Z at *
        clear q0 q1 q2 q3 c0 z
        go_wp2
        go_ret
        exact ⟨by rw [HR.out]; rfl, HB2.out.trans (HZ.out.mono HB2.out.size)⟩
       ·have HA2 := qh (show ∀ j, j < i + 1 → Rq.sB ts n j = true from fun j hj => by
         by_cases e : j = i
         ·subst e; rw [HSB.out, v1, v2]; rfl
         ·exact HA.out j omg)
        rw [v1] at IN1; rw [v2] at IN2; clear HSB v1 v2
        go_wp2_with fail
        (refine Kit.wp_region_cls (by kernel_rfl) (by kernel_rfl) ?_; (repeat (go_big_quiet_step (first | (with_reducible exact Kit.calls_cls _ (TG1.out _ (Kit.Wd.below _))) | (with_reducible exact Kit.calls_cls _ (TG2.out _ (Kit.Wd.below _))) | (with_reducible exact Kit.calls_cls _ (IN1.out _)) | (with_reducible exact Kit.calls_cls _ (IN2.out _))))); refine wpQuiet_nil ?_; intro z)
        have HZ := qh (hwr.trans (z.below.mono zwr))
        generalize z.val = Z at *
        clear q0 q1 q2 q3 c0 z
        go_wp2
        go_roundw
        case rel => first | exact ⟨i + 1, by go_num, by omega, HA2, HZ⟩ | ((repeat apply Exists.intro); exact ⟨⟨i + 1, by go_num, by omega, HA2, HZ⟩, rfl⟩)
        case measure => simp [intOf]; omega
      ·have d5 : decide (i + 1 < ts.length) = false := decide_eq_false hnx
       have hlst : Rq.lst ts n i = n - 1 := by unfold Rq.lst; rw [if_neg hnx]
       clear HSl
       have TG1 := qh (fun (W : World) (h : Below wr.heap.size wr W) => rq_ticks n (some ad) ts cT aP nP cP aS nS cS (Tp.bars ts i) W lT (HT.out.kept (HB2.out.trans ((hwr.trans (h.mono zwr)).mono HB2.out.size)) nlr) RISE.out ⟨hbi.1, by omega⟩ HBD.out)
       have TG2 := qh (fun (W : World) (h : Below wr.heap.size wr W) => rq_ticks n (some ad) ts cT aP nP cP aS nS cS (n - 1) W lT (HT.out.kept (HB2.out.trans ((hwr.trans (h.mono zwr)).mono HB2.out.size)) nlr) RISE.out ⟨by omega, by omega⟩ HBD.out)
       have hsb : Rq.sB ts n i = (Tp.inb (Tp.tk ts (Tp.bars ts i)) 1 65536 && Tp.inb (Tp.tk ts (n - 1)) 1 65536) := by unfold Rq.sB; rw [hlst]
       have IN1 := qh (fun W => rq_in13_b (Tp.tk ts (Tp.bars ts i)) 1 65536 W)
       have IN2 := qh (fun W => rq_in13_b (Tp.tk ts (n - 1)) 1 65536 W)
       have HSB := qh hsb; clear hsb hlst
       generalize Tp.tk ts (Tp.bars ts i) = ka at *
       generalize Tp.tk ts (n - 1) = kb at *
       rcases v1 : Tp.inb ka 1 65536 with _ | _
       ·have HR := qh (show Rq.tmp n ts = false from FAIL.out i hlt (by rw [HSB.out, v1]; rfl))
        rw [v1] at IN1; clear HSB v1
        go_wp2_with fail
        (refine Kit.wp_region_cls (by kernel_rfl) (by kernel_rfl) ?_; (repeat (go_big_quiet_step (first | (with_reducible exact Kit.calls_cls _ (TG1.out _ (Kit.Wd.below _))) | (with_reducible exact Kit.calls_cls _ (TG2.out _ (Kit.Wd.below _))) | (with_reducible exact Kit.calls_cls _ (IN1.out _)) | (with_reducible exact Kit.calls_cls _ (IN2.out _))))); refine wpQuiet_nil ?_; intro z)
        have HZ := qh (hwr.trans (z.below.mono zwr))
        generalize z.val = Z at *
        clear q0 q1 q2 q3 c0 z
        go_wp2
        go_ret
        exact ⟨by rw [HR.out]; rfl, HB2.out.trans (HZ.out.mono HB2.out.size)⟩
       rcases v2 : Tp.inb kb 1 65536 with _ | _
       ·have HR := qh (show Rq.tmp n ts = false from FAIL.out i hlt (by rw [HSB.out, v1, v2]; rfl))
        rw [v1] at IN1; rw [v2] at IN2; clear HSB v1 v2
        go_wp2_with fail
        (refine Kit.wp_region_cls (by kernel_rfl) (by kernel_rfl) ?_; (repeat (go_big_quiet_step (first | (with_reducible exact Kit.calls_cls _ (TG1.out _ (Kit.Wd.below _))) | (with_reducible exact Kit.calls_cls _ (TG2.out _ (Kit.Wd.below _))) | (with_reducible exact Kit.calls_cls _ (IN1.out _)) | (with_reducible exact Kit.calls_cls _ (IN2.out _))))); refine wpQuiet_nil ?_; intro z)
        have HZ := qh (hwr.trans (z.below.mono zwr))
        generalize z.val = Z at *
        clear q0 q1 q2 q3 c0 z
        go_wp2
        go_ret
        exact ⟨by rw [HR.out]; rfl, HB2.out.trans (HZ.out.mono HB2.out.size)⟩
       ·have HA2 := qh (show ∀ j, j < i + 1 → Rq.sB ts n j = true from fun j hj => by
         by_cases e : j = i
         ·subst e; rw [HSB.out, v1, v2]; rfl
         ·exact HA.out j omg)
        rw [v1] at IN1; rw [v2] at IN2; clear HSB v1 v2
        go_wp2_with fail
        (refine Kit.wp_region_cls (by kernel_rfl) (by kernel_rfl) ?_; (repeat (go_big_quiet_step (first | (with_reducible exact Kit.calls_cls _ (TG1.out _ (Kit.Wd.below _))) | (with_reducible exact Kit.calls_cls _ (TG2.out _ (Kit.Wd.below _))) | (with_reducible exact Kit.calls_cls _ (IN1.out _)) | (with_reducible exact Kit.calls_cls _ (IN2.out _))))); refine wpQuiet_nil ?_; intro z)
        have HZ := qh (hwr.trans (z.below.mono zwr))
        generalize z.val = Z at *
        clear q0 q1 q2 q3 c0 z
        go_wp2
        go_roundw
        case rel => first | exact ⟨i + 1, by go_num, by omega, HA2, HZ⟩ | ((repeat apply Exists.intro); exact ⟨⟨i + 1, by go_num, by omega, HA2, HZ⟩, rfl⟩)
        case measure => simp [intOf]; omega
     ·have HR := qh (GOOD.out (fun j hj => HA.out j omg))
      have HE := qh (HB2.out.trans (hwr.mono HB2.out.size))
      go_wp2
      go_ret
      exact ⟨by rw [HR.out]; rfl, HE.out⟩
 ·have d1 : (Tp.bars ts 0 != 0) = true := by simpa using hz
  have hr : Rq.tmp n ts = false := by simp [Rq.tmp, hz]
  rw [hr]
  generalize Tp.bars ts 0 = y at *
  clear hr hz
  go_enter Tryz.func155, Tryz.ntmps155
  go_wp2
  go_ret
  exact ⟨rfl, by exact Kit.gr⟩
end Go.Proofs.YtedolbjgdedoaaaGreatDoor

namespace Go.Proofs.YtedolbjgdedoaaaGreatDoor
open Go.RowKit

namespace Rq
def Chk13 (n : Int) (aT : Option Addr) (nT cT : Nat) (aP : Option Addr) (nP cP : Nat) (aS : Option Addr) (nS cS : Nat) (w : World) (r : Int) : Prop :=
 Calls Tryz.prog 121 #[clk n aT nT cT aP nP cP aS nS cS] w fun e w' => e = .returned (.int .i64 r) ∧ Below w.heap.size w w'
end Rq
theorem rq_chk13_1 (n : Int) (aT : Option Addr) (nT cT : Nat) (aP : Option Addr) (nP cP : Nat) (aS : Option Addr) (nS cS : Nat) (w : World) (l1 : nT ≤ 4611686018427387904) (l2 : nP ≤ 4611686018427387904) (l3 : nS ≤ 4611686018427387904)
  (h : ¬ (nT ≤ 4096 ∧ nP ≤ 4096 ∧ nS ≤ 256)) : Rq.Chk13 n aT nT cT aP nP cP aS nS cS w 2 := by
 unfold Rq.Chk13
 by_cases a1 : 4096 < nT
 ·have d1 : decide ((4096 : Int) < nT) = true := decide_eq_true omg
  clear a1 h
  go_enter Tryz.func121, Tryz.ntmps121
  go_wp2
  go_ret
  exact ⟨rfl, by exact Kit.gr⟩
 have d1 : decide ((4096 : Int) < nT) = false := decide_eq_false omg
 by_cases a2 : 4096 < nP
 ·have d2 : decide ((4096 : Int) < nP) = true := decide_eq_true omg
  clear a1 a2 h
  go_enter Tryz.func121, Tryz.ntmps121
  go_wp2
  go_ret
  exact ⟨rfl, by exact Kit.gr⟩
 have d2 : decide ((4096 : Int) < nP) = false := decide_eq_false omg
 have d3 : decide ((256 : Int) < nS) = true := decide_eq_true omg
 clear a1 a2 h
 go_enter Tryz.func121, Tryz.ntmps121
 go_wp2
 go_ret
 exact ⟨rfl, by exact Kit.gr⟩

theorem rq_chk13_2 (n : Int) (aT : Option Addr) (ts : List Tp.T) (cT : Nat) (aP : Option Addr) (ps : List Tp.Q) (cP : Nat) (aS : Option Addr) (ss : List Tp.Q) (cS : Nat) (w : World)
  (l1 : ts.length ≤ 4096) (l2 : ps.length ≤ 4096) (l3 : ss.length ≤ 256) (hT : Tp.Sl w aT ts.length 3 (Tp.tc ts)) (hP : Tp.Sl w aP ps.length 4 (Tp.qc ps)) (hS : Tp.Sl w aS ss.length 4 (Tp.qc ss)) :
  Rq.Chk13 n aT ts.length cT aP ps.length cP aS ss.length cS w (if Tp.okC n ts ps ss = true then 0 else 130) := by
 have hok : Tp.okC n ts ps ss = (Tp.inb n 1 4096 && Rq.tmp n ts && Tp.vP n (-1) ps && Tp.vS n ss) := by
  unfold Tp.okC Rq.tmp
  simp only [Bool.and_assoc]
 rw [hok]
 clear hok
 have d1 : decide (4096 < ts.length) = false := decide_eq_false omg
 have d2 : decide (4096 < ps.length) = false := decide_eq_false omg
 have d3 : decide (256 < ss.length) = false := decide_eq_false omg
 have c1 : ∀ W, Below w.heap.size w W → (1 ≤ n ∧ n ≤ 4096) → Calls Tryz.prog 155 #[Rq.clk n aT ts.length cT aP ps.length cP aS ss.length cS] W fun e w' => e = .returned (.bool (Rq.tmp n ts)) ∧ Below W.heap.size W w' :=
  fun W hB hn => rq_tempos n aT ts cT aP ps.length cP aS ss.length cS W hn l1 (hT.kept hB nlr)
 have c2 : ∀ W, Below w.heap.size w W → (1 ≤ n ∧ n ≤ 4096) → Calls Tryz.prog 156 #[Rq.clk n aT ts.length cT aP ps.length cP aS ss.length cS] W fun e w' => e = .returned (.bool (Tp.vP n (-1) ps)) ∧ Below W.heap.size W w' :=
  fun W hB hn => rq_pauses n aT ts.length cT aP ps cP aS ss.length cS W hn omg (hP.kept hB nlr)
 have c3 : ∀ W, Below w.heap.size w W → Calls Tryz.prog 157 #[Rq.clk n aT ts.length cT aP ps.length cP aS ss.length cS] W fun e w' => e = .returned (.bool (Tp.vS n ss)) ∧ Below W.heap.size W w' :=
  fun W hB => rq_spans n aT ts.length cT aP ps.length cP aS ss cS W omg (hS.kept hB nlr)
 have C1 := qh c1; have C2 := qh c2; have C3 := qh c3
 clear c1 c2 c3 hT hP hS
 generalize Rq.tmp n ts = bt at *
 generalize Tp.vP n (-1) ps = bp at *
 generalize Tp.vS n ss = bs at *
 generalize ts.length = nT at *
 generalize ps.length = nP at *
 generalize ss.length = nS at *
 unfold Rq.Chk13
 rcases b1 : Tp.inb n 1 4096 with _ | _
 ·rw [if_neg (by simp)]
  go_enter Tryz.func121, Tryz.ntmps121
  go_wp2_with (go_at_call 154; refine (rq_in13 _ _ _ _).mono ?_; rintro e w' ⟨rfl, rfl⟩)
  go_ret
  exact ⟨rfl, by exact Kit.gr⟩
 have hn := qh ((Tp.inb_iff _ _ _).1 b1)
 cases bt
 ·rw [if_neg (by simp)]
  go_enter Tryz.func121, Tryz.ntmps121
  skip
  go_wp2_with (go_at_call 154; refine (rq_in13 _ _ _ _).mono ?_; rintro e w' ⟨rfl, rfl⟩)
  (go_wp2_with (fail); refine (C1.out _ (by exact Kit.gr) hn.out).mono ?_; rintro e w1_ ⟨rfl, hb1_⟩; have hp1_ : Below w.heap.size w w1_ := Below.trans (by exact Kit.gr) (hb1_.mono (by first | assumption | (simp; done) | (simp; omega) | omega)); have hw1_ : Below w.heap.size w w1_ := hp1_; clear hb1_ hp1_)
  go_wp2
  go_ret
  exact ⟨rfl, by exact Kit.gr⟩
 cases bp
 ·rw [if_neg (by simp)]
  go_enter Tryz.func121, Tryz.ntmps121
  skip
  go_wp2_with (go_at_call 154; refine (rq_in13 _ _ _ _).mono ?_; rintro e w' ⟨rfl, rfl⟩)
  (go_wp2_with (fail); refine (C1.out _ (by exact Kit.gr) hn.out).mono ?_; rintro e w1_ ⟨rfl, hb1_⟩; have hp1_ : Below w.heap.size w w1_ := Below.trans (by exact Kit.gr) (hb1_.mono (by first | assumption | (simp; done) | (simp; omega) | omega)); have hw1_ : Below w.heap.size w w1_ := hp1_; obtain ⟨hc1_, hf1_⟩ := Kit.bcell hb1_; have z1_w : w.heap.size < w1_.heap.size := (by have := hb1_.size; first | omega | (simp at this; omega)); obtain ⟨g1_w_0, g1_w_1, g1_w_2, g1_w_3⟩ : w1_.cell? ⟨w.heap.size, 0, none⟩ = some (.int .i64 n) ∧ w1_.cell? ⟨w.heap.size, 1, none⟩ = some (.slice aT nT cT) ∧ w1_.cell? ⟨w.heap.size, 2, none⟩ = some (.slice aP nP cP) ∧ w1_.cell? ⟨w.heap.size, 3, none⟩ = some (.slice aS nS cS) := (by refine ⟨?_, ?_, ?_, ?_⟩ <;> (rw [hc1_ _ _ (by first | assumption | (simp; done) | (simp; omega) | omega)]; first | assumption | (simp [go_sem]; done) | (simp [go_sem, *]; done))); clear hc1_ hf1_; clear hb1_ hp1_)
  (go_wp2_with (fail); refine (C2.out _ (by exact Kit.gr) hn.out).mono ?_; rintro e w2_ ⟨rfl, hb2_⟩; have hp2_ : Below w1_.heap.size w1_ w2_ := Below.trans (by exact Kit.gr) (hb2_.mono (by first | assumption | (simp; done) | (simp; omega) | omega)); have hw2_ : Below w.heap.size w w2_ := hw1_.trans (hp2_.mono hw1_.size); have z2_w : w.heap.size < w2_.heap.size := Nat.lt_of_lt_of_le z1_w hp2_.size; have g2_w_0 := Kit.ck hp2_ g1_w_0 z1_w; have g2_w_1 := Kit.ck hp2_ g1_w_1 z1_w; have g2_w_2 := Kit.ck hp2_ g1_w_2 z1_w; have g2_w_3 := Kit.ck hp2_ g1_w_3 z1_w; clear z1_w g1_w_0 g1_w_1 g1_w_2 g1_w_3 hw1_ hb2_ hp2_)
  go_wp2
  go_ret
  exact ⟨rfl, by exact Kit.gr⟩
 cases bs
 ·rw [if_neg (by simp)]
  go_enter Tryz.func121, Tryz.ntmps121
  skip
  go_wp2_with (go_at_call 154; refine (rq_in13 _ _ _ _).mono ?_; rintro e w' ⟨rfl, rfl⟩)
  (go_wp2_with (fail); refine (C1.out _ (by exact Kit.gr) hn.out).mono ?_; rintro e w1_ ⟨rfl, hb1_⟩; have hp1_ : Below w.heap.size w w1_ := Below.trans (by exact Kit.gr) (hb1_.mono (by first | assumption | (simp; done) | (simp; omega) | omega)); have hw1_ : Below w.heap.size w w1_ := hp1_; obtain ⟨hc1_, hf1_⟩ := Kit.bcell hb1_; have z1_w : w.heap.size < w1_.heap.size := (by have := hb1_.size; first | omega | (simp at this; omega)); obtain ⟨g1_w_0, g1_w_1, g1_w_2, g1_w_3⟩ : w1_.cell? ⟨w.heap.size, 0, none⟩ = some (.int .i64 n) ∧ w1_.cell? ⟨w.heap.size, 1, none⟩ = some (.slice aT nT cT) ∧ w1_.cell? ⟨w.heap.size, 2, none⟩ = some (.slice aP nP cP) ∧ w1_.cell? ⟨w.heap.size, 3, none⟩ = some (.slice aS nS cS) := (by refine ⟨?_, ?_, ?_, ?_⟩ <;> (rw [hc1_ _ _ (by first | assumption | (simp; done) | (simp; omega) | omega)]; first | assumption | (simp [go_sem]; done) | (simp [go_sem, *]; done))); clear hc1_ hf1_; clear hb1_ hp1_)
  (go_wp2_with (fail); refine (C2.out _ (by exact Kit.gr) hn.out).mono ?_; rintro e w2_ ⟨rfl, hb2_⟩; have hp2_ : Below w1_.heap.size w1_ w2_ := Below.trans (by exact Kit.gr) (hb2_.mono (by first | assumption | (simp; done) | (simp; omega) | omega)); have hw2_ : Below w.heap.size w w2_ := hw1_.trans (hp2_.mono hw1_.size); have z2_w : w.heap.size < w2_.heap.size := Nat.lt_of_lt_of_le z1_w hp2_.size; have g2_w_0 := Kit.ck hp2_ g1_w_0 z1_w; have g2_w_1 := Kit.ck hp2_ g1_w_1 z1_w; have g2_w_2 := Kit.ck hp2_ g1_w_2 z1_w; have g2_w_3 := Kit.ck hp2_ g1_w_3 z1_w; clear z1_w g1_w_0 g1_w_1 g1_w_2 g1_w_3 hw1_ hb2_ hp2_)
  (go_wp2_with (fail); refine (C3.out _ (by exact Kit.gr)).mono ?_; rintro e w3_ ⟨rfl, hb3_⟩; have hp3_ : Below w2_.heap.size w2_ w3_ := Below.trans (by exact Kit.gr) (hb3_.mono (by first | assumption | (simp; done) | (simp; omega) | omega)); have hw3_ : Below w.heap.size w w3_ := hw2_.trans (hp3_.mono hw2_.size); have z3_w : w.heap.size < w3_.heap.size := Nat.lt_of_lt_of_le z2_w hp3_.size; have g3_w_0 := Kit.ck hp3_ g2_w_0 z2_w; have g3_w_1 := Kit.ck hp3_ g2_w_1 z2_w; have g3_w_2 := Kit.ck hp3_ g2_w_2 z2_w; have g3_w_3 := Kit.ck hp3_ g2_w_3 z2_w; clear z2_w g2_w_0 g2_w_1 g2_w_2 g2_w_3 hw2_ hb3_ hp3_)
  go_wp2
  go_ret
  exact ⟨rfl, by exact Kit.gr⟩
 ·rw [if_pos (by simp)]
  go_enter Tryz.func121, Tryz.ntmps121
  skip
  go_wp2_with (go_at_call 154; refine (rq_in13 _ _ _ _).mono ?_; rintro e w' ⟨rfl, rfl⟩)
  (go_wp2_with (fail); refine (C1.out _ (by exact Kit.gr) hn.out).mono ?_; rintro e w1_ ⟨rfl, hb1_⟩; have hp1_ : Below w.heap.size w w1_ := Below.trans (by exact Kit.gr) (hb1_.mono (by first | assumption | (simp; done) | (simp; omega) | omega)); have hw1_ : Below w.heap.size w w1_ := hp1_; obtain ⟨hc1_, hf1_⟩ := Kit.bcell hb1_; have z1_w : w.heap.size < w1_.heap.size := (by have := hb1_.size; first | omega | (simp at this; omega)); obtain ⟨g1_w_0, g1_w_1, g1_w_2, g1_w_3⟩ : w1_.cell? ⟨w.heap.size, 0, none⟩ = some (.int .i64 n) ∧ w1_.cell? ⟨w.heap.size, 1, none⟩ = some (.slice aT nT cT) ∧ w1_.cell? ⟨w.heap.size, 2, none⟩ = some (.slice aP nP cP) ∧ w1_.cell? ⟨w.heap.size, 3, none⟩ = some (.slice aS nS cS) := (by refine ⟨?_, ?_, ?_, ?_⟩ <;> (rw [hc1_ _ _ (by first | assumption | (simp; done) | (simp; omega) | omega)]; first | assumption | (simp [go_sem]; done) | (simp [go_sem, *]; done))); clear hc1_ hf1_; clear hb1_ hp1_)
  (go_wp2_with (fail); refine (C2.out _ (by exact Kit.gr) hn.out).mono ?_; rintro e w2_ ⟨rfl, hb2_⟩; have hp2_ : Below w1_.heap.size w1_ w2_ := Below.trans (by exact Kit.gr) (hb2_.mono (by first | assumption | (simp; done) | (simp; omega) | omega)); have hw2_ : Below w.heap.size w w2_ := hw1_.trans (hp2_.mono hw1_.size); have z2_w : w.heap.size < w2_.heap.size := Nat.lt_of_lt_of_le z1_w hp2_.size; have g2_w_0 := Kit.ck hp2_ g1_w_0 z1_w; have g2_w_1 := Kit.ck hp2_ g1_w_1 z1_w; have g2_w_2 := Kit.ck hp2_ g1_w_2 z1_w; have g2_w_3 := Kit.ck hp2_ g1_w_3 z1_w; clear z1_w g1_w_0 g1_w_1 g1_w_2 g1_w_3 hw1_ hb2_ hp2_)
  (go_wp2_with (fail); refine (C3.out _ (by exact Kit.gr)).mono ?_; rintro e w3_ ⟨rfl, hb3_⟩; have hp3_ : Below w2_.heap.size w2_ w3_ := Below.trans (by exact Kit.gr) (hb3_.mono (by first | assumption | (simp; done) | (simp; omega) | omega)); have hw3_ : Below w.heap.size w w3_ := hw2_.trans (hp3_.mono hw2_.size); have z3_w : w.heap.size < w3_.heap.size := Nat.lt_of_lt_of_le z2_w hp3_.size; have g3_w_0 := Kit.ck hp3_ g2_w_0 z2_w; have g3_w_1 := Kit.ck hp3_ g2_w_1 z2_w; have g3_w_2 := Kit.ck hp3_ g2_w_2 z2_w; have g3_w_3 := Kit.ck hp3_ g2_w_3 z2_w; clear z2_w g2_w_0 g2_w_1 g2_w_2 g2_w_3 hw2_ hb3_ hp3_)
  go_wp2
  go_ret
  exact ⟨rfl, by exact Kit.gr⟩

theorem rq_check13 (n : Int) (aT : Option Addr) (ts : List Tp.T) (cT : Nat) (aP : Option Addr) (ps : List Tp.Q) (cP : Nat) (aS : Option Addr) (ss : List Tp.Q) (cS : Nat) (w : World)
  (l1 : ts.length ≤ 4611686018427387904) (l2 : ps.length ≤ 4611686018427387904) (l3 : ss.length ≤ 4611686018427387904) (hT : Tp.Sl w aT ts.length 3 (Tp.tc ts)) (hP : Tp.Sl w aP ps.length 4 (Tp.qc ps)) (hS : Tp.Sl w aS ss.length 4 (Tp.qc ss)) :
  Rq.Chk13 n aT ts.length cT aP ps.length cP aS ss.length cS w (Tp.chk n ts ps ss) := by
 unfold Tp.chk
 by_cases h : ts.length ≤ 4096 ∧ ps.length ≤ 4096 ∧ ss.length ≤ 256
 ·rw [if_pos h]
  exact rq_chk13_2 n aT ts cT aP ps cP aS ss cS w h.1 h.2.1 h.2.2 hT hP hS
 ·rw [if_neg h]
  exact rq_chk13_1 n aT _ cT aP _ cP aS _ cS w l1 l2 l3 h
end Go.Proofs.YtedolbjgdedoaaaGreatDoor
