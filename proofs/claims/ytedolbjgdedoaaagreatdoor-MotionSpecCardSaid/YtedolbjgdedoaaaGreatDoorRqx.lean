/- Walks: the reference of layer 12 (ratios). Walks: the reference of layer 12: Check, Cmp. Walks: the reference of layer 14: which turns are valid (as TurnR, without lowest terms). Walks: the reference of layer 19: Span. -/
import Derived.Test.YtedolbjgdedoaaaGreatDoorRa
import Derived.Test.YtedolbjgdedoaaaGreatDoorTurn
import Derived.Test.YtedolbjgdedoaaaGreatDoorKit
import Derived.Test.YtedolbjgdedoaaaGreatDoorEx
set_option linter.unusedSimpArgs false
set_option linter.unusedVariables false
set_option maxRecDepth 100000
set_option maxHeartbeats 2000000
namespace Go.Proofs.YtedolbjgdedoaaaGreatDoor
open Go.RowKit

theorem rq_divisor (a b : Int) (w : World) (ha : 0 ≤ a) (hb : 0 ≤ b) (a1 : a ≤ 2305843009213693952) (b1 : b ≤ 2305843009213693952) :
  Calls Tryz.prog 188 #[.int .i64 a, .int .i64 b] w fun e w' => e = .returned (.int .i64 (Tm.g2 a b)) ∧ w = w' := by
 go_enter Tryz.func188, Tryz.ntmps188
 go_wp2
 go_loop [0, 1, 5] (fun v0 v1 v5 => ∃ x y : Int, v0 = .int .i64 x ∧ v1 = .int .i64 y ∧ 0 ≤ x ∧ 0 ≤ y ∧ x ≤ 2305843009213693952 ∧ y ≤ 2305843009213693952 ∧ Hid (Tm.g2 x y = Tm.g2 a b)) (fun _ v1 _ => (intOf v1).natAbs)
 case atStart => exact ⟨a, b, rfl, rfl, ha, hb, a1, b1, rfl⟩
 case round =>
  obtain ⟨x, y, rfl, rfl, hx, hy, hx', hy', HG⟩ := hrel
  by_cases hz : 0 < y
  ·have k1 := Int.tmod_nonneg y hx
   have k2 := Int.tmod_lt_of_pos x hz
   have k5 := Tm.tmod_lt x y omg
   have hs := Tm.g2_step x y
   have HS := qh hs; clear hs
   have he : x % y = x.tmod y := (Int.tmod_eq_emod_of_nonneg hx).symm
   have HE := qh he; clear he
   go_wp2
   go_round
   case rel => exact ⟨_, _, rfl, rfl, by omega, by first | omega | (rw [HE.out]; omega), by omega, by first | omega | (rw [HE.out]; omega), by first | (rw [HE.out]; exact HS.out.trans HG.out) | exact HS.out.trans HG.out⟩
   case measure => simp only [intOf]; first | exact k5 | (rw [HE.out]; exact k5)
  ·go_wp2
   go_ret
   refine ⟨ret_int ?_, rfl⟩
   obtain rfl : y = 0 := by omega
   have := HG.out
   rw [Tm.g2_zero] at this
   omega
theorem rq_size (n : Int) (w : World) (h1 : -4611686018427387904 ≤ n) (h2 : n ≤ 4611686018427387904) : Calls Tryz.prog 189 #[.int .i64 n] w fun e w' => e = .returned (.int .i64 (n.natAbs : Int)) ∧ w = w' := by
 go_enter Tryz.func189, Tryz.ntmps189
 go_wp2
 all_goals go_ret
 all_goals exact ⟨ret_int omg, rfl⟩

namespace Rq
theorem ok_g2 (n d : Int) : Ra.ok n d = (decide (1 ≤ d) && decide (d ≤ 1073741824) && decide (-1073741824 ≤ n) && decide (n ≤ 1073741824) && (Tm.g2 (n.natAbs : Int) d == 1)) := by
 rw [Bool.eq_iff_iff, Ra.ok_iff]
 simp only [Bool.and_eq_true, decide_eq_true_iff, beq_iff_eq, Tm.g2_def, Int.natAbs_natCast]
 omega
end Rq
theorem rq_valid (n d : Int) (w : World) : Calls Tryz.prog 185 #[Ra.V n d] w fun e w' => e = .returned (.bool (Ra.ok n d)) ∧ Below w.heap.size w w' := by
 rw [Rq.ok_g2]
 rcases b1 : decide (1 ≤ d) with _ | _
 ·go_enter Tryz.func185, Tryz.ntmps185
  go_wp2
  go_quiet (fail)
  go_wp2
  go_ret
  exact ⟨rfl, by exact Kit.gr⟩
 rcases b2 : decide (d ≤ 1073741824) with _ | _
 ·go_enter Tryz.func185, Tryz.ntmps185
  go_wp2
  go_quiet (fail)
  go_wp2
  go_ret
  exact ⟨rfl, by exact Kit.gr⟩
 rcases b3 : decide (-1073741824 ≤ n) with _ | _
 ·go_enter Tryz.func185, Tryz.ntmps185
  go_wp2
  go_quiet (fail)
  go_wp2
  go_ret
  exact ⟨rfl, by exact Kit.gr⟩
 rcases b4 : decide (n ≤ 1073741824) with _ | _
 ·go_enter Tryz.func185, Tryz.ntmps185
  go_wp2
  go_quiet (fail)
  go_wp2
  go_ret
  exact ⟨rfl, by exact Kit.gr⟩
 have h1 := of_decide_eq_true b1
 have h2 := of_decide_eq_true b2
 have h3 := of_decide_eq_true b3
 have h4 := of_decide_eq_true b4
 have c1 := qh (fun W => (rq_size n W omg omg).mono (fun e w' h => (⟨h.1, h.2 ▸ Below.refl _ _⟩ : e = .returned (.int .i64 (n.natAbs : Int)) ∧ Below W.heap.size W w')))
 have c2 := qh (fun W => (rq_divisor (n.natAbs : Int) d W omg omg omg omg).mono (fun e w' h => (⟨h.1, h.2 ▸ Below.refl _ _⟩ : e = .returned (.int .i64 (Tm.g2 (n.natAbs : Int) d)) ∧ Below W.heap.size W w')))
 rcases b5 : (Tm.g2 (n.natAbs : Int) d == 1) with _ | _
 ·generalize Tm.g2 (n.natAbs : Int) d = g at *
  generalize ((n.natAbs : Nat) : Int) = m at *
  go_enter Tryz.func185, Tryz.ntmps185
  go_wp2
  (refine Kit.wp_name ?_; intro W1 hW1_; have bW1_ : Below w.heap.size w W1 := (by rw [hW1_]; exact Kit.gr); have kW1_w_0 : ∀ x : Kit.Wd W1, x.val.cell? ⟨w.heap.size, 0, none⟩ = some (.int .i64 n) := fun x => x.cell (by rw [hW1_]; first | assumption | (simp [go_sem]; done) | (simp [go_sem, *]; done)) (by rw [hW1_]; first | assumption | (simp; done) | (simp; omega)); have kW1_w_1 : ∀ x : Kit.Wd W1, x.val.cell? ⟨w.heap.size, 1, none⟩ = some (.int .i64 d) := fun x => x.cell (by rw [hW1_]; first | assumption | (simp [go_sem]; done) | (simp [go_sem, *]; done)) (by rw [hW1_]; first | assumption | (simp; done) | (simp; omega)); have HW1_ := qh hW1_; clear hW1_; refine Kit.wp_region_cls (by kernel_rfl) (by kernel_rfl) ?_; (repeat (go_big_quiet_step (first | (with_reducible exact Kit.calls_cls _ (c1.out _)) | (with_reducible exact Kit.calls_cls _ (c2.out _))))); refine wpQuiet_nil ?_; intro x; have bx_ : Below w.heap.size w x.val := bW1_.trans (x.below.mono bW1_.size))
  go_wp2
  go_ret
  exact ⟨rfl, bx_⟩
 ·generalize Tm.g2 (n.natAbs : Int) d = g at *
  generalize ((n.natAbs : Nat) : Int) = m at *
  go_enter Tryz.func185, Tryz.ntmps185
  go_wp2
  (refine Kit.wp_name ?_; intro W1 hW1_; have bW1_ : Below w.heap.size w W1 := (by rw [hW1_]; exact Kit.gr); have kW1_w_0 : ∀ x : Kit.Wd W1, x.val.cell? ⟨w.heap.size, 0, none⟩ = some (.int .i64 n) := fun x => x.cell (by rw [hW1_]; first | assumption | (simp [go_sem]; done) | (simp [go_sem, *]; done)) (by rw [hW1_]; first | assumption | (simp; done) | (simp; omega)); have kW1_w_1 : ∀ x : Kit.Wd W1, x.val.cell? ⟨w.heap.size, 1, none⟩ = some (.int .i64 d) := fun x => x.cell (by rw [hW1_]; first | assumption | (simp [go_sem]; done) | (simp [go_sem, *]; done)) (by rw [hW1_]; first | assumption | (simp; done) | (simp; omega)); have HW1_ := qh hW1_; clear hW1_; refine Kit.wp_region_cls (by kernel_rfl) (by kernel_rfl) ?_; (repeat (go_big_quiet_step (first | (with_reducible exact Kit.calls_cls _ (c1.out _)) | (with_reducible exact Kit.calls_cls _ (c2.out _))))); refine wpQuiet_nil ?_; intro x; have bx_ : Below w.heap.size w x.val := bW1_.trans (x.below.mono bW1_.size))
  go_wp2
  go_ret
  exact ⟨rfl, bx_⟩
end Go.Proofs.YtedolbjgdedoaaaGreatDoor

namespace Go.Proofs.YtedolbjgdedoaaaGreatDoor
open Go.RowKit

theorem rq_check (n d : Int) (w : World) : Calls Tryz.prog 179 #[Ra.V n d] w fun e w' => e = .returned (.int .i64 (if Ra.ok n d = true then 0 else 120)) ∧ Below w.heap.size w w' := by
 have c1 := fun W => rq_valid n d W
 rcases h : Ra.ok n d with _ | _
 ·rw [h] at c1
  have C1 := qh c1; clear c1 h
  rw [if_neg (by decide)]
  go_enter Tryz.func179, Tryz.ntmps179
  skip
  (go_wp2_with (fail); refine (C1.out _).mono ?_; rintro e w1_ ⟨rfl, hb1_⟩; have hp1_ : Below w.heap.size w w1_ := Below.trans (by exact Kit.gr) (hb1_.mono (by first | assumption | (simp; done) | (simp; omega) | omega)); have hw1_ : Below w.heap.size w w1_ := hp1_; clear hb1_ hp1_)
  go_wp2
  go_ret
  exact ⟨rfl, by exact Kit.gr⟩
 ·rw [h] at c1
  have C1 := qh c1; clear c1 h
  rw [if_pos rfl]
  go_enter Tryz.func179, Tryz.ntmps179
  skip
  (go_wp2_with (fail); refine (C1.out _).mono ?_; rintro e w1_ ⟨rfl, hb1_⟩; have hp1_ : Below w.heap.size w w1_ := Below.trans (by exact Kit.gr) (hb1_.mono (by first | assumption | (simp; done) | (simp; omega) | omega)); have hw1_ : Below w.heap.size w w1_ := hp1_; clear hb1_ hp1_)
  go_wp2
  go_ret
  exact ⟨rfl, by exact Kit.gr⟩

theorem rq_both (a b c d : Int) (w : World) : Calls Tryz.prog 186 #[Ra.V a b, Ra.V c d] w fun e w' => e = .returned (.bool (Ra.ok a b && Ra.ok c d)) ∧ Below w.heap.size w w' := by
 have c1 := fun W => rq_valid a b W
 have c2 := fun W => rq_valid c d W
 rcases h1 : Ra.ok a b with _ | _
 ·rw [h1] at c1
  have C1 := qh c1; clear c1 c2 h1
  go_enter Tryz.func186, Tryz.ntmps186
  skip
  (go_wp2_with (fail); refine (C1.out _).mono ?_; rintro e w1_ ⟨rfl, hb1_⟩; have hp1_ : Below w.heap.size w w1_ := Below.trans (by exact Kit.gr) (hb1_.mono (by first | assumption | (simp; done) | (simp; omega) | omega)); have hw1_ : Below w.heap.size w w1_ := hp1_; obtain ⟨hc1_, hf1_⟩ := Kit.bcell hb1_; have z1_w : w.heap.size < w1_.heap.size := (by have := hb1_.size; first | omega | (simp at this; omega)); obtain ⟨g1_w_0, g1_w_1⟩ : w1_.cell? ⟨w.heap.size, 0, none⟩ = some (.int .i64 a) ∧ w1_.cell? ⟨w.heap.size, 1, none⟩ = some (.int .i64 b) := (by refine ⟨?_, ?_⟩ <;> (rw [hc1_ _ _ (by first | assumption | (simp; done) | (simp; omega) | omega)]; first | assumption | (simp [go_sem]; done) | (simp [go_sem, *]; done))); have z1_w_1 : w.heap.size + 1 < w1_.heap.size := (by have := hb1_.size; first | omega | (simp at this; omega)); obtain ⟨g1_w_1_0, g1_w_1_1⟩ : w1_.cell? ⟨w.heap.size + 1, 0, none⟩ = some (.int .i64 c) ∧ w1_.cell? ⟨w.heap.size + 1, 1, none⟩ = some (.int .i64 d) := (by refine ⟨?_, ?_⟩ <;> (rw [hc1_ _ _ (by first | assumption | (simp; done) | (simp; omega) | omega)]; first | assumption | (simp [go_sem]; done) | (simp [go_sem, *]; done))); clear hc1_ hf1_; clear hb1_ hp1_)
  go_wp2
  go_ret
  exact ⟨rfl, by exact Kit.gr⟩
 ·rw [h1] at c1
  generalize Ra.ok c d = r at *
  have C1 := qh c1; have C2 := qh c2; clear c1 c2 h1
  go_enter Tryz.func186, Tryz.ntmps186
  skip
  (go_wp2_with (fail); refine (C1.out _).mono ?_; rintro e w1_ ⟨rfl, hb1_⟩; have hp1_ : Below w.heap.size w w1_ := Below.trans (by exact Kit.gr) (hb1_.mono (by first | assumption | (simp; done) | (simp; omega) | omega)); have hw1_ : Below w.heap.size w w1_ := hp1_; obtain ⟨hc1_, hf1_⟩ := Kit.bcell hb1_; have z1_w : w.heap.size < w1_.heap.size := (by have := hb1_.size; first | omega | (simp at this; omega)); obtain ⟨g1_w_0, g1_w_1⟩ : w1_.cell? ⟨w.heap.size, 0, none⟩ = some (.int .i64 a) ∧ w1_.cell? ⟨w.heap.size, 1, none⟩ = some (.int .i64 b) := (by refine ⟨?_, ?_⟩ <;> (rw [hc1_ _ _ (by first | assumption | (simp; done) | (simp; omega) | omega)]; first | assumption | (simp [go_sem]; done) | (simp [go_sem, *]; done))); have z1_w_1 : w.heap.size + 1 < w1_.heap.size := (by have := hb1_.size; first | omega | (simp at this; omega)); obtain ⟨g1_w_1_0, g1_w_1_1⟩ : w1_.cell? ⟨w.heap.size + 1, 0, none⟩ = some (.int .i64 c) ∧ w1_.cell? ⟨w.heap.size + 1, 1, none⟩ = some (.int .i64 d) := (by refine ⟨?_, ?_⟩ <;> (rw [hc1_ _ _ (by first | assumption | (simp; done) | (simp; omega) | omega)]; first | assumption | (simp [go_sem]; done) | (simp [go_sem, *]; done))); clear hc1_ hf1_; clear hb1_ hp1_)
  (go_wp2_with (fail); refine (C2.out _).mono ?_; rintro e w2_ ⟨rfl, hb2_⟩; have hp2_ : Below w1_.heap.size w1_ w2_ := Below.trans (by exact Kit.gr) (hb2_.mono (by first | assumption | (simp; done) | (simp; omega) | omega)); have hw2_ : Below w.heap.size w w2_ := hw1_.trans (hp2_.mono hw1_.size); have z2_w : w.heap.size < w2_.heap.size := Nat.lt_of_lt_of_le z1_w hp2_.size; have g2_w_0 := Kit.ck hp2_ g1_w_0 z1_w; have g2_w_1 := Kit.ck hp2_ g1_w_1 z1_w; have z2_w_1 : w.heap.size + 1 < w2_.heap.size := Nat.lt_of_lt_of_le z1_w_1 hp2_.size; have g2_w_1_0 := Kit.ck hp2_ g1_w_1_0 z1_w_1; have g2_w_1_1 := Kit.ck hp2_ g1_w_1_1 z1_w_1; clear z1_w g1_w_0 g1_w_1 z1_w_1 g1_w_1_0 g1_w_1_1 hw1_ hb2_ hp2_)
  go_wp2
  go_ret
  exact ⟨by simp, by exact Kit.gr⟩

theorem rq_less (a b c d : Int) (w : World) (h1 : -1152921504606846976 ≤ a * d ∧ a * d ≤ 1152921504606846976) (h2 : -1152921504606846976 ≤ c * b ∧ c * b ≤ 1152921504606846976) :
  Calls Tryz.prog 187 #[Ra.V a b, Ra.V c d] w fun e w' => e = .returned (.bool (decide (a * d < c * b))) ∧ Below w.heap.size w w' := by
 obtain ⟨h3, h4⟩ := h1
 obtain ⟨h5, h6⟩ := h2
 have w1 : IntKind.i64.wrap (a * d) = a * d := by rw [IntKind.wrap_i64]; omega
 have w2 : IntKind.i64.wrap (c * b) = c * b := by rw [IntKind.wrap_i64]; omega
 go_enter Tryz.func187, Tryz.ntmps187
 go_wp2
 go_ret
 exact ⟨by first | rfl | simp [w1, w2], by exact Kit.gr⟩

namespace Rq
def CmpIs (a b c d r e : Int) (w : World) : Prop := Calls Tryz.prog 180 #[Ra.V a b, Ra.V c d] w fun x w' => x = .returned (.tuple #[.int .i64 r, .int .i64 e]) ∧ Below w.heap.size w w'
end Rq
theorem rq_cmp (a b c d : Int) (w : World) (h : Ra.ok a b = true) (h' : Ra.ok c d = true) : Rq.CmpIs a b c d (Ra.sg (a * d) (c * b)) 0 w := by
 obtain ⟨p1, p2, p3, p4, _⟩ := (Ra.ok_iff a b).1 h
 obtain ⟨q1, q2, q3, q4, _⟩ := (Ra.ok_iff c d).1 h'
 have m1 := Ra.mul_in a d p3 p4 omg q2
 have m2 := Ra.mul_in c b q3 q4 omg p2
 unfold Rq.CmpIs
 have c1 := fun W => rq_both a b c d W
 rw [h, h'] at c1
 have c2 := fun W => rq_less a b c d W m1 m2
 have c3 := fun W => rq_less c d a b W m2 m1
 generalize a * d = x at *
 generalize c * b = y at *
 have C1 := qh c1
 unfold Ra.sg
 clear c1 h h' m1 m2 p1 p2 p3 p4 q1 q2 q3 q4
 by_cases l1 : x < y
 ·have t1 : decide (x < y) = true := decide_eq_true l1
  rw [if_pos l1]
  rw [t1] at c2
  have C2 := qh c2; clear c2 c3 l1 t1
  go_enter Tryz.func180, Tryz.ntmps180
  skip
  (go_wp2_with (fail); refine (C1.out _).mono ?_; rintro e w1_ ⟨rfl, hb1_⟩; have hp1_ : Below w.heap.size w w1_ := Below.trans (by exact Kit.gr) (hb1_.mono (by first | assumption | (simp; done) | (simp; omega) | omega)); have hw1_ : Below w.heap.size w w1_ := hp1_; obtain ⟨hc1_, hf1_⟩ := Kit.bcell hb1_; have z1_w : w.heap.size < w1_.heap.size := (by have := hb1_.size; first | omega | (simp at this; omega)); obtain ⟨g1_w_0, g1_w_1⟩ : w1_.cell? ⟨w.heap.size, 0, none⟩ = some (.int .i64 a) ∧ w1_.cell? ⟨w.heap.size, 1, none⟩ = some (.int .i64 b) := (by refine ⟨?_, ?_⟩ <;> (rw [hc1_ _ _ (by first | assumption | (simp; done) | (simp; omega) | omega)]; first | assumption | (simp [go_sem]; done) | (simp [go_sem, *]; done))); have z1_w_1 : w.heap.size + 1 < w1_.heap.size := (by have := hb1_.size; first | omega | (simp at this; omega)); obtain ⟨g1_w_1_0, g1_w_1_1⟩ : w1_.cell? ⟨w.heap.size + 1, 0, none⟩ = some (.int .i64 c) ∧ w1_.cell? ⟨w.heap.size + 1, 1, none⟩ = some (.int .i64 d) := (by refine ⟨?_, ?_⟩ <;> (rw [hc1_ _ _ (by first | assumption | (simp; done) | (simp; omega) | omega)]; first | assumption | (simp [go_sem]; done) | (simp [go_sem, *]; done))); clear hc1_ hf1_; clear hb1_ hp1_)
  (go_wp2_with (fail); refine (C2.out _).mono ?_; rintro e w2_ ⟨rfl, hb2_⟩; have hp2_ : Below w1_.heap.size w1_ w2_ := Below.trans (by exact Kit.gr) (hb2_.mono (by first | assumption | (simp; done) | (simp; omega) | omega)); have hw2_ : Below w.heap.size w w2_ := hw1_.trans (hp2_.mono hw1_.size); have z2_w : w.heap.size < w2_.heap.size := Nat.lt_of_lt_of_le z1_w hp2_.size; have g2_w_0 := Kit.ck hp2_ g1_w_0 z1_w; have g2_w_1 := Kit.ck hp2_ g1_w_1 z1_w; have z2_w_1 : w.heap.size + 1 < w2_.heap.size := Nat.lt_of_lt_of_le z1_w_1 hp2_.size; have g2_w_1_0 := Kit.ck hp2_ g1_w_1_0 z1_w_1; have g2_w_1_1 := Kit.ck hp2_ g1_w_1_1 z1_w_1; clear z1_w g1_w_0 g1_w_1 z1_w_1 g1_w_1_0 g1_w_1_1 hw1_ hb2_ hp2_)
  go_wp2
  go_ret2
  exact ⟨rfl, by exact Kit.gr⟩
 ·have t1 : decide (x < y) = false := decide_eq_false l1
  rw [if_neg l1]
  rw [t1] at c2
  by_cases l2 : y < x
  ·have t2 : decide (y < x) = true := decide_eq_true l2
   rw [if_pos l2]
   rw [t2] at c3
   have C2 := qh c2; have C3 := qh c3; clear c2 c3 l1 t1 l2 t2
   go_enter Tryz.func180, Tryz.ntmps180
   skip
   (go_wp2_with (fail); refine (C1.out _).mono ?_; rintro e w1_ ⟨rfl, hb1_⟩; have hp1_ : Below w.heap.size w w1_ := Below.trans (by exact Kit.gr) (hb1_.mono (by first | assumption | (simp; done) | (simp; omega) | omega)); have hw1_ : Below w.heap.size w w1_ := hp1_; obtain ⟨hc1_, hf1_⟩ := Kit.bcell hb1_; have z1_w : w.heap.size < w1_.heap.size := (by have := hb1_.size; first | omega | (simp at this; omega)); obtain ⟨g1_w_0, g1_w_1⟩ : w1_.cell? ⟨w.heap.size, 0, none⟩ = some (.int .i64 a) ∧ w1_.cell? ⟨w.heap.size, 1, none⟩ = some (.int .i64 b) := (by refine ⟨?_, ?_⟩ <;> (rw [hc1_ _ _ (by first | assumption | (simp; done) | (simp; omega) | omega)]; first | assumption | (simp [go_sem]; done) | (simp [go_sem, *]; done))); have z1_w_1 : w.heap.size + 1 < w1_.heap.size := (by have := hb1_.size; first | omega | (simp at this; omega)); obtain ⟨g1_w_1_0, g1_w_1_1⟩ : w1_.cell? ⟨w.heap.size + 1, 0, none⟩ = some (.int .i64 c) ∧ w1_.cell? ⟨w.heap.size + 1, 1, none⟩ = some (.int .i64 d) := (by refine ⟨?_, ?_⟩ <;> (rw [hc1_ _ _ (by first | assumption | (simp; done) | (simp; omega) | omega)]; first | assumption | (simp [go_sem]; done) | (simp [go_sem, *]; done))); clear hc1_ hf1_; clear hb1_ hp1_)
   (go_wp2_with (fail); refine (C2.out _).mono ?_; rintro e w2_ ⟨rfl, hb2_⟩; have hp2_ : Below w1_.heap.size w1_ w2_ := Below.trans (by exact Kit.gr) (hb2_.mono (by first | assumption | (simp; done) | (simp; omega) | omega)); have hw2_ : Below w.heap.size w w2_ := hw1_.trans (hp2_.mono hw1_.size); have z2_w : w.heap.size < w2_.heap.size := Nat.lt_of_lt_of_le z1_w hp2_.size; have g2_w_0 := Kit.ck hp2_ g1_w_0 z1_w; have g2_w_1 := Kit.ck hp2_ g1_w_1 z1_w; have z2_w_1 : w.heap.size + 1 < w2_.heap.size := Nat.lt_of_lt_of_le z1_w_1 hp2_.size; have g2_w_1_0 := Kit.ck hp2_ g1_w_1_0 z1_w_1; have g2_w_1_1 := Kit.ck hp2_ g1_w_1_1 z1_w_1; clear z1_w g1_w_0 g1_w_1 z1_w_1 g1_w_1_0 g1_w_1_1 hw1_ hb2_ hp2_)
   (go_wp2_with (fail); refine (C3.out _).mono ?_; rintro e w3_ ⟨rfl, hb3_⟩; have hp3_ : Below w2_.heap.size w2_ w3_ := Below.trans (by exact Kit.gr) (hb3_.mono (by first | assumption | (simp; done) | (simp; omega) | omega)); have hw3_ : Below w.heap.size w w3_ := hw2_.trans (hp3_.mono hw2_.size); have z3_w : w.heap.size < w3_.heap.size := Nat.lt_of_lt_of_le z2_w hp3_.size; have g3_w_0 := Kit.ck hp3_ g2_w_0 z2_w; have g3_w_1 := Kit.ck hp3_ g2_w_1 z2_w; have z3_w_1 : w.heap.size + 1 < w3_.heap.size := Nat.lt_of_lt_of_le z2_w_1 hp3_.size; have g3_w_1_0 := Kit.ck hp3_ g2_w_1_0 z2_w_1; have g3_w_1_1 := Kit.ck hp3_ g2_w_1_1 z2_w_1; clear z2_w g2_w_0 g2_w_1 z2_w_1 g2_w_1_0 g2_w_1_1 hw2_ hb3_ hp3_)
   go_wp2
   go_ret2
   exact ⟨rfl, by exact Kit.gr⟩
  ·have t2 : decide (y < x) = false := decide_eq_false l2
   rw [if_neg l2]
   rw [t2] at c3
   have C2 := qh c2; have C3 := qh c3; clear c2 c3 l1 t1 l2 t2
   go_enter Tryz.func180, Tryz.ntmps180
   skip
   (go_wp2_with (fail); refine (C1.out _).mono ?_; rintro e w1_ ⟨rfl, hb1_⟩; have hp1_ : Below w.heap.size w w1_ := Below.trans (by exact Kit.gr) (hb1_.mono (by first | assumption | (simp; done) | (simp; omega) | omega)); have hw1_ : Below w.heap.size w w1_ := hp1_; obtain ⟨hc1_, hf1_⟩ := Kit.bcell hb1_; have z1_w : w.heap.size < w1_.heap.size := (by have := hb1_.size; first | omega | (simp at this; omega)); obtain ⟨g1_w_0, g1_w_1⟩ : w1_.cell? ⟨w.heap.size, 0, none⟩ = some (.int .i64 a) ∧ w1_.cell? ⟨w.heap.size, 1, none⟩ = some (.int .i64 b) := (by refine ⟨?_, ?_⟩ <;> (rw [hc1_ _ _ (by first | assumption | (simp; done) | (simp; omega) | omega)]; first | assumption | (simp [go_sem]; done) | (simp [go_sem, *]; done))); have z1_w_1 : w.heap.size + 1 < w1_.heap.size := (by have := hb1_.size; first | omega | (simp at this; omega)); obtain ⟨g1_w_1_0, g1_w_1_1⟩ : w1_.cell? ⟨w.heap.size + 1, 0, none⟩ = some (.int .i64 c) ∧ w1_.cell? ⟨w.heap.size + 1, 1, none⟩ = some (.int .i64 d) := (by refine ⟨?_, ?_⟩ <;> (rw [hc1_ _ _ (by first | assumption | (simp; done) | (simp; omega) | omega)]; first | assumption | (simp [go_sem]; done) | (simp [go_sem, *]; done))); clear hc1_ hf1_; clear hb1_ hp1_)
   (go_wp2_with (fail); refine (C2.out _).mono ?_; rintro e w2_ ⟨rfl, hb2_⟩; have hp2_ : Below w1_.heap.size w1_ w2_ := Below.trans (by exact Kit.gr) (hb2_.mono (by first | assumption | (simp; done) | (simp; omega) | omega)); have hw2_ : Below w.heap.size w w2_ := hw1_.trans (hp2_.mono hw1_.size); have z2_w : w.heap.size < w2_.heap.size := Nat.lt_of_lt_of_le z1_w hp2_.size; have g2_w_0 := Kit.ck hp2_ g1_w_0 z1_w; have g2_w_1 := Kit.ck hp2_ g1_w_1 z1_w; have z2_w_1 : w.heap.size + 1 < w2_.heap.size := Nat.lt_of_lt_of_le z1_w_1 hp2_.size; have g2_w_1_0 := Kit.ck hp2_ g1_w_1_0 z1_w_1; have g2_w_1_1 := Kit.ck hp2_ g1_w_1_1 z1_w_1; clear z1_w g1_w_0 g1_w_1 z1_w_1 g1_w_1_0 g1_w_1_1 hw1_ hb2_ hp2_)
   (go_wp2_with (fail); refine (C3.out _).mono ?_; rintro e w3_ ⟨rfl, hb3_⟩; have hp3_ : Below w2_.heap.size w2_ w3_ := Below.trans (by exact Kit.gr) (hb3_.mono (by first | assumption | (simp; done) | (simp; omega) | omega)); have hw3_ : Below w.heap.size w w3_ := hw2_.trans (hp3_.mono hw2_.size); have z3_w : w.heap.size < w3_.heap.size := Nat.lt_of_lt_of_le z2_w hp3_.size; have g3_w_0 := Kit.ck hp3_ g2_w_0 z2_w; have g3_w_1 := Kit.ck hp3_ g2_w_1 z2_w; have z3_w_1 : w.heap.size + 1 < w3_.heap.size := Nat.lt_of_lt_of_le z2_w_1 hp3_.size; have g3_w_1_0 := Kit.ck hp3_ g2_w_1_0 z2_w_1; have g3_w_1_1 := Kit.ck hp3_ g2_w_1_1 z2_w_1; clear z2_w g2_w_0 g2_w_1 z2_w_1 g2_w_1_0 g2_w_1_1 hw2_ hb3_ hp3_)
   go_wp2
   go_ret2
   exact ⟨rfl, by exact Kit.gr⟩
end Go.Proofs.YtedolbjgdedoaaaGreatDoor

namespace Go.Proofs.YtedolbjgdedoaaaGreatDoor
open Go.RowKit

theorem r_abs (n : Int) (w : World) (h : Tm.Mod n) : Calls Tryz.prog 178 #[.int .i64 n] w fun e w' => e = .returned (.int .i64 (n.natAbs : Int)) ∧ w' = w := by
 have h1 := h.lo; have h2 := h.hi
 clear h
 go_enter Tryz.func178, Tryz.ntmps178
 go_wp2
 all_goals go_ret
 all_goals exact ⟨ret_int omg, rfl⟩

theorem r_common (a b : Int) (w : World) (ha : 0 ≤ a) (hb : 0 ≤ b) (ha' : Tm.Mod a) (hb' : Tm.Mod b) :
  Calls Tryz.prog 177 #[.int .i64 a, .int .i64 b] w fun e w' => e = .returned (.int .i64 (Tm.g2 a b)) ∧ w' = w := by
 have a1 := ha'.hi; have b1 := hb'.hi
 clear ha' hb'
 go_enter Tryz.func177, Tryz.ntmps177
 go_wp2
 go_loop [0, 1, 5] (fun v0 v1 v5 => ∃ x y : Int, v0 = .int .i64 x ∧ v1 = .int .i64 y ∧ 0 ≤ x ∧ 0 ≤ y ∧ x ≤ 2305843009213693952 ∧ y ≤ 2305843009213693952 ∧ Hid (Tm.g2 x y = Tm.g2 a b)) (fun _ v1 _ => (intOf v1).natAbs)
 case atStart => exact ⟨a, b, rfl, rfl, ha, hb, a1, b1, rfl⟩
 case round =>
  obtain ⟨x, y, rfl, rfl, hx, hy, hx', hy', HG⟩ := hrel
  by_cases hz : 0 < y
  ·have k1 := Int.tmod_nonneg y hx
   have k2 := Int.tmod_lt_of_pos x hz
   have k5 := Tm.tmod_lt x y omg
   have hs := Tm.g2_step x y
   have HS := qh hs; clear hs
   have he : x % y = x.tmod y := (Int.tmod_eq_emod_of_nonneg hx).symm
   have HE := qh he; clear he
   go_wp2
   go_round
   case rel => exact ⟨_, _, rfl, rfl, by omega, by first | omega | (rw [HE.out]; omega), by omega, by first | omega | (rw [HE.out]; omega), by first | (rw [HE.out]; exact HS.out.trans HG.out) | exact HS.out.trans HG.out⟩
   case measure => simp only [intOf]; first | exact k5 | (rw [HE.out]; exact k5)
  ·go_wp2
   go_ret
   refine ⟨ret_int ?_, rfl⟩
   obtain rfl : y = 0 := by omega
   have := HG.out
   rw [Tm.g2_zero] at this
   omega

theorem natAbs_mod {n : Int} (h : Tm.Mod n) : Tm.Mod (n.natAbs : Int) := by unfold Tm.Mod at *; omega
theorem g2_abs2 (a b : Int) : Tm.g2 (a.natAbs : Int) (b.natAbs : Int) = Tm.g2 a b := by simp [Tm.g2_def]

def RChk (a b c : Int) (r : Int) (w : World) : Prop := Calls Tryz.prog 158 #[.agg #[.int .i64 a, .int .i64 b, .int .i64 c]] w fun e w' => e = .returned (.int .i64 r) ∧ Below w.heap.size w w'

theorem r_check_1 (a b c : Int) (w : World) (h1 : c < 1) : RChk a b c 140 w := by
 have d1 : decide (c < 1) = true := by simp; omega
 unfold RChk
 go_enter Tryz.func158, Tryz.ntmps158
 go_wp2
 go_ret
 exact ⟨rfl, by exact Kit.gr⟩
theorem r_check_2 (a b c : Int) (w : World) (h1 : 1 ≤ c) (h2 : 32768 < c) : RChk a b c 140 w := by
 have d1 : decide (c < 1) = false := by simp; omega
 have d2 : decide (32768 < c) = true := by simp; omega
 unfold RChk
 go_enter Tryz.func158, Tryz.ntmps158
 go_wp2
 go_ret
 exact ⟨rfl, by exact Kit.gr⟩
theorem r_check_3 (a b c : Int) (w : World) (h1 : 1 ≤ c) (h2 : c ≤ 32768) (h3 : a < -c) : RChk a b c 140 w := by
 have d1 : decide (c < 1) = false := by simp; omega
 have d2 : decide (32768 < c) = false := by simp; omega
 have d3 : decide (a < -c) = true := by simp; omega
 unfold RChk
 go_enter Tryz.func158, Tryz.ntmps158
 go_wp2
 go_ret
 exact ⟨rfl, by exact Kit.gr⟩
theorem r_check_4 (a b c : Int) (w : World) (h1 : 1 ≤ c) (h2 : c ≤ 32768) (h3 : -c ≤ a) (h4 : c < a) : RChk a b c 140 w := by
 have d1 : decide (c < 1) = false := by simp; omega
 have d2 : decide (32768 < c) = false := by simp; omega
 have d3 : decide (a < -c) = false := by simp; omega
 have d4 : decide (c < a) = true := by simp; omega
 unfold RChk
 go_enter Tryz.func158, Tryz.ntmps158
 go_wp2
 go_ret
 exact ⟨rfl, by exact Kit.gr⟩
theorem r_check_5 (a b c : Int) (w : World) (h1 : 1 ≤ c) (h2 : c ≤ 32768) (h3 : -c ≤ a) (h4 : a ≤ c) (h5 : b < -c) : RChk a b c 140 w := by
 have d1 : decide (c < 1) = false := by simp; omega
 have d2 : decide (32768 < c) = false := by simp; omega
 have d3 : decide (a < -c) = false := by simp; omega
 have d4 : decide (c < a) = false := by simp; omega
 have d5 : decide (b < -c) = true := by simp; omega
 unfold RChk
 go_enter Tryz.func158, Tryz.ntmps158
 go_wp2
 go_ret
 exact ⟨rfl, by exact Kit.gr⟩
theorem r_check_6 (a b c : Int) (w : World) (h1 : 1 ≤ c) (h2 : c ≤ 32768) (h3 : -c ≤ a) (h4 : a ≤ c) (h5 : -c ≤ b) (h6 : c < b) : RChk a b c 140 w := by
 have d1 : decide (c < 1) = false := by simp; omega
 have d2 : decide (32768 < c) = false := by simp; omega
 have d3 : decide (a < -c) = false := by simp; omega
 have d4 : decide (c < a) = false := by simp; omega
 have d5 : decide (b < -c) = false := by simp; omega
 have d6 : decide (c < b) = true := by simp; omega
 unfold RChk
 go_enter Tryz.func158, Tryz.ntmps158
 go_wp2
 go_ret
 exact ⟨rfl, by exact Kit.gr⟩

theorem r_check_7 (a b c : Int) (w : World) (h1 : 1 ≤ c) (h2 : c ≤ 32768) (h3 : -c ≤ a) (h4 : a ≤ c) (h5 : -c ≤ b) (h6 : b ≤ c) (h7 : (a * a + b * b != c * c) = true)
  (s1 : 0 ≤ a * a) (s2 : a * a ≤ 1073741824) (s3 : 0 ≤ b * b) (s4 : b * b ≤ 1073741824) (s5 : 0 ≤ c * c) (s6 : c * c ≤ 1073741824) : RChk a b c 140 w := by
 have d1 : decide (c < 1) = false := by simp; omega
 have d2 : decide (32768 < c) = false := by simp; omega
 have d3 : decide (a < -c) = false := by simp; omega
 have d4 : decide (c < a) = false := by simp; omega
 have d5 : decide (b < -c) = false := by simp; omega
 have d6 : decide (c < b) = false := by simp; omega
 unfold RChk
 go_enter Tryz.func158, Tryz.ntmps158
 go_wp2
 go_quiet (fail)
 go_wp2
 go_ret
 exact ⟨rfl, by exact Kit.gr⟩
theorem r_check_8 (a b c d : Int) (x : Bool) (w : World) (h1 : 1 ≤ c) (h2 : c ≤ 32768) (h3 : -c ≤ a) (h4 : a ≤ c) (h5 : -c ≤ b) (h6 : b ≤ c) (h7 : (a * a + b * b != c * c) = false)
  (s1 : 0 ≤ a * a) (s2 : a * a ≤ 1073741824) (s3 : 0 ≤ b * b) (s4 : b * b ≤ 1073741824) (s5 : 0 ≤ c * c) (s6 : c * c ≤ 1073741824) (HD : Hid (Tm.g3 a b c = d)) (hx : (d != 1) = x) : RChk a b c (if x = true then 140 else 0) w := by
 have d1 : decide (c < 1) = false := by simp; omega
 have d2 : decide (32768 < c) = false := by simp; omega
 have d3 : decide (a < -c) = false := by simp; omega
 have d4 : decide (c < a) = false := by simp; omega
 have d5 : decide (b < -c) = false := by simp; omega
 have d6 : decide (c < b) = false := by simp; omega
 have ma : Tm.Mod a := by unfold Tm.Mod; omega
 have mb : Tm.Mod b := by unfold Tm.Mod; omega
 have mc : Tm.Mod c := by unfold Tm.Mod; omega
 have c1 := fun W => r_common (a.natAbs : Int) (b.natAbs : Int) W omg omg (natAbs_mod ma) (natAbs_mod mb)
 rw [g2_abs2] at c1
 have c2 := fun W => r_common (Tm.g2 a b) c W (Tm.g2_nonneg _ _) omg (Tm.g2_le _ _ ma mb) mc
 have e3 : Tm.g2 (Tm.g2 a b) c = d := HD.out
 rw [e3] at c2
 clear e3
 have c3 := fun W => r_abs a W ma
 have c4 := fun W => r_abs b W mb
 have c1 := qh c1
 have c2 := qh c2
 have c3 := qh c3
 have c4 := qh c4
 clear ma mb mc
 unfold RChk
 cases x
 all_goals
  go_enter Tryz.func158, Tryz.ntmps158
  go_wp2
  go_quiet (first | with_reducible exact Calls.quiet_of_same (c3.out _) | with_reducible exact Calls.quiet_of_same (c4.out _) | with_reducible exact Calls.quiet_of_same (c1.out _) | with_reducible exact Calls.quiet_of_same (c2.out _))
  go_wp2
  go_ret
  exact ⟨rfl, by exact Kit.gr⟩

theorem r_check (a b c : Int) (w : World) : RChk a b c (if Tm.vld a b c = true then 0 else 140) w := by
 by_cases h1 : c < 1
 ·rw [if_neg (by rw [Tm.vld_iff]; omega)]; exact r_check_1 a b c w h1
 by_cases h2 : 32768 < c
 ·rw [if_neg (by rw [Tm.vld_iff]; omega)]; exact r_check_2 a b c w omg h2
 by_cases h3 : a < -c
 ·rw [if_neg (by rw [Tm.vld_iff]; omega)]; exact r_check_3 a b c w omg omg h3
 by_cases h4 : c < a
 ·rw [if_neg (by rw [Tm.vld_iff]; omega)]; exact r_check_4 a b c w omg omg omg h4
 by_cases h3' : b < -c
 ·rw [if_neg (by rw [Tm.vld_iff]; omega)]; exact r_check_5 a b c w omg omg omg omg h3'
 by_cases h4' : c < b
 ·rw [if_neg (by rw [Tm.vld_iff]; omega)]; exact r_check_6 a b c w omg omg omg omg omg h4'
 have sa := Tm.sq_bd a c omg omg omg omg
 have sb := Tm.sq_bd b c omg omg omg omg
 have sc := Tm.sq_bd c c omg omg omg omg
 by_cases h5 : a * a + b * b = c * c
 ·have h := r_check_8 a b c _ _ w omg omg omg omg omg omg (by simpa using h5) sa.1 sa.2 sb.1 sb.2 sc.1 sc.2 rfl rfl
  have e : (if (Tm.g3 a b c != 1) = true then (140 : Int) else 0) = if Tm.vld a b c = true then 0 else 140 := by
   by_cases h6 : Tm.g3 a b c = 1
   ·rw [if_neg (by simp [h6]), if_pos (by rw [Tm.vld_iff]; omega)]
   ·rw [if_pos (by simpa using h6), if_neg (by rw [Tm.vld_iff]; omega)]
  rw [e] at h
  exact h
 ·rw [if_neg (by rw [Tm.vld_iff]; omega)]
  exact r_check_7 a b c w omg omg omg omg omg omg (by simpa using h5) sa.1 sa.2 sb.1 sb.2 sc.1 sc.2

namespace Rq
def spn (s : Ex.Sg) : Bool := Ra.ok s.fn s.fd && Ra.ok s.tn s.td && decide (0 ≤ s.fn) && decide (Ra.sg (s.fn * s.td) (s.tn * s.fd) < 0) && decide (s.tn ≤ s.td)
theorem ok_01 : Ra.ok 0 1 = true := by decide
theorem ok_11 : Ra.ok 1 1 = true := by decide
theorem sg_lt (x y : Int) : Ra.sg x y < 0 ↔ x < y := by unfold Ra.sg; split <;> (try split) <;> omega
theorem sg_gt (x y : Int) : 0 < Ra.sg x y ↔ y < x := by unfold Ra.sg; split <;> (try split) <;> omega
theorem sg_eq (x y : Int) : Ra.sg x y = 0 ↔ x = y := by unfold Ra.sg; split <;> (try split) <;> omega
theorem spn_bad (s : Ex.Sg) : spn s = (!Ex.bad s 0 && !Ex.bad s 1 && !Ex.bad s 2) := by
 unfold spn Ex.bad Ex.pr Ex.cmpE Ex.cmpC Ex.same
 (try dsimp only)
 rcases h1 : Ra.ok s.fn s.fd with _ | _
 ·simp [ok_01, h1]
 rcases h2 : Ra.ok s.tn s.td with _ | _
 ·simp [ok_01, h1, h2]
 simp only [ok_01, ok_11, h1, h2, Bool.and_self, if_true, Bool.true_and]
 rw [Bool.eq_iff_iff]
 simp only [Bool.and_eq_true, Bool.not_eq_true', Bool.or_eq_false_iff, Bool.and_eq_false_iff, decide_eq_true_iff, decide_eq_false_iff_not, bne_self_eq_false, beq_eq_false_iff_ne, beq_self_eq_true, true_and, sg_lt, sg_gt, sg_eq, ne_eq, Int.zero_mul, Int.mul_one, Int.one_mul, Bool.true_eq_false, or_false]
 constructor
 ·rintro ⟨⟨a, b⟩, c⟩
  refine ⟨⟨⟨by omega, ?_⟩, ⟨by omega, by omega⟩⟩, ⟨by omega, ?_⟩⟩
  ·by_cases e : s.fn = s.tn ∧ s.fd = s.td
   ·rw [e.1, e.2] at b; omega
   ·by_cases e2 : s.fn = s.tn
    ·exact .inr (.inr (fun h => e ⟨e2, h⟩))
    ·exact .inr (.inl e2)
  ·by_cases e : s.tn = s.fn ∧ s.td = s.fd
   ·rw [e.1, e.2] at b; omega
   ·by_cases e2 : s.tn = s.fn
    ·exact .inl (.inr (.inr (fun h => e ⟨e2, h⟩)))
    ·exact .inl (.inr (.inl e2))
 ·rintro ⟨⟨⟨a, _⟩, ⟨b, c⟩⟩, ⟨d, _⟩⟩
  exact ⟨⟨by omega, by omega⟩, by omega⟩
end Rq
theorem rq_span (s : Ex.Sg) (w : World) : Calls Tryz.prog 160 #[Ex.sgV s] w fun e w' => e = .returned (.bool (Rq.spn s)) ∧ Below w.heap.size w w' := by
 obtain ⟨id, role, bar, mark, kind, side, dir, level, size, wth, fn, fd, tn, td⟩ := s
 unfold Rq.spn
 (try dsimp only)
 have c1 := fun W => rq_check fn fd W
 have c2 := fun W => rq_check tn td W
 rcases h1 : Ra.ok fn fd with _ | _
 ·rw [h1, if_neg (by decide)] at c1
  have C1 := qh c1; clear c1 c2 h1
  (try simp only [Bool.false_and])
  go_enter Tryz.func160, Tryz.ntmps160
  skip
  (go_wp2_with (fail); refine (C1.out _).mono ?_; rintro e w1_ ⟨rfl, hb1_⟩; have hp1_ : Below w.heap.size w w1_ := Below.trans (by exact Kit.gr) (hb1_.mono (by first | assumption | (simp; done) | (simp; omega) | omega)); have hw1_ : Below w.heap.size w w1_ := hp1_; obtain ⟨hc1_, hf1_⟩ := Kit.bcell hb1_; have z1_w : w.heap.size < w1_.heap.size := (by have := hb1_.size; first | omega | (simp at this; omega)); obtain ⟨g1_w_0, g1_w_1, g1_w_2, g1_w_3, g1_w_4, g1_w_5, g1_w_6, g1_w_7, g1_w_8, g1_w_9, g1_w_10, g1_w_11, g1_w_12, g1_w_13⟩ : w1_.cell? ⟨w.heap.size, 0, none⟩ = some (.int .i64 id) ∧ w1_.cell? ⟨w.heap.size, 1, none⟩ = some (.int .i64 role) ∧ w1_.cell? ⟨w.heap.size, 2, none⟩ = some (.int .i64 bar) ∧ w1_.cell? ⟨w.heap.size, 3, none⟩ = some (.int .i64 mark) ∧ w1_.cell? ⟨w.heap.size, 4, none⟩ = some (.int .i64 kind) ∧ w1_.cell? ⟨w.heap.size, 5, none⟩ = some (.int .i64 side) ∧ w1_.cell? ⟨w.heap.size, 6, none⟩ = some (.int .i64 dir) ∧ w1_.cell? ⟨w.heap.size, 7, none⟩ = some (.int .i64 level) ∧ w1_.cell? ⟨w.heap.size, 8, none⟩ = some (.int .i64 size) ∧ w1_.cell? ⟨w.heap.size, 9, none⟩ = some (.int .i64 wth) ∧ w1_.cell? ⟨w.heap.size, 10, none⟩ = some (.int .i64 fn) ∧ w1_.cell? ⟨w.heap.size, 11, none⟩ = some (.int .i64 fd) ∧ w1_.cell? ⟨w.heap.size, 12, none⟩ = some (.int .i64 tn) ∧ w1_.cell? ⟨w.heap.size, 13, none⟩ = some (.int .i64 td) := (by refine ⟨?_, ?_, ?_, ?_, ?_, ?_, ?_, ?_, ?_, ?_, ?_, ?_, ?_, ?_⟩ <;> (rw [hc1_ _ _ (by first | assumption | (simp; done) | (simp; omega) | omega)]; first | assumption | (simp [go_sem]; done) | (simp [go_sem, *]; done))); clear hc1_ hf1_; clear hb1_ hp1_)
  go_wp2
  go_ret
  exact ⟨rfl, by exact Kit.gr⟩
 rcases h2 : Ra.ok tn td with _ | _
 ·rw [h1, if_pos rfl] at c1
  rw [h2, if_neg (by decide)] at c2
  have C1 := qh c1; have C2 := qh c2; clear c1 c2 h1 h2
  (try simp only [Bool.and_false, Bool.false_and])
  go_enter Tryz.func160, Tryz.ntmps160
  skip
  (go_wp2_with (fail); refine (C1.out _).mono ?_; rintro e w1_ ⟨rfl, hb1_⟩; have hp1_ : Below w.heap.size w w1_ := Below.trans (by exact Kit.gr) (hb1_.mono (by first | assumption | (simp; done) | (simp; omega) | omega)); have hw1_ : Below w.heap.size w w1_ := hp1_; obtain ⟨hc1_, hf1_⟩ := Kit.bcell hb1_; have z1_w : w.heap.size < w1_.heap.size := (by have := hb1_.size; first | omega | (simp at this; omega)); obtain ⟨g1_w_0, g1_w_1, g1_w_2, g1_w_3, g1_w_4, g1_w_5, g1_w_6, g1_w_7, g1_w_8, g1_w_9, g1_w_10, g1_w_11, g1_w_12, g1_w_13⟩ : w1_.cell? ⟨w.heap.size, 0, none⟩ = some (.int .i64 id) ∧ w1_.cell? ⟨w.heap.size, 1, none⟩ = some (.int .i64 role) ∧ w1_.cell? ⟨w.heap.size, 2, none⟩ = some (.int .i64 bar) ∧ w1_.cell? ⟨w.heap.size, 3, none⟩ = some (.int .i64 mark) ∧ w1_.cell? ⟨w.heap.size, 4, none⟩ = some (.int .i64 kind) ∧ w1_.cell? ⟨w.heap.size, 5, none⟩ = some (.int .i64 side) ∧ w1_.cell? ⟨w.heap.size, 6, none⟩ = some (.int .i64 dir) ∧ w1_.cell? ⟨w.heap.size, 7, none⟩ = some (.int .i64 level) ∧ w1_.cell? ⟨w.heap.size, 8, none⟩ = some (.int .i64 size) ∧ w1_.cell? ⟨w.heap.size, 9, none⟩ = some (.int .i64 wth) ∧ w1_.cell? ⟨w.heap.size, 10, none⟩ = some (.int .i64 fn) ∧ w1_.cell? ⟨w.heap.size, 11, none⟩ = some (.int .i64 fd) ∧ w1_.cell? ⟨w.heap.size, 12, none⟩ = some (.int .i64 tn) ∧ w1_.cell? ⟨w.heap.size, 13, none⟩ = some (.int .i64 td) := (by refine ⟨?_, ?_, ?_, ?_, ?_, ?_, ?_, ?_, ?_, ?_, ?_, ?_, ?_, ?_⟩ <;> (rw [hc1_ _ _ (by first | assumption | (simp; done) | (simp; omega) | omega)]; first | assumption | (simp [go_sem]; done) | (simp [go_sem, *]; done))); clear hc1_ hf1_; clear hb1_ hp1_)
  (go_wp2_with (fail); refine (C2.out _).mono ?_; rintro e w2_ ⟨rfl, hb2_⟩; have hp2_ : Below w1_.heap.size w1_ w2_ := Below.trans (by exact Kit.gr) (hb2_.mono (by first | assumption | (simp; done) | (simp; omega) | omega)); have hw2_ : Below w.heap.size w w2_ := hw1_.trans (hp2_.mono hw1_.size); have z2_w : w.heap.size < w2_.heap.size := Nat.lt_of_lt_of_le z1_w hp2_.size; have g2_w_0 := Kit.ck hp2_ g1_w_0 z1_w; have g2_w_1 := Kit.ck hp2_ g1_w_1 z1_w; have g2_w_2 := Kit.ck hp2_ g1_w_2 z1_w; have g2_w_3 := Kit.ck hp2_ g1_w_3 z1_w; have g2_w_4 := Kit.ck hp2_ g1_w_4 z1_w; have g2_w_5 := Kit.ck hp2_ g1_w_5 z1_w; have g2_w_6 := Kit.ck hp2_ g1_w_6 z1_w; have g2_w_7 := Kit.ck hp2_ g1_w_7 z1_w; have g2_w_8 := Kit.ck hp2_ g1_w_8 z1_w; have g2_w_9 := Kit.ck hp2_ g1_w_9 z1_w; have g2_w_10 := Kit.ck hp2_ g1_w_10 z1_w; have g2_w_11 := Kit.ck hp2_ g1_w_11 z1_w; have g2_w_12 := Kit.ck hp2_ g1_w_12 z1_w; have g2_w_13 := Kit.ck hp2_ g1_w_13 z1_w; clear z1_w g1_w_0 g1_w_1 g1_w_2 g1_w_3 g1_w_4 g1_w_5 g1_w_6 g1_w_7 g1_w_8 g1_w_9 g1_w_10 g1_w_11 g1_w_12 g1_w_13 hw1_ hb2_ hp2_)
  go_wp2
  go_ret
  exact ⟨rfl, by exact Kit.gr⟩
 have c3 := fun W => rq_cmp fn fd tn td W h1 h2
 unfold Rq.CmpIs at c3
 rw [h1, if_pos rfl] at c1
 rw [h2, if_pos rfl] at c2
 generalize Ra.sg (fn * td) (tn * fd) = g at *
 have C1 := qh c1; have C2 := qh c2; have C3 := qh c3; clear c1 c2 c3 h1 h2
 simp only [Bool.true_and]
 rcases d1 : decide (0 ≤ fn) with _ | _
 ·(try simp only [Bool.false_and])
  go_enter Tryz.func160, Tryz.ntmps160
  skip
  (go_wp2_with (fail); refine (C1.out _).mono ?_; rintro e w1_ ⟨rfl, hb1_⟩; have hp1_ : Below w.heap.size w w1_ := Below.trans (by exact Kit.gr) (hb1_.mono (by first | assumption | (simp; done) | (simp; omega) | omega)); have hw1_ : Below w.heap.size w w1_ := hp1_; obtain ⟨hc1_, hf1_⟩ := Kit.bcell hb1_; have z1_w : w.heap.size < w1_.heap.size := (by have := hb1_.size; first | omega | (simp at this; omega)); obtain ⟨g1_w_0, g1_w_1, g1_w_2, g1_w_3, g1_w_4, g1_w_5, g1_w_6, g1_w_7, g1_w_8, g1_w_9, g1_w_10, g1_w_11, g1_w_12, g1_w_13⟩ : w1_.cell? ⟨w.heap.size, 0, none⟩ = some (.int .i64 id) ∧ w1_.cell? ⟨w.heap.size, 1, none⟩ = some (.int .i64 role) ∧ w1_.cell? ⟨w.heap.size, 2, none⟩ = some (.int .i64 bar) ∧ w1_.cell? ⟨w.heap.size, 3, none⟩ = some (.int .i64 mark) ∧ w1_.cell? ⟨w.heap.size, 4, none⟩ = some (.int .i64 kind) ∧ w1_.cell? ⟨w.heap.size, 5, none⟩ = some (.int .i64 side) ∧ w1_.cell? ⟨w.heap.size, 6, none⟩ = some (.int .i64 dir) ∧ w1_.cell? ⟨w.heap.size, 7, none⟩ = some (.int .i64 level) ∧ w1_.cell? ⟨w.heap.size, 8, none⟩ = some (.int .i64 size) ∧ w1_.cell? ⟨w.heap.size, 9, none⟩ = some (.int .i64 wth) ∧ w1_.cell? ⟨w.heap.size, 10, none⟩ = some (.int .i64 fn) ∧ w1_.cell? ⟨w.heap.size, 11, none⟩ = some (.int .i64 fd) ∧ w1_.cell? ⟨w.heap.size, 12, none⟩ = some (.int .i64 tn) ∧ w1_.cell? ⟨w.heap.size, 13, none⟩ = some (.int .i64 td) := (by refine ⟨?_, ?_, ?_, ?_, ?_, ?_, ?_, ?_, ?_, ?_, ?_, ?_, ?_, ?_⟩ <;> (rw [hc1_ _ _ (by first | assumption | (simp; done) | (simp; omega) | omega)]; first | assumption | (simp [go_sem]; done) | (simp [go_sem, *]; done))); clear hc1_ hf1_; clear hb1_ hp1_)
  (go_wp2_with (fail); refine (C2.out _).mono ?_; rintro e w2_ ⟨rfl, hb2_⟩; have hp2_ : Below w1_.heap.size w1_ w2_ := Below.trans (by exact Kit.gr) (hb2_.mono (by first | assumption | (simp; done) | (simp; omega) | omega)); have hw2_ : Below w.heap.size w w2_ := hw1_.trans (hp2_.mono hw1_.size); have z2_w : w.heap.size < w2_.heap.size := Nat.lt_of_lt_of_le z1_w hp2_.size; have g2_w_0 := Kit.ck hp2_ g1_w_0 z1_w; have g2_w_1 := Kit.ck hp2_ g1_w_1 z1_w; have g2_w_2 := Kit.ck hp2_ g1_w_2 z1_w; have g2_w_3 := Kit.ck hp2_ g1_w_3 z1_w; have g2_w_4 := Kit.ck hp2_ g1_w_4 z1_w; have g2_w_5 := Kit.ck hp2_ g1_w_5 z1_w; have g2_w_6 := Kit.ck hp2_ g1_w_6 z1_w; have g2_w_7 := Kit.ck hp2_ g1_w_7 z1_w; have g2_w_8 := Kit.ck hp2_ g1_w_8 z1_w; have g2_w_9 := Kit.ck hp2_ g1_w_9 z1_w; have g2_w_10 := Kit.ck hp2_ g1_w_10 z1_w; have g2_w_11 := Kit.ck hp2_ g1_w_11 z1_w; have g2_w_12 := Kit.ck hp2_ g1_w_12 z1_w; have g2_w_13 := Kit.ck hp2_ g1_w_13 z1_w; clear z1_w g1_w_0 g1_w_1 g1_w_2 g1_w_3 g1_w_4 g1_w_5 g1_w_6 g1_w_7 g1_w_8 g1_w_9 g1_w_10 g1_w_11 g1_w_12 g1_w_13 hw1_ hb2_ hp2_)
  (go_wp2_with (fail); refine (C3.out _).mono ?_; rintro e w3_ ⟨rfl, hb3_⟩; have hp3_ : Below w2_.heap.size w2_ w3_ := Below.trans (by exact Kit.gr) (hb3_.mono (by first | assumption | (simp; done) | (simp; omega) | omega)); have hw3_ : Below w.heap.size w w3_ := hw2_.trans (hp3_.mono hw2_.size); have z3_w : w.heap.size < w3_.heap.size := Nat.lt_of_lt_of_le z2_w hp3_.size; have g3_w_0 := Kit.ck hp3_ g2_w_0 z2_w; have g3_w_1 := Kit.ck hp3_ g2_w_1 z2_w; have g3_w_2 := Kit.ck hp3_ g2_w_2 z2_w; have g3_w_3 := Kit.ck hp3_ g2_w_3 z2_w; have g3_w_4 := Kit.ck hp3_ g2_w_4 z2_w; have g3_w_5 := Kit.ck hp3_ g2_w_5 z2_w; have g3_w_6 := Kit.ck hp3_ g2_w_6 z2_w; have g3_w_7 := Kit.ck hp3_ g2_w_7 z2_w; have g3_w_8 := Kit.ck hp3_ g2_w_8 z2_w; have g3_w_9 := Kit.ck hp3_ g2_w_9 z2_w; have g3_w_10 := Kit.ck hp3_ g2_w_10 z2_w; have g3_w_11 := Kit.ck hp3_ g2_w_11 z2_w; have g3_w_12 := Kit.ck hp3_ g2_w_12 z2_w; have g3_w_13 := Kit.ck hp3_ g2_w_13 z2_w; clear z2_w g2_w_0 g2_w_1 g2_w_2 g2_w_3 g2_w_4 g2_w_5 g2_w_6 g2_w_7 g2_w_8 g2_w_9 g2_w_10 g2_w_11 g2_w_12 g2_w_13 hw2_ hb3_ hp3_)
  go_wp2
  go_ret
  exact ⟨rfl, by exact Kit.gr⟩
 rcases d2 : decide (g < 0) with _ | _
 ·(try simp only [Bool.and_false, Bool.false_and])
  go_enter Tryz.func160, Tryz.ntmps160
  skip
  (go_wp2_with (fail); refine (C1.out _).mono ?_; rintro e w1_ ⟨rfl, hb1_⟩; have hp1_ : Below w.heap.size w w1_ := Below.trans (by exact Kit.gr) (hb1_.mono (by first | assumption | (simp; done) | (simp; omega) | omega)); have hw1_ : Below w.heap.size w w1_ := hp1_; obtain ⟨hc1_, hf1_⟩ := Kit.bcell hb1_; have z1_w : w.heap.size < w1_.heap.size := (by have := hb1_.size; first | omega | (simp at this; omega)); obtain ⟨g1_w_0, g1_w_1, g1_w_2, g1_w_3, g1_w_4, g1_w_5, g1_w_6, g1_w_7, g1_w_8, g1_w_9, g1_w_10, g1_w_11, g1_w_12, g1_w_13⟩ : w1_.cell? ⟨w.heap.size, 0, none⟩ = some (.int .i64 id) ∧ w1_.cell? ⟨w.heap.size, 1, none⟩ = some (.int .i64 role) ∧ w1_.cell? ⟨w.heap.size, 2, none⟩ = some (.int .i64 bar) ∧ w1_.cell? ⟨w.heap.size, 3, none⟩ = some (.int .i64 mark) ∧ w1_.cell? ⟨w.heap.size, 4, none⟩ = some (.int .i64 kind) ∧ w1_.cell? ⟨w.heap.size, 5, none⟩ = some (.int .i64 side) ∧ w1_.cell? ⟨w.heap.size, 6, none⟩ = some (.int .i64 dir) ∧ w1_.cell? ⟨w.heap.size, 7, none⟩ = some (.int .i64 level) ∧ w1_.cell? ⟨w.heap.size, 8, none⟩ = some (.int .i64 size) ∧ w1_.cell? ⟨w.heap.size, 9, none⟩ = some (.int .i64 wth) ∧ w1_.cell? ⟨w.heap.size, 10, none⟩ = some (.int .i64 fn) ∧ w1_.cell? ⟨w.heap.size, 11, none⟩ = some (.int .i64 fd) ∧ w1_.cell? ⟨w.heap.size, 12, none⟩ = some (.int .i64 tn) ∧ w1_.cell? ⟨w.heap.size, 13, none⟩ = some (.int .i64 td) := (by refine ⟨?_, ?_, ?_, ?_, ?_, ?_, ?_, ?_, ?_, ?_, ?_, ?_, ?_, ?_⟩ <;> (rw [hc1_ _ _ (by first | assumption | (simp; done) | (simp; omega) | omega)]; first | assumption | (simp [go_sem]; done) | (simp [go_sem, *]; done))); clear hc1_ hf1_; clear hb1_ hp1_)
  (go_wp2_with (fail); refine (C2.out _).mono ?_; rintro e w2_ ⟨rfl, hb2_⟩; have hp2_ : Below w1_.heap.size w1_ w2_ := Below.trans (by exact Kit.gr) (hb2_.mono (by first | assumption | (simp; done) | (simp; omega) | omega)); have hw2_ : Below w.heap.size w w2_ := hw1_.trans (hp2_.mono hw1_.size); have z2_w : w.heap.size < w2_.heap.size := Nat.lt_of_lt_of_le z1_w hp2_.size; have g2_w_0 := Kit.ck hp2_ g1_w_0 z1_w; have g2_w_1 := Kit.ck hp2_ g1_w_1 z1_w; have g2_w_2 := Kit.ck hp2_ g1_w_2 z1_w; have g2_w_3 := Kit.ck hp2_ g1_w_3 z1_w; have g2_w_4 := Kit.ck hp2_ g1_w_4 z1_w; have g2_w_5 := Kit.ck hp2_ g1_w_5 z1_w; have g2_w_6 := Kit.ck hp2_ g1_w_6 z1_w; have g2_w_7 := Kit.ck hp2_ g1_w_7 z1_w; have g2_w_8 := Kit.ck hp2_ g1_w_8 z1_w; have g2_w_9 := Kit.ck hp2_ g1_w_9 z1_w; have g2_w_10 := Kit.ck hp2_ g1_w_10 z1_w; have g2_w_11 := Kit.ck hp2_ g1_w_11 z1_w; have g2_w_12 := Kit.ck hp2_ g1_w_12 z1_w; have g2_w_13 := Kit.ck hp2_ g1_w_13 z1_w; clear z1_w g1_w_0 g1_w_1 g1_w_2 g1_w_3 g1_w_4 g1_w_5 g1_w_6 g1_w_7 g1_w_8 g1_w_9 g1_w_10 g1_w_11 g1_w_12 g1_w_13 hw1_ hb2_ hp2_)
  (go_wp2_with (fail); refine (C3.out _).mono ?_; rintro e w3_ ⟨rfl, hb3_⟩; have hp3_ : Below w2_.heap.size w2_ w3_ := Below.trans (by exact Kit.gr) (hb3_.mono (by first | assumption | (simp; done) | (simp; omega) | omega)); have hw3_ : Below w.heap.size w w3_ := hw2_.trans (hp3_.mono hw2_.size); have z3_w : w.heap.size < w3_.heap.size := Nat.lt_of_lt_of_le z2_w hp3_.size; have g3_w_0 := Kit.ck hp3_ g2_w_0 z2_w; have g3_w_1 := Kit.ck hp3_ g2_w_1 z2_w; have g3_w_2 := Kit.ck hp3_ g2_w_2 z2_w; have g3_w_3 := Kit.ck hp3_ g2_w_3 z2_w; have g3_w_4 := Kit.ck hp3_ g2_w_4 z2_w; have g3_w_5 := Kit.ck hp3_ g2_w_5 z2_w; have g3_w_6 := Kit.ck hp3_ g2_w_6 z2_w; have g3_w_7 := Kit.ck hp3_ g2_w_7 z2_w; have g3_w_8 := Kit.ck hp3_ g2_w_8 z2_w; have g3_w_9 := Kit.ck hp3_ g2_w_9 z2_w; have g3_w_10 := Kit.ck hp3_ g2_w_10 z2_w; have g3_w_11 := Kit.ck hp3_ g2_w_11 z2_w; have g3_w_12 := Kit.ck hp3_ g2_w_12 z2_w; have g3_w_13 := Kit.ck hp3_ g2_w_13 z2_w; clear z2_w g2_w_0 g2_w_1 g2_w_2 g2_w_3 g2_w_4 g2_w_5 g2_w_6 g2_w_7 g2_w_8 g2_w_9 g2_w_10 g2_w_11 g2_w_12 g2_w_13 hw2_ hb3_ hp3_)
  go_wp2
  go_ret
  exact ⟨rfl, by exact Kit.gr⟩
 rcases d3 : decide (tn ≤ td) with _ | _
 ·(try simp only [Bool.and_false])
  go_enter Tryz.func160, Tryz.ntmps160
  skip
  (go_wp2_with (fail); refine (C1.out _).mono ?_; rintro e w1_ ⟨rfl, hb1_⟩; have hp1_ : Below w.heap.size w w1_ := Below.trans (by exact Kit.gr) (hb1_.mono (by first | assumption | (simp; done) | (simp; omega) | omega)); have hw1_ : Below w.heap.size w w1_ := hp1_; obtain ⟨hc1_, hf1_⟩ := Kit.bcell hb1_; have z1_w : w.heap.size < w1_.heap.size := (by have := hb1_.size; first | omega | (simp at this; omega)); obtain ⟨g1_w_0, g1_w_1, g1_w_2, g1_w_3, g1_w_4, g1_w_5, g1_w_6, g1_w_7, g1_w_8, g1_w_9, g1_w_10, g1_w_11, g1_w_12, g1_w_13⟩ : w1_.cell? ⟨w.heap.size, 0, none⟩ = some (.int .i64 id) ∧ w1_.cell? ⟨w.heap.size, 1, none⟩ = some (.int .i64 role) ∧ w1_.cell? ⟨w.heap.size, 2, none⟩ = some (.int .i64 bar) ∧ w1_.cell? ⟨w.heap.size, 3, none⟩ = some (.int .i64 mark) ∧ w1_.cell? ⟨w.heap.size, 4, none⟩ = some (.int .i64 kind) ∧ w1_.cell? ⟨w.heap.size, 5, none⟩ = some (.int .i64 side) ∧ w1_.cell? ⟨w.heap.size, 6, none⟩ = some (.int .i64 dir) ∧ w1_.cell? ⟨w.heap.size, 7, none⟩ = some (.int .i64 level) ∧ w1_.cell? ⟨w.heap.size, 8, none⟩ = some (.int .i64 size) ∧ w1_.cell? ⟨w.heap.size, 9, none⟩ = some (.int .i64 wth) ∧ w1_.cell? ⟨w.heap.size, 10, none⟩ = some (.int .i64 fn) ∧ w1_.cell? ⟨w.heap.size, 11, none⟩ = some (.int .i64 fd) ∧ w1_.cell? ⟨w.heap.size, 12, none⟩ = some (.int .i64 tn) ∧ w1_.cell? ⟨w.heap.size, 13, none⟩ = some (.int .i64 td) := (by refine ⟨?_, ?_, ?_, ?_, ?_, ?_, ?_, ?_, ?_, ?_, ?_, ?_, ?_, ?_⟩ <;> (rw [hc1_ _ _ (by first | assumption | (simp; done) | (simp; omega) | omega)]; first | assumption | (simp [go_sem]; done) | (simp [go_sem, *]; done))); clear hc1_ hf1_; clear hb1_ hp1_)
  (go_wp2_with (fail); refine (C2.out _).mono ?_; rintro e w2_ ⟨rfl, hb2_⟩; have hp2_ : Below w1_.heap.size w1_ w2_ := Below.trans (by exact Kit.gr) (hb2_.mono (by first | assumption | (simp; done) | (simp; omega) | omega)); have hw2_ : Below w.heap.size w w2_ := hw1_.trans (hp2_.mono hw1_.size); have z2_w : w.heap.size < w2_.heap.size := Nat.lt_of_lt_of_le z1_w hp2_.size; have g2_w_0 := Kit.ck hp2_ g1_w_0 z1_w; have g2_w_1 := Kit.ck hp2_ g1_w_1 z1_w; have g2_w_2 := Kit.ck hp2_ g1_w_2 z1_w; have g2_w_3 := Kit.ck hp2_ g1_w_3 z1_w; have g2_w_4 := Kit.ck hp2_ g1_w_4 z1_w; have g2_w_5 := Kit.ck hp2_ g1_w_5 z1_w; have g2_w_6 := Kit.ck hp2_ g1_w_6 z1_w; have g2_w_7 := Kit.ck hp2_ g1_w_7 z1_w; have g2_w_8 := Kit.ck hp2_ g1_w_8 z1_w; have g2_w_9 := Kit.ck hp2_ g1_w_9 z1_w; have g2_w_10 := Kit.ck hp2_ g1_w_10 z1_w; have g2_w_11 := Kit.ck hp2_ g1_w_11 z1_w; have g2_w_12 := Kit.ck hp2_ g1_w_12 z1_w; have g2_w_13 := Kit.ck hp2_ g1_w_13 z1_w; clear z1_w g1_w_0 g1_w_1 g1_w_2 g1_w_3 g1_w_4 g1_w_5 g1_w_6 g1_w_7 g1_w_8 g1_w_9 g1_w_10 g1_w_11 g1_w_12 g1_w_13 hw1_ hb2_ hp2_)
  (go_wp2_with (fail); refine (C3.out _).mono ?_; rintro e w3_ ⟨rfl, hb3_⟩; have hp3_ : Below w2_.heap.size w2_ w3_ := Below.trans (by exact Kit.gr) (hb3_.mono (by first | assumption | (simp; done) | (simp; omega) | omega)); have hw3_ : Below w.heap.size w w3_ := hw2_.trans (hp3_.mono hw2_.size); have z3_w : w.heap.size < w3_.heap.size := Nat.lt_of_lt_of_le z2_w hp3_.size; have g3_w_0 := Kit.ck hp3_ g2_w_0 z2_w; have g3_w_1 := Kit.ck hp3_ g2_w_1 z2_w; have g3_w_2 := Kit.ck hp3_ g2_w_2 z2_w; have g3_w_3 := Kit.ck hp3_ g2_w_3 z2_w; have g3_w_4 := Kit.ck hp3_ g2_w_4 z2_w; have g3_w_5 := Kit.ck hp3_ g2_w_5 z2_w; have g3_w_6 := Kit.ck hp3_ g2_w_6 z2_w; have g3_w_7 := Kit.ck hp3_ g2_w_7 z2_w; have g3_w_8 := Kit.ck hp3_ g2_w_8 z2_w; have g3_w_9 := Kit.ck hp3_ g2_w_9 z2_w; have g3_w_10 := Kit.ck hp3_ g2_w_10 z2_w; have g3_w_11 := Kit.ck hp3_ g2_w_11 z2_w; have g3_w_12 := Kit.ck hp3_ g2_w_12 z2_w; have g3_w_13 := Kit.ck hp3_ g2_w_13 z2_w; clear z2_w g2_w_0 g2_w_1 g2_w_2 g2_w_3 g2_w_4 g2_w_5 g2_w_6 g2_w_7 g2_w_8 g2_w_9 g2_w_10 g2_w_11 g2_w_12 g2_w_13 hw2_ hb3_ hp3_)
  go_wp2
  go_ret
  exact ⟨rfl, by exact Kit.gr⟩
 ·(try simp only [Bool.and_self])
  go_enter Tryz.func160, Tryz.ntmps160
  skip
  (go_wp2_with (fail); refine (C1.out _).mono ?_; rintro e w1_ ⟨rfl, hb1_⟩; have hp1_ : Below w.heap.size w w1_ := Below.trans (by exact Kit.gr) (hb1_.mono (by first | assumption | (simp; done) | (simp; omega) | omega)); have hw1_ : Below w.heap.size w w1_ := hp1_; obtain ⟨hc1_, hf1_⟩ := Kit.bcell hb1_; have z1_w : w.heap.size < w1_.heap.size := (by have := hb1_.size; first | omega | (simp at this; omega)); obtain ⟨g1_w_0, g1_w_1, g1_w_2, g1_w_3, g1_w_4, g1_w_5, g1_w_6, g1_w_7, g1_w_8, g1_w_9, g1_w_10, g1_w_11, g1_w_12, g1_w_13⟩ : w1_.cell? ⟨w.heap.size, 0, none⟩ = some (.int .i64 id) ∧ w1_.cell? ⟨w.heap.size, 1, none⟩ = some (.int .i64 role) ∧ w1_.cell? ⟨w.heap.size, 2, none⟩ = some (.int .i64 bar) ∧ w1_.cell? ⟨w.heap.size, 3, none⟩ = some (.int .i64 mark) ∧ w1_.cell? ⟨w.heap.size, 4, none⟩ = some (.int .i64 kind) ∧ w1_.cell? ⟨w.heap.size, 5, none⟩ = some (.int .i64 side) ∧ w1_.cell? ⟨w.heap.size, 6, none⟩ = some (.int .i64 dir) ∧ w1_.cell? ⟨w.heap.size, 7, none⟩ = some (.int .i64 level) ∧ w1_.cell? ⟨w.heap.size, 8, none⟩ = some (.int .i64 size) ∧ w1_.cell? ⟨w.heap.size, 9, none⟩ = some (.int .i64 wth) ∧ w1_.cell? ⟨w.heap.size, 10, none⟩ = some (.int .i64 fn) ∧ w1_.cell? ⟨w.heap.size, 11, none⟩ = some (.int .i64 fd) ∧ w1_.cell? ⟨w.heap.size, 12, none⟩ = some (.int .i64 tn) ∧ w1_.cell? ⟨w.heap.size, 13, none⟩ = some (.int .i64 td) := (by refine ⟨?_, ?_, ?_, ?_, ?_, ?_, ?_, ?_, ?_, ?_, ?_, ?_, ?_, ?_⟩ <;> (rw [hc1_ _ _ (by first | assumption | (simp; done) | (simp; omega) | omega)]; first | assumption | (simp [go_sem]; done) | (simp [go_sem, *]; done))); clear hc1_ hf1_; clear hb1_ hp1_)
  (go_wp2_with (fail); refine (C2.out _).mono ?_; rintro e w2_ ⟨rfl, hb2_⟩; have hp2_ : Below w1_.heap.size w1_ w2_ := Below.trans (by exact Kit.gr) (hb2_.mono (by first | assumption | (simp; done) | (simp; omega) | omega)); have hw2_ : Below w.heap.size w w2_ := hw1_.trans (hp2_.mono hw1_.size); have z2_w : w.heap.size < w2_.heap.size := Nat.lt_of_lt_of_le z1_w hp2_.size; have g2_w_0 := Kit.ck hp2_ g1_w_0 z1_w; have g2_w_1 := Kit.ck hp2_ g1_w_1 z1_w; have g2_w_2 := Kit.ck hp2_ g1_w_2 z1_w; have g2_w_3 := Kit.ck hp2_ g1_w_3 z1_w; have g2_w_4 := Kit.ck hp2_ g1_w_4 z1_w; have g2_w_5 := Kit.ck hp2_ g1_w_5 z1_w; have g2_w_6 := Kit.ck hp2_ g1_w_6 z1_w; have g2_w_7 := Kit.ck hp2_ g1_w_7 z1_w; have g2_w_8 := Kit.ck hp2_ g1_w_8 z1_w; have g2_w_9 := Kit.ck hp2_ g1_w_9 z1_w; have g2_w_10 := Kit.ck hp2_ g1_w_10 z1_w; have g2_w_11 := Kit.ck hp2_ g1_w_11 z1_w; have g2_w_12 := Kit.ck hp2_ g1_w_12 z1_w; have g2_w_13 := Kit.ck hp2_ g1_w_13 z1_w; clear z1_w g1_w_0 g1_w_1 g1_w_2 g1_w_3 g1_w_4 g1_w_5 g1_w_6 g1_w_7 g1_w_8 g1_w_9 g1_w_10 g1_w_11 g1_w_12 g1_w_13 hw1_ hb2_ hp2_)
  (go_wp2_with (fail); refine (C3.out _).mono ?_; rintro e w3_ ⟨rfl, hb3_⟩; have hp3_ : Below w2_.heap.size w2_ w3_ := Below.trans (by exact Kit.gr) (hb3_.mono (by first | assumption | (simp; done) | (simp; omega) | omega)); have hw3_ : Below w.heap.size w w3_ := hw2_.trans (hp3_.mono hw2_.size); have z3_w : w.heap.size < w3_.heap.size := Nat.lt_of_lt_of_le z2_w hp3_.size; have g3_w_0 := Kit.ck hp3_ g2_w_0 z2_w; have g3_w_1 := Kit.ck hp3_ g2_w_1 z2_w; have g3_w_2 := Kit.ck hp3_ g2_w_2 z2_w; have g3_w_3 := Kit.ck hp3_ g2_w_3 z2_w; have g3_w_4 := Kit.ck hp3_ g2_w_4 z2_w; have g3_w_5 := Kit.ck hp3_ g2_w_5 z2_w; have g3_w_6 := Kit.ck hp3_ g2_w_6 z2_w; have g3_w_7 := Kit.ck hp3_ g2_w_7 z2_w; have g3_w_8 := Kit.ck hp3_ g2_w_8 z2_w; have g3_w_9 := Kit.ck hp3_ g2_w_9 z2_w; have g3_w_10 := Kit.ck hp3_ g2_w_10 z2_w; have g3_w_11 := Kit.ck hp3_ g2_w_11 z2_w; have g3_w_12 := Kit.ck hp3_ g2_w_12 z2_w; have g3_w_13 := Kit.ck hp3_ g2_w_13 z2_w; clear z2_w g2_w_0 g2_w_1 g2_w_2 g2_w_3 g2_w_4 g2_w_5 g2_w_6 g2_w_7 g2_w_8 g2_w_9 g2_w_10 g2_w_11 g2_w_12 g2_w_13 hw2_ hb3_ hp3_)
  go_wp2
  go_ret
  exact ⟨rfl, by exact Kit.gr⟩
end Go.Proofs.YtedolbjgdedoaaaGreatDoor
