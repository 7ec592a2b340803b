/- Walks: the reference of layer 12 (ratios). -/
import Derived.Test.YtdaedjmkolcliaaRa
import Derived.Test.YtdaedjmkolcliaaTmath
import Derived.Test.YtdaedjmkolcliaaKit
namespace Go.Proofs.Ytdaedjmkolcliaa
set_option linter.unusedVariables false
set_option linter.unusedSimpArgs false
open Go.RowKit

theorem ret_int {k : IntKind} {a b : Int} (h : a = b) : Ending.returned (.int k a) = .returned (.int k b) := by rw [h]

set_option maxHeartbeats 400000 in
theorem rq_divisor (a b : Int) (w : World) (ha : 0 ≤ a) (hb : 0 ≤ b) (a1 : a ≤ 2305843009213693952) (b1 : b ≤ 2305843009213693952) :
    Calls Try.prog 113 #[.int .i64 a, .int .i64 b] w fun e w' => e = .returned (.int .i64 (Tm.g2 a b)) ∧ w = w' := by
  go_enter Try.func113, Try.ntmps113
  go_wp2
  go_loop [0, 1, 5] (fun v0 v1 v5 => ∃ x y : Int, v0 = .int .i64 x ∧ v1 = .int .i64 y ∧ 0 ≤ x ∧ 0 ≤ y ∧ x ≤ 2305843009213693952 ∧ y ≤ 2305843009213693952 ∧ Hid (Tm.g2 x y = Tm.g2 a b)) (fun _ v1 _ => (intOf v1).natAbs)
  case atStart => exact ⟨a, b, rfl, rfl, ha, hb, a1, b1, rfl⟩
  case round =>
    obtain ⟨x, y, rfl, rfl, hx, hy, hx', hy', HG⟩ := hrel
    by_cases hz : 0 < y
    · have k1 := Int.tmod_nonneg y hx
      have k2 := Int.tmod_lt_of_pos x hz
      have k5 := Tm.tmod_lt x y (by omega)
      have hs := Tm.g2_step x y
      have HS := Lib.hid hs; clear hs
      have he : x % y = x.tmod y := (Int.tmod_eq_emod_of_nonneg hx).symm
      have HE := Lib.hid he; clear he
      go_wp2
      go_round
      case rel => exact ⟨_, _, rfl, rfl, by omega, by first | omega | (rw [HE.out]; omega), by omega, by first | omega | (rw [HE.out]; omega), by first | (rw [HE.out]; exact HS.out.trans HG.out) | exact HS.out.trans HG.out⟩
      case measure => simp only [intOf]; first | exact k5 | (rw [HE.out]; exact k5)
    · go_wp2
      go_ret
      refine ⟨ret_int ?_, rfl⟩
      obtain rfl : y = 0 := by omega
      have := HG.out
      rw [Tm.g2_zero] at this
      omega
theorem rq_size (n : Int) (w : World) (h1 : -4611686018427387904 ≤ n) (h2 : n ≤ 4611686018427387904) : Calls Try.prog 114 #[.int .i64 n] w fun e w' => e = .returned (.int .i64 (n.natAbs : Int)) ∧ w = w' := by
  go_enter Try.func114, Try.ntmps114
  go_wp2
  all_goals go_ret
  all_goals exact ⟨ret_int (by omega), rfl⟩

namespace Rq
theorem ok_g2 (n d : Int) : Ra.ok n d = (decide (1 ≤ d) && decide (d ≤ 1073741824) && decide (-1073741824 ≤ n) && decide (n ≤ 1073741824) && (Tm.g2 (n.natAbs : Int) d == 1)) := by
  rw [Bool.eq_iff_iff, Ra.ok_iff]
  simp only [Bool.and_eq_true, decide_eq_true_iff, beq_iff_eq, Tm.g2_def, Int.natAbs_natCast]
  omega
end Rq
set_option maxRecDepth 100000 in
set_option maxHeartbeats 1000000 in
theorem rq_valid (n d : Int) (w : World) : Calls Try.prog 106 #[Ra.V n d] w fun e w' => e = .returned (.bool (Ra.ok n d)) ∧ Below w.heap.size w w' := by
  rw [Rq.ok_g2]
  rcases b1 : decide (1 ≤ d) with _ | _
  · go_enter Try.func106, Try.ntmps106
    go_wp2
    go_quiet (fail)
    go_wp2
    go_ret
    exact ⟨rfl, by (repeat' first | (with_reducible first | exact Below.refl _ _ | assumption | refine Kit.below_drewN ?_ _ | refine Below.drew ?_ | refine Below.alloc ?_ ?_ _ | refine Below.setCell ?_ ?_ _ | exact Nat.le_refl _) | omega | (simp; omega) | (simp; done) | (apply Below.size; assumption))⟩
  rcases b2 : decide (d ≤ 1073741824) with _ | _
  · go_enter Try.func106, Try.ntmps106
    go_wp2
    go_quiet (fail)
    go_wp2
    go_ret
    exact ⟨rfl, by (repeat' first | (with_reducible first | exact Below.refl _ _ | assumption | refine Kit.below_drewN ?_ _ | refine Below.drew ?_ | refine Below.alloc ?_ ?_ _ | refine Below.setCell ?_ ?_ _ | exact Nat.le_refl _) | omega | (simp; omega) | (simp; done) | (apply Below.size; assumption))⟩
  rcases b3 : decide (-1073741824 ≤ n) with _ | _
  · go_enter Try.func106, Try.ntmps106
    go_wp2
    go_quiet (fail)
    go_wp2
    go_ret
    exact ⟨rfl, by (repeat' first | (with_reducible first | exact Below.refl _ _ | assumption | refine Kit.below_drewN ?_ _ | refine Below.drew ?_ | refine Below.alloc ?_ ?_ _ | refine Below.setCell ?_ ?_ _ | exact Nat.le_refl _) | omega | (simp; omega) | (simp; done) | (apply Below.size; assumption))⟩
  rcases b4 : decide (n ≤ 1073741824) with _ | _
  · go_enter Try.func106, Try.ntmps106
    go_wp2
    go_quiet (fail)
    go_wp2
    go_ret
    exact ⟨rfl, by (repeat' first | (with_reducible first | exact Below.refl _ _ | assumption | refine Kit.below_drewN ?_ _ | refine Below.drew ?_ | refine Below.alloc ?_ ?_ _ | refine Below.setCell ?_ ?_ _ | exact Nat.le_refl _) | omega | (simp; omega) | (simp; done) | (apply Below.size; assumption))⟩
  have h1 := of_decide_eq_true b1
  have h2 := of_decide_eq_true b2
  have h3 := of_decide_eq_true b3
  have h4 := of_decide_eq_true b4
  have c1 := Lib.hid (fun W => (rq_size n W (by omega) (by omega)).mono (fun e w' h => (⟨h.1, h.2 ▸ Below.refl _ _⟩ : e = .returned (.int .i64 (n.natAbs : Int)) ∧ Below W.heap.size W w')))
  have c2 := Lib.hid (fun W => (rq_divisor (n.natAbs : Int) d W (by omega) (by omega) (by omega) (by omega)).mono (fun e w' h => (⟨h.1, h.2 ▸ Below.refl _ _⟩ : e = .returned (.int .i64 (Tm.g2 (n.natAbs : Int) d)) ∧ Below W.heap.size W w')))
  rcases b5 : (Tm.g2 (n.natAbs : Int) d == 1) with _ | _
  · generalize Tm.g2 (n.natAbs : Int) d = g at *
    generalize ((n.natAbs : Nat) : Int) = m at *
    go_enter Try.func106, Try.ntmps106
    go_wp2
    (refine Kit.wp_name ?_; intro W1 hW1_; have bW1_ : Below w.heap.size w W1 := (by rw [hW1_]; (repeat' first | (with_reducible first | exact Below.refl _ _ | assumption | refine Kit.below_drewN ?_ _ | refine Below.drew ?_ | refine Below.alloc ?_ ?_ _ | refine Below.setCell ?_ ?_ _ | exact Nat.le_refl _) | omega | (simp; omega) | (simp; done) | (apply Below.size; assumption))); have kW1_w_0 : ∀ x : Kit.Wd W1, x.val.cell? ⟨w.heap.size, 0, none⟩ = some (.int .i64 n) := fun x => x.cell (by rw [hW1_]; first | assumption | (simp [go_sem]; done) | (simp [go_sem, *]; done)) (by rw [hW1_]; first | assumption | (simp; done) | (simp; omega)); have kW1_w_1 : ∀ x : Kit.Wd W1, x.val.cell? ⟨w.heap.size, 1, none⟩ = some (.int .i64 d) := fun x => x.cell (by rw [hW1_]; first | assumption | (simp [go_sem]; done) | (simp [go_sem, *]; done)) (by rw [hW1_]; first | assumption | (simp; done) | (simp; omega)); have HW1_ := Lib.hid hW1_; clear hW1_; refine Kit.wp_region_cls (by kernel_rfl) (by kernel_rfl) ?_; (repeat (go_big_quiet_step (first | (with_reducible exact Kit.calls_cls _ (c1.out _)) | (with_reducible exact Kit.calls_cls _ (c2.out _))))); refine wpQuiet_nil ?_; intro x; have bx_ : Below w.heap.size w x.val := bW1_.trans (x.below.mono bW1_.size))
    go_wp2
    go_ret
    exact ⟨rfl, bx_⟩
  · generalize Tm.g2 (n.natAbs : Int) d = g at *
    generalize ((n.natAbs : Nat) : Int) = m at *
    go_enter Try.func106, Try.ntmps106
    go_wp2
    (refine Kit.wp_name ?_; intro W1 hW1_; have bW1_ : Below w.heap.size w W1 := (by rw [hW1_]; (repeat' first | (with_reducible first | exact Below.refl _ _ | assumption | refine Kit.below_drewN ?_ _ | refine Below.drew ?_ | refine Below.alloc ?_ ?_ _ | refine Below.setCell ?_ ?_ _ | exact Nat.le_refl _) | omega | (simp; omega) | (simp; done) | (apply Below.size; assumption))); have kW1_w_0 : ∀ x : Kit.Wd W1, x.val.cell? ⟨w.heap.size, 0, none⟩ = some (.int .i64 n) := fun x => x.cell (by rw [hW1_]; first | assumption | (simp [go_sem]; done) | (simp [go_sem, *]; done)) (by rw [hW1_]; first | assumption | (simp; done) | (simp; omega)); have kW1_w_1 : ∀ x : Kit.Wd W1, x.val.cell? ⟨w.heap.size, 1, none⟩ = some (.int .i64 d) := fun x => x.cell (by rw [hW1_]; first | assumption | (simp [go_sem]; done) | (simp [go_sem, *]; done)) (by rw [hW1_]; first | assumption | (simp; done) | (simp; omega)); have HW1_ := Lib.hid hW1_; clear hW1_; refine Kit.wp_region_cls (by kernel_rfl) (by kernel_rfl) ?_; (repeat (go_big_quiet_step (first | (with_reducible exact Kit.calls_cls _ (c1.out _)) | (with_reducible exact Kit.calls_cls _ (c2.out _))))); refine wpQuiet_nil ?_; intro x; have bx_ : Below w.heap.size w x.val := bW1_.trans (x.below.mono bW1_.size))
    go_wp2
    go_ret
    exact ⟨rfl, bx_⟩
end Go.Proofs.Ytdaedjmkolcliaa
