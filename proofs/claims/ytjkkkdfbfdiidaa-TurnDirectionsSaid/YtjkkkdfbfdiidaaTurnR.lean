/- Walks: the reference of package turn: divisors, lowest terms, which turns are valid. -/
import Derived.Test.YtjkkkdfbfdiidaaTurnA
import Derived.Test.YtjkkkdfbfdiidaaKitc
namespace Go.Proofs.Ytjkkkdfbfdiidaa
set_option linter.unusedVariables false
set_option linter.unusedSimpArgs false
open Go.RowKit

theorem r_abs (n : Int) (w : World) (h : Tm.Mod n) : Calls Try.prog 27 #[.int .i64 n] w fun e w' => e = .returned (.int .i64 (n.natAbs : Int)) ∧ w' = w := by
  have h1 := h.lo; have h2 := h.hi
  clear h
  go_enter Try.func27, Try.ntmps27
  go_wp2
  all_goals go_ret
  all_goals exact ⟨ret_int (by omega), rfl⟩

set_option maxHeartbeats 400000 in
theorem r_common (a b : Int) (w : World) (ha : 0 ≤ a) (hb : 0 ≤ b) (ha' : Tm.Mod a) (hb' : Tm.Mod b) :
    Calls Try.prog 26 #[.int .i64 a, .int .i64 b] w fun e w' => e = .returned (.int .i64 (Tm.g2 a b)) ∧ w' = w := by
  have a1 := ha'.hi; have b1 := hb'.hi
  clear ha' hb'
  go_enter Try.func26, Try.ntmps26
  go_wp2
  go_loop [0, 1, 5] (fun v0 v1 v5 => ∃ x y : Int, v0 = .int .i64 x ∧ v1 = .int .i64 y ∧ 0 ≤ x ∧ 0 ≤ y ∧ x ≤ 2305843009213693952 ∧ y ≤ 2305843009213693952 ∧ Hid (Tm.g2 x y = Tm.g2 a b)) (fun _ v1 _ => (intOf v1).natAbs)
  case atStart => exact ⟨a, b, rfl, rfl, ha, hb, a1, b1, rfl⟩
  case round =>
    obtain ⟨x, y, rfl, rfl, hx, hy, hx', hy', HG⟩ := hrel
    by_cases hz : 0 < y
    · have k1 := Int.tmod_nonneg y hx
      have k2 := Int.tmod_lt_of_pos x hz
      have k5 := Tm.tmod_lt x y (by omega)
      have hs := Tm.g2_step x y
      have HS := Lib.hid hs; clear hs
      have he : x % y = x.tmod y := (Int.tmod_eq_emod_of_nonneg hx).symm
      have HE := Lib.hid he; clear he
      go_wp2
      go_round
      case rel => exact ⟨_, _, rfl, rfl, by omega, by first | omega | (rw [HE.out]; omega), by omega, by first | omega | (rw [HE.out]; omega), by first | (rw [HE.out]; exact HS.out.trans HG.out) | exact HS.out.trans HG.out⟩
      case measure => simp only [intOf]; first | exact k5 | (rw [HE.out]; exact k5)
    · go_wp2
      go_ret
      refine ⟨ret_int ?_, rfl⟩
      obtain rfl : y = 0 := by omega
      have := HG.out
      rw [Tm.g2_zero] at this
      omega

theorem natAbs_mod {n : Int} (h : Tm.Mod n) : Tm.Mod (n.natAbs : Int) := by unfold Tm.Mod at *; omega
theorem g2_abs2 (a b : Int) : Tm.g2 (a.natAbs : Int) (b.natAbs : Int) = Tm.g2 a b := by simp [Tm.g2_def]

set_option maxHeartbeats 400000 in
theorem r_reduced_d (a b c d : Int) (w : World) (ha : Tm.Mod a) (hb : Tm.Mod b) (hc : Tm.Mod c) (hc0 : 0 ≤ c) (hg : 1 ≤ d) (HD : Hid (Tm.g3 a b c = d)) :
    Calls Try.prog 25 #[.int .i64 a, .int .i64 b, .int .i64 c] w fun e w' =>
      e = .returned (.agg #[.int .i64 (a.tdiv d), .int .i64 (b.tdiv d), .int .i64 (c.tdiv d)]) ∧ Below w.heap.size w w' := by
  have k1 := (Tm.tdiv_mod a d ha).lo; have k2 := (Tm.tdiv_mod a d ha).hi
  have k3 := (Tm.tdiv_mod b d hb).lo; have k4 := (Tm.tdiv_mod b d hb).hi
  have k5 := (Tm.tdiv_mod c d hc).lo; have k6 := (Tm.tdiv_mod c d hc).hi
  have k8 := (Tm.g3_mod a b c ha hb hc).hi
  rw [HD.out] at k8
  have hm := Tm.g2_le a b ha hb
  have hn := Tm.g2_nonneg a b
  have HM := Lib.hid hm; clear hm
  have c1 := r_common (a.natAbs : Int) (b.natAbs : Int)
  rw [g2_abs2] at c1
  have c2 := r_common (Tm.g2 a b) c
  have e3 : Tm.g2 (Tm.g2 a b) c = d := HD.out
  rw [e3] at c2
  clear e3
  have c1 := Lib.hid c1
  have c2 := Lib.hid c2
  go_enter Try.func25, Try.ntmps25
  go_wp2_with fail
  refine (r_abs a _ ha).mono ?_
  rintro e w' ⟨rfl, rfl⟩
  go_wp2_with fail
  refine (r_abs b _ hb).mono ?_
  rintro e w' ⟨rfl, rfl⟩
  go_wp2_with fail
  refine (c1.out _ (by omega) (by omega) (natAbs_mod ha) (natAbs_mod hb)).mono ?_
  rintro e w' ⟨rfl, rfl⟩
  go_wp2_with fail
  refine (c2.out _ hn hc0 HM.out hc).mono ?_
  rintro e w' ⟨rfl, rfl⟩
  go_wp2
  (refine Kit.wp_region_drew_tail 10 (by kernel_rfl) (by kernel_rfl) ?_; simp only [List.take_succ_cons, List.take_zero, List.drop_succ_cons, List.drop_zero]; (repeat (go_big_quiet_step (fail))); refine wpQuiet_nil ?_; intro _ hw'; obtain ⟨nq, hw''⟩ := hw'; subst hw'')
  go_wp2
  (refine bodyPost_ret (by simp [results, Try.results25, go_sem, Kit.cell_set]; try rfl) rfl ?_)
  exact ⟨rfl, by (repeat' (first | (with_reducible exact Below.refl _ _) | (with_reducible assumption) | (with_reducible refine Kit.below_drewN ?_ _) | (with_reducible refine Below.drew ?_) | (with_reducible refine Below.alloc ?_ ?_ _) | (with_reducible refine Below.setCell ?_ ?_ _) | (with_reducible exact Nat.le_refl _) | omega | (simp; omega) | (simp; done) | (apply Below.size; assumption)))⟩

/-- What the reference's Check says of numbers. -/
def RChk (a b c : Int) (r : Int) (w : World) : Prop := Calls Try.prog 15 #[.agg #[.int .i64 a, .int .i64 b, .int .i64 c]] w fun e w' => e = .returned (.int .i64 r) ∧ Below w.heap.size w w'

set_option maxHeartbeats 1000000 in
theorem r_check_1 (a b c : Int) (w : World) (h1 : c < 1) : RChk a b c 140 w := by
  have d1 : decide (c < 1) = true := by simp; omega
  unfold RChk
  go_enter Try.func15, Try.ntmps15
  go_wp2
  go_ret
  exact ⟨rfl, by (repeat' (first | (with_reducible exact Below.refl _ _) | (with_reducible assumption) | (with_reducible refine Kit.below_drewN ?_ _) | (with_reducible refine Below.drew ?_) | (with_reducible refine Below.alloc ?_ ?_ _) | (with_reducible refine Below.setCell ?_ ?_ _) | (with_reducible exact Nat.le_refl _) | omega | (simp; omega) | (simp; done) | (apply Below.size; assumption)))⟩
set_option maxHeartbeats 1000000 in
theorem r_check_2 (a b c : Int) (w : World) (h1 : 1 ≤ c) (h2 : 32768 < c) : RChk a b c 140 w := by
  have d1 : decide (c < 1) = false := by simp; omega
  have d2 : decide (32768 < c) = true := by simp; omega
  unfold RChk
  go_enter Try.func15, Try.ntmps15
  go_wp2
  go_ret
  exact ⟨rfl, by (repeat' (first | (with_reducible exact Below.refl _ _) | (with_reducible assumption) | (with_reducible refine Kit.below_drewN ?_ _) | (with_reducible refine Below.drew ?_) | (with_reducible refine Below.alloc ?_ ?_ _) | (with_reducible refine Below.setCell ?_ ?_ _) | (with_reducible exact Nat.le_refl _) | omega | (simp; omega) | (simp; done) | (apply Below.size; assumption)))⟩
set_option maxHeartbeats 1000000 in
theorem r_check_3 (a b c : Int) (w : World) (h1 : 1 ≤ c) (h2 : c ≤ 32768) (h3 : a < -c) : RChk a b c 140 w := by
  have d1 : decide (c < 1) = false := by simp; omega
  have d2 : decide (32768 < c) = false := by simp; omega
  have d3 : decide (a < -c) = true := by simp; omega
  unfold RChk
  go_enter Try.func15, Try.ntmps15
  go_wp2
  go_ret
  exact ⟨rfl, by (repeat' (first | (with_reducible exact Below.refl _ _) | (with_reducible assumption) | (with_reducible refine Kit.below_drewN ?_ _) | (with_reducible refine Below.drew ?_) | (with_reducible refine Below.alloc ?_ ?_ _) | (with_reducible refine Below.setCell ?_ ?_ _) | (with_reducible exact Nat.le_refl _) | omega | (simp; omega) | (simp; done) | (apply Below.size; assumption)))⟩
set_option maxHeartbeats 1000000 in
theorem r_check_4 (a b c : Int) (w : World) (h1 : 1 ≤ c) (h2 : c ≤ 32768) (h3 : -c ≤ a) (h4 : c < a) : RChk a b c 140 w := by
  have d1 : decide (c < 1) = false := by simp; omega
  have d2 : decide (32768 < c) = false := by simp; omega
  have d3 : decide (a < -c) = false := by simp; omega
  have d4 : decide (c < a) = true := by simp; omega
  unfold RChk
  go_enter Try.func15, Try.ntmps15
  go_wp2
  go_ret
  exact ⟨rfl, by (repeat' (first | (with_reducible exact Below.refl _ _) | (with_reducible assumption) | (with_reducible refine Kit.below_drewN ?_ _) | (with_reducible refine Below.drew ?_) | (with_reducible refine Below.alloc ?_ ?_ _) | (with_reducible refine Below.setCell ?_ ?_ _) | (with_reducible exact Nat.le_refl _) | omega | (simp; omega) | (simp; done) | (apply Below.size; assumption)))⟩
set_option maxHeartbeats 1000000 in
theorem r_check_5 (a b c : Int) (w : World) (h1 : 1 ≤ c) (h2 : c ≤ 32768) (h3 : -c ≤ a) (h4 : a ≤ c) (h5 : b < -c) : RChk a b c 140 w := by
  have d1 : decide (c < 1) = false := by simp; omega
  have d2 : decide (32768 < c) = false := by simp; omega
  have d3 : decide (a < -c) = false := by simp; omega
  have d4 : decide (c < a) = false := by simp; omega
  have d5 : decide (b < -c) = true := by simp; omega
  unfold RChk
  go_enter Try.func15, Try.ntmps15
  go_wp2
  go_ret
  exact ⟨rfl, by (repeat' (first | (with_reducible exact Below.refl _ _) | (with_reducible assumption) | (with_reducible refine Kit.below_drewN ?_ _) | (with_reducible refine Below.drew ?_) | (with_reducible refine Below.alloc ?_ ?_ _) | (with_reducible refine Below.setCell ?_ ?_ _) | (with_reducible exact Nat.le_refl _) | omega | (simp; omega) | (simp; done) | (apply Below.size; assumption)))⟩
set_option maxHeartbeats 1000000 in
theorem r_check_6 (a b c : Int) (w : World) (h1 : 1 ≤ c) (h2 : c ≤ 32768) (h3 : -c ≤ a) (h4 : a ≤ c) (h5 : -c ≤ b) (h6 : c < b) : RChk a b c 140 w := by
  have d1 : decide (c < 1) = false := by simp; omega
  have d2 : decide (32768 < c) = false := by simp; omega
  have d3 : decide (a < -c) = false := by simp; omega
  have d4 : decide (c < a) = false := by simp; omega
  have d5 : decide (b < -c) = false := by simp; omega
  have d6 : decide (c < b) = true := by simp; omega
  unfold RChk
  go_enter Try.func15, Try.ntmps15
  go_wp2
  go_ret
  exact ⟨rfl, by (repeat' (first | (with_reducible exact Below.refl _ _) | (with_reducible assumption) | (with_reducible refine Kit.below_drewN ?_ _) | (with_reducible refine Below.drew ?_) | (with_reducible refine Below.alloc ?_ ?_ _) | (with_reducible refine Below.setCell ?_ ?_ _) | (with_reducible exact Nat.le_refl _) | omega | (simp; omega) | (simp; done) | (apply Below.size; assumption)))⟩

set_option maxHeartbeats 1000000 in
theorem r_check_7 (a b c : Int) (w : World) (h1 : 1 ≤ c) (h2 : c ≤ 32768) (h3 : -c ≤ a) (h4 : a ≤ c) (h5 : -c ≤ b) (h6 : b ≤ c) (h7 : (a * a + b * b != c * c) = true)
    (s1 : 0 ≤ a * a) (s2 : a * a ≤ 1073741824) (s3 : 0 ≤ b * b) (s4 : b * b ≤ 1073741824) (s5 : 0 ≤ c * c) (s6 : c * c ≤ 1073741824) : RChk a b c 140 w := by
  have d1 : decide (c < 1) = false := by simp; omega
  have d2 : decide (32768 < c) = false := by simp; omega
  have d3 : decide (a < -c) = false := by simp; omega
  have d4 : decide (c < a) = false := by simp; omega
  have d5 : decide (b < -c) = false := by simp; omega
  have d6 : decide (c < b) = false := by simp; omega
  unfold RChk
  go_enter Try.func15, Try.ntmps15
  go_wp2
  go_quiet (fail)
  go_wp2
  go_ret
  exact ⟨rfl, by (repeat' (first | (with_reducible exact Below.refl _ _) | (with_reducible assumption) | (with_reducible refine Kit.below_drewN ?_ _) | (with_reducible refine Below.drew ?_) | (with_reducible refine Below.alloc ?_ ?_ _) | (with_reducible refine Below.setCell ?_ ?_ _) | (with_reducible exact Nat.le_refl _) | omega | (simp; omega) | (simp; done) | (apply Below.size; assumption)))⟩
set_option maxHeartbeats 1000000 in
theorem r_check_8 (a b c d : Int) (x : Bool) (w : World) (h1 : 1 ≤ c) (h2 : c ≤ 32768) (h3 : -c ≤ a) (h4 : a ≤ c) (h5 : -c ≤ b) (h6 : b ≤ c) (h7 : (a * a + b * b != c * c) = false)
    (s1 : 0 ≤ a * a) (s2 : a * a ≤ 1073741824) (s3 : 0 ≤ b * b) (s4 : b * b ≤ 1073741824) (s5 : 0 ≤ c * c) (s6 : c * c ≤ 1073741824) (HD : Hid (Tm.g3 a b c = d)) (hx : (d != 1) = x) : RChk a b c (if x = true then 140 else 0) w := by
  have d1 : decide (c < 1) = false := by simp; omega
  have d2 : decide (32768 < c) = false := by simp; omega
  have d3 : decide (a < -c) = false := by simp; omega
  have d4 : decide (c < a) = false := by simp; omega
  have d5 : decide (b < -c) = false := by simp; omega
  have d6 : decide (c < b) = false := by simp; omega
  have ma : Tm.Mod a := by unfold Tm.Mod; omega
  have mb : Tm.Mod b := by unfold Tm.Mod; omega
  have mc : Tm.Mod c := by unfold Tm.Mod; omega
  have c1 := fun W => r_common (a.natAbs : Int) (b.natAbs : Int) W (by omega) (by omega) (natAbs_mod ma) (natAbs_mod mb)
  rw [g2_abs2] at c1
  have c2 := fun W => r_common (Tm.g2 a b) c W (Tm.g2_nonneg _ _) (by omega) (Tm.g2_le _ _ ma mb) mc
  have e3 : Tm.g2 (Tm.g2 a b) c = d := HD.out
  rw [e3] at c2
  clear e3
  have c3 := fun W => r_abs a W ma
  have c4 := fun W => r_abs b W mb
  have c1 := Lib.hid c1
  have c2 := Lib.hid c2
  have c3 := Lib.hid c3
  have c4 := Lib.hid c4
  clear ma mb mc
  unfold RChk
  cases x
  all_goals
    go_enter Try.func15, Try.ntmps15
    go_wp2
    go_quiet (first | with_reducible exact Calls.quiet_of_same (c3.out _) | with_reducible exact Calls.quiet_of_same (c4.out _) | with_reducible exact Calls.quiet_of_same (c1.out _) | with_reducible exact Calls.quiet_of_same (c2.out _))
    go_wp2
    go_ret
    exact ⟨rfl, by (repeat' (first | (with_reducible exact Below.refl _ _) | (with_reducible assumption) | (with_reducible refine Kit.below_drewN ?_ _) | (with_reducible refine Below.drew ?_) | (with_reducible refine Below.alloc ?_ ?_ _) | (with_reducible refine Below.setCell ?_ ?_ _) | (with_reducible exact Nat.le_refl _) | omega | (simp; omega) | (simp; done) | (apply Below.size; assumption)))⟩

theorem r_check (a b c : Int) (w : World) : RChk a b c (if Tm.vld a b c = true then 0 else 140) w := by
  by_cases h1 : c < 1
  · rw [if_neg (by rw [Tm.vld_iff]; omega)]; exact r_check_1 a b c w h1
  by_cases h2 : 32768 < c
  · rw [if_neg (by rw [Tm.vld_iff]; omega)]; exact r_check_2 a b c w (by omega) h2
  by_cases h3 : a < -c
  · rw [if_neg (by rw [Tm.vld_iff]; omega)]; exact r_check_3 a b c w (by omega) (by omega) h3
  by_cases h4 : c < a
  · rw [if_neg (by rw [Tm.vld_iff]; omega)]; exact r_check_4 a b c w (by omega) (by omega) (by omega) h4
  by_cases h3' : b < -c
  · rw [if_neg (by rw [Tm.vld_iff]; omega)]; exact r_check_5 a b c w (by omega) (by omega) (by omega) (by omega) h3'
  by_cases h4' : c < b
  · rw [if_neg (by rw [Tm.vld_iff]; omega)]; exact r_check_6 a b c w (by omega) (by omega) (by omega) (by omega) (by omega) h4'
  have sa := Tm.sq_bd a c (by omega) (by omega) (by omega) (by omega)
  have sb := Tm.sq_bd b c (by omega) (by omega) (by omega) (by omega)
  have sc := Tm.sq_bd c c (by omega) (by omega) (by omega) (by omega)
  by_cases h5 : a * a + b * b = c * c
  · have h := r_check_8 a b c _ _ w (by omega) (by omega) (by omega) (by omega) (by omega) (by omega) (by simpa using h5) sa.1 sa.2 sb.1 sb.2 sc.1 sc.2 rfl rfl
    have e : (if (Tm.g3 a b c != 1) = true then (140 : Int) else 0) = if Tm.vld a b c = true then 0 else 140 := by
      by_cases h6 : Tm.g3 a b c = 1
      · rw [if_neg (by simp [h6]), if_pos (by rw [Tm.vld_iff]; omega)]
      · rw [if_pos (by simpa using h6), if_neg (by rw [Tm.vld_iff]; omega)]
    rw [e] at h
    exact h
  · rw [if_neg (by rw [Tm.vld_iff]; omega)]
    exact r_check_7 a b c w (by omega) (by omega) (by omega) (by omega) (by omega) (by omega) (by simpa using h5) sa.1 sa.2 sb.1 sb.2 sc.1 sc.2
end Go.Proofs.Ytjkkkdfbfdiidaa
