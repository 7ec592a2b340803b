/- Walks: the law IdentityWorks. -/
import Derived.Test.YtdaedjmkolcliaaJaG
namespace Go.Proofs.Ytdaedjmkolcliaa
set_option linter.unusedVariables false
set_option linter.unusedSimpArgs false
open Go.RowKit Go.Shelf

namespace Id
theorem aE_in {lim : Int} {L : List (List Sg)} (h : tE lim L = 0) {p q : Nat} (hp : p < L.length) (hq : q < L.length) : aE lim L p q = 0 := by
  unfold aE
  rw [if_pos h, if_pos]
  simp [inR, hp, hq]
theorem sm_wrk {lim : Int} {L : List (List Sg)} (h : tE lim L = 0) {p q : Nat} (hp : p < L.length) (hq : q < L.length) : smB lim L p q = decide (wrk L.length (gr lim L) p = wrk L.length (gr lim L) q) := by
  have h1 := wrk_iff (gr_comm lim L) hp hq
  have h2 := dst_back (g := gr lim L) (n := L.length) (gr_comm lim L) hp hq
  unfold smB
  rw [aE_in h hp hq]
  simp only [decide_true, Bool.true_and, Int.toNat_natCast]
  rw [decide_eq_decide]
  exact h2.symm.trans h1.symm
end Id
theorem id_sameW (lim : Int) (a : Option Addr) (L : List (List Id.Sg)) (c : Nat) (p q : Nat) (w : World) (hS : Id.Sls w a 14 Id.sgc L) (hl : L.length ≤ 1000000) (hl2 : ∀ x ∈ L, x.length ≤ 4611686018427387904) (h0 : Id.tE lim L = 0) (hp : p < L.length) (hq : q < L.length) :
    Calls Try.prog 18 #[.slice a L.length c, .int .i64 lim, .int .i64 (p : Int), .int .i64 (q : Int)] w fun e w' => Below w.heap.size w w' ∧ ∃ a' m' c', e = .returned (.tuple #[.slice a' m' c', .bool (decide (Id.wrk L.length (Id.gr lim L) p = Id.wrk L.length (Id.gr lim L) q)), .int .i64 0]) := by
  refine (id_same lim a L c p q w hS hl hl2).mono ?_
  rintro e w' ⟨hb, he⟩
  refine ⟨hb, ?_⟩
  rw [← Id.sm_wrk h0 hp hq]
  by_cases hs : Id.smB lim L p q = true
  · rw [if_pos hs] at he
    obtain ⟨a', c', rfl, _⟩ := he
    exact ⟨_, _, _, by rw [hs]⟩
  · rw [if_neg hs, Id.aE_in h0 hp hq] at he
    subst he
    exact ⟨_, _, _, by rw [Bool.not_eq_true _ |>.mp hs]⟩

set_option maxRecDepth 100000 in
set_option maxHeartbeats 8000000 in
theorem ja_works (lim : Int) (a : Option Addr) (L : List (List Id.Sg)) (c : Nat) (w : World) (hS : Id.Sls w a 14 Id.sgc L) (hl : L.length ≤ 4611686018427387904) (hl2 : ∀ x ∈ L, x.length ≤ 4611686018427387904) :
    Calls Try.prog 6 #[.slice a L.length c, .int .i64 lim] w fun e w' => e = .returned (.bool true) ∧ Below w.heap.size w w' := by
  have HS := Lib.hid hS
  have HL2 := Lib.hid hl2
  clear hS hl2
  have HSN := Lib.hid (fun W => ja_sane W)
  go_enter Try.func6, Try.ntmps6
  go_wp2_with fail
  refine (HSN.out _).mono ?_
  rintro _ x1 ⟨rfl, hb⟩
  have HB1 := Lib.hid hb
  clear hb
  go_wp2_with fail
  refine (ja_few a L c _ (HS.out.kept HB1.out (Nat.le_refl _)) hl HL2.out).mono ?_
  rintro _ w' ⟨rfl, rfl⟩
  rcases hf : Id.few L with _ | _
  · clear hf
    go_wp2
    go_ret
    exact ⟨rfl, HB1.out⟩
  have hl20 : L.length ≤ 20 := by
    unfold Id.few at hf
    simp only [Bool.and_eq_true, decide_eq_true_eq] at hf
    omega
  clear hf hl
  go_wp2_with fail
  refine (id_works lim a L c _ (HS.out.kept HB1.out (Nat.le_refl _)) (by omega) HL2.out).mono ?_
  rintro e x2 ⟨hb2, he2⟩
  have HB2 := Lib.hid (HB1.out.trans (hb2.mono HB1.out.size))
  clear hb2
  by_cases h0 : Id.tE lim L = 0
  · rw [if_pos h0] at he2
    obtain ⟨aV, cV, rfl, hsl⟩ := he2
    have HSL := Lib.hid hsl
    clear hsl
    have HSX := Lib.hid (HS.out.kept HB2.out (Nat.le_refl _))
    have HSM := Lib.hid (fun (W : World) (hb : Below x2.heap.size x2 W) (p q : Nat) (hp : p < L.length) (hq : q < L.length) => id_sameW lim a L c p q W (HSX.out.kept hb (Nat.le_refl _)) (by omega) HL2.out h0 hp hq)
    have HW1 := Lib.hid (fun (p : Nat) (hp : p < L.length) => (Id.wrk_ok (g := Id.gr lim L) hp).1)
    have HW2 := Lib.hid (fun (p : Nat) (hp : p < L.length) => Id.wrk_wrk (Id.gr_comm lim L) hp)
    clear h0
    generalize hn : L.length = n at HSL HSM HW1 HW2 hl20 ⊢
    clear hn
    generalize Id.gr lim L = g at HSL HSM HW1 HW2
    have HWC := Lib.hid (show ∀ k, k < n → (Id.wrks n g).getD k 0 = Id.wrk n g k from fun k hk => by simp [Id.wrks, List.getD, hk])
    generalize Id.wrks n g = V at HSL HWC
    generalize Id.wrk n g = f at HSM HW1 HW2 HWC
    go_wp2_with fail
    go_loopw [38] (fun v38 wr => ∃ k : Nat, v38 = .int .i64 k ∧ k ≤ n ∧ Hid (Below x2.heap.size x2 wr))
      (fun v38 _ => n - (intOf v38).toNat)
    case atStart => exact ⟨0, rfl, Nat.zero_le _, Below.refl _ _⟩
    case round =>
      obtain ⟨k, rfl, hk, HX⟩ := hrel
      rename World => wk
      by_cases hkn : k < n
      · obtain ⟨ads, rfl, hads, _⟩ := HSL.out.at hkn
        have HSC := Lib.hid (show ∀ r, r < n → ∀ W, Below x2.heap.size x2 W → W.cell? (ads.add r) = some (.int .i64 (f r : Nat)) from fun r hr W hb => by
          have h := (HSL.out.kept hb (Nat.le_refl _)).head hr (by omega)
          rw [Nat.mul_one] at h; rw [h]; simp only [Id.nc, HWC.out r hr])
        have hz := HX.out.size
        have e0 : ∀ z : Kit.Wd wk, z.val.cell? (ads.add k) = some (.int .i64 (f k : Nat)) := fun z => HSC.out k hkn _ (HX.out.trans (z.below.mono hz))
        have hx1 := HW1.out k hkn
        have e1 : ∀ z : Kit.Wd wk, z.val.cell? (ads.add (f k)) = some (.int .i64 (f k : Nat)) := fun z => by
          have h := HSC.out (f k) (by omega) _ (HX.out.trans (z.below.mono hz))
          rw [HW2.out k hkn] at h; exact h
        generalize hxx : f k = x at e0 e1 hx1
        have hxn : x < n := by omega
        have j1 : decide ((x : Int) < 0) = false := by simp
        have j2 : decide ((k : Int) < (x : Int)) = false := by simp; omega
        have j3 : decide (k < x) = false := by simp; omega
        have HXX := Lib.hid hxx
        clear hxx
        go_wp2_with fail
        (refine Kit.wp_region_cls (by kernel_rfl) (by kernel_rfl) ?_; (repeat (go_big_quiet_step (fail))); refine wpQuiet_nil ?_; intro z)
        have HZ := Lib.hid (HX.out.trans (z.below.mono hz))
        clear e0 e1 j1 j2 j3
        go_wp2_with fail
        go_loopw [70] (fun v70 wy => ∃ r : Nat, v70 = .int .i64 r ∧ r ≤ n ∧ Hid (Below x2.heap.size x2 wy))
          (fun v70 _ => n - (intOf v70).toNat)
        case atStart => exact ⟨0, rfl, Nat.zero_le _, HZ.out⟩
        case round =>
          obtain ⟨r, rfl, hr, HY⟩ := hrel
          rename World => wy
          by_cases hrn : r < n
          · go_wp2_with fail
            refine (HSM.out _ HY.out k r hkn hrn).mono ?_
            rintro _ w3 ⟨hb3, a3, m3, c3, rfl⟩
            have HB3 := Lib.hid (HY.out.trans (hb3.mono HY.out.size))
            clear hb3
            go_wp2_with fail
            refine (HSM.out _ HB3.out r k hrn hkn).mono ?_
            rintro _ w4 ⟨hb4, a4, m4, c4, rfl⟩
            have HB4 := Lib.hid (HB3.out.trans (hb4.mono HB3.out.size))
            clear hb4
            have hz4 := HB4.out.size
            have e0 : ∀ z : Kit.Wd w4, z.val.cell? (ads.add k) = some (.int .i64 (x : Nat)) := fun z => by
              have h := HSC.out k hkn _ (HB4.out.trans (z.below.mono hz4))
              rw [HXX.out] at h; exact h
            have e1 : ∀ z : Kit.Wd w4, z.val.cell? (ads.add r) = some (.int .i64 (f r : Nat)) := fun z => HSC.out r hrn _ (HB4.out.trans (z.below.mono hz4))
            rw [HXX.out]
            by_cases hkr : k = r
            · subst hkr
              rw [HXX.out] at e1 ⊢
              have d1 : decide (x = x) = true := by simp
              go_wp2_with fail
              (refine Kit.wp_region_cls (by kernel_rfl) (by kernel_rfl) ?_; (repeat (go_big_quiet_step (fail))); refine wpQuiet_nil ?_; intro z)
              have HZ4 := Lib.hid (HB4.out.trans (z.below.mono hz4))
              clear e0 e1
              go_wp2_with fail
              go_roundw
              case rel => exact ⟨k + 1, by go_num, by omega, HZ4.out⟩
              case measure => simp [intOf]; omega
            · generalize f r = y at e1 ⊢
              have i1 : ((k : Int) == (r : Int)) = false := by simp; omega
              have i2 : (k == r) = false := by simp; omega
              by_cases hxy : x = y
              · subst hxy
                have d1 : decide (x = x) = true := by simp
                go_wp2_with fail
                (refine Kit.wp_region_cls (by kernel_rfl) (by kernel_rfl) ?_; (repeat (go_big_quiet_step (fail))); refine wpQuiet_nil ?_; intro z)
                have HZ4 := Lib.hid (HB4.out.trans (z.below.mono hz4))
                clear e0 e1
                go_wp2_with fail
                go_roundw
                case rel => exact ⟨r + 1, by go_num, by omega, HZ4.out⟩
                case measure => simp [intOf]; omega
              · have d1 : decide (x = y) = false := by simp; omega
                have d2 : decide (y = x) = false := by simp; omega
                have d3 : ((x : Int) == (y : Int)) = false := by simp; omega
                have d4 : (x == y) = false := by simp; omega
                rw [d1, d2]
                go_wp2_with fail
                (refine Kit.wp_region_cls (by kernel_rfl) (by kernel_rfl) ?_; (repeat (go_big_quiet_step (fail))); refine wpQuiet_nil ?_; intro z)
                have HZ4 := Lib.hid (HB4.out.trans (z.below.mono hz4))
                clear e0 e1
                go_wp2_with fail
                go_roundw
                case rel => exact ⟨r + 1, by go_num, by omega, HZ4.out⟩
                case measure => simp [intOf]; omega
          · obtain rfl : r = n := by omega
            go_wp2_with fail
            go_roundw
            case rel => exact ⟨k + 1, by go_num, by omega, HY.out⟩
            case measure => simp [intOf]; omega
      · obtain rfl : k = n := by omega
        go_wp2
        go_ret
        exact ⟨rfl, HB2.out.trans (HX.out.mono HB2.out.size)⟩
  · rw [if_neg h0] at he2
    subst he2
    generalize Id.tE lim L = z at h0 ⊢
    have q1 : (z != 0) = true := by simpa using h0
    clear h0
    go_wp2
    go_ret
    exact ⟨rfl, HB2.out⟩
end Go.Proofs.Ytdaedjmkolcliaa
