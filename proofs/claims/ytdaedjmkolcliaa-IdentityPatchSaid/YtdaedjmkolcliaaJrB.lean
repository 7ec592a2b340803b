/- Walks: the reference of layer 36: Right, Check; of layer 45: before. -/
import Derived.Test.YtdaedjmkolcliaaJrA
import Derived.Test.YtdaedjmkolcliaaIdL
namespace Go.Proofs.Ytdaedjmkolcliaa
set_option linter.unusedVariables false
set_option linter.unusedSimpArgs false
open Go.RowKit Go.Shelf

set_option maxRecDepth 100000 in
set_option maxHeartbeats 4000000 in
theorem rx_right (a : Option Addr) (l : List Id.Sg) (c : Nat) (w : World) (hS : Tp.Sl w a l.length 14 (Id.sgc l)) (hl : l.length ≤ 4096) : Calls Try.prog 62 #[.slice a l.length c] w fun e w' => e = .returned (.bool (Id.vE (-1) l)) ∧ Below w.heap.size w w' := by
  have HS := Lib.hid hS
  have HF := Lib.hid (fun s W => rx_form s W)
  clear hS
  obtain ⟨r, hr⟩ : ∃ r, Id.vE (-1) l = r := ⟨_, rfl⟩
  rw [hr]
  have HRR := Lib.hid hr
  clear hr
  go_enter Try.func62, Try.ntmps62
  go_wp2
  go_loopw [3] (fun v3 wr => ∃ k : Nat, v3 = .int .i64 k ∧ k ≤ l.length ∧ Hid (r = Id.vE (Id.lastId l k) (l.drop k)) ∧ Hid (Below w.heap.size w wr))
    (fun v3 _ => l.length - (intOf v3).toNat)
  case atStart => exact ⟨0, rfl, Nat.zero_le _, Lib.hid HRR.out.symm, Below.refl _ _⟩
  case round =>
    obtain ⟨k, rfl, hk, HV, HB⟩ := hrel
    by_cases hlt : k < l.length
    · obtain ⟨ad, rfl, had, _⟩ := HS.out.at hlt
      have hz := HB.out.size
      have E := fun z : Kit.Wd wr => HS.out.kept (HB.out.trans (z.below.mono hz)) (Nat.le_refl _)
      (have e0 := fun z => (E z).head hlt (by omega); have e1 := fun z => (E z).field hlt (j := 1) (by omega) (by omega); have e2 := fun z => (E z).field hlt (j := 2) (by omega) (by omega); have e3 := fun z => (E z).field hlt (j := 3) (by omega) (by omega); have e4 := fun z => (E z).field hlt (j := 4) (by omega) (by omega); have e5 := fun z => (E z).field hlt (j := 5) (by omega) (by omega); have e6 := fun z => (E z).field hlt (j := 6) (by omega) (by omega); have e7 := fun z => (E z).field hlt (j := 7) (by omega) (by omega); have e8 := fun z => (E z).field hlt (j := 8) (by omega) (by omega); have e9 := fun z => (E z).field hlt (j := 9) (by omega) (by omega); have e10 := fun z => (E z).field hlt (j := 10) (by omega) (by omega); have e11 := fun z => (E z).field hlt (j := 11) (by omega) (by omega); have e12 := fun z => (E z).field hlt (j := 12) (by omega) (by omega); have e13 := fun z => (E z).field hlt (j := 13) (by omega) (by omega); obtain ⟨s, hs_⟩ : ∃ y, l.getD k default = y := ⟨_, rfl⟩; simp only [Id.sgc, hs_, Id.sgF] at e0 e1 e2 e3 e4 e5 e6 e7 e8 e9 e10 e11 e12 e13)
      have hV := HV.out
      rw [Tp.drop_cons l default k hlt] at hV
      have hnx : Id.lastId l (k + 1) = (l.getD k default).id := by simp [Id.lastId]
      have hpv : 0 < k → ∀ z : Kit.Wd wr, z.val.cell? (ad.add ((k - 1) * 14)) = some (.int .i64 (Id.lastId l k)) := fun hp z => by
        have := (E z).head (i := k - 1) (by omega) (by omega)
        rw [this]
        simp [Id.sgc, Id.sgF, Id.lastId, show ¬ k = 0 by omega]
      rw [hs_] at hV hnx
      have HV2 := Lib.hid (show r = (Id.form s && decide (Id.lastId l k < s.id) && Id.vE (Id.lastId l (k + 1)) (l.drop (k + 1))) by rw [hnx]; exact hV)
      clear E hV hs_ HV hnx
      have HFS := Lib.hid (fun W => HF.out s W)
      rcases hfm : Id.form s with _ | _
      · rw [hfm] at HFS
        clear hpv
        rcases Nat.eq_zero_or_pos k with rfl | hp
        · have a0 : ad.add (0 * 14) = ad := by simp [Addr.add]
          simp only [a0] at e0 e1 e2 e3 e4 e5 e6 e7 e8 e9 e10 e11 e12 e13
          clear a0
          go_wp2_with fail
          (refine Kit.wp_region_cls (by kernel_rfl) (by kernel_rfl) ?_; (repeat (go_big_quiet_step (exact Kit.calls_cls _ (HFS.out _)))); refine wpQuiet_nil ?_; intro z)
          have HZ := Lib.hid (HB.out.trans (z.below.mono hz))
          clear e0 e1 e2 e3 e4 e5 e6 e7 e8 e9 e10 e11 e12 e13
          go_wp2
          go_ret
          exact ⟨by rw [HV2.out, hfm]; rfl, HZ.out⟩
        go_wp2_with fail
        (refine Kit.wp_region_cls (by kernel_rfl) (by kernel_rfl) ?_; (repeat (go_big_quiet_step (exact Kit.calls_cls _ (HFS.out _)))); refine wpQuiet_nil ?_; intro z)
        have HZ := Lib.hid (HB.out.trans (z.below.mono hz))
        clear e0 e1 e2 e3 e4 e5 e6 e7 e8 e9 e10 e11 e12 e13
        go_wp2
        go_ret
        exact ⟨by rw [HV2.out, hfm]; rfl, HZ.out⟩
      rw [hfm] at HFS
      rcases Nat.eq_zero_or_pos k with rfl | hp
      · have HV3 := Lib.hid (show decide (Id.lastId l 0 < s.id) = true by
          have := (Tp.inb_iff s.id 0 1048576).1 (by simp only [Id.form, Bool.and_eq_true] at hfm; simp only [hfm])
          simp [Id.lastId]; omega)
        clear hpv
        have a0 : ad.add (0 * 14) = ad := by simp [Addr.add]
        simp only [a0] at e0 e1 e2 e3 e4 e5 e6 e7 e8 e9 e10 e11 e12 e13
        clear a0
        go_wp2_with fail
        (refine Kit.wp_region_cls (by kernel_rfl) (by kernel_rfl) ?_; (repeat (go_big_quiet_step (exact Kit.calls_cls _ (HFS.out _)))); refine wpQuiet_nil ?_; intro z)
        have HZ := Lib.hid (HB.out.trans (z.below.mono hz))
        clear e0 e1 e2 e3 e4 e5 e6 e7 e8 e9 e10 e11 e12 e13
        go_wp2_with fail
        go_roundw
        case rel => exact ⟨1, by go_num, by omega, Lib.hid (by rw [HV2.out, hfm, HV3.out]; rfl), HZ.out⟩
        case measure => simp [intOf]; omega
      have ep := hpv hp
      clear hpv
      have j1 : decide (0 < (k : Int)) = true := by simp; omega
      have j2 : decide (0 < k) = true := by simp; omega
      have hdd : decide (Id.lastId l k < s.id) = !decide (s.id ≤ Id.lastId l k) := by
        by_cases h : s.id ≤ Id.lastId l k
        · simp [h]
        · simp [h]; omega
      rw [hdd] at HV2
      clear hdd
      generalize Id.lastId l k = q at HV2 ep
      rcases hd : decide (s.id ≤ q) with _ | _
      · go_wp2_with fail
        (refine Kit.wp_region_cls (by kernel_rfl) (by kernel_rfl) ?_; (repeat (go_big_quiet_step (exact Kit.calls_cls _ (HFS.out _)))); refine wpQuiet_nil ?_; intro z)
        have HZ := Lib.hid (HB.out.trans (z.below.mono hz))
        clear e0 e1 e2 e3 e4 e5 e6 e7 e8 e9 e10 e11 e12 e13 ep
        go_wp2_with fail
        go_roundw
        case rel => exact ⟨k + 1, by go_num, by omega, Lib.hid (by rw [HV2.out, hfm, hd]; rfl), HZ.out⟩
        case measure => simp [intOf]; omega
      · go_wp2_with fail
        (refine Kit.wp_region_cls (by kernel_rfl) (by kernel_rfl) ?_; (repeat (go_big_quiet_step (exact Kit.calls_cls _ (HFS.out _)))); refine wpQuiet_nil ?_; intro z)
        have HZ := Lib.hid (HB.out.trans (z.below.mono hz))
        clear e0 e1 e2 e3 e4 e5 e6 e7 e8 e9 e10 e11 e12 e13 ep
        go_wp2
        go_ret
        exact ⟨by rw [HV2.out, hfm, hd]; rfl, HZ.out⟩
    · obtain rfl : k = l.length := by omega
      have hV := HV.out
      rw [List.drop_length] at hV
      have HV2 := Lib.hid hV
      clear hV HV
      go_wp2
      go_ret
      exact ⟨by rw [HV2.out]; rfl, HB.out⟩
set_option maxHeartbeats 1000000 in
theorem rx_check (a : Option Addr) (l : List Id.Sg) (c : Nat) (w : World) (hS : Tp.Sl w a l.length 14 (Id.sgc l)) (hl : l.length ≤ 4611686018427387904) : Calls Try.prog 34 #[.slice a l.length c] w fun e w' => e = .returned (.int .i64 (Id.chk l)) ∧ Below w.heap.size w w' := by
  have HS := Lib.hid hS
  clear hS
  unfold Id.chk
  by_cases h4 : 4096 < l.length
  · rw [if_pos h4]
    go_enter Try.func34, Try.ntmps34
    go_wp2
    go_ret
    exact ⟨rfl, Below.refl _ _⟩
  rw [if_neg h4]
  have HR := Lib.hid (fun W hS => rx_right a l c W hS (by omega))
  generalize Id.vE (-1) l = r at HR ⊢
  go_enter Try.func34, Try.ntmps34
  go_wp2_with fail
  refine (HR.out _ HS.out).mono ?_
  rintro _ w1 ⟨rfl, hb⟩
  have HB := Lib.hid hb
  clear hb
  rcases r with _ | _
  · go_wp2
    go_ret
    exact ⟨rfl, HB.out⟩
  · go_wp2
    go_ret
    exact ⟨rfl, HB.out⟩
set_option maxHeartbeats 4000000 in
/-- Does a sign come before another one? -/
theorem rx_before (a b : Id.Sg) (w : World) (ha : Id.form a = true) (hb : Id.form b = true) : Calls Try.prog 35 #[Id.sgV a, Id.sgV b] w fun e w' => e = .returned (.bool (decide (Id.lt a b))) ∧ Below w.heap.size w w' := by
  have h1 : Ra.ok a.fn a.fd = true := by
    simp only [Id.form, Id.fin, Bool.and_eq_true] at ha; simp only [ha]
  have h2 : Ra.ok b.fn b.fd = true := by
    simp only [Id.form, Id.fin, Bool.and_eq_true] at hb; simp only [hb]
  have c1 := fun W => rq_cmp a.fn a.fd b.fn b.fd W h1 h2
  clear h1 h2 ha hb
  rw [show decide (Id.lt a b) = decide (a.role < b.role ∨ a.role = b.role ∧ (a.bar < b.bar ∨ a.bar = b.bar ∧ (a.fn * b.fd < b.fn * a.fd ∨ a.fn * b.fd = b.fn * a.fd ∧ a.id < b.id))) from decide_eq_decide.2 Iff.rfl]
  by_cases g1 : a.role = b.role
  case neg =>
    have d1 : (a.role != b.role) = true := by simpa using g1
    have d2 : decide (a.role < b.role ∨ a.role = b.role ∧ (a.bar < b.bar ∨ a.bar = b.bar ∧ (a.fn * b.fd < b.fn * a.fd ∨ a.fn * b.fd = b.fn * a.fd ∧ a.id < b.id))) = decide (a.role < b.role) := decide_eq_decide.2 (by omega)
    rw [d2]
    clear c1 d2 g1
    go_enter Try.func35, Try.ntmps35
    go_wp2
    go_ret
    exact ⟨rfl, by (repeat' first | (with_reducible first | exact Below.refl _ _ | assumption | refine Kit.below_drewN ?_ _ | refine Below.drew ?_ | refine Below.alloc ?_ ?_ _ | refine Below.setCell ?_ ?_ _ | exact Nat.le_refl _) | omega | (simp; omega) | (simp; done) | (apply Below.size; assumption))⟩
  have d1 : (a.role != b.role) = false := by simpa using g1
  by_cases g2 : a.bar = b.bar
  case neg =>
    have d3 : (a.bar != b.bar) = true := by simpa using g2
    have d2 : decide (a.role < b.role ∨ a.role = b.role ∧ (a.bar < b.bar ∨ a.bar = b.bar ∧ (a.fn * b.fd < b.fn * a.fd ∨ a.fn * b.fd = b.fn * a.fd ∧ a.id < b.id))) = decide (a.bar < b.bar) := decide_eq_decide.2 (by omega)
    rw [d2]
    clear c1 d2 g1 g2
    go_enter Try.func35, Try.ntmps35
    go_wp2
    go_ret
    exact ⟨rfl, by (repeat' first | (with_reducible first | exact Below.refl _ _ | assumption | refine Kit.below_drewN ?_ _ | refine Below.drew ?_ | refine Below.alloc ?_ ?_ _ | refine Below.setCell ?_ ?_ _ | exact Nat.le_refl _) | omega | (simp; omega) | (simp; done) | (apply Below.size; assumption))⟩
  have d3 : (a.bar != b.bar) = false := by simpa using g2
  generalize a.fn * b.fd = x at *
  generalize b.fn * a.fd = y at *
  unfold Ra.sg at c1
  by_cases g3 : x = y
  case neg =>
    have d2 : decide (a.role < b.role ∨ a.role = b.role ∧ (a.bar < b.bar ∨ a.bar = b.bar ∧ (x < y ∨ x = y ∧ a.id < b.id))) = decide (x < y) := decide_eq_decide.2 (by omega)
    rw [d2]
    by_cases g4 : x < y
    · rw [if_pos g4] at c1
      rw [decide_eq_true g4]
      have C1 := Lib.hid c1
      clear c1 d2 g1 g2 g3 g4
      go_enter Try.func35, Try.ntmps35
      go_wp2_with fail
      refine (C1.out _ : Rq.CmpIs _ _ _ _ _ _ _).mono ?_
      rintro _ w1 ⟨rfl, hb⟩
      have HB := Lib.hid (show Below w.heap.size w w1 from (((Below.refl _ _).alloc (Nat.le_refl _) _).alloc (by simp) _).trans (hb.mono (by simp; omega)))
      clear hb
      go_wp2
      go_ret
      exact ⟨rfl, HB.out⟩
    · rw [if_neg g4, if_pos (by omega)] at c1
      rw [decide_eq_false g4]
      have C1 := Lib.hid c1
      clear c1 d2 g1 g2 g3 g4
      go_enter Try.func35, Try.ntmps35
      go_wp2_with fail
      refine (C1.out _ : Rq.CmpIs _ _ _ _ _ _ _).mono ?_
      rintro _ w1 ⟨rfl, hb⟩
      have HB := Lib.hid (show Below w.heap.size w w1 from (((Below.refl _ _).alloc (Nat.le_refl _) _).alloc (by simp) _).trans (hb.mono (by simp; omega)))
      clear hb
      go_wp2
      go_ret
      exact ⟨rfl, HB.out⟩
  subst g3
  have d2 : decide (a.role < b.role ∨ a.role = b.role ∧ (a.bar < b.bar ∨ a.bar = b.bar ∧ (x < x ∨ x = x ∧ a.id < b.id))) = decide (a.id < b.id) := decide_eq_decide.2 (by omega)
  rw [d2]
  rw [if_neg (by omega), if_neg (by omega)] at c1
  have C1 := Lib.hid c1
  clear c1 d2 g1 g2
  go_enter Try.func35, Try.ntmps35
  skip
  (go_wp2_with (fail); refine ((C1.out _ : Rq.CmpIs _ _ _ _ _ _ _)).mono ?_; rintro e w1_ ⟨rfl, hb1_⟩; have hp1_ : Below w.heap.size w w1_ := Below.trans (by (repeat' first | (with_reducible first | exact Below.refl _ _ | assumption | refine Kit.below_drewN ?_ _ | refine Below.drew ?_ | refine Below.alloc ?_ ?_ _ | refine Below.setCell ?_ ?_ _ | exact Nat.le_refl _) | omega | (simp; omega) | (simp; done) | (apply Below.size; assumption))) (hb1_.mono (by first | assumption | (simp; done) | (simp; omega) | omega)); have hw1_ : Below w.heap.size w w1_ := hp1_; obtain ⟨hc1_, hf1_⟩ := Kit.bcell hb1_; have z1_w : w.heap.size < w1_.heap.size := (by have := hb1_.size; first | omega | (simp at this; omega)); have g1_w_0 : w1_.cell? ⟨w.heap.size, 0, none⟩ = some (.int .i64 a.id) := (by rw [hc1_ _ _ (by first | assumption | (simp; done) | (simp; omega) | omega)]; first | assumption | (simp [go_sem]; done) | (simp [go_sem, *]; done)); have z1_w_1 : w.heap.size + 1 < w1_.heap.size := (by have := hb1_.size; first | omega | (simp at this; omega)); have g1_w_1_0 : w1_.cell? ⟨w.heap.size + 1, 0, none⟩ = some (.int .i64 b.id) := (by rw [hc1_ _ _ (by first | assumption | (simp; done) | (simp; omega) | omega)]; first | assumption | (simp [go_sem]; done) | (simp [go_sem, *]; done)); clear hc1_ hf1_; clear hb1_ hp1_)
  go_wp2
  go_ret
  exact ⟨rfl, by (repeat' first | (with_reducible first | exact Below.refl _ _ | assumption | refine Kit.below_drewN ?_ _ | refine Below.drew ?_ | refine Below.alloc ?_ ?_ _ | refine Below.setCell ?_ ?_ _ | exact Nat.le_refl _) | omega | (simp; omega) | (simp; done) | (apply Below.size; assumption))⟩
end Go.Proofs.Ytdaedjmkolcliaa
