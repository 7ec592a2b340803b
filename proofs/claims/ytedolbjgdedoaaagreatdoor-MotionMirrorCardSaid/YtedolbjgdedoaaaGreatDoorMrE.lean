/- Walks: the laws of layer 27: MotionMirror. -/
import Derived.Test.YtedolbjgdedoaaaGreatDoorMrF
set_option linter.unusedSimpArgs false
set_option linter.unusedVariables false
set_option maxRecDepth 100000
set_option maxHeartbeats 8000000
namespace Go.Proofs.YtedolbjgdedoaaaGreatDoor
open Go.RowKit Go.Shelf
attribute [local go_sem] Oper.semAt_some
theorem Mo.wd_of {x : Ex.Wk} (h : Ex.chk x = 0) : 1 ≤ x.wd ∧ x.wd ≤ 1000 := by
 unfold Ex.chk at h
 split at h
 ·cases h
 ·split at h
  ·rename_i h2; exact absurd h h2
  ·split at h
   ·rename_i h3
    unfold Ex.okW Ex.okH at h3
    simp only [Bool.and_eq_true] at h3
    exact (Tp.inb_iff _ _ _).1 h3.1.1.1.1.1.1.1
   ·cases h
theorem lw_mirror (x : Ex.Wk) (p : Ex.Wa) (w : World) (hL : Ex.Laid w) (hF : Uo.Flat w) (hK : Mo.KL w) (ha : Ex.At w x p) (role bar : Int) (s : Mo.St) (r : List Uo.Re) (aR : Option Addr) (cR : Nat) (hR : Tp.Sl w aR r.length 4 (Mo.rcs r)) (hWd : Ex.chk x = 0 → 1 ≤ x.wd ∧ x.wd ≤ 1000) :
  Calls Tryz.prog 7 #[Ex.workV x p, .int .i64 role, .int .i64 bar, .agg (Mo.stA s), .slice aR r.length cR] w fun e w' => e = .returned (.bool true) ∧ Below w.heap.size w w' := by
 have HSN := qh (fun W (hb : Below w.heap.size w W) => lw_sane W (hL.kept hb nlr) (hF.kept hb nlr) (hK.kept hb))
 have HFW := qh (fun W => lw_few27 x p r.length aR cR W)
 have HNE := qh (fun W => lw_near s W)
 have HEN := qh (fun W (hb : Below w.heap.size w W) (y : Ex.Wk) (q : Ex.Wa) (hy : Ex.At W y q) (u : Mo.St) (o : List Uo.Re) (aO : Option Addr) (cO : Nat) (hO : Tp.Sl W aO o.length 4 (Mo.rcs o)) => mo_end y q W (hL.kept hb nlr) (hF.kept hb nlr) hy role bar u o aO cO hO)
 have HPM := qh (fun (u : Mo.St) W (hu : Mo.ok u = true) (h1 : 1 ≤ x.wd ∧ x.wd ≤ 1000) => po_mirror u x.wd W hu h1.1 h1.2)
 have HA := qh ha
 have HRS := qh hR
 have HWD := qh hWd
 clear hL hF hK ha hR hWd
 obtain ⟨aRo, cRo, aT, cT, aP, cP, aS, cS, aG, cG⟩ := p
 dsimp only [Ex.workV, Ex.wv] at HFW ⊢
 go_enter Tryz.func7, Tryz.ntmps7
 go_upto_region 1 with fail
 refine Kit.wp_name ?_
 intro W1 hW1
 have HQ1 := qh (show Mo.AM w W1 x ⟨aRo, cRo, aT, cT, aP, cP, aS, cS, aG, cG⟩ s by rw [hW1]; exact Mo.AM.start w x ⟨aRo, cRo, aT, cT, aP, cP, aS, cS, aG, cG⟩ s)
 clear hW1
 go_wp2_with fail
 refine (HSN.out _ HQ1.out.bel).mono ?_
 rintro _ W2 ⟨rfl, hb⟩
 have HQ2 := qh (HQ1.out.then hb)
 clear hb HQ1 HSN
 have wk : ∀ j, W2.cell? ⟨w.heap.size, j, none⟩ = (Mo.wkC x ⟨aRo, cRo, aT, cT, aP, cP, aS, cS, aG, cG⟩)[j]? := fun j => HQ2.out.wk.cell j
 go_wp2_with fail
 refine (HFW.out _).mono ?_
 rintro _ W3 ⟨⟨fb, rfl, hfb⟩, hb⟩
 have HQ3 := qh (HQ2.out.then hb)
 clear hb HQ2 HFW wk
 rcases fb with _ | _
 ·clear hfb
  go_wp2_with fail
  go_ret
  exact ⟨rfl, HQ3.out.bel⟩
 have HN2 := qh (hfb rfl)
 clear hfb
 have c0 : W3.cell? ⟨w.heap.size + 1, 0, none⟩ = some (.int .i64 s.x) := (HQ3.out.st.cell 0).trans rfl
 have c1 : W3.cell? ⟨w.heap.size + 1, 1, none⟩ = some (.int .i64 s.y) := (HQ3.out.st.cell 1).trans rfl
 have c2 : W3.cell? ⟨w.heap.size + 1, 2, none⟩ = some (.int .i64 s.f) := (HQ3.out.st.cell 2).trans rfl
 have c3 : W3.cell? ⟨w.heap.size + 1, 3, none⟩ = some (.int .i64 s.d0) := (HQ3.out.st.cell 3).trans rfl
 have c4 : W3.cell? ⟨w.heap.size + 1, 4, none⟩ = some (.int .i64 s.v0) := (HQ3.out.st.cell 4).trans rfl
 have c5 : W3.cell? ⟨w.heap.size + 1, 5, none⟩ = some (.int .i64 s.d1) := (HQ3.out.st.cell 5).trans rfl
 have c6 : W3.cell? ⟨w.heap.size + 1, 6, none⟩ = some (.int .i64 s.v1) := (HQ3.out.st.cell 6).trans rfl
 have c7 : W3.cell? ⟨w.heap.size + 1, 7, none⟩ = some (.int .i64 s.d2) := (HQ3.out.st.cell 7).trans rfl
 have c8 : W3.cell? ⟨w.heap.size + 1, 8, none⟩ = some (.int .i64 s.v2) := (HQ3.out.st.cell 8).trans rfl
 have c9 : W3.cell? ⟨w.heap.size + 1, 9, none⟩ = some (.int .i64 s.d3) := (HQ3.out.st.cell 9).trans rfl
 have c10 : W3.cell? ⟨w.heap.size + 1, 10, none⟩ = some (.int .i64 s.v3) := (HQ3.out.st.cell 10).trans rfl
 have c11 : W3.cell? ⟨w.heap.size + 1, 11, none⟩ = some (.int .i64 s.d4) := (HQ3.out.st.cell 11).trans rfl
 have c12 : W3.cell? ⟨w.heap.size + 1, 12, none⟩ = some (.int .i64 s.v4) := (HQ3.out.st.cell 12).trans rfl
 go_wp2_with fail
 refine (HNE.out _).mono ?_
 rintro _ W4 ⟨rfl, hb⟩
 have HQ := qh (HQ3.out.then hb)
 clear hb HQ3 HNE c0 c1 c2 c3 c4 c5 c6 c7 c8 c9 c10 c11 c12
 rcases hne : Mo.near s with _ | _
 ·go_wp2_with fail
  go_ret
  exact ⟨rfl, HQ.out.bel⟩
 have HNR := qh hne
 clear hne
 go_upto_region 5 with fail
 refine wp_region_lit ?_
 refine Kit.load_bk0 rfl 32 (.tmp 5) rfl w.heap.size rfl HQ.out.wk Tryz.underlying32 rfl (Mo.szQ _ _) ?_
 refine Kit.wpList_run rfl (.int .i64 role) _ rfl ?_
 refine Kit.wpList_run rfl (.int .i64 bar) _ rfl ?_
 refine Kit.load_bk0 rfl 37 (.tmp 8) rfl (w.heap.size + 1) rfl HQ.out.st Tryz.underlying37 rfl (Mo.szS s) ?_
 simp only [Act.put]
 go_simp
 go_wp2_with fail
 refine (HEN.out _ HQ.out.bel x ⟨aRo, cRo, aT, cT, aP, cP, aS, cS, aG, cG⟩ (HA.out.kept HQ.out.bel nlr) s r aR cR (HRS.out.kept HQ.out.bel nlr)).mono ?_
 rintro _ V1 ⟨⟨te, e, rfl, ht⟩, hb⟩
 have HT := qh ht
 have HQ5 := qh (HQ.out.then hb)
 clear ht hb HQ
 go_upto_region 6 with fail
 refine Kit.wp_name ?_
 intro U1 hW
 have HQ := qh (show Mo.AM w U1 x ⟨aRo, cRo, aT, cT, aP, cP, aS, cS, aG, cG⟩ s by rw [hW]; exact HQ5.out.then ((Below.refl _ _).alloc nlr _))
 have Qk1 := qh (show Kit.Bk U1 V1.heap.size 37 (Mo.stA te) by rw [hW]; exact Kit.Bk.new _ _ _)
 obtain ⟨k1, hB⟩ : ∃ b, V1.heap.size = b := ⟨_, rfl⟩
 rw [hB] at Qk1 ⊢
 clear hW hB HQ5
 by_cases h0 : e = 0
 case neg =>
  have c1 : (e != 0) = true := by simpa using h0
  clear h0
  go_wp2_with fail
  go_ret
  exact ⟨rfl, HQ.out.bel⟩
 subst h0
 have hE : Mo.ofE x role bar = 0 := by
  have h := HT.out
  unfold Mo.EndR at h
  split at h
  ·rename_i h1; exact absurd h.2.symm h1
  ·rename_i h1; simpa using h1
 have hchk : Ex.chk x = 0 := by
  unfold Mo.ofE at hE
  split at hE
  ·rename_i h1; exact absurd hE h1
  ·rename_i h1; simpa using h1
 obtain ⟨o1, o2, o3, o4, hmot, hend⟩ := Mo.end_mir (Ex.good_of hchk) (HWD.out hchk) hchk HNR.out HT.out hE
 have HM1 := qh (fun W => (by have h := HPM.out s W o1 (HWD.out hchk); rw [if_pos o3, if_pos o3] at h; exact h : Calls Tryz.prog 22 #[.agg (Mo.stA s), .int .i64 x.wd] W fun e w' => e = .returned (.tuple #[.agg (Mo.stA (Mo.mirS x.wd s)), .int .i64 0]) ∧ Below W.heap.size W w'))
 have HM2 := qh (fun W => (by have h := HPM.out te W o2 (HWD.out hchk); rw [if_pos o4, if_pos o4] at h; exact h : Calls Tryz.prog 22 #[.agg (Mo.stA te), .int .i64 x.wd] W fun e w' => e = .returned (.tuple #[.agg (Mo.stA (Mo.mirS x.wd te)), .int .i64 0]) ∧ Below W.heap.size W w'))
 have HGG := qh (Ex.good_of hchk)
 have HMT := qh hmot
 have HED := qh hend
 obtain ⟨S2, hS2⟩ : ∃ u, Mo.mirS x.wd s = u := ⟨_, rfl⟩
 obtain ⟨T2, hT2⟩ : ∃ u, Mo.mirS x.wd te = u := ⟨_, rfl⟩
 rw [hS2] at HM1 HED
 rw [hT2] at HM2 HED
 clear o1 o2 o3 o4 hmot hend hE hchk hS2 hT2 HPM HT HNR HWD
 go_upto_region 8 with fail
 refine wp_region_lit ?_
 refine Kit.load_bk0 rfl 37 (.tmp 8) rfl (w.heap.size + 1) rfl HQ.out.st Tryz.underlying37 rfl (Mo.szS s) ?_
 have wk0 : U1.cell? ⟨w.heap.size, 0, none⟩ = some (.int .i64 x.wd) := (HQ.out.wk.cell 0).trans rfl
 simp only [Act.put]
 go_simp
 go_wp2_with fail
 refine (HM1.out _).mono ?_
 rintro _ V2 ⟨rfl, hb⟩
 have HQ5 := qh (HQ.out.then hb)
 have Rk1 := qh (Qk1.out.below hb Qk1.out.lt)
 clear hb HQ Qk1 wk0 HM1
 go_upto_region 9 with fail
 refine Kit.wp_name ?_
 intro U2 hW
 have hbW : Below V2.heap.size V2 U2 := by rw [hW]; exact (Below.refl _ _).alloc nlr _
 have HQ := qh (HQ5.out.then hbW)
 have Qk1 := qh (Rk1.out.below hbW Rk1.out.lt)
 have Qk2 := qh (show Kit.Bk U2 V2.heap.size 37 (Mo.stA S2) by rw [hW]; exact Kit.Bk.new _ _ _)
 obtain ⟨k2, hB⟩ : ∃ b, V2.heap.size = b := ⟨_, rfl⟩
 rw [hB] at Qk2 ⊢
 clear hW hB hbW HQ5 Rk1
 refine wp_region_lit ?_
 refine Kit.load_bk0 rfl 37 (.tmp 11) rfl k1 rfl Qk1.out Tryz.underlying37 rfl (Mo.szS te) ?_
 have wk0 : U2.cell? ⟨w.heap.size, 0, none⟩ = some (.int .i64 x.wd) := (HQ.out.wk.cell 0).trans rfl
 simp only [Act.put]
 go_simp
 go_wp2_with fail
 refine (HM2.out _).mono ?_
 rintro _ V3 ⟨rfl, hb⟩
 have HQ5 := qh (HQ.out.then hb)
 have Rk2 := qh (Qk2.out.below hb Qk2.out.lt)
 clear hb HQ Qk1 Qk2 wk0 HM2
 go_upto_region 10 with fail
 refine Kit.wp_name ?_
 intro U3 hW
 have hbW : Below V3.heap.size V3 U3 := by rw [hW]; exact (Below.refl _ _).alloc nlr _
 have HQ := qh (HQ5.out.then hbW)
 have Qk2 := qh (Rk2.out.below hbW Rk2.out.lt)
 have Qk3 := qh (show Kit.Bk U3 V3.heap.size 37 (Mo.stA T2) by rw [hW]; exact Kit.Bk.new _ _ _)
 obtain ⟨k3, hB⟩ : ∃ b, V3.heap.size = b := ⟨_, rfl⟩
 rw [hB] at Qk3 ⊢
 clear hW hB hbW HQ5 Rk2
 have wk : ∀ j, U3.cell? ⟨w.heap.size, j, none⟩ = (Mo.wkC x ⟨aRo, cRo, aT, cT, aP, cP, aS, cS, aG, cG⟩)[j]? := fun j => HQ.out.wk.cell j
 go_upto_region 13 with fail
 refine Kit.wp_name ?_
 intro U4 hW
 have hbW : Below U3.heap.size U3 U4 := by rw [hW]; exact (Below.refl _ _).alloc nlr _
 have HQ5 := qh (HQ.out.then hbW)
 have Rk2 := qh (Qk2.out.below hbW Qk2.out.lt)
 have Rk3 := qh (Qk3.out.below hbW Qk3.out.lt)
 have HV := qh (show Kit.Bk U4 U3.heap.size 32 (Mo.vC x ⟨aRo, cRo, aT, cT, aP, cP, aS, cS, aG, cG⟩ (.slice aG x.sg.length cG)) by rw [hW]; exact Kit.Bk.new _ _ _)
 have HZV := qh (show k2 < U3.heap.size ∧ k3 < U3.heap.size ∧ w.heap.size + 2 ≤ U3.heap.size from ⟨Qk2.out.lt, Qk3.out.lt, HQ.out.st.lt⟩)
 obtain ⟨VB, hB⟩ : ∃ b, U3.heap.size = b := ⟨_, rfl⟩
 rw [hB] at HV HZV ⊢
 clear hW hB hbW HQ Qk2 Qk3 wk
 have s10 : U4.cell? ⟨w.heap.size, 10, none⟩ = some (.slice aG x.sg.length cG) := (HQ5.out.wk.cell 10).trans rfl
 have HSG := qh ((HA.out.kept HQ5.out.bel nlr).sg)
 have hlen := HGG.out.len
 have hzw : w.heap.size < U4.heap.size := HQ5.out.wk.lt
 go_upto_region 14 with (at_builtin; go_loud (refine Kit.wpList_app_emptyM Mo.elS _ rfl _ _ rfl rfl (Kit.lit_rowM U4 [] _ U4.heap.size U4.heap.size 14 0 rfl nlr rfl (by unfold maxLen; omega)) (by simp) aG x.sg.length cG (x.sg.flatMap Mo.sgC) omg rfl (Mo.sgs_len _) (Kit.sl_cells (HSG.out.kept (B := U4.heap.size) ((Below.refl _ _).alloc nlr _) nlr) omg (Mo.sgs_len _) (Mo.sg_get x.sg)) ?_); intro v2 w5 ho hb; obtain ⟨a5, c5, rfl⟩ := Kit.own_shape ho; have HO5 := qh ho; have HB5 := qh ((show Below U4.heap.size U4 w5 from ((Below.refl _ _).alloc nlr (.cells #[] 60)).trans (hb.mono (by simp)))); have c11 : w5.cell? ⟨VB, 10, none⟩ = some (.slice aG x.sg.length cG) := ((HV.out.below HB5.out HV.out.lt).cell 10).trans rfl; have f11 := (HV.out.below HB5.out HV.out.lt).frozen 10; clear ho hb)
 refine Kit.wp_name ?_
 intro U5 hW
 have hx5 : Kit.Exc (fun k => k = VB) w5 U5 := by rw [hW]; exact (Kit.Exc.refl (fun k => k = VB) w5).setCell (p := ⟨VB, 10, none⟩) (.inl rfl) _
 have HZ5 := qh (show VB < U4.heap.size from HV.out.lt)
 have hxB : Below w.heap.size w U5 := (HQ5.out.bel.trans (HB5.out.mono HQ5.out.bel.size)).trans (hx5.below (Nat.le_trans HQ5.out.bel.size HB5.out.size) (fun k hk => by have := HZV.out; omega))
 have HM := qh (show Mo.AM w U5 x ⟨aRo, cRo, aT, cT, aP, cP, aS, cS, aG, cG⟩ s from ⟨hxB, (HQ5.out.wk.below HB5.out HQ5.out.wk.lt).exc hx5 (by have := HZV.out; omega), (HQ5.out.st.below HB5.out HQ5.out.st.lt).exc hx5 (by have := HZV.out; omega)⟩)
 have HVV := qh (show Kit.Bk U5 VB 32 (Mo.vC x ⟨aRo, cRo, aT, cT, aP, cP, aS, cS, aG, cG⟩ (.slice a5 x.sg.length c5)) by rw [hW]; exact (HV.out.below HB5.out HV.out.lt).put 10 _ rfl)
 have HOS := qh (Kit.ownsRow_same HO5.out (fun k hk => hx5.block k (HO5.out.lt k hk).2 (by have := (HO5.out.lt k hk).1; have := HZ5.out; omega)))
 have Qk2 := qh ((Rk2.out.below HB5.out Rk2.out.lt).exc hx5 (by have := HZV.out; omega))
 have Qk3 := qh ((Rk3.out.below HB5.out Rk3.out.lt).exc hx5 (by have := HZV.out; omega))
 have HZ6 := qh (show U4.heap.size ≤ U5.heap.size from Nat.le_trans HB5.out.size hx5.size)
 clear hW hx5 hxB HQ5 HB5 HV HO5 Rk2 Rk3 s10 hzw c11 f11 HSG
 have HRR := qh (HRS.out.kept HM.out.bel nlr)
 have hrl : r.length ≤ 200 := HN2.out
 go_upto_region 15 with (at_builtin; go_loud (refine Kit.wpList_app_emptyM Mo.elR _ rfl _ _ rfl rfl (Kit.lit_rowM U5 [] _ U5.heap.size U5.heap.size 4 0 rfl nlr rfl (by unfold maxLen; omega)) (by simp) aR r.length cR (r.flatMap Mo.reC) omg rfl (Mo.res_lenM r) (Kit.sl_cells (HRR.out.kept (B := U5.heap.size) ((Below.refl _ _).alloc nlr _) nlr) omg (Mo.res_lenM r) (Mo.re_get r)) ?_); intro v2 w6 ho hb; obtain ⟨a6, c6, rfl⟩ := Kit.own_shape ho; have HO6 := qh ho; have HB6 := qh ((show Below U5.heap.size U5 w6 from ((Below.refl _ _).alloc nlr (.cells #[] 69)).trans (hb.mono (by simp)))); clear ho hb)
 have HZF := qh (fun (q : Nat) (z : Uo.Re) (hq : q < r.length) (hz : r.getD q (0, 0, 0, false) = z) => (by
  obtain ⟨k, _, hf⟩ := (Mo.mot_has HMT.out).2 q hq
  rw [show r.getD q Mo.re0 = z from hz] at hf
  exact Mo.form_dir hf : 0 ≤ z.2.1 ∧ z.2.1 ≤ 8))
 have HPX := qh (show Mo.MP w k2 k3 VB U4.heap.size U5.heap.size w6.heap.size from ⟨HZV.out.2.2, HZV.out.1, HZV.out.2.1, HZ5.out, HZ6.out, HB6.out.size⟩)
 have HX := qh (show Mo.MX w w6 x ⟨aRo, cRo, aT, cT, aP, cP, aS, cS, aG, cG⟩ s S2 T2 k2 k3 VB U4.heap.size U5.heap.size w6.heap.size a5 a6 c5 (Mo.mrL x role bar 0) r x.sg.length r.length from
  ⟨HM.out.then HB6.out, Qk2.out.below HB6.out Qk2.out.lt, Qk3.out.below HB6.out Qk3.out.lt, HVV.out.below HB6.out HVV.out.lt,
   (Mo.Rz.of HOS.out (Mo.sgs_len x.sg) (Mo.sg_get x.sg)).exc (Mo.exc_belowM HB6.out) (fun g h1 h2 h3 => by omega), Mo.Rz.of HO6.out (Mo.res_lenM r) (Mo.re_get r), Nat.le_refl _⟩)
 obtain ⟨B1, hB1⟩ : ∃ b, U4.heap.size = b := ⟨_, rfl⟩
 obtain ⟨B2, hB2⟩ : ∃ b, U5.heap.size = b := ⟨_, rfl⟩
 obtain ⟨B3, hB3⟩ : ∃ b, w6.heap.size = b := ⟨_, rfl⟩
 rw [hB1, hB2, hB3] at HPX HX
 clear hB1 hB2 hB3 HM Qk2 Qk3 HVV HOS HB6 HO6 HZV HZ5 HZ6 HRR hrl hlen
 have c10 : w6.cell? ⟨VB, 10, none⟩ = some (.slice a5 x.sg.length c5) := (HX.out.vb.cell 10).trans rfl
 have HLN := qh HGG.out.len
 have HRN := qh HN2.out
 go_wp2_with fail
 clear c10
 refine wp_loop_ghost_k (fun k a' w' => (∃ (i : Nat) (R : List Uo.Re), (a'.tmps.getD 80 undef) = .int .i64 i ∧ i ≤ x.sg.length ∧ x.sg.length - i ≤ k ∧ Hid (Mo.MX w w' x ⟨aRo, cRo, aT, cT, aP, cP, aS, cS, aG, cG⟩ s S2 T2 k2 k3 VB B1 B2 B3 a5 a6 c5 (Mo.mrL x role bar i) R x.sg.length r.length) ∧ Hid (Mo.RR x role bar r i 0 0 R)) ∧ a' = (fun (t : Nat → Value) => ({ tmps := #[Value.agg #[Value.int IntKind.i64 x.wd, Value.int IntKind.i64 x.dp, Value.int IntKind.i64 x.ta, Value.int IntKind.i64 x.tb, Value.int IntKind.i64 x.tc, Value.slice aRo x.ro.length cRo, Value.int IntKind.i64 x.n, Value.slice aT x.ts.length cT, Value.slice aP x.ps.length cP, Value.slice aS x.ss.length cS, Value.slice aG x.sg.length cG], Value.int IntKind.i64 role, Value.int IntKind.i64 bar, Value.agg (Mo.stA s), Value.slice aR r.length cR, Value.pointer (some { block := w.heap.size, off := 0 }), undef, undef, Value.pointer (some { block := w.heap.size + 1, off := 0 }), undef, Value.bool false, Value.pointer (some { block := k1, off := 0 }), Value.int IntKind.i64 0, Value.pointer (some { block := k2, off := 0 }), Value.int IntKind.i64 0, Value.pointer (some { block := k3, off := 0 }), Value.int IntKind.i64 0, Value.pointer (some { block := VB, off := 0 }), Value.slice a6 r.length c6, t 19, t 20, t 21, t 22, t 23, undef, undef, Value.bool true, Value.bool false, Value.agg #[Value.int IntKind.i64 x.wd, Value.int IntKind.i64 x.dp, Value.int IntKind.i64 x.ta, Value.int IntKind.i64 x.tb, Value.int IntKind.i64 x.tc, Value.slice aRo x.ro.length cRo, Value.int IntKind.i64 x.n, Value.slice aT x.ts.length cT, Value.slice aP x.ps.length cP, Value.slice aS x.ss.length cS, Value.slice aG x.sg.length cG], Value.slice aR r.length cR, Value.bool true, Value.bool false, Value.bool false, Value.agg #[Value.int IntKind.i64 s.x, Value.int IntKind.i64 s.y, Value.int IntKind.i64 s.f, Value.int IntKind.i64 s.d0, Value.int IntKind.i64 s.v0, Value.int IntKind.i64 s.d1, Value.int IntKind.i64 s.v1, Value.int IntKind.i64 s.d2, Value.int IntKind.i64 s.v2, Value.int IntKind.i64 s.d3, Value.int IntKind.i64 s.v3, Value.int IntKind.i64 s.d4, Value.int IntKind.i64 s.v4], Value.bool true, Value.bool false, Value.bool false, Value.tuple #[Value.agg (Mo.stA te), Value.int IntKind.i64 0], Value.agg (Mo.wkC x { aR := aRo, cR := cRo, aT := aT, cT := cT, aP := aP, cP := cP, aS := aS, cS := cS, aG := aG, cG := cG }), Value.int IntKind.i64 role, Value.int IntKind.i64 bar, Value.agg (Mo.stA s), Value.slice aR r.length cR, Value.tuple #[Value.agg (Mo.stA te), Value.int IntKind.i64 0], Value.agg (Mo.stA te), Value.int IntKind.i64 0, Value.int IntKind.i64 0, Value.bool false, Value.tuple #[Value.agg (Mo.stA S2), Value.int IntKind.i64 0], Value.agg (Mo.stA s), Value.pointer (some { block := w.heap.size, off := 0 }), Value.int IntKind.i64 x.wd, Value.tuple #[Value.agg (Mo.stA S2), Value.int IntKind.i64 0], Value.agg (Mo.stA S2), Value.int IntKind.i64 0, Value.tuple #[Value.agg (Mo.stA T2), Value.int IntKind.i64 0], Value.agg (Mo.stA te), Value.pointer (some { block := w.heap.size, off := 0 }), Value.int IntKind.i64 x.wd, Value.tuple #[Value.agg (Mo.stA T2), Value.int IntKind.i64 0], Value.agg (Mo.stA T2), Value.int IntKind.i64 0, Value.int IntKind.i64 0, Value.bool false, Value.bool false, Value.int IntKind.i64 0, Value.bool false, Value.bool false, Value.agg #[Value.int IntKind.i64 x.wd, Value.int IntKind.i64 x.dp, Value.int IntKind.i64 x.ta, Value.int IntKind.i64 x.tb, Value.int IntKind.i64 x.tc, Value.slice aRo x.ro.length cRo, Value.int IntKind.i64 x.n, Value.slice aT x.ts.length cT, Value.slice aP x.ps.length cP, Value.slice aS x.ss.length cS, Value.slice aG x.sg.length cG], Value.slice (some { block := U4.heap.size, off := 0 }) 0 0, Value.pointer (some { block := w.heap.size, off := 10 }), Value.slice aG x.sg.length cG, Value.slice a5 x.sg.length c5, Value.pointer (some { block := VB, off := 10 }), Value.slice (some { block := U5.heap.size, off := 0 }) 0 0, Value.slice aR r.length cR, Value.slice a6 r.length c6, Value.pointer (some { block := VB, off := 10 }), Value.slice a5 x.sg.length c5, Value.int IntKind.i64 ↑x.sg.length, t 80, t 81, t 82, t 83, t 84, t 85, t 86, t 87, t 88, t 89, t 90, t 91, t 92, t 93, t 94, t 95, t 96, t 97, t 98, t 99, t 100, t 101, t 102, t 103, t 104, t 105, t 106, t 107, t 108, t 109, t 110, t 111, t 112, t 113, t 114, t 115, t 116, t 117, t 118, t 119, t 120, t 121, t 122, t 123, t 124, undef, undef, undef, undef, undef, undef, undef, undef, undef, undef, undef, undef, undef, undef, undef, undef], defers := [] } : Act)) (fun j => a'.tmps.getD j undef)) x.sg.length ?atStart ?round
 case atStart => exact ⟨⟨0, r, rfl, by omega, by omega, HX, qh (Mo.RR.zero x role bar r)⟩, by kernel_rfl⟩
 case round =>
  intro gk a' wr hinv
  obtain ⟨hrel, ha⟩ := hinv
  rw [ha]
  clear ha
  obtain ⟨s80, h80_⟩ : ∃ s, a'.tmps.getD 80 undef = s := ⟨_, rfl⟩
  rw [h80_] at hrel
  generalize ht_ : (fun j => a'.tmps.getD j undef) = t
  have f80_ : t 80 = s80 := by rw [← ht_]; exact h80_
  clear ht_ h80_
  clear a'
  dsimp only
  rw [f80_]
  clear f80_
  intro _ _ _ _
  obtain ⟨i, R, rfl, hi, hk, HXI, HRI⟩ := hrel
  clear HX
  by_cases hlt : i < x.sg.length
  ·have hltz : (i : Int) < (x.sg.length : Int) := by omega
   have hsl := HXI.out.sg.sl
   obtain ⟨ad, rfl, hadb, hcl⟩ := hsl.at hlt
   have HAD := qh (show ∃ g1, ad = ⟨g1, 0, none⟩ ∧ B1 ≤ g1 ∧ g1 < B2 by
    rcases HXI.out.sg with h | ⟨g, e, h1, h2, _⟩
    ·omega
    ·injection e with e; exact ⟨g, e, h1, h2⟩)
   have hyx := Mo.mrL_get x role bar i hlt
   (have e0 := hsl.head hlt omg; have e1 := hsl.field hlt (j := 1) omg omg; have e2 := hsl.field hlt (j := 2) omg omg; have e3 := hsl.field hlt (j := 3) omg omg; have e4 := hsl.field hlt (j := 4) omg omg; have e5 := hsl.field hlt (j := 5) omg omg; have e6 := hsl.field hlt (j := 6) omg omg; have e7 := hsl.field hlt (j := 7) omg omg; have e8 := hsl.field hlt (j := 8) omg omg; have e9 := hsl.field hlt (j := 9) omg omg; have e10 := hsl.field hlt (j := 10) omg omg; have e11 := hsl.field hlt (j := 11) omg omg; have e12 := hsl.field hlt (j := 12) omg omg; have e13 := hsl.field hlt (j := 13) omg omg; obtain ⟨y, hy_⟩ : ∃ y, (Mo.mrL x role bar i).getD i default = y := ⟨_, rfl⟩; simp only [Ex.sgc, hy_] at e0 e1 e2 e3 e4 e5 e6 e7 e8 e9 e10 e11 e12 e13)
   rw [hy_] at hyx
   have HYX := qh hyx.symm
   have hmem : y ∈ x.sg := by rw [hyx, List.getD_eq_getElem?_getD, List.getElem?_eq_getElem hlt]; exact List.getElem_mem _
   have HFY := qh (Mo.fit_mir (Mo.fit_of (HGG.out.oks y hmem)))
   have HMY := qh hmem
   have ll : (x.sg.length : Int) ≤ 4611686018427387904 := by have := HLN.out; omega
   clear hsl hy_ hyx hmem hadb hcl
   go_upto_region 18 with fail
   refine Kit.wp_name ?_
   intro W1 hW1
   have hbW : Below wr.heap.size wr W1 := by rw [hW1]; exact (Below.refl _ _).alloc nlr _
   have HXJ := qh (HXI.out.then HPX.out hbW)
   have HYB := qh (show Kit.Bk W1 wr.heap.size 60 (Mo.sgC y).toArray by rw [hW1]; exact Kit.Bk.new _ _ _)
   have HZY := qh (show B3 ≤ wr.heap.size from HXI.out.lt)
   obtain ⟨YB, hB⟩ : ∃ b, wr.heap.size = b := ⟨_, rfl⟩
   rw [hB] at HYB HZY ⊢
   clear hW1 hbW hB HXI e0 e1 e2 e3 e4 e5 e6 e7 e8 e9 e10 e11 e12 e13
   have y1 : W1.cell? ⟨YB, 1, none⟩ = some (.int .i64 y.role) := (HYB.out.cell 1).trans rfl
   have y2 : W1.cell? ⟨YB, 2, none⟩ = some (.int .i64 y.bar) := (HYB.out.cell 2).trans rfl
   have y0 : W1.cell? ⟨YB, 0, none⟩ = some (.int .i64 y.id) := (HYB.out.cell 0).trans rfl
   rcases d1 : (y.role == role) with _ | _
   case' false =>
    have HMF := qh (show Mo.mine bar role y = false by unfold Mo.mine; rw [d1]; rfl)
    have n1 : (y.role != role) = true := by simp [bne, d1]
   case' true =>
    rcases d2 : (y.bar == bar) with _ | _
    case' false =>
     have HMF := qh (show Mo.mine bar role y = false by unfold Mo.mine; rw [d1, d2]; rfl)
     have n1 : (y.role != role) = false := by simp [bne, d1]
     have n2 : (y.bar != bar) = true := by simp [bne, d2]
    case' true => have HMF := qh (show Mo.mine bar role y = true by unfold Mo.mine; rw [d1, d2]; rfl)
   case true.true =>
    have n1 : (y.role != role) = false := by simp [bne, d1]
    have n2 : (y.bar != bar) = false := by simp [bne, d2]
    go_wp2_with fail
    clear y0 y1 y2 n1 n2 d1 d2
    refine wp_loop_ghost_k (fun k a' w' => (∃ (q : Nat) (hit : Bool) (R2 : List Uo.Re), (a'.tmps.getD 97 undef) = .int .i64 q ∧ q ≤ r.length ∧ r.length - q ≤ k ∧ Hid (Mo.MX w w' x ⟨aRo, cRo, aT, cT, aP, cP, aS, cS, aG, cG⟩ s S2 T2 k2 k3 VB B1 B2 B3 (some ad) a6 c5 (if hit = true then (Mo.mrL x role bar i).set i (Mo.mirK y) else Mo.mrL x role bar i) R2 x.sg.length r.length) ∧ Hid (Mo.RR x role bar r i y.id q R2) ∧ Hid (Kit.Bk w' YB 60 (Mo.sgC y).toArray) ∧ Hid (hit = false → ∀ b, b < q → (r.getD b Mo.re0).1 ≠ y.id)) ∧ a' = (fun (t : Nat → Value) => ({ tmps := #[Value.agg #[Value.int IntKind.i64 x.wd, Value.int IntKind.i64 x.dp, Value.int IntKind.i64 x.ta, Value.int IntKind.i64 x.tb, Value.int IntKind.i64 x.tc, Value.slice aRo x.ro.length cRo, Value.int IntKind.i64 x.n, Value.slice aT x.ts.length cT, Value.slice aP x.ps.length cP, Value.slice aS x.ss.length cS, Value.slice aG x.sg.length cG], Value.int IntKind.i64 role, Value.int IntKind.i64 bar, Value.agg (Mo.stA s), Value.slice aR r.length cR, Value.pointer (some { block := w.heap.size, off := 0 }), undef, undef, Value.pointer (some { block := w.heap.size + 1, off := 0 }), undef, Value.bool false, Value.pointer (some { block := k1, off := 0 }), Value.int IntKind.i64 0, Value.pointer (some { block := k2, off := 0 }), Value.int IntKind.i64 0, Value.pointer (some { block := k3, off := 0 }), Value.int IntKind.i64 0, Value.pointer (some { block := VB, off := 0 }), Value.slice a6 r.length c6, Value.int IntKind.i64 ↑i, Value.pointer (some { block := YB, off := 0 }), t 21, t 22, t 23, undef, undef, Value.bool true, Value.bool false, Value.agg #[Value.int IntKind.i64 x.wd, Value.int IntKind.i64 x.dp, Value.int IntKind.i64 x.ta, Value.int IntKind.i64 x.tb, Value.int IntKind.i64 x.tc, Value.slice aRo x.ro.length cRo, Value.int IntKind.i64 x.n, Value.slice aT x.ts.length cT, Value.slice aP x.ps.length cP, Value.slice aS x.ss.length cS, Value.slice aG x.sg.length cG], Value.slice aR r.length cR, Value.bool true, Value.bool false, Value.bool false, Value.agg #[Value.int IntKind.i64 s.x, Value.int IntKind.i64 s.y, Value.int IntKind.i64 s.f, Value.int IntKind.i64 s.d0, Value.int IntKind.i64 s.v0, Value.int IntKind.i64 s.d1, Value.int IntKind.i64 s.v1, Value.int IntKind.i64 s.d2, Value.int IntKind.i64 s.v2, Value.int IntKind.i64 s.d3, Value.int IntKind.i64 s.v3, Value.int IntKind.i64 s.d4, Value.int IntKind.i64 s.v4], Value.bool true, Value.bool false, Value.bool false, Value.tuple #[Value.agg (Mo.stA te), Value.int IntKind.i64 0], Value.agg (Mo.wkC x { aR := aRo, cR := cRo, aT := aT, cT := cT, aP := aP, cP := cP, aS := aS, cS := cS, aG := aG, cG := cG }), Value.int IntKind.i64 role, Value.int IntKind.i64 bar, Value.agg (Mo.stA s), Value.slice aR r.length cR, Value.tuple #[Value.agg (Mo.stA te), Value.int IntKind.i64 0], Value.agg (Mo.stA te), Value.int IntKind.i64 0, Value.int IntKind.i64 0, Value.bool false, Value.tuple #[Value.agg (Mo.stA S2), Value.int IntKind.i64 0], Value.agg (Mo.stA s), Value.pointer (some { block := w.heap.size, off := 0 }), Value.int IntKind.i64 x.wd, Value.tuple #[Value.agg (Mo.stA S2), Value.int IntKind.i64 0], Value.agg (Mo.stA S2), Value.int IntKind.i64 0, Value.tuple #[Value.agg (Mo.stA T2), Value.int IntKind.i64 0], Value.agg (Mo.stA te), Value.pointer (some { block := w.heap.size, off := 0 }), Value.int IntKind.i64 x.wd, Value.tuple #[Value.agg (Mo.stA T2), Value.int IntKind.i64 0], Value.agg (Mo.stA T2), Value.int IntKind.i64 0, Value.int IntKind.i64 0, Value.bool false, Value.bool false, Value.int IntKind.i64 0, Value.bool false, Value.bool false, Value.agg #[Value.int IntKind.i64 x.wd, Value.int IntKind.i64 x.dp, Value.int IntKind.i64 x.ta, Value.int IntKind.i64 x.tb, Value.int IntKind.i64 x.tc, Value.slice aRo x.ro.length cRo, Value.int IntKind.i64 x.n, Value.slice aT x.ts.length cT, Value.slice aP x.ps.length cP, Value.slice aS x.ss.length cS, Value.slice aG x.sg.length cG], Value.slice (some { block := U4.heap.size, off := 0 }) 0 0, Value.pointer (some { block := w.heap.size, off := 10 }), Value.slice aG x.sg.length cG, Value.slice (some ad) x.sg.length c5, Value.pointer (some { block := VB, off := 10 }), Value.slice (some { block := U5.heap.size, off := 0 }) 0 0, Value.slice aR r.length cR, Value.slice a6 r.length c6, Value.pointer (some { block := VB, off := 10 }), Value.slice (some ad) x.sg.length c5, Value.int IntKind.i64 ↑x.sg.length, Value.int IntKind.i64 ↑i, Value.bool true, Value.int IntKind.i64 ↑i, Value.pointer (some (ad.add (i * 14))), Value.agg #[Value.int IntKind.i64 y.id, Value.int IntKind.i64 y.role, Value.int IntKind.i64 y.bar, Value.int IntKind.i64 y.mark, Value.int IntKind.i64 y.kind, Value.int IntKind.i64 y.side, Value.int IntKind.i64 y.dir, Value.int IntKind.i64 y.level, Value.int IntKind.i64 y.size, Value.int IntKind.i64 y.wth, Value.int IntKind.i64 y.fn, Value.int IntKind.i64 y.fd, Value.int IntKind.i64 y.tn, Value.int IntKind.i64 y.td], Value.pointer (some { block := YB, off := 1 }), Value.int IntKind.i64 y.role, Value.int IntKind.i64 role, Value.bool false, Value.bool false, Value.pointer (some { block := YB, off := 2 }), Value.int IntKind.i64 y.bar, Value.int IntKind.i64 bar, Value.bool false, Value.bool false, Value.slice aR r.length cR, Value.int IntKind.i64 ↑r.length, t 97, t 98, t 99, t 100, t 101, t 102, t 103, t 104, t 105, t 106, t 107, t 108, t 109, t 110, t 111, t 112, t 113, t 114, t 115, t 116, t 117, t 118, t 119, t 120, t 121, t 122, t 123, t 124, undef, undef, undef, undef, undef, undef, undef, undef, undef, undef, undef, undef, undef, undef, undef, undef], defers := [] } : Act)) (fun j => a'.tmps.getD j undef)) r.length ?atStart ?round
    case atStart => exact ⟨⟨0, false, R, rfl, by omega, by omega, HXJ, qh (HRI.out.inner y.id), HYB, qh (fun _ b hb => by omega)⟩, by kernel_rfl⟩
    case round =>
     intro gk a' wr hinv
     obtain ⟨hrel, ha⟩ := hinv
     rw [ha]
     clear ha
     obtain ⟨s97, h97_⟩ : ∃ s, a'.tmps.getD 97 undef = s := ⟨_, rfl⟩
     rw [h97_] at hrel
     generalize ht_ : (fun j => a'.tmps.getD j undef) = t
     have f97_ : t 97 = s97 := by rw [← ht_]; exact h97_
     clear ht_ h97_
     clear a'
     dsimp only
     rw [f97_]
     clear f97_
     intro _ _ _ _
     obtain ⟨q, hit, R2, rfl, hq, hkq, HXQ, HRQ, HYQ, HNH⟩ := hrel
     clear HXJ HYB
     by_cases hlq : q < r.length
     ·have hlqz : (q : Int) < (r.length : Int) := by omega
      have hsr := HRS.out.kept HXQ.out.am.bel nlr
      obtain ⟨adr, rfl, hz1, hz2⟩ := HRS.out.at hlq
      clear hz1 hz2
      have e0 := hsr.head hlq omg
      have e1 := hsr.field hlq (j := 1) omg omg
      have e2 := hsr.field hlq (j := 2) omg omg
      have e3 := hsr.field hlq (j := 3) omg omg
      obtain ⟨z, hz⟩ : ∃ z, r.getD q (0, 0, 0, false) = z := ⟨_, rfl⟩
      simp only [Mo.rcs, hz] at e0 e1 e2 e3
      have HZE := qh hz
      have rl : (r.length : Int) ≤ 4611686018427387904 := by have := HRN.out; omega
      clear hsr hz
      go_upto_region 22 with fail
      refine Kit.wp_name ?_
      intro W2 hW2
      have hbW : Below wr.heap.size wr W2 := by rw [hW2]; exact (Below.refl _ _).alloc nlr _
      have HX2 := qh (HXQ.out.then HPX.out hbW)
      have HY2 := qh (HYQ.out.below hbW HYQ.out.lt)
      have HZ2 := qh (show Kit.Bk W2 wr.heap.size 69 (Mo.reC z).toArray by rw [hW2]; exact Kit.Bk.new _ _ _)
      have HZZ := qh (show YB < wr.heap.size from HYQ.out.lt)
      obtain ⟨ZB, hB⟩ : ∃ b, wr.heap.size = b := ⟨_, rfl⟩
      rw [hB] at HZ2 HZZ ⊢
      clear hW2 hbW hB HXQ HYQ e0 e1 e2 e3
      have y0 : W2.cell? ⟨YB, 0, none⟩ = some (.int .i64 y.id) := (HY2.out.cell 0).trans rfl
      have z0 : W2.cell? ⟨ZB, 0, none⟩ = some (.int .i64 z.1) := (HZ2.out.cell 0).trans rfl
      rcases d3 : (z.1 == y.id) with _ | _
      ·go_wp2_with fail
       (refine Handed.intro (r.length - (q + 1)) ?_ ?_; omega; go_step; exact ⟨⟨q + 1, hit, R2, by go_num, by omega, Nat.le_refl _, HX2, qh (HRQ.out.miss (by rw [show r.getD q Mo.re0 = z from HZE.out]; simpa using d3)), HY2, qh (fun hh b hb => by
       by_cases e : b = q
       ·rw [e, show r.getD q Mo.re0 = z from HZE.out]; simpa using d3
       ·exact HNH.out hh b omg)⟩, by kernel_rfl⟩)
      ·have HD3 := qh (show z.1 = y.id by simpa using d3)
       go_upto_region 24 with fail
       clear y0 z0 d3
       obtain ⟨g1, had, hg1, hg1'⟩ := HAD.out
       have HG1 := qh had
       have HG2 := qh (show ∃ g2, a6 = some ⟨g2, 0, none⟩ ∧ B2 ≤ g2 ∧ g2 < B3 ∧ Kit.Rw W2 g2 69 4 r.length (Mo.rcs R2) by
        rcases HX2.out.re with h | ⟨g, e, h1, h2, h3⟩
        ·omega
        ·exact ⟨g, e, h1, h2, h3⟩)
       obtain ⟨g2, rfl, hg2, hg2', hw2⟩ := HG2.out
       have HR1 := qh (show Kit.Rw W2 g1 60 14 x.sg.length (Ex.sgc (if hit = true then (Mo.mrL x role bar i).set i (Mo.mirK y) else Mo.mrL x role bar i)) by
        rcases HX2.out.sg with h | ⟨g, e, h1, h2, h3⟩
        ·omega
        ·rw [had] at e; injection e with e; injection e with e _ _; rw [e]; exact h3)
       have HR2 := qh hw2
       have HPQ := qh (show VB < g1 ∧ VB < g2 ∧ w.heap.size + 2 ≤ VB ∧ k2 < VB ∧ k3 < VB ∧ g1 < g2 ∧ g2 < YB ∧ YB < ZB by
        have h := HPX.out; have := h.p0; have := h.p1; have := h.p2; have := h.p3; have := h.p4; have := h.p5; have := HZY.out; have := HZZ.out; omega)
       have HMR := qh (fun W => lw_mirrored y z W HFY.out.1 (HZF.out q z hlq HZE.out) HFY.out.2.1 HFY.out.2.2)
       have HPG := qh (show B1 ≤ g1 ∧ g1 < B2 ∧ B2 ≤ g2 ∧ g2 < B3 from ⟨hg1, hg1', hg2, hg2'⟩)
       clear had hg1 hg1' hg2 hg2' hw2 HG2
       obtain ⟨SA, hSA⟩ : ∃ a, (Mo.sgC y).toArray = a := ⟨_, rfl⟩
       obtain ⟨RA, hRA⟩ : ∃ a, (Mo.reC z).toArray = a := ⟨_, rfl⟩
       obtain ⟨SK, hSK⟩ : ∃ a, (Mo.sgC (Mo.mirK y)).toArray = a := ⟨_, rfl⟩
       obtain ⟨RK, hRK⟩ : ∃ a, (Mo.reC (Mo.mirR z)).toArray = a := ⟨_, rfl⟩
       obtain ⟨LL, hLL⟩ : ∃ l, (if hit = true then (Mo.mrL x role bar i).set i (Mo.mirK y) else Mo.mrL x role bar i) = l := ⟨_, rfl⟩
       rw [hLL] at HX2 HR1
       have HLL := qh hLL
       have hln : i < LL.length := by rw [← hLL]; split <;> simp [Mo.mrL_len, hlt]
       have hrn : q < R2.length := by rw [HRQ.out.1]; exact hlq
       have HSA := qh (hSA ▸ Mo.szSgM y)
       have HRA := qh (hRA ▸ Mo.szReM z)
       have HSK := qh (hSK ▸ Mo.szSgM (Mo.mirK y))
       have HRK := qh (hRK ▸ Mo.szReM (Mo.mirR z))
       have HS1 := qh (show SK.size = 14 ∧ SK.all (·.oneCell') = true ∧ ∀ j, j < 14 → SK[j]? = some (Ex.sgc (LL.set i (Mo.mirK y)) i j) from
        ⟨by rw [← hSK]; rfl, by rw [← hSK]; simp [Mo.sgC, Value.oneCell'], fun j hj => by rw [← hSK]; exact Mo.sgc_set LL i _ hln j hj⟩)
       have HS2 := qh (show RK.size = 4 ∧ RK.all (·.oneCell') = true ∧ ∀ j, j < 4 → RK[j]? = some (Mo.rcs (R2.set q (Mo.mirR z)) q j) from
        ⟨by rw [← hRK]; rfl, by rw [← hRK]; simp [Mo.reC, Value.oneCell'], fun j hj => by rw [← hRK]; exact Mo.rec_set R2 q _ hrn j hj⟩)
       have HYS := qh hSA
       rw [hSA] at HY2
       rw [hRA] at HZ2
       simp only [hSA, hRA, hSK, hRK] at HMR
       have HMM := qh (show (Mo.MM w W2 x ⟨aRo, cRo, aT, cT, aP, cP, aS, cS, aG, cG⟩ s S2 T2 k2 k3 VB B3 g1 g2 c5 LL R2 x.sg.length r.length i q YB ZB SA RA) from ⟨HX2.out.am, HX2.out.s2, HX2.out.t2, by rw [← HG1.out]; exact HX2.out.vb, HY2.out, HZ2.out, ⟨_, HR1.out, fun _ _ _ _ _ => rfl⟩, ⟨_, HR2.out, fun _ _ _ _ _ => rfl⟩, HX2.out.lt⟩)
       have HHY := qh (show g1 ≠ YB ∧ g1 ≠ ZB ∧ g2 ≠ YB ∧ g2 ≠ ZB by have := HPQ.out; omega)
       have HHV := qh (show VB < g1 ∧ VB < g2 ∧ w.heap.size + 2 ≤ VB ∧ k2 < VB ∧ k3 < VB by have := HPQ.out; omega)
       have HNE := qh (show g1 ≠ g2 by have := HPQ.out; omega)
       obtain ⟨c6', hc6⟩ : ∃ c, c6 = c := ⟨_, rfl⟩
       clear hSA hRA hSK hRK hLL hln hrn hc6 c6'
       refine Kit.wp_region_vals3 17 [([(17, none)], none, true), ([(108, some 0)], none, true), ([(19, none)], none, true), ([(18, none)], none, true), ([(21, none)], none, true), ([(20, none)], none, true), ([(22, none)], none, true), ([(113, some 5), (114, some 6)], none, true), ([(115, some 7)], none, true), ([(107, some 8)], none, true), ([(107, some 8)], none, true), ([(107, some 8)], none, true), ([(109, some 1), (110, some 2)], none, true), ([(119, some 12), (116, some 9)], none, true), ([(111, some 3), (112, some 4)], none, true), ([(120, some 14), (117, some 10)], none, true), ([(118, some 11)], none, true)]
        [some 108, some 109, some 110, some 111, some 112, some 113, some 114, some 115, some 107, some 116, some 117, some 118, some 119, none, some 120, none, some 23] rfl (by kernel_rfl) (by kernel_rfl) (fun X => (Mo.MM w X x ⟨aRo, cRo, aT, cT, aP, cP, aS, cS, aG, cG⟩ s S2 T2 k2 k3 VB B3 g1 g2 c5 LL R2 x.sg.length r.length i q YB ZB SA RA)) (fun o A B => Mo.E8 g1 g2 o A B ∧ ((Mo.MM w A x ⟨aRo, cRo, aT, cT, aP, cP, aS, cS, aG, cG⟩ s S2 T2 k2 k3 VB B3 g1 g2 c5 LL R2 x.sg.length r.length i q YB ZB SA RA) → (Mo.MM w B x ⟨aRo, cRo, aT, cT, aP, cP, aS, cS, aG, cG⟩ s S2 T2 k2 k3 VB B3 g1 g2 c5 LL R2 x.sg.length r.length i q YB ZB SA RA))) (fun _ _ => false) (fun o u v X => match o with
        | 0 => v = .pointer (some ⟨VB, 10, none⟩)
        | 1 => v = .slice (some ⟨g1, 0, none⟩) x.sg.length c5
        | 2 => v = .int .i64 i
        | 3 => v = .slice (some ⟨g2, 0, none⟩) r.length c6
        | 4 => v = .int .i64 q
        | 5 => v = .agg SA
        | 6 => v = .agg RA
        | 7 => v = .tuple #[.agg SK, .agg RK, .bool true]
        | 8 => v = .tuple #[.agg SK, .agg RK, .bool true]
        | 9 => v = .agg SK
        | 10 => v = .agg RK
        | 11 => v = .bool true
        | 12 => v = .pointer (some ⟨g1, i * 14, none⟩)
        | 13 => Kit.Rw X g1 60 14 x.sg.length (Ex.sgc (LL.set i (Mo.mirK y)))
        | 14 => v = .pointer (some ⟨g2, q * 4, none⟩)
        | 15 => Kit.Rw X g2 69 4 r.length (Mo.rcs (R2.set q (Mo.mirR z)))
        | _ => v = .bool true)
        (by decide) (fun _ h k => k.2 h) (HMM.out.exc ((Kit.Exc.refl (fun _ => False) W2).drew) (fun _ h => h.elim) HHV.out HHY.out ⟨_, HR1.out.exc ((Kit.Exc.refl (fun _ => False) W2).drew) (fun h => h), fun _ _ _ _ _ => rfl⟩ ⟨_, HR2.out.exc ((Kit.Exc.refl (fun _ => False) W2).drew) (fun h => h), fun _ _ _ _ _ => rfl⟩) (fun _ X => ⟨Mo.E8.refl _ _ _ X, id⟩) ?hst ?hown ?_ ?_
       case hst =>
        intro o m u u' v A B ho hn hne _ hdep hu hA hE h3
        rcases m with _ | _ | _ | _ | _ | _ | _ | _ | _ | _ | _ | _ | _ | _ | _ | _ | m
        all_goals first
         | exact h3
         | exact Kit.Rw.exc h3 hE.1 (fun h => by have := HNE.out; have hl := Kit.Rw.lt h3; rcases h with h | h | h <;> first | exact hne h.1 | omega)
       case hown =>
        intro o u u' v X ho hu h3
        exact h3
       ·simp only [List.take_succ_cons, List.take_zero, Kit.StepsV3, Kit.VOp3, Kit.RdP3, true_and, if_true, and_true]
        refine ⟨?_, ?_, ?_, ?_, ?_, ?_, ?_, ?_, ?_, ?_, ?_, ?_, ?_, ?_, ?_, ?_, ?_⟩
        all_goals intro ev u X hx hv hc hf hg
        ·have hh : ev (.tmp 17) = .pointer (some ⟨VB, 0, none⟩) := hv.trans rfl
         simp [execOp, hh, hc, go_sem, Kit.UponV]
         exact Mo.E8.refl _ _ _ _
        ·have hh : ev (.tmp 108) = .pointer (some ⟨VB, 10, none⟩) := hv.1
         have c : X.cell? ⟨VB, 10, none⟩ = some (.slice (some ⟨g1, 0, none⟩) x.sg.length c5) := (hx.vb.cell 10).trans rfl
         simp [execOp, hh, c, hc, go_sem, Kit.UponV]
         exact Mo.E8.refl _ _ _ _
        ·have hh : ev (.tmp 19) = .int .i64 i := hv.trans rfl
         simp [execOp, hh, hc, go_sem, Kit.UponV]
         exact Mo.E8.refl _ _ _ _
        ·have hh : ev (.tmp 18) = .slice (some ⟨g2, 0, none⟩) r.length c6 := hv.trans rfl
         simp [execOp, hh, hc, go_sem, Kit.UponV]
         exact Mo.E8.refl _ _ _ _
        ·have hh : ev (.tmp 21) = .int .i64 q := hv.trans rfl
         simp [execOp, hh, hc, go_sem, Kit.UponV]
         exact Mo.E8.refl _ _ _ _
        ·rw [Kit.run_load_bk 60 (.tmp 20) rfl YB (by rw [hv]; rfl) hx.yb Tryz.underlying60 rfl HSA.out]
         exact ⟨rfl, Mo.E8.refl _ _ _ _, id⟩
        ·rw [Kit.run_load_bk 69 (.tmp 22) rfl ZB (by rw [hv]; rfl) hx.zb Tryz.underlying69 rfl HRA.out]
         exact ⟨rfl, Mo.E8.refl _ _ _ _, id⟩
        ·obtain ⟨⟨q1, _⟩, q2, _⟩ := hv
         have h113 : ev (.tmp 113) = .agg SA := q1
         have h114 : ev (.tmp 114) = .agg RA := q2
         simp [execOp, h113, h114, hc, hf, go_sem, Kit.UponV]
         refine (HMR.out X).mono ?_
         rintro e w3 ⟨rfl, hb⟩
         exact ⟨_, rfl, rfl, (Mo.exc_belowM hb).mono (fun k _ h => .inr (.inr h)), fun hM => hM.exc (Mo.exc_belowM hb) (fun k h => .inr (.inr h)) HHV.out HHY.out (Mo.Rw.off hM.sg (Mo.exc_belowM hb) (by obtain ⟨f, h, _⟩ := hM.sg; have := h.lt; omega)) (Mo.Rw.off hM.re (Mo.exc_belowM hb) (by obtain ⟨f, h, _⟩ := hM.re; have := h.lt; omega))⟩
        ·have hh : ev (.tmp 115) = .tuple #[.agg SK, .agg RK, .bool true] := hv.1
         simp [execOp, hh, hc, go_sem, Kit.UponV]
         exact Mo.E8.refl _ _ _ _
        ·have hh : ev (.tmp 107) = .tuple #[.agg SK, .agg RK, .bool true] := hv.1
         simp [execOp, hh, hc, go_sem, Kit.UponV]
         exact Mo.E8.refl _ _ _ _
        ·have hh : ev (.tmp 107) = .tuple #[.agg SK, .agg RK, .bool true] := hv.1
         simp [execOp, hh, hc, go_sem, Kit.UponV]
         exact Mo.E8.refl _ _ _ _
        ·have hh : ev (.tmp 107) = .tuple #[.agg SK, .agg RK, .bool true] := hv.1
         simp [execOp, hh, hc, go_sem, Kit.UponV]
         exact Mo.E8.refl _ _ _ _
        ·obtain ⟨⟨q1, _⟩, q2, _⟩ := hv
         rw [Mo.idx_sgM ev X _ _ _ _ (.tmp 109) (.tmp 110) ⟨g1, 0, none⟩ x.sg.length c5 i q1 q2 hlt]
         exact ⟨by rw [Addr.add_lit, Nat.zero_add], Mo.E8.refl _ _ _ _, id⟩
        ·obtain ⟨⟨q1, _⟩, q2, _⟩ := hv
         obtain ⟨f, hrw, hoff⟩ := hx.sg
         exact Kit.upon_store_rw _ _ _ rfl g1 i 14 x.sg.length q1 SK q2 hrw hlt HS1.out.1 HSK.out HS1.out.2.1 (Ex.sgc (LL.set i (Mo.mirK y))) HS1.out.2.2 (fun a j ha hn hj => by rw [hoff a j ha hn hj]; exact Mo.sgc_off LL i a _ hn j) fun W hW hX =>
          ⟨hW, hX.mono (fun k _ h => .inl ⟨rfl, h⟩), fun hM => hM.exc hX (fun k h => .inl h) HHV.out HHY.out ⟨_, hW, fun a j _ hn _ => Mo.sgc_off LL i a _ hn j⟩ (Mo.Rw.off hM.re hX (fun e => HNE.out e.symm))⟩
        ·obtain ⟨⟨q1, _⟩, q2, _⟩ := hv
         rw [Mo.idx_reM ev X _ _ _ _ (.tmp 111) (.tmp 112) ⟨g2, 0, none⟩ r.length c6 q q1 q2 hlq]
         exact ⟨by rw [Addr.add_lit, Nat.zero_add], Mo.E8.refl _ _ _ _, id⟩
        ·obtain ⟨⟨q1, _⟩, q2, _⟩ := hv
         obtain ⟨f, hrw, hoff⟩ := hx.re
         exact Kit.upon_store_rw _ _ _ rfl g2 q 4 r.length q1 RK q2 hrw hlq HS2.out.1 HRK.out HS2.out.2.1 (Mo.rcs (R2.set q (Mo.mirR z))) HS2.out.2.2 (fun a j ha hn hj => by rw [hoff a j ha hn hj]; exact Mo.rcs_off R2 q a _ hn j) fun W hW hX =>
          ⟨hW, hX.mono (fun k _ h => .inr (.inl ⟨rfl, h⟩)), fun hM => hM.exc hX (fun k h => .inr (.inl h)) HHV.out HHY.out (Mo.Rw.off hM.sg hX (fun e => HNE.out e)) ⟨_, hW, fun a j _ hn _ => Mo.rcs_off R2 q a _ hn j⟩⟩
        ·have hh : ev (.tmp 118) = .bool true := hv.1
         simp [execOp, hh, hc, go_sem, Kit.UponV]
         exact Mo.E8.refl _ _ _ _
       intro vs u W3 hy hv hx
       have v16 : vs 16 = .bool true := hv 16 omg (fun _ _ => rfl)
       have M1 := qh (show Kit.Rw W3 g1 60 14 x.sg.length (Ex.sgc (LL.set i (Mo.mirK y))) from hv 13 omg (fun _ _ => rfl))
       have M2 := qh (show Kit.Rw W3 g2 69 4 r.length (Mo.rcs (R2.set q (Mo.mirR z))) from hv 15 omg (fun _ _ => rfl))
       have HLS := qh (show LL.set i (Mo.mirK y) = (if true = true then (Mo.mrL x role bar i).set i (Mo.mirK y) else Mo.mrL x role bar i) by
        rw [← HLL.out, if_pos rfl]
        rcases hit with _ | _
        ·rw [if_neg (by decide)]
        ·rw [if_pos rfl, List.set_set])
       have HXN := qh (show Mo.MX w W3 x ⟨aRo, cRo, aT, cT, aP, cP, aS, cS, aG, cG⟩ s S2 T2 k2 k3 VB B1 B2 B3 (some ad) (some ⟨g2, 0, none⟩) c5 (if true = true then (Mo.mrL x role bar i).set i (Mo.mirK y) else Mo.mrL x role bar i) (R2.set q (Mo.mirR z)) x.sg.length r.length from
        ⟨hx.am, hx.s2, hx.t2, by rw [HG1.out]; exact hx.vb, .inr ⟨g1, by rw [HG1.out], HPG.out.1, HPG.out.2.1, by rw [← HLS.out]; exact M1.out⟩, .inr ⟨g2, rfl, HPG.out.2.2.1, HPG.out.2.2.2, M2.out⟩, hx.lt⟩)
       have HYN := qh (show Kit.Bk W3 YB 60 (Mo.sgC y).toArray by rw [HYS.out]; exact hx.yb)
       clear hv hy hx HMM HX2 HY2 HZ2 HR1 HR2 M1 M2 HMR
       simp only [Kit.putD, List.getD_cons_zero, List.getD_cons_succ, Act.put, v16, List.drop_succ_cons, List.drop_zero, List.drop_nil]
       clear v16
       generalize vs 0 = gg0 at *
       generalize vs 1 = gg1 at *
       generalize vs 2 = gg2 at *
       generalize vs 3 = gg3 at *
       generalize vs 4 = gg4 at *
       generalize vs 5 = gg5 at *
       generalize vs 6 = gg6 at *
       generalize vs 7 = gg7 at *
       generalize vs 8 = gg8 at *
       generalize vs 9 = gg9 at *
       generalize vs 10 = gg10 at *
       generalize vs 11 = gg11 at *
       generalize vs 12 = gg12 at *
       generalize vs 13 = gg13 at *
       generalize vs 14 = gg14 at *
       generalize vs 15 = gg15 at *
       go_simp
       go_wp2_with fail
       (refine Handed.intro (r.length - (q + 1)) ?_ ?_; omega; go_step; exact ⟨⟨q + 1, true, R2.set q (Mo.mirR z), by go_num, by omega, Nat.le_refl _, HXN, qh (HRQ.out.hit z HZE.out), HYN, qh (fun h => absurd h (by decide))⟩, by kernel_rfl⟩)
     ·obtain rfl : q = r.length := by omega
      have HT := qh (show hit = true by
       rcases hit with _ | _
       ·obtain ⟨b, hb, e⟩ := (Mo.mot_has HMT.out).1 y (List.mem_filter.2 ⟨HMY.out, HMF.out⟩)
        exact absurd e (HNH.out rfl b hb)
       ·rfl)
      go_wp2_with fail
      (refine Handed.intro (x.sg.length - (i + 1)) ?_ ?_; omega; go_step; exact ⟨⟨i + 1, R2, by go_num, by omega, Nat.le_refl _, qh (by
      have h := HXQ.out
      rw [HT.out, if_pos rfl] at h
      rw [← Mo.mrL_set x role bar i hlt y HYX.out]
      rw [show Mo.mirB role bar y = Mo.mirK y by unfold Mo.mirB; rw [if_pos HMF.out]]
      exact h), qh (HRQ.out.next hlt HYX.out (fun _ => ⟨rfl, rfl⟩))⟩, by kernel_rfl⟩)
   all_goals
    go_wp2_with fail
    (refine Handed.intro (x.sg.length - (i + 1)) ?_ ?_; omega; go_step; exact ⟨⟨i + 1, R, by go_num, by omega, Nat.le_refl _, qh (by rw [Mo.mrL_skip x role bar i hlt y HYX.out HMF.out]; exact HXJ.out), qh (HRI.out.next hlt HYX.out (fun h => by rw [HMF.out] at h; exact absurd h (by decide)))⟩, by kernel_rfl⟩)
  ·obtain rfl : i = x.sg.length := by omega
   have hRe := HRI.out.end HMT.out
   subst hRe
   rw [Mo.mrL_end] at HXI
   have HAV := qh (show Ex.At wr (Mo.mirW x role bar) ⟨aRo, cRo, aT, cT, aP, cP, aS, cS, a5, c5⟩ from by
    have h := HA.out.kept HXI.out.am.bel nlr
    have hsl := HXI.out.sg.sl
    exact ⟨h.ro, h.ts, h.ps, h.ss, by show Tp.Sl wr a5 (x.sg.map _).length 14 _; rw [List.length_map]; exact hsl, h.lro, h.lts, h.lps, h.lss, by show (x.sg.map _).length ≤ _; rw [List.length_map]; exact h.lsg⟩)
   have HOR := qh (show Tp.Sl wr a6 (r.map Mo.mirR).length 4 (Mo.rcs (r.map Mo.mirR)) by rw [List.length_map]; exact HXI.out.re.sl)
   have HV := qh (show Kit.Bk wr VB 32 (Mo.wkC (Mo.mirW x role bar) ⟨aRo, cRo, aT, cT, aP, cP, aS, cS, a5, c5⟩) from by
    have h := HXI.out.vb
    show Kit.Bk wr VB 32 (Mo.vC x _ (.slice a5 (x.sg.map _).length c5))
    rw [List.length_map]; exact h)
   have HEN2 := qh (by
    have h := HEN.out wr HXI.out.am.bel (Mo.mirW x role bar) ⟨aRo, cRo, aT, cT, aP, cP, aS, cS, a5, c5⟩ HAV.out S2 (r.map Mo.mirR) a6 c6 HOR.out
    rw [show (r.map Mo.mirR).length = r.length from List.length_map _] at h
    exact h)
   clear HEN HAV HOR hlt hk hi
   go_upto_region 29 with fail
   refine wp_region_lit ?_
   refine Kit.load_bk0 rfl 32 (.tmp 17) rfl VB rfl HV.out Tryz.underlying32 rfl (Mo.szQ _ _) ?_
   refine Kit.wpList_run rfl (.int .i64 role) _ rfl ?_
   refine Kit.wpList_run rfl (.int .i64 bar) _ rfl ?_
   refine Kit.load_bk0 rfl 37 (.tmp 13) rfl k2 rfl HXI.out.s2 Tryz.underlying37 rfl (Mo.szS S2) ?_
   simp only [Act.put]
   go_simp
   go_wp2_with fail
   refine HEN2.out.mono ?_
   rintro _ V9 ⟨⟨t9, e9, rfl, ht9⟩, hb⟩
   obtain ⟨rfl, rfl⟩ := Mo.end_uniq ht9 HED.out
   have HBE := qh (HXI.out.am.bel.trans (hb.mono HXI.out.am.bel.size))
   have Qk3 := qh (HXI.out.t2.below hb HXI.out.t2.lt)
   clear ht9 hb HXI HEN2 HV HRI
   go_upto_region 30 with fail
   refine Kit.wp_name ?_
   intro W9 hW
   have hbW : Below V9.heap.size V9 W9 := by rw [hW]; exact (Below.refl _ _).alloc nlr _
   have Qk4 := qh (show Kit.Bk W9 V9.heap.size 37 (Mo.stA t9) by rw [hW]; exact Kit.Bk.new _ _ _)
   have Qk5 := qh (Qk3.out.below hbW Qk3.out.lt)
   have HBF := qh (HBE.out.trans (hbW.mono HBE.out.size))
   obtain ⟨k4, hB⟩ : ∃ b, V9.heap.size = b := ⟨_, rfl⟩
   rw [hB] at Qk4 ⊢
   clear hW hB hbW Qk3 HBE
   have qk1 : ∀ j, W9.cell? ⟨k4, j, none⟩ = (Mo.stA t9)[j]? := fun j => Qk4.out.cell j
   have qk2 : ∀ j, W9.cell? ⟨k3, j, none⟩ = (Mo.stA t9)[j]? := fun j => Qk5.out.cell j
   have hq1 := fun W => Mo.eq_st t9 W
   go_wp2_with fail
   go_ret
   exact ⟨rfl, HBF.out⟩
end Go.Proofs.YtedolbjgdedoaaaGreatDoor
