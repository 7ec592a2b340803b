/- Walks: package motion: Sweep: from the way on. Walks: package motion: Sweep, whole. -/
import Derived.Test.YtedolbjgdedoaaaGreatDoorMpH
import Derived.Test.YtedolbjgdedoaaaGreatDoorMou
set_option linter.unusedSimpArgs false
set_option linter.unusedVariables false
set_option maxRecDepth 100000
set_option maxHeartbeats 8000000
namespace Go.Proofs.YtedolbjgdedoaaaGreatDoor
open Go.RowKit Go.Shelf
attribute [local go_sem] Oper.semAt_some
namespace Mo
theorem moved_snoc (r : List Uo.Re) (l : List Ex.Sg) (k : Ex.Sg) (i : Nat) : movedB r (l ++ [k]) i = (movedB r l i || (!(real r k.id).2.2.2 && moves k i)) := by
 unfold movedB
 rw [List.any_append]
 simp
theorem turns_snoc (r : List Uo.Re) (l : List Ex.Sg) (k : Ex.Sg) : turnsB r (l ++ [k]) = (turnsB r l || (!(real r k.id).2.2.2 && k.kind == 6)) := by
 unfold turnsB
 rw [List.any_append]
 simp
theorem take_get (l : List Ex.Sg) (i : Nat) (k : Ex.Sg) (h : l[i]? = some k) : l.take (i + 1) = l.take i ++ [k] := by
 obtain ⟨h1, h2⟩ := List.getElem?_eq_some_iff.1 h
 rw [List.take_succ_eq_append_getElem h1, h2]
theorem mv_drop {r : List Uo.Re} {l : List Ex.Sg} {k : Ex.Sg} (h : (real r k.id).2.2.2 = true) : mvA r (l ++ [k]) = mvA r l ∧ turnsB r (l ++ [k]) = turnsB r l := by
 unfold mvA
 simp [moved_snoc, turns_snoc, h]
theorem mv_none {r : List Uo.Re} {l : List Ex.Sg} {k : Ex.Sg} (hm : ∀ i, i < 5 → moves k i = false) : mvA r l = mvA r (l ++ [k]) := by
 unfold mvA
 simp [moved_snoc, hm]
theorem mv_one {r : List Uo.Re} {l : List Ex.Sg} {k : Ex.Sg} (h : (real r k.id).2.2.2 = false) (j : Nat) (hj : j < 5) (hm : ∀ i, i < 5 → moves k i = decide (i = j)) : (mvA r l).setIfInBounds j (.bool true) = mvA r (l ++ [k]) := by
 unfold mvA
 obtain rfl | rfl | rfl | rfl | rfl : j = 0 ∨ j = 1 ∨ j = 2 ∨ j = 3 ∨ j = 4 := by omega
 all_goals simp [moved_snoc, hm, h]
theorem mv_two {r : List Uo.Re} {l : List Ex.Sg} {k : Ex.Sg} (h : (real r k.id).2.2.2 = false) (j : Nat) (hj : j = 0 ∨ j = 2) (hm : ∀ i, i < 5 → moves k i = (decide (i = j) || decide (i = j + 1))) : ((mvA r l).setIfInBounds j (.bool true)).setIfInBounds (j + 1) (.bool true) = mvA r (l ++ [k]) := by
 unfold mvA
 obtain rfl | rfl := hj
 all_goals simp [moved_snoc, hm, h]
end Mo
theorem mo_sweep_0 (x : Ex.Wk) (p : Ex.Wa) (w : World) (hL : Ex.Laid w) (ha : Ex.At w x p) (role bar : Int) (s : Mo.St) (b : Un.Bd) (hnm : b.name.size ≤ 9223372036854775807) (r : List Uo.Re) (aR : Option Addr) (cR : Nat) (hR : Tp.Sl w aR r.length 4 (Mo.rcs r)) (hF : Uo.Flat w) (hK : Mo.KL w) (g1 : Mo.ofE x role bar = 0) (g2 : Mo.ok s = true) (g4 : Un.bok b = true) (g3 : Mo.mot (Mo.ofI x role bar) r = true) :
  Calls Tryz.prog 16 #[Ex.workV x p, .int .i64 role, .int .i64 bar, .agg (Mo.stA s), .agg (Un.bdA b), .slice aR r.length cR] w fun e w' => (∃ t er, e = .returned (.tuple #[.agg (Mo.bxA t), .int .i64 er]) ∧ Mo.SwR x role bar s b r t er) ∧ Below w.heap.size w w' := by
 have HOF := qh (fun W (hb : Below w.heap.size w W) => ex_of x p W (hL.kept hb nlr) (ha.kept hb nlr) role bar)
 have HPC := qh (fun W => po_check s W)
 have HBC := qh (fun W => bd_check b W hnm)
 have HR := qh hR
 have HG := qh (show Ex.chk x = 0 → Ex.Good x from Ex.good_of)
 have HOE := qh (show Mo.ofE x role bar = 0 → Ex.chk x = 0 from fun h => by
  unfold Mo.ofE at h
  split at h
  ·rename_i h1; exact absurd h h1
  ·rename_i h1; simpa using h1)
 have HRES := qh (fun t e (h : Mo.SwR x role bar s b r t e) => h)
 have HIO := qh (Mo.bxA_one Mo.Bx.zero)
 have HER := qh g1
 have HOKS := qh g2
 have HBKS := qh g4
 have HMOT := qh g3
 have HFL := qh hF
 have HKL := qh hK
 obtain ⟨aRo, cRo, aT, cT, aP, cP, aS, cS, aG, cG⟩ := p
 dsimp only [Ex.workV, Ex.wv]
 clear hL ha hR hnm g1 g2 g3 g4 hF hK
 refine Kit.calls_of_wp_marks Tryz.func16 rfl ?_
 simp only [Tryz.ntmps16, List.size_toArray, List.length_cons, List.length_nil, Nat.reduceAdd, Nat.reduceSub, Array.replicate_succ, Array.replicate_zero, List.push_toArray, List.append_toArray, List.nil_append, List.cons_append]
 go_upto_region 1 with fail
 refine Kit.wp_name ?_
 intro W1 hW1
 have HQ1 := qh (show Mo.SQ w W1 x ⟨aRo, cRo, aT, cT, aP, cP, aS, cS, aG, cG⟩ s b Mo.Bx.zero 0 by rw [hW1]; exact Mo.SQ.start w x ⟨aRo, cRo, aT, cT, aP, cP, aS, cS, aG, cG⟩ s b)
 clear hW1
 have wk1 : ∀ j, W1.cell? ⟨w.heap.size, j, none⟩ = (Mo.wkC x ⟨aRo, cRo, aT, cT, aP, cP, aS, cS, aG, cG⟩)[j]? := fun j => HQ1.out.wk.cell j
 go_wp2_with fail
 refine (HOF.out _ HQ1.out.bel).mono ?_
 rintro _ W2 ⟨⟨v, l, rfl, hof, hown⟩, hb2⟩
 have HQ2 := qh (HQ1.out.then hb2)
 have HOWN := qh (show W2.ownsRow W1.heap.size 60 14 v l.length (l.flatMap Mo.sgC) from hown)
 have HOFL := qh hof
 have HZ1 := qh (show w.heap.size + 5 ≤ W1.heap.size from HQ1.out.err.lt)
 have c3 : W2.cell? ⟨w.heap.size + 1 + 1 + 1 + 1, 0, none⟩ = some (.int .i64 0) := (HQ2.out.err.cell 0).trans rfl
 have f3 : W2.frozen? ⟨w.heap.size + 1 + 1 + 1 + 1, 0, none⟩ = false := HQ2.out.err.frozen 0
 clear hof hown hb2 HQ1 wk1 HOF
 rw [HER.out]
 have HGD := qh (HG.out (HOE.out HER.out))
 have HOF2 := qh (HOFL.out HER.out)
 clear HOFL HG HOE
 go_upto_region 4 with fail
 refine Kit.wp_name ?_
 intro W3 hW3
 have HX3 := qh (show Kit.Exc (fun j => j = w.heap.size + 4) W2 W3 by rw [hW3]; exact Kit.Exc.setCell (S := fun j => j = w.heap.size + 4) (p := ⟨w.heap.size + 1 + 1 + 1 + 1, 0, none⟩) (Kit.Exc.refl _ W2) (.inl rfl) _)
 have HQ3 := qh (show Mo.SQ w W3 x ⟨aRo, cRo, aT, cT, aP, cP, aS, cS, aG, cG⟩ s b Mo.Bx.zero 0 from HQ2.out.er HX3.out (by rw [hW3]; exact HQ2.out.err.put 0 (.int .i64 0) rfl))
 obtain ⟨aL, cL, rfl⟩ := Kit.own_shape HOWN.out
 obtain ⟨hsl, _, hslb⟩ := Kit.own_sl HOWN.out (Mo.sg_get l)
 have HSL := qh (show Tp.Sl W3 aL l.length 14 (Ex.sgc l) by
  rcases hsl with h | ⟨ad, h1, h2, h3⟩
  ·exact .inl h
  ·have := hslb ad h1
   refine .inr ⟨ad, h1, Nat.lt_of_lt_of_le h2 HX3.out.size, fun i j hi hj => (World.cell?_of_block (by rw [Tp.add_block]; exact HX3.out.block _ h2 (by have := HZ1.out; omega))).trans (h3 i j hi hj)⟩)
 clear hW3 c3 f3 hsl hslb HQ2 HOWN HX3
 have c0 : W3.cell? ⟨w.heap.size + 1, 0, none⟩ = some (.int .i64 s.x) := (HQ3.out.st.cell 0).trans rfl
 have c1 : W3.cell? ⟨w.heap.size + 1, 1, none⟩ = some (.int .i64 s.y) := (HQ3.out.st.cell 1).trans rfl
 have c2 : W3.cell? ⟨w.heap.size + 1, 2, none⟩ = some (.int .i64 s.f) := (HQ3.out.st.cell 2).trans rfl
 have c3 : W3.cell? ⟨w.heap.size + 1, 3, none⟩ = some (.int .i64 s.d0) := (HQ3.out.st.cell 3).trans rfl
 have c4 : W3.cell? ⟨w.heap.size + 1, 4, none⟩ = some (.int .i64 s.v0) := (HQ3.out.st.cell 4).trans rfl
 have c5 : W3.cell? ⟨w.heap.size + 1, 5, none⟩ = some (.int .i64 s.d1) := (HQ3.out.st.cell 5).trans rfl
 have c6 : W3.cell? ⟨w.heap.size + 1, 6, none⟩ = some (.int .i64 s.v1) := (HQ3.out.st.cell 6).trans rfl
 have c7 : W3.cell? ⟨w.heap.size + 1, 7, none⟩ = some (.int .i64 s.d2) := (HQ3.out.st.cell 7).trans rfl
 have c8 : W3.cell? ⟨w.heap.size + 1, 8, none⟩ = some (.int .i64 s.v2) := (HQ3.out.st.cell 8).trans rfl
 have c9 : W3.cell? ⟨w.heap.size + 1, 9, none⟩ = some (.int .i64 s.d3) := (HQ3.out.st.cell 9).trans rfl
 have c10 : W3.cell? ⟨w.heap.size + 1, 10, none⟩ = some (.int .i64 s.v3) := (HQ3.out.st.cell 10).trans rfl
 have c11 : W3.cell? ⟨w.heap.size + 1, 11, none⟩ = some (.int .i64 s.d4) := (HQ3.out.st.cell 11).trans rfl
 have c12 : W3.cell? ⟨w.heap.size + 1, 12, none⟩ = some (.int .i64 s.v4) := (HQ3.out.st.cell 12).trans rfl
 have hpc : Calls Tryz.prog 25 #[.agg (Mo.stA s)] W3 fun e w' => e = .returned (.int .i64 0) ∧ Below W3.heap.size W3 w' := by
  have h := HPC.out W3
  rw [if_pos HOKS.out] at h
  exact h
 have HPQ := qh hpc
 clear hpc
 go_wp2_with fail
 refine HPQ.out.mono ?_
 rintro _ W4 ⟨rfl, hb4⟩
 have HQ4 := qh (HQ3.out.then hb4)
 have HS4 := qh (HSL.out.kept hb4 nlr)
 clear hb4 c0 c1 c2 c3 c4 c5 c6 c7 c8 c9 c10 c11 c12 HPQ HQ3 HSL
 go_upto_region 7 with fail
 refine wp_region_lit ?_
 refine Kit.load_bk0 rfl 48 (.tmp 10) rfl (w.heap.size + 2) rfl HQ4.out.bd Tryz.underlying48 rfl (Mo.szD b) ?_
 simp only [Act.put]
 go_simp
 have hpc : Calls Tryz.prog 19 #[.agg (Un.bdA b)] W4 fun e w' => e = .returned (.int .i64 0) ∧ Below W4.heap.size W4 w' := by
  have h := HBC.out W4
  rw [if_pos HBKS.out] at h
  exact h
 have HPQ := qh hpc
 clear hpc
 go_wp2_with fail
 refine HPQ.out.mono ?_
 rintro _ W5 ⟨rfl, hb5⟩
 have HQ5 := qh (HQ4.out.then hb5)
 have HS5 := qh (HS4.out.kept hb5 nlr)
 clear hb5 HPQ HQ4 HS4
 have hlen : l.length ≤ 4096 := by
  rw [HOF2.out.perm.length_eq]
  exact Nat.le_trans (List.length_filter_le _ _) HGD.out.len
 have HSTP := qh (mo_steps (Mo.ofI x role bar) l r aL aR cL cR W5 HOF2.out.perm (Mo.ofI_lt HGD.out role bar) hlen HS5.out (HR.out.kept HQ5.out.bel nlr))
 have HLEN := qh hlen
 clear hlen
 go_wp2_with fail
 refine HSTP.out.mono ?_
 rintro _ W6 ⟨⟨v6, rfl, hown6⟩, hb6⟩
 have HQ6 := qh (HQ5.out.then hb6)
 have HOW6 := qh (hown6 HMOT.out)
 have HZ5 := qh (show w.heap.size + 5 ≤ W5.heap.size from HQ5.out.err.lt)
 clear hb6 HSTP hown6 HQ5 HS5
 rw [HMOT.out]
 go_upto_region 13 with fail
 obtain ⟨aM, cM, rfl⟩ := Kit.own_shape HOW6.out
 obtain ⟨hsm, hml, hsmb⟩ := Kit.Sv.of_own (enc := Mo.spC) Mo.spC_len (l := l.map fun k => (k, Mo.real r k.id)) (by have h := HOW6.out; rw [List.length_map]; exact h)
 have HSM := qh (show Kit.Sv W6 aM 18 Mo.spC (Mo.prs r l) from hsm)
 have HSMB := qh hsmb
 have HPL := qh (show (Mo.prs r l).length = l.length by unfold Mo.prs; rw [List.length_map])
 clear hsm hml hsmb HOW6
 go_upto_region 15 with fail
 refine Kit.wp_name ?_
 intro W7 hW7
 have HQ7 := qh (show Mo.SQ w W7 x ⟨aRo, cRo, aT, cT, aP, cP, aS, cS, aG, cG⟩ s b Mo.Bx.zero 0 by rw [hW7]; exact HQ6.out.then ((Below.refl _ _).alloc nlr _))
 have HS7 := qh (show Kit.Sv W7 aM 18 Mo.spC (Mo.prs r l) by rw [hW7]; exact HSM.out.alloc _)
 have HM7 := qh (show Kit.Bk W7 W6.heap.size 96 (Mo.mvA r []) by rw [hW7]; exact Kit.Bk.new _ _ _)
 have HZM := qh (show w.heap.size + 5 ≤ W6.heap.size ∧ W6.heap.size < W7.heap.size from ⟨HQ6.out.err.lt, HM7.out.lt⟩)
 have HNM := qh (show Mo.prs r l ≠ [] → ∀ ad, aM = some ad → ad.block ≠ W6.heap.size by
  intro hne ad e
  rcases HSM.out with h | ⟨ad', h1, h2, _⟩
  ·exact absurd h hne
  ·rw [h1] at e; cases e; omega)
 obtain ⟨MV, hMV⟩ : ∃ b, W6.heap.size = b := ⟨_, rfl⟩
 rw [hMV] at HM7 HZM HNM ⊢
 clear hW7 hMV
 go_wp2_with fail
 go_loopg [20, 74] l.length (fun kx v20 v74 wr => ∃ i : Nat, v20 = .bool (Mo.turnsB r (l.take i)) ∧ v74 = .int .i64 i ∧ i ≤ l.length ∧ l.length - i ≤ kx ∧ Hid (Mo.SQ w wr x ⟨aRo, cRo, aT, cT, aP, cP, aS, cS, aG, cG⟩ s b Mo.Bx.zero 0) ∧ Hid (Kit.Sv wr aM 18 Mo.spC (Mo.prs r l)) ∧ Hid (Kit.Bk wr MV 96 (Mo.mvA r (l.take i))) ∧ Hid (W7.heap.size ≤ wr.heap.size))
 case atStart => exact ⟨0, rfl, rfl, by omega, by omega, HQ7, HS7, HM7, qh nlr⟩
 case round =>
  obtain ⟨i, rfl, rfl, hi, hk, HQ, HSV, HMV, HWZ⟩ := hrel
  by_cases hlt : i < l.length
  ·have hltz : (i : Int) < (l.length : Int) := by omega
   have hll := HLEN.out
   have HNE := qh (show Mo.prs r l ≠ [] from fun h => by have h2 := HPL.out; rw [h] at h2; simp at h2; omega)
   obtain ⟨k, hk'⟩ : ∃ k, l[i]? = some k := ⟨_, List.getElem?_eq_getElem hlt⟩
   have hpx : (Mo.prs r l)[i]? = some (k, Mo.real r k.id) := by unfold Mo.prs; rw [List.getElem?_map, hk']; rfl
   obtain ⟨ad, rfl, hadb⟩ := HSV.out.isSome (by rw [HPL.out]; omega)
   obtain ⟨rk, hrk⟩ : ∃ y, Mo.real r k.id = y := ⟨_, rfl⟩
   have HRK := qh hrk
   rw [hrk] at hpx
   have HRUN := qh (HSV.out.run (by rw [HPL.out]; exact hlt) 98 (k, rk) hpx _ (Mo.spC_len (k, rk)) Tryz.underlying98 rfl (Mo.szP (k, rk)))
   have HTK := qh (Mo.take_get l i k hk')
   have HFT := qh (Mo.fit_of (HGD.out.oks k (List.mem_filter.1 ((HOF2.out.perm.mem_iff).1 (List.mem_of_getElem? hk'))).1))
   clear hk' hpx hadb hrk
   go_upto_region 17 with fail
   refine wp_region_lit ?_
   refine Kit.wpList_run rfl (.pointer (some (ad.add (i * 18)))) wr (Mo.idx_sp _ _ _ _ _ _ _ _ ad l.length cM i rfl rfl hlt) ?_
   refine Kit.wpList_run rfl (.agg (Mo.spC (k, rk)).toArray) wr (Kit.run_load_at 98 (.tmp 76) rfl _ rfl _ HRUN.out) ?_
   refine Kit.wpList_run rfl (.pointer (some ⟨wr.heap.size, 0, none⟩)) _ (Mo.alloc_sp _ _ _ _ _ _) ?_
   refine Kit.store_bk0 rfl 98 (.tmp 22) (.tmp 77) rfl wr.heap.size rfl (Mo.spC (k, rk)).toArray rfl (Kit.Bk.new wr _ _) rfl (Mo.szP (k, rk)) (Mo.spA_one (k, rk)) ?_
   intro W8 hb8 hx8
   have hbw : Below wr.heap.size wr W8 := (((Kit.Exc.refl (fun j => j = wr.heap.size) wr).alloc _).trans hx8).below nlr (fun j hj => by omega)
   have HQ8 := qh (HQ.out.then hbw)
   have HS8 := qh (HSV.out.then hbw)
   have HM8 := qh (HMV.out.below hbw HMV.out.lt)
   have HW8 := qh (Nat.le_trans HWZ.out hbw.size)
   have HX8 := qh hb8
   have HNB := qh (show MV ≠ wr.heap.size from Nat.ne_of_lt HMV.out.lt)
   obtain ⟨B8, hB8⟩ : ∃ b, wr.heap.size = b := ⟨_, rfl⟩
   rw [hB8] at HX8 HNB ⊢
   clear hb8 hx8 hbw hB8 HQ HSV HMV HWZ
   simp only [Act.put]
   go_simp
   have d4 : W8.cell? ⟨B8, 4, none⟩ = some (.int .i64 k.kind) := (HX8.out.cell 4).trans rfl
   have d5 : W8.cell? ⟨B8, 5, none⟩ = some (.int .i64 k.side) := (HX8.out.cell 5).trans rfl
   have d17 : W8.cell? ⟨B8, 17, none⟩ = some (.bool rk.2.2.2) := (HX8.out.cell 17).trans rfl
   rcases hdp : rk.2.2.2 with _ | _
   case' true =>
    rw [hdp] at d17
    have HDR := qh (Mo.mv_drop (r := r) (l := l.take i) (k := k) (by rw [HRK.out]; exact hdp))
    go_wp2_with fail
    go_roundg (l.length - (i + 1))
    case measure => omega
    case rel => exact ⟨i + 1, by rw [HTK.out, HDR.out.2], by go_num, by omega, Nat.le_refl _, HQ8, HS8, qh (by rw [HTK.out, HDR.out.1]; exact HM8.out), HW8⟩
   rw [hdp] at d17
   have HDP := qh (show (Mo.real r k.id).2.2.2 = false by rw [HRK.out]; exact hdp)
   have HTN := qh (show Mo.turnsB r (l.take (i + 1)) = (Mo.turnsB r (l.take i) || (k.kind == 6)) by rw [HTK.out, Mo.turns_snoc, HRK.out, hdp]; rfl)
   have m0 : W8.cell? ⟨MV, 0, none⟩ = some (.bool (Mo.movedB r (l.take i) 0)) := (HM8.out.cell 0).trans rfl
   have m1 : W8.cell? ⟨MV, 1, none⟩ = some (.bool (Mo.movedB r (l.take i) 1)) := (HM8.out.cell 1).trans rfl
   have m2 : W8.cell? ⟨MV, 2, none⟩ = some (.bool (Mo.movedB r (l.take i) 2)) := (HM8.out.cell 2).trans rfl
   have m3 : W8.cell? ⟨MV, 3, none⟩ = some (.bool (Mo.movedB r (l.take i) 3)) := (HM8.out.cell 3).trans rfl
   have m4 : W8.cell? ⟨MV, 4, none⟩ = some (.bool (Mo.movedB r (l.take i) 4)) := (HM8.out.cell 4).trans rfl
   have z0 := HM8.out.frozen 0
   have z1 := HM8.out.frozen 1
   have z2 := HM8.out.frozen 2
   have z3 := HM8.out.frozen 3
   have z4 := HM8.out.frozen 4
   have hnb := HNB.out
   have g0 : 0 ≠ MV := by have := HZM.out; have := HKL.out.1; omega
   clear hdp
   obtain ⟨tb, htb⟩ : ∃ t, Mo.turnsB r (l.take i) = t := ⟨_, rfl⟩
   rw [htb] at HTN ⊢
   clear htb
   have c9 : k.kind = 1 ∨ k.kind = 2 ∨ k.kind = 3 ∨ k.kind = 4 ∨ k.kind = 5 ∨ k.kind = 6 ∨ k.kind = 7 ∨ k.kind = 8 ∨ k.kind = 9 := by have := HFT.out.kind; omega
   have HSD := qh HFT.out.side
   rcases c9 with ek | ek | ek | ek | ek | ek | ek | ek | ek
   ·have hsd := HSD.out
    simp [ek] at hsd
    rcases (by omega : k.side = 1 ∨ k.side = 2) with es | es
    ·have hmv : ∀ j, j < 5 → Mo.moves k j = decide (j = 0) := by
      intro j hj
      unfold Mo.moves
      rw [ek, es]
      obtain rfl | rfl | rfl | rfl | rfl : j = 0 ∨ j = 1 ∨ j = 2 ∨ j = 3 ∨ j = 4 := by omega
      all_goals rfl
     have HMVX := qh hmv
     clear hmv
     obtain ⟨⟨a0, q0, t0, l0⟩, a1, q1, t1, l1⟩ := HKL.out.2 1 omg
     replace t0 := (HQ8.out.bel.cell (p := ⟨0, 2, none⟩) HKL.out.1).trans t0
     replace t1 := (HQ8.out.bel.cell (p := ⟨0, 3, none⟩) HKL.out.1).trans t1
     simp only [Mo.kL0, Mo.kL1, List.length_cons, List.length_nil, Nat.zero_add, Nat.reduceAdd, Nat.reduceMul] at t0 t1
     obtain ⟨ad0, rfl, hb0, hc0⟩ : ∃ ad, a0 = some ad ∧ ad.block < w.heap.size ∧ ∀ j, j < 1 → w.cell? (ad.add j) = some (.int .i64 (([0] : List Nat).getD j 0 : Nat)) := by
      rcases l0 with h | h
      ·cases h
      ·exact h
     have s00 : W8.cell? ad0 = some (.int .i64 0) := (HQ8.out.bel.cell hb0).trans (by have h := hc0 0 omg; simpa [Addr.add] using h)
     clear hc0 hb0
     clear l1
     have g1 := g0.symm
     rw [ek] at d4
     rw [es] at d5
     have HXX := qh (show Kit.Exc (fun j => j = MV) W8 (W8.setCell ⟨MV, 0, none⟩ (.bool true)) from Kit.Exc.setCell (S := fun j => j = MV) (p := ⟨MV, 0, none⟩) (Kit.Exc.refl (fun j => j = MV) W8) (.inl rfl) (.bool true))
     have HFB := qh (show Kit.Bk (W8.setCell ⟨MV, 0, none⟩ (.bool true)) MV 96 (Mo.mvA r (l.take (i + 1))) by rw [HTK.out]; exact HM8.out.put 0 (.bool true) (Mo.mv_one HDP.out 0 omg HMVX.out))
     rcases tb with _ | _
     all_goals
      go_wp2_with fail
      refine wp_loop_rounds 2 ?_
      rw [rounds_succ]
      go_wp2_with fail
      rw [rounds_succ]
      go_wp2_with fail
      refine wp_loop_rounds 1 ?_
      rw [rounds_succ]
      go_wp2_with fail
      go_roundg (l.length - (i + 1))
      case measure => omega
      case rel => exact ⟨i + 1, by rw [HTN.out, ek]; rfl, by go_num, by omega, Nat.le_refl _, qh (HQ8.out.exc HXX.out (fun k hk => by have := HZM.out; omega)), qh (HS8.out.exc HXX.out (fun ad' e => HNM.out HNE.out ad' e)), HFB, qh (Nat.le_trans HW8.out HXX.out.size)⟩
    ·have hmv : ∀ j, j < 5 → Mo.moves k j = decide (j = 1) := by
      intro j hj
      unfold Mo.moves
      rw [ek, es]
      obtain rfl | rfl | rfl | rfl | rfl : j = 0 ∨ j = 1 ∨ j = 2 ∨ j = 3 ∨ j = 4 := by omega
      all_goals rfl
     have HMVX := qh hmv
     clear hmv
     obtain ⟨⟨a0, q0, t0, l0⟩, a1, q1, t1, l1⟩ := HKL.out.2 1 omg
     replace t0 := (HQ8.out.bel.cell (p := ⟨0, 2, none⟩) HKL.out.1).trans t0
     replace t1 := (HQ8.out.bel.cell (p := ⟨0, 3, none⟩) HKL.out.1).trans t1
     simp only [Mo.kL0, Mo.kL1, List.length_cons, List.length_nil, Nat.zero_add, Nat.reduceAdd, Nat.reduceMul] at t0 t1
     obtain ⟨ad0, rfl, hb0, hc0⟩ : ∃ ad, a0 = some ad ∧ ad.block < w.heap.size ∧ ∀ j, j < 1 → w.cell? (ad.add j) = some (.int .i64 (([0] : List Nat).getD j 0 : Nat)) := by
      rcases l0 with h | h
      ·cases h
      ·exact h
     have s00 : W8.cell? ad0 = some (.int .i64 0) := (HQ8.out.bel.cell hb0).trans (by have h := hc0 0 omg; simpa [Addr.add] using h)
     clear hc0 hb0
     clear l1
     have g1 := g0.symm
     rw [ek] at d4
     rw [es] at d5
     have HXX := qh (show Kit.Exc (fun j => j = MV) W8 (W8.setCell ⟨MV, 1, none⟩ (.bool true)) from Kit.Exc.setCell (S := fun j => j = MV) (p := ⟨MV, 1, none⟩) (Kit.Exc.refl (fun j => j = MV) W8) (.inl rfl) (.bool true))
     have HFB := qh (show Kit.Bk (W8.setCell ⟨MV, 1, none⟩ (.bool true)) MV 96 (Mo.mvA r (l.take (i + 1))) by rw [HTK.out]; exact HM8.out.put 1 (.bool true) (Mo.mv_one HDP.out 1 omg HMVX.out))
     rcases tb with _ | _
     all_goals
      go_wp2_with fail
      refine wp_loop_rounds 2 ?_
      rw [rounds_succ]
      go_wp2_with fail
      rw [rounds_succ]
      go_wp2_with fail
      refine wp_loop_rounds 1 ?_
      rw [rounds_succ]
      go_wp2_with fail
      go_roundg (l.length - (i + 1))
      case measure => omega
      case rel => exact ⟨i + 1, by rw [HTN.out, ek]; rfl, by go_num, by omega, Nat.le_refl _, qh (HQ8.out.exc HXX.out (fun k hk => by have := HZM.out; omega)), qh (HS8.out.exc HXX.out (fun ad' e => HNM.out HNE.out ad' e)), HFB, qh (Nat.le_trans HW8.out HXX.out.size)⟩
   ·have hmv : ∀ j, j < 5 → Mo.moves k j = (decide (j = 0) || decide (j = 0 + 1)) := by
     intro j hj
     unfold Mo.moves
     rw [ek]
     obtain rfl | rfl | rfl | rfl | rfl : j = 0 ∨ j = 1 ∨ j = 2 ∨ j = 3 ∨ j = 4 := by omega
     all_goals rfl
    have HMVX := qh hmv
    clear hmv
    obtain ⟨⟨a0, q0, t0, l0⟩, a1, q1, t1, l1⟩ := HKL.out.2 2 omg
    replace t0 := (HQ8.out.bel.cell (p := ⟨0, 4, none⟩) HKL.out.1).trans t0
    replace t1 := (HQ8.out.bel.cell (p := ⟨0, 5, none⟩) HKL.out.1).trans t1
    simp only [Mo.kL0, Mo.kL1, List.length_cons, List.length_nil, Nat.zero_add, Nat.reduceAdd, Nat.reduceMul] at t0 t1
    clear l0
    obtain ⟨ad1, rfl, hb1, hc1⟩ : ∃ ad, a1 = some ad ∧ ad.block < w.heap.size ∧ ∀ j, j < 2 → w.cell? (ad.add j) = some (.int .i64 (([0, 1] : List Nat).getD j 0 : Nat)) := by
     rcases l1 with h | h
     ·cases h
     ·exact h
    have s10 : W8.cell? ad1 = some (.int .i64 0) := (HQ8.out.bel.cell hb1).trans (by have h := hc1 0 omg; simpa [Addr.add] using h)
    have s11 : W8.cell? ⟨ad1.block, ad1.off + 1, none⟩ = some (.int .i64 1) := (HQ8.out.bel.cell (p := ⟨ad1.block, ad1.off + 1, none⟩) hb1).trans (by have h := hc1 1 omg; simpa [Addr.add] using h)
    have nb11 : ad1.block ≠ MV := by have := HZM.out; omega
    clear hc1 hb1
    have g1 := g0.symm
    rw [ek] at d4
    have HXX := qh (show Kit.Exc (fun j => j = MV) W8 ((W8.setCell ⟨MV, 0, none⟩ (.bool true)).setCell ⟨MV, 1, none⟩ (.bool true)) from Kit.Exc.setCell (S := fun j => j = MV) (p := ⟨MV, 1, none⟩) (Kit.Exc.setCell (S := fun j => j = MV) (p := ⟨MV, 0, none⟩) (Kit.Exc.refl (fun j => j = MV) W8) (.inl rfl) (.bool true)) (.inl rfl) (.bool true))
    have HFB := qh (show Kit.Bk ((W8.setCell ⟨MV, 0, none⟩ (.bool true)).setCell ⟨MV, 1, none⟩ (.bool true)) MV 96 (Mo.mvA r (l.take (i + 1))) by rw [HTK.out]; exact (HM8.out.set 0 (.bool true)).put 1 (.bool true) (Mo.mv_two HDP.out 0 omg HMVX.out))
    rcases tb with _ | _
    all_goals
     go_wp2_with fail
     refine wp_loop_rounds 1 ?_
     rw [rounds_succ]
     go_wp2_with fail
     refine wp_loop_rounds 3 ?_
     rw [rounds_succ]
     go_wp2_with fail
     rw [rounds_succ]
     go_wp2_with fail
     rw [rounds_succ]
     go_wp2_with fail
     go_roundg (l.length - (i + 1))
     case measure => omega
     case rel => exact ⟨i + 1, by rw [HTN.out, ek]; rfl, by go_num, by omega, Nat.le_refl _, qh (HQ8.out.exc HXX.out (fun k hk => by have := HZM.out; omega)), qh (HS8.out.exc HXX.out (fun ad' e => HNM.out HNE.out ad' e)), HFB, qh (Nat.le_trans HW8.out HXX.out.size)⟩
   ·have hsd := HSD.out
    simp [ek] at hsd
    rcases (by omega : k.side = 1 ∨ k.side = 2) with es | es
    ·have hmv : ∀ j, j < 5 → Mo.moves k j = decide (j = 0) := by
      intro j hj
      unfold Mo.moves
      rw [ek, es]
      obtain rfl | rfl | rfl | rfl | rfl : j = 0 ∨ j = 1 ∨ j = 2 ∨ j = 3 ∨ j = 4 := by omega
      all_goals rfl
     have HMVX := qh hmv
     clear hmv
     obtain ⟨⟨a0, q0, t0, l0⟩, a1, q1, t1, l1⟩ := HKL.out.2 3 omg
     replace t0 := (HQ8.out.bel.cell (p := ⟨0, 6, none⟩) HKL.out.1).trans t0
     replace t1 := (HQ8.out.bel.cell (p := ⟨0, 7, none⟩) HKL.out.1).trans t1
     simp only [Mo.kL0, Mo.kL1, List.length_cons, List.length_nil, Nat.zero_add, Nat.reduceAdd, Nat.reduceMul] at t0 t1
     obtain ⟨ad0, rfl, hb0, hc0⟩ : ∃ ad, a0 = some ad ∧ ad.block < w.heap.size ∧ ∀ j, j < 1 → w.cell? (ad.add j) = some (.int .i64 (([0] : List Nat).getD j 0 : Nat)) := by
      rcases l0 with h | h
      ·cases h
      ·exact h
     have s00 : W8.cell? ad0 = some (.int .i64 0) := (HQ8.out.bel.cell hb0).trans (by have h := hc0 0 omg; simpa [Addr.add] using h)
     clear hc0 hb0
     clear l1
     have g1 := g0.symm
     rw [ek] at d4
     rw [es] at d5
     have HXX := qh (show Kit.Exc (fun j => j = MV) W8 (W8.setCell ⟨MV, 0, none⟩ (.bool true)) from Kit.Exc.setCell (S := fun j => j = MV) (p := ⟨MV, 0, none⟩) (Kit.Exc.refl (fun j => j = MV) W8) (.inl rfl) (.bool true))
     have HFB := qh (show Kit.Bk (W8.setCell ⟨MV, 0, none⟩ (.bool true)) MV 96 (Mo.mvA r (l.take (i + 1))) by rw [HTK.out]; exact HM8.out.put 0 (.bool true) (Mo.mv_one HDP.out 0 omg HMVX.out))
     rcases tb with _ | _
     all_goals
      go_wp2_with fail
      refine wp_loop_rounds 2 ?_
      rw [rounds_succ]
      go_wp2_with fail
      rw [rounds_succ]
      go_wp2_with fail
      refine wp_loop_rounds 1 ?_
      rw [rounds_succ]
      go_wp2_with fail
      go_roundg (l.length - (i + 1))
      case measure => omega
      case rel => exact ⟨i + 1, by rw [HTN.out, ek]; rfl, by go_num, by omega, Nat.le_refl _, qh (HQ8.out.exc HXX.out (fun k hk => by have := HZM.out; omega)), qh (HS8.out.exc HXX.out (fun ad' e => HNM.out HNE.out ad' e)), HFB, qh (Nat.le_trans HW8.out HXX.out.size)⟩
    ·have hmv : ∀ j, j < 5 → Mo.moves k j = decide (j = 1) := by
      intro j hj
      unfold Mo.moves
      rw [ek, es]
      obtain rfl | rfl | rfl | rfl | rfl : j = 0 ∨ j = 1 ∨ j = 2 ∨ j = 3 ∨ j = 4 := by omega
      all_goals rfl
     have HMVX := qh hmv
     clear hmv
     obtain ⟨⟨a0, q0, t0, l0⟩, a1, q1, t1, l1⟩ := HKL.out.2 3 omg
     replace t0 := (HQ8.out.bel.cell (p := ⟨0, 6, none⟩) HKL.out.1).trans t0
     replace t1 := (HQ8.out.bel.cell (p := ⟨0, 7, none⟩) HKL.out.1).trans t1
     simp only [Mo.kL0, Mo.kL1, List.length_cons, List.length_nil, Nat.zero_add, Nat.reduceAdd, Nat.reduceMul] at t0 t1
     obtain ⟨ad0, rfl, hb0, hc0⟩ : ∃ ad, a0 = some ad ∧ ad.block < w.heap.size ∧ ∀ j, j < 1 → w.cell? (ad.add j) = some (.int .i64 (([0] : List Nat).getD j 0 : Nat)) := by
      rcases l0 with h | h
      ·cases h
      ·exact h
     have s00 : W8.cell? ad0 = some (.int .i64 0) := (HQ8.out.bel.cell hb0).trans (by have h := hc0 0 omg; simpa [Addr.add] using h)
     clear hc0 hb0
     clear l1
     have g1 := g0.symm
     rw [ek] at d4
     rw [es] at d5
     have HXX := qh (show Kit.Exc (fun j => j = MV) W8 (W8.setCell ⟨MV, 1, none⟩ (.bool true)) from Kit.Exc.setCell (S := fun j => j = MV) (p := ⟨MV, 1, none⟩) (Kit.Exc.refl (fun j => j = MV) W8) (.inl rfl) (.bool true))
     have HFB := qh (show Kit.Bk (W8.setCell ⟨MV, 1, none⟩ (.bool true)) MV 96 (Mo.mvA r (l.take (i + 1))) by rw [HTK.out]; exact HM8.out.put 1 (.bool true) (Mo.mv_one HDP.out 1 omg HMVX.out))
     rcases tb with _ | _
     all_goals
      go_wp2_with fail
      refine wp_loop_rounds 2 ?_
      rw [rounds_succ]
      go_wp2_with fail
      rw [rounds_succ]
      go_wp2_with fail
      refine wp_loop_rounds 1 ?_
      rw [rounds_succ]
      go_wp2_with fail
      go_roundg (l.length - (i + 1))
      case measure => omega
      case rel => exact ⟨i + 1, by rw [HTN.out, ek]; rfl, by go_num, by omega, Nat.le_refl _, qh (HQ8.out.exc HXX.out (fun k hk => by have := HZM.out; omega)), qh (HS8.out.exc HXX.out (fun ad' e => HNM.out HNE.out ad' e)), HFB, qh (Nat.le_trans HW8.out HXX.out.size)⟩
   ·have hsd := HSD.out
    simp [ek] at hsd
    rcases (by omega : k.side = 1 ∨ k.side = 2) with es | es
    ·have hmv : ∀ j, j < 5 → Mo.moves k j = decide (j = 2) := by
      intro j hj
      unfold Mo.moves
      rw [ek, es]
      obtain rfl | rfl | rfl | rfl | rfl : j = 0 ∨ j = 1 ∨ j = 2 ∨ j = 3 ∨ j = 4 := by omega
      all_goals rfl
     have HMVX := qh hmv
     clear hmv
     obtain ⟨⟨a0, q0, t0, l0⟩, a1, q1, t1, l1⟩ := HKL.out.2 4 omg
     replace t0 := (HQ8.out.bel.cell (p := ⟨0, 8, none⟩) HKL.out.1).trans t0
     replace t1 := (HQ8.out.bel.cell (p := ⟨0, 9, none⟩) HKL.out.1).trans t1
     simp only [Mo.kL0, Mo.kL1, List.length_cons, List.length_nil, Nat.zero_add, Nat.reduceAdd, Nat.reduceMul] at t0 t1
     obtain ⟨ad0, rfl, hb0, hc0⟩ : ∃ ad, a0 = some ad ∧ ad.block < w.heap.size ∧ ∀ j, j < 1 → w.cell? (ad.add j) = some (.int .i64 (([2] : List Nat).getD j 0 : Nat)) := by
      rcases l0 with h | h
      ·cases h
      ·exact h
     have s00 : W8.cell? ad0 = some (.int .i64 2) := (HQ8.out.bel.cell hb0).trans (by have h := hc0 0 omg; simpa [Addr.add] using h)
     clear hc0 hb0
     clear l1
     have g1 := g0.symm
     rw [ek] at d4
     rw [es] at d5
     have HXX := qh (show Kit.Exc (fun j => j = MV) W8 (W8.setCell ⟨MV, 2, none⟩ (.bool true)) from Kit.Exc.setCell (S := fun j => j = MV) (p := ⟨MV, 2, none⟩) (Kit.Exc.refl (fun j => j = MV) W8) (.inl rfl) (.bool true))
     have HFB := qh (show Kit.Bk (W8.setCell ⟨MV, 2, none⟩ (.bool true)) MV 96 (Mo.mvA r (l.take (i + 1))) by rw [HTK.out]; exact HM8.out.put 2 (.bool true) (Mo.mv_one HDP.out 2 omg HMVX.out))
     rcases tb with _ | _
     all_goals
      go_wp2_with fail
      refine wp_loop_rounds 2 ?_
      rw [rounds_succ]
      go_wp2_with fail
      rw [rounds_succ]
      go_wp2_with fail
      refine wp_loop_rounds 1 ?_
      rw [rounds_succ]
      go_wp2_with fail
      go_roundg (l.length - (i + 1))
      case measure => omega
      case rel => exact ⟨i + 1, by rw [HTN.out, ek]; rfl, by go_num, by omega, Nat.le_refl _, qh (HQ8.out.exc HXX.out (fun k hk => by have := HZM.out; omega)), qh (HS8.out.exc HXX.out (fun ad' e => HNM.out HNE.out ad' e)), HFB, qh (Nat.le_trans HW8.out HXX.out.size)⟩
    ·have hmv : ∀ j, j < 5 → Mo.moves k j = decide (j = 3) := by
      intro j hj
      unfold Mo.moves
      rw [ek, es]
      obtain rfl | rfl | rfl | rfl | rfl : j = 0 ∨ j = 1 ∨ j = 2 ∨ j = 3 ∨ j = 4 := by omega
      all_goals rfl
     have HMVX := qh hmv
     clear hmv
     obtain ⟨⟨a0, q0, t0, l0⟩, a1, q1, t1, l1⟩ := HKL.out.2 4 omg
     replace t0 := (HQ8.out.bel.cell (p := ⟨0, 8, none⟩) HKL.out.1).trans t0
     replace t1 := (HQ8.out.bel.cell (p := ⟨0, 9, none⟩) HKL.out.1).trans t1
     simp only [Mo.kL0, Mo.kL1, List.length_cons, List.length_nil, Nat.zero_add, Nat.reduceAdd, Nat.reduceMul] at t0 t1
     obtain ⟨ad0, rfl, hb0, hc0⟩ : ∃ ad, a0 = some ad ∧ ad.block < w.heap.size ∧ ∀ j, j < 1 → w.cell? (ad.add j) = some (.int .i64 (([2] : List Nat).getD j 0 : Nat)) := by
      rcases l0 with h | h
      ·cases h
      ·exact h
     have s00 : W8.cell? ad0 = some (.int .i64 2) := (HQ8.out.bel.cell hb0).trans (by have h := hc0 0 omg; simpa [Addr.add] using h)
     clear hc0 hb0
     clear l1
     have g1 := g0.symm
     rw [ek] at d4
     rw [es] at d5
     have HXX := qh (show Kit.Exc (fun j => j = MV) W8 (W8.setCell ⟨MV, 3, none⟩ (.bool true)) from Kit.Exc.setCell (S := fun j => j = MV) (p := ⟨MV, 3, none⟩) (Kit.Exc.refl (fun j => j = MV) W8) (.inl rfl) (.bool true))
     have HFB := qh (show Kit.Bk (W8.setCell ⟨MV, 3, none⟩ (.bool true)) MV 96 (Mo.mvA r (l.take (i + 1))) by rw [HTK.out]; exact HM8.out.put 3 (.bool true) (Mo.mv_one HDP.out 3 omg HMVX.out))
     rcases tb with _ | _
     all_goals
      go_wp2_with fail
      refine wp_loop_rounds 2 ?_
      rw [rounds_succ]
      go_wp2_with fail
      rw [rounds_succ]
      go_wp2_with fail
      refine wp_loop_rounds 1 ?_
      rw [rounds_succ]
      go_wp2_with fail
      go_roundg (l.length - (i + 1))
      case measure => omega
      case rel => exact ⟨i + 1, by rw [HTN.out, ek]; rfl, by go_num, by omega, Nat.le_refl _, qh (HQ8.out.exc HXX.out (fun k hk => by have := HZM.out; omega)), qh (HS8.out.exc HXX.out (fun ad' e => HNM.out HNE.out ad' e)), HFB, qh (Nat.le_trans HW8.out HXX.out.size)⟩
   ·have hmv : ∀ j, j < 5 → Mo.moves k j = decide (j = 4) := by
     intro j hj
     unfold Mo.moves
     rw [ek]
     obtain rfl | rfl | rfl | rfl | rfl : j = 0 ∨ j = 1 ∨ j = 2 ∨ j = 3 ∨ j = 4 := by omega
     all_goals rfl
    have HMVX := qh hmv
    clear hmv
    obtain ⟨⟨a0, q0, t0, l0⟩, a1, q1, t1, l1⟩ := HKL.out.2 5 omg
    replace t0 := (HQ8.out.bel.cell (p := ⟨0, 10, none⟩) HKL.out.1).trans t0
    replace t1 := (HQ8.out.bel.cell (p := ⟨0, 11, none⟩) HKL.out.1).trans t1
    simp only [Mo.kL0, Mo.kL1, List.length_cons, List.length_nil, Nat.zero_add, Nat.reduceAdd, Nat.reduceMul] at t0 t1
    clear l0
    obtain ⟨ad1, rfl, hb1, hc1⟩ : ∃ ad, a1 = some ad ∧ ad.block < w.heap.size ∧ ∀ j, j < 1 → w.cell? (ad.add j) = some (.int .i64 (([4] : List Nat).getD j 0 : Nat)) := by
     rcases l1 with h | h
     ·cases h
     ·exact h
    have s10 : W8.cell? ad1 = some (.int .i64 4) := (HQ8.out.bel.cell hb1).trans (by have h := hc1 0 omg; simpa [Addr.add] using h)
    clear hc1 hb1
    have g1 := g0.symm
    rw [ek] at d4
    have HXX := qh (show Kit.Exc (fun j => j = MV) W8 (W8.setCell ⟨MV, 4, none⟩ (.bool true)) from Kit.Exc.setCell (S := fun j => j = MV) (p := ⟨MV, 4, none⟩) (Kit.Exc.refl (fun j => j = MV) W8) (.inl rfl) (.bool true))
    have HFB := qh (show Kit.Bk (W8.setCell ⟨MV, 4, none⟩ (.bool true)) MV 96 (Mo.mvA r (l.take (i + 1))) by rw [HTK.out]; exact HM8.out.put 4 (.bool true) (Mo.mv_one HDP.out 4 omg HMVX.out))
    rcases tb with _ | _
    all_goals
     go_wp2_with fail
     refine wp_loop_rounds 1 ?_
     rw [rounds_succ]
     go_wp2_with fail
     refine wp_loop_rounds 2 ?_
     rw [rounds_succ]
     go_wp2_with fail
     rw [rounds_succ]
     go_wp2_with fail
     go_roundg (l.length - (i + 1))
     case measure => omega
     case rel => exact ⟨i + 1, by rw [HTN.out, ek]; rfl, by go_num, by omega, Nat.le_refl _, qh (HQ8.out.exc HXX.out (fun k hk => by have := HZM.out; omega)), qh (HS8.out.exc HXX.out (fun ad' e => HNM.out HNE.out ad' e)), HFB, qh (Nat.le_trans HW8.out HXX.out.size)⟩
   ·have hmv : ∀ j, j < 5 → Mo.moves k j = false := by
     intro j hj
     unfold Mo.moves
     rw [ek]
     obtain rfl | rfl | rfl | rfl | rfl : j = 0 ∨ j = 1 ∨ j = 2 ∨ j = 3 ∨ j = 4 := by omega
     all_goals rfl
    have HMVX := qh hmv
    clear hmv
    obtain ⟨⟨a0, q0, t0, l0⟩, a1, q1, t1, l1⟩ := HKL.out.2 6 omg
    replace t0 := (HQ8.out.bel.cell (p := ⟨0, 12, none⟩) HKL.out.1).trans t0
    replace t1 := (HQ8.out.bel.cell (p := ⟨0, 13, none⟩) HKL.out.1).trans t1
    simp only [Mo.kL0, Mo.kL1, List.length_cons, List.length_nil, Nat.zero_add, Nat.reduceAdd, Nat.reduceMul] at t0 t1
    clear l0
    clear l1
    have g1 := g0.symm
    rw [ek] at d4
    have HXX := qh (show Kit.Exc (fun j => j = MV) W8 W8 from Kit.Exc.refl (fun j => j = MV) W8)
    have HFB := qh (show Kit.Bk W8 MV 96 (Mo.mvA r (l.take (i + 1))) by rw [HTK.out, ← Mo.mv_none HMVX.out]; exact HM8.out)
    rcases tb with _ | _
    all_goals
     go_wp2_with fail
     refine wp_loop_rounds 1 ?_
     rw [rounds_succ]
     go_wp2_with fail
     refine wp_loop_rounds 1 ?_
     rw [rounds_succ]
     go_wp2_with fail
     go_roundg (l.length - (i + 1))
     case measure => omega
     case rel => exact ⟨i + 1, by rw [HTN.out, ek]; rfl, by go_num, by omega, Nat.le_refl _, qh (HQ8.out.exc HXX.out (fun k hk => by have := HZM.out; omega)), qh (HS8.out.exc HXX.out (fun ad' e => HNM.out HNE.out ad' e)), HFB, qh (Nat.le_trans HW8.out HXX.out.size)⟩
   ·have hmv : ∀ j, j < 5 → Mo.moves k j = (decide (j = 2) || decide (j = 2 + 1)) := by
     intro j hj
     unfold Mo.moves
     rw [ek]
     obtain rfl | rfl | rfl | rfl | rfl : j = 0 ∨ j = 1 ∨ j = 2 ∨ j = 3 ∨ j = 4 := by omega
     all_goals rfl
    have HMVX := qh hmv
    clear hmv
    obtain ⟨⟨a0, q0, t0, l0⟩, a1, q1, t1, l1⟩ := HKL.out.2 7 omg
    replace t0 := (HQ8.out.bel.cell (p := ⟨0, 14, none⟩) HKL.out.1).trans t0
    replace t1 := (HQ8.out.bel.cell (p := ⟨0, 15, none⟩) HKL.out.1).trans t1
    simp only [Mo.kL0, Mo.kL1, List.length_cons, List.length_nil, Nat.zero_add, Nat.reduceAdd, Nat.reduceMul] at t0 t1
    clear l0
    obtain ⟨ad1, rfl, hb1, hc1⟩ : ∃ ad, a1 = some ad ∧ ad.block < w.heap.size ∧ ∀ j, j < 2 → w.cell? (ad.add j) = some (.int .i64 (([2, 3] : List Nat).getD j 0 : Nat)) := by
     rcases l1 with h | h
     ·cases h
     ·exact h
    have s10 : W8.cell? ad1 = some (.int .i64 2) := (HQ8.out.bel.cell hb1).trans (by have h := hc1 0 omg; simpa [Addr.add] using h)
    have s11 : W8.cell? ⟨ad1.block, ad1.off + 1, none⟩ = some (.int .i64 3) := (HQ8.out.bel.cell (p := ⟨ad1.block, ad1.off + 1, none⟩) hb1).trans (by have h := hc1 1 omg; simpa [Addr.add] using h)
    have nb11 : ad1.block ≠ MV := by have := HZM.out; omega
    clear hc1 hb1
    have g1 := g0.symm
    rw [ek] at d4
    have HXX := qh (show Kit.Exc (fun j => j = MV) W8 ((W8.setCell ⟨MV, 2, none⟩ (.bool true)).setCell ⟨MV, 3, none⟩ (.bool true)) from Kit.Exc.setCell (S := fun j => j = MV) (p := ⟨MV, 3, none⟩) (Kit.Exc.setCell (S := fun j => j = MV) (p := ⟨MV, 2, none⟩) (Kit.Exc.refl (fun j => j = MV) W8) (.inl rfl) (.bool true)) (.inl rfl) (.bool true))
    have HFB := qh (show Kit.Bk ((W8.setCell ⟨MV, 2, none⟩ (.bool true)).setCell ⟨MV, 3, none⟩ (.bool true)) MV 96 (Mo.mvA r (l.take (i + 1))) by rw [HTK.out]; exact (HM8.out.set 2 (.bool true)).put 3 (.bool true) (Mo.mv_two HDP.out 2 omg HMVX.out))
    rcases tb with _ | _
    all_goals
     go_wp2_with fail
     refine wp_loop_rounds 1 ?_
     rw [rounds_succ]
     go_wp2_with fail
     refine wp_loop_rounds 3 ?_
     rw [rounds_succ]
     go_wp2_with fail
     rw [rounds_succ]
     go_wp2_with fail
     rw [rounds_succ]
     go_wp2_with fail
     go_roundg (l.length - (i + 1))
     case measure => omega
     case rel => exact ⟨i + 1, by rw [HTN.out, ek]; rfl, by go_num, by omega, Nat.le_refl _, qh (HQ8.out.exc HXX.out (fun k hk => by have := HZM.out; omega)), qh (HS8.out.exc HXX.out (fun ad' e => HNM.out HNE.out ad' e)), HFB, qh (Nat.le_trans HW8.out HXX.out.size)⟩
   ·have hmv : ∀ j, j < 5 → Mo.moves k j = (decide (j = 0) || decide (j = 0 + 1)) := by
     intro j hj
     unfold Mo.moves
     rw [ek]
     obtain rfl | rfl | rfl | rfl | rfl : j = 0 ∨ j = 1 ∨ j = 2 ∨ j = 3 ∨ j = 4 := by omega
     all_goals rfl
    have HMVX := qh hmv
    clear hmv
    obtain ⟨⟨a0, q0, t0, l0⟩, a1, q1, t1, l1⟩ := HKL.out.2 8 omg
    replace t0 := (HQ8.out.bel.cell (p := ⟨0, 16, none⟩) HKL.out.1).trans t0
    replace t1 := (HQ8.out.bel.cell (p := ⟨0, 17, none⟩) HKL.out.1).trans t1
    simp only [Mo.kL0, Mo.kL1, List.length_cons, List.length_nil, Nat.zero_add, Nat.reduceAdd, Nat.reduceMul] at t0 t1
    clear l0
    obtain ⟨ad1, rfl, hb1, hc1⟩ : ∃ ad, a1 = some ad ∧ ad.block < w.heap.size ∧ ∀ j, j < 2 → w.cell? (ad.add j) = some (.int .i64 (([0, 1] : List Nat).getD j 0 : Nat)) := by
     rcases l1 with h | h
     ·cases h
     ·exact h
    have s10 : W8.cell? ad1 = some (.int .i64 0) := (HQ8.out.bel.cell hb1).trans (by have h := hc1 0 omg; simpa [Addr.add] using h)
    have s11 : W8.cell? ⟨ad1.block, ad1.off + 1, none⟩ = some (.int .i64 1) := (HQ8.out.bel.cell (p := ⟨ad1.block, ad1.off + 1, none⟩) hb1).trans (by have h := hc1 1 omg; simpa [Addr.add] using h)
    have nb11 : ad1.block ≠ MV := by have := HZM.out; omega
    clear hc1 hb1
    have g1 := g0.symm
    rw [ek] at d4
    have HXX := qh (show Kit.Exc (fun j => j = MV) W8 ((W8.setCell ⟨MV, 0, none⟩ (.bool true)).setCell ⟨MV, 1, none⟩ (.bool true)) from Kit.Exc.setCell (S := fun j => j = MV) (p := ⟨MV, 1, none⟩) (Kit.Exc.setCell (S := fun j => j = MV) (p := ⟨MV, 0, none⟩) (Kit.Exc.refl (fun j => j = MV) W8) (.inl rfl) (.bool true)) (.inl rfl) (.bool true))
    have HFB := qh (show Kit.Bk ((W8.setCell ⟨MV, 0, none⟩ (.bool true)).setCell ⟨MV, 1, none⟩ (.bool true)) MV 96 (Mo.mvA r (l.take (i + 1))) by rw [HTK.out]; exact (HM8.out.set 0 (.bool true)).put 1 (.bool true) (Mo.mv_two HDP.out 0 omg HMVX.out))
    rcases tb with _ | _
    all_goals
     go_wp2_with fail
     refine wp_loop_rounds 1 ?_
     rw [rounds_succ]
     go_wp2_with fail
     refine wp_loop_rounds 3 ?_
     rw [rounds_succ]
     go_wp2_with fail
     rw [rounds_succ]
     go_wp2_with fail
     rw [rounds_succ]
     go_wp2_with fail
     go_roundg (l.length - (i + 1))
     case measure => omega
     case rel => exact ⟨i + 1, by rw [HTN.out, ek]; rfl, by go_num, by omega, Nat.le_refl _, qh (HQ8.out.exc HXX.out (fun k hk => by have := HZM.out; omega)), qh (HS8.out.exc HXX.out (fun ad' e => HNM.out HNE.out ad' e)), HFB, qh (Nat.le_trans HW8.out HXX.out.size)⟩
   ·have hsd := HSD.out
    simp [ek] at hsd
    rcases (by omega : k.side = 1 ∨ k.side = 2) with es | es
    ·have hmv : ∀ j, j < 5 → Mo.moves k j = decide (j = 2) := by
      intro j hj
      unfold Mo.moves
      rw [ek, es]
      obtain rfl | rfl | rfl | rfl | rfl : j = 0 ∨ j = 1 ∨ j = 2 ∨ j = 3 ∨ j = 4 := by omega
      all_goals rfl
     have HMVX := qh hmv
     clear hmv
     obtain ⟨⟨a0, q0, t0, l0⟩, a1, q1, t1, l1⟩ := HKL.out.2 9 omg
     replace t0 := (HQ8.out.bel.cell (p := ⟨0, 18, none⟩) HKL.out.1).trans t0
     replace t1 := (HQ8.out.bel.cell (p := ⟨0, 19, none⟩) HKL.out.1).trans t1
     simp only [Mo.kL0, Mo.kL1, List.length_cons, List.length_nil, Nat.zero_add, Nat.reduceAdd, Nat.reduceMul] at t0 t1
     obtain ⟨ad0, rfl, hb0, hc0⟩ : ∃ ad, a0 = some ad ∧ ad.block < w.heap.size ∧ ∀ j, j < 1 → w.cell? (ad.add j) = some (.int .i64 (([2] : List Nat).getD j 0 : Nat)) := by
      rcases l0 with h | h
      ·cases h
      ·exact h
     have s00 : W8.cell? ad0 = some (.int .i64 2) := (HQ8.out.bel.cell hb0).trans (by have h := hc0 0 omg; simpa [Addr.add] using h)
     clear hc0 hb0
     clear l1
     have g1 := g0.symm
     rw [ek] at d4
     rw [es] at d5
     have HXX := qh (show Kit.Exc (fun j => j = MV) W8 (W8.setCell ⟨MV, 2, none⟩ (.bool true)) from Kit.Exc.setCell (S := fun j => j = MV) (p := ⟨MV, 2, none⟩) (Kit.Exc.refl (fun j => j = MV) W8) (.inl rfl) (.bool true))
     have HFB := qh (show Kit.Bk (W8.setCell ⟨MV, 2, none⟩ (.bool true)) MV 96 (Mo.mvA r (l.take (i + 1))) by rw [HTK.out]; exact HM8.out.put 2 (.bool true) (Mo.mv_one HDP.out 2 omg HMVX.out))
     rcases tb with _ | _
     all_goals
      go_wp2_with fail
      refine wp_loop_rounds 2 ?_
      rw [rounds_succ]
      go_wp2_with fail
      rw [rounds_succ]
      go_wp2_with fail
      refine wp_loop_rounds 1 ?_
      rw [rounds_succ]
      go_wp2_with fail
      go_roundg (l.length - (i + 1))
      case measure => omega
      case rel => exact ⟨i + 1, by rw [HTN.out, ek]; rfl, by go_num, by omega, Nat.le_refl _, qh (HQ8.out.exc HXX.out (fun k hk => by have := HZM.out; omega)), qh (HS8.out.exc HXX.out (fun ad' e => HNM.out HNE.out ad' e)), HFB, qh (Nat.le_trans HW8.out HXX.out.size)⟩
    ·have hmv : ∀ j, j < 5 → Mo.moves k j = decide (j = 3) := by
      intro j hj
      unfold Mo.moves
      rw [ek, es]
      obtain rfl | rfl | rfl | rfl | rfl : j = 0 ∨ j = 1 ∨ j = 2 ∨ j = 3 ∨ j = 4 := by omega
      all_goals rfl
     have HMVX := qh hmv
     clear hmv
     obtain ⟨⟨a0, q0, t0, l0⟩, a1, q1, t1, l1⟩ := HKL.out.2 9 omg
     replace t0 := (HQ8.out.bel.cell (p := ⟨0, 18, none⟩) HKL.out.1).trans t0
     replace t1 := (HQ8.out.bel.cell (p := ⟨0, 19, none⟩) HKL.out.1).trans t1
     simp only [Mo.kL0, Mo.kL1, List.length_cons, List.length_nil, Nat.zero_add, Nat.reduceAdd, Nat.reduceMul] at t0 t1
     obtain ⟨ad0, rfl, hb0, hc0⟩ : ∃ ad, a0 = some ad ∧ ad.block < w.heap.size ∧ ∀ j, j < 1 → w.cell? (ad.add j) = some (.int .i64 (([2] : List Nat).getD j 0 : Nat)) := by
      rcases l0 with h | h
      ·cases h
      ·exact h
     have s00 : W8.cell? ad0 = some (.int .i64 2) := (HQ8.out.bel.cell hb0).trans (by have h := hc0 0 omg; simpa [Addr.add] using h)
     clear hc0 hb0
     clear l1
     have g1 := g0.symm
     rw [ek] at d4
     rw [es] at d5
     have HXX := qh (show Kit.Exc (fun j => j = MV) W8 (W8.setCell ⟨MV, 3, none⟩ (.bool true)) from Kit.Exc.setCell (S := fun j => j = MV) (p := ⟨MV, 3, none⟩) (Kit.Exc.refl (fun j => j = MV) W8) (.inl rfl) (.bool true))
     have HFB := qh (show Kit.Bk (W8.setCell ⟨MV, 3, none⟩ (.bool true)) MV 96 (Mo.mvA r (l.take (i + 1))) by rw [HTK.out]; exact HM8.out.put 3 (.bool true) (Mo.mv_one HDP.out 3 omg HMVX.out))
     rcases tb with _ | _
     all_goals
      go_wp2_with fail
      refine wp_loop_rounds 2 ?_
      rw [rounds_succ]
      go_wp2_with fail
      rw [rounds_succ]
      go_wp2_with fail
      refine wp_loop_rounds 1 ?_
      rw [rounds_succ]
      go_wp2_with fail
      go_roundg (l.length - (i + 1))
      case measure => omega
      case rel => exact ⟨i + 1, by rw [HTN.out, ek]; rfl, by go_num, by omega, Nat.le_refl _, qh (HQ8.out.exc HXX.out (fun k hk => by have := HZM.out; omega)), qh (HS8.out.exc HXX.out (fun ad' e => HNM.out HNE.out ad' e)), HFB, qh (Nat.le_trans HW8.out HXX.out.size)⟩
  ·obtain rfl : i = l.length := by omega
   have HMX := qh (show Kit.Bk wr MV 96 (Mo.mvA r l) by have h := HMV.out; rwa [List.take_length] at h)
   have HFIT := qh (show ∀ y ∈ Mo.prs r l, Mo.Fit y.1 ∧ Mo.form y.1 y.2 = true from fun y hy => by
    obtain ⟨k, hk, rfl⟩ := List.mem_map.1 hy
    have hk2 := (HOF2.out.perm.mem_iff).1 hk
    exact ⟨Mo.fit_of (HGD.out.oks k (List.mem_filter.1 hk2).1), Mo.mot_real _ _ (Mo.ofI_lt HGD.out role bar) HMOT.out k hk2⟩)
   have HMB := qh (show Mo.prs r l ≠ [] → ∀ ad, aM = some ad → w.heap.size + 5 ≤ ad.block from fun _ ad e => Nat.le_trans HZ5.out (HSMB.out ad e))
   rw [List.take_length]
   clear hlt hk HMV
   go_upto_region 31 with fail
   refine mo_sweep_t1 _ _ _ _ _ _ _ _ _ _ _ _ _ _ _ rfl _ _ _ _ _ _ _ _ _ _ _ _ _ _ _ _ _ _ _ _ _ _ _ _ _ _ _ _ _ _ _ _ _ _ _ _ _ _ _ _ _ _ _ _ _ _ _ _ _ _ _ _ _ _ _ _ _ _ _ _ _ _ _ _ _ _ _ _ _ _ _ _ _ _ _ _ _ _ _ _ _ _ _ _ _ _ _ _ _ _ _ _ _ _ _ _ _ _ _ _ _ _ _ _ _ _ _ _ _ _ _ _ _ _ _ _ _ _ _ _ _ _ _ _ _ _ _ _ _ _ _ _ _ _ _ _ _ _ _ _ _ _ _ _ _ _ _ _ _ _ _ _ _ _ _ _ _ _ _ _ _ _ _ _ _ _ _ _ _ _ _ _ _ _ _ _ _ _ _ _ _ _ _ _ _ _ _ _ _ _ _ _ _ _ _ _ _ _ _ _ _ _ _ _ _ _ _ _ _ _ _ _ _ _ _ _ _ _ _ x ⟨aRo, cRo, aT, cT, aP, cP, aS, cS, aG, cG⟩ w wr HFL.out s HOKS.out b HBKS.out r l HLEN.out HFIT.out aM cM MV HSV.out HMB.out HZM.out.1 HMX.out HQ.out _ (fun t er W' h hb => ⟨⟨t, er, rfl, HRES.out _ _ (by
    unfold Mo.SwR
    rw [if_neg (by rw [HER.out]; decide), if_neg (by rw [HOKS.out]; decide), if_neg (by rw [HBKS.out]; decide), if_neg (by rw [HMOT.out]; decide)]
    exact ⟨l, HOF2.out, h⟩)⟩, hb⟩) _ (by assumption)
end Go.Proofs.YtedolbjgdedoaaaGreatDoor

namespace Go.Proofs.YtedolbjgdedoaaaGreatDoor
open Go.RowKit Go.Shelf
theorem mo_sweep (x : Ex.Wk) (p : Ex.Wa) (w : World) (hL : Ex.Laid w) (hF : Uo.Flat w) (hK : Mo.KL w) (ha : Ex.At w x p) (role bar : Int) (s : Mo.St) (b : Un.Bd) (hnm : b.name.size ≤ 9223372036854775807) (r : List Uo.Re) (aR : Option Addr) (cR : Nat) (hR : Tp.Sl w aR r.length 4 (Mo.rcs r)) :
  Calls Tryz.prog 16 #[Ex.workV x p, .int .i64 role, .int .i64 bar, .agg (Mo.stA s), .agg (Un.bdA b), .slice aR r.length cR] w fun e w' => (∃ t er, e = .returned (.tuple #[.agg (Mo.bxA t), .int .i64 er]) ∧ Mo.SwR x role bar s b r t er) ∧ Below w.heap.size w w' := by
 by_cases h : Mo.ofE x role bar = 0 ∧ Mo.ok s = true ∧ Un.bok b = true ∧ Mo.mot (Mo.ofI x role bar) r = true
 ·exact mo_sweep_0 x p w hL ha role bar s b hnm r aR cR hR hF hK h.1 h.2.1 h.2.2.1 h.2.2.2
 ·exact mo_sweep_e x p w hL ha role bar s b hnm r aR cR hR h
end Go.Proofs.YtedolbjgdedoaaaGreatDoor
