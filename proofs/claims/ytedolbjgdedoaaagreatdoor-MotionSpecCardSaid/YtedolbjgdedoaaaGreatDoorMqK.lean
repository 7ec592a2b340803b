/- Walks: the laws of layer 27: MotionSpec. -/
import Derived.Test.YtedolbjgdedoaaaGreatDoorMqy
import Derived.Test.YtedolbjgdedoaaaGreatDoorMom
set_option linter.unusedSimpArgs false
set_option linter.unusedVariables false
set_option maxRecDepth 100000
set_option maxHeartbeats 8000000
namespace Go.Proofs.YtedolbjgdedoaaaGreatDoor
open Go.RowKit Go.Shelf
attribute [local go_sem] Oper.semAt_some
theorem lw_mspec (x : Ex.Wk) (p : Ex.Wa) (w : World) (hL : Ex.Laid w) (hF : Uo.Flat w) (hK : Mo.KL w) (ha : Ex.At w x p) (role bar : Int) (s : Mo.St) (r : List Uo.Re) (aR : Option Addr) (cR : Nat) (hR : Tp.Sl w aR r.length 4 (Mo.rcs r)) :
  Calls Tryz.prog 3 #[Ex.workV x p, .int .i64 role, .int .i64 bar, .agg (Mo.stA s), .slice aR r.length cR] w fun e w' => e = .returned (.bool true) ∧ Below w.heap.size w w' := by
 have HSN := qh (fun W (hb : Below w.heap.size w W) => lw_sane W (hL.kept hb nlr) (hF.kept hb nlr) (hK.kept hb))
 have HFW := qh (fun W => lw_few27 x p r.length aR cR W)
 have HEN := qh (fun W (hb : Below w.heap.size w W) => mo_end x p W (hL.kept hb nlr) (hF.kept hb nlr) (ha.kept hb nlr) role bar s r aR cR (hR.kept hb nlr))
 have HRE := qh (fun W (hb : Below w.heap.size w W) (hrl : r.length ≤ 1000000000) => rp_end x p W (ha.kept hb nlr) role bar s r aR cR (hR.kept hb nlr) hrl)
 obtain ⟨CE, hCE⟩ : ∃ c, Mo.chkE x role bar r = c := ⟨_, rfl⟩
 have HCK := qh (fun W (hb : Below w.heap.size w W) => hCE ▸ mo_check x p W (hL.kept hb nlr) (ha.kept hb nlr) role bar r aR cR (hR.kept hb nlr))
 have HRC := qh (fun W (hb : Below w.heap.size w W) => (by
  have h := rp_check27 x p W (ha.kept hb nlr) role bar r aR cR (hR.kept hb nlr)
  rw [show (if Mo.ofE x role bar ≠ 0 then Mo.ofE x role bar else if Mo.mot (Mo.ofI x role bar) r = true then 0 else 270) = CE from hCE] at h
  exact h : Calls Tryz.prog 15 #[Ex.workV x p, .int .i64 role, .int .i64 bar, .slice aR r.length cR] W fun e w' => e = .returned (.int .i64 CE) ∧ Below W.heap.size W w'))
 clear hL hF hK ha hR hCE
 obtain ⟨aRo, cRo, aT, cT, aP, cP, aS, cS, aG, cG⟩ := p
 dsimp only [Ex.workV, Ex.wv] at HFW HCK HRC HRE ⊢
 go_enter Tryz.func3, Tryz.ntmps3
 go_upto_region 1 with fail
 refine Kit.wp_name ?_
 intro W1 hW1
 have HQ1 := qh (show Mo.AM w W1 x ⟨aRo, cRo, aT, cT, aP, cP, aS, cS, aG, cG⟩ s by rw [hW1]; exact Mo.AM.start w x ⟨aRo, cRo, aT, cT, aP, cP, aS, cS, aG, cG⟩ s)
 clear hW1
 go_wp2_with fail
 refine (HSN.out _ HQ1.out.bel).mono ?_
 rintro _ W2 ⟨rfl, hb⟩
 have HQ2 := qh (HQ1.out.then hb)
 clear hb HQ1 HSN
 have wk : ∀ j, W2.cell? ⟨w.heap.size, j, none⟩ = (Mo.wkC x ⟨aRo, cRo, aT, cT, aP, cP, aS, cS, aG, cG⟩)[j]? := fun j => HQ2.out.wk.cell j
 go_wp2_with fail
 refine (HFW.out _).mono ?_
 rintro _ W3 ⟨⟨fb, rfl, hfb⟩, hb⟩
 have HQ3 := qh (HQ2.out.then hb)
 clear hb HQ2 HFW wk
 rcases fb with _ | _
 ·clear hfb
  go_wp2_with fail
  go_ret
  exact ⟨rfl, HQ3.out.bel⟩
 have HN2 := qh (hfb rfl)
 clear hfb
 go_upto_region 5 with fail
 refine wp_region_lit ?_
 refine Kit.load_bk0 rfl 32 (.tmp 5) rfl w.heap.size rfl HQ3.out.wk Tryz.underlying32 rfl (Mo.szWkR _ _) ?_
 refine Kit.wpList_run rfl (.int .i64 role) _ rfl ?_
 refine Kit.wpList_run rfl (.int .i64 bar) _ rfl ?_
 refine Kit.load_bk0 rfl 37 (.tmp 8) rfl (w.heap.size + 1) rfl HQ3.out.st Tryz.underlying37 rfl (Mo.szSt s) ?_
 simp only [Act.put]
 go_simp
 go_wp2_with fail
 refine (HEN.out _ HQ3.out.bel).mono ?_
 rintro _ V1 ⟨⟨te, ee, rfl, ht⟩, hb⟩
 have HT := qh ht
 have HQ4 := qh (HQ3.out.then hb)
 clear ht hb HQ3 HEN
 go_upto_region 6 with fail
 refine Kit.wp_name ?_
 intro U1 hW
 have hbW : Below V1.heap.size V1 U1 := by rw [hW]; exact (Below.refl _ _).alloc nlr _
 have HQ5 := qh (HQ4.out.then hbW)
 have Rk1 := qh (show Kit.Bk U1 V1.heap.size 37 (Mo.stA te) by rw [hW]; exact Kit.Bk.new _ _ _)
 obtain ⟨k1, hB⟩ : ∃ b, V1.heap.size = b := ⟨_, rfl⟩
 rw [hB] at Rk1 ⊢
 clear hW hB hbW HQ4
 refine wp_region_lit ?_
 refine Kit.load_bk0 rfl 32 (.tmp 5) rfl w.heap.size rfl HQ5.out.wk Tryz.underlying32 rfl (Mo.szWkR _ _) ?_
 refine Kit.wpList_run rfl (.int .i64 role) _ rfl ?_
 refine Kit.wpList_run rfl (.int .i64 bar) _ rfl ?_
 refine Kit.load_bk0 rfl 37 (.tmp 8) rfl (w.heap.size + 1) rfl HQ5.out.st Tryz.underlying37 rfl (Mo.szSt s) ?_
 simp only [Act.put]
 go_simp
 go_wp2_with fail
 refine (HRE.out _ HQ5.out.bel (by have := HN2.out; omega)).mono ?_
 rintro _ V2 ⟨⟨t2, e2, rfl, ht2⟩, hb⟩
 obtain ⟨rfl, rfl⟩ := Mo.end_uniq ht2 HT.out
 have HQ6 := qh (HQ5.out.then hb)
 have Sk1 := qh (Rk1.out.below hb Rk1.out.lt)
 clear ht2 hb HQ5 Rk1 HRE HT
 go_upto_region 7 with fail
 refine Kit.wp_name ?_
 intro U2 hW
 have hbW : Below V2.heap.size V2 U2 := by rw [hW]; exact (Below.refl _ _).alloc nlr _
 have HQ := qh (HQ6.out.then hbW)
 have Qk1 := qh (Sk1.out.below hbW Sk1.out.lt)
 have Qk2 := qh (show Kit.Bk U2 V2.heap.size 37 (Mo.stA t2) by rw [hW]; exact Kit.Bk.new _ _ _)
 obtain ⟨k2, hB⟩ : ∃ b, V2.heap.size = b := ⟨_, rfl⟩
 rw [hB] at Qk2 ⊢
 clear hW hB hbW HQ6 Sk1
 refine Kit.wp_region_vals3 22 [([(5, none)], none, true), ([(1, none)], none, true), ([(2, none)], none, true), ([(4, none)], none, true), ([(39, some 0), (40, some 1), (41, some 2), (42, some 3)], none, true), ([(5, none)], none, true), ([(1, none)], none, true), ([(2, none)], none, true), ([(4, none)], none, true), ([(44, some 5), (45, some 6), (46, some 7), (47, some 8)], none, true), ([(43, some 4), (48, some 9)], none, true), ([(49, some 10)], none, true), ([(11, none)], some (11, true), true), ([(13, none)], some (11, true), true), ([(51, some 12), (52, some 13)], some (11, true), true), ([(50, some 11), (53, some 14)], none, true), ([(54, some 15)], none, true), ([(12, none)], some (16, true), true), ([(14, none)], some (16, true), true), ([(56, some 17), (57, some 18)], some (16, true), true), ([(55, some 16), (58, some 19)], none, true), ([(59, some 20)], none, true)]
  [some 39, some 40, some 41, some 42, some 43, some 44, some 45, some 46, some 47, some 48, some 49, some 50, some 51, some 52, some 53, some 54, some 55, some 56, some 57, some 58, some 59, some 10] rfl (by kernel_rfl) (by kernel_rfl) (fun X => Below U2.heap.size U2 X) (fun _ A B => Below A.heap.size A B) (fun _ _ => false) (fun o _ v X => match o with
  | 0 => v = .agg (Mo.wkC x ⟨aRo, cRo, aT, cT, aP, cP, aS, cS, aG, cG⟩)
  | 1 => v = .int .i64 role
  | 2 => v = .int .i64 bar
  | 3 => v = .slice aR r.length cR
  | 4 => v = .int .i64 CE
  | 5 => v = .agg (Mo.wkC x ⟨aRo, cRo, aT, cT, aP, cP, aS, cS, aG, cG⟩)
  | 6 => v = .int .i64 role
  | 7 => v = .int .i64 bar
  | 8 => v = .slice aR r.length cR
  | 9 => v = .int .i64 CE
  | 10 => v = .bool true
  | 11 => v = .bool true
  | 12 => v = .agg (Mo.stA t2)
  | 13 => v = .agg (Mo.stA t2)
  | 14 => v = .bool true
  | 15 => v = .bool true
  | 16 => v = .bool true
  | 17 => v = .int .i64 e2
  | 18 => v = .int .i64 e2
  | 19 => v = .bool true
  | 20 => v = .bool true
  | _ => v = .bool true
  ) (by decide) (fun _ h k => h.trans (k.mono h.size)) (Below.drew (Below.refl _ _)) (fun _ X => Below.refl _ X) ?hst ?hown ?_ ?_
 case hst =>
  intro o m u u' v A B ho hn hne _ hdep hu hA hE h3
  exact h3
 case hown =>
  intro o u u' v X ho hu h3
  exact h3
 ·simp only [List.take_succ_cons, List.take_zero, Kit.StepsV3, Kit.VOp3, Kit.RdP3, true_and, if_true, and_true]
  refine ⟨?_, ?_, ?_, ?_, ?_, ?_, ?_, ?_, ?_, ?_, ?_, ?_, ⟨fun u v X _ h => ⟨true, h, rfl⟩, ?_⟩, ⟨fun u v X _ h => ⟨true, h, rfl⟩, ?_⟩, ⟨fun u v X _ h => ⟨true, h, rfl⟩, ?_⟩, ?_, ?_, ⟨fun u v X _ h => ⟨true, h, rfl⟩, ?_⟩, ⟨fun u v X _ h => ⟨true, h, rfl⟩, ?_⟩, ⟨fun u v X _ h => ⟨true, h, rfl⟩, ?_⟩, ?_, ?_⟩
  all_goals intro ev u X hx hv hc hf hg
  ·rw [Kit.run_load_bk 32 (.tmp 5) rfl w.heap.size (by rw [hv]; rfl) (HQ.out.wk.below hx HQ.out.wk.lt) Tryz.underlying32 rfl (Mo.szWkR _ _)]
   exact ⟨rfl, Below.refl _ _⟩
  ·have hh : ev (.tmp 1) = .int .i64 role := hv.trans rfl
   simp [execOp, hh, hc, go_sem, Kit.UponV]
   exact Below.refl _ _
  ·have hh : ev (.tmp 2) = .int .i64 bar := hv.trans rfl
   simp [execOp, hh, hc, go_sem, Kit.UponV]
   exact Below.refl _ _
  ·have hh : ev (.tmp 4) = .slice aR r.length cR := hv.trans rfl
   simp [execOp, hh, hc, go_sem, Kit.UponV]
   exact Below.refl _ _
  ·obtain ⟨⟨q1, _⟩, ⟨q2, _⟩, ⟨q3, _⟩, q4, _⟩ := hv
   have h1 : ev (.tmp 39) = .agg (Mo.wkC x ⟨aRo, cRo, aT, cT, aP, cP, aS, cS, aG, cG⟩) := q1
   have h2 : ev (.tmp 40) = .int .i64 role := q2
   have h3 : ev (.tmp 41) = .int .i64 bar := q3
   have h4 : ev (.tmp 42) = .slice aR r.length cR := q4
   simp only [execOp, resolve, invoke, Sem.run_bind, Sem.run_pure, Result.andThen_ok, List.map_toArray, List.map_cons, List.map_nil, h1, h2, h3, h4, hf]
   refine Mo.upon_call (HCK.out X (HQ.out.bel.trans (hx.mono HQ.out.bel.size))) ?_
   rintro e w3 ⟨rfl, hb⟩
   exact ⟨_, rfl, rfl, hb⟩
  ·rw [Kit.run_load_bk 32 (.tmp 5) rfl w.heap.size (by rw [hv]; rfl) (HQ.out.wk.below hx HQ.out.wk.lt) Tryz.underlying32 rfl (Mo.szWkR _ _)]
   exact ⟨rfl, Below.refl _ _⟩
  ·have hh : ev (.tmp 1) = .int .i64 role := hv.trans rfl
   simp [execOp, hh, hc, go_sem, Kit.UponV]
   exact Below.refl _ _
  ·have hh : ev (.tmp 2) = .int .i64 bar := hv.trans rfl
   simp [execOp, hh, hc, go_sem, Kit.UponV]
   exact Below.refl _ _
  ·have hh : ev (.tmp 4) = .slice aR r.length cR := hv.trans rfl
   simp [execOp, hh, hc, go_sem, Kit.UponV]
   exact Below.refl _ _
  ·obtain ⟨⟨q1, _⟩, ⟨q2, _⟩, ⟨q3, _⟩, q4, _⟩ := hv
   have h1 : ev (.tmp 44) = .agg (Mo.wkC x ⟨aRo, cRo, aT, cT, aP, cP, aS, cS, aG, cG⟩) := q1
   have h2 : ev (.tmp 45) = .int .i64 role := q2
   have h3 : ev (.tmp 46) = .int .i64 bar := q3
   have h4 : ev (.tmp 47) = .slice aR r.length cR := q4
   simp only [execOp, resolve, invoke, Sem.run_bind, Sem.run_pure, Result.andThen_ok, List.map_toArray, List.map_cons, List.map_nil, h1, h2, h3, h4, hf]
   refine Mo.upon_call (HRC.out X (HQ.out.bel.trans (hx.mono HQ.out.bel.size))) ?_
   rintro e w3 ⟨rfl, hb⟩
   exact ⟨_, rfl, rfl, hb⟩
  ·obtain ⟨⟨q1, _⟩, q2, _⟩ := hv
   have h1 : ev (.tmp 43) = .int .i64 CE := q1
   have h2 : ev (.tmp 48) = .int .i64 CE := q2
   simp [execOp, h1, h2, hc, go_sem, Kit.UponV]
   exact Below.refl _ _
  ·have hh : ev (.tmp 49) = .bool true := hv.1
   simp [execOp, hh, hc, go_sem, Kit.UponV]
   exact Below.refl _ _
  ·rw [Kit.run_load_bk 37 (.tmp 11) rfl k1 (by rw [hv]; rfl) (Qk1.out.below hx Qk1.out.lt) Tryz.underlying37 rfl (Mo.szSt _)]
   exact ⟨rfl, Below.refl _ _⟩
  ·rw [Kit.run_load_bk 37 (.tmp 13) rfl k2 (by rw [hv]; rfl) (Qk2.out.below hx Qk2.out.lt) Tryz.underlying37 rfl (Mo.szSt _)]
   exact ⟨rfl, Below.refl _ _⟩
  ·obtain ⟨⟨q1, _⟩, q2, _⟩ := hv
   have h1 : ev (.tmp 51) = .agg (Mo.stA t2) := q1
   have h2 : ev (.tmp 52) = .agg (Mo.stA t2) := q2
   have hq := Mo.eq_st t2 X
   simp [execOp, h1, h2, hc, Mo.eq_ll, go_sem, Kit.UponV]
   exact Below.refl _ _
  ·obtain ⟨⟨q1, _⟩, q2, _⟩ := hv
   have h1 : ev (.tmp 50) = .bool true := q1
   have h2 : ev (.tmp 53) = .bool true := q2
   simp [execOp, h1, h2, hc, go_sem, Kit.UponV]
   exact Below.refl _ _
  ·have hh : ev (.tmp 54) = .bool true := hv.1
   simp [execOp, hh, hc, go_sem, Kit.UponV]
   exact Below.refl _ _
  ·have hh : ev (.tmp 12) = .int .i64 e2 := hv.trans rfl
   simp [execOp, hh, hc, go_sem, Kit.UponV]
   exact Below.refl _ _
  ·have hh : ev (.tmp 14) = .int .i64 e2 := hv.trans rfl
   simp [execOp, hh, hc, go_sem, Kit.UponV]
   exact Below.refl _ _
  ·obtain ⟨⟨q1, _⟩, q2, _⟩ := hv
   have h1 : ev (.tmp 56) = .int .i64 e2 := q1
   have h2 : ev (.tmp 57) = .int .i64 e2 := q2
   simp [execOp, h1, h2, hc, go_sem, Kit.UponV]
   exact Below.refl _ _
  ·obtain ⟨⟨q1, _⟩, q2, _⟩ := hv
   have h1 : ev (.tmp 55) = .bool true := q1
   have h2 : ev (.tmp 58) = .bool true := q2
   simp [execOp, h1, h2, hc, go_sem, Kit.UponV]
   exact Below.refl _ _
  ·have hh : ev (.tmp 59) = .bool true := hv.1
   simp [execOp, hh, hc, go_sem, Kit.UponV]
   exact Below.refl _ _
 intro vs u W3 hy hv hx
 have v21 : vs 21 = .bool true := hv 21 omg (fun _ _ => rfl)
 have HBE := qh (HQ.out.bel.trans (hx.mono HQ.out.bel.size))
 clear hv hy hx
 simp only [Kit.putD, List.getD_cons_zero, List.getD_cons_succ, Act.put, v21, List.drop_succ_cons, List.drop_zero, List.drop_nil]
 clear v21
 generalize vs 0 = gg0 at *
 generalize vs 1 = gg1 at *
 generalize vs 2 = gg2 at *
 generalize vs 3 = gg3 at *
 generalize vs 4 = gg4 at *
 generalize vs 5 = gg5 at *
 generalize vs 6 = gg6 at *
 generalize vs 7 = gg7 at *
 generalize vs 8 = gg8 at *
 generalize vs 9 = gg9 at *
 generalize vs 10 = gg10 at *
 generalize vs 11 = gg11 at *
 generalize vs 12 = gg12 at *
 generalize vs 13 = gg13 at *
 generalize vs 14 = gg14 at *
 generalize vs 15 = gg15 at *
 generalize vs 16 = gg16 at *
 generalize vs 17 = gg17 at *
 generalize vs 18 = gg18 at *
 generalize vs 19 = gg19 at *
 generalize vs 20 = gg20 at *
 go_simp
 go_wp2_with fail
 go_ret
 exact ⟨rfl, HBE.out⟩
end Go.Proofs.YtedolbjgdedoaaaGreatDoor
