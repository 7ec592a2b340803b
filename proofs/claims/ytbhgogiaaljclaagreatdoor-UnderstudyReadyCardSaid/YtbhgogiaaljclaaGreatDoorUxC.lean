/- Walks: the laws of layer 48: sane, the walk. -/
import Derived.Test.YtbhgogiaaljclaaGreatDoorUxa
import Derived.Test.YtbhgogiaaljclaaGreatDoorUrz
import Derived.Great.Walk
set_option linter.unusedSimpArgs false
set_option linter.unusedVariables false
set_option maxRecDepth 100000
set_option maxHeartbeats 4000000
namespace Go.Proofs.YtbhgogiaaljclaaGreatDoor
open Go.RowKit Go.Shelf
theorem Kit.calls_name {P : Program} {f : Nat} {args : Array Value} {w : World} {Q : Ending → World → Prop} (h : ∀ V, V = w → Calls P f args V Q) : Calls P f args w Q := h w rfl
structure Ux.SN (w : World) (X : Ex.Wk) (p : Ex.Wa) (S H L : Un.Bd) (b1 b2 b3 : Nat) (W : World) : Prop where
 bel : Below w.heap.size w W
 at_ : Ex.At W X p
 wk : ∀ j, W.cell? ⟨b1, j, none⟩ = (Un.wkC X p)[j]?
 rh : W.rangeAt b2 0 (Un.bdA H).toList
 rl : W.rangeAt b3 0 (Un.bdA L).toList
 z1 : b1 < W.heap.size
 z2 : b2 < W.heap.size
 z3 : b3 < W.heap.size
theorem Ux.SN.then {w : World} {X : Ex.Wk} {p : Ex.Wa} {S H L : Un.Bd} {b1 b2 b3 : Nat} {W W' : World} (h : Ux.SN w X p S H L b1 b2 b3 W) (hb : Below W.heap.size W W') : Ux.SN w X p S H L b1 b2 b3 W' :=
 ⟨h.bel.trans (hb.mono h.bel.size), h.at_.kept hb nlr, fun j => (World.cell?_of_block (hb.block b1 h.z1)).trans (h.wk j), Kit.range_kept h.rh hb h.z2, Kit.range_kept h.rl hb h.z3, Nat.lt_of_lt_of_le h.z1 hb.size, Nat.lt_of_lt_of_le h.z2 hb.size, Nat.lt_of_lt_of_le h.z3 hb.size⟩
theorem lw_sane (w : World) (hl : Ex.Laid w) (hf : Uo.Flat w) : Calls Tryz.prog 10 #[] w fun e w' => e = .returned (.bool true) ∧ Below w.heap.size w w' := by
 have HL := qh hl
 have HF := qh hf
 clear hl hf
 go_enter Tryz.func10, Tryz.ntmps10
 go_wp2_with fail
 refine Kit.calls_name ?_
 intro V hV
 have HBV := qh (show Below w.heap.size w V by rw [hV]; exact (Below.refl _ _).alloc nlr _)
 have HWR := qh (show Ux.WR V w.heap.size Ux.sgs 0 by
  rw [hV]
  refine ⟨_, World.alloc_heap_new w _, rfl, fun i q hi hq => ?_⟩
  have hi' : i < 4 := hi
  unfold Ux.uv
  rw [if_neg omg]
  rcases (by omega : i = 0 ∨ i = 1 ∨ i = 2 ∨ i = 3) with rfl | rfl | rfl | rfl <;> rcases (by omega : q = 0 ∨ q = 1 ∨ q = 2 ∨ q = 3 ∨ q = 4 ∨ q = 5 ∨ q = 6 ∨ q = 7 ∨ q = 8 ∨ q = 9 ∨ q = 10 ∨ q = 11 ∨ q = 12 ∨ q = 13) with rfl | rfl | rfl | rfl | rfl | rfl | rfl | rfl | rfl | rfl | rfl | rfl | rfl | rfl <;> rfl)
 have hzV : w.heap.size < V.heap.size := by rw [hV]; simp
 clear hV
 have hwk := lw_work Ux.sgs w.heap.size V (by decide) HWR.out
 obtain ⟨X, hX⟩ : ∃ X, X = Ux.wk Ux.sgs := ⟨_, rfl⟩
 obtain ⟨S, hS⟩ : ∃ S, S = Un.strongB := ⟨_, rfl⟩
 obtain ⟨H, hH⟩ : ∃ H, H = { S with weight := 61 } := ⟨_, rfl⟩
 obtain ⟨L, hLL⟩ : ∃ L, L = { S with step := 4 } := ⟨_, rfl⟩
 have HFA := qh (show Ux.Facts X S H L by rw [hX, hH, hLL, hS]; exact Ux.facts)
 rw [← hX] at hwk
 have hst : ∀ W, Calls Tryz.prog 26 #[] W fun e w' => e = .returned (.agg (Un.bdA S)) ∧ Below W.heap.size W w' := fun W => by rw [hS]; exact lw_strong W
 have HST := qh hst
 have HWK := qh hwk
 have HSH := qh hH
 have HSL := qh hLL
 clear hwk hst hX hS hH hLL HWR
 refine HWK.out.mono ?_
 rintro _ W1 ⟨p, rfl, ha1, hx1⟩
 have HA1 := qh ha1
 have HB1 := qh (HBV.out.trans (hx1.below (n := w.heap.size) omg (fun k e => by omega)))
 have hz1 : w.heap.size < W1.heap.size := Nat.lt_of_lt_of_le hzV hx1.size
 clear ha1 hx1 HBV hzV HWK
 have HIW := qh (show (Tryz.prog.info? 32).map (·.size) = some (Un.wkC X p).size by kernel_rfl)
 have HIB := qh (show (Tryz.prog.info? 36).map (·.size) = some (Un.bdA S).size by kernel_rfl)
 have HIH := qh (show (Tryz.prog.info? 36).map (·.size) = some (Un.bdA H).toList.length by kernel_rfl)
 have HIL := qh (show (Tryz.prog.info? 36).map (·.size) = some (Un.bdA L).toList.length by kernel_rfl)
 have hvw : Ex.workV X p = .agg (Un.wkC X p) := rfl
 have hw1 : (Un.wkC X p).all (·.oneCell') = true := by simp [Value.oneCell']
 have HW1 := qh hw1
 rw [hvw]
 clear hvw hw1
 go_wp2_with ((with_reducible refine Kit.wpList_store_fresh (x := .tmp 1) (y := .tmp 37) (b := W1.heap.size) (cells := Un.wkC X p) ?_ ?_ ?_ ?_ ?_ ?_ HIW.out HW1.out ?_); rfl; rfl; rfl; rfl; rfl; rfl)
 refine (HST.out _).mono ?_
 rintro _ W2 ⟨rfl, hb2⟩
 have HB2 := qh (show Below W1.heap.size W1 W2 from ((Below.refl _ W1).alloc nlr _).trans (hb2.mono (by simp)))
 have HK2 := qh (show ∀ j, W2.cell? ⟨W1.heap.size, j, none⟩ = (Un.wkC X p)[j]? from fun j => by
  rw [World.cell?_of_block (hb2.block W1.heap.size (by simp))]
  simp [go_sem])
 have hz2 : W1.heap.size < W2.heap.size := by have := hb2.size; simp at this; omega
 clear hb2
 go_wp2_with fail
 refine (HST.out _).mono ?_
 rintro _ W3 ⟨rfl, hb3⟩
 have HB3 := qh hb3
 clear hb3
 have e1 : (Un.bdA S)[1]? = some (.int .i64 S.weight) := rfl
 have e4 : (Un.bdA S)[4]? = some (.int .i64 S.step) := rfl
 have f1 : (Un.bdA S).setIfInBounds 1 (.int .i64 61) = Un.bdA H := by rw [HSH.out]; rfl
 have f4 : (Un.bdA S).setIfInBounds 4 (.int .i64 4) = Un.bdA L := by rw [HSL.out]; rfl
 go_wp2_with (first
  | ((with_reducible refine Kit.wpList_store_fresh2 (x := .tmp 2) (y := .tmp 38) (b := W3.heap.size) (cells := Un.bdA S) ?_ ?_ ?_ ?_ ?_ ?_ HIB.out (Un.bdA_one S) ?_); rfl; rfl; rfl; rfl; rfl; rfl)
  | ((with_reducible refine Kit.wpList_store_fresh (x := .tmp 3) (y := .tmp 39) (b := W3.heap.size + 1) (cells := Un.bdA S) ?_ ?_ ?_ ?_ ?_ ?_ HIB.out (Un.bdA_one S) ?_); rfl; rfl; rfl; simp only [World.size_alloc]; rfl; rfl))
 refine Kit.calls_name ?_
 intro W4 hW4
 have hs4 : Ux.SN w X p S H L W1.heap.size W3.heap.size (W3.heap.size + 1) W4 := by
  have hb4 : Below W3.heap.size W3 W4 := by rw [hW4]; exact ((Below.refl _ _).alloc nlr _).alloc (by simp) _
  have hb : Below W1.heap.size W1 W4 := HB2.out.trans ((HB3.out.trans (hb4.mono HB3.out.size)).mono HB2.out.size)
  have hz := hb4.size
  have h3 := HB3.out.size
  refine ⟨HB1.out.trans (hb.mono HB1.out.size), HA1.out.kept hb nlr, fun j => ?_, ?_, ?_, by omega, by rw [hW4]; simp; omega, by rw [hW4]; simp⟩
  ·exact (World.cell?_of_block ((HB3.out.trans (hb4.mono HB3.out.size)).block W1.heap.size hz2)).trans (HK2.out j)
  ·rw [hW4]
   exact Kit.range_kept (Kit.range_alloc W3 (Un.bdA H) 36) ((Below.refl _ _).alloc nlr _) (by simp)
  ·have := Kit.range_alloc (W3.alloc (.cells (Un.bdA H) 36)) (Un.bdA L) 36
   rw [World.size_alloc] at this
   rw [hW4]; exact this
 have HS4 := qh hs4
 clear hs4 hW4 HB1 HB2 HB3 HK2 HA1 hz1 hz2 e1 e4 f1 f4 HW1 HIW
 generalize W1.heap.size = b1 at *
 generalize W3.heap.size = b2 at *
 refine (HST.out _).mono ?_
 rintro _ W5 ⟨rfl, hb5⟩
 have HS5 := qh (HS4.out.then hb5)
 clear hb5 HS4
 go_wp2_with fail
 refine (HST.out _).mono ?_
 rintro _ W6 ⟨rfl, hb6⟩
 have HS6 := qh (HS5.out.then hb6)
 clear hb6 HS5
 go_upto_region 5 with ((with_reducible refine Great.wpList_buildSliceTo ?_ 33 36 2 #[(0, .tmp 42), (1, .tmp 43)] ?_ W6.heap.size ?_ (some 44) ?_ Tryz.underlying33 (Un.bdA S ++ Un.bdA S) (by kernel_rfl) ?_); rfl; rfl; rfl; rfl)
 refine Kit.wp_name ?_
 intro W7 hW7
 have HTW := qh (show Tp.Sl W7 (some ⟨W6.heap.size, 0, none⟩) 2 17 (Un.bdF [S, S]) by
  rw [hW7]
  refine .inr ⟨_, rfl, by simp, fun i j hi hj => ?_⟩
  rw [Addr.add_lit, Nat.zero_add]
  have e : (Un.bdA S ++ Un.bdA S).toList = Un.bdsV [S, S] := by simp [Un.bdsV]
  have h := Un.bdsV_at [S, S] i j hi hj
  rw [← e] at h
  simp only [World.cell?, World.alloc_heap_new]
  rw [← h]
  exact (Array.getElem?_toList ..).symm)
 have HS7 := qh (show Ux.SN w X p S H L b1 b2 (b2 + 1) W7 by rw [hW7]; exact HS6.out.then ((Below.refl _ _).alloc nlr _))
 clear hW7 HS6
 generalize W6.heap.size = b4 at *
 have hns : ∀ b ∈ [S, S], b.name.size ≤ 9223372036854775807 := fun b hb => by simp at hb; rw [hb]; exact HFA.out.ns
 have HNS := qh hns
 clear hns
 have A7 := qh (show ∀ z : Kit.Wd W7, Calls Tryz.prog 12 #[.agg #[.int .i64 X.wd, .int .i64 X.dp, .int .i64 X.ta, .int .i64 X.tb, .int .i64 X.tc, .slice p.aR X.ro.length p.cR, .int .i64 X.n, .slice p.aT X.ts.length p.cT, .slice p.aP X.ps.length p.cP, .slice p.aS X.ss.length p.cS, .slice p.aG X.sg.length p.cG], .agg (Un.bdA S), .int .i64 0, .int .i64 0] z.val fun e w' => e = .returned (.tuple #[.int .i64 1, .bool false, .int .i64 0]) ∧ Below z.val.heap.size z.val w' from fun z => by
  have hs := HS7.out.then z.below
  have h := (by have h := un_able X p z.val (HL.out.kept hs.bel nlr) (HF.out.kept hs.bel nlr) hs.at_ S HFA.out.ns 0 0; unfold Un.Able at h; rw [HFA.out.a0] at h; exact h : Calls Tryz.prog 12 #[Ex.workV X p, .agg (Un.bdA S), .int .i64 0, .int .i64 0] z.val _)
  exact h)
 have qs : ∀ z : Kit.Wd W7, Ux.SN w X p S H L b1 b2 (b2 + 1) z.val := fun z => HS7.out.then z.below
 have q0 : ∀ z : Kit.Wd W7, z.val.cell? ⟨b1, 0, none⟩ = some (.int .i64 X.wd) := fun z => (qs z).wk 0
 have q1 : ∀ z : Kit.Wd W7, z.val.cell? ⟨b1, 1, none⟩ = some (.int .i64 X.dp) := fun z => (qs z).wk 1
 have q2 : ∀ z : Kit.Wd W7, z.val.cell? ⟨b1, 2, none⟩ = some (.int .i64 X.ta) := fun z => (qs z).wk 2
 have q3 : ∀ z : Kit.Wd W7, z.val.cell? ⟨b1, 3, none⟩ = some (.int .i64 X.tb) := fun z => (qs z).wk 3
 have q4 : ∀ z : Kit.Wd W7, z.val.cell? ⟨b1, 4, none⟩ = some (.int .i64 X.tc) := fun z => (qs z).wk 4
 have q5 : ∀ z : Kit.Wd W7, z.val.cell? ⟨b1, 5, none⟩ = some (.slice p.aR X.ro.length p.cR) := fun z => (qs z).wk 5
 have q6 : ∀ z : Kit.Wd W7, z.val.cell? ⟨b1, 6, none⟩ = some (.int .i64 X.n) := fun z => (qs z).wk 6
 have q7 : ∀ z : Kit.Wd W7, z.val.cell? ⟨b1, 7, none⟩ = some (.slice p.aT X.ts.length p.cT) := fun z => (qs z).wk 7
 have q8 : ∀ z : Kit.Wd W7, z.val.cell? ⟨b1, 8, none⟩ = some (.slice p.aP X.ps.length p.cP) := fun z => (qs z).wk 8
 have q9 : ∀ z : Kit.Wd W7, z.val.cell? ⟨b1, 9, none⟩ = some (.slice p.aS X.ss.length p.cS) := fun z => (qs z).wk 9
 have q10 : ∀ z : Kit.Wd W7, z.val.cell? ⟨b1, 10, none⟩ = some (.slice p.aG X.sg.length p.cG) := fun z => (qs z).wk 10
 refine Kit.wp_region_cls (by kernel_rfl) (by kernel_rfl) ?_
 (repeat (go_big_quiet_step (first | (with_reducible exact Kit.calls_cls _ (HST.out _)) | (with_reducible exact Kit.calls_cls _ (A7.out _)))))
 refine wpQuiet_nil ?_
 intro z
 have HS8 := qh (qs z)
 have HTX := qh (HTW.out.kept z.below nlr)
 clear HTW
 have HTW := qh HTX.out
 clear HTX A7 HS7 qs q0 q1 q2 q3 q4 q5 q6 q7 q8 q9 q10
 generalize z.val = W8 at *
 clear z
 go_upto_region 6 with fail
 have A8 := qh (show ∀ z : Kit.Wd W8, Calls Tryz.prog 12 #[.agg #[.int .i64 X.wd, .int .i64 X.dp, .int .i64 X.ta, .int .i64 X.tb, .int .i64 X.tc, .slice p.aR X.ro.length p.cR, .int .i64 X.n, .slice p.aT X.ts.length p.cT, .slice p.aP X.ps.length p.cP, .slice p.aS X.ss.length p.cS, .slice p.aG X.sg.length p.cG], .agg (Un.bdA S), .int .i64 0, .int .i64 2] z.val fun e w' => e = .returned (.tuple #[.int .i64 0, .bool true, .int .i64 0]) ∧ Below z.val.heap.size z.val w' from fun z => by
  have hs := HS8.out.then z.below
  have h := (by have h := un_able X p z.val (HL.out.kept hs.bel nlr) (HF.out.kept hs.bel nlr) hs.at_ S HFA.out.ns 0 2; unfold Un.Able at h; rw [HFA.out.a1] at h; exact h : Calls Tryz.prog 12 #[Ex.workV X p, .agg (Un.bdA S), .int .i64 0, .int .i64 2] z.val _)
  exact h)
 have qs : ∀ z : Kit.Wd W8, Ux.SN w X p S H L b1 b2 (b2 + 1) z.val := fun z => HS8.out.then z.below
 have q0 : ∀ z : Kit.Wd W8, z.val.cell? ⟨b1, 0, none⟩ = some (.int .i64 X.wd) := fun z => (qs z).wk 0
 have q1 : ∀ z : Kit.Wd W8, z.val.cell? ⟨b1, 1, none⟩ = some (.int .i64 X.dp) := fun z => (qs z).wk 1
 have q2 : ∀ z : Kit.Wd W8, z.val.cell? ⟨b1, 2, none⟩ = some (.int .i64 X.ta) := fun z => (qs z).wk 2
 have q3 : ∀ z : Kit.Wd W8, z.val.cell? ⟨b1, 3, none⟩ = some (.int .i64 X.tb) := fun z => (qs z).wk 3
 have q4 : ∀ z : Kit.Wd W8, z.val.cell? ⟨b1, 4, none⟩ = some (.int .i64 X.tc) := fun z => (qs z).wk 4
 have q5 : ∀ z : Kit.Wd W8, z.val.cell? ⟨b1, 5, none⟩ = some (.slice p.aR X.ro.length p.cR) := fun z => (qs z).wk 5
 have q6 : ∀ z : Kit.Wd W8, z.val.cell? ⟨b1, 6, none⟩ = some (.int .i64 X.n) := fun z => (qs z).wk 6
 have q7 : ∀ z : Kit.Wd W8, z.val.cell? ⟨b1, 7, none⟩ = some (.slice p.aT X.ts.length p.cT) := fun z => (qs z).wk 7
 have q8 : ∀ z : Kit.Wd W8, z.val.cell? ⟨b1, 8, none⟩ = some (.slice p.aP X.ps.length p.cP) := fun z => (qs z).wk 8
 have q9 : ∀ z : Kit.Wd W8, z.val.cell? ⟨b1, 9, none⟩ = some (.slice p.aS X.ss.length p.cS) := fun z => (qs z).wk 9
 have q10 : ∀ z : Kit.Wd W8, z.val.cell? ⟨b1, 10, none⟩ = some (.slice p.aG X.sg.length p.cG) := fun z => (qs z).wk 10
 refine Kit.wp_region_cls (by kernel_rfl) (by kernel_rfl) ?_
 (repeat (go_big_quiet_step (first | (with_reducible exact Kit.calls_cls _ (HST.out _)) | (with_reducible exact Kit.calls_cls _ (A8.out _)))))
 refine wpQuiet_nil ?_
 intro z
 have HS9 := qh (qs z)
 have HTX := qh (HTW.out.kept z.below nlr)
 clear HTW
 have HTW := qh HTX.out
 clear HTX A8 HS8 qs q0 q1 q2 q3 q4 q5 q6 q7 q8 q9 q10
 generalize z.val = W9 at *
 clear z
 have A9 := qh (show Calls Tryz.prog 12 #[.agg #[.int .i64 X.wd, .int .i64 X.dp, .int .i64 X.ta, .int .i64 X.tb, .int .i64 X.tc, .slice p.aR X.ro.length p.cR, .int .i64 X.n, .slice p.aT X.ts.length p.cT, .slice p.aP X.ps.length p.cP, .slice p.aS X.ss.length p.cS, .slice p.aG X.sg.length p.cG], .agg (Un.bdA L), .int .i64 0, .int .i64 0] W9 fun e w' => e = .returned (.tuple #[.int .i64 0, .bool true, .int .i64 0]) ∧ Below W9.heap.size W9 w' from by
  have hs := HS9.out
  have h := (by have h := un_able X p W9 (HL.out.kept hs.bel nlr) (HF.out.kept hs.bel nlr) hs.at_ L HFA.out.nl 0 0; unfold Un.Able at h; rw [HFA.out.a2] at h; exact h : Calls Tryz.prog 12 #[Ex.workV X p, .agg (Un.bdA L), .int .i64 0, .int .i64 0] W9 _)
  exact h)
 have wk : ∀ j, W9.cell? ⟨b1, j, none⟩ = (Un.wkC X p)[j]? := HS9.out.wk
 go_wp2_with ((with_reducible refine wpList_load_mid ?_ 36 (.tmp 3) ?_ (b2 + 1) 0 ?_ (Un.bdA L).toList _ HS9.out.rl Tryz.underlying36 rfl HIL.out ?_); rfl; rfl; rfl)
 refine A9.out.mono ?_
 rintro _ W10 ⟨rfl, hb⟩
 have HS10 := qh (HS9.out.then hb)
 have HTX := qh (HTW.out.kept hb nlr)
 clear HTW
 have HTW := qh HTX.out
 clear HTX A9 HS9 wk hb
 have A10 := qh (show Calls Tryz.prog 14 #[.agg #[.int .i64 X.wd, .int .i64 X.dp, .int .i64 X.ta, .int .i64 X.tb, .int .i64 X.tc, .slice p.aR X.ro.length p.cR, .int .i64 X.n, .slice p.aT X.ts.length p.cT, .slice p.aP X.ps.length p.cP, .slice p.aS X.ss.length p.cS, .slice p.aG X.sg.length p.cG], .slice (some ⟨b4, 0, none⟩) 2 2, .agg (Un.bdA H), .int .i64 0, .int .i64 1] W10 fun e w' => e = .returned (.tuple #[.int .i64 2, .bool false, .int .i64 0]) ∧ Below W10.heap.size W10 w' from by
  have hs := HS10.out
  have h := (by have h := un_lifts X p W10 (HL.out.kept hs.bel nlr) hs.at_ [S, S] (some ⟨b4, 0, none⟩) 2 HTW.out (by simp) HNS.out H HFA.out.nh 0 1; rw [HFA.out.b0] at h; exact h : Calls Tryz.prog 14 #[Ex.workV X p, .slice (some ⟨b4, 0, none⟩) 2 2, .agg (Un.bdA H), .int .i64 0, .int .i64 1] W10 _)
  exact h)
 have wk : ∀ j, W10.cell? ⟨b1, j, none⟩ = (Un.wkC X p)[j]? := HS10.out.wk
 go_wp2_with ((with_reducible refine wpList_load_mid ?_ 36 (.tmp 2) ?_ (b2) 0 ?_ (Un.bdA H).toList _ HS10.out.rh Tryz.underlying36 rfl HIH.out ?_); rfl; rfl; rfl)
 refine A10.out.mono ?_
 rintro _ W11 ⟨rfl, hb⟩
 have HS11 := qh (HS10.out.then hb)
 have HTX := qh (HTW.out.kept hb nlr)
 clear HTW
 have HTW := qh HTX.out
 clear HTX A10 HS10 wk hb
 have A11 := qh (show Calls Tryz.prog 14 #[.agg #[.int .i64 X.wd, .int .i64 X.dp, .int .i64 X.ta, .int .i64 X.tb, .int .i64 X.tc, .slice p.aR X.ro.length p.cR, .int .i64 X.n, .slice p.aT X.ts.length p.cT, .slice p.aP X.ps.length p.cP, .slice p.aS X.ss.length p.cS, .slice p.aG X.sg.length p.cG], .slice (some ⟨b4, 0, none⟩) 2 2, .agg (Un.bdA L), .int .i64 0, .int .i64 1] W11 fun e w' => e = .returned (.tuple #[.int .i64 0, .bool true, .int .i64 0]) ∧ Below W11.heap.size W11 w' from by
  have hs := HS11.out
  have h := (by have h := un_lifts X p W11 (HL.out.kept hs.bel nlr) hs.at_ [S, S] (some ⟨b4, 0, none⟩) 2 HTW.out (by simp) HNS.out L HFA.out.nl 0 1; rw [HFA.out.b1] at h; exact h : Calls Tryz.prog 14 #[Ex.workV X p, .slice (some ⟨b4, 0, none⟩) 2 2, .agg (Un.bdA L), .int .i64 0, .int .i64 1] W11 _)
  exact h)
 have wk : ∀ j, W11.cell? ⟨b1, j, none⟩ = (Un.wkC X p)[j]? := HS11.out.wk
 go_wp2_with ((with_reducible refine wpList_load_mid ?_ 36 (.tmp 3) ?_ (b2 + 1) 0 ?_ (Un.bdA L).toList _ HS11.out.rl Tryz.underlying36 rfl HIL.out ?_); rfl; rfl; rfl)
 refine A11.out.mono ?_
 rintro _ W12 ⟨rfl, hb⟩
 have HS12 := qh (HS11.out.then hb)
 have HTX := qh (HTW.out.kept hb nlr)
 clear HTW
 have HTW := qh HTX.out
 clear HTX A11 HS11 wk hb
 go_upto_region 10 with fail
 have hbu : ∀ W, (Instr.buildSlice 33 4 #[(0, .agg (Un.bdA S)), (1, .agg (Un.bdA S)), (2, .agg (Un.bdA H)), (3, .agg (Un.bdA L))]).run Tryz.prog W = .ok (.slice (some ⟨W.heap.size, 0, none⟩) 4 4) (W.alloc (.cells (Un.bdA S ++ Un.bdA S ++ Un.bdA H ++ Un.bdA L) 36)) := fun W => by
  obtain ⟨ie, hie, hz, hsz, _⟩ := info_parts Un.elB.info
  exact run_buildSlice W 33 36 4 _ _ ie _ Tryz.underlying33 hie hz (by rw [hsz]; decide) (by rw [hsz]; decide) (by rw [hsz]; kernel_rfl)
 have HBU := qh hbu
 clear hbu
 have HRD := qh (show ∀ W b c2, Ux.SN w X p S H L b1 b2 (b2 + 1) W → Tp.Sl W (some ⟨b, 0, none⟩) 4 17 (Un.bdF [S, S, H, L]) → Tp.Sl W (some ⟨c2, 0, none⟩) 2 1 (Un.ic [0, 1]) → Calls Tryz.prog 16 #[.agg #[.int .i64 X.wd, .int .i64 X.dp, .int .i64 X.ta, .int .i64 X.tb, .int .i64 X.tc, .slice p.aR X.ro.length p.cR, .int .i64 X.n, .slice p.aT X.ts.length p.cT, .slice p.aP X.ps.length p.cP, .slice p.aS X.ss.length p.cS, .slice p.aG X.sg.length p.cG], .slice (some ⟨b, 0, none⟩) 4 4, .slice (some ⟨c2, 0, none⟩) 2 2, .int .i64 0, .int .i64 1] W fun e w' => (∃ a c, e = .returned (.tuple #[.slice a 1 c, .int .i64 0]) ∧ Tp.Sl w' a 1 1 (Un.ic [3])) ∧ Below W.heap.size W w' from fun W b c2 hs h1 h2 => by
  have h := un_ready_0 X p W (HL.out.kept hs.bel nlr) hs.at_ [S, S, H, L] (some ⟨b, 0, none⟩) 4 h1 (fun b hb => by simp at hb; rcases hb with rfl | rfl | rfl <;> first | exact HFA.out.ns | exact HFA.out.nh | exact HFA.out.nl) [0, 1] (some ⟨c2, 0, none⟩) 2 h2 (by simp) (by simp) 0 1 (HF.out.kept hs.bel nlr) HFA.out.r0.1
  refine (show Calls _ _ _ _ _ from h).mono ?_
  rintro e w' ⟨v, l, rfl, hr, ho, hb⟩
  exact ⟨Ux.rdy1 hr HFA.out.r0.2 ho, hb⟩)
 refine Kit.wp_region_vals 13 [([(1, none)], none, true), ([], none, true), ([], none, true), ([(2, none)], none, true), ([(3, none)], none, true), ([(84, some 1), (85, some 2), (86, some 3), (87, some 4)], none, true), ([], none, true), ([(83, some 0), (88, some 5), (89, some 6)], none, true), ([(90, some 7)], none, true), ([(82, some 8)], none, true), ([(82, some 8)], none, true), ([(91, some 9)], none, true), ([(92, some 10)], none, true)]
  [some 83, some 84, some 85, some 86, some 87, some 88, some 89, some 90, some 82, some 91, some 92, some 20, some 21] rfl (by kernel_rfl) (by kernel_rfl) (fun A B => Below A.heap.size A B) (fun q v w' => match q with
  | 0 => v = .agg #[.int .i64 X.wd, .int .i64 X.dp, .int .i64 X.ta, .int .i64 X.tb, .int .i64 X.tc, .slice p.aR X.ro.length p.cR, .int .i64 X.n, .slice p.aT X.ts.length p.cT, .slice p.aP X.ps.length p.cP, .slice p.aS X.ss.length p.cS, .slice p.aG X.sg.length p.cG]
  | 1 => v = .agg (Un.bdA S)
  | 2 => v = .agg (Un.bdA S)
  | 3 => v = .agg (Un.bdA H)
  | 4 => v = .agg (Un.bdA L)
  | 5 => ∃ b, v = .slice (some ⟨b, 0, none⟩) 4 4 ∧ Tp.Sl w' (some ⟨b, 0, none⟩) 4 17 (Un.bdF [S, S, H, L])
  | 6 => ∃ b, v = .slice (some ⟨b, 0, none⟩) 2 2 ∧ Tp.Sl w' (some ⟨b, 0, none⟩) 2 1 (Un.ic [0, 1])
  | 7 => ∃ a c, v = .tuple #[.slice a 1 c, .int .i64 0] ∧ Tp.Sl w' a 1 1 (Un.ic [3])
  | 8 => ∃ a c, v = .tuple #[.slice a 1 c, .int .i64 0] ∧ Tp.Sl w' a 1 1 (Un.ic [3])
  | 9 => ∃ a c, v = .slice a 1 c ∧ Tp.Sl w' a 1 1 (Un.ic [3])
  | 10 => v = .int .i64 0
  | 11 => ∃ a c, v = .slice a 1 c ∧ Tp.Sl w' a 1 1 (Un.ic [3])
  | _ => v = .int .i64 0)
  (fun h k => h.trans (k.mono h.size)) (Below.drew (Below.refl _ _)) (fun _ => Below.refl _ _) ?_ ?_ ?_
 ·intro q v A C h1 h2 h3
  split at h3 <;> try exact h3
  ·obtain ⟨b, e, hb⟩ := h3; exact ⟨b, e, hb.kept h2 nlr⟩
  ·obtain ⟨b, e, hb⟩ := h3; exact ⟨b, e, hb.kept h2 nlr⟩
  ·obtain ⟨a, c, e, hb⟩ := h3; exact ⟨a, c, e, hb.kept h2 nlr⟩
  ·obtain ⟨a, c, e, hb⟩ := h3; exact ⟨a, c, e, hb.kept h2 nlr⟩
  ·obtain ⟨a, c, e, hb⟩ := h3; exact ⟨a, c, e, hb.kept h2 nlr⟩
  ·obtain ⟨a, c, e, hb⟩ := h3; exact ⟨a, c, e, hb.kept h2 nlr⟩
 ·simp only [List.take_succ_cons, List.take_zero, Kit.StepsV, Kit.VOp, Kit.RdP, true_and, if_true, and_true]
  refine ⟨?_, ?_, ?_, ?_, ?_, ?_, ?_, ?_, ?_, ?_, ?_, ?_, ?_⟩
  all_goals intro ev w' hx hv hc hf hg
  ·have so : ∀ j, w'.cell? ⟨b1, j, none⟩ = (Un.wkC X p)[j]? := (HS12.out.then hx).wk
   simp at hv
   simp [execOp, hv, hc, so, go_sem, Kit.UponV, Below.refl]
  ·simp [execOp, hc, hf, go_sem, Kit.UponV]
   refine (HST.out w').mono ?_
   rintro e w3 ⟨rfl, hb⟩
   exact ⟨_, rfl, rfl, hb⟩
  ·simp [execOp, hc, hf, go_sem, Kit.UponV]
   refine (HST.out w').mono ?_
   rintro e w3 ⟨rfl, hb⟩
   exact ⟨_, rfl, rfl, hb⟩
  ·simp at hv
   simp only [execOp, hv, Instr.loadAt, Instr.sureAddr, Sem.run_bind, Sem.run_pure, Result.andThen_ok, run_loadVar_mid w' b2 0 36 (Un.bdA H).toList _ (HS12.out.then hx).rh Tryz.underlying36 rfl HIH.out]
   simp [Kit.UponV, Below.refl]
  ·simp at hv
   simp only [execOp, hv, Instr.loadAt, Instr.sureAddr, Sem.run_bind, Sem.run_pure, Result.andThen_ok, run_loadVar_mid w' (b2 + 1) 0 36 (Un.bdA L).toList _ (HS12.out.then hx).rl Tryz.underlying36 rfl HIL.out]
   simp [Kit.UponV, Below.refl]
  ·obtain ⟨hv1, hv2, hv3, hv4⟩ := hv
   simp only [execOp, List.map_toArray, List.map_cons, List.map_nil, hv1, hv2, hv3, hv4, Sem.run_bind, HBU.out, Result.andThen_ok]
   simp only [Sem.run_pure, Kit.UponV]
   exact ⟨⟨_, rfl, Ux.sl4 S H L w'⟩, (Below.refl _ _).alloc nlr _⟩
  ·simp [execOp, hc, go_sem, Kit.UponV]
   exact ⟨Ux.sl01 w', (Below.refl _ _).alloc nlr _⟩
  ·obtain ⟨hv1, ⟨b, hv2, hb⟩, ⟨c2, hv3, hb2⟩⟩ := hv
   simp [execOp, hv1, hv2, hv3, hc, hf, go_sem, Kit.UponV]
   refine (HRD.out w' b c2 (HS12.out.then hx) hb hb2).mono ?_
   rintro e w3 ⟨⟨a, c, rfl, hs⟩, hbl⟩
   exact ⟨_, rfl, ⟨a, ⟨c, rfl⟩, hs⟩, hbl⟩
  ·obtain ⟨a, c, hv, hs⟩ := hv
   simp [execOp, hv, hc, go_sem, Kit.UponV, Below.refl]
   exact hs
  ·obtain ⟨a, c, hv, hs⟩ := hv
   simp [execOp, hv, hc, go_sem, Kit.UponV, Below.refl]
   exact hs
  ·obtain ⟨a, c, hv, hs⟩ := hv
   simp [execOp, hv, hc, go_sem, Kit.UponV, Below.refl]
  ·obtain ⟨a, c, hv, hs⟩ := hv
   simp [execOp, hv, hc, go_sem, Kit.UponV, Below.refl]
   exact hs
  ·simp [execOp, hv, hc, go_sem, Kit.UponV, Below.refl]
 ·intro vs W13 hv hx
  obtain ⟨a20, c20, v11, h20⟩ : ∃ a c, vs 11 = .slice a 1 c ∧ Tp.Sl W13 a 1 1 (Un.ic [3]) := hv 11 omg
  have v12 : vs 12 = .int .i64 0 := hv 12 omg
  clear hv
  have HS13 := qh (HS12.out.then hx)
  have HTX := qh (HTW.out.kept hx nlr)
  clear HTW
  have HTW := qh HTX.out
  have H20 := qh h20
  clear HTX HS12 hx HRD HBU h20
  simp only [Kit.putD, List.getD_cons_zero, List.getD_cons_succ, Act.put, v11, v12, List.drop_succ_cons, List.drop_zero]
  generalize vs 0 = y0 at *
  generalize vs 1 = y1 at *
  generalize vs 2 = y2 at *
  generalize vs 3 = y3 at *
  generalize vs 4 = y4 at *
  generalize vs 5 = y5 at *
  generalize vs 6 = y6 at *
  generalize vs 7 = y7 at *
  generalize vs 8 = y8 at *
  generalize vs 9 = y9 at *
  generalize vs 10 = y10 at *
  clear v11 v12
  go_simp
  have wk : ∀ j, W13.cell? ⟨b1, j, none⟩ = (Un.wkC X p)[j]? := HS13.out.wk
  go_wp2_with fail
  refine Kit.calls_name ?_
  intro V13 hV13
  have HS14 := qh (show Ux.SN w X p S H L b1 b2 (b2 + 1) V13 by rw [hV13]; exact HS13.out.then ((Below.refl _ _).alloc nlr _))
  have HTX := qh (show Tp.Sl V13 (some ⟨b4, 0, none⟩) 2 17 (Un.bdF [S, S]) by rw [hV13]; exact HTW.out.kept ((Below.refl _ _).alloc nlr _) nlr)
  have H20x := qh (show Tp.Sl V13 a20 1 1 (Un.ic [3]) by rw [hV13]; exact H20.out.kept ((Below.refl _ _).alloc nlr _) nlr)
  have h10 := Ux.sl10 W13
  rw [← hV13] at h10
  have h := un_ready_0 X p V13 (HL.out.kept HS14.out.bel nlr) HS14.out.at_ [S, S] (some ⟨b4, 0, none⟩) 2 HTX.out HNS.out [1, 0] (some ⟨W13.heap.size, 0, none⟩) 2 h10 (by simp) (by simp) 0 0 (HF.out.kept HS14.out.bel nlr) HFA.out.r1.1
  clear hV13 HS13 HTW H20 h10 wk
  refine (show Calls _ _ _ _ _ from h).mono ?_
  rintro _ W14 ⟨v, l, rfl, hr, ho, hb⟩
  obtain ⟨a22, c22, e22⟩ := Ux.rdy0 hr HFA.out.r1.2 ho
  obtain rfl : v = .slice a22 0 c22 := by simpa using e22
  have HS15 := qh (HS14.out.then hb)
  have HTW := qh (HTX.out.kept hb nlr)
  have H20 := qh (H20x.out.kept hb nlr)
  clear h hr ho hb e22 HS14 HTX H20x
  go_upto_region 12 with fail

  have A15 := qh (show ∀ z : Kit.Wd W14, Calls Tryz.prog 12 #[.agg #[.int .i64 X.wd, .int .i64 X.dp, .int .i64 X.ta, .int .i64 X.tb, .int .i64 X.tc, .slice p.aR X.ro.length p.cR, .int .i64 X.n, .slice p.aT X.ts.length p.cT, .slice p.aP X.ps.length p.cP, .slice p.aS X.ss.length p.cS, .slice p.aG X.sg.length p.cG], .agg (Un.bdA S), .int .i64 (-1), .int .i64 0] z.val fun e w' => e = .returned (.tuple #[.int .i64 0, .bool false, .int .i64 1]) ∧ Below z.val.heap.size z.val w' from fun z => by
   have hs := HS15.out.then z.below
   have h := (by have h := un_able X p z.val (HL.out.kept hs.bel nlr) (HF.out.kept hs.bel nlr) hs.at_ S HFA.out.ns (-1) 0; unfold Un.Able at h; rw [HFA.out.a3] at h; exact h : Calls Tryz.prog 12 #[Ex.workV X p, .agg (Un.bdA S), .int .i64 (-1), .int .i64 0] z.val _)
   exact h)
  have qs : ∀ z : Kit.Wd W14, Ux.SN w X p S H L b1 b2 (b2 + 1) z.val := fun z => HS15.out.then z.below
  have q0 : ∀ z : Kit.Wd W14, z.val.cell? ⟨b1, 0, none⟩ = some (.int .i64 X.wd) := fun z => (qs z).wk 0
  have q1 : ∀ z : Kit.Wd W14, z.val.cell? ⟨b1, 1, none⟩ = some (.int .i64 X.dp) := fun z => (qs z).wk 1
  have q2 : ∀ z : Kit.Wd W14, z.val.cell? ⟨b1, 2, none⟩ = some (.int .i64 X.ta) := fun z => (qs z).wk 2
  have q3 : ∀ z : Kit.Wd W14, z.val.cell? ⟨b1, 3, none⟩ = some (.int .i64 X.tb) := fun z => (qs z).wk 3
  have q4 : ∀ z : Kit.Wd W14, z.val.cell? ⟨b1, 4, none⟩ = some (.int .i64 X.tc) := fun z => (qs z).wk 4
  have q5 : ∀ z : Kit.Wd W14, z.val.cell? ⟨b1, 5, none⟩ = some (.slice p.aR X.ro.length p.cR) := fun z => (qs z).wk 5
  have q6 : ∀ z : Kit.Wd W14, z.val.cell? ⟨b1, 6, none⟩ = some (.int .i64 X.n) := fun z => (qs z).wk 6
  have q7 : ∀ z : Kit.Wd W14, z.val.cell? ⟨b1, 7, none⟩ = some (.slice p.aT X.ts.length p.cT) := fun z => (qs z).wk 7
  have q8 : ∀ z : Kit.Wd W14, z.val.cell? ⟨b1, 8, none⟩ = some (.slice p.aP X.ps.length p.cP) := fun z => (qs z).wk 8
  have q9 : ∀ z : Kit.Wd W14, z.val.cell? ⟨b1, 9, none⟩ = some (.slice p.aS X.ss.length p.cS) := fun z => (qs z).wk 9
  have q10 : ∀ z : Kit.Wd W14, z.val.cell? ⟨b1, 10, none⟩ = some (.slice p.aG X.sg.length p.cG) := fun z => (qs z).wk 10
  refine Kit.wp_region_cls (by kernel_rfl) (by kernel_rfl) ?_
  (repeat (go_big_quiet_step (first | (with_reducible exact Kit.calls_cls _ (HST.out _)) | (with_reducible exact Kit.calls_cls _ (A15.out _)))))
  refine wpQuiet_nil ?_
  intro z
  have HS16 := qh (qs z)
  have HTX := qh (HTW.out.kept z.below nlr)
  clear HTW
  have HTW := qh HTX.out
  clear HTX A15 HS15 qs q0 q1 q2 q3 q4 q5 q6 q7 q8 q9 q10
  have H20x := qh (H20.out.kept z.below nlr)
  clear H20
  have H20 := qh H20x.out
  clear H20x
  generalize z.val = W15 at *
  clear z
  go_upto_region 13 with fail
  have A16 := qh (show ∀ z : Kit.Wd W15, Calls Tryz.prog 14 #[.agg #[.int .i64 X.wd, .int .i64 X.dp, .int .i64 X.ta, .int .i64 X.tb, .int .i64 X.tc, .slice p.aR X.ro.length p.cR, .int .i64 X.n, .slice p.aT X.ts.length p.cT, .slice p.aP X.ps.length p.cP, .slice p.aS X.ss.length p.cS, .slice p.aG X.sg.length p.cG], .slice none 0 0, .agg (Un.bdA S), .int .i64 0, .int .i64 0] z.val fun e w' => e = .returned (.tuple #[.int .i64 0, .bool false, .int .i64 480]) ∧ Below z.val.heap.size z.val w' from fun z => by
   have hs := HS16.out.then z.below
   have h := (by have h := un_lifts X p z.val (HL.out.kept hs.bel nlr) hs.at_ [] none 0 (.inl rfl) (by simp) (fun b hb => by cases hb) S HFA.out.ns 0 0; rw [HFA.out.b2] at h; exact h : Calls Tryz.prog 14 #[Ex.workV X p, .slice none 0 0, .agg (Un.bdA S), .int .i64 0, .int .i64 0] z.val _)
   exact h)
  have qs : ∀ z : Kit.Wd W15, Ux.SN w X p S H L b1 b2 (b2 + 1) z.val := fun z => HS16.out.then z.below
  have q0 : ∀ z : Kit.Wd W15, z.val.cell? ⟨b1, 0, none⟩ = some (.int .i64 X.wd) := fun z => (qs z).wk 0
  have q1 : ∀ z : Kit.Wd W15, z.val.cell? ⟨b1, 1, none⟩ = some (.int .i64 X.dp) := fun z => (qs z).wk 1
  have q2 : ∀ z : Kit.Wd W15, z.val.cell? ⟨b1, 2, none⟩ = some (.int .i64 X.ta) := fun z => (qs z).wk 2
  have q3 : ∀ z : Kit.Wd W15, z.val.cell? ⟨b1, 3, none⟩ = some (.int .i64 X.tb) := fun z => (qs z).wk 3
  have q4 : ∀ z : Kit.Wd W15, z.val.cell? ⟨b1, 4, none⟩ = some (.int .i64 X.tc) := fun z => (qs z).wk 4
  have q5 : ∀ z : Kit.Wd W15, z.val.cell? ⟨b1, 5, none⟩ = some (.slice p.aR X.ro.length p.cR) := fun z => (qs z).wk 5
  have q6 : ∀ z : Kit.Wd W15, z.val.cell? ⟨b1, 6, none⟩ = some (.int .i64 X.n) := fun z => (qs z).wk 6
  have q7 : ∀ z : Kit.Wd W15, z.val.cell? ⟨b1, 7, none⟩ = some (.slice p.aT X.ts.length p.cT) := fun z => (qs z).wk 7
  have q8 : ∀ z : Kit.Wd W15, z.val.cell? ⟨b1, 8, none⟩ = some (.slice p.aP X.ps.length p.cP) := fun z => (qs z).wk 8
  have q9 : ∀ z : Kit.Wd W15, z.val.cell? ⟨b1, 9, none⟩ = some (.slice p.aS X.ss.length p.cS) := fun z => (qs z).wk 9
  have q10 : ∀ z : Kit.Wd W15, z.val.cell? ⟨b1, 10, none⟩ = some (.slice p.aG X.sg.length p.cG) := fun z => (qs z).wk 10
  refine Kit.wp_region_cls (by kernel_rfl) (by kernel_rfl) ?_
  (repeat (go_big_quiet_step (first | (with_reducible exact Kit.calls_cls _ (HST.out _)) | (with_reducible exact Kit.calls_cls _ (A16.out _)))))
  refine wpQuiet_nil ?_
  intro z
  have HS17 := qh (qs z)
  have HTX := qh (HTW.out.kept z.below nlr)
  clear HTW
  have HTW := qh HTX.out
  clear HTX A16 HS16 qs q0 q1 q2 q3 q4 q5 q6 q7 q8 q9 q10
  have H20x := qh (H20.out.kept z.below nlr)
  clear H20
  have H20 := qh H20x.out
  clear H20x
  generalize z.val = W16 at *
  clear z
  have wk : ∀ j, W16.cell? ⟨b1, j, none⟩ = (Un.wkC X p)[j]? := HS17.out.wk
  go_wp2_with fail
  refine Kit.calls_name ?_
  intro V16 hV16
  have HS18 := qh (show Ux.SN w X p S H L b1 b2 (b2 + 1) V16 by rw [hV16]; exact HS17.out.then ((Below.refl _ _).alloc nlr _))
  have HTX := qh (show Tp.Sl V16 (some ⟨b4, 0, none⟩) 2 17 (Un.bdF [S, S]) by rw [hV16]; exact HTW.out.kept ((Below.refl _ _).alloc nlr _) nlr)
  have H20x := qh (show Tp.Sl V16 a20 1 1 (Un.ic [3]) by rw [hV16]; exact H20.out.kept ((Below.refl _ _).alloc nlr _) nlr)
  have h11 := Ux.sl11 W16
  rw [← hV16] at h11
  have h := un_ready_e X p V16 (HL.out.kept HS18.out.bel nlr) HS18.out.at_ [S, S] (some ⟨b4, 0, none⟩) 2 HTX.out (by simp) HNS.out [1, 1] (some ⟨W16.heap.size, 0, none⟩) 2 h11 (by simp) (by simp) 0 0 (by rw [HFA.out.r2]; decide)
  rw [HFA.out.r2] at h
  clear hV16 HS17 HTW H20 h11 wk
  refine (show Calls _ _ _ _ _ from h).mono ?_
  rintro _ W17 ⟨rfl, hb⟩
  have HB17 := qh (HS18.out.then hb).bel
  have H20 := qh (H20x.out.kept hb nlr)
  clear h hb HS18 HTX H20x
  go_wp2_with fail
  have hsi := rf_sameints a20 [3] c20 (some ⟨W17.heap.size, 0, none⟩) [3] 1 (W17.alloc (.cells #[.int .i64 3] 3)) (by simp) (by simp) (H20.out.kept ((Below.refl _ _).alloc nlr _) nlr) (Ux.sl3 W17)
  rw [show decide (([3] : List Int) = [3]) = true from rfl] at hsi
  refine (show Calls _ _ _ _ _ from hsi).mono ?_
  rintro _ W18 ⟨rfl, hb⟩
  have HB18 := qh (HB17.out.trans (((Below.refl W17.heap.size W17).alloc nlr _).trans (hb.mono (by simp)) |>.mono HB17.out.size))
  clear hb hsi HB17
  go_wp2_with fail
  go_ret
  exact ⟨rfl, HB18.out⟩
end Go.Proofs.YtbhgogiaaljclaaGreatDoor
