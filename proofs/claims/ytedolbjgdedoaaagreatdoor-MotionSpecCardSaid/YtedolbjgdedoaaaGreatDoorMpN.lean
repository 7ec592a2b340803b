/- Walks: the laws of layer 27: sane. -/
import Derived.Test.YtedolbjgdedoaaaGreatDoorMpk
import Derived.Test.YtedolbjgdedoaaaGreatDoorMou
import Derived.Test.YtedolbjgdedoaaaGreatDoorMpz
set_option linter.unusedSimpArgs false
set_option linter.unusedVariables false
set_option maxRecDepth 100000
set_option maxHeartbeats 8000000
namespace Go.Proofs.YtedolbjgdedoaaaGreatDoor
open Go.RowKit Go.Shelf
attribute [local go_sem] Oper.semAt_some
namespace Mo
theorem szBd (b : Un.Bd) : (Tryz.prog.info? 48).map (·.size) = some (Un.bdA b).size := by kernel_rfl
abbrev dr12 : Array Value := #[.int .i64 3, .int .i64 0, .int .i64 0, .bool false, .int .i64 5, .int .i64 0, .int .i64 0, .bool false, .int .i64 6, .int .i64 0, .int .i64 0, .bool true]
abbrev up12 : Array Value := #[.int .i64 3, .int .i64 0, .int .i64 0, .bool false, .int .i64 5, .int .i64 0, .int .i64 0, .bool false, .int .i64 6, .int .i64 2, .int .i64 2, .bool false]
structure SaN (w W : World) (p : Ex.Wa) (B : Nat) : Prop where
 bel : Below w.heap.size w W
 at_ : Ex.At W smW p
 wk : Kit.Bk W B 32 (smC p)
 st : Kit.Bk W (B + 1) 37 (stA smT)
 bd : Kit.Bk W (B + 2) 48 (Un.bdA smB)
 dr : Tp.Sl W (some ⟨B + 3, 0, none⟩) drop3.length 4 (rcs drop3)
 up : Tp.Sl W (some ⟨B + 4, 0, none⟩) up3.length 4 (rcs up3)
theorem SaN.then {w W W' : World} {p : Ex.Wa} {B : Nat} (h : SaN w W p B) (hb : Below W.heap.size W W') : SaN w W' p B :=
 ⟨h.bel.trans (hb.mono h.bel.size), h.at_.kept hb nlr, h.wk.below hb h.wk.lt, h.st.below hb h.st.lt, h.bd.below hb h.bd.lt, h.dr.kept hb nlr, h.up.kept hb nlr⟩
theorem re_sl {W : World} {b : Nat} {r : List Uo.Re} {cs : Array Value} {t : TypeId} (h : Kit.Bk W b t cs) (hl : r.length = 3) (hr : ∀ i j, i < 3 → j < 4 → cs[i * 4 + j]? = some (rcs r i j)) : Tp.Sl W (some ⟨b, 0, none⟩) r.length 4 (rcs r) := by
 rw [hl]
 exact bk_sl h hr
theorem SaN.start {w W1 : World} {p : Ex.Wa} (ha : Ex.At W1 smW p) (hb : Below w.heap.size w W1) : SaN w (((((W1.alloc (.cells (smC p) 32)).alloc (.cells (stA smT) 37)).alloc (.cells (Un.bdA smB) 48)).alloc (.cells dr12 69)).alloc (.cells up12 69)) p W1.heap.size := by
 obtain ⟨⟨q0, q1, q2, q3⟩, hq, hz⟩ := Kit.four W1 (smC p) (stA smT) (Un.bdA smB) dr12 32 37 48 69
 have q4 := Kit.Bk.new ((((W1.alloc (.cells (smC p) 32)).alloc (.cells (stA smT) 37)).alloc (.cells (Un.bdA smB) 48)).alloc (.cells dr12 69)) 69 up12
 rw [hz] at q4
 have hq2 := hq.alloc hq.size (.cells up12 69)
 refine ⟨hb.trans (hq2.mono hb.size), ha.kept hq2 nlr, q0.alloc _, q1.alloc _, q2.alloc _, re_sl (q3.alloc _) rfl (fun i j hi hj => ?_), re_sl q4 rfl (fun i j hi hj => ?_)⟩
 all_goals
  rcases (by omega : i = 0 ∨ i = 1 ∨ i = 2) with rfl | rfl | rfl
  all_goals rcases (by omega : j = 0 ∨ j = 1 ∨ j = 2 ∨ j = 3) with rfl | rfl | rfl | rfl <;> rfl
end Mo

theorem sa_e1 {w W : World} {p : Ex.Wa} {B : Nat} (hL : Ex.Laid w) (hF : Uo.Flat w) (hK : Mo.KL w) (h : Mo.SaN w W p B) : Calls Tryz.prog 12 #[.agg (Mo.smC p), .int .i64 0, .int .i64 0, .agg (Mo.stA Mo.smT), .slice (some ⟨B + 3, 0, none⟩) 3 3] W fun e w' => e = .returned (.tuple #[.agg (Mo.stA ⟨58, 116, 2, 0, 0, 0, 0, 0, 0, 0, 0, 0, 0⟩), .int .i64 0]) ∧ Below W.heap.size W w' := by
 refine (mo_end Mo.smW p W (hL.kept h.bel nlr) (hF.kept h.bel nlr) h.at_ 0 0 Mo.smT Mo.drop3 (some ⟨B + 3, 0, none⟩) 3 h.dr).mono ?_
 rintro _ w' ⟨⟨t, er, rfl, hr⟩, hb⟩
 obtain ⟨rfl, rfl⟩ := Mo.sm_e1 hr
 exact ⟨rfl, hb⟩

theorem sa_e2 {w W : World} {p : Ex.Wa} {B : Nat} (hL : Ex.Laid w) (hF : Uo.Flat w) (hK : Mo.KL w) (h : Mo.SaN w W p B) : Calls Tryz.prog 12 #[.agg (Mo.smC p), .int .i64 0, .int .i64 0, .agg (Mo.stA Mo.smT), .slice (some ⟨B + 4, 0, none⟩) 3 3] W fun e w' => e = .returned (.tuple #[.agg (Mo.stA ⟨58, 116, 2, 0, 0, 0, 0, 0, 0, 2, 2, 0, 0⟩), .int .i64 0]) ∧ Below W.heap.size W w' := by
 refine (mo_end Mo.smW p W (hL.kept h.bel nlr) (hF.kept h.bel nlr) h.at_ 0 0 Mo.smT Mo.up3 (some ⟨B + 4, 0, none⟩) 3 h.up).mono ?_
 rintro _ w' ⟨⟨t, er, rfl, hr⟩, hb⟩
 obtain ⟨rfl, rfl⟩ := Mo.sm_e2 hr
 exact ⟨rfl, hb⟩

theorem sa_e3 {w W : World} {p : Ex.Wa} {B : Nat} (hL : Ex.Laid w) (hF : Uo.Flat w) (hK : Mo.KL w) (h : Mo.SaN w W p B) : Calls Tryz.prog 12 #[.agg (Mo.smC p), .int .i64 64, .int .i64 0, .agg (Mo.stA Mo.smT), .slice none 0 0] W fun e w' => e = .returned (.tuple #[.agg (Mo.stA Mo.St.zero), .int .i64 1]) ∧ Below W.heap.size W w' := by
 refine (mo_end Mo.smW p W (hL.kept h.bel nlr) (hF.kept h.bel nlr) h.at_ 64 0 Mo.smT [] none 0 (.inl rfl)).mono ?_
 rintro _ w' ⟨⟨t, er, rfl, hr⟩, hb⟩
 obtain ⟨rfl, rfl⟩ := Mo.sm_e3 hr
 exact ⟨rfl, hb⟩

theorem sa_s1 {w W : World} {p : Ex.Wa} {B : Nat} (hL : Ex.Laid w) (hF : Uo.Flat w) (hK : Mo.KL w) (h : Mo.SaN w W p B) : Calls Tryz.prog 16 #[.agg (Mo.smC p), .int .i64 0, .int .i64 0, .agg (Mo.stA Mo.smT), .agg (Un.bdA Mo.smB), .slice (some ⟨B + 3, 0, none⟩) 3 3] W fun e w' => e = .returned (.tuple #[.agg (Mo.bxA ⟨841, 2523, 841, 4205⟩), .int .i64 0]) ∧ Below W.heap.size W w' := by
 refine (mo_sweep Mo.smW p W (hL.kept h.bel nlr) (hF.kept h.bel nlr) (hK.kept h.bel) h.at_ 0 0 Mo.smT Mo.smB (by decide) Mo.drop3 (some ⟨B + 3, 0, none⟩) 3 h.dr).mono ?_
 rintro _ w' ⟨⟨t, er, rfl, hr⟩, hb⟩
 obtain ⟨rfl, rfl⟩ := Mo.sm_s1 hr
 exact ⟨rfl, hb⟩

theorem sa_s2 {w W : World} {p : Ex.Wa} {B : Nat} (hL : Ex.Laid w) (hF : Uo.Flat w) (hK : Mo.KL w) (h : Mo.SaN w W p B) : Calls Tryz.prog 16 #[.agg (Mo.smC p), .int .i64 0, .int .i64 0, .agg (Mo.stA Mo.smT), .agg (Un.bdA Mo.smB), .slice (some ⟨B + 4, 0, none⟩) 3 3] W fun e w' => e = .returned (.tuple #[.agg (Mo.bxA ⟨0, 3364, 0, 5046⟩), .int .i64 0]) ∧ Below W.heap.size W w' := by
 refine (mo_sweep Mo.smW p W (hL.kept h.bel nlr) (hF.kept h.bel nlr) (hK.kept h.bel) h.at_ 0 0 Mo.smT Mo.smB (by decide) Mo.up3 (some ⟨B + 4, 0, none⟩) 3 h.up).mono ?_
 rintro _ w' ⟨⟨t, er, rfl, hr⟩, hb⟩
 obtain ⟨rfl, rfl⟩ := Mo.sm_s2 hr
 exact ⟨rfl, hb⟩

theorem sa_c1 {w W : World} {p : Ex.Wa} {B : Nat} (hL : Ex.Laid w) (hF : Uo.Flat w) (hK : Mo.KL w) (h : Mo.SaN w W p B) : Calls Tryz.prog 14 #[.agg (Mo.smC p), .int .i64 0, .int .i64 0, .slice none 0 0] W fun e w' => e = .returned (.int .i64 270) ∧ Below W.heap.size W w' := by
 have hc := mo_check Mo.smW p W (hL.kept h.bel nlr) h.at_ 0 0 [] none 0 (.inl rfl)
 rw [Mo.sm_c1] at hc
 exact hc

theorem sa_c2 {w W : World} {p : Ex.Wa} {B : Nat} (hL : Ex.Laid w) (hF : Uo.Flat w) (hK : Mo.KL w) (h : Mo.SaN w W p B) : Calls Tryz.prog 14 #[.agg (Mo.smC p), .int .i64 0, .int .i64 0, .slice (some ⟨B + 4, 0, none⟩) 3 3] W fun e w' => e = .returned (.int .i64 0) ∧ Below W.heap.size W w' := by
 have hc := mo_check Mo.smW p W (hL.kept h.bel nlr) h.at_ 0 0 Mo.up3 (some ⟨B + 4, 0, none⟩) 3 h.up
 rw [Mo.sm_c2] at hc
 exact hc

theorem lw_sane (w : World) (hL : Ex.Laid w) (hF : Uo.Flat w) (hK : Mo.KL w) : Calls Tryz.prog 10 #[] w fun e w' => e = .returned (.bool true) ∧ Below w.heap.size w w' := by
 have HSM := qh (fun W => lw_small W)
 have HE1 := qh (fun W p B (h : Mo.SaN w W p B) => sa_e1 hL hF hK h)
 have HE2 := qh (fun W p B (h : Mo.SaN w W p B) => sa_e2 hL hF hK h)
 have HE3 := qh (fun W p B (h : Mo.SaN w W p B) => sa_e3 hL hF hK h)
 have HS1 := qh (fun W p B (h : Mo.SaN w W p B) => sa_s1 hL hF hK h)
 have HS2 := qh (fun W p B (h : Mo.SaN w W p B) => sa_s2 hL hF hK h)
 have HC1 := qh (fun W p B (h : Mo.SaN w W p B) => sa_c1 hL hF hK h)
 have HC2 := qh (fun W p B (h : Mo.SaN w W p B) => sa_c2 hL hF hK h)
 clear hL hF hK 
 go_enter Tryz.func10, Tryz.ntmps10
 go_wp2_with fail
 refine (HSM.out _).mono ?_
 rintro _ W1 ⟨p, rfl, ha1, hb1⟩
 have HS1 := qh (Mo.SaN.start ha1 hb1)
 clear ha1 hb1 HSM
 obtain ⟨aR, cR, aT, cT, aP, cP, aS, cS, aG, cG⟩ := p
 dsimp only [Ex.workV, Ex.wv, Mo.smW, Mo.smS, List.length_cons, List.length_nil]
 go_upto_region 5 with fail
 refine Kit.wp_name ?_
 intro W2 hW2
 have HS := qh (show Mo.SaN w W2 ⟨aR, cR, aT, cT, aP, cP, aS, cS, aG, cG⟩ W1.heap.size by rw [hW2]; exact HS1.out)
 obtain ⟨B, hB⟩ : ∃ b, W1.heap.size = b := ⟨_, rfl⟩
 rw [hB] at HS ⊢
 clear hW2 hB HS1
 refine wp_region_lit ?_
 refine Kit.load_bk0 rfl 32 (.tmp 1) rfl B rfl HS.out.wk Tryz.underlying32 rfl (Mo.szWk ⟨aR, cR, aT, cT, aP, cP, aS, cS, aG, cG⟩) ?_
 refine Kit.load_bk0 rfl 37 (.tmp 2) rfl (B + 1) rfl HS.out.st Tryz.underlying37 rfl (Mo.szS Mo.smT) ?_
 simp only [Act.put]
 go_simp
 go_wp2_with fail
 refine (HE1.out _ ⟨aR, cR, aT, cT, aP, cP, aS, cS, aG, cG⟩ B HS.out).mono ?_
 rintro _ W4 ⟨rfl, hb⟩
 have HSx := qh (HS.out.then hb)
 clear HS
 clear hb
 go_upto_region 6 with fail
 refine Kit.wp_name ?_
 intro W5 hW
 have hb : Below W4.heap.size W4 W5 := by rw [hW]; exact (Below.refl _ _).alloc nlr _
 have HS := qh (HSx.out.then hb)
 clear HSx
 have Qk1 := qh (show Kit.Bk W5 W4.heap.size 37 (Mo.stA ⟨58, 116, 2, 0, 0, 0, 0, 0, 0, 0, 0, 0, 0⟩) by rw [hW]; exact Kit.Bk.new _ _ _)
 obtain ⟨k1, hB⟩ : ∃ b, W4.heap.size = b := ⟨_, rfl⟩
 rw [hB] at Qk1 ⊢
 clear hW hB hb
 go_upto_region 6 with fail
 refine wp_region_lit ?_
 refine Kit.load_bk0 rfl 32 (.tmp 1) rfl B rfl HS.out.wk Tryz.underlying32 rfl (Mo.szWk ⟨aR, cR, aT, cT, aP, cP, aS, cS, aG, cG⟩) ?_
 refine Kit.load_bk0 rfl 37 (.tmp 2) rfl (B + 1) rfl HS.out.st Tryz.underlying37 rfl (Mo.szS Mo.smT) ?_
 simp only [Act.put]
 go_simp
 go_wp2_with fail
 refine (HE2.out _ ⟨aR, cR, aT, cT, aP, cP, aS, cS, aG, cG⟩ B HS.out).mono ?_
 rintro _ W6 ⟨rfl, hb⟩
 have HSx := qh (HS.out.then hb)
 clear HS
 have Qk1x := qh (Qk1.out.below hb Qk1.out.lt)
 clear Qk1
 have Qk1 := qh Qk1x.out
 clear Qk1x
 clear hb
 go_upto_region 7 with fail
 refine Kit.wp_name ?_
 intro W7 hW
 have hb : Below W6.heap.size W6 W7 := by rw [hW]; exact (Below.refl _ _).alloc nlr _
 have HS := qh (HSx.out.then hb)
 clear HSx
 have Qk1x := qh (Qk1.out.below hb Qk1.out.lt)
 clear Qk1
 have Qk1 := qh Qk1x.out
 clear Qk1x
 have Qk2 := qh (show Kit.Bk W7 W6.heap.size 37 (Mo.stA ⟨58, 116, 2, 0, 0, 0, 0, 0, 0, 2, 2, 0, 0⟩) by rw [hW]; exact Kit.Bk.new _ _ _)
 obtain ⟨k2, hB⟩ : ∃ b, W6.heap.size = b := ⟨_, rfl⟩
 rw [hB] at Qk2 ⊢
 clear hW hB hb
 go_upto_region 7 with fail
 refine wp_region_lit ?_
 refine Kit.load_bk0 rfl 32 (.tmp 1) rfl B rfl HS.out.wk Tryz.underlying32 rfl (Mo.szWk ⟨aR, cR, aT, cT, aP, cP, aS, cS, aG, cG⟩) ?_
 refine Kit.load_bk0 rfl 37 (.tmp 2) rfl (B + 1) rfl HS.out.st Tryz.underlying37 rfl (Mo.szS Mo.smT) ?_
 refine Kit.load_bk0 rfl 48 (.tmp 3) rfl (B + 2) rfl HS.out.bd Tryz.underlying48 rfl (Mo.szBd Mo.smB) ?_
 simp only [Act.put]
 go_simp
 go_wp2_with fail
 refine (HS1.out _ ⟨aR, cR, aT, cT, aP, cP, aS, cS, aG, cG⟩ B HS.out).mono ?_
 rintro _ W8 ⟨rfl, hb⟩
 have HSx := qh (HS.out.then hb)
 clear HS
 have Qk1x := qh (Qk1.out.below hb Qk1.out.lt)
 clear Qk1
 have Qk1 := qh Qk1x.out
 clear Qk1x
 have Qk2x := qh (Qk2.out.below hb Qk2.out.lt)
 clear Qk2
 have Qk2 := qh Qk2x.out
 clear Qk2x
 clear hb
 go_upto_region 8 with fail
 refine Kit.wp_name ?_
 intro W9 hW
 have hb : Below W8.heap.size W8 W9 := by rw [hW]; exact (Below.refl _ _).alloc nlr _
 have HS := qh (HSx.out.then hb)
 clear HSx
 have Qk1x := qh (Qk1.out.below hb Qk1.out.lt)
 clear Qk1
 have Qk1 := qh Qk1x.out
 clear Qk1x
 have Qk2x := qh (Qk2.out.below hb Qk2.out.lt)
 clear Qk2
 have Qk2 := qh Qk2x.out
 clear Qk2x
 have Qk3 := qh (show Kit.Bk W9 W8.heap.size 52 (Mo.bxA ⟨841, 2523, 841, 4205⟩) by rw [hW]; exact Kit.Bk.new _ _ _)
 obtain ⟨k3, hB⟩ : ∃ b, W8.heap.size = b := ⟨_, rfl⟩
 rw [hB] at Qk3 ⊢
 clear hW hB hb
 go_upto_region 8 with fail
 refine wp_region_lit ?_
 refine Kit.load_bk0 rfl 32 (.tmp 1) rfl B rfl HS.out.wk Tryz.underlying32 rfl (Mo.szWk ⟨aR, cR, aT, cT, aP, cP, aS, cS, aG, cG⟩) ?_
 refine Kit.load_bk0 rfl 37 (.tmp 2) rfl (B + 1) rfl HS.out.st Tryz.underlying37 rfl (Mo.szS Mo.smT) ?_
 refine Kit.load_bk0 rfl 48 (.tmp 3) rfl (B + 2) rfl HS.out.bd Tryz.underlying48 rfl (Mo.szBd Mo.smB) ?_
 simp only [Act.put]
 go_simp
 go_wp2_with fail
 refine (HS2.out _ ⟨aR, cR, aT, cT, aP, cP, aS, cS, aG, cG⟩ B HS.out).mono ?_
 rintro _ W10 ⟨rfl, hb⟩
 have HSx := qh (HS.out.then hb)
 clear HS
 have Qk1x := qh (Qk1.out.below hb Qk1.out.lt)
 clear Qk1
 have Qk1 := qh Qk1x.out
 clear Qk1x
 have Qk2x := qh (Qk2.out.below hb Qk2.out.lt)
 clear Qk2
 have Qk2 := qh Qk2x.out
 clear Qk2x
 have Qk3x := qh (Qk3.out.below hb Qk3.out.lt)
 clear Qk3
 have Qk3 := qh Qk3x.out
 clear Qk3x
 clear hb
 go_upto_region 9 with fail
 refine Kit.wp_name ?_
 intro W11 hW
 have hb : Below W10.heap.size W10 W11 := by rw [hW]; exact (Below.refl _ _).alloc nlr _
 have HS := qh (HSx.out.then hb)
 clear HSx
 have Qk1x := qh (Qk1.out.below hb Qk1.out.lt)
 clear Qk1
 have Qk1 := qh Qk1x.out
 clear Qk1x
 have Qk2x := qh (Qk2.out.below hb Qk2.out.lt)
 clear Qk2
 have Qk2 := qh Qk2x.out
 clear Qk2x
 have Qk3x := qh (Qk3.out.below hb Qk3.out.lt)
 clear Qk3
 have Qk3 := qh Qk3x.out
 clear Qk3x
 have Qk4 := qh (show Kit.Bk W11 W10.heap.size 52 (Mo.bxA ⟨0, 3364, 0, 5046⟩) by rw [hW]; exact Kit.Bk.new _ _ _)
 obtain ⟨k4, hB⟩ : ∃ b, W10.heap.size = b := ⟨_, rfl⟩
 rw [hB] at Qk4 ⊢
 clear hW hB hb
 go_upto_region 9 with fail
 refine wp_region_lit ?_
 refine Kit.load_bk0 rfl 32 (.tmp 1) rfl B rfl HS.out.wk Tryz.underlying32 rfl (Mo.szWk ⟨aR, cR, aT, cT, aP, cP, aS, cS, aG, cG⟩) ?_
 refine Kit.load_bk0 rfl 37 (.tmp 2) rfl (B + 1) rfl HS.out.st Tryz.underlying37 rfl (Mo.szS Mo.smT) ?_
 simp only [Act.put]
 go_simp
 go_wp2_with fail
 refine (HE3.out _ ⟨aR, cR, aT, cT, aP, cP, aS, cS, aG, cG⟩ B HS.out).mono ?_
 rintro _ W12 ⟨rfl, hb⟩
 have HSx := qh (HS.out.then hb)
 clear HS
 have Qk1x := qh (Qk1.out.below hb Qk1.out.lt)
 clear Qk1
 have Qk1 := qh Qk1x.out
 clear Qk1x
 have Qk2x := qh (Qk2.out.below hb Qk2.out.lt)
 clear Qk2
 have Qk2 := qh Qk2x.out
 clear Qk2x
 have Qk3x := qh (Qk3.out.below hb Qk3.out.lt)
 clear Qk3
 have Qk3 := qh Qk3x.out
 clear Qk3x
 have Qk4x := qh (Qk4.out.below hb Qk4.out.lt)
 clear Qk4
 have Qk4 := qh Qk4x.out
 clear Qk4x
 clear hb
 go_upto_region 10 with fail
 refine Kit.wp_name ?_
 intro W13 hW
 have hb : Below W12.heap.size W12 W13 := by rw [hW]; exact (Below.refl _ _).alloc nlr _
 have HS := qh (HSx.out.then hb)
 clear HSx
 have Qk1x := qh (Qk1.out.below hb Qk1.out.lt)
 clear Qk1
 have Qk1 := qh Qk1x.out
 clear Qk1x
 have Qk2x := qh (Qk2.out.below hb Qk2.out.lt)
 clear Qk2
 have Qk2 := qh Qk2x.out
 clear Qk2x
 have Qk3x := qh (Qk3.out.below hb Qk3.out.lt)
 clear Qk3
 have Qk3 := qh Qk3x.out
 clear Qk3x
 have Qk4x := qh (Qk4.out.below hb Qk4.out.lt)
 clear Qk4
 have Qk4 := qh Qk4x.out
 clear Qk4x
 have Qk5 := qh (show Kit.Bk W13 W12.heap.size 37 (Mo.stA Mo.St.zero) by rw [hW]; exact Kit.Bk.new _ _ _)
 obtain ⟨k5, hB⟩ : ∃ b, W12.heap.size = b := ⟨_, rfl⟩
 rw [hB] at Qk5 ⊢
 clear hW hB hb
 have wk : ∀ j, W13.cell? ⟨B, j, none⟩ = (Mo.smC ⟨aR, cR, aT, cT, aP, cP, aS, cS, aG, cG⟩)[j]? := fun j => HS.out.wk.cell j
 go_wp2_with fail
 refine (HC1.out _ ⟨aR, cR, aT, cT, aP, cP, aS, cS, aG, cG⟩ B HS.out).mono ?_
 rintro _ W14 ⟨rfl, hb⟩
 have HSx := qh (HS.out.then hb)
 clear HS wk
 have HS := qh HSx.out
 clear HSx
 have Qk1x := qh (Qk1.out.below hb Qk1.out.lt)
 clear Qk1
 have Qk1 := qh Qk1x.out
 clear Qk1x
 have Qk2x := qh (Qk2.out.below hb Qk2.out.lt)
 clear Qk2
 have Qk2 := qh Qk2x.out
 clear Qk2x
 have Qk3x := qh (Qk3.out.below hb Qk3.out.lt)
 clear Qk3
 have Qk3 := qh Qk3x.out
 clear Qk3x
 have Qk4x := qh (Qk4.out.below hb Qk4.out.lt)
 clear Qk4
 have Qk4 := qh Qk4x.out
 clear Qk4x
 have Qk5x := qh (Qk5.out.below hb Qk5.out.lt)
 clear Qk5
 have Qk5 := qh Qk5x.out
 clear Qk5x
 clear hb
 have wk : ∀ j, W14.cell? ⟨B, j, none⟩ = (Mo.smC ⟨aR, cR, aT, cT, aP, cP, aS, cS, aG, cG⟩)[j]? := fun j => HS.out.wk.cell j
 go_wp2_with fail
 refine (HC2.out _ ⟨aR, cR, aT, cT, aP, cP, aS, cS, aG, cG⟩ B HS.out).mono ?_
 rintro _ W15 ⟨rfl, hb⟩
 have HSx := qh (HS.out.then hb)
 clear HS wk
 have HS := qh HSx.out
 clear HSx
 have Qk1x := qh (Qk1.out.below hb Qk1.out.lt)
 clear Qk1
 have Qk1 := qh Qk1x.out
 clear Qk1x
 have Qk2x := qh (Qk2.out.below hb Qk2.out.lt)
 clear Qk2
 have Qk2 := qh Qk2x.out
 clear Qk2x
 have Qk3x := qh (Qk3.out.below hb Qk3.out.lt)
 clear Qk3
 have Qk3 := qh Qk3x.out
 clear Qk3x
 have Qk4x := qh (Qk4.out.below hb Qk4.out.lt)
 clear Qk4
 have Qk4 := qh Qk4x.out
 clear Qk4x
 have Qk5x := qh (Qk5.out.below hb Qk5.out.lt)
 clear Qk5
 have Qk5 := qh Qk5x.out
 clear Qk5x
 clear hb
 go_upto_region 13 with fail
 refine Kit.wp_name ?_
 intro X1 hW
 have hb : Below W15.heap.size W15 X1 := by rw [hW]; exact (Below.refl _ _).alloc nlr _
 have HSx := qh (HS.out.then hb)
 clear HS
 have HS := qh HSx.out
 clear HSx
 have Qk1x := qh (Qk1.out.below hb Qk1.out.lt)
 clear Qk1
 have Qk1 := qh Qk1x.out
 clear Qk1x
 have Qk2x := qh (Qk2.out.below hb Qk2.out.lt)
 clear Qk2
 have Qk2 := qh Qk2x.out
 clear Qk2x
 have Qk3x := qh (Qk3.out.below hb Qk3.out.lt)
 clear Qk3
 have Qk3 := qh Qk3x.out
 clear Qk3x
 have Qk4x := qh (Qk4.out.below hb Qk4.out.lt)
 clear Qk4
 have Qk4 := qh Qk4x.out
 clear Qk4x
 have Qk5x := qh (Qk5.out.below hb Qk5.out.lt)
 clear Qk5
 have Qk5 := qh Qk5x.out
 clear Qk5x
 have HW7 := qh (show w.heap.size ≤ X1.heap.size from HS.out.bel.size)
 have Qk6 := qh (show Kit.Bk X1 W15.heap.size 37 (Mo.stA ⟨58, 116, 2, 0, 0, 0, 0, 0, 0, 0, 0, 0, 0⟩) by rw [hW]; exact Kit.Bk.new _ _ _)
 obtain ⟨k6, hB⟩ : ∃ b, W15.heap.size = b := ⟨_, rfl⟩
 rw [hB] at Qk6 ⊢
 clear hW hB hb
 refine wp_region_lit ?_
 refine Kit.load_bk0 rfl 37 (.tmp 16) rfl k6 rfl Qk6.out Tryz.underlying37 rfl (Mo.szS ⟨58, 116, 2, 0, 0, 0, 0, 0, 0, 0, 0, 0, 0⟩) ?_
 simp only [Act.put]
 go_simp
 go_upto_region 14 with fail
 refine Kit.wp_name ?_
 intro X2 hW
 have hb : Below X1.heap.size X1 X2 := by rw [hW]; exact (Below.refl _ _).alloc nlr _
 have HSx := qh (HS.out.then hb)
 clear HS
 have HS := qh HSx.out
 clear HSx
 have hne : k1 < X1.heap.size ∧ k2 < X1.heap.size ∧ k3 < X1.heap.size ∧ k4 < X1.heap.size ∧ k6 < X1.heap.size := ⟨Qk1.out.lt, Qk2.out.lt, Qk3.out.lt, Qk4.out.lt, Qk6.out.lt⟩
 have Qk1x := qh (Qk1.out.below hb Qk1.out.lt)
 clear Qk1
 have Qk1 := qh Qk1x.out
 clear Qk1x
 have Qk2x := qh (Qk2.out.below hb Qk2.out.lt)
 clear Qk2
 have Qk2 := qh Qk2x.out
 clear Qk2x
 have Qk3x := qh (Qk3.out.below hb Qk3.out.lt)
 clear Qk3
 have Qk3 := qh Qk3x.out
 clear Qk3x
 have Qk4x := qh (Qk4.out.below hb Qk4.out.lt)
 clear Qk4
 have Qk4 := qh Qk4x.out
 clear Qk4x
 have Qk5x := qh (Qk5.out.below hb Qk5.out.lt)
 clear Qk5
 have Qk5 := qh Qk5x.out
 clear Qk5x
 have Qk6x := qh (Qk6.out.below hb Qk6.out.lt)
 clear Qk6
 have Qk6 := qh Qk6x.out
 clear Qk6x
 have Qk7 := qh (show Kit.Bk X2 X1.heap.size 37 (Mo.stA ⟨58, 116, 2, 0, 0, 0, 0, 0, 0, 0, 0, 0, 0⟩) by rw [hW]; exact Kit.Bk.new _ _ _)
 obtain ⟨k7, hB⟩ : ∃ b, X1.heap.size = b := ⟨_, rfl⟩
 rw [hB] at Qk7 hne HW7 ⊢
 have HNE := qh hne
 clear hW hB hb hne
 have q7 : ∀ j, X2.cell? ⟨k7, j, none⟩ = (Mo.stA ⟨58, 116, 2, 0, 0, 0, 0, 0, 0, 0, 0, 0, 0⟩)[j]? := fun j => Qk7.out.cell j
 have f9 := Qk7.out.frozen 9
 have f10 := Qk7.out.frozen 10
 go_upto_region 15 with fail
 refine Kit.wp_name ?_
 intro X3 hW
 have HX := qh (show Kit.Exc (fun k => k = k7) X2 X3 by rw [hW]; exact ((Kit.Exc.refl (fun k => k = k7) X2).setCell (p := ⟨k7, 9, none⟩) (.inl rfl) _).setCell (p := ⟨k7, 10, none⟩) (.inl rfl) _)
 have Rk7 := qh (show Kit.Bk X3 k7 37 (Mo.stA ⟨58, 116, 2, 0, 0, 0, 0, 0, 0, 2, 2, 0, 0⟩) by rw [hW]; exact (Qk7.out.set 9 (.int .i64 2)).put 10 (.int .i64 2) rfl)
 have HBE := qh (show Below w.heap.size w X3 from HS.out.bel.trans (HX.out.below HS.out.bel.size (fun k hk => by rw [hk]; exact HW7.out)))
 have q1 : ∀ j, X3.cell? ⟨k1, j, none⟩ = (Mo.stA ⟨58, 116, 2, 0, 0, 0, 0, 0, 0, 0, 0, 0, 0⟩)[j]? := fun j => (Qk1.out.exc HX.out (Nat.ne_of_lt HNE.out.1)).cell j
 have q2 : ∀ j, X3.cell? ⟨k2, j, none⟩ = (Mo.stA ⟨58, 116, 2, 0, 0, 0, 0, 0, 0, 2, 2, 0, 0⟩)[j]? := fun j => (Qk2.out.exc HX.out (Nat.ne_of_lt HNE.out.2.1)).cell j
 have q3 : ∀ j, X3.cell? ⟨k3, j, none⟩ = (Mo.bxA ⟨841, 2523, 841, 4205⟩)[j]? := fun j => (Qk3.out.exc HX.out (Nat.ne_of_lt HNE.out.2.2.1)).cell j
 have q4 : ∀ j, X3.cell? ⟨k4, j, none⟩ = (Mo.bxA ⟨0, 3364, 0, 5046⟩)[j]? := fun j => (Qk4.out.exc HX.out (Nat.ne_of_lt HNE.out.2.2.2.1)).cell j
 have q6 : ∀ j, X3.cell? ⟨k6, j, none⟩ = (Mo.stA ⟨58, 116, 2, 0, 0, 0, 0, 0, 0, 0, 0, 0, 0⟩)[j]? := fun j => (Qk6.out.exc HX.out (Nat.ne_of_lt HNE.out.2.2.2.2)).cell j
 have q8 : ∀ j, X3.cell? ⟨k7, j, none⟩ = (Mo.stA ⟨58, 116, 2, 0, 0, 0, 0, 0, 0, 2, 2, 0, 0⟩)[j]? := fun j => Rk7.out.cell j
 clear hW q7 f9 f10 HX Rk7 HNE HS HW7 Qk1 Qk2 Qk3 Qk4 Qk5 Qk6 Qk7
 have hq1 : ∀ W, (Op.equalIn 10000 37 (.agg #[.int .i64 58, .int .i64 116, .int .i64 2, .int .i64 0, .int .i64 0, .int .i64 0, .int .i64 0, .int .i64 0, .int .i64 0, .int .i64 0, .int .i64 0, .int .i64 0, .int .i64 0]) (.agg #[.int .i64 58, .int .i64 116, .int .i64 2, .int .i64 0, .int .i64 0, .int .i64 0, .int .i64 0, .int .i64 0, .int .i64 0, .int .i64 0, .int .i64 0, .int .i64 0, .int .i64 0])).run Tryz.prog W = .ok true W := fun W => Mo.eq_st ⟨58, 116, 2, 0, 0, 0, 0, 0, 0, 0, 0, 0, 0⟩ W
 have hq2 : ∀ W, (Op.equalIn 10000 37 (.agg #[.int .i64 58, .int .i64 116, .int .i64 2, .int .i64 0, .int .i64 0, .int .i64 0, .int .i64 0, .int .i64 0, .int .i64 0, .int .i64 2, .int .i64 2, .int .i64 0, .int .i64 0]) (.agg #[.int .i64 58, .int .i64 116, .int .i64 2, .int .i64 0, .int .i64 0, .int .i64 0, .int .i64 0, .int .i64 0, .int .i64 0, .int .i64 2, .int .i64 2, .int .i64 0, .int .i64 0])).run Tryz.prog W = .ok true W := fun W => Mo.eq_st ⟨58, 116, 2, 0, 0, 0, 0, 0, 0, 2, 2, 0, 0⟩ W
 have hq3 : ∀ W, (Op.equalIn 10000 52 (.agg #[.int .i64 841, .int .i64 2523, .int .i64 841, .int .i64 4205]) (.agg #[.int .i64 841, .int .i64 2523, .int .i64 841, .int .i64 4205])).run Tryz.prog W = .ok true W := fun W => Mo.eq_bx ⟨841, 2523, 841, 4205⟩ W
 have hq4 : ∀ W, (Op.equalIn 10000 52 (.agg #[.int .i64 0, .int .i64 3364, .int .i64 0, .int .i64 5046]) (.agg #[.int .i64 0, .int .i64 3364, .int .i64 0, .int .i64 5046])).run Tryz.prog W = .ok true W := fun W => Mo.eq_bx ⟨0, 3364, 0, 5046⟩ W
 go_wp2_with fail
 go_ret
 exact ⟨rfl, HBE.out⟩
end Go.Proofs.YtedolbjgdedoaaaGreatDoor
