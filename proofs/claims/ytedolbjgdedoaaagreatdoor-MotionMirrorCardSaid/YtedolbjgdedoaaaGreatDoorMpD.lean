/- Walks: package pose: Mirror, of a state that is right. -/
import Derived.Test.YtedolbjgdedoaaaGreatDoorMod
import Derived.Test.YtedolbjgdedoaaaGreatDoorMoH
set_option linter.unusedSimpArgs false
set_option linter.unusedVariables false
set_option maxRecDepth 100000
set_option maxHeartbeats 8000000
namespace Go.Proofs.YtedolbjgdedoaaaGreatDoor
open Go.RowKit Go.Shelf
namespace Mo
theorem ix5 (a b c d e : Int) (W : World) (i : Nat) (hi : i < 5) : (Instr.index 133 (.agg #[.int .i64 a, .int .i64 b, .int .i64 c, .int .i64 d, .int .i64 e]) (.int .i64 i)).run Tryz.prog W = .ok (.int .i64 ([a, b, c, d, e].getD i 0)) W := by
 obtain rfl | rfl | rfl | rfl | rfl : i = 0 ∨ i = 1 ∨ i = 2 ∨ i = 3 ∨ i = 4 := by omega
 all_goals kernel_rfl
theorem bk_cells {w : World} {b : Nat} {t : TypeId} {cs : Array Value} (hb : Kit.Bk w b t cs) (vs : Array Value) (hsz : vs.size = cs.size) : Kit.Bk (w.setCells b 0 vs.toList) b t vs ∧ Kit.Exc (fun j => j = b) w (w.setCells b 0 vs.toList) := by
 obtain ⟨c, h2, h3, h4, h5⟩ := Kit.heap_setCells b t vs.toList 0 w cs hb
 have hc : c = vs := by
  apply Array.ext_getElem?
  intro i
  by_cases hi2 : i < vs.size
  ·have := h5 i (by simpa using hi2) omg
   rw [Nat.zero_add] at this
   rw [this]; simp
  ·rw [Array.getElem?_eq_none omg, Array.getElem?_eq_none omg]
 rw [hc] at h2
 exact ⟨h2, Kit.Exc.setCells (S := fun j => j = b) rfl vs.toList 0 (Kit.Exc.refl _ w)⟩
def mrS (W : Int) (s : St) : Nat → St
 | 0 => ⟨29 * W - s.x, s.y, (8 - s.f) % 8, 0, 0, 0, 0, 0, 0, 0, 0, 0, 0⟩
 | 1 => ⟨29 * W - s.x, s.y, (8 - s.f) % 8, mirD s.d1, s.v1, 0, 0, 0, 0, 0, 0, 0, 0⟩
 | 2 => ⟨29 * W - s.x, s.y, (8 - s.f) % 8, mirD s.d1, s.v1, mirD s.d0, s.v0, 0, 0, 0, 0, 0, 0⟩
 | 3 => ⟨29 * W - s.x, s.y, (8 - s.f) % 8, mirD s.d1, s.v1, mirD s.d0, s.v0, mirD s.d3, s.v3, 0, 0, 0, 0⟩
 | 4 => ⟨29 * W - s.x, s.y, (8 - s.f) % 8, mirD s.d1, s.v1, mirD s.d0, s.v0, mirD s.d3, s.v3, mirD s.d2, s.v2, 0, 0⟩
 | _ => mirS W s
theorem ok_dirs {s : St} (h : ok s = true) : (0 ≤ s.d0 ∧ s.d0 ≤ 8) ∧ (0 ≤ s.d1 ∧ s.d1 ≤ 8) ∧ (0 ≤ s.d2 ∧ s.d2 ≤ 8) ∧ (0 ≤ s.d3 ∧ s.d3 ≤ 8) ∧ (0 ≤ s.d4 ∧ s.d4 ≤ 8) := by
 have X : ∀ {d v : Int}, okL d v = true → 0 ≤ d ∧ d ≤ 8 := fun {d v} h => by
  unfold okL at h
  rw [Bool.or_eq_true] at h
  rcases h with h | h
  ·rw [Bool.and_eq_true] at h
   have : d = 0 := by simpa using h.1
   omega
  ·rw [Bool.and_eq_true] at h
   exact (Tp.inb_iff _ _ _).1 h.1
 unfold ok okF at h
 simp only [Bool.and_eq_true] at h
 exact ⟨X h.2.1.1.1.1.2, X h.2.1.1.1.2, X h.2.1.1.2, X h.2.1.2, X h.2.2⟩
end Mo
theorem po_mirror (s : Mo.St) (W : Int) (w : World) (hs : Mo.ok s = true) (h1 : 1 ≤ W) (h2 : W ≤ 1000) : Calls Tryz.prog 22 #[.agg (Mo.stA s), .int .i64 W] w fun e w' => e = .returned (.tuple #[.agg (Mo.stA (if Mo.ok (Mo.mirS W s) = true then Mo.mirS W s else Mo.St.zero)), .int .i64 (if Mo.ok (Mo.mirS W s) = true then 0 else 2)]) ∧ Below w.heap.size w w' := by
 obtain ⟨RT, hRT⟩ : ∃ T, (if Mo.ok (Mo.mirS W s) = true then Mo.mirS W s else Mo.St.zero) = T := ⟨_, rfl⟩
 obtain ⟨RE, hRE⟩ : ∃ T : Int, (if Mo.ok (Mo.mirS W s) = true then 0 else 2) = T := ⟨_, rfl⟩
 rw [hRT, hRE]
 have HRT := qh hRT
 have HRE := qh hRE
 have HC0 := qh (fun X => (by have h := po_check s X; rw [if_pos hs] at h; exact h : Calls Tryz.prog 25 #[.agg (Mo.stA s)] X fun e w' => e = .returned (.int .i64 0) ∧ Below X.heap.size X w'))
 have HWI := qh (fun X => (by have h := po_within W 1 1000 X; rw [(Tp.inb_iff _ _ _).2 ⟨h1, h2⟩] at h; exact h : Calls Tryz.prog 58 #[.int .i64 W, .int .i64 1, .int .i64 1000] X fun e w' => e = .returned (.bool true) ∧ w' = X))
 obtain ⟨bx, bY, bf⟩ := Mo.ok_bd hs
 have HDD := qh (Mo.ok_dirs hs)
 have e1 : IntKind.i64.wrap (29 * W) = 29 * W := by rw [IntKind.wrap_i64] <;> omega
 have e2 : IntKind.i64.wrap (29 * W - s.x) = 29 * W - s.x := by rw [IntKind.wrap_i64] <;> omega
 have e3 : IntKind.i64.wrap (8 - s.f) = 8 - s.f := by rw [IntKind.wrap_i64] <;> omega
 obtain ⟨F, hF⟩ : ∃ F, (8 - s.f) % 8 = F := ⟨_, rfl⟩
 have HFF := qh hF
 have e4 : IntKind.i64.wrap ((8 - s.f).tmod 8) = F := by rw [← hF, Int.tmod_eq_emod_of_nonneg omg, IntKind.wrap_i64] <;> omega
 have e5 : (8 - s.f).tmod 8 = F := by rw [← hF]; exact Int.tmod_eq_emod_of_nonneg omg
 clear hF
 clear hRT hRE hs h1 h2 bx bY bf
 go_enter Tryz.func22, Tryz.ntmps22
 go_upto_region 1 with fail
 refine Kit.wp_name ?_
 intro W1 hW1
 have HQ0 := qh (show Kit.Bk W1 w.heap.size 37 (Mo.stA s) by rw [hW1]; exact (Kit.Bk.new _ _ _).alloc _)
 have HQ1 := qh (show Kit.Bk W1 (w.heap.size + 1) 37 (Mo.stA Mo.St.zero) by
  rw [hW1]
  have h := Kit.Bk.new (w.alloc (.cells (Mo.stA s) 37)) 37 (Mo.stA Mo.St.zero)
  rwa [World.size_alloc] at h)
 have HB1 := qh (show Below w.heap.size w W1 by rw [hW1]; exact ((Below.refl _ _).alloc nlr _).alloc (by simp) _)
 clear hW1
 have c0 : W1.cell? ⟨w.heap.size, 0, none⟩ = some (.int .i64 s.x) := (HQ0.out.cell 0).trans rfl
 have c1 : W1.cell? ⟨w.heap.size, 1, none⟩ = some (.int .i64 s.y) := (HQ0.out.cell 1).trans rfl
 have c2 : W1.cell? ⟨w.heap.size, 2, none⟩ = some (.int .i64 s.f) := (HQ0.out.cell 2).trans rfl
 have c3 : W1.cell? ⟨w.heap.size, 3, none⟩ = some (.int .i64 s.d0) := (HQ0.out.cell 3).trans rfl
 have c4 : W1.cell? ⟨w.heap.size, 4, none⟩ = some (.int .i64 s.v0) := (HQ0.out.cell 4).trans rfl
 have c5 : W1.cell? ⟨w.heap.size, 5, none⟩ = some (.int .i64 s.d1) := (HQ0.out.cell 5).trans rfl
 have c6 : W1.cell? ⟨w.heap.size, 6, none⟩ = some (.int .i64 s.v1) := (HQ0.out.cell 6).trans rfl
 have c7 : W1.cell? ⟨w.heap.size, 7, none⟩ = some (.int .i64 s.d2) := (HQ0.out.cell 7).trans rfl
 have c8 : W1.cell? ⟨w.heap.size, 8, none⟩ = some (.int .i64 s.v2) := (HQ0.out.cell 8).trans rfl
 have c9 : W1.cell? ⟨w.heap.size, 9, none⟩ = some (.int .i64 s.d3) := (HQ0.out.cell 9).trans rfl
 have c10 : W1.cell? ⟨w.heap.size, 10, none⟩ = some (.int .i64 s.v3) := (HQ0.out.cell 10).trans rfl
 have c11 : W1.cell? ⟨w.heap.size, 11, none⟩ = some (.int .i64 s.d4) := (HQ0.out.cell 11).trans rfl
 have c12 : W1.cell? ⟨w.heap.size, 12, none⟩ = some (.int .i64 s.v4) := (HQ0.out.cell 12).trans rfl
 go_wp2_with fail
 refine (HC0.out _).mono ?_
 rintro _ W2 ⟨rfl, hb2⟩
 have HR0 := qh (HQ0.out.below hb2 HQ0.out.lt)
 have HR1 := qh (HQ1.out.below hb2 HQ1.out.lt)
 have HB2 := qh (HB1.out.trans (hb2.mono HB1.out.size))
 clear hb2 HQ0 HQ1 HB1 c0 c1 c2 c3 c4 c5 c6 c7 c8 c9 c10 c11 c12
 have c0 : W2.cell? ⟨w.heap.size, 0, none⟩ = some (.int .i64 s.x) := (HR0.out.cell 0).trans rfl
 have c1 : W2.cell? ⟨w.heap.size, 1, none⟩ = some (.int .i64 s.y) := (HR0.out.cell 1).trans rfl
 have c2 : W2.cell? ⟨w.heap.size, 2, none⟩ = some (.int .i64 s.f) := (HR0.out.cell 2).trans rfl
 have r0 : W2.cell? ⟨w.heap.size + 1, 0, none⟩ = some (.int .i64 0) := (HR1.out.cell 0).trans rfl
 have z0 := HR1.out.frozen 0
 have r1 : W2.cell? ⟨w.heap.size + 1, 1, none⟩ = some (.int .i64 0) := (HR1.out.cell 1).trans rfl
 have z1 := HR1.out.frozen 1
 have r2 : W2.cell? ⟨w.heap.size + 1, 2, none⟩ = some (.int .i64 0) := (HR1.out.cell 2).trans rfl
 have z2 := HR1.out.frozen 2
 have r3 : W2.cell? ⟨w.heap.size + 1, 3, none⟩ = some (.int .i64 0) := (HR1.out.cell 3).trans rfl
 have z3 := HR1.out.frozen 3
 have r4 : W2.cell? ⟨w.heap.size + 1, 4, none⟩ = some (.int .i64 0) := (HR1.out.cell 4).trans rfl
 have z4 := HR1.out.frozen 4
 have r5 : W2.cell? ⟨w.heap.size + 1, 5, none⟩ = some (.int .i64 0) := (HR1.out.cell 5).trans rfl
 have z5 := HR1.out.frozen 5
 have r6 : W2.cell? ⟨w.heap.size + 1, 6, none⟩ = some (.int .i64 0) := (HR1.out.cell 6).trans rfl
 have z6 := HR1.out.frozen 6
 have r7 : W2.cell? ⟨w.heap.size + 1, 7, none⟩ = some (.int .i64 0) := (HR1.out.cell 7).trans rfl
 have z7 := HR1.out.frozen 7
 have r8 : W2.cell? ⟨w.heap.size + 1, 8, none⟩ = some (.int .i64 0) := (HR1.out.cell 8).trans rfl
 have z8 := HR1.out.frozen 8
 have r9 : W2.cell? ⟨w.heap.size + 1, 9, none⟩ = some (.int .i64 0) := (HR1.out.cell 9).trans rfl
 have z9 := HR1.out.frozen 9
 have r10 : W2.cell? ⟨w.heap.size + 1, 10, none⟩ = some (.int .i64 0) := (HR1.out.cell 10).trans rfl
 have z10 := HR1.out.frozen 10
 have r11 : W2.cell? ⟨w.heap.size + 1, 11, none⟩ = some (.int .i64 0) := (HR1.out.cell 11).trans rfl
 have z11 := HR1.out.frozen 11
 have r12 : W2.cell? ⟨w.heap.size + 1, 12, none⟩ = some (.int .i64 0) := (HR1.out.cell 12).trans rfl
 have z12 := HR1.out.frozen 12
 go_upto_region 6 with (with_reducible refine (HWI.out _).mono ?_; rintro _ w' ⟨rfl, hw⟩; subst w')
 go_upto_region 7 with fail
 refine Kit.wp_name ?_
 intro W3 hW3
 have hW4 : W3 = W2.setCells (w.heap.size + 1) 0 (Mo.stA (Mo.mrS W s 0)).toList := by rw [hW3]; simp only [Mo.mrS, World.setCells, Nat.reduceAdd, Nat.zero_add, HFF.out]
 obtain ⟨hs1, hx3⟩ := Mo.bk_cells HR1.out (Mo.stA (Mo.mrS W s 0)) rfl
 rw [← hW4] at hs1 hx3
 have HX3 := qh hx3
 have HS1 := qh hs1
 clear hW4 hs1 hx3
 have HS0 := qh (HR0.out.exc HX3.out omg)
 have HB3 := qh (HB2.out.trans (HX3.out.below HB2.out.size (fun j hj => by omega)))
 clear hW3 c0 c1 c2 r0 z0 r1 z1 r2 z2 r3 z3 r4 z4 r5 z5 r6 z6 r7 z7 r8 z8 r9 z9 r10 z10 r11 z11 r12 z12 e1 e2 e3 e4 e5
 have HIX := qh (fun X i hi => Mo.ix5 1 0 3 2 4 X i hi)
 go_wp2_with fail
 go_loopg [31] 5 (fun kx v31 wr => ∃ i : Nat, v31 = .int .i64 i ∧ i ≤ 5 ∧ 5 - i ≤ kx ∧ Hid (Kit.Bk wr w.heap.size 37 (Mo.stA s)) ∧ Hid (Kit.Bk wr (w.heap.size + 1) 37 (Mo.stA (Mo.mrS W s i))) ∧ Hid (Below w.heap.size w wr))
 case atStart => exact ⟨0, rfl, by omega, by omega, HS0, HS1, HB3⟩
 case round =>
  obtain ⟨i, rfl, hi, hk, HA, HM, HB⟩ := hrel
  by_cases hlt : i < 5
  ·have hltz : (i : Int) < 5 := by omega
   have hix := HIX.out wr i hlt
   obtain ⟨g, hg, hg5⟩ : ∃ g : Nat, ([1, 0, 3, 2, 4] : List Int).getD i 0 = (g : Int) ∧ g < 5 := by
    obtain rfl | rfl | rfl | rfl | rfl : i = 0 ∨ i = 1 ∨ i = 2 ∨ i = 3 ∨ i = 4 := by omega
    ·exact ⟨1, rfl, by decide⟩
    ·exact ⟨0, rfl, by decide⟩
    ·exact ⟨3, rfl, by decide⟩
    ·exact ⟨2, rfl, by decide⟩
    ·exact ⟨4, rfl, by decide⟩
   have HG := qh hg
   rw [hg] at hix
   clear hg
   have hgz : (g : Int) < 5 := by omega
   obtain ⟨d, v, s0, s1, hd, hput⟩ : ∃ d v, wr.cell? ⟨w.heap.size, 3 + g * 2, none⟩ = some (.int .i64 d) ∧ wr.cell? ⟨w.heap.size, 3 + g * 2 + 1, none⟩ = some (.int .i64 v) ∧ (0 ≤ d ∧ d ≤ 8) ∧ (((Mo.stA (Mo.mrS W s i)).setIfInBounds (3 + i * 2) (.int .i64 d)).setIfInBounds (3 + i * 2 + 1) (.int .i64 v)).setIfInBounds (3 + i * 2) (.int .i64 (Mo.mirD d)) = Mo.stA (Mo.mrS W s (i + 1)) := by
    obtain ⟨k0, k1, k2, k3, k4⟩ := HDD.out
    have hgo := HG.out
    obtain rfl | rfl | rfl | rfl | rfl : i = 0 ∨ i = 1 ∨ i = 2 ∨ i = 3 ∨ i = 4 := by omega
    ·obtain rfl : g = 1 := by simp at hgo; omega
     exact ⟨s.d1, s.v1, (HA.out.cell 5).trans rfl, (HA.out.cell 6).trans rfl, k1, rfl⟩
    ·obtain rfl : g = 0 := by simp at hgo; omega
     exact ⟨s.d0, s.v0, (HA.out.cell 3).trans rfl, (HA.out.cell 4).trans rfl, k0, rfl⟩
    ·obtain rfl : g = 3 := by simp at hgo; omega
     exact ⟨s.d3, s.v3, (HA.out.cell 9).trans rfl, (HA.out.cell 10).trans rfl, k3, rfl⟩
    ·obtain rfl : g = 2 := by simp at hgo; omega
     exact ⟨s.d2, s.v2, (HA.out.cell 7).trans rfl, (HA.out.cell 8).trans rfl, k2, rfl⟩
    ·obtain rfl : g = 4 := by simp at hgo; omega
     exact ⟨s.d4, s.v4, (HA.out.cell 11).trans rfl, (HA.out.cell 12).trans rfl, k4, rfl⟩
   obtain ⟨x0, x1, t0, t1⟩ : ∃ x0 x1, wr.cell? ⟨w.heap.size + 1, 3 + i * 2, none⟩ = some x0 ∧ wr.cell? ⟨w.heap.size + 1, 3 + i * 2 + 1, none⟩ = some x1 := by
    rw [HM.out.cell, HM.out.cell]
    obtain rfl | rfl | rfl | rfl | rfl : i = 0 ∨ i = 1 ∨ i = 2 ∨ i = 3 ∨ i = 4 := by omega
    all_goals exact ⟨_, _, rfl, rfl⟩
   have z0 := HM.out.frozen (3 + i * 2)
   have z1 := HM.out.frozen (3 + i * 2 + 1)
   have HMI := qh (fun X => sp_mirrored d X hd.1 hd.2)
   have HPU := qh hput
   clear hput hd HIX
   go_wp2_with (with_reducible refine (HMI.out _).mono ?_; rintro _ w' ⟨rfl, hw⟩; subst w')
   go_roundg (5 - (i + 1))
   case measure => omega
   case rel => exact ⟨i + 1, by go_num, by omega, Nat.le_refl _, qh (HA.out.exc (Kit.Exc.setCell (S := fun j => j = w.heap.size + 1) (p := ⟨w.heap.size + 1, 3 + i * 2, none⟩) (Kit.Exc.setCell (S := fun j => j = w.heap.size + 1) (p := ⟨w.heap.size + 1, 3 + i * 2 + 1, none⟩) (Kit.Exc.setCell (S := fun j => j = w.heap.size + 1) (p := ⟨w.heap.size + 1, 3 + i * 2, none⟩) (Kit.Exc.refl _ wr) (.inl rfl) _) (.inl rfl) _) (.inl rfl) _) omg),
    qh (((HM.out.set (3 + i * 2) (.int .i64 d)).set (3 + i * 2 + 1) (.int .i64 v)).put (3 + i * 2) (.int .i64 (Mo.mirD d)) HPU.out), qh (((HB.out.setCell (by show w.heap.size ≤ w.heap.size + 1; omega) _).setCell (by show w.heap.size ≤ w.heap.size + 1; omega) _).setCell (by show w.heap.size ≤ w.heap.size + 1; omega) _)⟩
  ·obtain rfl : i = 5 := by omega
   have HF := qh (show Kit.Bk wr (w.heap.size + 1) 37 (Mo.stA (Mo.mirS W s)) from HM.out)
   rcases hok : Mo.ok (Mo.mirS W s) with _ | _
   ·have HT := qh (fun X => (by have h := po_check (Mo.mirS W s) X; rw [hok, if_neg (by decide)] at h; exact h : Calls Tryz.prog 25 #[.agg (Mo.stA (Mo.mirS W s))] X fun e w' => e = .returned (.int .i64 260) ∧ Below X.heap.size X w'))
    have HRR := qh (show RT = Mo.St.zero ∧ RE = 2 from ⟨by rw [← HRT.out, if_neg (by rw [hok]; decide)], by rw [← HRE.out, if_neg (by rw [hok]; decide)]⟩)
    clear hok
    go_upto_region 13 with fail
    refine wp_region_lit ?_
    refine Kit.load_bk0 rfl 37 (.tmp 4) rfl (w.heap.size + 1) rfl HF.out Tryz.underlying37 rfl (Mo.szS (Mo.mirS W s)) ?_
    simp only [Act.put]
    go_simp
    go_upto_region 14 with (with_reducible refine (HT.out _).mono ?_; rintro _ W9 ⟨rfl, hb9⟩)
    have HF9 := qh (HF.out.below hb9 HF.out.lt)
    have HB9 := qh (HB.out.trans (hb9.mono HB.out.size))
    clear hb9
    refine wp_region_lit ?_
    refine Kit.wpList_run rfl (.agg (Mo.stA Mo.St.zero)) W9 (by kernel_rfl) ?_
    refine Kit.store_bk0 rfl 37 (.tmp 4) (.tmp 59) rfl (w.heap.size + 1) rfl (Mo.stA Mo.St.zero) rfl HF9.out rfl (Mo.szS Mo.St.zero) (Mo.stA_one _) ?_
    intro X1 hq1 hx1
    have HQ1 := qh hq1
    have HX1 := qh hx1
    clear hq1 hx1
    simp only [Act.put]
    go_simp
    go_wp2_with fail
    refine bodyPost_ret (Kit.res_bk rfl rfl HQ1.out _ Tryz.underlying37 rfl (Mo.szS (Mo.St.zero))) rfl ⟨?_, HB9.out.trans (HX1.out.below HB9.out.size (fun j hj => by omega))⟩
    rw [HRR.out.1, HRR.out.2]
    rfl
   ·have HT := qh (fun X => (by have h := po_check (Mo.mirS W s) X; rw [hok, if_pos rfl] at h; exact h : Calls Tryz.prog 25 #[.agg (Mo.stA (Mo.mirS W s))] X fun e w' => e = .returned (.int .i64 0) ∧ Below X.heap.size X w'))
    have HRR := qh (show RT = Mo.mirS W s ∧ RE = 0 from ⟨by rw [← HRT.out, if_pos hok], by rw [← HRE.out, if_pos hok]⟩)
    clear hok
    go_upto_region 13 with fail
    refine wp_region_lit ?_
    refine Kit.load_bk0 rfl 37 (.tmp 4) rfl (w.heap.size + 1) rfl HF.out Tryz.underlying37 rfl (Mo.szS (Mo.mirS W s)) ?_
    simp only [Act.put]
    go_simp
    go_upto_region 15 with (with_reducible refine (HT.out _).mono ?_; rintro _ W9 ⟨rfl, hb9⟩)
    have HF9 := qh (HF.out.below hb9 HF.out.lt)
    have HB9 := qh (HB.out.trans (hb9.mono HB.out.size))
    clear hb9
    refine wp_region_lit ?_
    refine Kit.load_bk0 rfl 37 (.tmp 4) rfl (w.heap.size + 1) rfl HF9.out Tryz.underlying37 rfl (Mo.szS (Mo.mirS W s)) ?_
    refine Kit.store_bk0 rfl 37 (.tmp 4) (.tmp 60) rfl (w.heap.size + 1) rfl (Mo.stA (Mo.mirS W s)) rfl HF9.out rfl (Mo.szS (Mo.mirS W s)) (Mo.stA_one _) ?_
    intro X1 hq1 hx1
    have HQ1 := qh hq1
    have HX1 := qh hx1
    clear hq1 hx1
    simp only [Act.put]
    go_simp
    go_wp2_with fail
    refine bodyPost_ret (Kit.res_bk rfl rfl HQ1.out _ Tryz.underlying37 rfl (Mo.szS (Mo.mirS W s))) rfl ⟨?_, HB9.out.trans (HX1.out.below HB9.out.size (fun j hj => by omega))⟩
    rw [HRR.out.1, HRR.out.2]
    rfl
end Go.Proofs.YtedolbjgdedoaaaGreatDoor
