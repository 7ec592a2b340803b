/- Walks: package kinespherelaw27: find, limbs. -/
import Derived.Test.YtedolbjgdedoaaaGreatDoorMod
import Derived.Test.YtedolbjgdedoaaaGreatDoorMok
import Derived.Test.YtedolbjgdedoaaaGreatDoorMoH
set_option linter.unusedSimpArgs false
set_option linter.unusedVariables false
set_option maxRecDepth 100000
set_option maxHeartbeats 2000000
namespace Go.Proofs.YtedolbjgdedoaaaGreatDoor
open Go.RowKit Go.Shelf
namespace Mo
theorem real_drop (r : List Uo.Re) (id : Int) (i : Nat) (h : i < r.length) (y : Uo.Re) (hy : r.getD i (0, 0, 0, false) = y) : real (r.drop i) id = if (y.1 == id) = true then y else real (r.drop (i + 1)) id := by
 have e : r[i] = y := by rw [← hy]; simp [List.getD_eq_getElem?_getD, List.getElem?_eq_getElem h]
 rw [List.drop_eq_getElem_cons h, e]
 unfold real
 rw [List.find?_cons]
 cases hh : (y.1 == id) <;> simp
theorem res_re {fn : Func} {tmps : Array Value} {w : World} {c : Tmp} {b : Nat} {T : TypeId} {y : Uo.Re} (h : fn.results = #[.cell c 69]) (hc : tmps.getD c undef = .pointer (some ⟨b, 0, none⟩)) (hb : Kit.Bk w b T (reC y).toArray) : (results fn tmps).run Tryz.prog w = .ok (.agg (reC y).toArray) w := by
 have hl := Kit.run_bk (P := Tryz.prog) hb 69 Tryz.underlying69 rfl (Mo.szR y)
 rw [Array.getD_eq_getD_getElem?] at hc
 simp [results, h, hc, asAddr, hl]
end Mo
theorem lw_find (r : List Uo.Re) (id : Int) (aR : Option Addr) (cR : Nat) (w : World) (hl : r.length ≤ 1000000000) (hR : Tp.Sl w aR r.length 4 (Mo.rcs r)) : Calls Tryz.prog 28 #[.slice aR r.length cR, .int .i64 id] w fun e w' => e = .returned (.agg (Mo.reC (Mo.real r id)).toArray) ∧ Below w.heap.size w w' := by
 obtain ⟨Y, hY⟩ : ∃ y, Mo.real r id = y := ⟨_, rfl⟩
 rw [hY]
 have HY := qh hY
 have HR := qh hR
 obtain ⟨Y0, Y1, Y2, Y3⟩ := Y
 clear hY hR
 go_enter Tryz.func28, Tryz.ntmps28
 go_wp2_with fail
 refine Kit.wp_name ?_
 intro W1 hW1
 have HB1 := qh (show Below w.heap.size w W1 by rw [hW1]; exact (Below.refl _ _).alloc nlr _)
 have HZ1 := qh (show Kit.Bk W1 w.heap.size 69 #[.int .i64 0, .int .i64 0, .int .i64 0, .bool false] by rw [hW1]; exact Kit.Bk.new _ _ _)
 clear hW1
 go_loopg [9] r.length (fun kx v9 wr => ∃ i : Nat, v9 = .int .i64 i ∧ i ≤ r.length ∧ r.length - i ≤ kx ∧ Hid (Mo.real (r.drop i) id = (Y0, Y1, Y2, Y3)) ∧ Hid (Below W1.heap.size W1 wr))
 case atStart => exact ⟨0, rfl, by omega, by omega, qh (by rw [List.drop_zero]; exact HY.out), qh (Below.refl _ _)⟩
 case round =>
  obtain ⟨i, rfl, hi, hk, HD, HX⟩ := hrel
  have hz : w.heap.size < wr.heap.size := Nat.lt_of_lt_of_le HZ1.out.lt HX.out.size
  have HZ := qh (HZ1.out.below HX.out HZ1.out.lt)
  have HBW := qh (show Below w.heap.size w wr from HB1.out.trans (HX.out.mono HB1.out.size))
  have q0 : wr.cell? ⟨w.heap.size, 0, none⟩ = some (.int .i64 0) := (HZ.out.cell 0).trans rfl
  have q1 : wr.cell? ⟨w.heap.size, 1, none⟩ = some (.int .i64 0) := (HZ.out.cell 1).trans rfl
  have q2 : wr.cell? ⟨w.heap.size, 2, none⟩ = some (.int .i64 0) := (HZ.out.cell 2).trans rfl
  have q3 : wr.cell? ⟨w.heap.size, 3, none⟩ = some (.bool false) := (HZ.out.cell 3).trans rfl
  have p0 := HZ.out.frozen 0
  have p1 := HZ.out.frozen 1
  have p2 := HZ.out.frozen 2
  have p3 := HZ.out.frozen 3
  by_cases hlt : i < r.length
  ·have hltz : (i : Int) < (r.length : Int) := by omega
   have hsl := HR.out.kept HBW.out nlr
   obtain ⟨ad, rfl, hadb, _⟩ := HR.out.at hlt
   obtain ⟨y, hy⟩ : ∃ y, r.getD i (0, 0, 0, false) = y := ⟨_, rfl⟩
   have HST := qh (Mo.real_drop r id i hlt y hy)
   have f0 := hsl.head hlt omg
   have f1 := hsl.field hlt (j := 1) omg omg
   have f2 := hsl.field hlt (j := 2) omg omg
   have f3 := hsl.field hlt (j := 3) omg omg
   simp only [Mo.rcs, hy] at f0 f1 f2 f3
   obtain ⟨y0, y1, y2, y3⟩ := y
   dsimp only at f0 f1 f2 f3 HST
   clear hsl hy
   rcases d : (y0 == id) with _ | _
   ·have HN := qh (show Mo.real (r.drop (i + 1)) id = (Y0, Y1, Y2, Y3) by rw [← HD.out, HST.out, if_neg (by rw [d]; decide)])
    go_wp2_with fail
    go_roundg (r.length - (i + 1))
    case measure => omega
    case rel => exact ⟨i + 1, by go_num, by omega, Nat.le_refl _, HN, qh (HX.out.alloc HX.out.size _)⟩
   ·have HE := qh (show (y0, y1, y2, y3) = (Y0, Y1, Y2, Y3) by rw [← HD.out, HST.out, if_pos d])
    go_upto_region 5 with fail
    refine Kit.wp_name ?_
    intro W5 hW5
    have HQ5 := qh (show Kit.Bk W5 wr.heap.size 69 (Mo.reC (y0, y1, y2, y3)).toArray by rw [hW5]; exact Kit.Bk.new _ _ _)
    have HZ5 := qh (show Kit.Bk W5 w.heap.size 69 #[.int .i64 0, .int .i64 0, .int .i64 0, .bool false] by rw [hW5]; exact HZ.out.alloc _)
    have HB5 := qh (show Below w.heap.size w W5 by rw [hW5]; exact HBW.out.alloc HBW.out.size _)
    obtain ⟨B5, hB5⟩ : ∃ b, wr.heap.size = b := ⟨_, rfl⟩
    rw [hB5] at HQ5 ⊢
    clear hW5 hB5 q0 q1 q2 q3 p0 p1 p2 p3 f0 f1 f2 f3
    refine wp_region_lit ?_
    refine Kit.load_bk0 rfl 69 (.tmp 6) rfl B5 rfl HQ5.out Tryz.underlying69 rfl (Mo.szR (y0, y1, y2, y3)) ?_
    refine Kit.store_bk0 rfl 69 (.tmp 4) (.tmp 17) rfl w.heap.size rfl (Mo.reC (y0, y1, y2, y3)).toArray rfl HZ5.out rfl (Mo.szR (y0, y1, y2, y3)) (by simp [Mo.reC, Value.oneCell']) ?_
    intro W6 hb6 hx6
    have HB6 := qh hb6
    have HBB := qh (show Below w.heap.size w W6 from HB5.out.trans (hx6.below HB5.out.size (fun j hj => by omega)))
    clear hb6 hx6
    simp only [Act.put]
    go_simp
    go_wp2_with fail
    refine bodyPost_ret (Mo.res_re rfl rfl HB6.out) rfl ⟨?_, HBB.out⟩
    rw [HE.out]
  ·obtain rfl : i = r.length := by omega
   have HE := qh (show (0, 0, 0, false) = (Y0, Y1, Y2, Y3) by rw [← HD.out, List.drop_length]; rfl)
   go_wp2_with fail
   (refine bodyPost_ret (by simp [results, Tryz.results28, go_sem, Kit.cell_set, q0, q1, q2, q3]; try rfl) rfl ?_)
   refine ⟨?_, by have := HBW.out; exact Kit.gr⟩
   have h := HE.out
   cases h
   rfl
end Go.Proofs.YtedolbjgdedoaaaGreatDoor
