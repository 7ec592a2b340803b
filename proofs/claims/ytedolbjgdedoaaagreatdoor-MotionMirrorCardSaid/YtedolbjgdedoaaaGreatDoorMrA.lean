/- Walks: the laws of layer 27: mirrored. -/
import Derived.Test.YtedolbjgdedoaaaGreatDoorMpV
import Derived.Test.YtedolbjgdedoaaaGreatDoorMpD
set_option linter.unusedSimpArgs false
set_option linter.unusedVariables false
set_option maxRecDepth 100000
set_option maxHeartbeats 8000000
namespace Go.Proofs.YtedolbjgdedoaaaGreatDoor
open Go.RowKit Go.Shelf
attribute [local go_sem] Oper.semAt_some
namespace Mo
structure MQ (w W : World) (cs cr : Array Value) : Prop where
 bel : Below w.heap.size w W
 sg : Kit.Bk W w.heap.size 60 cs
 re : Kit.Bk W (w.heap.size + 1) 69 cr
 r1 : ∃ c, c.size = 14 ∧ Kit.Bk W (w.heap.size + 2) 60 c
 r2 : ∃ c, c.size = 4 ∧ Kit.Bk W (w.heap.size + 3) 69 c
theorem MQ.exc {S : Nat → Prop} {w A B : World} {cs cr : Array Value} (h : MQ w A cs cr) (hx : Kit.Exc S A B) (hS : ∀ k, S k → w.heap.size + 2 ≤ k) (r1 : ∃ c, c.size = 14 ∧ Kit.Bk B (w.heap.size + 2) 60 c) (r2 : ∃ c, c.size = 4 ∧ Kit.Bk B (w.heap.size + 3) 69 c) : MQ w B cs cr :=
 ⟨h.bel.trans (hx.below h.bel.size (fun k hk => by have := hS k hk; omega)), h.sg.exc hx (fun e => by have := hS _ e; omega), h.re.exc hx (fun e => by have := hS _ e; omega), r1, r2⟩
theorem MQ.start (w : World) (cs cr c1 c2 : Array Value) (h1 : c1.size = 14) (h2 : c2.size = 4) : MQ w ((((w.alloc (.cells cs 60)).alloc (.cells cr 69)).alloc (.cells c1 60)).alloc (.cells c2 69)) cs cr := by
 obtain ⟨⟨q0, q1, q2, q3⟩, hb, _⟩ := Kit.four w cs cr c1 c2 60 69 60 69
 exact ⟨hb, q0, q1, ⟨_, h1, q2⟩, ⟨_, h2, q3⟩⟩
def E6 (w : World) (q : Nat) (A B : World) : Prop := Kit.Exc (fun k => (q = 8 ∧ k = w.heap.size + 2) ∨ (q = 9 ∧ k = w.heap.size + 3)) A B ∧ ∀ cs cr, MQ w A cs cr → MQ w B cs cr
theorem E6.refl (w : World) (q : Nat) (A : World) : E6 w q A A := ⟨Kit.Exc.refl _ _, fun _ _ h => h⟩
theorem res_mr {fn : Func} {tmps : Array Value} {w : World} {c u v : Tmp} {b d : Nat} {k : Ex.Sg} {y : Uo.Re} {T U : TypeId} (h : fn.results = #[.cell c 60, .cell u 69, .tmp v]) (hc : tmps.getD c undef = .pointer (some ⟨b, 0, none⟩)) (hu : tmps.getD u undef = .pointer (some ⟨d, 0, none⟩)) (hb : Kit.Bk w b T (sgC k).toArray) (hd : Kit.Bk w d U (reC y).toArray) : (results fn tmps).run Tryz.prog w = .ok (.tuple #[.agg (sgC k).toArray, .agg (reC y).toArray, tmps.getD v undef]) w := by
 have hl := Kit.run_bk (P := Tryz.prog) hb 60 Tryz.underlying60 rfl (by kernel_rfl)
 have hm := Kit.run_bk (P := Tryz.prog) hd 69 Tryz.underlying69 rfl (by kernel_rfl)
 rw [Array.getD_eq_getD_getElem?] at hc hu
 generalize (sgC k).toArray = SA at *
 generalize (reC y).toArray = RA at *
 simp [results, h, hc, hu, asAddr, hl, hm]
theorem szRe (y : Uo.Re) : (Tryz.prog.info? 69).map (·.size) = some (reC y).toArray.size := by kernel_rfl
theorem szSg (y : Ex.Sg) : (Tryz.prog.info? 60).map (·.size) = some (sgC y).toArray.size := by kernel_rfl
end Mo
theorem lw_mirrored (k : Ex.Sg) (z : Uo.Re) (w : World) (hd : 0 ≤ k.dir ∧ k.dir ≤ 8) (hz : 0 ≤ z.2.1 ∧ z.2.1 ≤ 8) (hs : 0 ≤ k.side ∧ k.side ≤ 2) (hn : 0 ≤ k.size ∧ k.size ≤ 16) :
  Calls Tryz.prog 23 #[.agg (Mo.sgC k).toArray, .agg (Mo.reC z).toArray] w fun e w' => e = .returned (.tuple #[.agg (Mo.sgC (Mo.mirK k)).toArray, .agg (Mo.reC (Mo.mirR z)).toArray, .bool true]) ∧ Below w.heap.size w w' := by
 have HM1 := qh (fun W => sp_mirrored k.dir W hd.1 hd.2)
 have HM2 := qh (fun W => sp_mirrored z.2.1 W hz.1 hz.2)
 have w1 : IntKind.i64.wrap (3 - k.side) = 3 - k.side := by rw [IntKind.wrap_i64] <;> omega
 have w2 : IntKind.i64.wrap (8 - k.size) = 8 - k.size := by rw [IntKind.wrap_i64] <;> omega
 clear hd hz hs hn
 obtain ⟨K, hK⟩ : ∃ K, Mo.mirK k = K := ⟨_, rfl⟩
 obtain ⟨Z, hZ⟩ : ∃ K, Mo.mirR z = K := ⟨_, rfl⟩
 rw [hK, hZ]
 have HK := qh hK
 have HZ := qh hZ
 clear hK hZ
 obtain ⟨id, role, bar, mark, kind, side, dir, level, size, wth, fn, fd, tn, td⟩ := k
 obtain ⟨z0, z1, z2, z3⟩ := z
 dsimp only at HM1 HM2 w1 w2
 obtain ⟨D, hD⟩ : ∃ K, Mo.mirD dir = K := ⟨_, rfl⟩
 obtain ⟨E, hE⟩ : ∃ K, Mo.mirD z1 = K := ⟨_, rfl⟩
 have hke := (show K = ⟨id, role, bar, mark, kind, if side = 0 then 0 else 3 - side, D, level, if kind = 6 then 8 - size else size, wth, fn, fd, tn, td⟩ by rw [← HK.out, ← hD]; rfl)
 have HZE := qh (show Z = (z0, E, z2, z3) by rw [← HZ.out, ← hE]; rfl)
 rw [hD] at HM1
 rw [hE] at HM2
 clear hD hE HK HZ
 by_cases s0 : side = 0
 ·by_cases k6 : kind = 6
  ·rw [if_pos s0, if_pos k6] at hke
   subst s0
   subst k6
   have HKE := qh hke
   clear hke
   refine (show Calls Tryz.prog 23 #[.agg #[.int .i64 id, .int .i64 role, .int .i64 bar, .int .i64 mark, .int .i64 6, .int .i64 0, .int .i64 dir, .int .i64 level, .int .i64 size, .int .i64 wth, .int .i64 fn, .int .i64 fd, .int .i64 tn, .int .i64 td], .agg #[.int .i64 z0, .int .i64 z1, .int .i64 z2, .bool z3]] w _ from ?_)
   go_enter Tryz.func23, Tryz.ntmps23
   go_wp2_with (first | (with_reducible refine (HM1.out _).mono ?_; rintro _ w' ⟨rfl, hw⟩; subst w') | (with_reducible refine (HM2.out _).mono ?_; rintro _ w' ⟨rfl, hw⟩; subst w'))
   refine Kit.wp_name ?_
   intro W hW
   have HQ := qh (show Mo.MQ w W (Mo.sgC K).toArray (Mo.reC Z).toArray by rw [hW, HKE.out, HZE.out]; exact Mo.MQ.start _ _ _ _ _ rfl rfl)
   clear hW HKE HZE HM1 HM2 w1 w2
   have h1 := qh (Mo.szSg K)
   have h2 := qh (Mo.szRe Z)
   have h3 := qh (Mo.sgC_one K)
   refine Kit.wp_region_vals3 11 [([(2, none)], none, true), ([(3, none)], none, true), ([(8, none)], none, true), ([(43, some 2)], none, true), ([(44, some 3)], none, true), ([(10, none)], some (4, true), true), ([(46, some 5)], some (4, true), true), ([(45, some 4), (47, some 6)], none, true), ([(4, none), (41, some 0)], none, true), ([(5, none), (42, some 1)], none, true), ([(48, some 7)], none, true)]
    [some 41, some 42, some 43, some 44, some 45, some 46, some 47, some 48, none, none, some 6] rfl (by kernel_rfl) (by kernel_rfl) (fun X => Mo.MQ w X (Mo.sgC K).toArray (Mo.reC Z).toArray) (fun q A B => Mo.E6 w q A B) (fun _ _ => false) (fun q y x X => match q with
    | 0 => x = .agg (Mo.sgC K).toArray
    | 1 => x = .agg (Mo.reC Z).toArray
    | 2 => x = .int .i64 0
    | 3 => x = .bool true
    | 4 => x = .bool true
    | 5 => x = .int .i64 0
    | 6 => x = .bool true
    | 7 => x = .bool true
    | 8 => Kit.Bk X (w.heap.size + 2) 60 (Mo.sgC K).toArray
    | 9 => Kit.Bk X (w.heap.size + 3) 69 (Mo.reC Z).toArray
    | _ => x = .bool true)
    (by decide) (fun _ h k => k.2 _ _ h) (Mo.MQ.exc HQ.out ((Kit.Exc.refl (fun _ => False) W).drew) (fun _ h => h.elim) HQ.out.r1 HQ.out.r2) (fun _ X => Mo.E6.refl _ _ X) ?hst ?hown ?_ ?_
   case hst =>
    intro q n y y' x A B hq hn hne _ hdep hy hA hE h3
    rcases n with _ | _ | _ | _ | _ | _ | _ | _ | _ | _ | n
    all_goals first
     | exact h3
     | exact Kit.Bk.exc h3 hE.1 (fun h => h.elim (fun h => by first | exact hne h.1 | omega) (fun h => by first | exact hne h.1 | omega))
   case hown =>
    intro q y y' x X hq hy h3
    exact h3
   ·simp only [List.take_succ_cons, List.take_zero, Kit.StepsV3, Kit.VOp3, Kit.RdP3, true_and, if_true, and_true]
    refine ⟨?_, ?_, ?_, ?_, ?_, ⟨fun u v X _ h => ⟨true, h, rfl⟩, ?_⟩, ⟨fun u v X _ h => ⟨true, h, rfl⟩, ?_⟩, ?_, ?_, ?_, ?_⟩
    all_goals intro ev u X hx hv hc hf hg
    ·rw [Kit.run_load_bk 60 (.tmp 2) rfl w.heap.size (by rw [hv]; rfl) hx.sg Tryz.underlying60 rfl h1.out]
     exact ⟨rfl, Mo.E6.refl _ _ _⟩
    ·rw [Kit.run_load_bk 69 (.tmp 3) rfl (w.heap.size + 1) (by rw [hv]; rfl) hx.re Tryz.underlying69 rfl h2.out]
     exact ⟨rfl, Mo.E6.refl _ _ _⟩
    ·have hh : ev (.tmp 8) = .int .i64 0 := hv.trans rfl
     simp [execOp, hh, hc, go_sem, Kit.UponV]
     exact Mo.E6.refl _ _ _
    ·have hh : ev (.tmp 43) = .int .i64 0 := hv.1
     simp [execOp, hh, hc, go_sem, Kit.UponV]
     exact Mo.E6.refl _ _ _
    ·have hh : ev (.tmp 44) = .bool true := hv.1
     simp [execOp, hh, hc, go_sem, Kit.UponV]
     exact Mo.E6.refl _ _ _
    ·have hh : ev (.tmp 10) = .int .i64 0 := hv.trans rfl
     simp [execOp, hh, hc, go_sem, Kit.UponV]
     exact Mo.E6.refl _ _ _
    ·have hh : ev (.tmp 46) = .int .i64 0 := hv.1
     simp [execOp, hh, hc, go_sem, Kit.UponV]
     exact Mo.E6.refl _ _ _
    ·obtain ⟨⟨q1, _⟩, q2, _⟩ := hv
     have hh : ev (.tmp 45) = .bool true := q1
     have hh2 : ev (.tmp 47) = .bool true := q2
     simp [execOp, hh, hh2, hc, go_sem, Kit.UponV]
     exact Mo.E6.refl _ _ _
    ·obtain ⟨q1, q2, _⟩ := hv
     have hp : ev (.tmp 4) = .pointer (some ⟨w.heap.size + 2, 0, none⟩) := q1.trans rfl
     have ha : ev (.tmp 41) = .agg (Mo.sgC K).toArray := q2
     obtain ⟨c, hs, hm⟩ := hx.r1
     exact Kit.upon_store_bk _ _ _ rfl (w.heap.size + 2) hp (Mo.sgC K).toArray ha hm hs.symm h1.out (by have h := h3.out; simpa [Array.all_eq_true, List.all_eq_true] using h) fun W hW hX => ⟨hW, hX.mono (fun k _ h => .inl ⟨rfl, h⟩), fun cs cr hq => hq.exc hX (fun k hk => by omega) ⟨_, rfl, hW⟩ (by obtain ⟨c2, e2, m2⟩ := hq.r2; exact ⟨c2, e2, m2.exc hX omg⟩)⟩
    ·obtain ⟨q1, q2, _⟩ := hv
     have hp : ev (.tmp 5) = .pointer (some ⟨w.heap.size + 3, 0, none⟩) := q1.trans rfl
     have ha : ev (.tmp 42) = .agg (Mo.reC Z).toArray := q2
     obtain ⟨c, hs, hm⟩ := hx.r2
     exact Kit.upon_store_bk _ _ _ rfl (w.heap.size + 3) hp (Mo.reC Z).toArray ha hm hs.symm h2.out (by simp [Mo.reC, Value.oneCell']) fun W hW hX => ⟨hW, hX.mono (fun k _ h => .inr ⟨rfl, h⟩), fun cs cr hq => hq.exc hX (fun k hk => by omega) (by obtain ⟨c2, e2, m2⟩ := hq.r1; exact ⟨c2, e2, m2.exc hX omg⟩) ⟨_, rfl, hW⟩⟩
    ·have hh : ev (.tmp 48) = .bool true := hv.1
     simp [execOp, hh, hc, go_sem, Kit.UponV]
     exact Mo.E6.refl _ _ _
   intro vs u W3 hy hv hx
   have v10 : vs 10 = .bool true := hv 10 omg (fun _ _ => rfl)
   have m8 : Kit.Bk W3 (w.heap.size + 2) 60 (Mo.sgC K).toArray := hv 8 omg (fun _ _ => rfl)
   have m9 : Kit.Bk W3 (w.heap.size + 3) 69 (Mo.reC Z).toArray := hv 9 omg (fun _ _ => rfl)
   have M8 := qh m8
   have M9 := qh m9
   have HB3 := qh hx.bel
   clear hv hy hx m8 m9 HQ h1 h2 h3
   simp only [Kit.putD, List.getD_cons_zero, List.getD_cons_succ, Act.put, v10, List.drop_succ_cons, List.drop_zero, List.drop_nil]
   clear v10
   go_simp
   go_wp2_with fail
   refine bodyPost_ret (Mo.res_mr rfl rfl rfl M8.out M9.out) rfl ⟨rfl, HB3.out⟩
  ·rw [if_pos s0, if_neg k6] at hke
   subst s0
   have ck6 : (kind == 6) = false := by simpa using k6
   have HKE := qh hke
   clear hke
   refine (show Calls Tryz.prog 23 #[.agg #[.int .i64 id, .int .i64 role, .int .i64 bar, .int .i64 mark, .int .i64 kind, .int .i64 0, .int .i64 dir, .int .i64 level, .int .i64 size, .int .i64 wth, .int .i64 fn, .int .i64 fd, .int .i64 tn, .int .i64 td], .agg #[.int .i64 z0, .int .i64 z1, .int .i64 z2, .bool z3]] w _ from ?_)
   go_enter Tryz.func23, Tryz.ntmps23
   go_wp2_with (first | (with_reducible refine (HM1.out _).mono ?_; rintro _ w' ⟨rfl, hw⟩; subst w') | (with_reducible refine (HM2.out _).mono ?_; rintro _ w' ⟨rfl, hw⟩; subst w'))
   refine Kit.wp_name ?_
   intro W hW
   have HQ := qh (show Mo.MQ w W (Mo.sgC K).toArray (Mo.reC Z).toArray by rw [hW, HKE.out, HZE.out]; exact Mo.MQ.start _ _ _ _ _ rfl rfl)
   clear hW HKE HZE HM1 HM2 w1 w2
   have h1 := qh (Mo.szSg K)
   have h2 := qh (Mo.szRe Z)
   have h3 := qh (Mo.sgC_one K)
   refine Kit.wp_region_vals3 11 [([(2, none)], none, true), ([(3, none)], none, true), ([(8, none)], none, true), ([(43, some 2)], none, true), ([(44, some 3)], none, true), ([(10, none)], some (4, true), true), ([(46, some 5)], some (4, true), true), ([(45, some 4), (47, some 6)], none, true), ([(4, none), (41, some 0)], none, true), ([(5, none), (42, some 1)], none, true), ([(48, some 7)], none, true)]
    [some 41, some 42, some 43, some 44, some 45, some 46, some 47, some 48, none, none, some 6] rfl (by kernel_rfl) (by kernel_rfl) (fun X => Mo.MQ w X (Mo.sgC K).toArray (Mo.reC Z).toArray) (fun q A B => Mo.E6 w q A B) (fun _ _ => false) (fun q y x X => match q with
    | 0 => x = .agg (Mo.sgC K).toArray
    | 1 => x = .agg (Mo.reC Z).toArray
    | 2 => x = .int .i64 0
    | 3 => x = .bool true
    | 4 => x = .bool true
    | 5 => x = .int .i64 0
    | 6 => x = .bool true
    | 7 => x = .bool true
    | 8 => Kit.Bk X (w.heap.size + 2) 60 (Mo.sgC K).toArray
    | 9 => Kit.Bk X (w.heap.size + 3) 69 (Mo.reC Z).toArray
    | _ => x = .bool true)
    (by decide) (fun _ h k => k.2 _ _ h) (Mo.MQ.exc HQ.out ((Kit.Exc.refl (fun _ => False) W).drew) (fun _ h => h.elim) HQ.out.r1 HQ.out.r2) (fun _ X => Mo.E6.refl _ _ X) ?hst ?hown ?_ ?_
   case hst =>
    intro q n y y' x A B hq hn hne _ hdep hy hA hE h3
    rcases n with _ | _ | _ | _ | _ | _ | _ | _ | _ | _ | n
    all_goals first
     | exact h3
     | exact Kit.Bk.exc h3 hE.1 (fun h => h.elim (fun h => by first | exact hne h.1 | omega) (fun h => by first | exact hne h.1 | omega))
   case hown =>
    intro q y y' x X hq hy h3
    exact h3
   ·simp only [List.take_succ_cons, List.take_zero, Kit.StepsV3, Kit.VOp3, Kit.RdP3, true_and, if_true, and_true]
    refine ⟨?_, ?_, ?_, ?_, ?_, ⟨fun u v X _ h => ⟨true, h, rfl⟩, ?_⟩, ⟨fun u v X _ h => ⟨true, h, rfl⟩, ?_⟩, ?_, ?_, ?_, ?_⟩
    all_goals intro ev u X hx hv hc hf hg
    ·rw [Kit.run_load_bk 60 (.tmp 2) rfl w.heap.size (by rw [hv]; rfl) hx.sg Tryz.underlying60 rfl h1.out]
     exact ⟨rfl, Mo.E6.refl _ _ _⟩
    ·rw [Kit.run_load_bk 69 (.tmp 3) rfl (w.heap.size + 1) (by rw [hv]; rfl) hx.re Tryz.underlying69 rfl h2.out]
     exact ⟨rfl, Mo.E6.refl _ _ _⟩
    ·have hh : ev (.tmp 8) = .int .i64 0 := hv.trans rfl
     simp [execOp, hh, hc, go_sem, Kit.UponV]
     exact Mo.E6.refl _ _ _
    ·have hh : ev (.tmp 43) = .int .i64 0 := hv.1
     simp [execOp, hh, hc, go_sem, Kit.UponV]
     exact Mo.E6.refl _ _ _
    ·have hh : ev (.tmp 44) = .bool true := hv.1
     simp [execOp, hh, hc, go_sem, Kit.UponV]
     exact Mo.E6.refl _ _ _
    ·have hh : ev (.tmp 10) = .int .i64 0 := hv.trans rfl
     simp [execOp, hh, hc, go_sem, Kit.UponV]
     exact Mo.E6.refl _ _ _
    ·have hh : ev (.tmp 46) = .int .i64 0 := hv.1
     simp [execOp, hh, hc, go_sem, Kit.UponV]
     exact Mo.E6.refl _ _ _
    ·obtain ⟨⟨q1, _⟩, q2, _⟩ := hv
     have hh : ev (.tmp 45) = .bool true := q1
     have hh2 : ev (.tmp 47) = .bool true := q2
     simp [execOp, hh, hh2, hc, go_sem, Kit.UponV]
     exact Mo.E6.refl _ _ _
    ·obtain ⟨q1, q2, _⟩ := hv
     have hp : ev (.tmp 4) = .pointer (some ⟨w.heap.size + 2, 0, none⟩) := q1.trans rfl
     have ha : ev (.tmp 41) = .agg (Mo.sgC K).toArray := q2
     obtain ⟨c, hs, hm⟩ := hx.r1
     exact Kit.upon_store_bk _ _ _ rfl (w.heap.size + 2) hp (Mo.sgC K).toArray ha hm hs.symm h1.out (by have h := h3.out; simpa [Array.all_eq_true, List.all_eq_true] using h) fun W hW hX => ⟨hW, hX.mono (fun k _ h => .inl ⟨rfl, h⟩), fun cs cr hq => hq.exc hX (fun k hk => by omega) ⟨_, rfl, hW⟩ (by obtain ⟨c2, e2, m2⟩ := hq.r2; exact ⟨c2, e2, m2.exc hX omg⟩)⟩
    ·obtain ⟨q1, q2, _⟩ := hv
     have hp : ev (.tmp 5) = .pointer (some ⟨w.heap.size + 3, 0, none⟩) := q1.trans rfl
     have ha : ev (.tmp 42) = .agg (Mo.reC Z).toArray := q2
     obtain ⟨c, hs, hm⟩ := hx.r2
     exact Kit.upon_store_bk _ _ _ rfl (w.heap.size + 3) hp (Mo.reC Z).toArray ha hm hs.symm h2.out (by simp [Mo.reC, Value.oneCell']) fun W hW hX => ⟨hW, hX.mono (fun k _ h => .inr ⟨rfl, h⟩), fun cs cr hq => hq.exc hX (fun k hk => by omega) (by obtain ⟨c2, e2, m2⟩ := hq.r1; exact ⟨c2, e2, m2.exc hX omg⟩) ⟨_, rfl, hW⟩⟩
    ·have hh : ev (.tmp 48) = .bool true := hv.1
     simp [execOp, hh, hc, go_sem, Kit.UponV]
     exact Mo.E6.refl _ _ _
   intro vs u W3 hy hv hx
   have v10 : vs 10 = .bool true := hv 10 omg (fun _ _ => rfl)
   have m8 : Kit.Bk W3 (w.heap.size + 2) 60 (Mo.sgC K).toArray := hv 8 omg (fun _ _ => rfl)
   have m9 : Kit.Bk W3 (w.heap.size + 3) 69 (Mo.reC Z).toArray := hv 9 omg (fun _ _ => rfl)
   have M8 := qh m8
   have M9 := qh m9
   have HB3 := qh hx.bel
   clear hv hy hx m8 m9 HQ h1 h2 h3
   simp only [Kit.putD, List.getD_cons_zero, List.getD_cons_succ, Act.put, v10, List.drop_succ_cons, List.drop_zero, List.drop_nil]
   clear v10
   go_simp
   go_wp2_with fail
   refine bodyPost_ret (Mo.res_mr rfl rfl rfl M8.out M9.out) rfl ⟨rfl, HB3.out⟩
 ·have cs0 : (side != 0) = true := by simpa using s0
  by_cases k6 : kind = 6
  ·rw [if_neg s0, if_pos k6] at hke
   subst k6
   have HKE := qh hke
   clear hke
   refine (show Calls Tryz.prog 23 #[.agg #[.int .i64 id, .int .i64 role, .int .i64 bar, .int .i64 mark, .int .i64 6, .int .i64 side, .int .i64 dir, .int .i64 level, .int .i64 size, .int .i64 wth, .int .i64 fn, .int .i64 fd, .int .i64 tn, .int .i64 td], .agg #[.int .i64 z0, .int .i64 z1, .int .i64 z2, .bool z3]] w _ from ?_)
   go_enter Tryz.func23, Tryz.ntmps23
   go_wp2_with (first | (with_reducible refine (HM1.out _).mono ?_; rintro _ w' ⟨rfl, hw⟩; subst w') | (with_reducible refine (HM2.out _).mono ?_; rintro _ w' ⟨rfl, hw⟩; subst w'))
   refine Kit.wp_name ?_
   intro W hW
   have HQ := qh (show Mo.MQ w W (Mo.sgC K).toArray (Mo.reC Z).toArray by rw [hW, HKE.out, HZE.out]; exact Mo.MQ.start _ _ _ _ _ rfl rfl)
   clear hW HKE HZE HM1 HM2 w1 w2
   have h1 := qh (Mo.szSg K)
   have h2 := qh (Mo.szRe Z)
   have h3 := qh (Mo.sgC_one K)
   refine Kit.wp_region_vals3 11 [([(2, none)], none, true), ([(3, none)], none, true), ([(8, none)], none, true), ([(43, some 2)], none, true), ([(44, some 3)], none, true), ([(10, none)], some (4, true), true), ([(46, some 5)], some (4, true), true), ([(45, some 4), (47, some 6)], none, true), ([(4, none), (41, some 0)], none, true), ([(5, none), (42, some 1)], none, true), ([(48, some 7)], none, true)]
    [some 41, some 42, some 43, some 44, some 45, some 46, some 47, some 48, none, none, some 6] rfl (by kernel_rfl) (by kernel_rfl) (fun X => Mo.MQ w X (Mo.sgC K).toArray (Mo.reC Z).toArray) (fun q A B => Mo.E6 w q A B) (fun _ _ => false) (fun q y x X => match q with
    | 0 => x = .agg (Mo.sgC K).toArray
    | 1 => x = .agg (Mo.reC Z).toArray
    | 2 => x = .int .i64 0
    | 3 => x = .bool true
    | 4 => x = .bool true
    | 5 => x = .int .i64 0
    | 6 => x = .bool true
    | 7 => x = .bool true
    | 8 => Kit.Bk X (w.heap.size + 2) 60 (Mo.sgC K).toArray
    | 9 => Kit.Bk X (w.heap.size + 3) 69 (Mo.reC Z).toArray
    | _ => x = .bool true)
    (by decide) (fun _ h k => k.2 _ _ h) (Mo.MQ.exc HQ.out ((Kit.Exc.refl (fun _ => False) W).drew) (fun _ h => h.elim) HQ.out.r1 HQ.out.r2) (fun _ X => Mo.E6.refl _ _ X) ?hst ?hown ?_ ?_
   case hst =>
    intro q n y y' x A B hq hn hne _ hdep hy hA hE h3
    rcases n with _ | _ | _ | _ | _ | _ | _ | _ | _ | _ | n
    all_goals first
     | exact h3
     | exact Kit.Bk.exc h3 hE.1 (fun h => h.elim (fun h => by first | exact hne h.1 | omega) (fun h => by first | exact hne h.1 | omega))
   case hown =>
    intro q y y' x X hq hy h3
    exact h3
   ·simp only [List.take_succ_cons, List.take_zero, Kit.StepsV3, Kit.VOp3, Kit.RdP3, true_and, if_true, and_true]
    refine ⟨?_, ?_, ?_, ?_, ?_, ⟨fun u v X _ h => ⟨true, h, rfl⟩, ?_⟩, ⟨fun u v X _ h => ⟨true, h, rfl⟩, ?_⟩, ?_, ?_, ?_, ?_⟩
    all_goals intro ev u X hx hv hc hf hg
    ·rw [Kit.run_load_bk 60 (.tmp 2) rfl w.heap.size (by rw [hv]; rfl) hx.sg Tryz.underlying60 rfl h1.out]
     exact ⟨rfl, Mo.E6.refl _ _ _⟩
    ·rw [Kit.run_load_bk 69 (.tmp 3) rfl (w.heap.size + 1) (by rw [hv]; rfl) hx.re Tryz.underlying69 rfl h2.out]
     exact ⟨rfl, Mo.E6.refl _ _ _⟩
    ·have hh : ev (.tmp 8) = .int .i64 0 := hv.trans rfl
     simp [execOp, hh, hc, go_sem, Kit.UponV]
     exact Mo.E6.refl _ _ _
    ·have hh : ev (.tmp 43) = .int .i64 0 := hv.1
     simp [execOp, hh, hc, go_sem, Kit.UponV]
     exact Mo.E6.refl _ _ _
    ·have hh : ev (.tmp 44) = .bool true := hv.1
     simp [execOp, hh, hc, go_sem, Kit.UponV]
     exact Mo.E6.refl _ _ _
    ·have hh : ev (.tmp 10) = .int .i64 0 := hv.trans rfl
     simp [execOp, hh, hc, go_sem, Kit.UponV]
     exact Mo.E6.refl _ _ _
    ·have hh : ev (.tmp 46) = .int .i64 0 := hv.1
     simp [execOp, hh, hc, go_sem, Kit.UponV]
     exact Mo.E6.refl _ _ _
    ·obtain ⟨⟨q1, _⟩, q2, _⟩ := hv
     have hh : ev (.tmp 45) = .bool true := q1
     have hh2 : ev (.tmp 47) = .bool true := q2
     simp [execOp, hh, hh2, hc, go_sem, Kit.UponV]
     exact Mo.E6.refl _ _ _
    ·obtain ⟨q1, q2, _⟩ := hv
     have hp : ev (.tmp 4) = .pointer (some ⟨w.heap.size + 2, 0, none⟩) := q1.trans rfl
     have ha : ev (.tmp 41) = .agg (Mo.sgC K).toArray := q2
     obtain ⟨c, hs, hm⟩ := hx.r1
     exact Kit.upon_store_bk _ _ _ rfl (w.heap.size + 2) hp (Mo.sgC K).toArray ha hm hs.symm h1.out (by have h := h3.out; simpa [Array.all_eq_true, List.all_eq_true] using h) fun W hW hX => ⟨hW, hX.mono (fun k _ h => .inl ⟨rfl, h⟩), fun cs cr hq => hq.exc hX (fun k hk => by omega) ⟨_, rfl, hW⟩ (by obtain ⟨c2, e2, m2⟩ := hq.r2; exact ⟨c2, e2, m2.exc hX omg⟩)⟩
    ·obtain ⟨q1, q2, _⟩ := hv
     have hp : ev (.tmp 5) = .pointer (some ⟨w.heap.size + 3, 0, none⟩) := q1.trans rfl
     have ha : ev (.tmp 42) = .agg (Mo.reC Z).toArray := q2
     obtain ⟨c, hs, hm⟩ := hx.r2
     exact Kit.upon_store_bk _ _ _ rfl (w.heap.size + 3) hp (Mo.reC Z).toArray ha hm hs.symm h2.out (by simp [Mo.reC, Value.oneCell']) fun W hW hX => ⟨hW, hX.mono (fun k _ h => .inr ⟨rfl, h⟩), fun cs cr hq => hq.exc hX (fun k hk => by omega) (by obtain ⟨c2, e2, m2⟩ := hq.r1; exact ⟨c2, e2, m2.exc hX omg⟩) ⟨_, rfl, hW⟩⟩
    ·have hh : ev (.tmp 48) = .bool true := hv.1
     simp [execOp, hh, hc, go_sem, Kit.UponV]
     exact Mo.E6.refl _ _ _
   intro vs u W3 hy hv hx
   have v10 : vs 10 = .bool true := hv 10 omg (fun _ _ => rfl)
   have m8 : Kit.Bk W3 (w.heap.size + 2) 60 (Mo.sgC K).toArray := hv 8 omg (fun _ _ => rfl)
   have m9 : Kit.Bk W3 (w.heap.size + 3) 69 (Mo.reC Z).toArray := hv 9 omg (fun _ _ => rfl)
   have M8 := qh m8
   have M9 := qh m9
   have HB3 := qh hx.bel
   clear hv hy hx m8 m9 HQ h1 h2 h3
   simp only [Kit.putD, List.getD_cons_zero, List.getD_cons_succ, Act.put, v10, List.drop_succ_cons, List.drop_zero, List.drop_nil]
   clear v10
   go_simp
   go_wp2_with fail
   refine bodyPost_ret (Mo.res_mr rfl rfl rfl M8.out M9.out) rfl ⟨rfl, HB3.out⟩
  ·rw [if_neg s0, if_neg k6] at hke
   have ck6 : (kind == 6) = false := by simpa using k6
   have HKE := qh hke
   clear hke
   refine (show Calls Tryz.prog 23 #[.agg #[.int .i64 id, .int .i64 role, .int .i64 bar, .int .i64 mark, .int .i64 kind, .int .i64 side, .int .i64 dir, .int .i64 level, .int .i64 size, .int .i64 wth, .int .i64 fn, .int .i64 fd, .int .i64 tn, .int .i64 td], .agg #[.int .i64 z0, .int .i64 z1, .int .i64 z2, .bool z3]] w _ from ?_)
   go_enter Tryz.func23, Tryz.ntmps23
   go_wp2_with (first | (with_reducible refine (HM1.out _).mono ?_; rintro _ w' ⟨rfl, hw⟩; subst w') | (with_reducible refine (HM2.out _).mono ?_; rintro _ w' ⟨rfl, hw⟩; subst w'))
   refine Kit.wp_name ?_
   intro W hW
   have HQ := qh (show Mo.MQ w W (Mo.sgC K).toArray (Mo.reC Z).toArray by rw [hW, HKE.out, HZE.out]; exact Mo.MQ.start _ _ _ _ _ rfl rfl)
   clear hW HKE HZE HM1 HM2 w1 w2
   have h1 := qh (Mo.szSg K)
   have h2 := qh (Mo.szRe Z)
   have h3 := qh (Mo.sgC_one K)
   refine Kit.wp_region_vals3 11 [([(2, none)], none, true), ([(3, none)], none, true), ([(8, none)], none, true), ([(43, some 2)], none, true), ([(44, some 3)], none, true), ([(10, none)], some (4, true), true), ([(46, some 5)], some (4, true), true), ([(45, some 4), (47, some 6)], none, true), ([(4, none), (41, some 0)], none, true), ([(5, none), (42, some 1)], none, true), ([(48, some 7)], none, true)]
    [some 41, some 42, some 43, some 44, some 45, some 46, some 47, some 48, none, none, some 6] rfl (by kernel_rfl) (by kernel_rfl) (fun X => Mo.MQ w X (Mo.sgC K).toArray (Mo.reC Z).toArray) (fun q A B => Mo.E6 w q A B) (fun _ _ => false) (fun q y x X => match q with
    | 0 => x = .agg (Mo.sgC K).toArray
    | 1 => x = .agg (Mo.reC Z).toArray
    | 2 => x = .int .i64 0
    | 3 => x = .bool true
    | 4 => x = .bool true
    | 5 => x = .int .i64 0
    | 6 => x = .bool true
    | 7 => x = .bool true
    | 8 => Kit.Bk X (w.heap.size + 2) 60 (Mo.sgC K).toArray
    | 9 => Kit.Bk X (w.heap.size + 3) 69 (Mo.reC Z).toArray
    | _ => x = .bool true)
    (by decide) (fun _ h k => k.2 _ _ h) (Mo.MQ.exc HQ.out ((Kit.Exc.refl (fun _ => False) W).drew) (fun _ h => h.elim) HQ.out.r1 HQ.out.r2) (fun _ X => Mo.E6.refl _ _ X) ?hst ?hown ?_ ?_
   case hst =>
    intro q n y y' x A B hq hn hne _ hdep hy hA hE h3
    rcases n with _ | _ | _ | _ | _ | _ | _ | _ | _ | _ | n
    all_goals first
     | exact h3
     | exact Kit.Bk.exc h3 hE.1 (fun h => h.elim (fun h => by first | exact hne h.1 | omega) (fun h => by first | exact hne h.1 | omega))
   case hown =>
    intro q y y' x X hq hy h3
    exact h3
   ·simp only [List.take_succ_cons, List.take_zero, Kit.StepsV3, Kit.VOp3, Kit.RdP3, true_and, if_true, and_true]
    refine ⟨?_, ?_, ?_, ?_, ?_, ⟨fun u v X _ h => ⟨true, h, rfl⟩, ?_⟩, ⟨fun u v X _ h => ⟨true, h, rfl⟩, ?_⟩, ?_, ?_, ?_, ?_⟩
    all_goals intro ev u X hx hv hc hf hg
    ·rw [Kit.run_load_bk 60 (.tmp 2) rfl w.heap.size (by rw [hv]; rfl) hx.sg Tryz.underlying60 rfl h1.out]
     exact ⟨rfl, Mo.E6.refl _ _ _⟩
    ·rw [Kit.run_load_bk 69 (.tmp 3) rfl (w.heap.size + 1) (by rw [hv]; rfl) hx.re Tryz.underlying69 rfl h2.out]
     exact ⟨rfl, Mo.E6.refl _ _ _⟩
    ·have hh : ev (.tmp 8) = .int .i64 0 := hv.trans rfl
     simp [execOp, hh, hc, go_sem, Kit.UponV]
     exact Mo.E6.refl _ _ _
    ·have hh : ev (.tmp 43) = .int .i64 0 := hv.1
     simp [execOp, hh, hc, go_sem, Kit.UponV]
     exact Mo.E6.refl _ _ _
    ·have hh : ev (.tmp 44) = .bool true := hv.1
     simp [execOp, hh, hc, go_sem, Kit.UponV]
     exact Mo.E6.refl _ _ _
    ·have hh : ev (.tmp 10) = .int .i64 0 := hv.trans rfl
     simp [execOp, hh, hc, go_sem, Kit.UponV]
     exact Mo.E6.refl _ _ _
    ·have hh : ev (.tmp 46) = .int .i64 0 := hv.1
     simp [execOp, hh, hc, go_sem, Kit.UponV]
     exact Mo.E6.refl _ _ _
    ·obtain ⟨⟨q1, _⟩, q2, _⟩ := hv
     have hh : ev (.tmp 45) = .bool true := q1
     have hh2 : ev (.tmp 47) = .bool true := q2
     simp [execOp, hh, hh2, hc, go_sem, Kit.UponV]
     exact Mo.E6.refl _ _ _
    ·obtain ⟨q1, q2, _⟩ := hv
     have hp : ev (.tmp 4) = .pointer (some ⟨w.heap.size + 2, 0, none⟩) := q1.trans rfl
     have ha : ev (.tmp 41) = .agg (Mo.sgC K).toArray := q2
     obtain ⟨c, hs, hm⟩ := hx.r1
     exact Kit.upon_store_bk _ _ _ rfl (w.heap.size + 2) hp (Mo.sgC K).toArray ha hm hs.symm h1.out (by have h := h3.out; simpa [Array.all_eq_true, List.all_eq_true] using h) fun W hW hX => ⟨hW, hX.mono (fun k _ h => .inl ⟨rfl, h⟩), fun cs cr hq => hq.exc hX (fun k hk => by omega) ⟨_, rfl, hW⟩ (by obtain ⟨c2, e2, m2⟩ := hq.r2; exact ⟨c2, e2, m2.exc hX omg⟩)⟩
    ·obtain ⟨q1, q2, _⟩ := hv
     have hp : ev (.tmp 5) = .pointer (some ⟨w.heap.size + 3, 0, none⟩) := q1.trans rfl
     have ha : ev (.tmp 42) = .agg (Mo.reC Z).toArray := q2
     obtain ⟨c, hs, hm⟩ := hx.r2
     exact Kit.upon_store_bk _ _ _ rfl (w.heap.size + 3) hp (Mo.reC Z).toArray ha hm hs.symm h2.out (by simp [Mo.reC, Value.oneCell']) fun W hW hX => ⟨hW, hX.mono (fun k _ h => .inr ⟨rfl, h⟩), fun cs cr hq => hq.exc hX (fun k hk => by omega) (by obtain ⟨c2, e2, m2⟩ := hq.r1; exact ⟨c2, e2, m2.exc hX omg⟩) ⟨_, rfl, hW⟩⟩
    ·have hh : ev (.tmp 48) = .bool true := hv.1
     simp [execOp, hh, hc, go_sem, Kit.UponV]
     exact Mo.E6.refl _ _ _
   intro vs u W3 hy hv hx
   have v10 : vs 10 = .bool true := hv 10 omg (fun _ _ => rfl)
   have m8 : Kit.Bk W3 (w.heap.size + 2) 60 (Mo.sgC K).toArray := hv 8 omg (fun _ _ => rfl)
   have m9 : Kit.Bk W3 (w.heap.size + 3) 69 (Mo.reC Z).toArray := hv 9 omg (fun _ _ => rfl)
   have M8 := qh m8
   have M9 := qh m9
   have HB3 := qh hx.bel
   clear hv hy hx m8 m9 HQ h1 h2 h3
   simp only [Kit.putD, List.getD_cons_zero, List.getD_cons_succ, Act.put, v10, List.drop_succ_cons, List.drop_zero, List.drop_nil]
   clear v10
   go_simp
   go_wp2_with fail
   refine bodyPost_ret (Mo.res_mr rfl rfl rfl M8.out M9.out) rfl ⟨rfl, HB3.out⟩
end Go.Proofs.YtedolbjgdedoaaaGreatDoor
