/- Walks: package understudy: Able, where it errs. -/
import Derived.Test.YtbhgogiaaljclaaGreatDoorUuab
import Derived.Test.YtbhgogiaaljclaaGreatDoorKxb
set_option linter.unusedSimpArgs false
set_option linter.unusedVariables false
set_option maxRecDepth 100000
set_option maxHeartbeats 8000000
namespace Go.Proofs.YtbhgogiaaljclaaGreatDoor
open Go.RowKit Go.Shelf
attribute [local go_sem] Oper.semAt_some
namespace Un
def ableE (x : Ex.Wk) (B : Bd) (role bar : Int) : Int := firstE [Ex.chk x, if within x role bar = true then 0 else 1, chkB [B]]
def ableA (x : Ex.Wk) (B : Bd) (role bar : Int) : Int × Bool × Int := if ableE x B role bar = 0 then ((ableR x B role bar).1, (ableR x B role bar).2, 0) else (0, false, ableE x B role bar)
def Able (x : Ex.Wk) (p : Ex.Wa) (B : Bd) (role bar : Int) (w : World) (r : Int × Bool × Int) : Prop :=
 Calls Tryz.prog 12 #[Ex.workV x p, .agg (bdA B), .int .i64 role, .int .i64 bar] w fun e w' => e = .returned (.tuple #[.int .i64 r.1, .bool r.2.1, .int .i64 r.2.2]) ∧ Below w.heap.size w w'
theorem one_at (B : Bd) : ∀ i j, i < 1 → j < 17 → (bdA B).toList[i * 17 + j]? = some (bdF [B] i j) := fun i j hi hj => by
 obtain rfl : i = 0 := by omega
 rw [Nat.zero_mul, Nat.zero_add, List.getElem?_eq_getElem (show j < (bdA B).toList.length from hj), bdF_at [B] 0 B rfl j _ (List.getElem?_eq_getElem (show j < (bdA B).toList.length from hj))]
theorem sl_one {W : World} {b : Nat} {B : Bd} {t : TypeId} (h : W.heap[b]? = some (.cells (bdA B) t (0, 0))) : Tp.Sl W (some ⟨b, 0, none⟩) [B].length 17 (bdF [B]) :=
 .inr ⟨⟨b, 0, none⟩, rfl, (Array.getElem?_eq_some_iff.1 h).1, fun i j hi hj => by
  have h2 := one_at B i j hi hj
  rw [Addr.add_mid]
  simp only [World.cell?, h, Nat.zero_add]
  simpa using h2⟩
end Un
theorem Un.res3 {w W : World} {n : Nat} (hb : Below n w W) (b : Nat) (h0 : n ≤ b) (v0 v1 v2 v3 a8 a9 a10 : Value) (k8 : W.cell? ⟨b, 0, none⟩ = some a8) (k9 : W.cell? ⟨b + 1, 0, none⟩ = some a9) (k10 : W.cell? ⟨b + 1 + 1, 0, none⟩ = some a10) (W4 : World)
  (h4 : ((((W.setCell ⟨b + 1 + 1, 0, none⟩ v0).setCell ⟨b, 0, none⟩ v1).setCell ⟨b + 1, 0, none⟩ v2).setCell ⟨b + 1 + 1, 0, none⟩ v3).drew = W4) :
  W4.cell? ⟨b, 0, none⟩ = some v1 ∧ W4.cell? ⟨b + 1, 0, none⟩ = some v2 ∧ W4.cell? ⟨b + 1 + 1, 0, none⟩ = some v3 ∧ Below n w W4 := by
 have hd : ∀ (X : World) q, X.drew.cell? q = X.cell? q := fun _ _ => rfl
 subst h4
 refine ⟨?_, ?_, ?_, ?_⟩
 ·rw [hd]; simp [Kit.cell_set, k8]
 ·rw [hd]; simp [Kit.cell_set, k9]
 ·rw [hd]; simp [Kit.cell_set, k10]
 ·exact (((((hb.setCell (p := ⟨b + 1 + 1, 0, none⟩) (by show n ≤ b + 1 + 1; omega) v0).setCell (p := ⟨b, 0, none⟩) h0 v1).setCell (p := ⟨b + 1, 0, none⟩) (by show n ≤ b + 1; omega) v2).setCell (p := ⟨b + 1 + 1, 0, none⟩) (by show n ≤ b + 1 + 1; omega) v3).trans ⟨rfl, rfl, rfl, Nat.le_refl _, fun _ _ => rfl⟩)
theorem un_able_e (x : Ex.Wk) (p : Ex.Wa) (w : World) (hL : Ex.Laid w) (hF : Uo.Flat w) (ha : Ex.At w x p) (B : Un.Bd) (hn : B.name.size ≤ 9223372036854775807) (role bar : Int) (hE : Un.ableE x B role bar ≠ 0) : Un.Able x p B role bar w (Un.ableA x B role bar) := by
 unfold Un.Able
 obtain ⟨R, hR⟩ : ∃ R, Un.ableA x B role bar = R := ⟨_, rfl⟩
 rw [hR]
 obtain ⟨c0, hc0⟩ : ∃ c0, Ex.chk x = c0 := ⟨_, rfl⟩
 obtain ⟨c1, hc1⟩ : ∃ c1, (if Un.within x role bar = true then (0 : Int) else 1) = c1 := ⟨_, rfl⟩
 obtain ⟨c2, hc2⟩ : ∃ c2, Un.chkB [B] = c2 := ⟨_, rfl⟩
 obtain ⟨er, her⟩ : ∃ er, Un.firstE [c0, c1, c2] = er := ⟨_, rfl⟩
 have hRE : Un.ableE x B role bar = er := by unfold Un.ableE; rw [hc0, hc1, hc2, her]
 have H0 := qh (fun W (hW : Below w.heap.size w W) => (by have h := ex_check x p W (ha.kept hW nlr) (hL.kept hW nlr); rwa [hc0] at h : Ex.Chk x p W c0))
 have H1 := qh (fun W => (by have h := un_within x p role bar W ha.lro; rwa [hc1] at h : Calls Tryz.prog 30 #[Ex.workV x p, .int .i64 role, .int .i64 bar] W fun e w' => e = .returned (.int .i64 c1) ∧ Below W.heap.size W w'))
 have H2 := qh (fun W b (hb : W.heap[b]? = some (.cells (Un.bdA B) 36 (0, 0))) => (by have h := un_checked [B] (some ⟨b, 0, none⟩) 1 W (Un.sl_one hb) (by simp) (fun y hy => by simp at hy; rw [hy]; exact hn); rwa [hc2] at h : Calls Tryz.prog 31 #[.slice (some ⟨b, 0, none⟩) 1 1] W fun e w' => e = .returned (.int .i64 c2) ∧ Below W.heap.size W w'))
 have H3 := qh (fun W b (hx : W.heap[b]? = some (.cells #[.int .i64 c0, .int .i64 c1, .int .i64 c2] 39 (0, 0))) => (by
  have h := un_or b 3 [c0, c1, c2] W (by simp) (fun i hi => by
   rcases (by have : i < 3 := hi; omega : i = 0 ∨ i = 1 ∨ i = 2) with rfl | rfl | rfl <;> simp [World.cell?, hx])
  rwa [her] at h : Calls Tryz.prog 28 #[.slice (some ⟨b, 0, none⟩) 3 3] W fun e w' => e = .returned (.int .i64 er) ∧ w' = W))
 have HI := qh (show (Tryz.prog.info? 36).map (·.size) = some (Un.bdA B).toList.length by kernel_rfl)
 have hfold : Array.foldl (fun cs x => cs.setIfInBounds x.snd x.fst) Un.bdZ (Un.bdA B).zipIdx 0 17 = Un.bdA B := by kernel_rfl
 unfold Un.bdZ at hfold
 have hs17 : (Un.bdA B).size = 17 := rfl
 go_enter Tryz.func12, Tryz.ntmps12
 go_wp2_with fail
 refine Kit.wp_name ?_
 intro W1 hW1
 have hb1 := qh (show Below w.heap.size w W1 by rw [hW1]; exact Kit.gr)
 have hz1 : W1.heap.size = w.heap.size + 5 := by rw [hW1]; simp
 have WK := qh (show ∀ X, Below W1.heap.size W1 X → ∀ j, X.cell? ⟨w.heap.size, j, none⟩ = (Un.wkC x p)[j]? from fun X hX j => by
  rw [World.cell?_of_block (hX.block w.heap.size omg), hW1]
  simp [go_sem])
 have RB := qh (show W1.rangeAt (w.heap.size + 1) 0 (Un.bdA B).toList by
  have h := Kit.range_alloc (w.alloc (.cells (Un.wkC x p) 32)) (Un.bdA B) 36
  rw [World.size_alloc] at h
  rw [hW1]
  exact Kit.range_kept h ((((Below.refl _ _).alloc nlr _).alloc (by simp) _).alloc (by simp) _) (by simp))
 have R8 := qh (show W1.heap[w.heap.size + 2]? = some (.cells #[.int .i64 0] 3 (0, 0)) ∧ W1.heap[w.heap.size + 3]? = some (.cells #[.bool false] 4 (0, 0)) ∧ W1.heap[w.heap.size + 4]? = some (.cells #[.int .i64 0] 39 (0, 0)) by
  rw [hW1]
  refine ⟨?_, ?_, ?_⟩
  ·exact (Below.heap_alloc _ _ _ (by simp)).trans ((Below.heap_alloc _ _ _ (by simp)).trans (by have := World.alloc_heap_new ((w.alloc (.cells (Un.wkC x p) 32)).alloc (.cells (Un.bdA B) 36)) (.cells #[.int .i64 0] 3); simpa using this))
  ·exact (Below.heap_alloc _ _ _ (by simp)).trans (by have := World.alloc_heap_new (((w.alloc (.cells (Un.wkC x p) 32)).alloc (.cells (Un.bdA B) 36)).alloc (.cells #[.int .i64 0] 3)) (.cells #[.bool false] 4); simpa using this)
  ·have := World.alloc_heap_new ((((w.alloc (.cells (Un.wkC x p) 32)).alloc (.cells (Un.bdA B) 36)).alloc (.cells #[.int .i64 0] 3)).alloc (.cells #[.bool false] 4)) (.cells #[.int .i64 0] 39); simpa using this)
 clear hW1
 dsimp only [Ex.Chk, Ex.workV, Ex.wv] at H0 H1
 refine Kit.wp_region_vals 11 [([(4, none)], none, true), ([(14, some 0)], none, true), ([(4, none)], none, true), ([(2, none)], none, true), ([(3, none)], none, true), ([(16, some 2), (17, some 3), (18, some 4)], none, true), ([(5, none)], none, true), ([(20, some 6)], none, true), ([(21, some 7)], none, true), ([(15, some 1), (19, some 5), (22, some 8)], none, true), ([(23, some 9)], none, true)]
  [some 14, some 15, some 16, some 17, some 18, some 19, some 20, some 21, some 22, some 23, some 24] rfl (by kernel_rfl) (by kernel_rfl) (fun A B => Below A.heap.size A B) (fun q v w' => match q with
  | 0 => v = .agg (Un.wkC x p)
  | 1 => v = .int .i64 c0
  | 2 => v = .agg (Un.wkC x p)
  | 3 => v = .int .i64 role
  | 4 => v = .int .i64 bar
  | 5 => v = .int .i64 c1
  | 6 => v = .agg (Un.bdA B)
  | 7 => ∃ b, v = .slice (some ⟨b, 0, none⟩) 1 1 ∧ w'.heap[b]? = some (.cells (Un.bdA B) 36 (0, 0))
  | 8 => v = .int .i64 c2
  | 9 => ∃ b, v = .slice (some ⟨b, 0, none⟩) 3 3 ∧ w'.heap[b]? = some (.cells #[.int .i64 c0, .int .i64 c1, .int .i64 c2] 39 (0, 0))
  | _ => v = .int .i64 er)
  (fun h k => h.trans (k.mono h.size)) (Below.drew (Below.refl _ _)) (fun _ => Below.refl _ _) ?_ ?_ ?_
 ·intro q v A C h1 h2 h3
  split at h3 <;> try exact h3
  ·obtain ⟨b, e, hb⟩ := h3
   exact ⟨b, e, (h2.block b (Array.getElem?_eq_some_iff.1 hb).1).trans hb⟩
  ·obtain ⟨b, e, hb⟩ := h3
   exact ⟨b, e, (h2.block b (Array.getElem?_eq_some_iff.1 hb).1).trans hb⟩
 ·simp only [List.take_succ_cons, List.take_zero, Kit.StepsV, Kit.VOp, Kit.RdP, true_and, if_true, and_true]
  refine ⟨?_, ?_, ?_, ?_, ?_, ?_, ?_, ?_, ?_, ?_, ?_⟩
  all_goals intro ev w' hx hv hc hf hg
  ·have so := WK.out w' hx
   simp at hv
   simp [execOp, hv, hc, so, go_sem, Kit.UponV, Below.refl]
  ·simp [execOp, hv, hc, hf, go_sem, Kit.UponV]
   refine (H0.out w' (hb1.out.trans (hx.mono hb1.out.size))).mono ?_
   rintro e w3 ⟨rfl, hb⟩
   exact ⟨_, rfl, rfl, hb⟩
  ·have so := WK.out w' hx
   simp at hv
   simp [execOp, hv, hc, so, go_sem, Kit.UponV, Below.refl]
  ·simp at hv; simp [execOp, hv, hc, go_sem, Kit.UponV, Below.refl]
  ·simp at hv; simp [execOp, hv, hc, go_sem, Kit.UponV, Below.refl]
  ·obtain ⟨hv1, hv2, hv3⟩ := hv
   simp [execOp, hv1, hv2, hv3, hc, hf, go_sem, Kit.UponV]
   refine (H1.out w').mono ?_
   rintro e w3 ⟨rfl, hb⟩
   exact ⟨_, rfl, rfl, hb⟩
  ·simp at hv
   simp only [execOp, hv, Instr.loadAt, Instr.sureAddr, Sem.run_bind, Sem.run_pure, Result.andThen_ok, run_loadVar_mid w' (w.heap.size + 1) 0 36 (Un.bdA B).toList _ (Kit.range_kept RB.out hx omg) Tryz.underlying36 rfl HI.out]
   simp [Kit.UponV, Below.refl]
  ·simp [execOp, hv, hc, hfold, hs17, go_sem, Kit.UponV]
   exact ⟨(Array.getElem?_eq_some_iff.1 (World.alloc_heap_new w' (.cells (Un.bdA B) 36))).2, (Below.refl _ _).alloc nlr _⟩
  ·obtain ⟨b, e, hb⟩ := hv
   simp [execOp, e, hc, hf, go_sem, Kit.UponV]
   refine (H2.out w' b hb).mono ?_
   rintro e w3 ⟨rfl, hb⟩
   exact ⟨_, rfl, rfl, hb⟩
  ·obtain ⟨hv1, hv2, hv3⟩ := hv
   simp [execOp, hv1, hv2, hv3, hc, go_sem, Kit.UponV]
   exact ⟨(Array.getElem?_eq_some_iff.1 (World.alloc_heap_new w' (.cells #[.int .i64 c0, .int .i64 c1, .int .i64 c2] 39))).2, (Below.refl _ _).alloc nlr _⟩
  ·obtain ⟨b, e, hb⟩ := hv
   simp [execOp, e, hc, hf, go_sem, Kit.UponV]
   refine (H3.out w' b hb).mono ?_
   rintro e w3 ⟨rfl, rfl⟩
   exact ⟨_, rfl, rfl, Below.refl _ _⟩
 ·intro vs w2 hv hx
  have v10 : vs 10 = .int .i64 er := hv 10 omg
  clear hv
  have WK2 := qh (WK.out w2 hx)
  have RB2 := qh (Kit.range_kept RB.out hx omg)
  have hr8 := (hx.block (w.heap.size + 2) omg).trans R8.out.1
  have hr9 := (hx.block (w.heap.size + 3) omg).trans R8.out.2.1
  have hr10 := (hx.block (w.heap.size + 4) omg).trans R8.out.2.2
  have k8 : w2.cell? ⟨w.heap.size + 1 + 1, 0, none⟩ = some (.int .i64 0) := by simp [World.cell?, hr8]
  have k9 : w2.cell? ⟨w.heap.size + 1 + 1 + 1, 0, none⟩ = some (.bool false) := by simp [World.cell?, hr9]
  have k10 : w2.cell? ⟨w.heap.size + 1 + 1 + 1 + 1, 0, none⟩ = some (.int .i64 0) := by simp [World.cell?, hr10]
  have f8 : w2.frozen? ⟨w.heap.size + 1 + 1, 0, none⟩ = false := by simp [World.frozen?, hr8]
  have f9 : w2.frozen? ⟨w.heap.size + 1 + 1 + 1, 0, none⟩ = false := by simp [World.frozen?, hr9]
  have f10 : w2.frozen? ⟨w.heap.size + 1 + 1 + 1 + 1, 0, none⟩ = false := by simp [World.frozen?, hr10]
  have HB2 := qh (hb1.out.trans (hx.mono hb1.out.size))
  have hz2 : w.heap.size + 1 + 1 + 1 + 1 < w2.heap.size := by have := hx.size; omega
  clear hx hb1 WK RB R8 hz1 hr8 hr9 hr10 H0 H1 H2 H3
  simp only [Kit.putD, List.getD_cons_zero, List.getD_cons_succ, Act.put, v10, List.drop_succ_cons, List.drop_zero]
  generalize vs 0 = x0 at *
  generalize vs 1 = x1 at *
  generalize vs 2 = x2 at *
  generalize vs 3 = x3 at *
  generalize vs 4 = x4 at *
  generalize vs 5 = x5 at *
  generalize vs 6 = x6 at *
  generalize vs 7 = x7 at *
  generalize vs 8 = x8 at *
  generalize vs 9 = x9 at *
  clear v10
  go_simp
  have h0 : er ≠ 0 := by rw [← hRE]; exact hE
  have HRR := qh (show R = (0, false, er) by rw [← hR]; unfold Un.ableA; rw [if_neg hE, hRE])
  have hn0 : (er != 0) = true := by simp [h0]
  clear h0 hR hRE hE her hc0 hc1 hc2 hL hF ha hn hfold hs17
  go_wp2_with fail
  go_region
  all_goals
   generalize hW4 : ((((w2.setCell ⟨w.heap.size + 1 + 1 + 1 + 1, 0, none⟩ (.int .i64 er)).setCell ⟨w.heap.size + 1 + 1, 0, none⟩ (.int .i64 0)).setCell ⟨w.heap.size + 1 + 1 + 1, 0, none⟩ (.bool false)).setCell ⟨w.heap.size + 1 + 1 + 1 + 1, 0, none⟩ (.int .i64 er)).drew = W4
   obtain ⟨e8, e9, e10, hb4⟩ := Un.res3 HB2.out (w.heap.size + 1 + 1) omg _ _ _ _ _ _ _ k8 k9 k10 W4 hW4
   have HB4 := qh hb4
   clear hW4 k8 k9 k10 f8 f9 f10 HB2 hz2 hb4
   go_wp2_with fail
   (refine bodyPost_ret (by simp [results, Tryz.results12, go_sem, Kit.cell_set, e8, e9, e10]; try rfl) rfl ?_)
   exact ⟨by rw [HRR.out], HB4.out⟩
end Go.Proofs.YtbhgogiaaljclaaGreatDoor
