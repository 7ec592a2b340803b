/- Walks: package understudy: Able, of right arguments. -/
import Derived.Test.YtbhgogiaaljclaaGreatDoorUuD
set_option linter.unusedSimpArgs false
set_option linter.unusedVariables false
set_option maxRecDepth 100000
set_option maxHeartbeats 8000000
namespace Go.Proofs.YtbhgogiaaljclaaGreatDoor
open Go.RowKit Go.Shelf
attribute [local go_sem] Oper.semAt_some
theorem Ex.turn_bd {x : Ex.Wk} (h : Ex.Good x) : 0 ≤ x.ta ∧ x.ta ≤ 32768 ∧ 0 ≤ x.tc ∧ x.tc ≤ 32768 := by
 have h1 := h.okw
 unfold Ex.okW Ex.okH at h1
 simp only [Bool.and_eq_true, decide_eq_true_eq] at h1
 have h2 := h1.1.1.1.1.1.2
 have h3 := h1.1.1.1.1.2
 unfold Tm.vld at h2
 simp at h2
 omega
namespace Un
def AY (w : World) (k : Nat) : Prop := k = w.heap.size + 1 + 1 ∨ k = w.heap.size + 1 + 1 + 1 ∨ k = w.heap.size + 1 + 1 + 1 + 1
def AI (w w4 : World) (x : Ex.Wk) (B : Bd) (pre : List Ex.Sg) (Y : Nat → Prop) (W : World) : Prop :=
 Kit.Exc (fun _ => False) w4 W ∧ (∀ k, Y k ↔ AY w k) ∧ ∀ s ∈ pre, none? x B s = false
def AX (w w4 : World) (x : Ex.Wk) (B : Bd) (F : Ex.Sg → Bool) (c : Code) (pre : List Ex.Sg) (Y : Nat → Prop) (W : World) : Prop :=
 c = .ret ∧ Kit.Exc (AY w) w4 W ∧ (∀ k, Y k ↔ AY w k) ∧ ∃ i s, (i < x.sg.length ∧ x.sg.getD i default = s ∧ F s = true) ∧ (∀ t ∈ (x.sg.take i).filter F, none? x B t = false) ∧ none? x B s = true ∧
  W.cell? ⟨w.heap.size + 1 + 1, 0, none⟩ = some (.int .i64 s.id) ∧ W.cell? ⟨w.heap.size + 1 + 1 + 1, 0, none⟩ = some (.bool false) ∧ W.cell? ⟨w.heap.size + 1 + 1 + 1 + 1, 0, none⟩ = some (.int .i64 0)
theorem find_of (F P : Ex.Sg → Bool) (L : List Ex.Sg) (i : Nat) (hi : i < L.length) (s : Ex.Sg) (hs : L.getD i default = s) (hF : F s = true) (hl : ∀ t ∈ (L.take i).filter F, P t = false) (hP : P s = true) : (L.filter F).find? P = some s := by
 have e : L = L.take i ++ (L.getD i default :: L.drop (i + 1)) := by
  rw [List.getD_eq_getElem?_getD, List.getElem?_eq_getElem hi]
  simp
 rw [e, List.filter_append, List.find?_append, hs, List.filter_cons_of_pos hF, List.find?_cons_of_pos hP]
 have h0 : ((L.take i).filter F).find? P = none := List.find?_eq_none.2 (fun t ht => by rw [hl t ht]; simp)
 rw [h0]; rfl
theorem set3 {W : World} (b : Nat) (v1 v2 v3 a8 a9 a10 : Value) (k8 : W.cell? ⟨b, 0, none⟩ = some a8) (k9 : W.cell? ⟨b + 1, 0, none⟩ = some a9) (k10 : W.cell? ⟨b + 1 + 1, 0, none⟩ = some a10) (W5 : World)
  (h5 : ((W.setCell ⟨b, 0, none⟩ v1).setCell ⟨b + 1, 0, none⟩ v2).setCell ⟨b + 1 + 1, 0, none⟩ v3 = W5) :
  W5.cell? ⟨b, 0, none⟩ = some v1 ∧ W5.cell? ⟨b + 1, 0, none⟩ = some v2 ∧ W5.cell? ⟨b + 1 + 1, 0, none⟩ = some v3 ∧ Kit.Exc (fun k => k = b ∨ k = b + 1 ∨ k = b + 1 + 1) W W5 := by
 subst h5
 refine ⟨by simp [Kit.cell_set, k8], by simp [Kit.cell_set, k9], by simp [Kit.cell_set, k10], ?_⟩
 exact (((Kit.Exc.refl _ W).setCell (p := ⟨b, 0, none⟩) (.inl (.inl rfl)) v1).setCell (p := ⟨b + 1, 0, none⟩) (.inl (.inr (.inl rfl))) v2).setCell (p := ⟨b + 1 + 1, 0, none⟩) (.inl (.inr (.inr rfl))) v3
theorem exc_on {A B C : World} {S T : Nat → Prop} (h : Kit.Exc S A B) (k : Kit.Exc T B C) (hT : ∀ b, b < A.heap.size → ¬ S b → ¬ T b) : Kit.Exc S A C :=
 ⟨k.os.trans h.os, k.tape.trans h.tape, k.output.trans h.output, Nat.le_trans h.size k.size, fun b hb hs => (k.block b (Nat.lt_of_lt_of_le hb h.size) (hT b hb hs)).trans (h.block b hb hs)⟩
theorem AI.keep {w w4 : World} {x : Ex.Wk} {B : Bd} {pre : List Ex.Sg} {Y : Nat → Prop} {A C : World} {S : Nat → Prop} (h : AI w w4 x B pre Y A) (hx : Kit.Exc S A C) (hS : ∀ k, Y k → ¬ S k) (hw : ∀ k, S k → w4.heap.size ≤ k) : AI w w4 x B pre Y C :=
 ⟨exc_on h.1 hx (fun b hb _ hs => by have := hw b hs; omega), h.2.1, h.2.2⟩
theorem AX.keep {w w4 : World} {x : Ex.Wk} {B : Bd} {F : Ex.Sg → Bool} {c : Code} {pre : List Ex.Sg} {Y : Nat → Prop} {A C : World} {S : Nat → Prop} (h : AX w w4 x B F c pre Y A) (hx : Kit.Exc S A C) (hS : ∀ k, Y k → ¬ S k) (hw : ∀ k, S k → w4.heap.size ≤ k) : AX w w4 x B F c pre Y C := by
 obtain ⟨h1, h2, h3, l, s, h4, h5, h6, c8, c9, c10⟩ := h
 have hb : ∀ k v, A.cell? ⟨k, 0, none⟩ = some v → Y k → C.cell? ⟨k, 0, none⟩ = some v := fun k v hc hk => by
  have hlt : k < A.heap.size := by
   unfold World.cell? at hc
   rcases hq : A.heap[k]? with _ | o
   ·simp [hq] at hc
   ·exact (Array.getElem?_eq_some_iff.1 hq).1
  exact (World.cell?_of_block (hx.block k hlt (hS k hk))).trans hc
 exact ⟨h1, exc_on h2 hx (fun b hb _ hs => by have := hw b hs; omega), h3, l, s, h4, h5, h6, hb _ _ c8 ((h3 _).2 (.inl rfl)), hb _ _ c9 ((h3 _).2 (.inr (.inl rfl))), hb _ _ c10 ((h3 _).2 (.inr (.inr rfl)))⟩
end Un
theorem un_able_0 (x : Ex.Wk) (p : Ex.Wa) (w : World) (hL : Ex.Laid w) (hF : Uo.Flat w) (ha : Ex.At w x p) (B : Un.Bd) (hn : B.name.size ≤ 9223372036854775807) (role bar : Int) (hE : Un.ableE x B role bar = 0) : Un.Able x p B role bar w (Un.ableA x B role bar) := by
 unfold Un.Able
 obtain ⟨R, hR⟩ : ∃ R, Un.ableA x B role bar = R := ⟨_, rfl⟩
 rw [hR]
 obtain ⟨c0, hc0⟩ : ∃ c0, Ex.chk x = c0 := ⟨_, rfl⟩
 obtain ⟨c1, hc1⟩ : ∃ c1, (if Un.within x role bar = true then (0 : Int) else 1) = c1 := ⟨_, rfl⟩
 obtain ⟨c2, hc2⟩ : ∃ c2, Un.chkB [B] = c2 := ⟨_, rfl⟩
 obtain ⟨er, her⟩ : ∃ er, Un.firstE [c0, c1, c2] = er := ⟨_, rfl⟩
 have hRE : Un.ableE x B role bar = er := by unfold Un.ableE; rw [hc0, hc1, hc2, her]
 have H0 := qh (fun W (hW : Below w.heap.size w W) => (by have h := ex_check x p W (ha.kept hW nlr) (hL.kept hW nlr); rwa [hc0] at h : Ex.Chk x p W c0))
 have H1 := qh (fun W => (by have h := un_within x p role bar W ha.lro; rwa [hc1] at h : Calls Tryz.prog 30 #[Ex.workV x p, .int .i64 role, .int .i64 bar] W fun e w' => e = .returned (.int .i64 c1) ∧ Below W.heap.size W w'))
 have H2 := qh (fun W b (hb : W.heap[b]? = some (.cells (Un.bdA B) 36 (0, 0))) => (by have h := un_checked [B] (some ⟨b, 0, none⟩) 1 W (Un.sl_one hb) (by simp) (fun y hy => by simp at hy; rw [hy]; exact hn); rwa [hc2] at h : Calls Tryz.prog 31 #[.slice (some ⟨b, 0, none⟩) 1 1] W fun e w' => e = .returned (.int .i64 c2) ∧ Below W.heap.size W w'))
 have H3 := qh (fun W b (hx : W.heap[b]? = some (.cells #[.int .i64 c0, .int .i64 c1, .int .i64 c2] 39 (0, 0))) => (by
  have h := un_or b 3 [c0, c1, c2] W (by simp) (fun i hi => by
   rcases (by have : i < 3 := hi; omega : i = 0 ∨ i = 1 ∨ i = 2) with rfl | rfl | rfl <;> simp [World.cell?, hx])
  rwa [her] at h : Calls Tryz.prog 28 #[.slice (some ⟨b, 0, none⟩) 3 3] W fun e w' => e = .returned (.int .i64 er) ∧ w' = W))
 have HI := qh (show (Tryz.prog.info? 36).map (·.size) = some (Un.bdA B).toList.length by kernel_rfl)
 have hfold : Array.foldl (fun cs x => cs.setIfInBounds x.snd x.fst) Un.bdZ (Un.bdA B).zipIdx 0 17 = Un.bdA B := by kernel_rfl
 unfold Un.bdZ at hfold
 have hs17 : (Un.bdA B).size = 17 := rfl
 refine Kit.calls_of_wp_marks Tryz.func12 rfl ?_
 simp only [Tryz.ntmps12, List.size_toArray, List.length_cons, List.length_nil, Nat.reduceAdd, Nat.reduceSub, Array.replicate_succ, Array.replicate_zero, List.push_toArray, List.append_toArray, List.nil_append, List.cons_append]
 go_wp2_with fail
 refine Kit.wp_name ?_
 intro W1 hW1
 have hb1 := qh (show Below w.heap.size w W1 by rw [hW1]; exact Kit.gr)
 have hz1 : W1.heap.size = w.heap.size + 5 := by rw [hW1]; simp
 have WK := qh (show ∀ X, Below W1.heap.size W1 X → ∀ j, X.cell? ⟨w.heap.size, j, none⟩ = (Un.wkC x p)[j]? from fun X hX j => by
  rw [World.cell?_of_block (hX.block w.heap.size omg), hW1]
  simp [go_sem])
 have RB := qh (show W1.rangeAt (w.heap.size + 1) 0 (Un.bdA B).toList by
  have h := Kit.range_alloc (w.alloc (.cells (Un.wkC x p) 32)) (Un.bdA B) 36
  rw [World.size_alloc] at h
  rw [hW1]
  exact Kit.range_kept h ((((Below.refl _ _).alloc nlr _).alloc (by simp) _).alloc (by simp) _) (by simp))
 have R8 := qh (show W1.heap[w.heap.size + 2]? = some (.cells #[.int .i64 0] 3 (0, 0)) ∧ W1.heap[w.heap.size + 3]? = some (.cells #[.bool false] 4 (0, 0)) ∧ W1.heap[w.heap.size + 4]? = some (.cells #[.int .i64 0] 39 (0, 0)) by
  rw [hW1]
  refine ⟨?_, ?_, ?_⟩
  ·exact (Below.heap_alloc _ _ _ (by simp)).trans ((Below.heap_alloc _ _ _ (by simp)).trans (by have := World.alloc_heap_new ((w.alloc (.cells (Un.wkC x p) 32)).alloc (.cells (Un.bdA B) 36)) (.cells #[.int .i64 0] 3); simpa using this))
  ·exact (Below.heap_alloc _ _ _ (by simp)).trans (by have := World.alloc_heap_new (((w.alloc (.cells (Un.wkC x p) 32)).alloc (.cells (Un.bdA B) 36)).alloc (.cells #[.int .i64 0] 3)) (.cells #[.bool false] 4); simpa using this)
  ·have := World.alloc_heap_new ((((w.alloc (.cells (Un.wkC x p) 32)).alloc (.cells (Un.bdA B) 36)).alloc (.cells #[.int .i64 0] 3)).alloc (.cells #[.bool false] 4)) (.cells #[.int .i64 0] 39); simpa using this)
 clear hW1
 dsimp only [Ex.Chk, Ex.workV, Ex.wv] at H0 H1
 refine Kit.wp_region_vals 11 [([(4, none)], none, true), ([(14, some 0)], none, true), ([(4, none)], none, true), ([(2, none)], none, true), ([(3, none)], none, true), ([(16, some 2), (17, some 3), (18, some 4)], none, true), ([(5, none)], none, true), ([(20, some 6)], none, true), ([(21, some 7)], none, true), ([(15, some 1), (19, some 5), (22, some 8)], none, true), ([(23, some 9)], none, true)]
  [some 14, some 15, some 16, some 17, some 18, some 19, some 20, some 21, some 22, some 23, some 24] rfl (by kernel_rfl) (by kernel_rfl) (fun A B => Below A.heap.size A B) (fun q v w' => match q with
  | 0 => v = .agg (Un.wkC x p)
  | 1 => v = .int .i64 c0
  | 2 => v = .agg (Un.wkC x p)
  | 3 => v = .int .i64 role
  | 4 => v = .int .i64 bar
  | 5 => v = .int .i64 c1
  | 6 => v = .agg (Un.bdA B)
  | 7 => ∃ b, v = .slice (some ⟨b, 0, none⟩) 1 1 ∧ w'.heap[b]? = some (.cells (Un.bdA B) 36 (0, 0))
  | 8 => v = .int .i64 c2
  | 9 => ∃ b, v = .slice (some ⟨b, 0, none⟩) 3 3 ∧ w'.heap[b]? = some (.cells #[.int .i64 c0, .int .i64 c1, .int .i64 c2] 39 (0, 0))
  | _ => v = .int .i64 er)
  (fun h k => h.trans (k.mono h.size)) (Below.drew (Below.refl _ _)) (fun _ => Below.refl _ _) ?_ ?_ ?_
 ·intro q v A C h1 h2 h3
  split at h3 <;> try exact h3
  ·obtain ⟨b, e, hb⟩ := h3
   exact ⟨b, e, (h2.block b (Array.getElem?_eq_some_iff.1 hb).1).trans hb⟩
  ·obtain ⟨b, e, hb⟩ := h3
   exact ⟨b, e, (h2.block b (Array.getElem?_eq_some_iff.1 hb).1).trans hb⟩
 ·simp only [List.take_succ_cons, List.take_zero, Kit.StepsV, Kit.VOp, Kit.RdP, true_and, if_true, and_true]
  refine ⟨?_, ?_, ?_, ?_, ?_, ?_, ?_, ?_, ?_, ?_, ?_⟩
  all_goals intro ev w' hx hv hc hf hg
  ·have so := WK.out w' hx
   simp at hv
   simp [execOp, hv, hc, so, go_sem, Kit.UponV, Below.refl]
  ·simp [execOp, hv, hc, hf, go_sem, Kit.UponV]
   refine (H0.out w' (hb1.out.trans (hx.mono hb1.out.size))).mono ?_
   rintro e w3 ⟨rfl, hb⟩
   exact ⟨_, rfl, rfl, hb⟩
  ·have so := WK.out w' hx
   simp at hv
   simp [execOp, hv, hc, so, go_sem, Kit.UponV, Below.refl]
  ·simp at hv; simp [execOp, hv, hc, go_sem, Kit.UponV, Below.refl]
  ·simp at hv; simp [execOp, hv, hc, go_sem, Kit.UponV, Below.refl]
  ·obtain ⟨hv1, hv2, hv3⟩ := hv
   simp [execOp, hv1, hv2, hv3, hc, hf, go_sem, Kit.UponV]
   refine (H1.out w').mono ?_
   rintro e w3 ⟨rfl, hb⟩
   exact ⟨_, rfl, rfl, hb⟩
  ·simp at hv
   simp only [execOp, hv, Instr.loadAt, Instr.sureAddr, Sem.run_bind, Sem.run_pure, Result.andThen_ok, run_loadVar_mid w' (w.heap.size + 1) 0 36 (Un.bdA B).toList _ (Kit.range_kept RB.out hx omg) Tryz.underlying36 rfl HI.out]
   simp [Kit.UponV, Below.refl]
  ·simp [execOp, hv, hc, hfold, hs17, go_sem, Kit.UponV]
   exact ⟨(Array.getElem?_eq_some_iff.1 (World.alloc_heap_new w' (.cells (Un.bdA B) 36))).2, (Below.refl _ _).alloc nlr _⟩
  ·obtain ⟨b, e, hb⟩ := hv
   simp [execOp, e, hc, hf, go_sem, Kit.UponV]
   refine (H2.out w' b hb).mono ?_
   rintro e w3 ⟨rfl, hb⟩
   exact ⟨_, rfl, rfl, hb⟩
  ·obtain ⟨hv1, hv2, hv3⟩ := hv
   simp [execOp, hv1, hv2, hv3, hc, go_sem, Kit.UponV]
   exact ⟨(Array.getElem?_eq_some_iff.1 (World.alloc_heap_new w' (.cells #[.int .i64 c0, .int .i64 c1, .int .i64 c2] 39))).2, (Below.refl _ _).alloc nlr _⟩
  ·obtain ⟨b, e, hb⟩ := hv
   simp [execOp, e, hc, hf, go_sem, Kit.UponV]
   refine (H3.out w' b hb).mono ?_
   rintro e w3 ⟨rfl, rfl⟩
   exact ⟨_, rfl, rfl, Below.refl _ _⟩
 ·intro vs w2 hv hx
  have v10 : vs 10 = .int .i64 er := hv 10 omg
  clear hv
  have WK2 := qh (WK.out w2 hx)
  have RB2 := qh (Kit.range_kept RB.out hx omg)
  have hr8 := (hx.block (w.heap.size + 2) omg).trans R8.out.1
  have hr9 := (hx.block (w.heap.size + 3) omg).trans R8.out.2.1
  have hr10 := (hx.block (w.heap.size + 4) omg).trans R8.out.2.2
  have k8 : w2.cell? ⟨w.heap.size + 1 + 1, 0, none⟩ = some (.int .i64 0) := by simp [World.cell?, hr8]
  have k9 : w2.cell? ⟨w.heap.size + 1 + 1 + 1, 0, none⟩ = some (.bool false) := by simp [World.cell?, hr9]
  have k10 : w2.cell? ⟨w.heap.size + 1 + 1 + 1 + 1, 0, none⟩ = some (.int .i64 0) := by simp [World.cell?, hr10]
  have f8 : w2.frozen? ⟨w.heap.size + 1 + 1, 0, none⟩ = false := by simp [World.frozen?, hr8]
  have f9 : w2.frozen? ⟨w.heap.size + 1 + 1 + 1, 0, none⟩ = false := by simp [World.frozen?, hr9]
  have f10 : w2.frozen? ⟨w.heap.size + 1 + 1 + 1 + 1, 0, none⟩ = false := by simp [World.frozen?, hr10]
  have HB2 := qh (hb1.out.trans (hx.mono hb1.out.size))
  have hz2 : w.heap.size + 1 + 1 + 1 + 1 < w2.heap.size := by have := hx.size; omega
  clear hx hb1 WK RB R8 hz1 hr8 hr9 hr10 H0 H1 H2 H3
  simp only [Kit.putD, List.getD_cons_zero, List.getD_cons_succ, Act.put, v10, List.drop_succ_cons, List.drop_zero]
  generalize vs 0 = x0 at *
  generalize vs 1 = x1 at *
  generalize vs 2 = x2 at *
  generalize vs 3 = x3 at *
  generalize vs 4 = x4 at *
  generalize vs 5 = x5 at *
  generalize vs 6 = x6 at *
  generalize vs 7 = x7 at *
  generalize vs 8 = x8 at *
  generalize vs 9 = x9 at *
  clear v10
  go_simp
  have h0 : er = 0 := by rw [← hRE]; exact hE
  have HRR := qh (show R = ((Un.ableR x B role bar).1, (Un.ableR x B role bar).2, 0) by rw [← hR]; unfold Un.ableA; rw [if_pos hE])
  subst h0
  have HP := qh (show Ex.chk x = 0 ∧ Un.bok B = true from by
   have h := her
   unfold Un.firstE at h
   split at h
   ·rename_i h1
    unfold Un.firstE at h
    split at h
    ·rename_i h2
     unfold Un.firstE at h
     split at h
     ·rename_i h3
      refine ⟨hc0.trans h1, ?_⟩
      rw [← hc2] at h3
      unfold Un.chkB at h3
      simpa using h3
     ·rename_i h3
      exact absurd h h3
    ·rename_i h2
     exact absurd h h2
   ·rename_i h1
    exact absurd h h1)
  have HL := qh hL
  have HF := qh hF
  have HA := qh ha
  clear hR hRE hE her hc0 hc1 hc2 hL hF ha hfold hs17
  go_wp2_with fail
  refine Kit.wp_name ?_
  intro W3 hW3
  obtain ⟨b8, hb8⟩ : ∃ b8, b8 = w.heap.size + 1 + 1 := ⟨_, rfl⟩
  have W3F := qh (show (W3.cell? ⟨w.heap.size + 1 + 1, 0, none⟩ = some (.int .i64 0) ∧ W3.cell? ⟨w.heap.size + 1 + 1 + 1, 0, none⟩ = some (.bool false) ∧ W3.cell? ⟨w.heap.size + 1 + 1 + 1 + 1, 0, none⟩ = some (.int .i64 0)) ∧ (W3.frozen? ⟨w.heap.size + 1 + 1, 0, none⟩ = false ∧ W3.frozen? ⟨w.heap.size + 1 + 1 + 1, 0, none⟩ = false ∧ W3.frozen? ⟨w.heap.size + 1 + 1 + 1 + 1, 0, none⟩ = false) from by
   rw [hW3, ← hb8]
   rw [← hb8] at k8 k9 k10 f8 f9 f10
   refine ⟨⟨?_, ?_, ?_⟩, ?_, ?_, ?_⟩
   ·simp [Kit.cell_set, k8]
   ·simp [Kit.cell_set, k9]
   ·simp [Kit.cell_set, k10]
   ·rw [World.frozen?_setCell]; exact f8
   ·rw [World.frozen?_setCell]; exact f9
   ·rw [World.frozen?_setCell]; exact f10)
  have hbk : ∀ k, k ≠ w.heap.size + 1 + 1 + 1 + 1 → W3.heap[k]? = w2.heap[k]? := fun k hk => by rw [hW3]; exact Below.heap_setCell _ _ _ _ (fun e => hk e)
  have WK3 := qh (show ∀ j, W3.cell? ⟨w.heap.size, j, none⟩ = (Un.wkC x p)[j]? from fun j => (World.cell?_of_block (hbk w.heap.size omg)).trans (WK2.out j))
  have RB3 := qh (show W3.rangeAt (w.heap.size + 1) 0 (Un.bdA B).toList from fun j v hv => (World.cell?_of_block (hbk (w.heap.size + 1) omg)).trans (RB2.out j v hv))
  have HB3 := qh (show Below w.heap.size w W3 by rw [hW3]; exact HB2.out.setCell (by show w.heap.size ≤ w.heap.size + 1 + 1 + 1 + 1; omega) _)
  have hz3 : w.heap.size + 1 + 1 + 1 + 1 < W3.heap.size := by rw [hW3]; simpa [World.setCell] using hz2
  clear hW3 hbk hb8 k8 k9 k10 f8 f9 f10 WK2 RB2 HB2 hz2
  refine Kit.wp_region_vals 5 [([(4, none)], none, true), ([(3, none)], none, true), ([(2, none)], none, true), ([(30, some 2)], none, true), ([(28, some 0), (29, some 1), (31, some 3)], none, true)]
   [some 28, some 29, some 30, some 31, some 32] rfl (by kernel_rfl) (by kernel_rfl) (fun A B => Below A.heap.size A B) (fun q v w' => match q with
   | 0 => v = .agg (Un.wkC x p)
   | 1 => v = .int .i64 bar
   | 2 => v = .int .i64 role
   | 3 => ∃ b, v = .func (.func 71) #[] #[.pointer (some ⟨b, 0, none⟩)] ∧ w'.cell? ⟨b, 0, none⟩ = some (.int .i64 role) ∧ b < w'.heap.size ∧ W3.heap.size ≤ b
   | _ => ∃ BR BW BB BA, v = .func (.func 70) #[] #[.pointer (some ⟨BW, 0, none⟩), .pointer (some ⟨BB, 0, none⟩), .pointer (some ⟨BA, 0, none⟩)] ∧ (w'.cell? ⟨BR, 0, none⟩ = some (.int .i64 role) ∧ w'.cell? ⟨BW, 10, none⟩ = some (.slice p.aG x.sg.length p.cG) ∧ w'.cell? ⟨BB, 0, none⟩ = some (.int .i64 bar) ∧ w'.cell? ⟨BA, 0, none⟩ = some (.func (.func 71) #[] #[.pointer (some ⟨BR, 0, none⟩)])) ∧ (BR < w'.heap.size ∧ BW < w'.heap.size ∧ BB < w'.heap.size ∧ BA < w'.heap.size) ∧ (W3.heap.size ≤ BR ∧ W3.heap.size ≤ BW ∧ W3.heap.size ≤ BB ∧ W3.heap.size ≤ BA))
   (fun h k => h.trans (k.mono h.size)) (Below.drew (Below.refl _ _)) (fun _ => Below.refl _ _) ?_ ?_ ?_
  ·intro q v A C h1 h2 h3
   split at h3 <;> try exact h3
   ·obtain ⟨b, e, hb, hl, hlo⟩ := h3
    exact ⟨b, e, (h2.cell hl).trans hb, Nat.lt_of_lt_of_le hl h2.size, hlo⟩
   ·obtain ⟨BR, BW, BB, BA, e, ⟨d0, d1, d2, d3⟩, ⟨l0, l1, l2, l3⟩, hlo⟩ := h3
    exact ⟨BR, BW, BB, BA, e, ⟨(h2.cell l0).trans d0, (h2.cell l1).trans d1, (h2.cell l2).trans d2, (h2.cell l3).trans d3⟩, ⟨Nat.lt_of_lt_of_le l0 h2.size, Nat.lt_of_lt_of_le l1 h2.size, Nat.lt_of_lt_of_le l2 h2.size, Nat.lt_of_lt_of_le l3 h2.size⟩, hlo⟩
  ·simp only [List.take_succ_cons, List.take_zero, Kit.StepsV, Kit.VOp, Kit.RdP, true_and, if_true, and_true]
   refine ⟨?_, ?_, ?_, ?_, ?_⟩
   all_goals intro ev w' hx hv hc hf hg
   ·have so : ∀ j, w'.cell? ⟨w.heap.size, j, none⟩ = (Un.wkC x p)[j]? := fun j => (World.cell?_of_block (hx.block w.heap.size omg)).trans (WK3.out j)
    simp at hv
    simp [execOp, hv, hc, so, go_sem, Kit.UponV, Below.refl]
   ·simp at hv; simp [execOp, hv, hc, go_sem, Kit.UponV, Below.refl]
   ·simp at hv; simp [execOp, hv, hc, go_sem, Kit.UponV, Below.refl]
   ·simp [execOp, hv, hc, hf, go_sem, Kit.UponV]
    refine (un_of role w').mono ?_
    rintro e w3 ⟨rfl, rfl⟩
    exact ⟨_, rfl, ⟨_, rfl, by simp [go_sem], by simp, hx.size⟩, (Below.refl _ _).alloc nlr _⟩
   ·obtain ⟨hv1, hv2, b, hv3, hb, hl, hlo⟩ := hv
    simp [execOp, hv1, hv2, hv3, hc, hf, go_sem, Kit.UponV]
    refine (un_rem x p bar 71 #[.pointer (some ⟨b, 0, none⟩)] w').mono ?_
    rintro e w3 ⟨rfl, rfl⟩
    have hb3 : Below w'.heap.size w' (((w'.alloc (.cells (Un.wkC x p) 32)).alloc (.cells #[.int .i64 bar] 3)).alloc (.cells #[.func (.func 71) #[] #[.pointer (some ⟨b, 0, none⟩)]] 95)) := (((Below.refl _ _).alloc nlr _).alloc (by simp) _).alloc (by simp; omega) _
    have hxs := hx.size
    exact ⟨_, rfl, ⟨b, w'.heap.size, w'.heap.size + 1, w'.heap.size + 1 + 1, rfl, ⟨(hb3.cell hl).trans hb, by simp [go_sem], by simp [go_sem], by simp [go_sem]⟩, ⟨by simp; omega, by simp <;> omega, by simp <;> omega, by simp⟩, ⟨hlo, hxs, by omega, by omega⟩⟩, hb3⟩
  ·intro vs w4 hv hx
   obtain ⟨BR, BW, BB, BA, v4, ⟨d0, d1, d2, d3⟩, ⟨l0, l1, l2, l3⟩, ⟨m0, m1, m2, m3⟩⟩ : ∃ BR BW BB BA, vs 4 = .func (.func 70) #[] #[.pointer (some ⟨BW, 0, none⟩), .pointer (some ⟨BB, 0, none⟩), .pointer (some ⟨BA, 0, none⟩)] ∧ (w4.cell? ⟨BR, 0, none⟩ = some (.int .i64 role) ∧ w4.cell? ⟨BW, 10, none⟩ = some (.slice p.aG x.sg.length p.cG) ∧ w4.cell? ⟨BB, 0, none⟩ = some (.int .i64 bar) ∧ w4.cell? ⟨BA, 0, none⟩ = some (.func (.func 71) #[] #[.pointer (some ⟨BR, 0, none⟩)])) ∧ (BR < w4.heap.size ∧ BW < w4.heap.size ∧ BB < w4.heap.size ∧ BA < w4.heap.size) ∧ (W3.heap.size ≤ BR ∧ W3.heap.size ≤ BW ∧ W3.heap.size ≤ BB ∧ W3.heap.size ≤ BA) := hv 4 omg
   clear hv
   have hB4 : Below w.heap.size w w4 := HB3.out.trans (hx.mono HB3.out.size)
   have hz4 : w.heap.size + 1 + 1 + 1 + 1 < w4.heap.size := Nat.lt_of_lt_of_le hz3 hx.size
   have hgood := Ex.good_of HP.out.1
   have hsl := HA.out.sg.kept hB4 nlr
   have HSB := qh (show ∀ ad, p.aG = some ad → x.sg.length ≠ 0 → ad.block < w.heap.size from fun ad e hne => by
    rcases HA.out.sg with h | ⟨ad', e', h, _⟩
    ·exact absurd h hne
    ·rw [e] at e'; cases e'; exact h)
   have W4F := qh (show (w4.cell? ⟨w.heap.size + 1 + 1, 0, none⟩ = some (.int .i64 0) ∧ w4.cell? ⟨w.heap.size + 1 + 1 + 1, 0, none⟩ = some (.bool false) ∧ w4.cell? ⟨w.heap.size + 1 + 1 + 1 + 1, 0, none⟩ = some (.int .i64 0)) ∧ (w4.frozen? ⟨w.heap.size + 1 + 1, 0, none⟩ = false ∧ w4.frozen? ⟨w.heap.size + 1 + 1 + 1, 0, none⟩ = false ∧ w4.frozen? ⟨w.heap.size + 1 + 1 + 1 + 1, 0, none⟩ = false) from
    ⟨⟨(World.cell?_of_block (hx.block _ (by show w.heap.size + 1 + 1 < _; omega))).trans W3F.out.1.1, (World.cell?_of_block (hx.block _ (by show w.heap.size + 1 + 1 + 1 < _; omega))).trans W3F.out.1.2.1, (World.cell?_of_block (hx.block _ (by show w.heap.size + 1 + 1 + 1 + 1 < _; omega))).trans W3F.out.1.2.2⟩,
     (World.frozen?_of_block (hx.block _ (by show w.heap.size + 1 + 1 < _; omega))).trans W3F.out.2.1, (World.frozen?_of_block (hx.block _ (by show w.heap.size + 1 + 1 + 1 < _; omega))).trans W3F.out.2.2.1, (World.frozen?_of_block (hx.block _ (by show w.heap.size + 1 + 1 + 1 + 1 < _; omega))).trans W3F.out.2.2.2⟩)
   have WK4 := qh (show ∀ j, w4.cell? ⟨w.heap.size, j, none⟩ = (Un.wkC x p)[j]? from fun j => (World.cell?_of_block (hx.block w.heap.size omg)).trans (WK3.out j))
   have RB4 := qh (Kit.range_kept RB3.out hx omg)
   have HIT := un_iter 2 omg BW BB BA x.sg p.aG p.cG bar 71 #[.pointer (some ⟨BR, 0, none⟩)] (fun k => k.role == role) (fun k => k = BR ∨ (x.sg.length ≠ 0 ∧ ∃ ad, p.aG = some ad ∧ k = ad.block)) w4 d1 d2 d3 l1 l2 l3 hsl hgood.len (enters_of Tryz.func71 (by kernel_rfl) rfl)
    (fun k hk => by
     rcases hk with rfl | ⟨hne, ad, e, rfl⟩
     ·exact l0
     ·exact Nat.lt_of_lt_of_le (HSB.out ad e hne) hB4.size)
    (fun ad e hne => .inr ⟨hne, ad, e, rfl⟩)
    (fun k W' hK => un_of1 k role BR W' (hK.cell (.inr (.inr (.inr (.inl rfl)))) d0) (Nat.lt_of_lt_of_le l0 hK.size))
   have HOPT := qh (fun W (hW : Below w.heap.size w W) q (hq : q < x.sg.length) s hs => uo_options x p W (HL.out.kept hW nlr) (HF.out.kept hW nlr) (HA.out.kept hW nlr) hgood q hq s hs B HP.out.2 hn (Ex.turn_bd hgood).1 (Ex.turn_bd hgood).2.1 (Ex.turn_bd hgood).2.2.1 (Ex.turn_bd hgood).2.2.2)
   have HB4 := qh hB4
   have hx4 : W3.heap.size ≤ w4.heap.size := hx.size
   clear hx hB4 hsl WK3 RB3 W3F HB3 HL HF hgood d0 d1 d2 d3
   simp only [Kit.putD, List.getD_cons_zero, List.getD_cons_succ, Act.put, v4, List.drop_succ_cons, List.drop_zero]
   generalize vs 0 = y0 at *
   generalize vs 1 = y1 at *
   generalize vs 2 = y2 at *
   generalize vs 3 = y3 at *
   clear v4
   go_simp
   go_wp2_with fail
   refine Kit.wp_rangeR rfl (enters_of Tryz.func70 (by kernel_rfl) rfl) HIT (fun _ => rfl)
    (Un.AI w w4 x B) (Un.AX w w4 x B (Un.keep bar fun k => k.role == role)) (fun pre e a' Y W => Un.AI w w4 x B pre Y W ∧ ∃ b11, w4.heap.size + 2 ≤ b11 ∧ W.heap[b11]? = some (.cells #[.int .i64 e.id, .int .i64 e.role, .int .i64 e.bar, .int .i64 e.mark, .int .i64 e.kind, .int .i64 e.side, .int .i64 e.dir, .int .i64 e.level, .int .i64 e.size, .int .i64 e.wth, .int .i64 e.fn, .int .i64 e.fd, .int .i64 e.tn, .int .i64 e.td] 52 (0, 0)) ∧ ¬ Y b11 ∧ a' = { tmps := #[Ex.workV x p, .agg (Un.bdA B), .int .i64 role, .int .i64 bar, .pointer (some ⟨w.heap.size, 0, none⟩), .pointer (some ⟨w.heap.size + 1, 0, none⟩), undef, undef, .pointer (some ⟨w.heap.size + 1 + 1, 0, none⟩), .pointer (some ⟨w.heap.size + 1 + 1 + 1, 0, none⟩), .pointer (some ⟨w.heap.size + 1 + 1 + 1 + 1, 0, none⟩), .pointer (some ⟨b11, 0, none⟩), undef, undef, x0, x1, x2, x3, x4, x5, x6, x7, x8, x9, .int .i64 0, .int .i64 0, .bool false, undef, y0, y1, y2, y3, .func (.func 70) #[] #[.pointer (some ⟨BW, 0, none⟩), .pointer (some ⟨BB, 0, none⟩), .pointer (some ⟨BA, 0, none⟩)], Ex.sgV e, undef, undef, undef, undef, undef, undef, undef, undef, undef, undef, undef, undef, undef], defers := [] })
    (Un.AY w) (fun _ h => h.elim) (fun k hk => ⟨by rcases hk with rfl | rfl | rfl <;> omega, fun h => h.elim, fun h => by
     have hk3 : w.heap.size ≤ k ∧ k < W3.heap.size := by rcases hk with rfl | rfl | rfl <;> omega
     rcases h with rfl | rfl | rfl | rfl | ⟨hne, ad, e, rfl⟩
     ·omega
     ·omega
     ·omega
     ·omega
     ·have := HSB.out ad e hne; omega⟩)
    (fun pre Y A C h hx => h.keep hx (fun k hk hS => hS.elim False.elim (fun h => h.2 hk)) (fun k hk => hk.elim False.elim (fun h => h.1)))
    (fun cc pre Y A C h hx => h.keep hx (fun k hk hS => hS.elim False.elim (fun h => h.2 hk)) (fun k hk => hk.elim False.elim (fun h => h.1)))
    (fun pre e a' Y A C h hx => ⟨h.1.keep hx (fun k hk hS => by have := (h.1.2.1 k).1 hk; rcases this with rfl | rfl | rfl <;> omega) (fun k hk => hk.1), by
     obtain ⟨b11, h7, hh, hn, e7⟩ := h.2
     exact ⟨b11, h7, hx.heap hh omg, hn, e7⟩⟩)
    ⟨Kit.Exc.refl _ _, fun k => Iff.rfl, fun s hs => by cases hs⟩ ?assign ?body ?done ?stop
   case assign =>
    intro l' pre e Y W hI hok hY hs
    have HI := qh hI
    have HY := qh hY
    clear hI hY hok
    gi_wp2
    exact ⟨Y, (Kit.Exc.refl _ _).alloc _, fun k hk => ⟨.inl hk, by have := HY.out k hk; simp; omega⟩, HI.out.keep ((Kit.Exc.refl (fun _ => False) W).alloc _) (fun _ _ h => h) (fun _ h => h.elim),
     W.heap.size, hs, World.alloc_heap_new W _, fun h => by have := HY.out _ h; omega, rfl⟩
   case body =>
    rintro l' pre e a' Y W hl' hrec ⟨⟨hE, hYY, hall⟩, b11, hb11, hc11, hn11, rfl⟩ hok hY
    obtain ⟨i, hi, hpre, hie, hke⟩ := hok
    have hBW : Below w4.heap.size w4 W := hE.below nlr (fun _ h => h.elim)
    have wk : ∀ j, W.cell? ⟨w.heap.size, j, none⟩ = (Un.wkC x p)[j]? := fun j => (World.cell?_of_block (hBW.block w.heap.size omg)).trans (WK4.out j)
    have rb := Kit.range_kept RB4.out hBW omg
    have cb0 : W.cell? ⟨w.heap.size + 1, 0, none⟩ = some (.string B.name) := by have h := rb 0 (.string B.name) rfl; simpa using h
    have cb1 : W.cell? ⟨w.heap.size + 1, 1, none⟩ = some (.int .i64 B.weight) := by have h := rb 1 (.int .i64 B.weight) rfl; simpa using h
    have cb2 : W.cell? ⟨w.heap.size + 1, 2, none⟩ = some (.int .i64 B.lift) := by have h := rb 2 (.int .i64 B.lift) rfl; simpa using h
    have cb3 : W.cell? ⟨w.heap.size + 1, 3, none⟩ = some (.int .i64 B.girth) := by have h := rb 3 (.int .i64 B.girth) rfl; simpa using h
    have cb4 : W.cell? ⟨w.heap.size + 1, 4, none⟩ = some (.int .i64 B.step) := by have h := rb 4 (.int .i64 B.step) rfl; simpa using h
    have cb5 : W.cell? ⟨w.heap.size + 1, 5, none⟩ = some (.int .i64 B.jump) := by have h := rb 5 (.int .i64 B.jump) rfl; simpa using h
    have cb6 : W.cell? ⟨w.heap.size + 1, 6, none⟩ = some (.int .i64 B.r0) := by have h := rb 6 (.int .i64 B.r0) rfl; simpa using h
    have cb7 : W.cell? ⟨w.heap.size + 1, 7, none⟩ = some (.int .i64 B.r1) := by have h := rb 7 (.int .i64 B.r1) rfl; simpa using h
    have cb8 : W.cell? ⟨w.heap.size + 1, 8, none⟩ = some (.int .i64 B.r2) := by have h := rb 8 (.int .i64 B.r2) rfl; simpa using h
    have cb9 : W.cell? ⟨w.heap.size + 1, 9, none⟩ = some (.int .i64 B.s0) := by have h := rb 9 (.int .i64 B.s0) rfl; simpa using h
    have cb10 : W.cell? ⟨w.heap.size + 1, 10, none⟩ = some (.int .i64 B.s1) := by have h := rb 10 (.int .i64 B.s1) rfl; simpa using h
    have cb11 : W.cell? ⟨w.heap.size + 1, 11, none⟩ = some (.int .i64 B.s2) := by have h := rb 11 (.int .i64 B.s2) rfl; simpa using h
    have cb12 : W.cell? ⟨w.heap.size + 1, 12, none⟩ = some (.int .i64 B.t0) := by have h := rb 12 (.int .i64 B.t0) rfl; simpa using h
    have cb13 : W.cell? ⟨w.heap.size + 1, 13, none⟩ = some (.int .i64 B.t1) := by have h := rb 13 (.int .i64 B.t1) rfl; simpa using h
    have cb14 : W.cell? ⟨w.heap.size + 1, 14, none⟩ = some (.int .i64 B.t2) := by have h := rb 14 (.int .i64 B.t2) rfl; simpa using h
    have cb15 : W.cell? ⟨w.heap.size + 1, 15, none⟩ = some (.int .i64 B.effort) := by have h := rb 15 (.int .i64 B.effort) rfl; simpa using h
    have cb16 : W.cell? ⟨w.heap.size + 1, 16, none⟩ = some (.int .i64 B.recover) := by have h := rb 16 (.int .i64 B.recover) rfl; simpa using h
    have ce : W.cell? ⟨b11, 0, none⟩ = some (.int .i64 e.id) := by simp [World.cell?, hc11]
    have z11 := (Array.getElem?_eq_some_iff.1 hc11).1
    have hBw : Below w.heap.size w W := HB4.out.trans (hBW.mono HB4.out.size)
    have HCL := qh (HOPT.out W hBw i hi e hie)
    have HEX := qh hE
    have HYY := qh hYY
    have HAL := qh hall
    have HPR := qh hpre
    have HIE := qh hie
    have HKE := qh hke
    have HY := qh hY
    have HBW := qh hBW
    clear rb hE hYY hall hpre hie hke hY hBW hBw hc11
    dsimp only
    gi_wp2
    refine ⟨trivial, CallsIn.mono (callsIn_wide.2 HCL.out) ?_⟩
    rintro _ w5 ⟨⟨v, rfl, ho⟩, hb5⟩
    obtain ⟨n, hn_⟩ : ∃ n, (Uo.opts x.ta x.tc e B).length = n := ⟨_, rfl⟩
    have hno : Un.none? x B e = (n == 0) := by
     unfold Un.none?
     rw [← hn_]
     cases Uo.opts x.ta x.tc e B <;> simp
    rw [hn_] at ho
    obtain ⟨a0, k0, rfl⟩ : ∃ a0 k0, v = .slice a0 n k0 := by
     rcases ho.2 with ⟨rfl, hz⟩ | ⟨g, cap, cur, rfl, _⟩
     ·exact ⟨none, 0, by rw [hz]⟩
     ·exact ⟨_, _, rfl⟩
    have E5 : ∀ S, Kit.Exc S W w5 := fun S => (Kit.Exc.refl S W).then hb5
    have HE5 := qh (Un.exc_on HEX.out (E5 (fun _ => False)) (fun _ _ _ h => h))
    have r8 : w5.cell? ⟨w.heap.size + 1 + 1, 0, none⟩ = some (.int .i64 0) := HE5.out.cell W4F.out.1.1 (fun h => h) (by show w.heap.size + 1 + 1 < _; omega)
    have r9 : w5.cell? ⟨w.heap.size + 1 + 1 + 1, 0, none⟩ = some (.bool false) := HE5.out.cell W4F.out.1.2.1 (fun h => h) (by show w.heap.size + 1 + 1 + 1 < _; omega)
    have r10 : w5.cell? ⟨w.heap.size + 1 + 1 + 1 + 1, 0, none⟩ = some (.int .i64 0) := HE5.out.cell W4F.out.1.2.2 (fun h => h) (by show w.heap.size + 1 + 1 + 1 + 1 < _; omega)
    have g8 : w5.frozen? ⟨w.heap.size + 1 + 1, 0, none⟩ = false := HE5.out.frozen W4F.out.2.1 (fun h => h) (by show w.heap.size + 1 + 1 < _; omega)
    have g9 : w5.frozen? ⟨w.heap.size + 1 + 1 + 1, 0, none⟩ = false := HE5.out.frozen W4F.out.2.2.1 (fun h => h) (by show w.heap.size + 1 + 1 + 1 < _; omega)
    have g10 : w5.frozen? ⟨w.heap.size + 1 + 1 + 1 + 1, 0, none⟩ = false := HE5.out.frozen W4F.out.2.2.2 (fun h => h) (by show w.heap.size + 1 + 1 + 1 + 1 < _; omega)
    have ce5 : w5.cell? ⟨b11, 0, none⟩ = some (.int .i64 e.id) := (hb5.cell z11).trans ce
    have hs5 : W.heap.size ≤ w5.heap.size := hb5.size
    have HE5W := qh (E5 Y)
    clear hb5 E5 ho ce cb0 cb1 cb2 cb3 cb4 cb5 cb6 cb7 cb8 cb9 cb10 cb11 cb12 cb13 cb14 cb15 cb16 wk hn_
    rcases n with _ | n
    ·have HNO := qh (show Un.none? x B e = true by rw [hno]; rfl)
     clear hno
     gi_wp2
     obtain ⟨W5, hW5⟩ : ∃ W5, ((w5.setCell ⟨w.heap.size + 1 + 1, 0, none⟩ (.int .i64 e.id)).setCell ⟨w.heap.size + 1 + 1 + 1, 0, none⟩ (.bool false)).setCell ⟨w.heap.size + 1 + 1 + 1 + 1, 0, none⟩ (.int .i64 0) = W5 := ⟨_, rfl⟩
     obtain ⟨q8, q9, q10, hx5⟩ := Un.set3 (w.heap.size + 1 + 1) _ _ _ _ _ _ r8 r9 r10 W5 hW5
     rw [hW5]
     have hY8 : ∀ k, (k = w.heap.size + 1 + 1 ∨ k = w.heap.size + 1 + 1 + 1 ∨ k = w.heap.size + 1 + 1 + 1 + 1) → Y k := fun k hk => (HYY.out k).2 hk
     exact ⟨Y, HE5W.out.trans (hx5.mono fun k _ hk => hY8 k hk), fun k hk => ⟨.inl hk, by have h1 := HY.out k hk; have h2 := hx5.size; omega⟩,
      rfl, Un.exc_on (S := Un.AY w) (HE5.out.mono (fun _ _ h => h.elim)) hx5 (fun _ _ h1 h2 => h1 h2), HYY.out, i, e, ⟨hi, HIE.out, HKE.out⟩, (by rw [← HPR.out]; exact HAL.out), HNO.out, q8, q9, q10⟩
    ·have HNO := qh (show Un.none? x B e = false by rw [hno]; rfl)
     have hz0 : (((n + 1 : Nat) : Int) == 0) = false := by simp; omega
     clear hno
     gi_wp2
     exact ⟨Y, HE5W.out, fun k hk => ⟨.inl hk, by have h1 := HY.out k hk; omega⟩, HE5.out, HYY.out, fun s hs => by
      rcases List.mem_append.1 hs with h | h
      ·exact HAL.out s h
      ·simp at h; rw [h]; exact HNO.out⟩
   case stop =>
    rintro D cc pre Y W hD hYD hSp ⟨rfl, hE, hYY, i, s, ⟨hi, his, hks⟩, hal, hno, c8, c9, c10⟩ hK
    have hf := Un.find_of (Un.keep bar fun k => k.role == role) (Un.none? x B) x.sg i hi s his hks hal hno
    have hRR : R = (s.id, false, 0) := by
     rw [HRR.out]
     unfold Un.ableR
     rw [show (Un.mine bar role) = (Un.keep bar fun k => k.role == role) from rfl, hf]
    have nD : ∀ k, (k = w.heap.size + 1 + 1 ∨ k = w.heap.size + 1 + 1 + 1 ∨ k = w.heap.size + 1 + 1 + 1 + 1) → k ≠ D := fun k hk e => hYD ((hYY D).2 (e ▸ hk))
    have XP : Kit.Exc (fun k => k = D) W (W.putObj D (.deferred none)) := (Kit.Exc.refl _ W).putObj _ _ (.inl rfl)
    have hWs := hE.size
    have e8 := XP.cell c8 (nD _ (.inl rfl)) (by show w.heap.size + 1 + 1 < _; omega)
    have e9 := XP.cell c9 (nD _ (.inr (.inl rfl))) (by show w.heap.size + 1 + 1 + 1 < _; omega)
    have e10 := XP.cell c10 (nD _ (.inr (.inr rfl))) (by show w.heap.size + 1 + 1 + 1 + 1 < _; omega)
    have hBw : Below w.heap.size w W := HB4.out.trans (hE.below omg (fun b hb => by rcases hb with rfl | rfl | rfl <;> omega))
    have HBW := qh hBw
    have HRX := qh hRR
    clear hE hYY hal hno hf hRR hBw c8 c9 c10 nD XP his hks
    go_wp2
    exact Kit.post_mark hK (by simp [results, Tryz.results12, go_sem, e8, e9, e10]; try rfl) ⟨by rw [HRX.out], Kit.below_putObj HBW.out _ _ omg⟩
   case done =>
    rintro D xs Y W hD hYD hxs ⟨hE, hYY, hall⟩ hK
    subst hxs
    have hRR : R = (0, true, 0) := by
     rw [HRR.out]
     unfold Un.ableR
     rw [show (Un.mine bar role) = (Un.keep bar fun k => k.role == role) from rfl, List.find?_eq_none.2 (fun t ht => by rw [hall t ht]; simp)]
    have nD : ∀ k, (k = w.heap.size + 1 + 1 ∨ k = w.heap.size + 1 + 1 + 1 ∨ k = w.heap.size + 1 + 1 + 1 + 1) → k ≠ D := fun k hk e => hYD ((hYY D).2 (e ▸ hk))
    have r8 : W.cell? ⟨w.heap.size + 1 + 1, 0, none⟩ = some (.int .i64 0) := hE.cell W4F.out.1.1 (fun h => h) (by show w.heap.size + 1 + 1 < _; omega)
    have r9 : W.cell? ⟨w.heap.size + 1 + 1 + 1, 0, none⟩ = some (.bool false) := hE.cell W4F.out.1.2.1 (fun h => h) (by show w.heap.size + 1 + 1 + 1 < _; omega)
    have r10 : W.cell? ⟨w.heap.size + 1 + 1 + 1 + 1, 0, none⟩ = some (.int .i64 0) := hE.cell W4F.out.1.2.2 (fun h => h) (by show w.heap.size + 1 + 1 + 1 + 1 < _; omega)
    have g8 : W.frozen? ⟨w.heap.size + 1 + 1, 0, none⟩ = false := hE.frozen W4F.out.2.1 (fun h => h) (by show w.heap.size + 1 + 1 < _; omega)
    have g9 : W.frozen? ⟨w.heap.size + 1 + 1 + 1, 0, none⟩ = false := hE.frozen W4F.out.2.2.1 (fun h => h) (by show w.heap.size + 1 + 1 + 1 < _; omega)
    have g10 : W.frozen? ⟨w.heap.size + 1 + 1 + 1 + 1, 0, none⟩ = false := hE.frozen W4F.out.2.2.2 (fun h => h) (by show w.heap.size + 1 + 1 + 1 + 1 < _; omega)
    have hWs := hE.size
    have HBW := qh (HB4.out.trans (hE.below (n := w.heap.size) omg (fun b hb => hb.elim)))
    have HRX := qh hRR
    have HK := qh hK
    have HND := qh nD
    clear hE hYY hall hRR hK nD
    go_wp2
    obtain ⟨W5, hW5⟩ : ∃ W5, ((W.setCell ⟨w.heap.size + 1 + 1, 0, none⟩ (.int .i64 0)).setCell ⟨w.heap.size + 1 + 1 + 1, 0, none⟩ (.bool true)).setCell ⟨w.heap.size + 1 + 1 + 1 + 1, 0, none⟩ (.int .i64 0) = W5 := ⟨_, rfl⟩
    obtain ⟨q8, q9, q10, hx5⟩ := Un.set3 (w.heap.size + 1 + 1) _ _ _ _ _ _ r8 r9 r10 W5 hW5
    rw [hW5]
    have hs5 := hx5.size
    have hK5 : W5.heap[D]? = some (.deferred (some [])) := hx5.heap HK.out (fun h => HND.out D h rfl)
    have XP : Kit.Exc (fun k => k = D) W5 (W5.putObj D (.deferred none)) := (Kit.Exc.refl _ W5).putObj _ _ (.inl rfl)
    have e8 := XP.cell q8 (HND.out _ (.inl rfl)) (by show w.heap.size + 1 + 1 < _; omega)
    have e9 := XP.cell q9 (HND.out _ (.inr (.inl rfl))) (by show w.heap.size + 1 + 1 + 1 < _; omega)
    have e10 := XP.cell q10 (HND.out _ (.inr (.inr rfl))) (by show w.heap.size + 1 + 1 + 1 + 1 < _; omega)
    have hB5 : Below w.heap.size w W5 := HBW.out.trans (hx5.below (n := w.heap.size) omg (fun b hb => by rcases hb with rfl | rfl | rfl <;> omega))
    exact Kit.post_mark hK5 (by simp [results, Tryz.results12, go_sem, e8, e9, e10]; try rfl) ⟨by rw [HRX.out], Kit.below_putObj hB5 _ _ omg⟩
end Go.Proofs.YtbhgogiaaljclaaGreatDoor
