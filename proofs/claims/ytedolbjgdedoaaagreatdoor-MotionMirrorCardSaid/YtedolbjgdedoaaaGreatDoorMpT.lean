/- Walks: package pose: Extent. -/
import Derived.Test.YtedolbjgdedoaaaGreatDoorMpS
set_option linter.unusedSimpArgs false
set_option linter.unusedVariables false
set_option maxRecDepth 100000
set_option maxHeartbeats 8000000
namespace Go.Proofs.YtedolbjgdedoaaaGreatDoor
open Go.RowKit Go.Shelf
attribute [local go_sem] Oper.semAt_some
namespace Mo
theorem szBe (b : Un.Bd) : (Tryz.prog.info? 48).map (·.size) = some (Un.bdA b).size := by kernel_rfl
def ExtR (s : St) (b : Un.Bd) (t : Bx) (e : Int) : Prop := if ok s = false then t = Bx.zero ∧ e = 260 else if Un.bok b = false then t = Bx.zero ∧ e = 250 else t = extent s b ∧ e = 0
theorem shift_pt (a c x y : Int) : shift (pt a c) x y = pt (a + x) (c + y) := rfl
def bx0 (s : St) (b : Un.Bd) : Bx := ⟨29 * s.x - 841 * b.girth, 29 * s.x + 841 * b.girth, 29 * s.y - 841 * b.girth, 29 * s.y + 841 * b.girth⟩
theorem bx0_eq (s : St) (b : Un.Bd) : bx0 s b = shift (sq (841 * b.girth)) (29 * s.x) (29 * s.y) := by
 unfold bx0 shift sq
 dsimp only
 congr 1 <;> omega
def addT (a : Bx) (q : Int × Int) : Bx := join a (pt q.1 q.2)
theorem addE_tip (s : St) (b : Un.Bd) (a : Bx) (i : Nat) : shift (addE s b a i) (29 * s.x) (29 * s.y) = (tpt s b i).foldl addT (shift a (29 * s.x) (29 * s.y)) := by
 unfold addE tpt
 by_cases h : (lim s i).2 = 0
 ·rw [if_neg (by simp [h]), if_pos h]
  rfl
 ·rw [if_pos h, if_neg h, shift_join]
  show _ = addT _ _
  unfold addT tip
  rw [shift_pt]
  congr 1
  congr 1 <;> omega
theorem ext_fold (s : St) (b : Un.Bd) : ∀ (l : List Nat) (a : Bx), shift (l.foldl (addE s b) a) (29 * s.x) (29 * s.y) = (l.flatMap (tpt s b)).foldl addT (shift a (29 * s.x) (29 * s.y))
 | [], _ => rfl
 | i :: l, a => by
  rw [List.foldl_cons, ext_fold s b l, addE_tip, List.flatMap_cons, List.foldl_append]
theorem extent_tps (s : St) (b : Un.Bd) : (tps s b).foldl addT (bx0 s b) = extent s b := by
 unfold extent ext0 tps
 rw [ext_fold, bx0_eq]
structure EQ (w W : World) (s : St) (b : Un.Bd) (t : Bx) : Prop where
 bel : Below w.heap.size w W
 st : Kit.Bk W w.heap.size 37 (stA s)
 bd : Kit.Bk W (w.heap.size + 1) 48 (Un.bdA b)
 res : Kit.Bk W (w.heap.size + 2) 52 (bxA t)
theorem EQ.then {w W W' : World} {s : St} {b : Un.Bd} {t : Bx} (h : EQ w W s b t) (hb : Below W.heap.size W W') : EQ w W' s b t := ⟨h.bel.trans (hb.mono h.bel.size), h.st.below hb h.st.lt, h.bd.below hb h.bd.lt, h.res.below hb h.res.lt⟩
theorem EQ.start (w : World) (s : St) (b : Un.Bd) : EQ w (((w.alloc (.cells (stA s) 37)).alloc (.cells (Un.bdA b) 48)).alloc (.cells (bxA Bx.zero) 52)) s b Bx.zero := by
 have q0 := Kit.Bk.new w 37 (stA s)
 have q1 := Kit.Bk.new (w.alloc (.cells (stA s) 37)) 48 (Un.bdA b)
 have q2 := Kit.Bk.new ((w.alloc (.cells (stA s) 37)).alloc (.cells (Un.bdA b) 48)) 52 (bxA Bx.zero)
 rw [World.size_alloc] at q1
 rw [World.size_alloc, World.size_alloc] at q2
 exact ⟨(((Below.refl _ _).alloc nlr _).alloc (by simp) _).alloc (by simp; omega) _, (q0.alloc _).alloc _, q1.alloc _, q2⟩
theorem EQ.box {w W W' : World} {s : St} {b : Un.Bd} {t t' : Bx} (h : EQ w W s b t) (hx : Kit.Exc (fun k => k = w.heap.size + 2) W W') (hb : Kit.Bk W' (w.heap.size + 2) 52 (bxA t')) : EQ w W' s b t' :=
 ⟨h.bel.trans (hx.below h.bel.size (fun k hk => by omega)), h.st.exc hx omg, h.bd.exc hx omg, hb⟩
structure ES (w : World) (s : St) (b : Un.Bd) (pre : List (Int × Int)) (Y : Nat → Prop) (W : World) : Prop where
 yy : ∀ k, Y k ↔ k = w.heap.size + 2
 res : Kit.Bk W (w.heap.size + 2) 52 (bxA (pre.foldl addT (bx0 s b)))
 bel : Below w.heap.size w W
theorem ES.keep {w : World} {s : St} {b : Un.Bd} {pre : List (Int × Int)} {Y : Nat → Prop} {A B : World} {S : Nat → Prop} (h : ES w s b pre Y A) (hx : Kit.Exc S A B) (h1 : ¬ S (w.heap.size + 2)) (hw : ∀ k, S k → w.heap.size ≤ k) : ES w s b pre Y B :=
 ⟨h.yy, h.res.exc hx h1, h.bel.trans (hx.below h.bel.size hw)⟩
end Mo
theorem po_ext_t (s0 s1 s2 s3 t0 t1 t2 : Code) (hc : Tryz.f26.body = some (.seq s0 (.seq s1 (.seq s2 (.seq s3 (.seq t0 (.seq t1 t2))))))) (x0 x1 x5 x7 x8 x9 x10 x11 x12 x13 x14 x15 x16 x17 x18 x19 x20 x21 x22 x23 x24 x25 x26 x27 x28 x29 x30 x31 x32 x33 x34 x35 x36 x37 x38 x39 x40 x41 x42 x43 x44 x45 x46 x47 x48 x49 x50 x51 x52 x53 x54 x55 x56 x57 x58 x59 x60 x61 x62 x63 x64 x65 x66 x67 x68 x69 x70 x71 x72 x73 x74 x75 x76 : Value) (w V : World) (hF : Uo.Flat w) (s : Mo.St) (hs : Mo.ok s = true) (b : Un.Bd) (hbk : Un.bok b = true) (hQ : Mo.EQ w V s b Mo.Bx.zero)
  (R : Ending → World → Prop) (hR : ∀ W', Below w.heap.size w W' → R (.returned (.tuple #[.agg (Mo.bxA (Mo.extent s b)), .int .i64 0])) W') :
  ∀ K : Act → World → Prop, (∀ a w, (Code.seq t1 t2).wp Tryz.prog (bodyPostM Fence.wide 0 Tryz.prog Tryz.f26 R) a w → K a w) → t0.wp Tryz.prog (Exit.then K (bodyPostM Fence.wide 0 Tryz.prog Tryz.f26 R)) { tmps := #[x0, x1, .pointer (some ⟨w.heap.size, 0, none⟩), .pointer (some ⟨w.heap.size + 1, 0, none⟩), .pointer (some ⟨w.heap.size + 2, 0, none⟩), x5, .int .i64 (841 * b.girth), x7, x8, x9, x10, x11, x12, x13, x14, x15, x16, x17, x18, x19, x20, x21, x22, x23, x24, x25, x26, x27, x28, x29, x30, x31, x32, x33, x34, x35, x36, x37, x38, x39, x40, x41, x42, x43, x44, x45, x46, x47, x48, x49, x50, x51, x52, x53, x54, x55, x56, x57, x58, x59, x60, x61, x62, x63, x64, x65, x66, x67, x68, x69, x70, x71, x72, x73, x74, x75, x76], defers := [] } V := by
 have HQ := qh hQ
 have HR := qh hR
 have HFL := qh hF
 have HOK := qh hs
 have HBK := qh hbk
 have hpo := (Mo.ok_iff (Mo.okF_of hs)).1 hs
 have hgd := (Mo.bok_bd hbk).1
 have w1 : IntKind.i64.wrap (29 * s.x) = 29 * s.x := by rw [IntKind.wrap_i64] <;> omega
 have w2 : IntKind.i64.wrap (29 * s.y) = 29 * s.y := by rw [IntKind.wrap_i64] <;> omega
 have w3 : IntKind.i64.wrap (29 * s.x - 841 * b.girth) = 29 * s.x - 841 * b.girth := by rw [IntKind.wrap_i64] <;> omega
 have w4 : IntKind.i64.wrap (29 * s.x + 841 * b.girth) = 29 * s.x + 841 * b.girth := by rw [IntKind.wrap_i64] <;> omega
 have w5 : IntKind.i64.wrap (29 * s.y - 841 * b.girth) = 29 * s.y - 841 * b.girth := by rw [IntKind.wrap_i64] <;> omega
 have w6 : IntKind.i64.wrap (29 * s.y + 841 * b.girth) = 29 * s.y + 841 * b.girth := by rw [IntKind.wrap_i64] <;> omega
 clear hQ hR hF hs hbk hpo hgd
 dsimp only [Tryz.f26] at hc
 injection hc with hc
 iterate 4 (injection hc with h1 hc; clear h1)
 injection hc with h0 hc
 injection hc with h1 h2
 subst h0
 subst h1
 subst h2
 intro K hK
 have c0 : V.cell? ⟨w.heap.size, 0, none⟩ = some (.int .i64 s.x) := (HQ.out.st.cell 0).trans rfl
 have c1 : V.cell? ⟨w.heap.size, 1, none⟩ = some (.int .i64 s.y) := (HQ.out.st.cell 1).trans rfl
 go_upto_region 9 with ((with_reducible refine Kit.store_bk0 ?_ 52 (.tmp 4) (.tmp 46) ?_ (w.heap.size + 2) ?_ (Mo.bxA (Mo.bx0 s b)) ?_ HQ.out.res ?_ (Mo.szB _) (Mo.bxA_one _) ?_); rfl; rfl; rfl; rfl; rfl; intro W1 h1 x1; have HB1 := qh h1; have HX1 := qh x1; clear h1 x1)
 have HQ1 := qh (HQ.out.box HX1.out HB1.out)
 clear w1 w2 w3 w4 w5 w6 c0 c1 HQ HB1 HX1
 refine wp_region_lit ?_
 refine Kit.load_bk0 rfl 37 (.tmp 2) rfl w.heap.size rfl HQ1.out.st Tryz.underlying37 rfl (Mo.szS s) ?_
 refine Kit.load_bk0 rfl 48 (.tmp 3) rfl (w.heap.size + 1) rfl HQ1.out.bd Tryz.underlying48 rfl (Mo.szBe b) ?_
 simp only [Act.put]
 go_simp
 go_wp2_with fail
 refine (po_tips s b _).mono ?_
 rintro _ W6 ⟨rfl, hW6⟩
 have HQ6 := qh (show Mo.EQ w W6 s b (Mo.bx0 s b) by rw [hW6]; exact (HQ1.out.then ((Below.refl _ _).alloc nlr _)).then ((Below.refl _ _).alloc nlr _))
 have HQS := qh (show Kit.Bk W6 W1.heap.size 37 (Mo.stA s) by rw [hW6]; exact (Kit.Bk.new _ _ _).alloc _)
 have HQB := qh (show Kit.Bk W6 (W1.heap.size + 1) 48 (Un.bdA b) by
  rw [hW6]
  have h := Kit.Bk.new (W1.alloc (.cells (Mo.stA s) 37)) 48 (Un.bdA b)
  rwa [World.size_alloc] at h)
 have HZ1 := qh (show w.heap.size + 2 < W1.heap.size from HQ1.out.res.lt)
 obtain ⟨BS, hBS⟩ : ∃ b, W1.heap.size = b := ⟨_, rfl⟩
 rw [hBS] at HQS HQB HZ1 ⊢
 clear hW6 hBS HQ1
 go_wp2_with fail
 have HITER := qh (po_iter 2 omg BS (BS + 1) s b W6 HOK.out HBK.out (HFL.out.kept HQ6.out.bel nlr) HQS.out HQB.out)
 have HZW := qh (show BS + 2 ≤ W6.heap.size from by have := HQB.out.lt; omega)
 refine Kit.wp_rangeR rfl (enters_of Tryz.func107 (by kernel_rfl) rfl) HITER.out (fun _ => rfl)
  (Mo.ES w s b) (fun _ _ _ _ => False)
  (fun pre e a' Y W => Mo.ES w s b pre Y W ∧ a' = { tmps := #[x0, x1, .pointer (some ⟨w.heap.size, 0, none⟩), .pointer (some ⟨w.heap.size + 1, 0, none⟩), .pointer (some ⟨w.heap.size + 2, 0, none⟩), x5, .int .i64 (841 * b.girth), .int .i64 e.1, .int .i64 e.2, x9, x10, x11, x12, x13, x14, x15, x16, x17, x18, x19, x20, x21, x22, x23, .pointer (some ⟨w.heap.size, 0, none⟩), .int .i64 s.x, .int .i64 (29 * s.x), .int .i64 (841 * b.girth), .int .i64 (29 * s.x - 841 * b.girth), .pointer (some ⟨w.heap.size, 0, none⟩), .int .i64 s.x, .int .i64 (29 * s.x), .int .i64 (841 * b.girth), .int .i64 (29 * s.x + 841 * b.girth), .agg #[.int .i64 (29 * s.x - 841 * b.girth), .int .i64 (29 * s.x + 841 * b.girth)], .pointer (some ⟨w.heap.size, 1, none⟩), .int .i64 s.y, .int .i64 (29 * s.y), .int .i64 (841 * b.girth), .int .i64 (29 * s.y - 841 * b.girth), .pointer (some ⟨w.heap.size, 1, none⟩), .int .i64 s.y, .int .i64 (29 * s.y), .int .i64 (841 * b.girth), .int .i64 (29 * s.y + 841 * b.girth), .agg #[.int .i64 (29 * s.y - 841 * b.girth), .int .i64 (29 * s.y + 841 * b.girth)], .agg (Mo.bxA (Mo.bx0 s b)), .agg (Mo.stA s), .agg (Un.bdA b), .func (.func 107) #[] #[.pointer (some ⟨BS, 0, none⟩), .pointer (some ⟨(BS + 1), 0, none⟩)], .int .i64 e.1, .int .i64 e.2, x52, x53, x54, x55, x56, x57, x58, x59, x60, x61, x62, x63, x64, x65, x66, x67, x68, x69, x70, x71, x72, x73, x74, x75, x76], defers := [] })
  (fun k => k = w.heap.size + 2)
  (fun _ h => h.elim) (fun k hk => ?y0) ?hI ?hIx ?hIa ?h0 ?assign ?body ?done ?stop
 case y0 =>
  have h1 := HZ1.out
  have h2 := HZW.out
  have h3 := HFL.out.1
  refine ⟨by omega, fun h => h, fun hz => ?_⟩
  rcases hz with h | h | h <;> omega
 case hI =>
  intro pre Y A B h hx
  have h1 := HZ1.out
  have h2 := HZW.out
  have hy := h.yy
  exact h.keep hx (fun e => by rcases e with e | ⟨e, h⟩ <;> first | exact e | omega) (fun k hk => by rcases hk with hk | hk <;> first | exact hk.elim | (have := HQ6.out.bel.size; omega))
 case hIx => exact fun _ _ _ _ _ h _ => h
 case hIa =>
  intro pre e a' Y A B h hx
  have h1 := HZ1.out
  have h2 := HZW.out
  exact ⟨h.1.keep hx omg (fun k hk => by have := HQ6.out.bel.size; omega), h.2⟩
 case h0 => exact ⟨fun k => Iff.rfl, HQ6.out.res, HQ6.out.bel⟩
 case assign =>
  intro l' pre e Y W hI hok hY hsz
  have HI := qh hI
  have HY := qh hY
  clear hI hY hok hsz
  gi_wp2
  exact ⟨Y, Kit.Exc.refl _ _, fun k hk => ⟨.inl hk, HY.out k hk⟩, HI.out, rfl⟩
 case body =>
  rintro l' pre e a' Y W hl' hrec ⟨hI, rfl⟩ hpost hY
  have HI := qh hI
  have HYS := qh hY
  clear hI hpost hY hrec
  obtain ⟨A, hA⟩ : ∃ A, pre.foldl Mo.addT (Mo.bx0 s b) = A := ⟨_, rfl⟩
  have HRA := qh HI.out.res
  rw [hA] at HRA
  have HA := qh hA
  clear hA
  obtain ⟨J, hJ⟩ : ∃ J, Mo.join A (Mo.pt e.1 e.2) = J := ⟨_, rfl⟩
  have m0 : min A.xl e.1 = J.xl := by rw [← hJ]; show min A.xl e.1 = if e.1 < A.xl then e.1 else A.xl; split <;> omega
  have m1 : max A.xh e.1 = J.xh := by rw [← hJ]; show max A.xh e.1 = if A.xh < e.1 then e.1 else A.xh; split <;> omega
  have m2 : min A.yl e.2 = J.yl := by rw [← hJ]; show min A.yl e.2 = if e.2 < A.yl then e.2 else A.yl; split <;> omega
  have m3 : max A.yh e.2 = J.yh := by rw [← hJ]; show max A.yh e.2 = if A.yh < e.2 then e.2 else A.yh; split <;> omega
  have HJ := qh hJ
  clear hJ
  have r0 : W.cell? ⟨w.heap.size + 2, 0, none⟩ = some (.int .i64 A.xl) := (HRA.out.cell 0).trans rfl
  have r1 : W.cell? ⟨w.heap.size + 2, 1, none⟩ = some (.int .i64 A.xh) := (HRA.out.cell 1).trans rfl
  have r2 : W.cell? ⟨w.heap.size + 2, 2, none⟩ = some (.int .i64 A.yl) := (HRA.out.cell 2).trans rfl
  have r3 : W.cell? ⟨w.heap.size + 2, 3, none⟩ = some (.int .i64 A.yh) := (HRA.out.cell 3).trans rfl
  have y0 := HRA.out.frozen 0
  have y1 := HRA.out.frozen 1
  have y2 := HRA.out.frozen 2
  have y3 := HRA.out.frozen 3
  gi_wp2
  have hxa : Kit.Exc (fun k => k = w.heap.size + 2) W ((((W.setCell ⟨w.heap.size + 2, 0, none⟩ (.int .i64 J.xl)).setCell ⟨w.heap.size + 2, 1, none⟩ (.int .i64 J.xh)).setCell ⟨w.heap.size + 2, 2, none⟩ (.int .i64 J.yl)).setCell ⟨w.heap.size + 2, 3, none⟩ (.int .i64 J.yh)) := Kit.Exc.setCell (S := fun k => k = w.heap.size + 2) (p := ⟨w.heap.size + 2, 3, none⟩) (Kit.Exc.setCell (S := fun k => k = w.heap.size + 2) (p := ⟨w.heap.size + 2, 2, none⟩) (Kit.Exc.setCell (S := fun k => k = w.heap.size + 2) (p := ⟨w.heap.size + 2, 1, none⟩) (Kit.Exc.setCell (S := fun k => k = w.heap.size + 2) (p := ⟨w.heap.size + 2, 0, none⟩) (Kit.Exc.refl _ W) (.inl rfl) _) (.inl rfl) _) (.inl rfl) _) (.inl rfl) _
  have hba : Kit.Bk ((((W.setCell ⟨w.heap.size + 2, 0, none⟩ (.int .i64 J.xl)).setCell ⟨w.heap.size + 2, 1, none⟩ (.int .i64 J.xh)).setCell ⟨w.heap.size + 2, 2, none⟩ (.int .i64 J.yl)).setCell ⟨w.heap.size + 2, 3, none⟩ (.int .i64 J.yh)) (w.heap.size + 2) 52 (Mo.bxA J) := (((HRA.out.set 0 (.int .i64 J.xl)).set 1 (.int .i64 J.xh)).set 2 (.int .i64 J.yl)).put 3 (.int .i64 J.yh) rfl
  generalize ((((W.setCell ⟨w.heap.size + 2, 0, none⟩ (.int .i64 J.xl)).setCell ⟨w.heap.size + 2, 1, none⟩ (.int .i64 J.xh)).setCell ⟨w.heap.size + 2, 2, none⟩ (.int .i64 J.yl)).setCell ⟨w.heap.size + 2, 3, none⟩ (.int .i64 J.yh)) = WA at hxa hba ⊢
  refine ⟨Y, hxa.mono (fun k _ h => (HI.out.yy k).2 h), fun k hk => ⟨.inl hk, Nat.lt_of_lt_of_le (HYS.out k hk).1 hxa.size⟩, HI.out.yy, ?_, HI.out.bel.trans (hxa.below HI.out.bel.size (fun j hj => by omega))⟩
  rw [List.foldl_append, HA.out]
  show Kit.Bk WA _ _ (Mo.bxA (Mo.join A (Mo.pt e.1 e.2)))
  rw [HJ.out]
  exact hba
 case done =>
  rintro D xs Y W hD hYD hxs hFE hK
  subst hxs
  have HFE := qh hFE
  have HK := qh hK
  have HD1 := qh (show D ≠ w.heap.size + 2 from fun e => hYD ((hFE.yy D).2 e))
  have HDW := qh hD
  clear hFE hK hYD hD
  have HRS := qh (show Kit.Bk W (w.heap.size + 2) 52 (Mo.bxA (Mo.extent s b)) by rw [← Mo.extent_tps]; exact HFE.out.res)
  obtain ⟨A, hA⟩ : ∃ A, Mo.extent s b = A := ⟨_, rfl⟩
  rw [hA] at HRS HR
  clear hA
  go_upto_region 14 with fail
  refine wp_region_lit ?_
  refine Kit.load_bk0 rfl 52 (.tmp 4) rfl (w.heap.size + 2) rfl HRS.out Tryz.underlying52 rfl (Mo.szB _) ?_
  refine Kit.store_bk0 rfl 52 (.tmp 4) (.tmp 76) rfl (w.heap.size + 2) rfl (Mo.bxA A) rfl HRS.out rfl (Mo.szB _) (Mo.bxA_one _) ?_
  intro X1 hq1 hx1
  have hK2 := hx1.heap HK.out HD1.out
  have hp : Kit.Exc (fun k => k = D) X1 (X1.putObj D (.deferred none)) := (Kit.Exc.refl _ X1).putObj _ _ (.inl rfl)
  have HP1 := qh (hq1.exc hp (fun e => HD1.out e.symm))
  have HPB := qh (show Below w.heap.size w (X1.putObj D (.deferred none)) from (HFE.out.bel.trans (hx1.below HFE.out.bel.size (fun j hj => by omega))).trans (hp.below (Nat.le_trans HFE.out.bel.size hx1.size) (fun j hj => by have := HDW.out; have := HQ6.out.bel.size; omega)))
  have HK2 := qh hK2
  clear hq1 hx1 hK2 hp
  simp only [Act.put]
  go_simp
  go_wp2_with fail
  exact Kit.post_mark HK2.out (Kit.res_bk rfl rfl HP1.out _ Tryz.underlying52 rfl (Mo.szB _)) (HR.out _ HPB.out)
 case stop => exact fun _ _ _ _ _ _ _ _ h => h.elim
theorem po_extent (s : Mo.St) (b : Un.Bd) (hnm : b.name.size ≤ 9223372036854775807) (w : World) (hF : Uo.Flat w) :
  Calls Tryz.prog 26 #[.agg (Mo.stA s), .agg (Un.bdA b)] w fun e w' => (∃ t er, e = .returned (.tuple #[.agg (Mo.bxA t), .int .i64 er]) ∧ Mo.ExtR s b t er) ∧ Below w.heap.size w w' := by
 have HPC := qh (fun W => po_check s W)
 have HBC := qh (fun W => bd_check b W hnm)
 have HFL := qh hF
 have HIO := qh (Mo.bxA_one Mo.Bx.zero)
 clear hF hnm
 have step1 : Mo.ok s = true → Un.bok b = true → Calls Tryz.prog 26 #[.agg (Mo.stA s), .agg (Un.bdA b)] w fun e w' => (∃ t er, e = .returned (.tuple #[.agg (Mo.bxA t), .int .i64 er]) ∧ Mo.ExtR s b t er) ∧ Below w.heap.size w w' := by
  intro h1 h2
  have HOK := qh h1
  have HBK := qh h2
  clear h1 h2
  refine Kit.calls_of_wp_marks Tryz.func26 rfl ?_
  simp only [Tryz.ntmps26, List.size_toArray, List.length_cons, List.length_nil, Nat.reduceAdd, Nat.reduceSub, Array.replicate_succ, Array.replicate_zero, List.push_toArray, List.append_toArray, List.nil_append, List.cons_append]
  go_upto_region 1 with fail
  refine Kit.wp_name ?_
  intro W1 hW1
  have HQ1 := qh (show Mo.EQ w W1 s b Mo.Bx.zero by rw [hW1]; exact Mo.EQ.start w s b)
  clear hW1
  have hpc : Calls Tryz.prog 25 #[.agg (Mo.stA s)] W1 fun e w' => e = .returned (.int .i64 0) ∧ Below W1.heap.size W1 w' := by
   have h := HPC.out W1
   rw [if_pos HOK.out] at h
   exact h
  have HPC1 := qh hpc
  clear hpc HPC
  refine wp_region_lit ?_
  refine Kit.load_bk0 rfl 37 (.tmp 2) rfl w.heap.size rfl HQ1.out.st Tryz.underlying37 rfl (Mo.szS s) ?_
  simp only [Act.put]
  go_simp
  go_wp2_with fail
  refine HPC1.out.mono ?_
  rintro _ W2 ⟨rfl, hb2⟩
  have HQ2 := qh (HQ1.out.then hb2)
  clear hb2 HPC1 HQ1
  have hbc : Calls Tryz.prog 19 #[.agg (Un.bdA b)] W2 fun e w' => e = .returned (.int .i64 0) ∧ Below W2.heap.size W2 w' := by
   have h := HBC.out W2
   rw [if_pos HBK.out] at h
   exact h
  have HBC1 := qh hbc
  clear hbc HBC
  go_upto_region 4 with fail
  refine wp_region_lit ?_
  refine Kit.load_bk0 rfl 48 (.tmp 3) rfl (w.heap.size + 1) rfl HQ2.out.bd Tryz.underlying48 rfl (Mo.szBe b) ?_
  simp only [Act.put]
  go_simp
  go_wp2_with fail
  refine HBC1.out.mono ?_
  rintro _ W3 ⟨rfl, hb3⟩
  have HQ3 := qh (HQ2.out.then hb3)
  clear hb3 HBC1 HQ2
  have hgd := (Mo.bok_bd HBK.out).1
  have hwg : IntKind.i64.wrap (841 * b.girth) = 841 * b.girth := by rw [IntKind.wrap_i64] <;> omega
  have b3 : W3.cell? ⟨w.heap.size + 1, 3, none⟩ = some (.int .i64 b.girth) := (HQ3.out.bd.cell 3).trans rfl
  clear hgd
  go_upto_region 8 with fail
  refine po_ext_t _ _ _ _ _ _ _ rfl _ _ _ _ _ _ _ _ _ _ _ _ _ _ _ _ _ _ _ _ _ _ _ _ _ _ _ _ _ _ _ _ _ _ _ _ _ _ _ _ _ _ _ _ _ _ _ _ _ _ _ _ _ _ _ _ _ _ _ _ _ _ _ _ _ _ _ _ _ _ _ _ _ w W3 HFL.out s HOK.out b HBK.out HQ3.out _ (fun W' hb => ⟨⟨_, 0, rfl, by unfold Mo.ExtR; rw [if_neg (by rw [HOK.out]; decide), if_neg (by rw [HBK.out]; decide)]; exact ⟨rfl, rfl⟩⟩, hb⟩) _ (by assumption)
 rcases hok : Mo.ok s with _ | _
 ·have HOK := qh hok
  clear step1 hok
  go_enter Tryz.func26, Tryz.ntmps26
  go_upto_region 1 with fail
  refine Kit.wp_name ?_
  intro W1 hW1
  have HQ1 := qh (show Mo.EQ w W1 s b Mo.Bx.zero by rw [hW1]; exact Mo.EQ.start w s b)
  clear hW1
  have hpc : Calls Tryz.prog 25 #[.agg (Mo.stA s)] W1 fun e w' => e = .returned (.int .i64 260) ∧ Below W1.heap.size W1 w' := by
   have h := HPC.out W1
   rw [if_neg (by rw [HOK.out]; decide)] at h
   exact h
  have HPC1 := qh hpc
  clear hpc HPC
  refine wp_region_lit ?_
  refine Kit.load_bk0 rfl 37 (.tmp 2) rfl w.heap.size rfl HQ1.out.st Tryz.underlying37 rfl (Mo.szS s) ?_
  simp only [Act.put]
  go_simp
  go_wp2_with fail
  refine HPC1.out.mono ?_
  rintro _ W2 ⟨rfl, hb2⟩
  have HQ2 := qh (HQ1.out.then hb2)
  clear hb2 HPC1 HQ1
  go_upto_region 3 with fail
  refine wp_region_lit ?_
  refine Kit.load_bk0 rfl 52 (.tmp 4) rfl (w.heap.size + 2) rfl HQ2.out.res Tryz.underlying52 rfl (Mo.szB Mo.Bx.zero) ?_
  refine Kit.wpList_run rfl (.int .i64 260) _ rfl ?_
  refine Kit.store_bk0 rfl 52 (.tmp 4) (.tmp 13) rfl (w.heap.size + 2) rfl (Mo.bxA Mo.Bx.zero) rfl HQ2.out.res rfl (Mo.szB Mo.Bx.zero) HIO.out ?_
  intro X1 hq1 hx1
  have HQX := qh (HQ2.out.box hx1 hq1)
  clear hq1 hx1
  simp only [Act.put]
  go_simp
  go_wp2_with fail
  refine bodyPost_ret (Kit.res_bk rfl rfl HQX.out.res _ Tryz.underlying52 rfl (Mo.szB _)) rfl ⟨⟨Mo.Bx.zero, 260, rfl, ?_⟩, HQX.out.bel⟩
  unfold Mo.ExtR
  rw [if_pos HOK.out]
  exact ⟨rfl, rfl⟩
 ·rcases hbk : Un.bok b with _ | _
  ·have HOK := qh hok
   have HBK := qh hbk
   clear step1 hok hbk
   go_enter Tryz.func26, Tryz.ntmps26
   go_upto_region 1 with fail
   refine Kit.wp_name ?_
   intro W1 hW1
   have HQ1 := qh (show Mo.EQ w W1 s b Mo.Bx.zero by rw [hW1]; exact Mo.EQ.start w s b)
   clear hW1
   have hpc : Calls Tryz.prog 25 #[.agg (Mo.stA s)] W1 fun e w' => e = .returned (.int .i64 0) ∧ Below W1.heap.size W1 w' := by
    have h := HPC.out W1
    rw [if_pos HOK.out] at h
    exact h
   have HPC1 := qh hpc
   clear hpc HPC
   refine wp_region_lit ?_
   refine Kit.load_bk0 rfl 37 (.tmp 2) rfl w.heap.size rfl HQ1.out.st Tryz.underlying37 rfl (Mo.szS s) ?_
   simp only [Act.put]
   go_simp
   go_wp2_with fail
   refine HPC1.out.mono ?_
   rintro _ W2 ⟨rfl, hb2⟩
   have HQ2 := qh (HQ1.out.then hb2)
   clear hb2 HPC1 HQ1
   have hbc : Calls Tryz.prog 19 #[.agg (Un.bdA b)] W2 fun e w' => e = .returned (.int .i64 250) ∧ Below W2.heap.size W2 w' := by
    have h := HBC.out W2
    rw [if_neg (by rw [HBK.out]; decide)] at h
    exact h
   have HBC1 := qh hbc
   clear hbc HBC
   go_upto_region 4 with fail
   refine wp_region_lit ?_
   refine Kit.load_bk0 rfl 48 (.tmp 3) rfl (w.heap.size + 1) rfl HQ2.out.bd Tryz.underlying48 rfl (Mo.szBe b) ?_
   simp only [Act.put]
   go_simp
   go_wp2_with fail
   refine HBC1.out.mono ?_
   rintro _ W3 ⟨rfl, hb3⟩
   have HQ3 := qh (HQ2.out.then hb3)
   clear hb3 HBC1 HQ2
   go_upto_region 6 with fail
   refine wp_region_lit ?_
   refine Kit.load_bk0 rfl 52 (.tmp 4) rfl (w.heap.size + 2) rfl HQ3.out.res Tryz.underlying52 rfl (Mo.szB Mo.Bx.zero) ?_
   refine Kit.wpList_run rfl (.int .i64 250) _ rfl ?_
   refine Kit.store_bk0 rfl 52 (.tmp 4) (.tmp 19) rfl (w.heap.size + 2) rfl (Mo.bxA Mo.Bx.zero) rfl HQ3.out.res rfl (Mo.szB Mo.Bx.zero) HIO.out ?_
   intro X1 hq1 hx1
   have HQX := qh (HQ3.out.box hx1 hq1)
   clear hq1 hx1
   simp only [Act.put]
   go_simp
   go_wp2_with fail
   refine bodyPost_ret (Kit.res_bk rfl rfl HQX.out.res _ Tryz.underlying52 rfl (Mo.szB _)) rfl ⟨⟨Mo.Bx.zero, 250, rfl, ?_⟩, HQX.out.bel⟩
   unfold Mo.ExtR
   rw [if_neg (by rw [HOK.out]; decide), if_pos HBK.out]
   exact ⟨rfl, rfl⟩
  ·exact step1 hok hbk
end Go.Proofs.YtedolbjgdedoaaaGreatDoor
