/- Walks: the laws of layer 27: MotionSlim. -/
import Derived.Test.YtedolbjgdedoaaaGreatDoorMpQ
set_option linter.unusedSimpArgs false
set_option linter.unusedVariables false
set_option maxRecDepth 100000
set_option maxHeartbeats 8000000
namespace Go.Proofs.YtedolbjgdedoaaaGreatDoor
open Go.RowKit Go.Shelf
attribute [local go_sem] Oper.semAt_some
namespace Mo
abbrev slim (b : Un.Bd) (g p q t : Int) : Un.Bd := { b with girth := g, r0 := p, r1 := q, r2 := t }
theorem slim_bok {b : Un.Bd} {g p q t : Int} (h : Un.bok b = true) (hg : 1 ≤ g ∧ g ≤ b.girth) (hp : 1 ≤ p ∧ p ≤ b.r0) (hq : 1 ≤ q ∧ q ≤ b.r1) (ht : 1 ≤ t ∧ t ≤ b.r2) : Un.bok (slim b g p q t) = true := by
 have k := bok_bd h
 have e1 : Un.ruok (slim b g p q t) = Un.ruok b := rfl
 unfold Un.bok at h ⊢
 rw [e1]
 simp only [Bool.and_eq_true, Tp.inb, decide_eq_true_eq] at h ⊢
 obtain ⟨⟨⟨⟨⟨h1, h2⟩, h3⟩, h4⟩, h5⟩, h6⟩ := h
 exact ⟨⟨⟨⟨⟨h1, h2⟩, by show 1 ≤ g ∧ g ≤ 4; omega⟩, by show ((1 ≤ p ∧ p ≤ 8) ∧ 1 ≤ q ∧ q ≤ 8) ∧ 1 ≤ t ∧ t ≤ 8; omega⟩, h5⟩, h6⟩
theorem slim_ins {b : Un.Bd} {g p q t : Int} (h : Un.bok b = true) (hg : 1 ≤ g ∧ g ≤ b.girth) (hp : 1 ≤ p ∧ p ≤ b.r0) (hq : 1 ≤ q ∧ q ≤ b.r1) (ht : 1 ≤ t ∧ t ≤ b.r2) (r : List Uo.Re) (l : List Ex.Sg) (s : St) : Ins (sweep r l s (slim b g p q t)) (sweep r l s b) := by
 have k := bok_bd h
 refine sweep_slim r l s b (slim b g p q t) (by show 0 ≤ g; omega) hg.2 (fun i => ?_) (fun i => ?_)
 ·unfold reach
  dsimp only
  repeat' split
  all_goals omega
 ·unfold reach
  dsimp only
  repeat' split
  all_goals omega
theorem okX_sweep {b : Un.Bd} (h : Un.bok b = true) {r : List Uo.Re} {l : List Ex.Sg} {s : St} (hs : ok s = true) (hf : fine r l s = true) : okX (sweep r l s b) := by
 have hg := sm_figure h r l s
 have hw : ∀ t ∈ way r l s, ok t = true := fun t ht => by
  have h1 : (t, (0 : Int)) ∈ all (prs r l) s := by
   unfold all
   rw [tr_way, if_pos hf, List.append_nil]
   rcases l with _ | ⟨k, l⟩
   ·simp [way] at ht
    simp [ht]
   ·unfold way at ht ⊢
    rcases List.mem_cons.1 ht with e | e
    ·simp [e]
    ·exact List.mem_cons_of_mem _ (by simpa using e)
  exact all_ok _ _ hs t h1
 exact okX_hull hg _ _ (okX_here hg hs) (fun t ht => hw t (List.mem_of_mem_drop ht))
theorem sw_slim {x : Ex.Wk} {role bar : Int} {s : St} {b : Un.Bd} {r : List Uo.Re} {g p q t : Int} (h : Un.bok b = true) (hg : 1 ≤ g ∧ g ≤ b.girth) (hp : 1 ≤ p ∧ p ≤ b.r0) (hq : 1 ≤ q ∧ q ≤ b.r1) (ht : 1 ≤ t ∧ t ≤ b.r2) {u v : Bx} {e f : Int}
  (h1 : SwR x role bar s (slim b g p q t) r u e) (h2 : SwR x role bar s b r v f) : e = f ∧ (e = 0 → okX u ∧ okX v ∧ Ins u v) := by
 have hk := slim_bok h hg hp hq ht
 unfold SwR at h1 h2
 split at h1
 ·rename_i h0
  rw [if_pos h0] at h2
  exact ⟨h1.2.trans h2.2.symm, fun e0 => absurd (h1.2.symm.trans e0) h0⟩
 rename_i h0
 rw [if_neg h0] at h2
 split at h1
 ·rename_i h3
  rw [if_pos h3] at h2
  exact ⟨h1.2.trans h2.2.symm, fun e0 => absurd (h1.2.symm.trans e0) (by decide)⟩
 rename_i h3
 rw [if_neg h3] at h2
 rw [if_neg (by rw [hk]; decide)] at h1
 rw [if_neg (by rw [h]; decide)] at h2
 split at h1
 ·rename_i h4
  rw [if_pos h4] at h2
  exact ⟨h1.2.trans h2.2.symm, fun e0 => absurd (h1.2.symm.trans e0) (by decide)⟩
 rename_i h4
 rw [if_neg h4] at h2
 obtain ⟨l, hl, h1⟩ := h1
 obtain ⟨l', hl', h2⟩ := h2
 obtain rfl := of_uniq hl hl'
 split at h1
 ·rename_i h5
  rw [if_pos h5] at h2
  obtain ⟨rfl, rfl⟩ := h1
  obtain ⟨rfl, rfl⟩ := h2
  have hs : ok s = true := by simpa using h3
  exact ⟨rfl, fun _ => ⟨okX_sweep hk hs h5, okX_sweep h hs h5, slim_ins h hg hp hq ht r l s⟩⟩
 ·rename_i h5
  rw [if_neg h5] at h2
  exact ⟨h1.2.trans h2.2.symm, fun e0 => absurd (h1.2.symm.trans e0) (by decide)⟩
structure SQ4 (w W : World) (x : Ex.Wk) (p : Ex.Wa) (s : St) (b : Un.Bd) (l0 l1 l2 l3 : Int) : Prop where
 q : AQ w W x p s b
 le : Kit.Bk W (w.heap.size + 3) 61 #[.int .u8 l0, .int .u8 l1, .int .u8 l2, .int .u8 l3]
theorem SQ4.then {w W W' : World} {x : Ex.Wk} {p : Ex.Wa} {s : St} {b : Un.Bd} {l0 l1 l2 l3 : Int} (h : SQ4 w W x p s b l0 l1 l2 l3) (hb : Below W.heap.size W W') : SQ4 w W' x p s b l0 l1 l2 l3 := ⟨h.q.then hb, h.le.below hb h.le.lt⟩
theorem SQ4.exc {S : Nat → Prop} {w W W' : World} {x : Ex.Wk} {p : Ex.Wa} {s : St} {b : Un.Bd} {l0 l1 l2 l3 : Int} (h : SQ4 w W x p s b l0 l1 l2 l3) (hx : Kit.Exc S W W') (hs : ∀ k, S k → w.heap.size + 4 ≤ k) : SQ4 w W' x p s b l0 l1 l2 l3 :=
 ⟨h.q.exc hx (fun k hk => by have := hs k hk; omega), h.le.exc hx (fun k => by have := hs _ k; omega)⟩
theorem SQ4.start (w : World) (x : Ex.Wk) (p : Ex.Wa) (s : St) (b : Un.Bd) (l0 l1 l2 l3 : Int) : SQ4 w ((((w.alloc (.cells (wkC x p) 32)).alloc (.cells (stA s) 37)).alloc (.cells (Un.bdA b) 48)).alloc (.cells #[.int .u8 l0, .int .u8 l1, .int .u8 l2, .int .u8 l3] 61)) x p s b l0 l1 l2 l3 := by
 have h := AQ.start w x p s b
 obtain ⟨⟨_, _, _, q3⟩, _, _⟩ := Kit.four w (wkC x p) (stA s) (Un.bdA b) #[.int .u8 l0, .int .u8 l1, .int .u8 l2, .int .u8 l3] 32 37 48 61
 exact ⟨h.then ((Below.refl _ _).alloc nlr _), q3⟩
end Mo
theorem lw_slim (x : Ex.Wk) (p : Ex.Wa) (w : World) (hL : Ex.Laid w) (hF : Uo.Flat w) (hK : Mo.KL w) (ha : Ex.At w x p) (role bar : Int) (s : Mo.St) (b : Un.Bd) (hnm : b.name.size ≤ 9223372036854775807) (r : List Uo.Re) (aR : Option Addr) (cR : Nat) (hR : Tp.Sl w aR r.length 4 (Mo.rcs r))
  (l0 l1 l2 l3 : Int) (k0 : 0 ≤ l0 ∧ l0 ≤ 255) (k1 : 0 ≤ l1 ∧ l1 ≤ 255) (k2 : 0 ≤ l2 ∧ l2 ≤ 255) (k3 : 0 ≤ l3 ∧ l3 ≤ 255) :
  Calls Tryz.prog 6 #[Ex.workV x p, .int .i64 role, .int .i64 bar, .agg (Mo.stA s), .agg (Un.bdA b), .slice aR r.length cR, .agg #[.int .u8 l0, .int .u8 l1, .int .u8 l2, .int .u8 l3]] w fun e w' => e = .returned (.bool true) ∧ Below w.heap.size w w' := by
 have HSN := qh (fun W (hb : Below w.heap.size w W) => lw_sane W (hL.kept hb nlr) (hF.kept hb nlr) (hK.kept hb))
 have HFW := qh (fun W => lw_few27 x p r.length aR cR W)
 have HBC := qh (fun W => bd_check b W hnm)
 have HSW := qh (fun W (hb : Below w.heap.size w W) (c : Un.Bd) (hn : c.name = b.name) => mo_sweep x p W (hL.kept hb nlr) (hF.kept hb nlr) (hK.kept hb) (ha.kept hb nlr) role bar s c (by rw [hn]; exact hnm) r aR cR (hR.kept hb nlr))
 have hk0 : IntKind.i64.wrap l0 = l0 := by rw [IntKind.wrap_i64] <;> omega
 have hk1 : IntKind.i64.wrap l1 = l1 := by rw [IntKind.wrap_i64] <;> omega
 have hk2 : IntKind.i64.wrap l2 = l2 := by rw [IntKind.wrap_i64] <;> omega
 have hk3 : IntKind.i64.wrap l3 = l3 := by rw [IntKind.wrap_i64] <;> omega
 have K0 := qh k0
 have K1 := qh k1
 have K2 := qh k2
 have K3 := qh k3
 clear hL hF hK ha hR hnm k0 k1 k2 k3
 obtain ⟨aRo, cRo, aT, cT, aP, cP, aS, cS, aG, cG⟩ := p
 dsimp only [Ex.workV, Ex.wv] at HFW HSW ⊢
 go_enter Tryz.func6, Tryz.ntmps6
 go_upto_region 1 with fail
 refine Kit.wp_name ?_
 intro W1 hW1
 have HQ1 := qh (show Mo.SQ4 w W1 x ⟨aRo, cRo, aT, cT, aP, cP, aS, cS, aG, cG⟩ s b l0 l1 l2 l3 by rw [hW1]; exact Mo.SQ4.start w x ⟨aRo, cRo, aT, cT, aP, cP, aS, cS, aG, cG⟩ s b l0 l1 l2 l3)
 clear hW1
 go_wp2_with fail
 refine (HSN.out _ HQ1.out.q.bel).mono ?_
 rintro _ W2 ⟨rfl, hb⟩
 have HQ2 := qh (HQ1.out.then hb)
 clear hb HQ1 HSN
 have wk : ∀ j, W2.cell? ⟨w.heap.size, j, none⟩ = (Mo.wkC x ⟨aRo, cRo, aT, cT, aP, cP, aS, cS, aG, cG⟩)[j]? := fun j => HQ2.out.q.wk.cell j
 go_wp2_with fail
 refine (HFW.out _).mono ?_
 rintro _ W3 ⟨⟨fb, rfl, hfb⟩, hb⟩
 have HQ3 := qh (HQ2.out.then hb)
 clear hb HQ2 HFW wk hfb
 rcases fb with _ | _
 ·go_wp2_with fail
  go_ret
  exact ⟨rfl, HQ3.out.q.bel⟩
 have bc : ∀ j, W3.cell? ⟨w.heap.size + 2, j, none⟩ = (Un.bdA b)[j]? := fun j => HQ3.out.q.bd.cell j
 simp only [Un.bdA] at bc
 go_wp2_with fail
 refine (HBC.out _).mono ?_
 rintro _ W4 ⟨rfl, hb⟩
 have HQ4 := qh (HQ3.out.then hb)
 clear hb HQ3 HBC bc
 rcases hbk : Un.bok b with _ | _
 ·rw [if_neg (by decide)]
  go_wp2_with fail
  go_ret
  exact ⟨rfl, HQ4.out.q.bel⟩
 rw [if_pos rfl]
 have HBK := qh hbk
 clear hbk
 go_upto_region 5 with fail
 refine wp_region_lit ?_
 refine Kit.load_bk0 rfl 48 (.tmp 11) rfl (w.heap.size + 2) rfl HQ4.out.q.bd Tryz.underlying48 rfl (Mo.szBd b) ?_
 simp only [Act.put]
 go_simp
 go_upto_region 6 with ((with_reducible refine Kit.store_bk0 ?_ 48 (.tmp 15) (.tmp 34) ?_ W4.heap.size ?_ (Un.bdA b) ?_ (Kit.Bk.new W4 48 _) ?_ (Mo.szBd b) (Un.bdA_one b) ?_); rfl; rfl; rfl; rfl; rfl; intro W5 h5 x5; have HV5 := qh h5; have HX5 := qh x5; clear h5 x5)
 have HQ5 := qh ((HQ4.out.then ((Below.refl _ _).alloc nlr _)).exc HX5.out (fun k hk => by have := HQ4.out.le.lt; omega))
 have HZ5 := qh (show w.heap.size + 4 ≤ W4.heap.size from HQ4.out.le.lt)
 obtain ⟨VB, hVB⟩ : ∃ k, W4.heap.size = k := ⟨_, rfl⟩
 rw [hVB] at HV5 HZ5 ⊢
 clear hVB HQ4 HX5
 have b3 : W5.cell? ⟨w.heap.size + 2, 3, none⟩ = some (.int .i64 b.girth) := (HQ5.out.q.bd.cell 3).trans rfl
 have u3 : W5.cell? ⟨w.heap.size + 3, 3, none⟩ = some (.int .u8 l3) := (HQ5.out.le.cell 3).trans rfl
 have v3 : W5.cell? ⟨VB, 3, none⟩ = some (.int .i64 b.girth) := (HV5.out.cell 3).trans rfl
 have f3 := HV5.out.frozen 3
 have hgm := (Mo.bok_bd HBK.out)
 obtain ⟨g, hg⟩ : ∃ g, max 1 (b.girth - l3.tmod 4) = g := ⟨_, rfl⟩
 obtain ⟨n0, hn0⟩ : ∃ g, max 1 (b.r0 - l0.tmod 8) = g := ⟨_, rfl⟩
 obtain ⟨n1, hn1⟩ : ∃ g, max 1 (b.r1 - l1.tmod 8) = g := ⟨_, rfl⟩
 obtain ⟨n2, hn2⟩ : ∃ g, max 1 (b.r2 - l2.tmod 8) = g := ⟨_, rfl⟩
 have HG := qh (show 1 ≤ g ∧ g ≤ b.girth by have := K3.out; have h := Int.tmod_nonneg 4 this.1; omega)
 have HN0 := qh (show 1 ≤ n0 ∧ n0 ≤ b.r0 by have := K0.out; have h := Int.tmod_nonneg 8 this.1; omega)
 have HN1 := qh (show 1 ≤ n1 ∧ n1 ≤ b.r1 by have := K1.out; have h := Int.tmod_nonneg 8 this.1; omega)
 have HN2 := qh (show 1 ≤ n2 ∧ n2 ≤ b.r2 by have := K2.out; have h := Int.tmod_nonneg 8 this.1; omega)
 have b3w : wrap64 (b.girth - l3.tmod 4) = b.girth - l3.tmod 4 := by
  have := K3.out
  have h := Int.tmod_nonneg 4 this.1
  have h2 := Int.tmod_lt_of_pos l3 (show (0 : Int) < 4 by omega)
  have hb := hgm
  unfold wrap64
  omega
 have b0w : wrap64 (b.r0 - l0.tmod 8) = b.r0 - l0.tmod 8 := by
  have := K0.out
  have h := Int.tmod_nonneg 8 this.1
  have h2 := Int.tmod_lt_of_pos l0 (show (0 : Int) < 8 by omega)
  have hb := hgm
  unfold wrap64
  omega
 have b1w : wrap64 (b.r1 - l1.tmod 8) = b.r1 - l1.tmod 8 := by
  have := K1.out
  have h := Int.tmod_nonneg 8 this.1
  have h2 := Int.tmod_lt_of_pos l1 (show (0 : Int) < 8 by omega)
  have hb := hgm
  unfold wrap64
  omega
 have b2w : wrap64 (b.r2 - l2.tmod 8) = b.r2 - l2.tmod 8 := by
  have := K2.out
  have h := Int.tmod_nonneg 8 this.1
  have h2 := Int.tmod_lt_of_pos l2 (show (0 : Int) < 8 by omega)
  have hb := hgm
  unfold wrap64
  omega
 clear hgm
 go_upto_region 7 with fail
 refine Kit.wp_name ?_
 intro W6 hW6
 have hx6 : Kit.Exc (fun k => k = VB) W5 W6 := by rw [hW6]; exact (Kit.Exc.refl (fun k => k = VB) W5).setCell (p := ⟨VB, 3, none⟩) (.inl rfl) _
 have HQ6 := qh (HQ5.out.exc hx6 (fun k hk => by rw [hk]; exact HZ5.out))
 have HV6 := qh (show Kit.Bk W6 VB 48 (Un.bdA (Mo.slim b g b.r0 b.r1 b.r2)) by rw [hW6]; exact HV5.out.put 3 (.int .i64 g) rfl)
 clear hW6 hx6 b3 u3 v3 f3 HQ5 HV5 hg b3w
 go_wp2_with fail
 refine wp_loop_rounds 4 ?_
 rw [rounds_succ]
 go_upto_region 10 with fail
 have t0 : W6.cell? ⟨w.heap.size + 2, 6 + 0, none⟩ = some (.int .i64 b.r0) := (HQ6.out.q.bd.cell (6 + 0)).trans rfl
 have t1 : W6.cell? ⟨w.heap.size + 3, 0, none⟩ = some (.int .u8 l0) := (HQ6.out.le.cell 0).trans rfl
 have t2 : W6.cell? ⟨VB, 6 + 0, none⟩ = some (.int .i64 b.r0) := (HV6.out.cell (6 + 0)).trans rfl
 have t3 := HV6.out.frozen (6 + 0)
 simp only [Nat.reduceAdd] at t0 t2 t3
 (refine Kit.wp_region_drew_tail 14 (by kernel_rfl) (by kernel_rfl) ?_; simp only [List.take_succ_cons, List.take_zero, List.drop_succ_cons, List.drop_zero]; (repeat (go_big_quiet_step (fail))); refine wpQuiet_nil ?_; intro _ hw'; obtain ⟨nq, hw''⟩ := hw'; subst hw'')
 go_upto_region 11 with fail
 refine Kit.wp_name ?_
 intro W7 hW7
 have hx7 : Kit.Exc (fun k => k = VB) W6 W7 := by rw [hW7]; exact Kit.Exc.setCell (S := fun k => k = VB) (p := ⟨VB, 6, none⟩) ((Kit.Exc.refl (fun k => k = VB) W6).drewN nq) (.inl rfl) _
 have HQ7 := qh (HQ6.out.exc hx7 (fun k hk => by rw [hk]; exact HZ5.out))
 have HV7 := qh (show Kit.Bk W7 VB 48 (Un.bdA (Mo.slim b g n0 b.r1 b.r2)) by rw [hW7]; exact (show Kit.Bk (W6.drewN nq) VB 48 _ from HV6.out).put 6 (.int .i64 n0) rfl)
 clear hW7 hx7 t0 t1 t2 t3 HQ6 HV6 hn0 b0w
 go_wp2_with fail
 rw [rounds_succ]
 go_upto_region 10 with fail
 have t0 : W7.cell? ⟨w.heap.size + 2, 6 + 1, none⟩ = some (.int .i64 b.r1) := (HQ7.out.q.bd.cell (6 + 1)).trans rfl
 have t1 : W7.cell? ⟨w.heap.size + 3, 1, none⟩ = some (.int .u8 l1) := (HQ7.out.le.cell 1).trans rfl
 have t2 : W7.cell? ⟨VB, 6 + 1, none⟩ = some (.int .i64 b.r1) := (HV7.out.cell (6 + 1)).trans rfl
 have t3 := HV7.out.frozen (6 + 1)
 simp only [Nat.reduceAdd] at t0 t2 t3
 (refine Kit.wp_region_drew_tail 14 (by kernel_rfl) (by kernel_rfl) ?_; simp only [List.take_succ_cons, List.take_zero, List.drop_succ_cons, List.drop_zero]; (repeat (go_big_quiet_step (fail))); refine wpQuiet_nil ?_; intro _ hw'; obtain ⟨nq, hw''⟩ := hw'; subst hw'')
 go_upto_region 11 with fail
 refine Kit.wp_name ?_
 intro W8 hW8
 have hx8 : Kit.Exc (fun k => k = VB) W7 W8 := by rw [hW8]; exact Kit.Exc.setCell (S := fun k => k = VB) (p := ⟨VB, 7, none⟩) ((Kit.Exc.refl (fun k => k = VB) W7).drewN nq) (.inl rfl) _
 have HQ8 := qh (HQ7.out.exc hx8 (fun k hk => by rw [hk]; exact HZ5.out))
 have HV8 := qh (show Kit.Bk W8 VB 48 (Un.bdA (Mo.slim b g n0 n1 b.r2)) by rw [hW8]; exact (show Kit.Bk (W7.drewN nq) VB 48 _ from HV7.out).put 7 (.int .i64 n1) rfl)
 clear hW8 hx8 t0 t1 t2 t3 HQ7 HV7 hn1 b1w
 go_wp2_with fail
 rw [rounds_succ]
 go_upto_region 10 with fail
 have t0 : W8.cell? ⟨w.heap.size + 2, 6 + 2, none⟩ = some (.int .i64 b.r2) := (HQ8.out.q.bd.cell (6 + 2)).trans rfl
 have t1 : W8.cell? ⟨w.heap.size + 3, 2, none⟩ = some (.int .u8 l2) := (HQ8.out.le.cell 2).trans rfl
 have t2 : W8.cell? ⟨VB, 6 + 2, none⟩ = some (.int .i64 b.r2) := (HV8.out.cell (6 + 2)).trans rfl
 have t3 := HV8.out.frozen (6 + 2)
 simp only [Nat.reduceAdd] at t0 t2 t3
 (refine Kit.wp_region_drew_tail 14 (by kernel_rfl) (by kernel_rfl) ?_; simp only [List.take_succ_cons, List.take_zero, List.drop_succ_cons, List.drop_zero]; (repeat (go_big_quiet_step (fail))); refine wpQuiet_nil ?_; intro _ hw'; obtain ⟨nq, hw''⟩ := hw'; subst hw'')
 go_upto_region 11 with fail
 refine Kit.wp_name ?_
 intro W9 hW9
 have hx9 : Kit.Exc (fun k => k = VB) W8 W9 := by rw [hW9]; exact Kit.Exc.setCell (S := fun k => k = VB) (p := ⟨VB, 8, none⟩) ((Kit.Exc.refl (fun k => k = VB) W8).drewN nq) (.inl rfl) _
 have HQ9 := qh (HQ8.out.exc hx9 (fun k hk => by rw [hk]; exact HZ5.out))
 have HV9 := qh (show Kit.Bk W9 VB 48 (Un.bdA (Mo.slim b g n0 n1 n2)) by rw [hW9]; exact (show Kit.Bk (W8.drewN nq) VB 48 _ from HV8.out).put 8 (.int .i64 n2) rfl)
 clear hW9 hx9 t0 t1 t2 t3 HQ8 HV8 hn2 b2w
 go_wp2_with fail
 rw [rounds_succ]
 go_upto_region 12 with fail
 refine wp_region_lit ?_
 refine Kit.load_bk0 rfl 32 (.tmp 7) rfl w.heap.size rfl HQ9.out.q.wk Tryz.underlying32 rfl (Mo.szQ _ _) ?_
 refine Kit.wpList_run rfl (.int .i64 role) _ rfl ?_
 refine Kit.wpList_run rfl (.int .i64 bar) _ rfl ?_
 refine Kit.load_bk0 rfl 37 (.tmp 10) rfl (w.heap.size + 1) rfl HQ9.out.q.st Tryz.underlying37 rfl (Mo.szS s) ?_
 refine Kit.load_bk0 rfl 48 (.tmp 15) rfl VB rfl HV9.out Tryz.underlying48 rfl (Mo.szBd _) ?_
 simp only [Act.put]
 go_simp
 go_wp2_with fail
 refine (HSW.out _ HQ9.out.q.bel (Mo.slim b g n0 n1 n2) rfl).mono ?_
 rintro _ V1 ⟨⟨u, e, rfl, hu⟩, hb⟩
 have HU := qh hu
 have HQ10 := qh (HQ9.out.then hb)
 clear hu hb HQ9 HV9
 go_upto_region 13 with fail
 refine Kit.wp_name ?_
 intro U1 hW
 have HQ11 := qh (show Mo.SQ4 w U1 x ⟨aRo, cRo, aT, cT, aP, cP, aS, cS, aG, cG⟩ s b l0 l1 l2 l3 by rw [hW]; exact HQ10.out.then ((Below.refl _ _).alloc nlr _))
 have Qk1 := qh (show Kit.Bk U1 V1.heap.size 52 (Mo.bxA u) by rw [hW]; exact Kit.Bk.new _ _ _)
 obtain ⟨k1, hB⟩ : ∃ b, V1.heap.size = b := ⟨_, rfl⟩
 rw [hB] at Qk1 ⊢
 clear hW hB HQ10
 refine wp_region_lit ?_
 refine Kit.load_bk0 rfl 32 (.tmp 7) rfl w.heap.size rfl HQ11.out.q.wk Tryz.underlying32 rfl (Mo.szQ _ _) ?_
 refine Kit.wpList_run rfl (.int .i64 role) _ rfl ?_
 refine Kit.wpList_run rfl (.int .i64 bar) _ rfl ?_
 refine Kit.load_bk0 rfl 37 (.tmp 10) rfl (w.heap.size + 1) rfl HQ11.out.q.st Tryz.underlying37 rfl (Mo.szS s) ?_
 refine Kit.load_bk0 rfl 48 (.tmp 11) rfl (w.heap.size + 2) rfl HQ11.out.q.bd Tryz.underlying48 rfl (Mo.szBd _) ?_
 simp only [Act.put]
 go_simp
 go_wp2_with fail
 refine (HSW.out _ HQ11.out.q.bel b rfl).mono ?_
 rintro _ V2 ⟨⟨v, f, rfl, hv⟩, hb⟩
 have HVV := qh hv
 have HQ12 := qh (HQ11.out.then hb)
 have Rk1 := qh (Qk1.out.below hb Qk1.out.lt)
 clear hv hb HQ11 Qk1
 go_upto_region 14 with fail
 refine Kit.wp_name ?_
 intro U2 hW
 have HBE := qh (show Below w.heap.size w U2 by rw [hW]; exact HQ12.out.q.bel.trans (((Below.refl _ _).alloc nlr _).mono HQ12.out.q.bel.size))
 have Qk1 := qh (show Kit.Bk U2 k1 52 (Mo.bxA u) by rw [hW]; exact Rk1.out.alloc _)
 have Qk2 := qh (show Kit.Bk U2 V2.heap.size 52 (Mo.bxA v) by rw [hW]; exact Kit.Bk.new _ _ _)
 obtain ⟨k2, hB⟩ : ∃ b, V2.heap.size = b := ⟨_, rfl⟩
 rw [hB] at Qk2 ⊢
 clear hW hB HQ12 Rk1 HSW
 obtain ⟨rfl, hgo⟩ := Mo.sw_slim HBK.out HG.out HN0.out HN1.out HN2.out HU.out HVV.out
 have HGO := qh hgo
 clear hgo HU HVV HG HN0 HN1 HN2 HBK
 by_cases h0 : e = 0
 case neg =>
  have c1 : (e != 0) = true := by simpa using h0
  clear h0
  go_wp2_with fail
  go_ret
  exact ⟨by simp, HBE.out⟩
 subst h0
 obtain ⟨hu, hv, hi⟩ := HGO.out rfl
 have hin : Calls Tryz.prog 20 #[.agg (Mo.bxA u), .agg (Mo.bxA v)] U2 fun e w' => e = .returned (.tuple #[.bool true, .int .i64 0]) ∧ Below U2.heap.size U2 w' := by
  have h := sp_inside_3 u.xl u.xh u.yl u.yh v.xl v.xh v.yl v.yh U2 hu hv
  have ht : Sp.inside u.xl u.xh u.yl u.yh v.xl v.xh v.yl v.yh = true := by
   unfold Mo.Ins at hi
   unfold Sp.inside
   simp [hi]
  rw [ht] at h
  exact h
 have HIN := qh hin
 clear hu hv hi hin HGO
 go_upto_region 16 with fail
 refine wp_region_lit ?_
 refine Kit.load_bk0 rfl 52 (.tmp 17) rfl k1 rfl Qk1.out Tryz.underlying52 rfl (Mo.szB _) ?_
 refine Kit.load_bk0 rfl 52 (.tmp 19) rfl k2 rfl Qk2.out Tryz.underlying52 rfl (Mo.szB _) ?_
 simp only [Act.put]
 go_simp
 go_wp2_with fail
 refine HIN.out.mono ?_
 rintro _ V3 ⟨rfl, hb⟩
 have HB3 := qh (HBE.out.trans (hb.mono HBE.out.size))
 clear hb HIN Qk1 Qk2 HBE
 go_wp2_with fail
 go_ret
 exact ⟨rfl, HB3.out⟩
end Go.Proofs.YtedolbjgdedoaaaGreatDoor
