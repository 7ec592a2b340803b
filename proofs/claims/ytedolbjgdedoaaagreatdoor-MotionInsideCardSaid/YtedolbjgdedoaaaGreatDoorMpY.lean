/- Walks: the laws of layer 27: MotionInside. -/
import Derived.Test.YtedolbjgdedoaaaGreatDoorMpX
import Derived.Test.YtedolbjgdedoaaaGreatDoorMpQ
set_option linter.unusedSimpArgs false
set_option linter.unusedVariables false
set_option maxRecDepth 100000
set_option maxHeartbeats 8000000
namespace Go.Proofs.YtedolbjgdedoaaaGreatDoor
open Go.RowKit Go.Shelf
attribute [local go_sem] Oper.semAt_some
namespace Mo
theorem sw_err {x : Ex.Wk} {role bar : Int} {s u : St} {b : Un.Bd} {t : Bx} {r : List Uo.Re} {e f : Int} (h : SwR x role bar s b r t e) (k : EndR x role bar s r u f) (he : e ≠ 0) : t = Bx.zero ∧ (f = e ∨ (Un.bok b = false ∧ e = 250)) := by
 unfold SwR at h
 unfold EndR at k
 split at h
 ·rw [if_pos ‹_›] at k; exact ⟨h.1, .inl (k.2.trans h.2.symm)⟩
 rw [if_neg ‹_›] at k
 split at h
 ·rw [if_pos ‹_›] at k; exact ⟨h.1, .inl (k.2.trans h.2.symm)⟩
 rw [if_neg ‹_›] at k
 split at h
 ·rename_i hb; exact ⟨h.1, .inr ⟨hb, h.2⟩⟩
 split at h
 ·rw [if_pos ‹_›] at k; exact ⟨h.1, .inl (k.2.trans h.2.symm)⟩
 rw [if_neg ‹_›] at k
 obtain ⟨l, hl, h⟩ := h
 obtain ⟨l', hl', k⟩ := k
 obtain rfl := of_uniq hl hl'
 split at h
 ·exact absurd h.2 he
 ·rw [if_neg ‹_›] at k; exact ⟨h.1, .inl (k.2.trans h.2.symm)⟩
theorem sw_good {x : Ex.Wk} {role bar : Int} {s u : St} {b : Un.Bd} {t : Bx} {r : List Uo.Re} {f : Int} (h : SwR x role bar s b r t 0) (k : EndR x role bar s r u f) : ofE x role bar = 0 ∧ ok s = true ∧ Un.bok b = true ∧ mot (ofI x role bar) r = true ∧ ∃ l, Of x role bar l ∧ fine r l s = true ∧ t = sweep r l s b ∧ u = last r l s ∧ f = 0 := by
 unfold SwR at h
 unfold EndR at k
 split at h
 ·rename_i h0; exact absurd h.2.symm h0
 rename_i h0
 rw [if_neg h0] at k
 split at h
 ·exact absurd h.2 (by decide)
 rename_i h1
 rw [if_neg h1] at k
 split at h
 ·exact absurd h.2 (by decide)
 rename_i h2
 split at h
 ·exact absurd h.2 (by decide)
 rename_i h3
 rw [if_neg h3] at k
 obtain ⟨l, hl, h⟩ := h
 obtain ⟨l', hl', k⟩ := k
 obtain rfl := of_uniq hl hl'
 split at h
 ·rename_i h4
  rw [if_pos h4] at k
  exact ⟨by simpa using h0, by simpa using h1, by simpa using h2, by simpa using h3, l, hl, h4, h.1, k.1, k.2⟩
 ·exact absurd h.2 (by decide)
theorem ls_exc {S : Nat → Prop} {A B : World} {a : Option Addr} {l : List Nat} (h : LsN A a l) (hx : Kit.Exc S A B) (hn : ∀ ad, a = some ad → ¬ S ad.block) : LsN B a l := by
 rcases h with h | ⟨ad, h1, h2, h3⟩
 ·exact .inl h
 ·exact .inr ⟨ad, h1, Nat.lt_of_lt_of_le h2 hx.size, fun j hj => (World.cell?_of_block (by rw [Tp.add_block]; exact hx.block _ h2 (hn ad h1))).trans (h3 j hj)⟩
theorem limK_lt {k : Ex.Sg} (h : Fit k) : ∀ e ∈ limK k, e < 5 := by
 have hs := h.side
 intro e he
 unfold limK at he
 split at he
 ·rename_i hk
  rw [if_pos omg] at hs
  simp at he
  omega
 split at he
 ·rename_i hk
  rw [if_pos omg] at hs
  simp at he
  omega
 split at he
 ·simp at he; omega
 split at he
 ·simp at he; omega
 split at he
 ·simp at he; omega
 ·simp at he
theorem limK_len (k : Ex.Sg) : (limK k).length ≤ 2 := by
 unfold limK
 repeat' split
 all_goals simp
theorem any_take {l : List Nat} {j : Nat} (h : j < l.length) (q : Nat) : (l.take (j + 1)).any (· == q) = ((l.take j).any (· == q) || l[j]'h == q) := by
 rw [List.take_succ_eq_append_getElem h, List.any_append]
 simp
structure LG (w W : World) (b : Un.Bd) (X : Bx) (en s : St) (D L : Int) (XB EB PB MB NB : Nat) (aL : Option Addr) (l : List Ex.Sg) (N : Nat) (g : Nat → Bool) : Prop where
 ex : ∃ (n : Nat) (f : Int → Option Value), n ≤ N ∧ LI w W b X en D L XB EB PB MB n f aL l ∧ ∀ q : Nat, q < 5 → (f q).getD (.bool false) = .bool (g q)
 nb : Kit.Bk W NB 37 (stA s)
theorem LG.then {w A B : World} {b : Un.Bd} {X : Bx} {en s : St} {D L : Int} {XB EB PB MB NB : Nat} {aL : Option Addr} {l : List Ex.Sg} {N : Nat} {g : Nat → Bool} (h : LG w A b X en s D L XB EB PB MB NB aL l N g) (p : LP w XB EB PB MB NB aL l) (hb : Below A.heap.size A B) : LG w B b X en s D L XB EB PB MB NB aL l N g := by
 obtain ⟨n, f, h1, h2, h3⟩ := h.ex
 exact ⟨⟨n, f, h1, h2.then p hb, h3⟩, h.nb.below hb h.nb.lt⟩
end Mo

theorem lw_inall (x : Ex.Wk) (p : Ex.Wa) (w : World) (hL : Ex.Laid w) (hF : Uo.Flat w) (hK : Mo.KL w) (ha : Ex.At w x p) (role bar : Int) (s : Mo.St) (b : Un.Bd) (hnm : b.name.size ≤ 9223372036854775807) (r : List Uo.Re) (aR : Option Addr) (cR : Nat) (hR : Tp.Sl w aR r.length 4 (Mo.rcs r)) (dd lv : Int) (k0 : 0 ≤ dd ∧ dd ≤ 255) (k1 : 0 ≤ lv ∧ lv ≤ 255) :
  Calls Tryz.prog 9 #[Ex.workV x p, .int .i64 role, .int .i64 bar, .agg (Mo.stA s), .agg (Un.bdA b), .slice aR r.length cR, .int .u8 dd, .int .u8 lv] w fun e w' => e = .returned (.bool true) ∧ Below w.heap.size w w' := by
 have HSN := qh (fun W (hb : Below w.heap.size w W) => lw_sane W (hL.kept hb nlr) (hF.kept hb nlr) (hK.kept hb))
 have HFW := qh (fun W => lw_few27 x p r.length aR cR W)
 have HBC := qh (fun W => bd_check b W hnm)
 have HEN := qh (fun W (hb : Below w.heap.size w W) => mo_end x p W (hL.kept hb nlr) (hF.kept hb nlr) (ha.kept hb nlr) role bar s r aR cR (hR.kept hb nlr))
 have HSW := qh (fun W (hb : Below w.heap.size w W) => mo_sweep x p W (hL.kept hb nlr) (hF.kept hb nlr) (hK.kept hb) (ha.kept hb nlr) role bar s b hnm r aR cR (hR.kept hb nlr))
 have HOF := qh (fun W (hb : Below w.heap.size w W) => ex_of x p W (hL.kept hb nlr) (ha.kept hb nlr) role bar)
 have HRS := qh hR
 have HFL := qh hF
 have HNM := qh hnm
 have HGO := qh (fun (h : Mo.ofE x role bar = 0) => (Ex.good_of (x := x) (by
  unfold Mo.ofE at h
  split at h
  ·rename_i h1; exact absurd h h1
  ·rename_i h1; simpa using h1)))
 have w1 : IntKind.i64.wrap dd = dd := by rw [IntKind.wrap_i64] <;> omega
 have w2 : IntKind.i64.wrap lv = lv := by rw [IntKind.wrap_i64] <;> omega
 have K0 := qh k0
 have K1 := qh k1
 clear hL hF hK ha hR hnm k0 k1
 obtain ⟨aRo, cRo, aT, cT, aP, cP, aS, cS, aG, cG⟩ := p
 dsimp only [Ex.workV, Ex.wv] at HFW HOF HEN HSW ⊢
 go_enter Tryz.func9, Tryz.ntmps9
 go_upto_region 1 with fail
 refine Kit.wp_name ?_
 intro W1 hW1
 have HQ1 := qh (show Mo.AQ w W1 x ⟨aRo, cRo, aT, cT, aP, cP, aS, cS, aG, cG⟩ s b by rw [hW1]; exact Mo.AQ.start w x ⟨aRo, cRo, aT, cT, aP, cP, aS, cS, aG, cG⟩ s b)
 clear hW1
 go_wp2_with fail
 refine (HSN.out _ HQ1.out.bel).mono ?_
 rintro _ W2 ⟨rfl, hb⟩
 have HQ2 := qh (HQ1.out.then hb)
 clear hb HQ1 HSN
 have wk : ∀ j, W2.cell? ⟨w.heap.size, j, none⟩ = (Mo.wkC x ⟨aRo, cRo, aT, cT, aP, cP, aS, cS, aG, cG⟩)[j]? := fun j => HQ2.out.wk.cell j
 go_wp2_with fail
 refine (HFW.out _).mono ?_
 rintro _ W3 ⟨⟨fb, rfl, hfb⟩, hb⟩
 have HQ3 := qh (HQ2.out.then hb)
 clear hb HQ2 HFW wk
 rcases fb with _ | _
 ·clear hfb
  go_wp2_with fail
  go_ret
  exact ⟨rfl, HQ3.out.bel⟩
 have HN2 := qh (hfb rfl)
 clear hfb
 have HQ := qh HQ3.out
 clear HQ3
 go_upto_region 5 with fail
 refine wp_region_lit ?_
 refine Kit.load_bk0 rfl 32 (.tmp 8) rfl w.heap.size rfl HQ.out.wk Tryz.underlying32 rfl (Mo.szQ _ _) ?_
 refine Kit.wpList_run rfl (.int .i64 role) _ rfl ?_
 refine Kit.wpList_run rfl (.int .i64 bar) _ rfl ?_
 refine Kit.load_bk0 rfl 37 (.tmp 11) rfl (w.heap.size + 1) rfl HQ.out.st Tryz.underlying37 rfl (Mo.szS s) ?_
 refine Kit.load_bk0 rfl 48 (.tmp 12) rfl (w.heap.size + 2) rfl HQ.out.bd Tryz.underlying48 rfl (Mo.szBd b) ?_
 simp only [Act.put]
 go_simp
 go_wp2_with fail
 refine (HSW.out _ HQ.out.bel).mono ?_
 rintro _ V1 ⟨⟨t1, e1, rfl, ht1⟩, hb⟩
 have Ht1 := qh ht1
 clear ht1
 have HQx := qh (HQ.out.then hb)
 clear HQ
 have HQ := qh HQx.out
 clear HQx
 clear hb
 go_upto_region 6 with fail
 refine Kit.wp_name ?_
 intro U1 hW
 have hb : Below V1.heap.size V1 U1 := by rw [hW]; exact (Below.refl _ _).alloc nlr _
 have HQx := qh (HQ.out.then hb)
 clear HQ
 have HQ := qh HQx.out
 clear HQx
 have Qk1 := qh (show Kit.Bk U1 V1.heap.size 52 (Mo.bxA t1) by rw [hW]; exact Kit.Bk.new _ _ _)
 obtain ⟨k1, hB⟩ : ∃ b, V1.heap.size = b := ⟨_, rfl⟩
 rw [hB] at Qk1 ⊢
 clear hW hB hb
 go_upto_region 6 with fail
 refine wp_region_lit ?_
 refine Kit.load_bk0 rfl 32 (.tmp 8) rfl w.heap.size rfl HQ.out.wk Tryz.underlying32 rfl (Mo.szQ _ _) ?_
 refine Kit.wpList_run rfl (.int .i64 role) _ rfl ?_
 refine Kit.wpList_run rfl (.int .i64 bar) _ rfl ?_
 refine Kit.load_bk0 rfl 37 (.tmp 11) rfl (w.heap.size + 1) rfl HQ.out.st Tryz.underlying37 rfl (Mo.szS s) ?_
 simp only [Act.put]
 go_simp
 go_wp2_with fail
 refine (HEN.out _ HQ.out.bel).mono ?_
 rintro _ V2 ⟨⟨t2, e2, rfl, ht2⟩, hb⟩
 have Ht2 := qh ht2
 clear ht2
 have HQx := qh (HQ.out.then hb)
 clear HQ
 have HQ := qh HQx.out
 clear HQx
 have Qk1x := qh (Qk1.out.below hb Qk1.out.lt)
 clear Qk1
 have Qk1 := qh Qk1x.out
 clear Qk1x
 clear hb
 go_upto_region 7 with fail
 refine Kit.wp_name ?_
 intro U2 hW
 have hb : Below V2.heap.size V2 U2 := by rw [hW]; exact (Below.refl _ _).alloc nlr _
 have HQx := qh (HQ.out.then hb)
 clear HQ
 have HQ := qh HQx.out
 clear HQx
 have Qk1x := qh (Qk1.out.below hb Qk1.out.lt)
 clear Qk1
 have Qk1 := qh Qk1x.out
 clear Qk1x
 have Qk2 := qh (show Kit.Bk U2 V2.heap.size 37 (Mo.stA t2) by rw [hW]; exact Kit.Bk.new _ _ _)
 obtain ⟨k2, hB⟩ : ∃ b, V2.heap.size = b := ⟨_, rfl⟩
 rw [hB] at Qk2 ⊢
 clear hW hB hb
 by_cases h0 : e1 = 0
 case neg =>
  as_aux_lemma =>
   have c1 : (e1 != 0) = true := by simpa using h0
   obtain ⟨rfl, hfe⟩ := Mo.sw_err Ht1.out Ht2.out h0
   have hq := fun W => Mo.eq_bx Mo.Bx.zero W
   dsimp only [Mo.bxA, Mo.Bx.zero] at hq
   have q1 : ∀ j, U2.cell? ⟨k1, j, none⟩ = (Mo.bxA Mo.Bx.zero)[j]? := fun j => Qk1.out.cell j
   dsimp only [Mo.bxA, Mo.Bx.zero] at q1
   clear h0 Ht1 Ht2 HEN HSW HOF HGO w1 w2
   by_cases hfe2 : e2 = e1
   ·subst hfe2
    clear hfe HBC
    go_wp2_with fail
    go_ret
    exact ⟨by simp, HQ.out.bel⟩
   ·rcases hfe with hfe | ⟨hbk, h250⟩
    ·exact absurd hfe hfe2
    subst h250
    have c2 : (e2 == 250) = false := by simpa using hfe2
    have hbc : Calls Tryz.prog 19 #[.agg (Un.bdA b)] U2 fun e w' => e = .returned (.int .i64 250) ∧ Below U2.heap.size U2 w' := by
     have h := HBC.out U2
     rw [if_neg (by rw [hbk]; decide)] at h
     exact h
    have HBC2 := qh hbc
    have bc : ∀ j, U2.cell? ⟨w.heap.size + 2, j, none⟩ = (Un.bdA b)[j]? := fun j => HQ.out.bd.cell j
    simp only [Un.bdA] at bc
    clear hbc HBC hbk hfe2
    go_wp2_with fail
    refine (show Calls _ _ _ _ _ from HBC2.out).mono ?_
    rintro _ U3 ⟨rfl, hb⟩
    have HB3 := qh (HQ.out.bel.trans (hb.mono HQ.out.bel.size))
    clear hb HBC2 bc q1
    go_wp2_with fail
    go_ret
    exact ⟨rfl, HB3.out⟩
 subst h0
 obtain ⟨hof, hok, hbk, hmot, l, hl, hfine, rfl, rfl, rfl⟩ := Mo.sw_good Ht1.out Ht2.out
 have HGG := qh (HGO.out hof)
 have HOFE := qh hof
 have HOK := qh hok
 have HBK := qh hbk
 have HLL := qh hl
 have HFI := qh hfine
 have HFIT := qh (show ∀ k ∈ l, Mo.Fit k from fun k hk => Mo.fit_of (HGG.out.oks k (List.mem_filter.1 ((hl.perm.mem_iff).1 hk)).1))
 have HFRM := qh (show ∀ k ∈ l, Mo.form k (Mo.real r k.id) = true from fun k hk => Mo.mot_real _ _ (Mo.ofI_lt HGG.out role bar) hmot k ((hl.perm.mem_iff).1 hk))
 have HLEN := qh (show l.length ≤ 4096 by rw [hl.perm.length_eq]; exact Nat.le_trans (List.length_filter_le _ _) HGG.out.len)
 have HINS := qh (fun W (hb : Below w.heap.size w W) => lw_inside s b HNM.out (Mo.sweep r l s b) W (HFL.out.kept hb nlr) hok hbk (Mo.okX_sweepI hbk hok hfine) (Mo.inside_way r l s s b (fun i => by have := Mo.reach_bd hbk i; omega) HFIT.out (by
  have h := (Mo.way_at r l s 0 hok hfine (Nat.zero_le _)).1
  exact h)))
 clear hof hok hbk hmot hl hfine Ht1 Ht2 HGO HEN HSW HBC
 as_aux_lemma =>
  go_upto_region 9 with fail
  have wk : ∀ j, U2.cell? ⟨w.heap.size, j, none⟩ = (Mo.wkC x ⟨aRo, cRo, aT, cT, aP, cP, aS, cS, aG, cG⟩)[j]? := fun j => HQ.out.wk.cell j
  go_wp2_with fail
  refine (HOF.out _ HQ.out.bel).mono ?_
  rintro _ V3 ⟨⟨v, l', rfl, hof2, hown⟩, hb⟩
  obtain rfl := Mo.of_uniq (hof2 HOFE.out) HLL.out
  rw [HOFE.out]
  obtain ⟨aL, cL, rfl⟩ := Kit.own_shape hown
  obtain ⟨hsl, _, hbse⟩ := Kit.own_sl hown (Mo.sg_get l')
  have HSL := qh hsl
  have HLT := qh (show l'.length ≠ 0 → ∀ ad, aL = some ad → ad.block < V3.heap.size from fun hne ad e => by
   rcases hsl with h | ⟨ad', h1, h2, _⟩
   ·exact absurd h hne
   ·rw [h1] at e; cases e; exact h2)
  have HQx := qh (HQ.out.then hb)
  have HK1 := qh (Qk1.out.below hb Qk1.out.lt)
  have HK2 := qh (Qk2.out.below hb Qk2.out.lt)
  clear hb HQ Qk1 Qk2 HOF hof2 hown hsl hbse wk HLL HOFE HGG
  have bc : ∀ j, V3.cell? ⟨w.heap.size + 2, j, none⟩ = (Un.bdA b)[j]? := fun j => HQx.out.bd.cell j
  simp only [Un.bdA] at bc
  have qs : ∀ j, V3.cell? ⟨w.heap.size + 1, j, none⟩ = (Mo.stA s)[j]? := fun j => HQx.out.st.cell j
  obtain ⟨X, hX⟩ : ∃ t, Mo.sweep r l' s b = t := ⟨_, rfl⟩
  obtain ⟨E, hE⟩ : ∃ t, Mo.last r l' s = t := ⟨_, rfl⟩
  rw [hX] at HK1 HINS
  rw [hE] at HK2
  have HXX := qh hX
  have HEE := qh hE
  clear hX hE
  have qx : ∀ j, V3.cell? ⟨k1, j, none⟩ = (Mo.bxA X)[j]? := fun j => HK1.out.cell j
  go_wp2_with fail
  refine (HINS.out _ HQx.out.bel).mono ?_
  rintro _ V4 ⟨rfl, hb⟩
  have HQ := qh (HQx.out.then hb)
  have Qk1 := qh (HK1.out.below hb HK1.out.lt)
  have Qk2 := qh (HK2.out.below hb HK2.out.lt)
  have HS4 := qh (HSL.out.kept hb nlr)
  have HLT4 := qh (show l'.length ≠ 0 → ∀ ad, aL = some ad → ad.block < V4.heap.size from fun h ad e => Nat.lt_of_lt_of_le (HLT.out h ad e) hb.size)
  clear hb HINS HQx HK1 HK2 HSL HLT bc qs qx
  have hd1 := Int.tmod_nonneg 9 K0.out.1
  have hd2 := Int.tmod_lt_of_pos dd (show (0 : Int) < 9 by omega)
  have hd3 := Int.tmod_nonneg 3 K1.out.1
  have hd4 := Int.tmod_lt_of_pos lv (show (0 : Int) < 3 by omega)
  have w3 : IntKind.i64.wrap (dd.tmod 9) = dd.tmod 9 := by rw [IntKind.wrap_i64] <;> omega
  have w4 : IntKind.i64.wrap (lv.tmod 3) = lv.tmod 3 := by rw [IntKind.wrap_i64] <;> omega
  have w5 : IntKind.i64.wrap (1 + lv.tmod 3) = 1 + lv.tmod 3 := by rw [IntKind.wrap_i64] <;> omega
  go_upto_region 13 with fail
  obtain ⟨D, hD⟩ : ∃ d, dd.tmod 9 = d := ⟨_, rfl⟩
  obtain ⟨L, hL⟩ : ∃ d, 1 + lv.tmod 3 = d := ⟨_, rfl⟩
  have HD := qh (show 0 ≤ D ∧ D ≤ 8 by omega)
  have HLV := qh (show 1 ≤ L ∧ L ≤ 3 by omega)
  rw [hD, hL]
  clear hD hL hd1 hd2 hd3 hd4 w1 w2 w3 w4 w5
  refine Kit.wp_name ?_
  intro V5 hW
  have hbW : Below V4.heap.size V4 V5 := by rw [hW]; exact (Below.refl _ _).alloc nlr _
  have HQ5 := qh (HQ.out.then hbW)
  have HX5 := qh (Qk1.out.below hbW Qk1.out.lt)
  have HE5 := qh (Qk2.out.below hbW Qk2.out.lt)
  have HS5 := qh (HS4.out.kept hbW nlr)
  have HP5 := qh (show Kit.Bk V5 V4.heap.size 34 #[.int .i64 D, .int .i64 L] by rw [hW]; exact Kit.Bk.new _ _ _)
  have HNP := qh (show k1 < V4.heap.size ∧ k2 < V4.heap.size ∧ w.heap.size + 3 ≤ V4.heap.size from ⟨Qk1.out.lt, Qk2.out.lt, HQ.out.bd.lt⟩)
  have HZ5 := qh (show V4.heap.size < V5.heap.size from HP5.out.lt)
  obtain ⟨PB, hB⟩ : ∃ k, V4.heap.size = k := ⟨_, rfl⟩
  rw [hB] at HP5 HLT4 HNP HZ5 ⊢
  clear hW hbW hB HQ Qk1 Qk2 HS4
  refine wp_region_lit ?_
  refine Kit.load_bk0 rfl 37 (.tmp 11) rfl (w.heap.size + 1) rfl HQ5.out.st Tryz.underlying37 rfl (Mo.szS s) ?_
  have hmm := @run_makeMap Tryz.prog
  simp only [Act.put]
  go_simp
  go_upto_region 14 with fail
  clear hmm
  refine Kit.wp_name ?_
  intro V6 hW
  have hbW : Below V5.heap.size V5 V6 := by rw [hW]; exact ((Below.refl _ _).alloc nlr _).alloc (by simp) _
  have HMP := qh (show Kit.IMap Tryz.prog 3 V6 V5.heap.size 0 (fun _ => none) by rw [hW]; exact (Kit.IMap.made _ _ _).alloc _)
  have HN6 := qh (show Kit.Bk V6 (V5.heap.size + 1) 37 (Mo.stA s) by
   rw [hW]
   have h := Kit.Bk.new (V5.alloc (.map #[] 0)) 37 (Mo.stA s)
   rw [World.size_alloc] at h
   exact h)
  have HLP := qh (show Mo.LP w k1 k2 PB V5.heap.size (V5.heap.size + 1) aL l' from ⟨by have := HNP.out; have := HZ5.out; omega, by have := HNP.out; have := HZ5.out; omega, by have := HNP.out; have := HZ5.out; omega, HZ5.out, by omega, fun h ad e => by have := HLT4.out h ad e; have := HZ5.out; omega⟩)
  have HLI := qh (show Mo.LI w V6 b X E D L k1 k2 PB V5.heap.size 0 (fun _ => none) aL l' from ⟨HQ5.out.bel.trans (hbW.mono HQ5.out.bel.size), HQ5.out.bd.below hbW HQ5.out.bd.lt, HX5.out.below hbW HX5.out.lt, HE5.out.below hbW HE5.out.lt, HP5.out.below hbW HP5.out.lt, HMP.out, HS5.out.kept hbW nlr⟩)
  obtain ⟨MB, hB⟩ : ∃ k, V5.heap.size = k := ⟨_, rfl⟩
  rw [hB] at HLI HLP HN6 ⊢
  clear hW hbW hB HQ5 HX5 HE5 HS5 HP5 HMP HNP HZ5 HLT4
  have HG0 := qh (show Mo.LG w V6 b X E s D L k1 k2 PB MB (MB + 1) aL l' 0 (Mo.movedB r (l'.take 0)) from ⟨⟨0, _, Nat.le_refl _, HLI.out, fun q _ => rfl⟩, HN6.out⟩)
  clear HLI HN6
  have HFD := qh (fun (q : Ex.Sg) W (hb : Below w.heap.size w W) => lw_find r q.id aR cR W (Nat.le_trans HN2.out omg) (HRS.out.kept hb nlr))
  have hll := HLEN.out
  go_wp2_with fail
  go_loopg [110] l'.length (fun kx v110 wr => ∃ i : Nat, v110 = .int .i64 i ∧ i ≤ l'.length ∧ l'.length - i ≤ kx ∧ Hid (Mo.LG w wr b X E s D L k1 k2 PB MB (MB + 1) aL l' (2 * i) (Mo.movedB r (l'.take i))))
  case atStart => exact ⟨0, rfl, by omega, by omega, HG0⟩
  case round =>
   obtain ⟨i, rfl, hi, hk, HG⟩ := hrel
   clear HG0
   by_cases hlt : i < l'.length
   ·have hltz : (i : Int) < (l'.length : Int) := by omega
    as_aux_lemma =>
     obtain ⟨⟨n, f, hn, hLI, hf⟩, hnb⟩ := HG.out
     obtain ⟨ad, rfl, hadb, _⟩ := hLI.sl.at hlt
     have hsl := hLI.sl
     (have e0 := hsl.head hlt omg; have e1 := hsl.field hlt (j := 1) omg omg; have e2 := hsl.field hlt (j := 2) omg omg; have e3 := hsl.field hlt (j := 3) omg omg; have e4 := hsl.field hlt (j := 4) omg omg; have e5 := hsl.field hlt (j := 5) omg omg; have e6 := hsl.field hlt (j := 6) omg omg; have e7 := hsl.field hlt (j := 7) omg omg; have e8 := hsl.field hlt (j := 8) omg omg; have e9 := hsl.field hlt (j := 9) omg omg; have e10 := hsl.field hlt (j := 10) omg omg; have e11 := hsl.field hlt (j := 11) omg omg; have e12 := hsl.field hlt (j := 12) omg omg; have e13 := hsl.field hlt (j := 13) omg omg; obtain ⟨y, hy_⟩ : ∃ y, l'.getD i default = y := ⟨_, rfl⟩; simp only [Ex.sgc, hy_] at e0 e1 e2 e3 e4 e5 e6 e7 e8 e9 e10 e11 e12 e13)
     have hyl : l'[i]? = some y := by rw [List.getElem?_eq_getElem hlt, ← hy_]; simp [List.getD, hlt]
     have hmem : y ∈ l' := List.mem_of_getElem? hyl
     have HTK := qh (Mo.take_get l' i y hyl)
     have HFY := qh (HFIT.out y hmem)
     clear hyl hmem hsl hy_ hn hLI hf hnb
     go_upto_region 17 with fail
     refine Kit.wp_name ?_
     intro X1 hX1
     have hbW : Below wr.heap.size wr X1 := by rw [hX1]; exact (Below.refl _ _).alloc nlr _
     have HG1 := qh (HG.out.then HLP.out hbW)
     have HY1 := qh (show Kit.Bk X1 wr.heap.size 60 (Mo.sgC y).toArray by rw [hX1]; exact Kit.Bk.new _ _ _)
     obtain ⟨SB, hB⟩ : ∃ k, wr.heap.size = k := ⟨_, rfl⟩
     rw [hB] at HY1 ⊢
     clear hX1 hbW hB HG e0 e1 e2 e3 e4 e5 e6 e7 e8 e9 e10 e11 e12 e13
     have y0 : X1.cell? ⟨SB, 0, none⟩ = some (.int .i64 y.id) := (HY1.out.cell 0).trans rfl
     obtain ⟨q, hq⟩ : ∃ u, Mo.real r y.id = u := ⟨_, rfl⟩
     have HFQ := qh (fun W (hb : Below w.heap.size w W) => hq ▸ HFD.out y W hb)
     have HQQ := qh hq
     clear hq
     have hbl : Below w.heap.size w X1 := by obtain ⟨n, f, _, h2, _⟩ := HG1.out.ex; exact h2.bel
     have HBL := qh hbl
     clear hbl
     go_wp2_with fail
     refine (HFQ.out _ HBL.out).mono ?_
     rintro _ X2 ⟨rfl, hb⟩
     have HG2 := qh (HG1.out.then HLP.out hb)
     have HY2 := qh (HY1.out.below hb HY1.out.lt)
     have HBM := qh (HBL.out.trans (hb.mono HBL.out.size))
     clear hb HG1 HY1 HBL y0 HFQ
     go_upto_region 18 with fail
     refine Kit.wp_name ?_
     intro X3 hX3
     have hbW : Below X2.heap.size X2 X3 := by rw [hX3]; exact (Below.refl _ _).alloc nlr _
     have HG3 := qh (HG2.out.then HLP.out hbW)
     have HY3 := qh (HY2.out.below hbW HY2.out.lt)
     have HR3 := qh (show Kit.Bk X3 X2.heap.size 69 (Mo.reC q).toArray by rw [hX3]; exact Kit.Bk.new _ _ _)
     obtain ⟨RB, hB⟩ : ∃ k, X2.heap.size = k := ⟨_, rfl⟩
     rw [hB] at HR3 ⊢
     clear hX3 hbW hB HG2 HY2 HBM
     have r3 : X3.cell? ⟨RB, 3, none⟩ = some (.bool q.2.2.2) := (HR3.out.cell 3).trans rfl
     rcases hdr : q.2.2.2 with _ | _
     case' true =>
      rw [hdr] at r3
      have HMS := qh (show ∀ j, Mo.movedB r (l'.take (i + 1)) j = Mo.movedB r (l'.take i) j from fun j => by rw [HTK.out, Mo.moved_snoc, HQQ.out, hdr]; simp)
      go_wp2_with fail
      go_roundg (l'.length - (i + 1))
      case measure => omega
      case rel => exact ⟨i + 1, by go_num, by omega, Nat.le_refl _, qh (by
       obtain ⟨⟨n, f, hn, hLI, hf⟩, hnb⟩ := HG3.out
       exact ⟨⟨n, f, by omega, hLI, fun j hj => by rw [HMS.out]; exact hf j hj⟩, hnb⟩)⟩
     rw [hdr] at r3
     have HMS := qh (show ∀ j, Mo.movedB r (l'.take (i + 1)) j = (Mo.movedB r (l'.take i) j || (Mo.limK y).any (· == j)) from fun j => by rw [HTK.out, Mo.moved_snoc, HQQ.out, hdr, Mo.moves_lim]; simp)
     clear hdr
     go_upto_region 19 with fail
     refine wp_region_lit ?_
     refine Kit.load_bk0 rfl 60 (.tmp 27) rfl SB rfl HY3.out Tryz.underlying60 rfl (Mo.szG y) ?_
     simp only [Act.put]
     go_simp
     go_wp2_with fail
     refine (lw_limbs y HFY.out _).mono ?_
     rintro _ X4 ⟨⟨a4, c4, rfl, hls, hnew⟩, hb⟩
     have hlnb : ∀ a, a4 = some a → MB < a.block := fun a e => by
      have h1 := hnew a e
      have h2 : MB + 1 < X3.heap.size := HG3.out.nb.lt
      omega
     have HG4 := qh (HG3.out.then HLP.out hb)
     have HLS := qh hls
     clear hb hls HG3 HY3 HR3 r3
     have HLK := qh (Mo.limK_lt HFY.out)
     obtain ⟨lk, hlk⟩ : ∃ l, Mo.limK y = l := ⟨_, rfl⟩
     rw [hlk] at HLS HMS HLK ⊢
     have HLL2 := qh (show lk.length ≤ 2 by rw [← hlk]; exact Mo.limK_len y)
     clear hlk
     have HLNB := qh hlnb
     clear hlnb
     have hll2 := HLL2.out
     have HG5 := qh (show Mo.LG w X4 b X E s D L k1 k2 PB MB (MB + 1) (some ad) l' (2 * i + 0) (fun j => Mo.movedB r (l'.take i) j || (lk.take 0).any (· == j)) from by
      have h := HG4.out
      have e : (fun j => Mo.movedB r (l'.take i) j || (lk.take 0).any (· == j)) = Mo.movedB r (l'.take i) := funext fun j => by simp
      rw [e]
      exact h)
     clear HG4
     go_wp2_with fail
     go_loopg [124] lk.length (fun kx v124 wr => ∃ j : Nat, v124 = .int .i64 j ∧ j ≤ lk.length ∧ lk.length - j ≤ kx ∧ Hid (Mo.LG w wr b X E s D L k1 k2 PB MB (MB + 1) (some ad) l' (2 * i + j) (fun m => Mo.movedB r (l'.take i) m || (lk.take j).any (· == m))) ∧ Hid (Mo.LsN wr a4 lk))
     case atStart => exact ⟨0, rfl, by omega, by omega, HG5, HLS⟩
     case round =>
      obtain ⟨j, rfl, hj, hkj, HG6, HLS2⟩ := hrel
      clear HG5 HLS
      by_cases hlt2 : j < lk.length
      ·have hltz2 : (j : Int) < (lk.length : Int) := by omega
       obtain ⟨⟨n, f, hn, hLI, hf⟩, hnb⟩ := HG6.out
       obtain ⟨ad4, rfl, hab4, hcell⟩ : ∃ ad4, a4 = some ad4 ∧ ad4.block < wr.heap.size ∧ ∀ j, j < lk.length → wr.cell? (ad4.add j) = some (.int .i64 (lk.getD j 0 : Nat)) := by
        rcases HLS2.out with h | h
        ·rw [h] at hlt2; simp at hlt2
        ·exact h
       have hcj := hcell j hlt2
       have hgd : lk.getD j 0 = lk[j]'hlt2 := by simp [List.getD, hlt2]
       have he5 := HLK.out _ (List.getElem_mem hlt2)
       rw [hgd] at hcj
       have HAT := qh (Mo.any_take hlt2)
       obtain ⟨e, he⟩ : ∃ e, lk[j]'hlt2 = e := ⟨_, rfl⟩
       simp only [he] at hcj he5 HAT
       have ez1 : decide ((e : Int) < 0) = false := by simp
       have ez2 : decide ((4 : Int) < (e : Int)) = false := by simp; omega
       have HE5 := qh he5
       have HLI2 := qh hLI
       have HFF := qh hf
       have HNB2 := qh hnb
       have HNN := qh hn
       have hwf : (Lit.int .i64 (e : Int)).wf = true := by
        show (decide ((-9223372036854775808 : Int) ≤ e) && decide ((e : Int) ≤ 9223372036854775807)) = true
        simp
        omega
       have HWF := qh hwf
       clear he he5 hLI hf hnb hn hwf hcell hgd HG6
       go_wp2_with ((with_reducible refine Kit.wpList_put_imap _ ?_ (.tmp 134) (.tmp 135) (.const (.bool true)) 78 (.inl ?_) 3 4 (.bool false) Mo.mtB MB n f ?_ HLI2.out.mp ?_ (e : Int) ?_ (.bool true) ?_ HWF.out ?_); rfl; rfl; rfl; (have := HNN.out; unfold maxLen; omega); rfl; rfl; intro w9 hm9 hg9; have HM9 := qh hm9; have HG9 := qh hg9; clear hm9 hg9)
       have hxm : Kit.Exc (fun k => k = MB) wr w9 := ⟨HG9.out.os, HG9.out.tape, HG9.out.output, HG9.out.size, fun k hk hn => HG9.out.block k hk (fun e => hn (by injection e))⟩
       have HG7 := qh (show Mo.LG w w9 b X E s D L k1 k2 PB MB (MB + 1) (some ad) l' (2 * i + (j + 1)) (fun m => Mo.movedB r (l'.take i) m || (lk.take (j + 1)).any (· == m)) from
        ⟨⟨n + 1, Kit.putI f e (.bool true), by have := HNN.out; omega, HLI2.out.put HLP.out HG9.out HM9.out, fun m hm => by
         unfold Kit.putI
         rw [HAT.out m]
         by_cases h : (m : Int) = (e : Int)
         ·have h2 : e = m := by omega
          rw [if_pos h, h2]
          simp
         ·have h2 : (e == m) = false := by simp; omega
          rw [if_neg h, HFF.out m hm, h2, Bool.or_false]⟩, HNB2.out.exc hxm omg⟩)
       have HLS3 := qh (Mo.ls_exc HLS2.out hxm (fun a hq hk => by have := HLNB.out a hq; omega))
       clear hxm HM9 HG9 HLI2 HFF HNB2 HLS2
       go_roundg (lk.length - (j + 1))
       case measure => omega
       case rel => exact ⟨j + 1, by go_num, by omega, Nat.le_refl _, HG7, HLS3⟩
      ·obtain rfl : j = lk.length := by omega
       have HG8 := qh (show Mo.LG w wr b X E s D L k1 k2 PB MB (MB + 1) (some ad) l' (2 * (i + 1)) (Mo.movedB r (l'.take (i + 1))) from by
        obtain ⟨⟨n, f, hn, hLI, hf⟩, hnb⟩ := HG6.out
        refine ⟨⟨n, f, by omega, hLI, fun m hm => ?_⟩, hnb⟩
        rw [hf m hm, HMS.out m, List.take_length])
       clear HG6
       go_wp2_with fail
       go_roundg (l'.length - (i + 1))
       case measure => omega
       case rel => exact ⟨i + 1, by go_num, by omega, Nat.le_refl _, HG8⟩
   ·obtain rfl : i = l'.length := by omega
    obtain ⟨⟨n, f, hn, hLI, hf⟩, hnb⟩ := HG.out
    rw [List.take_length] at hf
    clear hlt hk hll HG HFD
    rw [← HXX.out, ← HEE.out] at hLI
    go_upto_region 27 with fail
    refine li_loop3 _ _ _ _ _ _ _ _ _ _ _ _ _ _ rfl _ _ _ _ _ _ _ _ _ _ _ _ _ _ _ _ _ _ _ _ _ _ _ _ _ _ _ _ _ _ _ _ _ _ _ _ _ _ _ _ _ _ _ _ _ _ _ _ _ _ _ _ _ _ _ _ _ _ _ _ _ _ _ _ _ _ _ _ _ _ _ _ _ _ _ _ _ _ _ _ _ _ _ _ _ _ _ _ _ _ _ _ _ _ _ _ _ _ _ _ _ _ _ _ _ _ _ _ _ _ _ _ _ _ _ _ _ _ _ _ _ _ _ _ _ _ _ _ _ _ _ _ _ _ _ _ _ _ _ _ _ _ _ _ _ _ _ _ _ _ _ _ _ _ _ _ _ _ _ _ _ _ _ _ _ _ _ _ _ _ _ _ _ _ _ _ _ _ _ _ _ _ _ _ _ _ _ _ _ _ _ _ _ _ _ _ w wr HFL.out s HOK.out b HNM.out HBK.out r aR cR HRS.out (Nat.le_trans HN2.out omg) l' aL cL HLEN.out HFIT.out HFRM.out HFI.out D L HD.out HLV.out k1 k2 PB MB (MB + 1) n f hf HLP.out hLI hnb _ (fun W' hb => ⟨rfl, hb⟩) _ (by assumption) _ (by assumption)
end Go.Proofs.YtedolbjgdedoaaaGreatDoor
