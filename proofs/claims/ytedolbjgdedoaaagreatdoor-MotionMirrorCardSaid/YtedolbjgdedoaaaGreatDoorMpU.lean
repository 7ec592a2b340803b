/- Walks: the laws of layer 27: MotionDropped. -/
import Derived.Test.YtedolbjgdedoaaaGreatDoorMpQ
import Derived.Test.YtedolbjgdedoaaaGreatDoorMpT
set_option linter.unusedSimpArgs false
set_option linter.unusedVariables false
set_option maxRecDepth 100000
set_option maxHeartbeats 8000000
namespace Go.Proofs.YtedolbjgdedoaaaGreatDoor
open Go.RowKit Go.Shelf
attribute [local go_sem] Oper.semAt_some
namespace Mo
theorem elR : Kit.El Tryz.prog 38 69 (.agg #[.int .i64 0, .int .i64 0, .int .i64 0, .bool false]) 4 32 := ⟨Tryz.underlying38, by kernel_rfl, rfl, by omega, by omega⟩
def dropR (l : List Ex.Sg) : List Uo.Re := l.map fun k => (k.id, 0, 0, true)
theorem dropR_len (l : List Ex.Sg) : (dropR l).length = l.length := by simp [dropR]
theorem dropR_one (y : Uo.Re) : ∀ u ∈ reC y, u.oneCell' = true := by simp [reC, Value.oneCell']
theorem re_get (l : List Uo.Re) (i j : Nat) (hi : i < l.length) (hj : j < 4) : (l.flatMap reC)[i * 4 + j]? = some (rcs l i j) := by
 rw [Kit.flatGet (k := 4) (fun _ => rfl) l i j hi hj, show (default : Uo.Re) = (0, 0, 0, false) from rfl]
 unfold rcs
 generalize l.getD i (0, 0, 0, false) = s
 rcases j with _ | _ | _ | _ | j <;> first | rfl | omega
theorem dropR_mot (l : List Ex.Sg) : mot l (dropR l) = true := by
 unfold mot
 rw [dropR_len]
 simp only [beq_self_eq_true, Bool.true_and]
 rw [List.all_eq_true]
 intro q hq
 unfold dropR at hq
 rw [List.zip_map_right] at hq
 obtain ⟨⟨a, c⟩, h1, rfl⟩ := List.mem_map.1 hq
 have h2 : a = c := by
  clear hq
  induction l with
  | nil => simp at h1
  | cons z l ih =>
   rw [List.zip_cons_cons] at h1
   rcases List.mem_cons.1 h1 with h | h
   ·cases h; rfl
   ·exact ih h
 subst h2
 simp [form]
theorem dropR_real {l : List Ex.Sg} {k : Ex.Sg} (h : k ∈ l) : (real (dropR l) k.id).2.2.2 = true := by
 unfold real
 rcases hf : (dropR l).find? (fun y => y.1 == k.id) with _ | y
 ·exfalso
  rw [List.find?_eq_none] at hf
  exact hf (k.id, 0, 0, true) (List.mem_map.2 ⟨k, h, rfl⟩) (by simp)
 ·have h1 := List.mem_of_find?_eq_some hf
  obtain ⟨z, _, rfl⟩ := List.mem_map.1 h1
  rw [hf]
  rfl
theorem dropped_end {x : Ex.Wk} {role bar : Int} {s t : St} {e : Int} (h0 : ofE x role bar = 0) (hs : ok s = true) (h : EndR x role bar s (dropR (ofI x role bar)) t e) : t = s ∧ e = 0 := by
 unfold EndR at h
 rw [if_neg (by rw [h0]; decide), if_neg (by rw [hs]; decide), if_neg (by rw [dropR_mot]; decide)] at h
 obtain ⟨l, hl, h⟩ := h
 obtain ⟨_, h2, h3⟩ := way_drop (dropR (ofI x role bar)) s hs l (fun k hk => dropR_real ((hl.perm.mem_iff).1 hk))
 rw [if_pos h2, h3] at h
 exact h
theorem dropped_sw {x : Ex.Wk} {role bar : Int} {s : St} {b : Un.Bd} {t : Bx} {e : Int} (h0 : ofE x role bar = 0) (hs : ok s = true) (hb : Un.bok b = true) (h : SwR x role bar s b (dropR (ofI x role bar)) t e) : t = extent s b ∧ e = 0 := by
 unfold SwR at h
 rw [if_neg (by rw [h0]; decide), if_neg (by rw [hs]; decide), if_neg (by rw [hb]; decide), if_neg (by rw [dropR_mot]; decide)] at h
 obtain ⟨l, hl, h⟩ := h
 have hd : ∀ k ∈ l, (real (dropR (ofI x role bar)) k.id).2.2.2 = true := fun k hk => dropR_real ((hl.perm.mem_iff).1 hk)
 obtain ⟨_, h2, h3⟩ := way_drop (dropR (ofI x role bar)) s hs l hd
 rw [if_pos h2, sweep_drop _ l s b hs hd] at h
 exact h
end Mo
theorem lw_dropped (x : Ex.Wk) (p : Ex.Wa) (w : World) (hL : Ex.Laid w) (hF : Uo.Flat w) (hK : Mo.KL w) (ha : Ex.At w x p) (role bar : Int) (s : Mo.St) (b : Un.Bd) (hnm : b.name.size ≤ 9223372036854775807) :
  Calls Tryz.prog 8 #[Ex.workV x p, .int .i64 role, .int .i64 bar, .agg (Mo.stA s), .agg (Un.bdA b)] w fun e w' => e = .returned (.bool true) ∧ Below w.heap.size w w' := by
 have HSN := qh (fun W (hb : Below w.heap.size w W) => lw_sane W (hL.kept hb nlr) (hF.kept hb nlr) (hK.kept hb))
 have HFW := qh (fun W => lw_few27 x p 0 none 0 W)
 have HOF := qh (fun W (hb : Below w.heap.size w W) => ex_of x p W (hL.kept hb nlr) (ha.kept hb nlr) role bar)
 have HPC := qh (fun W => po_check s W)
 have HBC := qh (fun W => bd_check b W hnm)
 have HEN := qh (fun W (hb : Below w.heap.size w W) (r : List Uo.Re) (aR : Option Addr) (cR : Nat) (hR : Tp.Sl W aR r.length 4 (Mo.rcs r)) => mo_end x p W (hL.kept hb nlr) (hF.kept hb nlr) (ha.kept hb nlr) role bar s r aR cR hR)
 have HSW := qh (fun W (hb : Below w.heap.size w W) (r : List Uo.Re) (aR : Option Addr) (cR : Nat) (hR : Tp.Sl W aR r.length 4 (Mo.rcs r)) => mo_sweep x p W (hL.kept hb nlr) (hF.kept hb nlr) (hK.kept hb) (ha.kept hb nlr) role bar s b hnm r aR cR hR)
 have HEX := qh (fun W (hb : Below w.heap.size w W) => po_extent s b hnm W (hF.kept hb nlr))
 have HA := qh ha
 have HGO := qh (fun (h : Mo.ofE x role bar = 0) => (Ex.good_of (x := x) (by
  unfold Mo.ofE at h
  split at h
  ·rename_i h1; exact absurd h h1
  ·rename_i h1; simpa using h1)))
 clear hL hF hK ha hnm
 obtain ⟨aRo, cRo, aT, cT, aP, cP, aS, cS, aG, cG⟩ := p
 dsimp only [Ex.workV, Ex.wv, List.length_nil] at HFW HOF HEN HSW ⊢
 go_enter Tryz.func8, Tryz.ntmps8
 go_upto_region 1 with fail
 refine Kit.wp_name ?_
 intro W1 hW1
 have HQ1 := qh (show Mo.AQ w W1 x ⟨aRo, cRo, aT, cT, aP, cP, aS, cS, aG, cG⟩ s b by rw [hW1]; exact Mo.AQ.start w x ⟨aRo, cRo, aT, cT, aP, cP, aS, cS, aG, cG⟩ s b)
 clear hW1
 go_wp2_with fail
 refine (HSN.out _ HQ1.out.bel).mono ?_
 rintro _ W2 ⟨rfl, hb⟩
 have HQ2 := qh (HQ1.out.then hb)
 clear hb HQ1 HSN
 have wk : ∀ j, W2.cell? ⟨w.heap.size, j, none⟩ = (Mo.wkC x ⟨aRo, cRo, aT, cT, aP, cP, aS, cS, aG, cG⟩)[j]? := fun j => HQ2.out.wk.cell j
 go_wp2_with fail
 refine (HFW.out _).mono ?_
 rintro _ W3 ⟨⟨fb, rfl, hfb⟩, hb⟩
 have HQ3 := qh (HQ2.out.then hb)
 clear hb HQ2 HFW wk hfb
 rcases fb with _ | _
 ·go_wp2_with fail
  go_ret
  exact ⟨rfl, HQ3.out.bel⟩
 have wk : ∀ j, W3.cell? ⟨w.heap.size, j, none⟩ = (Mo.wkC x ⟨aRo, cRo, aT, cT, aP, cP, aS, cS, aG, cG⟩)[j]? := fun j => HQ3.out.wk.cell j
 go_wp2_with fail
 refine (HOF.out _ HQ3.out.bel).mono ?_
 rintro _ W4 ⟨⟨v, l, rfl, hof, hown⟩, hb⟩
 obtain ⟨aL, cL, rfl⟩ := Kit.own_shape hown
 have HQ4 := qh (HQ3.out.then hb)
 have HOFL := qh hof
 clear hb HQ3 HOF wk hof hown
 obtain ⟨er, her⟩ : ∃ er, Mo.ofE x role bar = er := ⟨_, rfl⟩
 rw [her]
 by_cases h0 : er = 0
 case neg =>
  have c1 : (er != 0) = true := by simpa using h0
  clear h0 her
  go_wp2_with fail
  go_ret
  exact ⟨rfl, HQ4.out.bel⟩
 subst h0
 have HER := qh her
 have HO := qh (HOFL.out her)
 have HGG := qh (HGO.out her)
 clear her HOFL HGO
 have c0 : W4.cell? ⟨w.heap.size + 1, 0, none⟩ = some (.int .i64 s.x) := (HQ4.out.st.cell 0).trans rfl
 have c1 : W4.cell? ⟨w.heap.size + 1, 1, none⟩ = some (.int .i64 s.y) := (HQ4.out.st.cell 1).trans rfl
 have c2 : W4.cell? ⟨w.heap.size + 1, 2, none⟩ = some (.int .i64 s.f) := (HQ4.out.st.cell 2).trans rfl
 have c3 : W4.cell? ⟨w.heap.size + 1, 3, none⟩ = some (.int .i64 s.d0) := (HQ4.out.st.cell 3).trans rfl
 have c4 : W4.cell? ⟨w.heap.size + 1, 4, none⟩ = some (.int .i64 s.v0) := (HQ4.out.st.cell 4).trans rfl
 have c5 : W4.cell? ⟨w.heap.size + 1, 5, none⟩ = some (.int .i64 s.d1) := (HQ4.out.st.cell 5).trans rfl
 have c6 : W4.cell? ⟨w.heap.size + 1, 6, none⟩ = some (.int .i64 s.v1) := (HQ4.out.st.cell 6).trans rfl
 have c7 : W4.cell? ⟨w.heap.size + 1, 7, none⟩ = some (.int .i64 s.d2) := (HQ4.out.st.cell 7).trans rfl
 have c8 : W4.cell? ⟨w.heap.size + 1, 8, none⟩ = some (.int .i64 s.v2) := (HQ4.out.st.cell 8).trans rfl
 have c9 : W4.cell? ⟨w.heap.size + 1, 9, none⟩ = some (.int .i64 s.d3) := (HQ4.out.st.cell 9).trans rfl
 have c10 : W4.cell? ⟨w.heap.size + 1, 10, none⟩ = some (.int .i64 s.v3) := (HQ4.out.st.cell 10).trans rfl
 have c11 : W4.cell? ⟨w.heap.size + 1, 11, none⟩ = some (.int .i64 s.d4) := (HQ4.out.st.cell 11).trans rfl
 have c12 : W4.cell? ⟨w.heap.size + 1, 12, none⟩ = some (.int .i64 s.v4) := (HQ4.out.st.cell 12).trans rfl
 go_wp2_with fail
 refine (HPC.out _).mono ?_
 rintro _ W5 ⟨rfl, hb⟩
 have HQ5 := qh (HQ4.out.then hb)
 clear hb HQ4 HPC c0 c1 c2 c3 c4 c5 c6 c7 c8 c9 c10 c11 c12
 rcases hok : Mo.ok s with _ | _
 ·rw [if_neg (by decide)]
  go_wp2_with fail
  go_ret
  exact ⟨rfl, HQ5.out.bel⟩
 rw [if_pos rfl]
 have HOK := qh hok
 clear hok
 have bc : ∀ j, W5.cell? ⟨w.heap.size + 2, j, none⟩ = (Un.bdA b)[j]? := fun j => HQ5.out.bd.cell j
 simp only [Un.bdA] at bc
 go_wp2_with fail
 refine (HBC.out _).mono ?_
 rintro _ W6 ⟨rfl, hb⟩
 have HQ6 := qh (HQ5.out.then hb)
 clear hb HQ5 HBC bc
 rcases hbk : Un.bok b with _ | _
 ·rw [if_neg (by decide)]
  go_wp2_with fail
  go_ret
  exact ⟨rfl, HQ6.out.bel⟩
 rw [if_pos rfl]
 have HBK := qh hbk
 clear hbk
 have wk : ∀ j, W6.cell? ⟨w.heap.size, j, none⟩ = (Mo.wkC x ⟨aRo, cRo, aT, cT, aP, cP, aS, cS, aG, cG⟩)[j]? := fun j => HQ6.out.wk.cell j
 have hlen := HGG.out.len
 go_wp2_with fail
 clear wk
 go_loopg [13, 49] x.sg.length (fun kx v13 v49 wr => ∃ i : Nat, v49 = .int .i64 i ∧ i ≤ x.sg.length ∧ x.sg.length - i ≤ kx ∧ Hid (Kit.Gw W6 69 4 v13 (Mo.dropR (Mo.ofT x role bar i)).length ((Mo.dropR (Mo.ofT x role bar i)).flatMap Mo.reC) wr))
 case atStart => exact ⟨0, rfl, by omega, by omega, qh (Kit.Gw.start _ _ _)⟩
 case round =>
  obtain ⟨i, rfl, hi, hk, HG⟩ := hrel
  have HQ := qh (HQ6.out.then HG.out.bel)
  by_cases hlt : i < x.sg.length
  ·have hltz : (i : Int) < (x.sg.length : Int) := by omega
   have hsl := (HA.out.kept HQ.out.bel nlr).sg
   obtain ⟨ad, rfl, hadb, _⟩ := HA.out.sg.at hlt
   (have e0 := hsl.head hlt omg; have e1 := hsl.field hlt (j := 1) omg omg; have e2 := hsl.field hlt (j := 2) omg omg; have e3 := hsl.field hlt (j := 3) omg omg; have e4 := hsl.field hlt (j := 4) omg omg; have e5 := hsl.field hlt (j := 5) omg omg; have e6 := hsl.field hlt (j := 6) omg omg; have e7 := hsl.field hlt (j := 7) omg omg; have e8 := hsl.field hlt (j := 8) omg omg; have e9 := hsl.field hlt (j := 9) omg omg; have e10 := hsl.field hlt (j := 10) omg omg; have e11 := hsl.field hlt (j := 11) omg omg; have e12 := hsl.field hlt (j := 12) omg omg; have e13 := hsl.field hlt (j := 13) omg omg; obtain ⟨y, hy_⟩ : ∃ y, x.sg.getD i default = y := ⟨_, rfl⟩; simp only [Ex.sgc, hy_] at e0 e1 e2 e3 e4 e5 e6 e7 e8 e9 e10 e11 e12 e13)
   have HST := qh (Mo.ofT_step x role bar i hlt y hy_)
   have HLN := qh (Mo.ofT_len x role bar i)
   clear hsl hy_
   rcases d1 : (y.role == role) with _ | _
   case' false => have HM := qh (show Mo.mine bar role y = false by unfold Mo.mine; rw [d1]; rfl)
   case' true =>
    rcases d2 : (y.bar == bar) with _ | _
    case' false => have HM := qh (show Mo.mine bar role y = false by unfold Mo.mine; rw [d1, d2]; rfl)
    case' true => have HM := qh (show Mo.mine bar role y = true by unfold Mo.mine; rw [d1, d2]; rfl)
   case true.true =>
    have HE1 := qh (show Mo.dropR (Mo.ofT x role bar (i + 1)) = Mo.dropR (Mo.ofT x role bar i) ++ [(y.id, 0, 0, true)] by rw [HST.out, if_pos HM.out]; simp [Mo.dropR])
    go_wp2_with (at_builtin; refine Kit.wpList_app Mo.elR _ rfl _ _ rfl _ _ _ ((HG.out.alloc _).alloc _) rfl (by rw [Mo.dropR_len]; have := HLN.out; omega) ⟨wr.heap.size + 1, 0, none⟩ 1 (Mo.reC (y.id, 0, 0, true)) rfl rfl (fun j u hu => Kit.lit_at _ (Mo.reC (y.id, 0, 0, true)) _ (by simp) j u hu) (Mo.dropR_one _) ?_; intro v' w5 ho hg; have HG2 := qh ho; clear ho hg)
    go_roundg (x.sg.length - (i + 1))
    case measure => omega
    case rel => exact ⟨i + 1, by go_num, by omega, Nat.le_refl _, qh (by rw [HE1.out, List.length_append, List.flatMap_append]; simpa using HG2.out)⟩
   all_goals
    have HE1 := qh (show Mo.dropR (Mo.ofT x role bar (i + 1)) = Mo.dropR (Mo.ofT x role bar i) by rw [HST.out, if_neg (by rw [HM.out]; decide), List.append_nil])
    go_wp2_with fail
    go_roundg (x.sg.length - (i + 1))
    case measure => omega
    case rel => exact ⟨i + 1, by go_num, by omega, Nat.le_refl _, qh (by rw [HE1.out]; exact HG.out.alloc _)⟩
  ·obtain rfl : i = x.sg.length := by omega
   have hall : Mo.ofT x role bar x.sg.length = Mo.ofI x role bar := by unfold Mo.ofT Mo.ofI; rw [List.take_length]
   rw [hall] at HG
   obtain ⟨aV, cV, rfl⟩ := Kit.own_shape HG.out.own
   have HRS := qh (Kit.own_sl HG.out.own (Mo.re_get (Mo.dropR (Mo.ofI x role bar)))).1
   have HLL := qh (show l.length = (Mo.dropR (Mo.ofI x role bar)).length by rw [Mo.dropR_len]; exact HO.out.perm.length_eq)
   clear hlt hk hi hall HG HA hlen HQ6 HO HGG
   rw [HLL.out]
   obtain ⟨RR, hRR⟩ : ∃ r, Mo.dropR (Mo.ofI x role bar) = r := ⟨_, rfl⟩
   rw [hRR] at HRS ⊢
   have HRR := qh hRR
   clear hRR HLL
   go_upto_region 15 with fail
   refine wp_region_lit ?_
   refine Kit.load_bk0 rfl 32 (.tmp 5) rfl w.heap.size rfl HQ.out.wk Tryz.underlying32 rfl (Mo.szQ _ _) ?_
   refine Kit.wpList_run rfl (.int .i64 role) _ rfl ?_
   refine Kit.wpList_run rfl (.int .i64 bar) _ rfl ?_
   refine Kit.load_bk0 rfl 37 (.tmp 8) rfl (w.heap.size + 1) rfl HQ.out.st Tryz.underlying37 rfl (Mo.szS s) ?_
   simp only [Act.put]
   go_simp
   go_wp2_with fail
   refine (HEN.out _ HQ.out.bel RR aV cV HRS.out).mono ?_
   rintro _ V1 ⟨⟨t1, e1, rfl, ht1⟩, hb⟩
   have Ht1 := qh ht1
   clear ht1
   have HRSx := qh (HRS.out.kept hb nlr)
   clear HRS
   have HRS := qh HRSx.out
   clear HRSx
   have HQx := qh (HQ.out.then hb)
   clear HQ
   have HQ := qh HQx.out
   clear HQx
   clear hb
   go_upto_region 16 with fail
   refine Kit.wp_name ?_
   intro U1 hW
   have hb : Below V1.heap.size V1 U1 := by rw [hW]; exact (Below.refl _ _).alloc nlr _
   have HRSx := qh (HRS.out.kept hb nlr)
   clear HRS
   have HRS := qh HRSx.out
   clear HRSx
   have HQx := qh (HQ.out.then hb)
   clear HQ
   have HQ := qh HQx.out
   clear HQx
   have Qk1 := qh (show Kit.Bk U1 V1.heap.size 37 (Mo.stA t1) by rw [hW]; exact Kit.Bk.new _ _ _)
   obtain ⟨k1, hB⟩ : ∃ b, V1.heap.size = b := ⟨_, rfl⟩
   rw [hB] at Qk1 ⊢
   clear hW hB hb
   go_upto_region 16 with fail
   refine wp_region_lit ?_
   refine Kit.load_bk0 rfl 32 (.tmp 5) rfl w.heap.size rfl HQ.out.wk Tryz.underlying32 rfl (Mo.szQ _ _) ?_
   refine Kit.wpList_run rfl (.int .i64 role) _ rfl ?_
   refine Kit.wpList_run rfl (.int .i64 bar) _ rfl ?_
   refine Kit.load_bk0 rfl 37 (.tmp 8) rfl (w.heap.size + 1) rfl HQ.out.st Tryz.underlying37 rfl (Mo.szS s) ?_
   refine Kit.load_bk0 rfl 48 (.tmp 9) rfl (w.heap.size + 2) rfl HQ.out.bd Tryz.underlying48 rfl (Mo.szBd b) ?_
   simp only [Act.put]
   go_simp
   go_wp2_with fail
   refine (HSW.out _ HQ.out.bel RR aV cV HRS.out).mono ?_
   rintro _ V2 ⟨⟨t2, e2, rfl, ht2⟩, hb⟩
   have Ht2 := qh ht2
   clear ht2
   have HRSx := qh (HRS.out.kept hb nlr)
   clear HRS
   have HRS := qh HRSx.out
   clear HRSx
   have HQx := qh (HQ.out.then hb)
   clear HQ
   have HQ := qh HQx.out
   clear HQx
   have Qk1x := qh (Qk1.out.below hb Qk1.out.lt)
   clear Qk1
   have Qk1 := qh Qk1x.out
   clear Qk1x
   clear hb
   go_upto_region 17 with fail
   refine Kit.wp_name ?_
   intro U2 hW
   have hb : Below V2.heap.size V2 U2 := by rw [hW]; exact (Below.refl _ _).alloc nlr _
   have HRSx := qh (HRS.out.kept hb nlr)
   clear HRS
   have HRS := qh HRSx.out
   clear HRSx
   have HQx := qh (HQ.out.then hb)
   clear HQ
   have HQ := qh HQx.out
   clear HQx
   have Qk1x := qh (Qk1.out.below hb Qk1.out.lt)
   clear Qk1
   have Qk1 := qh Qk1x.out
   clear Qk1x
   have Qk2 := qh (show Kit.Bk U2 V2.heap.size 52 (Mo.bxA t2) by rw [hW]; exact Kit.Bk.new _ _ _)
   obtain ⟨k2, hB⟩ : ∃ b, V2.heap.size = b := ⟨_, rfl⟩
   rw [hB] at Qk2 ⊢
   clear hW hB hb
   go_upto_region 17 with fail
   refine wp_region_lit ?_
   refine Kit.load_bk0 rfl 37 (.tmp 8) rfl (w.heap.size + 1) rfl HQ.out.st Tryz.underlying37 rfl (Mo.szS s) ?_
   refine Kit.load_bk0 rfl 48 (.tmp 9) rfl (w.heap.size + 2) rfl HQ.out.bd Tryz.underlying48 rfl (Mo.szBd b) ?_
   simp only [Act.put]
   go_simp
   go_wp2_with fail
   refine (HEX.out _ HQ.out.bel).mono ?_
   rintro _ V3 ⟨⟨t3, e3, rfl, ht3⟩, hb⟩
   have Ht3 := qh ht3
   clear ht3
   have HRSx := qh (HRS.out.kept hb nlr)
   clear HRS
   have HRS := qh HRSx.out
   clear HRSx
   have HQx := qh (HQ.out.then hb)
   clear HQ
   have HQ := qh HQx.out
   clear HQx
   have Qk1x := qh (Qk1.out.below hb Qk1.out.lt)
   clear Qk1
   have Qk1 := qh Qk1x.out
   clear Qk1x
   have Qk2x := qh (Qk2.out.below hb Qk2.out.lt)
   clear Qk2
   have Qk2 := qh Qk2x.out
   clear Qk2x
   clear hb
   go_upto_region 18 with fail
   refine Kit.wp_name ?_
   intro U3 hW
   have hb : Below V3.heap.size V3 U3 := by rw [hW]; exact (Below.refl _ _).alloc nlr _
   have HRSx := qh (HRS.out.kept hb nlr)
   clear HRS
   have HRS := qh HRSx.out
   clear HRSx
   have HQx := qh (HQ.out.then hb)
   clear HQ
   have HQ := qh HQx.out
   clear HQx
   have Qk1x := qh (Qk1.out.below hb Qk1.out.lt)
   clear Qk1
   have Qk1 := qh Qk1x.out
   clear Qk1x
   have Qk2x := qh (Qk2.out.below hb Qk2.out.lt)
   clear Qk2
   have Qk2 := qh Qk2x.out
   clear Qk2x
   have Qk3 := qh (show Kit.Bk U3 V3.heap.size 52 (Mo.bxA t3) by rw [hW]; exact Kit.Bk.new _ _ _)
   obtain ⟨k3, hB⟩ : ∃ b, V3.heap.size = b := ⟨_, rfl⟩
   rw [hB] at Qk3 ⊢
   clear hW hB hb
   have ht1 := Ht1.out
   have ht2 := Ht2.out
   have ht3 := Ht3.out
   rw [← HRR.out] at ht1 ht2
   unfold Mo.ExtR at ht3
   rw [if_neg (by rw [HOK.out]; decide), if_neg (by rw [HBK.out]; decide)] at ht3
   obtain ⟨rfl, rfl⟩ := Mo.dropped_end HER.out HOK.out ht1
   obtain ⟨rfl, rfl⟩ := Mo.dropped_sw HER.out HOK.out HBK.out ht2
   obtain ⟨rfl, rfl⟩ := ht3
   clear ht1 ht2 Ht1 Ht2 Ht3
   obtain ⟨EX, hEX⟩ : ∃ t, Mo.extent t1 b = t := ⟨_, rfl⟩
   rw [hEX] at Qk2 Qk3
   clear hEX
   have qk1 : ∀ j, U3.cell? ⟨k1, j, none⟩ = (Mo.stA t1)[j]? := fun j => Qk1.out.cell j
   have qk2 : ∀ j, U3.cell? ⟨k2, j, none⟩ = (Mo.bxA EX)[j]? := fun j => Qk2.out.cell j
   have qk3 : ∀ j, U3.cell? ⟨k3, j, none⟩ = (Mo.bxA EX)[j]? := fun j => Qk3.out.cell j
   have q0 : ∀ j, U3.cell? ⟨w.heap.size + 1, j, none⟩ = (Mo.stA t1)[j]? := fun j => HQ.out.st.cell j
   have hq1 := fun W => Mo.eq_st t1 W
   have hq2 := fun W => Mo.eq_bx EX W
   have HBE := qh HQ.out.bel
   clear Qk1 Qk2 Qk3 HQ HEN HSW HEX HER HOK HBK HRS HRR
   go_wp2_with fail
   go_ret
   exact ⟨rfl, HBE.out⟩
end Go.Proofs.YtedolbjgdedoaaaGreatDoor
