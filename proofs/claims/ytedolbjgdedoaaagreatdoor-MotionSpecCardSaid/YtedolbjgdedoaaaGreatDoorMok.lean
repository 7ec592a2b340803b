/- Walks: package expand: Of. Walks: the library's Clone and SortFunc at signs; package motion: the comparison by IDs. Walks: package motion: steps. -/
import Derived.Test.YtedolbjgdedoaaaGreatDoorMou
import Derived.Test.YtedolbjgdedoaaaGreatDoorMoy
import Derived.Test.YtedolbjgdedoaaaGreatDoorStx
import Derived.Test.YtedolbjgdedoaaaGreatDoorKixz
import Derived.Test.YtedolbjgdedoaaaGreatDoorMod
import Derived.Test.YtedolbjgdedoaaaGreatDoorKbx
import Derived.WalkMore
import Derived.Test.YtedolbjgdedoaaaGreatDoorKih
import Derived.Deep.LoopGhost
set_option linter.unusedSimpArgs false
set_option linter.unusedVariables false
set_option maxRecDepth 100000
set_option maxHeartbeats 8000000
namespace Go.Proofs.YtedolbjgdedoaaaGreatDoor
open Go.RowKit Go.Shelf
namespace Mo
theorem elS : Kit.El Tryz.prog 30 60 (.agg #[.int .i64 0, .int .i64 0, .int .i64 0, .int .i64 0, .int .i64 0, .int .i64 0, .int .i64 0, .int .i64 0, .int .i64 0, .int .i64 0, .int .i64 0, .int .i64 0, .int .i64 0, .int .i64 0]) 14 112 := ⟨Tryz.underlying30, by kernel_rfl, rfl, by omega, by omega⟩
def ofE (x : Ex.Wk) (role bar : Int) : Int := if Ex.chk x ≠ 0 then Ex.chk x else if (Tp.inb role 0 (x.ro.length - 1) && Tp.inb bar 0 (x.n - 1)) = true then 0 else 1
def ofT (x : Ex.Wk) (role bar : Int) (i : Nat) : List Ex.Sg := (x.sg.take i).filter (mine bar role)
theorem ofT_step (x : Ex.Wk) (role bar : Int) (i : Nat) (h : i < x.sg.length) (k : Ex.Sg) (hk : x.sg.getD i default = k) : ofT x role bar (i + 1) = ofT x role bar i ++ (if mine bar role k = true then [k] else []) := by
 unfold ofT
 have e : x.sg.getD i default = x.sg[i] := by simp [List.getD, h]
 rw [List.take_succ_eq_append_getElem h, ← e, hk, List.filter_append]
 congr 1
 by_cases hm : mine bar role k = true <;> simp [hm]
theorem ofT_len (x : Ex.Wk) (role bar : Int) (i : Nat) : (ofT x role bar i).length ≤ i := by
 unfold ofT
 exact Nat.le_trans (List.length_filter_le _ _) (by rw [List.length_take]; exact Nat.min_le_left _ _)
abbrev wkC (x : Ex.Wk) (p : Ex.Wa) : Array Value := #[.int .i64 x.wd, .int .i64 x.dp, .int .i64 x.ta, .int .i64 x.tb, .int .i64 x.tc, .slice p.aR x.ro.length p.cR, .int .i64 x.n, .slice p.aT x.ts.length p.cT, .slice p.aP x.ps.length p.cP, .slice p.aS x.ss.length p.cS, .slice p.aG x.sg.length p.cG]
structure WB (w : World) (x : Ex.Wk) (p : Ex.Wa) (W : World) : Prop where
 bel : Below w.heap.size w W
 wk : ∀ j, W.cell? ⟨w.heap.size, j, none⟩ = (wkC x p)[j]?
 z : w.heap.size < W.heap.size
theorem WB.then {w W W' : World} {x : Ex.Wk} {p : Ex.Wa} (h : WB w x p W) (hb : Below W.heap.size W W') : WB w x p W' := by
 have hz := h.z
 exact ⟨h.bel.trans (hb.mono h.bel.size), fun j => (World.cell?_of_block (hb.block w.heap.size omg)).trans (h.wk j), Nat.lt_of_lt_of_le hz hb.size⟩
end Mo
theorem ex_before (a b : Mo.Vg) (w : World) : Calls Tryz.prog 61 #[.agg (Mo.sgC a.1).toArray, .agg (Mo.sgC b.1).toArray] w fun e w' => e = .returned (.int .i64 (Mo.cf a b)) ∧ Below w.heap.size w w' := by
 obtain ⟨a, ha⟩ := a
 obtain ⟨b, hb⟩ := b
 have HC := qh (fun W => (by have h := ex_cmp a.fn a.fd b.fn b.fd W; unfold Ra.Cmp Ex.cmpC Ex.cmpE at h; rw [ha, hb] at h; exact h : Calls Tryz.prog 62 #[Ra.V a.fn a.fd, Ra.V b.fn b.fd] W fun e w' => e = .returned (.tuple #[.int .i64 (Mo.cf ⟨a, ha⟩ ⟨b, hb⟩), .int .i64 0]) ∧ Below W.heap.size W w'))
 generalize Mo.cf ⟨a, ha⟩ ⟨b, hb⟩ = c at *
 unfold Mo.sgC
 dsimp only [List.toArray]
 go_enter Tryz.func61, Tryz.ntmps61
 go_wp2_with (refine (HC.out _).mono ?_; rintro _ w' ⟨rfl, hb⟩)
 go_ret
 exact ⟨rfl, Below.trans (B := w.heap.size) (by exact Kit.gr) (hb.mono (by simp; omega))⟩
theorem ex_of (x : Ex.Wk) (p : Ex.Wa) (w : World) (hL : Ex.Laid w) (ha : Ex.At w x p) (role bar : Int) :
  Calls Tryz.prog 24 #[Ex.workV x p, .int .i64 role, .int .i64 bar] w fun e w' => (∃ v l, e = .returned (.tuple #[v, .int .i64 (Mo.ofE x role bar)]) ∧ (Mo.ofE x role bar = 0 → Mo.Of x role bar l) ∧ w'.ownsRow w.heap.size 60 14 v l.length (l.flatMap Mo.sgC)) ∧ Below w.heap.size w w' := by
 obtain ⟨er, her⟩ : ∃ er, Mo.ofE x role bar = er := ⟨_, rfl⟩
 rw [her]
 have HER := qh (show er = if Ex.chk x ≠ 0 then Ex.chk x else if (Tp.inb role 0 (x.ro.length - 1) && Tp.inb bar 0 (x.n - 1)) = true then 0 else 1 from her.symm)
 have HCK := qh (fun W (hb : Below w.heap.size w W) => ex_check x p W (ha.kept hb nlr) (hL.kept hb nlr))
 have HSG := qh (show Tp.Sl w p.aG x.sg.length 14 (Ex.sgc x.sg) from ha.sg)
 have HGD := qh (show Ex.chk x = 0 → Ex.Good x from Ex.good_of)
 have hlro := ha.lro
 have HI := qh (fun n lo hi W => ex_in n lo hi W)
 obtain ⟨c0, hc0⟩ : ∃ c, Ex.chk x = c := ⟨_, rfl⟩
 obtain ⟨b1, hb1⟩ : ∃ b, Tp.inb role 0 (x.ro.length - 1) = b := ⟨_, rfl⟩
 obtain ⟨b2, hb2⟩ : ∃ b, Tp.inb bar 0 (x.n - 1) = b := ⟨_, rfl⟩
 rw [hc0] at HCK HER HGD
 rw [hb1, hb2] at HER
 have HI1 := qh (fun W => hb1 ▸ HI.out role 0 (x.ro.length - 1) W)
 have HI2 := qh (fun W => hb2 ▸ HI.out bar 0 (x.n - 1) W)
 have HBN := qh (show c0 = 0 → 1 ≤ x.n ∧ x.n ≤ 4096 from fun h => by
  have h2 := ((Mo.chk_iff x).1 (hc0.trans h)).2.1
  unfold Tp.chk at h2
  split at h2
  ·split at h2
   ·rename_i hok
    unfold Tp.okC at hok
    simp only [Bool.and_eq_true] at hok
    exact (Tp.inb_iff _ _ _).1 hok.1.1.1.1.1.1
   ·cases h2
  ·cases h2)
 clear her hc0 hb1 hb2 HI hL ha
 obtain ⟨aR, cR, aT, cT, aP, cP, aS, cS, aG, cG⟩ := p
 unfold Ex.Chk at HCK
 dsimp only [Ex.workV, Ex.wv] at HCK HSG
 go_enter Tryz.func24, Tryz.ntmps24
 go_upto_region 1 with fail
 refine Kit.wp_name ?_
 intro W1 hW1
 have HW1 := qh (show Mo.WB w x ⟨aR, cR, aT, cT, aP, cP, aS, cS, aG, cG⟩ W1 by
  rw [hW1]
  exact ⟨by exact Kit.gr, fun j => by simp [go_sem], by simp⟩)
 clear hW1
 have wk1 := HW1.out.wk
 go_wp2_with fail
 refine (HCK.out _ HW1.out.bel).mono ?_
 rintro _ W2 ⟨rfl, hb⟩
 have HW2 := qh (HW1.out.then hb)
 clear hb HW1 wk1
 by_cases h0 : c0 = 0
 case neg =>
  have c1 : (c0 != 0) = true := by simpa using h0
  have HE := qh (show er = c0 by rw [HER.out, if_pos h0])
  have hz := HE.out
  have HNE := qh (show er ≠ 0 by rw [hz]; exact h0)
  clear h0 hz
  go_wp2_with fail
  go_ret2
  exact ⟨⟨.slice none 0 0, [], by rw [HE.out]; rfl, fun h => absurd h HNE.out, World.ownsRow_nil _ _ _ _⟩, HW2.out.bel⟩
 subst h0
 have hg := HGD.out rfl
 have hro := hg.roles
 have hlen := hg.len
 obtain ⟨hn1, hn2⟩ := HBN.out rfl
 have HGG := qh hg
 clear hg
 have hw1 : IntKind.i64.wrap ((x.ro.length : Int) - 1) = (x.ro.length : Int) - 1 := by rw [IntKind.wrap_i64] <;> omega
 have hw2 : IntKind.i64.wrap (x.n - 1) = x.n - 1 := by rw [IntKind.wrap_i64] <;> omega
 have wk2 := HW2.out.wk
 have HIA := qh (show ∀ W : World, Calls Tryz.prog 49 #[.int .i64 role, .int .i64 0, .int .i64 ((x.ro.length : Int) - 1)] W fun e w' => e = .returned (.bool b1) ∧ w' = W from fun W => (HI1.out W).mono fun e w' h => ⟨h.1, h.2.symm⟩)
 have HIB := qh (show ∀ W : World, Calls Tryz.prog 49 #[.int .i64 bar, .int .i64 0, .int .i64 (x.n - 1)] W fun e w' => e = .returned (.bool b2) ∧ w' = W from fun W => (HI2.out W).mono fun e w' h => ⟨h.1, h.2.symm⟩)
 clear HI1 HI2
 rcases b1 with _ | _
 case' true => rcases b2 with _ | _
 case true.false | false =>
  have HE := qh (show er = 1 by rw [HER.out]; rfl)
  go_wp2_with (first | (with_reducible refine (HIA.out _).mono ?_; rintro _ w' ⟨rfl, hw⟩; subst w') | (with_reducible refine (HIB.out _).mono ?_; rintro _ w' ⟨rfl, hw⟩; subst w'))
  go_ret2
  exact ⟨⟨.slice none 0 0, [], by rw [HE.out]; rfl, fun h => absurd (HE.out.symm.trans h) (by decide), World.ownsRow_nil _ _ _ _⟩, HW2.out.bel⟩
 have HE := qh (show er = 0 by rw [HER.out]; rfl)
 clear HER HBN HCK HGD
 go_wp2_with (first | (with_reducible refine (HIA.out _).mono ?_; rintro _ w' ⟨rfl, hw⟩; subst w') | (with_reducible refine (HIB.out _).mono ?_; rintro _ w' ⟨rfl, hw⟩; subst w'))
 clear HIA HIB hw1 hw2 wk2
 go_loopg [6, 35] x.sg.length (fun kx v6 v35 wr => ∃ i : Nat, v35 = .int .i64 i ∧ i ≤ x.sg.length ∧ x.sg.length - i ≤ kx ∧ Hid (Kit.Gw W2 60 14 v6 (Mo.ofT x role bar i).length ((Mo.ofT x role bar i).flatMap Mo.sgC) wr))
 case atStart => exact ⟨0, rfl, by omega, by omega, qh (Kit.Gw.start _ _ _)⟩
 case round =>
  obtain ⟨i, rfl, hi, hk, HG⟩ := hrel
  have HW := qh (HW2.out.then HG.out.bel)
  by_cases hlt : i < x.sg.length
  ·have hltz : (i : Int) < (x.sg.length : Int) := by omega
   have hsl := HSG.out.kept HW.out.bel nlr
   obtain ⟨ad, rfl, hadb, _⟩ := HSG.out.at hlt
   (have e0 := hsl.head hlt omg; have e1 := hsl.field hlt (j := 1) omg omg; have e2 := hsl.field hlt (j := 2) omg omg; have e3 := hsl.field hlt (j := 3) omg omg; have e4 := hsl.field hlt (j := 4) omg omg; have e5 := hsl.field hlt (j := 5) omg omg; have e6 := hsl.field hlt (j := 6) omg omg; have e7 := hsl.field hlt (j := 7) omg omg; have e8 := hsl.field hlt (j := 8) omg omg; have e9 := hsl.field hlt (j := 9) omg omg; have e10 := hsl.field hlt (j := 10) omg omg; have e11 := hsl.field hlt (j := 11) omg omg; have e12 := hsl.field hlt (j := 12) omg omg; have e13 := hsl.field hlt (j := 13) omg omg; obtain ⟨y, hy_⟩ : ∃ y, x.sg.getD i default = y := ⟨_, rfl⟩; simp only [Ex.sgc, hy_] at e0 e1 e2 e3 e4 e5 e6 e7 e8 e9 e10 e11 e12 e13)
   have HST := qh (Mo.ofT_step x role bar i hlt y hy_)
   have HLN := qh (Mo.ofT_len x role bar i)
   clear hsl hy_
   rcases d1 : (y.role == role) with _ | _
   case' false => have HM := qh (show Mo.mine bar role y = false by unfold Mo.mine; rw [d1]; rfl)
   case' true =>
    rcases d2 : (y.bar == bar) with _ | _
    case' false => have HM := qh (show Mo.mine bar role y = false by unfold Mo.mine; rw [d1, d2]; rfl)
    case' true => have HM := qh (show Mo.mine bar role y = true by unfold Mo.mine; rw [d1, d2]; rfl)
   case true.true =>
    have HE1 := qh (show Mo.ofT x role bar (i + 1) = Mo.ofT x role bar i ++ [y] by rw [HST.out, if_pos HM.out])
    go_wp2_with (at_builtin; refine Kit.wpList_app Mo.elS _ rfl _ _ rfl _ _ _ ((HG.out.alloc _).alloc _) rfl (by have := HLN.out; omega) ⟨wr.heap.size + 1, 0, none⟩ 1 (Mo.sgC y) rfl rfl (fun j u hu => Kit.lit_at _ (Mo.sgC y) _ (by simp) j u hu) (Mo.sgC_one y) ?_; intro v' w5 ho hg; have HG2 := qh ho; clear ho hg)
    go_roundg (x.sg.length - (i + 1))
    case measure => omega
    case rel => exact ⟨i + 1, by go_num, by omega, Nat.le_refl _, qh (by rw [HE1.out, List.length_append, List.flatMap_append]; simpa using HG2.out)⟩
   all_goals
    have HE1 := qh (show Mo.ofT x role bar (i + 1) = Mo.ofT x role bar i by rw [HST.out, if_neg (by rw [HM.out]; decide), List.append_nil])
    go_wp2_with fail
    go_roundg (x.sg.length - (i + 1))
    case measure => omega
    case rel => exact ⟨i + 1, by go_num, by omega, Nat.le_refl _, qh (by rw [HE1.out]; exact HG.out.alloc _)⟩
  ·obtain rfl : i = x.sg.length := by omega
   obtain ⟨l', hl', hof⟩ := Mo.of_sort HGG.out role bar
   have hall : Mo.ofT x role bar x.sg.length = Mo.ofI x role bar := by unfold Mo.ofT Mo.ofI; rw [List.take_length]
   have hown := HG.out.own
   have hfe : (Mo.ofI x role bar).flatMap Mo.sgC = l'.flatMap (fun s => Mo.sgC s.1) := by rw [← hl', List.flatMap_map]
   have hln : (Mo.ofI x role bar).length = l'.length := by rw [← hl', List.length_map]
   rw [hall, hfe, hln] at hown
   have hlen' : l'.length ≤ 4096 := by rw [← hln]; exact Nat.le_trans (List.length_filter_le _ _) hlen
   have HS := qh (Sts.sort_own Sts.laid Sts.laidS Sts.ren Sts.laid20 rfl rfl (fun s : Mo.Vg => Mo.sgC s.1) (fun _ => rfl) (fun s => Mo.sgC_one s.1) Mo.cf Mo.cf_cmp 61 #[] (enters_of Tryz.func61 (by kernel_rfl) rfl) (fun a b W => by simpa only [Array.append_empty] using ex_before a b W) u6 W2.heap.size 60 l' wr omg hown)
   have HOF := qh hof
   have HLO := qh (fun g (hg : u6.ownBlock = some g) => hown.lt g hg)
   clear hof hall hfe hln hl' hown
   go_wp2_with fail
   refine HS.out.mono ?_
   rintro _ W9 ⟨rfl, ho, hx⟩
   have HO9 := qh ho
   have HX9 := qh hx
   clear ho hx
   go_wp2_with fail
   go_ret2
   refine ⟨⟨u6, (l'.mergeSort fun x y => decide (Mo.cf x y ≤ 0)).map (fun s => s.1), by rw [HE.out]; rfl, fun _ => HOF.out, ?_⟩, ?_⟩
   ·rw [List.length_map, List.length_mergeSort, List.flatMap_map]
    exact HO9.out.mono HW2.out.bel.size
   ·exact HW.out.bel.trans (HX9.out.below (n := w.heap.size) HW.out.bel.size (fun g hg => Nat.le_trans HW2.out.bel.size (HLO.out g hg).1))
end Go.Proofs.YtedolbjgdedoaaaGreatDoor

namespace Go.Proofs.YtedolbjgdedoaaaGreatDoor
open Go.RowKit Go.Shelf Go.Sort
namespace Mo
theorem sgInfo : (Tryz.prog.info? 60).map (fun i => (i.zero, i.size, i.bytes)) = some (some (Ex.sgV default), 14, 112) := by kernel_rfl
theorem sg_get (l : List Ex.Sg) (i j : Nat) (hi : i < l.length) (hj : j < 14) : (l.flatMap sgC)[i * 14 + j]? = some (Ex.sgc l i j) := by
 rw [Kit.flatGet sgC_len l i j hi hj]
 unfold Ex.sgc
 generalize l.getD i default = s
 rcases j with _ | _ | _ | _ | _ | _ | _ | _ | _ | _ | _ | _ | _ | _ | j <;> first | rfl | omega
theorem sgs_one (l : List Ex.Sg) : ∀ u ∈ l.flatMap sgC, u.oneCell' = true := by
 intro u hu
 obtain ⟨s, _, h⟩ := List.mem_flatMap.1 hu
 exact sgC_one s u h
theorem sgs_len (l : List Ex.Sg) : (l.flatMap sgC).length = l.length * 14 := by
 induction l with
 | nil => rfl
 | cons s l ih => simp [sgC] at ih ⊢; omega
def idc (a b : Ex.Sg) : Int := Ra.sg a.id b.id
theorem lt_idc (a b : Ex.Sg) : ltOf idc a b = decide (a.id < b.id) := by
 unfold ltOf idc Ra.sg
 by_cases h : a.id < b.id
 ·simp [h]
 ·by_cases h2 : b.id < a.id <;> simp [h, h2]
theorem idc_swo : SWO (ltOf idc) where
 irrefl x := by rw [lt_idc]; simp
 trans x y z h1 h2 := by
  rw [lt_idc] at *
  have := of_decide_eq_true h1
  have := of_decide_eq_true h2
  exact decide_eq_true omg
 ntrans x y z h1 h2 := by
  rw [lt_idc] at *
  have := of_decide_eq_false h1
  have := of_decide_eq_false h2
  exact decide_eq_false omg
theorem sorted_eq {l S m : List Ex.Sg} (hp : l.Perm S) (hs : S.Pairwise fun a b => a.id < b.id) (hm : m.Perm l) (h : m.Pairwise fun a b => ltOf idc b a = false) : m = S := by
 have hms := hm.trans hp
 refine List.Perm.eq_of_pairwise (le := fun a b => ¬ b.id < a.id) ?_ (h.imp fun {a b} e => by rw [lt_idc] at e; exact of_decide_eq_false e) (hs.imp fun {a b} e => by omega) hms
 intro a b ha hb h1 h2
 have ha' := hms.mem_iff.1 ha
 obtain ⟨i, hi, rfl⟩ := List.mem_iff_getElem.1 ha'
 obtain ⟨j, hj, rfl⟩ := List.mem_iff_getElem.1 hb
 rcases Nat.lt_trichotomy i j with e | rfl | e
 ·have := List.pairwise_iff_getElem.1 hs i j hi hj e; omega
 ·rfl
 ·have := List.pairwise_iff_getElem.1 hs j i hj hi e; omega
end Mo
theorem mo_by (a b : Ex.Sg) (w : World) : Calls Tryz.prog 69 #[.agg (Mo.sgC a).toArray, .agg (Mo.sgC b).toArray] w fun e w' => e = .returned (.int .i64 (Mo.idc a b)) ∧ Below w.heap.size w w' := by
 have HC := qh (fun W => cm_cmp_b a.id b.id W)
 unfold Mo.idc
 unfold Mo.sgC
 dsimp only [List.toArray]
 go_enter Tryz.func69, Tryz.ntmps69
 go_wp2_with (refine (HC.out _).mono ?_; rintro _ w' ⟨rfl, hb⟩)
 go_ret
 exact ⟨rfl, Below.trans (B := w.heap.size) (by exact Kit.gr) (hb.mono (by simp; omega))⟩
theorem sg_clone (a : Option Addr) (c : Nat) (l : List Ex.Sg) (w : World) (hb : l.length ≤ 1000000) (hS : Tp.Sl w a l.length 14 (Ex.sgc l)) :
  Calls Tryz.prog 67 #[.slice a l.length c] w
   fun e w' => ∃ v, e = .returned v ∧ w'.ownsRow w.heap.size 60 14 v l.length (l.flatMap Mo.sgC) ∧ Below w.heap.size w w' := by
 have HS := qh hS; clear hS
 have q22 : ∀ (w : World) (a : Option Addr) (n c n' c' : Nat), (binOp .eql 30 (.slice a n c) (.slice none n' c')).run Tryz.prog w = .ok (.bool a.isNone) w := fun w a n c n' c' => Lib.run_eql_slice_nil w _ _ a n c n' c' Tryz.underlying30
 rcases a with _ | ay
 ·have hl : l.length = 0 := by
   rcases HS.out with h | ⟨ad, h, _⟩
   ·exact h
   ·cases h
  obtain rfl := List.eq_nil_of_length_eq_zero hl
  go_enter Tryz.func67, Tryz.ntmps67
  go_wp2
  go_ret
  exact ⟨_, rfl, World.ownsRow_nil _ _ _ _, Below.refl _ _⟩
 ·obtain ⟨i0, hi, hz0, hz1, hz2⟩ := info_parts Mo.sgInfo
  go_enter Tryz.func67, Tryz.ntmps67
  go_wp2_with (at_builtin; refine wpList_append_own _ rfl _ _ 30 rfl w.heap.size 60 i0 (Ex.sgV default) 14 112 Tryz.underlying30 hi hz0 hz1 hz2 rfl (by decide) _ _ _ rfl (World.ownsRow_made w #[] 0 nlr (Nat.zero_le _) (by simp)) ay l.length c (l.flatMap Mo.sgC) rfl ?qc1 ?qc2 ?qc3 ?qc4 ?qc5 ?qc6 ?_)
  case qc1 => exact Mo.sgs_len l
  case qc2 =>
   intro j u hj
   have hjl : j < l.length * 14 := by rw [← Mo.sgs_len]; exact (List.getElem?_eq_some_iff.1 hj).1
   have h1 := Mo.sg_get l (j / 14) (j % 14) omg omg
   rw [show j / 14 * 14 + j % 14 = j by omega, hj] at h1
   obtain ⟨ad, had, hb', hc⟩ := HS.out.at (show j / 14 < l.length by omega)
   cases had
   have h2 := hc (j % 14) omg
   rw [show j / 14 * 14 + j % 14 = j by omega] at h2
   rw [h1]
   exact Lib.cell?_alloc_some _ h2
  case qc3 => exact Mo.sgs_one l
  case qc4 => unfold maxLen; omega
  case qc5 => omega
  case qc6 => simp
  intro v' w1 hown hgrow hnil
  have HO := qh hown
  have HG := qh hgrow
  clear hown hgrow
  go_wp2
  go_ret
  refine ⟨_, rfl, by simpa using HO.out, ?_⟩
  exact (((Kit.Exc.refl (fun _ => False) w).alloc _).grown HG.out (fun k hk => .inr (by simp [Value.ownBlock] at hk; omega))).below nlr (fun _ h => h.elim)
theorem sg_sort (l S : List Ex.Sg) (hp : l.Perm S) (hs : S.Pairwise fun a b => a.id < b.id) (v : Value) (s : Nat) (w : World) (hb : l.length ≤ 1000000000) (hS : w.ownsRow s 60 14 v l.length (l.flatMap Mo.sgC)) :
  Calls Tryz.prog 68 #[v, .func (.func 69) #[] #[]] w
   fun e w' => e = .returned (.tuple #[]) ∧ w'.ownsRow s 60 14 v S.length (S.flatMap Mo.sgC) ∧ Kit.Exc (fun q => v.ownBlock = some q) w w' := by
 refine (Kit.sort_own sortSign 14 Tryz.isAgg60 Tryz.sizeOf60 Mo.sgC Mo.sgC_len Mo.sgC_one Mo.idc Mo.idc_swo 69
  (enters_of Tryz.func69 (by kernel_rfl) rfl) (fun x y W => mo_by x y W) v s 60 l w hb hS).mono ?_
 rintro e w' ⟨rfl, m', hpm, hsm, ho, hx⟩
 obtain rfl := Mo.sorted_eq hp hs hpm hsm
 exact ⟨rfl, ho, hx⟩
end Go.Proofs.YtedolbjgdedoaaaGreatDoor

namespace Go.Proofs.YtedolbjgdedoaaaGreatDoor
open Go.RowKit Go.Shelf
namespace Mo
def rcs (r : List Uo.Re) (i j : Nat) : Value := match j with
 | 0 => .int .i64 (r.getD i (0, 0, 0, false)).1
 | 1 => .int .i64 (r.getD i (0, 0, 0, false)).2.1
 | 2 => .int .i64 (r.getD i (0, 0, 0, false)).2.2.1
 | _ => .bool (r.getD i (0, 0, 0, false)).2.2.2
def spC (x : Ex.Sg × Uo.Re) : List Value := sgC x.1 ++ reC x.2
theorem spC_len (x : Ex.Sg × Uo.Re) : (spC x).length = 18 := rfl
theorem spC_one (x : Ex.Sg × Uo.Re) : ∀ v ∈ spC x, v.oneCell' = true := by simp [spC, sgC, reC, Value.oneCell']
abbrev spZ : Value := .agg #[.int .i64 0, .int .i64 0, .int .i64 0, .int .i64 0, .int .i64 0, .int .i64 0, .int .i64 0, .int .i64 0, .int .i64 0, .int .i64 0, .int .i64 0, .int .i64 0, .int .i64 0, .int .i64 0, .int .i64 0, .int .i64 0, .int .i64 0, .bool false]
theorem elP : Kit.El Tryz.prog 86 98 spZ 18 144 := ⟨Tryz.underlying86, by kernel_rfl, rfl, by omega, by omega⟩
theorem szG2 (k : Ex.Sg) : (Tryz.prog.info? 60).map (·.size) = some (sgC k).toArray.size := by kernel_rfl
theorem build0s (x : Ex.Sg) (r : Uo.Re) (W : World) : (Instr.build 98 #[(0, .agg (sgC x).toArray), (1, .agg (reC r).toArray)]).run Tryz.prog W = .ok (.agg (spC (x, r)).toArray) W := by kernel_rfl
theorem lit_sp (x : Ex.Sg × Uo.Re) (W : World) : (Instr.buildSlice 86 1 #[(0, .agg (spC x).toArray)]).run Tryz.prog W = .ok (.slice (some ⟨W.heap.size, 0, none⟩) 1 1) (W.alloc (.cells (spC x).toArray 98)) := by kernel_rfl
def outL (S : List Ex.Sg) (r : List Uo.Re) (l : List Ex.Sg) : List (Ex.Sg × Uo.Re) := l.map fun k => (k, pick S r k)
theorem outL_step (S : List Ex.Sg) (r : List Uo.Re) (l : List Ex.Sg) (i : Nat) (h : i < l.length) (x : Ex.Sg) (hx : l.getD i default = x) : outL S r (l.take (i + 1)) = outL S r (l.take i) ++ [(x, pick S r x)] := by
 have e : l[i] = x := by rw [← hx]; simp [List.getD_eq_getElem?_getD, List.getElem?_eq_getElem h]
 unfold outL
 rw [List.take_succ_eq_append_getElem h, e, List.map_append]
 rfl
theorem all_step (f : Ex.Sg → Bool) (l : List Ex.Sg) (i : Nat) (h : i < l.length) (x : Ex.Sg) (hx : l.getD i default = x) (ha : (l.take i).all f = true) : (l.take (i + 1)).all f = f x := by
 have e : l[i] = x := by rw [← hx]; simp [List.getD_eq_getElem?_getD, List.getElem?_eq_getElem h]
 rw [List.take_succ_eq_append_getElem h, e, List.all_append, ha]
 simp
theorem all_bad (f : Ex.Sg → Bool) (l : List Ex.Sg) (i : Nat) (h : i < l.length) (x : Ex.Sg) (hx : l.getD i default = x) (hf : f x = false) : l.all f = false := by
 have e : l[i] = x := by rw [← hx]; simp [List.getD_eq_getElem?_getD, List.getElem?_eq_getElem h]
 rw [List.all_eq_false]
 exact ⟨x, by rw [← e]; exact List.getElem_mem h, by simp [hf]⟩
end Mo
theorem mo_steps (S l : List Ex.Sg) (r : List Uo.Re) (aL aR : Option Addr) (cL cR : Nat) (w : World) (hp : l.Perm S) (hs : S.Pairwise fun a b => a.id < b.id) (hll : l.length ≤ 4096) (hL : Tp.Sl w aL l.length 14 (Ex.sgc l)) (hR : Tp.Sl w aR r.length 4 (Mo.rcs r)) :
  Calls Tryz.prog 33 #[.slice aL l.length cL, .slice aR r.length cR] w fun e w' => (∃ v, e = .returned (.tuple #[v, .bool (Mo.mot S r)]) ∧ (Mo.mot S r = true → w'.ownsRow w.heap.size 98 18 v l.length ((l.map fun k => (k, Mo.real r k.id)).flatMap Mo.spC))) ∧ Below w.heap.size w w' := by
 have hSl := hp.length_eq
 have HFD := qh (show l.length = r.length → Mo.mot S r = l.all (Mo.fd S r) from fun h => Mo.mot_fd hp hs (hSl.symm.trans h))
 have HPR := qh (show Mo.mot S r = true → Mo.outL S r l = l.map fun k => (k, Mo.real r k.id) from fun h => by
  unfold Mo.outL
  refine List.map_congr_left fun x hx => ?_
  rw [Mo.pick_real hs h x (hp.mem_iff.1 hx)])
 have HAT := qh (show l.length = r.length → ∀ k, k < l.length → ∃ p, p < S.length ∧ S.getD p default = l.getD k default ∧ Mo.pick S r (l.getD k default) = r.getD p (0, 0, 0, false) ∧ ∀ i, i < S.length → ((S.getD i default).id == (l.getD k default).id) = decide (i = p) from fun h => Mo.at_of hp hs (hSl.symm.trans h))
 have HNE := qh (show l.length ≠ r.length → Mo.mot S r = false from fun h => by
  unfold Mo.mot
  rw [show (S.length == r.length) = false by rw [← hSl]; simpa using h]
  rfl)
 obtain ⟨M, hM⟩ : ∃ M, Mo.mot S r = M := ⟨_, rfl⟩
 rw [hM] at HFD HPR HNE ⊢
 clear hM
 have HCL := qh (fun W (hb : Below w.heap.size w W) => sg_clone aL cL l W omg (hL.kept hb nlr))
 have HSO := qh (fun v s W (hS : W.ownsRow s 60 14 v l.length (l.flatMap Mo.sgC)) => sg_sort l S hp hs v s W omg hS)
 have HL := qh hL
 have HR := qh hR
 have HSL := qh hSl
 clear hL hR hp hs hSl
 by_cases hlen : l.length = r.length
 case neg =>
  have hM := HNE.out hlen
  subst hM
  have hq : ((l.length : Int) != (r.length : Int)) = true := by rw [bne_iff_ne]; omega
  clear hlen
  go_enter Tryz.func33, Tryz.ntmps33
  go_wp2_with fail
  go_step3
  go_wp2_with fail
  rw [Exit.noGoto_ret]
  go_ret2
  exact ⟨⟨.slice none 0 0, rfl, fun h => (by cases h)⟩, Below.refl _ _⟩
 have hq : ((l.length : Int) != (r.length : Int)) = false := by rw [hlen]; simp
 have HFD2 := qh (HFD.out hlen)
 have HAT2 := qh (HAT.out hlen)
 have HLEN := qh hlen
 clear HFD HNE HAT hlen
 go_enter Tryz.func33, Tryz.ntmps33
 go_wp2_with fail
 go_step3
 go_wp2_with fail
 refine (HCL.out _ (Below.refl _ _)).mono ?_
 rintro _ w1 ⟨v1, rfl, ho1, hb1⟩
 have HO1 := qh ho1
 have HB1 := qh hb1
 clear ho1 hb1 HCL
 go_wp2_with fail
 refine (HSO.out v1 w.heap.size w1 HO1.out).mono ?_
 rintro _ W2 ⟨rfl, ho2, hx2⟩
 have HB2 := qh (show Below w.heap.size w W2 from HB1.out.trans (hx2.below HB1.out.size (fun g hg => (HO1.out.lt g hg).1)))
 obtain ⟨aS, cS, rfl⟩ := Kit.own_shape ho2
 obtain ⟨hS, _, hSb⟩ := Kit.own_sl ho2 (Mo.sg_get S)
 have HS := qh hS
 clear ho2 hx2 hS hSb HO1 HB1 HSO
 go_wp2_with fail
 go_step3
 go_wp2_with fail
 clear hq
 go_loopg [4, 22] l.length (fun kx v4 v22 wr => ∃ i : Nat, v22 = .int .i64 i ∧ i ≤ l.length ∧ l.length - i ≤ kx ∧ Hid ((l.take i).all (Mo.fd S r) = true) ∧ Hid (Kit.Gw W2 98 18 v4 i ((Mo.outL S r (l.take i)).flatMap Mo.spC) wr))
 case atStart => exact ⟨0, rfl, by omega, by omega, qh rfl, qh (Kit.Gw.start _ _ _)⟩
 case round =>
  obtain ⟨i, rfl, hi, hk, HALL, HG⟩ := hrel
  have HB := qh (show Below w.heap.size w wr from HB2.out.trans (HG.out.bel.mono HB2.out.size))
  by_cases hlt : i < l.length
  ·have hltz : (i : Int) < (l.length : Int) := by omega
   have hsl := HL.out.kept HB.out nlr
   obtain ⟨P, hP1, hP2, hP3, hP4⟩ := HAT2.out i hlt
   obtain ⟨ad, rfl, hadb, _⟩ := HL.out.at hlt
   (have e0 := hsl.head hlt omg; have e1 := hsl.field hlt (j := 1) omg omg; have e2 := hsl.field hlt (j := 2) omg omg; have e3 := hsl.field hlt (j := 3) omg omg; have e4 := hsl.field hlt (j := 4) omg omg; have e5 := hsl.field hlt (j := 5) omg omg; have e6 := hsl.field hlt (j := 6) omg omg; have e7 := hsl.field hlt (j := 7) omg omg; have e8 := hsl.field hlt (j := 8) omg omg; have e9 := hsl.field hlt (j := 9) omg omg; have e10 := hsl.field hlt (j := 10) omg omg; have e11 := hsl.field hlt (j := 11) omg omg; have e12 := hsl.field hlt (j := 12) omg omg; have e13 := hsl.field hlt (j := 13) omg omg; obtain ⟨x, hx_⟩ : ∃ y, l.getD i default = y := ⟨_, rfl⟩; simp only [Ex.sgc, hx_] at e0 e1 e2 e3 e4 e5 e6 e7 e8 e9 e10 e11 e12 e13)
   have HST := qh (Mo.outL_step S r l i hlt x hx_)
   have HAL := qh (Mo.all_step (Mo.fd S r) l i hlt x hx_ HALL.out)
   have HBAD := qh (Mo.all_bad (Mo.fd S r) l i hlt x hx_)
   rw [hx_] at hP2 hP3 hP4
   have HP2 := qh hP2
   have HP4 := qh hP4
   obtain ⟨rp, hrp⟩ : ∃ y, r.getD P (0, 0, 0, false) = y := ⟨_, rfl⟩
   rw [hrp] at hP3
   rw [hP3] at HST
   have HFX := qh (show Mo.fd S r x = Mo.form x rp by unfold Mo.fd; rw [hP3])
   have HRP := qh hrp
   have HP1 := qh hP1
   clear hsl hx_ hP1 hP2 hP3 hP4 hrp
   go_wp2_with fail
   refine Kit.wp_name ?_
   intro W3 hW3
   have HX3 := qh (show Kit.Bk W3 wr.heap.size 60 (Mo.sgC x).toArray by rw [hW3]; exact Kit.Bk.new _ _ _)
   have HG3 := qh (show Kit.Gw W2 98 18 u4 i ((Mo.outL S r (l.take i)).flatMap Mo.spC) W3 by rw [hW3]; exact HG.out.alloc _)
   have hz3 : W3.heap.size = wr.heap.size + 1 := by rw [hW3]; simp
   obtain ⟨BX, hBX⟩ : ∃ b, wr.heap.size = b := ⟨_, rfl⟩
   rw [hBX] at HX3 hz3 ⊢
   have HBW := qh (show w.heap.size ≤ BX by rw [← hBX]; exact HB.out.size)
   clear hW3 HG HB hBX e0 e1 e2 e3 e4 e5 e6 e7 e8 e9 e10 e11 e12 e13
   have HB3 := qh (show Below w.heap.size w W3 from HB2.out.trans (HG3.out.bel.mono HB2.out.size))
   have HZ3 := qh hz3
   clear hz3
   have hSb : S.length ≤ 4096 := by have := HSL.out; omega
   go_loopg [4, 28] S.length (fun kx v4 v28 wx => ∃ q : Nat, v4 = u4 ∧ v28 = .int .i64 q ∧ q ≤ S.length ∧ S.length - q ≤ kx ∧ Hid (P < q → Mo.form x rp = false) ∧ Hid (Below W3.heap.size W3 wx))
   case atStart => exact ⟨0, rfl, rfl, by omega, by omega, qh (fun h => by omega), qh (Below.refl _ _)⟩
   case round =>
    obtain ⟨q, rfl, rfl, hq, hk2, HF, HBX⟩ := hrel
    have HXX := qh (HX3.out.below HBX.out HX3.out.lt)
    by_cases hqt : q < S.length
    ·have hqtz : (q : Int) < (S.length : Int) := by omega
     have hsl2 := (HS.out.kept HG3.out.bel nlr).kept HBX.out nlr
     obtain ⟨ad2, rfl, hadb2, _⟩ := HS.out.at hqt
     (have e0 := hsl2.head hqt omg; have e1 := hsl2.field hqt (j := 1) omg omg; have e2 := hsl2.field hqt (j := 2) omg omg; have e3 := hsl2.field hqt (j := 3) omg omg; have e4 := hsl2.field hqt (j := 4) omg omg; have e5 := hsl2.field hqt (j := 5) omg omg; have e6 := hsl2.field hqt (j := 6) omg omg; have e7 := hsl2.field hqt (j := 7) omg omg; have e8 := hsl2.field hqt (j := 8) omg omg; have e9 := hsl2.field hqt (j := 9) omg omg; have e10 := hsl2.field hqt (j := 10) omg omg; have e11 := hsl2.field hqt (j := 11) omg omg; have e12 := hsl2.field hqt (j := 12) omg omg; have e13 := hsl2.field hqt (j := 13) omg omg; obtain ⟨y, hy_⟩ : ∃ y, S.getD q default = y := ⟨_, rfl⟩; simp only [Ex.sgc, hy_] at e0 e1 e2 e3 e4 e5 e6 e7 e8 e9 e10 e11 e12 e13)
     have hid := HP4.out q hqt
     rw [hy_] at hid
     clear hsl2 hy_
     go_upto_region 11 with fail
     refine Kit.wp_name ?_
     intro W4 hW4
     have HY4 := qh (show Kit.Bk W4 wr.heap.size 60 (Mo.sgC y).toArray by rw [hW4]; exact Kit.Bk.new _ _ _)
     have HX4 := qh (show Kit.Bk W4 BX 60 (Mo.sgC x).toArray by rw [hW4]; exact HXX.out.alloc _)
     have HB4 := qh (show Below W3.heap.size W3 W4 by rw [hW4]; exact HBX.out.alloc HBX.out.size _)
     obtain ⟨BY, hBY⟩ : ∃ b, wr.heap.size = b := ⟨_, rfl⟩
     rw [hBY] at HY4 ⊢
     clear hW4 hBY HXX HBX e0 e1 e2 e3 e4 e5 e6 e7 e8 e9 e10 e11 e12 e13
     have y0 : ∀ z : Kit.Wd W4, z.val.cell? ⟨BY, 0, none⟩ = some (.int .i64 y.id) := fun z => ((HY4.out.below z.below HY4.out.lt).cell 0).trans rfl
     have x0 : ∀ z : Kit.Wd W4, z.val.cell? ⟨BX, 0, none⟩ = some (.int .i64 x.id) := fun z => ((HX4.out.below z.below HX4.out.lt).cell 0).trans rfl
     by_cases hqp : q = P
     ·subst hqp
      have hidt : (y.id == x.id) = true := by rw [hid]; simp
      have hPr : q < r.length := by have := HLEN.out; have := HSL.out; omega
      have hPrz : (q : Int) < (r.length : Int) := by omega
      have hslr := (HR.out.kept HB3.out nlr).kept HB4.out nlr
      obtain ⟨adr, rfl, hadr, _⟩ := HR.out.at hPr
      have hadr4 : (adr.add (q * 4)).block < W4.heap.size := by rw [Tp.add_block]; have := HB3.out.size; have := HB4.out.size; omega
      have f0 := hslr.head hPr omg
      have f1 := hslr.field hPr (j := 1) omg omg
      have f2 := hslr.field hPr (j := 2) omg omg
      have f3 := hslr.field hPr (j := 3) omg omg
      simp only [Mo.rcs, HRP.out] at f0 f1 f2 f3
      clear hslr hid
      have g0 : ∀ z : Kit.Wd W4, z.val.cell? (adr.add (q * 4)) = some (.int .i64 rp.1) := fun z => z.cell f0 hadr4
      have g1 : ∀ z : Kit.Wd W4, z.val.cell? ⟨(adr.add (q * 4)).block, (adr.add (q * 4)).off + 1, none⟩ = some (.int .i64 rp.2.1) := fun z => z.cell f1 hadr4
      have g2 : ∀ z : Kit.Wd W4, z.val.cell? ⟨(adr.add (q * 4)).block, (adr.add (q * 4)).off + 2, none⟩ = some (.int .i64 rp.2.2.1) := fun z => z.cell f2 hadr4
      have g3 : ∀ z : Kit.Wd W4, z.val.cell? ⟨(adr.add (q * 4)).block, (adr.add (q * 4)).off + 3, none⟩ = some (.bool rp.2.2.2) := fun z => z.cell f3 hadr4
      have x1 : ∀ z : Kit.Wd W4, z.val.cell? ⟨BX, 1, none⟩ = some (.int .i64 x.role) := fun z => ((HX4.out.below z.below HX4.out.lt).cell 1).trans rfl
      have x2 : ∀ z : Kit.Wd W4, z.val.cell? ⟨BX, 2, none⟩ = some (.int .i64 x.bar) := fun z => ((HX4.out.below z.below HX4.out.lt).cell 2).trans rfl
      have x3 : ∀ z : Kit.Wd W4, z.val.cell? ⟨BX, 3, none⟩ = some (.int .i64 x.mark) := fun z => ((HX4.out.below z.below HX4.out.lt).cell 3).trans rfl
      have x4 : ∀ z : Kit.Wd W4, z.val.cell? ⟨BX, 4, none⟩ = some (.int .i64 x.kind) := fun z => ((HX4.out.below z.below HX4.out.lt).cell 4).trans rfl
      have x5 : ∀ z : Kit.Wd W4, z.val.cell? ⟨BX, 5, none⟩ = some (.int .i64 x.side) := fun z => ((HX4.out.below z.below HX4.out.lt).cell 5).trans rfl
      have x6 : ∀ z : Kit.Wd W4, z.val.cell? ⟨BX, 6, none⟩ = some (.int .i64 x.dir) := fun z => ((HX4.out.below z.below HX4.out.lt).cell 6).trans rfl
      have x7 : ∀ z : Kit.Wd W4, z.val.cell? ⟨BX, 7, none⟩ = some (.int .i64 x.level) := fun z => ((HX4.out.below z.below HX4.out.lt).cell 7).trans rfl
      have x8 : ∀ z : Kit.Wd W4, z.val.cell? ⟨BX, 8, none⟩ = some (.int .i64 x.size) := fun z => ((HX4.out.below z.below HX4.out.lt).cell 8).trans rfl
      have x9 : ∀ z : Kit.Wd W4, z.val.cell? ⟨BX, 9, none⟩ = some (.int .i64 x.wth) := fun z => ((HX4.out.below z.below HX4.out.lt).cell 9).trans rfl
      have x10 : ∀ z : Kit.Wd W4, z.val.cell? ⟨BX, 10, none⟩ = some (.int .i64 x.fn) := fun z => ((HX4.out.below z.below HX4.out.lt).cell 10).trans rfl
      have x11 : ∀ z : Kit.Wd W4, z.val.cell? ⟨BX, 11, none⟩ = some (.int .i64 x.fd) := fun z => ((HX4.out.below z.below HX4.out.lt).cell 11).trans rfl
      have x12 : ∀ z : Kit.Wd W4, z.val.cell? ⟨BX, 12, none⟩ = some (.int .i64 x.tn) := fun z => ((HX4.out.below z.below HX4.out.lt).cell 12).trans rfl
      have x13 : ∀ z : Kit.Wd W4, z.val.cell? ⟨BX, 13, none⟩ = some (.int .i64 x.td) := fun z => ((HX4.out.below z.below HX4.out.lt).cell 13).trans rfl
      have HFM := qh (fun W => (by have h := mo_form x rp W; unfold Mo.sgC Mo.reC at h; dsimp only [List.toArray] at h; exact h : Calls Tryz.prog 71 #[.agg #[.int .i64 x.id, .int .i64 x.role, .int .i64 x.bar, .int .i64 x.mark, .int .i64 x.kind, .int .i64 x.side, .int .i64 x.dir, .int .i64 x.level, .int .i64 x.size, .int .i64 x.wth, .int .i64 x.fn, .int .i64 x.fd, .int .i64 x.tn, .int .i64 x.td], .agg #[.int .i64 rp.1, .int .i64 rp.2.1, .int .i64 rp.2.2.1, .bool rp.2.2.2]] W fun e w' => e = .returned (.bool (Mo.form x rp)) ∧ Below W.heap.size W w'))
      obtain ⟨fm, hfm⟩ : ∃ b, Mo.form x rp = b := ⟨_, rfl⟩
      rw [hfm] at HFM HFX
      have HFMM := qh hfm
      clear hfm f0 f1 f2 f3
      refine Kit.wp_region_cls (by kernel_rfl) (by kernel_rfl) ?_
      (repeat (go_big_quiet_step (with_reducible exact Kit.calls_cls _ (HFM.out _))))
      refine wpQuiet_nil ?_
      intro z
      have HX5 := qh (HX4.out.below z.below HX4.out.lt)
      have HB5 := qh (show Below W3.heap.size W3 z.val from HB4.out.trans (z.below.mono HB4.out.size))
      have f0 := g0 z
      have f1 := g1 z
      have f2 := g2 z
      have f3 := g3 z
      have hadr5 : (adr.add (q * 4)).block < z.val.heap.size := Nat.lt_of_lt_of_le hadr4 z.below.size
      clear g0 g1 g2 g3 y0 x0 x1 x2 x3 x4 x5 x6 x7 x8 x9 x10 x11 x12 x13 HX4 HY4 HB4 hadr4
      generalize z.val = W5 at *
      clear z
      rcases fm with _ | _
      ·go_wp2_with fail
       go_roundg (S.length - (q + 1))
       case measure => omega
       case rel => exact ⟨q + 1, rfl, by go_num, (by have := hqt; omega), Nat.le_refl _, qh (fun _ => HFMM.out), HB5⟩
      ·have HG5 := qh (HG3.out.thn HB5.out)
       have HSTX := HST
       have hb0 := fun W => Mo.build0s x rp W
       have HBD := qh hb0
       clear hb0
       have xc : ∀ X, Below W5.heap.size W5 X → ∀ j, X.cell? ⟨BX, j, none⟩ = (Mo.sgC x).toArray[j]? := fun X h j => (HX5.out.below h HX5.out.lt).cell j
       have HXC := qh xc
       have rc : ∀ X, Below W5.heap.size W5 X → X.cell? (adr.add (q * 4)) = some (.int .i64 rp.1) ∧ X.cell? ⟨(adr.add (q * 4)).block, (adr.add (q * 4)).off + 1, none⟩ = some (.int .i64 rp.2.1) ∧ X.cell? ⟨(adr.add (q * 4)).block, (adr.add (q * 4)).off + 2, none⟩ = some (.int .i64 rp.2.2.1) ∧ X.cell? ⟨(adr.add (q * 4)).block, (adr.add (q * 4)).off + 3, none⟩ = some (.bool rp.2.2.2) := fun X h =>
        ⟨(h.cell hadr5).trans f0, (h.cell (p := ⟨(adr.add (q * 4)).block, (adr.add (q * 4)).off + 1, none⟩) hadr5).trans f1, (h.cell (p := ⟨(adr.add (q * 4)).block, (adr.add (q * 4)).off + 2, none⟩) hadr5).trans f2, (h.cell (p := ⟨(adr.add (q * 4)).block, (adr.add (q * 4)).off + 3, none⟩) hadr5).trans f3⟩
       have HRC := qh rc
       clear xc rc f0 f1 f2 f3
       go_upto_region 12 with fail
       refine Kit.wp_region_vals 8 [([(4, none)], none, true), ([(8, none)], none, true), ([(1, none)], none, true), ([(9, none)], none, true), ([(48, some 2), (49, some 3)], none, true), ([(50, some 4)], none, true), ([(47, some 1), (51, some 5)], none, true), ([(52, some 6)], none, true)]
        [some 46, some 47, some 48, some 49, some 50, some 51, some 52, some 53] rfl (by kernel_rfl) (by kernel_rfl) (fun A B => Below A.heap.size A B) (fun n v X => match n with
        | 0 => v = u4
        | 1 => v = .agg (Mo.sgC x).toArray
        | 2 => v = .slice (some adr) r.length cR
        | 3 => v = .int .i64 q
        | 4 => v = .pointer (some (adr.add (q * 4)))
        | 5 => v = .agg (Mo.reC rp).toArray
        | 6 => v = .agg (Mo.spC (x, rp)).toArray
        | _ => ∃ b, v = .slice (some ⟨b, 0, none⟩) 1 1 ∧ Kit.Bk X b 98 (Mo.spC (x, rp)).toArray)
        (fun h k => h.trans (k.mono h.size)) (Below.drew (Below.refl _ _)) (fun _ => Below.refl _ _) ?_ ?_ ?_
       ·intro n v A C h1 h2 h3
        split at h3 <;> try exact h3
        obtain ⟨b, e, hb⟩ := h3
        exact ⟨b, e, hb.below h2 hb.lt⟩
       ·simp only [List.take_succ_cons, List.take_zero, Kit.StepsV, Kit.VOp, Kit.RdP, true_and, if_true, and_true]
        refine ⟨?_, ?_, ?_, ?_, ?_, ?_, ?_, ?_⟩
        all_goals intro ev X hx hv hc hf hg
        ·simp at hv; simp [execOp, hv, hc, go_sem, Kit.UponV, Below.refl]
        ·simp at hv
         have hr := Kit.run_bk (P := Tryz.prog) (HX5.out.below hx HX5.out.lt) 60 Tryz.underlying60 rfl (Mo.szG2 x)
         simp [execOp, hv, hr, Kit.UponV, Below.refl, Instr.loadAt, Instr.sureAddr]
        ·simp at hv; simp [execOp, hv, hc, go_sem, Kit.UponV, Below.refl]
        ·simp at hv; simp [execOp, hv, hc, go_sem, Kit.UponV, Below.refl]
        ·simp [execOp, hv.1, hv.2, hc, go_sem, Kit.UponV, Below.refl, hPr, hPrz]
        ·obtain ⟨g0, g1, g2, g3⟩ := HRC.out X hx
         simp [execOp, hv, hc, go_sem, Kit.UponV, Below.refl, g0, g1, g2, g3]
        ·have hb := HBD.out X
         simp [execOp, hv.1, hv.2, hb, Kit.UponV, Below.refl]
        ·have hr := Mo.lit_sp (x, rp) X
         simp [execOp, hv, hr, Kit.UponV]
         exact ⟨Kit.Bk.new X _ _, (Below.refl _ _).alloc nlr _⟩
       ·intro vs W6 hv hx
        have v0 : vs 0 = _ := hv 0 omg
        have v1 : vs 1 = _ := hv 1 omg
        have v2 : vs 2 = _ := hv 2 omg
        have v3 : vs 3 = _ := hv 3 omg
        have v4 : vs 4 = _ := hv 4 omg
        have v5 : vs 5 = _ := hv 5 omg
        have v6 : vs 6 = _ := hv 6 omg
        obtain ⟨b7, v7, hb7⟩ := hv 7 omg
        clear hv
        simp only [Kit.putD, List.getD_cons_zero, List.getD_cons_succ, Act.put, v0, v1, v2, v3, v4, v5, v6, v7, List.drop_succ_cons, List.drop_zero]
        clear v0 v1 v2 v3 v4 v5 v6 v7
        have HG6 := qh (HG5.out.thn hx)
        have HB7 := qh hb7
        clear hb7 hx
        go_simp
        refine Kit.wpList_app Mo.elP _ rfl _ _ rfl _ _ _ HG6.out rfl omg ⟨b7, 0, none⟩ 1 (Mo.spC (x, rp)) rfl (Mo.spC_len _) (fun j u hu => ?_) (Mo.spC_one _) ?_
        ·have : (⟨b7, 0, none⟩ : Addr).add j = ⟨b7, j, none⟩ := by simp [Addr.add]; exact fun h => h.symm
         rw [this, HB7.out.cell j]
         simpa using hu
        intro v' W7 hg7 _
        have HG7 := qh hg7
        clear hg7
        go_wp2_with fail
        go_roundg (l.length - (i + 1))
        case measure => omega
        case rel => exact ⟨i + 1, by go_num, by omega, Nat.le_refl _, qh (HAL.out.trans HFX.out), qh (by rw [HST.out, List.flatMap_append]; simpa using HG7.out)⟩
     ·have hidf : (y.id == x.id) = false := by rw [hid]; simpa using hqp
      have HQP := qh hqp
      clear hid hqp
      refine Kit.wp_region_cls (by kernel_rfl) (by kernel_rfl) ?_
      (repeat (go_big_quiet_step (fail)))
      refine wpQuiet_nil ?_
      intro z
      have HB5 := qh (show Below W3.heap.size W3 z.val from HB4.out.trans (z.below.mono HB4.out.size))
      clear y0 x0 HX4 HY4 HB4
      generalize z.val = W5 at *
      clear z
      go_wp2_with fail
      go_roundg (S.length - (q + 1))
      case measure => omega
      case rel => exact ⟨q + 1, rfl, by go_num, (by have := hqt; omega), Nat.le_refl _, qh (fun h => HF.out (by have := HQP.out; omega)), HB5⟩
    ·obtain rfl : q = S.length := by omega
     have hM : M = false := HFD2.out.trans (HBAD.out (HFX.out.trans (HF.out HP1.out)))
     subst hM
     have HBF := qh (HB3.out.trans (HBX.out.mono HB3.out.size))
     go_wp2_with fail
     try rw [Exit.noGoto_ret]
     go_ret2
     exact ⟨⟨.slice none 0 0, rfl, fun h => (by cases h)⟩, HBF.out⟩
  ·obtain rfl : i = l.length := by omega
   have hM : M = true := by
    have h := HALL.out
    rw [List.take_length] at h
    exact HFD2.out.trans h
   subst hM
   have hown := HG.out.own
   rw [List.take_length, HPR.out rfl] at hown
   have HOWN := qh (show wr.ownsRow w.heap.size 98 18 u4 l.length ((l.map fun k => (k, Mo.real r k.id)).flatMap Mo.spC) from hown.mono HB2.out.size)
   clear hown
   go_wp2_with fail
   try rw [Exit.noGoto_ret]
   go_ret2
   exact ⟨⟨u4, rfl, HOWN.out⟩, HB.out⟩
end Go.Proofs.YtedolbjgdedoaaaGreatDoor
