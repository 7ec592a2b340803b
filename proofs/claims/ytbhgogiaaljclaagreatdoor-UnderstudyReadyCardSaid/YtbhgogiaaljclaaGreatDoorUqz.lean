/- Walks: the reference of layer 48: within, able, bad. Walks: the reference of layer 48: Able, bad. -/
import Derived.Test.YtbhgogiaaljclaaGreatDoorUqy
import Derived.Test.YtbhgogiaaljclaaGreatDoorUuab
import Derived.Test.YtbhgogiaaljclaaGreatDoorTrA
import Derived.Test.YtbhgogiaaljclaaGreatDoorUuE
set_option linter.unusedSimpArgs false
set_option linter.unusedVariables false
set_option maxRecDepth 100000
set_option maxHeartbeats 8000000
namespace Go.Proofs.YtbhgogiaaljclaaGreatDoor
open Go.RowKit Go.Shelf
theorem ru_within (x : Ex.Wk) (p : Ex.Wa) (role bar : Int) (w : World) (hl : x.ro.length ≤ 4611686018427387904) :
  Calls Tryz.prog 35 #[Ex.workV x p, .int .i64 role, .int .i64 bar] w fun e w' => e = .returned (.bool (Un.within x role bar)) ∧ Below w.heap.size w w' := by
 unfold Un.within
 rcases d1 : decide (0 ≤ role) with _ | _ <;> rcases d2 : decide (role < x.ro.length) with _ | _ <;> rcases d3 : decide (0 ≤ bar) with _ | _ <;> rcases d4 : decide (bar < x.n) with _ | _
 all_goals
  go_enter Tryz.func35, Tryz.ntmps35
  go_wp2
  go_ret
  exact ⟨rfl, by exact Kit.gr⟩
namespace Un
def ableFrom (x : Ex.Wk) (b : Bd) (role bar : Int) (i : Nat) : Int × Bool :=
 match ((x.sg.drop i).filter (mine bar role)).find? (none? x b) with
 | some k => (k.id, false)
 | none => (0, true)
theorem ableFrom_end (x : Ex.Wk) (b : Bd) (role bar : Int) : ableFrom x b role bar x.sg.length = (0, true) := by unfold ableFrom; rw [List.drop_length]; rfl
theorem ableFrom_skip (x : Ex.Wk) (b : Bd) (role bar : Int) (i : Nat) (h : i < x.sg.length) (hm : mine bar role (x.sg.getD i default) = false) : ableFrom x b role bar i = ableFrom x b role bar (i + 1) := by
 unfold ableFrom
 rw [Tp.drop_cons x.sg default i h, List.filter_cons_of_neg (by rw [hm]; decide)]
theorem ableFrom_some (x : Ex.Wk) (b : Bd) (role bar : Int) (i : Nat) (h : i < x.sg.length) (hm : mine bar role (x.sg.getD i default) = true) (hn : none? x b (x.sg.getD i default) = false) : ableFrom x b role bar i = ableFrom x b role bar (i + 1) := by
 unfold ableFrom
 rw [Tp.drop_cons x.sg default i h, List.filter_cons_of_pos hm, List.find?_cons_of_neg (by rw [hn]; decide)]
theorem ableFrom_none (x : Ex.Wk) (b : Bd) (role bar : Int) (i : Nat) (h : i < x.sg.length) (hm : mine bar role (x.sg.getD i default) = true) (hn : none? x b (x.sg.getD i default) = true) : ableFrom x b role bar i = ((x.sg.getD i default).id, false) := by
 unfold ableFrom
 rw [Tp.drop_cons x.sg default i h, List.filter_cons_of_pos hm, List.find?_cons_of_pos hn]
end Un
theorem ru_able (x : Ex.Wk) (p : Ex.Wa) (B : Un.Bd) (role bar : Int) (w : World) (ha : Ex.At w x p) (hg : Ex.Good x) (hB : Un.bok B = true) (hA : 0 ≤ x.ta) (hA2 : x.ta ≤ 32768) (hC : 0 ≤ x.tc) (hC2 : x.tc ≤ 32768) (s : Int) (ok : Bool) (hr : Un.ableR x B role bar = (s, ok)) :
  Calls Tryz.prog 37 #[Ex.workV x p, .agg (Un.bdA B), .int .i64 role, .int .i64 bar] w fun e w' => e = .returned (.tuple #[.int .i64 s, .bool ok]) ∧ Below w.heap.size w w' := by
 obtain ⟨aR, cR, aT, cT, aP, cP, aS, cS, aG, cG⟩ := p
 have hsl := ha.sg
 replace hsl : Tp.Sl w aG x.sg.length 14 (Ex.sgc x.sg) := hsl
 have HSL := qh hsl
 have hlen := hg.len
 have HOF := qh (fun k (hk : k ∈ x.sg) W => rv_of x.ta x.tb x.tc k B W (Ex.fit_of (hg.oks k hk)) hB hA hA2 hC hC2)
 have HR := qh hr
 have HI := qh (show (Tryz.prog.info? 36).map (·.size) = some (Un.bdA B).toList.length by kernel_rfl)
 clear ha hg hB hsl hr
 go_enter Tryz.func37, Tryz.ntmps37
 go_upto_region 1 with fail
 refine Kit.wp_name ?_
 intro W1 hW1
 have hwk : ∀ j, W1.cell? ⟨w.heap.size, j, none⟩ = (Un.wkC x ⟨aR, cR, aT, cT, aP, cP, aS, cS, aG, cG⟩)[j]? := fun j => by rw [hW1]; simp [go_sem]
 have hrw : W1.rangeAt (w.heap.size + 1) 0 (Un.bdA B).toList := by
  have h := Kit.range_alloc (w.alloc (.cells (Un.wkC x ⟨aR, cR, aT, cT, aP, cP, aS, cS, aG, cG⟩) 32)) (Un.bdA B) 36
  rw [World.size_alloc] at h
  rw [hW1]; exact h
 have hz1 : w.heap.size + 1 < W1.heap.size := by rw [hW1]; simp
 have HB1 := qh (show Below w.heap.size w W1 by rw [hW1]; exact Kit.gr)
 have HWK := qh (fun wr (h : Below W1.heap.size W1 wr) => (⟨fun j => (World.cell?_of_block (h.block w.heap.size omg)).trans (hwk j), Kit.range_kept hrw h hz1, Nat.lt_of_lt_of_le hz1 h.size⟩ : (∀ j, wr.cell? ⟨w.heap.size, j, none⟩ = (Un.wkC x ⟨aR, cR, aT, cT, aP, cP, aS, cS, aG, cG⟩)[j]?) ∧ wr.rangeAt (w.heap.size + 1) 0 (Un.bdA B).toList ∧ w.heap.size + 1 < wr.heap.size))
 clear hW1 hwk hrw
 go_wp2_with fail
 go_loopg [10] x.sg.length (fun kx v10 wr => ∃ i : Nat, v10 = .int .i64 i ∧ i ≤ x.sg.length ∧ x.sg.length - i ≤ kx ∧ Hid (Un.ableR x B role bar = Un.ableFrom x B role bar i) ∧ Hid (Below W1.heap.size W1 wr))
 case atStart => exact ⟨0, rfl, by omega, by omega, qh rfl, qh (Below.refl _ _)⟩
 case round =>
  obtain ⟨i, rfl, hi, hk, HF, HB⟩ := hrel
  obtain ⟨wk, hrb, hzb⟩ := HWK.out _ HB.out
  have HRB := qh hrb
  clear hrb
  by_cases hlt : i < x.sg.length
  ·have hltz : (i : Int) < (x.sg.length : Int) := by omega
   have hsl := HSL.out.kept (HB1.out.trans (HB.out.mono HB1.out.size)) nlr
   obtain ⟨ad, rfl, hadb, _⟩ := HSL.out.at hlt
   (have e0 := hsl.head hlt omg; have e1 := hsl.field hlt (j := 1) omg omg; have e2 := hsl.field hlt (j := 2) omg omg; have e3 := hsl.field hlt (j := 3) omg omg; have e4 := hsl.field hlt (j := 4) omg omg; have e5 := hsl.field hlt (j := 5) omg omg; have e6 := hsl.field hlt (j := 6) omg omg; have e7 := hsl.field hlt (j := 7) omg omg; have e8 := hsl.field hlt (j := 8) omg omg; have e9 := hsl.field hlt (j := 9) omg omg; have e10 := hsl.field hlt (j := 10) omg omg; have e11 := hsl.field hlt (j := 11) omg omg; have e12 := hsl.field hlt (j := 12) omg omg; have e13 := hsl.field hlt (j := 13) omg omg; obtain ⟨y, hy_⟩ : ∃ y, x.sg.getD i default = y := ⟨_, rfl⟩; simp only [Ex.sgc, hy_] at e0 e1 e2 e3 e4 e5 e6 e7 e8 e9 e10 e11 e12 e13)
   have hmem : y ∈ x.sg := by rw [← hy_, List.getD_eq_getElem?_getD, List.getElem?_eq_getElem hlt]; exact List.getElem_mem hlt
   have HY := qh hy_
   have HOY := qh (HOF.out y hmem)
   clear hy_ hsl hmem
   rcases d1 : (y.role != role) with _ | _
   ·have e1 : (y.role == role) = true := by simpa using d1
    rcases d2 : decide (y.bar < bar) with _ | _
    ·have HM := qh (show Un.mine bar role (x.sg.getD i default) = true by rw [HY.out]; unfold Un.mine; rw [e1]; simp at d2 ⊢; exact d2)
     clear e1
     go_upto_region 6 with fail
     refine Kit.wp_name ?_
     intro W2 hW2
     have hb2 : Below wr.heap.size wr W2 := by rw [hW2]; exact Kit.gr
     have y0 : W2.cell? ⟨wr.heap.size, 0, none⟩ = some (.int .i64 y.id) := by rw [hW2]; simp [go_sem]
     have ys : ∀ j, W2.cell? ⟨wr.heap.size, j, none⟩ = #[Value.int .i64 y.id, .int .i64 y.role, .int .i64 y.bar, .int .i64 y.mark, .int .i64 y.kind, .int .i64 y.side, .int .i64 y.dir, .int .i64 y.level, .int .i64 y.size, .int .i64 y.wth, .int .i64 y.fn, .int .i64 y.fd, .int .i64 y.tn, .int .i64 y.td][j]? := fun j => by rw [hW2]; simp [go_sem]
     have hz2 : wr.heap.size < W2.heap.size := by rw [hW2]; simp
     obtain ⟨wk2, hrb2, hzb2⟩ := HWK.out _ (HB.out.trans (hb2.mono HB.out.size))
     have HRB2 := qh hrb2
     have HB2 := qh (HB.out.trans (hb2.mono HB.out.size))
     clear hW2 wk e0 e1 e2 e3 e4 e5 e6 e7 e8 e9 e10 e11 e12 e13 hb2 hrb2 HRB
     go_wp2_with ((with_reducible refine wpList_load_mid ?_ 36 (.tmp 5) ?_ (w.heap.size + 1) 0 ?_ (Un.bdA B).toList _ HRB2.out Tryz.underlying36 rfl HI.out ?_); rfl; rfl; rfl)
     refine (HOY.out _).mono ?_
     rintro _ W3 ⟨⟨v, rfl, ho⟩, hb3⟩
     obtain ⟨av, cv, rfl⟩ : ∃ a c, v = .slice a (Uo.opts x.ta x.tc y B).length c := by
      rcases ho.2 with ⟨rfl, hn⟩ | ⟨g, cap, cur, rfl, _⟩
      ·exact ⟨none, 0, by rw [hn]⟩
      ·exact ⟨_, _, rfl⟩
     have z0 : W3.cell? ⟨wr.heap.size, 0, none⟩ = some (.int .i64 y.id) := (hb3.cell (p := ⟨wr.heap.size, 0, none⟩) hz2).trans y0
     have HB3 := qh (HB2.out.trans (hb3.mono HB2.out.size))
     have hzz : wr.heap.size < W3.heap.size := Nat.lt_of_lt_of_le hz2 hb3.size
     clear ho hb3 y0 ys wk2
     obtain ⟨m, hm⟩ : ∃ m, (Uo.opts x.ta x.tc y B).length = m := ⟨_, rfl⟩
     rw [hm]
     have HN := qh (show Un.none? x B (x.sg.getD i default) = decide (m = 0) by
      rw [HY.out, ← hm]; unfold Un.none?
      cases Uo.opts x.ta x.tc y B <;> simp)
     clear hm
     by_cases hm0 : m = 0
     ·subst hm0
      have HE := qh (show (s, ok) = (y.id, false) by rw [← HR.out, HF.out, Un.ableFrom_none x B role bar i hlt HM.out (by rw [HN.out]; rfl), HY.out])
      go_wp2_with fail
      go_ret2
      refine ⟨?_, HB1.out.trans (HB3.out.mono HB1.out.size)⟩
      have h1 := congrArg Prod.fst HE.out
      have h2 := congrArg Prod.snd HE.out
      dsimp only at h1 h2
      rw [h1, h2]; rfl
     ·have m1 : ((m : Int) == 0) = false := by simp; omega
      have m2 : (m == 0) = false := by simp; omega
      have HE := qh (HF.out.trans (Un.ableFrom_some x B role bar i hlt HM.out (by rw [HN.out]; simpa using hm0)))
      clear hm0
      go_wp2_with fail
      go_roundg (x.sg.length - (i + 1))
      case measure => omega
      case rel => exact ⟨i + 1, by go_num, by omega, Nat.le_refl _, HE, HB3⟩
    ·have HM := qh (show Un.mine bar role (x.sg.getD i default) = false by rw [HY.out]; unfold Un.mine; rw [e1]; simp at d2 ⊢; omega)
     have HE := qh (HF.out.trans (Un.ableFrom_skip x B role bar i hlt HM.out))
     clear e1
     go_wp2_with fail
     go_roundg (x.sg.length - (i + 1))
     case measure => omega
     case rel => exact ⟨i + 1, by go_num, by omega, Nat.le_refl _, HE, qh (HB.out.alloc HB.out.size _)⟩
   ·have HM := qh (show Un.mine bar role (x.sg.getD i default) = false by rw [HY.out]; unfold Un.mine; simp at d1 ⊢; intro _; exact d1)
    have HE := qh (HF.out.trans (Un.ableFrom_skip x B role bar i hlt HM.out))
    go_wp2_with fail
    go_roundg (x.sg.length - (i + 1))
    case measure => omega
    case rel => exact ⟨i + 1, by go_num, by omega, Nat.le_refl _, HE, qh (HB.out.alloc HB.out.size _)⟩
  ·obtain rfl : i = x.sg.length := by omega
   have HE := qh (show (s, ok) = (0, true) by rw [← HR.out, HF.out, Un.ableFrom_end])
   go_wp2_with fail
   go_ret2
   refine ⟨?_, HB1.out.trans (HB.out.mono HB1.out.size)⟩
   have h1 := congrArg Prod.fst HE.out
   have h2 := congrArg Prod.snd HE.out
   dsimp only at h1 h2
   rw [h1, h2]; rfl
end Go.Proofs.YtbhgogiaaljclaaGreatDoor

namespace Go.Proofs.YtbhgogiaaljclaaGreatDoor
open Go.RowKit Go.Shelf
namespace Un
theorem range_alloc2 (w : World) (o : Obj) (cs : Array Value) (t : TypeId) : ((w.alloc o).alloc (.cells cs t)).rangeAt (w.heap.size + 1) 0 cs.toList := by
 have := Kit.range_alloc (w.alloc o) cs t
 rwa [World.size_alloc] at this
structure WG (w : World) (x : Ex.Wk) (p : Ex.Wa) (B : Bd) (W : World) : Prop where
 bel : Below w.heap.size w W
 wk : ∀ j, W.cell? ⟨w.heap.size, j, none⟩ = (wkC x p)[j]?
 row : W.rangeAt (w.heap.size + 1) 0 (bdA B).toList
 z : w.heap.size + 1 < W.heap.size
theorem WG.then {w W W' : World} {x : Ex.Wk} {p : Ex.Wa} {B : Bd} (h : WG w x p B W) (hb : Below W.heap.size W W') : WG w x p B W' := by
 have hz := h.z
 exact ⟨h.bel.trans (hb.mono h.bel.size), fun j => (World.cell?_of_block (hb.block w.heap.size omg)).trans (h.wk j), Kit.range_kept h.row hb omg, Nat.lt_of_lt_of_le hz hb.size⟩
end Un
theorem ru_bad (l : List Un.Bd) (a : Option Addr) (c : Nat) (w : World) (hS : Tp.Sl w a l.length 17 (Un.bdF l)) (hl : l.length ≤ 4611686018427387904) (hn : ∀ b ∈ l, b.name.size ≤ 9223372036854775807) :
  Calls Tryz.prog 39 #[.slice a l.length c] w fun e w' => e = .returned (.int .i64 (Un.chkB l)) ∧ Below w.heap.size w w' := by
 have HS := qh hS
 have HN := qh hn
 have HU := qh (show (Tryz.prog.info? 36).map (·.size) = some 17 by kernel_rfl)
 obtain ⟨r, hr⟩ : ∃ r, Un.chkB l = r := ⟨_, rfl⟩
 rw [hr]
 have HR := qh hr
 clear hS hn hr
 go_enter Tryz.func39, Tryz.ntmps39
 go_wp2_with fail
 go_loopg [3] l.length (fun kx v3 wr => ∃ i : Nat, v3 = .int .i64 i ∧ i ≤ l.length ∧ l.length - i ≤ kx ∧ Hid ((l.take i).all Un.bok = true) ∧ Hid (Below w.heap.size w wr))
 case atStart => exact ⟨0, rfl, by omega, by omega, qh rfl, qh (Below.refl _ _)⟩
 case round =>
  obtain ⟨i, rfl, hi, hk, HA, HB⟩ := hrel
  by_cases hlt : i < l.length
  ·have hltz : (i : Int) < (l.length : Int) := by omega
   obtain ⟨ad, rfl, had, _⟩ := HS.out.at hlt
   have hsl := HS.out.kept HB.out nlr
   obtain ⟨b, hb⟩ : ∃ b, l.getD i default = b := ⟨_, rfl⟩
   have hrun := Kit.run_load_sl (P := Tryz.prog) hsl hlt 36 (Un.bdA b).toList _ rfl (Un.bdF_at l i b hb) Tryz.underlying36 rfl HU.out
   have hmem : b ∈ l := by rw [← hb, List.getD_eq_getElem?_getD, List.getElem?_eq_getElem hlt]; exact List.getElem_mem hlt
   have HC := qh (fun W => rb_check b W (HN.out b hmem))
   have HRUN := qh hrun
   have HBI := qh hb
   obtain ⟨k, hk2⟩ : ∃ k, Un.bok b = k := ⟨_, rfl⟩
   rw [hk2] at HC
   have HK := qh hk2
   have HM := qh hmem
   clear hsl hb hrun hmem hk2
   go_wp2_with ((with_reducible refine Kit.wpList_load_sl ?_ 36 (.tmp 13) ?_ i ?_ (Un.bdA b).toList HRUN.out ?_); rfl; rfl; rfl)
   refine (HC.out _).mono ?_
   rintro _ W2 ⟨rfl, hb2⟩
   have HB2 := qh (HB.out.trans (hb2.mono HB.out.size))
   clear hb2
   rcases k with _ | _
   ·have HE := qh (show r = 250 by
     rw [← HR.out]; unfold Un.chkB
     rw [if_neg]
     intro h
     rw [List.all_eq_true] at h
     have := h b HM.out
     rw [HK.out] at this
     cases this)
    go_wp2_with fail
    go_ret
    exact ⟨by rw [HE.out]; rfl, HB2.out⟩
   ·go_wp2_with fail
    go_roundg (l.length - (i + 1))
    case measure => omega
    case rel => exact ⟨i + 1, by go_num, by omega, Nat.le_refl _, qh (by
     rw [List.take_succ_eq_append_getElem hlt, List.all_append, HA.out]
     have e : l.getD i default = l[i] := by simp [List.getD, hlt]
     rw [← e, HBI.out]; simp [HK.out]), HB2⟩
  ·obtain rfl : i = l.length := by omega
   have HE := qh (show r = 0 by
    have h := HA.out
    rw [List.take_length] at h
    rw [← HR.out]; unfold Un.chkB; rw [if_pos h])
   go_wp2_with fail
   go_ret
   exact ⟨by rw [HE.out]; rfl, HB.out⟩
end Go.Proofs.YtbhgogiaaljclaaGreatDoor
