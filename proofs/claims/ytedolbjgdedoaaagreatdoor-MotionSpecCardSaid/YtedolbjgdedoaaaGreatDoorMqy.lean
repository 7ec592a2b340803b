/- Walks: the reference of layer 19: Signs, Of. Walks: the reference of layer 27: ByID. Walks: the reference of layer 27: motion, Check. Walks: the reference of layer 27: Real, Way. Walks: the reference of layer 27: End. -/
import Derived.Test.YtedolbjgdedoaaaGreatDoorMqx
import Derived.Test.YtedolbjgdedoaaaGreatDoorRqK
import Derived.Test.YtedolbjgdedoaaaGreatDoorMrF
set_option linter.unusedSimpArgs false
set_option linter.unusedVariables false
set_option maxRecDepth 100000
set_option maxHeartbeats 8000000
namespace Go.Proofs.YtedolbjgdedoaaaGreatDoor
open Go.RowKit Go.Shelf
attribute [local go_sem] Oper.semAt_some
namespace Mo
theorem szWkR (x : Ex.Wk) (p : Ex.Wa) : (Tryz.prog.info? 32).map (·.size) = some (wkC x p).size := by kernel_rfl
def OfA (x : Ex.Wk) (role bar : Int) (w : World) (v : Value) : Prop := ∃ L a c, v = .slice (some a) L.length c ∧ L.length ≤ c ∧ Of x role bar L ∧ Tp.Sl w (some a) L.length 14 (Ex.sgc L)
end Mo
theorem rp_signs (x : Ex.Wk) (p : Ex.Wa) (role bar : Int) (w : World) (ha : Ex.At w x p) (hg : Ex.Good x) :
  Calls Tryz.prog 75 #[Ex.workV x p, .int .i64 role, .int .i64 bar] w fun e w' => (∃ v, e = .returned v ∧ Mo.OfA x role bar w' v) ∧ Below w.heap.size w w' := by
 have HPT := qh (fun L ad c y W h1 h2 h3 h4 h5 => rp_put L ad c y W h1 h2 h3 h4 h5)
 have HA := qh ha
 have HG := qh hg
 have HLN := qh hg.len
 clear ha hg
 obtain ⟨aRo, cRo, aT, cT, aP, cP, aS, cS, aG, cG⟩ := p
 dsimp only [Ex.workV, Ex.wv]
 go_enter Tryz.func75, Tryz.ntmps75
 go_upto_region 2 with fail
 refine Kit.wp_name ?_
 intro W1 hW1
 have HB1 := qh (show Below w.heap.size w W1 by rw [hW1]; exact ((Below.refl _ _).alloc nlr _).alloc (by simp) _)
 have HQ1 := qh (show Kit.Bk W1 w.heap.size 32 (Mo.wkC x ⟨aRo, cRo, aT, cT, aP, cP, aS, cS, aG, cG⟩) by rw [hW1]; exact (Kit.Bk.new _ _ _).alloc _)
 clear hW1
 go_wp2_with fail
 go_loopg [7, 8] x.sg.length (fun kx v7 v8 wr => ∃ (i : Nat) (L : List Ex.Sg) (a : Addr) (c : Nat), v8 = .int .i64 i ∧ v7 = .slice (some a) L.length c ∧ i ≤ x.sg.length ∧ x.sg.length - i ≤ kx ∧ Hid (L.length ≤ c) ∧ Hid (Mo.SgP x role bar i L) ∧ Hid (Tp.Sl wr (some a) L.length 14 (Ex.sgc L)) ∧ Hid (Below w.heap.size w wr) ∧ Hid (Kit.Bk wr w.heap.size 32 (Mo.wkC x ⟨aRo, cRo, aT, cT, aP, cP, aS, cS, aG, cG⟩)))
 case atStart => exact ⟨0, [], _, 0, rfl, rfl, by omega, by omega, qh (by simp), qh (Mo.SgP.zero x role bar), qh (.inl rfl), HB1, HQ1⟩
 case round =>
  obtain ⟨i, L, a, c, rfl, rfl, hi, hk, HC, HP, HS, HB, HQ⟩ := hrel
  clear HB1 HQ1
  have c10 : wr.cell? ⟨w.heap.size, 10, none⟩ = some (.slice aG x.sg.length cG) := (HQ.out.cell 10).trans rfl
  have hlen := HLN.out
  by_cases hlt : i < x.sg.length
  ·have hltz : (i : Int) < (x.sg.length : Int) := by omega
   have hsl := (HA.out.kept HB.out nlr).sg
   obtain ⟨ad, rfl, hadb, hcl⟩ := HA.out.sg.at hlt
   (have e0 := hsl.head hlt omg; have e1 := hsl.field hlt (j := 1) omg omg; have e2 := hsl.field hlt (j := 2) omg omg; have e3 := hsl.field hlt (j := 3) omg omg; have e4 := hsl.field hlt (j := 4) omg omg; have e5 := hsl.field hlt (j := 5) omg omg; have e6 := hsl.field hlt (j := 6) omg omg; have e7 := hsl.field hlt (j := 7) omg omg; have e8 := hsl.field hlt (j := 8) omg omg; have e9 := hsl.field hlt (j := 9) omg omg; have e10 := hsl.field hlt (j := 10) omg omg; have e11 := hsl.field hlt (j := 11) omg omg; have e12 := hsl.field hlt (j := 12) omg omg; have e13 := hsl.field hlt (j := 13) omg omg; obtain ⟨y, hy_⟩ : ∃ y, x.sg.getD i default = y := ⟨_, rfl⟩; simp only [Ex.sgc, hy_] at e0 e1 e2 e3 e4 e5 e6 e7 e8 e9 e10 e11 e12 e13)
   have HY := qh hy_
   have HYG := qh (show y ∈ x.sg by rw [← hy_, List.getD_eq_getElem?_getD, List.getElem?_eq_getElem hlt]; exact List.getElem_mem _)
   clear hsl hy_ hadb hcl
   rcases d1 : (y.role == role) with _ | _
   case' false => have HM := qh (show Mo.mine bar role y = false by unfold Mo.mine; rw [d1]; rfl)
   case' true =>
    rcases d2 : (y.bar == bar) with _ | _
    case' false => have HM := qh (show Mo.mine bar role y = false by unfold Mo.mine; rw [d1, d2]; rfl)
    case' true => have HM := qh (show Mo.mine bar role y = true by unfold Mo.mine; rw [d1, d2]; rfl)
   case true.true =>
    have HPX := qh (fun W (hb : Below wr.heap.size wr W) => HPT.out L a c y W (HS.out.kept hb nlr) (by have := HP.out.len; have := HLN.out; omega) HC.out (Mo.from_ok (HG.out.oks y HYG.out)) (fun q hq => Mo.from_ok (HG.out.oks q (HP.out.mem hq))))
    have HPY := qh (show Calls Tryz.prog 123 #[.slice (some a) L.length c, .agg #[.int .i64 y.id, .int .i64 y.role, .int .i64 y.bar, .int .i64 y.mark, .int .i64 y.kind, .int .i64 y.side, .int .i64 y.dir, .int .i64 y.level, .int .i64 y.size, .int .i64 y.wth, .int .i64 y.fn, .int .i64 y.fd, .int .i64 y.tn, .int .i64 y.td]] wr _ from HPX.out wr (Below.refl _ _))
    clear HPX
    go_wp2_with fail
    refine HPY.out.mono ?_
    rintro _ W2 ⟨⟨a2, c2, rfl, hc2, hs2⟩, hb⟩
    have HC2 := qh (show (Mo.putI Mo.befB y L).length ≤ c2 by rw [Mo.putI_len]; exact hc2)
    have HS2 := qh (show Tp.Sl W2 (some a2) (Mo.putI Mo.befB y L).length 14 (Ex.sgc (Mo.putI Mo.befB y L)) by rw [Mo.putI_len]; exact hs2)
    have HB2 := qh (HB.out.trans (hb.mono HB.out.size))
    have HQ2 := qh (HQ.out.below hb HQ.out.lt)
    have HLE := qh (Mo.putI_len Mo.befB y L)
    clear hc2 hs2 hb HB HQ HS c10 e0 e1 e2 e3 e4 e5 e6 e7 e8 e9 e10 e11 e12 e13 HPY
    go_wp2_with fail
    go_roundg (x.sg.length - (i + 1))
    case measure => omega
    case rel => exact ⟨i + 1, Mo.putI Mo.befB y L, a2, c2, by go_num, by rw [HLE.out], by omega, Nat.le_refl _, HC2, qh (HP.out.put HG.out hlt y HY.out HM.out), HS2, HB2, HQ2⟩
   all_goals
    go_wp2_with fail
    go_roundg (x.sg.length - (i + 1))
    case measure => omega
    case rel => exact ⟨i + 1, L, a, c, by go_num, rfl, by omega, Nat.le_refl _, HC, qh (HP.out.skip hlt (by rw [HY.out]; exact HM.out)), HS, HB, HQ⟩
  ·obtain rfl : i = x.sg.length := by omega
   go_wp2_with fail
   go_ret
   exact ⟨⟨_, rfl, L, a, c, rfl, HC.out, HP.out.done, HS.out⟩, HB.out⟩
theorem rp_of (x : Ex.Wk) (p : Ex.Wa) (role bar : Int) (w : World) (ha : Ex.At w x p) :
  Calls Tryz.prog 35 #[Ex.workV x p, .int .i64 role, .int .i64 bar] w fun e w' => (∃ v, e = .returned (.tuple #[v, .int .i64 (Mo.ofE x role bar)]) ∧ (Mo.ofE x role bar = 0 → Mo.OfA x role bar w' v)) ∧ Below w.heap.size w w' := by
 have HCK := qh (fun W (hb : Below w.heap.size w W) => rq_check19 x p W (ha.kept hb nlr))
 have HSG := qh (fun W (hb : Below w.heap.size w W) (h : Ex.chk x = 0) => rp_signs x p role bar W (ha.kept hb nlr) (Ex.good_of h))
 obtain ⟨ch, hch⟩ : ∃ c, Ex.chk x = c := ⟨_, rfl⟩
 obtain ⟨OE, hOE⟩ : ∃ c, Mo.ofE x role bar = c := ⟨_, rfl⟩
 have HOE := qh hOE
 have HCH := qh hch
 rw [hOE]
 rw [hch] at HCK HSG
 obtain ⟨b1, hb1⟩ : ∃ b, Tp.inb role 0 (x.ro.length - 1) = b := ⟨_, rfl⟩
 obtain ⟨b2, hb2⟩ : ∃ b, Tp.inb bar 0 (x.n - 1) = b := ⟨_, rfl⟩
 have HI1 := qh (fun W => hb1 ▸ rq_in19 role 0 ((x.ro.length : Int) - 1) W)
 have HI2 := qh (fun W => hb2 ▸ rq_in19 bar 0 (x.n - 1) W)
 have HB1 := qh hb1
 have HB2 := qh hb2
 have HGD := qh (fun (h : Ex.chk x = 0) => (Ex.good_of h))
 have HNN := qh (show Ex.chk x = 0 → 1 ≤ x.n ∧ x.n ≤ 4096 from fun h => by
  have h2 := ((Mo.chk_iff x).1 h).2.1
  unfold Tp.chk at h2
  split at h2
  ·split at h2
   ·rename_i hok
    unfold Tp.okC at hok
    simp only [Bool.and_eq_true] at hok
    exact (Tp.inb_iff _ _ _).1 hok.1.1.1.1.1.1
   ·cases h2
  ·cases h2)
 clear ha hch hOE hb1 hb2
 obtain ⟨aRo, cRo, aT, cT, aP, cP, aS, cS, aG, cG⟩ := p
 dsimp only [Ex.workV, Ex.wv] at HCK HSG ⊢
 go_enter Tryz.func35, Tryz.ntmps35
 go_upto_region 1 with fail
 refine Kit.wp_name ?_
 intro W1 hW1
 have HX1 := qh (show Below w.heap.size w W1 by rw [hW1]; exact (Below.refl _ _).alloc nlr _)
 have HQ1 := qh (show Kit.Bk W1 w.heap.size 32 (Mo.wkC x ⟨aRo, cRo, aT, cT, aP, cP, aS, cS, aG, cG⟩) by rw [hW1]; exact Kit.Bk.new _ _ _)
 clear hW1
 refine wp_region_lit ?_
 refine Kit.load_bk0 rfl 32 (.tmp 3) rfl w.heap.size rfl HQ1.out Tryz.underlying32 rfl (Mo.szWkR _ _) ?_
 simp only [Act.put]
 go_simp
 go_wp2_with fail
 refine (HCK.out _ HX1.out).mono ?_
 rintro _ W2 ⟨rfl, hb⟩
 have HX2 := qh (HX1.out.trans (hb.mono HX1.out.size))
 have HQ2 := qh (HQ1.out.below hb HQ1.out.lt)
 clear hb HX1 HQ1 HCK
 by_cases h0 : ch = 0
 case neg =>
  have c1 : (ch != 0) = true := by simpa using h0
  have HE := qh (show OE = ch by rw [← HOE.out]; unfold Mo.ofE; rw [HCH.out, if_pos h0])
  have HN := qh (show OE ≠ 0 by rw [HE.out]; exact h0)
  clear h0
  go_wp2_with fail
  go_ret2
  exact ⟨⟨.slice none 0 0, by rw [HE.out]; rfl, fun h => absurd h HN.out⟩, HX2.out⟩
 subst h0
 have c5 : W2.cell? ⟨w.heap.size, 5, none⟩ = some (.slice aRo x.ro.length cRo) := (HQ2.out.cell 5).trans rfl
 have c6 : W2.cell? ⟨w.heap.size, 6, none⟩ = some (.int .i64 x.n) := (HQ2.out.cell 6).trans rfl
 have HOK := qh (show OE = if (b1 && b2) = true then 0 else 1 by rw [← HOE.out, ← HB1.out, ← HB2.out]; unfold Mo.ofE; rw [HCH.out, if_neg (by decide)])
 have e1 : IntKind.i64.wrap (x.n - 1) = x.n - 1 := by
  have h := HNN.out HCH.out
  rw [IntKind.wrap_i64] <;> omega
 have e2 : IntKind.i64.wrap ((x.ro.length : Int) - 1) = (x.ro.length : Int) - 1 := by
  have h := (HGD.out HCH.out).roles
  rw [IntKind.wrap_i64] <;> omega
 rcases b1 with _ | _
 case' true => rcases b2 with _ | _
 case true.false | false =>
  have HE := qh (show OE = 1 from HOK.out)
  have HN := qh (show OE ≠ 0 by rw [HE.out]; decide)
  go_wp2_with (first | (with_reducible refine (HI1.out _).mono ?_; rintro _ w' ⟨rfl, hw⟩; subst hw) | (with_reducible refine (HI2.out _).mono ?_; rintro _ w' ⟨rfl, hw⟩; subst hw))
  go_ret2
  exact ⟨⟨.slice none 0 0, by rw [HE.out]; rfl, fun h => absurd h HN.out⟩, HX2.out⟩
 have HE := qh (show OE = 0 from HOK.out)
 go_upto_region 6 with (first | (with_reducible refine (HI1.out _).mono ?_; rintro _ w' ⟨rfl, hw⟩; subst hw) | (with_reducible refine (HI2.out _).mono ?_; rintro _ w' ⟨rfl, hw⟩; subst hw))
 refine wp_region_lit ?_
 refine Kit.load_bk0 rfl 32 (.tmp 3) rfl w.heap.size rfl HQ2.out Tryz.underlying32 rfl (Mo.szWkR _ _) ?_
 simp only [Act.put]
 go_simp
 go_wp2_with fail
 refine (HSG.out _ HX2.out (by first | exact HCH.out | rfl | trivial)).mono ?_
 rintro _ W3 ⟨⟨v, rfl, hv⟩, hb⟩
 have HV := qh hv
 have HX3 := qh (HX2.out.trans (hb.mono HX2.out.size))
 clear hv hb c5 c6 e1 e2 HQ2
 go_wp2_with fail
 go_ret2
 exact ⟨⟨v, by rw [HE.out]; rfl, fun _ => HV.out⟩, HX3.out⟩
end Go.Proofs.YtedolbjgdedoaaaGreatDoor

namespace Go.Proofs.YtedolbjgdedoaaaGreatDoor
open Go.RowKit Go.Shelf
attribute [local go_sem] Oper.semAt_some
namespace Mo
theorem ld_sgR (ev : Operand → Value) (W : World) (d : Option Tmp) (ty : TypeId) (po : String) (af : Array Edge) (g : Option (Nat × Bool)) (t : Tmp) (ad : Addr) (L : List Ex.Sg) (i : Nat) (hS : Tp.Sl W (some ad) L.length 14 (Ex.sgc L)) (hi : i < L.length) (h : ev (.tmp t) = .pointer (some (ad.add (i * 14)))) : (execOp ev { dst := d, op := .load 60 (.tmp t), type := ty, pos := po, after := af, guard := g }).run Tryz.prog W = .ok (.value (.agg (sgC (L.getD i default)).toArray)) W := by
 have e0 := hS.head hi omg
 have e1 := hS.field hi (j := 1) omg omg
 have e2 := hS.field hi (j := 2) omg omg
 have e3 := hS.field hi (j := 3) omg omg
 have e4 := hS.field hi (j := 4) omg omg
 have e5 := hS.field hi (j := 5) omg omg
 have e6 := hS.field hi (j := 6) omg omg
 have e7 := hS.field hi (j := 7) omg omg
 have e8 := hS.field hi (j := 8) omg omg
 have e9 := hS.field hi (j := 9) omg omg
 have e10 := hS.field hi (j := 10) omg omg
 have e11 := hS.field hi (j := 11) omg omg
 have e12 := hS.field hi (j := 12) omg omg
 have e13 := hS.field hi (j := 13) omg omg
 simp only [Ex.sgc] at e0 e1 e2 e3 e4 e5 e6 e7 e8 e9 e10 e11 e12 e13
 simp [execOp, h, e0, e1, e2, e3, e4, e5, e6, e7, e8, e9, e10, e11, e12, e13, go_sem]
 rfl
end Mo
theorem rp_byid (l : List Ex.Sg) (a : Addr) (c : Nat) (w : World) (hS : Tp.Sl w (some a) l.length 14 (Ex.sgc l)) (hl : l.length ≤ 4096) (hn : (l.map (·.id)).Nodup) :
  Calls Tryz.prog 77 #[.slice (some a) l.length c] w fun e w' => (∃ L a2 c2, e = .returned (.slice (some a2) L.length c2) ∧ Mo.IdP l l.length L ∧ Tp.Sl w' (some a2) L.length 14 (Ex.sgc L)) ∧ Below w.heap.size w w' := by
 have HS := qh hS
 have HN := qh hn
 have HLN := qh hl
 clear hS hn hl
 go_enter Tryz.func77, Tryz.ntmps77
 go_upto_region 2 with fail
 refine Kit.wp_name ?_
 intro W1 hW1
 have HB1 := qh (show Below w.heap.size w W1 by rw [hW1]; exact (Below.refl _ _).alloc nlr _)
 clear hW1
 go_wp2_with fail
 go_loopg [3, 4] l.length (fun kx v3 v4 wr => ∃ (i : Nat) (L : List Ex.Sg) (a2 : Addr) (c2 : Nat), v4 = .int .i64 i ∧ v3 = .slice (some a2) L.length c2 ∧ i ≤ l.length ∧ l.length - i ≤ kx ∧ Hid (L.length ≤ c2) ∧ Hid (Mo.IdP l i L) ∧ Hid (Tp.Sl wr (some a2) L.length 14 (Ex.sgc L)) ∧ Hid (Below w.heap.size w wr))
 case atStart => exact ⟨0, [], _, 0, rfl, rfl, by omega, by omega, qh (by simp), qh (Mo.IdP.zero l), qh (.inl rfl), HB1⟩
 case round =>
  obtain ⟨i, L, a2, c2, rfl, rfl, hi, hk, HC, HP, HSL, HB⟩ := hrel
  clear HB1
  have hlen := HLN.out
  by_cases hlt : i < l.length
  ·have hltz : (i : Int) < (l.length : Int) := by omega
   obtain ⟨m, hm⟩ : ∃ m, L.length = m := ⟨_, rfl⟩
   have HM := qh hm
   have hmi : m ≤ 4096 := by rw [← hm, HP.out.len hi]; omega
   have HSM := qh (hm ▸ HSL.out : Tp.Sl wr (some a2) m 14 (Ex.sgc L))
   have HCM := qh (hm ▸ HC.out : m ≤ c2)
   have hmc : (m : Int) ≤ (c2 : Int) := by have := HCM.out; omega
   rw [hm]
   clear hm HC HSL
   obtain ⟨y, hy⟩ : ∃ y, l.getD i default = y := ⟨_, rfl⟩
   have HY := qh hy
   clear hy
   obtain ⟨yid, hyid⟩ : ∃ q, y.id = q := ⟨_, rfl⟩
   have HYI := qh (show Ex.sgc l i 0 = .int .i64 yid by rw [← hyid, ← HY.out]; rfl)
   have HYD := qh hyid
   clear hyid
   go_wp2_with fail
   go_loopg [5] m (fun kx v5 wq => ∃ k : Nat, v5 = .int .i64 k ∧ k ≤ m ∧ k ≤ kx ∧ Hid (Mo.posI Mo.ltI y L k = Mo.posI Mo.ltI y L m) ∧ Hid (Below w.heap.size w wq) ∧ Hid (Tp.Sl wq (some a2) m 14 (Ex.sgc L)))
   case atStart => exact ⟨m, rfl, Nat.le_refl _, Nat.le_refl _, qh rfl, HB, HSM⟩
   case round =>
    clear HB HSM
    obtain ⟨k, rfl, hkm, hkx, HPK, HBK, HSK⟩ := hrel
    obtain ⟨g, hg⟩ : ∃ g : Bool, (decide (0 < k) && Mo.ltI y (L.getD (k - 1) default)) = g := ⟨_, rfl⟩
    go_upto_region 6 with fail
    go_cut [31] from 16 to 30 (fun v31 wx => v31 = .bool g ∧ Hid (Below w.heap.size w wx) ∧ Hid (Tp.Sl wx (some a2) m 14 (Ex.sgc L)))
    case first =>
     rcases k with _ | j
     ·obtain rfl : g = false := by rw [← hg]; rfl
      refine Kit.wp_region_vals3 16 [([(5, none)], none, true), ([(16, some 0)], none, true), ([(17, some 1)], none, true), ([(0, none)], some (2, true), false), ([(4, none)], some (2, true), false), ([(19, some 3), (20, some 4)], some (2, true), false), ([(21, some 5)], some (2, true), false), ([(22, some 6)], some (2, true), false), ([(3, none)], some (2, true), false), ([(5, none)], some (2, true), false), ([(25, some 9)], some (2, true), false), ([(24, some 8), (26, some 10)], some (2, true), false), ([(27, some 11)], some (2, true), false), ([(28, some 12)], some (2, true), false), ([(23, some 7), (29, some 13)], some (2, true), false), ([(18, some 2), (30, some 14)], none, true)]
       [some 16, some 17, some 18, some 19, some 20, some 21, some 22, some 23, some 24, some 25, some 26, some 27, some 28, some 29, some 30, some 31] rfl (by kernel_rfl) (by kernel_rfl) (fun X => Below wr.heap.size wr X) (fun _ A B => Below A.heap.size A B) (fun _ _ => false) (fun o _ v X => match o with
       | 0 => v = .int .i64 0
       | 1 => v = .bool false
       | 2 => v = .bool false
       | 3 => v = undef
       | 4 => v = undef
       | 5 => v = undef
       | 6 => v = undef
       | 7 => v = undef
       | 8 => v = undef
       | 9 => v = undef
       | 10 => v = undef
       | 11 => v = undef
       | 12 => v = undef
       | 13 => v = undef
       | 14 => v = undef
       | _ => v = .bool false
       ) (by decide) (fun _ h k => h.trans (k.mono h.size)) (Below.drew (Below.refl _ _)) (fun _ X => Below.refl _ X) ?hst ?hown ?_ ?_
      case hst =>
       intro o m u u' v A B ho hn hne _ hdep hu hA hE h3
       exact h3
      case hown =>
       intro o u u' v X ho hu h3
       exact h3
      ·simp only [List.take_succ_cons, List.take_zero, Kit.StepsV3, Kit.VOp3, Kit.RdP3, true_and, if_true, and_true, Bool.false_eq_true, if_false]
       refine ⟨?_, ?_, ?_, ⟨fun u v X _ h => ⟨false, h, rfl⟩, ?_⟩, ⟨fun u v X _ h => ⟨false, h, rfl⟩, ?_⟩, ⟨fun u v X _ h => ⟨false, h, rfl⟩, ?_⟩, ⟨fun u v X _ h => ⟨false, h, rfl⟩, ?_⟩, ⟨fun u v X _ h => ⟨false, h, rfl⟩, ?_⟩, ⟨fun u v X _ h => ⟨false, h, rfl⟩, ?_⟩, ⟨fun u v X _ h => ⟨false, h, rfl⟩, ?_⟩, ⟨fun u v X _ h => ⟨false, h, rfl⟩, ?_⟩, ⟨fun u v X _ h => ⟨false, h, rfl⟩, ?_⟩, ⟨fun u v X _ h => ⟨false, h, rfl⟩, ?_⟩, ⟨fun u v X _ h => ⟨false, h, rfl⟩, ?_⟩, ⟨fun u v X _ h => ⟨false, h, rfl⟩, ?_⟩, ?_⟩
       all_goals intro ev u X hx hv hc hf hg
       ·have hh : ev (.tmp 5) = .int .i64 0 := hv.trans rfl
        simp [execOp, hh, hc, go_sem, Kit.UponV]
        exact Below.refl _ _
       ·have hh : ev (.tmp 16) = .int .i64 0 := hv.1
        simp [execOp, hh, hc, go_sem, Kit.UponV]
        exact Below.refl _ _
       ·have hh : ev (.tmp 17) = .bool false := hv.1
        simp [execOp, hh, hc, go_sem, Kit.UponV]
        exact Below.refl _ _
       ·trivial
       ·trivial
       ·trivial
       ·trivial
       ·trivial
       ·trivial
       ·trivial
       ·trivial
       ·trivial
       ·trivial
       ·trivial
       ·trivial
       ·obtain ⟨⟨q1, _⟩, q2, _⟩ := hv
        have hh : ev (.tmp 18) = .bool false := q1
        simp [execOp, hh, hc, go_sem, Kit.UponV]
        exact Below.refl _ _
      intro vs u W3 hy hv hx
      have v15 : vs 15 = .bool false := hv 15 omg (fun _ _ => rfl)
      have HB3 := qh (HBK.out.trans (hx.mono HBK.out.size))
      have HS3 := qh (HSK.out.kept hx nlr)
      clear hv hy hx
      simp only [Kit.putD, List.getD_cons_zero, List.getD_cons_succ, Act.put, v15, List.drop_succ_cons, List.drop_zero, List.drop_nil]
      clear v15
      generalize vs 0 = gg0 at *
      generalize vs 1 = gg1 at *
      generalize vs 2 = gg2 at *
      generalize vs 3 = gg3 at *
      generalize vs 4 = gg4 at *
      generalize vs 5 = gg5 at *
      generalize vs 6 = gg6 at *
      generalize vs 7 = gg7 at *
      generalize vs 8 = gg8 at *
      generalize vs 9 = gg9 at *
      generalize vs 10 = gg10 at *
      generalize vs 11 = gg11 at *
      generalize vs 12 = gg12 at *
      generalize vs 13 = gg13 at *
      generalize vs 14 = gg14 at *
      go_simp
      go_wp2_with fail
      go_meet
      case rel => exact ⟨rfl, HB3, HS3⟩
     ·have hj : j < m := by omega
      have hgj : Mo.ltI y (L.getD j default) = g := by rw [← hg]; simp
      obtain ⟨zid, hzid⟩ : ∃ q, (L.getD j default).id = q := ⟨_, rfl⟩
      have HZI := qh (show Ex.sgc L j 0 = .int .i64 zid by rw [← hzid]; rfl)
      have HGJ := qh (show decide (yid < zid) = g by rw [← hgj, ← hzid, ← HYD.out]; rfl)
      clear hgj hg hzid
      refine Kit.wp_region_vals3 16 [([(5, none)], none, true), ([(16, some 0)], none, true), ([(17, some 1)], none, true), ([(0, none)], some (2, true), true), ([(4, none)], some (2, true), true), ([(19, some 3), (20, some 4)], some (2, true), true), ([(21, some 5)], some (2, true), true), ([(22, some 6)], some (2, true), true), ([(3, none)], some (2, true), true), ([(5, none)], some (2, true), true), ([(25, some 9)], some (2, true), true), ([(24, some 8), (26, some 10)], some (2, true), true), ([(27, some 11)], some (2, true), true), ([(28, some 12)], some (2, true), true), ([(23, some 7), (29, some 13)], some (2, true), true), ([(18, some 2), (30, some 14)], none, true)]
       [some 16, some 17, some 18, some 19, some 20, some 21, some 22, some 23, some 24, some 25, some 26, some 27, some 28, some 29, some 30, some 31] rfl (by kernel_rfl) (by kernel_rfl) (fun X => Below wr.heap.size wr X) (fun _ A B => Below A.heap.size A B) (fun _ _ => false) (fun o _ v X => match o with
       | 0 => v = .int .i64 ((j + 1 : Nat) : Int)
       | 1 => v = .bool true
       | 2 => v = .bool true
       | 3 => v = .slice (some a) l.length c
       | 4 => v = .int .i64 i
       | 5 => v = .pointer (some (a.add (i * 14)))
       | 6 => v = .pointer (some (a.add (i * 14)))
       | 7 => v = .int .i64 yid
       | 8 => v = .slice (some a2) m c2
       | 9 => v = .int .i64 ((j + 1 : Nat) : Int)
       | 10 => v = .int .i64 (j : Int)
       | 11 => v = .pointer (some (a2.add (j * 14)))
       | 12 => v = .pointer (some (a2.add (j * 14)))
       | 13 => v = .int .i64 zid
       | 14 => v = .bool (decide (yid < zid))
       | _ => v = .bool (decide (yid < zid))
       ) (by decide) (fun _ h k => h.trans (k.mono h.size)) (Below.drew (Below.refl _ _)) (fun _ X => Below.refl _ X) ?hst ?hown ?_ ?_
      case hst =>
       intro o m u u' v A B ho hn hne _ hdep hu hA hE h3
       exact h3
      case hown =>
       intro o u u' v X ho hu h3
       exact h3
      ·simp only [List.take_succ_cons, List.take_zero, Kit.StepsV3, Kit.VOp3, Kit.RdP3, true_and, if_true, and_true, Bool.false_eq_true, if_false]
       refine ⟨?_, ?_, ?_, ⟨fun u v X _ h => ⟨true, h, rfl⟩, ?_⟩, ⟨fun u v X _ h => ⟨true, h, rfl⟩, ?_⟩, ⟨fun u v X _ h => ⟨true, h, rfl⟩, ?_⟩, ⟨fun u v X _ h => ⟨true, h, rfl⟩, ?_⟩, ⟨fun u v X _ h => ⟨true, h, rfl⟩, ?_⟩, ⟨fun u v X _ h => ⟨true, h, rfl⟩, ?_⟩, ⟨fun u v X _ h => ⟨true, h, rfl⟩, ?_⟩, ⟨fun u v X _ h => ⟨true, h, rfl⟩, ?_⟩, ⟨fun u v X _ h => ⟨true, h, rfl⟩, ?_⟩, ⟨fun u v X _ h => ⟨true, h, rfl⟩, ?_⟩, ⟨fun u v X _ h => ⟨true, h, rfl⟩, ?_⟩, ⟨fun u v X _ h => ⟨true, h, rfl⟩, ?_⟩, ?_⟩
       all_goals intro ev u X hx hv hc hf hg
       ·have hh : ev (.tmp 5) = .int .i64 ((j + 1 : Nat) : Int) := hv.trans rfl
        simp [execOp, hh, hc, go_sem, Kit.UponV]
        exact Below.refl _ _
       ·have hh : ev (.tmp 16) = .int .i64 ((j + 1 : Nat) : Int) := hv.1
        have d : (0 : Int) < ((j + 1 : Nat) : Int) := by omega
        simp [execOp, hh, hc, d, go_sem, Kit.UponV]
        first | exact ⟨by omega, Below.refl _ _⟩ | exact Below.refl _ _
       ·have hh : ev (.tmp 17) = .bool true := hv.1
        simp [execOp, hh, hc, go_sem, Kit.UponV]
        exact Below.refl _ _
       ·have hh : ev (.tmp 0) = .slice (some a) l.length c := hv.trans rfl
        simp [execOp, hh, hc, go_sem, Kit.UponV]
        exact Below.refl _ _
       ·have hh : ev (.tmp 4) = .int .i64 i := hv.trans rfl
        simp [execOp, hh, hc, go_sem, Kit.UponV]
        exact Below.refl _ _
       ·obtain ⟨⟨q1, _⟩, q2, _⟩ := hv
        rw [Mo.idx_sgR ev X _ _ _ _ _ (.tmp 19) (.tmp 20) a l.length c i q1 q2 hlt]
        exact ⟨rfl, Below.refl _ _⟩
       ·have hh : ev (.tmp 21) = .pointer (some (a.add (i * 14))) := hv.1
        simp [execOp, hh, hc, go_sem, Kit.UponV]
        exact Below.refl _ _
       ·have hh : ev (.tmp 22) = .pointer (some (a.add (i * 14))) := hv.1
        have e0 := (HS.out.kept (HBK.out.trans (hx.mono HBK.out.size)) nlr).head hlt omg
        rw [HYI.out] at e0
        simp [execOp, hh, hc, e0, go_sem, Kit.UponV]
        exact Below.refl _ _
       ·have hh : ev (.tmp 3) = .slice (some a2) m c2 := hv.trans rfl
        simp [execOp, hh, hc, go_sem, Kit.UponV]
        exact Below.refl _ _
       ·have hh : ev (.tmp 5) = .int .i64 ((j + 1 : Nat) : Int) := hv.trans rfl
        simp [execOp, hh, hc, go_sem, Kit.UponV]
        exact Below.refl _ _
       ·have hh : ev (.tmp 25) = .int .i64 ((j + 1 : Nat) : Int) := hv.1
        simp [execOp, hh, hc, go_sem, Kit.UponV]
        first | exact ⟨by rw [IntKind.wrap_i64] <;> omega, Below.refl _ _⟩ | exact Below.refl _ _
       ·obtain ⟨⟨q1, _⟩, q2, _⟩ := hv
        rw [Mo.idx_sgR ev X _ _ _ _ _ (.tmp 24) (.tmp 26) a2 m c2 j q1 q2 hj]
        exact ⟨rfl, Below.refl _ _⟩
       ·have hh : ev (.tmp 27) = .pointer (some (a2.add (j * 14))) := hv.1
        simp [execOp, hh, hc, go_sem, Kit.UponV]
        exact Below.refl _ _
       ·have hh : ev (.tmp 28) = .pointer (some (a2.add (j * 14))) := hv.1
        have e0 := (HSK.out.kept hx nlr).head hj omg
        rw [HZI.out] at e0
        simp [execOp, hh, hc, e0, go_sem, Kit.UponV]
        exact Below.refl _ _
       ·obtain ⟨⟨q1, _⟩, q2, _⟩ := hv
        have hh : ev (.tmp 23) = .int .i64 yid := q1
        have hh2 : ev (.tmp 29) = .int .i64 zid := q2
        simp [execOp, hh, hh2, hc, go_sem, Kit.UponV]
        exact Below.refl _ _
       ·obtain ⟨⟨q1, _⟩, q2, _⟩ := hv
        have hh : ev (.tmp 18) = .bool true := q1
        have hh2 : ev (.tmp 30) = .bool (decide (yid < zid)) := q2
        simp [execOp, hh, hh2, hc, go_sem, Kit.UponV]
        exact Below.refl _ _
      intro vs u W3 hy hv hx
      have v15 : vs 15 = .bool (decide (yid < zid)) := hv 15 omg (fun _ _ => rfl)
      have HB3 := qh (HBK.out.trans (hx.mono HBK.out.size))
      have HS3 := qh (HSK.out.kept hx nlr)
      clear hv hy hx
      rw [HGJ.out] at v15
      simp only [Kit.putD, List.getD_cons_zero, List.getD_cons_succ, Act.put, v15, List.drop_succ_cons, List.drop_zero, List.drop_nil]
      clear v15
      generalize vs 0 = gg0 at *
      generalize vs 1 = gg1 at *
      generalize vs 2 = gg2 at *
      generalize vs 3 = gg3 at *
      generalize vs 4 = gg4 at *
      generalize vs 5 = gg5 at *
      generalize vs 6 = gg6 at *
      generalize vs 7 = gg7 at *
      generalize vs 8 = gg8 at *
      generalize vs 9 = gg9 at *
      generalize vs 10 = gg10 at *
      generalize vs 11 = gg11 at *
      generalize vs 12 = gg12 at *
      generalize vs 13 = gg13 at *
      generalize vs 14 = gg14 at *
      go_simp
      go_wp2_with fail
      go_meet
      case rel => exact ⟨rfl, HB3, HS3⟩
    case rest =>
     obtain ⟨rfl, HB2, HS2⟩ := hcut
     clear HBK HSK
     generalize wc = W2 at *
     rcases g with _ | _
     ·have HK := qh (show Mo.posI Mo.ltI y L m = k by
       rw [← HPK.out]
       rcases k with _ | j
       ·rfl
       ·unfold Mo.posI
        rw [if_neg (by intro h; simp only [Nat.add_sub_cancel] at hg; rw [h] at hg; simp at hg)])
      clear hg HPK hkx
      have hkc : (k : Int) ≤ (c2 : Int) := by omega
      have hkn : (k : Int) ≤ (m : Int) := by omega
      apply_assumption
      go_upto_region 8 with fail
      go_upto_region 9 with (at_builtin; go_loud (refine Kit.wpList_app_emptyM Mo.elS _ rfl _ _ rfl rfl (Kit.lit_rowM W2 [] _ W2.heap.size W2.heap.size 14 0 rfl nlr rfl (by unfold maxLen; omega)) (by simp) (some a2) k c2 ((L.take k).flatMap Mo.sgC) omg rfl (by rw [Mo.sgs_len, List.length_take, HM.out, Nat.min_eq_left hkm]) (fun _ => ⟨a2, rfl, fun j u hu => Mo.sg_head ((HM.out ▸ HS2.out.kept (B := W2.heap.size) ((Below.refl _ _).alloc nlr _) nlr : Tp.Sl _ (some a2) L.length 14 (Ex.sgc L))) k j u hu⟩) ?_); intro v2 w5 ho hb)
      have hb2 : Below W2.heap.size W2 w5 := ((Below.refl _ _).alloc nlr (.cells #[] 60)).trans (hb.mono (by simp))
      have HB5 := qh (HB2.out.trans (hb2.mono HB2.out.size))
      have HBW := qh hb2
      have HSO := qh (HS2.out.kept hb2 nlr)
      have HW5 := qh (show w.heap.size ≤ W2.heap.size from HB2.out.size)
      have HS5 := qh (show W2.heap.size ≤ w5.heap.size from hb2.size)
      clear hb hb2
      refine wp_region_lit ?_
      refine Kit.wpList_run rfl v2 w5 rfl ?_
      refine Kit.wpList_run rfl (.slice (some a) l.length c) w5 rfl ?_
      refine Kit.wpList_run rfl (.int .i64 i) w5 rfl ?_
      refine Kit.wpList_run rfl (.pointer (some (a.add (i * 14)))) w5 (Mo.idx_sgR _ _ _ _ _ _ _ _ _ a l.length c i rfl rfl hlt) ?_
      refine Kit.wpList_run rfl (.agg (Mo.sgC y).toArray) w5 (by
       exact (Mo.ld_sgR _ w5 _ _ _ _ _ 42 a l i (HS.out.kept HB5.out nlr) hlt rfl).trans (by rw [HY.out])) ?_
      refine Kit.wpList_run rfl (.slice (some ⟨w5.heap.size, 0, none⟩) 1 1) (w5.alloc (.cells (Mo.sgC y).toArray 60)) (Mo.bs_sgR y _ _ _ _ _ _ 43 rfl) ?_
      refine Kit.wpList_app_slM Mo.elS _ rfl _ _ rfl v2 k _ rfl (ho.alloc _) (by rw [World.size_alloc]; exact Nat.le_succ_of_le HS5.out) omg (some ⟨w5.heap.size, 0, none⟩) 1 1 (Mo.sgC y) omg rfl (by rw [Mo.sgC_len]) (fun b e j u hu => by cases e; exact Kit.lit_at _ (Mo.sgC y) _ (by simp) j u hu) (fun e => by cases e) (Mo.sgC_one y) ?_
      intro v6 w6 ho6 hg6
      have HB6 := qh (show Below W2.heap.size W2 w6 from (HBW.out.alloc HS5.out _).grown hg6 (by rw [World.size_alloc]; exact Nat.le_succ_of_le HS5.out) (fun q hq => (ho.lt q hq).1))
      clear ho hg6 HB5 HSO HBW
      simp only [Act.put]
      go_simp
      go_upto_region 10 with fail
      refine wp_region_lit ?_
      refine Kit.wpList_run rfl v6 w6 rfl ?_
      refine Kit.wpList_run rfl (.slice (some a2) m c2) w6 rfl ?_
      refine Kit.wpList_run rfl (.int .i64 k) w6 rfl ?_
      refine Kit.wpList_run rfl (.slice (if c2 = k then some a2 else some (a2.add (k * 14))) (m - k) (c2 - k)) w6 (Mo.slc_sgR _ _ _ _ _ _ _ _ a2 m c2 k rfl rfl hkm HCM.out) ?_
      refine Kit.wpList_app_slM Mo.elS _ rfl _ _ rfl v6 (k + 1) _ rfl ho6 HB6.out.size omg (if c2 = k then some a2 else some (a2.add (k * 14))) (m - k) (c2 - k) ((L.drop k).flatMap Mo.sgC) omg rfl (by rw [Mo.sgs_len, List.length_drop, HM.out]) (fun b e j u hu => Mo.sg_tail ((HM.out ▸ HS2.out.kept HB6.out nlr : Tp.Sl _ (some a2) L.length 14 (Ex.sgc L))) k c2 (by rw [HM.out]; exact hkm) (by rw [HM.out]; exact HCM.out) b e j u hu) (fun e => absurd e (by split <;> simp)) (Mo.sg_one _) ?_
      intro v7 w7 ho7 hg7
      have HB7 := qh (show Below w.heap.size w w7 from HB2.out.trans ((HB6.out.grown hg7 HB6.out.size (fun q hq => (ho6.lt q hq).1)).mono HB2.out.size))
      have hrow : w7.ownsRow W2.heap.size 60 14 v7 (m + 1) ((Mo.putI Mo.ltI y L).flatMap Mo.sgC) := by
       have e1 : k + 1 + (m - k) = m + 1 := by omega
       have e2 : (Mo.putI Mo.ltI y L).flatMap Mo.sgC = (L.take k).flatMap Mo.sgC ++ Mo.sgC y ++ (L.drop k).flatMap Mo.sgC := by
        unfold Mo.putI
        rw [HM.out, HK.out, List.flatMap_append, List.flatMap_cons, List.append_assoc]
       rw [e1] at ho7
       rw [e2]
       exact ho7
      obtain ⟨a7, c7, rfl, hc7, hs7⟩ := Mo.own_sg hrow (by rw [Mo.putI_len, HM.out]) omg
      have HLE := qh (show (Mo.putI Mo.ltI y L).length = m + 1 by rw [Mo.putI_len, HM.out])
      have HC7 := qh (show (Mo.putI Mo.ltI y L).length ≤ c7 by rw [HLE.out]; exact hc7)
      have HS7 := qh hs7
      obtain ⟨av, hav⟩ : ∃ v, (if c2 = k then some a2 else some (a2.add (k * 14))) = v := ⟨_, rfl⟩
      clear ho6 ho7 hg7 hrow hc7 hs7 HB6 HB2 HS2
      simp only [Act.put, hav]
      clear hav
      go_simp
      go_wp2_with fail
      go_roundg (l.length - (i + 1))
      case measure => omega
      case rel => exact ⟨i + 1, Mo.putI Mo.ltI y L, a7, c7, by go_num, by rw [HLE.out], by omega, Nat.le_refl _, HC7, qh (HP.out.put HN.out hlt y HY.out), HS7, HB7⟩
     ·obtain ⟨j, rfl⟩ : ∃ j, k = j + 1 := by
       rcases k with _ | j
       ·simp at hg
       ·exact ⟨j, rfl⟩
      have HK := qh (show Mo.posI Mo.ltI y L j = Mo.posI Mo.ltI y L m by
       rw [← HPK.out]
       show _ = if _ then _ else _
       rw [if_pos (by simpa using hg)])
      clear hg
      have e1 : IntKind.i64.wrap ((j : Int) + 1 - 1) = j := by rw [IntKind.wrap_i64] <;> omega
      apply_assumption
      go_wp2_with fail
      go_roundg j
      case measure => omega
      case rel => exact ⟨j, by go_num, by omega, Nat.le_refl _, HK, HB2, HS2⟩
  ·obtain rfl : i = l.length := by omega
   go_wp2_with fail
   go_ret
   exact ⟨⟨L, a2, c2, rfl, HP.out, HSL.out⟩, HB.out⟩
end Go.Proofs.YtedolbjgdedoaaaGreatDoor

namespace Go.Proofs.YtedolbjgdedoaaaGreatDoor
open Go.RowKit Go.Shelf
attribute [local go_sem] Oper.semAt_some
namespace Mo
theorem idx_reR (ev : Operand → Value) (W : World) (d : Option Tmp) (ty : TypeId) (po : String) (af : Array Edge) (g : Option (Nat × Bool)) (x y : Operand) (ad : Addr) (n c i : Nat) (h1 : ev x = .slice (some ad) n c) (h2 : ev y = .int .i64 i) (hlt : i < n) : (execOp ev { dst := d, op := .indexAddr 38 x y, type := ty, pos := po, after := af, guard := g }).run Tryz.prog W = .ok (.value (.pointer (some (ad.add (i * 4))))) W := by
 have hz : (i : Int) < n := by omega
 simp [execOp, h1, h2, go_sem, hlt, hz]
theorem ld_reR (ev : Operand → Value) (W : World) (d : Option Tmp) (ty : TypeId) (po : String) (af : Array Edge) (g : Option (Nat × Bool)) (t : Tmp) (ad : Addr) (r : List Uo.Re) (i : Nat) (hS : Tp.Sl W (some ad) r.length 4 (rcs r)) (hi : i < r.length) (h : ev (.tmp t) = .pointer (some (ad.add (i * 4)))) : (execOp ev { dst := d, op := .load 69 (.tmp t), type := ty, pos := po, after := af, guard := g }).run Tryz.prog W = .ok (.value (.agg (reC (r.getD i (0, 0, 0, false))).toArray)) W := by
 have e0 := hS.head hi omg
 have e1 := hS.field hi (j := 1) omg omg
 have e2 := hS.field hi (j := 2) omg omg
 have e3 := hS.field hi (j := 3) omg omg
 simp only [rcs] at e0 e1 e2 e3
 simp [execOp, h, e0, e1, e2, e3, go_sem, reC]
theorem upon_of {P : Program} {K : Value → World → Prop} {r : Result Next} {v : Value} {W : World} (h : r = .ok (.value v) W) (hk : K v W) : Kit.UponV P K r := by
 rw [h]; exact hk
theorem mot_iff {m : List Ex.Sg} {r : List Uo.Re} (h : m.length = r.length) : mot m r = true ↔ ∀ j, j < m.length → form (m.getD j default) (r.getD j (0, 0, 0, false)) = true := by
 unfold mot
 rw [Bool.and_eq_true, List.all_eq_true]
 constructor
 ·rintro ⟨_, h2⟩ j hj
  have := h2 (m[j], r[j]'omg) (by
   rw [List.mem_iff_getElem]
   exact ⟨j, by simp; omega, by simp⟩)
  simpa [List.getD, hj, show j < r.length by omega] using this
 ·intro h2
  refine ⟨by simpa using h, fun p hp => ?_⟩
  obtain ⟨j, hj, rfl⟩ := List.mem_iff_getElem.1 hp
  have hj1 : j < m.length := by simp at hj; omega
  have := h2 j hj1
  simpa [List.getD, hj1, show j < r.length by omega] using this
end Mo
theorem rp_motion (l m : List Ex.Sg) (a : Addr) (c : Nat) (r : List Uo.Re) (aR : Option Addr) (cR : Nat) (w : World) (hS : Tp.Sl w (some a) l.length 14 (Ex.sgc l)) (hl : l.length ≤ 4096) (hn : (l.map (·.id)).Nodup) (hm : m.Pairwise fun a b => a.id < b.id) (hp : l.Perm m) (hR : Tp.Sl w aR r.length 4 (Mo.rcs r)) :
  Calls Tryz.prog 37 #[.slice (some a) l.length c, .slice aR r.length cR] w fun e w' => e = .returned (.bool (Mo.mot m r)) ∧ Below w.heap.size w w' := by
 have HBI := qh (fun W (hb : Below w.heap.size w W) => rp_byid l a c W (hS.kept hb nlr) hl hn)
 have HDN := qh (fun L (h : Mo.IdP l l.length L) => h.done hm hp)
 have HFR := qh (fun k z W => rp_form27 k z W)
 have HRS := qh hR
 obtain ⟨MT, hMT⟩ : ∃ b, Mo.mot m r = b := ⟨_, rfl⟩
 rw [hMT]
 have hml := hp.length_eq
 have HML := qh hml
 have HIF := qh (fun (h : m.length = r.length) => hMT ▸ Mo.mot_iff h)
 have HNE := qh (show m.length ≠ r.length → MT = false from fun h => by rw [← hMT]; unfold Mo.mot; rw [show (m.length == r.length) = false by simpa using h]; rfl)
 have hlz : l.length ≤ 4096 := hl
 clear hS hn hm hp hR hMT hml hl
 by_cases hlr0 : l.length = r.length
 case neg =>
  have n0 : ((l.length : Int) != (r.length : Int)) = true := by simp; omega
  have HF := qh (HNE.out (by rw [← HML.out]; exact hlr0))
  clear hlr0
  go_enter Tryz.func37, Tryz.ntmps37
  go_wp2_with fail
  go_ret
  exact ⟨by rw [HF.out]; rfl, Below.refl _ _⟩
 have HLR := qh hlr0
 have n0 : ((l.length : Int) != (r.length : Int)) = false := by simp; omega
 clear hlr0
 go_enter Tryz.func37, Tryz.ntmps37
 go_wp2_with fail
 refine (HBI.out _ (Below.refl _ _)).mono ?_
 rintro _ W1 ⟨⟨L, a2, c2, rfl, hid, hs⟩, hb⟩
 obtain rfl := HDN.out L hid
 have HSL := qh hs
 have HB1 := qh hb
 obtain ⟨n, hnn⟩ : ∃ n, L.length = n := ⟨_, rfl⟩
 have HNM := qh hnn
 have hn4 : n ≤ 4096 := by rw [← hnn, ← HML.out]; exact hlz
 have HSM := qh (hnn ▸ HSL.out : Tp.Sl W1 (some a2) n 14 (Ex.sgc L))
 rw [hnn]
 clear hid hs hb hnn HSL n0
 go_wp2_with fail
 go_loopg [6] n (fun kx v6 wr => ∃ i : Nat, v6 = .int .i64 i ∧ i ≤ n ∧ n - i ≤ kx ∧ Hid (∀ j, j < i → Mo.form (L.getD j default) (r.getD j (0, 0, 0, false)) = true) ∧ Hid (Tp.Sl wr (some a2) n 14 (Ex.sgc L)) ∧ Hid (Below w.heap.size w wr))
 case atStart => exact ⟨0, rfl, by omega, by omega, qh (fun j hj => by omega), HSM, HB1⟩
 case round =>
  clear HSM HB1
  obtain ⟨i, rfl, hi, hk, HA, HSM, HB⟩ := hrel
  have HRN := qh (show n = r.length by rw [← HNM.out, ← HML.out]; exact HLR.out)
  by_cases hlt : i < n
  ·have hltz : (i : Int) < (n : Int) := by omega
   have hlr : i < r.length := by rw [← HRN.out]; exact hlt
   obtain ⟨adr, rfl, hz1, hz2⟩ := HRS.out.at hlr
   clear hz1 hz2
   obtain ⟨y, hy⟩ : ∃ y, L.getD i default = y := ⟨_, rfl⟩
   obtain ⟨z, hz⟩ : ∃ y, r.getD i (0, 0, 0, false) = y := ⟨_, rfl⟩
   have HY := qh hy
   have HZ := qh hz
   obtain ⟨g, hg⟩ : ∃ g, Mo.form y z = g := ⟨_, rfl⟩
   have HFM := qh (fun W => hg ▸ HFR.out y z W)
   have HGG := qh hg
   clear hy hz hg
   go_upto_region 7 with fail
   refine Kit.wp_region_vals3 10 [([(5, none)], none, true), ([(6, none)], none, true), ([(20, some 0), (21, some 1)], none, true), ([(22, some 2)], none, true), ([(1, none)], none, true), ([(6, none)], none, true), ([(24, some 4), (25, some 5)], none, true), ([(26, some 6)], none, true), ([(23, some 3), (27, some 7)], none, true), ([(28, some 8)], none, true)]
    [some 20, some 21, some 22, some 23, some 24, some 25, some 26, some 27, some 28, some 29] rfl (by kernel_rfl) (by kernel_rfl) (fun X => Below wr.heap.size wr X) (fun _ A B => Below A.heap.size A B) (fun _ _ => false) (fun o _ v X => match o with
    | 0 => v = .slice (some a2) n c2
    | 1 => v = .int .i64 i
    | 2 => v = .pointer (some (a2.add (i * 14)))
    | 3 => v = .agg (Mo.sgC y).toArray
    | 4 => v = .slice (some adr) r.length cR
    | 5 => v = .int .i64 i
    | 6 => v = .pointer (some (adr.add (i * 4)))
    | 7 => v = .agg (Mo.reC z).toArray
    | 8 => v = .bool g
    | _ => v = .bool (!g)
    ) (by decide) (fun _ h k => h.trans (k.mono h.size)) (Below.drew (Below.refl _ _)) (fun _ X => Below.refl _ X) ?hst ?hown ?_ ?_
   case hst =>
    intro o m u u' v A B ho hn hne _ hdep hu hA hE h3
    exact h3
   case hown =>
    intro o u u' v X ho hu h3
    exact h3
   ·simp only [List.take_succ_cons, List.take_zero, Kit.StepsV3, Kit.VOp3, Kit.RdP3, true_and, if_true, and_true]
    refine ⟨?_, ?_, ?_, ?_, ?_, ?_, ?_, ?_, ?_, ?_⟩
    all_goals intro ev u X hx hv hc hf hg
    ·have hh : ev (.tmp 5) = .slice (some a2) n c2 := hv.trans rfl
     simp [execOp, hh, hc, go_sem, Kit.UponV]
     exact Below.refl _ _
    ·have hh : ev (.tmp 6) = .int .i64 i := hv.trans rfl
     simp [execOp, hh, hc, go_sem, Kit.UponV]
     exact Below.refl _ _
    ·obtain ⟨⟨q1, _⟩, q2, _⟩ := hv
     rw [Mo.idx_sgR ev X _ _ _ _ _ (.tmp 20) (.tmp 21) a2 n c2 i q1 q2 hlt]
     exact ⟨rfl, Below.refl _ _⟩
    ·have h := Mo.ld_sgR ev X (some 23) 60 "" #[] none 22 a2 L i (HNM.out ▸ HSM.out.kept hx nlr) (by rw [HNM.out]; exact hlt) hv.1
     rw [HY.out] at h
     exact Mo.upon_of h ⟨rfl, Below.refl _ _⟩
    ·have hh : ev (.tmp 1) = .slice (some adr) r.length cR := hv.trans rfl
     simp [execOp, hh, hc, go_sem, Kit.UponV]
     exact Below.refl _ _
    ·have hh : ev (.tmp 6) = .int .i64 i := hv.trans rfl
     simp [execOp, hh, hc, go_sem, Kit.UponV]
     exact Below.refl _ _
    ·obtain ⟨⟨q1, _⟩, q2, _⟩ := hv
     rw [Mo.idx_reR ev X _ _ _ _ _ (.tmp 24) (.tmp 25) adr r.length cR i q1 q2 hlr]
     exact ⟨rfl, Below.refl _ _⟩
    ·have h := Mo.ld_reR ev X (some 27) 69 "" #[] none 26 adr r i (HRS.out.kept (HB.out.trans (hx.mono HB.out.size)) nlr) hlr hv.1
     rw [HZ.out] at h
     exact Mo.upon_of h ⟨rfl, Below.refl _ _⟩
    ·obtain ⟨⟨q1, _⟩, q2, _⟩ := hv
     have h1 : ev (.tmp 23) = .agg (Mo.sgC y).toArray := q1
     have h2 : ev (.tmp 27) = .agg (Mo.reC z).toArray := q2
     simp [execOp, h1, h2, hc, hf, go_sem, Kit.UponV]
     refine (HFM.out X).mono ?_
     rintro e w3 ⟨rfl, hb⟩
     exact ⟨_, rfl, rfl, hb⟩
    ·have hh : ev (.tmp 28) = .bool g := hv.1
     simp [execOp, hh, hc, go_sem, Kit.UponV]
     exact Below.refl _ _
   intro vs u W3 hy hv hx
   have vl : vs 9 = .bool (!g) := hv 9 omg (fun _ _ => rfl)
   have HB3 := qh (HB.out.trans (hx.mono HB.out.size))
   have HS3 := qh (HSM.out.kept hx nlr)
   clear hv hy hx
   simp only [Kit.putD, List.getD_cons_zero, List.getD_cons_succ, Act.put, vl, List.drop_succ_cons, List.drop_zero, List.drop_nil]
   clear vl
   generalize vs 0 = gg0 at *
   generalize vs 1 = gg1 at *
   generalize vs 2 = gg2 at *
   generalize vs 3 = gg3 at *
   generalize vs 4 = gg4 at *
   generalize vs 5 = gg5 at *
   generalize vs 6 = gg6 at *
   generalize vs 7 = gg7 at *
   generalize vs 8 = gg8 at *
   rcases g with _ | _
   ·have HF := qh (show MT = false from Bool.eq_false_iff.2 fun h => by
     have h9 := (HIF.out (by rw [HNM.out]; exact HRN.out)).1 h i (by rw [HNM.out]; exact hlt)
     rw [HY.out, HZ.out, HGG.out] at h9
     cases h9)
    go_simp
    go_wp2_with fail
    go_ret
    exact ⟨by rw [HF.out]; rfl, HB3.out⟩
   ·go_simp
    go_wp2_with fail
    go_roundg (n - (i + 1))
    case measure => omega
    case rel => exact ⟨i + 1, by go_num, by omega, Nat.le_refl _, qh (fun j hj => by
     by_cases e : j = i
     ·rw [e, HY.out, HZ.out]; exact HGG.out
     ·exact HA.out j omg), HS3, HB3⟩
  ·obtain rfl : i = n := by omega
   have HT := qh (show MT = true from (HIF.out (by rw [HNM.out]; exact HRN.out)).2 (fun j hj => HA.out j (by rw [← HNM.out]; exact hj)))
   go_wp2_with fail
   go_ret
   exact ⟨by rw [HT.out]; rfl, HB.out⟩
theorem rp_check27 (x : Ex.Wk) (p : Ex.Wa) (w : World) (ha : Ex.At w x p) (role bar : Int) (r : List Uo.Re) (aR : Option Addr) (cR : Nat) (hR : Tp.Sl w aR r.length 4 (Mo.rcs r)) :
  Calls Tryz.prog 15 #[Ex.workV x p, .int .i64 role, .int .i64 bar, .slice aR r.length cR] w fun e w' => e = .returned (.int .i64 (if Mo.ofE x role bar ≠ 0 then Mo.ofE x role bar else if Mo.mot (Mo.ofI x role bar) r = true then 0 else 270)) ∧ Below w.heap.size w w' := by
 have HOF := qh (fun W (hb : Below w.heap.size w W) => rp_of x p role bar W (ha.kept hb nlr))
 have HMO := qh (fun (L : List Ex.Sg) (a : Addr) (c : Nat) W (hb : Below w.heap.size w W) (h0 : Mo.ofE x role bar = 0) (hL : Mo.Of x role bar L) (hs : Tp.Sl W (some a) L.length 14 (Ex.sgc L)) => (by
  have hg : Ex.Good x := Ex.good_of (by
   unfold Mo.ofE at h0
   split at h0
   ·rename_i h1; exact absurd h0 h1
   ·rename_i h1; simpa using h1)
  have hlen : L.length ≤ 4096 := by rw [hL.perm.length_eq]; exact Nat.le_trans (List.length_filter_le _ _) hg.len
  exact rp_motion L (Mo.ofI x role bar) a c r aR cR W hs hlen (Mo.of_nodup hg hL) (Mo.ofI_rise hg role bar) hL.perm (hR.kept hb nlr) : Calls Tryz.prog 37 #[.slice (some a) L.length c, .slice aR r.length cR] W fun e w' => e = .returned (.bool (Mo.mot (Mo.ofI x role bar) r)) ∧ Below W.heap.size W w'))
 obtain ⟨OE, hOE⟩ : ∃ c, Mo.ofE x role bar = c := ⟨_, rfl⟩
 obtain ⟨MT, hMT⟩ : ∃ c, Mo.mot (Mo.ofI x role bar) r = c := ⟨_, rfl⟩
 obtain ⟨RT, hRT⟩ : ∃ c : Int, (if Mo.ofE x role bar ≠ 0 then Mo.ofE x role bar else if Mo.mot (Mo.ofI x role bar) r = true then 0 else 270) = c := ⟨_, rfl⟩
 rw [hRT]
 have HRT := qh hRT
 have HOE := qh hOE
 have HMT := qh hMT
 simp only [hMT] at HMO
 rw [hOE] at HOF
 clear ha hR hOE hMT hRT
 obtain ⟨aRo, cRo, aT, cT, aP, cP, aS, cS, aG, cG⟩ := p
 dsimp only [Ex.workV, Ex.wv] at HOF ⊢
 go_enter Tryz.func15, Tryz.ntmps15
 go_upto_region 1 with fail
 refine Kit.wp_name ?_
 intro W1 hW1
 have HX1 := qh (show Below w.heap.size w W1 by rw [hW1]; exact (Below.refl _ _).alloc nlr _)
 have HQ1 := qh (show Kit.Bk W1 w.heap.size 32 (Mo.wkC x ⟨aRo, cRo, aT, cT, aP, cP, aS, cS, aG, cG⟩) by rw [hW1]; exact Kit.Bk.new _ _ _)
 clear hW1
 refine wp_region_lit ?_
 refine Kit.load_bk0 rfl 32 (.tmp 4) rfl w.heap.size rfl HQ1.out Tryz.underlying32 rfl (Mo.szWkR _ _) ?_
 simp only [Act.put]
 go_simp
 go_wp2_with fail
 refine (HOF.out _ HX1.out).mono ?_
 rintro _ W2 ⟨⟨v, rfl, hv⟩, hb⟩
 have HV := qh hv
 have HX2 := qh (HX1.out.trans (hb.mono HX1.out.size))
 clear hb HX1 HQ1 HOF hv
 by_cases h0 : OE = 0
 case neg =>
  have c1 : (OE != 0) = true := by simpa using h0
  have HE := qh (show RT = OE by rw [← HRT.out, HOE.out, if_pos h0])
  clear h0
  go_wp2_with fail
  go_ret
  exact ⟨by rw [HE.out]; rfl, HX2.out⟩
 subst h0
 obtain ⟨L, a, c, rfl, hc, hL, hs⟩ := HV.out rfl
 have HM := qh (HMO.out L a c W2 HX2.out HOE.out hL hs)
 clear hc hL hs HV HMO
 rcases MT with _ | _
 ·have HE := qh (show RT = 270 by rw [← HRT.out, HOE.out, HMT.out, if_neg (by decide), if_neg (by decide)])
  go_wp2_with fail
  refine HM.out.mono ?_
  rintro _ W3 ⟨rfl, hb⟩
  have HX3 := qh (HX2.out.trans (hb.mono HX2.out.size))
  clear hb
  go_wp2_with fail
  go_ret
  exact ⟨by rw [HE.out]; rfl, HX3.out⟩
 ·have HE := qh (show RT = 0 by rw [← HRT.out, HOE.out, HMT.out, if_neg (by decide), if_pos rfl])
  go_wp2_with fail
  refine HM.out.mono ?_
  rintro _ W3 ⟨rfl, hb⟩
  have HX3 := qh (HX2.out.trans (hb.mono HX2.out.size))
  clear hb
  go_wp2_with fail
  go_ret
  exact ⟨by rw [HE.out]; rfl, HX3.out⟩
end Go.Proofs.YtedolbjgdedoaaaGreatDoor

namespace Go.Proofs.YtedolbjgdedoaaaGreatDoor
open Go.RowKit Go.Shelf
attribute [local go_sem] Oper.semAt_some
namespace Mo
theorem real_dropR (r : List Uo.Re) (id : Int) (i : Nat) (h : i < r.length) (y : Uo.Re) (hy : r.getD i (0, 0, 0, false) = y) : real (r.drop i) id = if (y.1 == id) = true then y else real (r.drop (i + 1)) id := by
 have e : r[i] = y := by rw [← hy]; simp [List.getD_eq_getElem?_getD, List.getElem?_eq_getElem h]
 rw [List.drop_eq_getElem_cons h, e]
 unfold real
 rw [List.find?_cons]
 cases hh : (y.1 == id) <;> simp
theorem fine_snocR (r : List Uo.Re) : ∀ (l : List Ex.Sg) (k : Ex.Sg) (s : St), fine r (l ++ [k]) s = (fine r l s && ok (act (last r l s) k (real r k.id)))
 | [], k, s => by simp [fine, last]
 | k0 :: l, k, s => by
  show (ok _ && fine r (l ++ [k]) _) = ((ok _ && fine r l _) && ok (act (last r l _) k _))
  rw [fine_snocR r l k _, Bool.and_assoc]
theorem fine_preR (r : List Uo.Re) : ∀ (l m : List Ex.Sg) (s : St), fine r (l ++ m) s = true → fine r l s = true
 | [], _, _, _ => rfl
 | k0 :: l, m, s, h => by
  unfold fine
  have h2 : (ok _ && fine r (l ++ m) _) = true := h
  rw [Bool.and_eq_true] at h2 ⊢
  exact ⟨h2.1, fine_preR r l m _ h2.2⟩
theorem way_snocR (r : List Uo.Re) : ∀ (l : List Ex.Sg) (k : Ex.Sg) (s : St), fine r (l ++ [k]) s = true → way r (l ++ [k]) s = way r l s ++ [act (last r l s) k (real r k.id)]
 | [], k, s, h => by
  have h2 : ok (act s k (real r k.id)) = true := by
   have h3 : (ok _ && true) = true := h
   simpa using h3
  show s :: (if _ then _ else _) = _
  rw [if_pos h2]
  rfl
 | k0 :: l, k, s, h => by
  have h2 : (ok _ && fine r (l ++ [k]) _) = true := h
  rw [Bool.and_eq_true] at h2
  show s :: (if _ then way r (l ++ [k]) _ else _) = (s :: (if _ then way r l _ else _)) ++ [act (last r l _) k _]
  rw [if_pos h2.1, if_pos h2.1, way_snocR r l k _ h2.2]
  rfl
theorem way_lenR (r : List Uo.Re) : ∀ (l : List Ex.Sg) (s : St), fine r l s = true → (way r l s).length = l.length + 1
 | [], _, _ => rfl
 | k0 :: l, s, h => by
  have h2 : (ok _ && fine r l _) = true := h
  rw [Bool.and_eq_true] at h2
  show (s :: (if _ then way r l _ else _)).length = _
  rw [if_pos h2.1, List.length_cons, way_lenR r l _ h2.2, List.length_cons]
theorem way_endR (r : List Uo.Re) (l : List Ex.Sg) (s : St) (h : fine r l s = true) : (way r l s).getD l.length St.zero = last r l s := by
 have h1 := way_last r l s h
 rw [List.getLast?_eq_getElem?, way_lenR r l s h, Nat.add_sub_cancel] at h1
 rw [List.getD_eq_getElem?_getD, h1]
 rfl
def stc (L : List St) (i j : Nat) : Value := (stA (L.getD i St.zero)).getD j undef
theorem elT : Kit.El Tryz.prog 93 37 (.agg #[.int .i64 0, .int .i64 0, .int .i64 0, .int .i64 0, .int .i64 0, .int .i64 0, .int .i64 0, .int .i64 0, .int .i64 0, .int .i64 0, .int .i64 0, .int .i64 0, .int .i64 0]) 13 104 := ⟨Tryz.underlying93, by kernel_rfl, rfl, by omega, by omega⟩
theorem st_get (l : List St) (i j : Nat) (hi : i < l.length) (hj : j < 13) : (l.flatMap fun s => (stA s).toList)[i * 13 + j]? = some (stc l i j) := by
 have h := Kit.flatGet (k := 13) (fun (s : St) => (rfl : ((stA s).toList).length = 13)) l i j hi hj
 rw [h]
 have e : l.getD i default = l.getD i St.zero := by simp [List.getD_eq_getElem?_getD, List.getElem?_eq_getElem hi]
 unfold stc
 rw [e]
 generalize l.getD i St.zero = s
 rcases j with _ | _ | _ | _ | _ | _ | _ | _ | _ | _ | _ | _ | _ | j
 all_goals first | rfl | omega
def E5R (n q : Nat) (A B : World) : Prop := Below n A B ∧ (q ≠ 20 → Below A.heap.size A B) ∧ ∀ (b : Nat) (cs : Array Value), cs.size = 13 → Kit.Bk A b 37 cs → ∃ cs', cs'.size = 13 ∧ Kit.Bk B b 37 cs'
theorem E5R.of {n q : Nat} {A B : World} (h : Below A.heap.size A B) (hn : n ≤ A.heap.size) : E5R n q A B := ⟨h.mono hn, fun _ => h, fun _ cs hs hb => ⟨cs, hs, hb.below h hb.lt⟩⟩
theorem E5R.refl (n q : Nat) (A : World) : E5R n q A A := ⟨Below.refl _ _, fun _ => Below.refl _ _, fun _ cs hs hb => ⟨cs, hs, hb⟩⟩
theorem E5R.store {n b : Nat} {A B : World} {cs cs' : Array Value} (hx : Kit.Exc (fun k => k = b) A B) (hn : n ≤ A.heap.size) (hb : n ≤ b) (hA : Kit.Bk A b 37 cs) (hB : Kit.Bk B b 37 cs') (hs : cs.size = 13) (hs' : cs'.size = 13 := by rfl) : E5R n 20 A B :=
 ⟨hx.below hn (fun k hk => by omega), fun h => absurd rfl h, fun c ds h1 h2 => by
  by_cases e : c = b
  ·subst e; exact ⟨cs', hs', hB⟩
  ·exact ⟨ds, h1, h2.exc hx e⟩⟩
theorem bs_stR (s : St) (ev : Operand → Value) (W : World) (d : Option Tmp) (ty : TypeId) (po : String) (af : Array Edge) (t : Tmp) (h : ev (.tmp t) = .agg (stA s)) : (execOp ev { dst := d, op := .buildSlice 93 1 #[(0, .tmp t)], type := ty, pos := po, after := af, guard := none }).run Tryz.prog W = .ok (.value (.slice (some ⟨W.heap.size, 0, none⟩) 1 1)) (W.alloc (.cells (stA s) 37)) := by
 simp [execOp, h, go_sem]
theorem idx_stR (ev : Operand → Value) (W : World) (d : Option Tmp) (ty : TypeId) (po : String) (af : Array Edge) (g : Option (Nat × Bool)) (x y : Operand) (ad : Addr) (n c i : Nat) (h1 : ev x = .slice (some ad) n c) (h2 : ev y = .int .i64 i) (hlt : i < n) : (execOp ev { dst := d, op := .indexAddr 93 x y, type := ty, pos := po, after := af, guard := g }).run Tryz.prog W = .ok (.value (.pointer (some (ad.add (i * 13))))) W := by
 have hz : (i : Int) < n := by omega
 simp [execOp, h1, h2, go_sem, hlt, hz]
theorem ld_stR (ev : Operand → Value) (W : World) (d : Option Tmp) (ty : TypeId) (po : String) (af : Array Edge) (g : Option (Nat × Bool)) (t : Tmp) (ad : Addr) (L : List St) (i n : Nat) (hS : Tp.Sl W (some ad) n 13 (stc L)) (hi : i < n) (h : ev (.tmp t) = .pointer (some (ad.add (i * 13)))) : (execOp ev { dst := d, op := .load 37 (.tmp t), type := ty, pos := po, after := af, guard := g }).run Tryz.prog W = .ok (.value (.agg (stA (L.getD i St.zero)))) W := by
 have e0 := hS.head hi omg
 have e1 := hS.field hi (j := 1) omg omg
 have e2 := hS.field hi (j := 2) omg omg
 have e3 := hS.field hi (j := 3) omg omg
 have e4 := hS.field hi (j := 4) omg omg
 have e5 := hS.field hi (j := 5) omg omg
 have e6 := hS.field hi (j := 6) omg omg
 have e7 := hS.field hi (j := 7) omg omg
 have e8 := hS.field hi (j := 8) omg omg
 have e9 := hS.field hi (j := 9) omg omg
 have e10 := hS.field hi (j := 10) omg omg
 have e11 := hS.field hi (j := 11) omg omg
 have e12 := hS.field hi (j := 12) omg omg
 simp only [stc] at e0 e1 e2 e3 e4 e5 e6 e7 e8 e9 e10 e11 e12
 simp [execOp, h, e0, e1, e2, e3, e4, e5, e6, e7, e8, e9, e10, e11, e12, go_sem, stA]
end Mo
theorem rp_real27 (r : List Uo.Re) (id : Int) (aR : Option Addr) (cR : Nat) (w : World) (hl : r.length ≤ 1000000000) (hR : Tp.Sl w aR r.length 4 (Mo.rcs r)) : Calls Tryz.prog 80 #[.slice aR r.length cR, .int .i64 id] w fun e w' => e = .returned (.agg (Mo.reC (Mo.real r id)).toArray) ∧ Below w.heap.size w w' := by
 obtain ⟨Y, hY⟩ : ∃ y, Mo.real r id = y := ⟨_, rfl⟩
 rw [hY]
 have HY := qh hY
 have HR := qh hR
 have HSZ := qh (fun y => Mo.szReR y)
 clear hY hR
 go_enter Tryz.func80, Tryz.ntmps80
 go_wp2_with fail
 refine Kit.wp_name ?_
 intro W1 hW1
 have HB1 := qh (show Below w.heap.size w W1 by rw [hW1]; exact (Below.refl _ _).alloc nlr _)
 have HZ1 := qh (show Kit.Bk W1 w.heap.size 69 (Mo.reC (0, 0, 0, false)).toArray by rw [hW1]; exact Kit.Bk.new _ _ _)
 clear hW1
 go_loopg [5] r.length (fun kx v5 wr => ∃ i : Nat, v5 = .int .i64 i ∧ i ≤ r.length ∧ r.length - i ≤ kx ∧ Hid (Mo.real (r.drop i) id = Y) ∧ wr = W1)
 case atStart => exact ⟨0, rfl, by omega, by omega, qh (by rw [List.drop_zero]; exact HY.out), rfl⟩
 case round =>
  obtain ⟨i, rfl, hi, hk, HD, rfl⟩ := hrel
  by_cases hlt : i < r.length
  ·have hltz : (i : Int) < (r.length : Int) := by omega
   have hsl := HR.out.kept HB1.out nlr
   obtain ⟨ad, rfl, hadb, hcl⟩ := HR.out.at hlt
   obtain ⟨y, hy⟩ : ∃ y, r.getD i (0, 0, 0, false) = y := ⟨_, rfl⟩
   have HST := qh (Mo.real_dropR r id i hlt y hy)
   have HSL := qh hsl
   have HYY := qh hy
   have f0 := hsl.head hlt omg
   simp only [Mo.rcs, hy] at f0
   obtain ⟨yid, hyid⟩ : ∃ q, y.1 = q := ⟨_, rfl⟩
   rw [hyid] at f0
   have HYI := qh hyid
   clear hsl hy hadb hcl hyid
   rcases d : (yid == id) with _ | _
   ·have HN := qh (show Mo.real (r.drop (i + 1)) id = Y by rw [← HD.out, HST.out, HYI.out, if_neg (by rw [d]; decide)])
    go_wp2_with fail
    go_roundg (r.length - (i + 1))
    case measure => omega
    case rel => exact ⟨i + 1, by go_num, by omega, Nat.le_refl _, HN, rfl⟩
   ·have HE := qh (show y = Y by rw [← HD.out, HST.out, HYI.out, if_pos d])
    go_upto_region 5 with fail
    refine wp_region_lit ?_
    refine Kit.wpList_run rfl (.slice (some ad) r.length cR) wr rfl ?_
    refine Kit.wpList_run rfl (.int .i64 i) wr rfl ?_
    refine Kit.wpList_run rfl (.pointer (some (ad.add (i * 4)))) wr (Mo.idx_reR _ _ _ _ _ _ _ _ _ ad r.length cR i rfl rfl hlt) ?_
    refine Kit.wpList_run rfl (.agg (Mo.reC y).toArray) wr ((Mo.ld_reR _ wr _ _ _ _ _ 21 ad r i HSL.out hlt rfl).trans (by rw [HYY.out])) ?_
    refine Kit.store_bk0 rfl 69 (.tmp 4) (.tmp 22) rfl w.heap.size rfl (Mo.reC y).toArray rfl HZ1.out rfl (HSZ.out y) (by simp [Mo.reC, Value.oneCell']) ?_
    intro W6 hb6 hx6
    have HB6 := qh hb6
    have HBB := qh (show Below w.heap.size w W6 from HB1.out.trans (hx6.below HB1.out.size (fun j hj => by omega)))
    clear hb6 hx6
    simp only [Act.put]
    go_simp
    go_wp2_with fail
    refine bodyPost_ret (Mo.res_one rfl rfl HB6.out Tryz.underlying69 rfl (HSZ.out y)) rfl ⟨?_, HBB.out⟩
    rw [HE.out]
  ·obtain rfl : i = r.length := by omega
   have HE := qh (show (0, 0, 0, false) = Y by rw [← HD.out, List.drop_length]; rfl)
   go_upto_region 6 with fail
   refine wp_region_lit ?_
   refine Kit.wpList_run rfl (.agg (Mo.reC (0, 0, 0, false)).toArray) wr (by kernel_rfl) ?_
   refine Kit.store_bk0 rfl 69 (.tmp 4) (.tmp 23) rfl w.heap.size rfl (Mo.reC (0, 0, 0, false)).toArray rfl HZ1.out rfl (HSZ.out _) (by simp [Mo.reC, Value.oneCell']) ?_
   intro W6 hb6 hx6
   have HB6 := qh hb6
   have HBB := qh (show Below w.heap.size w W6 from HB1.out.trans (hx6.below HB1.out.size (fun j hj => by omega)))
   clear hb6 hx6
   simp only [Act.put]
   go_simp
   go_wp2_with fail
   refine bodyPost_ret (Mo.res_one rfl rfl HB6.out Tryz.underlying69 rfl (HSZ.out _)) rfl ⟨?_, HBB.out⟩
   rw [HE.out]
namespace Mo
theorem upon_call {P : Program} {f : FuncId} {args : Array Value} {K : Value → World → Prop} {X : World} {E : Ending → World → Prop} (h : Calls P f args X E) (hk : ∀ e w', E e w' → ∃ v, e = .returned v ∧ K v w') : Kit.UponV P K (.ok (.enter f args) X) := by
 simp only [Kit.UponV]
 exact h.mono hk
def WyA (r : List Uo.Re) (l : List Ex.Sg) (s : St) (w : World) (v : Value) : Prop := ∃ a c, v = .slice (some a) (l.length + 1) c ∧ Tp.Sl w (some a) (l.length + 1) 13 (stc (way r l s))
theorem own_stR {w : World} {s : Nat} {v : Value} {n : Nat} {l : List St} (h : w.ownsRow s 37 13 v n (l.flatMap fun s => (stA s).toList)) (hn : n = l.length) (h0 : 0 < n) : ∃ a c, v = .slice (some a) n c ∧ n ≤ c ∧ Tp.Sl w (some a) n 13 (stc l) := by
 obtain ⟨a, c, rfl⟩ := Kit.own_shape h
 subst hn
 obtain ⟨hs, hm, _⟩ := Kit.own_sl h (st_get l)
 clear hm
 rcases h.2 with ⟨_, hn⟩ | ⟨g, cap, cur, e, _, _, hc, _⟩
 ·omega
 ·injection e with e1 e2 e3
  subst e1 e3
  exact ⟨_, _, rfl, hc, hs⟩
end Mo
theorem rp_way (l : List Ex.Sg) (a : Addr) (c : Nat) (s : Mo.St) (r : List Uo.Re) (aR : Option Addr) (cR : Nat) (w : World) (hS : Tp.Sl w (some a) l.length 14 (Ex.sgc l)) (hl : l.length ≤ 4096) (hfit : ∀ k ∈ l, Mo.Fit k) (hfrm : ∀ k ∈ l, Mo.form k (Mo.real r k.id) = true) (hs : Mo.ok s = true) (hR : Tp.Sl w aR r.length 4 (Mo.rcs r)) (hrl : r.length ≤ 1000000000) :
  Calls Tryz.prog 38 #[.slice (some a) l.length c, .agg (Mo.stA s), .slice aR r.length cR] w fun e w' => (∃ v, e = .returned (.tuple #[v, .bool (Mo.fine r l s)]) ∧ (Mo.fine r l s = true → Mo.WyA r l s w' v)) ∧ Below w.heap.size w w' := by
 have HS := qh hS
 have HOK := qh hs
 have HRL0 := qh (fun id W (hb : Below w.heap.size w W) => rp_real27 r id aR cR W hrl (hR.kept hb nlr))
 have HAF0 := qh (fun (k : Ex.Sg) (hk : k ∈ l) (t : Mo.St) (ht : Mo.ok t = true) W => rp_after t k (Mo.real r k.id) W (hfit k hk) (hfrm k hk) ht)
 obtain ⟨fine', hfi⟩ : ∃ b, Mo.fine r l s = b := ⟨_, rfl⟩
 rw [hfi]
 have HFI := qh hfi
 obtain ⟨n, hn⟩ : ∃ n, l.length = n := ⟨_, rfl⟩
 have HNL := qh hn
 rw [hn] at hl ⊢
 have HLN := qh hl
 clear hS hfit hfrm hs hR hrl hfi hn hl
 go_enter Tryz.func38, Tryz.ntmps38
 go_upto_region 1 with fail
 refine Kit.wp_name ?_
 intro W1 hW1
 have HB1 := qh (show Below w.heap.size w W1 by rw [hW1]; exact (Below.refl _ _).alloc nlr _)
 have HX1 := qh (show Kit.Bk W1 w.heap.size 37 (Mo.stA s) by rw [hW1]; exact Kit.Bk.new _ _ _)
 clear hW1
 refine wp_region_lit ?_
 refine Kit.load_bk0 rfl 37 (.tmp 4) rfl w.heap.size rfl HX1.out Tryz.underlying37 rfl (Mo.szSt _) ?_
 refine Kit.wpList_run rfl (.slice (some ⟨W1.heap.size, 0, none⟩) 1 1) (W1.alloc (.cells (Mo.stA s) 37)) (Mo.bs_stR s _ _ _ _ _ _ 12 rfl) ?_
 have HO1 := qh (show (W1.alloc (.cells (Mo.stA s) 37)).ownsRow W1.heap.size 37 13 (.slice (some ⟨W1.heap.size, 0, none⟩) 1 1) (0 + 1) ((Mo.way r (l.take 0) s).flatMap fun s => (Mo.stA s).toList) from Kit.lit_rowM W1 (Mo.stA s).toList 37 W1.heap.size W1.heap.size 13 1 rfl nlr rfl (by unfold maxLen; omega))
 have HB2 := qh (show Below w.heap.size w (W1.alloc (.cells (Mo.stA s) 37)) from HB1.out.alloc HB1.out.size _)
 have HS2 := qh (show W1.heap.size ≤ (W1.alloc (.cells (Mo.stA s) 37)).heap.size by simp)
 have HB0 := qh (show w.heap.size ≤ W1.heap.size from HB1.out.size)
 obtain ⟨B0, hB0⟩ : ∃ b, W1.heap.size = b := ⟨_, rfl⟩
 obtain ⟨W2, hW2⟩ : ∃ b, W1.alloc (.cells (Mo.stA s) 37) = b := ⟨_, rfl⟩
 rw [hB0] at HO1 HS2 HB0 ⊢
 rw [hW2] at HO1 HB2 HS2 ⊢
 clear hB0 hW2 HB1 HX1
 simp only [Act.put]
 go_simp
 go_wp2_with fail
 go_loopg [8, 9] n (fun kx v8 v9 wr => ∃ (i : Nat) (v : Value), v9 = .int .i64 i ∧ v8 = v ∧ i ≤ n ∧ n - i ≤ kx ∧ Hid (Mo.fine r (l.take i) s = true) ∧ Hid (wr.ownsRow B0 37 13 v (i + 1) ((Mo.way r (l.take i) s).flatMap fun s => (Mo.stA s).toList)) ∧ Hid (Below w.heap.size w wr) ∧ Hid (B0 ≤ wr.heap.size))
 case atStart => exact ⟨0, _, rfl, rfl, by omega, by omega, qh rfl, HO1, HB2, HS2⟩
 case round =>
  clear HO1 HB2 HS2
  obtain ⟨i, v, rfl, rfl, hi, hk, HA, HOW, HB, HBS⟩ := hrel
  have hlen := HLN.out
  have HTL := qh (show (l.take i).length = i by rw [List.length_take, HNL.out]; omega)
  obtain ⟨a2, c2, rfl, hc2, hsp⟩ := Mo.own_stR HOW.out (by rw [Mo.way_lenR r _ _ HA.out, HTL.out]) omg
  obtain ⟨P, hP⟩ : ∃ P, Mo.way r (l.take i) s = P := ⟨_, rfl⟩
  have HPE := qh hP
  have HPL := qh (show P.getD i Mo.St.zero = Mo.last r (l.take i) s by
   have h := Mo.way_endR r (l.take i) s HA.out
   rw [HTL.out, hP] at h
   exact h)
  rw [hP] at HOW hsp
  have HSP := qh hsp
  clear hP hsp hc2
  by_cases hlt : i < n
  ·have hltz : (i : Int) < (n : Int) := by omega
   obtain ⟨y, hy⟩ : ∃ y, l.getD i default = y := ⟨_, rfl⟩
   have HY := qh hy
   have hgl : l[i]? = some y := by rw [← hy, List.getD_eq_getElem?_getD, List.getElem?_eq_getElem (by rw [HNL.out]; exact hlt)]; rfl
   have HTK := qh (Mo.take_get l i y hgl)
   have hmem : y ∈ l := List.mem_of_getElem? hgl
   have hou : Mo.ok (Mo.last r (l.take i) s) = true := (Mo.way_ok r (l.take i) s HOK.out) _ (by
    have h := Mo.way_last r (l.take i) s HA.out
    exact List.mem_of_getLast? h)
   have HAF := qh (fun W => HAF0.out y hmem _ hou W)
   obtain ⟨U, hU⟩ : ∃ u, Mo.last r (l.take i) s = u := ⟨_, rfl⟩
   have HPU := qh (show P.getD i Mo.St.zero = U by rw [HPL.out, hU])
   obtain ⟨q, hq⟩ : ∃ u, Mo.real r y.id = u := ⟨_, rfl⟩
   have HRL := qh (fun W (hb : Below w.heap.size w W) => hq ▸ HRL0.out y.id W hb)
   rw [hU, hq] at HAF
   obtain ⟨ob, hob⟩ : ∃ b, Mo.ok (Mo.act U y q) = b := ⟨_, rfl⟩
   have HOB := qh (show Mo.ok (Mo.act (Mo.last r (l.take i) s) y (Mo.real r y.id)) = ob by rw [hU, hq]; exact hob)
   rw [hob] at HAF
   obtain ⟨T, hT⟩ : ∃ t, (if ob = true then Mo.act U y q else Mo.St.zero) = t := ⟨_, rfl⟩
   obtain ⟨er, her⟩ : ∃ e : Int, (if ob = true then 0 else 2) = e := ⟨_, rfl⟩
   rw [hT, her] at HAF
   have HER := qh (show er = if ob = true then 0 else 2 from her.symm)
   have HTE := qh (show ob = true → Mo.act (Mo.last r (l.take i) s) y (Mo.real r y.id) = T from fun h => by rw [hU, hq, ← hT, if_pos h])
   obtain ⟨yid, hyid⟩ : ∃ q, y.id = q := ⟨_, rfl⟩
   have HYI := qh (show Ex.sgc l i 0 = .int .i64 yid by rw [← hyid, ← hy]; rfl)
   rw [hyid] at HRL
   clear hy hgl hmem hou hU hq hob hT her hyid
   go_upto_region 5 with fail
   refine Kit.wp_region_vals3 22 [([(8, none)], none, true), ([(9, none)], none, true), ([(21, some 0), (22, some 1)], none, true), ([(23, some 2)], none, true), ([(0, none)], none, true), ([(9, none)], none, true), ([(25, some 4), (26, some 5)], none, true), ([(27, some 6)], none, true), ([(2, none)], none, true), ([(0, none)], none, true), ([(9, none)], none, true), ([(30, some 9), (31, some 10)], none, true), ([(32, some 11)], none, true), ([(33, some 12)], none, true), ([(29, some 8), (34, some 13)], none, true), ([(24, some 3), (28, some 7), (35, some 14)], none, true), ([(36, some 15)], none, true), ([(20, some 16)], none, true), ([(20, some 16)], none, true), ([], none, true), ([(10, some 19), (37, some 17)], none, true), ([(38, some 18)], none, true)]
    [some 21, some 22, some 23, some 24, some 25, some 26, some 27, some 28, some 29, some 30, some 31, some 32, some 33, some 34, some 35, some 36, some 20, some 37, some 38, some 10, none, some 11] rfl (by kernel_rfl) (by kernel_rfl) (fun X => Below wr.heap.size wr X) (fun o A B => Mo.E5R wr.heap.size o A B) (fun _ _ => false) (fun o y' v X => match o with
    | 0 => v = .slice (some a2) (i + 1) c2
    | 1 => v = .int .i64 i
    | 2 => v = .pointer (some (a2.add (i * 13)))
    | 3 => v = .agg (Mo.stA U)
    | 4 => v = .slice (some a) n c
    | 5 => v = .int .i64 i
    | 6 => v = .pointer (some (a.add (i * 14)))
    | 7 => v = .agg (Mo.sgC y).toArray
    | 8 => v = .slice aR r.length cR
    | 9 => v = .slice (some a) n c
    | 10 => v = .int .i64 i
    | 11 => v = .pointer (some (a.add (i * 14)))
    | 12 => v = .pointer (some (a.add (i * 14)))
    | 13 => v = .int .i64 yid
    | 14 => v = .agg (Mo.reC q).toArray
    | 15 => v = .tuple #[.agg (Mo.stA T), .int .i64 er]
    | 16 => v = .tuple #[.agg (Mo.stA T), .int .i64 er]
    | 17 => v = .agg (Mo.stA T)
    | 18 => v = .int .i64 er
    | 19 => ∃ B, v = .pointer (some ⟨B, 0, none⟩) ∧ wr.heap.size ≤ B ∧ ∃ cs, cs.size = 13 ∧ Kit.Bk X B 37 cs
    | 20 => ∃ B, y' 19 = .pointer (some ⟨B, 0, none⟩) ∧ Kit.Bk X B 37 (Mo.stA T)
    | _ => v = .int .i64 er
    ) (by decide) (fun _ h k => h.trans k.1) (Below.drew (Below.refl _ _)) (fun _ X => Mo.E5R.refl _ _ X) ?hst ?hown ?_ ?_
   case hst =>
    intro o m' u u' v A B ho hn hne _ hdep hu hA hE h3
    rcases m' with _ | _ | _ | _ | _ | _ | _ | _ | _ | _ | _ | _ | _ | _ | _ | _ | _ | _ | _ | _ | _ | m'
    case' succ.succ.succ.succ.succ.succ.succ.succ.succ.succ.succ.succ.succ.succ.succ.succ.succ.succ.succ.zero =>
     obtain ⟨b1, e1, hz, cs, hs, hm⟩ := h3
     obtain ⟨c3, hs2, hm2⟩ := hE.2.2 b1 cs hs hm
     exact ⟨b1, e1, hz, c3, hs2, hm2⟩
    case' succ.succ.succ.succ.succ.succ.succ.succ.succ.succ.succ.succ.succ.succ.succ.succ.succ.succ.succ.succ.zero =>
     obtain ⟨b1, e1, hm⟩ := h3
     have h10 : (19 : Nat) ≠ o := by
      rintro rfl
      exact absurd hdep (by rw [show Kit.depB _ _ _ = true from by kernel_rfl]; decide)
     exact ⟨b1, (hu 19 omg h10).trans e1, hm.below (hE.2.1 (fun e => hne e)) hm.lt⟩
    all_goals exact h3
   case hown =>
    intro o u u' v X ho hu h3
    rcases o with _ | _ | _ | _ | _ | _ | _ | _ | _ | _ | _ | _ | _ | _ | _ | _ | _ | _ | _ | _ | _ | o
    case' succ.succ.succ.succ.succ.succ.succ.succ.succ.succ.succ.succ.succ.succ.succ.succ.succ.succ.succ.succ.zero =>
     obtain ⟨b1, e1, hm⟩ := h3
     exact ⟨b1, (hu 19 omg omg).trans e1, hm⟩
    all_goals exact h3
   ·simp only [List.take_succ_cons, List.take_zero, Kit.StepsV3, Kit.VOp3, Kit.RdP3, true_and, if_true, and_true]
    refine ⟨?_, ?_, ?_, ?_, ?_, ?_, ?_, ?_, ?_, ?_, ?_, ?_, ?_, ?_, ?_, ?_, ?_, ?_, ?_, ?_, ?_, ?_⟩
    all_goals intro ev u X hx hv hc hf hg
    ·have hh : ev (.tmp 8) = .slice (some a2) (i + 1) c2 := hv.trans rfl
     simp [execOp, hh, hc, go_sem, Kit.UponV]
     exact Mo.E5R.refl _ _ _
    ·have hh : ev (.tmp 9) = .int .i64 i := hv.trans rfl
     simp [execOp, hh, hc, go_sem, Kit.UponV]
     exact Mo.E5R.refl _ _ _
    ·obtain ⟨⟨q1, _⟩, q2, _⟩ := hv
     rw [Mo.idx_stR ev X _ _ _ _ _ (.tmp 21) (.tmp 22) a2 (i + 1) c2 i q1 q2 omg]
     exact ⟨rfl, Mo.E5R.refl _ _ _⟩
    ·have h := Mo.ld_stR ev X (some 24) 37 "" #[] none 23 a2 P i (i + 1) (HSP.out.kept hx nlr) omg hv.1
     rw [HPU.out] at h
     exact Mo.upon_of h ⟨rfl, Mo.E5R.refl _ _ _⟩
    ·have hh : ev (.tmp 0) = .slice (some a) n c := hv.trans rfl
     simp [execOp, hh, hc, go_sem, Kit.UponV]
     exact Mo.E5R.refl _ _ _
    ·have hh : ev (.tmp 9) = .int .i64 i := hv.trans rfl
     simp [execOp, hh, hc, go_sem, Kit.UponV]
     exact Mo.E5R.refl _ _ _
    ·obtain ⟨⟨q1, _⟩, q2, _⟩ := hv
     rw [Mo.idx_sgR ev X _ _ _ _ _ (.tmp 25) (.tmp 26) a n c i q1 q2 hlt]
     exact ⟨rfl, Mo.E5R.refl _ _ _⟩
    ·have h := Mo.ld_sgR ev X (some 28) 60 "" #[] none 27 a l i (HS.out.kept (HB.out.trans (hx.mono HB.out.size)) nlr) (by rw [HNL.out]; exact hlt) hv.1
     rw [HY.out] at h
     exact Mo.upon_of h ⟨rfl, Mo.E5R.refl _ _ _⟩
    ·have hh : ev (.tmp 2) = .slice aR r.length cR := hv.trans rfl
     simp [execOp, hh, hc, go_sem, Kit.UponV]
     exact Mo.E5R.refl _ _ _
    ·have hh : ev (.tmp 0) = .slice (some a) n c := hv.trans rfl
     simp [execOp, hh, hc, go_sem, Kit.UponV]
     exact Mo.E5R.refl _ _ _
    ·have hh : ev (.tmp 9) = .int .i64 i := hv.trans rfl
     simp [execOp, hh, hc, go_sem, Kit.UponV]
     exact Mo.E5R.refl _ _ _
    ·obtain ⟨⟨q1, _⟩, q2, _⟩ := hv
     rw [Mo.idx_sgR ev X _ _ _ _ _ (.tmp 30) (.tmp 31) a n c i q1 q2 hlt]
     exact ⟨rfl, Mo.E5R.refl _ _ _⟩
    ·have hh : ev (.tmp 32) = .pointer (some (a.add (i * 14))) := hv.1
     simp [execOp, hh, hc, go_sem, Kit.UponV]
     exact Mo.E5R.refl _ _ _
    ·have hh : ev (.tmp 33) = .pointer (some (a.add (i * 14))) := hv.1
     have e0 := (HS.out.kept (HB.out.trans (hx.mono HB.out.size)) nlr).head (by rw [HNL.out]; exact hlt) omg
     rw [HYI.out] at e0
     simp [execOp, hh, hc, e0, go_sem, Kit.UponV]
     exact Mo.E5R.refl _ _ _
    ·obtain ⟨⟨q1, _⟩, q2, _⟩ := hv
     have h1 : ev (.tmp 29) = .slice aR r.length cR := q1
     have h2 : ev (.tmp 34) = .int .i64 yid := q2
     simp [execOp, h1, h2, hc, hf, go_sem, Kit.UponV]
     refine (HRL.out X (HB.out.trans (hx.mono HB.out.size))).mono ?_
     rintro e w3 ⟨rfl, hb⟩
     exact ⟨_, rfl, rfl, Mo.E5R.of hb hx.size⟩
    ·obtain ⟨⟨q1, _⟩, ⟨q2, _⟩, q3, _⟩ := hv
     have h1 : ev (.tmp 24) = .agg (Mo.stA U) := q1
     have h2 : ev (.tmp 28) = .agg (Mo.sgC y).toArray := q2
     have h3 : ev (.tmp 35) = .agg (Mo.reC q).toArray := q3
     simp only [execOp, resolve, invoke, Sem.run_bind, Sem.run_pure, Result.andThen_ok, List.map_toArray, List.map_cons, List.map_nil, h1, h2, h3, hf]
     refine Mo.upon_call (HAF.out X) ?_
     rintro e w3 ⟨rfl, hb⟩
     exact ⟨_, rfl, rfl, Mo.E5R.of hb hx.size⟩
    ·have hh : ev (.tmp 36) = .tuple #[.agg (Mo.stA T), .int .i64 er] := hv.1
     simp [execOp, hh, hc, go_sem, Kit.UponV]
     exact Mo.E5R.refl _ _ _
    ·have hh : ev (.tmp 20) = .tuple #[.agg (Mo.stA T), .int .i64 er] := hv.1
     simp [execOp, hh, hc, go_sem, Kit.UponV]
     exact Mo.E5R.refl _ _ _
    ·have hh : ev (.tmp 20) = .tuple #[.agg (Mo.stA T), .int .i64 er] := hv.1
     simp [execOp, hh, hc, go_sem, Kit.UponV]
     exact Mo.E5R.refl _ _ _
    ·simp [execOp, hc, go_sem, Kit.UponV]
     exact ⟨⟨hx.size, _, rfl, Kit.Bk.new X _ _⟩, Mo.E5R.of ((Below.refl _ _).alloc nlr _) hx.size⟩
    ·obtain ⟨⟨⟨b1, e1, hz, cs, hs, hm⟩, e2⟩, e3, _⟩ := hv
     exact Kit.upon_store_bk _ _ _ rfl b1 e1 (Mo.stA T) e3 hm hs.symm (Mo.szSt T) (Mo.stA_oneR T) fun W hW hX => ⟨⟨b1, e2.trans e1, hW⟩, Mo.E5R.store hX hx.size hz hm hW hs⟩
    ·have hh : ev (.tmp 38) = .int .i64 er := hv.1
     simp [execOp, hh, hc, go_sem, Kit.UponV]
     exact Mo.E5R.refl _ _ _
   intro vs u W3 hy hv hx
   have v18 : vs 18 = .int .i64 er := hv 18 omg (fun _ _ => rfl)
   have v21 : vs 21 = .int .i64 er := hv 21 omg (fun _ _ => rfl)
   obtain ⟨B, v19, hB1, _⟩ := hv 19 omg (fun _ _ => rfl)
   obtain ⟨B2, u19, hB2⟩ := hv 20 omg (fun _ _ => rfl)
   have uu := hy 19 omg (by rw [show Kit.dstOf _ _ = some 10 from by kernel_rfl]; decide)
   rw [uu, v19] at u19
   cases u19
   have HB3 := qh hB2
   have HBW := qh hx
   clear hv hy uu hB1 hB2 hx
   simp only [Kit.putD, List.getD_cons_zero, List.getD_cons_succ, Act.put, v18, v19, v21, List.drop_succ_cons, List.drop_zero, List.drop_nil]
   clear v18 v19 v21
   generalize vs 0 = gg0 at *
   generalize vs 1 = gg1 at *
   generalize vs 2 = gg2 at *
   generalize vs 3 = gg3 at *
   generalize vs 4 = gg4 at *
   generalize vs 5 = gg5 at *
   generalize vs 6 = gg6 at *
   generalize vs 7 = gg7 at *
   generalize vs 8 = gg8 at *
   generalize vs 9 = gg9 at *
   generalize vs 10 = gg10 at *
   generalize vs 11 = gg11 at *
   generalize vs 12 = gg12 at *
   generalize vs 13 = gg13 at *
   generalize vs 14 = gg14 at *
   generalize vs 15 = gg15 at *
   generalize vs 16 = gg16 at *
   generalize vs 17 = gg17 at *
   generalize vs 20 = gg20 at *
   go_simp
   rcases ob with _ | _
   ·have HF := qh (show fine' = false from by
     rw [← HFI.out]
     refine Bool.eq_false_iff.2 fun h => ?_
     have h2 := Mo.fine_preR r (l.take (i + 1)) (l.drop (i + 1)) s (by rw [List.take_append_drop]; exact h)
     rw [HTK.out, Mo.fine_snocR, HOB.out, Bool.and_false] at h2
     cases h2)
    obtain rfl : er = 2 := HER.out
    go_wp2_with fail
    go_ret2
    exact ⟨⟨.slice none 0 0, by rw [HF.out]; rfl, fun h => by rw [HF.out] at h; cases h⟩, HB.out.trans (HBW.out.mono HB.out.size)⟩
   ·obtain rfl : er = 0 := HER.out
    have HF := qh (show Mo.fine r (l.take (i + 1)) s = true by rw [HTK.out, Mo.fine_snocR, HA.out, HOB.out]; rfl)
    have HWY := qh (show Mo.way r (l.take (i + 1)) s = P ++ [T] by
     rw [HTK.out, Mo.way_snocR r _ _ _ (by rw [← HTK.out]; exact HF.out), HPE.out, HTE.out rfl])
    go_upto_region 8 with fail
    refine wp_region_lit ?_
    refine Kit.wpList_run rfl (.slice (some a2) (i + 1) c2) W3 rfl ?_
    refine Kit.load_bk0 rfl 37 (.tmp 10) rfl B rfl HB3.out Tryz.underlying37 rfl (Mo.szSt _) ?_
    refine Kit.wpList_run rfl (.slice (some ⟨W3.heap.size, 0, none⟩) 1 1) (W3.alloc (.cells (Mo.stA T) 37)) (Mo.bs_stR T _ _ _ _ _ _ 42 rfl) ?_
    have ho3 := Kit.ownsRow_thn HOW.out HBW.out
    refine Kit.wpList_app_slM Mo.elT _ rfl _ _ rfl (.slice (some a2) (i + 1) c2) (i + 1) _ rfl (ho3.alloc _) (by rw [World.size_alloc]; exact Nat.le_succ_of_le (Nat.le_trans HBS.out HBW.out.size)) omg (some ⟨W3.heap.size, 0, none⟩) 1 1 (Mo.stA T).toList omg rfl rfl (fun b e j u hu => by cases e; exact Kit.lit_at _ (Mo.stA T).toList _ (by simp) j u hu) (fun e => by cases e) (fun u hu => (Array.all_eq_true'.1 (Mo.stA_oneR T)) u (by simpa using hu)) ?_
    intro v6 w6 ho6 hg6
    have HB6 := qh (show Below w.heap.size w w6 from ((HB.out.trans (HBW.out.mono HB.out.size)).alloc (Nat.le_trans HB.out.size HBW.out.size) _).grown hg6 (by rw [World.size_alloc]; exact Nat.le_succ_of_le (Nat.le_trans HB.out.size HBW.out.size)) (fun q hq => by have := (ho3.lt q hq).1; have := HB0.out; omega))
    have HBS6 := qh (show B0 ≤ w6.heap.size from Nat.le_trans (Nat.le_trans HBS.out HBW.out.size) (Nat.le_trans (by rw [World.size_alloc]; omega) hg6.size))
    have HO6 := qh (show w6.ownsRow B0 37 13 v6 (i + 1 + 1) ((Mo.way r (l.take (i + 1)) s).flatMap fun s => (Mo.stA s).toList) by
     rw [HWY.out, List.flatMap_append]
     simpa using ho6)
    clear ho3 ho6 hg6 HB3
    simp only [Act.put]
    go_simp
    go_wp2_with fail
    go_roundg (n - (i + 1))
    case measure => omega
    case rel => exact ⟨i + 1, v6, by go_num, rfl, by omega, Nat.le_refl _, HF, HO6, HB6, HBS6⟩
  ·obtain rfl : i = n := by omega
   have HTA := qh (show l.take i = l by rw [← HNL.out, List.take_length])
   have HF := qh (show fine' = true by rw [← HFI.out, ← HTA.out]; exact HA.out)
   go_wp2_with fail
   go_ret2
   exact ⟨⟨_, by rw [HF.out]; rfl, fun _ => ⟨a2, c2, by rw [HNL.out]; rfl, by rw [HNL.out, ← HTA.out, HPE.out]; exact HSP.out⟩⟩, HB.out⟩
end Go.Proofs.YtedolbjgdedoaaaGreatDoor

namespace Go.Proofs.YtedolbjgdedoaaaGreatDoor
open Go.RowKit Go.Shelf
attribute [local go_sem] Oper.semAt_some
namespace Mo
structure ER (w W : World) (x : Ex.Wk) (p : Ex.Wa) (s : St) : Prop where
 bel : Below w.heap.size w W
 wk : Kit.Bk W w.heap.size 32 (wkC x p)
 st : Kit.Bk W (w.heap.size + 1) 37 (stA s)
 rs : Kit.Bk W (w.heap.size + 2) 37 (stA St.zero)
theorem ER.then {w A B : World} {x : Ex.Wk} {p : Ex.Wa} {s : St} (h : ER w A x p s) (hb : Below A.heap.size A B) : ER w B x p s :=
 ⟨h.bel.trans (hb.mono h.bel.size), h.wk.below hb h.wk.lt, h.st.below hb h.st.lt, h.rs.below hb h.rs.lt⟩
theorem ER.start (w : World) (x : Ex.Wk) (p : Ex.Wa) (s : St) : ER w (((w.alloc (.cells (wkC x p) 32)).alloc (.cells (stA s) 37)).alloc (.cells (stA St.zero) 37)) x p s := by
 obtain ⟨⟨q0, q1, q2, q3⟩, hb, _⟩ := Kit.four w (wkC x p) (stA s) (stA St.zero) #[] 32 37 37 37
 have q1' := Kit.Bk.new (w.alloc (.cells (wkC x p) 32)) 37 (stA s)
 rw [World.size_alloc] at q1'
 have q2' := Kit.Bk.new ((w.alloc (.cells (wkC x p) 32)).alloc (.cells (stA s) 37)) 37 (stA St.zero)
 rw [World.size_alloc, World.size_alloc] at q2'
 exact ⟨(((Below.refl _ _).alloc nlr _).alloc (by simp) _).alloc (by simp; omega) _, ((Kit.Bk.new _ _ _).alloc _).alloc _, q1'.alloc _, q2'⟩
theorem sub_run (ev : Operand → Value) (W : World) (d : Option Tmp) (ty : TypeId) (po : String) (af : Array Edge) (t : Tmp) (n : Nat) (hc : ev (.const (.int .i64 1)) = .int .i64 1) (h : ev (.tmp t) = .int .i64 ((n + 1 : Nat) : Int)) (hn : n ≤ 1000000000) : (execOp ev { dst := d, op := .binOp .sub 3 (.tmp t) (.const (.int .i64 1)) 3, type := ty, pos := po, after := af, guard := none }).run Tryz.prog W = .ok (.value (.int .i64 (n : Int))) W := by
 have e1 : IntKind.i64.wrap (n : Int) = n := by rw [IntKind.wrap_i64] <;> omega
 simp [execOp, h, hc, go_sem]
 try first | exact e1 | (rw [IntKind.wrap_i64] <;> omega)
theorem len_runR (ev : Operand → Value) (W : World) (d : Option Tmp) (ty : TypeId) (po : String) (af : Array Edge) (t : Tmp) (a : Option Addr) (n c : Nat) (h : ev (.tmp t) = .slice a n c) : (execOp ev { dst := d, op := .call { callee := .builtin .len, args := #[.tmp t], argTypes := #[93] }, type := ty, pos := po, after := af, guard := none }).run Tryz.prog W = .ok (.value (.int .i64 (n : Int))) W := by
 simp [execOp, resolve, invoke, builtin, h, Result.andThen, Builtin.len_, Builtin.lenOf, run_underlying (P := Tryz.prog) Tryz.underlying93, go_sem]
theorem of_good {x : Ex.Wk} {role bar : Int} (h0 : ofE x role bar = 0) : Ex.Good x := Ex.good_of (by
 unfold ofE at h0
 split at h0
 ·rename_i h1; exact absurd h0 h1
 ·rename_i h1; simpa using h1)
end Mo
theorem rp_end (x : Ex.Wk) (p : Ex.Wa) (w : World) (ha : Ex.At w x p) (role bar : Int) (s : Mo.St) (r : List Uo.Re) (aR : Option Addr) (cR : Nat) (hR : Tp.Sl w aR r.length 4 (Mo.rcs r)) (hrl : r.length ≤ 1000000000) :
  Calls Tryz.prog 13 #[Ex.workV x p, .int .i64 role, .int .i64 bar, .agg (Mo.stA s), .slice aR r.length cR] w fun e w' => (∃ t er, e = .returned (.tuple #[.agg (Mo.stA t), .int .i64 er]) ∧ Mo.EndR x role bar s r t er) ∧ Below w.heap.size w w' := by
 have HOF := qh (fun W (hb : Below w.heap.size w W) => rp_of x p role bar W (ha.kept hb nlr))
 have HMO := qh (fun (L : List Ex.Sg) (a : Addr) (c : Nat) W (hb : Below w.heap.size w W) (h0 : Mo.ofE x role bar = 0) (hL : Mo.Of x role bar L) (hs : Tp.Sl W (some a) L.length 14 (Ex.sgc L)) => (by
  have hg := Mo.of_good h0
  have hlen : L.length ≤ 4096 := by rw [hL.perm.length_eq]; exact Nat.le_trans (List.length_filter_le _ _) hg.len
  exact rp_motion L (Mo.ofI x role bar) a c r aR cR W hs hlen (Mo.of_nodup hg hL) (Mo.ofI_rise hg role bar) hL.perm (hR.kept hb nlr) : Calls Tryz.prog 37 #[.slice (some a) L.length c, .slice aR r.length cR] W fun e w' => e = .returned (.bool (Mo.mot (Mo.ofI x role bar) r)) ∧ Below W.heap.size W w'))
 have HCK := qh (fun W => rp_check26 s W)
 have HWY := qh (fun (L : List Ex.Sg) (a : Addr) (c : Nat) W (hb : Below w.heap.size w W) (h0 : Mo.ofE x role bar = 0) (hL : Mo.Of x role bar L) (hm : Mo.mot (Mo.ofI x role bar) r = true) (hok : Mo.ok s = true) (hs : Tp.Sl W (some a) L.length 14 (Ex.sgc L)) => (by
  have hg := Mo.of_good h0
  have hlen : L.length ≤ 4096 := by rw [hL.perm.length_eq]; exact Nat.le_trans (List.length_filter_le _ _) hg.len
  exact rp_way L a c s r aR cR W hs hlen (fun k hk => Mo.fit_of (hg.oks k (List.mem_filter.1 ((hL.perm.mem_iff).1 hk)).1)) (fun k hk => Mo.mot_real _ _ (Mo.ofI_rise hg role bar) hm k ((hL.perm.mem_iff).1 hk)) hok (hR.kept hb nlr) hrl))
 obtain ⟨OE, hOE⟩ : ∃ c, Mo.ofE x role bar = c := ⟨_, rfl⟩
 have HOE := qh hOE
 rw [hOE] at HOF
 clear ha hR hOE hrl
 obtain ⟨aRo, cRo, aT, cT, aP, cP, aS, cS, aG, cG⟩ := p
 dsimp only [Ex.workV, Ex.wv] at HOF ⊢
 go_enter Tryz.func13, Tryz.ntmps13
 go_upto_region 1 with fail
 refine Kit.wp_name ?_
 intro W1 hW1
 have HA1 := qh (show Mo.ER w W1 x ⟨aRo, cRo, aT, cT, aP, cP, aS, cS, aG, cG⟩ s by rw [hW1]; exact Mo.ER.start w x ⟨aRo, cRo, aT, cT, aP, cP, aS, cS, aG, cG⟩ s)
 clear hW1
 refine wp_region_lit ?_
 refine Kit.load_bk0 rfl 32 (.tmp 5) rfl w.heap.size rfl HA1.out.wk Tryz.underlying32 rfl (Mo.szWkR _ _) ?_
 simp only [Act.put]
 go_simp
 go_wp2_with fail
 refine (HOF.out _ HA1.out.bel).mono ?_
 rintro _ W2 ⟨⟨v, rfl, hv⟩, hb⟩
 have HV := qh hv
 have HA2 := qh (HA1.out.then hb)
 clear hb HA1 HOF hv
 by_cases h0 : OE = 0
 case neg =>
  have c1 : (OE != 0) = true := by simpa using h0
  have HEND := qh (show Mo.EndR x role bar s r Mo.St.zero OE by unfold Mo.EndR; rw [HOE.out, if_pos h0]; exact ⟨rfl, rfl⟩)
  clear h0
  go_upto_region 3 with fail
  refine wp_region_lit ?_
  refine Kit.wpList_run rfl (.agg (Mo.stA Mo.St.zero)) W2 (by kernel_rfl) ?_
  refine Kit.wpList_run rfl (.int .i64 OE) W2 rfl ?_
  refine Kit.store_bk0 rfl 37 (.tmp 10) (.tmp 26) rfl (w.heap.size + 2) rfl (Mo.stA Mo.St.zero) rfl HA2.out.rs rfl (Mo.szSt _) (Mo.stA_oneR _) ?_
  intro W10 hb10 hx10
  have HR := qh hb10
  have HB := qh (HA2.out.bel.trans (hx10.below HA2.out.bel.size (fun k hk => by omega)))
  clear hb10 hx10
  simp only [Act.put]
  go_simp
  go_wp2_with fail
  refine bodyPost_ret (Kit.res_bk rfl rfl HR.out _ Tryz.underlying37 rfl (Mo.szSt _)) rfl ⟨⟨Mo.St.zero, OE, rfl, HEND.out⟩, HB.out⟩
 subst h0
 obtain ⟨L, a, c, rfl, hc, hL, hs⟩ := HV.out rfl
 have HLO := qh hL
 have HSL := qh hs
 clear hc hL hs HV
 go_upto_region 4 with fail
 refine wp_region_lit ?_
 refine Kit.load_bk0 rfl 37 (.tmp 8) rfl (w.heap.size + 1) rfl HA2.out.st Tryz.underlying37 rfl (Mo.szSt _) ?_
 simp only [Act.put]
 go_simp
 obtain ⟨ob, hob⟩ : ∃ b, Mo.ok s = b := ⟨_, rfl⟩
 have HOB := qh hob
 rw [hob] at HCK
 clear hob
 rcases ob with _ | _
 ·have HC := qh (fun W => (HCK.out W : Calls Tryz.prog 36 #[.agg (Mo.stA s)] W fun e w' => e = .returned (.int .i64 260) ∧ Below W.heap.size W w'))
  have HEND := qh (show Mo.EndR x role bar s r Mo.St.zero 260 by unfold Mo.EndR; rw [if_neg (by rw [HOE.out]; decide), if_pos HOB.out]; exact ⟨rfl, rfl⟩)
  go_wp2_with fail
  refine (HC.out _).mono ?_
  rintro _ W3 ⟨rfl, hb⟩
  have HA3 := qh (HA2.out.then hb)
  clear hb HA2
  go_upto_region 6 with fail
  refine wp_region_lit ?_
  refine Kit.wpList_run rfl (.agg (Mo.stA Mo.St.zero)) W3 (by kernel_rfl) ?_
  refine Kit.wpList_run rfl (.int .i64 260) W3 rfl ?_
  refine Kit.store_bk0 rfl 37 (.tmp 10) (.tmp 32) rfl (w.heap.size + 2) rfl (Mo.stA Mo.St.zero) rfl HA3.out.rs rfl (Mo.szSt _) (Mo.stA_oneR _) ?_
  intro W10 hb10 hx10
  have HR := qh hb10
  have HB := qh (HA3.out.bel.trans (hx10.below HA3.out.bel.size (fun k hk => by omega)))
  clear hb10 hx10
  simp only [Act.put]
  go_simp
  go_wp2_with fail
  refine bodyPost_ret (Kit.res_bk rfl rfl HR.out _ Tryz.underlying37 rfl (Mo.szSt _)) rfl ⟨⟨Mo.St.zero, 260, rfl, HEND.out⟩, HB.out⟩
 have HC := qh (fun W => (HCK.out W : Calls Tryz.prog 36 #[.agg (Mo.stA s)] W fun e w' => e = .returned (.int .i64 0) ∧ Below W.heap.size W w'))
 go_wp2_with fail
 refine (HC.out _).mono ?_
 rintro _ W3 ⟨rfl, hb⟩
 have HA3 := qh (HA2.out.then hb)
 have HSL3 := qh (HSL.out.kept hb nlr)
 clear hb HA2 HSL HC HCK
 obtain ⟨MT, hMT⟩ : ∃ c, Mo.mot (Mo.ofI x role bar) r = c := ⟨_, rfl⟩
 have HMT := qh hMT
 have HM := qh (hMT ▸ HMO.out L a c W3 HA3.out.bel HOE.out HLO.out HSL3.out)
 clear hMT HMO
 go_wp2_with fail
 refine HM.out.mono ?_
 rintro _ W4 ⟨rfl, hb⟩
 have HA4 := qh (HA3.out.then hb)
 have HSL4 := qh (HSL3.out.kept hb nlr)
 clear hb HA3 HSL3 HM
 rcases MT with _ | _
 ·have HEND := qh (show Mo.EndR x role bar s r Mo.St.zero 270 by unfold Mo.EndR; rw [if_neg (by rw [HOE.out]; decide), if_neg (by rw [HOB.out]; decide), if_pos HMT.out]; exact ⟨rfl, rfl⟩)
  go_upto_region 9 with fail
  refine wp_region_lit ?_
  refine Kit.wpList_run rfl (.agg (Mo.stA Mo.St.zero)) W4 (by kernel_rfl) ?_
  refine Kit.store_bk0 rfl 37 (.tmp 10) (.tmp 39) rfl (w.heap.size + 2) rfl (Mo.stA Mo.St.zero) rfl HA4.out.rs rfl (Mo.szSt _) (Mo.stA_oneR _) ?_
  intro W10 hb10 hx10
  have HR := qh hb10
  have HB := qh (HA4.out.bel.trans (hx10.below HA4.out.bel.size (fun k hk => by omega)))
  clear hb10 hx10
  simp only [Act.put]
  go_simp
  go_wp2_with fail
  refine bodyPost_ret (Kit.res_bk rfl rfl HR.out _ Tryz.underlying37 rfl (Mo.szSt _)) rfl ⟨⟨Mo.St.zero, 270, rfl, HEND.out⟩, HB.out⟩
 go_upto_region 10 with fail
 have HW := qh (HWY.out L a c W4 HA4.out.bel HOE.out HLO.out HMT.out HOB.out HSL4.out)
 obtain ⟨FN_, hfn⟩ : ∃ b, Mo.fine r L s = b := ⟨_, rfl⟩
 have HFN := qh hfn
 rw [hfn] at HW
 have HLL := qh (show L.length ≤ 4096 by rw [HLO.out.perm.length_eq]; exact Nat.le_trans (List.length_filter_le _ _) (Mo.of_good HOE.out).len)
 clear HWY hfn
 refine wp_region_lit ?_
 refine Kit.wpList_run rfl (.slice (some a) L.length c) W4 rfl ?_
 refine Kit.load_bk0 rfl 37 (.tmp 8) rfl (w.heap.size + 1) rfl HA4.out.st Tryz.underlying37 rfl (Mo.szSt _) ?_
 simp only [Act.put]
 go_simp
 go_wp2_with fail
 refine HW.out.mono ?_
 rintro _ W5 ⟨⟨v, rfl, hv⟩, hb⟩
 have HV := qh hv
 have HA5 := qh (HA4.out.then hb)
 clear hb hv HA4 HSL4 HW
 rcases FN_ with _ | _
 ·have HEND := qh (show Mo.EndR x role bar s r Mo.St.zero 2 by
   unfold Mo.EndR
   rw [if_neg (by rw [HOE.out]; decide), if_neg (by rw [HOB.out]; decide), if_neg (by rw [HMT.out]; decide)]
   exact ⟨L, HLO.out, by rw [if_neg (by rw [HFN.out]; decide)]; exact ⟨rfl, rfl⟩⟩)
  go_upto_region 12 with fail
  refine wp_region_lit ?_
  refine Kit.wpList_run rfl (.agg (Mo.stA Mo.St.zero)) W5 (by kernel_rfl) ?_
  refine Kit.store_bk0 rfl 37 (.tmp 10) (.tmp 49) rfl (w.heap.size + 2) rfl (Mo.stA Mo.St.zero) rfl HA5.out.rs rfl (Mo.szSt _) (Mo.stA_oneR _) ?_
  intro W10 hb10 hx10
  have HR := qh hb10
  have HB := qh (HA5.out.bel.trans (hx10.below HA5.out.bel.size (fun k hk => by omega)))
  clear hb10 hx10
  simp only [Act.put]
  go_simp
  go_wp2_with fail
  refine bodyPost_ret (Kit.res_bk rfl rfl HR.out _ Tryz.underlying37 rfl (Mo.szSt _)) rfl ⟨⟨Mo.St.zero, 2, rfl, HEND.out⟩, HB.out⟩
 obtain ⟨aw, cw, rfl, hsw⟩ := HV.out rfl
 have HSW := qh hsw
 have HLA := qh (show (Mo.way r L s).getD L.length Mo.St.zero = Mo.last r L s from Mo.way_endR r L s HFN.out)
 have HEND := qh (show Mo.EndR x role bar s r (Mo.last r L s) 0 by
  unfold Mo.EndR
  rw [if_neg (by rw [HOE.out]; decide), if_neg (by rw [HOB.out]; decide), if_neg (by rw [HMT.out]; decide)]
  exact ⟨L, HLO.out, by rw [if_pos HFN.out]; exact ⟨rfl, rfl⟩⟩)
 clear hsw HV
 go_upto_region 13 with fail
 have hll := HLL.out
 refine wp_region_lit ?_
 refine Kit.wpList_run rfl (.slice (some aw) (L.length + 1) cw) W5 rfl ?_
 refine Kit.wpList_run rfl (.slice (some aw) (L.length + 1) cw) W5 rfl ?_
 refine Kit.wpList_run rfl (.int .i64 ((L.length + 1 : Nat) : Int)) W5 (Mo.len_runR _ W5 _ _ _ _ _ _ _ _ rfl) ?_
 refine Kit.wpList_run rfl (.int .i64 (L.length : Int)) W5 (Mo.sub_run _ W5 _ _ _ _ _ _ rfl rfl omg) ?_
 simp only [Act.put]
 go_simp
 refine Kit.wpList_run rfl (.pointer (some (aw.add (L.length * 13)))) W5 (Mo.idx_stR _ _ _ _ _ _ _ _ _ aw (L.length + 1) cw L.length rfl rfl omg) ?_
 refine Kit.wpList_run rfl (.agg (Mo.stA (Mo.last r L s))) W5 ((Mo.ld_stR _ W5 _ _ _ _ _ 54 aw _ L.length _ HSW.out omg rfl).trans (by rw [HLA.out])) ?_
 simp only [Act.put]
 go_simp
 refine Kit.store_bk0 rfl 37 (.tmp 10) (.tmp 55) rfl (w.heap.size + 2) rfl (Mo.stA (Mo.last r L s)) rfl HA5.out.rs rfl (Mo.szSt _) (Mo.stA_oneR _) ?_
 intro W10 hb10 hx10
 have HR := qh hb10
 have HB := qh (HA5.out.bel.trans (hx10.below HA5.out.bel.size (fun k hk => by omega)))
 clear hb10 hx10
 simp only [Act.put]
 go_simp
 go_wp2_with fail
 refine bodyPost_ret (Kit.res_bk rfl rfl HR.out _ Tryz.underlying37 rfl (Mo.szSt _)) rfl ⟨⟨Mo.last r L s, 0, rfl, HEND.out⟩, HB.out⟩
end Go.Proofs.YtedolbjgdedoaaaGreatDoor
