/- Walks: the laws of layer 27: MotionAlone. -/
import Derived.Test.YtedolbjgdedoaaaGreatDoorMpN
import Derived.Test.YtedolbjgdedoaaaGreatDoorMpk
set_option linter.unusedSimpArgs false
set_option linter.unusedVariables false
set_option maxRecDepth 100000
set_option maxHeartbeats 8000000
namespace Go.Proofs.YtedolbjgdedoaaaGreatDoor
open Go.RowKit Go.Shelf
attribute [local go_sem] Oper.semAt_some
namespace Mo
theorem szQ (x : Ex.Wk) (p : Ex.Wa) : (Tryz.prog.info? 32).map (·.size) = some (wkC x p).size := by kernel_rfl
structure AQ (w W : World) (x : Ex.Wk) (p : Ex.Wa) (s : St) (b : Un.Bd) : Prop where
 bel : Below w.heap.size w W
 wk : Kit.Bk W w.heap.size 32 (wkC x p)
 st : Kit.Bk W (w.heap.size + 1) 37 (stA s)
 bd : Kit.Bk W (w.heap.size + 2) 48 (Un.bdA b)
theorem AQ.then {w W W' : World} {x : Ex.Wk} {p : Ex.Wa} {s : St} {b : Un.Bd} (h : AQ w W x p s b) (hb : Below W.heap.size W W') : AQ w W' x p s b :=
 ⟨h.bel.trans (hb.mono h.bel.size), h.wk.below hb h.wk.lt, h.st.below hb h.st.lt, h.bd.below hb h.bd.lt⟩
theorem AQ.exc {S : Nat → Prop} {w W W' : World} {x : Ex.Wk} {p : Ex.Wa} {s : St} {b : Un.Bd} (h : AQ w W x p s b) (hx : Kit.Exc S W W') (hs : ∀ k, S k → w.heap.size + 3 ≤ k) : AQ w W' x p s b :=
 ⟨h.bel.trans (hx.below h.bel.size (fun k hk => by have := hs k hk; omega)), h.wk.exc hx (fun k => by have := hs _ k; omega), h.st.exc hx (fun k => by have := hs _ k; omega), h.bd.exc hx (fun k => by have := hs _ k; omega)⟩
theorem AQ.start (w : World) (x : Ex.Wk) (p : Ex.Wa) (s : St) (b : Un.Bd) : AQ w (((w.alloc (.cells (wkC x p) 32)).alloc (.cells (stA s) 37)).alloc (.cells (Un.bdA b) 48)) x p s b := by
 have q0 := Kit.Bk.new w 32 (wkC x p)
 have q1 := Kit.Bk.new (w.alloc (.cells (wkC x p) 32)) 37 (stA s)
 have q2 := Kit.Bk.new ((w.alloc (.cells (wkC x p) 32)).alloc (.cells (stA s) 37)) 48 (Un.bdA b)
 rw [World.size_alloc] at q1
 rw [World.size_alloc, World.size_alloc] at q2
 exact ⟨(((Below.refl _ _).alloc nlr _).alloc (by simp) _).alloc (by simp; omega) _, (q0.alloc _).alloc _, q1.alloc _, q2⟩
abbrev vC (x : Ex.Wk) (p : Ex.Wa) (v : Value) : Array Value := #[.int .i64 x.wd, .int .i64 x.dp, .int .i64 x.ta, .int .i64 x.tb, .int .i64 x.tc, .slice p.aR x.ro.length p.cR, .int .i64 x.n, .slice p.aT x.ts.length p.cT, .slice p.aP x.ps.length p.cP, .slice p.aS x.ss.length p.cS, v]
structure AlR (w W : World) (x : Ex.Wk) (p : Ex.Wa) (s : St) (b : Un.Bd) (VB n : Nat) (xs : List Value) (v : Value) : Prop where
 q : AQ w W x p s b
 hi : w.heap.size + 3 ≤ VB
 vb : Kit.Bk W VB 32 (vC x p v)
 own : W.ownsRow (VB + 1) 60 14 v n xs
theorem AlR.then {w W W' : World} {x : Ex.Wk} {p : Ex.Wa} {s : St} {b : Un.Bd} {VB n : Nat} {xs : List Value} {v : Value} (h : AlR w W x p s b VB n xs v) (hb : Below W.heap.size W W') : AlR w W' x p s b VB n xs v :=
 ⟨h.q.then hb, h.hi, h.vb.below hb h.vb.lt, Kit.ownsRow_thn h.own hb⟩
theorem AlR.app {w W W5 : World} {x : Ex.Wk} {p : Ex.Wa} {s : St} {b : Un.Bd} {VB n m : Nat} {xs ys : List Value} {v v' : Value} (h : AlR w W x p s b VB n xs v) (ho : W5.ownsRow (VB + 1) 60 14 v' m ys) (hg : W.grownBy W5 v.ownBlock) : AlR w (W5.setCell ⟨VB, 10, none⟩ v') x p s b VB m ys v' := by
 have hx1 : Kit.Exc (fun k => VB < k) W W5 := ⟨hg.os, hg.tape, hg.output, hg.size, fun k hk hn => hg.block k hk (fun e => hn (h.own.lt k e.symm).1)⟩
 have hx2 : Kit.Exc (fun k => k = VB) W5 (W5.setCell ⟨VB, 10, none⟩ v') := (Kit.Exc.refl (fun k => k = VB) W5).setCell (p := ⟨VB, 10, none⟩) (.inl rfl) _
 have hi := h.hi
 refine ⟨(h.q.exc hx1 (fun k hk => by omega)).exc hx2 (fun k hk => by omega), h.hi, ?_, ?_⟩
 ·exact (h.vb.exc hx1 omg).put 10 v' rfl
 ·exact Kit.ownsRow_same ho (fun k hk => by
   have := (ho.lt k hk).1
   exact hx2.block k (ho.lt k hk).2 omg)
theorem AlR.app0 {w W W5 : World} {x : Ex.Wk} {p : Ex.Wa} {s : St} {b : Un.Bd} {VB n : Nat} {xs : List Value} {v : Value} (h : AlR w W x p s b VB n xs v) (hg : W.grownBy W5 v.ownBlock) : Kit.Bk W5 VB 32 (vC x p v) := by
 have hx1 : Kit.Exc (fun k => VB < k) W W5 := ⟨hg.os, hg.tape, hg.output, hg.size, fun k hk hn => hg.block k hk (fun e => hn (h.own.lt k e.symm).1)⟩
 exact h.vb.exc hx1 omg
end Mo
namespace Kit
theorem wpList_appB {P : Program} {t e : TypeId} {z : Value} {size bytes : Nat} (E : El P t e z size bytes) (base : Nat) (w : World) {ops : Array Oper} {rest : List Oper} {o : Oper} {a : Act} {Q : Exit → Act → World → Prop} (hgd : o.guard = none) (s x : Operand)
  (ho : o.op = .call { callee := .builtin .append, args := #[s, x], argTypes := #[t, t] }) (v : Value) (n : Nat) (xs : List Value) (h : w.ownsRow base e size v n xs) (hbs : base ≤ w.heap.size) (hs : a.eval s = v) (hn : n ≤ 1000000000)
  (ad : Addr) (c : Nat) (news : List Value) (hx : a.eval x = .slice (some ad) 1 c) (hl : news.length = size) (hnews : ∀ j u, news[j]? = some u → w.cell? (ad.add j) = some u) (h1 : ∀ u ∈ news, u.oneCell' = true)
  (cont : ∀ v' w', w'.ownsRow base e size v' (n + 1) (xs ++ news) → w.grownBy w' v.ownBlock → wpList P ops Q rest (a.put o.dst v') w') : wpList P ops Q (o :: rest) a w := by
 obtain ⟨i, hi, hz, hsz, hby⟩ := info_parts E.info
 have hb : (n + 1) * bytes ≤ 140737488355328 := Nat.le_trans (Nat.mul_le_mul (show n + 1 ≤ 1000000001 by omega) E.small) omg
 exact wpList_append_own' w hgd s x t ho base e i z size bytes E.under hi hz hsz hby E.cells E.pos v n xs hs h ad 1 c news hx omg hnews h1 (by unfold maxLen; omega) hb hbs
  fun v' w' ho hg _ _ => cont v' w' ho hg
end Kit
theorem lw_alone (x : Ex.Wk) (p : Ex.Wa) (w : World) (hL : Ex.Laid w) (hF : Uo.Flat w) (hK : Mo.KL w) (ha : Ex.At w x p) (role bar : Int) (s : Mo.St) (b : Un.Bd) (hnm : b.name.size ≤ 9223372036854775807) (r : List Uo.Re) (aR : Option Addr) (cR : Nat) (hR : Tp.Sl w aR r.length 4 (Mo.rcs r)) :
  Calls Tryz.prog 5 #[Ex.workV x p, .int .i64 role, .int .i64 bar, .agg (Mo.stA s), .agg (Un.bdA b), .slice aR r.length cR] w fun e w' => e = .returned (.bool true) ∧ Below w.heap.size w w' := by
 have HSN := qh (fun W (hb : Below w.heap.size w W) => lw_sane W (hL.kept hb nlr) (hF.kept hb nlr) (hK.kept hb))
 have HFW := qh (fun W => lw_few27 x p r.length aR cR W)
 have HCK := qh (fun W (hb : Below w.heap.size w W) => ex_check x p W (ha.kept hb nlr) (hL.kept hb nlr))
 have HEN := qh (fun W (hb : Below w.heap.size w W) (y : Ex.Wk) (q : Ex.Wa) (hy : Ex.At W y q) => mo_end y q W (hL.kept hb nlr) (hF.kept hb nlr) hy role bar s r aR cR (hR.kept hb nlr))
 have HSW := qh (fun W (hb : Below w.heap.size w W) (y : Ex.Wk) (q : Ex.Wa) (hy : Ex.At W y q) => mo_sweep y q W (hL.kept hb nlr) (hF.kept hb nlr) (hK.kept hb) hy role bar s b hnm r aR cR (hR.kept hb nlr))
 have HA := qh ha
 have HGD := qh (show Ex.chk x = 0 → Ex.Good x from Ex.good_of)
 unfold Ex.Chk at HCK
 clear hL hF hK ha hR hnm
 obtain ⟨aRo, cRo, aT, cT, aP, cP, aS, cS, aG, cG⟩ := p
 dsimp only [Ex.workV, Ex.wv] at HFW HCK ⊢
 go_enter Tryz.func5, Tryz.ntmps5
 go_upto_region 1 with fail
 refine Kit.wp_name ?_
 intro W1 hW1
 have HQ1 := qh (show Mo.AQ w W1 x ⟨aRo, cRo, aT, cT, aP, cP, aS, cS, aG, cG⟩ s b by rw [hW1]; exact Mo.AQ.start w x ⟨aRo, cRo, aT, cT, aP, cP, aS, cS, aG, cG⟩ s b)
 clear hW1
 go_wp2_with fail
 refine (HSN.out _ HQ1.out.bel).mono ?_
 rintro _ W2 ⟨rfl, hb⟩
 have HQ2 := qh (HQ1.out.then hb)
 clear hb HQ1 HSN
 have wk : ∀ j, W2.cell? ⟨w.heap.size, j, none⟩ = (Mo.wkC x ⟨aRo, cRo, aT, cT, aP, cP, aS, cS, aG, cG⟩)[j]? := fun j => HQ2.out.wk.cell j
 go_wp2_with fail
 refine (HFW.out _).mono ?_
 rintro _ W3 ⟨⟨fb, rfl, hfb⟩, hb⟩
 have HQ3 := qh (HQ2.out.then hb)
 clear hb HQ2 HFW wk hfb
 rcases fb with _ | _
 ·go_wp2_with fail
  go_ret
  exact ⟨rfl, HQ3.out.bel⟩
 have wk : ∀ j, W3.cell? ⟨w.heap.size, j, none⟩ = (Mo.wkC x ⟨aRo, cRo, aT, cT, aP, cP, aS, cS, aG, cG⟩)[j]? := fun j => HQ3.out.wk.cell j
 go_wp2_with fail
 refine (HCK.out _ HQ3.out.bel).mono ?_
 rintro _ W4 ⟨rfl, hb⟩
 have HQ4 := qh (HQ3.out.then hb)
 clear hb HQ3 HCK wk
 obtain ⟨c0, hc0⟩ : ∃ c, Ex.chk x = c := ⟨_, rfl⟩
 rw [hc0]
 by_cases h0 : c0 = 0
 case neg =>
  have c1 : (c0 != 0) = true := by simpa using h0
  clear h0 hc0
  go_wp2_with fail
  go_ret
  exact ⟨rfl, HQ4.out.bel⟩
 subst h0
 have HC0 := qh hc0
 have HGG := qh (HGD.out hc0)
 clear hc0 HGD
 have wk : ∀ j, W4.cell? ⟨w.heap.size, j, none⟩ = (Mo.wkC x ⟨aRo, cRo, aT, cT, aP, cP, aS, cS, aG, cG⟩)[j]? := fun j => HQ4.out.wk.cell j
 go_upto_region 6 with fail
 refine Kit.wp_name ?_
 intro W5 hW5
 have HQ5 := qh (show Mo.AQ w W5 x ⟨aRo, cRo, aT, cT, aP, cP, aS, cS, aG, cG⟩ s b by rw [hW5]; exact HQ4.out.then ((Below.refl _ _).alloc nlr _))
 have HV5 := qh (show Kit.Bk W5 W4.heap.size 32 (Mo.vC x ⟨aRo, cRo, aT, cT, aP, cP, aS, cS, aG, cG⟩ (.slice aG x.sg.length cG)) by rw [hW5]; exact Kit.Bk.new _ _ _)
 have HZ5 := qh (show w.heap.size + 3 ≤ W4.heap.size from HQ4.out.bd.lt)
 obtain ⟨VB, hVB⟩ : ∃ k, W4.heap.size = k := ⟨_, rfl⟩
 rw [hVB] at HV5 HZ5 ⊢
 clear hW5 hVB HQ4 wk
 have c10 : W5.cell? ⟨VB, 10, none⟩ = some (.slice aG x.sg.length cG) := (HV5.out.cell 10).trans rfl
 have f10 := HV5.out.frozen 10
 go_upto_region 7 with fail
 refine Kit.wp_name ?_
 intro W6 hW6
 have hx6 : Kit.Exc (fun k => k = VB) W5 W6 := by rw [hW6]; exact (Kit.Exc.refl (fun k => k = VB) W5).setCell (p := ⟨VB, 10, none⟩) (.inl rfl) _
 have HR6 := qh (show Mo.AlR w W6 x ⟨aRo, cRo, aT, cT, aP, cP, aS, cS, aG, cG⟩ s b VB (Mo.ofT x role bar 0).length ((Mo.ofT x role bar 0).flatMap Mo.sgC) (.slice none 0 0) from ⟨HQ5.out.exc hx6 (fun k hk => by rw [hk]; exact HZ5.out), HZ5.out, by rw [hW6]; exact HV5.out.put 10 (.slice none 0 0) rfl, World.ownsRow_nil _ _ _ _⟩)
 clear hW6 hx6 c10 f10 HQ5 HV5 HZ5
 have wk : ∀ j, W6.cell? ⟨w.heap.size, j, none⟩ = (Mo.wkC x ⟨aRo, cRo, aT, cT, aP, cP, aS, cS, aG, cG⟩)[j]? := fun j => HR6.out.q.wk.cell j
 have hlen := HGG.out.len
 go_wp2_with fail
 clear wk
 go_loopg [40] x.sg.length (fun kx v40 wr => ∃ (i : Nat) (v : Value), v40 = .int .i64 i ∧ i ≤ x.sg.length ∧ x.sg.length - i ≤ kx ∧ Hid (Mo.AlR w wr x ⟨aRo, cRo, aT, cT, aP, cP, aS, cS, aG, cG⟩ s b VB (Mo.ofT x role bar i).length ((Mo.ofT x role bar i).flatMap Mo.sgC) v))
 case atStart => exact ⟨0, .slice none 0 0, rfl, by omega, by omega, HR6⟩
 case round =>
  obtain ⟨i, v, rfl, hi, hk, HR⟩ := hrel
  clear HR6
  by_cases hlt : i < x.sg.length
  ·have hltz : (i : Int) < (x.sg.length : Int) := by omega
   have hsl := (HA.out.kept HR.out.q.bel nlr).sg
   obtain ⟨ad, rfl, hadb, _⟩ := HA.out.sg.at hlt
   (have e0 := hsl.head hlt omg; have e1 := hsl.field hlt (j := 1) omg omg; have e2 := hsl.field hlt (j := 2) omg omg; have e3 := hsl.field hlt (j := 3) omg omg; have e4 := hsl.field hlt (j := 4) omg omg; have e5 := hsl.field hlt (j := 5) omg omg; have e6 := hsl.field hlt (j := 6) omg omg; have e7 := hsl.field hlt (j := 7) omg omg; have e8 := hsl.field hlt (j := 8) omg omg; have e9 := hsl.field hlt (j := 9) omg omg; have e10 := hsl.field hlt (j := 10) omg omg; have e11 := hsl.field hlt (j := 11) omg omg; have e12 := hsl.field hlt (j := 12) omg omg; have e13 := hsl.field hlt (j := 13) omg omg; obtain ⟨y, hy_⟩ : ∃ y, x.sg.getD i default = y := ⟨_, rfl⟩; simp only [Ex.sgc, hy_] at e0 e1 e2 e3 e4 e5 e6 e7 e8 e9 e10 e11 e12 e13)
   have HST := qh (Mo.ofT_step x role bar i hlt y hy_)
   have HLN := qh (Mo.ofT_len x role bar i)
   clear hsl hy_
   rcases d1 : (y.role == role) with _ | _
   case' false => have HM := qh (show Mo.mine bar role y = false by unfold Mo.mine; rw [d1]; rfl)
   case' true =>
    rcases d2 : (y.bar == bar) with _ | _
    case' false => have HM := qh (show Mo.mine bar role y = false by unfold Mo.mine; rw [d1, d2]; rfl)
    case' true => have HM := qh (show Mo.mine bar role y = true by unfold Mo.mine; rw [d1, d2]; rfl)
   case true.true =>
    have HE1 := qh (show Mo.ofT x role bar (i + 1) = Mo.ofT x role bar i ++ [y] by rw [HST.out, if_pos HM.out])
    go_upto_region 11 with fail
    refine Kit.wp_name ?_
    intro X1 hX1
    have HR1 := qh (show Mo.AlR w X1 x ⟨aRo, cRo, aT, cT, aP, cP, aS, cS, some ad, cG⟩ s b VB (Mo.ofT x role bar i).length ((Mo.ofT x role bar i).flatMap Mo.sgC) v by rw [hX1]; exact HR.out.then ((Below.refl _ _).alloc nlr _))
    have HY1 := qh (show Kit.Bk X1 wr.heap.size 60 (Mo.sgC y).toArray by rw [hX1]; exact Kit.Bk.new _ _ _)
    obtain ⟨B8, hB8⟩ : ∃ k, wr.heap.size = k := ⟨_, rfl⟩
    rw [hB8] at HY1 ⊢
    clear hX1 hB8 HR
    have c10 : X1.cell? ⟨VB, 10, none⟩ = some v := (HR1.out.vb.cell 10).trans rfl
    have y0 : X1.cell? ⟨B8, 0, none⟩ = some (.int .i64 y.id) := (HY1.out.cell 0).trans rfl
    have y1 : X1.cell? ⟨B8, 1, none⟩ = some (.int .i64 y.role) := (HY1.out.cell 1).trans rfl
    have y2 : X1.cell? ⟨B8, 2, none⟩ = some (.int .i64 y.bar) := (HY1.out.cell 2).trans rfl
    have y3 : X1.cell? ⟨B8, 3, none⟩ = some (.int .i64 y.mark) := (HY1.out.cell 3).trans rfl
    have y4 : X1.cell? ⟨B8, 4, none⟩ = some (.int .i64 y.kind) := (HY1.out.cell 4).trans rfl
    have y5 : X1.cell? ⟨B8, 5, none⟩ = some (.int .i64 y.side) := (HY1.out.cell 5).trans rfl
    have y6 : X1.cell? ⟨B8, 6, none⟩ = some (.int .i64 y.dir) := (HY1.out.cell 6).trans rfl
    have y7 : X1.cell? ⟨B8, 7, none⟩ = some (.int .i64 y.level) := (HY1.out.cell 7).trans rfl
    have y8 : X1.cell? ⟨B8, 8, none⟩ = some (.int .i64 y.size) := (HY1.out.cell 8).trans rfl
    have y9 : X1.cell? ⟨B8, 9, none⟩ = some (.int .i64 y.wth) := (HY1.out.cell 9).trans rfl
    have y10 : X1.cell? ⟨B8, 10, none⟩ = some (.int .i64 y.fn) := (HY1.out.cell 10).trans rfl
    have y11 : X1.cell? ⟨B8, 11, none⟩ = some (.int .i64 y.fd) := (HY1.out.cell 11).trans rfl
    have y12 : X1.cell? ⟨B8, 12, none⟩ = some (.int .i64 y.tn) := (HY1.out.cell 12).trans rfl
    have y13 : X1.cell? ⟨B8, 13, none⟩ = some (.int .i64 y.td) := (HY1.out.cell 13).trans rfl
    go_wp2_with (at_builtin; refine Kit.wpList_appB Mo.elS (VB + 1) _ rfl _ _ rfl v _ _ (HR1.out.own.alloc _) (by rw [World.size_alloc]; exact Nat.le_succ_of_le HR1.out.vb.lt) rfl (by have := HLN.out; omega) ⟨X1.heap.size, 0, none⟩ 1 (Mo.sgC y) rfl rfl (fun j u hu => Kit.lit_at _ (Mo.sgC y) _ (by simp) j u hu) (Mo.sgC_one y) ?_; intro v' w5 ho hg; obtain ⟨a5, c5, rfl⟩ := Kit.own_shape ho; have HR2 := qh (HR1.out.then ((Below.refl _ _).alloc nlr (.cells (Mo.sgC y).toArray 60))); have HO2 := qh ho; have HG2 := qh hg; have c11 : w5.cell? ⟨VB, 10, none⟩ = some v := ((HR2.out.app0 hg).cell 10).trans rfl; have f11 := (HR2.out.app0 hg).frozen 10; clear ho hg c10 y0 y1 y2 y3 y4 y5 y6 y7 y8 y9 y10 y11 y12 y13)
    have HR3 := qh (HR2.out.app HO2.out HG2.out)
    clear HR2 HO2 HG2 HR1 HY1 c11 f11
    go_roundg (x.sg.length - (i + 1))
    case measure => omega
    case rel => exact ⟨i + 1, _, by go_num, by omega, Nat.le_refl _, qh (by rw [HE1.out, List.length_append, List.flatMap_append]; simpa using HR3.out)⟩
   all_goals
    have HE1 := qh (show Mo.ofT x role bar (i + 1) = Mo.ofT x role bar i by rw [HST.out, if_neg (by rw [HM.out]; decide), List.append_nil])
    go_wp2_with fail
    go_roundg (x.sg.length - (i + 1))
    case measure => omega
    case rel => exact ⟨i + 1, v, by go_num, by omega, Nat.le_refl _, qh (by rw [HE1.out]; exact HR.out.then ((Below.refl _ _).alloc nlr _))⟩
  ·obtain rfl : i = x.sg.length := by omega
   have hall : Mo.ofT x role bar x.sg.length = Mo.ofI x role bar := by unfold Mo.ofT Mo.ofI; rw [List.take_length]
   rw [hall] at HR
   obtain ⟨aV, cV, rfl⟩ := Kit.own_shape HR.out.own
   have HAV := qh (show Ex.At wr (Mo.alone x role bar) ⟨aRo, cRo, aT, cT, aP, cP, aS, cS, aV, cV⟩ from by
    have h := HA.out.kept HR.out.q.bel nlr
    have hle : (Mo.ofI x role bar).length ≤ x.sg.length := List.length_filter_le _ _
    obtain ⟨hsl, _, _⟩ := Kit.own_sl HR.out.own (Mo.sg_get (Mo.ofI x role bar))
    exact ⟨h.ro, h.ts, h.ps, h.ss, hsl, h.lro, h.lts, h.lps, h.lss, Nat.le_trans hle h.lsg⟩)
   have HAX := qh (HA.out.kept HR.out.q.bel nlr)
   have HQ := qh HR.out.q
   have HV := qh (show Kit.Bk wr VB 32 (Mo.wkC (Mo.alone x role bar) ⟨aRo, cRo, aT, cT, aP, cP, aS, cS, aV, cV⟩) from HR.out.vb)
   clear hlt hk hi hall HR HA hlen
   go_upto_region 13 with fail
   refine wp_region_lit ?_
   refine Kit.load_bk0 rfl 32 (.tmp 6) rfl w.heap.size rfl HQ.out.wk Tryz.underlying32 rfl (Mo.szQ _ _) ?_
   refine Kit.wpList_run rfl (.int .i64 role) _ rfl ?_
   refine Kit.wpList_run rfl (.int .i64 bar) _ rfl ?_
   refine Kit.load_bk0 rfl 37 (.tmp 9) rfl (w.heap.size + 1) rfl HQ.out.st Tryz.underlying37 rfl (Mo.szS s) ?_
   simp only [Act.put]
   go_simp
   go_wp2_with fail
   refine (HEN.out _ HQ.out.bel x ⟨aRo, cRo, aT, cT, aP, cP, aS, cS, aG, cG⟩ HAX.out).mono ?_
   rintro _ V1 ⟨⟨t1, e1, rfl, ht1⟩, hb⟩
   have Ht1 := qh ht1
   clear ht1
   have HAVx := qh (HAV.out.kept hb nlr)
   clear HAV
   have HAV := qh HAVx.out
   clear HAVx
   have HAXx := qh (HAX.out.kept hb nlr)
   clear HAX
   have HAX := qh HAXx.out
   clear HAXx
   have HQx := qh (HQ.out.then hb)
   clear HQ
   have HQ := qh HQx.out
   clear HQx
   have HVx := qh (HV.out.below hb HV.out.lt)
   clear HV
   have HV := qh HVx.out
   clear HVx
   clear hb
   go_upto_region 14 with fail
   refine Kit.wp_name ?_
   intro U1 hW
   have hb : Below V1.heap.size V1 U1 := by rw [hW]; exact (Below.refl _ _).alloc nlr _
   have HAVx := qh (HAV.out.kept hb nlr)
   clear HAV
   have HAV := qh HAVx.out
   clear HAVx
   have HAXx := qh (HAX.out.kept hb nlr)
   clear HAX
   have HAX := qh HAXx.out
   clear HAXx
   have HQx := qh (HQ.out.then hb)
   clear HQ
   have HQ := qh HQx.out
   clear HQx
   have HVx := qh (HV.out.below hb HV.out.lt)
   clear HV
   have HV := qh HVx.out
   clear HVx
   have Qk1 := qh (show Kit.Bk U1 V1.heap.size 37 (Mo.stA t1) by rw [hW]; exact Kit.Bk.new _ _ _)
   obtain ⟨k1, hB⟩ : ∃ b, V1.heap.size = b := ⟨_, rfl⟩
   rw [hB] at Qk1 ⊢
   clear hW hB hb
   go_upto_region 14 with fail
   refine wp_region_lit ?_
   refine Kit.load_bk0 rfl 32 (.tmp 13) rfl VB rfl HV.out Tryz.underlying32 rfl (Mo.szQ _ _) ?_
   refine Kit.wpList_run rfl (.int .i64 role) _ rfl ?_
   refine Kit.wpList_run rfl (.int .i64 bar) _ rfl ?_
   refine Kit.load_bk0 rfl 37 (.tmp 9) rfl (w.heap.size + 1) rfl HQ.out.st Tryz.underlying37 rfl (Mo.szS s) ?_
   simp only [Act.put]
   go_simp
   go_wp2_with fail
   refine (HEN.out _ HQ.out.bel (Mo.alone x role bar) ⟨aRo, cRo, aT, cT, aP, cP, aS, cS, aV, cV⟩ HAV.out).mono ?_
   rintro _ V2 ⟨⟨t2, e2, rfl, ht2⟩, hb⟩
   have Ht2 := qh ht2
   clear ht2
   have HAVx := qh (HAV.out.kept hb nlr)
   clear HAV
   have HAV := qh HAVx.out
   clear HAVx
   have HAXx := qh (HAX.out.kept hb nlr)
   clear HAX
   have HAX := qh HAXx.out
   clear HAXx
   have HQx := qh (HQ.out.then hb)
   clear HQ
   have HQ := qh HQx.out
   clear HQx
   have HVx := qh (HV.out.below hb HV.out.lt)
   clear HV
   have HV := qh HVx.out
   clear HVx
   have Qk1x := qh (Qk1.out.below hb Qk1.out.lt)
   clear Qk1
   have Qk1 := qh Qk1x.out
   clear Qk1x
   clear hb
   go_upto_region 15 with fail
   refine Kit.wp_name ?_
   intro U2 hW
   have hb : Below V2.heap.size V2 U2 := by rw [hW]; exact (Below.refl _ _).alloc nlr _
   have HAVx := qh (HAV.out.kept hb nlr)
   clear HAV
   have HAV := qh HAVx.out
   clear HAVx
   have HAXx := qh (HAX.out.kept hb nlr)
   clear HAX
   have HAX := qh HAXx.out
   clear HAXx
   have HQx := qh (HQ.out.then hb)
   clear HQ
   have HQ := qh HQx.out
   clear HQx
   have HVx := qh (HV.out.below hb HV.out.lt)
   clear HV
   have HV := qh HVx.out
   clear HVx
   have Qk1x := qh (Qk1.out.below hb Qk1.out.lt)
   clear Qk1
   have Qk1 := qh Qk1x.out
   clear Qk1x
   have Qk2 := qh (show Kit.Bk U2 V2.heap.size 37 (Mo.stA t2) by rw [hW]; exact Kit.Bk.new _ _ _)
   obtain ⟨k2, hB⟩ : ∃ b, V2.heap.size = b := ⟨_, rfl⟩
   rw [hB] at Qk2 ⊢
   clear hW hB hb
   go_upto_region 15 with fail
   refine wp_region_lit ?_
   refine Kit.load_bk0 rfl 32 (.tmp 6) rfl w.heap.size rfl HQ.out.wk Tryz.underlying32 rfl (Mo.szQ _ _) ?_
   refine Kit.wpList_run rfl (.int .i64 role) _ rfl ?_
   refine Kit.wpList_run rfl (.int .i64 bar) _ rfl ?_
   refine Kit.load_bk0 rfl 37 (.tmp 9) rfl (w.heap.size + 1) rfl HQ.out.st Tryz.underlying37 rfl (Mo.szS s) ?_
   refine Kit.load_bk0 rfl 48 (.tmp 10) rfl (w.heap.size + 2) rfl HQ.out.bd Tryz.underlying48 rfl (Mo.szBd b) ?_
   simp only [Act.put]
   go_simp
   go_wp2_with fail
   refine (HSW.out _ HQ.out.bel x ⟨aRo, cRo, aT, cT, aP, cP, aS, cS, aG, cG⟩ HAX.out).mono ?_
   rintro _ V3 ⟨⟨t3, e3, rfl, ht3⟩, hb⟩
   have Ht3 := qh ht3
   clear ht3
   have HAVx := qh (HAV.out.kept hb nlr)
   clear HAV
   have HAV := qh HAVx.out
   clear HAVx
   have HAXx := qh (HAX.out.kept hb nlr)
   clear HAX
   have HAX := qh HAXx.out
   clear HAXx
   have HQx := qh (HQ.out.then hb)
   clear HQ
   have HQ := qh HQx.out
   clear HQx
   have HVx := qh (HV.out.below hb HV.out.lt)
   clear HV
   have HV := qh HVx.out
   clear HVx
   have Qk1x := qh (Qk1.out.below hb Qk1.out.lt)
   clear Qk1
   have Qk1 := qh Qk1x.out
   clear Qk1x
   have Qk2x := qh (Qk2.out.below hb Qk2.out.lt)
   clear Qk2
   have Qk2 := qh Qk2x.out
   clear Qk2x
   clear hb
   go_upto_region 16 with fail
   refine Kit.wp_name ?_
   intro U3 hW
   have hb : Below V3.heap.size V3 U3 := by rw [hW]; exact (Below.refl _ _).alloc nlr _
   have HAVx := qh (HAV.out.kept hb nlr)
   clear HAV
   have HAV := qh HAVx.out
   clear HAVx
   have HAXx := qh (HAX.out.kept hb nlr)
   clear HAX
   have HAX := qh HAXx.out
   clear HAXx
   have HQx := qh (HQ.out.then hb)
   clear HQ
   have HQ := qh HQx.out
   clear HQx
   have HVx := qh (HV.out.below hb HV.out.lt)
   clear HV
   have HV := qh HVx.out
   clear HVx
   have Qk1x := qh (Qk1.out.below hb Qk1.out.lt)
   clear Qk1
   have Qk1 := qh Qk1x.out
   clear Qk1x
   have Qk2x := qh (Qk2.out.below hb Qk2.out.lt)
   clear Qk2
   have Qk2 := qh Qk2x.out
   clear Qk2x
   have Qk3 := qh (show Kit.Bk U3 V3.heap.size 52 (Mo.bxA t3) by rw [hW]; exact Kit.Bk.new _ _ _)
   obtain ⟨k3, hB⟩ : ∃ b, V3.heap.size = b := ⟨_, rfl⟩
   rw [hB] at Qk3 ⊢
   clear hW hB hb
   go_upto_region 16 with fail
   refine wp_region_lit ?_
   refine Kit.load_bk0 rfl 32 (.tmp 13) rfl VB rfl HV.out Tryz.underlying32 rfl (Mo.szQ _ _) ?_
   refine Kit.wpList_run rfl (.int .i64 role) _ rfl ?_
   refine Kit.wpList_run rfl (.int .i64 bar) _ rfl ?_
   refine Kit.load_bk0 rfl 37 (.tmp 9) rfl (w.heap.size + 1) rfl HQ.out.st Tryz.underlying37 rfl (Mo.szS s) ?_
   refine Kit.load_bk0 rfl 48 (.tmp 10) rfl (w.heap.size + 2) rfl HQ.out.bd Tryz.underlying48 rfl (Mo.szBd b) ?_
   simp only [Act.put]
   go_simp
   go_wp2_with fail
   refine (HSW.out _ HQ.out.bel (Mo.alone x role bar) ⟨aRo, cRo, aT, cT, aP, cP, aS, cS, aV, cV⟩ HAV.out).mono ?_
   rintro _ V4 ⟨⟨t4, e4, rfl, ht4⟩, hb⟩
   have Ht4 := qh ht4
   clear ht4
   have HAVx := qh (HAV.out.kept hb nlr)
   clear HAV
   have HAV := qh HAVx.out
   clear HAVx
   have HAXx := qh (HAX.out.kept hb nlr)
   clear HAX
   have HAX := qh HAXx.out
   clear HAXx
   have HQx := qh (HQ.out.then hb)
   clear HQ
   have HQ := qh HQx.out
   clear HQx
   have HVx := qh (HV.out.below hb HV.out.lt)
   clear HV
   have HV := qh HVx.out
   clear HVx
   have Qk1x := qh (Qk1.out.below hb Qk1.out.lt)
   clear Qk1
   have Qk1 := qh Qk1x.out
   clear Qk1x
   have Qk2x := qh (Qk2.out.below hb Qk2.out.lt)
   clear Qk2
   have Qk2 := qh Qk2x.out
   clear Qk2x
   have Qk3x := qh (Qk3.out.below hb Qk3.out.lt)
   clear Qk3
   have Qk3 := qh Qk3x.out
   clear Qk3x
   clear hb
   go_upto_region 17 with fail
   refine Kit.wp_name ?_
   intro U4 hW
   have hb : Below V4.heap.size V4 U4 := by rw [hW]; exact (Below.refl _ _).alloc nlr _
   have HAVx := qh (HAV.out.kept hb nlr)
   clear HAV
   have HAV := qh HAVx.out
   clear HAVx
   have HAXx := qh (HAX.out.kept hb nlr)
   clear HAX
   have HAX := qh HAXx.out
   clear HAXx
   have HQx := qh (HQ.out.then hb)
   clear HQ
   have HQ := qh HQx.out
   clear HQx
   have HVx := qh (HV.out.below hb HV.out.lt)
   clear HV
   have HV := qh HVx.out
   clear HVx
   have Qk1x := qh (Qk1.out.below hb Qk1.out.lt)
   clear Qk1
   have Qk1 := qh Qk1x.out
   clear Qk1x
   have Qk2x := qh (Qk2.out.below hb Qk2.out.lt)
   clear Qk2
   have Qk2 := qh Qk2x.out
   clear Qk2x
   have Qk3x := qh (Qk3.out.below hb Qk3.out.lt)
   clear Qk3
   have Qk3 := qh Qk3x.out
   clear Qk3x
   have Qk4 := qh (show Kit.Bk U4 V4.heap.size 52 (Mo.bxA t4) by rw [hW]; exact Kit.Bk.new _ _ _)
   obtain ⟨k4, hB⟩ : ∃ b, V4.heap.size = b := ⟨_, rfl⟩
   rw [hB] at Qk4 ⊢
   clear hW hB hb
   obtain ⟨rfl, rfl⟩ := Mo.end_uniq Ht1.out (Mo.end_alone HC0.out Ht2.out)
   obtain ⟨rfl, rfl⟩ := Mo.sw_uniq Ht3.out (Mo.sw_alone HC0.out Ht4.out)
   have qk1 : ∀ j, U4.cell? ⟨k1, j, none⟩ = (Mo.stA t1)[j]? := fun j => Qk1.out.cell j
   have qk2 : ∀ j, U4.cell? ⟨k2, j, none⟩ = (Mo.stA t1)[j]? := fun j => Qk2.out.cell j
   have qk3 : ∀ j, U4.cell? ⟨k3, j, none⟩ = (Mo.bxA t3)[j]? := fun j => Qk3.out.cell j
   have qk4 : ∀ j, U4.cell? ⟨k4, j, none⟩ = (Mo.bxA t3)[j]? := fun j => Qk4.out.cell j
   have hq1 := fun W => Mo.eq_st t1 W
   have hq2 := fun W => Mo.eq_bx t3 W
   have HBE := qh HQ.out.bel
   clear Qk1 Qk2 Qk3 Qk4 Ht1 Ht2 Ht3 Ht4 HAV HAX HQ HV HEN HSW HC0 HGG
   go_wp2_with fail
   go_ret
   exact ⟨rfl, HBE.out⟩
end Go.Proofs.YtedolbjgdedoaaaGreatDoor
