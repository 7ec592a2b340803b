/- Walks: the laws of layer 20: TypesMirrored. -/
import Derived.Test.YtggfeblfhabmkaaDoorTzF
import Derived.Test.YtggfeblfhabmkaaDoorTzD
import Derived.Deep.CutRange
namespace Go.Proofs.YtggfeblfhabmkaaDoor
set_option linter.unusedVariables false
set_option linter.unusedSimpArgs false
open Go.RowKit Go.Shelf

set_option maxRecDepth 100000 in
set_option maxHeartbeats 2000000 in
theorem lw_mirrored_1 (x : Ex.Wk) (p : Ex.Wa) (k : Nat) (w : World) (hk : k < 65536) (ha : Ex.At w x p) (hl : Ex.Laid w) :
    Calls Tryd.prog 7 #[Ex.workV x p, .int .u16 k] w fun e w' => e = .returned (.bool true) ∧ Below w.heap.size w w' := by
  have hs : ∀ W, Below w.heap.size w W → Calls Tryd.prog 8 #[] W fun e w' => e = .returned (.bool true) ∧ Below W.heap.size W w' := fun W hb => lw_sane W (hl.kept hb (Nat.le_refl _))
  have hf : ∀ W, Below w.heap.size w W → Calls Tryd.prog 14 #[Ex.workV x p] W fun e w' => ∃ a c, e = .returned (.tuple #[.slice a (Ty.lst x).length c, .int .i64 (Ex.chk x)]) ∧ Tp.Sl w' a (Ty.lst x).length 3 (Ty.f3c (Ty.lst x)) ∧ Below W.heap.size W w' := fun W hb => by
    refine (ty_faults x p W (ha.kept hb (Nat.le_refl _)) (hl.kept hb (Nat.le_refl _))).mono ?_
    rintro e w' ⟨v, rfl, ho, hb⟩
    obtain ⟨a, c, rfl, hs⟩ := Ty.own_fl ho
    exact ⟨a, c, rfl, hs, hb⟩
  have hw : ∀ W, Calls Tryd.prog 9 #[Ex.workV x p] W fun e w' => Ty.IsB e ∧ Below W.heap.size W w' := fun W => lw_few x p W
  have hc : ∀ W, Below w.heap.size w W → Ex.Chk x p W (Ex.chk x) := fun W hb => ex_check x p W (ha.kept hb (Nat.le_refl _)) (hl.kept hb (Nat.le_refl _))
  have HSG := Lib.hid ha.sg
  have hpl : Ex.chk x = 0 → Ty.lst x = Ty.refL x.sg ∧ (Ty.lst x).length ≤ 100000000 ∧ Ty.Inc x.sg ∧ ∀ s ∈ x.sg, Ty.Rt s x.ro.length x.n := fun h => by
    obtain ⟨_, h2, _, h4, h5⟩ := Ty.of_chk h
    have e : Ty.lst x = Ty.refL x.sg := by rw [Ty.lst, if_pos h]
    exact ⟨e, by rw [e]; exact Ty.refL_len _ h2, h4, h5⟩
  have HPL := Lib.hid hpl
  have HAT := Lib.hid ha
  have HLD := Lib.hid hl
  have hch : Ex.chk x = 0 → Ex.chk { x with sg := x.sg.map Ty.mir } = 0 ∧ (∀ bar : Int, Ex.chk { x with sg := x.sg.filter fun s => s.bar == bar } = 0) ∧ (∀ s ∈ x.sg, Ty.Bd s) ∧ x.sg.length ≤ 4096 := fun h => ⟨Ty.chk_mir h, fun _ => Ty.chk_filter _ h, Ty.bd_of h, (Ty.of_chk h).2.1⟩
  have HCH := Lib.hid hch
  have HS := Lib.hid hs
  have HF := Lib.hid hf
  have HW := Lib.hid hw
  have HC := Lib.hid hc
  have lsg := ha.lsg
  have lro := ha.lro
  clear hs hf hw hc ha hl hpl hch
  generalize Ty.lst x = l at *
  unfold Ex.Chk at HC
  generalize Ex.chk x = r at *
  obtain ⟨wd, dp, ta, tb, tc, n, ro, ts, ps, ss, sg⟩ := x
  obtain ⟨aR, cR, aT, cT, aP, cP, aS, cS, aG, cG⟩ := p
  dsimp only at HPL HSG lsg lro
  go_enter Tryd.func7, Tryd.ntmps7
  skip
  (go_wp2_with (fail); refine (HS.out _ (by (repeat' first | (with_reducible first | exact Below.refl _ _ | assumption | refine Kit.below_drewN ?_ _ | refine Below.drew ?_ | refine Below.alloc ?_ ?_ _ | refine Below.setCell ?_ ?_ _ | exact Nat.le_refl _) | omega | (simp; omega) | (simp; done) | (apply Below.size; assumption)))).mono ?_; rintro e w1_ ⟨rfl, hb1_⟩; have hp1_ : Below w.heap.size w w1_ := Below.trans (by (repeat' first | (with_reducible first | exact Below.refl _ _ | assumption | refine Kit.below_drewN ?_ _ | refine Below.drew ?_ | refine Below.alloc ?_ ?_ _ | refine Below.setCell ?_ ?_ _ | exact Nat.le_refl _) | omega | (simp; omega) | (simp; done) | (apply Below.size; assumption))) (hb1_.mono (by first | assumption | (simp; done) | (simp; omega) | omega)); have hw1_ : Below w.heap.size w w1_ := hp1_; obtain ⟨hc1_, hf1_⟩ := Kit.bcell hb1_; have z1_w : w.heap.size < w1_.heap.size := (by have := hb1_.size; first | omega | (simp at this; omega)); obtain ⟨g1_w_0, g1_w_1, g1_w_2, g1_w_3, g1_w_4, g1_w_5, g1_w_6, g1_w_7, g1_w_8, g1_w_9, g1_w_10⟩ : w1_.cell? ⟨w.heap.size, 0, none⟩ = some (.int .i64 wd) ∧ w1_.cell? ⟨w.heap.size, 1, none⟩ = some (.int .i64 dp) ∧ w1_.cell? ⟨w.heap.size, 2, none⟩ = some (.int .i64 ta) ∧ w1_.cell? ⟨w.heap.size, 3, none⟩ = some (.int .i64 tb) ∧ w1_.cell? ⟨w.heap.size, 4, none⟩ = some (.int .i64 tc) ∧ w1_.cell? ⟨w.heap.size, 5, none⟩ = some (.slice aR ro.length cR) ∧ w1_.cell? ⟨w.heap.size, 6, none⟩ = some (.int .i64 n) ∧ w1_.cell? ⟨w.heap.size, 7, none⟩ = some (.slice aT ts.length cT) ∧ w1_.cell? ⟨w.heap.size, 8, none⟩ = some (.slice aP ps.length cP) ∧ w1_.cell? ⟨w.heap.size, 9, none⟩ = some (.slice aS ss.length cS) ∧ w1_.cell? ⟨w.heap.size, 10, none⟩ = some (.slice aG sg.length cG) := (by refine ⟨?_, ?_, ?_, ?_, ?_, ?_, ?_, ?_, ?_, ?_, ?_⟩ <;> (rw [hc1_ _ _ (by first | assumption | (simp; done) | (simp; omega) | omega)]; first | assumption | (simp [go_sem]; done) | (simp [go_sem, *]; done))); clear hc1_ hf1_; clear hb1_ hp1_)
  (go_wp2_with (fail); refine (HF.out _ (by (repeat' first | (with_reducible first | exact Below.refl _ _ | assumption | refine Kit.below_drewN ?_ _ | refine Below.drew ?_ | refine Below.alloc ?_ ?_ _ | refine Below.setCell ?_ ?_ _ | exact Nat.le_refl _) | omega | (simp; omega) | (simp; done) | (apply Below.size; assumption)))).mono ?_; rintro e w2_ ⟨aF, cF, rfl, hsF, hb2_⟩; have hp2_ : Below w1_.heap.size w1_ w2_ := Below.trans (by (repeat' first | (with_reducible first | exact Below.refl _ _ | assumption | refine Kit.below_drewN ?_ _ | refine Below.drew ?_ | refine Below.alloc ?_ ?_ _ | refine Below.setCell ?_ ?_ _ | exact Nat.le_refl _) | omega | (simp; omega) | (simp; done) | (apply Below.size; assumption))) (hb2_.mono (by first | assumption | (simp; done) | (simp; omega) | omega)); have hw2_ : Below w.heap.size w w2_ := hw1_.trans (hp2_.mono hw1_.size); have z2_w : w.heap.size < w2_.heap.size := Nat.lt_of_lt_of_le z1_w hp2_.size; have g2_w_0 := Kit.ck hp2_ g1_w_0 z1_w; have g2_w_1 := Kit.ck hp2_ g1_w_1 z1_w; have g2_w_2 := Kit.ck hp2_ g1_w_2 z1_w; have g2_w_3 := Kit.ck hp2_ g1_w_3 z1_w; have g2_w_4 := Kit.ck hp2_ g1_w_4 z1_w; have g2_w_5 := Kit.ck hp2_ g1_w_5 z1_w; have g2_w_6 := Kit.ck hp2_ g1_w_6 z1_w; have g2_w_7 := Kit.ck hp2_ g1_w_7 z1_w; have g2_w_8 := Kit.ck hp2_ g1_w_8 z1_w; have g2_w_9 := Kit.ck hp2_ g1_w_9 z1_w; have g2_w_10 := Kit.ck hp2_ g1_w_10 z1_w; clear z1_w g1_w_0 g1_w_1 g1_w_2 g1_w_3 g1_w_4 g1_w_5 g1_w_6 g1_w_7 g1_w_8 g1_w_9 g1_w_10 hw1_ hb2_ hp2_)
  have SF := Lib.hid hsF
  clear hsF
  (go_wp2_with (fail); refine (HW.out _).mono ?_; rintro e w3_ ⟨⟨b, rfl⟩, hb3_⟩; have hp3_ : Below w2_.heap.size w2_ w3_ := Below.trans (by (repeat' first | (with_reducible first | exact Below.refl _ _ | assumption | refine Kit.below_drewN ?_ _ | refine Below.drew ?_ | refine Below.alloc ?_ ?_ _ | refine Below.setCell ?_ ?_ _ | exact Nat.le_refl _) | omega | (simp; omega) | (simp; done) | (apply Below.size; assumption))) (hb3_.mono (by first | assumption | (simp; done) | (simp; omega) | omega)); have hw3_ : Below w.heap.size w w3_ := hw2_.trans (hp3_.mono hw2_.size); have z3_w : w.heap.size < w3_.heap.size := Nat.lt_of_lt_of_le z2_w hp3_.size; have g3_w_0 := Kit.ck hp3_ g2_w_0 z2_w; have g3_w_1 := Kit.ck hp3_ g2_w_1 z2_w; have g3_w_2 := Kit.ck hp3_ g2_w_2 z2_w; have g3_w_3 := Kit.ck hp3_ g2_w_3 z2_w; have g3_w_4 := Kit.ck hp3_ g2_w_4 z2_w; have g3_w_5 := Kit.ck hp3_ g2_w_5 z2_w; have g3_w_6 := Kit.ck hp3_ g2_w_6 z2_w; have g3_w_7 := Kit.ck hp3_ g2_w_7 z2_w; have g3_w_8 := Kit.ck hp3_ g2_w_8 z2_w; have g3_w_9 := Kit.ck hp3_ g2_w_9 z2_w; have g3_w_10 := Kit.ck hp3_ g2_w_10 z2_w; have SF3 := Lib.hid (SF.out.kept hp3_ (Nat.le_refl _)); clear z2_w g2_w_0 g2_w_1 g2_w_2 g2_w_3 g2_w_4 g2_w_5 g2_w_6 g2_w_7 g2_w_8 g2_w_9 g2_w_10 hw2_ hb3_ hp3_)
  rcases b with _ | _
  · go_wp2
    go_ret
    exact ⟨rfl, by (repeat' first | (with_reducible first | exact Below.refl _ _ | assumption | refine Kit.below_drewN ?_ _ | refine Below.drew ?_ | refine Below.alloc ?_ ?_ _ | refine Below.setCell ?_ ?_ _ | exact Nat.le_refl _) | omega | (simp; omega) | (simp; done) | (apply Below.size; assumption))⟩
  rcases er : (r != 0) with _ | _
  · obtain rfl : r = 0 := by simpa using er
    obtain ⟨hl0, hll, hinc, hrt⟩ := HPL.out rfl
    obtain ⟨hcx, hcy, hbd, hln⟩ := HCH.out rfl
    have HL0 := Lib.hid hl0
    have HIC := Lib.hid hinc
    have HRT := Lib.hid hrt
    have HCX := Lib.hid hcx
    have HCY := Lib.hid hcy
    have HBD := Lib.hid hbd
    clear hl0 hinc hrt hcx hcy hbd HC HF HW HS HPL HCH
    go_upto_region 6 with fail
    refine Kit.wp_region_two 2 7 8 32 (.tmp 34) (.tmp 35) Ty.z32 (by kernel_rfl) (by kernel_rfl) (fun _ _ d _ _ h => by cases d <;> exact h) rfl rfl rfl rfl rfl (fun _ _ => rfl) (fun _ _ => rfl) (by decide) (by kernel_rfl) ?_
    simp only [List.take_succ_cons, List.take_zero, Kit.wpIf, Act.put, List.setIfInBounds_toArray, List.set_cons_zero, List.set_cons_succ]
    refine ⟨Ex.workV (⟨wd, dp, ta, tb, tc, n, ro, ts, ps, ss, sg⟩ : Ex.Wk) (⟨aR, cR, aT, cT, aP, cP, aS, cS, aG, cG⟩ : Ex.Wa), .inl ⟨by rfl, fun w1 hx => ?_⟩, ?_⟩
    · have s0 := (hx.cell (p := ⟨w.heap.size, 0, none⟩) z3_w).trans g3_w_0; have s1 := (hx.cell (p := ⟨w.heap.size, 1, none⟩) z3_w).trans g3_w_1; have s2 := (hx.cell (p := ⟨w.heap.size, 2, none⟩) z3_w).trans g3_w_2; have s3 := (hx.cell (p := ⟨w.heap.size, 3, none⟩) z3_w).trans g3_w_3; have s4 := (hx.cell (p := ⟨w.heap.size, 4, none⟩) z3_w).trans g3_w_4; have s5 := (hx.cell (p := ⟨w.heap.size, 5, none⟩) z3_w).trans g3_w_5; have s6 := (hx.cell (p := ⟨w.heap.size, 6, none⟩) z3_w).trans g3_w_6; have s7 := (hx.cell (p := ⟨w.heap.size, 7, none⟩) z3_w).trans g3_w_7; have s8 := (hx.cell (p := ⟨w.heap.size, 8, none⟩) z3_w).trans g3_w_8; have s9 := (hx.cell (p := ⟨w.heap.size, 9, none⟩) z3_w).trans g3_w_9; have s10 := (hx.cell (p := ⟨w.heap.size, 10, none⟩) z3_w).trans g3_w_10; simp [execOp, Act.eval, s0, s1, s2, s3, s4, s5, s6, s7, s8, s9, s10, go_sem]
    refine ⟨Ex.workV (⟨wd, dp, ta, tb, tc, n, ro, ts, ps, ss, sg⟩ : Ex.Wk) (⟨aR, cR, aT, cT, aP, cP, aS, cS, aG, cG⟩ : Ex.Wa), .inl ⟨by rfl, fun w1 hx => ?_⟩, ?_⟩
    · have s0 := (hx.cell (p := ⟨w.heap.size, 0, none⟩) z3_w).trans g3_w_0; have s1 := (hx.cell (p := ⟨w.heap.size, 1, none⟩) z3_w).trans g3_w_1; have s2 := (hx.cell (p := ⟨w.heap.size, 2, none⟩) z3_w).trans g3_w_2; have s3 := (hx.cell (p := ⟨w.heap.size, 3, none⟩) z3_w).trans g3_w_3; have s4 := (hx.cell (p := ⟨w.heap.size, 4, none⟩) z3_w).trans g3_w_4; have s5 := (hx.cell (p := ⟨w.heap.size, 5, none⟩) z3_w).trans g3_w_5; have s6 := (hx.cell (p := ⟨w.heap.size, 6, none⟩) z3_w).trans g3_w_6; have s7 := (hx.cell (p := ⟨w.heap.size, 7, none⟩) z3_w).trans g3_w_7; have s8 := (hx.cell (p := ⟨w.heap.size, 8, none⟩) z3_w).trans g3_w_8; have s9 := (hx.cell (p := ⟨w.heap.size, 9, none⟩) z3_w).trans g3_w_9; have s10 := (hx.cell (p := ⟨w.heap.size, 10, none⟩) z3_w).trans g3_w_10; simp [execOp, Act.eval, s0, s1, s2, s3, s4, s5, s6, s7, s8, s9, s10, go_sem]
    refine ⟨by simp, by simp, Ty.wc (⟨wd, dp, ta, tb, tc, n, ro, ts, ps, ss, sg⟩ : Ex.Wk) (⟨aR, cR, aT, cT, aP, cP, aS, cS, aG, cG⟩ : Ex.Wa) (.slice aG sg.length cG), Ty.wc (⟨wd, dp, ta, tb, tc, n, ro, ts, ps, ss, sg⟩ : Ex.Wk) (⟨aR, cR, aT, cT, aP, cP, aS, cS, aG, cG⟩ : Ex.Wa) (.slice aG sg.length cG), fun _ _ => rfl, fun _ _ => rfl, rfl, rfl, (by simp [Value.oneCell']), (by simp [Value.oneCell']), ?_⟩
    intro b1 b2 W3 hne hb1 hb2 hbW h31 h32
    have x10 : W3.cell? ⟨b1, 10, none⟩ = some (.slice aG sg.length cG) := (Ty.wc_cells h31).1 10 (by omega)
    have y10 : W3.cell? ⟨b2, 10, none⟩ = some (.slice aG sg.length cG) := (Ty.wc_cells h32).1 10 (by omega)
    have xf := (Ty.wc_cells h31).2 10
    have yf := (Ty.wc_cells h32).2 10
    have zx : b1 < W3.heap.size := (Array.getElem?_eq_some_iff.1 h31).1
    have zy : b2 < W3.heap.size := (Array.getElem?_eq_some_iff.1 h32).1
    have H31 := Lib.hid h31
    have H32 := Lib.hid h32
    have HBW := Lib.hid hbW
    have G10 := Lib.hid g3_w_10
    have HB12 := Lib.hid (And.intro hb1 hb2)
    clear h31 h32 hbW g3_w_0 g3_w_1 g3_w_2 g3_w_3 g3_w_4 g3_w_5 g3_w_6 g3_w_7 g3_w_8 g3_w_9 g3_w_10
    go_upto_region 8 with fail
    refine Kit.wp_name ?_
    intro W4 hW4
    have HX4 := Lib.hid (show W4.heap[b1]? = some (.cells (Ty.wc (⟨wd, dp, ta, tb, tc, n, ro, ts, ps, ss, sg⟩ : Ex.Wk) (⟨aR, cR, aT, cT, aP, cP, aS, cS, aG, cG⟩ : Ex.Wa) (.slice none 0 0)) 32 (0, 0)) by
      rw [hW4]
      refine (Below.heap_setCell _ _ _ _ (show b1 ≠ b2 from hne)).trans ?_
      rw [heap_setCell_same _ _ _ _ _ _ H31.out]; simp)
    have HY4 := Lib.hid (show W4.heap[b2]? = some (.cells (Ty.wc (⟨wd, dp, ta, tb, tc, n, ro, ts, ps, ss, sg⟩ : Ex.Wk) (⟨aR, cR, aT, cT, aP, cP, aS, cS, aG, cG⟩ : Ex.Wa) (.slice none 0 0)) 32 (0, 0)) by
      rw [hW4]
      have h := (Below.heap_setCell W3 ⟨b1, 10, none⟩ (.slice none 0 0) b2 (show b2 ≠ b1 from Ne.symm hne)).trans H32.out
      rw [heap_setCell_same _ _ _ _ _ _ h]; simp)
    have HB4 := Lib.hid (show Below w3_.heap.size w3_ W4 by
      rw [hW4]
      exact (HBW.out.setCell (p := ⟨b1, 10, none⟩) HB12.out.1 _).setCell (p := ⟨b2, 10, none⟩) HB12.out.2 _)
    have HNE := Lib.hid hne
    clear hW4 x10 y10 xf yf zx zy H31 H32 HBW hne hb1 hb2
    have g10 := Lib.hid ((HB4.out.cell (p := ⟨w.heap.size, 10, none⟩) z3_w).trans G10.out)
    have zwW : w.heap.size < W4.heap.size := Nat.lt_of_lt_of_le z3_w HB4.out.size
    clear SF G10
    have gg := g10.out
    go_upto_if 41 with fail
    clear gg
    go_cut [9] from 41 to 52 (fun s9 wx => ∃ bar : Int, s9 = .int .i64 bar ∧ Hid (Below W4.heap.size W4 wx))
    case first =>
      by_cases hpos : 0 < sg.length
      · have hnil : ¬ sg = [] := by rintro rfl; simp at hpos
        obtain ⟨i, hi⟩ : ∃ i, i = k % sg.length := ⟨_, rfl⟩
        have li : i < sg.length := by rw [hi]; exact Nat.mod_lt _ (by omega)
        have hmi : (k : Int).tmod (sg.length : Int) = (i : Int) := by rw [Int.tmod_eq_emod_of_nonneg (Int.natCast_nonneg k), hi, Int.natCast_emod]
        have wk := Ty.wrapN hk
        have hne0 : ¬ (sg.length : Int) = 0 := by omega
        obtain ⟨ay, rfl, hay, _⟩ := HSG.out.at li
        have HBw := hw3_.trans (HB4.out.mono hw3_.size)
        have e2 := (HSG.out.kept HBw (Nat.le_refl _)).field li (j := 2) (by omega) (by omega)
        have zb : (ay.add (i * 14)).block < W4.heap.size := by rw [Tp.add_block]; have := HBw.size; omega
        have zc : ∀ z : Kit.Wd W4, z.val.cell? ⟨w.heap.size, 10, none⟩ = some (.slice (some ay) sg.length cG) := fun z => z.cell g10.out zwW
        have ze : ∀ z : Kit.Wd W4, z.val.cell? ⟨(ay.add (i * 14)).block, (ay.add (i * 14)).off + 2, none⟩ = some (Ex.sgc sg i 2) := fun z => z.cell e2 zb
        simp only [Ex.sgc] at ze
        have hki : (k : Int) % (sg.length : Int) = (i : Int) := by rw [hi, Int.natCast_emod]
        clear e2 hi HBw
        go_upto_region 10 with fail
        refine Kit.wp_region_cls (by kernel_rfl) (by kernel_rfl) ?_
        (repeat (go_big_quiet_step (fail)))
        refine wpQuiet_nil ?_
        intro z
        have HZB := Lib.hid z.below
        clear zc ze
        go_wp2_with fail
        go_meet
        case rel => exact ⟨_, rfl, HZB.out⟩
      · have hpos' : ¬ (0 : Int) < sg.length := by omega
        go_wp2_with fail
        go_meet
        case rel => exact ⟨0, rfl, Below.refl _ _⟩
    case rest =>
      obtain ⟨bar, rfl, HB45⟩ := hcut
      obtain ⟨W5, rfl⟩ : ∃ W5, W5 = wc := ⟨_, rfl⟩
      have zwW5 : w.heap.size < W5.heap.size := Nat.lt_of_lt_of_le zwW HB45.out.size
      have G5 := (HB45.out.cell (p := ⟨w.heap.size, 10, none⟩) zwW).trans g10.out
      have hmm := @run_makeMap Tryd.prog
      go_wp2_with fail
      clear hmm G5
      refine Kit.wp_name ?_
      intro W6 hW6
      obtain ⟨M, hM⟩ : ∃ M, M = W5.heap.size := ⟨_, rfl⟩
      rw [← hM]
      obtain ⟨s, hs⟩ : ∃ s, s = W6.heap.size := ⟨_, rfl⟩
      have hs6 : W6.heap.size = W5.heap.size + 1 := by rw [hW6]; simp
      have HB56 := Lib.hid (show Below W5.heap.size W5 W6 by rw [hW6]; exact (Below.refl _ _).alloc (Nat.le_refl _) _)
      have hx5 : b1 < W4.heap.size := (Array.getElem?_eq_some_iff.1 HX4.out).1
      have hy5 : b2 < W4.heap.size := (Array.getElem?_eq_some_iff.1 HY4.out).1
      have hs45 := HB45.out.size
      have HM6 := Lib.hid (show Ty.MI (⟨wd, dp, ta, tb, tc, n, ro, ts, ps, ss, sg⟩ : Ex.Wk) (⟨aR, cR, aT, cT, aP, cP, aS, cS, aG, cG⟩ : Ex.Wa) s b1 b2 M [] [] (.slice none 0 0) (.slice none 0 0) 0 (fun _ => .bool false) W6 from
        ⟨(HB56.out.block b1 (by omega)).trans ((HB45.out.block b1 hx5).trans HX4.out), (HB56.out.block b2 (by omega)).trans ((HB45.out.block b2 hy5).trans HY4.out), World.ownsRow_nil _ _ _ _, World.ownsRow_nil _ _ _ _,
          by rw [hW6, hM]; exact Kit.IMap.made _ _ _ (.lit (.bool false)) rfl _, fun g h => (by cases h), ⟨by omega, by omega, by omega⟩, ⟨HNE.out, by omega, by omega⟩⟩)
      have HB6 := Lib.hid (HB4.out.trans ((HB45.out.trans (HB56.out.mono HB45.out.size)).mono HB4.out.size))
      have HSS := Lib.hid (show w3_.heap.size ≤ s by have := HB6.out.size; omega)
      have HSe := Lib.hid (Nat.le_of_eq hs)
      have HMG := Lib.hid (show w3_.heap.size ≤ M ∧ w3_.heap.size ≤ b1 ∧ w3_.heap.size ≤ b2 from ⟨by have := HB4.out.size; have := HB45.out.size; omega, HB12.out.1, HB12.out.2⟩)
      clear hW6 hM hs HB56 HX4 HY4 hx5 hy5 hs45 hs6 HB45 zwW zwW5 g10 HB12 HNE
      obtain ⟨i0, hI, hz0, hz1, hz2⟩ := info_parts Ty.infoS
      go_loopw [57] (fun v57 wr => ∃ (i n2 : Nat) (vx vy : Value) (f : Int → Value), v57 = .int .i64 i ∧ i ≤ sg.length ∧ n2 ≤ i ∧ Hid (Ty.MI (⟨wd, dp, ta, tb, tc, n, ro, ts, ps, ss, sg⟩ : Ex.Wk) (⟨aR, cR, aT, cT, aP, cP, aS, cS, aG, cG⟩ : Ex.Wa) s b1 b2 M ((sg.take i).map Ty.mir) ((sg.take i).filter fun t => t.bar == bar) vx vy n2 f wr) ∧
          Hid (∀ d, f d = .bool ((sg.take i).any fun t => t.bar == bar && t.id == d)) ∧ Hid (Below w3_.heap.size w3_ wr) ∧ Hid (s ≤ wr.heap.size))
        (fun v57 _ => sg.length - (intOf v57).toNat)
      case atStart => exact ⟨0, 0, _, _, _, rfl, Nat.zero_le _, Nat.le_refl _, HM6.out, fun _ => rfl, HB6.out, HSe.out⟩
      case round =>
        obtain ⟨i, n2, vx, vy, f, rfl, hi, hn2, HM, HFF, HB, HSZ⟩ := hrel
        by_cases hlt : i < sg.length
        · have HBw := Lib.hid (hw3_.trans (HB.out.mono hw3_.size))
          have h := HSG.out.kept HBw.out (Nat.le_refl _)
          obtain ⟨ay, rfl, hay, _⟩ := HSG.out.at hlt
          have hay2 : (ay.add (i * 14)).block < wr.heap.size := by rw [Tp.add_block]; have := HBw.out.size; omega
          have e0 := h.head hlt (by omega)
          have e1 := h.field hlt (j := 1) (by omega) (by omega)
          have e2 := h.field hlt (j := 2) (by omega) (by omega)
          have e3 := h.field hlt (j := 3) (by omega) (by omega)
          have e4 := h.field hlt (j := 4) (by omega) (by omega)
          have e5 := h.field hlt (j := 5) (by omega) (by omega)
          have e6 := h.field hlt (j := 6) (by omega) (by omega)
          have e7 := h.field hlt (j := 7) (by omega) (by omega)
          have e8 := h.field hlt (j := 8) (by omega) (by omega)
          have e9 := h.field hlt (j := 9) (by omega) (by omega)
          have e10 := h.field hlt (j := 10) (by omega) (by omega)
          have e11 := h.field hlt (j := 11) (by omega) (by omega)
          have e12 := h.field hlt (j := 12) (by omega) (by omega)
          have e13 := h.field hlt (j := 13) (by omega) (by omega)
          obtain ⟨e, hxe⟩ : ∃ e, sg.getD i default = e := ⟨_, rfl⟩
          have hme : e ∈ sg := by rw [← hxe]; simp [List.getD, hlt]
          have hie : sg[i]? = some e := by rw [← hxe]; simp [List.getD, hlt]
          have HTK := Lib.hid (show sg.take (i + 1) = sg.take i ++ [e] by rw [List.take_add_one, hie]; rfl)
          have hbd := HBD.out e hme
          have hb_id := hbd.id
          have hb_sd := hbd.side
          have hb_dr := hbd.dir
          have hb_sz := hbd.size
          have HWF := Lib.hid (Ty.wf_big hb_id)
          simp only [Ex.sgc, hxe] at e0 e1 e2 e3 e4 e5 e6 e7 e8 e9 e10 e11 e12 e13
          clear h hxe hme hie hbd
          go_upto_region 15 with fail
          obtain ⟨w7, hw7⟩ : ∃ w7, w7 = wr.alloc (.cells #[.int .i64 e.id, .int .i64 e.role, .int .i64 e.bar, .int .i64 e.mark, .int .i64 e.kind, .int .i64 e.side, .int .i64 e.dir, .int .i64 e.level, .int .i64 e.size, .int .i64 e.wth, .int .i64 e.fn, .int .i64 e.fd, .int .i64 e.tn, .int .i64 e.td] 41) := ⟨_, rfl⟩
          rw [← hw7]
          have b7 : Below wr.heap.size wr w7 := by rw [hw7]; exact (Below.refl _ _).alloc (Nat.le_refl _) _
          obtain ⟨B, hB⟩ : ∃ B, B = wr.heap.size := ⟨_, rfl⟩
          have hCB : w7.heap[B]? = some (.cells #[.int .i64 e.id, .int .i64 e.role, .int .i64 e.bar, .int .i64 e.mark, .int .i64 e.kind, .int .i64 e.side, .int .i64 e.dir, .int .i64 e.level, .int .i64 e.size, .int .i64 e.wth, .int .i64 e.fn, .int .i64 e.fd, .int .i64 e.tn, .int .i64 e.td] 41 (0, 0)) := by rw [hw7, hB]; exact World.alloc_heap_new _ _
          rw [← hB]
          have CB7 := Lib.hid hCB
          have M7 := Lib.hid (HM.out.below b7)
          have HB7 := Lib.hid (HB.out.trans (b7.mono HB.out.size))
          have HNX := Lib.hid (show ∀ g, vx.ownBlock = some g → g ≠ B from fun g hg => by have := (HM.out.rx.lt g hg).2; omega)
          have HNY := Lib.hid (show ∀ g, vy.ownBlock = some g → g ≠ B from fun g hg => by have := (HM.out.ry.lt g hg).2; omega)
          have HSB := Lib.hid (show s ≤ B by have := HSZ.out; omega)
          have HS7 := Lib.hid (show s ≤ w7.heap.size from Nat.le_trans HSZ.out b7.size)
          have CE := Ty.Cs.of_blk (l := [.int .i64 e.id, .int .i64 e.role, .int .i64 e.bar, .int .i64 e.mark, .int .i64 e.kind, .int .i64 e.side, .int .i64 e.dir, .int .i64 e.level, .int .i64 e.size, .int .i64 e.wth, .int .i64 e.fn, .int .i64 e.fd, .int .i64 e.tn, .int .i64 e.td]) hCB
          have zq := CE.1
          have q0 := CE.2 0 _ rfl
          have q1 := CE.2 1 _ rfl
          have q2 := CE.2 2 _ rfl
          have q3 := CE.2 3 _ rfl
          have q4 := CE.2 4 _ rfl
          have q5 := CE.2 5 _ rfl
          have q6 := CE.2 6 _ rfl
          have q7 := CE.2 7 _ rfl
          have q8 := CE.2 8 _ rfl
          have q9 := CE.2 9 _ rfl
          have q10 := CE.2 10 _ rfl
          have q11 := CE.2 11 _ rfl
          have q12 := CE.2 12 _ rfl
          have q13 := CE.2 13 _ rfl
          clear hw7 b7 hB hay2 hCB CE e0 e1 e2 e3 e4 e5 e6 e7 e8 e9 e10 e11 e12 e13 HM HB HSZ HBw
          go_upto_if 64 with fail
          go_cut [12] from 64 to 73 (fun s12 wx => s12 = .pointer (some ⟨B, 0, none⟩) ∧ ∃ (vy' : Value) (n3 : Nat) (f' : Int → Value), n3 ≤ i + 1 ∧ Hid (Ty.MI (⟨wd, dp, ta, tb, tc, n, ro, ts, ps, ss, sg⟩ : Ex.Wk) (⟨aR, cR, aT, cT, aP, cP, aS, cS, some ay, cG⟩ : Ex.Wa) s b1 b2 M ((sg.take i).map Ty.mir) ((sg.take (i + 1)).filter fun t => t.bar == bar) vx vy' n3 f' wx) ∧
            Hid (∀ d, f' d = .bool ((sg.take (i + 1)).any fun t => t.bar == bar && t.id == d)) ∧ Hid (wx.heap[B]? = some (.cells #[.int .i64 e.id, .int .i64 e.role, .int .i64 e.bar, .int .i64 e.mark, .int .i64 e.kind, .int .i64 e.side, .int .i64 e.dir, .int .i64 e.level, .int .i64 e.size, .int .i64 e.wth, .int .i64 e.fn, .int .i64 e.fd, .int .i64 e.tn, .int .i64 e.td] 41 (0, 0))) ∧ Hid (Below w3_.heap.size w3_ wx) ∧ Hid (∀ g, vy'.ownBlock = some g → g ≠ B) ∧ Hid (s ≤ wx.heap.size))
          case first =>
            rcases c1 : (e.bar == bar) with _ | _
            · go_wp2_with fail
              go_meet
              case rel => exact ⟨rfl, vy, n2, f, by omega, (by show Ty.MI _ _ _ _ _ _ _ _ _ _ _ _ _; rw [HTK.out, List.filter_append]; simpa [c1] using M7.out), fun d => (by rw [HFF.out d, HTK.out, List.any_append]; simp [c1]), CB7.out, HB7.out, HNY.out, HS7.out⟩
            · have HLy : ((sg.take i).filter fun t => t.bar == bar).length ≤ 4096 := Nat.le_trans (List.length_filter_le _ _) (by simp; omega)
              have zM := M7.out.m.lt
              go_wp2_with (first
                | (at_mapUpdate; refine Kit.wpList_mapUpdate_imap _ rfl _ _ _ 54 rfl 3 4 Tryd.underlying3 Tryd.underlying54 (.bool false) M n2 f rfl M7.out.m (by unfold maxLen; omega) e.id rfl HWF.out (.bool true) rfl (.lit (.bool true)) rfl ?_
                   intro w8 hi8 hg8
                   have M8 := Lib.hid (M7.out.own hg8 hi8)
                   have hCB8 : w8.heap[B]? = some (.cells #[.int .i64 e.id, .int .i64 e.role, .int .i64 e.bar, .int .i64 e.mark, .int .i64 e.kind, .int .i64 e.side, .int .i64 e.dir, .int .i64 e.level, .int .i64 e.size, .int .i64 e.wth, .int .i64 e.fn, .int .i64 e.fd, .int .i64 e.tn, .int .i64 e.td] 41 (0, 0)) := (hg8.block B zq (fun e => by have := M7.out.low; have := HSB.out; cases e; omega)).trans CB7.out
                   have CB8 := Lib.hid hCB8
                   have HB8 := Lib.hid (HB7.out.grown hg8 HB7.out.size (fun k hk => by cases hk; exact HMG.out.1))
                   have y10 : w8.cell? ⟨b2, 10, none⟩ = some vy := (Ty.wc_cells M8.out.h2).1 10 (by omega)
                   have zy8 := M8.out.z2
                   have HS8 := Lib.hid (Nat.le_trans HS7.out hg8.size)
                   have CE8 := Ty.Cs.of_blk (l := [.int .i64 e.id, .int .i64 e.role, .int .i64 e.bar, .int .i64 e.mark, .int .i64 e.kind, .int .i64 e.side, .int .i64 e.dir, .int .i64 e.level, .int .i64 e.size, .int .i64 e.wth, .int .i64 e.fn, .int .i64 e.fd, .int .i64 e.tn, .int .i64 e.td]) hCB8
                   have zq8 := CE8.1
                   clear q0 q1 q2 q3 q4 q5 q6 q7 q8 q9 q10 q11 q12 q13
                   have q0 := CE8.2 0 _ rfl
                   have q1 := CE8.2 1 _ rfl
                   have q2 := CE8.2 2 _ rfl
                   have q3 := CE8.2 3 _ rfl
                   have q4 := CE8.2 4 _ rfl
                   have q5 := CE8.2 5 _ rfl
                   have q6 := CE8.2 6 _ rfl
                   have q7 := CE8.2 7 _ rfl
                   have q8 := CE8.2 8 _ rfl
                   have q9 := CE8.2 9 _ rfl
                   have q10 := CE8.2 10 _ rfl
                   have q11 := CE8.2 11 _ rfl
                   have q12 := CE8.2 12 _ rfl
                   have q13 := CE8.2 13 _ rfl
                   clear hi8 hg8 hCB8 CE8)
                | (at_builtin; refine Kit.wpList_append_own' _ rfl _ _ 30 rfl s 41 i0 Ty.zS 14 112 Tryd.underlying30 hI hz0 hz1 hz2 rfl (by decide) vy _ _ rfl (M8.out.ry.alloc _) ⟨w8.heap.size, 0, none⟩ 1 1 (Ty.sc e) rfl rfl (Ty.lit_cell _ _ _) (by simp [Ty.sc, Value.oneCell']) (by unfold maxLen; omega) (by omega) (by simp; have := HS8.out; omega) ?_
                   intro v' w9 hown' hgrow _ hwhere
                   obtain ⟨g', cap', rfl⟩ := ownsRow_succ hown'
                   have M9 := Lib.hid (M8.out.below ((Below.refl w8.heap.size w8).alloc (Nat.le_refl _) (.cells #[.int .i64 e.id, .int .i64 e.role, .int .i64 e.bar, .int .i64 e.mark, .int .i64 e.kind, .int .i64 e.side, .int .i64 e.dir, .int .i64 e.level, .int .i64 e.size, .int .i64 e.wth, .int .i64 e.fn, .int .i64 e.fd, .int .i64 e.tn, .int .i64 e.td] 41)))
                   have hG9 := Lib.hid hgrow
                   have hO9 := Lib.hid hown'
                   have hW9 := Lib.hid hwhere
                   obtain ⟨g5, gf⟩ := M9.out.still_y hgrow
                   have zy9 : b2 < w9.heap.size := Nat.lt_of_lt_of_le M9.out.z2 hgrow.size
                   clear hown' hgrow hwhere))
              go_meet
              case rel => exact ⟨rfl, _, n2 + 1, _, by omega, (by show Ty.MI _ _ _ _ _ _ _ _ _ _ _ _ _; rw [HTK.out, List.filter_append]; simpa [c1] using M9.out.addY hG9.out hO9.out hW9.out), fun d => (by
                  rw [HTK.out, List.any_append]
                  by_cases ed : d = e.id
                  · rw [if_pos ed, ed]; simp [c1]
                  · rw [if_neg ed, HFF.out d]; simp [Ne.symm ed]),
                (by
                  have hlow := M9.out.low
                  have hsb := HSB.out
                  refine (Below.heap_setCell _ _ _ _ (show B ≠ b2 by omega)).trans ?_
                  refine (hG9.out.block B (by simp; omega) (fun e => HNY.out B e.symm rfl)).trans ?_
                  exact (Below.heap_alloc _ _ _ zq8).trans CB8.out),
                (((HB8.out.alloc HB8.out.size _).grown hG9.out (by simp; have := HB8.out.size; omega) (fun k hk => by have := (M9.out.ry.lt k hk).1; have := HSS.out; omega)).setCell (p := ⟨b2, 10, none⟩) HMG.out.2.2 _), (fun g hg => by
                  rcases hW9.out g hg with h | h
                  · exact HNY.out g h
                  · simp at h; omega), (by show s ≤ (w9.setCell _ _).heap.size; simp [World.setCell]; have := hG9.out.size; simp at this; have := HS8.out; omega)⟩
          case rest =>
            obtain ⟨rfl, vy', n3, f', hn3, M10, HFF', CB10, HB10, HNY', HS10⟩ := hcut
            obtain ⟨W10, rfl⟩ : ∃ W10, W10 = wc := ⟨_, rfl⟩
            clear M7 CB7 HB7 HNY HS7 HFF hn2 HWF hb_id
            have CE := Ty.Cs.of_blk (l := [.int .i64 e.id, .int .i64 e.role, .int .i64 e.bar, .int .i64 e.mark, .int .i64 e.kind, .int .i64 e.side, .int .i64 e.dir, .int .i64 e.level, .int .i64 e.size, .int .i64 e.wth, .int .i64 e.fn, .int .i64 e.fd, .int .i64 e.tn, .int .i64 e.td]) CB10.out
            have fz : ∀ q, W10.frozen? ⟨B, q, none⟩ = false := fun q => by simp [World.frozen?, CB10.out]
            clear zq q0 q1 q2 q3 q4 q5 q6 q7 q8 q9 q10 q11 q12 q13
            have zq := CE.1
            have q0 := CE.2 0 _ rfl
            have q1 := CE.2 1 _ rfl
            have q2 := CE.2 2 _ rfl
            have q3 := CE.2 3 _ rfl
            have q4 := CE.2 4 _ rfl
            have q5 := CE.2 5 _ rfl
            have q6 := CE.2 6 _ rfl
            have q7 := CE.2 7 _ rfl
            have q8 := CE.2 8 _ rfl
            have q9 := CE.2 9 _ rfl
            have q10 := CE.2 10 _ rfl
            have q11 := CE.2 11 _ rfl
            have q12 := CE.2 12 _ rfl
            have q13 := CE.2 13 _ rfl
            clear CE
            go_upto_if 76 with fail
            go_cut [12] from 76 to 80 (fun s12 wx => s12 = .pointer (some ⟨B, 0, none⟩) ∧ ∃ sd : Int, Hid (sd = if e.side = 0 then 0 else 3 - e.side) ∧ Hid (wx.heap[B]? = some (.cells #[.int .i64 e.id, .int .i64 e.role, .int .i64 e.bar, .int .i64 e.mark, .int .i64 e.kind, .int .i64 sd, .int .i64 e.dir, .int .i64 e.level, .int .i64 e.size, .int .i64 e.wth, .int .i64 e.fn, .int .i64 e.fd, .int .i64 e.tn, .int .i64 e.td] 41 (0, 0))) ∧ Hid (Kit.Exc (fun k => k = B) W10 wx))
            case first =>
              rcases c2 : (e.side != 0) with _ | _
              · have c2' : e.side = 0 := by simpa using c2
                go_wp2_with fail
                go_meet
                case rel => exact ⟨rfl, e.side, (by show _ = _; rw [if_pos c2']; exact c2'), CB10.out, Kit.Exc.refl _ _⟩
              · have c2' : ¬ e.side = 0 := by simpa using c2
                have f5 := fz 5
                go_wp2_with fail
                go_meet
                case rel => exact ⟨rfl, 3 - e.side, (by show _ = _; rw [if_neg c2']), (by show _ = _; rw [heap_setCell_same _ _ _ _ _ _ CB10.out]; rfl), Kit.Exc.setCell (S := fun k => k = B) (Kit.Exc.refl _ _) (.inl rfl) _⟩
            case rest =>
              obtain ⟨rfl, sd, HSD, CB11, HX11⟩ := hcut
              obtain ⟨W11, rfl⟩ : ∃ W11, W11 = wc := ⟨_, rfl⟩
              have CE := Ty.Cs.of_blk (l := [.int .i64 e.id, .int .i64 e.role, .int .i64 e.bar, .int .i64 e.mark, .int .i64 e.kind, .int .i64 sd, .int .i64 e.dir, .int .i64 e.level, .int .i64 e.size, .int .i64 e.wth, .int .i64 e.fn, .int .i64 e.fd, .int .i64 e.tn, .int .i64 e.td]) CB11.out
              clear fz
              have fz : ∀ q, W11.frozen? ⟨B, q, none⟩ = false := fun q => by simp [World.frozen?, CB11.out]
              clear zq q0 q1 q2 q3 q4 q5 q6 q7 q8 q9 q10 q11 q12 q13
              have zq := CE.1
              have q0 := CE.2 0 _ rfl
              have q1 := CE.2 1 _ rfl
              have q2 := CE.2 2 _ rfl
              have q3 := CE.2 3 _ rfl
              have q4 := CE.2 4 _ rfl
              have q5 := CE.2 5 _ rfl
              have q6 := CE.2 6 _ rfl
              have q7 := CE.2 7 _ rfl
              have q8 := CE.2 8 _ rfl
              have q9 := CE.2 9 _ rfl
              have q10 := CE.2 10 _ rfl
              have q11 := CE.2 11 _ rfl
              have q12 := CE.2 12 _ rfl
              have q13 := CE.2 13 _ rfl
              clear CE
              go_upto_if 83 with fail
              go_cut [12] from 83 to 87 (fun s12 wx => s12 = .pointer (some ⟨B, 0, none⟩) ∧ ∃ dr : Int, Hid (dr = if 1 < e.dir then 10 - e.dir else e.dir) ∧ Hid (wx.heap[B]? = some (.cells #[.int .i64 e.id, .int .i64 e.role, .int .i64 e.bar, .int .i64 e.mark, .int .i64 e.kind, .int .i64 sd, .int .i64 dr, .int .i64 e.level, .int .i64 e.size, .int .i64 e.wth, .int .i64 e.fn, .int .i64 e.fd, .int .i64 e.tn, .int .i64 e.td] 41 (0, 0))) ∧ Hid (Kit.Exc (fun k => k = B) W11 wx))
              case first =>
                by_cases c3 : 1 < e.dir
                · have f5 := fz 6
                  go_wp2_with fail
                  go_meet
                  case rel => exact ⟨rfl, 10 - e.dir, (by show _ = _; rw [if_pos c3]), (by show _ = _; rw [heap_setCell_same _ _ _ _ _ _ CB11.out]; rfl), Kit.Exc.setCell (S := fun k => k = B) (Kit.Exc.refl _ _) (.inl rfl) _⟩
                · go_wp2_with fail
                  go_meet
                  case rel => exact ⟨rfl, e.dir, (by show _ = _; rw [if_neg (by omega)]), CB11.out, Kit.Exc.refl _ _⟩
              case rest =>
                obtain ⟨rfl, dr, HDR, CB12, HX12⟩ := hcut
                obtain ⟨W12, rfl⟩ : ∃ W12, W12 = wc := ⟨_, rfl⟩
                have CE := Ty.Cs.of_blk (l := [.int .i64 e.id, .int .i64 e.role, .int .i64 e.bar, .int .i64 e.mark, .int .i64 e.kind, .int .i64 sd, .int .i64 dr, .int .i64 e.level, .int .i64 e.size, .int .i64 e.wth, .int .i64 e.fn, .int .i64 e.fd, .int .i64 e.tn, .int .i64 e.td]) CB12.out
                clear fz
                have fz : ∀ q, W12.frozen? ⟨B, q, none⟩ = false := fun q => by simp [World.frozen?, CB12.out]
                clear zq q0 q1 q2 q3 q4 q5 q6 q7 q8 q9 q10 q11 q12 q13
                have zq := CE.1
                have q0 := CE.2 0 _ rfl
                have q1 := CE.2 1 _ rfl
                have q2 := CE.2 2 _ rfl
                have q3 := CE.2 3 _ rfl
                have q4 := CE.2 4 _ rfl
                have q5 := CE.2 5 _ rfl
                have q6 := CE.2 6 _ rfl
                have q7 := CE.2 7 _ rfl
                have q8 := CE.2 8 _ rfl
                have q9 := CE.2 9 _ rfl
                have q10 := CE.2 10 _ rfl
                have q11 := CE.2 11 _ rfl
                have q12 := CE.2 12 _ rfl
                have q13 := CE.2 13 _ rfl
                clear CE
                go_upto_if 90 with fail
                go_cut [12] from 90 to 94 (fun s12 wx => s12 = .pointer (some ⟨B, 0, none⟩) ∧ ∃ sz : Int, Hid (sz = if e.kind = 6 then 8 - e.size else e.size) ∧ Hid (wx.heap[B]? = some (.cells #[.int .i64 e.id, .int .i64 e.role, .int .i64 e.bar, .int .i64 e.mark, .int .i64 e.kind, .int .i64 sd, .int .i64 dr, .int .i64 e.level, .int .i64 sz, .int .i64 e.wth, .int .i64 e.fn, .int .i64 e.fd, .int .i64 e.tn, .int .i64 e.td] 41 (0, 0))) ∧ Hid (Kit.Exc (fun k => k = B) W12 wx))
                case first =>
                  rcases c4 : (e.kind == 6) with _ | _
                  · have c4' : ¬ e.kind = 6 := by simpa using c4
                    go_wp2_with fail
                    go_meet
                    case rel => exact ⟨rfl, e.size, (by show _ = _; rw [if_neg c4']), CB12.out, Kit.Exc.refl _ _⟩
                  · have c4' : e.kind = 6 := by simpa using c4
                    have f5 := fz 8
                    go_wp2_with fail
                    go_meet
                    case rel => exact ⟨rfl, 8 - e.size, (by show _ = _; rw [if_pos c4']), (by show _ = _; rw [heap_setCell_same _ _ _ _ _ _ CB12.out]; rfl), Kit.Exc.setCell (S := fun k => k = B) (Kit.Exc.refl _ _) (.inl rfl) _⟩
                case rest =>
                  obtain ⟨rfl, sz, HSZ', CB13, HX13⟩ := hcut
                  obtain ⟨W13, rfl⟩ : ∃ W13, W13 = wc := ⟨_, rfl⟩
                  have HXX := Lib.hid ((HX11.out.trans HX12.out).trans HX13.out)
                  have M13 := Lib.hid (M10.out.exc HXX.out (by have := M10.out.low; have := HSB.out; omega) (by have := M10.out.low; have := HSB.out; omega) (by have := M10.out.low; have := HSB.out; omega) (fun g hg => HNX.out g hg) (fun g hg => HNY'.out g hg))
                  have HB13 := Lib.hid (HB10.out.trans (HXX.out.below HB10.out.size (fun k hk => by have := HSB.out; have := HSS.out; omega)))
                  have HS13 := Lib.hid (Nat.le_trans HS10.out HXX.out.size)
                  have HEM := Lib.hid (show Ty.sc (Ty.mir e) = [.int .i64 e.id, .int .i64 e.role, .int .i64 e.bar, .int .i64 e.mark, .int .i64 e.kind, .int .i64 sd, .int .i64 dr, .int .i64 e.level, .int .i64 sz, .int .i64 e.wth, .int .i64 e.fn, .int .i64 e.fd, .int .i64 e.tn, .int .i64 e.td] by rw [HSD.out, HDR.out, HSZ'.out]; rfl)
                  have CE := Ty.Cs.of_blk (l := [.int .i64 e.id, .int .i64 e.role, .int .i64 e.bar, .int .i64 e.mark, .int .i64 e.kind, .int .i64 sd, .int .i64 dr, .int .i64 e.level, .int .i64 sz, .int .i64 e.wth, .int .i64 e.fn, .int .i64 e.fd, .int .i64 e.tn, .int .i64 e.td]) CB13.out
                  clear fz zq q0 q1 q2 q3 q4 q5 q6 q7 q8 q9 q10 q11 q12 q13
                  have zq := CE.1
                  have q0 := CE.2 0 _ rfl
                  have q1 := CE.2 1 _ rfl
                  have q2 := CE.2 2 _ rfl
                  have q3 := CE.2 3 _ rfl
                  have q4 := CE.2 4 _ rfl
                  have q5 := CE.2 5 _ rfl
                  have q6 := CE.2 6 _ rfl
                  have q7 := CE.2 7 _ rfl
                  have q8 := CE.2 8 _ rfl
                  have q9 := CE.2 9 _ rfl
                  have q10 := CE.2 10 _ rfl
                  have q11 := CE.2 11 _ rfl
                  have q12 := CE.2 12 _ rfl
                  have q13 := CE.2 13 _ rfl
                  have x10 : W13.cell? ⟨b1, 10, none⟩ = some vx := (Ty.wc_cells M13.out.h1).1 10 (by omega)
                  have zx13 := M13.out.z1
                  have hLx : ((sg.take i).map Ty.mir).length = i := by simp; omega
                  have HLx := Lib.hid hLx
                  have HRX := Lib.hid (show W13.ownsRow s 41 14 vx i (Ty.flatS ((sg.take i).map Ty.mir)) by have := M13.out.rx; rwa [hLx] at this)
                  clear hLx
                  clear CE CB10 CB11 CB12 HX11 HX12 HX13 HXX HSD HDR HSZ' M10 HB10 HS10 hb_sd hb_dr hb_sz
                  go_wp2_with (at_builtin; refine Kit.wpList_append_own' _ rfl _ _ 30 rfl s 41 i0 Ty.zS 14 112 Tryd.underlying30 hI hz0 hz1 hz2 rfl (by decide) vx _ _ rfl (HRX.out.alloc _) ⟨W13.heap.size, 0, none⟩ 1 1 [.int .i64 e.id, .int .i64 e.role, .int .i64 e.bar, .int .i64 e.mark, .int .i64 e.kind, .int .i64 sd, .int .i64 dr, .int .i64 e.level, .int .i64 sz, .int .i64 e.wth, .int .i64 e.fn, .int .i64 e.fd, .int .i64 e.tn, .int .i64 e.td] rfl rfl (Ty.lit_cell _ _ _) (by simp [Value.oneCell']) (by unfold maxLen; omega) (by omega) (by simp; have := HS13.out; omega) ?_; intro v' w9 hown' hgrow _ hwhere; obtain ⟨g', cap', rfl⟩ := ownsRow_succ hown'; have M9 := Lib.hid (M13.out.below ((Below.refl W13.heap.size W13).alloc (Nat.le_refl _) (.cells #[.int .i64 e.id, .int .i64 e.role, .int .i64 e.bar, .int .i64 e.mark, .int .i64 e.kind, .int .i64 sd, .int .i64 dr, .int .i64 e.level, .int .i64 sz, .int .i64 e.wth, .int .i64 e.fn, .int .i64 e.fd, .int .i64 e.tn, .int .i64 e.td] 41))); rw [← HEM.out] at hown'; have hG9 := Lib.hid hgrow; have hO9 := Lib.hid (show w9.ownsRow s 41 14 (.slice (some ⟨g', 0, none⟩) (i + 1) cap') (((sg.take i).map Ty.mir).length + 1) (Ty.flatS ((sg.take i).map Ty.mir) ++ Ty.sc (Ty.mir e)) by rw [HLx.out]; exact hown'); have hW9 := Lib.hid hwhere; obtain ⟨g5, gf⟩ := M9.out.still_x hgrow; have zx9 : b1 < w9.heap.size := Nat.lt_of_lt_of_le M9.out.z1 hgrow.size; clear hown' hgrow hwhere)
                  go_roundw
                  case rel => exact ⟨i + 1, n3, _, vy', f', by go_num, by omega, by omega, (by show Ty.MI _ _ _ _ _ _ _ _ _ _ _ _ _; rw [show (sg.take (i + 1)).map Ty.mir = (sg.take i).map Ty.mir ++ [Ty.mir e] by rw [HTK.out, List.map_append]; rfl]; exact M9.out.addX hG9.out hO9.out hW9.out), HFF'.out,
                    (((HB13.out.alloc HB13.out.size _).grown hG9.out (by simp; have := HB13.out.size; omega) (fun k hk => by have := (M9.out.rx.lt k hk).1; have := HSS.out; omega)).setCell (p := ⟨b1, 10, none⟩) HMG.out.2.1 _), (by show s ≤ (w9.setCell _ _).heap.size; simp [World.setCell]; have := hG9.out.size; simp at this; have := HS13.out; omega)⟩
                  case measure => simp [intOf]; omega
        · obtain rfl : i = sg.length := by omega
          rw [List.take_length] at HM HFF
          have hLX : (sg.map Ty.mir).length ≤ 4096 := by simp; omega
          have hLY : (sg.filter fun t => t.bar == bar).length ≤ 4096 := Nat.le_trans (List.length_filter_le _ _) hln
          have HBw := Lib.hid (hw3_.trans (HB.out.mono hw3_.size))
          have HATr := Lib.hid (HAT.out.kept HBw.out (Nat.le_refl _))
          have HLDr := Lib.hid (HLD.out.kept HBw.out (Nat.le_refl _))
          obtain ⟨a1, c1, rfl, HA1⟩ := Ty.at_own HATr.out HM.out.rx hLX
          obtain ⟨a2, c2, rfl, HA2⟩ := Ty.at_own HATr.out HM.out.ry hLY
          have HAX := Lib.hid HA1
          have HAY := Lib.hid HA2
          obtain ⟨ly, hly⟩ : ∃ ly, ly = l.filter fun y => sg.any fun t => t.bar == bar && t.id == y.2.1 := ⟨_, rfl⟩
          have hlyl : ly.length ≤ l.length := by rw [hly]; exact List.length_filter_le _ _
          have hfx : ∀ W, Below wr.heap.size wr W → Calls Tryd.prog 14 #[Ex.wv wd dp ta tb tc aR ro.length cR n aT ts.length cT aP ps.length cP aS ss.length cS a1 sg.length c1] W fun e w' => ∃ a c, e = .returned (.tuple #[.slice a l.length c, .int .i64 0]) ∧ Tp.Sl w' a l.length 3 (Ty.f3c l) ∧ Below W.heap.size W w' := fun W hb => by
            have h := Ty.faults_at (HAX.out.kept hb (Nat.le_refl _)) (HLDr.out.kept hb (Nat.le_refl _)) HCX.out
            dsimp only at h
            rw [Ty.refL_mir HRT.out, ← HL0.out] at h
            unfold Ex.workV at h
            dsimp only at h
            rw [List.length_map] at h
            exact h
          have hfy : ∀ W, Below wr.heap.size wr W → Calls Tryd.prog 14 #[Ex.workV (⟨wd, dp, ta, tb, tc, n, ro, ts, ps, ss, sg.filter fun t => t.bar == bar⟩ : Ex.Wk) (⟨aR, cR, aT, cT, aP, cP, aS, cS, a2, c2⟩ : Ex.Wa)] W fun e w' => ∃ a c, e = .returned (.tuple #[.slice a ly.length c, .int .i64 0]) ∧ Tp.Sl w' a ly.length 3 (Ty.f3c ly) ∧ Below W.heap.size W w' := fun W hb => by
            have h := Ty.faults_at (HAY.out.kept hb (Nat.le_refl _)) (HLDr.out.kept hb (Nat.le_refl _)) (HCY.out bar)
            dsimp only at h
            rw [Ty.refL_bar bar (fun d => sg.any fun t => t.bar == bar && t.id == d) (Ty.own_bar bar HIC.out), ← HL0.out, ← hly] at h
            exact h
          have HFX := Lib.hid hfx
          have HFY := Lib.hid hfy
          have HSA := Lib.hid (fun (aA aB : Option Addr) (m : List Ty.F3) (cA cB : Nat) (W : World) (hm : m.length ≤ 100000000) (sA : Tp.Sl W aA m.length 3 (Ty.f3c m)) (sB : Tp.Sl W aB m.length 3 (Ty.f3c m)) =>
            show Calls Tryd.prog 17 #[.slice aA m.length cA, .slice aB m.length cB] W fun e w' => e = .returned (.bool true) ∧ Below W.heap.size W w' by
              have h := ty_same aA m cA aB m cB W (by omega) (by omega) sA sB
              rwa [decide_eq_true (rfl : m = m)] at h)
          have HLY := Lib.hid hly
          have SFr := Lib.hid (show Tp.Sl wr aF l.length 3 (Ty.f3c l) from SF3.out.kept HB.out (Nat.le_refl _))
          clear hfx hfy HA1 HA2 hly HAX HAY
          obtain ⟨kx, fx⟩ := Ty.wc_cells HM.out.h1
          have x0 := kx 0 (by omega)
          have x1 := kx 1 (by omega)
          have x2 := kx 2 (by omega)
          have x3 := kx 3 (by omega)
          have x4 := kx 4 (by omega)
          have x5 := kx 5 (by omega)
          have x6 := kx 6 (by omega)
          have x7 := kx 7 (by omega)
          have x8 := kx 8 (by omega)
          have x9 := kx 9 (by omega)
          have x10 := kx 10 (by omega)
          have zx := HM.out.z1
          simp only [Ty.wc] at x0 x1 x2 x3 x4 x5 x6 x7 x8 x9 x10
          clear kx fx
          go_wp2_with fail
          refine (HFX.out _ (Below.refl _ _)).mono ?_
          rintro _ w20 ⟨aM, cM, rfl, hsM, hb20⟩
          have SM20 := Lib.hid hsM
          have HB20 := Lib.hid hb20
          have SF20 := Lib.hid (SFr.out.kept hb20 (Nat.le_refl _))
          have M20 := Lib.hid (HM.out.below hb20)
          clear hsM hb20 x0 x1 x2 x3 x4 x5 x6 x7 x8 x9 x10 zx HFX SFr
          obtain ⟨ky, fy⟩ := Ty.wc_cells M20.out.h2
          have y0 := ky 0 (by omega)
          have y1 := ky 1 (by omega)
          have y2 := ky 2 (by omega)
          have y3 := ky 3 (by omega)
          have y4 := ky 4 (by omega)
          have y5 := ky 5 (by omega)
          have y6 := ky 6 (by omega)
          have y7 := ky 7 (by omega)
          have y8 := ky 8 (by omega)
          have y9 := ky 9 (by omega)
          have y10 := ky 10 (by omega)
          have zy := M20.out.z2
          simp only [Ty.wc] at y0 y1 y2 y3 y4 y5 y6 y7 y8 y9 y10
          clear ky fy
          go_wp2_with fail
          refine (HFY.out _ HB20.out).mono ?_
          rintro _ w21 ⟨aY, cY, rfl, hsY, hb21⟩
          have SY21 := Lib.hid hsY
          have HB21 := Lib.hid (HB20.out.trans (hb21.mono HB20.out.size))
          have SF21 := Lib.hid (SF20.out.kept hb21 (Nat.le_refl _))
          have SM21 := Lib.hid (SM20.out.kept hb21 (Nat.le_refl _))
          have M21 := Lib.hid (M20.out.below hb21)
          clear hsY hb21 y0 y1 y2 y3 y4 y5 y6 y7 y8 y9 y10 zy HFY SF20 SM20 M20 HB20
          go_wp2_with fail
          refine (HSA.out _ _ l _ _ _ hll SF21.out SM21.out).mono ?_
          rintro _ w22 ⟨rfl, hb22⟩
          have SY22 := Lib.hid (SY21.out.kept hb22 (Nat.le_refl _))
          have SF22 := Lib.hid (SF21.out.kept hb22 (Nat.le_refl _))
          have M22 := Lib.hid (M21.out.m.kept (hb22.block M M21.out.m.lt))
          have HB22 := Lib.hid (HB21.out.trans (hb22.mono HB21.out.size))
          clear hb22 SY21 SF21 SM21 HB21 M21 HM
          obtain ⟨j0, hJ, hy0, hy1, hy2⟩ := info_parts Ty.infoF
          go_wp2_with fail
          go_loopw [17, 126] (fun v17 v126 wx => ∃ (i : Nat), v126 = .int .i64 i ∧ i ≤ l.length ∧ Hid (wx.ownsRow w22.heap.size 56 3 v17 ((l.take i).filter fun y => sg.any fun t => t.bar == bar && t.id == y.2.1).length (Ty.flatF ((l.take i).filter fun y => sg.any fun t => t.bar == bar && t.id == y.2.1))) ∧ Hid (Below w22.heap.size w22 wx))
            (fun _ v126 _ => l.length - (intOf v126).toNat)
          case atStart => exact ⟨0, rfl, Nat.zero_le _, World.ownsRow_nil _ _ _ _, Below.refl _ _⟩
          case round =>
            obtain ⟨i, rfl, hi, HO, HBx⟩ := hrel
            by_cases hlt : i < l.length
            · have h := SF22.out.kept HBx.out (Nat.le_refl _)
              obtain ⟨ad, rfl, had, _⟩ := SF22.out.at hlt
              have f0 := h.head hlt (by omega)
              have f1 := h.field hlt (j := 1) (by omega) (by omega)
              have f2 := h.field hlt (j := 2) (by omega) (by omega)
              obtain ⟨x, hx⟩ : ∃ x, l.getD i (0, 0, 0) = x := ⟨_, rfl⟩
              have hxi : l[i]? = some x := by rw [← hx]; simp [List.getD, hlt]
              have hwx : Kit.wfI x.2.1 := by
                have hxl : x ∈ Ty.refL sg := by rw [← HL0.out]; exact List.mem_of_getElem? hxi
                obtain ⟨t, ht, e⟩ := Ty.ref_id HIC.out hxl
                rw [e]; exact Ty.wf_big (HBD.out t ht).id
              have HTK := Lib.hid (show l.take (i + 1) = l.take i ++ [x] by rw [List.take_add_one, hxi]; rfl)
              simp only [Ty.f3c, hx] at f0 f1 f2
              have hadr : (ad.add (i * 3)).block < wr.heap.size := by rw [Tp.add_block]; have := HBx.out.size; omega
              obtain ⟨w23, hw23⟩ : ∃ w23, w23 = wr.alloc (.cells #[.int .i64 x.1, .int .i64 x.2.1, .int .i64 x.2.2] 56) := ⟨_, rfl⟩
              have hl2 := (M22.out.kept (HBx.out.block M M22.out.lt)).kept (w' := w23) (by rw [hw23]; exact Below.heap_alloc _ _ _ (Nat.lt_of_lt_of_le M22.out.lt HBx.out.size))
              have lk := hl2.look Tryd.underlying3 Tryd.underlying54 (by kernel_rfl) x.2.1 hwx
              rw [HFF.out, hw23] at lk
              clear hl2 hw23 w23 h hx hxi hwx
              have HLl : ((l.take i).filter fun y => sg.any fun t => t.bar == bar && t.id == y.2.1).length ≤ 100000000 := Nat.le_trans (List.length_filter_le _ _) (by simp; omega)
              rcases o : (sg.any fun t => t.bar == bar && t.id == x.2.1) with _ | _
              · rw [o] at lk
                go_wp2
                go_roundw
                case rel => exact ⟨i + 1, by go_num, by omega, (by show World.ownsRow _ _ _ _ _ _ _; rw [HTK.out, List.filter_append]; simpa [o] using HO.out.alloc _), HBx.out.alloc HBx.out.size _⟩
                case measure => simp [intOf]; omega
              · rw [o] at lk
                go_wp2_with (at_builtin; refine Kit.wpList_append_own' _ rfl _ _ 47 rfl w22.heap.size 56 j0 (.agg #[.int .i64 0, .int .i64 0, .int .i64 0]) 3 24 Tryd.underlying47 hJ hy0 hy1 hy2 rfl (by decide) _ _ _ rfl ((HO.out.alloc _).alloc _) ⟨wr.heap.size + 1, 0, none⟩ 1 1 (Ty.fs x) rfl rfl (fun j u hu => Ty.lit_cell' _ _ _ (by simp) j u hu) (by simp [Value.oneCell']) (by unfold maxLen; omega) (by omega) (by simp; have := HBx.out.size; omega) ?_; intro v' w9 hown' hgrow _ hwhere; obtain ⟨g', cap', rfl⟩ := ownsRow_succ hown'; have hG9 := Lib.hid hgrow; have hO9 := Lib.hid hown'; clear hown' hgrow hwhere)
                go_roundw
                case rel => exact ⟨i + 1, by go_num, by omega, (by show World.ownsRow _ _ _ _ _ _ _; rw [HTK.out, List.filter_append]; simpa [o, Ty.flatF] using hO9.out), ((HBx.out.alloc HBx.out.size _).alloc (by simp; have := HBx.out.size; omega) _).grown hG9.out (by simp; have := HBx.out.size; omega) (fun k hk => (HO.out.lt k hk).1)⟩
                case measure => simp [intOf]; omega
            · obtain rfl : i = l.length := by omega
              rw [List.take_length, ← HLY.out] at HO
              have SYx := Lib.hid (SY22.out.kept HBx.out (Nat.le_refl _))
              obtain ⟨aL, cL, rfl, hsL⟩ := Ty.own_fl HO.out
              have SL := Lib.hid hsL
              have hyl : ly.length ≤ 100000000 := by omega
              have HBF := Lib.hid (HBw.out.trans ((HB22.out.trans (HBx.out.mono HB22.out.size)).mono HBw.out.size))
              clear hsL
              go_wp2_with fail
              refine (HSA.out _ _ ly _ _ _ hyl SL.out SYx.out).mono ?_
              rintro _ w30 ⟨rfl, hb30⟩
              have HB30 := Lib.hid (HBF.out.trans (hb30.mono HBF.out.size))
              clear hb30
              go_wp2
              go_ret
              exact ⟨rfl, HB30.out⟩
  · go_wp2
    go_ret
    exact ⟨rfl, by (repeat' first | (with_reducible first | exact Below.refl _ _ | assumption | refine Kit.below_drewN ?_ _ | refine Below.drew ?_ | refine Below.alloc ?_ ?_ _ | refine Below.setCell ?_ ?_ _ | exact Nat.le_refl _) | omega | (simp; omega) | (simp; done) | (apply Below.size; assumption))⟩
end Go.Proofs.YtggfeblfhabmkaaDoor
