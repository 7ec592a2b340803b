/- Walks: the laws of layer 20: TypesLift. -/
import Derived.Test.YtggfeblfhabmkaaDoorTyT
import Derived.Test.YtggfeblfhabmkaaDoorTyU
import Derived.Test.YtggfeblfhabmkaaDoorTyB
import Derived.Deep.RegionHeld
import Derived.Deep.CutRange
namespace Go.Proofs.YtggfeblfhabmkaaDoor
set_option linter.unusedVariables false
set_option linter.unusedSimpArgs false
open Go.RowKit Go.Shelf

theorem Ty.rK_len (k : Int) (all : List Ex.Sg) : ∀ l : List Ex.Sg, (Ty.rK k all l).length ≤ (l.length + 1) * l.length
  | [] => by simp [Ty.rK]
  | a :: l => by
    have h1 := Ty.rK_len k all l
    have h2 : (Ty.selfK k all a).length ≤ 1 := by unfold Ty.selfK; split <;> simp
    have h3 : (Ty.rowK k a l).length ≤ l.length := by simp only [Ty.rowK, List.length_map]; exact List.length_filter_le _ _
    simp only [Ty.rK, List.length_append, List.length_cons]
    rw [show (l.length + 1 + 1) * (l.length + 1) = (l.length + 1) * l.length + (l.length + 1) + (l.length + 1) by rw [Nat.succ_mul, Nat.mul_succ]]
    omega
theorem Ty.refL_len (l : List Ex.Sg) (h : l.length ≤ 4096) : (Ty.refL l).length ≤ 100000000 := by
  have h1 := Ty.rK_len 1 l l
  have h2 := Ty.rK_len 2 l l
  have h3 := Ty.rK_len 3 l l
  have h4 := Ty.rK_len 4 l l
  have h5 : (l.length + 1) * l.length ≤ 4097 * 4096 := Nat.mul_le_mul (by omega) h
  simp only [Ty.refL, List.length_append]
  omega
def Ty.New (N b : Nat) (w : World) : Prop := N ≤ b ∧ w.heap[b]? = some (.cells (Ty.scA default) 41 (0, 0))
theorem Ty.wrapN {k : Nat} (hk : k < 65536) : IntKind.i64.wrap (k : Int) = k := by
  simp only [IntKind.wrap]
  have h1 : (k : Int) < 65536 := by omega
  have h0 : (0 : Int) ≤ k := by omega
  generalize (k : Int) = z at *
  first | omega | (simp [IntKind.bits, IntKind.signed]; omega) | (unfold IntKind.bits; simp; omega)
set_option maxRecDepth 100000 in
set_option maxHeartbeats 2000000 in
theorem lw_lift_1 (x : Ex.Wk) (p : Ex.Wa) (k : Nat) (w : World) (hk : k < 65536) (ha : Ex.At w x p) (hl : Ex.Laid w) :
    Calls Tryd.prog 5 #[Ex.workV x p, .int .u16 k] w fun e w' => e = .returned (.bool true) ∧ Below w.heap.size w w' := by
  have hs : ∀ W, Below w.heap.size w W → Calls Tryd.prog 8 #[] W fun e w' => e = .returned (.bool true) ∧ Below W.heap.size W w' := fun W hb => lw_sane W (hl.kept hb (Nat.le_refl _))
  have hf : ∀ W, Below w.heap.size w W → Calls Tryd.prog 14 #[Ex.workV x p] W fun e w' => ∃ a c, e = .returned (.tuple #[.slice a (Ty.lst x).length c, .int .i64 (Ex.chk x)]) ∧ Tp.Sl w' a (Ty.lst x).length 3 (Ty.f3c (Ty.lst x)) ∧ Below W.heap.size W w' := fun W hb => by
    refine (ty_faults x p W (ha.kept hb (Nat.le_refl _)) (hl.kept hb (Nat.le_refl _))).mono ?_
    rintro e w' ⟨v, rfl, ho, hb⟩
    obtain ⟨a, c, rfl, hs⟩ := Ty.own_fl ho
    exact ⟨a, c, rfl, hs, hb⟩
  have hw : ∀ W, Calls Tryd.prog 9 #[Ex.workV x p] W fun e w' => Ty.IsB e ∧ Below W.heap.size W w' := fun W => lw_few x p W
  have hc : ∀ W, Below w.heap.size w W → Ex.Chk x p W (Ex.chk x) := fun W hb => ex_check x p W (ha.kept hb (Nat.le_refl _)) (hl.kept hb (Nat.le_refl _))
  have HSG := Lib.hid ha.sg
  have hpl : Ex.chk x = 0 → Ty.lst x = Ty.refL x.sg ∧ (Ty.lst x).length ≤ 100000000 ∧ Ty.Inc x.sg ∧ ∀ s ∈ x.sg, Ty.Rt s x.ro.length x.n := fun h => by
    obtain ⟨_, h2, _, h4, h5⟩ := Ty.of_chk h
    have e : Ty.lst x = Ty.refL x.sg := by rw [Ty.lst, if_pos h]
    exact ⟨e, by rw [e]; exact Ty.refL_len _ h2, h4, h5⟩
  have HPL := Lib.hid hpl
  have HS := Lib.hid hs
  have HF := Lib.hid hf
  have HW := Lib.hid hw
  have HC := Lib.hid hc
  have lsg := ha.lsg
  have lro := ha.lro
  clear hs hf hw hc ha hl hpl
  generalize Ty.lst x = l at *
  unfold Ex.Chk at HC
  generalize Ex.chk x = r at *
  obtain ⟨wd, dp, ta, tb, tc, n, ro, ts, ps, ss, sg⟩ := x
  obtain ⟨aR, cR, aT, cT, aP, cP, aS, cS, aG, cG⟩ := p
  dsimp only at HPL HSG lsg lro
  go_enter Tryd.func5, Tryd.ntmps5
  skip
  (go_wp2_with (fail); refine (HS.out _ (by (repeat' first | (with_reducible first | exact Below.refl _ _ | assumption | refine Kit.below_drewN ?_ _ | refine Below.drew ?_ | refine Below.alloc ?_ ?_ _ | refine Below.setCell ?_ ?_ _ | exact Nat.le_refl _) | omega | (simp; omega) | (simp; done) | (apply Below.size; assumption)))).mono ?_; rintro e w1_ ⟨rfl, hb1_⟩; have hp1_ : Below w.heap.size w w1_ := Below.trans (by (repeat' first | (with_reducible first | exact Below.refl _ _ | assumption | refine Kit.below_drewN ?_ _ | refine Below.drew ?_ | refine Below.alloc ?_ ?_ _ | refine Below.setCell ?_ ?_ _ | exact Nat.le_refl _) | omega | (simp; omega) | (simp; done) | (apply Below.size; assumption))) (hb1_.mono (by first | assumption | (simp; done) | (simp; omega) | omega)); have hw1_ : Below w.heap.size w w1_ := hp1_; obtain ⟨hc1_, hf1_⟩ := Kit.bcell hb1_; have z1_w : w.heap.size < w1_.heap.size := (by have := hb1_.size; first | omega | (simp at this; omega)); obtain ⟨g1_w_0, g1_w_1, g1_w_2, g1_w_3, g1_w_4, g1_w_5, g1_w_6, g1_w_7, g1_w_8, g1_w_9, g1_w_10⟩ : w1_.cell? ⟨w.heap.size, 0, none⟩ = some (.int .i64 wd) ∧ w1_.cell? ⟨w.heap.size, 1, none⟩ = some (.int .i64 dp) ∧ w1_.cell? ⟨w.heap.size, 2, none⟩ = some (.int .i64 ta) ∧ w1_.cell? ⟨w.heap.size, 3, none⟩ = some (.int .i64 tb) ∧ w1_.cell? ⟨w.heap.size, 4, none⟩ = some (.int .i64 tc) ∧ w1_.cell? ⟨w.heap.size, 5, none⟩ = some (.slice aR ro.length cR) ∧ w1_.cell? ⟨w.heap.size, 6, none⟩ = some (.int .i64 n) ∧ w1_.cell? ⟨w.heap.size, 7, none⟩ = some (.slice aT ts.length cT) ∧ w1_.cell? ⟨w.heap.size, 8, none⟩ = some (.slice aP ps.length cP) ∧ w1_.cell? ⟨w.heap.size, 9, none⟩ = some (.slice aS ss.length cS) ∧ w1_.cell? ⟨w.heap.size, 10, none⟩ = some (.slice aG sg.length cG) := (by refine ⟨?_, ?_, ?_, ?_, ?_, ?_, ?_, ?_, ?_, ?_, ?_⟩ <;> (rw [hc1_ _ _ (by first | assumption | (simp; done) | (simp; omega) | omega)]; first | assumption | (simp [go_sem]; done) | (simp [go_sem, *]; done))); clear hc1_ hf1_; clear hb1_ hp1_)
  (go_wp2_with (fail); refine (HF.out _ (by (repeat' first | (with_reducible first | exact Below.refl _ _ | assumption | refine Kit.below_drewN ?_ _ | refine Below.drew ?_ | refine Below.alloc ?_ ?_ _ | refine Below.setCell ?_ ?_ _ | exact Nat.le_refl _) | omega | (simp; omega) | (simp; done) | (apply Below.size; assumption)))).mono ?_; rintro e w2_ ⟨aF, cF, rfl, hsF, hb2_⟩; have hp2_ : Below w1_.heap.size w1_ w2_ := Below.trans (by (repeat' first | (with_reducible first | exact Below.refl _ _ | assumption | refine Kit.below_drewN ?_ _ | refine Below.drew ?_ | refine Below.alloc ?_ ?_ _ | refine Below.setCell ?_ ?_ _ | exact Nat.le_refl _) | omega | (simp; omega) | (simp; done) | (apply Below.size; assumption))) (hb2_.mono (by first | assumption | (simp; done) | (simp; omega) | omega)); have hw2_ : Below w.heap.size w w2_ := hw1_.trans (hp2_.mono hw1_.size); have z2_w : w.heap.size < w2_.heap.size := Nat.lt_of_lt_of_le z1_w hp2_.size; have g2_w_0 := Kit.ck hp2_ g1_w_0 z1_w; have g2_w_1 := Kit.ck hp2_ g1_w_1 z1_w; have g2_w_2 := Kit.ck hp2_ g1_w_2 z1_w; have g2_w_3 := Kit.ck hp2_ g1_w_3 z1_w; have g2_w_4 := Kit.ck hp2_ g1_w_4 z1_w; have g2_w_5 := Kit.ck hp2_ g1_w_5 z1_w; have g2_w_6 := Kit.ck hp2_ g1_w_6 z1_w; have g2_w_7 := Kit.ck hp2_ g1_w_7 z1_w; have g2_w_8 := Kit.ck hp2_ g1_w_8 z1_w; have g2_w_9 := Kit.ck hp2_ g1_w_9 z1_w; have g2_w_10 := Kit.ck hp2_ g1_w_10 z1_w; clear z1_w g1_w_0 g1_w_1 g1_w_2 g1_w_3 g1_w_4 g1_w_5 g1_w_6 g1_w_7 g1_w_8 g1_w_9 g1_w_10 hw1_ hb2_ hp2_)
  have SF := Lib.hid hsF
  clear hsF
  (go_wp2_with (fail); refine (HW.out _).mono ?_; rintro e w3_ ⟨⟨b, rfl⟩, hb3_⟩; have hp3_ : Below w2_.heap.size w2_ w3_ := Below.trans (by (repeat' first | (with_reducible first | exact Below.refl _ _ | assumption | refine Kit.below_drewN ?_ _ | refine Below.drew ?_ | refine Below.alloc ?_ ?_ _ | refine Below.setCell ?_ ?_ _ | exact Nat.le_refl _) | omega | (simp; omega) | (simp; done) | (apply Below.size; assumption))) (hb3_.mono (by first | assumption | (simp; done) | (simp; omega) | omega)); have hw3_ : Below w.heap.size w w3_ := hw2_.trans (hp3_.mono hw2_.size); have z3_w : w.heap.size < w3_.heap.size := Nat.lt_of_lt_of_le z2_w hp3_.size; have g3_w_0 := Kit.ck hp3_ g2_w_0 z2_w; have g3_w_1 := Kit.ck hp3_ g2_w_1 z2_w; have g3_w_2 := Kit.ck hp3_ g2_w_2 z2_w; have g3_w_3 := Kit.ck hp3_ g2_w_3 z2_w; have g3_w_4 := Kit.ck hp3_ g2_w_4 z2_w; have g3_w_5 := Kit.ck hp3_ g2_w_5 z2_w; have g3_w_6 := Kit.ck hp3_ g2_w_6 z2_w; have g3_w_7 := Kit.ck hp3_ g2_w_7 z2_w; have g3_w_8 := Kit.ck hp3_ g2_w_8 z2_w; have g3_w_9 := Kit.ck hp3_ g2_w_9 z2_w; have g3_w_10 := Kit.ck hp3_ g2_w_10 z2_w; have SF3 := Lib.hid (SF.out.kept hp3_ (Nat.le_refl _)); clear z2_w g2_w_0 g2_w_1 g2_w_2 g2_w_3 g2_w_4 g2_w_5 g2_w_6 g2_w_7 g2_w_8 g2_w_9 g2_w_10 hw2_ hb3_ hp3_)
  rcases b with _ | _
  · go_wp2
    go_ret
    exact ⟨rfl, by (repeat' first | (with_reducible first | exact Below.refl _ _ | assumption | refine Kit.below_drewN ?_ _ | refine Below.drew ?_ | refine Below.alloc ?_ ?_ _ | refine Below.setCell ?_ ?_ _ | exact Nat.le_refl _) | omega | (simp; omega) | (simp; done) | (apply Below.size; assumption))⟩
  rcases e0 : ((sg.length : Int) == 0) with _ | _
  · rcases er : (r != 0) with _ | _
    · obtain rfl : r = 0 := by simpa using er
      obtain ⟨hl0, hll, hinc, hrt⟩ := HPL.out rfl
      have HL0 := Lib.hid hl0
      clear hl0
      (go_wp2_with (fail); refine (HC.out _ (by (repeat' first | (with_reducible first | exact Below.refl _ _ | assumption | refine Kit.below_drewN ?_ _ | refine Below.drew ?_ | refine Below.alloc ?_ ?_ _ | refine Below.setCell ?_ ?_ _ | exact Nat.le_refl _) | omega | (simp; omega) | (simp; done) | (apply Below.size; assumption)))).mono ?_; rintro e w4_ ⟨rfl, hb4_⟩; have hp4_ : Below w3_.heap.size w3_ w4_ := Below.trans (by (repeat' first | (with_reducible first | exact Below.refl _ _ | assumption | refine Kit.below_drewN ?_ _ | refine Below.drew ?_ | refine Below.alloc ?_ ?_ _ | refine Below.setCell ?_ ?_ _ | exact Nat.le_refl _) | omega | (simp; omega) | (simp; done) | (apply Below.size; assumption))) (hb4_.mono (by first | assumption | (simp; done) | (simp; omega) | omega)); have hw4_ : Below w.heap.size w w4_ := hw3_.trans (hp4_.mono hw3_.size); have z4_w : w.heap.size < w4_.heap.size := Nat.lt_of_lt_of_le z3_w hp4_.size; have g4_w_0 := Kit.ck hp4_ g3_w_0 z3_w; have g4_w_1 := Kit.ck hp4_ g3_w_1 z3_w; have g4_w_2 := Kit.ck hp4_ g3_w_2 z3_w; have g4_w_3 := Kit.ck hp4_ g3_w_3 z3_w; have g4_w_4 := Kit.ck hp4_ g3_w_4 z3_w; have g4_w_5 := Kit.ck hp4_ g3_w_5 z3_w; have g4_w_6 := Kit.ck hp4_ g3_w_6 z3_w; have g4_w_7 := Kit.ck hp4_ g3_w_7 z3_w; have g4_w_8 := Kit.ck hp4_ g3_w_8 z3_w; have g4_w_9 := Kit.ck hp4_ g3_w_9 z3_w; have g4_w_10 := Kit.ck hp4_ g3_w_10 z3_w; have SF4 := Lib.hid (SF3.out.kept hp4_ (Nat.le_refl _)); clear z3_w g3_w_0 g3_w_1 g3_w_2 g3_w_3 g3_w_4 g3_w_5 g3_w_6 g3_w_7 g3_w_8 g3_w_9 g3_w_10 hw3_ hb4_ hp4_)
      go_upto_region 6 with fail
      have hpos : 0 < sg.length := by
        have : (sg.length : Int) ≠ 0 := by simpa using e0
        omega
      have hnil : ¬ sg = [] := by rintro rfl; simp at hpos
      obtain ⟨j, hj⟩ : ∃ j, j = k % sg.length := ⟨_, rfl⟩
      have hlt : j < sg.length := by rw [hj]; exact Nat.mod_lt _ hpos
      have hm : (k : Int).tmod (sg.length : Int) = (j : Int) := by rw [Int.tmod_eq_emod_of_nonneg (Int.natCast_nonneg k), hj, Int.natCast_emod]
      have h := HSG.out.kept hw4_ (Nat.le_refl _)
      obtain ⟨ay, rfl, hay, _⟩ := HSG.out.at hlt
      have e0 := h.head hlt (by omega)
      have e1 := h.field hlt (j := 1) (by omega) (by omega)
      have e2 := h.field hlt (j := 2) (by omega) (by omega)
      have e3 := h.field hlt (j := 3) (by omega) (by omega)
      have e4 := h.field hlt (j := 4) (by omega) (by omega)
      have e5 := h.field hlt (j := 5) (by omega) (by omega)
      have e6 := h.field hlt (j := 6) (by omega) (by omega)
      have e7 := h.field hlt (j := 7) (by omega) (by omega)
      have e8 := h.field hlt (j := 8) (by omega) (by omega)
      have e9 := h.field hlt (j := 9) (by omega) (by omega)
      have e10 := h.field hlt (j := 10) (by omega) (by omega)
      have e11 := h.field hlt (j := 11) (by omega) (by omega)
      have e12 := h.field hlt (j := 12) (by omega) (by omega)
      have e13 := h.field hlt (j := 13) (by omega) (by omega)
      obtain ⟨a, hxa⟩ : ∃ a, sg.getD j default = a := ⟨_, rfl⟩
      have hma : a ∈ sg := by rw [← hxa]; simp [List.getD, hlt]
      simp only [Ex.sgc, hxa] at e0 e1 e2 e3 e4 e5 e6 e7 e8 e9 e10 e11 e12 e13
      have hbk : (ay.add (j * 14)).block < w4_.heap.size := by rw [Tp.add_block]; exact Nat.lt_of_lt_of_le hay hw4_.size
      have SOF := Lib.hid (show ∀ w', Below w4_.heap.size w4_ w' → w'.cell? ⟨w.heap.size, 10, none⟩ = some (.slice (some ay) sg.length cG) ∧ w'.cell? (ay.add (j * 14)) = some (.int .i64 a.id) ∧ w'.cell? ⟨(ay.add (j * 14)).block, (ay.add (j * 14)).off + 1, none⟩ = some (.int .i64 a.role) ∧ w'.cell? ⟨(ay.add (j * 14)).block, (ay.add (j * 14)).off + 2, none⟩ = some (.int .i64 a.bar) ∧ w'.cell? ⟨(ay.add (j * 14)).block, (ay.add (j * 14)).off + 3, none⟩ = some (.int .i64 a.mark) ∧ w'.cell? ⟨(ay.add (j * 14)).block, (ay.add (j * 14)).off + 4, none⟩ = some (.int .i64 a.kind) ∧ w'.cell? ⟨(ay.add (j * 14)).block, (ay.add (j * 14)).off + 5, none⟩ = some (.int .i64 a.side) ∧ w'.cell? ⟨(ay.add (j * 14)).block, (ay.add (j * 14)).off + 6, none⟩ = some (.int .i64 a.dir) ∧ w'.cell? ⟨(ay.add (j * 14)).block, (ay.add (j * 14)).off + 7, none⟩ = some (.int .i64 a.level) ∧ w'.cell? ⟨(ay.add (j * 14)).block, (ay.add (j * 14)).off + 8, none⟩ = some (.int .i64 a.size) ∧ w'.cell? ⟨(ay.add (j * 14)).block, (ay.add (j * 14)).off + 9, none⟩ = some (.int .i64 a.wth) ∧ w'.cell? ⟨(ay.add (j * 14)).block, (ay.add (j * 14)).off + 10, none⟩ = some (.int .i64 a.fn) ∧ w'.cell? ⟨(ay.add (j * 14)).block, (ay.add (j * 14)).off + 11, none⟩ = some (.int .i64 a.fd) ∧ w'.cell? ⟨(ay.add (j * 14)).block, (ay.add (j * 14)).off + 12, none⟩ = some (.int .i64 a.tn) ∧ w'.cell? ⟨(ay.add (j * 14)).block, (ay.add (j * 14)).off + 13, none⟩ = some (.int .i64 a.td) from fun w' hb => ⟨(hb.cell (p := ⟨w.heap.size, 10, none⟩) z4_w).trans g4_w_10, (hb.cell hbk).trans e0, (hb.cell (p := ⟨(ay.add (j * 14)).block, _, none⟩) hbk).trans e1, (hb.cell (p := ⟨(ay.add (j * 14)).block, _, none⟩) hbk).trans e2, (hb.cell (p := ⟨(ay.add (j * 14)).block, _, none⟩) hbk).trans e3, (hb.cell (p := ⟨(ay.add (j * 14)).block, _, none⟩) hbk).trans e4, (hb.cell (p := ⟨(ay.add (j * 14)).block, _, none⟩) hbk).trans e5, (hb.cell (p := ⟨(ay.add (j * 14)).block, _, none⟩) hbk).trans e6, (hb.cell (p := ⟨(ay.add (j * 14)).block, _, none⟩) hbk).trans e7, (hb.cell (p := ⟨(ay.add (j * 14)).block, _, none⟩) hbk).trans e8, (hb.cell (p := ⟨(ay.add (j * 14)).block, _, none⟩) hbk).trans e9, (hb.cell (p := ⟨(ay.add (j * 14)).block, _, none⟩) hbk).trans e10, (hb.cell (p := ⟨(ay.add (j * 14)).block, _, none⟩) hbk).trans e11, (hb.cell (p := ⟨(ay.add (j * 14)).block, _, none⟩) hbk).trans e12, (hb.cell (p := ⟨(ay.add (j * 14)).block, _, none⟩) hbk).trans e13⟩)
      have HMA := Lib.hid hma
      clear h hma hxa e0 e1 e2 e3 e4 e5 e6 e7 e8 e9 e10 e11 e12 e13
      refine Kit.wp_name ?_
      intro W hWW
      have HWW := Lib.hid hWW
      rw [← hWW] at SOF hw4_ z4_w
      have G10 := Lib.hid (show W.cell? ⟨w.heap.size, 10, none⟩ = some (.slice (some ay) sg.length cG) by rw [hWW]; exact g4_w_10)
      have SFW := Lib.hid (show Tp.Sl W aF l.length 3 (Ty.f3c l) by rw [hWW]; exact SF4.out)
      clear SF SF3 SF4
      clear g4_w_0 g4_w_1 g4_w_2 g4_w_3 g4_w_4 g4_w_5 g4_w_6 g4_w_7 g4_w_8 g4_w_9 g4_w_10
      refine Kit.wp_region_vals 11 [([(2, none)], none, true), ([(41, some 0)], none, true), ([(1, none)], none, true), ([(43, some 2)], none, true), ([(2, none)], none, true), ([(45, some 4)], none, true), ([(46, some 5)], none, true), ([(44, some 3), (47, some 6)], none, true), ([(42, some 1), (48, some 7)], none, true), ([(49, some 8)], none, true), ([], none, true)]
        [some 41, some 42, some 43, some 44, some 45, some 46, some 47, some 48, some 49, some 50, some 7] rfl (by kernel_rfl) (by kernel_rfl) (fun A B => Below A.heap.size A B) (fun i v w' => match i with
        | 0 => v = .pointer (some ⟨w.heap.size, 10, none⟩)
        | 1 => v = .slice (some ay) sg.length cG
        | 2 => v = .int .u16 k
        | 3 => v = .int .i64 k
        | 4 => v = .pointer (some ⟨w.heap.size, 10, none⟩)
        | 5 => v = .slice (some ay) sg.length cG
        | 6 => v = .int .i64 sg.length
        | 7 => v = .int .i64 j
        | 8 => v = .pointer (some (ay.add (j * 14)))
        | 9 => v = Ex.sgV a
        | _ => ∃ b, v = .pointer (some ⟨b, 0, none⟩) ∧ Ty.New W.heap.size b w')
        (fun h k => h.trans (k.mono h.size)) (Below.drew (Below.refl _ _)) (fun _ => Below.refl _ _) ?_ ?_ ?_
      · intro i v A B h1 h2 h3
        split at h3 <;> try exact h3
        obtain ⟨b, e, h4, h5⟩ := h3
        exact ⟨b, e, h4, (h2.block b (Array.getElem?_eq_some_iff.1 h5).1).trans h5⟩
      · simp only [List.take_succ_cons, List.take_zero, Kit.StepsV, Kit.VOp, Kit.RdP, true_and, if_true, and_true]
        refine ⟨?_, ?_, ?_, ?_, ?_, ?_, ?_, ?_, ?_, ?_, ?_⟩
        all_goals intro ev w1 hx hv hc hf hg
        · simp at hv; simp [execOp, hv, hc, go_sem, Kit.UponV, Below.refl]
        · have so := SOF.out w1 hx
          simp [execOp, hv, hc, so.1, go_sem, Kit.UponV, Below.refl]
        · simp at hv; simp [execOp, hv, hc, go_sem, Kit.UponV, Below.refl]
        · simp [execOp, hv, hc, go_sem, Kit.UponV, Below.refl]
          exact Ty.wrapN hk
        · simp at hv; simp [execOp, hv, hc, go_sem, Kit.UponV, Below.refl]
        · have so := SOF.out w1 hx
          simp [execOp, hv, hc, so.1, go_sem, Kit.UponV, Below.refl]
        · simp [execOp, hv, hc, go_sem, Kit.UponV, Below.refl]
        · obtain ⟨hv1, hv2⟩ := hv
          simp [execOp, hv1, hv2, hc, hm, hnil, go_sem, Kit.UponV, Below.refl]
        · obtain ⟨hv1, hv2⟩ := hv
          simp [execOp, hv1, hv2, hc, hlt, go_sem, Kit.UponV, Below.refl]
        · obtain ⟨s0, s1, s2, s3, s4, s5, s6, s7, s8, s9, s10, s11, s12, s13, s14⟩ := SOF.out w1 hx
          simp [execOp, hv, hc, s1, s2, s3, s4, s5, s6, s7, s8, s9, s10, s11, s12, s13, s14, go_sem, Kit.UponV, Below.refl]
        · have hz := hx.size
          simp [execOp, hc, go_sem, Kit.UponV]
          exact ⟨⟨hz, World.alloc_heap_new _ _⟩, (Below.refl _ _).alloc (Nat.le_refl _) _⟩
      · intro vs w1 hv hx
        have v9 : vs 9 = Ex.sgV a := hv 9 (by omega)
        obtain ⟨b, v10, hb10, hbl⟩ := hv 10 (by omega)
        clear hv
        have HTH := Lib.hid (show w1.there b 0 (Ty.scA a).size from fun q hq => by
          have hq' : q < 14 := hq
          refine ⟨?_, by simp [World.frozen?, hbl]⟩
          simp only [World.cell?, hbl, Nat.zero_add]
          have : q < (Ty.scA default).size := hq
          rw [Array.getElem?_eq_getElem this]
          rfl)
        have HIZ : (Tryd.prog.info? 41).map (·.size) = some (Ty.scA a).size := by kernel_rfl
        have HBL := Lib.hid hbl
        have HX := Lib.hid hx
        have HNB := Lib.hid hb10
        clear hbl hx hb10 SOF
        simp only [Kit.putD, List.getD_cons_zero, List.getD_cons_succ, Act.put, v9, v10, List.drop_succ_cons, List.drop_zero]
        go_simp
        go_upto_region 7 with ((with_reducible refine Kit.wpList_store_at (ty := 41) (x := .tmp 7) (y := .tmp 50) (p := ⟨b, 0, none⟩) (b := b) (o := 0) (cells := Ty.scA a) ?_ ?_ ?_ rfl ?_ HTH.out HIZ (Ty.scA_one a) ?_); rfl; rfl; rfl; rfl; refine Ty.wpList_name ?_; intro X1 hX1; have HXX := Lib.hid hX1; clear hX1)
        have hx1 : Kit.Exc (fun k => k = b) w1 X1 := by rw [HXX.out]; exact Kit.Exc.setCells (S := fun k => k = b) rfl _ _ (Kit.Exc.refl _ _)
        obtain ⟨cur', hc1, hc2, hc3, hc4⟩ := Kit.heap_setCells b _ (Ty.scA a).toList 0 w1 _ HBL.out
        rw [← HXX.out] at hc1
        have CA := Lib.hid (show Ty.Cs X1 b [.int .i64 a.id, .int .i64 a.role, .int .i64 a.bar, .int .i64 a.mark, .int .i64 a.kind, .int .i64 a.side, .int .i64 a.dir, .int .i64 a.level, .int .i64 a.size, .int .i64 a.wth, .int .i64 a.fn, .int .i64 a.fd, .int .i64 a.tn, .int .i64 a.td] from ⟨(Array.getElem?_eq_some_iff.1 hc1).1, fun q v hq => by
          have hq14 : q < 14 := (List.getElem?_eq_some_iff.1 hq).1
          simp only [World.cell?, hc1]
          have := hc4 q hq14 (by show 0 + q < 14; omega)
          rw [Nat.zero_add] at this
          rw [this]; exact hq⟩)
        have hbb : W.heap.size ≤ b := HNB.out
        have bWX : Below W.heap.size W X1 := HX.out.trans (hx1.below HX.out.size (fun k e => by omega))
        have HB1 := Lib.hid (show Below w.heap.size w X1 from hw4_.trans (bWX.mono hw4_.size))
        have G1 := Lib.hid ((bWX.cell (p := ⟨w.heap.size, 10, none⟩) z4_w).trans G10.out)
        have SF1 := Lib.hid (SFW.out.kept bWX (Nat.le_refl _))
        have HS1 := Lib.hid (HSG.out.kept HB1.out (Nat.le_refl _))
        have hrta := hrt a HMA.out
        have raB := hrta.role
        have zw : w.heap.size < X1.heap.size := Nat.lt_of_lt_of_le z4_w bWX.size
        have HRT := Lib.hid hrt
        have HINC := Lib.hid hinc
        clear hrt hinc hx1 hc1 hc2 hc3 hc4 hrta hWW HWW HXX HBL HX HNB HTH HIZ bWX hw4_ z4_w G10 SFW hbk v9 v10 HC HF HW HS HPL
        have g10 := G1.out
        go_wp2_with fail
        go_loopw [54, 8] (fun v54 v8 wr => ∃ (i : Nat) (pb : Bool), v54 = .int .i64 i ∧ v8 = .bool pb ∧ i ≤ sg.length ∧ Hid (pb = (sg.take i).any (Ty.part a)) ∧ Hid (Below X1.heap.size X1 wr))
          (fun v54 _ _ => sg.length - (intOf v54).toNat)
        case atStart => exact ⟨0, false, rfl, rfl, Nat.zero_le _, by show _ = _; simp, Below.refl _ _⟩
        case round =>
          obtain ⟨i, pb, rfl, rfl, hi, HPB, HBR⟩ := hrel
          by_cases hlt2 : i < sg.length
          · have h := HS1.out.kept HBR.out (Nat.le_refl _)
            have hay2 : (ay.add (i * 14)).block < wr.heap.size := by rw [Tp.add_block]; have := HB1.out.size; have := HBR.out.size; omega
            have e0 := h.head hlt2 (by omega)
            have e1 := h.field hlt2 (j := 1) (by omega) (by omega)
            have e2 := h.field hlt2 (j := 2) (by omega) (by omega)
            have e3 := h.field hlt2 (j := 3) (by omega) (by omega)
            have e4 := h.field hlt2 (j := 4) (by omega) (by omega)
            have e5 := h.field hlt2 (j := 5) (by omega) (by omega)
            have e6 := h.field hlt2 (j := 6) (by omega) (by omega)
            have e7 := h.field hlt2 (j := 7) (by omega) (by omega)
            have e8 := h.field hlt2 (j := 8) (by omega) (by omega)
            have e9 := h.field hlt2 (j := 9) (by omega) (by omega)
            have e10 := h.field hlt2 (j := 10) (by omega) (by omega)
            have e11 := h.field hlt2 (j := 11) (by omega) (by omega)
            have e12 := h.field hlt2 (j := 12) (by omega) (by omega)
            have e13 := h.field hlt2 (j := 13) (by omega) (by omega)
            obtain ⟨e, hxe⟩ : ∃ e, sg.getD i default = e := ⟨_, rfl⟩
            have hme : e ∈ sg := by rw [← hxe]; simp [List.getD, hlt2]
            have hie : sg[i]? = some e := by rw [← hxe]; simp [List.getD, hlt2]
            have htk : sg.take (i + 1) = sg.take i ++ [e] := by rw [List.take_add_one, hie]; rfl
            simp only [Ex.sgc, hxe] at e0 e1 e2 e3 e4 e5 e6 e7 e8 e9 e10 e11 e12 e13
            have reB := (HRT.out e hme).role
            have hnew : (sg.take (i + 1)).any (Ty.part a) = (pb || Ty.part a e) := by rw [htk, HPB.out]; simp
            have HNW := Lib.hid hnew
            clear h hxe hme hie htk hnew
            go_upto_region 11 with fail
            obtain ⟨w7, hw7⟩ : ∃ w7, w7 = wr.alloc (.cells #[.int .i64 e.id, .int .i64 e.role, .int .i64 e.bar, .int .i64 e.mark, .int .i64 e.kind, .int .i64 e.side, .int .i64 e.dir, .int .i64 e.level, .int .i64 e.size, .int .i64 e.wth, .int .i64 e.fn, .int .i64 e.fd, .int .i64 e.tn, .int .i64 e.td] 41) := ⟨_, rfl⟩
            rw [← hw7]
            have b7 : Below wr.heap.size wr w7 := by rw [hw7]; exact (Below.refl _ _).alloc (Nat.le_refl _) _
            have CE := Lib.hid (show Ty.Cs w7 wr.heap.size [.int .i64 e.id, .int .i64 e.role, .int .i64 e.bar, .int .i64 e.mark, .int .i64 e.kind, .int .i64 e.side, .int .i64 e.dir, .int .i64 e.level, .int .i64 e.size, .int .i64 e.wth, .int .i64 e.fn, .int .i64 e.fd, .int .i64 e.tn, .int .i64 e.td] by rw [hw7]; exact Ty.Cs.top rfl)
            have CA7 := Lib.hid ((CA.out.kept HBR.out (Nat.le_refl _)).kept b7 (Nat.le_refl _))
            have HB7 := Lib.hid (HBR.out.trans (b7.mono HBR.out.size))
            clear hw7 b7 e0 e1 e2 e3 e4 e5 e6 e7 e8 e9 e10 e11 e12 e13
            have q1 := CE.out.2 1 _ rfl
            have q2 := CE.out.2 2 _ rfl
            have q4 := CE.out.2 4 _ rfl
            have q9 := CE.out.2 9 _ rfl
            have q10 := CE.out.2 10 _ rfl
            have q11 := CE.out.2 11 _ rfl
            have q12 := CE.out.2 12 _ rfl
            have q13 := CE.out.2 13 _ rfl
            have a1 := CA7.out.2 1 _ rfl
            have a2 := CA7.out.2 2 _ rfl
            have a4 := CA7.out.2 4 _ rfl
            have a9 := CA7.out.2 9 _ rfl
            have a10 := CA7.out.2 10 _ rfl
            have a11 := CA7.out.2 11 _ rfl
            have a12 := CA7.out.2 12 _ rfl
            have a13 := CA7.out.2 13 _ rfl
            have zq := CE.out.1
            have za := CA7.out.1
            go_cut [11] from 58 to 75 (fun s11 wx => ∃ o : Bool, s11 = .bool o ∧ Hid (o = (a.kind == 7 && e.kind == 8 || a.kind == 8 && e.kind == 7)) ∧ wx = w7)
            case first =>
              rcases c1 : (a.kind == 7) with _ | _ <;> rcases c2 : (e.kind == 8) with _ | _ <;> rcases c3 : (a.kind == 8) with _ | _ <;> rcases c4 : (e.kind == 7) with _ | _ <;>
              (go_wp2_with fail; go_meet; (case rel => exact ⟨_, rfl, (by show _ = _; rw [c1, c2, c3, c4]; rfl), rfl⟩))
            case rest =>
              obtain ⟨o, rfl, HO, rfl⟩ := hcut
              have HPO := Lib.hid (show Ty.part a e = (o && (a.bar == e.bar) && (a.fn == e.fn && a.fd == e.fd) && (a.tn == e.tn && a.td == e.td) && (a.wth == e.role + 1) && (e.wth == a.role + 1) && (a.role != e.role)) by rw [HO.out]; rfl)
              rcases pb with _ | _
              · rcases o with _ | _
                · go_wp2
                  go_roundw
                  case rel => exact ⟨i + 1, false, by go_num, rfl, by omega, (by show _ = _; rw [HNW.out, HPO.out]; simp []), HB7.out⟩
                  case measure => simp [intOf]; omega
                · rcases c5 : (a.bar == e.bar) with _ | _
                  · go_wp2
                    go_roundw
                    case rel => exact ⟨i + 1, false, by go_num, rfl, by omega, (by show _ = _; rw [HNW.out, HPO.out]; simp [c5]), HB7.out⟩
                    case measure => simp [intOf]; omega
                  · rcases c6 : (a.fn == e.fn) with _ | _
                    · go_wp2
                      go_roundw
                      case rel => exact ⟨i + 1, false, by go_num, rfl, by omega, (by show _ = _; rw [HNW.out, HPO.out]; simp [c5, c6]), HB7.out⟩
                      case measure => simp [intOf]; omega
                    · rcases c7 : (a.fd == e.fd) with _ | _
                      · go_wp2
                        go_roundw
                        case rel => exact ⟨i + 1, false, by go_num, rfl, by omega, (by show _ = _; rw [HNW.out, HPO.out]; simp [c5, c6, c7]), HB7.out⟩
                        case measure => simp [intOf]; omega
                      · rcases c8 : (a.tn == e.tn) with _ | _
                        · go_wp2
                          go_roundw
                          case rel => exact ⟨i + 1, false, by go_num, rfl, by omega, (by show _ = _; rw [HNW.out, HPO.out]; simp [c5, c6, c7, c8]), HB7.out⟩
                          case measure => simp [intOf]; omega
                        · rcases c9 : (a.td == e.td) with _ | _
                          · go_wp2
                            go_roundw
                            case rel => exact ⟨i + 1, false, by go_num, rfl, by omega, (by show _ = _; rw [HNW.out, HPO.out]; simp [c5, c6, c7, c8, c9]), HB7.out⟩
                            case measure => simp [intOf]; omega
                          · rcases c10 : (a.wth == e.role + 1) with _ | _
                            · go_wp2
                              go_roundw
                              case rel => exact ⟨i + 1, false, by go_num, rfl, by omega, (by show _ = _; rw [HNW.out, HPO.out]; simp [c5, c6, c7, c8, c9, c10]), HB7.out⟩
                              case measure => simp [intOf]; omega
                            · rcases c11 : (e.wth == a.role + 1) with _ | _
                              · go_wp2
                                go_roundw
                                case rel => exact ⟨i + 1, false, by go_num, rfl, by omega, (by show _ = _; rw [HNW.out, HPO.out]; simp [c5, c6, c7, c8, c9, c10, c11]), HB7.out⟩
                                case measure => simp [intOf]; omega
                              · rcases c12 : (a.role != e.role) with _ | _
                                · go_wp2
                                  go_roundw
                                  case rel => exact ⟨i + 1, false, by go_num, rfl, by omega, (by show _ = _; rw [HNW.out, HPO.out]; simp [c5, c6, c7, c8, c9, c10, c11, c12]), HB7.out⟩
                                  case measure => simp [intOf]; omega
                                · go_wp2
                                  go_roundw
                                  case rel => exact ⟨i + 1, true, by go_num, rfl, by omega, (by show _ = _; rw [HNW.out, HPO.out]; simp [c5, c6, c7, c8, c9, c10, c11, c12]), HB7.out⟩
                                  case measure => simp [intOf]; omega
              · go_wp2
                go_roundw
                case rel => exact ⟨i + 1, true, by go_num, rfl, by omega, (by show _ = _; rw [HNW.out, HPO.out]; simp []), HB7.out⟩
                case measure => simp [intOf]; omega
          · obtain rfl : i = sg.length := by omega
            obtain ⟨W8, rfl⟩ : ∃ W8, W8 = wr := ⟨_, rfl⟩
            have hpb : pb = sg.any (Ty.part a) := by rw [HPB.out, List.take_length]
            have hal : Ty.alone sg a = (Ty.held a && !pb) := by rw [hpb]; exact Ty.alone_part sg a
            have HAL := Lib.hid hal
            have CA8 := Lib.hid (CA.out.kept HBR.out (Nat.le_refl _))
            have SF8 := Lib.hid (SF1.out.kept HBR.out (Nat.le_refl _))
            have HB8 := Lib.hid (HB1.out.trans (HBR.out.mono HB1.out.size))
            clear hpb hal HPB
            have a4 := CA8.out.2 4 _ rfl
            have za := CA8.out.1
            go_upto_region 14 with fail
            go_cut [12] from 125 to 136 (fun s12 wx => s12 = .bool (Ty.held a && !pb) ∧ wx = W8)
            case first =>
              rcases c1 : (a.kind == 7) with _ | _ <;> rcases c3 : (a.kind == 8) with _ | _ <;> rcases pb with _ | _ <;>
              (go_wp2_with fail; go_meet; (case rel => exact ⟨(by simp only [Ty.held, c1, c3]; rfl), rfl⟩))
            case rest =>
              obtain ⟨rfl, rfl⟩ := hcut
              clear a4 za
              rw [← HAL.out]
              go_wp2_with fail
              go_loopw [139, 13] (fun v139 v13 wr => ∃ (i : Nat) (gb : Bool), v139 = .int .i64 i ∧ v13 = .bool gb ∧ i ≤ l.length ∧ Hid (gb = (l.take i).any fun x => x.1 == 3 && x.2.1 == a.id) ∧ Hid (Below wc.heap.size wc wr))
                (fun v139 _ _ => l.length - (intOf v139).toNat)
              case atStart => exact ⟨0, false, rfl, rfl, Nat.zero_le _, by show _ = _; simp, Below.refl _ _⟩
              case round =>
                obtain ⟨i, gb, rfl, rfl, hi, HGB, HBR2⟩ := hrel
                have CA9 := Lib.hid (CA8.out.kept HBR2.out (Nat.le_refl _))
                have hbz : Below w.heap.size w wr := HB8.out.trans (HBR2.out.mono HB8.out.size)
                have HBZ := Lib.hid hbz
                clear hbz
                by_cases hlt3 : i < l.length
                · have h := SF8.out.kept HBR2.out (Nat.le_refl _)
                  obtain ⟨af, rfl, haf, _⟩ := h.at hlt3
                  have f0 := h.head hlt3 (by omega)
                  have f1 := h.field hlt3 (j := 1) (by omega) (by omega)
                  have f2 := h.field hlt3 (j := 2) (by omega) (by omega)
                  have hbf : (af.add (i * 3)).block < wr.heap.size := by rw [Tp.add_block]; exact haf
                  obtain ⟨y, hy⟩ : ∃ y, l.getD i (0, 0, 0) = y := ⟨_, rfl⟩
                  have hmy : y ∈ l := by rw [← hy]; simp [List.getD, hlt3]
                  have hiy : l[i]? = some y := by rw [← hy]; simp [List.getD, hlt3]
                  have htk : l.take (i + 1) = l.take i ++ [y] := by rw [List.take_add_one, hiy]; rfl
                  simp only [Ty.f3c, hy] at f0 f1 f2
                  rw [HL0.out] at hmy
                  have hsm := Ty.lift_same hmy
                  have hnew : ((l.take (i + 1)).any fun x => x.1 == 3 && x.2.1 == a.id) = (gb || (y.1 == 3 && y.2.1 == a.id)) := by rw [htk, HGB.out]; simp
                  have HNW := Lib.hid hnew
                  clear h hy hmy hiy htk hnew
                  obtain ⟨y1, y2, y3⟩ := y
                  dsimp only at hsm f0 f1 f2 HNW
                  have a0 := CA9.out.2 0 _ rfl
                  have za := CA9.out.1
                  rcases d1 : (y1 == 3) with _ | _
                  · rcases gb with _ | _
                    · go_wp2
                      go_roundw
                      case rel => exact ⟨i + 1, false, by go_num, rfl, by omega, (by show _ = _; rw [HNW.out, d1]; rfl), HBR2.out.alloc HBR2.out.size _⟩
                      case measure => simp [intOf]; omega
                    · go_wp2
                      go_roundw
                      case rel => exact ⟨i + 1, true, by go_num, rfl, by omega, (by show _ = _; rw [HNW.out, d1]; rfl), HBR2.out.alloc HBR2.out.size _⟩
                      case measure => simp [intOf]; omega
                  · have hy3 : y1 = 3 := by simpa using d1
                    have h23 := hsm hy3
                    subst h23
                    have d3 : (y2 != y2) = false := by simp
                    rcases gb with _ | _
                    · rcases d2 : (y2 == a.id) with _ | _
                      · go_wp2
                        go_roundw
                        case rel => exact ⟨i + 1, false, by go_num, rfl, by omega, (by show _ = _; rw [HNW.out, d1, d2]; rfl), HBR2.out.alloc HBR2.out.size _⟩
                        case measure => simp [intOf]; omega
                      · go_wp2
                        go_roundw
                        case rel => exact ⟨i + 1, true, by go_num, rfl, by omega, (by show _ = _; rw [HNW.out, d1, d2]; rfl), HBR2.out.alloc HBR2.out.size _⟩
                        case measure => simp [intOf]; omega
                    · go_wp2
                      go_roundw
                      case rel => exact ⟨i + 1, true, by go_num, rfl, by omega, (by show _ = _; rw [HNW.out]; rfl), HBR2.out.alloc HBR2.out.size _⟩
                      case measure => simp [intOf]; omega
                · obtain rfl : i = l.length := by omega
                  have hgb : gb = Ty.alone sg a := by
                    rw [HGB.out, List.take_length, HL0.out]
                    exact Ty.lift_got HINC.out HMA.out
                  rw [← hgb]
                  clear hgb
                  rcases gb with _ | _
                  · go_wp2
                    go_ret
                    exact ⟨rfl, HBZ.out⟩
                  · go_wp2
                    go_ret
                    exact ⟨rfl, HBZ.out⟩
    · go_wp2
      go_ret
      exact ⟨rfl, by (repeat' first | (with_reducible first | exact Below.refl _ _ | assumption | refine Kit.below_drewN ?_ _ | refine Below.drew ?_ | refine Below.alloc ?_ ?_ _ | refine Below.setCell ?_ ?_ _ | exact Nat.le_refl _) | omega | (simp; omega) | (simp; done) | (apply Below.size; assumption))⟩
  · go_wp2
    go_ret
    exact ⟨rfl, by (repeat' first | (with_reducible first | exact Below.refl _ _ | assumption | refine Kit.below_drewN ?_ _ | refine Below.drew ?_ | refine Below.alloc ?_ ?_ _ | refine Below.setCell ?_ ?_ _ | exact Nat.le_refl _) | omega | (simp; omega) | (simp; done) | (apply Below.size; assumption))⟩
end Go.Proofs.YtggfeblfhabmkaaDoor
