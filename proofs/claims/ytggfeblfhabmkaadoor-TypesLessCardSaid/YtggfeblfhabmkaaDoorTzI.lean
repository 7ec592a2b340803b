/- Walks: the laws of layer 20: TypesLess. -/
import Derived.Test.YtggfeblfhabmkaaDoorTzH
import Derived.Deep.CutRange
import Derived.Deep.RegionHeldLaw
namespace Go.Proofs.YtggfeblfhabmkaaDoor
set_option linter.unusedVariables false
set_option linter.unusedSimpArgs false
open Go.RowKit Go.Shelf

set_option maxRecDepth 100000 in
set_option maxHeartbeats 2000000 in
theorem lw_less_1 (x : Ex.Wk) (p : Ex.Wa) (k : Nat) (w : World) (hk : k < 65536) (ha : Ex.At w x p) (hcap : x.sg.length ≤ p.cG) (hl : Ex.Laid w) :
    Calls Tryd.prog 6 #[Ex.workV x p, .int .u16 k] w fun e w' => e = .returned (.bool true) ∧ Below w.heap.size w w' := by
  have hs : ∀ W, Below w.heap.size w W → Calls Tryd.prog 8 #[] W fun e w' => e = .returned (.bool true) ∧ Below W.heap.size W w' := fun W hb => lw_sane W (hl.kept hb (Nat.le_refl _))
  have hf : ∀ W, Below w.heap.size w W → Calls Tryd.prog 14 #[Ex.workV x p] W fun e w' => ∃ a c, e = .returned (.tuple #[.slice a (Ty.lst x).length c, .int .i64 (Ex.chk x)]) ∧ Tp.Sl w' a (Ty.lst x).length 3 (Ty.f3c (Ty.lst x)) ∧ Below W.heap.size W w' := fun W hb => by
    refine (ty_faults x p W (ha.kept hb (Nat.le_refl _)) (hl.kept hb (Nat.le_refl _))).mono ?_
    rintro e w' ⟨v, rfl, ho, hb⟩
    obtain ⟨a, c, rfl, hs⟩ := Ty.own_fl ho
    exact ⟨a, c, rfl, hs, hb⟩
  have hw : ∀ W, Calls Tryd.prog 9 #[Ex.workV x p] W fun e w' => Ty.IsB e ∧ Below W.heap.size W w' := fun W => lw_few x p W
  have hc : ∀ W, Below w.heap.size w W → Ex.Chk x p W (Ex.chk x) := fun W hb => ex_check x p W (ha.kept hb (Nat.le_refl _)) (hl.kept hb (Nat.le_refl _))
  have HSG := Lib.hid ha.sg
  have hpl : Ex.chk x = 0 → Ty.lst x = Ty.refL x.sg ∧ (Ty.lst x).length ≤ 100000000 ∧ Ty.Inc x.sg ∧ ∀ s ∈ x.sg, Ty.Rt s x.ro.length x.n := fun h => by
    obtain ⟨_, h2, _, h4, h5⟩ := Ty.of_chk h
    have e : Ty.lst x = Ty.refL x.sg := by rw [Ty.lst, if_pos h]
    exact ⟨e, by rw [e]; exact Ty.refL_len _ h2, h4, h5⟩
  have HPL := Lib.hid hpl
  have HAT := Lib.hid ha
  have HLD := Lib.hid hl
  have hch : Ex.chk x = 0 → (∀ i, Ex.chk { x with sg := x.sg.eraseIdx i } = 0) ∧ (∀ s ∈ x.sg, Ty.Bd s) ∧ x.sg.length ≤ 4096 ∧ x.ro.length ≤ 64 := fun h => ⟨fun i => Ty.chk_erase i h, Ty.bd_of h, (Ty.of_chk h).2.1, (Ty.of_chk h).1⟩
  have HCH := Lib.hid hch
  have HS := Lib.hid hs
  have HF := Lib.hid hf
  have HW := Lib.hid hw
  have HC := Lib.hid hc
  have lsg := ha.lsg
  have lro := ha.lro
  clear hs hf hw hc ha hl hpl hch
  generalize Ty.lst x = l at *
  unfold Ex.Chk at HC
  generalize Ex.chk x = r at *
  obtain ⟨wd, dp, ta, tb, tc, n, ro, ts, ps, ss, sg⟩ := x
  obtain ⟨aR, cR, aT, cT, aP, cP, aS, cS, aG, cG⟩ := p
  dsimp only at HPL HSG lsg lro hcap
  go_enter Tryd.func6, Tryd.ntmps6
  skip
  (go_wp2_with (fail); refine (HS.out _ (by (repeat' first | (with_reducible first | exact Below.refl _ _ | assumption | refine Kit.below_drewN ?_ _ | refine Below.drew ?_ | refine Below.alloc ?_ ?_ _ | refine Below.setCell ?_ ?_ _ | exact Nat.le_refl _) | omega | (simp; omega) | (simp; done) | (apply Below.size; assumption)))).mono ?_; rintro e w1_ ⟨rfl, hb1_⟩; have hp1_ : Below w.heap.size w w1_ := Below.trans (by (repeat' first | (with_reducible first | exact Below.refl _ _ | assumption | refine Kit.below_drewN ?_ _ | refine Below.drew ?_ | refine Below.alloc ?_ ?_ _ | refine Below.setCell ?_ ?_ _ | exact Nat.le_refl _) | omega | (simp; omega) | (simp; done) | (apply Below.size; assumption))) (hb1_.mono (by first | assumption | (simp; done) | (simp; omega) | omega)); have hw1_ : Below w.heap.size w w1_ := hp1_; obtain ⟨hc1_, hf1_⟩ := Kit.bcell hb1_; have z1_w : w.heap.size < w1_.heap.size := (by have := hb1_.size; first | omega | (simp at this; omega)); obtain ⟨g1_w_0, g1_w_1, g1_w_2, g1_w_3, g1_w_4, g1_w_5, g1_w_6, g1_w_7, g1_w_8, g1_w_9, g1_w_10⟩ : w1_.cell? ⟨w.heap.size, 0, none⟩ = some (.int .i64 wd) ∧ w1_.cell? ⟨w.heap.size, 1, none⟩ = some (.int .i64 dp) ∧ w1_.cell? ⟨w.heap.size, 2, none⟩ = some (.int .i64 ta) ∧ w1_.cell? ⟨w.heap.size, 3, none⟩ = some (.int .i64 tb) ∧ w1_.cell? ⟨w.heap.size, 4, none⟩ = some (.int .i64 tc) ∧ w1_.cell? ⟨w.heap.size, 5, none⟩ = some (.slice aR ro.length cR) ∧ w1_.cell? ⟨w.heap.size, 6, none⟩ = some (.int .i64 n) ∧ w1_.cell? ⟨w.heap.size, 7, none⟩ = some (.slice aT ts.length cT) ∧ w1_.cell? ⟨w.heap.size, 8, none⟩ = some (.slice aP ps.length cP) ∧ w1_.cell? ⟨w.heap.size, 9, none⟩ = some (.slice aS ss.length cS) ∧ w1_.cell? ⟨w.heap.size, 10, none⟩ = some (.slice aG sg.length cG) := (by refine ⟨?_, ?_, ?_, ?_, ?_, ?_, ?_, ?_, ?_, ?_, ?_⟩ <;> (rw [hc1_ _ _ (by first | assumption | (simp; done) | (simp; omega) | omega)]; first | assumption | (simp [go_sem]; done) | (simp [go_sem, *]; done))); clear hc1_ hf1_; clear hb1_ hp1_)
  (go_wp2_with (fail); refine (HF.out _ (by (repeat' first | (with_reducible first | exact Below.refl _ _ | assumption | refine Kit.below_drewN ?_ _ | refine Below.drew ?_ | refine Below.alloc ?_ ?_ _ | refine Below.setCell ?_ ?_ _ | exact Nat.le_refl _) | omega | (simp; omega) | (simp; done) | (apply Below.size; assumption)))).mono ?_; rintro e w2_ ⟨aF, cF, rfl, hsF, hb2_⟩; have hp2_ : Below w1_.heap.size w1_ w2_ := Below.trans (by (repeat' first | (with_reducible first | exact Below.refl _ _ | assumption | refine Kit.below_drewN ?_ _ | refine Below.drew ?_ | refine Below.alloc ?_ ?_ _ | refine Below.setCell ?_ ?_ _ | exact Nat.le_refl _) | omega | (simp; omega) | (simp; done) | (apply Below.size; assumption))) (hb2_.mono (by first | assumption | (simp; done) | (simp; omega) | omega)); have hw2_ : Below w.heap.size w w2_ := hw1_.trans (hp2_.mono hw1_.size); have z2_w : w.heap.size < w2_.heap.size := Nat.lt_of_lt_of_le z1_w hp2_.size; have g2_w_0 := Kit.ck hp2_ g1_w_0 z1_w; have g2_w_1 := Kit.ck hp2_ g1_w_1 z1_w; have g2_w_2 := Kit.ck hp2_ g1_w_2 z1_w; have g2_w_3 := Kit.ck hp2_ g1_w_3 z1_w; have g2_w_4 := Kit.ck hp2_ g1_w_4 z1_w; have g2_w_5 := Kit.ck hp2_ g1_w_5 z1_w; have g2_w_6 := Kit.ck hp2_ g1_w_6 z1_w; have g2_w_7 := Kit.ck hp2_ g1_w_7 z1_w; have g2_w_8 := Kit.ck hp2_ g1_w_8 z1_w; have g2_w_9 := Kit.ck hp2_ g1_w_9 z1_w; have g2_w_10 := Kit.ck hp2_ g1_w_10 z1_w; clear z1_w g1_w_0 g1_w_1 g1_w_2 g1_w_3 g1_w_4 g1_w_5 g1_w_6 g1_w_7 g1_w_8 g1_w_9 g1_w_10 hw1_ hb2_ hp2_)
  have SF := Lib.hid hsF
  clear hsF
  (go_wp2_with (fail); refine (HW.out _).mono ?_; rintro e w3_ ⟨⟨b, rfl⟩, hb3_⟩; have hp3_ : Below w2_.heap.size w2_ w3_ := Below.trans (by (repeat' first | (with_reducible first | exact Below.refl _ _ | assumption | refine Kit.below_drewN ?_ _ | refine Below.drew ?_ | refine Below.alloc ?_ ?_ _ | refine Below.setCell ?_ ?_ _ | exact Nat.le_refl _) | omega | (simp; omega) | (simp; done) | (apply Below.size; assumption))) (hb3_.mono (by first | assumption | (simp; done) | (simp; omega) | omega)); have hw3_ : Below w.heap.size w w3_ := hw2_.trans (hp3_.mono hw2_.size); have z3_w : w.heap.size < w3_.heap.size := Nat.lt_of_lt_of_le z2_w hp3_.size; have g3_w_0 := Kit.ck hp3_ g2_w_0 z2_w; have g3_w_1 := Kit.ck hp3_ g2_w_1 z2_w; have g3_w_2 := Kit.ck hp3_ g2_w_2 z2_w; have g3_w_3 := Kit.ck hp3_ g2_w_3 z2_w; have g3_w_4 := Kit.ck hp3_ g2_w_4 z2_w; have g3_w_5 := Kit.ck hp3_ g2_w_5 z2_w; have g3_w_6 := Kit.ck hp3_ g2_w_6 z2_w; have g3_w_7 := Kit.ck hp3_ g2_w_7 z2_w; have g3_w_8 := Kit.ck hp3_ g2_w_8 z2_w; have g3_w_9 := Kit.ck hp3_ g2_w_9 z2_w; have g3_w_10 := Kit.ck hp3_ g2_w_10 z2_w; have SF3 := Lib.hid (SF.out.kept hp3_ (Nat.le_refl _)); clear z2_w g2_w_0 g2_w_1 g2_w_2 g2_w_3 g2_w_4 g2_w_5 g2_w_6 g2_w_7 g2_w_8 g2_w_9 g2_w_10 hw2_ hb3_ hp3_)
  rcases b with _ | _
  · go_wp2
    go_ret
    exact ⟨rfl, by (repeat' first | (with_reducible first | exact Below.refl _ _ | assumption | refine Kit.below_drewN ?_ _ | refine Below.drew ?_ | refine Below.alloc ?_ ?_ _ | refine Below.setCell ?_ ?_ _ | exact Nat.le_refl _) | omega | (simp; omega) | (simp; done) | (apply Below.size; assumption))⟩
  rcases e0 : ((sg.length : Int) == 0) with _ | _
  · rcases er : (r != 0) with _ | _
    · obtain rfl : r = 0 := by simpa using er
      obtain ⟨hl0, hll, hinc, hrt⟩ := HPL.out rfl
      have HL0 := Lib.hid hl0
      clear hl0
      obtain ⟨hch1, hbd, hln, hrl⟩ := HCH.out rfl
      have HIC := Lib.hid hinc
      have HRT := Lib.hid hrt
      have HC1 := Lib.hid hch1
      have HBD := Lib.hid hbd
      clear hinc hrt hch1 hbd HC HF HW HS HPL HCH
      have hpos : 0 < sg.length := by
        have : (sg.length : Int) ≠ 0 := by simpa using e0
        omega
      have hnil : ¬ sg = [] := by rintro rfl; simp at hpos
      obtain ⟨i, hi⟩ : ∃ i, i = k % sg.length := ⟨_, rfl⟩
      have li : i < sg.length := by rw [hi]; exact Nat.mod_lt _ hpos
      have hmi : (k : Int).tmod (sg.length : Int) = (i : Int) := by rw [Int.tmod_eq_emod_of_nonneg (Int.natCast_nonneg k), hi, Int.natCast_emod]
      have hki : (k : Int) % (sg.length : Int) = (i : Int) := by rw [hi, Int.natCast_emod]
      have wk := Ty.wrapN hk
      have hne0 : ¬ (sg.length : Int) = 0 := by omega
      go_upto_region 7 with fail
      (try simp only [hki, hmi])
      obtain ⟨ay, rfl, hay, _⟩ := HSG.out.at li
      have hS3 := HSG.out.kept hw3_ (Nat.le_refl _)
      have hay3 : (ay.add (i * 14)).block < w3_.heap.size := by rw [Tp.add_block]; have := hw3_.size; omega
      have e0 := hS3.head li (by omega)
      have e1 := hS3.field li (j := 1) (by omega) (by omega)
      have e2 := hS3.field li (j := 2) (by omega) (by omega)
      have e3 := hS3.field li (j := 3) (by omega) (by omega)
      have e4 := hS3.field li (j := 4) (by omega) (by omega)
      have e5 := hS3.field li (j := 5) (by omega) (by omega)
      have e6 := hS3.field li (j := 6) (by omega) (by omega)
      have e7 := hS3.field li (j := 7) (by omega) (by omega)
      have e8 := hS3.field li (j := 8) (by omega) (by omega)
      have e9 := hS3.field li (j := 9) (by omega) (by omega)
      have e10 := hS3.field li (j := 10) (by omega) (by omega)
      have e11 := hS3.field li (j := 11) (by omega) (by omega)
      have e12 := hS3.field li (j := 12) (by omega) (by omega)
      have e13 := hS3.field li (j := 13) (by omega) (by omega)
      obtain ⟨g, hxg⟩ : ∃ g, sg.getD i default = g := ⟨_, rfl⟩
      have hig : sg[i]? = some g := by rw [← hxg]; simp [List.getD, li]
      have HG := Lib.hid hig
      have hgb := HBD.out g (List.mem_of_getElem? hig)
      have hgr := (HRT.out g (List.mem_of_getElem? hig)).role
      simp only [Ex.sgc, hxg] at e0 e1 e2 e3 e4 e5 e6 e7 e8 e9 e10 e11 e12 e13
      clear hxg hig hki hi hS3
      go_upto_region 9 with fail
      refine Kit.wp_name ?_
      intro W9 hW9
      obtain ⟨b8, hb8⟩ : ∃ b8, b8 = w3_.heap.size := ⟨_, rfl⟩
      rw [← hb8]
      obtain ⟨b9, hb9'⟩ : ∃ b9, b9 = b8 + 1 := ⟨_, rfl⟩
      rw [← hb9']
      have hb9 : b9 = w3_.heap.size + 1 := by omega
      clear hb9'
      have h81 : W9.heap[b8]? = some (.cells #[.int .i64 g.id, .int .i64 g.role, .int .i64 g.bar, .int .i64 g.mark, .int .i64 g.kind, .int .i64 g.side, .int .i64 g.dir, .int .i64 g.level, .int .i64 g.size, .int .i64 g.wth, .int .i64 g.fn, .int .i64 g.fd, .int .i64 g.tn, .int .i64 g.td] 41 (0, 0)) := by
        rw [hW9, hb8]
        exact (Below.heap_alloc _ _ _ (by simp)).trans (World.alloc_heap_new w3_ _)
      have h91 : W9.heap[b9]? = some (.cells (Ty.wc (⟨wd, dp, ta, tb, tc, n, ro, ts, ps, ss, sg⟩ : Ex.Wk) (⟨aR, cR, aT, cT, aP, cP, aS, cS, some ay, cG⟩ : Ex.Wa) (.slice (some ay) sg.length cG)) 32 (0, 0)) := by
        rw [hW9, hb9]
        have h := World.alloc_heap_new (w3_.alloc (.cells #[.int .i64 g.id, .int .i64 g.role, .int .i64 g.bar, .int .i64 g.mark, .int .i64 g.kind, .int .i64 g.side, .int .i64 g.dir, .int .i64 g.level, .int .i64 g.size, .int .i64 g.wth, .int .i64 g.fn, .int .i64 g.fd, .int .i64 g.tn, .int .i64 g.td] 41)) (.cells (Ty.wc (⟨wd, dp, ta, tb, tc, n, ro, ts, ps, ss, sg⟩ : Ex.Wk) (⟨aR, cR, aT, cT, aP, cP, aS, cS, some ay, cG⟩ : Ex.Wa) (.slice (some ay) sg.length cG)) 32)
        rw [World.size_alloc] at h
        exact h
      have HB9 := Lib.hid (show Below w3_.heap.size w3_ W9 by rw [hW9]; exact ((Below.refl _ _).alloc (Nat.le_refl _) _).alloc (by simp) _)
      have hs9 : W9.heap.size = w3_.heap.size + 2 := by rw [hW9]; simp
      have G10 : W9.cell? ⟨w.heap.size, 10, none⟩ = some (.slice (some ay) sg.length cG) := (HB9.out.cell (p := ⟨w.heap.size, 10, none⟩) z3_w).trans g3_w_10
      have H81 := Lib.hid h81
      have H91 := Lib.hid h91
      have HBE := Lib.hid (And.intro hb8 hb9)
      have SF9 := Lib.hid (SF3.out.kept HB9.out (Nat.le_refl _))
      have SF3b := Lib.hid SF3.out
      have SG9 := Lib.hid (HSG.out.kept (hw3_.trans (HB9.out.mono hw3_.size)) (Nat.le_refl _))
      clear hW9 h81 h91 hb8 hb9 SF SF3 e0 e1 e2 e3 e4 e5 e6 e7 e8 e9 e10 e11 e12 e13 hay3 wk hne0 hmi
      obtain ⟨i0, hI, hz0, hz1, hz2⟩ := info_parts Ty.infoS
      go_cut [9] from 52 to 64 (fun s9 wx => s9 = .pointer (some ⟨b9, 0, none⟩) ∧ ∃ v : Value, Hid (wx.ownsRow W9.heap.size 41 14 v (sg.eraseIdx i).length (Ty.flatS (sg.eraseIdx i))) ∧ Hid (wx.heap[b9]? = some (.cells (Ty.wc (⟨wd, dp, ta, tb, tc, n, ro, ts, ps, ss, sg⟩ : Ex.Wk) (⟨aR, cR, aT, cT, aP, cP, aS, cS, some ay, cG⟩ : Ex.Wa) v) 32 (0, 0))) ∧ Hid (Kit.Exc (fun k => k = b9) W9 wx))
      case first =>
        have hS : (fun w' : World => w'.cell? ⟨w.heap.size, 10, none⟩ = some (.slice (some ay) sg.length cG)) ({ W9 with drawn := W9.drawn + 1 } : World) := G10
        have hci : i ≤ cG := by omega
        have hci' : ¬ cG < i := by omega
        have hi1 : (0 : Int) ≤ (i : Int) + 1 := by omega
        have hi2 : (i : Int) + 1 ≤ (sg.length : Int) := by omega
        have hw1 : IntKind.i64.wrap ((i : Int) + 1) = (i : Int) + 1 := by
          exact Ty.wrapN (k := i + 1) (by omega)
        obtain ⟨A2, hA2⟩ : ∃ A2, (if cG = i + 1 then some ay else some (ay.add ((i + 1) * 14))) = A2 := ⟨_, rfl⟩
        refine wp_region_held (S := (fun w' : World => w'.cell? ⟨w.heap.size, 10, none⟩ = some (.slice (some ay) sg.length cG))) (by kernel_rfl) ?_
        refine Kit.take2 (i := 1) (v := .pointer (some ⟨w.heap.size, 10, none⟩)) (some 53) rfl rfl (by kernel_rfl) (by kernel_rfl) (by kernel_rfl) (fun _ d _ _ h => by cases d <;> exact h) (Or.inl ⟨by rfl, fun wv hwv => by go_simp⟩) hS ?_
        (try simp only [Act.put, List.setIfInBounds_toArray, List.set_cons_zero, List.set_cons_succ])
        refine Kit.take2 (i := 2) (v := .slice (some ay) sg.length cG) (some 54) rfl rfl (by kernel_rfl) (by kernel_rfl) (by kernel_rfl) (fun _ d _ _ h => by cases d <;> exact h) (Or.inl ⟨by rfl, fun wv hwv => by go_simp⟩) hS ?_
        (try simp only [Act.put, List.setIfInBounds_toArray, List.set_cons_zero, List.set_cons_succ])
        refine Kit.take2 (i := 3) (v := .int .i64 i) (some 55) rfl rfl (by kernel_rfl) (by kernel_rfl) (by kernel_rfl) (fun _ d _ _ h => by cases d <;> exact h) (Or.inl ⟨by rfl, fun wv hwv => by go_simp⟩) hS ?_
        (try simp only [Act.put, List.setIfInBounds_toArray, List.set_cons_zero, List.set_cons_succ])
        refine Kit.take2 (i := 4) (v := .slice (some ay) i cG) (some 56) rfl rfl (by kernel_rfl) (by kernel_rfl) (by kernel_rfl) (fun _ d _ _ h => by cases d <;> exact h) (Or.inl ⟨by rfl, fun wv hwv => by go_simp⟩) hS ?_
        (try simp only [Act.put, List.setIfInBounds_toArray, List.set_cons_zero, List.set_cons_succ])
        refine Kit.take2 (i := 6) (v := .pointer (some ⟨w.heap.size, 10, none⟩)) (some 58) rfl rfl (by kernel_rfl) (by kernel_rfl) (by kernel_rfl) (fun _ d _ _ h => by cases d <;> exact h) (Or.inl ⟨by rfl, fun wv hwv => by go_simp⟩) hS ?_
        (try simp only [Act.put, List.setIfInBounds_toArray, List.set_cons_zero, List.set_cons_succ])
        refine Kit.take2 (i := 7) (v := .slice (some ay) sg.length cG) (some 59) rfl rfl (by kernel_rfl) (by kernel_rfl) (by kernel_rfl) (fun _ d _ _ h => by cases d <;> exact h) (Or.inl ⟨by rfl, fun wv hwv => by go_simp⟩) hS ?_
        (try simp only [Act.put, List.setIfInBounds_toArray, List.set_cons_zero, List.set_cons_succ])
        refine Kit.take2 (i := 8) (v := .int .i64 i) (some 60) rfl rfl (by kernel_rfl) (by kernel_rfl) (by kernel_rfl) (fun _ d _ _ h => by cases d <;> exact h) (Or.inl ⟨by rfl, fun wv hwv => by go_simp⟩) hS ?_
        (try simp only [Act.put, List.setIfInBounds_toArray, List.set_cons_zero, List.set_cons_succ])
        refine Kit.take2 (i := 9) (v := .int .i64 ((i : Int) + 1)) (some 61) rfl rfl (by kernel_rfl) (by kernel_rfl) (by kernel_rfl) (fun _ d _ _ h => by cases d <;> exact h) (Or.inl ⟨by rfl, fun wv hwv => by go_simp⟩) hS ?_
        (try simp only [Act.put, List.setIfInBounds_toArray, List.set_cons_zero, List.set_cons_succ])
        refine Kit.take2 (i := 10) (v := .slice A2 (sg.length - (i + 1)) (cG - (i + 1))) (some 62) rfl rfl (by kernel_rfl) (by kernel_rfl) (by kernel_rfl) (fun _ d _ _ h => by cases d <;> exact h) (Or.inl ⟨by rfl, fun wv hwv => by go_simp⟩) hS ?_
        (try simp only [Act.put, List.setIfInBounds_toArray, List.set_cons_zero, List.set_cons_succ])
        have HA2 := Lib.hid hA2
        clear hA2
        refine wpAnyH_all (rs := [0]) (by kernel_rfl) (by simp) fun ii hii => ?_
        obtain rfl : ii = 0 := by simpa using hii
        refine Kit.wpOp_value2 (v := .slice (some ⟨W9.heap.size, 0, none⟩) 0 0) (w' := ({ W9 with drawn := W9.drawn + 1 } : World).alloc (.cells #[] 41)) (some 52) rfl rfl rfl (by simp [execOp, go_sem] <;> rfl) ?_
        obtain ⟨V0, hV0⟩ : ∃ V0, V0 = ({ W9 with drawn := W9.drawn + 1 } : World).alloc (.cells #[] 41) := ⟨_, rfl⟩
        rw [← hV0]
        have x0 : Kit.Exc (fun k => k = b9) W9 V0 := by rw [hV0]; exact (Kit.Exc.refl _ W9).drew.alloc _
        have o0 : V0.ownsRow W9.heap.size 41 14 (.slice (some ⟨W9.heap.size, 0, none⟩) 0 0) 0 [] := Ty.own_empty (by rw [hV0]; exact World.alloc_heap_new _ _)
        have q0 : V0.cell? ⟨w.heap.size, 10, none⟩ = some (.slice (some ay) sg.length cG) := x0.cell (p := ⟨w.heap.size, 10, none⟩) G10 (by have := HBE.out; show ¬ (w.heap.size = b9); omega) (by show w.heap.size < _; omega)
        have k0 : V0.heap[b9]? = some (.cells (Ty.wc (⟨wd, dp, ta, tb, tc, n, ro, ts, ps, ss, sg⟩ : Ex.Wk) (⟨aR, cR, aT, cT, aP, cP, aS, cS, some ay, cG⟩ : Ex.Wa) (.slice (some ay) sg.length cG)) 32 (0, 0)) := by
          rw [hV0]
          exact (Below.heap_alloc _ _ _ (Array.getElem?_eq_some_iff.1 H91.out).1).trans H91.out
        have HX0 := Lib.hid x0
        have HO0 := Lib.hid o0
        have HK0 := Lib.hid k0
        have sg0 : Tp.Sl V0 (some ay) sg.length 14 (Ex.sgc sg) := Ty.sl_exc SG9.out x0 (fun _ ad e => by cases e; have := HBE.out; have := hw3_.size; omega)
        have SG0 := Lib.hid sg0
        clear hV0 x0 o0 sg0 k0
        refine ⟨q0, ?_⟩
        (try simp only [Act.put, List.setIfInBounds_toArray, List.set_cons_zero, List.set_cons_succ])
        refine wpAnyH_all (rs := [5]) (by kernel_rfl) (by simp) fun ii hii => ?_
        obtain rfl : ii = 5 := by simpa using hii
        refine Kit.wpOp_append_sl V0 (some 57) rfl rfl rfl (.tmp 52) (.tmp 56) 30 rfl W9.heap.size 41 i0 Ty.zS 14 112 Tryd.underlying30 hI hz0 hz1 hz2 rfl (by decide) (.slice (some ⟨W9.heap.size, 0, none⟩) 0 0) 0 [] rfl HO0.out (some ay) i cG (Ty.flatS (sg.take i)) rfl (by rw [Ty.flatS_len, List.length_take, Nat.min_eq_left (by omega)]) (fun a e j u hu => by cases e; exact Ty.sl_take SG0.out i j u hu) (fun e => by cases e) (Ty.flatS_one _) (by unfold maxLen; omega) (by omega) HX0.out.size ?_
        intro v1 V1 o1 g1 k1
        have x1 : Kit.Exc (fun k => k = b9) W9 V1 := HX0.out.grown g1 (fun k hk => .inr (HO0.out.lt k hk).1)
        have q1 : V1.cell? ⟨w.heap.size, 10, none⟩ = some (.slice (some ay) sg.length cG) := x1.cell (p := ⟨w.heap.size, 10, none⟩) G10 (by have := HBE.out; show ¬ (w.heap.size = b9); omega) (by show w.heap.size < _; omega)
        have hk1 : V1.heap[b9]? = some (.cells (Ty.wc (⟨wd, dp, ta, tb, tc, n, ro, ts, ps, ss, sg⟩ : Ex.Wk) (⟨aR, cR, aT, cT, aP, cP, aS, cS, some ay, cG⟩ : Ex.Wa) (.slice (some ay) sg.length cG)) 32 (0, 0)) := (g1.block b9 (Array.getElem?_eq_some_iff.1 HK0.out).1 (fun e => by have := (HO0.out.lt b9 e.symm).1; have := HBE.out; omega)).trans HK0.out
        have sg1 : Tp.Sl V1 (some ay) sg.length 14 (Ex.sgc sg) := Ty.sl_exc SG9.out x1 (fun _ ad e => by cases e; have := HBE.out; have := hw3_.size; omega)
        simp only [Nat.zero_add, List.nil_append] at o1
        have HX1 := Lib.hid x1
        have HO1 := Lib.hid o1
        have SG1 := Lib.hid sg1
        have HK1 := Lib.hid hk1
        clear x1 o1 g1 k1 sg1 q0 hk1
        refine ⟨q1, ?_⟩
        (try simp only [Act.put, List.setIfInBounds_toArray, List.set_cons_zero, List.set_cons_succ])
        refine wpAnyH_all (rs := [11]) (by kernel_rfl) (by simp) fun ii hii => ?_
        obtain rfl : ii = 11 := by simpa using hii
        refine Kit.wpOp_append_sl V1 (some 63) rfl rfl rfl (.tmp 57) (.tmp 62) 30 rfl W9.heap.size 41 i0 Ty.zS 14 112 Tryd.underlying30 hI hz0 hz1 hz2 rfl (by decide) v1 i (Ty.flatS (sg.take i)) rfl HO1.out A2 (sg.length - (i + 1)) (cG - (i + 1)) (Ty.flatS (sg.drop (i + 1))) rfl (by rw [Ty.flatS_len, List.length_drop]) (fun a e j u hu => by
            rw [← HA2.out] at e
            split at e
            · have h0 : sg.drop (i + 1) = [] := List.drop_eq_nil_of_le (by omega)
              rw [h0] at hu
              simp [Ty.flatS] at hu
            · cases e; exact Ty.sl_drop SG1.out (i + 1) (by omega) j u hu) (fun e => by rw [← HA2.out] at e; split at e <;> cases e) (Ty.flatS_one _) (by unfold maxLen; omega) (by omega) HX1.out.size ?_
        intro v2 V2 o2 g2 k2
        have x2 : Kit.Exc (fun k => k = b9) W9 V2 := HX1.out.grown g2 (fun k hk => .inr (HO1.out.lt k hk).1)
        have q2 : V2.cell? ⟨w.heap.size, 10, none⟩ = some (.slice (some ay) sg.length cG) := x2.cell (p := ⟨w.heap.size, 10, none⟩) G10 (by have := HBE.out; show ¬ (w.heap.size = b9); omega) (by show w.heap.size < _; omega)
        have hk2 : V2.heap[b9]? = some (.cells (Ty.wc (⟨wd, dp, ta, tb, tc, n, ro, ts, ps, ss, sg⟩ : Ex.Wk) (⟨aR, cR, aT, cT, aP, cP, aS, cS, some ay, cG⟩ : Ex.Wa) (.slice (some ay) sg.length cG)) 32 (0, 0)) := (g2.block b9 (Array.getElem?_eq_some_iff.1 HK1.out).1 (fun e => by have := (HO1.out.lt b9 e.symm).1; have := HBE.out; omega)).trans HK1.out
        have hle : i + (sg.length - (i + 1)) = (sg.eraseIdx i).length := by rw [List.length_eraseIdx, if_pos li]; omega
        rw [Ty.flat_erase, hle] at o2
        obtain ⟨a2, cc2, rfl, _⟩ := Ty.slice_of2 o2
        have y10 : V2.cell? ⟨b9, 10, none⟩ = some (.slice (some ay) sg.length cG) := (Ty.wc_cells hk2).1 10 (by omega)
        have yf := (Ty.wc_cells hk2).2 10
        have zy := (Array.getElem?_eq_some_iff.1 hk2).1
        have HX2 := Lib.hid x2
        have HO2 := Lib.hid o2
        have HK2 := Lib.hid hk2
        clear x2 o2 g2 k2 q1 hk2
        refine ⟨q2, ?_⟩
        (try simp only [Act.put, List.setIfInBounds_toArray, List.set_cons_zero, List.set_cons_succ])
        refine Kit.take2 (i := 12) (v := .pointer (some ⟨b9, 10, none⟩)) (some 64) rfl rfl (by kernel_rfl) (by kernel_rfl) (by kernel_rfl) (fun _ d _ _ h => by cases d <;> exact h) (Or.inl ⟨by rfl, fun wv hwv => by go_simp⟩) q2 ?_
        (try simp only [Act.put, List.setIfInBounds_toArray, List.set_cons_zero, List.set_cons_succ])
        refine wpAnyH_ready (rs := [13]) (by kernel_rfl) (by simp) ?_
        refine AllReadyH.cons rfl (fun K hK => ?_) AllReadyH.nil
        go_simp
        refine hK.out _ _ ?_ (fun hHeld => ?_)
        · exact (World.cell?_setCell_far _ _ _ _ (by have := HBE.out; show b9 ≠ w.heap.size; omega)).trans q2
        refine wpAnyH_done (by kernel_rfl) ?_ _
        go_wp2_with fail
        go_meet
        case rel => exact ⟨rfl, _, Ty.own_keep HO2.out (fun g hg => Below.heap_setCell _ _ _ _ (by have := (HO2.out.lt g hg).1; have := HBE.out; show g ≠ b9; omega)), (by show _ = _; rw [heap_setCell_same _ _ _ _ _ _ HK2.out]; simp), HX2.out.setCell (.inl rfl) _⟩
      case rest =>
        obtain ⟨rfl, v, HO, HX, HE⟩ := hcut
        obtain ⟨W10, rfl⟩ : ∃ W10, W10 = wc := ⟨_, rfl⟩
        obtain ⟨se, hse⟩ : ∃ se, se = sg.eraseIdx i := ⟨_, rfl⟩
        rw [← hse] at HO
        have HSE := Lib.hid hse
        have hsl : se.length ≤ 4096 := by rw [hse, List.length_eraseIdx]; split <;> omega
        have HB10 := Lib.hid (HB9.out.trans (HE.out.below (n := w3_.heap.size) (by omega) (fun k hk => by have := HBE.out; omega)))
        have HBw := Lib.hid (hw3_.trans (HB10.out.mono hw3_.size))
        have HATr := Lib.hid (HAT.out.kept HBw.out (Nat.le_refl _))
        have HLDr := Lib.hid (HLD.out.kept HBw.out (Nat.le_refl _))
        obtain ⟨a1, c1, rfl, HA1⟩ := Ty.at_own HATr.out HO.out hsl
        have HAX := Lib.hid HA1
        have C8 := Lib.hid (show Ty.Cs W10 b8 [.int .i64 g.id, .int .i64 g.role, .int .i64 g.bar, .int .i64 g.mark, .int .i64 g.kind, .int .i64 g.side, .int .i64 g.dir, .int .i64 g.level, .int .i64 g.size, .int .i64 g.wth, .int .i64 g.fn, .int .i64 g.fd, .int .i64 g.tn, .int .i64 g.td] from (Ty.Cs.of_blk H81.out).exc HE.out (by have := HBE.out; omega))
        have SF10 := Lib.hid (Ty.sl_exc SF9.out HE.out (fun hn ad e h => by
          rcases SF3b.out with h3 | ⟨ad', e3, h3, _⟩
          · exact hn h3
          · rw [e] at e3; cases e3; have := HBE.out; omega))
        obtain ⟨lb, hlb⟩ : ∃ lb, lb = Ty.refL se := ⟨_, rfl⟩
        have hlbl : lb.length ≤ 100000000 := by rw [hlb]; exact Ty.refL_len _ hsl
        have HLB := Lib.hid hlb
        have hfx : ∀ W, Below W10.heap.size W10 W → Calls Tryd.prog 14 #[Ex.wv wd dp ta tb tc aR ro.length cR n aT ts.length cT aP ps.length cP aS ss.length cS a1 se.length c1] W fun e w' => ∃ a c, e = .returned (.tuple #[.slice a lb.length c, .int .i64 0]) ∧ Tp.Sl w' a lb.length 3 (Ty.f3c lb) ∧ Below W.heap.size W w' := fun W hb => by
          have h := Ty.faults_at (HAX.out.kept hb (Nat.le_refl _)) (HLDr.out.kept hb (Nat.le_refl _)) (by have := HC1.out i; rw [← HSE.out] at this; exact this)
          dsimp only at h
          rw [← HLB.out] at h
          exact h
        have HFX := Lib.hid hfx
        have HSL10 := Lib.hid HA1.sg
        clear hfx HA1 hse hlb HATr HLDr HAX HO HB9 HE G10 g3_w_0 g3_w_1 g3_w_2 g3_w_3 g3_w_4 g3_w_5 g3_w_6 g3_w_7 g3_w_8 g3_w_9 g3_w_10 SF9 SG9
        obtain ⟨kx, fx⟩ := Ty.wc_cells HX.out
        have x0 := kx 0 (by omega)
        have x1 := kx 1 (by omega)
        have x2 := kx 2 (by omega)
        have x3 := kx 3 (by omega)
        have x4 := kx 4 (by omega)
        have x5 := kx 5 (by omega)
        have x6 := kx 6 (by omega)
        have x7 := kx 7 (by omega)
        have x8 := kx 8 (by omega)
        have x9 := kx 9 (by omega)
        have x10 := kx 10 (by omega)
        have zx := (Array.getElem?_eq_some_iff.1 HX.out).1
        simp only [Ty.wc] at x0 x1 x2 x3 x4 x5 x6 x7 x8 x9 x10
        clear kx fx
        go_wp2_with fail
        refine (HFX.out _ (Below.refl _ _)).mono ?_
        rintro _ w20 ⟨aB, cB, rfl, hsB, hb20⟩
        have SB20 := Lib.hid hsB
        have SF20 := Lib.hid (SF10.out.kept hb20 (Nat.le_refl _))
        have C20 := Lib.hid (C8.out.kept hb20 (Nat.le_refl _))
        have HX20 := Lib.hid ((hb20.block b9 zx).trans HX.out)
        have SL20 := Lib.hid (HSL10.out.kept hb20 (Nat.le_refl _))
        have HB20 := Lib.hid (HBw.out.trans (hb20.mono HBw.out.size))
        clear hsB hb20 x0 x1 x2 x3 x4 x5 x6 x7 x8 x9 x10 zx HFX SF10 C8 HX HSL10 HBw HB10
        have hmm := @run_makeMap Tryd.prog
        go_wp2_with fail
        clear hmm
        refine Kit.wp_name ?_
        intro W21 hW21
        obtain ⟨M, hM⟩ : ∃ M, M = w20.heap.size := ⟨_, rfl⟩
        rw [← hM]
        have HM21 := Lib.hid (show Kit.FSet Tryd.prog 56 3 W21 M 0 [] by rw [hW21, hM]; exact Kit.FSet.made _ _ _ _)
        have HB21 := Lib.hid (show Below w20.heap.size w20 W21 by rw [hW21]; exact (Below.refl _ _).alloc (Nat.le_refl _) _)
        have HMM := Lib.hid hM
        clear hW21 hM
        have HWB := Lib.hid (show ∀ y ∈ lb, ∀ a ∈ Ty.ek y, Kit.wfI a from fun y hy => Ty.ref_wf (HSE.out ▸ Ty.inc_erase HIC.out i) (fun s hs => HBD.out s (by rw [HSE.out] at hs; exact List.mem_of_mem_eraseIdx hs)) (by rw [← HLB.out]; exact hy))
        have HWA := Lib.hid (show ∀ y ∈ l, ∀ a ∈ Ty.ek y, Kit.wfI a from fun y hy => Ty.ref_wf HIC.out HBD.out (by rw [← HL0.out]; exact hy))
        have HND := Lib.hid (show lb.Nodup by rw [HLB.out, HSE.out]; exact Ty.ref_nodup (Ty.inc_erase HIC.out i))
        go_loopw [75] (fun v75 wr => ∃ (j n2 : Nat), v75 = .int .i64 j ∧ j ≤ lb.length ∧ n2 ≤ j ∧ Hid (Kit.FSet Tryd.prog 56 3 wr M n2 ((lb.take j).map Ty.ek)) ∧ Hid (Below w20.heap.size w20 wr))
          (fun v75 _ => lb.length - (intOf v75).toNat)
        case atStart => exact ⟨0, 0, rfl, Nat.zero_le _, Nat.le_refl _, HM21.out, HB21.out⟩
        case round =>
          obtain ⟨j, n2, rfl, hj, hn2, HM, HB⟩ := hrel
          by_cases hlt : j < lb.length
          · have h := SB20.out.kept HB.out (Nat.le_refl _)
            obtain ⟨ad, rfl, had, _⟩ := SB20.out.at hlt
            have f0 := h.head hlt (by omega)
            have f1 := h.field hlt (j := 1) (by omega) (by omega)
            have f2 := h.field hlt (j := 2) (by omega) (by omega)
            obtain ⟨x, hx⟩ : ∃ x, lb.getD j (0, 0, 0) = x := ⟨_, rfl⟩
            have hxi : lb[j]? = some x := by rw [← hx]; simp [List.getD, hlt]
            have HTK := Lib.hid (show lb.take (j + 1) = lb.take j ++ [x] by rw [List.take_add_one, hxi]; rfl)
            have HWX := Lib.hid (HWB.out x (List.mem_of_getElem? hxi))
            have HNX := Lib.hid (show Ty.ek x ∉ (lb.take j).map Ty.ek by
              rw [Ty.ek_mem]
              intro hm
              obtain ⟨q, hq, e⟩ := List.mem_iff_getElem.1 hm
              rw [List.getElem_take] at e
              obtain ⟨hi', e2⟩ := List.getElem?_eq_some_iff.1 hxi
              have hq' : q < j := by simp at hq; omega
              exact List.pairwise_iff_getElem.1 HND.out q j (by omega) hi' hq' (e.trans e2.symm))
            simp only [Ty.f3c, hx] at f0 f1 f2
            have hadr : (ad.add (j * 3)).block < wr.heap.size := by rw [Tp.add_block]; have := HB.out.size; omega
            clear h hx hxi
            go_wp2_with (at_mapUpdate; refine Kit.wpList_mapUpdate_fset _ rfl _ _ _ 60 rfl 56 4 3 Ty.keyF Tryd.underlying60 M n2 _ rfl (HM.out.alloc _) (by unfold maxLen; omega) (Ty.ek x) rfl rfl HWX.out rfl HNX.out ?_; intro w5 hi5 hg5; have HI5 := Lib.hid hi5; have HG5 := Lib.hid hg5; clear hi5 hg5)
            go_roundw
            case rel => exact ⟨j + 1, n2 + 1, by go_num, by omega, by omega, (by show Kit.FSet _ _ _ _ _ _ _; rw [HTK.out, List.map_append]; exact HI5.out), (HB.out.alloc HB.out.size _).grown HG5.out (by simp; have := HB.out.size; omega) (fun k hk => by cases hk; exact Nat.le_of_eq HMM.out.symm)⟩
            case measure => simp [intOf]; omega
          · obtain rfl : j = lb.length := by omega
            rw [List.take_length] at HM
            have HMs := Lib.hid (show Kit.FSet Tryd.prog 56 3 wr M n2 ((Ty.S2 lb [] g.id).map Ty.ek) by
              have e : Ty.S2 lb [] g.id = lb := List.filter_eq_self.2 (fun _ _ => rfl)
              rw [e]; exact HM.out)
            have HB30 := Lib.hid HB.out
            obtain ⟨W30, rfl⟩ : ∃ W30, W30 = wr := ⟨_, rfl⟩
            clear HM HB HM21 HB21 HND HWB SB20
            go_wp2_with fail
            go_loopw [84] (fun v84 wr => ∃ (j n3 : Nat), v84 = .int .i64 j ∧ j ≤ l.length ∧ Hid (Kit.FSet Tryd.prog 56 3 wr M n3 ((Ty.S2 lb (l.take j) g.id).map Ty.ek)) ∧ Hid (Below w20.heap.size w20 wr))
              (fun v84 _ => l.length - (intOf v84).toNat)
            case atStart => exact ⟨0, _, rfl, Nat.zero_le _, HMs.out, HB30.out⟩
            case round =>
              obtain ⟨j, n3, rfl, hj, HM, HB⟩ := hrel
              by_cases hlt : j < l.length
              · have h := SF20.out.kept HB.out (Nat.le_refl _)
                obtain ⟨ad, rfl, had, _⟩ := SF20.out.at hlt
                have f0 := h.head hlt (by omega)
                have f1 := h.field hlt (j := 1) (by omega) (by omega)
                have f2 := h.field hlt (j := 2) (by omega) (by omega)
                obtain ⟨x, hx⟩ : ∃ x, l.getD j (0, 0, 0) = x := ⟨_, rfl⟩
                have hxi : l[j]? = some x := by rw [← hx]; simp [List.getD, hlt]
                have HTK := Lib.hid (show l.take (j + 1) = l.take j ++ [x] by rw [List.take_add_one, hxi]; rfl)
                have HWX := Lib.hid (HWA.out x (List.mem_of_getElem? hxi))
                have HIN := Lib.hid (show (x.2.1 == g.id || x.2.2 == g.id) = false → x ∈ Ty.S2 lb (l.take j) g.id from fun hn => by
                  have := Ty.S2_in HIC.out HG.out (i := j) (x := x) (by rw [← HL0.out]; exact hxi) hn
                  rwa [← HSE.out, ← HLB.out, ← HL0.out] at this)
                simp only [Ty.f3c, hx] at f0 f1 f2
                have hadr : (ad.add (j * 3)).block < wr.heap.size := by rw [Tp.add_block]; have := HB.out.size; omega
                have Cr := C20.out.kept HB.out (Nat.le_refl _)
                have z8 := Cr.1
                have g0 := Cr.2 0 _ rfl
                obtain ⟨w23, hw23⟩ : ∃ w23, w23 = wr.alloc (.cells #[.int .i64 x.1, .int .i64 x.2.1, .int .i64 x.2.2] 56) := ⟨_, rfl⟩
                have HS23 := (HM.out.alloc (.cells #[.int .i64 x.1, .int .i64 x.2.1, .int .i64 x.2.2] 56))
                have lk : (Instr.lookup 60 (.map (some M)) (.agg #[.int .i64 x.1, .int .i64 x.2.1, .int .i64 x.2.2]) false).run Tryd.prog (wr.alloc (.cells #[.int .i64 x.1, .int .i64 x.2.1, .int .i64 x.2.2] 56)) = .ok (.bool (decide (Ty.ek x ∈ (Ty.S2 lb (l.take j) g.id).map Ty.ek))) _ := HS23.look Ty.keyF Tryd.underlying60 (by kernel_rfl) (Ty.ek x) rfl HWX.out
                have LK := Lib.hid lk
                clear lk h hx hxi HS23 hw23 w23 Cr
                rcases c1 : (x.2.1 == g.id) with _ | _
                · rcases c2 : (x.2.2 == g.id) with _ | _
                  · have hin := HIN.out (by rw [c1, c2]; rfl)
                    have lk := LK.out
                    rw [decide_eq_true (Ty.ek_mem.2 hin)] at lk
                    have HI' := Lib.hid (Ty.ek_mem.2 hin)
                    clear hin
                    go_wp2_with (at_delete; refine Kit.wpList_delete_fset _ rfl _ _ 60 56 rfl 4 3 Ty.keyF Tryd.underlying60 M n3 _ rfl (HM.out.alloc _) (Ty.ek x) rfl rfl HWX.out HI'.out ?_; intro w5 hi5 hg5; have HI5 := Lib.hid hi5; have HG5 := Lib.hid hg5; clear hi5 hg5)
                    go_roundw
                    case rel => exact ⟨j + 1, n3, by go_num, by omega, (by show Kit.FSet _ _ _ _ _ _ _; rw [HTK.out, ← Ty.S2_take _ _ _ _ (by rw [c1, c2]; rfl)]; exact HI5.out), (HB.out.alloc HB.out.size _).grown HG5.out (by simp; have := HB.out.size; omega) (fun k hk => by cases hk; exact Nat.le_of_eq HMM.out.symm)⟩
                    case measure => simp [intOf]; omega
                  · go_wp2
                    go_roundw
                    case rel => exact ⟨j + 1, n3, by go_num, by omega, (by show Kit.FSet _ _ _ _ _ _ _; rw [HTK.out, Ty.S2_skip _ _ _ _ (by rw [c1, c2]; rfl)]; exact HM.out.alloc _), HB.out.alloc HB.out.size _⟩
                    case measure => simp [intOf]; omega
                · go_wp2
                  go_roundw
                  case rel => exact ⟨j + 1, n3, by go_num, by omega, (by show Kit.FSet _ _ _ _ _ _ _; rw [HTK.out, Ty.S2_skip _ _ _ _ (by rw [c1]; rfl)]; exact HM.out.alloc _), HB.out.alloc HB.out.size _⟩
                  case measure => simp [intOf]; omega
              · obtain rfl : j = l.length := by omega
                rw [List.take_length] at HM
                have HMs := Lib.hid (show Kit.FSet Tryd.prog 56 3 wr M n3 ((Ty.S3 lb l [] g).map Ty.ek) by rw [Ty.S3_start]; exact HM.out)
                have HB40 := Lib.hid HB.out
                obtain ⟨W40, rfl⟩ : ∃ W40, W40 = wr := ⟨_, rfl⟩
                have X40 := (HB40.out.block b9 (Array.getElem?_eq_some_iff.1 HX20.out).1).trans HX20.out
                have x10 : W40.cell? ⟨b9, 10, none⟩ = some (.slice a1 se.length c1) := (Ty.wc_cells X40).1 10 (by omega)
                have zx := (Array.getElem?_eq_some_iff.1 X40).1
                clear HM HB HB30 SF20 HWA X40
                go_wp2_with fail
                clear x10
                go_loopw [110] (fun v110 wr => ∃ (j n4 : Nat), v110 = .int .i64 j ∧ j ≤ se.length ∧ Hid (Kit.FSet Tryd.prog 56 3 wr M n4 ((Ty.S3 lb l (se.take j) g).map Ty.ek)) ∧ Hid (Below w20.heap.size w20 wr))
                  (fun v110 _ => se.length - (intOf v110).toNat)
                case atStart => exact ⟨0, _, rfl, Nat.zero_le _, HMs.out, HB40.out⟩
                case round =>
                  obtain ⟨j, n4, rfl, hj, HM, HB⟩ := hrel
                  by_cases hlt : j < se.length
                  · have h := SL20.out.kept HB.out (Nat.le_refl _)
                    obtain ⟨ay2, rfl, hay2, _⟩ := SL20.out.at hlt
                    have e0 := h.head hlt (by omega)
                    have e1 := h.field hlt (j := 1) (by omega) (by omega)
                    have e2 := h.field hlt (j := 2) (by omega) (by omega)
                    have e3 := h.field hlt (j := 3) (by omega) (by omega)
                    have e4 := h.field hlt (j := 4) (by omega) (by omega)
                    have e5 := h.field hlt (j := 5) (by omega) (by omega)
                    have e6 := h.field hlt (j := 6) (by omega) (by omega)
                    have e7 := h.field hlt (j := 7) (by omega) (by omega)
                    have e8 := h.field hlt (j := 8) (by omega) (by omega)
                    have e9 := h.field hlt (j := 9) (by omega) (by omega)
                    have e10 := h.field hlt (j := 10) (by omega) (by omega)
                    have e11 := h.field hlt (j := 11) (by omega) (by omega)
                    have e12 := h.field hlt (j := 12) (by omega) (by omega)
                    have e13 := h.field hlt (j := 13) (by omega) (by omega)
                    obtain ⟨e, hxe⟩ : ∃ e, se.getD j default = e := ⟨_, rfl⟩
                    have hie : se[j]? = some e := by rw [← hxe]; simp [List.getD, hlt]
                    have hme : e ∈ sg := by
                      have := List.mem_of_getElem? hie
                      rw [HSE.out] at this
                      exact List.mem_of_mem_eraseIdx this
                    have hbe := (HBD.out e hme).id
                    have hre := (HRT.out e hme).role
                    have HTK := Lib.hid (show se.take (j + 1) = se.take j ++ [e] by rw [List.take_add_one, hie]; rfl)
                    simp only [Ex.sgc, hxe] at e0 e1 e2 e3 e4 e5 e6 e7 e8 e9 e10 e11 e12 e13
                    have hadr : (ay2.add (j * 14)).block < wr.heap.size := by rw [Tp.add_block]; have := HB.out.size; omega
                    have Cr := Lib.hid (C20.out.kept HB.out (Nat.le_refl _))
                    have HWX := Lib.hid (show ∀ a ∈ Ty.ek (3, e.id, e.id), Kit.wfI a from fun a ha => by
                      simp only [Ty.ek, List.mem_cons, List.not_mem_nil, or_false] at ha
                      rcases ha with rfl | rfl | rfl
                      · decide
                      · exact Ty.wf_big hbe
                      · exact Ty.wf_big hbe)
                    clear h hxe hie hme
                    go_upto_region 31 with fail
                    refine Kit.wp_name ?_
                    intro W50 hW50
                    have b50 : Below wr.heap.size wr W50 := by rw [hW50]; exact ((Below.refl _ _).alloc (Nat.le_refl _) _).alloc (by simp) _
                    have CE := Lib.hid (show Ty.Cs W50 wr.heap.size [.int .i64 e.id, .int .i64 e.role, .int .i64 e.bar, .int .i64 e.mark, .int .i64 e.kind, .int .i64 e.side, .int .i64 e.dir, .int .i64 e.level, .int .i64 e.size, .int .i64 e.wth, .int .i64 e.fn, .int .i64 e.fd, .int .i64 e.tn, .int .i64 e.td] by rw [hW50]; exact Ty.Cs.more (Ty.Cs.top rfl) _)
                    have CY := Lib.hid (show Ty.Cs W50 (wr.heap.size + 1) [.int .i64 3, .int .i64 e.id, .int .i64 e.id] by rw [hW50]; exact Ty.Cs.top (by simp))
                    have C50 := Lib.hid (Cr.out.kept b50 (Nat.le_refl _))
                    have HM50 := Lib.hid (HM.out.kept (b50.block M HM.out.lt))
                    have HB50 := Lib.hid (HB.out.trans (b50.mono HB.out.size))
                    clear hW50 b50 e0 e1 e2 e3 e4 e5 e6 e7 e8 e9 e10 e11 e12 e13 HM HB Cr hadr
                    have lk : (Instr.lookup 60 (.map (some M)) (.agg #[.int .i64 3, .int .i64 e.id, .int .i64 e.id]) false).run Tryd.prog W50 = .ok (.bool (decide (Ty.ek (3, e.id, e.id) ∈ (Ty.S3 lb l (se.take j) g).map Ty.ek))) _ := HM50.out.look Ty.keyF Tryd.underlying60 (by kernel_rfl) (Ty.ek (3, e.id, e.id)) rfl HWX.out
                    have q1 := CE.out.2 1 _ rfl
                    have q2 := CE.out.2 2 _ rfl
                    have q9 := CE.out.2 9 _ rfl
                    have y0 := CY.out.2 0 _ rfl
                    have y1 := CY.out.2 1 _ rfl
                    have y2 := CY.out.2 2 _ rfl
                    have g1 := C50.out.2 1 _ rfl
                    have g2 := C50.out.2 2 _ rfl
                    have g9 := C50.out.2 9 _ rfl
                    have zq := CE.out.1
                    have zy := CY.out.1
                    have z8 := C50.out.1
                    rcases hd : (decide (Ty.ek (3, e.id, e.id) ∈ (Ty.S3 lb l (se.take j) g).map Ty.ek)) with _ | _
                    · rw [hd] at lk
                      have hno : (3, e.id, e.id) ∉ Ty.S3 lb l (se.take j) g := fun h => by rw [decide_eq_true (Ty.ek_mem.2 h)] at hd; cases hd
                      have HNO := Lib.hid hno
                      clear hd hno
                      go_wp2
                      go_roundw
                      case rel => exact ⟨j + 1, n4, by go_num, by omega, (by show Kit.FSet _ _ _ _ _ _ _; rw [HTK.out, Ty.S3_skip _ _ _ _ _ (.inr HNO.out)]; exact HM50.out), HB50.out⟩
                      case measure => simp [intOf]; omega
                    · rw [hd] at lk
                      have HYS := Lib.hid (of_decide_eq_true hd)
                      clear hd
                      rcases c1 : (e.bar == g.bar) with _ | _
                      · go_wp2
                        go_roundw
                        case rel => exact ⟨j + 1, n4, by go_num, by omega, (by show Kit.FSet _ _ _ _ _ _ _; rw [HTK.out, Ty.S3_skip _ _ _ _ _ (.inl (by simp [Ty.nms, c1]))]; exact HM50.out), HB50.out⟩
                        case measure => simp [intOf]; omega
                      · rcases c2 : (e.wth == g.role + 1) with _ | _
                        · go_wp2
                          go_roundw
                          case rel => exact ⟨j + 1, n4, by go_num, by omega, (by show Kit.FSet _ _ _ _ _ _ _; rw [HTK.out, Ty.S3_skip _ _ _ _ _ (.inl (by simp [Ty.nms, c1, c2]))]; exact HM50.out), HB50.out⟩
                          case measure => simp [intOf]; omega
                        · rcases c3 : (g.wth == e.role + 1) with _ | _
                          · go_wp2
                            go_roundw
                            case rel => exact ⟨j + 1, n4, by go_num, by omega, (by show Kit.FSet _ _ _ _ _ _ _; rw [HTK.out, Ty.S3_skip _ _ _ _ _ (.inl (by simp [Ty.nms, c1, c2, c3]))]; exact HM50.out), HB50.out⟩
                            case measure => simp [intOf]; omega
                          · go_wp2_with (at_delete; refine Kit.wpList_delete_fset _ rfl _ _ 60 56 rfl 4 3 Ty.keyF Tryd.underlying60 M n4 _ rfl HM50.out (Ty.ek (3, e.id, e.id)) rfl rfl HWX.out HYS.out ?_; intro w5 hi5 hg5; have HI5 := Lib.hid hi5; have HG5 := Lib.hid hg5; clear hi5 hg5)
                            go_roundw
                            case rel => exact ⟨j + 1, n4, by go_num, by omega, (by show Kit.FSet _ _ _ _ _ _ _; rw [HTK.out, ← Ty.S3_take _ _ _ _ _ (by simp [Ty.nms, c1, c2, c3])]; exact HI5.out), HB50.out.grown HG5.out HB50.out.size (fun k hk => by cases hk; exact Nat.le_of_eq HMM.out.symm)⟩
                            case measure => simp [intOf]; omega
                  · obtain rfl : j = se.length := by omega
                    rw [List.take_length] at HM
                    have hend : Ty.S3 lb l se g = [] := by
                      have := Ty.S3_end HIC.out HG.out
                      rwa [← HSE.out, ← HLB.out, ← HL0.out] at this
                    rw [hend] at HM
                    have ln : ∀ ty, (Builtin.len_ #[60] ty #[.map (some M)]).run Tryd.prog wr = .ok (.int .i64 0) wr := fun ty => HM.out.len Tryd.underlying60 ty
                    have HBF := Lib.hid (HB20.out.trans (HB.out.mono HB20.out.size))
                    clear hend
                    go_wp2
                    go_ret
                    exact ⟨rfl, HBF.out⟩
    · go_wp2
      go_ret
      exact ⟨rfl, by (repeat' first | (with_reducible first | exact Below.refl _ _ | assumption | refine Kit.below_drewN ?_ _ | refine Below.drew ?_ | refine Below.alloc ?_ ?_ _ | refine Below.setCell ?_ ?_ _ | exact Nat.le_refl _) | omega | (simp; omega) | (simp; done) | (apply Below.size; assumption))⟩
  · go_wp2
    go_ret
    exact ⟨rfl, by (repeat' first | (with_reducible first | exact Below.refl _ _ | assumption | refine Kit.below_drewN ?_ _ | refine Below.drew ?_ | refine Below.alloc ?_ ?_ _ | refine Below.setCell ?_ ?_ _ | exact Nat.le_refl _) | omega | (simp; omega) | (simp; done) | (apply Below.size; assumption))⟩
end Go.Proofs.YtggfeblfhabmkaaDoor
