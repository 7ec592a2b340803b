/- Walks: the law ApartGroups: right works. -/
import Derived.Test.YtjoieglhmladhaaDoorLwH
namespace Go.Proofs.YtjoieglhmladhaaDoor
set_option linter.unusedVariables false
set_option linter.unusedSimpArgs false
open Go.RowKit Go.Shelf

namespace Lw
def eqL (lab : Nat → Int) (p : Int × Int) : Bool := lab p.1.toNat == lab p.2.toNat
end Lw
set_option maxRecDepth 100000 in
set_option maxHeartbeats 2000000 in
theorem law_groups_3 (wd dp ta tb tc : Int) (aR : Option Addr) (nR cR : Nat) (n : Int) (aT : Option Addr) (nT cT : Nat) (aP : Option Addr) (nP cP : Nat) (aS : Option Addr) (nS cS : Nat) (aG : Option Addr) (nG cG : Nat) (bar : Int) (aL : Option Addr) (nL cL : Nat) (w : World) (hS : ∀ W, Below w.heap.size w W → Calls Tryd.prog 11 #[] W fun e w' => e = .returned (.bool true) ∧ Below W.heap.size W w') (hF : ∀ W, Below w.heap.size w W → Calls Tryd.prog 14 #[Ex.wv wd dp ta tb tc aR nR cR n aT nT cT aP nP cP aS nS cS aG nG cG, .agg #[.slice none 0 0], .slice none 0 0, .slice none 0 0, .slice none 0 0] W fun e w' => e = .returned (.bool true) ∧ Below W.heap.size W w') (lR : nR ≤ 64) (lL : nL ≤ 4611686018427387904) (L : List (Int × Int)) (hLl : L.length ≤ 4096) (G : Nat → Nat) (lab : Nat → Int)
    (hP : ∀ W, Below w.heap.size w W → Calls Tryd.prog 15 #[Ex.wv wd dp ta tb tc aR nR cR n aT nT cT aP nP cP aS nS cS aG nG cG, .int .i64 bar] W fun e w' => ∃ ad c, e = .returned (.tuple #[.slice ad L.length c, .int .i64 0]) ∧ Tp.Sl w' ad L.length 2 (Ap.prc L) ∧ Below W.heap.size W w')
    (hG : ∀ W, Below w.heap.size w W → Calls Tryd.prog 17 #[Ex.wv wd dp ta tb tc aR nR cR n aT nT cT aP nP cP aS nS cS aG nG cG, .int .i64 bar] W fun e w' => ∃ ad c, e = .returned (.tuple #[.slice ad nR c, .int .i64 0]) ∧ Tp.Sl w' ad nR 1 (fun i _ => .int .i64 (G i)) ∧ Below W.heap.size W w')
    (g1 : ∀ j, G j ≤ j) (g2 : ∀ j, G (G j) = G j) (hL : ∀ p ∈ L, ∃ u v : Nat, p = ((u : Int), (v : Int)) ∧ u < v ∧ v < nR ∧ G u = G v) (sL : Tp.Sl w aL nL 1 (fun i _ => .int .u8 (lab i)))
    (hlab : L.all (Lw.eqL lab) = true → ∀ j, lab j = lab (G j)) :
    Calls Tryd.prog 8 #[Ex.wv wd dp ta tb tc aR nR cR n aT nT cT aP nP cP aS nS cS aG nG cG, .int .i64 bar, .slice aL nL cL] w fun e w' => e = .returned (.bool true) ∧ Below w.heap.size w w' := by
  have HS := Lib.hid hS; clear hS
  have HF := Lib.hid hF; clear hF
  have HP := Lib.hid hP; clear hP
  have HG := Lib.hid hG; clear hG
  have G1 := Lib.hid g1; clear g1
  have G2 := Lib.hid g2; clear g2
  have HL := Lib.hid hL; clear hL
  have SL := Lib.hid sL; clear sL
  have HLAB := Lib.hid hlab; clear hlab
  go_enter Tryd.func8, Tryd.ntmps8
  skip
  (go_wp2_with (fail); refine (HS.out _ (by (repeat' (first | (with_reducible exact Below.refl _ _) | (with_reducible assumption) | (with_reducible refine Kit.below_drewN ?_ _) | (with_reducible refine Below.drew ?_) | (with_reducible refine Below.alloc ?_ ?_ _) | (with_reducible refine Below.setCell ?_ ?_ _) | (with_reducible exact Nat.le_refl _) | omega | (simp; omega) | (simp; done) | (apply Below.size; assumption))))).mono ?_; rintro e w1_ ⟨rfl, hb1_⟩; have hp1_ : Below w.heap.size w w1_ := Below.trans (by (repeat' (first | (with_reducible exact Below.refl _ _) | (with_reducible assumption) | (with_reducible refine Kit.below_drewN ?_ _) | (with_reducible refine Below.drew ?_) | (with_reducible refine Below.alloc ?_ ?_ _) | (with_reducible refine Below.setCell ?_ ?_ _) | (with_reducible exact Nat.le_refl _) | omega | (simp; omega) | (simp; done) | (apply Below.size; assumption)))) (hb1_.mono (by first | assumption | (simp; done) | (simp; omega) | omega)); have hw1_ : Below w.heap.size w w1_ := hp1_; obtain ⟨hc1_, hf1_⟩ := Kit.bcell hb1_; have z1_w : w.heap.size < w1_.heap.size := (by have := hb1_.size; first | omega | (simp at this; omega)); have g1_w_0 : w1_.cell? ⟨w.heap.size, 0, none⟩ = some (.int .i64 wd) := (by rw [hc1_ _ _ (by first | assumption | (simp; done) | (simp; omega) | omega)]; first | assumption | (simp [go_sem]; done) | (simp [go_sem, *]; done)); have g1_w_1 : w1_.cell? ⟨w.heap.size, 1, none⟩ = some (.int .i64 dp) := (by rw [hc1_ _ _ (by first | assumption | (simp; done) | (simp; omega) | omega)]; first | assumption | (simp [go_sem]; done) | (simp [go_sem, *]; done)); have g1_w_2 : w1_.cell? ⟨w.heap.size, 2, none⟩ = some (.int .i64 ta) := (by rw [hc1_ _ _ (by first | assumption | (simp; done) | (simp; omega) | omega)]; first | assumption | (simp [go_sem]; done) | (simp [go_sem, *]; done)); have g1_w_3 : w1_.cell? ⟨w.heap.size, 3, none⟩ = some (.int .i64 tb) := (by rw [hc1_ _ _ (by first | assumption | (simp; done) | (simp; omega) | omega)]; first | assumption | (simp [go_sem]; done) | (simp [go_sem, *]; done)); have g1_w_4 : w1_.cell? ⟨w.heap.size, 4, none⟩ = some (.int .i64 tc) := (by rw [hc1_ _ _ (by first | assumption | (simp; done) | (simp; omega) | omega)]; first | assumption | (simp [go_sem]; done) | (simp [go_sem, *]; done)); have g1_w_5 : w1_.cell? ⟨w.heap.size, 5, none⟩ = some (.slice aR nR cR) := (by rw [hc1_ _ _ (by first | assumption | (simp; done) | (simp; omega) | omega)]; first | assumption | (simp [go_sem]; done) | (simp [go_sem, *]; done)); have g1_w_6 : w1_.cell? ⟨w.heap.size, 6, none⟩ = some (.int .i64 n) := (by rw [hc1_ _ _ (by first | assumption | (simp; done) | (simp; omega) | omega)]; first | assumption | (simp [go_sem]; done) | (simp [go_sem, *]; done)); have g1_w_7 : w1_.cell? ⟨w.heap.size, 7, none⟩ = some (.slice aT nT cT) := (by rw [hc1_ _ _ (by first | assumption | (simp; done) | (simp; omega) | omega)]; first | assumption | (simp [go_sem]; done) | (simp [go_sem, *]; done)); have g1_w_8 : w1_.cell? ⟨w.heap.size, 8, none⟩ = some (.slice aP nP cP) := (by rw [hc1_ _ _ (by first | assumption | (simp; done) | (simp; omega) | omega)]; first | assumption | (simp [go_sem]; done) | (simp [go_sem, *]; done)); have g1_w_9 : w1_.cell? ⟨w.heap.size, 9, none⟩ = some (.slice aS nS cS) := (by rw [hc1_ _ _ (by first | assumption | (simp; done) | (simp; omega) | omega)]; first | assumption | (simp [go_sem]; done) | (simp [go_sem, *]; done)); have g1_w_10 : w1_.cell? ⟨w.heap.size, 10, none⟩ = some (.slice aG nG cG) := (by rw [hc1_ _ _ (by first | assumption | (simp; done) | (simp; omega) | omega)]; first | assumption | (simp [go_sem]; done) | (simp [go_sem, *]; done)); clear hc1_ hf1_; clear hb1_ hp1_)
  (go_wp2_with (fail); refine (HF.out _ (by (repeat' (first | (with_reducible exact Below.refl _ _) | (with_reducible assumption) | (with_reducible refine Kit.below_drewN ?_ _) | (with_reducible refine Below.drew ?_) | (with_reducible refine Below.alloc ?_ ?_ _) | (with_reducible refine Below.setCell ?_ ?_ _) | (with_reducible exact Nat.le_refl _) | omega | (simp; omega) | (simp; done) | (apply Below.size; assumption))))).mono ?_; rintro e w2_ ⟨rfl, hb2_⟩; have hp2_ : Below w1_.heap.size w1_ w2_ := Below.trans (by (repeat' (first | (with_reducible exact Below.refl _ _) | (with_reducible assumption) | (with_reducible refine Kit.below_drewN ?_ _) | (with_reducible refine Below.drew ?_) | (with_reducible refine Below.alloc ?_ ?_ _) | (with_reducible refine Below.setCell ?_ ?_ _) | (with_reducible exact Nat.le_refl _) | omega | (simp; omega) | (simp; done) | (apply Below.size; assumption)))) (hb2_.mono (by first | assumption | (simp; done) | (simp; omega) | omega)); have hw2_ : Below w.heap.size w w2_ := hw1_.trans (hp2_.mono hw1_.size); have z2_w : w.heap.size < w2_.heap.size := Nat.lt_of_lt_of_le z1_w hp2_.size; have g2_w_0 : w2_.cell? ⟨w.heap.size, 0, none⟩ = some (.int .i64 wd) := (hp2_.cell (p := ⟨w.heap.size, 0, none⟩) z1_w).trans g1_w_0; have g2_w_1 : w2_.cell? ⟨w.heap.size, 1, none⟩ = some (.int .i64 dp) := (hp2_.cell (p := ⟨w.heap.size, 1, none⟩) z1_w).trans g1_w_1; have g2_w_2 : w2_.cell? ⟨w.heap.size, 2, none⟩ = some (.int .i64 ta) := (hp2_.cell (p := ⟨w.heap.size, 2, none⟩) z1_w).trans g1_w_2; have g2_w_3 : w2_.cell? ⟨w.heap.size, 3, none⟩ = some (.int .i64 tb) := (hp2_.cell (p := ⟨w.heap.size, 3, none⟩) z1_w).trans g1_w_3; have g2_w_4 : w2_.cell? ⟨w.heap.size, 4, none⟩ = some (.int .i64 tc) := (hp2_.cell (p := ⟨w.heap.size, 4, none⟩) z1_w).trans g1_w_4; have g2_w_5 : w2_.cell? ⟨w.heap.size, 5, none⟩ = some (.slice aR nR cR) := (hp2_.cell (p := ⟨w.heap.size, 5, none⟩) z1_w).trans g1_w_5; have g2_w_6 : w2_.cell? ⟨w.heap.size, 6, none⟩ = some (.int .i64 n) := (hp2_.cell (p := ⟨w.heap.size, 6, none⟩) z1_w).trans g1_w_6; have g2_w_7 : w2_.cell? ⟨w.heap.size, 7, none⟩ = some (.slice aT nT cT) := (hp2_.cell (p := ⟨w.heap.size, 7, none⟩) z1_w).trans g1_w_7; have g2_w_8 : w2_.cell? ⟨w.heap.size, 8, none⟩ = some (.slice aP nP cP) := (hp2_.cell (p := ⟨w.heap.size, 8, none⟩) z1_w).trans g1_w_8; have g2_w_9 : w2_.cell? ⟨w.heap.size, 9, none⟩ = some (.slice aS nS cS) := (hp2_.cell (p := ⟨w.heap.size, 9, none⟩) z1_w).trans g1_w_9; have g2_w_10 : w2_.cell? ⟨w.heap.size, 10, none⟩ = some (.slice aG nG cG) := (hp2_.cell (p := ⟨w.heap.size, 10, none⟩) z1_w).trans g1_w_10; clear z1_w g1_w_0 g1_w_1 g1_w_2 g1_w_3 g1_w_4 g1_w_5 g1_w_6 g1_w_7 g1_w_8 g1_w_9 g1_w_10 hw1_ hb2_ hp2_)
  go_wp2_with fail
  refine (HP.out _ (by (repeat' (first | (with_reducible exact Below.refl _ _) | (with_reducible assumption) | (with_reducible refine Kit.below_drewN ?_ _) | (with_reducible refine Below.drew ?_) | (with_reducible refine Below.alloc ?_ ?_ _) | (with_reducible refine Below.setCell ?_ ?_ _) | (with_reducible exact Nat.le_refl _) | omega | (simp; omega) | (simp; done) | (apply Below.size; assumption))))).mono ?_
  rintro e w3 ⟨ap, cp, rfl, hsp, hb3⟩
  have b3 : Below w.heap.size w w3 := hw2_.trans (hb3.mono hw2_.size)
  have r5 : w3.cell? ⟨w.heap.size, 5, none⟩ = some (.slice aR nR cR) := (hb3.cell (p := ⟨w.heap.size, 5, none⟩) z2_w).trans g2_w_5
  have SP := Lib.hid hsp
  have HB3 := Lib.hid b3
  have hload : ∀ j v, j < 11 → w2_.cell? ⟨w.heap.size, j, none⟩ = some v → w3.cell? ⟨w.heap.size, j, none⟩ = some v := fun j v _ h => (hb3.cell (p := ⟨w.heap.size, j, none⟩) z2_w).trans h
  have q0 := hload 0 _ (by omega) g2_w_0
  have q1 := hload 1 _ (by omega) g2_w_1
  have q2 := hload 2 _ (by omega) g2_w_2
  have q3 := hload 3 _ (by omega) g2_w_3
  have q4 := hload 4 _ (by omega) g2_w_4
  have q5 := hload 5 _ (by omega) g2_w_5
  have q6 := hload 6 _ (by omega) g2_w_6
  have q7 := hload 7 _ (by omega) g2_w_7
  have q8 := hload 8 _ (by omega) g2_w_8
  have q9 := hload 9 _ (by omega) g2_w_9
  have q10 := hload 10 _ (by omega) g2_w_10
  have z3 : w.heap.size < w3.heap.size := Nat.lt_of_lt_of_le z2_w hb3.size
  clear hsp b3 hload r5 hb3 hw2_ z2_w g2_w_0 g2_w_1 g2_w_2 g2_w_3 g2_w_4 g2_w_5 g2_w_6 g2_w_7 g2_w_8 g2_w_9 g2_w_10
  go_wp2_with fail
  refine (HG.out _ HB3.out).mono ?_
  rintro e w4 ⟨ag, cg, rfl, hsg, hb4⟩
  have HB4 := Lib.hid (HB3.out.trans (hb4.mono HB3.out.size))
  have SP4 := Lib.hid (SP.out.kept hb4 (Nat.le_refl _))
  have SG := Lib.hid hsg
  have SL4 := Lib.hid (SL.out.kept HB4.out (Nat.le_refl _))
  have k5 : w4.cell? ⟨w.heap.size, 5, none⟩ = some (.slice aR nR cR) := (hb4.cell (p := ⟨w.heap.size, 5, none⟩) z3).trans q5
  clear hsg hb4 q0 q1 q2 q3 q4 q5 q6 q7 q8 q9 q10 SP SL HB3
  go_wp2
  clear k5
  go_loopw [64] (fun v64 wr => ∃ k : Nat, v64 = .int .i64 k ∧ k ≤ nR ∧ Hid (Below w4.heap.size w4 wr)) (fun v64 _ => nR - (intOf v64).toNat)
  case atStart => exact ⟨0, rfl, by omega, Lib.hid (Below.refl _ _)⟩
  case round =>
    obtain ⟨k, rfl, hk, HB⟩ := hrel
    by_cases hlt : k < nR
    · obtain ⟨ad, rfl, had, _⟩ := SG.out.at hlt
      have e0 : wr.cell? (ad.add k) = some (.int .i64 (G k)) := by simpa using (SG.out.kept HB.out (Nat.le_refl _)).head hlt (by omega)
      have gl := G1.out k
      have hlt2 : G k < nR := by omega
      have e1 : wr.cell? (ad.add (G k)) = some (.int .i64 (G k)) := by
        have := (SG.out.kept HB.out (Nat.le_refl _)).head hlt2 (by omega)
        rw [G2.out] at this
        simpa using this
      generalize G k = x at *
      have t1 : decide ((x : Int) < 0) = false := by first | (simp; done) | (simp; omega)
      have t2 : decide ((k : Int) < (x : Int)) = false := by first | (simp; done) | (simp; omega)
      go_wp2
      go_roundw
      case rel => exact ⟨k + 1, by go_num, by omega, HB⟩
      case measure => simp [intOf]; omega
    · have HB5 := Lib.hid (HB4.out.trans (HB.out.mono HB4.out.size))
      have SP5 := Lib.hid (SP4.out.kept HB.out (Nat.le_refl _))
      have SG5 := Lib.hid (SG.out.kept HB.out (Nat.le_refl _))
      have SL5 := Lib.hid (SL4.out.kept HB.out (Nat.le_refl _))
      obtain ⟨W5, rfl⟩ : ∃ W5, W5 = wr := ⟨_, rfl⟩
      clear HB SP4 SG SL4 HB4
      go_wp2
      go_loopw [13, 92] (fun v13 v92 wq => ∃ (k : Nat) (b : Bool), v92 = .int .i64 k ∧ v13 = .bool b ∧ k ≤ L.length ∧ Hid (b = true → nR ≤ nL ∧ (L.take k).all (Lw.eqL lab) = true) ∧ Hid (Below W5.heap.size W5 wq)) (fun _ v92 _ => L.length - (intOf v92).toNat)
      case atStart => exact ⟨0, decide (nR ≤ nL), rfl, rfl, by omega, Lib.hid (fun h => ⟨by simpa using h, by simp⟩), Lib.hid (Below.refl _ _)⟩
      case round =>
        obtain ⟨k, b, rfl, rfl, hk2, HBT, HB⟩ := hrel
        by_cases hlt2 : k < L.length
        · have hpm : L.getD k (0, 0) ∈ L := List.mem_of_mem_drop (show L.getD k (0, 0) ∈ L.drop k by rw [Tp.drop_cons L _ k hlt2]; exact List.mem_cons_self ..)
          obtain ⟨u, v, hp, huv, hvR, hGG⟩ := HL.out _ hpm
          have hwr := HB5.out.trans (HB.out.mono HB5.out.size)
          obtain ⟨pa, rfl, hpa, _⟩ := SP5.out.at hlt2
          have HSl := SP5.out.kept HB.out (Nat.le_refl _)
          have e0 := HSl.head hlt2 (by omega)
          have e1 := HSl.field hlt2 (j := 1) (by omega) (by omega)
          have htake : (L.take (k + 1)).all (Lw.eqL lab) = ((L.take k).all (Lw.eqL lab) && (lab u == lab v)) := by
            rw [List.take_succ_eq_append_getElem hlt2, List.all_append]
            have : L[k] = ((u : Int), (v : Int)) := by rw [← hp]; simp [List.getD_eq_getElem?_getD, List.getElem?_eq_getElem hlt2]
            simp [this, Lw.eqL]
          have HTK := Lib.hid htake
          simp only [Ap.prc, hp, if_true, if_false, Nat.one_ne_zero] at e0 e1
          have hbk : (pa.add (k * 2)).block < wr.heap.size := by rw [Tp.add_block]; have := HB.out.size; omega
          have zq := HB.out.size
          clear HSl htake hpm hp
          go_wp2
          clear e0 e1
          refine Kit.wp_name ?_
          intro W hW
          have zW : W.heap.size = wr.heap.size + 1 := by rw [hW]; simp
          have hB5 : Below W5.heap.size W5 W := by rw [hW]; exact HB.out.alloc (by omega) _
          have p0 : ∀ z : Kit.Wd W, z.val.cell? ⟨wr.heap.size, 0, none⟩ = some (.int .i64 u) := fun z => z.cell (by rw [hW]; simp [go_sem]) (by simp; omega)
          have p1 : ∀ z : Kit.Wd W, z.val.cell? ⟨wr.heap.size, 1, none⟩ = some (.int .i64 v) := fun z => z.cell (by rw [hW]; simp [go_sem]) (by simp; omega)
          have huR : u < nR := by omega
          obtain ⟨gd, rfl, hgd, _⟩ := SG5.out.at huR
          have q0 : ∀ z : Kit.Wd W, z.val.cell? (gd.add u) = some (.int .i64 (G v)) := fun z => by
            have := (SG5.out.kept (hB5.trans (z.below.mono hB5.size)) (Nat.le_refl _)).head huR (by omega)
            rw [hGG] at this
            simpa using this
          have q1 : ∀ z : Kit.Wd W, z.val.cell? (gd.add v) = some (.int .i64 (G v)) := fun z => by simpa using (SG5.out.kept (hB5.trans (z.below.mono hB5.size)) (Nat.le_refl _)).head hvR (by omega)
          have HB6 := Lib.hid hB5
          have HGG := Lib.hid hGG
          have t1 : decide ((u : Int) < 0) = false := by first | (simp; done) | (simp; omega)
          have t2 : decide (v ≤ u) = false := by simp; omega
          have t3 : decide (nR ≤ v) = false := by simp; omega
          clear hW hB5 hGG
          (refine Kit.wp_region_cls (by kernel_rfl) (by kernel_rfl) ?_; (repeat (go_big_quiet_step (fail))); refine wpQuiet_nil ?_; intro z)
          have E0 := Lib.hid (p0 z)
          have E1 := Lib.hid (p1 z)
          have HZ := Lib.hid (HB6.out.trans (z.below.mono HB6.out.size))
          have zz := z.below.size
          generalize z.val = Z at *
          clear p0 p1 q0 q1 t1 t2 t3 z
          go_wp2
          have lz : wr.heap.size < Z.heap.size := by omega
          have p0 : ∀ z : Kit.Wd Z, z.val.cell? ⟨wr.heap.size, 0, none⟩ = some (.int .i64 u) := fun z => z.cell E0.out lz
          have p1 : ∀ z : Kit.Wd Z, z.val.cell? ⟨wr.heap.size, 1, none⟩ = some (.int .i64 v) := fun z => z.cell E1.out lz
          cases b
          · (refine Kit.wp_region_cls (by kernel_rfl) (by kernel_rfl) ?_; (repeat (go_big_quiet_step (fail))); refine wpQuiet_nil ?_; intro z)
            have HZ2 := Lib.hid (HZ.out.trans (z.below.mono HZ.out.size))
            generalize z.val = Z2 at *
            clear p0 p1 z
            go_wp2
            go_roundw
            case rel => exact ⟨k + 1, false, by go_num, rfl, by omega, Lib.hid (fun h => by cases h), HZ2⟩
            case measure => simp [intOf]; omega
          · have hnL := (HBT.out rfl).1
            have huL : u < nL := by omega
            have hvL : v < nL := by omega
            obtain ⟨ld, rfl, hld, _⟩ := SL5.out.at huL
            have c0 : ∀ z : Kit.Wd Z, z.val.cell? (ld.add u) = some (.int .u8 (lab u)) := fun z => by simpa using (SL5.out.kept (HZ.out.trans (z.below.mono HZ.out.size)) (Nat.le_refl _)).head huL (by omega)
            have c1 : ∀ z : Kit.Wd Z, z.val.cell? (ld.add v) = some (.int .u8 (lab v)) := fun z => by simpa using (SL5.out.kept (HZ.out.trans (z.below.mono HZ.out.size)) (Nat.le_refl _)).head hvL (by omega)
            rcases c : (lab u == lab v) with _ | _
            · (refine Kit.wp_region_cls (by kernel_rfl) (by kernel_rfl) ?_; (repeat (go_big_quiet_step (fail))); refine wpQuiet_nil ?_; intro z)
              have HZ2 := Lib.hid (HZ.out.trans (z.below.mono HZ.out.size))
              generalize z.val = Z2 at *
              clear p0 p1 c0 c1 z
              go_wp2
              go_roundw
              case rel => exact ⟨k + 1, false, by go_num, rfl, by omega, Lib.hid (fun h => by cases h), HZ2⟩
              case measure => simp [intOf]; omega
            · have HC := Lib.hid c
              (refine Kit.wp_region_cls (by kernel_rfl) (by kernel_rfl) ?_; (repeat (go_big_quiet_step (fail))); refine wpQuiet_nil ?_; intro z)
              have HZ2 := Lib.hid (HZ.out.trans (z.below.mono HZ.out.size))
              generalize z.val = Z2 at *
              clear p0 p1 c0 c1 z
              go_wp2
              go_roundw
              case rel => exact ⟨k + 1, true, by go_num, rfl, by omega, Lib.hid (fun _ => ⟨hnL, by rw [HTK.out, (HBT.out rfl).2, HC.out]; rfl⟩), HZ2⟩
              case measure => simp [intOf]; omega
        · have HW := Lib.hid (HB5.out.trans (HB.out.mono HB5.out.size))
          cases b
          · go_wp2
            go_ret
            exact ⟨rfl, HW.out⟩
          · have hnL := (HBT.out rfl).1
            have hall : L.all (Lw.eqL lab) = true := by have := (HBT.out rfl).2; rwa [List.take_of_length_le (by omega)] at this
            have HLB := Lib.hid (HLAB.out hall)
            have SG6 := Lib.hid (SG5.out.kept HB.out (Nat.le_refl _))
            have SL6 := Lib.hid (SL5.out.kept HB.out (Nat.le_refl _))
            obtain ⟨W6, rfl⟩ : ∃ W6, W6 = wr := ⟨_, rfl⟩
            clear hall HBT SG5 SL5 SP5 HB5 HB
            go_wp2
            go_loopw [145] (fun v145 wq => ∃ k : Nat, v145 = .int .i64 k ∧ k ≤ nR ∧ Hid (Below W6.heap.size W6 wq)) (fun v145 _ => nR - (intOf v145).toNat)
            case atStart => exact ⟨0, rfl, by omega, Lib.hid (Below.refl _ _)⟩
            case round =>
              obtain ⟨j, rfl, hj, HB⟩ := hrel
              by_cases hlt3 : j < nR
              · obtain ⟨gd, rfl, hgd, _⟩ := SG6.out.at hlt3
                have gl := G1.out j
                have hjL : j < nL := by omega
                have hxL : G j < nL := by omega
                obtain ⟨ld, rfl, hld, _⟩ := SL6.out.at hjL
                have e0 : wr.cell? (gd.add j) = some (.int .i64 (G j)) := by simpa using (SG6.out.kept HB.out (Nat.le_refl _)).head hlt3 (by omega)
                have c0 : ∀ z : Kit.Wd wr, z.val.cell? (ld.add j) = some (.int .u8 (lab j)) := fun z => by simpa using (SL6.out.kept (HB.out.trans (z.below.mono HB.out.size)) (Nat.le_refl _)).head hjL (by omega)
                have c1 : ∀ z : Kit.Wd wr, z.val.cell? (ld.add (G j)) = some (.int .u8 (lab j)) := fun z => by
                  have := (SL6.out.kept (HB.out.trans (z.below.mono HB.out.size)) (Nat.le_refl _)).head hxL (by omega)
                  rw [← HLB.out j] at this
                  simpa using this
                generalize G j = x at *
                generalize lab j = y at *
                go_wp2
                (refine Kit.wp_region_cls (by kernel_rfl) (by kernel_rfl) ?_; (repeat (go_big_quiet_step (fail))); refine wpQuiet_nil ?_; intro z)
                have HZ := Lib.hid (HB.out.trans (z.below.mono HB.out.size))
                generalize z.val = Z at *
                clear c0 c1 e0 z
                go_wp2
                go_roundw
                case rel => exact ⟨j + 1, by go_num, by omega, HZ⟩
                case measure => simp [intOf]; omega
              · go_wp2
                go_ret
                exact ⟨rfl, HW.out.trans (HB.out.mono HW.out.size)⟩
end Go.Proofs.YtjoieglhmladhaaDoor
