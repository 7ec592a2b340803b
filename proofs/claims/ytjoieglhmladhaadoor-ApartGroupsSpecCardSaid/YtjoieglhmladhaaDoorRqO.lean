/- Walks: the references of layer 29: PairsOf, Pairs. -/
import Derived.Test.YtjoieglhmladhaaDoorRqN
namespace Go.Proofs.YtjoieglhmladhaaDoor
set_option linter.unusedVariables false
set_option linter.unusedSimpArgs false
open Go.RowKit Go.Shelf

set_option maxRecDepth 100000 in
set_option maxHeartbeats 8000000 in
theorem rn_pairsof (wd dp ta tb tc : Int) (aR : Option Addr) (nR cR : Nat) (n : Int) (aT : Option Addr) (nT cT : Nat) (aP : Option Addr) (nP cP : Nat) (aS : Option Addr) (nS cS : Nat) (aG : Option Addr) (nG cG : Nat) (bar : Int) (w : World) (lR : nR ≤ 64) (f : Nat → Nat → Bool) (g : Nat → Nat → Bool) (hfg : ∀ i j, f i j = (g i j || g j i))
    (hlf : ∀ W, Below w.heap.size w W → ∀ i j : Nat, i ≤ 64 → j ≤ 64 → Calls Tryd.prog 69 #[Ex.wv wd dp ta tb tc aR nR cR n aT nT cT aP nP cP aS nS cS aG nG cG, .int .i64 bar, .int .i64 i, .int .i64 j] W fun e w' => e = .returned (.bool (g i j)) ∧ Below W.heap.size W w') (L : List (Int × Int)) (hL : Hid (L = Rf.allF f nR 0 nR)) :
    Calls Tryd.prog 46 #[Ex.wv wd dp ta tb tc aR nR cR n aT nT cT aP nP cP aS nS cS aG nG cG, .int .i64 bar] w fun e w' => ∃ v, e = .returned v ∧ w'.ownsRow w.heap.size 75 2 v L.length (Ap.fl2 L) ∧ Below w.heap.size w w' := by
  have HLF := Lib.hid hlf; clear hlf
  have HFG := Lib.hid hfg; clear hfg
  go_enter Tryd.func46, Tryd.ntmps46
  go_wp2
  refine Kit.wp_name ?_
  intro W1 hW1
  have b1 : Below w.heap.size w W1 := by rw [hW1]; (repeat' (first | (with_reducible exact Below.refl _ _) | (with_reducible assumption) | (with_reducible refine Kit.below_drewN ?_ _) | (with_reducible refine Below.drew ?_) | (with_reducible refine Below.alloc ?_ ?_ _) | (with_reducible refine Below.setCell ?_ ?_ _) | (with_reducible exact Nat.le_refl _) | omega | (simp; omega) | (simp; done) | (apply Below.size; assumption)))
  have zw : w.heap.size < W1.heap.size := by rw [hW1]; simp
  have K0 := Lib.hid (show W1.cell? ⟨w.heap.size, 0, none⟩ = some (.int .i64 wd) by rw [hW1]; simp [go_sem])
  have K1 := Lib.hid (show W1.cell? ⟨w.heap.size, 1, none⟩ = some (.int .i64 dp) by rw [hW1]; simp [go_sem])
  have K2 := Lib.hid (show W1.cell? ⟨w.heap.size, 2, none⟩ = some (.int .i64 ta) by rw [hW1]; simp [go_sem])
  have K3 := Lib.hid (show W1.cell? ⟨w.heap.size, 3, none⟩ = some (.int .i64 tb) by rw [hW1]; simp [go_sem])
  have K4 := Lib.hid (show W1.cell? ⟨w.heap.size, 4, none⟩ = some (.int .i64 tc) by rw [hW1]; simp [go_sem])
  have K5 := Lib.hid (show W1.cell? ⟨w.heap.size, 5, none⟩ = some (.slice aR nR cR) by rw [hW1]; simp [go_sem])
  have K6 := Lib.hid (show W1.cell? ⟨w.heap.size, 6, none⟩ = some (.int .i64 n) by rw [hW1]; simp [go_sem])
  have K7 := Lib.hid (show W1.cell? ⟨w.heap.size, 7, none⟩ = some (.slice aT nT cT) by rw [hW1]; simp [go_sem])
  have K8 := Lib.hid (show W1.cell? ⟨w.heap.size, 8, none⟩ = some (.slice aP nP cP) by rw [hW1]; simp [go_sem])
  have K9 := Lib.hid (show W1.cell? ⟨w.heap.size, 9, none⟩ = some (.slice aS nS cS) by rw [hW1]; simp [go_sem])
  have K10 := Lib.hid (show W1.cell? ⟨w.heap.size, 10, none⟩ = some (.slice aG nG cG) by rw [hW1]; simp [go_sem])
  clear hW1
  have B1 := Lib.hid b1; clear b1
  go_loopw [5, 6] (fun v5 v6 wq => ∃ (a : Nat) (acc : List (Int × Int)), v6 = .int .i64 a ∧ a ≤ nR ∧ Hid (wq.ownsRow W1.heap.size 75 2 v5 acc.length (Ap.fl2 acc)) ∧ acc.length ≤ a * 64 ∧ Hid (L = acc ++ Rf.allF f nR a (nR - a)) ∧ Hid (Below W1.heap.size W1 wq))
    (fun _ v6 _ => nR - (intOf v6).toNat)
  case atStart => exact ⟨0, [], rfl, Nat.zero_le _, Lib.hid (World.ownsRow_nil _ _ _ _), by simp, Lib.hid (by simpa using hL.out), Lib.hid (Below.refl _ _)⟩
  case round =>
    clear hL
    obtain ⟨a, acc, rfl, ha, HO, hal, HA, HB⟩ := hrel
    have k5 : wr.cell? ⟨w.heap.size, 5, none⟩ = some (.slice aR nR cR) := (HB.out.cell (by simpa using zw)).trans K5.out
    by_cases hlt : a < nR
    · have HA2 := Lib.hid (show L = acc ++ (Rf.rowF f a (a + 1) (nR - (a + 1)) ++ Rf.allF f nR (a + 1) (nR - (a + 1))) by rw [HA.out, Rf.allF_step _ _ _ hlt])
      have ha1 : a + 1 ≤ nR := by omega
      clear HA
      go_wp2
      clear k5
      obtain ⟨W2, rfl⟩ : ∃ W2, W2 = wr := ⟨_, rfl⟩
      go_loopw [5, 7] (fun v5 v7 wq => ∃ (b : Nat) (acc : List (Int × Int)), v7 = .int .i64 b ∧ a < b ∧ b ≤ nR ∧ Hid (wq.ownsRow W1.heap.size 75 2 v5 acc.length (Ap.fl2 acc)) ∧ acc.length ≤ a * 64 + b ∧ Hid (L = acc ++ (Rf.rowF f a b (nR - b) ++ Rf.allF f nR (a + 1) (nR - (a + 1)))) ∧ Hid (Below W1.heap.size W1 wq))
        (fun _ v7 _ => nR - (intOf v7).toNat)
      case atStart => exact ⟨a + 1, acc, by go_num, by omega, ha1, HO, by omega, HA2, HB⟩
      case round =>
        clear HO HA2 HB hal
        obtain ⟨b, acc, rfl, hab, hb, HO, hal, HA, HB⟩ := hrel
        have hzr := HB.out.size
        by_cases hlt2 : b < nR
        · have hstep := Rf.rowF_step f a b nR hlt2
          have k0 : wr.cell? ⟨w.heap.size, 0, none⟩ = some (.int .i64 wd) := (HB.out.cell (by simpa using zw)).trans K0.out
          have k1 : wr.cell? ⟨w.heap.size, 1, none⟩ = some (.int .i64 dp) := (HB.out.cell (by simpa using zw)).trans K1.out
          have k2 : wr.cell? ⟨w.heap.size, 2, none⟩ = some (.int .i64 ta) := (HB.out.cell (by simpa using zw)).trans K2.out
          have k3 : wr.cell? ⟨w.heap.size, 3, none⟩ = some (.int .i64 tb) := (HB.out.cell (by simpa using zw)).trans K3.out
          have k4 : wr.cell? ⟨w.heap.size, 4, none⟩ = some (.int .i64 tc) := (HB.out.cell (by simpa using zw)).trans K4.out
          have k5 : wr.cell? ⟨w.heap.size, 5, none⟩ = some (.slice aR nR cR) := (HB.out.cell (by simpa using zw)).trans K5.out
          have k6 : wr.cell? ⟨w.heap.size, 6, none⟩ = some (.int .i64 n) := (HB.out.cell (by simpa using zw)).trans K6.out
          have k7 : wr.cell? ⟨w.heap.size, 7, none⟩ = some (.slice aT nT cT) := (HB.out.cell (by simpa using zw)).trans K7.out
          have k8 : wr.cell? ⟨w.heap.size, 8, none⟩ = some (.slice aP nP cP) := (HB.out.cell (by simpa using zw)).trans K8.out
          have k9 : wr.cell? ⟨w.heap.size, 9, none⟩ = some (.slice aS nS cS) := (HB.out.cell (by simpa using zw)).trans K9.out
          have k10 : wr.cell? ⟨w.heap.size, 10, none⟩ = some (.slice aG nG cG) := (HB.out.cell (by simpa using zw)).trans K10.out
          have HW := Lib.hid (B1.out.trans (HB.out.mono B1.out.size))
          have zr : w.heap.size < wr.heap.size := by omega
          obtain ⟨p, hp⟩ : ∃ p, p = (g a b || g b a) := ⟨_, rfl⟩
          have hfp : f a b = p := by rw [hp]; exact HFG.out a b
          have hap : p = true → Hid (L = (acc ++ [((a : Int), (b : Int))]) ++ (Rf.rowF f a (b + 1) (nR - (b + 1)) ++ Rf.allF f nR (a + 1) (nR - (a + 1)))) := fun h => Lib.hid (by rw [HA.out, hstep, if_pos (by rw [hfp, h])]; simp)
          have hno : p = false → Hid (L = acc ++ (Rf.rowF f a (b + 1) (nR - (b + 1)) ++ Rf.allF f nR (a + 1) (nR - (a + 1)))) := fun h => Lib.hid (by rw [HA.out, hstep, if_neg (by rw [hfp, h]; simp)])
          have HAP := Lib.hid hap
          have HNO := Lib.hid hno
          clear hstep HA hap hno hfp
          have g1' := fun W hW => HLF.out W hW a b (by omega) (by omega)
          have g2' := fun W hW => HLF.out W hW b a (by omega) (by omega)
          generalize g a b = p1 at g1' hp
          generalize g b a = p2 at g2' hp
          have G1 := Lib.hid g1'
          have G2 := Lib.hid g2'
          have HP := Lib.hid hp
          clear g1' g2' hp
          go_wp2_with fail
          refine (G1.out _ HW.out).mono ?_
          rintro e w2 ⟨rfl, hb2⟩
          dsimp only
          have HW2 := Lib.hid (HW.out.trans (hb2.mono HW.out.size))
          have HB2 := Lib.hid (HB.out.trans (hb2.mono HB.out.size))
          have HO2 := Lib.hid (Kit.ownsRow_thn HO.out hb2)
          have hcp : ∀ j v, wr.cell? ⟨w.heap.size, j, none⟩ = some v → w2.cell? ⟨w.heap.size, j, none⟩ = some v := fun j v h => (hb2.cell (p := ⟨w.heap.size, j, none⟩) zr).trans h
          have j0 := hcp 0 _ k0
          have j1 := hcp 1 _ k1
          have j2 := hcp 2 _ k2
          have j3 := hcp 3 _ k3
          have j4 := hcp 4 _ k4
          have j5 := hcp 5 _ k5
          have j6 := hcp 6 _ k6
          have j7 := hcp 7 _ k7
          have j8 := hcp 8 _ k8
          have j9 := hcp 9 _ k9
          have j10 := hcp 10 _ k10
          clear hcp hb2 k0 k1 k2 k3 k4 k5 k6 k7 k8 k9 k10 HO HW
          go_wp2_with fail
          refine (G2.out _ HW2.out).mono ?_
          rintro e w3 ⟨rfl, hb3⟩
          dsimp only
          have HB3 := Lib.hid (HB2.out.trans (hb3.mono HB2.out.size))
          have HO3 := Lib.hid (Kit.ownsRow_thn HO2.out hb3)
          have hz3 := HB3.out.size
          clear hb3 j0 j1 j2 j3 j4 j5 j6 j7 j8 j9 j10 HW2 HB2 HB HO2
          go_upto_region 10 with fail
          go_cut [5, 6, 7, 8, 9, 39] from 36 to 39 (fun s5 s6 s7 s8 s9 s39 wx => s5 = u5 ∧ s6 = .int .i64 a ∧ s7 = .int .i64 b ∧ s39 = .bool p ∧ wx = w3)
          case first =>
            cases p1 <;> cases p2
            · obtain rfl : p = false := HP.out
              clear HAP HNO
              go_wp2_with fail
              go_meet
              case rel => exact ⟨rfl, rfl, rfl, rfl, rfl⟩
            · obtain rfl : p = true := HP.out
              clear HAP HNO
              go_wp2_with fail
              go_meet
              case rel => exact ⟨rfl, rfl, rfl, rfl, rfl⟩
            · obtain rfl : p = true := HP.out
              clear HAP HNO
              go_wp2_with fail
              go_meet
              case rel => exact ⟨rfl, rfl, rfl, rfl, rfl⟩
            · obtain rfl : p = true := HP.out
              clear HAP HNO
              go_wp2_with fail
              go_meet
              case rel => exact ⟨rfl, rfl, rfl, rfl, rfl⟩
          case rest =>
            obtain ⟨rfl, rfl, rfl, rfl, rfl⟩ := hcut
            cases p
            · have HA2 := HNO.out rfl
              clear HNO HAP
              go_wp2
              go_roundw
              case rel => exact ⟨b + 1, acc, by go_num, by omega, by omega, HO3, by omega, HA2, HB3⟩
              case measure => simp [intOf]; omega
            · have HA2 := HAP.out rfl
              clear HNO HAP
              obtain ⟨i0, hi, hz0, hz1, hz2⟩ := info_parts Ap.info75
              have hcell : ∀ (W : World) (N : Nat), N = W.heap.size → ∀ j u, [Value.int .i64 a, .int .i64 b][j]? = some u → (W.alloc (.cells #[.int .i64 a, .int .i64 b] 75)).cell? ((⟨N, 0, none⟩ : Addr).add j) = some u := by
                rintro W N rfl j u hu
                rcases j with _ | _ | j <;> simp at hu <;> subst hu <;> simp [Addr.add, go_sem]
              have HCELL := Lib.hid hcell; clear hcell
              go_wp2_with (first | (at_builtin; refine Kit.wpList_append_own' _ rfl _ _ 48 rfl W1.heap.size 75 i0 (.agg #[.int .i64 0, .int .i64 0]) 2 16 Ap.under48 hi hz0 hz1 hz2 rfl (by decide) _ _ _ rfl (HO3.out.alloc _) ⟨wc.heap.size, 0, none⟩ 1 1 [.int .i64 a, .int .i64 b] rfl rfl (HCELL.out _ _ (by simp)) (by simp [Value.oneCell']) (by unfold maxLen; omega) (by omega) (by simp; omega) ?_; intro v' w4 hown' hgrow _ _; have HOWN := Lib.hid hown'; have HGR := Lib.hid hgrow; clear hown' hgrow) | go_in)
              exact ⟨⟨b + 1, acc ++ [((a : Int), (b : Int))], by go_num, by omega, by omega, Lib.hid (by rw [Ap.fl2_snoc, List.length_append]; exact HOWN.out), by simp; omega, HA2,
                Lib.hid (Below.grown (HB3.out.alloc (by omega) _) HGR.out (by simp; omega) (fun j hj => (HO3.out.lt _ hj).1))⟩, by simp [intOf]; omega⟩
        · have HA2 := Lib.hid (show L = acc ++ Rf.allF f nR (a + 1) (nR - (a + 1)) by rw [HA.out, show nR - b = 0 by omega]; rfl)
          have k5 : wr.cell? ⟨w.heap.size, 5, none⟩ = some (.slice aR nR cR) := (HB.out.cell (by simpa using zw)).trans K5.out
          clear HA
          go_wp2
          go_roundw
          case rel => exact ⟨a + 1, acc, by go_num, by omega, HO, by omega, HA2, HB⟩
          case measure => simp [intOf]; omega
    · have HA2 := Lib.hid (show L = acc by rw [HA.out, show nR - a = 0 by omega]; simp [Rf.allF])
      have HW := Lib.hid (B1.out.trans (HB.out.mono B1.out.size))
      clear HA
      go_wp2
      go_ret
      exact ⟨_, rfl, by rw [HA2.out]; exact HO.out.mono (by omega), HW.out⟩

set_option maxRecDepth 100000 in
set_option maxHeartbeats 1000000 in
theorem rn_pairs_1 (wd dp ta tb tc : Int) (aR : Option Addr) (nR cR : Nat) (n : Int) (aT : Option Addr) (nT cT : Nat) (aP : Option Addr) (nP cP : Nat) (aS : Option Addr) (nS cS : Nat) (aG : Option Addr) (nG cG : Nat) (bar : Int) (w : World) (r : Int) (hr : (r != 0) = true) (hc : ∀ W, Below w.heap.size w W → Calls Tryd.prog 45 #[Ex.wv wd dp ta tb tc aR nR cR n aT nT cT aP nP cP aS nS cS aG nG cG, .int .i64 bar] W fun e w' => e = .returned (.int .i64 r) ∧ Below W.heap.size W w') :
    Calls Tryd.prog 16 #[Ex.wv wd dp ta tb tc aR nR cR n aT nT cT aP nP cP aS nS cS aG nG cG, .int .i64 bar] w fun e w' => e = .returned (.tuple #[.slice none 0 0, .int .i64 r]) ∧ Below w.heap.size w w' := by
  have HC := Lib.hid hc; clear hc
  go_enter Tryd.func16, Tryd.ntmps16
  skip
  (go_wp2_with (fail); refine (HC.out _ (by (repeat' (first | (with_reducible exact Below.refl _ _) | (with_reducible assumption) | (with_reducible refine Kit.below_drewN ?_ _) | (with_reducible refine Below.drew ?_) | (with_reducible refine Below.alloc ?_ ?_ _) | (with_reducible refine Below.setCell ?_ ?_ _) | (with_reducible exact Nat.le_refl _) | omega | (simp; omega) | (simp; done) | (apply Below.size; assumption))))).mono ?_; rintro e w1_ ⟨rfl, hb1_⟩; have hp1_ : Below w.heap.size w w1_ := Below.trans (by (repeat' (first | (with_reducible exact Below.refl _ _) | (with_reducible assumption) | (with_reducible refine Kit.below_drewN ?_ _) | (with_reducible refine Below.drew ?_) | (with_reducible refine Below.alloc ?_ ?_ _) | (with_reducible refine Below.setCell ?_ ?_ _) | (with_reducible exact Nat.le_refl _) | omega | (simp; omega) | (simp; done) | (apply Below.size; assumption)))) (hb1_.mono (by first | assumption | (simp; done) | (simp; omega) | omega)); have hw1_ : Below w.heap.size w w1_ := hp1_; obtain ⟨hc1_, hf1_⟩ := Kit.bcell hb1_; have z1_w : w.heap.size < w1_.heap.size := (by have := hb1_.size; first | omega | (simp at this; omega)); have g1_w_0 : w1_.cell? ⟨w.heap.size, 0, none⟩ = some (.int .i64 wd) := (by rw [hc1_ _ _ (by first | assumption | (simp; done) | (simp; omega) | omega)]; first | assumption | (simp [go_sem]; done) | (simp [go_sem, *]; done)); have g1_w_1 : w1_.cell? ⟨w.heap.size, 1, none⟩ = some (.int .i64 dp) := (by rw [hc1_ _ _ (by first | assumption | (simp; done) | (simp; omega) | omega)]; first | assumption | (simp [go_sem]; done) | (simp [go_sem, *]; done)); have g1_w_2 : w1_.cell? ⟨w.heap.size, 2, none⟩ = some (.int .i64 ta) := (by rw [hc1_ _ _ (by first | assumption | (simp; done) | (simp; omega) | omega)]; first | assumption | (simp [go_sem]; done) | (simp [go_sem, *]; done)); have g1_w_3 : w1_.cell? ⟨w.heap.size, 3, none⟩ = some (.int .i64 tb) := (by rw [hc1_ _ _ (by first | assumption | (simp; done) | (simp; omega) | omega)]; first | assumption | (simp [go_sem]; done) | (simp [go_sem, *]; done)); have g1_w_4 : w1_.cell? ⟨w.heap.size, 4, none⟩ = some (.int .i64 tc) := (by rw [hc1_ _ _ (by first | assumption | (simp; done) | (simp; omega) | omega)]; first | assumption | (simp [go_sem]; done) | (simp [go_sem, *]; done)); have g1_w_5 : w1_.cell? ⟨w.heap.size, 5, none⟩ = some (.slice aR nR cR) := (by rw [hc1_ _ _ (by first | assumption | (simp; done) | (simp; omega) | omega)]; first | assumption | (simp [go_sem]; done) | (simp [go_sem, *]; done)); have g1_w_6 : w1_.cell? ⟨w.heap.size, 6, none⟩ = some (.int .i64 n) := (by rw [hc1_ _ _ (by first | assumption | (simp; done) | (simp; omega) | omega)]; first | assumption | (simp [go_sem]; done) | (simp [go_sem, *]; done)); have g1_w_7 : w1_.cell? ⟨w.heap.size, 7, none⟩ = some (.slice aT nT cT) := (by rw [hc1_ _ _ (by first | assumption | (simp; done) | (simp; omega) | omega)]; first | assumption | (simp [go_sem]; done) | (simp [go_sem, *]; done)); have g1_w_8 : w1_.cell? ⟨w.heap.size, 8, none⟩ = some (.slice aP nP cP) := (by rw [hc1_ _ _ (by first | assumption | (simp; done) | (simp; omega) | omega)]; first | assumption | (simp [go_sem]; done) | (simp [go_sem, *]; done)); have g1_w_9 : w1_.cell? ⟨w.heap.size, 9, none⟩ = some (.slice aS nS cS) := (by rw [hc1_ _ _ (by first | assumption | (simp; done) | (simp; omega) | omega)]; first | assumption | (simp [go_sem]; done) | (simp [go_sem, *]; done)); have g1_w_10 : w1_.cell? ⟨w.heap.size, 10, none⟩ = some (.slice aG nG cG) := (by rw [hc1_ _ _ (by first | assumption | (simp; done) | (simp; omega) | omega)]; first | assumption | (simp [go_sem]; done) | (simp [go_sem, *]; done)); clear hc1_ hf1_; clear hb1_ hp1_)
  go_wp2
  go_ret2
  exact ⟨rfl, by (repeat' (first | (with_reducible exact Below.refl _ _) | (with_reducible assumption) | (with_reducible refine Kit.below_drewN ?_ _) | (with_reducible refine Below.drew ?_) | (with_reducible refine Below.alloc ?_ ?_ _) | (with_reducible refine Below.setCell ?_ ?_ _) | (with_reducible exact Nat.le_refl _) | omega | (simp; omega) | (simp; done) | (apply Below.size; assumption)))⟩

set_option maxRecDepth 100000 in
set_option maxHeartbeats 1000000 in
theorem rn_pairs_2 (wd dp ta tb tc : Int) (aR : Option Addr) (nR cR : Nat) (n : Int) (aT : Option Addr) (nT cT : Nat) (aP : Option Addr) (nP cP : Nat) (aS : Option Addr) (nS cS : Nat) (aG : Option Addr) (nG cG : Nat) (bar : Int) (w : World) (L : List (Int × Int)) (hc : ∀ W, Below w.heap.size w W → Calls Tryd.prog 45 #[Ex.wv wd dp ta tb tc aR nR cR n aT nT cT aP nP cP aS nS cS aG nG cG, .int .i64 bar] W fun e w' => e = .returned (.int .i64 0) ∧ Below W.heap.size W w')
    (hp : ∀ W, Below w.heap.size w W → Calls Tryd.prog 46 #[Ex.wv wd dp ta tb tc aR nR cR n aT nT cT aP nP cP aS nS cS aG nG cG, .int .i64 bar] W fun e w' => ∃ v, e = .returned v ∧ w'.ownsRow W.heap.size 75 2 v L.length (Ap.fl2 L) ∧ Below W.heap.size W w') :
    Calls Tryd.prog 16 #[Ex.wv wd dp ta tb tc aR nR cR n aT nT cT aP nP cP aS nS cS aG nG cG, .int .i64 bar] w fun e w' => ∃ ad c, e = .returned (.tuple #[.slice ad L.length c, .int .i64 0]) ∧ Tp.Sl w' ad L.length 2 (Ap.prc L) ∧ Below w.heap.size w w' := by
  have HC := Lib.hid hc; clear hc
  have HP := Lib.hid hp; clear hp
  go_enter Tryd.func16, Tryd.ntmps16
  skip
  (go_wp2_with (fail); refine (HC.out _ (by (repeat' (first | (with_reducible exact Below.refl _ _) | (with_reducible assumption) | (with_reducible refine Kit.below_drewN ?_ _) | (with_reducible refine Below.drew ?_) | (with_reducible refine Below.alloc ?_ ?_ _) | (with_reducible refine Below.setCell ?_ ?_ _) | (with_reducible exact Nat.le_refl _) | omega | (simp; omega) | (simp; done) | (apply Below.size; assumption))))).mono ?_; rintro e w1_ ⟨rfl, hb1_⟩; have hp1_ : Below w.heap.size w w1_ := Below.trans (by (repeat' (first | (with_reducible exact Below.refl _ _) | (with_reducible assumption) | (with_reducible refine Kit.below_drewN ?_ _) | (with_reducible refine Below.drew ?_) | (with_reducible refine Below.alloc ?_ ?_ _) | (with_reducible refine Below.setCell ?_ ?_ _) | (with_reducible exact Nat.le_refl _) | omega | (simp; omega) | (simp; done) | (apply Below.size; assumption)))) (hb1_.mono (by first | assumption | (simp; done) | (simp; omega) | omega)); have hw1_ : Below w.heap.size w w1_ := hp1_; obtain ⟨hc1_, hf1_⟩ := Kit.bcell hb1_; have z1_w : w.heap.size < w1_.heap.size := (by have := hb1_.size; first | omega | (simp at this; omega)); have g1_w_0 : w1_.cell? ⟨w.heap.size, 0, none⟩ = some (.int .i64 wd) := (by rw [hc1_ _ _ (by first | assumption | (simp; done) | (simp; omega) | omega)]; first | assumption | (simp [go_sem]; done) | (simp [go_sem, *]; done)); have g1_w_1 : w1_.cell? ⟨w.heap.size, 1, none⟩ = some (.int .i64 dp) := (by rw [hc1_ _ _ (by first | assumption | (simp; done) | (simp; omega) | omega)]; first | assumption | (simp [go_sem]; done) | (simp [go_sem, *]; done)); have g1_w_2 : w1_.cell? ⟨w.heap.size, 2, none⟩ = some (.int .i64 ta) := (by rw [hc1_ _ _ (by first | assumption | (simp; done) | (simp; omega) | omega)]; first | assumption | (simp [go_sem]; done) | (simp [go_sem, *]; done)); have g1_w_3 : w1_.cell? ⟨w.heap.size, 3, none⟩ = some (.int .i64 tb) := (by rw [hc1_ _ _ (by first | assumption | (simp; done) | (simp; omega) | omega)]; first | assumption | (simp [go_sem]; done) | (simp [go_sem, *]; done)); have g1_w_4 : w1_.cell? ⟨w.heap.size, 4, none⟩ = some (.int .i64 tc) := (by rw [hc1_ _ _ (by first | assumption | (simp; done) | (simp; omega) | omega)]; first | assumption | (simp [go_sem]; done) | (simp [go_sem, *]; done)); have g1_w_5 : w1_.cell? ⟨w.heap.size, 5, none⟩ = some (.slice aR nR cR) := (by rw [hc1_ _ _ (by first | assumption | (simp; done) | (simp; omega) | omega)]; first | assumption | (simp [go_sem]; done) | (simp [go_sem, *]; done)); have g1_w_6 : w1_.cell? ⟨w.heap.size, 6, none⟩ = some (.int .i64 n) := (by rw [hc1_ _ _ (by first | assumption | (simp; done) | (simp; omega) | omega)]; first | assumption | (simp [go_sem]; done) | (simp [go_sem, *]; done)); have g1_w_7 : w1_.cell? ⟨w.heap.size, 7, none⟩ = some (.slice aT nT cT) := (by rw [hc1_ _ _ (by first | assumption | (simp; done) | (simp; omega) | omega)]; first | assumption | (simp [go_sem]; done) | (simp [go_sem, *]; done)); have g1_w_8 : w1_.cell? ⟨w.heap.size, 8, none⟩ = some (.slice aP nP cP) := (by rw [hc1_ _ _ (by first | assumption | (simp; done) | (simp; omega) | omega)]; first | assumption | (simp [go_sem]; done) | (simp [go_sem, *]; done)); have g1_w_9 : w1_.cell? ⟨w.heap.size, 9, none⟩ = some (.slice aS nS cS) := (by rw [hc1_ _ _ (by first | assumption | (simp; done) | (simp; omega) | omega)]; first | assumption | (simp [go_sem]; done) | (simp [go_sem, *]; done)); have g1_w_10 : w1_.cell? ⟨w.heap.size, 10, none⟩ = some (.slice aG nG cG) := (by rw [hc1_ _ _ (by first | assumption | (simp; done) | (simp; omega) | omega)]; first | assumption | (simp [go_sem]; done) | (simp [go_sem, *]; done)); clear hc1_ hf1_; clear hb1_ hp1_)
  (go_wp2_with (fail); refine (HP.out _ (by (repeat' (first | (with_reducible exact Below.refl _ _) | (with_reducible assumption) | (with_reducible refine Kit.below_drewN ?_ _) | (with_reducible refine Below.drew ?_) | (with_reducible refine Below.alloc ?_ ?_ _) | (with_reducible refine Below.setCell ?_ ?_ _) | (with_reducible exact Nat.le_refl _) | omega | (simp; omega) | (simp; done) | (apply Below.size; assumption))))).mono ?_; rintro e w2_ ⟨v, rfl, ho, hb2_⟩; have hp2_ : Below w1_.heap.size w1_ w2_ := Below.trans (by (repeat' (first | (with_reducible exact Below.refl _ _) | (with_reducible assumption) | (with_reducible refine Kit.below_drewN ?_ _) | (with_reducible refine Below.drew ?_) | (with_reducible refine Below.alloc ?_ ?_ _) | (with_reducible refine Below.setCell ?_ ?_ _) | (with_reducible exact Nat.le_refl _) | omega | (simp; omega) | (simp; done) | (apply Below.size; assumption)))) (hb2_.mono (by first | assumption | (simp; done) | (simp; omega) | omega)); have hw2_ : Below w.heap.size w w2_ := hw1_.trans (hp2_.mono hw1_.size); have z2_w : w.heap.size < w2_.heap.size := Nat.lt_of_lt_of_le z1_w hp2_.size; have g2_w_0 : w2_.cell? ⟨w.heap.size, 0, none⟩ = some (.int .i64 wd) := (hp2_.cell (p := ⟨w.heap.size, 0, none⟩) z1_w).trans g1_w_0; have g2_w_1 : w2_.cell? ⟨w.heap.size, 1, none⟩ = some (.int .i64 dp) := (hp2_.cell (p := ⟨w.heap.size, 1, none⟩) z1_w).trans g1_w_1; have g2_w_2 : w2_.cell? ⟨w.heap.size, 2, none⟩ = some (.int .i64 ta) := (hp2_.cell (p := ⟨w.heap.size, 2, none⟩) z1_w).trans g1_w_2; have g2_w_3 : w2_.cell? ⟨w.heap.size, 3, none⟩ = some (.int .i64 tb) := (hp2_.cell (p := ⟨w.heap.size, 3, none⟩) z1_w).trans g1_w_3; have g2_w_4 : w2_.cell? ⟨w.heap.size, 4, none⟩ = some (.int .i64 tc) := (hp2_.cell (p := ⟨w.heap.size, 4, none⟩) z1_w).trans g1_w_4; have g2_w_5 : w2_.cell? ⟨w.heap.size, 5, none⟩ = some (.slice aR nR cR) := (hp2_.cell (p := ⟨w.heap.size, 5, none⟩) z1_w).trans g1_w_5; have g2_w_6 : w2_.cell? ⟨w.heap.size, 6, none⟩ = some (.int .i64 n) := (hp2_.cell (p := ⟨w.heap.size, 6, none⟩) z1_w).trans g1_w_6; have g2_w_7 : w2_.cell? ⟨w.heap.size, 7, none⟩ = some (.slice aT nT cT) := (hp2_.cell (p := ⟨w.heap.size, 7, none⟩) z1_w).trans g1_w_7; have g2_w_8 : w2_.cell? ⟨w.heap.size, 8, none⟩ = some (.slice aP nP cP) := (hp2_.cell (p := ⟨w.heap.size, 8, none⟩) z1_w).trans g1_w_8; have g2_w_9 : w2_.cell? ⟨w.heap.size, 9, none⟩ = some (.slice aS nS cS) := (hp2_.cell (p := ⟨w.heap.size, 9, none⟩) z1_w).trans g1_w_9; have g2_w_10 : w2_.cell? ⟨w.heap.size, 10, none⟩ = some (.slice aG nG cG) := (hp2_.cell (p := ⟨w.heap.size, 10, none⟩) z1_w).trans g1_w_10; obtain ⟨ad, c, rfl, hs, _⟩ := Ap.row_sl ho; have HS := Lib.hid hs; clear hs ho; clear z1_w g1_w_0 g1_w_1 g1_w_2 g1_w_3 g1_w_4 g1_w_5 g1_w_6 g1_w_7 g1_w_8 g1_w_9 g1_w_10 hw1_ hb2_ hp2_)
  go_wp2
  go_ret2
  exact ⟨_, _, rfl, HS.out, by (repeat' (first | (with_reducible exact Below.refl _ _) | (with_reducible assumption) | (with_reducible refine Kit.below_drewN ?_ _) | (with_reducible refine Below.drew ?_) | (with_reducible refine Below.alloc ?_ ?_ _) | (with_reducible refine Below.setCell ?_ ?_ _) | (with_reducible exact Nat.le_refl _) | omega | (simp; omega) | (simp; done) | (apply Below.size; assumption)))⟩

theorem rn_pairs_sl (x : Ex.Wk) (p : Ex.Wa) (bar : Int) (w : World) (ha : Ex.At w x p) (h : Ap.chk x bar = 0) :
    Calls Tryd.prog 16 #[Ex.workV x p, .int .i64 bar] w fun e w' => ∃ ad c, e = .returned (.tuple #[.slice ad (Ap.prs x bar).length c, .int .i64 0]) ∧ Tp.Sl w' ad (Ap.prs x bar).length 2 (Ap.prc (Ap.prs x bar)) ∧ Below w.heap.size w w' := by
  have h0 : Ex.chk x = 0 := by
    unfold Ap.chk at h
    split at h
    · assumption
    · exact h
  obtain ⟨r1, r2, _⟩ := Ex.roles h0
  refine rn_pairs_2 _ _ _ _ _ _ _ _ _ _ _ _ _ _ _ _ _ _ _ _ _ bar w _ (fun W hB => ?_) (fun W hB => ?_)
  · have := rn_ask x p bar W (ha.kept hB (Nat.le_refl _))
    rwa [h] at this
  · refine rn_pairsof _ _ _ _ _ _ _ _ _ _ _ _ _ _ _ _ _ _ _ _ _ bar W r1 (Rf.two bar x.sg) (fun i j => Rf.lf bar x.sg i j) (fun i j => rfl) (fun W' hB' i j hi hj => ?_) _ (Rf.prs_eq x bar)
    exact rn_lifts _ _ _ _ _ _ _ _ _ _ _ _ _ _ _ _ _ _ _ x.sg _ bar i j W' r2 ⟨by omega, by omega⟩ ((ha.sg.kept hB (Nat.le_refl _)).kept hB' (Nat.le_refl _))
theorem rn_pairs_err (x : Ex.Wk) (p : Ex.Wa) (bar : Int) (w : World) (ha : Ex.At w x p) (h : ¬ Ap.chk x bar = 0) :
    Calls Tryd.prog 16 #[Ex.workV x p, .int .i64 bar] w fun e w' => e = .returned (.tuple #[.slice none 0 0, .int .i64 (Ap.chk x bar)]) ∧ Below w.heap.size w w' :=
  rn_pairs_1 _ _ _ _ _ _ _ _ _ _ _ _ _ _ _ _ _ _ _ _ _ bar w _ (by simpa using h) (fun W hB => rn_ask x p bar W (ha.kept hB (Nat.le_refl _)))
end Go.Proofs.YtjoieglhmladhaaDoor
