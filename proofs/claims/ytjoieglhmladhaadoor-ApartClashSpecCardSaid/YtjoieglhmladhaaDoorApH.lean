/- Walks: package apart: Pairs. -/
import Derived.Test.YtjoieglhmladhaaDoorApG
import Derived.Deep.Onto
namespace Go.Proofs.YtjoieglhmladhaaDoor
set_option linter.unusedVariables false
set_option linter.unusedSimpArgs false
open Go.RowKit Go.Shelf

set_option maxRecDepth 100000 in
set_option maxHeartbeats 1000000 in
theorem ap_pairs_1a (wd dp ta tb tc : Int) (aR : Option Addr) (nR cR : Nat) (n : Int) (aT : Option Addr) (nT cT : Nat) (aP : Option Addr) (nP cP : Nat) (aS : Option Addr) (nS cS : Nat) (aG : Option Addr) (nG cG : Nat) (bar : Int) (w : World)
    (r : Int) (hr : (r != 0) = true) (hc : ∀ W, Below w.heap.size w W → Calls Tryd.prog 44 #[Ex.wv wd dp ta tb tc aR nR cR n aT nT cT aP nP cP aS nS cS aG nG cG, .int .i64 bar] W fun e w' => e = .returned (.int .i64 r) ∧ Below W.heap.size W w') :
    Calls Tryd.prog 15 #[Ex.wv wd dp ta tb tc aR nR cR n aT nT cT aP nP cP aS nS cS aG nG cG, .int .i64 bar] w fun e w' => e = .returned (.tuple #[.slice none 0 0, .int .i64 r]) ∧ Below w.heap.size w w' := by
  have HC := Lib.hid hc; clear hc
  go_enter Tryd.func15, Tryd.ntmps15
  skip
  (go_wp2_with (fail); refine (HC.out _ (by (repeat' first | (with_reducible first | exact Below.refl _ _ | assumption | refine Kit.below_drewN ?_ _ | refine Below.drew ?_ | refine Below.alloc ?_ ?_ _ | refine Below.setCell ?_ ?_ _ | exact Nat.le_refl _) | omega | (simp; omega) | (simp; done) | (apply Below.size; assumption)))).mono ?_; rintro e w1_ ⟨rfl, hb1_⟩; have hp1_ : Below w.heap.size w w1_ := Below.trans (by (repeat' first | (with_reducible first | exact Below.refl _ _ | assumption | refine Kit.below_drewN ?_ _ | refine Below.drew ?_ | refine Below.alloc ?_ ?_ _ | refine Below.setCell ?_ ?_ _ | exact Nat.le_refl _) | omega | (simp; omega) | (simp; done) | (apply Below.size; assumption))) (hb1_.mono (by first | assumption | (simp; done) | (simp; omega) | omega)); have hw1_ : Below w.heap.size w w1_ := hp1_; obtain ⟨hc1_, hf1_⟩ := Kit.bcell hb1_; have z1_w : w.heap.size < w1_.heap.size := (by have := hb1_.size; first | omega | (simp at this; omega)); obtain ⟨g1_w_0, g1_w_1, g1_w_2, g1_w_3, g1_w_4, g1_w_5, g1_w_6, g1_w_7, g1_w_8, g1_w_9, g1_w_10⟩ : w1_.cell? ⟨w.heap.size, 0, none⟩ = some (.int .i64 wd) ∧ w1_.cell? ⟨w.heap.size, 1, none⟩ = some (.int .i64 dp) ∧ w1_.cell? ⟨w.heap.size, 2, none⟩ = some (.int .i64 ta) ∧ w1_.cell? ⟨w.heap.size, 3, none⟩ = some (.int .i64 tb) ∧ w1_.cell? ⟨w.heap.size, 4, none⟩ = some (.int .i64 tc) ∧ w1_.cell? ⟨w.heap.size, 5, none⟩ = some (.slice aR nR cR) ∧ w1_.cell? ⟨w.heap.size, 6, none⟩ = some (.int .i64 n) ∧ w1_.cell? ⟨w.heap.size, 7, none⟩ = some (.slice aT nT cT) ∧ w1_.cell? ⟨w.heap.size, 8, none⟩ = some (.slice aP nP cP) ∧ w1_.cell? ⟨w.heap.size, 9, none⟩ = some (.slice aS nS cS) ∧ w1_.cell? ⟨w.heap.size, 10, none⟩ = some (.slice aG nG cG) := (by refine ⟨?_, ?_, ?_, ?_, ?_, ?_, ?_, ?_, ?_, ?_, ?_⟩ <;> (rw [hc1_ _ _ (by first | assumption | (simp; done) | (simp; omega) | omega)]; first | assumption | (simp [go_sem]; done) | (simp [go_sem, *]; done))); clear hc1_ hf1_; clear hb1_ hp1_)
  go_wp2
  go_ret2
  exact ⟨rfl, by (repeat' first | (with_reducible first | exact Below.refl _ _ | assumption | refine Kit.below_drewN ?_ _ | refine Below.drew ?_ | refine Below.alloc ?_ ?_ _ | refine Below.setCell ?_ ?_ _ | exact Nat.le_refl _) | omega | (simp; omega) | (simp; done) | (apply Below.size; assumption))⟩

set_option maxRecDepth 100000 in
set_option maxHeartbeats 2000000 in
theorem ap_pairs_2a (wd dp ta tb tc : Int) (aR : Option Addr) (nR cR : Nat) (n : Int) (aT : Option Addr) (nT cT : Nat) (aP : Option Addr) (nP cP : Nat) (aS : Option Addr) (nS cS : Nat) (aG : Option Addr) (sg : List Ex.Sg) (cG : Nat) (bar : Int) (w : World)
    (lR : nR ≤ 64) (lG : sg.length ≤ 4096) (hbd : ∀ s ∈ sg, 0 ≤ s.role ∧ s.role ≤ 64 ∧ 0 ≤ s.wth ∧ s.wth ≤ 64) (hG : Tp.Sl w aG sg.length 14 (Ex.sgc sg))
    (hc : ∀ W, Below w.heap.size w W → Calls Tryd.prog 44 #[Ex.wv wd dp ta tb tc aR nR cR n aT nT cT aP nP cP aS nS cS aG sg.length cG, .int .i64 bar] W fun e w' => e = .returned (.int .i64 0) ∧ Below W.heap.size W w') (L : List (Int × Int)) (hL : Hid (L = Ap.allP (Ap.met bar sg) nR 0 nR)) :
    Calls Tryd.prog 15 #[Ex.wv wd dp ta tb tc aR nR cR n aT nT cT aP nP cP aS nS cS aG sg.length cG, .int .i64 bar] w fun e w' => ∃ v, e = .returned (.tuple #[v, .int .i64 0]) ∧ w'.ownsRow w.heap.size 75 2 v L.length (Ap.fl2 L) ∧ Below w.heap.size w w' := by
  have HC := Lib.hid hc; clear hc
  have HG := Lib.hid hG; clear hG
  have HBD := Lib.hid hbd; clear hbd
  have hmm := @run_makeMap Tryd.prog
  go_enter Tryd.func15, Tryd.ntmps15
  skip
  (go_wp2_with (fail); refine (HC.out _ (by (repeat' first | (with_reducible first | exact Below.refl _ _ | assumption | refine Kit.below_drewN ?_ _ | refine Below.drew ?_ | refine Below.alloc ?_ ?_ _ | refine Below.setCell ?_ ?_ _ | exact Nat.le_refl _) | omega | (simp; omega) | (simp; done) | (apply Below.size; assumption)))).mono ?_; rintro e w1_ ⟨rfl, hb1_⟩; have hp1_ : Below w.heap.size w w1_ := Below.trans (by (repeat' first | (with_reducible first | exact Below.refl _ _ | assumption | refine Kit.below_drewN ?_ _ | refine Below.drew ?_ | refine Below.alloc ?_ ?_ _ | refine Below.setCell ?_ ?_ _ | exact Nat.le_refl _) | omega | (simp; omega) | (simp; done) | (apply Below.size; assumption))) (hb1_.mono (by first | assumption | (simp; done) | (simp; omega) | omega)); have hw1_ : Below w.heap.size w w1_ := hp1_; obtain ⟨hc1_, hf1_⟩ := Kit.bcell hb1_; have z1_w : w.heap.size < w1_.heap.size := (by have := hb1_.size; first | omega | (simp at this; omega)); obtain ⟨g1_w_0, g1_w_1, g1_w_2, g1_w_3, g1_w_4, g1_w_5, g1_w_6, g1_w_7, g1_w_8, g1_w_9, g1_w_10⟩ : w1_.cell? ⟨w.heap.size, 0, none⟩ = some (.int .i64 wd) ∧ w1_.cell? ⟨w.heap.size, 1, none⟩ = some (.int .i64 dp) ∧ w1_.cell? ⟨w.heap.size, 2, none⟩ = some (.int .i64 ta) ∧ w1_.cell? ⟨w.heap.size, 3, none⟩ = some (.int .i64 tb) ∧ w1_.cell? ⟨w.heap.size, 4, none⟩ = some (.int .i64 tc) ∧ w1_.cell? ⟨w.heap.size, 5, none⟩ = some (.slice aR nR cR) ∧ w1_.cell? ⟨w.heap.size, 6, none⟩ = some (.int .i64 n) ∧ w1_.cell? ⟨w.heap.size, 7, none⟩ = some (.slice aT nT cT) ∧ w1_.cell? ⟨w.heap.size, 8, none⟩ = some (.slice aP nP cP) ∧ w1_.cell? ⟨w.heap.size, 9, none⟩ = some (.slice aS nS cS) ∧ w1_.cell? ⟨w.heap.size, 10, none⟩ = some (.slice aG sg.length cG) := (by refine ⟨?_, ?_, ?_, ?_, ?_, ?_, ?_, ?_, ?_, ?_, ?_⟩ <;> (rw [hc1_ _ _ (by first | assumption | (simp; done) | (simp; omega) | omega)]; first | assumption | (simp [go_sem]; done) | (simp [go_sem, *]; done))); clear hc1_ hf1_; clear hb1_ hp1_)
  go_wp2
  have b0 : Below w.heap.size w w1_ := by (repeat' first | (with_reducible first | exact Below.refl _ _ | assumption | refine Kit.below_drewN ?_ _ | refine Below.drew ?_ | refine Below.alloc ?_ ?_ _ | refine Below.setCell ?_ ?_ _ | exact Nat.le_refl _) | omega | (simp; omega) | (simp; done) | (apply Below.size; assumption))
  have s0 : w.heap.size < w1_.heap.size := z1_w
  have K5 := Lib.hid g1_w_5
  have K10 := Lib.hid g1_w_10
  clear g1_w_0 g1_w_1 g1_w_2 g1_w_3 g1_w_4 g1_w_5 g1_w_6 g1_w_7 g1_w_8 g1_w_9 g1_w_10 HC
  go_loopw [22] (fun v22 wr => ∃ (k : Nat) (l : List (Int × Int)) (m : Nat), v22 = .int .i64 k ∧ k ≤ sg.length ∧ Hid (Kit.PSet Tryd.prog 75 4 wr w1_.heap.size m l) ∧ m ≤ k ∧ Hid (∀ p, p ∈ Ap.met bar sg ↔ p ∈ l ∨ p ∈ Ap.met bar (sg.drop k)) ∧ Below w1_.heap.size w1_ wr)
    (fun v22 _ => sg.length - (intOf v22).toNat)
  case atStart => exact ⟨0, [], 0, rfl, Nat.zero_le _, Lib.hid (Kit.PSet.made _ _ _ _), Nat.le_refl _, Lib.hid (by simp), (Below.refl _ _).alloc (Nat.le_refl _) _⟩
  case round =>
    obtain ⟨k, l, m, rfl, hk, HP, hm, HM, hB⟩ := hrel
    have hwr : Below w.heap.size w wr := b0.trans (hB.mono b0.size)
    by_cases hlt : k < sg.length
    · obtain ⟨ay, rfl, hay, _⟩ := HG.out.at hlt
      have HSl := HG.out.kept hwr (Nat.le_refl _)
      have e0 := HSl.head hlt (by omega)
      have e1 := HSl.field hlt (j := 1) (by omega) (by omega)
      have e2 := HSl.field hlt (j := 2) (by omega) (by omega)
      have e3 := HSl.field hlt (j := 3) (by omega) (by omega)
      have e4 := HSl.field hlt (j := 4) (by omega) (by omega)
      have e5 := HSl.field hlt (j := 5) (by omega) (by omega)
      have e6 := HSl.field hlt (j := 6) (by omega) (by omega)
      have e7 := HSl.field hlt (j := 7) (by omega) (by omega)
      have e8 := HSl.field hlt (j := 8) (by omega) (by omega)
      have e9 := HSl.field hlt (j := 9) (by omega) (by omega)
      have e10 := HSl.field hlt (j := 10) (by omega) (by omega)
      have e11 := HSl.field hlt (j := 11) (by omega) (by omega)
      have e12 := HSl.field hlt (j := 12) (by omega) (by omega)
      have e13 := HSl.field hlt (j := 13) (by omega) (by omega)
      clear HSl
      have hdrop := Tp.drop_cons sg default k hlt
      have hmem : sg.getD k default ∈ sg := by
        have : sg.getD k default ∈ sg.drop k := by rw [hdrop]; exact List.mem_cons_self ..
        exact List.mem_of_mem_drop this
      have hx4 := HBD.out _ hmem
      generalize hx : sg.getD k default = x at hdrop hx4
      simp only [Ex.sgc, hx] at e0 e1 e2 e3 e4 e5 e6 e7 e8 e9 e10 e11 e12 e13
      obtain ⟨x1, x2, x3, x4⟩ := hx4
      have HD := Lib.hid hdrop
      clear hdrop hx hmem
      have hbk : (ay.add (k * 14)).block < w.heap.size := by rw [Tp.add_block]; exact hay
      have z0 : w1_.heap.size < wr.heap.size := HP.out.lt
      have HB := Lib.hid hB
      have HWR := Lib.hid hwr
      have zb : (ay.add (k * 14)).block < wr.heap.size := by have := hwr.size; omega
      clear hB hwr
      have hsame : Ap.lift bar x = false → ∀ p, p ∈ Ap.met bar sg ↔ p ∈ l ∨ p ∈ Ap.met bar (sg.drop (k + 1)) := by
        intro hl p
        rw [HM.out, HD.out]
        simp only [Ap.met, hl]
        simp
      rcases d1 : (x.bar == bar) with _ | _
      · have hs := Lib.hid (hsame (by simp [Ap.lift, d1]))
        clear hsame
        go_wp2
        go_roundw
        case rel => exact ⟨k + 1, l, m, by go_num, by omega, Lib.hid (HP.out.alloc _), by omega, hs, HB.out.alloc (by have := HB.out.size; omega) _⟩
        case measure => simp [intOf]; omega
      rcases d2 : (x.kind == 7) with _ | _
      · have hs := Lib.hid (hsame (by simp [Ap.lift, d1, d2]))
        clear hsame
        go_wp2
        go_roundw
        case rel => exact ⟨k + 1, l, m, by go_num, by omega, Lib.hid (HP.out.alloc _), by omega, hs, HB.out.alloc (by have := HB.out.size; omega) _⟩
        case measure => simp [intOf]; omega
      rcases d3 : (x.wth - 1 != x.role) with _ | _
      · have hs := Lib.hid (hsame (by simp only [Ap.lift, d1, d2, d3]; rfl))
        clear hsame
        go_wp2
        go_roundw
        case rel => exact ⟨k + 1, l, m, by go_num, by omega, Lib.hid (HP.out.alloc _), by omega, hs, HB.out.alloc (by have := HB.out.size; omega) _⟩
        case measure => simp [intOf]; omega
      clear hsame
      have m1 : (if x.wth - 1 < x.role then x.wth - 1 else x.role) = Kit.mn2 x.role (x.wth - 1) := rfl
      have m2 : (if x.role < x.wth - 1 then x.wth - 1 else x.role) = Kit.mx2 x.role (x.wth - 1) := rfl
      have b1 : -1 ≤ Kit.mn2 x.role (x.wth - 1) ∧ Kit.mn2 x.role (x.wth - 1) ≤ 64 := by unfold Kit.mn2; split <;> omega
      have b2 : -1 ≤ Kit.mx2 x.role (x.wth - 1) ∧ Kit.mx2 x.role (x.wth - 1) ≤ 64 := by unfold Kit.mx2; split <;> omega
      have hnew : ∀ p, p ∈ Ap.met bar sg ↔ p ∈ (Kit.mn2 x.role (x.wth - 1), Kit.mx2 x.role (x.wth - 1)) :: l ∨ p ∈ Ap.met bar (sg.drop (k + 1)) := by
        intro p
        have hl : Ap.lift bar x = true := by simp only [Ap.lift, d1, d2, d3]; rfl
        rw [HM.out, HD.out]
        simp only [Ap.met, hl, if_true, Ap.prOf, List.mem_cons]
        constructor
        · rintro (h | h | h) <;> simp [h]
        · rintro ((h | h) | h) <;> simp [h]
      have HN := Lib.hid hnew
      clear hnew
      go_wp2_with (first | (at_mapUpdate; refine Kit.wpList_mapUpdate_pset _ rfl _ _ _ 92 rfl 75 4 3 Ap.ptypes w1_.heap.size m l rfl (HP.out.alloc _) (by unfold maxLen; omega) _ _ rfl rfl (WalkArith.wf_i64 (by omega)) (WalkArith.wf_i64 (by omega)) ?_; intro w2 hp2 hg2; have HP2 := Lib.hid hp2; have HG2 := Lib.hid hg2; clear hp2 hg2) | go_in)
      exact ⟨⟨k + 1, _, m + 1, by go_num, by omega, HP2, by omega, HN, Below.grown (HB.out.alloc (by have := HB.out.size; omega) _) HG2.out (by simp; omega) (fun j hj => by cases hj; omega)⟩, by simp [intOf]; omega⟩
    · have hfin : ∀ p, p ∈ Ap.met bar sg ↔ p ∈ l := by
        intro p
        rw [HM.out p, List.drop_of_length_le (by omega)]
        simp [Ap.met]
      have hL2 : L = Ap.allP l nR 0 nR := by rw [hL.out]; exact Ap.allP_congr hfin _ _ _
      have HL2 := Lib.hid hL2
      have z0 : w1_.heap.size < wr.heap.size := HP.out.lt
      have k5 : wr.cell? ⟨w.heap.size, 5, none⟩ = some (.slice aR nR cR) := (hB.cell (by simpa using s0)).trans K5.out
      have K5r := Lib.hid k5
      have HB := Lib.hid hB
      have HWR := Lib.hid hwr
      clear hfin hL2 hL HM hB hwr HG HBD
      obtain ⟨W1, rfl⟩ : ∃ W1, W1 = wr := ⟨_, rfl⟩
      go_wp2
      clear k5
      go_loopw [4, 61] (fun v4 v61 wq => ∃ (a : Nat) (acc : List (Int × Int)), v61 = .int .i64 a ∧ a ≤ nR ∧ Hid (wq.ownsRow W1.heap.size 75 2 v4 acc.length (Ap.fl2 acc)) ∧ acc.length ≤ a * 64 ∧ Hid (L = acc ++ Ap.allP l nR a (nR - a)) ∧ Below W1.heap.size W1 wq)
        (fun _ v61 _ => nR - (intOf v61).toNat)
      case atStart => exact ⟨0, [], rfl, Nat.zero_le _, Lib.hid (World.ownsRow_nil _ _ _ _), by simp, Lib.hid (by simpa using HL2.out), Below.refl _ _⟩
      case round =>
        obtain ⟨a, acc, rfl, ha, HO, hal, HA, hB⟩ := hrel
        have zw : w.heap.size < W1.heap.size := by omega
        by_cases hlt2 : a < nR
        · have k5 : wr.cell? ⟨w.heap.size, 5, none⟩ = some (.slice aR nR cR) := (hB.cell (by simpa using zw)).trans K5r.out
          have HBq := Lib.hid hB
          have hA2 : L = acc ++ (Ap.rowP l a 0 (nR - 0) ++ Ap.allP l nR (a + 1) (nR - (a + 1))) := by rw [HA.out, Ap.allP_step _ _ _ hlt2]; rfl
          have HA2 := Lib.hid hA2
          clear hA2 hB HA
          go_wp2
          clear k5
          obtain ⟨W2, rfl⟩ : ∃ W2, W2 = wr := ⟨_, rfl⟩
          go_loopw [4, 67] (fun v4 v67 wq => ∃ (b : Nat) (acc : List (Int × Int)), v67 = .int .i64 b ∧ b ≤ nR ∧ Hid (wq.ownsRow W1.heap.size 75 2 v4 acc.length (Ap.fl2 acc)) ∧ acc.length ≤ a * 64 + b ∧ Hid (L = acc ++ (Ap.rowP l a b (nR - b) ++ Ap.allP l nR (a + 1) (nR - (a + 1)))) ∧ Below W1.heap.size W1 wq)
            (fun _ v67 _ => nR - (intOf v67).toNat)
          case atStart => exact ⟨0, acc, rfl, Nat.zero_le _, HO, by omega, HA2, HBq.out⟩
          case round =>
            clear HO HA2 HBq hal
            obtain ⟨b, acc, rfl, hb, HO, hal, HA, hB⟩ := hrel
            by_cases hlt3 : b < nR
            · have HPw := Lib.hid (HP.out.kept (hB.block _ z0))
              have HBq := Lib.hid hB
              have zq := hB.size
              have hstep := Ap.rowP_step l a b nR hlt3
              clear hB
              rcases hin : decide (((a : Int), (b : Int)) ∈ l) with _ | _
              · have hA2 : L = acc ++ (Ap.rowP l a (b + 1) (nR - (b + 1)) ++ Ap.allP l nR (a + 1) (nR - (a + 1))) := by rw [HA.out, hstep, if_neg (by simpa using hin)]
                have HA2 := Lib.hid hA2
                clear hA2 hstep HA
                go_wp2_with (first | (at_lookup; refine Kit.wpList_lookup_pset _ rfl _ _ 92 rfl 75 4 3 Ap.ptypes w1_.heap.size m l rfl (HPw.out.alloc _) _ _ rfl (WalkArith.wf_i64 (by omega)) (WalkArith.wf_i64 (by omega)) _ hin ?_) | go_in)
                go_roundw
                case rel => exact ⟨b + 1, acc, by go_num, by omega, Lib.hid (HO.out.alloc _), by omega, HA2, HBq.out.alloc (by omega) _⟩
                case measure => simp [intOf]; omega
              · have hA2 : L = (acc ++ [((a : Int), (b : Int))]) ++ (Ap.rowP l a (b + 1) (nR - (b + 1)) ++ Ap.allP l nR (a + 1) (nR - (a + 1))) := by rw [HA.out, hstep, if_pos (by simpa using hin)]; simp
                have HA2 := Lib.hid hA2
                clear hA2 hstep HA
                obtain ⟨i0, hi, hz0, hz1, hz2⟩ := info_parts Ap.info75
                have hcell : ∀ (W : World) (N : Nat), N = W.heap.size → ∀ j u, [Value.int .i64 a, .int .i64 b][j]? = some u → (W.alloc (.cells #[.int .i64 a, .int .i64 b] 75)).cell? ((⟨N, 0, none⟩ : Addr).add j) = some u := by
                  rintro W N rfl j u hu
                  rcases j with _ | _ | j <;> simp at hu <;> subst hu <;> simp [Addr.add, go_sem]
                have HCELL := Lib.hid hcell; clear hcell
                go_wp2_with (first | (at_lookup; refine Kit.wpList_lookup_pset _ rfl _ _ 92 rfl 75 4 3 Ap.ptypes w1_.heap.size m l rfl (HPw.out.alloc _) _ _ rfl (WalkArith.wf_i64 (by omega)) (WalkArith.wf_i64 (by omega)) _ hin ?_) | (at_builtin; refine Kit.wpList_append_own' _ rfl _ _ 48 rfl W1.heap.size 75 i0 (.agg #[.int .i64 0, .int .i64 0]) 2 16 Ap.under48 hi hz0 hz1 hz2 rfl (by decide) _ _ _ rfl ((HO.out.alloc _).alloc _) ⟨wr.heap.size + 1, 0, none⟩ 1 1 [.int .i64 a, .int .i64 b] rfl rfl (HCELL.out _ _ (by simp)) (by simp [Value.oneCell']) (by unfold maxLen; omega) (by omega) (by simp; omega) ?_; intro v' w2 hown' hgrow _ _; have HOWN := Lib.hid hown'; have HGR := Lib.hid hgrow; clear hown' hgrow) | go_in)
                exact ⟨⟨b + 1, acc ++ [((a : Int), (b : Int))], by go_num, by omega, Lib.hid (by rw [Ap.fl2_snoc, List.length_append]; exact HOWN.out), by simp; omega, HA2,
                  Below.grown ((HBq.out.alloc (by omega) _).alloc (by simp; omega) _) HGR.out (by simp; omega) (fun j hj => (HO.out.lt _ hj).1)⟩, by simp [intOf]; omega⟩
            · have hA2 : L = acc ++ Ap.allP l nR (a + 1) (nR - (a + 1)) := by rw [HA.out, show nR - b = 0 by omega]; rfl
              have HA2 := Lib.hid hA2
              have HBq := Lib.hid hB
              clear hA2 HA hB
              go_wp2
              go_roundw
              case rel => exact ⟨a + 1, acc, by go_num, by omega, HO, by omega, HA2, HBq.out⟩
              case measure => simp [intOf]; omega
        · have hA2 : L = acc := by rw [HA.out, show nR - a = 0 by omega]; simp [Ap.allP]
          have HA2 := Lib.hid hA2
          have HBq := Lib.hid hB
          clear hA2 HA hB
          go_wp2
          go_ret2
          exact ⟨_, rfl, by rw [HA2.out]; exact HO.out.mono (by omega), HWR.out.trans (HBq.out.mono (by omega))⟩

namespace Ap
def Pairs (x : Ex.Wk) (p : Ex.Wa) (bar : Int) (w : World) : Prop :=
  Calls Tryd.prog 15 #[Ex.workV x p, .int .i64 bar] w fun e w' =>
    if chk x bar = 0 then ∃ v, e = .returned (.tuple #[v, .int .i64 0]) ∧ w'.ownsRow w.heap.size 75 2 v (prs x bar).length (fl2 (prs x bar)) ∧ Below w.heap.size w w'
    else e = .returned (.tuple #[.slice none 0 0, .int .i64 (chk x bar)]) ∧ Below w.heap.size w w'
end Ap
/-- Pairs, of whatever work and bar. -/
theorem ap_pairs (x : Ex.Wk) (p : Ex.Wa) (bar : Int) (w : World) (ha : Ex.At w x p) (hl : Ex.Laid w) : Ap.Pairs x p bar w := by
  unfold Ap.Pairs
  have hc : ∀ W, Below w.heap.size w W → Ap.Chk x p bar W (Ap.chk x bar) := fun W hB => ap_check x p bar W (ha.kept hB (Nat.le_refl _)) (hl.kept hB (Nat.le_refl _))
  by_cases h : Ap.chk x bar = 0
  · simp only [if_pos h]
    have h0 : Ex.chk x = 0 := by
      unfold Ap.chk at h
      split at h
      · assumption
      · exact h
    obtain ⟨r1, r2, _⟩ := Ex.roles h0
    rw [h] at hc
    exact ap_pairs_2a _ _ _ _ _ _ _ _ _ _ _ _ _ _ _ _ _ _ _ _ _ bar w r1 r2 (Ap.sg_bd h0) ha.sg hc _ rfl
  · simp only [if_neg h]
    exact ap_pairs_1a _ _ _ _ _ _ _ _ _ _ _ _ _ _ _ _ _ _ _ _ _ bar w _ (by simpa using h) hc
end Go.Proofs.YtjoieglhmladhaaDoor
