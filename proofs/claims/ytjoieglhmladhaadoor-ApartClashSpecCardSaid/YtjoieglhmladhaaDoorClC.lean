/- Walks: package apart: Clashes, its loops. -/
import Derived.Test.YtjoieglhmladhaaDoorClB
namespace Go.Proofs.YtjoieglhmladhaaDoor
set_option linter.unusedVariables false
set_option linter.unusedSimpArgs false
open Go.RowKit Go.Shelf

theorem Ap.infoB : (Tryd.prog.info? 25).map (fun i => (i.zero, i.size, i.bytes)) = some (some (.agg #[.int .i64 0, .int .i64 0, .int .i64 0, .int .i64 0]), 4, 32) := by kernel_rfl
theorem Ap.infoC : (Tryd.prog.info? 73).map (fun i => (i.zero, i.size, i.bytes)) = some (some (.agg #[.int .i64 0, .int .i64 0, .int .i64 0]), 3, 24) := by kernel_rfl
theorem Ap.underC : Tryd.prog.underlying 58 = some (.slice 73) := by kernel_rfl
theorem Ap.underB : Tryd.prog.underlying 57 = some (.slice 25) := by kernel_rfl
/-- How Clashes ends. -/
def Ap.CPost (L : List Ap.C3) (E : Int) (w : World) (e : Ending) (w' : World) : Prop :=
  if E = 0 then ∃ v, e = .returned (.tuple #[v, .int .i64 0]) ∧ w'.ownsRow w.heap.size 73 3 v L.length (Ap.flC L) ∧ Below w.heap.size w w'
  else e = .returned (.tuple #[.slice none 0 0, .int .i64 E]) ∧ Below w.heap.size w w'
theorem Ap.CPost.err {L : List Ap.C3} {E r : Int} {w w' : World} (h : E = r) (hr : r ≠ 0) (hb : Below w.heap.size w w') : Ap.CPost L E w (.returned (.tuple #[.slice none 0 0, .int .i64 r])) w' := by
  unfold Ap.CPost
  subst h
  rw [if_neg hr]
  exact ⟨rfl, hb⟩
theorem Ap.CPost.ok {L : List Ap.C3} {E : Int} {v : Value} {w w' : World} (h : E = 0) (ho : w'.ownsRow w.heap.size 73 3 v L.length (Ap.flC L)) (hb : Below w.heap.size w w') : Ap.CPost L E w (.returned (.tuple #[v, .int .i64 0])) w' := by
  unfold Ap.CPost
  rw [if_pos h]
  exact ⟨v, rfl, ho, hb⟩

set_option maxRecDepth 100000 in
set_option maxHeartbeats 4000000 in
theorem ap_clash_6a (wd dp ta tb tc : Int) (aR : Option Addr) (nR cR : Nat) (n : Int) (aT : Option Addr) (nT cT : Nat) (aP : Option Addr) (nP cP : Nat) (aS : Option Addr) (nS cS : Nat) (aG : Option Addr) (nG cG : Nat) (aW : Option Addr) (gs : List Ap.Wg) (cW : Nat) (bar : Int) (aM : Option Addr) (mv : List Ap.Bx) (cM : Nat) (aH : Option Addr) (hd : List Ap.Bx) (cH : Nat) (aQ : Option Addr) (P : List (Int × Int)) (cQ : Nat) (w : World)
    (hg : gs.length ≤ 8) (n1 : 1 ≤ n) (n2 : n ≤ 4096) (hb : Tp.inb bar 0 (n - 1) = true) (hR : nR ≤ 64) (lP : P.length ≤ 1099511627776) (d1 : 1 ≤ wd) (d2 : wd ≤ 1000) (d3 : 1 ≤ dp) (d4 : dp ≤ 1000)
    (lm : mv.length = nR) (lh : hd.length = nR) (sM : Tp.Sl w aM nR 4 (Ap.bxc mv)) (sH : Tp.Sl w aH nR 4 (Ap.bxc hd)) (sW : Tp.Sl w aW gs.length 8 (Ap.wgc gs)) (sQ : Tp.Sl w aQ P.length 2 (Ap.prc P))
    (oM : ∀ x ∈ mv, Ap.okB x = true) (oH : ∀ x ∈ hd, Ap.okB x = true)
    (cM' : ∀ W, Below w.heap.size w W → Calls Tryd.prog 51 #[.slice aM nR cM, .func (.func 50) #[] #[]] W fun e w' => e = .returned (.bool false) ∧ Below W.heap.size W w')
    (cH' : ∀ W, Below w.heap.size w W → Calls Tryd.prog 51 #[.slice aH nR cH, .func (.func 50) #[] #[]] W fun e w' => e = .returned (.bool false) ∧ Below W.heap.size W w')
    (hc : ∀ W, Below w.heap.size w W → Calls Tryd.prog 49 #[Ex.wv wd dp ta tb tc aR nR cR n aT nT cT aP nP cP aS nS cS aG nG cG] W fun e w' => e = .returned (.int .i64 0) ∧ Below W.heap.size W w')
    (E : Int) (hE : Hid (E = if P.any (Ap.badP nR) = false then Ap.pthE bar gs else 290)) (L : List Ap.C3)
    (hL : Hid (L = Ap.ksC (Ap.has P) mv hd nR 0 5 ++ (Ap.allW mv hd (Ap.pths bar gs) 0 nR ++ Ap.allE (0, 841 * wd, 0, 841 * dp) mv hd 0 nR))) :
    Calls Tryd.prog 21 #[Ex.wv wd dp ta tb tc aR nR cR n aT nT cT aP nP cP aS nS cS aG nG cG, .agg #[.slice aW gs.length cW], .int .i64 bar, .slice aM nR cM, .slice aH nR cH, .slice aQ P.length cQ] w (Ap.CPost L E w) := by
  have HC := Lib.hid hc; clear hc
  have CM := Lib.hid cM'; clear cM'
  have CH := Lib.hid cH'; clear cH'
  have LM := Lib.hid lm; clear lm
  have LH := Lib.hid lh; clear lh
  have SM := Lib.hid sM; clear sM
  have SH := Lib.hid sH; clear sH
  have SW := Lib.hid sW; clear sW
  have SQ := Lib.hid sQ; clear sQ
  have OM := Lib.hid oM; clear oM
  have OH := Lib.hid oH; clear oH
  have hmm := @run_makeMap Tryd.prog
  go_enter Tryd.func21, Tryd.ntmps21
  skip
  (go_wp2_with (fail); refine (HC.out _ (by (repeat' first | (with_reducible first | exact Below.refl _ _ | assumption | refine Kit.below_drewN ?_ _ | refine Below.drew ?_ | refine Below.alloc ?_ ?_ _ | refine Below.setCell ?_ ?_ _ | exact Nat.le_refl _) | omega | (simp; omega) | (simp; done) | (apply Below.size; assumption)))).mono ?_; rintro e w1_ ⟨rfl, hb1_⟩; have hp1_ : Below w.heap.size w w1_ := Below.trans (by (repeat' first | (with_reducible first | exact Below.refl _ _ | assumption | refine Kit.below_drewN ?_ _ | refine Below.drew ?_ | refine Below.alloc ?_ ?_ _ | refine Below.setCell ?_ ?_ _ | exact Nat.le_refl _) | omega | (simp; omega) | (simp; done) | (apply Below.size; assumption))) (hb1_.mono (by first | assumption | (simp; done) | (simp; omega) | omega)); have hw1_ : Below w.heap.size w w1_ := hp1_; obtain ⟨hc1_, hf1_⟩ := Kit.bcell hb1_; have z1_w : w.heap.size < w1_.heap.size := (by have := hb1_.size; first | omega | (simp at this; omega)); obtain ⟨g1_w_0, g1_w_1, g1_w_2, g1_w_3, g1_w_4, g1_w_5, g1_w_6, g1_w_7, g1_w_8, g1_w_9, g1_w_10⟩ : w1_.cell? ⟨w.heap.size, 0, none⟩ = some (.int .i64 wd) ∧ w1_.cell? ⟨w.heap.size, 1, none⟩ = some (.int .i64 dp) ∧ w1_.cell? ⟨w.heap.size, 2, none⟩ = some (.int .i64 ta) ∧ w1_.cell? ⟨w.heap.size, 3, none⟩ = some (.int .i64 tb) ∧ w1_.cell? ⟨w.heap.size, 4, none⟩ = some (.int .i64 tc) ∧ w1_.cell? ⟨w.heap.size, 5, none⟩ = some (.slice aR nR cR) ∧ w1_.cell? ⟨w.heap.size, 6, none⟩ = some (.int .i64 n) ∧ w1_.cell? ⟨w.heap.size, 7, none⟩ = some (.slice aT nT cT) ∧ w1_.cell? ⟨w.heap.size, 8, none⟩ = some (.slice aP nP cP) ∧ w1_.cell? ⟨w.heap.size, 9, none⟩ = some (.slice aS nS cS) ∧ w1_.cell? ⟨w.heap.size, 10, none⟩ = some (.slice aG nG cG) := (by refine ⟨?_, ?_, ?_, ?_, ?_, ?_, ?_, ?_, ?_, ?_, ?_⟩ <;> (rw [hc1_ _ _ (by first | assumption | (simp; done) | (simp; omega) | omega)]; first | assumption | (simp [go_sem]; done) | (simp [go_sem, *]; done))); have z1_w_1 : w.heap.size + 1 < w1_.heap.size := (by have := hb1_.size; first | omega | (simp at this; omega)); have g1_w_1_0 : w1_.cell? ⟨w.heap.size + 1, 0, none⟩ = some (.slice aW gs.length cW) := (by rw [hc1_ _ _ (by first | assumption | (simp; done) | (simp; omega) | omega)]; first | assumption | (simp [go_sem]; done) | (simp [go_sem, *]; done)); clear hc1_ hf1_; clear hb1_ hp1_)
  (go_wp2_with ((go_at_call 36; refine (ap_in _ _ _ _).mono ?_; rintro e w' ⟨rfl, rfl⟩)); refine (CM.out _ (by (repeat' first | (with_reducible first | exact Below.refl _ _ | assumption | refine Kit.below_drewN ?_ _ | refine Below.drew ?_ | refine Below.alloc ?_ ?_ _ | refine Below.setCell ?_ ?_ _ | exact Nat.le_refl _) | omega | (simp; omega) | (simp; done) | (apply Below.size; assumption)))).mono ?_; rintro e w2_ ⟨rfl, hb2_⟩; have hp2_ : Below w1_.heap.size w1_ w2_ := Below.trans (by (repeat' first | (with_reducible first | exact Below.refl _ _ | assumption | refine Kit.below_drewN ?_ _ | refine Below.drew ?_ | refine Below.alloc ?_ ?_ _ | refine Below.setCell ?_ ?_ _ | exact Nat.le_refl _) | omega | (simp; omega) | (simp; done) | (apply Below.size; assumption))) (hb2_.mono (by first | assumption | (simp; done) | (simp; omega) | omega)); have hw2_ : Below w.heap.size w w2_ := hw1_.trans (hp2_.mono hw1_.size); have z2_w : w.heap.size < w2_.heap.size := Nat.lt_of_lt_of_le z1_w hp2_.size; have g2_w_0 := Kit.ck hp2_ g1_w_0 z1_w; have g2_w_1 := Kit.ck hp2_ g1_w_1 z1_w; have g2_w_2 := Kit.ck hp2_ g1_w_2 z1_w; have g2_w_3 := Kit.ck hp2_ g1_w_3 z1_w; have g2_w_4 := Kit.ck hp2_ g1_w_4 z1_w; have g2_w_5 := Kit.ck hp2_ g1_w_5 z1_w; have g2_w_6 := Kit.ck hp2_ g1_w_6 z1_w; have g2_w_7 := Kit.ck hp2_ g1_w_7 z1_w; have g2_w_8 := Kit.ck hp2_ g1_w_8 z1_w; have g2_w_9 := Kit.ck hp2_ g1_w_9 z1_w; have g2_w_10 := Kit.ck hp2_ g1_w_10 z1_w; have z2_w_1 : w.heap.size + 1 < w2_.heap.size := Nat.lt_of_lt_of_le z1_w_1 hp2_.size; have g2_w_1_0 := Kit.ck hp2_ g1_w_1_0 z1_w_1; clear z1_w g1_w_0 g1_w_1 g1_w_2 g1_w_3 g1_w_4 g1_w_5 g1_w_6 g1_w_7 g1_w_8 g1_w_9 g1_w_10 z1_w_1 g1_w_1_0 hw1_ hb2_ hp2_)
  (go_wp2_with (fail); refine (CH.out _ (by (repeat' first | (with_reducible first | exact Below.refl _ _ | assumption | refine Kit.below_drewN ?_ _ | refine Below.drew ?_ | refine Below.alloc ?_ ?_ _ | refine Below.setCell ?_ ?_ _ | exact Nat.le_refl _) | omega | (simp; omega) | (simp; done) | (apply Below.size; assumption)))).mono ?_; rintro e w3_ ⟨rfl, hb3_⟩; have hp3_ : Below w2_.heap.size w2_ w3_ := Below.trans (by (repeat' first | (with_reducible first | exact Below.refl _ _ | assumption | refine Kit.below_drewN ?_ _ | refine Below.drew ?_ | refine Below.alloc ?_ ?_ _ | refine Below.setCell ?_ ?_ _ | exact Nat.le_refl _) | omega | (simp; omega) | (simp; done) | (apply Below.size; assumption))) (hb3_.mono (by first | assumption | (simp; done) | (simp; omega) | omega)); have hw3_ : Below w.heap.size w w3_ := hw2_.trans (hp3_.mono hw2_.size); have z3_w : w.heap.size < w3_.heap.size := Nat.lt_of_lt_of_le z2_w hp3_.size; have g3_w_0 := Kit.ck hp3_ g2_w_0 z2_w; have g3_w_1 := Kit.ck hp3_ g2_w_1 z2_w; have g3_w_2 := Kit.ck hp3_ g2_w_2 z2_w; have g3_w_3 := Kit.ck hp3_ g2_w_3 z2_w; have g3_w_4 := Kit.ck hp3_ g2_w_4 z2_w; have g3_w_5 := Kit.ck hp3_ g2_w_5 z2_w; have g3_w_6 := Kit.ck hp3_ g2_w_6 z2_w; have g3_w_7 := Kit.ck hp3_ g2_w_7 z2_w; have g3_w_8 := Kit.ck hp3_ g2_w_8 z2_w; have g3_w_9 := Kit.ck hp3_ g2_w_9 z2_w; have g3_w_10 := Kit.ck hp3_ g2_w_10 z2_w; have z3_w_1 : w.heap.size + 1 < w3_.heap.size := Nat.lt_of_lt_of_le z2_w_1 hp3_.size; have g3_w_1_0 := Kit.ck hp3_ g2_w_1_0 z2_w_1; clear z2_w g2_w_0 g2_w_1 g2_w_2 g2_w_3 g2_w_4 g2_w_5 g2_w_6 g2_w_7 g2_w_8 g2_w_9 g2_w_10 z2_w_1 g2_w_1_0 hw2_ hb3_ hp3_)
  go_wp2
  have b0 : Below w.heap.size w w3_ := by (repeat' first | (with_reducible first | exact Below.refl _ _ | assumption | refine Kit.below_drewN ?_ _ | refine Below.drew ?_ | refine Below.alloc ?_ ?_ _ | refine Below.setCell ?_ ?_ _ | exact Nat.le_refl _) | omega | (simp; omega) | (simp; done) | (apply Below.size; assumption))
  have s0 : w.heap.size + 1 < w3_.heap.size := z3_w_1
  have K0 := Lib.hid g3_w_0
  have K1 := Lib.hid g3_w_1
  have KH := Lib.hid g3_w_1_0
  clear g3_w_0 g3_w_1 g3_w_2 g3_w_3 g3_w_4 g3_w_5 g3_w_6 g3_w_7 g3_w_8 g3_w_9 g3_w_10 g3_w_1_0 HC CM CH
  go_loopw [12, 80] (fun v12 v80 wr => ∃ (k : Nat) (l : List (Int × Int)) (m : Nat), v12 = .slice none 0 0 ∧ v80 = .int .i64 k ∧ k ≤ P.length ∧ Hid (Kit.PSet Tryd.prog 75 4 wr w3_.heap.size m l) ∧ m ≤ k ∧ Hid (∀ p, p ∈ P ↔ p ∈ l ∨ p ∈ P.drop k) ∧ Hid (P.any (Ap.badP nR) = (P.drop k).any (Ap.badP nR)) ∧ Below w3_.heap.size w3_ wr)
    (fun _ v80 _ => P.length - (intOf v80).toNat)
  case atStart => exact ⟨0, [], 0, rfl, rfl, Nat.zero_le _, Lib.hid (Kit.PSet.made _ _ _ _), Nat.le_refl _, Lib.hid (by simp), Lib.hid (by simp), (Below.refl _ _).alloc (Nat.le_refl _) _⟩
  case round =>
    obtain ⟨k, l, m, rfl, rfl, hk, HP, hm, HM, HA, hB⟩ := hrel
    have hwr : Below w.heap.size w wr := b0.trans (hB.mono b0.size)
    by_cases hlt : k < P.length
    · obtain ⟨ay, rfl, hay, _⟩ := SQ.out.at hlt
      have HSl := SQ.out.kept hwr (Nat.le_refl _)
      have e0 := HSl.head hlt (by omega)
      have e1 := HSl.field hlt (j := 1) (by omega) (by omega)
      clear HSl
      have hdrop := Tp.drop_cons P (0, 0) k hlt
      generalize hx : P.getD k (0, 0) = x at hdrop
      obtain ⟨a, b⟩ := x
      simp only [Ap.prc, hx, if_true, if_false, Nat.one_ne_zero] at e0 e1
      have hany : P.any (Ap.badP nR) = (Ap.badP nR (a, b) || (P.drop (k + 1)).any (Ap.badP nR)) := by rw [HA.out, hdrop]; rfl
      have HD := Lib.hid hdrop
      have HANY := Lib.hid hany
      clear hdrop hany hx HA
      have hbk : (ay.add (k * 2)).block < w.heap.size := by rw [Tp.add_block]; exact hay
      have z0 : w3_.heap.size < wr.heap.size := HP.out.lt
      have HB := Lib.hid hB
      have HWR := Lib.hid hwr
      have zb : (ay.add (k * 2)).block < wr.heap.size := by have := hwr.size; omega
      clear hB hwr
      have hbad : Ap.badP nR (a, b) = true → E = 290 := by
        intro hh
        rw [hE.out, HANY.out, hh]
        simp
      have HBAD := Lib.hid hbad
      clear hbad
      rcases c1 : decide (a < 0) with _ | _
      · rcases c2 : decide (b ≤ a) with _ | _
        · rcases c3 : decide ((nR : Int) ≤ b) with _ | _
          · have hnew : ∀ p, p ∈ P ↔ p ∈ (a, b) :: l ∨ p ∈ P.drop (k + 1) := by
              intro p
              rw [HM.out, HD.out]
              simp only [List.mem_cons]
              constructor
              · rintro (h | h | h) <;> simp [h]
              · rintro ((h | h) | h) <;> simp [h]
            have HN := Lib.hid hnew
            have HA2 := Lib.hid (show P.any (Ap.badP nR) = (P.drop (k + 1)).any (Ap.badP nR) by rw [HANY.out]; simp [Ap.badP, c1, c2, c3])
            clear hnew HBAD HANY HM HD
            have a1 : 0 ≤ a := by simpa using c1
            have a2 : a < b := by simpa using c2
            have a3 : b < nR := by simpa using c3
            go_wp2_with (first | (at_mapUpdate; refine Kit.wpList_mapUpdate_pset _ rfl _ _ _ 92 rfl 75 4 3 Ap.ptypes w3_.heap.size m l rfl (HP.out.alloc _) (by unfold maxLen; omega) _ _ rfl rfl (WalkArith.wf_i64 (by omega)) (WalkArith.wf_i64 (by omega)) ?_; intro w2 hp2 hg2; have HP2 := Lib.hid hp2; have HG2 := Lib.hid hg2; clear hp2 hg2) | go_in)
            exact ⟨⟨k + 1, _, m + 1, rfl, by go_num, by omega, HP2, by omega, HN, HA2, Below.grown (HB.out.alloc (by have := HB.out.size; omega) _) HG2.out (by simp; omega) (fun j hj => by cases hj; omega)⟩, by simp [intOf]; omega⟩
          · have HE := Lib.hid (HBAD.out (by simp [Ap.badP, c3]))
            clear HBAD HANY HM HD
            go_wp2
            go_ret2
            exact Ap.CPost.err HE.out (by decide) (by have := HWR.out; (repeat' first | (with_reducible first | exact Below.refl _ _ | assumption | refine Kit.below_drewN ?_ _ | refine Below.drew ?_ | refine Below.alloc ?_ ?_ _ | refine Below.setCell ?_ ?_ _ | exact Nat.le_refl _) | omega | (simp; omega) | (simp; done) | (apply Below.size; assumption)))
        · have HE := Lib.hid (HBAD.out (by simp [Ap.badP, c2]))
          clear HBAD HANY HM HD
          go_wp2
          go_ret2
          exact Ap.CPost.err HE.out (by decide) (by have := HWR.out; (repeat' first | (with_reducible first | exact Below.refl _ _ | assumption | refine Kit.below_drewN ?_ _ | refine Below.drew ?_ | refine Below.alloc ?_ ?_ _ | refine Below.setCell ?_ ?_ _ | exact Nat.le_refl _) | omega | (simp; omega) | (simp; done) | (apply Below.size; assumption)))
      · have HE := Lib.hid (HBAD.out (by simp [Ap.badP, c1]))
        clear HBAD HANY HM HD
        go_wp2
        go_ret2
        exact Ap.CPost.err HE.out (by decide) (by have := HWR.out; (repeat' first | (with_reducible first | exact Below.refl _ _ | assumption | refine Kit.below_drewN ?_ _ | refine Below.drew ?_ | refine Below.alloc ?_ ?_ _ | refine Below.setCell ?_ ?_ _ | exact Nat.le_refl _) | omega | (simp; omega) | (simp; done) | (apply Below.size; assumption)))
    · have hfin : ∀ p, p ∈ P ↔ p ∈ l := by
        intro p
        rw [HM.out p, List.drop_of_length_le (by omega)]
        simp
      have HHAS := Lib.hid (Ap.has_congr hfin)
      have HE := Lib.hid (show E = Ap.pthE bar gs by rw [hE.out, HA.out, List.drop_of_length_le (by omega)]; simp)
      have HL := Lib.hid (show L = Ap.ksC (Ap.has l) mv hd nR 0 5 ++ (Ap.allW mv hd (Ap.pths bar gs) 0 nR ++ Ap.allE (0, 841 * wd, 0, 841 * dp) mv hd 0 nR) by rw [hL.out, HHAS.out])
      have z0 : w3_.heap.size < wr.heap.size := HP.out.lt
      have kh : wr.cell? ⟨w.heap.size + 1, 0, none⟩ = some (.slice aW gs.length cW) := (hB.cell (by simpa using s0)).trans KH.out
      have K0r := Lib.hid ((hB.cell (by simp; omega)).trans K0.out)
      have K1r := Lib.hid ((hB.cell (by simp; omega)).trans K1.out)
      have HWR := Lib.hid hwr
      clear hfin hE hL HHAS HA HM hB hwr SQ K0 K1 KH hk
      obtain ⟨W1, rfl⟩ : ∃ W1, W1 = wr := ⟨_, rfl⟩
      go_wp2
      clear kh
      go_loopw [12, 19, 106] (fun v12 v19 v106 wq => ∃ (k : Nat) (acc : List Ap.Bx), v12 = .slice none 0 0 ∧ v106 = .int .i64 k ∧ k ≤ gs.length ∧ acc.length = k ∧ Hid (wq.ownsRow W1.heap.size 25 4 v19 acc.length (Ap.flB acc)) ∧ Hid (Ap.pths bar gs = acc ++ Ap.pths bar (gs.drop k)) ∧ Hid (∀ x ∈ acc, Ap.okB x = true) ∧ Hid (Ap.pthE bar gs = Ap.pthE bar (gs.drop k)) ∧ Below W1.heap.size W1 wq)
        (fun _ _ v106 _ => gs.length - (intOf v106).toNat)
      case atStart => exact ⟨0, [], rfl, rfl, Nat.zero_le _, rfl, Lib.hid (World.ownsRow_nil _ _ _ _), Lib.hid (by simp), Lib.hid (by simp), Lib.hid (by simp), Below.refl _ _⟩
      case round =>
        obtain ⟨k, acc, rfl, rfl, hk, hal, HO, HPT, HOK, HPE, hB⟩ := hrel
        have hwr : Below w.heap.size w wr := HWR.out.trans (hB.mono HWR.out.size)
        by_cases hlt : k < gs.length
        · obtain ⟨ay, rfl, hay, _⟩ := SW.out.at hlt
          have HSl := SW.out.kept hwr (Nat.le_refl _)
          have e0 := HSl.head hlt (by omega)
          have e1 := HSl.field hlt (j := 1) (by omega) (by omega)
          have e2 := HSl.field hlt (j := 2) (by omega) (by omega)
          have e3 := HSl.field hlt (j := 3) (by omega) (by omega)
          have e4 := HSl.field hlt (j := 4) (by omega) (by omega)
          have e5 := HSl.field hlt (j := 5) (by omega) (by omega)
          have e6 := HSl.field hlt (j := 6) (by omega) (by omega)
          have e7 := HSl.field hlt (j := 7) (by omega) (by omega)
          clear HSl
          have hdrop := Tp.drop_cons gs ⟨0, 0, 0, 0, 0, 0, 0, 0⟩ k hlt
          generalize hx : gs.getD k ⟨0, 0, 0, 0, 0, 0, 0, 0⟩ = x at hdrop
          simp only [Ap.wgc, hx] at e0 e1 e2 e3 e4 e5 e6 e7
          have hpt : Ap.pths bar gs = acc ++ (Ap.toB (Ap.pathR x bar) :: Ap.pths bar (gs.drop (k + 1))) := by rw [HPT.out, hdrop]; rfl
          have hpe : Ap.pthE bar gs = if (Ap.pathR x bar).2.2.2.2 = 0 then Ap.pthE bar (gs.drop (k + 1)) else (Ap.pathR x bar).2.2.2.2 := by rw [HPE.out, hdrop]; rfl
          have hok : (Ap.pathR x bar).2.2.2.2 = 0 → Ap.okB (Ap.toB (Ap.pathR x bar)) = true := Ap.pathR_ok
          have hp : ∀ W, Ap.Path x bar W (Ap.pathR x bar) := fun W => ap_path x bar W
          generalize Ap.pathR x bar = r at hpt hpe hok hp
          obtain ⟨r1, r2, r3, r4, r5⟩ := r
          obtain ⟨ga, gb, gc, gd, gf, gl, gx, gy⟩ := x
          dsimp only [Ap.toB] at hpt hpe hok e0 e1 e2 e3 e4 e5 e6 e7
          have HPA := Lib.hid hp
          have HPT2 := Lib.hid hpt
          have HPE2 := Lib.hid hpe
          have HOK2 := Lib.hid hok
          have hbk : (ay.add (k * 8)).block < wr.heap.size := by rw [Tp.add_block]; have := hwr.size; omega
          have HB := Lib.hid hB
          have HWW := Lib.hid hwr
          have zq := hB.size
          clear hpt hpe hok hp hdrop hx HPT HPE hB hwr
          go_wp2_with fail
          refine (HPA.out _).mono ?_
          rintro e wz ⟨rfl, hbz⟩
          have zz := hbz.size
          rw [World.size_alloc] at zz
          have HB2 := Lib.hid ((HB.out.alloc (by omega) (.cells #[.int .i64 ga, .int .i64 gb, .int .i64 gc, .int .i64 gd, .int .i64 gf, .int .i64 gl, .int .i64 gx, .int .i64 gy] 27)).trans (hbz.mono (by simp; omega)))
          have HO2 := Lib.hid (Kit.ownsRow_thn (HO.out.alloc _) hbz)
          have HWZ := Lib.hid (HWR.out.trans (HB2.out.mono HWR.out.size))
          clear hbz e0 e1 e2 e3 e4 e5 e6 e7 HO HB HWW
          dsimp only
          rcases d5 : (r5 != 0) with _ | _
          · have r0 : r5 = 0 := by simpa using d5
            have HPE3 := Lib.hid (show Ap.pthE bar gs = Ap.pthE bar (gs.drop (k + 1)) by rw [HPE2.out, if_pos r0])
            have HOK3 := Lib.hid (show ∀ x ∈ acc ++ [(r1, r2, r3, r4)], Ap.okB x = true by
              intro x hx
              rcases List.mem_append.1 hx with h | h
              · exact HOK.out x h
              · simp at h; subst h; exact HOK2.out r0)
            have HPT3 := Lib.hid (show Ap.pths bar gs = (acc ++ [(r1, r2, r3, r4)]) ++ Ap.pths bar (gs.drop (k + 1)) by rw [HPT2.out]; simp)
            clear HPE2 HOK2 HPT2 HOK r0
            obtain ⟨i0, hi, hz0, hz1, hz2⟩ := info_parts Ap.infoB
            have hcell : ∀ (W : World) (N : Nat), N = W.heap.size → ∀ j u, [Value.int .i64 r1, .int .i64 r2, .int .i64 r3, .int .i64 r4][j]? = some u → (W.alloc (.cells #[.int .i64 r1, .int .i64 r2, .int .i64 r3, .int .i64 r4] 25)).cell? ((⟨N, 0, none⟩ : Addr).add j) = some u := by
              rintro W N rfl j u hu
              rcases j with _ | _ | _ | _ | j <;> simp at hu <;> subst hu <;> simp [Addr.add, go_sem]
            have HCELL := Lib.hid hcell; clear hcell
            go_wp2_with (first | (at_builtin; refine Kit.wpList_append_own' _ rfl _ _ 57 rfl W1.heap.size 25 i0 (.agg #[.int .i64 0, .int .i64 0, .int .i64 0, .int .i64 0]) 4 32 Ap.underB hi hz0 hz1 hz2 rfl (by decide) _ _ _ rfl ((HO2.out.alloc _).alloc _) ⟨wz.heap.size + 1, 0, none⟩ 1 1 [.int .i64 r1, .int .i64 r2, .int .i64 r3, .int .i64 r4] rfl rfl (HCELL.out _ _ (by simp)) (by simp [Value.oneCell']) (by unfold maxLen; omega) (by omega) (by simp; omega) ?_; intro v' w2 hown' hgrow _ _; have HOWN := Lib.hid hown'; have HGR := Lib.hid hgrow; clear hown' hgrow) | go_in)
            exact ⟨⟨k + 1, acc ++ [(r1, r2, r3, r4)], rfl, by go_num, by omega, by simp; omega, Lib.hid (by rw [Ap.flB_snoc, List.length_append]; exact HOWN.out), HPT3, HOK3, HPE3,
              Below.grown ((HB2.out.alloc (by omega) _).alloc (by simp; omega) _) HGR.out (by simp; omega) (fun j hj => (HO2.out.lt _ hj).1)⟩, by simp [intOf]; omega⟩
          · have r0 : r5 ≠ 0 := by simpa using d5
            have HE2 := Lib.hid (show E = r5 by rw [HE.out, HPE2.out, if_neg r0])
            have HR0 := Lib.hid r0
            clear HPE2 HOK2 HPT2 HOK r0 HO2
            go_wp2
            go_ret2
            exact Ap.CPost.err HE2.out HR0.out (by have := HWZ.out; (repeat' first | (with_reducible first | exact Below.refl _ _ | assumption | refine Kit.below_drewN ?_ _ | refine Below.drew ?_ | refine Below.alloc ?_ ?_ _ | refine Below.setCell ?_ ?_ _ | exact Nat.le_refl _) | omega | (simp; omega) | (simp; done) | (apply Below.size; assumption)))
        · have HPT2 := Lib.hid (show Ap.pths bar gs = acc by rw [HPT.out, List.drop_of_length_le (by omega)]; simp [Ap.pths])
          have HE2 := Lib.hid (show E = 0 by rw [HE.out, HPE.out, List.drop_of_length_le (by omega)]; rfl)
          have HL2 := Lib.hid (show L = Ap.ksC (Ap.has l) mv hd nR 0 5 ++ (Ap.allW mv hd acc 0 nR ++ Ap.allE (0, 841 * wd, 0, 841 * dp) mv hd 0 nR) by rw [HL.out, HPT2.out])
          obtain ⟨ap, cp, rfl, hsl, _⟩ := Ap.own_sl (f := Ap.bxc acc) HO.out (fun i j hi hj => Ap.flB_at acc i j hi hj)
          have SP := Lib.hid hsl
          have la : acc.length ≤ 8 := by omega
          have HP2 := Lib.hid (HP.out.kept (hB.block _ z0))
          have zP : w3_.heap.size < wr.heap.size := HP2.out.lt
          have K0s := Lib.hid ((hB.cell (p := ⟨w.heap.size, 0, none⟩) (by simp; omega)).trans K0r.out)
          have K1s := Lib.hid ((hB.cell (p := ⟨w.heap.size, 1, none⟩) (by simp; omega)).trans K1r.out)
          have HWS := Lib.hid hwr
          clear HPT HPE HE HL HPT2 HO hsl hal hk hB hwr HP K0r K1r HWR z0 SW
          obtain ⟨W2, rfl⟩ : ∃ W2, W2 = wr := ⟨_, rfl⟩
          go_wp2
          obtain ⟨T, hT⟩ : ∃ T, T = Ap.allW mv hd acc 0 nR ++ Ap.allE (0, 841 * wd, 0, 841 * dp) mv hd 0 nR := ⟨_, rfl⟩
          have HL3 := Lib.hid (show L = Ap.ksC (Ap.has l) mv hd nR 0 5 ++ T by rw [HL2.out, hT])
          have HT := Lib.hid hT
          clear hT HL2
          go_loopw [12, 138] (fun v12 v138 wq => ∃ (k : Nat) (cs : List Ap.C3) (v : Value), v138 = .int .i64 k ∧ v = v12 ∧ k ≤ 5 ∧ Hid (wq.ownsRow W2.heap.size 73 3 v cs.length (Ap.flC cs)) ∧ cs.length ≤ k * 4096 ∧ Hid (L = cs ++ (Ap.ksC (Ap.has l) mv hd nR k (5 - k) ++ T)) ∧ Hid (Kit.LR W2 (.slice none 0 0) v wq))
            (fun _ v138 _ => 5 - (intOf v138).toNat)
          case atStart => exact ⟨0, [], _, rfl, rfl, Nat.zero_le _, Lib.hid (World.ownsRow_nil _ _ _ _), by simp, Lib.hid (by simpa using HL3.out), Lib.hid ((Kit.LR.refl _ _).alloc _)⟩
          case round =>
            clear HL3
            obtain ⟨k, cs, v, rfl, rfl, hk, HO, hcl, HL3, HLR⟩ := hrel
            have zr := HLR.out.size
            by_cases hlt : k < 5
            · have hidx : ∃ (au : Option Addr) (nu cu : Nat) (av : Option Addr) (nv cv : Nat),
                  (∀ W, (Instr.index 103 (.agg #[Value.slice none 0 0, Value.slice none 0 0, Value.slice aM nR cM, Value.slice aM nR cM, Value.slice aM nR cM, Value.slice aH nR cH, Value.slice aH nR cH, Value.slice aM nR cM, Value.slice aH nR cH, Value.slice aH nR cH]) (.int .i64 k)).run Tryd.prog W = .ok (.agg #[.slice au nu cu, .slice av nv cv]) W) ∧
                  nu = (Ap.one mv hd k).length ∧ nv = (Ap.two mv hd k).length ∧ (nu = 0 ∨ nu = nR ∧ nv = nR) ∧ Tp.Sl w au nu 4 (Ap.bxc (Ap.one mv hd k)) ∧ Tp.Sl w av nv 4 (Ap.bxc (Ap.two mv hd k)) ∧ (∀ x ∈ Ap.one mv hd k, Ap.okB x = true) ∧ (∀ x ∈ Ap.two mv hd k, Ap.okB x = true) := by
                have m1 := LM.out
                have h1 := LH.out
                rcases k with _ | _ | _ | _ | _ | k
                · exact ⟨none, 0, 0, none, 0, 0, fun W => by kernel_rfl, rfl, rfl, .inl rfl, .inl rfl, .inl rfl, by simp [Ap.one], by simp [Ap.two]⟩
                · exact ⟨aM, nR, cM, aM, nR, cM, fun W => by kernel_rfl, m1.symm, m1.symm, .inr ⟨rfl, rfl⟩, SM.out, SM.out, OM.out, OM.out⟩
                · exact ⟨aM, nR, cM, aH, nR, cH, fun W => by kernel_rfl, m1.symm, h1.symm, .inr ⟨rfl, rfl⟩, SM.out, SH.out, OM.out, OH.out⟩
                · exact ⟨aH, nR, cH, aM, nR, cM, fun W => by kernel_rfl, h1.symm, m1.symm, .inr ⟨rfl, rfl⟩, SH.out, SM.out, OH.out, OM.out⟩
                · exact ⟨aH, nR, cH, aH, nR, cH, fun W => by kernel_rfl, h1.symm, h1.symm, .inr ⟨rfl, rfl⟩, SH.out, SH.out, OH.out, OH.out⟩
                · omega
              obtain ⟨au, nu, cu, av, nv, cv, hidx, hnu, hnv, hnn, hsu, hsv, hou, hov⟩ := hidx
              have hstep := Ap.ksC_step (Ap.has l) mv hd nR k 5 hlt
              rw [← hnu] at hstep
              generalize Ap.one mv hd k = U at hstep hnu hsu hou
              generalize Ap.two mv hd k = V at hstep hnv hsv hov
              obtain ⟨T3, hT3⟩ : ∃ T3, T3 = Ap.ksC (Ap.has l) mv hd nR (k + 1) (5 - (k + 1)) ++ T := ⟨_, rfl⟩
              have hl3 : L = cs ++ (Ap.allC (Ap.has l) k U V nR 0 nu ++ T3) := by rw [HL3.out, hstep, hT3]; simp
              have HL4 := Lib.hid hl3
              have HT3 := Lib.hid hT3
              have HNU := Lib.hid hnu
              have HNV := Lib.hid hnv
              have SU := Lib.hid hsu
              have SV := Lib.hid hsv
              have OU := Lib.hid hou
              have OV := Lib.hid hov
              have lnu : nu ≤ 64 := by omega
              have HNN := Lib.hid hnn
              clear hnn
              clear hl3 hT3 hstep hnu hnv hsu hsv hou hov HL3
              have dk : decide ((k : Int) < 5) = true := by simp; omega
              go_wp2
              clear dk
              clear hidx
              obtain ⟨W3, hW3⟩ : ∃ W3, W3 = wr.alloc (Obj.cells #[Value.slice au nu cu, Value.slice av nv cv] 102) := ⟨_, rfl⟩
              have z3 : W3.heap.size = wr.heap.size + 1 := by rw [hW3]; simp
              have B0 := Lib.hid (show W3.cell? ⟨wr.heap.size, 0, none⟩ = some (.slice au nu cu) by rw [hW3]; simp [go_sem])
              have B1 := Lib.hid (show W3.cell? ⟨wr.heap.size, 1, none⟩ = some (.slice av nv cv) by rw [hW3]; simp [go_sem])
              have HO3 := Lib.hid (show W3.ownsRow W2.heap.size 73 3 v cs.length (Ap.flC cs) by rw [hW3]; exact HO.out.alloc _)
              have HLR3 := Lib.hid (show Kit.LR W2 (.slice none 0 0) v W3 by rw [hW3]; exact HLR.out.alloc _)
              have hvb : v.ownBlock ≠ some wr.heap.size := fun h => by have := (HO.out.lt _ h).2; omega
              have HVB := Lib.hid hvb
              obtain ⟨B26, hB26⟩ : ∃ B, B = wr.heap.size := ⟨_, rfl⟩
              rw [← hB26] at B0 B1 HVB z3 ⊢
              rw [← hW3]
              have z26 : W2.heap.size ≤ B26 := by omega
              clear hW3 hvb HO HLR zr
              clear hB26
              go_loopw [12, 145] (fun v12 v145 wq => ∃ (a : Nat) (ds : List Ap.C3) (v' : Value), v145 = .int .i64 a ∧ v' = v12 ∧ a ≤ nu ∧ Hid (wq.ownsRow W2.heap.size 73 3 v' ds.length (Ap.flC ds)) ∧ ds.length ≤ k * 4096 + a * 64 ∧ Hid (L = ds ++ (Ap.allC (Ap.has l) k U V nR a (nu - a) ++ T3)) ∧ Hid (Kit.LR W3 v v' wq))
                (fun _ v145 _ => nu - (intOf v145).toNat)
              case atStart => exact ⟨0, cs, v, rfl, rfl, Nat.zero_le _, HO3, by omega, HL4, Lib.hid (Kit.LR.refl _ _)⟩
              case round =>
                clear HO3 HL4
                obtain ⟨a, ds, v', rfl, rfl, ha, HO, hdl, HL4, HLR⟩ := hrel
                have zr := HLR.out.size
                by_cases hla : a < nu
                · have hnR : nu = nR ∧ nv = nR := by have := HNN.out; omega
                  have HNR := Lib.hid hnR
                  have hanR : a < nR := by omega
                  clear hnR
                  have hstep := Ap.allC_step (Ap.has l) k U V nR a nu hla
                  obtain ⟨T4, hT4⟩ : ∃ T4, T4 = Ap.allC (Ap.has l) k U V nR (a + 1) (nu - (a + 1)) ++ T3 := ⟨_, rfl⟩
                  have hl4 : L = ds ++ (Ap.rowC (Ap.has l) k (U.getD a (0, 0, 0, 0)) V a (a + 1) (nR - (a + 1)) ++ T4) := by rw [HL4.out, hstep, hT4]; simp
                  have HL5 := Lib.hid hl4
                  have HT4 := Lib.hid hT4
                  clear hl4 hT4 hstep HL4
                  have da : decide ((a : Int) < (nu : Int)) = true := by simp; omega
                  go_wp2
                  clear da
                  go_loopw [12, 28] (fun v12 v28 wq => ∃ (b : Nat) (es : List Ap.C3) (v'' : Value), v28 = .int .i64 b ∧ v'' = v12 ∧ a + 1 ≤ b ∧ b ≤ nR ∧ Hid (wq.ownsRow W2.heap.size 73 3 v'' es.length (Ap.flC es)) ∧ es.length ≤ k * 4096 + a * 64 + b ∧ Hid (L = es ++ (Ap.rowC (Ap.has l) k (U.getD a (0, 0, 0, 0)) V a b (nR - b) ++ T4)) ∧ Hid (Kit.LR W3 v v'' wq))
                    (fun _ v28 _ => nR - (intOf v28).toNat)
                  case atStart => exact ⟨a + 1, ds, v', by go_num, rfl, Nat.le_refl _, by omega, HO, by omega, HL5, HLR⟩
                  case round =>
                    clear HO HL5 HLR hdl
                    obtain ⟨b, es, v'', rfl, rfl, hab, hb, HO, hel, HL5, HLR⟩ := hrel
                    have zr := HLR.out.size
                    by_cases hlb : b < nR
                    · have hwr : Below w.heap.size w wr := (HWS.out.trans ((HLR3.out.nest HLR.out).below (Nat.le_refl _) (fun _ h => by cases h) |>.mono HWS.out.size))
                      have HPw : Kit.PSet Tryd.prog 75 4 wr w3_.heap.size m l := HP2.out.kept ((HLR3.out.nest HLR.out).block zP (fun h => by cases h))
                      have k0 : ∀ z : Kit.Wd wr, z.val.cell? ⟨B26, 0, none⟩ = some (.slice au nu cu) := fun z => z.cell ((World.cell?_of_block (HLR.out.block (b := B26) (by omega) HVB.out)).trans B0.out) (by simp; omega)
                      have k1 : ∀ z : Kit.Wd wr, z.val.cell? ⟨B26, 1, none⟩ = some (.slice av nv cv) := fun z => z.cell ((World.cell?_of_block (HLR.out.block (b := B26) (by omega) HVB.out)).trans B1.out) (by simp; omega)
                      have hlv : b < nv := by have := HNR.out; omega
                      obtain ⟨ua, rfl, hua, _⟩ := SU.out.at hla
                      obtain ⟨va, rfl, hva, _⟩ := SV.out.at hlv
                      have hsu : ∀ z : Kit.Wd wr, Tp.Sl z.val (some ua) nu 4 (Ap.bxc U) := fun z => SU.out.kept (hwr.trans (z.below.mono hwr.size)) (Nat.le_refl _)
                      have hsv : ∀ z : Kit.Wd wr, Tp.Sl z.val (some va) nv 4 (Ap.bxc V) := fun z => SV.out.kept (hwr.trans (z.below.mono hwr.size)) (Nat.le_refl _)
                      have e0 := fun z => (hsu z).head hla (by omega)
                      have e1 := fun z => (hsu z).field hla (j := 1) (by omega) (by omega)
                      have e2 := fun z => (hsu z).field hla (j := 2) (by omega) (by omega)
                      have e3 := fun z => (hsu z).field hla (j := 3) (by omega) (by omega)
                      have i0 := fun z => (hsv z).head hlv (by omega)
                      have i1 := fun z => (hsv z).field hlv (j := 1) (by omega) (by omega)
                      have i2 := fun z => (hsv z).field hlv (j := 2) (by omega) (by omega)
                      have i3 := fun z => (hsv z).field hlv (j := 3) (by omega) (by omega)
                      have mu : U.getD a (0, 0, 0, 0) ∈ U := by
                        have hh : a < U.length := by have := HNU.out; omega
                        have : U.getD a (0, 0, 0, 0) ∈ U.drop a := by rw [Tp.drop_cons U _ a hh]; exact List.mem_cons_self ..
                        exact List.mem_of_mem_drop this
                      have mv' : V.getD b (0, 0, 0, 0) ∈ V := by
                        have hh : b < V.length := by have := HNV.out; omega
                        have : V.getD b (0, 0, 0, 0) ∈ V.drop b := by rw [Tp.drop_cons V _ b hh]; exact List.mem_cons_self ..
                        exact List.mem_of_mem_drop this
                      have okx := OU.out _ mu
                      have oky := OV.out _ mv'
                      have hstep := Ap.rowC_step (Ap.has l) k (U.getD a (0, 0, 0, 0)) V a b nR hlb
                      have hhit : Ap.hit (Ap.has l) (U.getD a (0, 0, 0, 0)) V a b = (!decide (((a : Int), (b : Int)) ∈ l) && Ap.meet (U.getD a (0, 0, 0, 0)) (V.getD b (0, 0, 0, 0))) := rfl
                      rw [hhit] at hstep
                      simp only [Ap.bxc] at e0 e1 e2 e3 i0 i1 i2 i3
                      clear mu mv' hhit hsu hsv
                      generalize hx : U.getD a (0, 0, 0, 0) = x at *
                      generalize hy : V.getD b (0, 0, 0, 0) = y at *
                      have tg := fun W => ap_together x.1 x.2.1 x.2.2.1 x.2.2.2 y.1 y.2.1 y.2.2.1 y.2.2.2 W okx oky
                      have hmt : Ap.meet x y = Sp.meets x.1 x.2.1 x.2.2.1 x.2.2.2 y.1 y.2.1 y.2.2.1 y.2.2.2 := rfl
                      rw [← hmt] at tg
                      clear hmt okx oky
                      generalize Ap.meet x y = mt at tg hstep
                      have HPW := Lib.hid HPw
                      have TG := Lib.hid tg
                      have HWW := Lib.hid hwr
                      have HST := Lib.hid hstep
                      have HX := Lib.hid hx
                      clear HPw tg hwr hstep hx hy
                      have miss : (!decide (((a : Int), (b : Int)) ∈ l) && mt) = false → L = es ++ (Ap.rowC (Ap.has l) k x V a (b + 1) (nR - (b + 1)) ++ T4) := fun hh => by rw [HL5.out, HST.out, if_neg (by simp [hh])]
                      have hits : (!decide (((a : Int), (b : Int)) ∈ l) && mt) = true → L = (es ++ [((k : Int), (a : Int), (b : Int))]) ++ (Ap.rowC (Ap.has l) k x V a (b + 1) (nR - (b + 1)) ++ T4) := fun hh => by rw [HL5.out, HST.out, if_pos hh]; simp
                      have MISS := Lib.hid miss
                      have HITS := Lib.hid hits
                      clear miss hits HST HL5
                      rcases hin : decide (((a : Int), (b : Int)) ∈ l) with _ | _
                      · cases mt
                        · have HM2 := Lib.hid (MISS.out (by rw [hin]; rfl))
                          clear MISS HITS
                          go_wp2
                          (refine Kit.wp_region_cls (by kernel_rfl) (by kernel_rfl) ?_; (repeat (first | go_big_quiet_skip | (go_big_quiet_want; first | (refine Kit.quiet_lookup_pset _ _ _ rfl 75 4 3 Ap.ptypes w3_.heap.size m l rfl HPW.out _ _ rfl (WalkArith.wf_i64 (by omega)) (WalkArith.wf_i64 (by omega)) _ hin ?_; go_simp; go_big_quiet_on) | (go_big_quiet_op; first | go_big_quiet_on | go_big_quiet_call (exact Kit.calls_cls _ (TG.out _)))))); refine wpQuiet_nil ?_; intro z)
                          have HLZ := Lib.hid (HLR.out.then z.below)
                          have HOZ := Lib.hid (Kit.ownsRow_thn HO.out z.below)
                          have zz := z.below.size
                          generalize z.val = Z at *
                          clear k0 k1 e0 e1 e2 e3 i0 i1 i2 i3 hin
                          go_wp2
                          go_roundw
                          case rel => exact ⟨b + 1, es, v'', by go_num, rfl, by omega, by omega, HOZ, by omega, HM2, HLZ⟩
                          case measure => simp [intOf]; omega
                        · have HM2 := Lib.hid (HITS.out (by rw [hin]; rfl))
                          clear MISS HITS
                          go_wp2
                          (refine Kit.wp_region_cls (by kernel_rfl) (by kernel_rfl) ?_; (repeat (first | go_big_quiet_skip | (go_big_quiet_want; first | (refine Kit.quiet_lookup_pset _ _ _ rfl 75 4 3 Ap.ptypes w3_.heap.size m l rfl HPW.out _ _ rfl (WalkArith.wf_i64 (by omega)) (WalkArith.wf_i64 (by omega)) _ hin ?_; go_simp; go_big_quiet_on) | (go_big_quiet_op; first | go_big_quiet_on | go_big_quiet_call (exact Kit.calls_cls _ (TG.out _)))))); refine wpQuiet_nil ?_; intro z)
                          have HLZ := Lib.hid (HLR.out.then z.below)
                          have HOZ := Lib.hid (Kit.ownsRow_thn HO.out z.below)
                          have zz := z.below.size
                          generalize z.val = Z at *
                          clear k0 k1 e0 e1 e2 e3 i0 i1 i2 i3 hin
                          obtain ⟨i0, hi, hz0, hz1, hz2⟩ := info_parts Ap.infoC
                          have hcell : ∀ (W : World) (N : Nat), N = W.heap.size → ∀ j u, [.int .i64 k, .int .i64 a, .int .i64 b][j]? = some u → (W.alloc (.cells #[.int .i64 k, .int .i64 a, .int .i64 b] 73)).cell? ((⟨N, 0, none⟩ : Addr).add j) = some u := by
                            rintro W N rfl j u hu
                            rcases j with _ | _ | _ | j <;> simp at hu <;> subst hu <;> simp [Addr.add, go_sem]
                          have HCELL := Lib.hid hcell; clear hcell
                          go_wp2_with (first | (at_builtin; refine Kit.wpList_append_own' _ rfl _ _ 58 rfl W2.heap.size 73 i0 (.agg #[.int .i64 0, .int .i64 0, .int .i64 0]) 3 24 Ap.underC hi hz0 hz1 hz2 rfl (by decide) _ _ _ rfl (HOZ.out.alloc _) ⟨Z.heap.size, 0, none⟩ 1 1 [.int .i64 k, .int .i64 a, .int .i64 b] rfl rfl (HCELL.out _ _ (by simp)) (by simp [Value.oneCell']) (by unfold maxLen; omega) (by omega) (by simp; omega) ?_; intro v3 w2 hown' hgrow _ hwhere; have HOWN := Lib.hid hown'; have HGR := Lib.hid hgrow; have HWH := Lib.hid hwhere; clear hown' hgrow hwhere) | go_in)
                          exact ⟨⟨b + 1, es ++ [((k : Int), (a : Int), (b : Int))], v3, by go_num, rfl, by omega, by omega, Lib.hid (by rw [Ap.flC_snoc, List.length_append]; exact HOWN.out), by simp; omega, HM2, Lib.hid ((HLZ.out.alloc _).grown HGR.out HWH.out)⟩, by simp [intOf]; omega⟩
                      · have HM2 := Lib.hid (MISS.out (by rw [hin]; rfl))
                        clear MISS HITS
                        go_wp2
                        (refine Kit.wp_region_cls (by kernel_rfl) (by kernel_rfl) ?_; (repeat (first | go_big_quiet_skip | (go_big_quiet_want; first | (refine Kit.quiet_lookup_pset _ _ _ rfl 75 4 3 Ap.ptypes w3_.heap.size m l rfl HPW.out _ _ rfl (WalkArith.wf_i64 (by omega)) (WalkArith.wf_i64 (by omega)) _ hin ?_; go_simp; go_big_quiet_on) | (go_big_quiet_op; first | go_big_quiet_on | go_big_quiet_call (exact Kit.calls_cls _ (TG.out _)))))); refine wpQuiet_nil ?_; intro z)
                        have HLZ := Lib.hid (HLR.out.then z.below)
                        have HOZ := Lib.hid (Kit.ownsRow_thn HO.out z.below)
                        have zz := z.below.size
                        generalize z.val = Z at *
                        clear k0 k1 e0 e1 e2 e3 i0 i1 i2 i3 hin
                        go_wp2
                        go_roundw
                        case rel => exact ⟨b + 1, es, v'', by go_num, rfl, by omega, by omega, HOZ, by omega, HM2, HLZ⟩
                        case measure => simp [intOf]; omega
                    · have hl5 : L = es ++ (Ap.allC (Ap.has l) k U V nR (a + 1) (nu - (a + 1)) ++ T3) := by rw [HL5.out, show nR - b = 0 by omega, HT4.out]; rfl
                      have HL6 := Lib.hid hl5
                      clear hl5 HL5
                      go_wp2
                      go_roundw
                      case rel => exact ⟨a + 1, es, v'', by go_num, rfl, by omega, HO, by omega, HL6, HLR⟩
                      case measure => simp [intOf]; omega
                · have hl4 : L = ds ++ (Ap.ksC (Ap.has l) mv hd nR (k + 1) (5 - (k + 1)) ++ T) := by rw [HL4.out, show nu - a = 0 by omega, HT3.out]; rfl
                  have HL5 := Lib.hid hl4
                  clear hl4 HL4
                  go_wp2
                  go_roundw
                  case rel => exact ⟨k + 1, ds, v', by go_num, rfl, by omega, HO, by omega, HL5, Lib.hid (HLR3.out.nest HLR.out)⟩
                  case measure => simp [intOf]; omega
            · have hl4 : L = cs ++ (Ap.allW mv hd acc 0 nR ++ Ap.allE (0, 841 * wd, 0, 841 * dp) mv hd 0 nR) := by rw [HL3.out, HT.out, show 5 - k = 0 by omega]; rfl
              have HL4 := Lib.hid hl4
              clear hl4 HL3 HT
              obtain ⟨T6, hT6⟩ : ∃ T6, T6 = Ap.allE (0, 841 * wd, 0, 841 * dp) mv hd 0 nR := ⟨_, rfl⟩
              rw [← hT6] at HL4
              have HT6 := Lib.hid hT6
              have HL3 := HL4
              clear HL4 hT6
              go_wp2
              go_loopw [12, 184] (fun v12 v184 wq => ∃ (a : Nat) (ds : List Ap.C3) (v' : Value), v184 = .int .i64 a ∧ v' = v12 ∧ a ≤ nR ∧ Hid (wq.ownsRow W2.heap.size 73 3 v' ds.length (Ap.flC ds)) ∧ ds.length ≤ 5 * 4096 + a * 8 ∧ Hid (L = ds ++ (Ap.allW mv hd acc a (nR - a) ++ T6)) ∧ Hid (Kit.LR W2 (.slice none 0 0) v' wq))
                (fun _ v184 _ => nR - (intOf v184).toNat)
              case atStart => exact ⟨0, cs, v, rfl, rfl, Nat.zero_le _, HO, by omega, HL3, HLR⟩
              case round =>
                clear HO HLR HL3 zr hcl
                obtain ⟨a, ds, v', rfl, rfl, ha, HO, hdl, HL4, HLR⟩ := hrel
                by_cases hla : a < nR
                · have hstep := Ap.allW_step mv hd acc a nR hla
                  obtain ⟨T7, hT7⟩ : ∃ T7, T7 = Ap.allW mv hd acc (a + 1) (nR - (a + 1)) ++ T6 := ⟨_, rfl⟩
                  have hl4 : L = ds ++ (Ap.rowW (mv.getD a (0, 0, 0, 0)) (hd.getD a (0, 0, 0, 0)) acc a 0 (acc.length - 0) ++ T7) := by rw [HL4.out, hstep, hT7]; simp
                  have HL5 := Lib.hid hl4
                  have HT7 := Lib.hid hT7
                  clear hl4 hT7 hstep HL4
                  have da : decide ((a : Int) < (nR : Int)) = true := by simp; omega
                  go_wp2
                  clear da
                  go_loopw [12, 189] (fun v12 v189 wq => ∃ (b : Nat) (es : List Ap.C3) (v' : Value), v189 = .int .i64 b ∧ v' = v12 ∧ b ≤ acc.length ∧ Hid (wq.ownsRow W2.heap.size 73 3 v' es.length (Ap.flC es)) ∧ es.length ≤ 5 * 4096 + a * 8 + b ∧ Hid (L = es ++ (Ap.rowW (mv.getD a (0, 0, 0, 0)) (hd.getD a (0, 0, 0, 0)) acc a b (acc.length - b) ++ T7)) ∧ Hid (Kit.LR W2 (.slice none 0 0) v' wq))
                    (fun _ v189 _ => acc.length - (intOf v189).toNat)
                  case atStart => exact ⟨0, ds, v', rfl, rfl, Nat.zero_le _, HO, by omega, HL5, HLR⟩
                  case round =>
                    clear HO HL5 HLR hdl
                    obtain ⟨b, es, v', rfl, rfl, hb, HO, hel, HL5, HLR⟩ := hrel
                    have zr := HLR.out.size
                    by_cases hlb : b < acc.length
                    · have hbz := HLR.out.below (Nat.le_refl _) (fun _ h => by cases h)
                      have hwr : Below w.heap.size w wr := HWS.out.trans (hbz.mono HWS.out.size)
                      obtain ⟨pa, rfl, hpa, _⟩ := SP.out.at hlb
                      obtain ⟨ma, rfl, hma, _⟩ := SM.out.at hla
                      obtain ⟨ha', rfl, hha, _⟩ := SH.out.at hla
                      have HSl := SP.out.kept hbz (Nat.le_refl _)
                      have e0 := HSl.head hlb (by omega)
                      have e1 := HSl.field hlb (j := 1) (by omega) (by omega)
                      have e2 := HSl.field hlb (j := 2) (by omega) (by omega)
                      have e3 := HSl.field hlb (j := 3) (by omega) (by omega)
                      clear HSl
                      simp only [Ap.bxc] at e0 e1 e2 e3
                      have hma' : a < mv.length := by have := LM.out; omega
                      have hha' : a < hd.length := by have := LH.out; omega
                      have m1 : mv.getD a (0, 0, 0, 0) ∈ mv := List.mem_of_mem_drop (show mv.getD a (0, 0, 0, 0) ∈ mv.drop a by rw [Tp.drop_cons mv _ a hma']; exact List.mem_cons_self ..)
                      have m2 : hd.getD a (0, 0, 0, 0) ∈ hd := List.mem_of_mem_drop (show hd.getD a (0, 0, 0, 0) ∈ hd.drop a by rw [Tp.drop_cons hd _ a hha']; exact List.mem_cons_self ..)
                      have m3 : acc.getD b (0, 0, 0, 0) ∈ acc := List.mem_of_mem_drop (show acc.getD b (0, 0, 0, 0) ∈ acc.drop b by rw [Tp.drop_cons acc _ b hlb]; exact List.mem_cons_self ..)
                      have okm := OM.out _ m1
                      have okh := OH.out _ m2
                      have okx := HOK.out _ m3
                      have hstep := Ap.rowW_step (mv.getD a (0, 0, 0, 0)) (hd.getD a (0, 0, 0, 0)) acc a b acc.length hlb
                      have hbk : (pa.add (b * 4)).block < wr.heap.size := by rw [Tp.add_block]; have := hbz.size; omega
                      have HWW := Lib.hid hwr
                      clear m1 m2 m3 hbz hwr hma' hha'
                      generalize hx : acc.getD b (0, 0, 0, 0) = x at *
                      unfold Ap.hitW at hstep
                      have HST := Lib.hid hstep
                      clear hstep
                      go_wp2
                      clear e0 e1 e2 e3
                      refine Kit.wp_name ?_
                      intro W hW
                      have zW : W.heap.size = wr.heap.size + 1 := by rw [hW]; simp
                      have hwW : Below w.heap.size w W := by rw [hW]; exact HWW.out.alloc (by have := HWW.out.size; exact this) _
                      have hsp : ∀ z : Kit.Wd W, Tp.Sl z.val (some ma) nR 4 (Ap.bxc mv) := fun z => SM.out.kept (hwW.trans (z.below.mono hwW.size)) (Nat.le_refl _)
                      have p0 := fun z => (hsp z).head hla (by omega)
                      have p1 := fun z => (hsp z).field hla (j := 1) (by omega) (by omega)
                      have p2 := fun z => (hsp z).field hla (j := 2) (by omega) (by omega)
                      have p3 := fun z => (hsp z).field hla (j := 3) (by omega) (by omega)
                      simp only [Ap.bxc] at p0 p1 p2 p3
                      clear hsp
                      have hsq : ∀ z : Kit.Wd W, Tp.Sl z.val (some ha') nR 4 (Ap.bxc hd) := fun z => SH.out.kept (hwW.trans (z.below.mono hwW.size)) (Nat.le_refl _)
                      have q0 := fun z => (hsq z).head hla (by omega)
                      have q1 := fun z => (hsq z).field hla (j := 1) (by omega) (by omega)
                      have q2 := fun z => (hsq z).field hla (j := 2) (by omega) (by omega)
                      have q3 := fun z => (hsq z).field hla (j := 3) (by omega) (by omega)
                      simp only [Ap.bxc] at q0 q1 q2 q3
                      clear hsq
                      have r0 : ∀ z : Kit.Wd W, z.val.cell? ⟨wr.heap.size, 0, none⟩ = some (.int .i64 x.1) := fun z => z.cell (by rw [hW]; simp [go_sem]) (by simp; omega)
                      have r1 : ∀ z : Kit.Wd W, z.val.cell? ⟨wr.heap.size, 1, none⟩ = some (.int .i64 x.2.1) := fun z => z.cell (by rw [hW]; simp [go_sem]) (by simp; omega)
                      have r2 : ∀ z : Kit.Wd W, z.val.cell? ⟨wr.heap.size, 2, none⟩ = some (.int .i64 x.2.2.1) := fun z => z.cell (by rw [hW]; simp [go_sem]) (by simp; omega)
                      have r3 : ∀ z : Kit.Wd W, z.val.cell? ⟨wr.heap.size, 3, none⟩ = some (.int .i64 x.2.2.2) := fun z => z.cell (by rw [hW]; simp [go_sem]) (by simp; omega)
                      have HW := Lib.hid hW
                      clear hW hwW
                      generalize hgm : mv.getD a (0, 0, 0, 0) = pm at *
                      generalize hgh : hd.getD a (0, 0, 0, 0) = ph at *
                      have tg1 := fun W => ap_together pm.1 pm.2.1 pm.2.2.1 pm.2.2.2 x.1 x.2.1 x.2.2.1 x.2.2.2 W okm okx
                      have tg2 := fun W => ap_together ph.1 ph.2.1 ph.2.2.1 ph.2.2.2 x.1 x.2.1 x.2.2.1 x.2.2.2 W okh okx
                      have hmt1 : Ap.meet pm x = Sp.meets pm.1 pm.2.1 pm.2.2.1 pm.2.2.2 x.1 x.2.1 x.2.2.1 x.2.2.2 := rfl
                      have hmt2 : Ap.meet ph x = Sp.meets ph.1 ph.2.1 ph.2.2.1 ph.2.2.2 x.1 x.2.1 x.2.2.1 x.2.2.2 := rfl
                      rw [← hmt1] at tg1
                      rw [← hmt2] at tg2
                      have HGM := Lib.hid hgm
                      have HGH := Lib.hid hgh
                      clear hmt1 hmt2 okm okh okx hx hgm hgh
                      generalize Ap.meet pm x = b1 at *
                      generalize Ap.meet ph x = b2 at *
                      have TG1 := Lib.hid tg1
                      have TG2 := Lib.hid tg2
                      clear tg1 tg2
                      have MISS := Lib.hid (show (b1 || b2) = false → L = es ++ (Ap.rowW pm ph acc a (b + 1) (acc.length - (b + 1)) ++ T7) from fun hh => by rw [HL5.out, HST.out, if_neg (by simp [hh])])
                      have HITS := Lib.hid (show (b1 || b2) = true → L = (es ++ [((5 : Int), (a : Int), (b : Int))]) ++ (Ap.rowW pm ph acc a (b + 1) (acc.length - (b + 1)) ++ T7) from fun hh => by rw [HL5.out, HST.out, if_pos hh]; simp)
                      clear HST HL5
                      cases b1
                      · cases b2
                        · have HM2 := Lib.hid (MISS.out rfl)
                          clear MISS HITS
                          (refine Kit.wp_region_cls (by kernel_rfl) (by kernel_rfl) ?_; (repeat (go_big_quiet_step (first | (with_reducible exact Kit.calls_cls _ (TG1.out _)) | (with_reducible exact Kit.calls_cls _ (TG2.out _))))); refine wpQuiet_nil ?_; intro z)
                          have HLZ := Lib.hid ((show Kit.LR W2 (.slice none 0 0) v' W by rw [HW.out]; exact HLR.out.alloc _).then z.below)
                          have HOZ := Lib.hid (Kit.ownsRow_thn (show W.ownsRow W2.heap.size 73 3 v' es.length (Ap.flC es) by rw [HW.out]; exact HO.out.alloc _) z.below)
                          have zz := z.below.size
                          generalize z.val = Z at *
                          clear p0 p1 p2 p3 q0 q1 q2 q3 r0 r1 r2 r3 TG1 TG2
                          go_wp2
                          go_roundw
                          case rel => exact ⟨b + 1, es, v', by go_num, rfl, by omega, HOZ, by omega, (by first | exact Lib.hid (by rw [HGM.out, HGH.out]; exact HM2.out) | exact HM2), HLZ⟩
                          case measure => simp [intOf]; omega
                        · have HM2 := Lib.hid (HITS.out rfl)
                          clear MISS HITS
                          (refine Kit.wp_region_cls (by kernel_rfl) (by kernel_rfl) ?_; (repeat (go_big_quiet_step (first | (with_reducible exact Kit.calls_cls _ (TG1.out _)) | (with_reducible exact Kit.calls_cls _ (TG2.out _))))); refine wpQuiet_nil ?_; intro z)
                          have HLZ := Lib.hid ((show Kit.LR W2 (.slice none 0 0) v' W by rw [HW.out]; exact HLR.out.alloc _).then z.below)
                          have HOZ := Lib.hid (Kit.ownsRow_thn (show W.ownsRow W2.heap.size 73 3 v' es.length (Ap.flC es) by rw [HW.out]; exact HO.out.alloc _) z.below)
                          have zz := z.below.size
                          generalize z.val = Z at *
                          clear p0 p1 p2 p3 q0 q1 q2 q3 r0 r1 r2 r3 TG1 TG2
                          obtain ⟨i0, hi, hz0, hz1, hz2⟩ := info_parts Ap.infoC
                          have hcell : ∀ (W : World) (N : Nat), N = W.heap.size → ∀ j u, [.int .i64 5, .int .i64 a, .int .i64 b][j]? = some u → (W.alloc (.cells #[.int .i64 5, .int .i64 a, .int .i64 b] 73)).cell? ((⟨N, 0, none⟩ : Addr).add j) = some u := by
                            rintro W N rfl j u hu
                            rcases j with _ | _ | _ | j <;> simp at hu <;> subst hu <;> simp [Addr.add, go_sem]
                          have HCELL := Lib.hid hcell; clear hcell
                          go_wp2_with (first | (at_builtin; refine Kit.wpList_append_own' _ rfl _ _ 58 rfl W2.heap.size 73 i0 (.agg #[.int .i64 0, .int .i64 0, .int .i64 0]) 3 24 Ap.underC hi hz0 hz1 hz2 rfl (by decide) _ _ _ rfl (HOZ.out.alloc _) ⟨Z.heap.size, 0, none⟩ 1 1 [.int .i64 5, .int .i64 a, .int .i64 b] rfl rfl (HCELL.out _ _ (by simp)) (by simp [Value.oneCell']) (by unfold maxLen; omega) (by omega) (by simp; omega) ?_; intro v3 w2 hown' hgrow _ hwhere; have HOWN := Lib.hid hown'; have HGR := Lib.hid hgrow; have HWH := Lib.hid hwhere; clear hown' hgrow hwhere) | go_in)
                          exact ⟨⟨b + 1, es ++ [(5, (a : Int), (b : Int))], v3, by go_num, rfl, by omega, Lib.hid (by rw [Ap.flC_snoc, List.length_append]; exact HOWN.out), by simp; omega, (by first | exact Lib.hid (by rw [HGM.out, HGH.out]; exact HM2.out) | exact HM2), Lib.hid ((HLZ.out.alloc _).grown HGR.out HWH.out)⟩, by simp [intOf]; omega⟩
                      · have HM2 := Lib.hid (HITS.out (by simp))
                        clear MISS HITS
                        (refine Kit.wp_region_cls (by kernel_rfl) (by kernel_rfl) ?_; (repeat (go_big_quiet_step (first | (with_reducible exact Kit.calls_cls _ (TG1.out _)) | (with_reducible exact Kit.calls_cls _ (TG2.out _))))); refine wpQuiet_nil ?_; intro z)
                        have HLZ := Lib.hid ((show Kit.LR W2 (.slice none 0 0) v' W by rw [HW.out]; exact HLR.out.alloc _).then z.below)
                        have HOZ := Lib.hid (Kit.ownsRow_thn (show W.ownsRow W2.heap.size 73 3 v' es.length (Ap.flC es) by rw [HW.out]; exact HO.out.alloc _) z.below)
                        have zz := z.below.size
                        generalize z.val = Z at *
                        clear p0 p1 p2 p3 q0 q1 q2 q3 r0 r1 r2 r3 TG1 TG2
                        obtain ⟨i0, hi, hz0, hz1, hz2⟩ := info_parts Ap.infoC
                        have hcell : ∀ (W : World) (N : Nat), N = W.heap.size → ∀ j u, [.int .i64 5, .int .i64 a, .int .i64 b][j]? = some u → (W.alloc (.cells #[.int .i64 5, .int .i64 a, .int .i64 b] 73)).cell? ((⟨N, 0, none⟩ : Addr).add j) = some u := by
                          rintro W N rfl j u hu
                          rcases j with _ | _ | _ | j <;> simp at hu <;> subst hu <;> simp [Addr.add, go_sem]
                        have HCELL := Lib.hid hcell; clear hcell
                        go_wp2_with (first | (at_builtin; refine Kit.wpList_append_own' _ rfl _ _ 58 rfl W2.heap.size 73 i0 (.agg #[.int .i64 0, .int .i64 0, .int .i64 0]) 3 24 Ap.underC hi hz0 hz1 hz2 rfl (by decide) _ _ _ rfl (HOZ.out.alloc _) ⟨Z.heap.size, 0, none⟩ 1 1 [.int .i64 5, .int .i64 a, .int .i64 b] rfl rfl (HCELL.out _ _ (by simp)) (by simp [Value.oneCell']) (by unfold maxLen; omega) (by omega) (by simp; omega) ?_; intro v3 w2 hown' hgrow _ hwhere; have HOWN := Lib.hid hown'; have HGR := Lib.hid hgrow; have HWH := Lib.hid hwhere; clear hown' hgrow hwhere) | go_in)
                        exact ⟨⟨b + 1, es ++ [(5, (a : Int), (b : Int))], v3, by go_num, rfl, by omega, Lib.hid (by rw [Ap.flC_snoc, List.length_append]; exact HOWN.out), by simp; omega, (by first | exact Lib.hid (by rw [HGM.out, HGH.out]; exact HM2.out) | exact HM2), Lib.hid ((HLZ.out.alloc _).grown HGR.out HWH.out)⟩, by simp [intOf]; omega⟩
                    · have hl5 : L = es ++ (Ap.allW mv hd acc (a + 1) (nR - (a + 1)) ++ T6) := by rw [HL5.out, show acc.length - b = 0 by omega, HT7.out]; rfl
                      have HL6 := Lib.hid hl5
                      clear hl5 HL5
                      go_wp2
                      go_roundw
                      case rel => exact ⟨a + 1, es, v', by go_num, rfl, by omega, HO, by omega, HL6, HLR⟩
                      case measure => simp [intOf]; omega
                · have hl4 : L = ds ++ Ap.allE (0, 841 * wd, 0, 841 * dp) mv hd 0 (nR - 0) := by rw [HL4.out, HT6.out, show nR - a = 0 by omega]; rfl
                  have HL5 := Lib.hid hl4
                  have hbz := HLR.out.below (Nat.le_refl _) (fun _ h => by cases h)
                  have k0 : wr.cell? ⟨w.heap.size, 0, none⟩ = some (.int .i64 wd) := (hbz.cell (p := ⟨w.heap.size, 0, none⟩) (by have := HWS.out.size; simp; omega)).trans K0s.out
                  have k1 : wr.cell? ⟨w.heap.size, 1, none⟩ = some (.int .i64 dp) := (hbz.cell (p := ⟨w.heap.size, 1, none⟩) (by have := HWS.out.size; simp; omega)).trans K1s.out
                  have zr := HLR.out.size
                  have okf : Sp.okBox 0 (841 * wd) 0 (841 * dp) = true := by simp [Sp.okBox, Sp.inB]; omega
                  have OKF := Lib.hid okf
                  clear hl4 HL4 hbz okf
                  go_wp2
                  clear k0 k1
                  obtain ⟨W5, hW5⟩ : ∃ W5, W5 = wr.alloc (Obj.cells #[.int .i64 0, .int .i64 (841 * wd), .int .i64 0, .int .i64 (841 * dp)] 25) := ⟨_, rfl⟩
                  have z5 : W5.heap.size = wr.heap.size + 1 := by rw [hW5]; simp
                  have C0 := Lib.hid (show W5.cell? ⟨wr.heap.size, 0, none⟩ = some (.int .i64 0) by rw [hW5]; simp [go_sem])
                  have C1 := Lib.hid (show W5.cell? ⟨wr.heap.size, 1, none⟩ = some (.int .i64 (841 * wd)) by rw [hW5]; simp [go_sem])
                  have C2 := Lib.hid (show W5.cell? ⟨wr.heap.size, 2, none⟩ = some (.int .i64 0) by rw [hW5]; simp [go_sem])
                  have C3 := Lib.hid (show W5.cell? ⟨wr.heap.size, 3, none⟩ = some (.int .i64 (841 * dp)) by rw [hW5]; simp [go_sem])
                  have HO5 := Lib.hid (show W5.ownsRow W2.heap.size 73 3 v' ds.length (Ap.flC ds) by rw [hW5]; exact HO.out.alloc _)
                  have HLR5 := Lib.hid (show Kit.LR W2 (.slice none 0 0) v' W5 by rw [hW5]; exact HLR.out.alloc _)
                  have HVB := Lib.hid (show v'.ownBlock ≠ some wr.heap.size from fun h => by have := (HO.out.lt _ h).2; omega)
                  obtain ⟨B32, hB32⟩ : ∃ B, B = wr.heap.size := ⟨_, rfl⟩
                  rw [← hB32] at C0 C1 C2 C3 HVB z5 ⊢
                  rw [← hW5]
                  have z32 : W2.heap.size ≤ B32 := by omega
                  clear hW5 HO HLR zr hB32
                  go_loopw [12, 226] (fun v12 v226 wq => ∃ (a : Nat) (es : List Ap.C3) (v'' : Value), v226 = .int .i64 a ∧ v'' = v12 ∧ a ≤ nR ∧ Hid (wq.ownsRow W2.heap.size 73 3 v'' es.length (Ap.flC es)) ∧ es.length ≤ 5 * 4096 + 64 * 8 + a ∧ Hid (L = es ++ Ap.allE (0, 841 * wd, 0, 841 * dp) mv hd a (nR - a)) ∧ Hid (Kit.LR W5 v' v'' wq))
                    (fun _ v226 _ => nR - (intOf v226).toNat)
                  case atStart => exact ⟨0, ds, v', rfl, rfl, Nat.zero_le _, HO5, by omega, HL5, Lib.hid (Kit.LR.refl _ _)⟩
                  case round =>
                    clear HO5 HL5
                    obtain ⟨a, es, v'', rfl, rfl, ha, HO, hel, HL5, HLR⟩ := hrel
                    have zr := HLR.out.size
                    by_cases hla : a < nR
                    · have hbz := (HLR5.out.nest HLR.out).below (Nat.le_refl _) (fun _ h => by cases h)
                      have hwr : Below w.heap.size w wr := HWS.out.trans (hbz.mono HWS.out.size)
                      obtain ⟨ma, rfl, hma, _⟩ := SM.out.at hla
                      obtain ⟨ha', rfl, hha, _⟩ := SH.out.at hla
                      have hma' : a < mv.length := by have := LM.out; omega
                      have hha' : a < hd.length := by have := LH.out; omega
                      have m1 : mv.getD a (0, 0, 0, 0) ∈ mv := List.mem_of_mem_drop (show mv.getD a (0, 0, 0, 0) ∈ mv.drop a by rw [Tp.drop_cons mv _ a hma']; exact List.mem_cons_self ..)
                      have m2 : hd.getD a (0, 0, 0, 0) ∈ hd := List.mem_of_mem_drop (show hd.getD a (0, 0, 0, 0) ∈ hd.drop a by rw [Tp.drop_cons hd _ a hha']; exact List.mem_cons_self ..)
                      have okm := OM.out _ m1
                      have okh := OH.out _ m2
                      have hstep := Ap.allE_step (0, 841 * wd, 0, 841 * dp) mv hd a nR hla
                      have hsp : ∀ z : Kit.Wd wr, Tp.Sl z.val (some ma) nR 4 (Ap.bxc mv) := fun z => SM.out.kept (hwr.trans (z.below.mono hwr.size)) (Nat.le_refl _)
                      have p0 := fun z => (hsp z).head hla (by omega)
                      have p1 := fun z => (hsp z).field hla (j := 1) (by omega) (by omega)
                      have p2 := fun z => (hsp z).field hla (j := 2) (by omega) (by omega)
                      have p3 := fun z => (hsp z).field hla (j := 3) (by omega) (by omega)
                      simp only [Ap.bxc] at p0 p1 p2 p3
                      clear hsp
                      have hB : ∀ j v, j < 4 → W5.cell? ⟨B32, j, none⟩ = some v → wr.cell? ⟨B32, j, none⟩ = some v := fun j v hj h => (World.cell?_of_block (HLR.out.block (b := B32) (by omega) HVB.out)).trans h
                      have D0 := Lib.hid (hB 0 _ (by omega) C0.out)
                      have D1 := Lib.hid (hB 1 _ (by omega) C1.out)
                      have D2 := Lib.hid (hB 2 _ (by omega) C2.out)
                      have D3 := Lib.hid (hB 3 _ (by omega) C3.out)
                      have lB : B32 < wr.heap.size := by omega
                      have r0 : ∀ z : Kit.Wd wr, z.val.cell? ⟨B32, 0, none⟩ = some (.int .i64 0) := fun z => z.cell D0.out lB
                      have r1 : ∀ z : Kit.Wd wr, z.val.cell? ⟨B32, 1, none⟩ = some (.int .i64 (841 * wd)) := fun z => z.cell D1.out lB
                      have r2 : ∀ z : Kit.Wd wr, z.val.cell? ⟨B32, 2, none⟩ = some (.int .i64 0) := fun z => z.cell D2.out lB
                      have r3 : ∀ z : Kit.Wd wr, z.val.cell? ⟨B32, 3, none⟩ = some (.int .i64 (841 * dp)) := fun z => z.cell D3.out lB
                      have HWW := Lib.hid hwr
                      clear m1 m2 hbz hwr hma' hha' hB
                      unfold Ap.hitE at hstep
                      generalize hgm : mv.getD a (0, 0, 0, 0) = pm at *
                      have tg1 := fun W => sp_inside_3 pm.1 pm.2.1 pm.2.2.1 pm.2.2.2 0 (841 * wd) 0 (841 * dp) W okm OKF.out
                      have hmt1 : Ap.ins pm (0, 841 * wd, 0, 841 * dp) = Sp.inside pm.1 pm.2.1 pm.2.2.1 pm.2.2.2 0 (841 * wd) 0 (841 * dp) := rfl
                      rw [← hmt1] at tg1
                      clear hmt1 okm hgm
                      generalize Ap.ins pm (0, 841 * wd, 0, 841 * dp) = b1 at *
                      have TG1 := Lib.hid tg1
                      have HST := Lib.hid hstep
                      clear tg1 hstep
                      have da : decide ((a : Int) < (nR : Int)) = true := by simp; omega
                      go_wp2
                      clear da
                      (refine Kit.wp_region_cls (by kernel_rfl) (by kernel_rfl) ?_; (repeat (go_big_quiet_step (exact Kit.calls_cls _ (TG1.out _)))); refine wpQuiet_nil ?_; intro z)
                      have HL6 := Lib.hid (HLR.out.then z.below)
                      have HO6 := Lib.hid (Kit.ownsRow_thn HO.out z.below)
                      have zz := z.below.size
                      have hwZ : Below w.heap.size w z.val := HWW.out.trans (z.below.mono HWW.out.size)
                      have E0 := Lib.hid (r0 z)
                      have E1 := Lib.hid (r1 z)
                      have E2 := Lib.hid (r2 z)
                      have E3 := Lib.hid (r3 z)
                      generalize z.val = Z at *
                      clear p0 p1 p2 p3 r0 r1 r2 r3 TG1 D0 D1 D2 D3 HLR HO HWW z
                      have lB2 : B32 < Z.heap.size := by omega
                      have r0 : ∀ z : Kit.Wd Z, z.val.cell? ⟨B32, 0, none⟩ = some (.int .i64 0) := fun z => z.cell E0.out lB2
                      have r1 : ∀ z : Kit.Wd Z, z.val.cell? ⟨B32, 1, none⟩ = some (.int .i64 (841 * wd)) := fun z => z.cell E1.out lB2
                      have r2 : ∀ z : Kit.Wd Z, z.val.cell? ⟨B32, 2, none⟩ = some (.int .i64 0) := fun z => z.cell E2.out lB2
                      have r3 : ∀ z : Kit.Wd Z, z.val.cell? ⟨B32, 3, none⟩ = some (.int .i64 (841 * dp)) := fun z => z.cell E3.out lB2
                      have hsq : ∀ z : Kit.Wd Z, Tp.Sl z.val (some ha') nR 4 (Ap.bxc hd) := fun z => SH.out.kept (hwZ.trans (z.below.mono hwZ.size)) (Nat.le_refl _)
                      have q0 := fun z => (hsq z).head hla (by omega)
                      have q1 := fun z => (hsq z).field hla (j := 1) (by omega) (by omega)
                      have q2 := fun z => (hsq z).field hla (j := 2) (by omega) (by omega)
                      have q3 := fun z => (hsq z).field hla (j := 3) (by omega) (by omega)
                      simp only [Ap.bxc] at q0 q1 q2 q3
                      clear hsq
                      generalize hgh : hd.getD a (0, 0, 0, 0) = ph at *
                      have tg2 := fun W => sp_inside_3 ph.1 ph.2.1 ph.2.2.1 ph.2.2.2 0 (841 * wd) 0 (841 * dp) W okh OKF.out
                      have hmt2 : Ap.ins ph (0, 841 * wd, 0, 841 * dp) = Sp.inside ph.1 ph.2.1 ph.2.2.1 ph.2.2.2 0 (841 * wd) 0 (841 * dp) := rfl
                      rw [← hmt2] at tg2
                      clear hmt2 okh hgh
                      generalize Ap.ins ph (0, 841 * wd, 0, 841 * dp) = b2 at *
                      have TG2 := Lib.hid tg2
                      have MISS := Lib.hid (show (!b1 || !b2) = false → L = es ++ Ap.allE (0, 841 * wd, 0, 841 * dp) mv hd (a + 1) (nR - (a + 1)) from fun hh => by rw [HL5.out, HST.out, if_neg (by simp [hh])])
                      have HITS := Lib.hid (show (!b1 || !b2) = true → L = (es ++ [((6 : Int), (a : Int), (0 : Int))]) ++ Ap.allE (0, 841 * wd, 0, 841 * dp) mv hd (a + 1) (nR - (a + 1)) from fun hh => by rw [HL5.out, HST.out, if_pos hh]; simp)
                      clear tg2 HL5 HST
                      go_wp2
                      (refine Kit.wp_region_cls (by kernel_rfl) (by kernel_rfl) ?_; (repeat (go_big_quiet_step (exact Kit.calls_cls _ (TG2.out _)))); refine wpQuiet_nil ?_; intro z)
                      have HLZ := Lib.hid (HL6.out.then z.below)
                      have HOZ := Lib.hid (Kit.ownsRow_thn HO6.out z.below)
                      have zz2 := z.below.size
                      generalize z.val = Z2 at *
                      clear q0 q1 q2 q3 r0 r1 r2 r3 TG2 HL6 HO6 E0 E1 E2 E3 z
                      cases b1
                      · have HM2 := Lib.hid (HITS.out (by simp))
                        clear MISS HITS
                        obtain ⟨i0, hi, hz0, hz1, hz2⟩ := info_parts Ap.infoC
                        have hcell : ∀ (W : World) (N : Nat), N = W.heap.size → ∀ j u, [.int .i64 6, .int .i64 a, .int .i64 0][j]? = some u → (W.alloc (.cells #[.int .i64 6, .int .i64 a, .int .i64 0] 73)).cell? ((⟨N, 0, none⟩ : Addr).add j) = some u := by
                          rintro W N rfl j u hu
                          rcases j with _ | _ | _ | j <;> simp at hu <;> subst hu <;> simp [Addr.add, go_sem]
                        have HCELL := Lib.hid hcell; clear hcell
                        go_wp2_with (first | (at_builtin; refine Kit.wpList_append_own' _ rfl _ _ 58 rfl W2.heap.size 73 i0 (.agg #[.int .i64 0, .int .i64 0, .int .i64 0]) 3 24 Ap.underC hi hz0 hz1 hz2 rfl (by decide) _ _ _ rfl (HOZ.out.alloc _) ⟨Z2.heap.size, 0, none⟩ 1 1 [.int .i64 6, .int .i64 a, .int .i64 0] rfl rfl (HCELL.out _ _ (by simp)) (by simp [Value.oneCell']) (by unfold maxLen; omega) (by omega) (by simp; omega) ?_; intro v3 w2 hown' hgrow _ hwhere; have HOWN := Lib.hid hown'; have HGR := Lib.hid hgrow; have HWH := Lib.hid hwhere; clear hown' hgrow hwhere) | go_in)
                        exact ⟨⟨a + 1, es ++ [(6, (a : Int), 0)], v3, by go_num, rfl, by omega, Lib.hid (by rw [Ap.flC_snoc, List.length_append]; exact HOWN.out), by simp; omega, HM2, Lib.hid ((HLZ.out.alloc _).grown HGR.out HWH.out)⟩, by simp [intOf]; omega⟩
                      · cases b2
                        · have HM2 := Lib.hid (HITS.out rfl)
                          clear MISS HITS
                          obtain ⟨i0, hi, hz0, hz1, hz2⟩ := info_parts Ap.infoC
                          have hcell : ∀ (W : World) (N : Nat), N = W.heap.size → ∀ j u, [.int .i64 6, .int .i64 a, .int .i64 0][j]? = some u → (W.alloc (.cells #[.int .i64 6, .int .i64 a, .int .i64 0] 73)).cell? ((⟨N, 0, none⟩ : Addr).add j) = some u := by
                            rintro W N rfl j u hu
                            rcases j with _ | _ | _ | j <;> simp at hu <;> subst hu <;> simp [Addr.add, go_sem]
                          have HCELL := Lib.hid hcell; clear hcell
                          go_wp2_with (first | (at_builtin; refine Kit.wpList_append_own' _ rfl _ _ 58 rfl W2.heap.size 73 i0 (.agg #[.int .i64 0, .int .i64 0, .int .i64 0]) 3 24 Ap.underC hi hz0 hz1 hz2 rfl (by decide) _ _ _ rfl (HOZ.out.alloc _) ⟨Z2.heap.size, 0, none⟩ 1 1 [.int .i64 6, .int .i64 a, .int .i64 0] rfl rfl (HCELL.out _ _ (by simp)) (by simp [Value.oneCell']) (by unfold maxLen; omega) (by omega) (by simp; omega) ?_; intro v3 w2 hown' hgrow _ hwhere; have HOWN := Lib.hid hown'; have HGR := Lib.hid hgrow; have HWH := Lib.hid hwhere; clear hown' hgrow hwhere) | go_in)
                          exact ⟨⟨a + 1, es ++ [(6, (a : Int), 0)], v3, by go_num, rfl, by omega, Lib.hid (by rw [Ap.flC_snoc, List.length_append]; exact HOWN.out), by simp; omega, HM2, Lib.hid ((HLZ.out.alloc _).grown HGR.out HWH.out)⟩, by simp [intOf]; omega⟩
                        · have HM2 := Lib.hid (MISS.out rfl)
                          clear MISS HITS
                          go_wp2
                          go_roundw
                          case rel => exact ⟨a + 1, es, v'', by go_num, rfl, by omega, HOZ, by omega, HM2, HLZ⟩
                          case measure => simp [intOf]; omega
                    · have HL6 := Lib.hid (show L = es by rw [HL5.out, show nR - a = 0 by omega]; simp [Ap.allE])
                      have HLW := Lib.hid ((HLR5.out.nest HLR.out).below (Nat.le_refl _) (fun _ h => by cases h))
                      clear HL5
                      go_wp2
                      go_ret2
                      exact Ap.CPost.ok HE2.out (by rw [HL6.out]; exact HO.out.mono HWS.out.size) (HWS.out.trans (HLW.out.mono HWS.out.size))
end Go.Proofs.YtjoieglhmladhaaDoor
