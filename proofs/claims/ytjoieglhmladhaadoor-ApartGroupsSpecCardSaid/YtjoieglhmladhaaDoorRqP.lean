/- Walks: the references of layer 29: GroupsOf, Groups. -/
import Derived.Test.YtjoieglhmladhaaDoorRqO
import Derived.Test.YtjoieglhmladhaaDoorApL
import Derived.BigQuiet
import Derived.Deep.QuietTactic
namespace Go.Proofs.YtjoieglhmladhaaDoor
set_option linter.unusedVariables false
set_option linter.unusedSimpArgs false
open Go.RowKit Go.Shelf

namespace Rf
/-- The groups in the call's own slice. -/
structure GAt (Bg R : Nat) (w : World) (G : Nat → Nat) : Prop where
  cell : ∀ j, j < R → w.cell? ⟨Bg, j, none⟩ = some (.int .i64 (G j))
  free : ∀ j, j < R → w.frozen? ⟨Bg, j, none⟩ = false
  lg : Bg < w.heap.size
theorem GAt.set {Bg R : Nat} {w : World} {G : Nat → Nat} (h : GAt Bg R w G) (i v : Nat) (hi : i < R) : GAt Bg R (w.setCell ⟨Bg, i, none⟩ (.int .i64 v)) (fun j => if j = i then v else G j) := by
  refine ⟨fun j hj => ?_, fun j hj => ?_, ?_⟩
  · rw [Kit.cell_set]
    by_cases e : j = i
    · subst e; simp [h.cell j hj]
    · rw [if_neg (by simp [e]), h.cell j hj, if_neg e]
  · rw [World.frozen?_setCell]; exact h.free j hj
  · simpa [World.setCell] using h.lg
theorem GAt.drawn {Bg R : Nat} {w w' : World} {G : Nat → Nat} (h : GAt Bg R w G) (hh : w'.heap = w.heap) (hf : ∀ a, w'.frozen? a = w.frozen? a) : GAt Bg R w' G :=
  ⟨fun j hj => (World.cell?_of_block (by rw [hh])).trans (h.cell j hj), fun j hj => (hf _).trans (h.free j hj), by rw [hh]; exact h.lg⟩
theorem GAt.congr {Bg R : Nat} {w : World} {G H : Nat → Nat} (h : GAt Bg R w G) (e : ∀ j, j < R → G j = H j) : GAt Bg R w H :=
  ⟨fun j hj => (h.cell j hj).trans (by rw [e j hj]), h.free, h.lg⟩
theorem stp_at (G : Nat → Nat) (a b j : Nat) : stp G ((a : Int), (b : Int)) j = if j = b then min (G a) (G b) else if j = a then min (G a) (G b) else G j := by
  simp only [stp, Int.toNat_natCast]
  by_cases h1 : j = a <;> by_cases h2 : j = b <;> simp [h1, h2]
end Rf

set_option maxRecDepth 100000 in
set_option maxHeartbeats 2000000 in
theorem rn_groupsof (R : Nat) (ap : Option Addr) (cp : Nat) (L : List (Int × Int)) (w : World) (lR : R ≤ 64) (lR0 : 0 < R) (hLl : L.length ≤ 4096)
    (hL : ∀ p ∈ L, ∃ u v : Nat, p = ((u : Int), (v : Int)) ∧ u < v ∧ v < R) (hS : Tp.Sl w ap L.length 2 (Ap.prc L)) :
    Calls Tryd.prog 48 #[.int .i64 R, .slice ap L.length cp] w fun e w' => ∃ ad c, e = .returned (.slice ad R c) ∧ Tp.Sl w' ad R 1 (fun i _ => .int .i64 (Rf.its L R i)) ∧ Below w.heap.size w w' := by
  have HL := Lib.hid hL; clear hL
  have HS := Lib.hid hS; clear hS
  go_enter Tryd.func48, Tryd.ntmps48
  go_wp2
  go_loopw [5, 6] (fun v5 v6 wr => ∃ k : Nat, v6 = .int .i64 k ∧ k ≤ R ∧ Hid (wr.ownsRow w.heap.size 3 1 v5 k (Ap.ints k)) ∧ Hid (Below w.heap.size w wr))
    (fun _ v6 _ => R - (intOf v6).toNat)
  case atStart => exact ⟨0, rfl, Nat.zero_le _, Lib.hid (World.ownsRow_nil _ _ _ _), Lib.hid (Below.refl _ _)⟩
  case round =>
    obtain ⟨k, rfl, hk, HO, HB⟩ := hrel
    have zx := HB.out.size
    by_cases hlt : k < R
    · obtain ⟨i0, hi, hz0, hz1, hz2⟩ := info_parts Ap.info3
      have hcell : ∀ (W : World) (N : Nat), N = W.heap.size → ∀ j u, [Value.int .i64 k][j]? = some u → (W.alloc (.cells #[.int .i64 k] 3)).cell? ((⟨N, 0, none⟩ : Addr).add j) = some u := by
        rintro W N rfl j u hu
        rcases j with _ | j <;> simp at hu <;> subst hu <;> simp [Addr.add, go_sem]
      have HCELL := Lib.hid hcell; clear hcell
      go_wp2_with (first | (at_builtin; refine Kit.wpList_append_own' _ rfl _ _ 51 rfl w.heap.size 3 i0 (.int .i64 0) 1 8 Ap.under51 hi hz0 hz1 hz2 rfl (by decide) _ _ _ rfl (HO.out.alloc _) ⟨wr.heap.size, 0, none⟩ 1 1 [.int .i64 k] rfl rfl (HCELL.out _ _ (by simp)) (by simp [Value.oneCell']) (by unfold maxLen; omega) (by omega) (by simp; omega) ?_; intro v' w2 hown' hgrow _ _; have HOWN := Lib.hid hown'; have HGR := Lib.hid hgrow; clear hown' hgrow) | go_in)
      exact ⟨⟨k + 1, by go_num, by omega, Lib.hid (by rw [Ap.ints_snoc]; exact HOWN.out), Lib.hid (Below.grown (HB.out.alloc (by omega) _) HGR.out (by simp; omega) (fun j hj => (HO.out.lt _ hj).1))⟩, by simp [intOf]; omega⟩
    · obtain rfl : R = k := by omega
      have hv : ∃ g cap, u5 = .slice (some ⟨g, 0, none⟩) R cap := by
        rcases HO.out.2 with ⟨_, h⟩ | ⟨g, cap, cur, h, _⟩
        · omega
        · exact ⟨g, cap, h⟩
      obtain ⟨Bg, cap, rfl⟩ := hv
      have hg := HO.out.lt Bg rfl
      have hfree : ∀ j, wr.frozen? ⟨Bg, j, none⟩ = false := by
        intro j
        rcases HO.out.2 with ⟨h, _⟩ | ⟨g, cap, cur, h, _, hh, _⟩
        · cases h
        · cases h
          simp [World.frozen?, hh]
      have HG0 := Lib.hid (show Rf.GAt Bg R wr id from ⟨fun j hj => (HO.out.cellAt j (by omega)).trans (by simp [Ap.ints, hj]), fun j _ => hfree j, hg.2⟩)
      have hgl := hg.1
      clear hfree hg HO hk hlt
      go_wp2
      go_loopw [7] (fun v7 wq => ∃ (k : Nat), v7 = .int .i64 k ∧ k ≤ R ∧ Hid (Rf.GAt Bg R wq (Rf.its L k)) ∧ Hid (Below w.heap.size w wq))
        (fun v7 _ => R - (intOf v7).toNat)
      case atStart => exact ⟨0, rfl, Nat.zero_le _, HG0, HB⟩
      case round =>
        clear HG0 HB zx
        obtain ⟨k, rfl, hk, HG, HB⟩ := hrel
        by_cases hlt : k < R
        · have HI0 := Lib.hid (show L.foldl Rf.stp (Rf.its L k) = Rf.its L (k + 1) from rfl)
          go_wp2
          go_loopw [8] (fun v8 wq => ∃ (i : Nat) (G : Nat → Nat), v8 = .int .i64 i ∧ i ≤ L.length ∧ Hid (Rf.GAt Bg R wq G) ∧ Hid ((L.drop i).foldl Rf.stp G = Rf.its L (k + 1)) ∧ Hid (Below w.heap.size w wq))
            (fun v8 _ => L.length - (intOf v8).toNat)
          case atStart => exact ⟨0, _, rfl, Nat.zero_le _, HG, HI0, HB⟩
          case round =>
            clear HG HI0 HB
            obtain ⟨i, G, rfl, hi, HG, HI, HB⟩ := hrel
            by_cases hlt2 : i < L.length
            · obtain ⟨ad, rfl, had, _⟩ := HS.out.at hlt2
              have HSl := HS.out.kept HB.out (Nat.le_refl _)
              have e0 := HSl.head hlt2 (by omega)
              have e1 := HSl.field hlt2 (j := 1) (by omega) (by omega)
              clear HSl
              have hdrop := Tp.drop_cons L (0, 0) i hlt2
              have hmem : L.getD i (0, 0) ∈ L := by
                have : L.getD i (0, 0) ∈ L.drop i := by rw [hdrop]; exact List.mem_cons_self ..
                exact List.mem_of_mem_drop this
              obtain ⟨x, y, hp, hxy, hyR⟩ := HL.out _ hmem
              rw [hp] at hdrop
              simp only [Ap.prc, hp, if_true, if_false, Nat.one_ne_zero] at e0 e1
              have HI2 := Lib.hid (show (L.drop (i + 1)).foldl Rf.stp (Rf.stp G ((x : Int), (y : Int))) = Rf.its L (k + 1) by rw [← HI.out, hdrop]; rfl)
              have zx := HB.out.size
              have hbk : (ad.add (i * 2)).block < wr.heap.size := by rw [Tp.add_block]; omega
              have hxR : x < R := by omega
              have c1 := HG.out.cell x hxR
              have c2 := HG.out.cell y hyR
              have lg := HG.out.lg
              have HN := Lib.hid (Rf.stp_at G x y)
              have m1 : (if G y < G x then (G y : Int) else (G x : Int)) = ((min (G x) (G y) : Nat) : Int) := by split <;> omega
              clear hdrop hmem hp HI
              go_upto_region 14 with fail
              go_quiet (fail)
              generalize hm : min (G x) (G y) = m at m1 HN
              have HG1 := Lib.hid (show Rf.GAt Bg R (wr.drewN nq) G from HG.out.drawn rfl (fun _ => rfl))
              have HG2 := Lib.hid (HG1.out.set x m hxR)
              have HG3 := Lib.hid (HG2.out.set y m hyR)
              have f1 := HG1.out.free x hxR
              have f2 := HG2.out.free y hyR
              have d1 := HG1.out.cell x hxR
              have d2 := HG2.out.cell y hyR
              clear c1 c2 m1
              go_wp2
              go_roundw
              case rel => exact ⟨i + 1, Rf.stp G ((x : Int), (y : Int)), by go_num, by omega, Lib.hid (HG3.out.congr (fun j _ => (HN.out j).symm)), HI2, Lib.hid (((Kit.below_drewN HB.out _).setCell hgl _).setCell hgl _)⟩
              case measure => simp [intOf]; omega
            · have HI2 := Lib.hid (show G = Rf.its L (k + 1) by rw [← HI.out, List.drop_of_length_le (by omega)]; rfl)
              have HG2 := Lib.hid (show Rf.GAt Bg R wr (Rf.its L (k + 1)) by rw [← HI2.out]; exact HG.out)
              clear HI HI2 HG
              go_wp2
              go_roundw
              case rel => exact ⟨k + 1, by go_num, by omega, HG2, HB⟩
              case measure => simp [intOf]; omega
        · obtain rfl : R = k := by omega
          go_wp2
          go_ret
          refine ⟨_, _, rfl, .inr ⟨⟨Bg, 0, none⟩, rfl, HG.out.lg, fun i j hi hj => ?_⟩, HB.out⟩
          obtain rfl : j = 0 := by omega
          have := HG.out.cell i hi
          rcases i with _ | i
          · simpa [Addr.add] using this
          · simpa [Addr.add] using this

set_option maxRecDepth 100000 in
set_option maxHeartbeats 1000000 in
theorem rn_groups_1 (wd dp ta tb tc : Int) (aR : Option Addr) (nR cR : Nat) (n : Int) (aT : Option Addr) (nT cT : Nat) (aP : Option Addr) (nP cP : Nat) (aS : Option Addr) (nS cS : Nat) (aG : Option Addr) (nG cG : Nat) (bar : Int) (w : World) (r : Int) (hr : (r != 0) = true) (hc : ∀ W, Below w.heap.size w W → Calls Tryd.prog 16 #[Ex.wv wd dp ta tb tc aR nR cR n aT nT cT aP nP cP aS nS cS aG nG cG, .int .i64 bar] W fun e w' => e = .returned (.tuple #[.slice none 0 0, .int .i64 r]) ∧ Below W.heap.size W w') :
    Calls Tryd.prog 18 #[Ex.wv wd dp ta tb tc aR nR cR n aT nT cT aP nP cP aS nS cS aG nG cG, .int .i64 bar] w fun e w' => e = .returned (.tuple #[.slice none 0 0, .int .i64 r]) ∧ Below w.heap.size w w' := by
  have HC := Lib.hid hc; clear hc
  go_enter Tryd.func18, Tryd.ntmps18
  skip
  (go_wp2_with (fail); refine (HC.out _ (by (repeat' (first | (with_reducible exact Below.refl _ _) | (with_reducible assumption) | (with_reducible refine Kit.below_drewN ?_ _) | (with_reducible refine Below.drew ?_) | (with_reducible refine Below.alloc ?_ ?_ _) | (with_reducible refine Below.setCell ?_ ?_ _) | (with_reducible exact Nat.le_refl _) | omega | (simp; omega) | (simp; done) | (apply Below.size; assumption))))).mono ?_; rintro e w1_ ⟨rfl, hb1_⟩; have hp1_ : Below w.heap.size w w1_ := Below.trans (by (repeat' (first | (with_reducible exact Below.refl _ _) | (with_reducible assumption) | (with_reducible refine Kit.below_drewN ?_ _) | (with_reducible refine Below.drew ?_) | (with_reducible refine Below.alloc ?_ ?_ _) | (with_reducible refine Below.setCell ?_ ?_ _) | (with_reducible exact Nat.le_refl _) | omega | (simp; omega) | (simp; done) | (apply Below.size; assumption)))) (hb1_.mono (by first | assumption | (simp; done) | (simp; omega) | omega)); have hw1_ : Below w.heap.size w w1_ := hp1_; obtain ⟨hc1_, hf1_⟩ := Kit.bcell hb1_; have z1_w : w.heap.size < w1_.heap.size := (by have := hb1_.size; first | omega | (simp at this; omega)); have g1_w_0 : w1_.cell? ⟨w.heap.size, 0, none⟩ = some (.int .i64 wd) := (by rw [hc1_ _ _ (by first | assumption | (simp; done) | (simp; omega) | omega)]; first | assumption | (simp [go_sem]; done) | (simp [go_sem, *]; done)); have g1_w_1 : w1_.cell? ⟨w.heap.size, 1, none⟩ = some (.int .i64 dp) := (by rw [hc1_ _ _ (by first | assumption | (simp; done) | (simp; omega) | omega)]; first | assumption | (simp [go_sem]; done) | (simp [go_sem, *]; done)); have g1_w_2 : w1_.cell? ⟨w.heap.size, 2, none⟩ = some (.int .i64 ta) := (by rw [hc1_ _ _ (by first | assumption | (simp; done) | (simp; omega) | omega)]; first | assumption | (simp [go_sem]; done) | (simp [go_sem, *]; done)); have g1_w_3 : w1_.cell? ⟨w.heap.size, 3, none⟩ = some (.int .i64 tb) := (by rw [hc1_ _ _ (by first | assumption | (simp; done) | (simp; omega) | omega)]; first | assumption | (simp [go_sem]; done) | (simp [go_sem, *]; done)); have g1_w_4 : w1_.cell? ⟨w.heap.size, 4, none⟩ = some (.int .i64 tc) := (by rw [hc1_ _ _ (by first | assumption | (simp; done) | (simp; omega) | omega)]; first | assumption | (simp [go_sem]; done) | (simp [go_sem, *]; done)); have g1_w_5 : w1_.cell? ⟨w.heap.size, 5, none⟩ = some (.slice aR nR cR) := (by rw [hc1_ _ _ (by first | assumption | (simp; done) | (simp; omega) | omega)]; first | assumption | (simp [go_sem]; done) | (simp [go_sem, *]; done)); have g1_w_6 : w1_.cell? ⟨w.heap.size, 6, none⟩ = some (.int .i64 n) := (by rw [hc1_ _ _ (by first | assumption | (simp; done) | (simp; omega) | omega)]; first | assumption | (simp [go_sem]; done) | (simp [go_sem, *]; done)); have g1_w_7 : w1_.cell? ⟨w.heap.size, 7, none⟩ = some (.slice aT nT cT) := (by rw [hc1_ _ _ (by first | assumption | (simp; done) | (simp; omega) | omega)]; first | assumption | (simp [go_sem]; done) | (simp [go_sem, *]; done)); have g1_w_8 : w1_.cell? ⟨w.heap.size, 8, none⟩ = some (.slice aP nP cP) := (by rw [hc1_ _ _ (by first | assumption | (simp; done) | (simp; omega) | omega)]; first | assumption | (simp [go_sem]; done) | (simp [go_sem, *]; done)); have g1_w_9 : w1_.cell? ⟨w.heap.size, 9, none⟩ = some (.slice aS nS cS) := (by rw [hc1_ _ _ (by first | assumption | (simp; done) | (simp; omega) | omega)]; first | assumption | (simp [go_sem]; done) | (simp [go_sem, *]; done)); have g1_w_10 : w1_.cell? ⟨w.heap.size, 10, none⟩ = some (.slice aG nG cG) := (by rw [hc1_ _ _ (by first | assumption | (simp; done) | (simp; omega) | omega)]; first | assumption | (simp [go_sem]; done) | (simp [go_sem, *]; done)); clear hc1_ hf1_; clear hb1_ hp1_)
  go_wp2
  go_ret2
  exact ⟨rfl, by (repeat' (first | (with_reducible exact Below.refl _ _) | (with_reducible assumption) | (with_reducible refine Kit.below_drewN ?_ _) | (with_reducible refine Below.drew ?_) | (with_reducible refine Below.alloc ?_ ?_ _) | (with_reducible refine Below.setCell ?_ ?_ _) | (with_reducible exact Nat.le_refl _) | omega | (simp; omega) | (simp; done) | (apply Below.size; assumption)))⟩

set_option maxRecDepth 100000 in
set_option maxHeartbeats 1000000 in
theorem rn_groups_2 (wd dp ta tb tc : Int) (aR : Option Addr) (nR cR : Nat) (n : Int) (aT : Option Addr) (nT cT : Nat) (aP : Option Addr) (nP cP : Nat) (aS : Option Addr) (nS cS : Nat) (aG : Option Addr) (nG cG : Nat) (bar : Int) (w : World) (lR : nR ≤ 64) (lR0 : 0 < nR) (L : List (Int × Int)) (hLl : L.length ≤ 4096) (hL : ∀ p ∈ L, ∃ u v : Nat, p = ((u : Int), (v : Int)) ∧ u < v ∧ v < nR)
    (hc : ∀ W, Below w.heap.size w W → Calls Tryd.prog 16 #[Ex.wv wd dp ta tb tc aR nR cR n aT nT cT aP nP cP aS nS cS aG nG cG, .int .i64 bar] W fun e w' => ∃ ad c, e = .returned (.tuple #[.slice ad L.length c, .int .i64 0]) ∧ Tp.Sl w' ad L.length 2 (Ap.prc L) ∧ Below W.heap.size W w') :
    Calls Tryd.prog 18 #[Ex.wv wd dp ta tb tc aR nR cR n aT nT cT aP nP cP aS nS cS aG nG cG, .int .i64 bar] w fun e w' => ∃ ad c, e = .returned (.tuple #[.slice ad nR c, .int .i64 0]) ∧ Tp.Sl w' ad nR 1 (fun i _ => .int .i64 (Rf.its L nR i)) ∧ Below w.heap.size w w' := by
  have HC := Lib.hid hc; clear hc
  have HL := Lib.hid hL; clear hL
  go_enter Tryd.func18, Tryd.ntmps18
  skip
  (go_wp2_with (fail); refine (HC.out _ (by (repeat' (first | (with_reducible exact Below.refl _ _) | (with_reducible assumption) | (with_reducible refine Kit.below_drewN ?_ _) | (with_reducible refine Below.drew ?_) | (with_reducible refine Below.alloc ?_ ?_ _) | (with_reducible refine Below.setCell ?_ ?_ _) | (with_reducible exact Nat.le_refl _) | omega | (simp; omega) | (simp; done) | (apply Below.size; assumption))))).mono ?_; rintro e w1_ ⟨ap, cp, rfl, hs, hb1_⟩; have hp1_ : Below w.heap.size w w1_ := Below.trans (by (repeat' (first | (with_reducible exact Below.refl _ _) | (with_reducible assumption) | (with_reducible refine Kit.below_drewN ?_ _) | (with_reducible refine Below.drew ?_) | (with_reducible refine Below.alloc ?_ ?_ _) | (with_reducible refine Below.setCell ?_ ?_ _) | (with_reducible exact Nat.le_refl _) | omega | (simp; omega) | (simp; done) | (apply Below.size; assumption)))) (hb1_.mono (by first | assumption | (simp; done) | (simp; omega) | omega)); have hw1_ : Below w.heap.size w w1_ := hp1_; obtain ⟨hc1_, hf1_⟩ := Kit.bcell hb1_; have z1_w : w.heap.size < w1_.heap.size := (by have := hb1_.size; first | omega | (simp at this; omega)); have g1_w_0 : w1_.cell? ⟨w.heap.size, 0, none⟩ = some (.int .i64 wd) := (by rw [hc1_ _ _ (by first | assumption | (simp; done) | (simp; omega) | omega)]; first | assumption | (simp [go_sem]; done) | (simp [go_sem, *]; done)); have g1_w_1 : w1_.cell? ⟨w.heap.size, 1, none⟩ = some (.int .i64 dp) := (by rw [hc1_ _ _ (by first | assumption | (simp; done) | (simp; omega) | omega)]; first | assumption | (simp [go_sem]; done) | (simp [go_sem, *]; done)); have g1_w_2 : w1_.cell? ⟨w.heap.size, 2, none⟩ = some (.int .i64 ta) := (by rw [hc1_ _ _ (by first | assumption | (simp; done) | (simp; omega) | omega)]; first | assumption | (simp [go_sem]; done) | (simp [go_sem, *]; done)); have g1_w_3 : w1_.cell? ⟨w.heap.size, 3, none⟩ = some (.int .i64 tb) := (by rw [hc1_ _ _ (by first | assumption | (simp; done) | (simp; omega) | omega)]; first | assumption | (simp [go_sem]; done) | (simp [go_sem, *]; done)); have g1_w_4 : w1_.cell? ⟨w.heap.size, 4, none⟩ = some (.int .i64 tc) := (by rw [hc1_ _ _ (by first | assumption | (simp; done) | (simp; omega) | omega)]; first | assumption | (simp [go_sem]; done) | (simp [go_sem, *]; done)); have g1_w_5 : w1_.cell? ⟨w.heap.size, 5, none⟩ = some (.slice aR nR cR) := (by rw [hc1_ _ _ (by first | assumption | (simp; done) | (simp; omega) | omega)]; first | assumption | (simp [go_sem]; done) | (simp [go_sem, *]; done)); have g1_w_6 : w1_.cell? ⟨w.heap.size, 6, none⟩ = some (.int .i64 n) := (by rw [hc1_ _ _ (by first | assumption | (simp; done) | (simp; omega) | omega)]; first | assumption | (simp [go_sem]; done) | (simp [go_sem, *]; done)); have g1_w_7 : w1_.cell? ⟨w.heap.size, 7, none⟩ = some (.slice aT nT cT) := (by rw [hc1_ _ _ (by first | assumption | (simp; done) | (simp; omega) | omega)]; first | assumption | (simp [go_sem]; done) | (simp [go_sem, *]; done)); have g1_w_8 : w1_.cell? ⟨w.heap.size, 8, none⟩ = some (.slice aP nP cP) := (by rw [hc1_ _ _ (by first | assumption | (simp; done) | (simp; omega) | omega)]; first | assumption | (simp [go_sem]; done) | (simp [go_sem, *]; done)); have g1_w_9 : w1_.cell? ⟨w.heap.size, 9, none⟩ = some (.slice aS nS cS) := (by rw [hc1_ _ _ (by first | assumption | (simp; done) | (simp; omega) | omega)]; first | assumption | (simp [go_sem]; done) | (simp [go_sem, *]; done)); have g1_w_10 : w1_.cell? ⟨w.heap.size, 10, none⟩ = some (.slice aG nG cG) := (by rw [hc1_ _ _ (by first | assumption | (simp; done) | (simp; omega) | omega)]; first | assumption | (simp [go_sem]; done) | (simp [go_sem, *]; done)); clear hc1_ hf1_; have HS := Lib.hid hs; clear hs; clear hb1_ hp1_)
  (go_wp2_with (fail); refine (rn_groupsof nR ap cp L _ lR lR0 hLl HL.out HS.out).mono ?_; rintro e w2_ ⟨ag, cg, rfl, hs, hb2_⟩; have hp2_ : Below w1_.heap.size w1_ w2_ := Below.trans (by (repeat' (first | (with_reducible exact Below.refl _ _) | (with_reducible assumption) | (with_reducible refine Kit.below_drewN ?_ _) | (with_reducible refine Below.drew ?_) | (with_reducible refine Below.alloc ?_ ?_ _) | (with_reducible refine Below.setCell ?_ ?_ _) | (with_reducible exact Nat.le_refl _) | omega | (simp; omega) | (simp; done) | (apply Below.size; assumption)))) (hb2_.mono (by first | assumption | (simp; done) | (simp; omega) | omega)); have hw2_ : Below w.heap.size w w2_ := hw1_.trans (hp2_.mono hw1_.size); have z2_w : w.heap.size < w2_.heap.size := Nat.lt_of_lt_of_le z1_w hp2_.size; have g2_w_0 : w2_.cell? ⟨w.heap.size, 0, none⟩ = some (.int .i64 wd) := (hp2_.cell (p := ⟨w.heap.size, 0, none⟩) z1_w).trans g1_w_0; have g2_w_1 : w2_.cell? ⟨w.heap.size, 1, none⟩ = some (.int .i64 dp) := (hp2_.cell (p := ⟨w.heap.size, 1, none⟩) z1_w).trans g1_w_1; have g2_w_2 : w2_.cell? ⟨w.heap.size, 2, none⟩ = some (.int .i64 ta) := (hp2_.cell (p := ⟨w.heap.size, 2, none⟩) z1_w).trans g1_w_2; have g2_w_3 : w2_.cell? ⟨w.heap.size, 3, none⟩ = some (.int .i64 tb) := (hp2_.cell (p := ⟨w.heap.size, 3, none⟩) z1_w).trans g1_w_3; have g2_w_4 : w2_.cell? ⟨w.heap.size, 4, none⟩ = some (.int .i64 tc) := (hp2_.cell (p := ⟨w.heap.size, 4, none⟩) z1_w).trans g1_w_4; have g2_w_5 : w2_.cell? ⟨w.heap.size, 5, none⟩ = some (.slice aR nR cR) := (hp2_.cell (p := ⟨w.heap.size, 5, none⟩) z1_w).trans g1_w_5; have g2_w_6 : w2_.cell? ⟨w.heap.size, 6, none⟩ = some (.int .i64 n) := (hp2_.cell (p := ⟨w.heap.size, 6, none⟩) z1_w).trans g1_w_6; have g2_w_7 : w2_.cell? ⟨w.heap.size, 7, none⟩ = some (.slice aT nT cT) := (hp2_.cell (p := ⟨w.heap.size, 7, none⟩) z1_w).trans g1_w_7; have g2_w_8 : w2_.cell? ⟨w.heap.size, 8, none⟩ = some (.slice aP nP cP) := (hp2_.cell (p := ⟨w.heap.size, 8, none⟩) z1_w).trans g1_w_8; have g2_w_9 : w2_.cell? ⟨w.heap.size, 9, none⟩ = some (.slice aS nS cS) := (hp2_.cell (p := ⟨w.heap.size, 9, none⟩) z1_w).trans g1_w_9; have g2_w_10 : w2_.cell? ⟨w.heap.size, 10, none⟩ = some (.slice aG nG cG) := (hp2_.cell (p := ⟨w.heap.size, 10, none⟩) z1_w).trans g1_w_10; have HG := Lib.hid hs; clear hs; clear z1_w g1_w_0 g1_w_1 g1_w_2 g1_w_3 g1_w_4 g1_w_5 g1_w_6 g1_w_7 g1_w_8 g1_w_9 g1_w_10 hw1_ hb2_ hp2_)
  go_wp2
  go_ret2
  exact ⟨_, _, rfl, HG.out, by (repeat' (first | (with_reducible exact Below.refl _ _) | (with_reducible assumption) | (with_reducible refine Kit.below_drewN ?_ _) | (with_reducible refine Below.drew ?_) | (with_reducible refine Below.alloc ?_ ?_ _) | (with_reducible refine Below.setCell ?_ ?_ _) | (with_reducible exact Nat.le_refl _) | omega | (simp; omega) | (simp; done) | (apply Below.size; assumption)))⟩

theorem rn_prs_bd (x : Ex.Wk) (bar : Int) : ∀ p ∈ Ap.prs x bar, ∃ u v : Nat, p = ((u : Int), (v : Int)) ∧ u < v ∧ v < x.ro.length := by
  rintro ⟨a, b⟩ hp
  obtain ⟨⟨u, hu, _⟩, v, hv, hvR⟩ := Ap.allP_bd _ _ _ _ (by omega) _ hp
  have hm : ∀ (n a : Nat), ∀ p ∈ Ap.allP (Ap.met bar x.sg) x.ro.length a n, p ∈ Ap.met bar x.sg := by
    have hr : ∀ (a n b : Nat), ∀ p ∈ Ap.rowP (Ap.met bar x.sg) a b n, p ∈ Ap.met bar x.sg := by
      intro a n
      induction n with
      | zero => intro b p hp; simp [Ap.rowP] at hp
      | succ n ih =>
        intro b p hp
        unfold Ap.rowP at hp
        split at hp
        · rename_i hm
          rcases List.mem_cons.1 hp with rfl | hp
          · exact hm
          · exact ih _ p hp
        · exact ih _ p hp
    intro n
    induction n with
    | zero => intro a p hp; simp [Ap.allP] at hp
    | succ n ih =>
      intro a p hp
      rcases List.mem_append.1 hp with hp | hp
      · exact hr a _ _ p hp
      · exact ih _ p hp
  have hlt := Rf.met_lt bar _ _ (hm _ _ _ hp)
  dsimp only at hu hv hlt
  subst hu hv
  exact ⟨u, v, rfl, by omega, hvR⟩
theorem rn_groups_sl (x : Ex.Wk) (p : Ex.Wa) (bar : Int) (w : World) (ha : Ex.At w x p) (h : Ap.chk x bar = 0) :
    Calls Tryd.prog 18 #[Ex.workV x p, .int .i64 bar] w fun e w' => ∃ ad c, e = .returned (.tuple #[.slice ad x.ro.length c, .int .i64 0]) ∧ Tp.Sl w' ad x.ro.length 1 (fun i _ => .int .i64 (Ap.grp (Ap.prs x bar) i)) ∧ Below w.heap.size w w' := by
  have h0 : Ex.chk x = 0 := by
    unfold Ap.chk at h
    split at h
    · assumption
    · exact h
  obtain ⟨r1, r2, r3⟩ := Ex.roles h0
  have hb := rn_prs_bd x bar
  have hlen : (Ap.prs x bar).length ≤ 4096 := Nat.le_trans (Ap.allP_len _ _ _ _) (Nat.le_trans (Nat.mul_le_mul r1 r1) (by omega))
  refine (rn_groups_2 _ _ _ _ _ _ _ _ _ _ _ _ _ _ _ _ _ _ _ _ _ bar w r1 r3 (Ap.prs x bar) hlen hb (fun W hB => rn_pairs_sl x p bar W (ha.kept hB (Nat.le_refl _)) h)).mono ?_
  rintro e w' ⟨ad, c, rfl, hs, hB⟩
  refine ⟨ad, c, rfl, ?_, hB⟩
  rcases hs with hs | ⟨a0, h1, h2, h3⟩
  · exact .inl hs
  · refine .inr ⟨a0, h1, h2, fun i j hi hj => (h3 i j hi hj).trans ?_⟩
    dsimp only
    rw [Rf.its_grp (Ap.prs x bar) x.ro.length (fun q hq => by obtain ⟨u, v, rfl, e1, e2⟩ := hb q hq; simp; omega) i hi]
theorem rn_groups_err (x : Ex.Wk) (p : Ex.Wa) (bar : Int) (w : World) (ha : Ex.At w x p) (h : ¬ Ap.chk x bar = 0) :
    Calls Tryd.prog 18 #[Ex.workV x p, .int .i64 bar] w fun e w' => e = .returned (.tuple #[.slice none 0 0, .int .i64 (Ap.chk x bar)]) ∧ Below w.heap.size w w' :=
  rn_groups_1 _ _ _ _ _ _ _ _ _ _ _ _ _ _ _ _ _ _ _ _ _ bar w _ (by simpa using h) (fun W hB => rn_pairs_err x p bar W (ha.kept hB (Nat.le_refl _)) h)
end Go.Proofs.YtjoieglhmladhaaDoor
