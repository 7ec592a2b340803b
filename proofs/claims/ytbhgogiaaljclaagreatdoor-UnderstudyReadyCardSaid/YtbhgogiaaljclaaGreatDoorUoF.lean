/- Walks: package options: find. -/
import Derived.Test.YtbhgogiaaljclaaGreatDoorUoa
import Derived.Test.YtbhgogiaaljclaaGreatDoorEx
import Derived.Deep.LoopGhost
set_option linter.unusedSimpArgs false
set_option linter.unusedVariables false
set_option maxRecDepth 100000
set_option maxHeartbeats 4000000
namespace Go.Proofs.YtbhgogiaaljclaaGreatDoor
open Go.RowKit Go.Shelf
namespace Ex
theorem okG1_id {roles n last : Int} {s : Sg} (h : okG1 roles n last s = true) : last < s.id ∧ s.id ≤ 1048576 := by
 unfold okG1 at h
 simp only [Bool.and_eq_true, decide_eq_true_eq] at h
 exact ⟨h.1.1, h.1.2⟩
theorem vG_all {roles n : Int} : ∀ {last : Int} {l : List Sg}, vG roles n last l = true → (∀ s ∈ l, last < s.id ∧ s.id ≤ 1048576 ∧ okSign s roles n = true) ∧ l.Pairwise fun a b => a.id < b.id
 | _, [], _ => ⟨fun _ h => by (cases h), List.Pairwise.nil⟩
 | last, s :: l, h => by
  rw [vG, Bool.and_eq_true] at h
  obtain ⟨h1, h2⟩ := h
  have hi := okG1_id h1
  have ho : okSign s roles n = true := by unfold okG1 at h1; rw [Bool.and_eq_true] at h1; exact h1.2
  obtain ⟨k1, k2⟩ := vG_all h2
  refine ⟨fun t ht => ?_, List.pairwise_cons.2 ⟨fun t ht => (k1 t ht).1, k2⟩⟩
  rcases List.mem_cons.1 ht with rfl | ht
  ·exact ⟨hi.1, hi.2, ho⟩
  ·have := k1 t ht
   exact ⟨by omega, this.2⟩
structure Good (x : Wk) : Prop where
 chk : chk x = 0
 len : x.sg.length ≤ 4096
 roles : x.ro.length ≤ 64
 okw : okW x = true
 ids : ∀ s ∈ x.sg, 0 ≤ s.id ∧ s.id ≤ 1048576
 oks : ∀ s ∈ x.sg, okSign s x.ro.length x.n = true
 rise : x.sg.Pairwise fun a b => a.id < b.id
theorem good_of {x : Wk} (h : chk x = 0) : Good x := by
 have h0 := h
 unfold chk at h
 split at h
 ·cases h
 ·rename_i h1
  split at h
  ·rename_i h2
   exact absurd h h2
  ·split at h
   ·rename_i h3
    have hv := h3
    unfold okW at hv
    rw [Bool.and_eq_true] at hv
    obtain ⟨k1, k2⟩ := vG_all hv.2
    exact ⟨h0, by omega, by omega, h3, fun s hs => by have := k1 s hs; exact ⟨by omega, this.2.1⟩, fun s hs => (k1 s hs).2.2, k2⟩
   ·cases h
end Ex
theorem uo_cmp (x : Ex.Sg) (t : Int) (w : World) : Calls Tryz.prog 86 #[Ex.sgV x, .int .i64 t] w fun e w' => e = .returned (.int .i64 (Ra.sg x.id t)) ∧ Below w.heap.size w w' := by
 go_enter Tryz.func86, Tryz.ntmps86
 go_wp2_with (refine (cm_cmp_b x.id t _).mono ?_; rintro _ w' ⟨rfl, hb⟩)
 go_ret
 exact ⟨rfl, ((Below.refl _ _).alloc nlr _).trans (hb.mono (by simp))⟩
theorem uo_bs (L : List Ex.Sg) (a : Option Addr) (c : Nat) (w : World) (hS : Tp.Sl w a L.length 14 (Ex.sgc L)) (hl : L.length ≤ 4096) (hp : L.Pairwise fun a b => a.id < b.id) (q : Nat) (hq : q < L.length) :
  Calls Tryz.prog 85 #[.slice a L.length c, .int .i64 (L.getD q default).id, .func (.func 86) #[] #[]] w fun e w' =>
   e = .returned (.tuple #[.int .i64 q, .bool true]) ∧ Below w.heap.size w w' := by
 obtain ⟨t, ht⟩ : ∃ t, (L.getD q default).id = t := ⟨_, rfl⟩
 rw [ht]
 have HS := qh hS
 have HP := qh (show ∀ i j, i < j → j < L.length → (L.getD i default).id < (L.getD j default).id from fun i j hij hj => by
  have := List.pairwise_iff_getElem.1 hp i j omg hj hij
  simpa only [List.getD_eq_getElem?_getD, List.getElem?_eq_getElem hj, List.getElem?_eq_getElem (show i < L.length by omega), Option.getD_some] using this)
 have HT := qh ht
 have HQ := qh hq
 clear hS hp ht
 have sgl : ∀ x y : Int, (Ra.sg x y < 0 ↔ x < y) ∧ (Ra.sg x y = 0 ↔ x = y) := fun x y => by unfold Ra.sg; split <;> (try split) <;> constructor <;> omega
 have SGL := qh sgl
 clear sgl
 go_enter Tryz.func85, Tryz.ntmps85
 go_wp2_with fail
 go_loopg [9, 10] L.length (fun kx v9 v10 wr => ∃ lo hi : Nat, v9 = .int .i64 lo ∧ v10 = .int .i64 hi ∧ lo ≤ hi ∧ hi ≤ L.length ∧ hi - lo ≤ kx ∧ Hid (Below w.heap.size w wr) ∧ Hid (lo ≤ q ∧ q ≤ hi))
 case atStart => exact ⟨0, L.length, rfl, rfl, Nat.zero_le _, Nat.le_refl _, by omega, Below.refl _ _, ⟨Nat.zero_le _, Nat.le_of_lt hq⟩⟩
 case round =>
  obtain ⟨lo, hi, rfl, rfl, hlh, hin, hg, HB, HI⟩ := hrel
  by_cases hlt : lo < hi
  ·have hm : (lo + hi) / 2 < L.length := by omega
   obtain ⟨ad, rfl, had, _⟩ := HS.out.at hm
   have h := HS.out.kept HB.out nlr
   (have e0 := h.head hm omg; have e1 := h.field hm (j := 1) omg omg; have e2 := h.field hm (j := 2) omg omg; have e3 := h.field hm (j := 3) omg omg; have e4 := h.field hm (j := 4) omg omg; have e5 := h.field hm (j := 5) omg omg; have e6 := h.field hm (j := 6) omg omg; have e7 := h.field hm (j := 7) omg omg; have e8 := h.field hm (j := 8) omg omg; have e9 := h.field hm (j := 9) omg omg; have e10 := h.field hm (j := 10) omg omg; have e11 := h.field hm (j := 11) omg omg; have e12 := h.field hm (j := 12) omg omg; have e13 := h.field hm (j := 13) omg omg; obtain ⟨x, hx_⟩ : ∃ y, L.getD ((lo + hi) / 2) default = y := ⟨_, rfl⟩; simp only [Ex.sgc, hx_] at e0 e1 e2 e3 e4 e5 e6 e7 e8 e9 e10 e11 e12 e13)
   have HX := qh hx_
   have HC := qh (fun W => uo_cmp x t W)
   clear h hx_
   by_cases hc : Ra.sg x.id t < 0
   ·go_wp2_with (refine (HC.out _).mono ?_; rintro _ w' ⟨rfl, hb⟩)
    have HB2 := qh (HB.out.trans (hb.mono HB.out.size))
    go_roundg (hi - ((lo + hi) / 2 + 1))
    case measure => omega
    case rel =>
     refine ⟨(lo + hi) / 2 + 1, hi, by rw [show ((lo : Int) + (hi : Int)) / 2 + 1 = (((lo + hi) / 2 + 1 : Nat) : Int) by omega], rfl, by omega, hin, Nat.le_refl _, HB2.out, ?_, HI.out.2⟩
     have h1 := ((SGL.out _ _).1).1 hc
     rw [← HX.out, ← HT.out] at h1
     rcases Nat.lt_trichotomy q ((lo + hi) / 2) with h2 | h2 | h2
     ·have := HP.out _ _ h2 hm; omega
     ·rw [h2] at h1; omega
     ·exact h2
   ·go_wp2_with (refine (HC.out _).mono ?_; rintro _ w' ⟨rfl, hb⟩)
    have HB2 := qh (HB.out.trans (hb.mono HB.out.size))
    go_roundg ((lo + hi) / 2 - lo)
    case measure => omega
    case rel =>
     refine ⟨lo, (lo + hi) / 2, rfl, by rw [show ((lo : Int) + (hi : Int)) / 2 = (((lo + hi) / 2 : Nat) : Int) by omega], by omega, by omega, Nat.le_refl _, HB2.out, HI.out.1, ?_⟩
     rcases Nat.lt_or_ge ((lo + hi) / 2) q with h2 | h2
     ·have h3 := HP.out _ _ h2 HQ.out
      rw [HX.out, HT.out] at h3
      exact absurd (((SGL.out _ _).1).2 h3) omg
     ·exact h2
  ·obtain rfl : hi = lo := by omega
   obtain rfl : hi = q := by have := HI.out; omega
   obtain ⟨ad, rfl, had, _⟩ := HS.out.at HQ.out
   have h := HS.out.kept HB.out nlr
   have hq' := HQ.out
   (have e0 := h.head hq' omg; have e1 := h.field hq' (j := 1) omg omg; have e2 := h.field hq' (j := 2) omg omg; have e3 := h.field hq' (j := 3) omg omg; have e4 := h.field hq' (j := 4) omg omg; have e5 := h.field hq' (j := 5) omg omg; have e6 := h.field hq' (j := 6) omg omg; have e7 := h.field hq' (j := 7) omg omg; have e8 := h.field hq' (j := 8) omg omg; have e9 := h.field hq' (j := 9) omg omg; have e10 := h.field hq' (j := 10) omg omg; have e11 := h.field hq' (j := 11) omg omg; have e12 := h.field hq' (j := 12) omg omg; have e13 := h.field hq' (j := 13) omg omg; obtain ⟨x, hx_⟩ : ∃ y, L.getD hi default = y := ⟨_, rfl⟩; simp only [Ex.sgc, hx_] at e0 e1 e2 e3 e4 e5 e6 e7 e8 e9 e10 e11 e12 e13)
   have hxt := HT.out
   rw [hx_] at hxt
   have HC := qh (fun W => uo_cmp x t W)
   have hc : Ra.sg x.id t = 0 := ((SGL.out _ _).2).2 hxt
   clear h hx_ hxt
   go_wp2_with (refine (HC.out _).mono ?_; rintro _ w' ⟨rfl, hb⟩)
   have HB2 := qh (HB.out.trans (hb.mono HB.out.size))
   go_ret2
   exact ⟨by simp [hc], HB2.out⟩
theorem uo_find (x : Ex.Wk) (p : Ex.Wa) (w : World) (hL : Ex.Laid w) (ha : Ex.At w x p) (hg : Ex.Good x) (q : Nat) (hq : q < x.sg.length) (s : Ex.Sg) (hs : x.sg.getD q default = s) :
  Calls Tryz.prog 50 #[Ex.workV x p, .int .i64 s.id] w fun e w' => e = .returned (.tuple #[Ex.sgV s, .int .i64 0]) ∧ Below w.heap.size w w' := by
 have HC := qh (fun W (hW : Below w.heap.size w W) => (by have h := ex_check x p W (ha.kept hW nlr) (hL.kept hW nlr); rwa [hg.chk] at h : Ex.Chk x p W 0))
 have HS := qh ha.sg
 have HB := qh (fun W (hW : Below w.heap.size w W) => (by have h := uo_bs x.sg p.aG p.cG W (ha.sg.kept hW nlr) hg.len hg.rise q hq; rw [hs] at h; exact h : Calls Tryz.prog 85 #[.slice p.aG x.sg.length p.cG, .int .i64 s.id, .func (.func 86) #[] #[]] W fun e w' => e = .returned (.tuple #[.int .i64 q, .bool true]) ∧ Below W.heap.size W w'))
 clear hL ha hg
 dsimp only [Ex.Chk, Ex.workV, Ex.wv] at HC ⊢
 generalize p.aG = aG at *
 have HE := qh hs
 clear hs
 go_enter Tryz.func50, Tryz.ntmps50
 skip
 (go_wp2_with (fail); refine (HC.out _ (by exact Kit.gr)).mono ?_; rintro e w1_ ⟨rfl, hb1_⟩; have hp1_ : Below w.heap.size w w1_ := Below.trans (by exact Kit.gr) (hb1_.mono (by first | assumption | (simp; done) | (simp; omega) | omega)); have hw1_ : Below w.heap.size w w1_ := hp1_; obtain ⟨hc1_, hf1_⟩ := Kit.bcell hb1_; have z1_w : w.heap.size < w1_.heap.size := (by have := hb1_.size; first | omega | (simp at this; omega)); obtain ⟨g1_w_0, g1_w_1, g1_w_2, g1_w_3, g1_w_4, g1_w_5, g1_w_6, g1_w_7, g1_w_8, g1_w_9, g1_w_10⟩ : w1_.cell? ⟨w.heap.size, 0, none⟩ = some (.int .i64 x.wd) ∧ w1_.cell? ⟨w.heap.size, 1, none⟩ = some (.int .i64 x.dp) ∧ w1_.cell? ⟨w.heap.size, 2, none⟩ = some (.int .i64 x.ta) ∧ w1_.cell? ⟨w.heap.size, 3, none⟩ = some (.int .i64 x.tb) ∧ w1_.cell? ⟨w.heap.size, 4, none⟩ = some (.int .i64 x.tc) ∧ w1_.cell? ⟨w.heap.size, 5, none⟩ = some (.slice p.aR x.ro.length p.cR) ∧ w1_.cell? ⟨w.heap.size, 6, none⟩ = some (.int .i64 x.n) ∧ w1_.cell? ⟨w.heap.size, 7, none⟩ = some (.slice p.aT x.ts.length p.cT) ∧ w1_.cell? ⟨w.heap.size, 8, none⟩ = some (.slice p.aP x.ps.length p.cP) ∧ w1_.cell? ⟨w.heap.size, 9, none⟩ = some (.slice p.aS x.ss.length p.cS) ∧ w1_.cell? ⟨w.heap.size, 10, none⟩ = some (.slice aG x.sg.length p.cG) := (by refine ⟨?_, ?_, ?_, ?_, ?_, ?_, ?_, ?_, ?_, ?_, ?_⟩ <;> (rw [hc1_ _ _ (by first | assumption | (simp; done) | (simp; omega) | omega)]; first | assumption | (simp [go_sem]; done) | (simp [go_sem, *]; done))); have z1_w_1 : w.heap.size + 1 < w1_.heap.size := (by have := hb1_.size; first | omega | (simp at this; omega)); obtain ⟨g1_w_1_0, g1_w_1_1, g1_w_1_2, g1_w_1_3, g1_w_1_4, g1_w_1_5, g1_w_1_6, g1_w_1_7, g1_w_1_8, g1_w_1_9, g1_w_1_10, g1_w_1_11, g1_w_1_12, g1_w_1_13⟩ : w1_.cell? ⟨w.heap.size + 1, 0, none⟩ = some (.int .i64 0) ∧ w1_.cell? ⟨w.heap.size + 1, 1, none⟩ = some (.int .i64 0) ∧ w1_.cell? ⟨w.heap.size + 1, 2, none⟩ = some (.int .i64 0) ∧ w1_.cell? ⟨w.heap.size + 1, 3, none⟩ = some (.int .i64 0) ∧ w1_.cell? ⟨w.heap.size + 1, 4, none⟩ = some (.int .i64 0) ∧ w1_.cell? ⟨w.heap.size + 1, 5, none⟩ = some (.int .i64 0) ∧ w1_.cell? ⟨w.heap.size + 1, 6, none⟩ = some (.int .i64 0) ∧ w1_.cell? ⟨w.heap.size + 1, 7, none⟩ = some (.int .i64 0) ∧ w1_.cell? ⟨w.heap.size + 1, 8, none⟩ = some (.int .i64 0) ∧ w1_.cell? ⟨w.heap.size + 1, 9, none⟩ = some (.int .i64 0) ∧ w1_.cell? ⟨w.heap.size + 1, 10, none⟩ = some (.int .i64 0) ∧ w1_.cell? ⟨w.heap.size + 1, 11, none⟩ = some (.int .i64 0) ∧ w1_.cell? ⟨w.heap.size + 1, 12, none⟩ = some (.int .i64 0) ∧ w1_.cell? ⟨w.heap.size + 1, 13, none⟩ = some (.int .i64 0) := (by refine ⟨?_, ?_, ?_, ?_, ?_, ?_, ?_, ?_, ?_, ?_, ?_, ?_, ?_, ?_⟩ <;> (rw [hc1_ _ _ (by first | assumption | (simp; done) | (simp; omega) | omega)]; first | assumption | (simp [go_sem]; done) | (simp [go_sem, *]; done))); have f1_w_1_0 : w1_.frozen? ⟨w.heap.size + 1, 0, none⟩ = false := (by rw [hf1_ _ _ (by first | assumption | (simp; done) | (simp; omega) | omega)]; first | assumption | (simp [go_sem]; done) | (simp [go_sem, *]; done)); have f1_w_1_1 : w1_.frozen? ⟨w.heap.size + 1, 1, none⟩ = false := (by rw [hf1_ _ _ (by first | assumption | (simp; done) | (simp; omega) | omega)]; first | assumption | (simp [go_sem]; done) | (simp [go_sem, *]; done)); have f1_w_1_2 : w1_.frozen? ⟨w.heap.size + 1, 2, none⟩ = false := (by rw [hf1_ _ _ (by first | assumption | (simp; done) | (simp; omega) | omega)]; first | assumption | (simp [go_sem]; done) | (simp [go_sem, *]; done)); have f1_w_1_3 : w1_.frozen? ⟨w.heap.size + 1, 3, none⟩ = false := (by rw [hf1_ _ _ (by first | assumption | (simp; done) | (simp; omega) | omega)]; first | assumption | (simp [go_sem]; done) | (simp [go_sem, *]; done)); have f1_w_1_4 : w1_.frozen? ⟨w.heap.size + 1, 4, none⟩ = false := (by rw [hf1_ _ _ (by first | assumption | (simp; done) | (simp; omega) | omega)]; first | assumption | (simp [go_sem]; done) | (simp [go_sem, *]; done)); have f1_w_1_5 : w1_.frozen? ⟨w.heap.size + 1, 5, none⟩ = false := (by rw [hf1_ _ _ (by first | assumption | (simp; done) | (simp; omega) | omega)]; first | assumption | (simp [go_sem]; done) | (simp [go_sem, *]; done)); have f1_w_1_6 : w1_.frozen? ⟨w.heap.size + 1, 6, none⟩ = false := (by rw [hf1_ _ _ (by first | assumption | (simp; done) | (simp; omega) | omega)]; first | assumption | (simp [go_sem]; done) | (simp [go_sem, *]; done)); have f1_w_1_7 : w1_.frozen? ⟨w.heap.size + 1, 7, none⟩ = false := (by rw [hf1_ _ _ (by first | assumption | (simp; done) | (simp; omega) | omega)]; first | assumption | (simp [go_sem]; done) | (simp [go_sem, *]; done)); have f1_w_1_8 : w1_.frozen? ⟨w.heap.size + 1, 8, none⟩ = false := (by rw [hf1_ _ _ (by first | assumption | (simp; done) | (simp; omega) | omega)]; first | assumption | (simp [go_sem]; done) | (simp [go_sem, *]; done)); have f1_w_1_9 : w1_.frozen? ⟨w.heap.size + 1, 9, none⟩ = false := (by rw [hf1_ _ _ (by first | assumption | (simp; done) | (simp; omega) | omega)]; first | assumption | (simp [go_sem]; done) | (simp [go_sem, *]; done)); have f1_w_1_10 : w1_.frozen? ⟨w.heap.size + 1, 10, none⟩ = false := (by rw [hf1_ _ _ (by first | assumption | (simp; done) | (simp; omega) | omega)]; first | assumption | (simp [go_sem]; done) | (simp [go_sem, *]; done)); have f1_w_1_11 : w1_.frozen? ⟨w.heap.size + 1, 11, none⟩ = false := (by rw [hf1_ _ _ (by first | assumption | (simp; done) | (simp; omega) | omega)]; first | assumption | (simp [go_sem]; done) | (simp [go_sem, *]; done)); have f1_w_1_12 : w1_.frozen? ⟨w.heap.size + 1, 12, none⟩ = false := (by rw [hf1_ _ _ (by first | assumption | (simp; done) | (simp; omega) | omega)]; first | assumption | (simp [go_sem]; done) | (simp [go_sem, *]; done)); have f1_w_1_13 : w1_.frozen? ⟨w.heap.size + 1, 13, none⟩ = false := (by rw [hf1_ _ _ (by first | assumption | (simp; done) | (simp; omega) | omega)]; first | assumption | (simp [go_sem]; done) | (simp [go_sem, *]; done)); clear hc1_ hf1_; clear hb1_ hp1_)
 (go_wp2_with (fail); refine (HB.out _ (by exact Kit.gr)).mono ?_; rintro e w2_ ⟨rfl, hb2_⟩; have hp2_ : Below w1_.heap.size w1_ w2_ := Below.trans (by exact Kit.gr) (hb2_.mono (by first | assumption | (simp; done) | (simp; omega) | omega)); have hw2_ : Below w.heap.size w w2_ := hw1_.trans (hp2_.mono hw1_.size); have z2_w : w.heap.size < w2_.heap.size := Nat.lt_of_lt_of_le z1_w hp2_.size; have g2_w_0 := Kit.ck hp2_ g1_w_0 z1_w; have g2_w_1 := Kit.ck hp2_ g1_w_1 z1_w; have g2_w_2 := Kit.ck hp2_ g1_w_2 z1_w; have g2_w_3 := Kit.ck hp2_ g1_w_3 z1_w; have g2_w_4 := Kit.ck hp2_ g1_w_4 z1_w; have g2_w_5 := Kit.ck hp2_ g1_w_5 z1_w; have g2_w_6 := Kit.ck hp2_ g1_w_6 z1_w; have g2_w_7 := Kit.ck hp2_ g1_w_7 z1_w; have g2_w_8 := Kit.ck hp2_ g1_w_8 z1_w; have g2_w_9 := Kit.ck hp2_ g1_w_9 z1_w; have g2_w_10 := Kit.ck hp2_ g1_w_10 z1_w; have z2_w_1 : w.heap.size + 1 < w2_.heap.size := Nat.lt_of_lt_of_le z1_w_1 hp2_.size; have g2_w_1_0 := Kit.ck hp2_ g1_w_1_0 z1_w_1; have f2_w_1_0 := Kit.fk hp2_ f1_w_1_0 z1_w_1; have g2_w_1_1 := Kit.ck hp2_ g1_w_1_1 z1_w_1; have f2_w_1_1 := Kit.fk hp2_ f1_w_1_1 z1_w_1; have g2_w_1_2 := Kit.ck hp2_ g1_w_1_2 z1_w_1; have f2_w_1_2 := Kit.fk hp2_ f1_w_1_2 z1_w_1; have g2_w_1_3 := Kit.ck hp2_ g1_w_1_3 z1_w_1; have f2_w_1_3 := Kit.fk hp2_ f1_w_1_3 z1_w_1; have g2_w_1_4 := Kit.ck hp2_ g1_w_1_4 z1_w_1; have f2_w_1_4 := Kit.fk hp2_ f1_w_1_4 z1_w_1; have g2_w_1_5 := Kit.ck hp2_ g1_w_1_5 z1_w_1; have f2_w_1_5 := Kit.fk hp2_ f1_w_1_5 z1_w_1; have g2_w_1_6 := Kit.ck hp2_ g1_w_1_6 z1_w_1; have f2_w_1_6 := Kit.fk hp2_ f1_w_1_6 z1_w_1; have g2_w_1_7 := Kit.ck hp2_ g1_w_1_7 z1_w_1; have f2_w_1_7 := Kit.fk hp2_ f1_w_1_7 z1_w_1; have g2_w_1_8 := Kit.ck hp2_ g1_w_1_8 z1_w_1; have f2_w_1_8 := Kit.fk hp2_ f1_w_1_8 z1_w_1; have g2_w_1_9 := Kit.ck hp2_ g1_w_1_9 z1_w_1; have f2_w_1_9 := Kit.fk hp2_ f1_w_1_9 z1_w_1; have g2_w_1_10 := Kit.ck hp2_ g1_w_1_10 z1_w_1; have f2_w_1_10 := Kit.fk hp2_ f1_w_1_10 z1_w_1; have g2_w_1_11 := Kit.ck hp2_ g1_w_1_11 z1_w_1; have f2_w_1_11 := Kit.fk hp2_ f1_w_1_11 z1_w_1; have g2_w_1_12 := Kit.ck hp2_ g1_w_1_12 z1_w_1; have f2_w_1_12 := Kit.fk hp2_ f1_w_1_12 z1_w_1; have g2_w_1_13 := Kit.ck hp2_ g1_w_1_13 z1_w_1; have f2_w_1_13 := Kit.fk hp2_ f1_w_1_13 z1_w_1; clear z1_w g1_w_0 g1_w_1 g1_w_2 g1_w_3 g1_w_4 g1_w_5 g1_w_6 g1_w_7 g1_w_8 g1_w_9 g1_w_10 z1_w_1 g1_w_1_0 f1_w_1_0 g1_w_1_1 f1_w_1_1 g1_w_1_2 f1_w_1_2 g1_w_1_3 f1_w_1_3 g1_w_1_4 f1_w_1_4 g1_w_1_5 f1_w_1_5 g1_w_1_6 f1_w_1_6 g1_w_1_7 f1_w_1_7 g1_w_1_8 f1_w_1_8 g1_w_1_9 f1_w_1_9 g1_w_1_10 f1_w_1_10 g1_w_1_11 f1_w_1_11 g1_w_1_12 f1_w_1_12 g1_w_1_13 f1_w_1_13 hw1_ hb2_ hp2_)
 obtain ⟨ad, rfl, had, _⟩ := HS.out.at hq
 have h := HS.out.kept (by exact Kit.gr : Below w.heap.size w w2_) nlr
 (have e0 := h.head hq omg; have e1 := h.field hq (j := 1) omg omg; have e2 := h.field hq (j := 2) omg omg; have e3 := h.field hq (j := 3) omg omg; have e4 := h.field hq (j := 4) omg omg; have e5 := h.field hq (j := 5) omg omg; have e6 := h.field hq (j := 6) omg omg; have e7 := h.field hq (j := 7) omg omg; have e8 := h.field hq (j := 8) omg omg; have e9 := h.field hq (j := 9) omg omg; have e10 := h.field hq (j := 10) omg omg; have e11 := h.field hq (j := 11) omg omg; have e12 := h.field hq (j := 12) omg omg; have e13 := h.field hq (j := 13) omg omg; obtain ⟨y, hy_⟩ : ∃ y, x.sg.getD q default = y := ⟨_, rfl⟩; simp only [Ex.sgc, hy_] at e0 e1 e2 e3 e4 e5 e6 e7 e8 e9 e10 e11 e12 e13)
 have hys := HE.out
 rw [hy_] at hys
 subst hys
 clear h hy_
 go_wp2
 (refine bodyPost_ret (by simp [results, Tryz.results50, go_sem, Kit.cell_set, g2_w_1_0, g2_w_1_1, g2_w_1_2, g2_w_1_3, g2_w_1_4, g2_w_1_5, g2_w_1_6, g2_w_1_7, g2_w_1_8, g2_w_1_9, g2_w_1_10, g2_w_1_11, g2_w_1_12, g2_w_1_13]; try rfl) rfl ?_)
 exact ⟨rfl, by exact Kit.gr⟩
end Go.Proofs.YtbhgogiaaljclaaGreatDoor
