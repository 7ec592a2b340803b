/- Walks: the law ApartLess. -/
import Derived.Test.YtjoieglhmladhaaDoorLwV
import Derived.Deep.CutRange
import Derived.Deep.RegionHeldLaw
namespace Go.Proofs.YtjoieglhmladhaaDoor
set_option linter.unusedVariables false
set_option linter.unusedSimpArgs false
open Go.RowKit Go.Shelf

theorem Lw.underW : Tryd.prog.underlying 45 = some (.slice 27) := by kernel_rfl
theorem Lw.infoW : (Tryd.prog.info? 27).map (fun i => (i.zero, i.size, i.bytes)) = some (some (.agg #[.int .i64 0, .int .i64 0, .int .i64 0, .int .i64 0, .int .i64 0, .int .i64 0, .int .i64 0, .int .i64 0]), 8, 64) := by kernel_rfl

/-- An empty row of one's own, in a new block. -/
theorem Lw.own_empty {w : World} {N : Nat} {e : TypeId} {size : Nat} (h : w.heap[N]? = some (.cells #[] e (0, 0))) : w.ownsRow N e size (.slice (some ⟨N, 0, none⟩) 0 0) 0 [] :=
  ⟨by simp, .inr ⟨N, 0, #[], rfl, Nat.le_refl _, h, Nat.le_refl _, by decide, by simp, by simp⟩⟩
theorem Lw.wfl_app (a b : List Ap.Wg) : Lw.wfl a ++ Lw.wfl b = Lw.wfl (a ++ b) := by simp [Lw.wfl]
theorem Lw.below_grown {B : Nat} {w a b : World} {row : Option Nat} (h : Below B w a) (g : a.grownBy b row) (hr : ∀ k, row = some k → B ≤ k) (hB : B ≤ a.heap.size) : Below B w b :=
  ⟨g.os.trans h.os, g.tape.trans h.tape, g.output.trans h.output, Nat.le_trans h.size g.size, fun i hi => (g.block i (Nat.lt_of_lt_of_le hi hB) (fun e => by have := hr i e.symm; omega)).trans (h.block i hi)⟩
/-- What stands behind the two appends and the store. -/
theorem Lw.drop_end {w6 W1 x1 x2 : World} {v1 : Value} {ad2 : Option Addr} {n c2 : Nat} {u : Value} {gf : List Ap.Wg} (hn : gf.length = n) (h61 : Below w6.heap.size w6 W1) (s1 : W1.heap.size = w6.heap.size + 2) (g1 : W1.grownBy x1 (some (w6.heap.size + 1)))
    (k1 : ∀ k, v1.ownBlock = some k → some (w6.heap.size + 1) = some k ∨ W1.heap.size ≤ k) (g2 : x1.grownBy x2 v1.ownBlock) (o2 : x2.ownsRow (w6.heap.size + 1) 27 8 (.slice ad2 n c2) n (Lw.wfl gf)) (b3 : x2.cell? ⟨w6.heap.size, 0, none⟩ = some u) :
    Hid ((x2.setCell ⟨w6.heap.size, 0, none⟩ (.slice ad2 n c2)).cell? ⟨w6.heap.size, 0, none⟩ = some (.slice ad2 n c2)) ∧ Hid (Tp.Sl (x2.setCell ⟨w6.heap.size, 0, none⟩ (.slice ad2 n c2)) ad2 n 8 (Ap.wgc gf)) ∧
      Hid (Below w6.heap.size w6 (x2.setCell ⟨w6.heap.size, 0, none⟩ (.slice ad2 n c2))) ∧ w6.heap.size < (x2.setCell ⟨w6.heap.size, 0, none⟩ (.slice ad2 n c2)).heap.size := by
  obtain ⟨ad, c, e, hs, hb⟩ := Ap.own_sl (f := Ap.wgc gf) o2 (fun i j hi hj => Lw.wfl_at _ i j (by rw [hn]; exact hi) hj)
  obtain ⟨rfl, _, rfl⟩ : ad2 = ad ∧ n = n ∧ c2 = c := by simpa using e
  have hx1 : Below w6.heap.size w6 x1 := Lw.below_grown h61 g1 (fun k hk => by cases hk; omega) (by omega)
  have hx2 : Below w6.heap.size w6 x2 := Lw.below_grown hx1 g2 (fun k hk => by rcases k1 k hk with h | h; · cases h; omega
                                                                               · omega) hx1.size
  have hz : w6.heap.size < x2.heap.size := by have h1 := g1.size; have h2 := g2.size; omega
  refine ⟨by rw [Kit.cell_set, if_pos rfl, b3]; rfl, Ap.Sl_keptS hs (by simp) (fun a ha => ?_), hx2.setCell (by simp) _, by simpa using hz⟩
  have hne : w6.heap.size ≠ a.block := by have := hb a ha; omega
  simp [World.setCell, Array.getElem?_modify, hne]
/-- What the second Clashes leaves. -/
def Lw.LPost (M : List Ap.C3) (W : World) (e : Ending) (w' : World) : Prop :=
  ∃ (v : Value) (f : Int), e = .returned (.tuple #[v, .int .i64 f]) ∧ ((v = .slice none 0 0 ∧ f = 290) ∨ (f = 0 ∧ ∃ ad c, v = .slice ad M.length c ∧ Tp.Sl w' ad M.length 3 (Ap.c3c M))) ∧ Below W.heap.size W w'
theorem Lw.prc_at (L : List (Int × Int)) (i j : Nat) (hi : i < L.length) (hj : j < 2) : (Ap.fl2 L)[i * 2 + j]? = some (Ap.prc L i j) := by
  obtain ⟨h1, h2⟩ := Ap.fl2_at L i hi
  rcases j with _ | _ | j
  · simpa [Ap.prc] using h1
  · simpa [Ap.prc] using h2
  · omega
theorem Lw.fl2_app (a b : List (Int × Int)) : Ap.fl2 a ++ Ap.fl2 b = Ap.fl2 (a ++ b) := by simp [Ap.fl2]
theorem Lw.sl_nil {w : World} {a : Option Addr} {n k : Nat} {f : Nat → Nat → Value} (h : Tp.Sl w a n k f) : a = none → n = 0 := by
  rintro rfl
  rcases h with h | ⟨ad, e, _⟩
  · exact h
  · cases e
theorem Lw.sl_lt {w : World} {ad : Option Addr} {P : List (Int × Int)} (s : Tp.Sl w ad P.length 2 (Ap.prc P)) : ∀ a, ad = some a → ∀ (j : Nat) (u : Value), (Ap.fl2 P)[j]? = some u → w.cell? (a.add j) = some u ∧ (a.add j).block < w.heap.size := by
  intro a e j u hu
  refine ⟨Lw.sl_news2 s a e j u hu, ?_⟩
  rcases s with h | ⟨b, e2, hb, _⟩
  · have := (List.getElem?_eq_some_iff.1 hu).1
    rw [Lw.fl2_len, h] at this
    omega
  · rw [e] at e2; cases e2; rw [Tp.add_block]; exact hb
/-- A clash of the hall without wagon d, as one of the whole hall. -/
def Lw.adj (d : Int) (c : Ap.C3) : Ap.C3 := if c.1 = 5 ∧ d ≤ c.2.2 then (c.1, c.2.1, c.2.2 + 1) else c
theorem Lw.adj_eq (d q1 q2 q3 : Int) : Lw.adj d (q1, q2, q3) = (q1, q2, (Lw.adj d (q1, q2, q3)).2.2) := by
  unfold Lw.adj
  split <;> rfl
theorem Lw.new_block {w : World} {N : Nat} {o : Obj} (h : N = w.heap.size) : (w.alloc o).heap[N]? = some o := by
  subst h; exact heap_alloc_new w o

set_option maxRecDepth 100000 in
set_option maxHeartbeats 40000000 in
theorem law_less_6 (wd dp ta tb tc : Int) (aR : Option Addr) (nR cR : Nat) (n : Int) (aT : Option Addr) (nT cT : Nat) (aP : Option Addr) (nP cP : Nat) (aS : Option Addr) (nS cS : Nat) (aG : Option Addr) (nG cG : Nat) (aW : Option Addr) (nW cW : Nat) (bar : Int) (aM : Option Addr) (nM cM : Nat) (aH : Option Addr) (nH cH : Nat) (aL : Option Addr) (nL cL : Nat) (aK : Option Addr) (nK cK : Nat) (aQ : Option Addr) (nQ cQ : Nat) (aO : Option Addr) (nO cO : Nat) (wo : Nat) (w : World) (hS : ∀ W, Below w.heap.size w W → Calls Tryd.prog 11 #[] W fun e w' => e = .returned (.bool true) ∧ Below W.heap.size W w') (hF1 : ∀ W, Below w.heap.size w W → Calls Tryd.prog 14 #[Ex.wv wd dp ta tb tc aR nR cR n aT nT cT aP nP cP aS nS cS aG nG cG, .agg #[.slice aW nW cW], .slice aM nM cM, .slice aH nH cH, .slice aQ nQ cQ] W fun e w' => e = .returned (.bool true) ∧ Below W.heap.size W w') (hF2 : ∀ W, Below w.heap.size w W → Calls Tryd.prog 14 #[Ex.wv wd dp ta tb tc aR nR cR n aT nT cT aP nP cP aS nS cS aG nG cG, .agg #[.slice aW nW cW], .slice aL nL cL, .slice aK nK cK, .slice aO nO cO] W fun e w' => e = .returned (.bool true) ∧ Below W.heap.size W w') (hI1 : ∀ W, Below w.heap.size w W → Calls Tryd.prog 31 #[.slice aL nL cL, .slice aM nM cM] W fun e w' => e = .returned (.bool true) ∧ Below W.heap.size W w') (hI2 : ∀ W, Below w.heap.size w W → Calls Tryd.prog 31 #[.slice aK nK cK, .slice aH nH cH] W fun e w' => e = .returned (.bool true) ∧ Below W.heap.size W w') (L M : List Ap.C3) (hC : ∀ W, Below w.heap.size w W → Calls Tryd.prog 21 #[Ex.wv wd dp ta tb tc aR nR cR n aT nT cT aP nP cP aS nS cS aG nG cG, .agg #[.slice aW nW cW], .int .i64 bar, .slice aM nM cM, .slice aH nH cH, .slice aQ nQ cQ] W fun e w' => ∃ ad c, e = .returned (.tuple #[.slice ad L.length c, .int .i64 0]) ∧ Tp.Sl w' ad L.length 3 (Ap.c3c L) ∧ Below W.heap.size W w')
    (hW1 : nW ≤ 8) (hwo : wo < 256) (hcW : nW ≤ cW) (gs : List Ap.Wg) (hgs : gs.length = nW) (sW : Tp.Sl w aW nW 8 (Ap.wgc gs))
    (PQ PO : List (Int × Int)) (hQ : PQ.length = nQ) (hO : PO.length = nO) (lQ : nQ ≤ 100) (lO : nO ≤ 100) (sQ : Tp.Sl w aQ nQ 2 (Ap.prc PQ)) (sO : Tp.Sl w aO nO 2 (Ap.prc PO))
    (lL : L.length ≤ 4611686018427387904) (lM : M.length ≤ 4611686018427387904)
    (gf : List Ap.Wg) (dv : Int) (hg0 : nW = 0 → gf = [] ∧ dv = -1) (hg1 : 0 < nW → gf = (gs.drop 0).take (wo % nW) ++ (gs.drop (wo % nW + 1)).take (nW - (wo % nW + 1)) ∧ dv = ((wo % nW : Nat) : Int))
    (hD : ∀ ad2 c2 ad3 c3 W, Below w.heap.size w W → Tp.Sl W ad2 gf.length 8 (Ap.wgc gf) → Tp.Sl W ad3 (PO.length + PQ.length + PO.length) 2 (Ap.prc (PO ++ PQ ++ PO)) →
      Calls Tryd.prog 21 #[Ex.wv wd dp ta tb tc aR nR cR n aT nT cT aP nP cP aS nS cS aG nG cG, .agg #[.slice ad2 gf.length c2], .int .i64 bar, .slice aL nL cL, .slice aK nK cK, .slice ad3 (PO.length + PQ.length + PO.length) c3] W (Lw.LPost M W))
    (hb : ∀ k, k < M.length → (M.getD k (0, 0, 0)).2.2 ≤ 100 ∧ 0 ≤ (M.getD k (0, 0, 0)).2.2) (hm : ∀ k, k < M.length → Lw.adj dv (M.getD k (0, 0, 0)) ∈ L) :
    Calls Tryd.prog 9 #[Ex.wv wd dp ta tb tc aR nR cR n aT nT cT aP nP cP aS nS cS aG nG cG, .agg #[.slice aW nW cW], .int .i64 bar, .slice aM nM cM, .slice aH nH cH, .slice aL nL cL, .slice aK nK cK, .slice aQ nQ cQ, .slice aO nO cO, .int .u8 wo] w fun e w' => e = .returned (.bool true) ∧ Below w.heap.size w w' := by
  have HS := Lib.hid hS; clear hS
  have HF1 := Lib.hid hF1; clear hF1
  have HF2 := Lib.hid hF2; clear hF2
  have HI1 := Lib.hid hI1; clear hI1
  have HI2 := Lib.hid hI2; clear hI2
  have HC := Lib.hid hC; clear hC
  have HD := Lib.hid hD; clear hD
  have HBD := Lib.hid hb; clear hb
  have HMM := Lib.hid hm; clear hm
  have HG0 := Lib.hid hg0; clear hg0
  have HG1 := Lib.hid hg1; clear hg1
  subst hQ hO
  have SQ := Lib.hid sQ; clear sQ
  have SO := Lib.hid sO; clear sO
  have SW := Lib.hid sW; clear sW
  go_enter Tryd.func9, Tryd.ntmps9
  skip
  (go_wp2_with (fail); refine (HS.out _ (by (repeat' (first | (with_reducible exact Below.refl _ _) | (with_reducible assumption) | (with_reducible refine Kit.below_drewN ?_ _) | (with_reducible refine Below.drew ?_) | (with_reducible refine Below.alloc ?_ ?_ _) | (with_reducible refine Below.setCell ?_ ?_ _) | (with_reducible exact Nat.le_refl _) | omega | (simp; omega) | (simp; done) | (apply Below.size; assumption))))).mono ?_; rintro e w1_ ⟨rfl, hb1_⟩; have hp1_ : Below w.heap.size w w1_ := Below.trans (by (repeat' (first | (with_reducible exact Below.refl _ _) | (with_reducible assumption) | (with_reducible refine Kit.below_drewN ?_ _) | (with_reducible refine Below.drew ?_) | (with_reducible refine Below.alloc ?_ ?_ _) | (with_reducible refine Below.setCell ?_ ?_ _) | (with_reducible exact Nat.le_refl _) | omega | (simp; omega) | (simp; done) | (apply Below.size; assumption)))) (hb1_.mono (by first | assumption | (simp; done) | (simp; omega) | omega)); have hw1_ : Below w.heap.size w w1_ := hp1_; obtain ⟨hc1_, hf1_⟩ := Kit.bcell hb1_; have z1_w : w.heap.size < w1_.heap.size := (by have := hb1_.size; first | omega | (simp at this; omega)); have g1_w_0 : w1_.cell? ⟨w.heap.size, 0, none⟩ = some (.int .i64 wd) := (by rw [hc1_ _ _ (by first | assumption | (simp; done) | (simp; omega) | omega)]; first | assumption | (simp [go_sem]; done) | (simp [go_sem, *]; done)); have g1_w_1 : w1_.cell? ⟨w.heap.size, 1, none⟩ = some (.int .i64 dp) := (by rw [hc1_ _ _ (by first | assumption | (simp; done) | (simp; omega) | omega)]; first | assumption | (simp [go_sem]; done) | (simp [go_sem, *]; done)); have g1_w_2 : w1_.cell? ⟨w.heap.size, 2, none⟩ = some (.int .i64 ta) := (by rw [hc1_ _ _ (by first | assumption | (simp; done) | (simp; omega) | omega)]; first | assumption | (simp [go_sem]; done) | (simp [go_sem, *]; done)); have g1_w_3 : w1_.cell? ⟨w.heap.size, 3, none⟩ = some (.int .i64 tb) := (by rw [hc1_ _ _ (by first | assumption | (simp; done) | (simp; omega) | omega)]; first | assumption | (simp [go_sem]; done) | (simp [go_sem, *]; done)); have g1_w_4 : w1_.cell? ⟨w.heap.size, 4, none⟩ = some (.int .i64 tc) := (by rw [hc1_ _ _ (by first | assumption | (simp; done) | (simp; omega) | omega)]; first | assumption | (simp [go_sem]; done) | (simp [go_sem, *]; done)); have g1_w_5 : w1_.cell? ⟨w.heap.size, 5, none⟩ = some (.slice aR nR cR) := (by rw [hc1_ _ _ (by first | assumption | (simp; done) | (simp; omega) | omega)]; first | assumption | (simp [go_sem]; done) | (simp [go_sem, *]; done)); have g1_w_6 : w1_.cell? ⟨w.heap.size, 6, none⟩ = some (.int .i64 n) := (by rw [hc1_ _ _ (by first | assumption | (simp; done) | (simp; omega) | omega)]; first | assumption | (simp [go_sem]; done) | (simp [go_sem, *]; done)); have g1_w_7 : w1_.cell? ⟨w.heap.size, 7, none⟩ = some (.slice aT nT cT) := (by rw [hc1_ _ _ (by first | assumption | (simp; done) | (simp; omega) | omega)]; first | assumption | (simp [go_sem]; done) | (simp [go_sem, *]; done)); have g1_w_8 : w1_.cell? ⟨w.heap.size, 8, none⟩ = some (.slice aP nP cP) := (by rw [hc1_ _ _ (by first | assumption | (simp; done) | (simp; omega) | omega)]; first | assumption | (simp [go_sem]; done) | (simp [go_sem, *]; done)); have g1_w_9 : w1_.cell? ⟨w.heap.size, 9, none⟩ = some (.slice aS nS cS) := (by rw [hc1_ _ _ (by first | assumption | (simp; done) | (simp; omega) | omega)]; first | assumption | (simp [go_sem]; done) | (simp [go_sem, *]; done)); have g1_w_10 : w1_.cell? ⟨w.heap.size, 10, none⟩ = some (.slice aG nG cG) := (by rw [hc1_ _ _ (by first | assumption | (simp; done) | (simp; omega) | omega)]; first | assumption | (simp [go_sem]; done) | (simp [go_sem, *]; done)); have z1_w_1 : w.heap.size + 1 < w1_.heap.size := (by have := hb1_.size; first | omega | (simp at this; omega)); have g1_w_1_0 : w1_.cell? ⟨w.heap.size + 1, 0, none⟩ = some (.slice aW nW cW) := (by rw [hc1_ _ _ (by first | assumption | (simp; done) | (simp; omega) | omega)]; first | assumption | (simp [go_sem]; done) | (simp [go_sem, *]; done)); clear hc1_ hf1_; clear hb1_ hp1_)
  (go_wp2_with (fail); refine (HF1.out _ (by (repeat' (first | (with_reducible exact Below.refl _ _) | (with_reducible assumption) | (with_reducible refine Kit.below_drewN ?_ _) | (with_reducible refine Below.drew ?_) | (with_reducible refine Below.alloc ?_ ?_ _) | (with_reducible refine Below.setCell ?_ ?_ _) | (with_reducible exact Nat.le_refl _) | omega | (simp; omega) | (simp; done) | (apply Below.size; assumption))))).mono ?_; rintro e w2_ ⟨rfl, hb2_⟩; have hp2_ : Below w1_.heap.size w1_ w2_ := Below.trans (by (repeat' (first | (with_reducible exact Below.refl _ _) | (with_reducible assumption) | (with_reducible refine Kit.below_drewN ?_ _) | (with_reducible refine Below.drew ?_) | (with_reducible refine Below.alloc ?_ ?_ _) | (with_reducible refine Below.setCell ?_ ?_ _) | (with_reducible exact Nat.le_refl _) | omega | (simp; omega) | (simp; done) | (apply Below.size; assumption)))) (hb2_.mono (by first | assumption | (simp; done) | (simp; omega) | omega)); have hw2_ : Below w.heap.size w w2_ := hw1_.trans (hp2_.mono hw1_.size); have z2_w : w.heap.size < w2_.heap.size := Nat.lt_of_lt_of_le z1_w hp2_.size; have g2_w_0 : w2_.cell? ⟨w.heap.size, 0, none⟩ = some (.int .i64 wd) := (hp2_.cell (p := ⟨w.heap.size, 0, none⟩) z1_w).trans g1_w_0; have g2_w_1 : w2_.cell? ⟨w.heap.size, 1, none⟩ = some (.int .i64 dp) := (hp2_.cell (p := ⟨w.heap.size, 1, none⟩) z1_w).trans g1_w_1; have g2_w_2 : w2_.cell? ⟨w.heap.size, 2, none⟩ = some (.int .i64 ta) := (hp2_.cell (p := ⟨w.heap.size, 2, none⟩) z1_w).trans g1_w_2; have g2_w_3 : w2_.cell? ⟨w.heap.size, 3, none⟩ = some (.int .i64 tb) := (hp2_.cell (p := ⟨w.heap.size, 3, none⟩) z1_w).trans g1_w_3; have g2_w_4 : w2_.cell? ⟨w.heap.size, 4, none⟩ = some (.int .i64 tc) := (hp2_.cell (p := ⟨w.heap.size, 4, none⟩) z1_w).trans g1_w_4; have g2_w_5 : w2_.cell? ⟨w.heap.size, 5, none⟩ = some (.slice aR nR cR) := (hp2_.cell (p := ⟨w.heap.size, 5, none⟩) z1_w).trans g1_w_5; have g2_w_6 : w2_.cell? ⟨w.heap.size, 6, none⟩ = some (.int .i64 n) := (hp2_.cell (p := ⟨w.heap.size, 6, none⟩) z1_w).trans g1_w_6; have g2_w_7 : w2_.cell? ⟨w.heap.size, 7, none⟩ = some (.slice aT nT cT) := (hp2_.cell (p := ⟨w.heap.size, 7, none⟩) z1_w).trans g1_w_7; have g2_w_8 : w2_.cell? ⟨w.heap.size, 8, none⟩ = some (.slice aP nP cP) := (hp2_.cell (p := ⟨w.heap.size, 8, none⟩) z1_w).trans g1_w_8; have g2_w_9 : w2_.cell? ⟨w.heap.size, 9, none⟩ = some (.slice aS nS cS) := (hp2_.cell (p := ⟨w.heap.size, 9, none⟩) z1_w).trans g1_w_9; have g2_w_10 : w2_.cell? ⟨w.heap.size, 10, none⟩ = some (.slice aG nG cG) := (hp2_.cell (p := ⟨w.heap.size, 10, none⟩) z1_w).trans g1_w_10; have z2_w_1 : w.heap.size + 1 < w2_.heap.size := Nat.lt_of_lt_of_le z1_w_1 hp2_.size; have g2_w_1_0 : w2_.cell? ⟨w.heap.size + 1, 0, none⟩ = some (.slice aW nW cW) := (hp2_.cell (p := ⟨w.heap.size + 1, 0, none⟩) z1_w_1).trans g1_w_1_0; clear z1_w g1_w_0 g1_w_1 g1_w_2 g1_w_3 g1_w_4 g1_w_5 g1_w_6 g1_w_7 g1_w_8 g1_w_9 g1_w_10 z1_w_1 g1_w_1_0 hw1_ hb2_ hp2_)
  (go_wp2_with (fail); refine (HF2.out _ (by (repeat' (first | (with_reducible exact Below.refl _ _) | (with_reducible assumption) | (with_reducible refine Kit.below_drewN ?_ _) | (with_reducible refine Below.drew ?_) | (with_reducible refine Below.alloc ?_ ?_ _) | (with_reducible refine Below.setCell ?_ ?_ _) | (with_reducible exact Nat.le_refl _) | omega | (simp; omega) | (simp; done) | (apply Below.size; assumption))))).mono ?_; rintro e w3_ ⟨rfl, hb3_⟩; have hp3_ : Below w2_.heap.size w2_ w3_ := Below.trans (by (repeat' (first | (with_reducible exact Below.refl _ _) | (with_reducible assumption) | (with_reducible refine Kit.below_drewN ?_ _) | (with_reducible refine Below.drew ?_) | (with_reducible refine Below.alloc ?_ ?_ _) | (with_reducible refine Below.setCell ?_ ?_ _) | (with_reducible exact Nat.le_refl _) | omega | (simp; omega) | (simp; done) | (apply Below.size; assumption)))) (hb3_.mono (by first | assumption | (simp; done) | (simp; omega) | omega)); have hw3_ : Below w.heap.size w w3_ := hw2_.trans (hp3_.mono hw2_.size); have z3_w : w.heap.size < w3_.heap.size := Nat.lt_of_lt_of_le z2_w hp3_.size; have g3_w_0 : w3_.cell? ⟨w.heap.size, 0, none⟩ = some (.int .i64 wd) := (hp3_.cell (p := ⟨w.heap.size, 0, none⟩) z2_w).trans g2_w_0; have g3_w_1 : w3_.cell? ⟨w.heap.size, 1, none⟩ = some (.int .i64 dp) := (hp3_.cell (p := ⟨w.heap.size, 1, none⟩) z2_w).trans g2_w_1; have g3_w_2 : w3_.cell? ⟨w.heap.size, 2, none⟩ = some (.int .i64 ta) := (hp3_.cell (p := ⟨w.heap.size, 2, none⟩) z2_w).trans g2_w_2; have g3_w_3 : w3_.cell? ⟨w.heap.size, 3, none⟩ = some (.int .i64 tb) := (hp3_.cell (p := ⟨w.heap.size, 3, none⟩) z2_w).trans g2_w_3; have g3_w_4 : w3_.cell? ⟨w.heap.size, 4, none⟩ = some (.int .i64 tc) := (hp3_.cell (p := ⟨w.heap.size, 4, none⟩) z2_w).trans g2_w_4; have g3_w_5 : w3_.cell? ⟨w.heap.size, 5, none⟩ = some (.slice aR nR cR) := (hp3_.cell (p := ⟨w.heap.size, 5, none⟩) z2_w).trans g2_w_5; have g3_w_6 : w3_.cell? ⟨w.heap.size, 6, none⟩ = some (.int .i64 n) := (hp3_.cell (p := ⟨w.heap.size, 6, none⟩) z2_w).trans g2_w_6; have g3_w_7 : w3_.cell? ⟨w.heap.size, 7, none⟩ = some (.slice aT nT cT) := (hp3_.cell (p := ⟨w.heap.size, 7, none⟩) z2_w).trans g2_w_7; have g3_w_8 : w3_.cell? ⟨w.heap.size, 8, none⟩ = some (.slice aP nP cP) := (hp3_.cell (p := ⟨w.heap.size, 8, none⟩) z2_w).trans g2_w_8; have g3_w_9 : w3_.cell? ⟨w.heap.size, 9, none⟩ = some (.slice aS nS cS) := (hp3_.cell (p := ⟨w.heap.size, 9, none⟩) z2_w).trans g2_w_9; have g3_w_10 : w3_.cell? ⟨w.heap.size, 10, none⟩ = some (.slice aG nG cG) := (hp3_.cell (p := ⟨w.heap.size, 10, none⟩) z2_w).trans g2_w_10; have z3_w_1 : w.heap.size + 1 < w3_.heap.size := Nat.lt_of_lt_of_le z2_w_1 hp3_.size; have g3_w_1_0 : w3_.cell? ⟨w.heap.size + 1, 0, none⟩ = some (.slice aW nW cW) := (hp3_.cell (p := ⟨w.heap.size + 1, 0, none⟩) z2_w_1).trans g2_w_1_0; clear z2_w g2_w_0 g2_w_1 g2_w_2 g2_w_3 g2_w_4 g2_w_5 g2_w_6 g2_w_7 g2_w_8 g2_w_9 g2_w_10 z2_w_1 g2_w_1_0 hw2_ hb3_ hp3_)
  (go_wp2_with (fail); refine (HI1.out _ (by (repeat' (first | (with_reducible exact Below.refl _ _) | (with_reducible assumption) | (with_reducible refine Kit.below_drewN ?_ _) | (with_reducible refine Below.drew ?_) | (with_reducible refine Below.alloc ?_ ?_ _) | (with_reducible refine Below.setCell ?_ ?_ _) | (with_reducible exact Nat.le_refl _) | omega | (simp; omega) | (simp; done) | (apply Below.size; assumption))))).mono ?_; rintro e w4_ ⟨rfl, hb4_⟩; have hp4_ : Below w3_.heap.size w3_ w4_ := Below.trans (by (repeat' (first | (with_reducible exact Below.refl _ _) | (with_reducible assumption) | (with_reducible refine Kit.below_drewN ?_ _) | (with_reducible refine Below.drew ?_) | (with_reducible refine Below.alloc ?_ ?_ _) | (with_reducible refine Below.setCell ?_ ?_ _) | (with_reducible exact Nat.le_refl _) | omega | (simp; omega) | (simp; done) | (apply Below.size; assumption)))) (hb4_.mono (by first | assumption | (simp; done) | (simp; omega) | omega)); have hw4_ : Below w.heap.size w w4_ := hw3_.trans (hp4_.mono hw3_.size); have z4_w : w.heap.size < w4_.heap.size := Nat.lt_of_lt_of_le z3_w hp4_.size; have g4_w_0 : w4_.cell? ⟨w.heap.size, 0, none⟩ = some (.int .i64 wd) := (hp4_.cell (p := ⟨w.heap.size, 0, none⟩) z3_w).trans g3_w_0; have g4_w_1 : w4_.cell? ⟨w.heap.size, 1, none⟩ = some (.int .i64 dp) := (hp4_.cell (p := ⟨w.heap.size, 1, none⟩) z3_w).trans g3_w_1; have g4_w_2 : w4_.cell? ⟨w.heap.size, 2, none⟩ = some (.int .i64 ta) := (hp4_.cell (p := ⟨w.heap.size, 2, none⟩) z3_w).trans g3_w_2; have g4_w_3 : w4_.cell? ⟨w.heap.size, 3, none⟩ = some (.int .i64 tb) := (hp4_.cell (p := ⟨w.heap.size, 3, none⟩) z3_w).trans g3_w_3; have g4_w_4 : w4_.cell? ⟨w.heap.size, 4, none⟩ = some (.int .i64 tc) := (hp4_.cell (p := ⟨w.heap.size, 4, none⟩) z3_w).trans g3_w_4; have g4_w_5 : w4_.cell? ⟨w.heap.size, 5, none⟩ = some (.slice aR nR cR) := (hp4_.cell (p := ⟨w.heap.size, 5, none⟩) z3_w).trans g3_w_5; have g4_w_6 : w4_.cell? ⟨w.heap.size, 6, none⟩ = some (.int .i64 n) := (hp4_.cell (p := ⟨w.heap.size, 6, none⟩) z3_w).trans g3_w_6; have g4_w_7 : w4_.cell? ⟨w.heap.size, 7, none⟩ = some (.slice aT nT cT) := (hp4_.cell (p := ⟨w.heap.size, 7, none⟩) z3_w).trans g3_w_7; have g4_w_8 : w4_.cell? ⟨w.heap.size, 8, none⟩ = some (.slice aP nP cP) := (hp4_.cell (p := ⟨w.heap.size, 8, none⟩) z3_w).trans g3_w_8; have g4_w_9 : w4_.cell? ⟨w.heap.size, 9, none⟩ = some (.slice aS nS cS) := (hp4_.cell (p := ⟨w.heap.size, 9, none⟩) z3_w).trans g3_w_9; have g4_w_10 : w4_.cell? ⟨w.heap.size, 10, none⟩ = some (.slice aG nG cG) := (hp4_.cell (p := ⟨w.heap.size, 10, none⟩) z3_w).trans g3_w_10; have z4_w_1 : w.heap.size + 1 < w4_.heap.size := Nat.lt_of_lt_of_le z3_w_1 hp4_.size; have g4_w_1_0 : w4_.cell? ⟨w.heap.size + 1, 0, none⟩ = some (.slice aW nW cW) := (hp4_.cell (p := ⟨w.heap.size + 1, 0, none⟩) z3_w_1).trans g3_w_1_0; clear z3_w g3_w_0 g3_w_1 g3_w_2 g3_w_3 g3_w_4 g3_w_5 g3_w_6 g3_w_7 g3_w_8 g3_w_9 g3_w_10 z3_w_1 g3_w_1_0 hw3_ hb4_ hp4_)
  (go_wp2_with (fail); refine (HI2.out _ (by (repeat' (first | (with_reducible exact Below.refl _ _) | (with_reducible assumption) | (with_reducible refine Kit.below_drewN ?_ _) | (with_reducible refine Below.drew ?_) | (with_reducible refine Below.alloc ?_ ?_ _) | (with_reducible refine Below.setCell ?_ ?_ _) | (with_reducible exact Nat.le_refl _) | omega | (simp; omega) | (simp; done) | (apply Below.size; assumption))))).mono ?_; rintro e w5_ ⟨rfl, hb5_⟩; have hp5_ : Below w4_.heap.size w4_ w5_ := Below.trans (by (repeat' (first | (with_reducible exact Below.refl _ _) | (with_reducible assumption) | (with_reducible refine Kit.below_drewN ?_ _) | (with_reducible refine Below.drew ?_) | (with_reducible refine Below.alloc ?_ ?_ _) | (with_reducible refine Below.setCell ?_ ?_ _) | (with_reducible exact Nat.le_refl _) | omega | (simp; omega) | (simp; done) | (apply Below.size; assumption)))) (hb5_.mono (by first | assumption | (simp; done) | (simp; omega) | omega)); have hw5_ : Below w.heap.size w w5_ := hw4_.trans (hp5_.mono hw4_.size); have z5_w : w.heap.size < w5_.heap.size := Nat.lt_of_lt_of_le z4_w hp5_.size; have g5_w_0 : w5_.cell? ⟨w.heap.size, 0, none⟩ = some (.int .i64 wd) := (hp5_.cell (p := ⟨w.heap.size, 0, none⟩) z4_w).trans g4_w_0; have g5_w_1 : w5_.cell? ⟨w.heap.size, 1, none⟩ = some (.int .i64 dp) := (hp5_.cell (p := ⟨w.heap.size, 1, none⟩) z4_w).trans g4_w_1; have g5_w_2 : w5_.cell? ⟨w.heap.size, 2, none⟩ = some (.int .i64 ta) := (hp5_.cell (p := ⟨w.heap.size, 2, none⟩) z4_w).trans g4_w_2; have g5_w_3 : w5_.cell? ⟨w.heap.size, 3, none⟩ = some (.int .i64 tb) := (hp5_.cell (p := ⟨w.heap.size, 3, none⟩) z4_w).trans g4_w_3; have g5_w_4 : w5_.cell? ⟨w.heap.size, 4, none⟩ = some (.int .i64 tc) := (hp5_.cell (p := ⟨w.heap.size, 4, none⟩) z4_w).trans g4_w_4; have g5_w_5 : w5_.cell? ⟨w.heap.size, 5, none⟩ = some (.slice aR nR cR) := (hp5_.cell (p := ⟨w.heap.size, 5, none⟩) z4_w).trans g4_w_5; have g5_w_6 : w5_.cell? ⟨w.heap.size, 6, none⟩ = some (.int .i64 n) := (hp5_.cell (p := ⟨w.heap.size, 6, none⟩) z4_w).trans g4_w_6; have g5_w_7 : w5_.cell? ⟨w.heap.size, 7, none⟩ = some (.slice aT nT cT) := (hp5_.cell (p := ⟨w.heap.size, 7, none⟩) z4_w).trans g4_w_7; have g5_w_8 : w5_.cell? ⟨w.heap.size, 8, none⟩ = some (.slice aP nP cP) := (hp5_.cell (p := ⟨w.heap.size, 8, none⟩) z4_w).trans g4_w_8; have g5_w_9 : w5_.cell? ⟨w.heap.size, 9, none⟩ = some (.slice aS nS cS) := (hp5_.cell (p := ⟨w.heap.size, 9, none⟩) z4_w).trans g4_w_9; have g5_w_10 : w5_.cell? ⟨w.heap.size, 10, none⟩ = some (.slice aG nG cG) := (hp5_.cell (p := ⟨w.heap.size, 10, none⟩) z4_w).trans g4_w_10; have z5_w_1 : w.heap.size + 1 < w5_.heap.size := Nat.lt_of_lt_of_le z4_w_1 hp5_.size; have g5_w_1_0 : w5_.cell? ⟨w.heap.size + 1, 0, none⟩ = some (.slice aW nW cW) := (hp5_.cell (p := ⟨w.heap.size + 1, 0, none⟩) z4_w_1).trans g4_w_1_0; clear z4_w g4_w_0 g4_w_1 g4_w_2 g4_w_3 g4_w_4 g4_w_5 g4_w_6 g4_w_7 g4_w_8 g4_w_9 g4_w_10 z4_w_1 g4_w_1_0 hw4_ hb5_ hp5_)
  (go_wp2_with (fail); refine (HC.out _ (by (repeat' (first | (with_reducible exact Below.refl _ _) | (with_reducible assumption) | (with_reducible refine Kit.below_drewN ?_ _) | (with_reducible refine Below.drew ?_) | (with_reducible refine Below.alloc ?_ ?_ _) | (with_reducible refine Below.setCell ?_ ?_ _) | (with_reducible exact Nat.le_refl _) | omega | (simp; omega) | (simp; done) | (apply Below.size; assumption))))).mono ?_; rintro e w6_ ⟨ad, cc, rfl, sl0, hb6_⟩; have hp6_ : Below w5_.heap.size w5_ w6_ := Below.trans (by (repeat' (first | (with_reducible exact Below.refl _ _) | (with_reducible assumption) | (with_reducible refine Kit.below_drewN ?_ _) | (with_reducible refine Below.drew ?_) | (with_reducible refine Below.alloc ?_ ?_ _) | (with_reducible refine Below.setCell ?_ ?_ _) | (with_reducible exact Nat.le_refl _) | omega | (simp; omega) | (simp; done) | (apply Below.size; assumption)))) (hb6_.mono (by first | assumption | (simp; done) | (simp; omega) | omega)); have hw6_ : Below w.heap.size w w6_ := hw5_.trans (hp6_.mono hw5_.size); have z6_w : w.heap.size < w6_.heap.size := Nat.lt_of_lt_of_le z5_w hp6_.size; have g6_w_0 : w6_.cell? ⟨w.heap.size, 0, none⟩ = some (.int .i64 wd) := (hp6_.cell (p := ⟨w.heap.size, 0, none⟩) z5_w).trans g5_w_0; have g6_w_1 : w6_.cell? ⟨w.heap.size, 1, none⟩ = some (.int .i64 dp) := (hp6_.cell (p := ⟨w.heap.size, 1, none⟩) z5_w).trans g5_w_1; have g6_w_2 : w6_.cell? ⟨w.heap.size, 2, none⟩ = some (.int .i64 ta) := (hp6_.cell (p := ⟨w.heap.size, 2, none⟩) z5_w).trans g5_w_2; have g6_w_3 : w6_.cell? ⟨w.heap.size, 3, none⟩ = some (.int .i64 tb) := (hp6_.cell (p := ⟨w.heap.size, 3, none⟩) z5_w).trans g5_w_3; have g6_w_4 : w6_.cell? ⟨w.heap.size, 4, none⟩ = some (.int .i64 tc) := (hp6_.cell (p := ⟨w.heap.size, 4, none⟩) z5_w).trans g5_w_4; have g6_w_5 : w6_.cell? ⟨w.heap.size, 5, none⟩ = some (.slice aR nR cR) := (hp6_.cell (p := ⟨w.heap.size, 5, none⟩) z5_w).trans g5_w_5; have g6_w_6 : w6_.cell? ⟨w.heap.size, 6, none⟩ = some (.int .i64 n) := (hp6_.cell (p := ⟨w.heap.size, 6, none⟩) z5_w).trans g5_w_6; have g6_w_7 : w6_.cell? ⟨w.heap.size, 7, none⟩ = some (.slice aT nT cT) := (hp6_.cell (p := ⟨w.heap.size, 7, none⟩) z5_w).trans g5_w_7; have g6_w_8 : w6_.cell? ⟨w.heap.size, 8, none⟩ = some (.slice aP nP cP) := (hp6_.cell (p := ⟨w.heap.size, 8, none⟩) z5_w).trans g5_w_8; have g6_w_9 : w6_.cell? ⟨w.heap.size, 9, none⟩ = some (.slice aS nS cS) := (hp6_.cell (p := ⟨w.heap.size, 9, none⟩) z5_w).trans g5_w_9; have g6_w_10 : w6_.cell? ⟨w.heap.size, 10, none⟩ = some (.slice aG nG cG) := (hp6_.cell (p := ⟨w.heap.size, 10, none⟩) z5_w).trans g5_w_10; have z6_w_1 : w.heap.size + 1 < w6_.heap.size := Nat.lt_of_lt_of_le z5_w_1 hp6_.size; have g6_w_1_0 : w6_.cell? ⟨w.heap.size + 1, 0, none⟩ = some (.slice aW nW cW) := (hp6_.cell (p := ⟨w.heap.size + 1, 0, none⟩) z5_w_1).trans g5_w_1_0; clear z5_w g5_w_0 g5_w_1 g5_w_2 g5_w_3 g5_w_4 g5_w_5 g5_w_6 g5_w_7 g5_w_8 g5_w_9 g5_w_10 z5_w_1 g5_w_1_0 hw5_ hb6_ hp6_)
  have SL := Lib.hid sl0; clear sl0
  go_upto_if 80 with fail
  go_cut [24] from 79 to 97 (fun s24 wx => s24 = .int .i64 dv ∧ ∃ ad2 c2, Hid (wx.cell? ⟨w6_.heap.size, 0, none⟩ = some (.slice ad2 gf.length c2)) ∧ Hid (Tp.Sl wx ad2 gf.length 8 (Ap.wgc gf)) ∧ Hid (Below w6_.heap.size w6_ wx) ∧ w6_.heap.size < wx.heap.size)
  case first =>
    by_cases hW0 : nW = 0
    · as_aux_lemma =>
      obtain ⟨hgf, hdv⟩ := HG0.out hW0
      have t2 : decide (0 < nW) = false := by simp; omega
      have t2' : decide ((0 : Int) < (nW : Int)) = false := by simp; omega
      (first | rw [t2] | rw [t2'])
      have E0 := Lib.hid (show gf.length = nW by rw [hgf, hW0]; rfl)
      have E1 := Lib.hid (show gf.length = 0 by rw [hgf]; rfl)
      have DV := Lib.hid hdv
      clear HG0 HG1 HD hW0 hgf hdv
      go_wp2_with fail
      go_meet
      case rel => exact ⟨by rw [DV.out], aW, cW, Lib.hid (by rw [E0.out]; simp [go_sem]), Lib.hid (.inl E1.out), Lib.hid (by (repeat' (first | (with_reducible exact Below.refl _ _) | (with_reducible assumption) | (with_reducible refine Kit.below_drewN ?_ _) | (with_reducible refine Below.drew ?_) | (with_reducible refine Below.alloc ?_ ?_ _) | (with_reducible refine Below.setCell ?_ ?_ _) | (with_reducible exact Nat.le_refl _) | omega | (simp; omega) | (simp; done) | (apply Below.size; assumption)))), by simp⟩
    · as_aux_lemma =>
      have hW0 : 0 < nW := by omega
      obtain ⟨hgf, hdv⟩ := HG1.out hW0
      have t1 : ((wo : Int)).tmod (nW : Int) = ((wo % nW : Nat) : Int) := by rw [Int.tmod_eq_emod_of_nonneg (by omega)]; simp
      have hi := Nat.mod_lt wo hW0
      have t2 : decide (0 < nW) = true := by simp; omega
      have t2' : decide ((0 : Int) < (nW : Int)) = true := by simp; omega
      (first | rw [t2] | rw [t2'])
      have t3 : ((nW : Int) == 0) = false := by simp; omega
      generalize wo % nW = dr at *
      have GFE := Lib.hid hgf; have DV := Lib.hid hdv
      clear HG0 HG1 HD hgf hdv t2 t2'
      obtain ⟨aW, rfl, haW, _⟩ := SW.out.at hi
      go_wp2_with fail
      -- the region that drops a wagon
      obtain ⟨i0, hi0, hz0, hz1, hz2⟩ := info_parts Lw.infoW
      have hdc : dr ≤ cW := by omega
      have hwr : IntKind.i64.wrap ((dr : Int) + 1) = (dr : Int) + 1 := by rw [IntKind.wrap_i64]; omega
      have hp0 : (0 : Int) ≤ (dr : Int) + 1 := by omega
      have hp1 : (dr : Int) + 1 ≤ (nW : Int) := by omega
      have hp2 : ((dr : Int) + 1).toNat = dr + 1 := by omega
      have S6 := SW.out.kept hw6_ (Nat.le_refl _)
      rw [← hgs] at S6
      obtain ⟨W1, hW1e⟩ : ∃ W1, W1 = ((w6_.alloc (Obj.cells #[Value.slice (some aW) nW cW] 47)).alloc (Obj.cells #[] 27)).drew := ⟨_, rfl⟩
      have h61 : Below w6_.heap.size w6_ W1 := by rw [hW1e]; (repeat' (first | (with_reducible exact Below.refl _ _) | (with_reducible assumption) | (with_reducible refine Kit.below_drewN ?_ _) | (with_reducible refine Below.drew ?_) | (with_reducible refine Below.alloc ?_ ?_ _) | (with_reducible refine Below.setCell ?_ ?_ _) | (with_reducible exact Nat.le_refl _) | omega | (simp; omega) | (simp; done) | (apply Below.size; assumption)))
      have s1 : W1.heap.size = w6_.heap.size + 2 := by rw [hW1e]; simp
      have own0 : W1.ownsRow (w6_.heap.size + 1) 27 8 (.slice (some ⟨w6_.heap.size + 1, 0, none⟩) 0 0) 0 [] := Lw.own_empty (by rw [hW1e]; exact Lw.new_block (by simp))
      have box0 : W1.heap[w6_.heap.size]? = some (.cells #[Value.slice (some aW) nW cW] 47 (0, 0)) := by
        rw [hW1e]
        exact (Below.heap_alloc _ _ _ (by simp)).trans (Lw.new_block rfl)
      have S1 := S6.kept h61 (Nat.le_refl _)
      have HN1 := Lib.hid (Lw.sl_news S1 0 dr (by omega))
      have hall : W1.cell? ⟨w.heap.size + 1, 0, none⟩ = some (.slice (some aW) nW cW) := (h61.cell (p := ⟨w.heap.size + 1, 0, none⟩) z6_w_1).trans g6_w_1_0
      obtain ⟨A2, hA2, HN2⟩ : ∃ A : Addr, (if cW = dr + 1 then some aW else some (aW.add ((dr + 1) * 8))) = some A ∧ Hid (∀ j u, (Lw.wfl ((gs.drop (dr + 1)).take (nW - (dr + 1))))[j]? = some u → W1.cell? (A.add j) = some u ∧ (A.add j).block < w6_.heap.size) := by
        have hab : aW.block < w6_.heap.size := Nat.lt_of_lt_of_le haW hw6_.size
        by_cases h : cW = dr + 1
        · refine ⟨aW, by simp [h], fun j u hu => ?_⟩
          have h0 : (Lw.wfl ((gs.drop (dr + 1)).take (nW - (dr + 1)))).length = 0 := by rw [Lw.wfl_len]; simp; omega
          rw [List.length_eq_zero_iff.1 h0] at hu
          simp at hu
        · refine ⟨aW.add ((dr + 1) * 8), by simp [h], fun j u hu => ?_⟩
          rw [Lw.add_add]
          exact ⟨Lw.sl_news S1 (dr + 1) (nW - (dr + 1)) (by omega) j u hu, by rw [Tp.add_block]; exact hab⟩
      have LEN1 := Lib.hid (show (Lw.wfl ((gs.drop 0).take dr)).length = dr * 8 by rw [Lw.wfl_len]; simp; omega)
      have LEN2 := Lib.hid (show (Lw.wfl ((gs.drop (dr + 1)).take (nW - (dr + 1)))).length = (nW - (dr + 1)) * 8 by rw [Lw.wfl_len]; simp; omega)
      have LENF := Lib.hid (show ((gs.drop 0).take dr ++ (gs.drop (dr + 1)).take (nW - (dr + 1))).length = dr + (nW - (dr + 1)) by simp; omega)
      have HWE := Lib.hid hW1e; clear hW1e
      have OWN0 := Lib.hid own0; clear own0
      have BOX0 := Lib.hid box0; clear box0
      have HALL := Lib.hid hall; clear hall
      have H61 := Lib.hid h61; clear h61
      have S1S := Lib.hid s1; clear s1 S6 S1
      have hlen : dr + (nW - (dr + 1)) = nW - 1 := by omega
      go_region_law (first
        | (refine Kit.step_append_sl _ rfl (.tmp 85) (.tmp 89) 45 rfl (w6_.heap.size + 1) 27 i0 _ 8 64 Lw.underW hi0 hz0 hz1 hz2 rfl (by decide) (.slice (some ⟨w6_.heap.size + 1, 0, none⟩) 0 0) 0 [] (by simp [Act.eval, Act.put]) (by rw [← HWE.out]; exact OWN0.out) (some aW) dr cW (Lw.wfl ((gs.drop 0).take dr)) (by simp [Act.eval, Act.put]) LEN1.out (fun a e j u hu => by cases e; rw [← HWE.out]; have := HN1.out j u hu; simpa using this) (fun h => by cases h) (Lw.one_wfl _) (by unfold maxLen; omega) (by omega) (by simp) ?_
           intro v1 x1 o1 g1 k1
           rw [← HWE.out] at g1 k1
           simp only [Nat.zero_add, List.nil_append] at o1
           have O1 := Lib.hid o1
           have G1 := Lib.hid g1
           have K1 := Lib.hid k1
           have q0 : x1.cell? ⟨w.heap.size + 1, 0, none⟩ = some (.slice (some aW) nW cW) := (g1.cell_far ⟨w.heap.size + 1, 0, none⟩ (by rw [S1S.out]; simp; omega) (by simp [Value.ownBlock]; omega)).trans HALL.out
           clear o1 g1 k1)
        | (refine Kit.step_append_sl _ rfl (.tmp 90) (.tmp 95) 45 rfl (w6_.heap.size + 1) 27 i0 _ 8 64 Lw.underW hi0 hz0 hz1 hz2 rfl (by decide) v1 dr (Lw.wfl ((gs.drop 0).take dr)) (by simp [Act.eval, Act.put]) O1.out (some A2) (nW - (dr + 1)) (cW - (dr + 1)) (Lw.wfl ((gs.drop (dr + 1)).take (nW - (dr + 1)))) (by simp [Act.eval, Act.put, *]) LEN2.out (fun a e j u hu => by cases e; exact (G1.out.cell_far _ (by rw [S1S.out]; have := (HN2.out j u hu).2; omega) (by simp [Value.ownBlock]; have := (HN2.out j u hu).2; omega)).trans (HN2.out j u hu).1) (fun h => by cases h) (Lw.one_wfl _) (by unfold maxLen; omega) (by omega) (by have := G1.out.size; rw [S1S.out] at this; omega) ?_
           intro v2 x2 o2 g2 k2
           rw [Lw.wfl_app] at o2
           obtain ⟨ad2, c2, rfl, _, _⟩ := Ap.own_sl (f := Ap.wgc ((gs.drop 0).take dr ++ (gs.drop (dr + 1)).take (nW - (dr + 1)))) o2 (fun i j hi hj => Lw.wfl_at _ i j (by rw [LENF.out]; exact hi) hj)
           have b2 : x2.heap[w6_.heap.size]? = some (.cells #[Value.slice (some aW) nW cW] 47 (0, 0)) := by
             have hz : w6_.heap.size < W1.heap.size := by rw [S1S.out]; omega
             rw [g2.block w6_.heap.size (Nat.lt_of_lt_of_le hz G1.out.size) (fun h => by rcases K1.out _ h.symm with h3 | h3 <;> first | omega | (simp [Value.ownBlock] at h3; done) | (simp [Value.ownBlock] at h3; omega)), G1.out.block w6_.heap.size hz (by simp [Value.ownBlock]), BOX0.out]
           have b3 : x2.cell? ⟨w6_.heap.size, 0, none⟩ = some (Value.slice (some aW) nW cW) := by simp [World.cell?, b2]
           have b4 : x2.frozen? ⟨w6_.heap.size, 0, none⟩ = false := by simp [World.frozen?, b2]
           have O2 := Lib.hid o2
           have G2 := Lib.hid g2
           have K2 := Lib.hid k2
           have B2 := Lib.hid b2
           clear o2 g2 k2 b2))
      all_goals go_wp2_with fail
      all_goals go_meet
      all_goals
        (have hEnd := Lw.drop_end (by simpa only [hlen] using LENF.out) H61.out S1S.out G1.out (by simpa only [Value.ownBlock] using K1.out) G2.out (by simpa only [hlen] using O2.out) b3
         exact ⟨by rw [DV.out], ad2, c2, by rw [GFE.out]; simpa only [LENF.out, hlen] using hEnd⟩)
  case rest =>
    obtain ⟨rfl, ad2, c2, FH, FS, FB, fz⟩ := hcut
    obtain ⟨W2, rfl⟩ : ∃ W2, W2 = wc := ⟨_, rfl⟩
    clear HG0 HG1
    have y0 : ∀ j v, w6_.cell? ⟨w.heap.size, j, none⟩ = some v → W2.cell? ⟨w.heap.size, j, none⟩ = some v := fun j v h => (FB.out.cell (p := ⟨w.heap.size, j, none⟩) z6_w).trans h
    have hB2 : Below w.heap.size w W2 := hw6_.trans (FB.out.mono hw6_.size)
    obtain ⟨i1, hi1, hy0, hy1, hy2⟩ := info_parts Ap.info75
    obtain ⟨W3, hW3e⟩ : ∃ W3, W3 = (W2.alloc (Obj.cells #[] 75)).drew := ⟨_, rfl⟩
    have own0 : W3.ownsRow W2.heap.size 75 2 (.slice (some ⟨W2.heap.size, 0, none⟩) 0 0) 0 [] := Lw.own_empty (by rw [hW3e]; exact Lw.new_block rfl)
    have HWE := Lib.hid hW3e; clear hW3e
    have OWN0 := Lib.hid own0; clear own0
    have Z6 := Lib.hid z6_w
    have ZW := Lib.hid (show w.heap.size < W2.heap.size from Nat.lt_of_lt_of_le z6_w FB.out.size)
    have ZF := Lib.hid fz
    have Y0 := Lib.hid (y0 0 _ g6_w_0)
    have Y1 := Lib.hid (y0 1 _ g6_w_1)
    have Y2 := Lib.hid (y0 2 _ g6_w_2)
    have Y3 := Lib.hid (y0 3 _ g6_w_3)
    have Y4 := Lib.hid (y0 4 _ g6_w_4)
    have Y5 := Lib.hid (y0 5 _ g6_w_5)
    have Y6 := Lib.hid (y0 6 _ g6_w_6)
    have Y7 := Lib.hid (y0 7 _ g6_w_7)
    have Y8 := Lib.hid (y0 8 _ g6_w_8)
    have Y9 := Lib.hid (y0 9 _ g6_w_9)
    have Y10 := Lib.hid (y0 10 _ g6_w_10)
    have b23 : Below W2.heap.size W2 W3 := by rw [HWE.out]; (repeat' (first | (with_reducible exact Below.refl _ _) | (with_reducible assumption) | (with_reducible refine Kit.below_drewN ?_ _) | (with_reducible refine Below.drew ?_) | (with_reducible refine Below.alloc ?_ ?_ _) | (with_reducible refine Below.setCell ?_ ?_ _) | (with_reducible exact Nat.le_refl _) | omega | (simp; omega) | (simp; done) | (apply Below.size; assumption)))
    have B23 := Lib.hid b23; clear b23
    have NO := Lib.hid (Lw.sl_lt (SO.out.kept hB2 (Nat.le_refl _)))
    have NQ := Lib.hid (Lw.sl_lt (SQ.out.kept hB2 (Nat.le_refl _)))
    have OZ := Lib.hid (Lw.sl_nil SO.out)
    have QZ := Lib.hid (Lw.sl_nil SQ.out)
    have HB2 := Lib.hid hB2
    have Z3 := Lib.hid (show W2.heap.size < W3.heap.size by rw [HWE.out]; simp)
    clear y0 hB2
    go_upto_region 13 with fail
    go_cut [24, 26, 27] from 98 to 113 (fun s24 s26 s27 wx => s24 = .int .i64 dv ∧ ∃ f : Int, s27 = .int .i64 f ∧ Hid ((s26 = .slice none 0 0 ∧ f = 290) ∨ (f = 0 ∧ ∃ ad c, s26 = .slice ad M.length c ∧ Tp.Sl wx ad M.length 3 (Ap.c3c M))) ∧ Hid (Below w6_.heap.size w6_ wx))
    case first =>
      as_aux_lemma =>
      have SOF := Lib.hid (show ∀ w', Below W2.heap.size W2 w' → w'.cell? ⟨w.heap.size, 0, none⟩ = some (.int .i64 wd) ∧ w'.cell? ⟨w.heap.size, 1, none⟩ = some (.int .i64 dp) ∧ w'.cell? ⟨w.heap.size, 2, none⟩ = some (.int .i64 ta) ∧ w'.cell? ⟨w.heap.size, 3, none⟩ = some (.int .i64 tb) ∧ w'.cell? ⟨w.heap.size, 4, none⟩ = some (.int .i64 tc) ∧ w'.cell? ⟨w.heap.size, 5, none⟩ = some (.slice aR nR cR) ∧ w'.cell? ⟨w.heap.size, 6, none⟩ = some (.int .i64 n) ∧ w'.cell? ⟨w.heap.size, 7, none⟩ = some (.slice aT nT cT) ∧ w'.cell? ⟨w.heap.size, 8, none⟩ = some (.slice aP nP cP) ∧ w'.cell? ⟨w.heap.size, 9, none⟩ = some (.slice aS nS cS) ∧ w'.cell? ⟨w.heap.size, 10, none⟩ = some (.slice aG nG cG) ∧ w'.cell? ⟨w6_.heap.size, 0, none⟩ = some (.slice ad2 gf.length c2) from fun w' h => ⟨(h.cell (p := ⟨w.heap.size, 0, none⟩) ZW.out).trans Y0.out, (h.cell (p := ⟨w.heap.size, 1, none⟩) ZW.out).trans Y1.out, (h.cell (p := ⟨w.heap.size, 2, none⟩) ZW.out).trans Y2.out, (h.cell (p := ⟨w.heap.size, 3, none⟩) ZW.out).trans Y3.out, (h.cell (p := ⟨w.heap.size, 4, none⟩) ZW.out).trans Y4.out, (h.cell (p := ⟨w.heap.size, 5, none⟩) ZW.out).trans Y5.out, (h.cell (p := ⟨w.heap.size, 6, none⟩) ZW.out).trans Y6.out, (h.cell (p := ⟨w.heap.size, 7, none⟩) ZW.out).trans Y7.out, (h.cell (p := ⟨w.heap.size, 8, none⟩) ZW.out).trans Y8.out, (h.cell (p := ⟨w.heap.size, 9, none⟩) ZW.out).trans Y9.out, (h.cell (p := ⟨w.heap.size, 10, none⟩) ZW.out).trans Y10.out, (h.cell (p := ⟨w6_.heap.size, 0, none⟩) ZF.out).trans FH.out⟩)
      go_region_held_law (fun w' => w'.cell? ⟨w.heap.size, 0, none⟩ = some (.int .i64 wd) ∧ w'.cell? ⟨w.heap.size, 1, none⟩ = some (.int .i64 dp) ∧ w'.cell? ⟨w.heap.size, 2, none⟩ = some (.int .i64 ta) ∧ w'.cell? ⟨w.heap.size, 3, none⟩ = some (.int .i64 tb) ∧ w'.cell? ⟨w.heap.size, 4, none⟩ = some (.int .i64 tc) ∧ w'.cell? ⟨w.heap.size, 5, none⟩ = some (.slice aR nR cR) ∧ w'.cell? ⟨w.heap.size, 6, none⟩ = some (.int .i64 n) ∧ w'.cell? ⟨w.heap.size, 7, none⟩ = some (.slice aT nT cT) ∧ w'.cell? ⟨w.heap.size, 8, none⟩ = some (.slice aP nP cP) ∧ w'.cell? ⟨w.heap.size, 9, none⟩ = some (.slice aS nS cS) ∧ w'.cell? ⟨w.heap.size, 10, none⟩ = some (.slice aG nG cG) ∧ w'.cell? ⟨w6_.heap.size, 0, none⟩ = some (.slice ad2 gf.length c2))
       (first | exact SOF.out _ (Below.refl _ _) | exact SOF.out _ G1x.out | exact SOF.out _ G2x.out | exact SOF.out _ G3x.out | exact SOF.out _ (G3x.out.trans (HBZ.out.mono G3x.out.size)) | exact SOF.out _ (by (repeat' (first | (with_reducible exact Below.refl _ _) | (with_reducible assumption) | (with_reducible refine Kit.below_drewN ?_ _) | (with_reducible refine Below.drew ?_) | (with_reducible refine Below.alloc ?_ ?_ _) | (with_reducible refine Below.setCell ?_ ?_ _) | (with_reducible exact Nat.le_refl _) | omega | (simp; omega) | (simp; done) | (apply Below.size; assumption)))))
       (first
        | (refine Kit.step_append_sl _ rfl (.tmp 104) (.tmp 105) 48 rfl W2.heap.size 75 i1 _ 2 16 Ap.under48 hi1 hy0 hy1 hy2 rfl (by decide) (.slice (some ⟨W2.heap.size, 0, none⟩) 0 0) 0 [] (by simp [Act.eval, Act.put]) (by rw [← HWE.out]; exact OWN0.out) aO PO.length cO (Ap.fl2 PO) (by simp [Act.eval, Act.put]) (Lw.fl2_len PO) (fun a e j u hu => by rw [← HWE.out]; exact (B23.out.cell ((NO.out a e j u hu).2)).trans (NO.out a e j u hu).1) (fun h => OZ.out h) (Lw.one_fl2 _) (by unfold maxLen; omega) (by omega) (by simp) ?_
           intro v1 x1 o1 g1 k1
           rw [← HWE.out] at g1 k1
           simp only [Nat.zero_add, List.nil_append] at o1
           have b1 := Lw.below_grown B23.out g1 (fun k hk => by simp [Value.ownBlock] at hk; omega) (Nat.le_of_lt Z3.out)
           have j1 : ∀ k, v1.ownBlock = some k → W2.heap.size ≤ k := fun k hk => by rcases k1 k hk with h | h <;> first | (simp [Value.ownBlock] at h; omega) | (have := Z3.out; omega)
           have O1 := Lib.hid o1; have G1x := Lib.hid b1; have J1 := Lib.hid j1
           clear o1 g1 k1 b1 j1)
        | (refine Kit.step_append_sl _ rfl (.tmp 106) (.tmp 107) 48 rfl W2.heap.size 75 i1 _ 2 16 Ap.under48 hi1 hy0 hy1 hy2 rfl (by decide) v1 PO.length (Ap.fl2 PO) (by simp [Act.eval, Act.put]) O1.out aQ PQ.length cQ (Ap.fl2 PQ) (by simp [Act.eval, Act.put]) (Lw.fl2_len PQ) (fun a e j u hu => (G1x.out.cell ((NQ.out a e j u hu).2)).trans (NQ.out a e j u hu).1) (fun h => QZ.out h) (Lw.one_fl2 _) (by unfold maxLen; omega) (by omega) G1x.out.size ?_
           intro v2 x2 o2 g2 k2
           have b2 := Lw.below_grown G1x.out g2 J1.out G1x.out.size
           have j2 : ∀ k, v2.ownBlock = some k → W2.heap.size ≤ k := fun k hk => by rcases k2 k hk with h | h <;> first | exact J1.out k h | exact Nat.le_trans G1x.out.size h
           have O2 := Lib.hid o2; have G2x := Lib.hid b2; have J2 := Lib.hid j2
           clear o2 g2 k2 b2 j2)
        | (refine Kit.step_append_sl _ rfl (.tmp 108) (.tmp 109) 48 rfl W2.heap.size 75 i1 _ 2 16 Ap.under48 hi1 hy0 hy1 hy2 rfl (by decide) v2 (PO.length + PQ.length) (Ap.fl2 PO ++ Ap.fl2 PQ) (by simp [Act.eval, Act.put]) O2.out aO PO.length cO (Ap.fl2 PO) (by simp [Act.eval, Act.put]) (Lw.fl2_len PO) (fun a e j u hu => (G2x.out.cell ((NO.out a e j u hu).2)).trans (NO.out a e j u hu).1) (fun h => OZ.out h) (Lw.one_fl2 _) (by unfold maxLen; omega) (by omega) G2x.out.size ?_
           intro v3 x3 o3 g3 k3
           have b3 := Lw.below_grown G2x.out g3 J2.out G2x.out.size
           rw [Lw.fl2_app, Lw.fl2_app] at o3
           obtain ⟨ad3, c3, rfl, s3, _⟩ := Ap.own_sl (f := Ap.prc (PO ++ PQ ++ PO)) o3 (fun i j hi hj => Lw.prc_at _ i j (by simp; omega) hj)
           have S3 := Lib.hid s3; have G3x := Lib.hid b3
           clear o3 g3 k3 b3 s3)
        | (go_simp; go_at_call 21; refine (HD.out ad2 c2 ad3 c3 _ (HB2.out.trans (G3x.out.mono HB2.out.size)) (FS.out.kept G3x.out (Nat.le_refl _)) S3.out).mono ?_; rintro e wz ⟨vz, fe, rfl, hor, hbz⟩; have HOR := Lib.hid hor; have HBZ := Lib.hid hbz; clear hor hbz))
      all_goals go_wp2_with fail
      all_goals go_meet
      all_goals exact ⟨rfl, fe, rfl, HOR, Lib.hid (FB.out.trans ((G3x.out.trans (HBZ.out.mono G3x.out.size)).mono FB.out.size))⟩
    case rest =>
      obtain ⟨rfl, f, rfl, HOR, HB3⟩ := hcut
      have HW6 := Lib.hid hw6_
      clear HD FH FS FB fz hw6_ NO NQ OZ QZ HB2 Z3 B23 HWE OWN0 hy0 hy1 hy2 hi1 i1
      rcases HOR.out with ⟨rfl, rfl⟩ | ⟨rfl, ad4, c4, rfl, sm⟩
      · as_aux_lemma =>
        clear HOR
        go_wp2
        go_ret
        exact ⟨rfl, HW6.out.trans (HB3.out.mono HW6.out.size)⟩
      · as_aux_lemma =>
        have SM := Lib.hid sm; clear sm HOR
        have SL4 := Lib.hid (SL.out.kept HB3.out (Nat.le_refl _)); clear SL
        obtain ⟨W4, rfl⟩ : ∃ W4, W4 = wc := ⟨_, rfl⟩
        have HB4 := Lib.hid (HW6.out.trans (HB3.out.mono HW6.out.size)); clear HB3 HW6
        go_wp2
        go_loopw [120] (fun v120 wr => ∃ k : Nat, v120 = .int .i64 k ∧ k ≤ M.length ∧ Hid (Below W4.heap.size W4 wr)) (fun v120 _ => M.length - (intOf v120).toNat)
        case atStart => exact ⟨0, rfl, by omega, Lib.hid (Below.refl _ _)⟩
        case round =>
          obtain ⟨k, rfl, hk, HB⟩ := hrel
          have hwr := HB.out
          have zwr : W4.heap.size ≤ wr.heap.size := hwr.size
          by_cases hlt : k < M.length
          · obtain ⟨am, rfl, ham, _⟩ := SM.out.at hlt
            have hbk : (am.add (k * 3)).block < wr.heap.size := by rw [Tp.add_block]; omega
            have HSl := SM.out.kept HB.out (Nat.le_refl _)
            have e0 := HSl.head hlt (by omega)
            have e1 := HSl.field hlt (j := 1) (by omega) (by omega)
            have e2 := HSl.field hlt (j := 2) (by omega) (by omega)
            have hbd := HBD.out k hlt
            have hmm := HMM.out k hlt
            simp only [Ap.c3c] at e0 e1 e2
            clear HSl
            generalize M.getD k (0, 0, 0) = c at e0 e1 e2 hbd hmm
            obtain ⟨q1, q2, q3⟩ := c
            simp only at e0 e1 e2 hbd
            have HM := Lib.hid hmm; clear hmm
            obtain ⟨r3, hr3⟩ : ∃ r3 : Int, r3 = (Lw.adj dv (q1, q2, q3)).2.2 := ⟨_, rfl⟩
            have hadj : Lw.adj dv (q1, q2, q3) = (q1, q2, r3) := by rw [hr3]; exact Lw.adj_eq _ _ _ _
            rw [hadj] at HM
            have HR := Lib.hid hr3; clear hr3 hadj
            go_upto_region 19 with fail
            go_cut [120, 132] from 121 to 132 (fun s120 s132 wx => s120 = .int .i64 k ∧ s132 = .bool (decide (q1 = 5 ∧ dv ≤ q3)) ∧ wx = wr.alloc (.cells #[.int .i64 q1, .int .i64 q2, .int .i64 q3] 73))
            case first =>
              by_cases a1 : q1 = 5
              · have b1 : (q1 == 5) = true := by simpa using a1
                by_cases a2 : dv ≤ q3
                · have b2 : decide (dv ≤ q3) = true := decide_eq_true a2
                  have b3 := Lib.hid (decide_eq_true (p := q1 = 5 ∧ dv ≤ q3) ⟨a1, a2⟩)
                  clear a1 a2
                  go_wp2_with fail
                  go_meet
                  case rel => exact ⟨rfl, by rw [b3.out], rfl⟩
                · have b2 : decide (dv ≤ q3) = false := decide_eq_false a2
                  have b3 := Lib.hid (decide_eq_false (p := q1 = 5 ∧ dv ≤ q3) (fun h => a2 h.2))
                  clear a1 a2
                  go_wp2_with fail
                  go_meet
                  case rel => exact ⟨rfl, by rw [b3.out], rfl⟩
              · have b1 : (q1 == 5) = false := by simpa using a1
                have b3 := Lib.hid (decide_eq_false (p := q1 = 5 ∧ dv ≤ q3) (fun h => a1 h.1))
                clear a1
                go_wp2_with fail
                go_meet
                case rel => exact ⟨rfl, by rw [b3.out], rfl⟩
            case rest =>
              obtain ⟨rfl, rfl, rfl⟩ := hcut
              go_upto_if 132 with fail
              go_cut [120] from 132 to 136 (fun s120 wx => s120 = .int .i64 k ∧ Hid (Below W4.heap.size W4 wx) ∧ wr.heap.size < wx.heap.size ∧ wx.cell? ⟨wr.heap.size, 0, none⟩ = some (.int .i64 q1) ∧ wx.cell? ⟨wr.heap.size, 1, none⟩ = some (.int .i64 q2) ∧ wx.cell? ⟨wr.heap.size, 2, none⟩ = some (.int .i64 r3))
              case first =>
                by_cases a1 : q1 = 5 ∧ dv ≤ q3
                · have hr : r3 = q3 + 1 := by rw [HR.out]; unfold Lw.adj; rw [if_pos a1]
                  rw [decide_eq_true a1]
                  clear HR a1
                  go_wp2_with fail
                  go_meet
                  case rel => exact ⟨rfl, Lib.hid (by (repeat' (first | (with_reducible exact Below.refl _ _) | (with_reducible assumption) | (with_reducible refine Kit.below_drewN ?_ _) | (with_reducible refine Below.drew ?_) | (with_reducible refine Below.alloc ?_ ?_ _) | (with_reducible refine Below.setCell ?_ ?_ _) | (with_reducible exact Nat.le_refl _) | omega | (simp; omega) | (simp; done) | (apply Below.size; assumption)))), by simp, by simp [go_sem, Kit.cell_set], by simp [go_sem, Kit.cell_set], by rw [hr]; simp [go_sem, Kit.cell_set]⟩
                · have hr : r3 = q3 := by rw [HR.out]; unfold Lw.adj; rw [if_neg a1]
                  rw [decide_eq_false a1]
                  clear HR a1
                  go_wp2_with fail
                  go_meet
                  case rel => exact ⟨rfl, Lib.hid (by (repeat' (first | (with_reducible exact Below.refl _ _) | (with_reducible assumption) | (with_reducible refine Kit.below_drewN ?_ _) | (with_reducible refine Below.drew ?_) | (with_reducible refine Below.alloc ?_ ?_ _) | (with_reducible refine Below.setCell ?_ ?_ _) | (with_reducible exact Nat.le_refl _) | omega | (simp; omega) | (simp; done) | (apply Below.size; assumption)))), by simp, by simp [go_sem], by simp [go_sem], by rw [hr]; simp [go_sem]⟩
              case rest =>
                obtain ⟨rfl, HB5, z5, f0, f1, f2⟩ := hcut
                obtain ⟨W5, rfl⟩ : ∃ W5, W5 = wc := ⟨_, rfl⟩
                obtain ⟨wR, rfl⟩ : ∃ wR, wR = wr := ⟨_, rfl⟩
                have SL5 := Lib.hid (SL4.out.kept HB5.out (Nat.le_refl _))
                have F0 := Lib.hid f0; have F1 := Lib.hid f1; have F2 := Lib.hid f2
                clear f0 f1 f2 HR hwr HB e0 e1 e2 hbk hbd
                go_wp2
                go_loopw [30, 139] (fun v30 v139 wq => ∃ j : Nat, v139 = .int .i64 j ∧ j ≤ L.length ∧ (∃ b : Bool, v30 = .bool b ∧ Hid (b = decide ((q1, q2, r3) ∈ L.take j))) ∧ Hid (Below W5.heap.size W5 wq)) (fun _ v139 _ => L.length - (intOf v139).toNat)
                case atStart => exact ⟨0, rfl, by omega, ⟨false, rfl, Lib.hid (by simp)⟩, Lib.hid (Below.refl _ _)⟩
                case round =>
                  obtain ⟨j, rfl, hj, ⟨b, rfl, HBB⟩, HBq⟩ := hrel
                  by_cases hlj : j < L.length
                  · obtain ⟨al, rfl, hal, _⟩ := SL5.out.at hlj
                    have HSl := SL5.out.kept HBq.out (Nat.le_refl _)
                    have i0 := HSl.head hlj (by omega)
                    have i1 := HSl.field hlj (j := 1) (by omega) (by omega)
                    have i2 := HSl.field hlj (j := 2) (by omega) (by omega)
                    simp only [Ap.c3c] at i0 i1 i2
                    have htk : decide ((q1, q2, r3) ∈ L.take (j + 1)) = (decide ((q1, q2, r3) ∈ L.take j) || decide ((q1, q2, r3) = L.getD j (0, 0, 0))) := by
                      rw [List.take_succ_eq_append_getElem hlj, Bool.eq_iff_iff, decide_eq_true_iff, List.mem_append, List.mem_singleton, Bool.or_eq_true, decide_eq_true_iff, decide_eq_true_iff]
                      simp only [List.getD_eq_getElem?_getD, List.getElem?_eq_getElem hlj, Option.getD_some]
                    have HTK := Lib.hid htk; clear htk HSl
                    generalize L.getD j (0, 0, 0) = d at i0 i1 i2 HTK
                    obtain ⟨d1, d2, d3⟩ := d
                    simp only at i0 i1 i2
                    have hq5 := HBq.out
                    have zq5 : W5.heap.size ≤ wr.heap.size := hq5.size
                    have zRr : wR.heap.size < wr.heap.size := Nat.lt_of_lt_of_le z5 zq5
                    have f0 := (hq5.cell (p := ⟨wR.heap.size, 0, none⟩) z5).trans F0.out
                    have f1 := (hq5.cell (p := ⟨wR.heap.size, 1, none⟩) z5).trans F1.out
                    have f2 := (hq5.cell (p := ⟨wR.heap.size, 2, none⟩) z5).trans F2.out
                    have hbl : (al.add (j * 3)).block < wr.heap.size := by rw [Tp.add_block]; omega
                    cases b
                    · by_cases heq : (q1, q2, r3) = (d1, d2, d3)
                      · simp only [Prod.mk.injEq] at heq
                        obtain ⟨rfl, rfl, rfl⟩ := heq
                        have HN := Lib.hid (show true = decide ((q1, q2, r3) ∈ L.take (j + 1)) by rw [HTK.out]; simp)
                        clear HTK HBB
                        go_wp2
                        go_roundw
                        case rel => first | exact ⟨j + 1, by go_num, by omega, ⟨true, rfl, HN⟩, Lib.hid (by (repeat' (first | (with_reducible exact Below.refl _ _) | (with_reducible assumption) | (with_reducible refine Kit.below_drewN ?_ _) | (with_reducible refine Below.drew ?_) | (with_reducible refine Below.alloc ?_ ?_ _) | (with_reducible refine Below.setCell ?_ ?_ _) | (with_reducible exact Nat.le_refl _) | omega | (simp; omega) | (simp; done) | (apply Below.size; assumption))))⟩ | ((repeat apply Exists.intro); exact ⟨⟨j + 1, by go_num, by omega, ⟨true, rfl, HN⟩, Lib.hid (by (repeat' (first | (with_reducible exact Below.refl _ _) | (with_reducible assumption) | (with_reducible refine Kit.below_drewN ?_ _) | (with_reducible refine Below.drew ?_) | (with_reducible refine Below.alloc ?_ ?_ _) | (with_reducible refine Below.setCell ?_ ?_ _) | (with_reducible exact Nat.le_refl _) | omega | (simp; omega) | (simp; done) | (apply Below.size; assumption))))⟩, rfl⟩)
                        case measure => simp [intOf]; omega
                      · have HN := Lib.hid (show false = decide ((q1, q2, r3) ∈ L.take (j + 1)) by rw [HTK.out, ← HBB.out]; simp [heq])
                        have hcmp : (q1 == d1 && (q2 == d2 && r3 == d3)) = false := by
                          rcases hh : (q1 == d1 && (q2 == d2 && r3 == d3)) with _ | _
                          · rfl
                          · exact absurd (by simpa using hh) heq
                        clear HTK HBB heq
                        go_wp2
                        all_goals first
                          | (exfalso; revert hcmp; simp [*]; done)
                          | exact ⟨⟨j + 1, by go_num, by omega, ⟨false, rfl, HN⟩, Lib.hid (by (repeat' (first | (with_reducible exact Below.refl _ _) | (with_reducible assumption) | (with_reducible refine Kit.below_drewN ?_ _) | (with_reducible refine Below.drew ?_) | (with_reducible refine Below.alloc ?_ ?_ _) | (with_reducible refine Below.setCell ?_ ?_ _) | (with_reducible exact Nat.le_refl _) | omega | (simp; omega) | (simp; done) | (apply Below.size; assumption))))⟩, by simp [intOf]; omega⟩
                    · have HN := Lib.hid (show true = decide ((q1, q2, r3) ∈ L.take (j + 1)) by rw [HTK.out, ← HBB.out]; rfl)
                      clear HTK HBB
                      go_wp2
                      go_roundw
                      case rel => first | exact ⟨j + 1, by go_num, by omega, ⟨true, rfl, HN⟩, Lib.hid (by (repeat' (first | (with_reducible exact Below.refl _ _) | (with_reducible assumption) | (with_reducible refine Kit.below_drewN ?_ _) | (with_reducible refine Below.drew ?_) | (with_reducible refine Below.alloc ?_ ?_ _) | (with_reducible refine Below.setCell ?_ ?_ _) | (with_reducible exact Nat.le_refl _) | omega | (simp; omega) | (simp; done) | (apply Below.size; assumption))))⟩ | ((repeat apply Exists.intro); exact ⟨⟨j + 1, by go_num, by omega, ⟨true, rfl, HN⟩, Lib.hid (by (repeat' (first | (with_reducible exact Below.refl _ _) | (with_reducible assumption) | (with_reducible refine Kit.below_drewN ?_ _) | (with_reducible refine Below.drew ?_) | (with_reducible refine Below.alloc ?_ ?_ _) | (with_reducible refine Below.setCell ?_ ?_ _) | (with_reducible exact Nat.le_refl _) | omega | (simp; omega) | (simp; done) | (apply Below.size; assumption))))⟩, rfl⟩)
                      case measure => simp [intOf]; omega
                  · obtain rfl : b = true := by
                      rw [HBB.out, List.take_of_length_le (by omega)]
                      exact decide_eq_true HM.out
                    have HE := Lib.hid (HB5.out.trans (HBq.out.mono HB5.out.size))
                    go_wp2
                    go_roundw
                    case rel => first | exact ⟨k + 1, by go_num, by omega, HE⟩ | ((repeat apply Exists.intro); exact ⟨⟨k + 1, by go_num, by omega, HE⟩, rfl⟩)
                    case measure => simp [intOf]; omega
          · have HE := Lib.hid (HB4.out.trans (hwr.mono HB4.out.size))
            go_wp2
            go_ret
            exact ⟨rfl, HE.out⟩
end Go.Proofs.YtjoieglhmladhaaDoor
