/- Walks: the laws of layer 20: TypesStands. -/
import Derived.Test.YtggfeblfhabmkaaDoorTzD
import Derived.Test.YtggfeblfhabmkaaDoorTyV
import Derived.Test.YtggfeblfhabmkaaDoorKitv
import Derived.Test.YtggfeblfhabmkaaDoorKitu
import Derived.Deep.CutRange
import Derived.Deep.RegionHeldLaw
namespace Go.Proofs.YtggfeblfhabmkaaDoor
set_option linter.unusedVariables false
set_option linter.unusedSimpArgs false
open Go.RowKit Go.Shelf

theorem Ty.wrapZ {z : Int} (h : 0 ≤ z ∧ z < 65536) : IntKind.i64.wrap z = z := by
  obtain ⟨k, rfl⟩ := Int.eq_ofNat_of_zero_le h.1
  exact Ty.wrapN (by omega)
theorem Ty.Cs.of_blk' {w : World} {b : Nat} {l : List Value} {t : TypeId} {f : Nat × Nat} (h : w.heap[b]? = some (.cells l.toArray t f)) : Ty.Cs w b l := by
  refine ⟨(Array.getElem?_eq_some_iff.1 h).1, fun j v hv => ?_⟩
  simp only [World.cell?, h]
  simpa using hv
set_option maxRecDepth 100000 in
set_option maxHeartbeats 4000000 in
theorem lw_stands_1 (x : Ex.Wk) (p : Ex.Wa) (k3 k1 k2 : Nat) (w : World) (hk3 : k3 < 65536) (hk1 : k1 < 256) (hk2 : k2 < 256) (ha : Ex.At w x p) (hl : Ex.Laid w) :
    Calls Tryd.prog 3 #[Ex.workV x p, .int .u16 k3, .int .u8 k1, .int .u8 k2] w fun e w' => e = .returned (.bool true) ∧ Below w.heap.size w w' := by
  have hs : ∀ W, Below w.heap.size w W → Calls Tryd.prog 8 #[] W fun e w' => e = .returned (.bool true) ∧ Below W.heap.size W w' := fun W hb => lw_sane W (hl.kept hb (Nat.le_refl _))
  have hw : ∀ W, Calls Tryd.prog 9 #[Ex.workV x p] W fun e w' => Ty.IsB e ∧ Below W.heap.size W w' := fun W => lw_few x p W
  have hk : ∀ W, Below w.heap.size w W → Calls Tryd.prog 10 #[Ex.workV x p] W fun e w' => e = .returned (.int .i64 (Ty.ck20 x)) ∧ Below W.heap.size W w' := fun W hb => ty_check x p W (ha.kept hb (Nat.le_refl _)) (hl.kept hb (Nat.le_refl _))
  have hc : ∀ W, Below w.heap.size w W → Ex.Chk x p W (Ex.chk x) := fun W hb => ex_check x p W (ha.kept hb (Nat.le_refl _)) (hl.kept hb (Nat.le_refl _))
  have hpl : Ty.ck20 x = 0 → Ex.chk x = 0 ∧ Ty.refL x.sg = [] := fun h => by
    unfold Ty.ck20 at h
    split at h
    · rename_i h1
      split at h
      · rename_i h2
        exact ⟨h1, List.eq_nil_of_length_eq_zero h2⟩
      · omega
    · rename_i h1; exact absurd h h1
  have hch : Ex.chk x = 0 → x.sg.length ≤ 4096 ∧ x.ro.length ≤ 64 ∧ Ty.Inc x.sg ∧ ∀ s ∈ x.sg, Ty.Rt s x.ro.length x.n := fun h => ⟨(Ty.of_chk h).2.1, (Ty.of_chk h).1, (Ty.of_chk h).2.2.2⟩
  have hlk : (∀ s ∈ x.sg, Ty.Rt s x.ro.length x.n) → x.sg.length ≤ 4096 → ∀ (role bar N D : Int) W, Below w.heap.size w W → ((-1073741824 ≤ N ∧ N ≤ 1073741824) ∧ 0 ≤ D ∧ D ≤ 1073741824) → Calls Tryd.prog 12 #[Ex.workV x p, .int .i64 role, .int .i64 bar, Ra.V N D] W fun e w' => Ty.LookIs x.sg role bar N D W e w' :=
    fun h1 h2 role bar N D W hb hd => lw_look x p role bar N D W (ha.sg.kept hb (Nat.le_refl _)) h1 h2 hd
  have HPL := Lib.hid hpl
  have HCH := Lib.hid hch
  have HLK := Lib.hid hlk
  have HSG := Lib.hid ha.sg
  have HS := Lib.hid hs
  have HW := Lib.hid hw
  have HK := Lib.hid hk
  have HC := Lib.hid hc
  have lsg := ha.lsg
  have lro := ha.lro
  clear hs hw hk hc ha hl hpl hch hlk
  generalize Ty.ck20 x = r20 at *
  unfold Ex.Chk at HC
  generalize Ex.chk x = r at *
  obtain ⟨wd, dp, ta, tb, tc, n, ro, ts, ps, ss, sg⟩ := x
  obtain ⟨aR, cR, aT, cT, aP, cP, aS, cS, aG, cG⟩ := p
  dsimp only at HPL HSG lsg lro
  go_enter Tryd.func3, Tryd.ntmps3
  skip
  (go_wp2_with (fail); refine (HS.out _ (by (repeat' first | (with_reducible first | exact Below.refl _ _ | assumption | refine Kit.below_drewN ?_ _ | refine Below.drew ?_ | refine Below.alloc ?_ ?_ _ | refine Below.setCell ?_ ?_ _ | exact Nat.le_refl _) | omega | (simp; omega) | (simp; done) | (apply Below.size; assumption)))).mono ?_; rintro e w1_ ⟨rfl, hb1_⟩; have hp1_ : Below w.heap.size w w1_ := Below.trans (by (repeat' first | (with_reducible first | exact Below.refl _ _ | assumption | refine Kit.below_drewN ?_ _ | refine Below.drew ?_ | refine Below.alloc ?_ ?_ _ | refine Below.setCell ?_ ?_ _ | exact Nat.le_refl _) | omega | (simp; omega) | (simp; done) | (apply Below.size; assumption))) (hb1_.mono (by first | assumption | (simp; done) | (simp; omega) | omega)); have hw1_ : Below w.heap.size w w1_ := hp1_; obtain ⟨hc1_, hf1_⟩ := Kit.bcell hb1_; have z1_w : w.heap.size < w1_.heap.size := (by have := hb1_.size; first | omega | (simp at this; omega)); obtain ⟨g1_w_0, g1_w_1, g1_w_2, g1_w_3, g1_w_4, g1_w_5, g1_w_6, g1_w_7, g1_w_8, g1_w_9, g1_w_10⟩ : w1_.cell? ⟨w.heap.size, 0, none⟩ = some (.int .i64 wd) ∧ w1_.cell? ⟨w.heap.size, 1, none⟩ = some (.int .i64 dp) ∧ w1_.cell? ⟨w.heap.size, 2, none⟩ = some (.int .i64 ta) ∧ w1_.cell? ⟨w.heap.size, 3, none⟩ = some (.int .i64 tb) ∧ w1_.cell? ⟨w.heap.size, 4, none⟩ = some (.int .i64 tc) ∧ w1_.cell? ⟨w.heap.size, 5, none⟩ = some (.slice aR ro.length cR) ∧ w1_.cell? ⟨w.heap.size, 6, none⟩ = some (.int .i64 n) ∧ w1_.cell? ⟨w.heap.size, 7, none⟩ = some (.slice aT ts.length cT) ∧ w1_.cell? ⟨w.heap.size, 8, none⟩ = some (.slice aP ps.length cP) ∧ w1_.cell? ⟨w.heap.size, 9, none⟩ = some (.slice aS ss.length cS) ∧ w1_.cell? ⟨w.heap.size, 10, none⟩ = some (.slice aG sg.length cG) := (by refine ⟨?_, ?_, ?_, ?_, ?_, ?_, ?_, ?_, ?_, ?_, ?_⟩ <;> (rw [hc1_ _ _ (by first | assumption | (simp; done) | (simp; omega) | omega)]; first | assumption | (simp [go_sem]; done) | (simp [go_sem, *]; done))); clear hc1_ hf1_; clear hb1_ hp1_)
  (go_wp2_with (fail); refine (HW.out _).mono ?_; rintro e w2_ ⟨⟨b, rfl⟩, hb2_⟩; have hp2_ : Below w1_.heap.size w1_ w2_ := Below.trans (by (repeat' first | (with_reducible first | exact Below.refl _ _ | assumption | refine Kit.below_drewN ?_ _ | refine Below.drew ?_ | refine Below.alloc ?_ ?_ _ | refine Below.setCell ?_ ?_ _ | exact Nat.le_refl _) | omega | (simp; omega) | (simp; done) | (apply Below.size; assumption))) (hb2_.mono (by first | assumption | (simp; done) | (simp; omega) | omega)); have hw2_ : Below w.heap.size w w2_ := hw1_.trans (hp2_.mono hw1_.size); have z2_w : w.heap.size < w2_.heap.size := Nat.lt_of_lt_of_le z1_w hp2_.size; have g2_w_0 := Kit.ck hp2_ g1_w_0 z1_w; have g2_w_1 := Kit.ck hp2_ g1_w_1 z1_w; have g2_w_2 := Kit.ck hp2_ g1_w_2 z1_w; have g2_w_3 := Kit.ck hp2_ g1_w_3 z1_w; have g2_w_4 := Kit.ck hp2_ g1_w_4 z1_w; have g2_w_5 := Kit.ck hp2_ g1_w_5 z1_w; have g2_w_6 := Kit.ck hp2_ g1_w_6 z1_w; have g2_w_7 := Kit.ck hp2_ g1_w_7 z1_w; have g2_w_8 := Kit.ck hp2_ g1_w_8 z1_w; have g2_w_9 := Kit.ck hp2_ g1_w_9 z1_w; have g2_w_10 := Kit.ck hp2_ g1_w_10 z1_w; clear z1_w g1_w_0 g1_w_1 g1_w_2 g1_w_3 g1_w_4 g1_w_5 g1_w_6 g1_w_7 g1_w_8 g1_w_9 g1_w_10 hw1_ hb2_ hp2_)
  rcases b with _ | _
  · go_wp2
    go_ret
    exact ⟨rfl, by (repeat' first | (with_reducible first | exact Below.refl _ _ | assumption | refine Kit.below_drewN ?_ _ | refine Below.drew ?_ | refine Below.alloc ?_ ?_ _ | refine Below.setCell ?_ ?_ _ | exact Nat.le_refl _) | omega | (simp; omega) | (simp; done) | (apply Below.size; assumption))⟩
  (go_wp2_with (fail); refine (HK.out _ (by (repeat' first | (with_reducible first | exact Below.refl _ _ | assumption | refine Kit.below_drewN ?_ _ | refine Below.drew ?_ | refine Below.alloc ?_ ?_ _ | refine Below.setCell ?_ ?_ _ | exact Nat.le_refl _) | omega | (simp; omega) | (simp; done) | (apply Below.size; assumption)))).mono ?_; rintro e w3_ ⟨rfl, hb3_⟩; have hp3_ : Below w2_.heap.size w2_ w3_ := Below.trans (by (repeat' first | (with_reducible first | exact Below.refl _ _ | assumption | refine Kit.below_drewN ?_ _ | refine Below.drew ?_ | refine Below.alloc ?_ ?_ _ | refine Below.setCell ?_ ?_ _ | exact Nat.le_refl _) | omega | (simp; omega) | (simp; done) | (apply Below.size; assumption))) (hb3_.mono (by first | assumption | (simp; done) | (simp; omega) | omega)); have hw3_ : Below w.heap.size w w3_ := hw2_.trans (hp3_.mono hw2_.size); have z3_w : w.heap.size < w3_.heap.size := Nat.lt_of_lt_of_le z2_w hp3_.size; have g3_w_0 := Kit.ck hp3_ g2_w_0 z2_w; have g3_w_1 := Kit.ck hp3_ g2_w_1 z2_w; have g3_w_2 := Kit.ck hp3_ g2_w_2 z2_w; have g3_w_3 := Kit.ck hp3_ g2_w_3 z2_w; have g3_w_4 := Kit.ck hp3_ g2_w_4 z2_w; have g3_w_5 := Kit.ck hp3_ g2_w_5 z2_w; have g3_w_6 := Kit.ck hp3_ g2_w_6 z2_w; have g3_w_7 := Kit.ck hp3_ g2_w_7 z2_w; have g3_w_8 := Kit.ck hp3_ g2_w_8 z2_w; have g3_w_9 := Kit.ck hp3_ g2_w_9 z2_w; have g3_w_10 := Kit.ck hp3_ g2_w_10 z2_w; clear z2_w g2_w_0 g2_w_1 g2_w_2 g2_w_3 g2_w_4 g2_w_5 g2_w_6 g2_w_7 g2_w_8 g2_w_9 g2_w_10 hw2_ hb3_ hp3_)
  rcases er : (r20 != 0) with _ | _
  · obtain rfl : r20 = 0 := by simpa using er
    obtain ⟨hr0, hrf⟩ := HPL.out rfl
    subst hr0
    obtain ⟨hln, hrl, hinc, hrt⟩ := HCH.out rfl
    have HRF := Lib.hid hrf
    have HIC := Lib.hid hinc
    have HRT := Lib.hid hrt
    have hlo := HLK.out hrt hln
    have HLO := Lib.hid hlo
    clear hrf hinc hrt hlo
    (go_wp2_with (fail); refine (HC.out _ (by (repeat' first | (with_reducible first | exact Below.refl _ _ | assumption | refine Kit.below_drewN ?_ _ | refine Below.drew ?_ | refine Below.alloc ?_ ?_ _ | refine Below.setCell ?_ ?_ _ | exact Nat.le_refl _) | omega | (simp; omega) | (simp; done) | (apply Below.size; assumption)))).mono ?_; rintro e w4_ ⟨rfl, hb4_⟩; have hp4_ : Below w3_.heap.size w3_ w4_ := Below.trans (by (repeat' first | (with_reducible first | exact Below.refl _ _ | assumption | refine Kit.below_drewN ?_ _ | refine Below.drew ?_ | refine Below.alloc ?_ ?_ _ | refine Below.setCell ?_ ?_ _ | exact Nat.le_refl _) | omega | (simp; omega) | (simp; done) | (apply Below.size; assumption))) (hb4_.mono (by first | assumption | (simp; done) | (simp; omega) | omega)); have hw4_ : Below w.heap.size w w4_ := hw3_.trans (hp4_.mono hw3_.size); have z4_w : w.heap.size < w4_.heap.size := Nat.lt_of_lt_of_le z3_w hp4_.size; have g4_w_0 := Kit.ck hp4_ g3_w_0 z3_w; have g4_w_1 := Kit.ck hp4_ g3_w_1 z3_w; have g4_w_2 := Kit.ck hp4_ g3_w_2 z3_w; have g4_w_3 := Kit.ck hp4_ g3_w_3 z3_w; have g4_w_4 := Kit.ck hp4_ g3_w_4 z3_w; have g4_w_5 := Kit.ck hp4_ g3_w_5 z3_w; have g4_w_6 := Kit.ck hp4_ g3_w_6 z3_w; have g4_w_7 := Kit.ck hp4_ g3_w_7 z3_w; have g4_w_8 := Kit.ck hp4_ g3_w_8 z3_w; have g4_w_9 := Kit.ck hp4_ g3_w_9 z3_w; have g4_w_10 := Kit.ck hp4_ g3_w_10 z3_w; clear z3_w g3_w_0 g3_w_1 g3_w_2 g3_w_3 g3_w_4 g3_w_5 g3_w_6 g3_w_7 g3_w_8 g3_w_9 g3_w_10 hw3_ hb4_ hp4_)
    clear HC HK HW HS HPL HCH HLK
    have wk1 : IntKind.i64.wrap (k1 : Int) = k1 := Ty.wrapN (by omega)
    have wk2 : IntKind.i64.wrap (k2 : Int) = k2 := Ty.wrapN (by omega)
    have wk3 : IntKind.i64.wrap (k3 : Int) = k3 := Ty.wrapN (by omega)
    have wk4 : IntKind.i64.wrap (1 + (k2 : Int)) = 1 + (k2 : Int) := Ty.wrapZ (by omega)
    have hnz : ¬ (1 + (k2 : Int)) = 0 := by omega
    have hmz : ¬ (max 1 n) = 0 := by omega
    obtain ⟨N, hN⟩ : ∃ N, (k1 : Int).tmod (1 + (k2 : Int)) = N := ⟨_, rfl⟩
    have hN' : (k1 : Int) % (1 + (k2 : Int)) = N := by rw [← hN, Int.tmod_eq_emod_of_nonneg (Int.natCast_nonneg k1)]
    obtain ⟨bar0, hB0⟩ : ∃ bar0, (k3 : Int).tmod (max 1 n) = bar0 := ⟨_, rfl⟩
    have hB0' : (k3 : Int) % (max 1 n) = bar0 := by rw [← hB0, Int.tmod_eq_emod_of_nonneg (Int.natCast_nonneg k3)]
    have hNb : 0 ≤ N ∧ N ≤ 256 := by
      have h1 := Int.emod_nonneg (k1 : Int) hnz
      have h2 := Int.emod_lt_of_pos (k1 : Int) (show 0 < 1 + (k2 : Int) by omega)
      rw [hN'] at h1 h2
      omega
    go_upto_region 5 with fail
    go_cut [9, 10] from 32 to 48 (fun s9 s10 wx => ∃ b9 : Nat, s9 = .pointer (some ⟨b9, 0, none⟩) ∧ s10 = .int .i64 bar0 ∧ w4_.heap.size ≤ b9 ∧ Hid (wx.heap[b9]? = some (.cells #[.int .i64 N, .int .i64 (1 + (k2 : Int))] 39 (0, 0))) ∧ Hid (Below w4_.heap.size w4_ wx))
    case first =>
        have hS : (fun w' : World => w'.cell? ⟨w.heap.size, 6, none⟩ = some (.int .i64 n)) ({ w4_ with drawn := w4_.drawn + 1 } : World) := g4_w_6
        refine wp_region_held (S := (fun w' : World => w'.cell? ⟨w.heap.size, 6, none⟩ = some (.int .i64 n))) (by kernel_rfl) ?_
        refine Kit.take2 (i := 0) (v := .int .u8 k1) (some 32) rfl rfl (by kernel_rfl) (by kernel_rfl) (by kernel_rfl) (fun _ d _ _ h => by cases d <;> exact h) (Or.inl ⟨by rfl, fun wv hwv => by go_simp⟩) hS ?_
        (try simp only [Act.put, List.setIfInBounds_toArray, List.set_cons_zero, List.set_cons_succ])
        refine Kit.take2 (i := 1) (v := .int .i64 k1) (some 33) rfl rfl (by kernel_rfl) (by kernel_rfl) (by kernel_rfl) (fun _ d _ _ h => by cases d <;> exact h) (Or.inl ⟨by rfl, fun wv hwv => by go_simp⟩) hS ?_
        (try simp only [Act.put, List.setIfInBounds_toArray, List.set_cons_zero, List.set_cons_succ])
        refine Kit.take2 (i := 2) (v := .int .u8 k2) (some 34) rfl rfl (by kernel_rfl) (by kernel_rfl) (by kernel_rfl) (fun _ d _ _ h => by cases d <;> exact h) (Or.inl ⟨by rfl, fun wv hwv => by go_simp⟩) hS ?_
        (try simp only [Act.put, List.setIfInBounds_toArray, List.set_cons_zero, List.set_cons_succ])
        refine Kit.take2 (i := 3) (v := .int .i64 k2) (some 35) rfl rfl (by kernel_rfl) (by kernel_rfl) (by kernel_rfl) (fun _ d _ _ h => by cases d <;> exact h) (Or.inl ⟨by rfl, fun wv hwv => by go_simp⟩) hS ?_
        (try simp only [Act.put, List.setIfInBounds_toArray, List.set_cons_zero, List.set_cons_succ])
        refine Kit.take2 (i := 4) (v := .int .i64 (1 + (k2 : Int))) (some 36) rfl rfl (by kernel_rfl) (by kernel_rfl) (by kernel_rfl) (fun _ d _ _ h => by cases d <;> exact h) (Or.inl ⟨by rfl, fun wv hwv => by go_simp⟩) hS ?_
        (try simp only [Act.put, List.setIfInBounds_toArray, List.set_cons_zero, List.set_cons_succ])
        refine Kit.take2 (i := 5) (v := .int .i64 N) (some 37) rfl rfl (by kernel_rfl) (by kernel_rfl) (by kernel_rfl) (fun _ d _ _ h => by cases d <;> exact h) (Or.inl ⟨by rfl, fun wv hwv => by go_simp⟩) hS ?_
        (try simp only [Act.put, List.setIfInBounds_toArray, List.set_cons_zero, List.set_cons_succ])
        refine Kit.take2 (i := 6) (v := .int .u8 k2) (some 38) rfl rfl (by kernel_rfl) (by kernel_rfl) (by kernel_rfl) (fun _ d _ _ h => by cases d <;> exact h) (Or.inl ⟨by rfl, fun wv hwv => by go_simp⟩) hS ?_
        (try simp only [Act.put, List.setIfInBounds_toArray, List.set_cons_zero, List.set_cons_succ])
        refine Kit.take2 (i := 7) (v := .int .i64 k2) (some 39) rfl rfl (by kernel_rfl) (by kernel_rfl) (by kernel_rfl) (fun _ d _ _ h => by cases d <;> exact h) (Or.inl ⟨by rfl, fun wv hwv => by go_simp⟩) hS ?_
        (try simp only [Act.put, List.setIfInBounds_toArray, List.set_cons_zero, List.set_cons_succ])
        refine Kit.take2 (i := 8) (v := .int .i64 (1 + (k2 : Int))) (some 40) rfl rfl (by kernel_rfl) (by kernel_rfl) (by kernel_rfl) (fun _ d _ _ h => by cases d <;> exact h) (Or.inl ⟨by rfl, fun wv hwv => by go_simp⟩) hS ?_
        (try simp only [Act.put, List.setIfInBounds_toArray, List.set_cons_zero, List.set_cons_succ])
        refine Kit.take2 (i := 9) (v := .agg #[.int .i64 N, .int .i64 (1 + (k2 : Int))]) (some 41) rfl rfl (by kernel_rfl) (by kernel_rfl) (by kernel_rfl) (fun _ d _ _ h => by cases d <;> exact h) (Or.inl ⟨by rfl, fun wv hwv => by go_simp⟩) hS ?_
        (try simp only [Act.put, List.setIfInBounds_toArray, List.set_cons_zero, List.set_cons_succ])
        refine Kit.take2 (i := 10) (v := .int .u16 k3) (some 42) rfl rfl (by kernel_rfl) (by kernel_rfl) (by kernel_rfl) (fun _ d _ _ h => by cases d <;> exact h) (Or.inl ⟨by rfl, fun wv hwv => by go_simp⟩) hS ?_
        (try simp only [Act.put, List.setIfInBounds_toArray, List.set_cons_zero, List.set_cons_succ])
        refine Kit.take2 (i := 11) (v := .int .i64 k3) (some 43) rfl rfl (by kernel_rfl) (by kernel_rfl) (by kernel_rfl) (fun _ d _ _ h => by cases d <;> exact h) (Or.inl ⟨by rfl, fun wv hwv => by go_simp⟩) hS ?_
        (try simp only [Act.put, List.setIfInBounds_toArray, List.set_cons_zero, List.set_cons_succ])
        refine Kit.take2 (i := 12) (v := .pointer (some ⟨w.heap.size, 6, none⟩)) (some 44) rfl rfl (by kernel_rfl) (by kernel_rfl) (by kernel_rfl) (fun _ d _ _ h => by cases d <;> exact h) (Or.inl ⟨by rfl, fun wv hwv => by go_simp⟩) hS ?_
        (try simp only [Act.put, List.setIfInBounds_toArray, List.set_cons_zero, List.set_cons_succ])
        refine Kit.take2 (i := 13) (v := .pointer (some ⟨w.heap.size, 6, none⟩)) (some 45) rfl rfl (by kernel_rfl) (by kernel_rfl) (by kernel_rfl) (fun _ d _ _ h => by cases d <;> exact h) (Or.inl ⟨by rfl, fun wv hwv => by go_simp⟩) hS ?_
        (try simp only [Act.put, List.setIfInBounds_toArray, List.set_cons_zero, List.set_cons_succ])
        refine Kit.take2 (i := 14) (v := .int .i64 n) (some 46) rfl rfl (by kernel_rfl) (by kernel_rfl) (by kernel_rfl) (fun _ d _ _ h => by cases d <;> exact h) (Or.inl ⟨by rfl, fun wv hwv => by go_simp⟩) hS ?_
        (try simp only [Act.put, List.setIfInBounds_toArray, List.set_cons_zero, List.set_cons_succ])
        refine Kit.take2 (i := 15) (v := .int .i64 (max 1 n)) (some 47) rfl rfl (by kernel_rfl) (by kernel_rfl) (by kernel_rfl) (fun _ d _ _ h => by cases d <;> exact h) (Or.inl ⟨by rfl, fun wv hwv => by go_simp⟩) hS ?_
        (try simp only [Act.put, List.setIfInBounds_toArray, List.set_cons_zero, List.set_cons_succ])
        refine Kit.take2 (i := 16) (v := .int .i64 bar0) (some 48) rfl rfl (by kernel_rfl) (by kernel_rfl) (by kernel_rfl) (fun _ d _ _ h => by cases d <;> exact h) (Or.inl ⟨by rfl, fun wv hwv => by go_simp⟩) hS ?_
        (try simp only [Act.put, List.setIfInBounds_toArray, List.set_cons_zero, List.set_cons_succ])
        refine wpAnyH_all (rs := [17]) (by kernel_rfl) (by simp) fun ii hii => ?_
        obtain rfl : ii = 17 := by simpa using hii
        refine Kit.wpOp_value2 (v := .pointer (some ⟨w4_.heap.size, 0, none⟩)) (w' := ({ w4_ with drawn := w4_.drawn + 1 } : World).alloc (.cells #[.int .i64 0, .int .i64 0] 39)) (some 9) rfl rfl rfl (by simp [execOp, go_sem] <;> rfl) ?_
        obtain ⟨V0, hV0⟩ : ∃ V0, V0 = ({ w4_ with drawn := w4_.drawn + 1 } : World).alloc (.cells #[.int .i64 0, .int .i64 0] 39) := ⟨_, rfl⟩
        rw [← hV0]
        have hb0 : V0.heap[w4_.heap.size]? = some (.cells #[.int .i64 0, .int .i64 0] 39 (0, 0)) := by rw [hV0]; exact World.alloc_heap_new _ _
        have x0 : Below w4_.heap.size w4_ V0 := by rw [hV0]; exact ((Below.refl _ _).drew).alloc (Nat.le_refl _) _
        have q0 : V0.cell? ⟨w.heap.size, 6, none⟩ = some (.int .i64 n) := (x0.cell (p := ⟨w.heap.size, 6, none⟩) z4_w).trans g4_w_6
        have HX0 := Lib.hid x0
        have HV0 := Lib.hid hb0
        clear hV0 x0
        refine ⟨q0, ?_⟩
        (try simp only [Act.put, List.setIfInBounds_toArray, List.set_cons_zero, List.set_cons_succ])
        refine wpAnyH_all (rs := [18]) (by kernel_rfl) (by simp) fun ii hii => ?_
        obtain rfl : ii = 18 := by simpa using hii
        refine Kit.wpOp_store (b := w4_.heap.size) (cells := #[.int .i64 N, .int .i64 (1 + (k2 : Int))]) rfl rfl rfl rfl rfl (Kit.there_cells hb0 rfl) (by kernel_rfl) (by simp [Value.oneCell']) ?_
        have q1 : (V0.setCells w4_.heap.size 0 #[.int .i64 N, .int .i64 (1 + (k2 : Int))].toList).cell? ⟨w.heap.size, 6, none⟩ = some (.int .i64 n) := by
          refine (Kit.Exc.setCells (S := fun k => k = w4_.heap.size) rfl _ _ (Kit.Exc.refl _ V0)).cell (p := ⟨w.heap.size, 6, none⟩) q0 (by show ¬ (w.heap.size = _); omega) (Nat.lt_of_lt_of_le z4_w HX0.out.size)
        have hb1 := Kit.heap_setAll (cells := #[.int .i64 N, .int .i64 (1 + (k2 : Int))]) hb0 rfl
        have x1 := HX0.out.trans ((Kit.Exc.setCells (S := fun k => k = w4_.heap.size) rfl #[.int .i64 N, .int .i64 (1 + (k2 : Int))].toList 0 (Kit.Exc.refl _ V0)).below HX0.out.size (fun k e => Nat.le_of_eq e.symm))
        obtain ⟨V1, hV1⟩ : ∃ V1, V1 = V0.setCells w4_.heap.size 0 #[.int .i64 N, .int .i64 (1 + (k2 : Int))].toList := ⟨_, rfl⟩
        rw [← hV1] at q1 hb1 x1
        have HB1 := Lib.hid hb1
        have HX1 := Lib.hid x1
        rw [← hV1]
        clear hV1 hb1 x1 hb0 q0
        refine ⟨q1, ?_⟩
        (try simp only [Act.put, List.setIfInBounds_toArray, List.set_cons_zero, List.set_cons_succ])
        refine Kit.take2 (i := 19) (v := .int .i64 bar0) (some 10) rfl rfl (by kernel_rfl) (by kernel_rfl) (by kernel_rfl) (fun _ d _ _ h => by cases d <;> exact h) (Or.inl ⟨by rfl, fun wv hwv => by go_simp⟩) q1 ?_
        (try simp only [Act.put, List.setIfInBounds_toArray, List.set_cons_zero, List.set_cons_succ])
        refine wpAnyH_done (by kernel_rfl) ?_ _
        go_wp2_with fail
        go_meet
        case rel => exact ⟨_, rfl, rfl, Nat.le_refl _, HB1.out, HX1.out⟩
    case rest =>
      obtain ⟨b9, rfl, rfl, hb9, HR5, HB5⟩ := hcut
      obtain ⟨W5, rfl⟩ : ∃ W5, W5 = wc := ⟨_, rfl⟩
      have hS5 : Hid (∀ q v, w4_.cell? ⟨w.heap.size, q, none⟩ = some v → W5.cell? ⟨w.heap.size, q, none⟩ = some v) := Lib.hid (fun q v h => (HB5.out.cell (p := ⟨w.heap.size, q, none⟩) z4_w).trans h)
      have zw5 : w.heap.size < W5.heap.size := Nat.lt_of_lt_of_le z4_w HB5.out.size
      have G0 := Lib.hid (hS5.out 0 _ g4_w_0)
      have G1 := Lib.hid (hS5.out 1 _ g4_w_1)
      have G2 := Lib.hid (hS5.out 2 _ g4_w_2)
      have G3 := Lib.hid (hS5.out 3 _ g4_w_3)
      have G4 := Lib.hid (hS5.out 4 _ g4_w_4)
      have G5 := Lib.hid (hS5.out 5 _ g4_w_5)
      have G6 := Lib.hid (hS5.out 6 _ g4_w_6)
      have G7 := Lib.hid (hS5.out 7 _ g4_w_7)
      have G8 := Lib.hid (hS5.out 8 _ g4_w_8)
      have G9 := Lib.hid (hS5.out 9 _ g4_w_9)
      have G10 := Lib.hid (hS5.out 10 _ g4_w_10)
      have HB5w := Lib.hid (hw4_.trans (HB5.out.mono hw4_.size))
      have h9w : w.heap.size < b9 := by omega
      clear hS5 g4_w_0 g4_w_1 g4_w_2 g4_w_3 g4_w_4 g4_w_5 g4_w_6 g4_w_7 g4_w_8 g4_w_9 g4_w_10 z4_w hN hN' hB0 hB0' wk1 wk2 wk4 hnz hmz
      have g10 := G10.out
      go_upto_region 6 with fail
      go_cut [57] from 49 to 56 (fun s57 wx => ∃ c : Bool, s57 = .bool c ∧ (c = true → 0 < sg.length) ∧ wx = W5)
      case first =>
        by_cases hpos : 0 < sg.length
        · have hp' : (0 : Int) < (sg.length : Int) := by omega
          go_wp2_with fail
          go_meet
          case rel => exact ⟨_, rfl, fun _ => hpos, rfl⟩
        · have hp' : ¬ (0 : Int) < (sg.length : Int) := by omega
          go_wp2_with fail
          go_meet
          case rel => exact ⟨false, rfl, (fun h => (by cases h)), rfl⟩
      case rest =>
        obtain ⟨c, rfl, hc, rfl⟩ := hcut
        obtain ⟨W5, rfl⟩ : ∃ W5, W5 = wc := ⟨_, rfl⟩
        clear g10
        go_upto_if 57 with fail
        go_cut [9, 10] from 57 to 71 (fun s9 s10 wx => s9 = .pointer (some ⟨b9, 0, none⟩) ∧ ∃ bar tn td : Int, s10 = .int .i64 bar ∧ Hid ((-1073741824 ≤ tn ∧ tn ≤ 1073741824) ∧ 0 < td ∧ td ≤ 1073741824) ∧ Hid (Ty.Cs wx b9 [.int .i64 tn, .int .i64 td]) ∧ Hid (Kit.Exc (fun k => k = b9) W5 wx))
        case first =>
          rcases c with _ | _
          · go_wp2_with fail
            go_meet
            case rel => exact ⟨rfl, bar0, N, 1 + (k2 : Int), rfl, ⟨by omega, by omega, by omega⟩, Ty.Cs.of_blk' (l := [.int .i64 N, .int .i64 (1 + (k2 : Int))]) HR5.out, Kit.Exc.refl _ _⟩
          ·
            have hpos := hc rfl
            have hnil : ¬ sg = [] := by rintro rfl; simp at hpos
            obtain ⟨i, hi⟩ : ∃ i, i = k3 % sg.length := ⟨_, rfl⟩
            have li : i < sg.length := by rw [hi]; exact Nat.mod_lt _ hpos
            have hmi : (k3 : Int).tmod (sg.length : Int) = (i : Int) := by rw [Int.tmod_eq_emod_of_nonneg (Int.natCast_nonneg k3), hi, Int.natCast_emod]
            have hki : (k3 : Int) % (sg.length : Int) = (i : Int) := by rw [hi, Int.natCast_emod]
            have hne0 : ¬ (sg.length : Int) = 0 := by omega
            obtain ⟨ay, rfl, hay, _⟩ := HSG.out.at li
            have h := HSG.out.kept HB5w.out (Nat.le_refl _)
            have e0 := h.head li (by omega)
            have e1 := h.field li (j := 1) (by omega) (by omega)
            have e2 := h.field li (j := 2) (by omega) (by omega)
            have e3 := h.field li (j := 3) (by omega) (by omega)
            have e4 := h.field li (j := 4) (by omega) (by omega)
            have e5 := h.field li (j := 5) (by omega) (by omega)
            have e6 := h.field li (j := 6) (by omega) (by omega)
            have e7 := h.field li (j := 7) (by omega) (by omega)
            have e8 := h.field li (j := 8) (by omega) (by omega)
            have e9 := h.field li (j := 9) (by omega) (by omega)
            have e10 := h.field li (j := 10) (by omega) (by omega)
            have e11 := h.field li (j := 11) (by omega) (by omega)
            have e12 := h.field li (j := 12) (by omega) (by omega)
            have e13 := h.field li (j := 13) (by omega) (by omega)
            obtain ⟨e, hxe⟩ : ∃ e, sg.getD i default = e := ⟨_, rfl⟩
            have hre := HRT.out e (by rw [← hxe]; simp [List.getD, li])
            have hfo := (Ra.ok_iff _ _).1 hre.fok
            simp only [Ex.sgc, hxe] at e0 e1 e2 e3 e4 e5 e6 e7 e8 e9 e10 e11 e12 e13
            clear h hxe hi hre
            go_upto_region 7 with fail
            have hS : (fun w' : World => w'.cell? ⟨w.heap.size, 10, none⟩ = some (.slice (some ay) sg.length cG) ∧ w'.cell? (ay.add (i * 14)) = some (.int .i64 e.id) ∧ w'.cell? ⟨(ay.add (i * 14)).block, (ay.add (i * 14)).off + 1, none⟩ = some (.int .i64 e.role) ∧ w'.cell? ⟨(ay.add (i * 14)).block, (ay.add (i * 14)).off + 2, none⟩ = some (.int .i64 e.bar) ∧ w'.cell? ⟨(ay.add (i * 14)).block, (ay.add (i * 14)).off + 3, none⟩ = some (.int .i64 e.mark) ∧ w'.cell? ⟨(ay.add (i * 14)).block, (ay.add (i * 14)).off + 4, none⟩ = some (.int .i64 e.kind) ∧ w'.cell? ⟨(ay.add (i * 14)).block, (ay.add (i * 14)).off + 5, none⟩ = some (.int .i64 e.side) ∧ w'.cell? ⟨(ay.add (i * 14)).block, (ay.add (i * 14)).off + 6, none⟩ = some (.int .i64 e.dir) ∧ w'.cell? ⟨(ay.add (i * 14)).block, (ay.add (i * 14)).off + 7, none⟩ = some (.int .i64 e.level) ∧ w'.cell? ⟨(ay.add (i * 14)).block, (ay.add (i * 14)).off + 8, none⟩ = some (.int .i64 e.size) ∧ w'.cell? ⟨(ay.add (i * 14)).block, (ay.add (i * 14)).off + 9, none⟩ = some (.int .i64 e.wth) ∧ w'.cell? ⟨(ay.add (i * 14)).block, (ay.add (i * 14)).off + 10, none⟩ = some (.int .i64 e.fn) ∧ w'.cell? ⟨(ay.add (i * 14)).block, (ay.add (i * 14)).off + 11, none⟩ = some (.int .i64 e.fd) ∧ w'.cell? ⟨(ay.add (i * 14)).block, (ay.add (i * 14)).off + 12, none⟩ = some (.int .i64 e.tn) ∧ w'.cell? ⟨(ay.add (i * 14)).block, (ay.add (i * 14)).off + 13, none⟩ = some (.int .i64 e.td)) ({ W5 with drawn := W5.drawn + 1 } : World) := ⟨G10.out, e0, e1, e2, e3, e4, e5, e6, e7, e8, e9, e10, e11, e12, e13⟩
            refine wp_region_held (S := (fun w' : World => w'.cell? ⟨w.heap.size, 10, none⟩ = some (.slice (some ay) sg.length cG) ∧ w'.cell? (ay.add (i * 14)) = some (.int .i64 e.id) ∧ w'.cell? ⟨(ay.add (i * 14)).block, (ay.add (i * 14)).off + 1, none⟩ = some (.int .i64 e.role) ∧ w'.cell? ⟨(ay.add (i * 14)).block, (ay.add (i * 14)).off + 2, none⟩ = some (.int .i64 e.bar) ∧ w'.cell? ⟨(ay.add (i * 14)).block, (ay.add (i * 14)).off + 3, none⟩ = some (.int .i64 e.mark) ∧ w'.cell? ⟨(ay.add (i * 14)).block, (ay.add (i * 14)).off + 4, none⟩ = some (.int .i64 e.kind) ∧ w'.cell? ⟨(ay.add (i * 14)).block, (ay.add (i * 14)).off + 5, none⟩ = some (.int .i64 e.side) ∧ w'.cell? ⟨(ay.add (i * 14)).block, (ay.add (i * 14)).off + 6, none⟩ = some (.int .i64 e.dir) ∧ w'.cell? ⟨(ay.add (i * 14)).block, (ay.add (i * 14)).off + 7, none⟩ = some (.int .i64 e.level) ∧ w'.cell? ⟨(ay.add (i * 14)).block, (ay.add (i * 14)).off + 8, none⟩ = some (.int .i64 e.size) ∧ w'.cell? ⟨(ay.add (i * 14)).block, (ay.add (i * 14)).off + 9, none⟩ = some (.int .i64 e.wth) ∧ w'.cell? ⟨(ay.add (i * 14)).block, (ay.add (i * 14)).off + 10, none⟩ = some (.int .i64 e.fn) ∧ w'.cell? ⟨(ay.add (i * 14)).block, (ay.add (i * 14)).off + 11, none⟩ = some (.int .i64 e.fd) ∧ w'.cell? ⟨(ay.add (i * 14)).block, (ay.add (i * 14)).off + 12, none⟩ = some (.int .i64 e.tn) ∧ w'.cell? ⟨(ay.add (i * 14)).block, (ay.add (i * 14)).off + 13, none⟩ = some (.int .i64 e.td))) (by kernel_rfl) ?_
            refine Kit.take2 (i := 0) (v := .pointer (some ⟨w.heap.size, 10, none⟩)) (some 58) rfl rfl (by kernel_rfl) (by kernel_rfl) (by kernel_rfl) (fun _ d _ _ h => by cases d <;> exact h) (Or.inl ⟨by rfl, fun wv hwv => by (obtain ⟨hw0, _⟩ := hwv; go_simp)⟩) hS ?_
            (try simp only [Act.put, List.setIfInBounds_toArray, List.set_cons_zero, List.set_cons_succ])
            refine Kit.take2 (i := 1) (v := .slice (some ay) sg.length cG) (some 59) rfl rfl (by kernel_rfl) (by kernel_rfl) (by kernel_rfl) (fun _ d _ _ h => by cases d <;> exact h) (Or.inl ⟨by rfl, fun wv hwv => by (obtain ⟨hw0, _⟩ := hwv; go_simp)⟩) hS ?_
            (try simp only [Act.put, List.setIfInBounds_toArray, List.set_cons_zero, List.set_cons_succ])
            refine Kit.take2 (i := 2) (v := .int .u16 k3) (some 60) rfl rfl (by kernel_rfl) (by kernel_rfl) (by kernel_rfl) (fun _ d _ _ h => by cases d <;> exact h) (Or.inl ⟨by rfl, fun wv hwv => by (obtain ⟨hw0, _⟩ := hwv; go_simp)⟩) hS ?_
            (try simp only [Act.put, List.setIfInBounds_toArray, List.set_cons_zero, List.set_cons_succ])
            refine Kit.take2 (i := 3) (v := .int .i64 k3) (some 61) rfl rfl (by kernel_rfl) (by kernel_rfl) (by kernel_rfl) (fun _ d _ _ h => by cases d <;> exact h) (Or.inl ⟨by rfl, fun wv hwv => by (obtain ⟨hw0, _⟩ := hwv; go_simp)⟩) hS ?_
            (try simp only [Act.put, List.setIfInBounds_toArray, List.set_cons_zero, List.set_cons_succ])
            refine Kit.take2 (i := 4) (v := .pointer (some ⟨w.heap.size, 10, none⟩)) (some 62) rfl rfl (by kernel_rfl) (by kernel_rfl) (by kernel_rfl) (fun _ d _ _ h => by cases d <;> exact h) (Or.inl ⟨by rfl, fun wv hwv => by (obtain ⟨hw0, _⟩ := hwv; go_simp)⟩) hS ?_
            (try simp only [Act.put, List.setIfInBounds_toArray, List.set_cons_zero, List.set_cons_succ])
            refine Kit.take2 (i := 5) (v := .slice (some ay) sg.length cG) (some 63) rfl rfl (by kernel_rfl) (by kernel_rfl) (by kernel_rfl) (fun _ d _ _ h => by cases d <;> exact h) (Or.inl ⟨by rfl, fun wv hwv => by (obtain ⟨hw0, _⟩ := hwv; go_simp)⟩) hS ?_
            (try simp only [Act.put, List.setIfInBounds_toArray, List.set_cons_zero, List.set_cons_succ])
            refine Kit.take2 (i := 6) (v := .int .i64 sg.length) (some 64) rfl rfl (by kernel_rfl) (by kernel_rfl) (by kernel_rfl) (fun _ d _ _ h => by cases d <;> exact h) (Or.inl ⟨by rfl, fun wv hwv => by (obtain ⟨hw0, _⟩ := hwv; go_simp)⟩) hS ?_
            (try simp only [Act.put, List.setIfInBounds_toArray, List.set_cons_zero, List.set_cons_succ])
            refine Kit.take2 (i := 7) (v := .int .i64 i) (some 65) rfl rfl (by kernel_rfl) (by kernel_rfl) (by kernel_rfl) (fun _ d _ _ h => by cases d <;> exact h) (Or.inl ⟨by rfl, fun wv hwv => by (obtain ⟨hw0, _⟩ := hwv; go_simp)⟩) hS ?_
            (try simp only [Act.put, List.setIfInBounds_toArray, List.set_cons_zero, List.set_cons_succ])
            refine Kit.take2 (i := 8) (v := .pointer (some (ay.add (i * 14)))) (some 66) rfl rfl (by kernel_rfl) (by kernel_rfl) (by kernel_rfl) (fun _ d _ _ h => by cases d <;> exact h) (Or.inl ⟨by rfl, fun wv hwv => by (obtain ⟨hw0, _⟩ := hwv; go_simp)⟩) hS ?_
            (try simp only [Act.put, List.setIfInBounds_toArray, List.set_cons_zero, List.set_cons_succ])
            refine Kit.take2 (i := 9) (v := Ex.sgV e) (some 67) rfl rfl (by kernel_rfl) (by kernel_rfl) (by kernel_rfl) (fun _ d _ _ h => by cases d <;> exact h) (Or.inl ⟨by rfl, fun wv hwv => by (obtain ⟨hw0, s0, s1, s2, s3, s4, s5, s6, s7, s8, s9, s10, s11, s12, s13⟩ := hwv; go_simp)⟩) hS ?_
            (try simp only [Act.put, List.setIfInBounds_toArray, List.set_cons_zero, List.set_cons_succ])
            refine wpAnyH_all (rs := [10]) (by kernel_rfl) (by simp) fun ii hii => ?_
            obtain rfl : ii = 10 := by simpa using hii
            refine Kit.wpOp_value2 (v := .pointer (some ⟨W5.heap.size, 0, none⟩)) (w' := ({ W5 with drawn := W5.drawn + 1 } : World).alloc (.cells #[.int .i64 0, .int .i64 0, .int .i64 0, .int .i64 0, .int .i64 0, .int .i64 0, .int .i64 0, .int .i64 0, .int .i64 0, .int .i64 0, .int .i64 0, .int .i64 0, .int .i64 0, .int .i64 0] 41)) (some 11) rfl rfl rfl (by simp [execOp, go_sem] <;> rfl) ?_
            obtain ⟨V0, hV0⟩ : ∃ V0, V0 = ({ W5 with drawn := W5.drawn + 1 } : World).alloc (.cells #[.int .i64 0, .int .i64 0, .int .i64 0, .int .i64 0, .int .i64 0, .int .i64 0, .int .i64 0, .int .i64 0, .int .i64 0, .int .i64 0, .int .i64 0, .int .i64 0, .int .i64 0, .int .i64 0] 41) := ⟨_, rfl⟩
            rw [← hV0]
            have hb0 : V0.heap[W5.heap.size]? = some (.cells #[.int .i64 0, .int .i64 0, .int .i64 0, .int .i64 0, .int .i64 0, .int .i64 0, .int .i64 0, .int .i64 0, .int .i64 0, .int .i64 0, .int .i64 0, .int .i64 0, .int .i64 0, .int .i64 0] 41 (0, 0)) := by rw [hV0]; exact World.alloc_heap_new _ _
            have x0 : Below W5.heap.size W5 V0 := by rw [hV0]; exact ((Below.refl _ _).drew).alloc (Nat.le_refl _) _
            have hadr : (ay.add (i * 14)).block < W5.heap.size := by rw [Tp.add_block]; have := HB5w.out.size; omega
            have q0 : (fun w' : World => w'.cell? ⟨w.heap.size, 10, none⟩ = some (.slice (some ay) sg.length cG) ∧ w'.cell? (ay.add (i * 14)) = some (.int .i64 e.id) ∧ w'.cell? ⟨(ay.add (i * 14)).block, (ay.add (i * 14)).off + 1, none⟩ = some (.int .i64 e.role) ∧ w'.cell? ⟨(ay.add (i * 14)).block, (ay.add (i * 14)).off + 2, none⟩ = some (.int .i64 e.bar) ∧ w'.cell? ⟨(ay.add (i * 14)).block, (ay.add (i * 14)).off + 3, none⟩ = some (.int .i64 e.mark) ∧ w'.cell? ⟨(ay.add (i * 14)).block, (ay.add (i * 14)).off + 4, none⟩ = some (.int .i64 e.kind) ∧ w'.cell? ⟨(ay.add (i * 14)).block, (ay.add (i * 14)).off + 5, none⟩ = some (.int .i64 e.side) ∧ w'.cell? ⟨(ay.add (i * 14)).block, (ay.add (i * 14)).off + 6, none⟩ = some (.int .i64 e.dir) ∧ w'.cell? ⟨(ay.add (i * 14)).block, (ay.add (i * 14)).off + 7, none⟩ = some (.int .i64 e.level) ∧ w'.cell? ⟨(ay.add (i * 14)).block, (ay.add (i * 14)).off + 8, none⟩ = some (.int .i64 e.size) ∧ w'.cell? ⟨(ay.add (i * 14)).block, (ay.add (i * 14)).off + 9, none⟩ = some (.int .i64 e.wth) ∧ w'.cell? ⟨(ay.add (i * 14)).block, (ay.add (i * 14)).off + 10, none⟩ = some (.int .i64 e.fn) ∧ w'.cell? ⟨(ay.add (i * 14)).block, (ay.add (i * 14)).off + 11, none⟩ = some (.int .i64 e.fd) ∧ w'.cell? ⟨(ay.add (i * 14)).block, (ay.add (i * 14)).off + 12, none⟩ = some (.int .i64 e.tn) ∧ w'.cell? ⟨(ay.add (i * 14)).block, (ay.add (i * 14)).off + 13, none⟩ = some (.int .i64 e.td)) V0 := ⟨(x0.cell (p := ⟨w.heap.size, 10, none⟩) zw5).trans G10.out, (x0.cell hadr).trans e0, (x0.cell (p := ⟨(ay.add (i * 14)).block, _, none⟩) hadr).trans e1, (x0.cell (p := ⟨(ay.add (i * 14)).block, _, none⟩) hadr).trans e2, (x0.cell (p := ⟨(ay.add (i * 14)).block, _, none⟩) hadr).trans e3, (x0.cell (p := ⟨(ay.add (i * 14)).block, _, none⟩) hadr).trans e4, (x0.cell (p := ⟨(ay.add (i * 14)).block, _, none⟩) hadr).trans e5, (x0.cell (p := ⟨(ay.add (i * 14)).block, _, none⟩) hadr).trans e6, (x0.cell (p := ⟨(ay.add (i * 14)).block, _, none⟩) hadr).trans e7, (x0.cell (p := ⟨(ay.add (i * 14)).block, _, none⟩) hadr).trans e8, (x0.cell (p := ⟨(ay.add (i * 14)).block, _, none⟩) hadr).trans e9, (x0.cell (p := ⟨(ay.add (i * 14)).block, _, none⟩) hadr).trans e10, (x0.cell (p := ⟨(ay.add (i * 14)).block, _, none⟩) hadr).trans e11, (x0.cell (p := ⟨(ay.add (i * 14)).block, _, none⟩) hadr).trans e12, (x0.cell (p := ⟨(ay.add (i * 14)).block, _, none⟩) hadr).trans e13⟩
            have HX0 := Lib.hid x0
            clear hV0 x0
            refine ⟨q0, ?_⟩
            (try simp only [Act.put, List.setIfInBounds_toArray, List.set_cons_zero, List.set_cons_succ])
            refine wpAnyH_all (rs := [11]) (by kernel_rfl) (by simp) fun ii hii => ?_
            obtain rfl : ii = 11 := by simpa using hii
            refine Kit.wpOp_store (b := W5.heap.size) (cells := Ty.scA e) rfl rfl rfl rfl rfl (Kit.there_cells hb0 rfl) (by kernel_rfl) (Ty.scA_one e) ?_
            have xx := Kit.Exc.setCells (S := fun k => k = W5.heap.size) rfl (Ty.scA e).toList 0 (Kit.Exc.refl _ V0)
            have hb1 := Kit.heap_setAll (cells := Ty.scA e) hb0 rfl
            have x1 := HX0.out.trans (xx.below HX0.out.size (fun k e => Nat.le_of_eq e.symm))
            obtain ⟨V1, hV1⟩ : ∃ V1, V1 = V0.setCells W5.heap.size 0 (Ty.scA e).toList := ⟨_, rfl⟩
            rw [← hV1] at hb1 x1
            have q1 : (fun w' : World => w'.cell? ⟨w.heap.size, 10, none⟩ = some (.slice (some ay) sg.length cG) ∧ w'.cell? (ay.add (i * 14)) = some (.int .i64 e.id) ∧ w'.cell? ⟨(ay.add (i * 14)).block, (ay.add (i * 14)).off + 1, none⟩ = some (.int .i64 e.role) ∧ w'.cell? ⟨(ay.add (i * 14)).block, (ay.add (i * 14)).off + 2, none⟩ = some (.int .i64 e.bar) ∧ w'.cell? ⟨(ay.add (i * 14)).block, (ay.add (i * 14)).off + 3, none⟩ = some (.int .i64 e.mark) ∧ w'.cell? ⟨(ay.add (i * 14)).block, (ay.add (i * 14)).off + 4, none⟩ = some (.int .i64 e.kind) ∧ w'.cell? ⟨(ay.add (i * 14)).block, (ay.add (i * 14)).off + 5, none⟩ = some (.int .i64 e.side) ∧ w'.cell? ⟨(ay.add (i * 14)).block, (ay.add (i * 14)).off + 6, none⟩ = some (.int .i64 e.dir) ∧ w'.cell? ⟨(ay.add (i * 14)).block, (ay.add (i * 14)).off + 7, none⟩ = some (.int .i64 e.level) ∧ w'.cell? ⟨(ay.add (i * 14)).block, (ay.add (i * 14)).off + 8, none⟩ = some (.int .i64 e.size) ∧ w'.cell? ⟨(ay.add (i * 14)).block, (ay.add (i * 14)).off + 9, none⟩ = some (.int .i64 e.wth) ∧ w'.cell? ⟨(ay.add (i * 14)).block, (ay.add (i * 14)).off + 10, none⟩ = some (.int .i64 e.fn) ∧ w'.cell? ⟨(ay.add (i * 14)).block, (ay.add (i * 14)).off + 11, none⟩ = some (.int .i64 e.fd) ∧ w'.cell? ⟨(ay.add (i * 14)).block, (ay.add (i * 14)).off + 12, none⟩ = some (.int .i64 e.tn) ∧ w'.cell? ⟨(ay.add (i * 14)).block, (ay.add (i * 14)).off + 13, none⟩ = some (.int .i64 e.td)) V1 := ⟨(x1.cell (p := ⟨w.heap.size, 10, none⟩) zw5).trans G10.out, (x1.cell hadr).trans e0, (x1.cell (p := ⟨(ay.add (i * 14)).block, _, none⟩) hadr).trans e1, (x1.cell (p := ⟨(ay.add (i * 14)).block, _, none⟩) hadr).trans e2, (x1.cell (p := ⟨(ay.add (i * 14)).block, _, none⟩) hadr).trans e3, (x1.cell (p := ⟨(ay.add (i * 14)).block, _, none⟩) hadr).trans e4, (x1.cell (p := ⟨(ay.add (i * 14)).block, _, none⟩) hadr).trans e5, (x1.cell (p := ⟨(ay.add (i * 14)).block, _, none⟩) hadr).trans e6, (x1.cell (p := ⟨(ay.add (i * 14)).block, _, none⟩) hadr).trans e7, (x1.cell (p := ⟨(ay.add (i * 14)).block, _, none⟩) hadr).trans e8, (x1.cell (p := ⟨(ay.add (i * 14)).block, _, none⟩) hadr).trans e9, (x1.cell (p := ⟨(ay.add (i * 14)).block, _, none⟩) hadr).trans e10, (x1.cell (p := ⟨(ay.add (i * 14)).block, _, none⟩) hadr).trans e11, (x1.cell (p := ⟨(ay.add (i * 14)).block, _, none⟩) hadr).trans e12, (x1.cell (p := ⟨(ay.add (i * 14)).block, _, none⟩) hadr).trans e13⟩
            rw [← hV1]
            have CE := Lib.hid (Ty.Cs.of_blk' (l := [.int .i64 e.id, .int .i64 e.role, .int .i64 e.bar, .int .i64 e.mark, .int .i64 e.kind, .int .i64 e.side, .int .i64 e.dir, .int .i64 e.level, .int .i64 e.size, .int .i64 e.wth, .int .i64 e.fn, .int .i64 e.fd, .int .i64 e.tn, .int .i64 e.td]) hb1)
            have HX1 := Lib.hid x1
            clear hV1 hb1 x1 hb0 q0 xx
            refine ⟨q1, ?_⟩
            (try simp only [Act.put, List.setIfInBounds_toArray, List.set_cons_zero, List.set_cons_succ])
            refine wpAnyH_done (by kernel_rfl) ?_ _
            clear q1 hS e0 e1 e2 e3 e4 e5 e6 e7 e8 e9 e10 e11 e12 e13 hadr hmi hki hne0 hnil
            go_upto_region 8 with fail
            have hS : (fun w' : World => w'.cell? ⟨W5.heap.size, 10, none⟩ = some (.int .i64 e.fn) ∧ w'.cell? ⟨W5.heap.size, 11, none⟩ = some (.int .i64 e.fd) ∧ w'.cell? ⟨W5.heap.size, 2, none⟩ = some (.int .i64 e.bar)) ({ V1 with drawn := V1.drawn + 1 } : World) := ⟨CE.out.2 10 _ rfl, CE.out.2 11 _ rfl, CE.out.2 2 _ rfl⟩
            refine wp_region_held (S := (fun w' : World => w'.cell? ⟨W5.heap.size, 10, none⟩ = some (.int .i64 e.fn) ∧ w'.cell? ⟨W5.heap.size, 11, none⟩ = some (.int .i64 e.fd) ∧ w'.cell? ⟨W5.heap.size, 2, none⟩ = some (.int .i64 e.bar))) (by kernel_rfl) ?_
            refine Kit.take2 (i := 0) (v := .pointer (some ⟨W5.heap.size, 10, none⟩)) (some 68) rfl rfl (by kernel_rfl) (by kernel_rfl) (by kernel_rfl) (fun _ d _ _ h => by cases d <;> exact h) (Or.inl ⟨by rfl, fun wv hwv => by go_simp⟩) hS ?_
            (try simp only [Act.put, List.setIfInBounds_toArray, List.set_cons_zero, List.set_cons_succ])
            refine Kit.take2 (i := 1) (v := .agg #[.int .i64 e.fn, .int .i64 e.fd]) (some 69) rfl rfl (by kernel_rfl) (by kernel_rfl) (by kernel_rfl) (fun _ d _ _ h => by cases d <;> exact h) (Or.inl ⟨by rfl, fun wv hwv => by (obtain ⟨hw0, hw1, hw2⟩ := hwv; go_simp)⟩) hS ?_
            (try simp only [Act.put, List.setIfInBounds_toArray, List.set_cons_zero, List.set_cons_succ])
            refine Kit.take2 (i := 2) (v := .pointer (some ⟨W5.heap.size, 2, none⟩)) (some 70) rfl rfl (by kernel_rfl) (by kernel_rfl) (by kernel_rfl) (fun _ d _ _ h => by cases d <;> exact h) (Or.inl ⟨by rfl, fun wv hwv => by go_simp⟩) hS ?_
            (try simp only [Act.put, List.setIfInBounds_toArray, List.set_cons_zero, List.set_cons_succ])
            refine Kit.take2 (i := 3) (v := .int .i64 e.bar) (some 71) rfl rfl (by kernel_rfl) (by kernel_rfl) (by kernel_rfl) (fun _ d _ _ h => by cases d <;> exact h) (Or.inl ⟨by rfl, fun wv hwv => by (obtain ⟨hw0, hw1, hw2⟩ := hwv; go_simp)⟩) hS ?_
            (try simp only [Act.put, List.setIfInBounds_toArray, List.set_cons_zero, List.set_cons_succ])
            have h91 : ({ V1 with drawn := V1.drawn + 1 } : World).heap[b9]? = some (.cells #[.int .i64 N, .int .i64 (1 + (k2 : Int))] 39 (0, 0)) := (HX1.out.block b9 (Array.getElem?_eq_some_iff.1 HR5.out).1).trans HR5.out
            have hlt9 : b9 < W5.heap.size := (Array.getElem?_eq_some_iff.1 HR5.out).1
            refine wpAnyH_all (rs := [4]) (by kernel_rfl) (by simp) fun ii hii => ?_
            obtain rfl : ii = 4 := by simpa using hii
            refine Kit.wpOp_store (b := b9) (cells := #[.int .i64 e.fn, .int .i64 e.fd]) rfl rfl rfl rfl rfl (Kit.there_cells h91 rfl) (by kernel_rfl) (by simp [Value.oneCell']) ?_
            have xx := Kit.Exc.setCells (S := fun k => k = b9) rfl (#[.int .i64 e.fn, .int .i64 e.fd] : Array Value).toList 0 (Kit.Exc.refl _ ({ V1 with drawn := V1.drawn + 1 } : World))
            have hb2 := Kit.heap_setAll (cells := #[.int .i64 e.fn, .int .i64 e.fd]) h91 rfl
            obtain ⟨V2, hV2⟩ : ∃ V2, V2 = (({ V1 with drawn := V1.drawn + 1 } : World).setCells b9 0 (#[.int .i64 e.fn, .int .i64 e.fd] : Array Value).toList) := ⟨_, rfl⟩
            rw [← hV2] at hb2 xx
            rw [← hV2]
            have hne : W5.heap.size ≠ b9 := by omega
            have z11 := CE.out.1
            have q2 : (fun w' : World => w'.cell? ⟨W5.heap.size, 10, none⟩ = some (.int .i64 e.fn) ∧ w'.cell? ⟨W5.heap.size, 11, none⟩ = some (.int .i64 e.fd) ∧ w'.cell? ⟨W5.heap.size, 2, none⟩ = some (.int .i64 e.bar)) V2 := ⟨xx.cell (p := ⟨W5.heap.size, 10, none⟩) hS.1 hne z11, xx.cell (p := ⟨W5.heap.size, 11, none⟩) hS.2.1 hne z11, xx.cell (p := ⟨W5.heap.size, 2, none⟩) hS.2.2 hne z11⟩
            have HX2 := Lib.hid (show Kit.Exc (fun k => k = b9) W5 V2 from ((Kit.Exc.refl _ W5).then HX1.out).drew.trans xx)
            have HB2 := Lib.hid hb2
            clear hV2 xx hb2 h91
            refine ⟨q2, ?_⟩
            (try simp only [Act.put, List.setIfInBounds_toArray, List.set_cons_zero, List.set_cons_succ])
            refine Kit.take2 (i := 5) (v := .int .i64 e.bar) (some 10) rfl rfl (by kernel_rfl) (by kernel_rfl) (by kernel_rfl) (fun _ d _ _ h => by cases d <;> exact h) (Or.inl ⟨by rfl, fun wv hwv => by go_simp⟩) q2 ?_
            (try simp only [Act.put, List.setIfInBounds_toArray, List.set_cons_zero, List.set_cons_succ])
            refine wpAnyH_done (by kernel_rfl) ?_ _
            go_wp2_with fail
            go_meet
            case rel => exact ⟨rfl, e.bar, e.fn, e.fd, rfl, ⟨by omega, by omega, by omega⟩, Ty.Cs.of_blk' (l := [.int .i64 e.fn, .int .i64 e.fd]) HB2.out, HX2.out⟩
        case rest =>
          obtain ⟨rfl, bar, tn, td, rfl, HTB, CT, HX6⟩ := hcut
          obtain ⟨W6, rfl⟩ : ∃ W6, W6 = wc := ⟨_, rfl⟩
          have hc6 : ∀ q v, W5.cell? ⟨w.heap.size, q, none⟩ = some v → W6.cell? ⟨w.heap.size, q, none⟩ = some v := fun q v h => HX6.out.cell (p := ⟨w.heap.size, q, none⟩) h (by show ¬ (w.heap.size = b9); omega) zw5
          have H0 := Lib.hid (hc6 0 _ G0.out)
          have H1 := Lib.hid (hc6 1 _ G1.out)
          have H2 := Lib.hid (hc6 2 _ G2.out)
          have H3 := Lib.hid (hc6 3 _ G3.out)
          have H4 := Lib.hid (hc6 4 _ G4.out)
          have H5 := Lib.hid (hc6 5 _ G5.out)
          have H6 := Lib.hid (hc6 6 _ G6.out)
          have H7 := Lib.hid (hc6 7 _ G7.out)
          have H8 := Lib.hid (hc6 8 _ G8.out)
          have H9 := Lib.hid (hc6 9 _ G9.out)
          have H10 := Lib.hid (hc6 10 _ G10.out)
          have HB6 := Lib.hid (HB5w.out.trans (HX6.out.below (n := w.heap.size) (by omega) (fun k hk => by omega)))
          have zw6 : w.heap.size < W6.heap.size := Nat.lt_of_lt_of_le zw5 HX6.out.size
          clear hc6 HX6 HB5w HR5 HB5 G0 G1 G2 G3 G4 G5 G6 G7 G8 G9 G10 hc wk3 hNb
          have h5 := H5.out
          go_wp2_with fail
          clear h5
          go_loopw [75] (fun v75 wr => ∃ j : Nat, v75 = .int .i64 j ∧ j ≤ ro.length ∧ Hid (Below W6.heap.size W6 wr)) (fun v75 _ => ro.length - (intOf v75).toNat)
          case atStart => exact ⟨0, rfl, Nat.zero_le _, Below.refl _ _⟩
          case round =>
            obtain ⟨j, rfl, hj, HB⟩ := hrel
            by_cases hlt : j < ro.length
            · have hcell : ∀ q v, W6.cell? ⟨w.heap.size, q, none⟩ = some v → wr.cell? ⟨w.heap.size, q, none⟩ = some v := fun q v h => (HB.out.cell (p := ⟨w.heap.size, q, none⟩) zw6).trans h
              have x0 := hcell 0 _ H0.out
              have x1 := hcell 1 _ H1.out
              have x2 := hcell 2 _ H2.out
              have x3 := hcell 3 _ H3.out
              have x4 := hcell 4 _ H4.out
              have x5 := hcell 5 _ H5.out
              have x6 := hcell 6 _ H6.out
              have x7 := hcell 7 _ H7.out
              have x8 := hcell 8 _ H8.out
              have x9 := hcell 9 _ H9.out
              have x10 := hcell 10 _ H10.out
              have CTr := CT.out.kept HB.out (Nat.le_refl _)
              have t0 := CTr.2 0 _ rfl
              have t1 := CTr.2 1 _ rfl
              have zt := CTr.1
              have zx : w.heap.size < wr.heap.size := Nat.lt_of_lt_of_le zw6 HB.out.size
              have hwj : IntKind.i64.wrap ((j : Int) + 1) = (j : Int) + 1 := Ty.wrapZ (by omega)
              clear hcell CTr
              go_wp2_with fail
              refine (HLO.out j bar tn td _ (HB6.out.trans (HB.out.mono HB6.out.size)) ⟨HTB.out.1, Int.le_of_lt HTB.out.2.1, HTB.out.2.2⟩).mono ?_
              rintro _ w20 ⟨ar, cr, al, cl, rfl, sr, sl, hb20⟩
              obtain ⟨L, hL⟩ : ∃ L, L = Ty.lk sg j bar tn td := ⟨_, rfl⟩
              rw [← hL] at sr sl ⊢
              have HL := Lib.hid hL
              have SR := Lib.hid sr
              have HB20 := Lib.hid (HB.out.trans (hb20.mono HB.out.size))
              clear hL sr sl hb20 x0 x1 x2 x3 x4 x5 x6 x7 x8 x9 x10 t0 t1 zt zx HB
              go_upto_region 13 with fail
              refine Kit.wp_name ?_
              intro W22 hW22
              have b22 : Below w20.heap.size w20 W22 := by rw [hW22]; exact (Below.refl _ _).alloc (Nat.le_refl _) _
              have C13 := Lib.hid (show Ty.Cs W22 w20.heap.size (Ty.c6 L (.slice ar (Ty.rds L).length cr) (.slice al (Ty.lfs L).length cl)) by rw [hW22]; exact Ty.Cs.top rfl)
              obtain ⟨b13, hb13⟩ : ∃ b13, b13 = w20.heap.size := ⟨_, rfl⟩
              rw [← hb13] at C13
              rw [← hb13]
              have HB22 := Lib.hid (HB20.out.trans (b22.mono HB20.out.size))
              have SR22 := Lib.hid (SR.out.kept b22 (Nat.le_refl _))
              clear hW22 b22 hb13 SR HB20
              have c0 := C13.out.2 0 _ rfl
              have c1 := C13.out.2 1 _ rfl
              have c2 := C13.out.2 2 _ rfl
              have c3 := C13.out.2 3 _ rfl
              have c4 := C13.out.2 4 _ rfl
              have c5 := C13.out.2 5 _ rfl
              have zc := C13.out.1
              rcases hjm : Ty.jmp L with _ | _
              · have HST := Lib.hid (show ∀ W, Calls Tryd.prog 13 #[.agg #[.bool false, .bool (Ty.lgs L 1), .bool (Ty.lgs L 2), .bool false, .slice ar (Ty.rds L).length cr, .slice al (Ty.lfs L).length cl]] W fun e w' => e = .returned (.bool (Ty.std L)) ∧ Below W.heap.size W w' from fun W => by
                  have h := lw_stands L ar cr (.slice al (Ty.lfs L).length cl) W
                  unfold Ty.c6 at h
                  rw [hjm] at h
                  exact h)
                go_wp2_with fail
                refine (HST.out _).mono ?_
                rintro _ w23 ⟨rfl, hb23⟩
                have HB23 := Lib.hid (HB22.out.trans (hb23.mono HB22.out.size))
                have SR23 := Lib.hid (SR22.out.kept hb23 (Nat.le_refl _))
                have C13' := Lib.hid (C13.out.kept hb23 (Nat.le_refl _))
                clear hb23 c0 c1 c2 c3 c4 c5 zc HB22 SR22 C13 HST
                rcases hsd : Ty.std L with _ | _
                ·
                  obtain ⟨r, s', hr1, hp1, hp2, hp3, hs2, hl2, hw2, e1, e2, e3, e4⟩ := Ty.stands_law HIC.out HRT.out HRF.out HTB.out.2.1 (by rw [← HL.out]; exact hjm) (by rw [← HL.out]; exact hsd)
                  rw [← HL.out] at hr1
                  have hlen : (Ty.rds L).length = 1 := by rw [hr1]; rfl
                  have h := SR23.out
                  obtain ⟨ad, rfl, had, _⟩ := h.at (i := 0) (by rw [hlen]; omega)
                  have e0' := h.head (i := 0) (by rw [hlen]; omega) (by omega)
                  have e1' := h.field (i := 0) (j := 1) (by rw [hlen]; omega) (by omega) (by omega)
                  have e2' := h.field (i := 0) (j := 2) (by rw [hlen]; omega) (by omega) (by omega)
                  have e3' := h.field (i := 0) (j := 3) (by rw [hlen]; omega) (by omega) (by omega)
                  have e4' := h.field (i := 0) (j := 4) (by rw [hlen]; omega) (by omega) (by omega)
                  have e5' := h.field (i := 0) (j := 5) (by rw [hlen]; omega) (by omega) (by omega)
                  have e6' := h.field (i := 0) (j := 6) (by rw [hlen]; omega) (by omega) (by omega)
                  have e7' := h.field (i := 0) (j := 7) (by rw [hlen]; omega) (by omega) (by omega)
                  have e8' := h.field (i := 0) (j := 8) (by rw [hlen]; omega) (by omega) (by omega)
                  have e9' := h.field (i := 0) (j := 9) (by rw [hlen]; omega) (by omega) (by omega)
                  have e10' := h.field (i := 0) (j := 10) (by rw [hlen]; omega) (by omega) (by omega)
                  have e11' := h.field (i := 0) (j := 11) (by rw [hlen]; omega) (by omega) (by omega)
                  have e12' := h.field (i := 0) (j := 12) (by rw [hlen]; omega) (by omega) (by omega)
                  have e13' := h.field (i := 0) (j := 13) (by rw [hlen]; omega) (by omega) (by omega)
                  simp only [hr1, Ex.sgc, List.getD_cons_zero, Nat.zero_mul, Addr.add_zero'] at e0' e1' e2' e3' e4' e5' e6' e7' e8' e9' e10' e11' e12' e13'
                  have hwr : 1 ≤ r.wth ∧ r.wth ≤ 64 := by omega
                  have c4 := C13'.out.2 4 _ rfl
                  have zc := C13'.out.1
                  have hwp : IntKind.i64.wrap (r.wth - 1) = r.wth - 1 := Ty.wrapZ (by omega)
                  have HE := Lib.hid (And.intro e1 (And.intro e2 (And.intro e3 e4)))
                  have HS2 := Lib.hid hs2
                  have HL2' := Lib.hid hl2
                  have HW2 := Lib.hid hw2
                  clear h e1 e2 e3 e4 hs2 hl2 hw2 hjm hsd
                  go_upto_region 18 with fail
                  refine Kit.wp_name ?_
                  intro W24 hW24
                  have b24 : Below w23.heap.size w23 W24 := by rw [hW24]; exact (Below.refl _ _).alloc (Nat.le_refl _) _
                  have C14 := Lib.hid (show Ty.Cs W24 w23.heap.size [.int .i64 r.id, .int .i64 r.role, .int .i64 r.bar, .int .i64 r.mark, .int .i64 r.kind, .int .i64 r.side, .int .i64 r.dir, .int .i64 r.level, .int .i64 r.size, .int .i64 r.wth, .int .i64 r.fn, .int .i64 r.fd, .int .i64 r.tn, .int .i64 r.td] by rw [hW24]; exact Ty.Cs.top rfl)
                  obtain ⟨b14, hb14⟩ : ∃ b14, b14 = w23.heap.size := ⟨_, rfl⟩
                  rw [← hb14] at C14
                  rw [← hb14]
                  obtain ⟨pn, hpn⟩ : ∃ pn, pn = r.wth - 1 := ⟨_, rfl⟩
                  (try simp only [← hpn])
                  rw [← hpn] at hp1 hp2 hp3
                  have HS2' := Lib.hid (show Ty.std (Ty.lk sg pn bar tn td) = true by rw [hpn]; exact HS2.out)
                  have HL3 := Lib.hid (show Ty.lfs (Ty.lk sg pn bar tn td) = [s'] by rw [hpn]; exact HL2'.out)
                  have HB24 := Lib.hid (HB23.out.trans (b24.mono HB23.out.size))
                  clear hW24 b24 hb14 hpn hwp HS2 HL2' c4 zc hlen hwr e0' e1' e2' e3' e4' e5' e6' e7' e8' e9' e10' e11' e12' e13' SR23 C13' HB23
                  have hcell : ∀ q v, W6.cell? ⟨w.heap.size, q, none⟩ = some v → W24.cell? ⟨w.heap.size, q, none⟩ = some v := fun q v h => (HB24.out.cell (p := ⟨w.heap.size, q, none⟩) zw6).trans h
                  have x0 := hcell 0 _ H0.out
                  have x1 := hcell 1 _ H1.out
                  have x2 := hcell 2 _ H2.out
                  have x3 := hcell 3 _ H3.out
                  have x4 := hcell 4 _ H4.out
                  have x5 := hcell 5 _ H5.out
                  have x6 := hcell 6 _ H6.out
                  have x7 := hcell 7 _ H7.out
                  have x8 := hcell 8 _ H8.out
                  have x9 := hcell 9 _ H9.out
                  have x10 := hcell 10 _ H10.out
                  have CTr := CT.out.kept HB24.out (Nat.le_refl _)
                  have t0 := CTr.2 0 _ rfl
                  have t1 := CTr.2 1 _ rfl
                  have zt := CTr.1
                  have zx : w.heap.size < W24.heap.size := Nat.lt_of_lt_of_le zw6 HB24.out.size
                  have u1 : (pn == (j : Int)) = false := by simpa using hp1
                  have u2 : ¬ pn < 0 := by omega
                  have u3 : ¬ (ro.length : Int) ≤ pn := by omega
                  clear hcell CTr
                  go_wp2_with fail
                  refine (HLO.out pn bar tn td _ (HB6.out.trans (HB24.out.mono HB6.out.size)) ⟨HTB.out.1, Int.le_of_lt HTB.out.2.1, HTB.out.2.2⟩).mono ?_
                  rintro _ w25 ⟨ar2, cr2, al2, cl2, rfl, sr2, sl2, hb25⟩
                  obtain ⟨L2, hL2⟩ : ∃ L2, L2 = Ty.lk sg pn bar tn td := ⟨_, rfl⟩
                  rw [← hL2] at sl2 ⊢
                  have HST2 := Lib.hid (show ∀ W, Calls Tryd.prog 13 #[.agg #[.bool false, .bool (Ty.lgs L2 1), .bool (Ty.lgs L2 2), .bool (Ty.jmp L2), .slice ar2 (Ty.rds L2).length cr2, .slice al2 (Ty.lfs L2).length cl2]] W fun e w' => e = .returned (.bool true) ∧ Below W.heap.size W w' from fun W => by
                    have h := lw_stands L2 ar2 cr2 (.slice al2 (Ty.lfs L2).length cl2) W
                    rw [hL2, HS2'.out, ← hL2] at h
                    exact h)
                  have hl3 : Ty.lfs L2 = [s'] := by rw [hL2]; exact HL3.out
                  have hlen2 : (Ty.lfs L2).length = 1 := by rw [hl3]; rfl
                  obtain ⟨ad2, rfl, had2, _⟩ := sl2.at (i := 0) (by rw [hlen2]; omega)
                  have f9 := sl2.field (i := 0) (j := 9) (by rw [hlen2]; omega) (by omega) (by omega)
                  have f10 := sl2.field (i := 0) (j := 10) (by rw [hlen2]; omega) (by omega) (by omega)
                  have f11 := sl2.field (i := 0) (j := 11) (by rw [hlen2]; omega) (by omega) (by omega)
                  have f12 := sl2.field (i := 0) (j := 12) (by rw [hlen2]; omega) (by omega) (by omega)
                  have f13 := sl2.field (i := 0) (j := 13) (by rw [hlen2]; omega) (by omega) (by omega)
                  simp only [hl3, Ex.sgc, List.getD_cons_zero, Nat.zero_mul, Addr.add_zero', HE.out.1, HE.out.2.1, HE.out.2.2.1, HE.out.2.2.2, HW2.out] at f9 f10 f11 f12 f13
                  have HF := Lib.hid (And.intro f9 (And.intro f10 (And.intro f11 (And.intro f12 f13))))
                  have C14' := Lib.hid (C14.out.kept hb25 (Nat.le_refl _))
                  have HB25 := Lib.hid (HB24.out.trans (hb25.mono HB24.out.size))
                  clear hL2 sl2 sr2 hb25 f9 f10 f11 f12 f13 x0 x1 x2 x3 x4 x5 x6 x7 x8 x9 x10 t0 t1 zt zx u1 u2 u3 HB24 C14 HE HW2 HL3 HS2'
                  go_upto_region 21 with fail
                  refine Kit.wp_name ?_
                  intro W26 hW26
                  have b26 : Below w25.heap.size w25 W26 := by rw [hW26]; exact (Below.refl _ _).alloc (Nat.le_refl _) _
                  have C16 : Ty.Cs W26 w25.heap.size [.bool false, .bool (Ty.lgs L2 1), .bool (Ty.lgs L2 2), .bool (Ty.jmp L2), .slice ar2 (Ty.rds L2).length cr2, .slice (some ad2) 1 cl2] := by rw [hW26]; (try rw [hlen2]); exact Ty.Cs.top rfl
                  obtain ⟨b16, hb16⟩ : ∃ b16, b16 = w25.heap.size := ⟨_, rfl⟩
                  rw [← hb16] at C16
                  rw [← hb16]
                  have C14r := C14'.out.kept b26 (Nat.le_refl _)
                  have HB26 := Lib.hid (HB25.out.trans (b26.mono HB25.out.size))
                  have fl : ∀ (q : Nat) v, w25.cell? ⟨ad2.block, ad2.off + q, none⟩ = some v → ∀ z : Kit.Wd W26, z.val.cell? ⟨ad2.block, ad2.off + q, none⟩ = some v := fun q v h z => z.cell ((b26.cell (p := ⟨ad2.block, ad2.off + q, none⟩) had2).trans h) (Nat.lt_of_lt_of_le had2 b26.size)
                  have y9 := fl 9 _ HF.out.1
                  have y10 := fl 10 _ HF.out.2.1
                  have y11 := fl 11 _ HF.out.2.2.1
                  have y12 := fl 12 _ HF.out.2.2.2.1
                  have y13 := fl 13 _ HF.out.2.2.2.2
                  have z0 : ∀ z : Kit.Wd W26, z.val.cell? ⟨b16, 0, none⟩ = some (.bool false) := fun z => z.cell (C16.2 0 _ rfl) C16.1
                  have z1 : ∀ z : Kit.Wd W26, z.val.cell? ⟨b16, 1, none⟩ = some (.bool (Ty.lgs L2 1)) := fun z => z.cell (C16.2 1 _ rfl) C16.1
                  have z2 : ∀ z : Kit.Wd W26, z.val.cell? ⟨b16, 2, none⟩ = some (.bool (Ty.lgs L2 2)) := fun z => z.cell (C16.2 2 _ rfl) C16.1
                  have z3 : ∀ z : Kit.Wd W26, z.val.cell? ⟨b16, 3, none⟩ = some (.bool (Ty.jmp L2)) := fun z => z.cell (C16.2 3 _ rfl) C16.1
                  have z4 : ∀ z : Kit.Wd W26, z.val.cell? ⟨b16, 4, none⟩ = some (.slice ar2 (Ty.rds L2).length cr2) := fun z => z.cell (C16.2 4 _ rfl) C16.1
                  have z5 : ∀ z : Kit.Wd W26, z.val.cell? ⟨b16, 5, none⟩ = some (.slice (some ad2) 1 cl2) := fun z => z.cell (C16.2 5 _ rfl) C16.1
                  have v10 : ∀ z : Kit.Wd W26, z.val.cell? ⟨b14, 10, none⟩ = some (.int .i64 r.fn) := fun z => z.cell (C14r.2 10 _ rfl) C14r.1
                  have v11 : ∀ z : Kit.Wd W26, z.val.cell? ⟨b14, 11, none⟩ = some (.int .i64 r.fd) := fun z => z.cell (C14r.2 11 _ rfl) C14r.1
                  have v12 : ∀ z : Kit.Wd W26, z.val.cell? ⟨b14, 12, none⟩ = some (.int .i64 r.tn) := fun z => z.cell (C14r.2 12 _ rfl) C14r.1
                  have v13 : ∀ z : Kit.Wd W26, z.val.cell? ⟨b14, 13, none⟩ = some (.int .i64 r.td) := fun z => z.cell (C14r.2 13 _ rfl) C14r.1
                  rw [hlen2] at HST2
                  clear fl C16 C14r hW26 b26 hb16 C14' HB25 HF
                  refine Kit.wp_region_cls (by kernel_rfl) (by kernel_rfl) ?_
                  (repeat (go_big_quiet_step (exact Kit.calls_cls _ (HST2.out _))))
                  refine wpQuiet_nil ?_
                  intro z
                  have HZ := Lib.hid (HB26.out.trans (z.below.mono HB26.out.size))
                  clear y9 y10 y11 y12 y13 z0 z1 z2 z3 z4 z5 v10 v11 v12 v13
                  go_wp2
                  go_roundw
                  case rel => exact ⟨j + 1, by go_num, by omega, HZ.out⟩
                  case measure => simp [intOf]; omega
                · go_wp2
                  go_roundw
                  case rel => exact ⟨j + 1, by go_num, by omega, HB23.out⟩
                  case measure => simp [intOf]; omega
              · go_wp2
                go_roundw
                case rel => exact ⟨j + 1, by go_num, by omega, HB22.out⟩
                case measure => simp [intOf]; omega
            · obtain rfl : j = ro.length := by omega
              have HBF := Lib.hid (HB6.out.trans (HB.out.mono HB6.out.size))
              go_wp2
              go_ret
              exact ⟨rfl, HBF.out⟩
  · go_wp2
    go_ret
    exact ⟨rfl, by (repeat' first | (with_reducible first | exact Below.refl _ _ | assumption | refine Kit.below_drewN ?_ _ | refine Below.drew ?_ | refine Below.alloc ?_ ?_ _ | refine Below.setCell ?_ ?_ _ | exact Nat.le_refl _) | omega | (simp; omega) | (simp; done) | (apply Below.size; assumption))⟩
end Go.Proofs.YtggfeblfhabmkaaDoor
