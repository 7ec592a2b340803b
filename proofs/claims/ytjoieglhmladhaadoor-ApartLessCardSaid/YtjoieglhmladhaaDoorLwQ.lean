/- Walks: the law ApartSafe, of whatever it is handed. -/
import Derived.Test.YtjoieglhmladhaaDoorLwP
import Derived.Test.YtjoieglhmladhaaDoorClD
import Derived.Test.YtjoieglhmladhaaDoorKitl
namespace Go.Proofs.YtjoieglhmladhaaDoor
set_option linter.unusedVariables false
set_option linter.unusedSimpArgs false
open Go.RowKit Go.Shelf

theorem Kit.lt_of_cell {w : World} {b o : Nat} {v : Value} (h : w.cell? ⟨b, o, none⟩ = some v) : b < w.heap.size := by
  rcases Nat.lt_or_ge b w.heap.size with hlt | hge
  · exact hlt
  · unfold World.cell? at h
    rw [Array.getElem?_eq_none (by simpa using hge)] at h
    simp at h
namespace Ap
abbrev wz : Wg := ⟨0, 0, 0, 0, 0, 0, 0, 0⟩
theorem pthE_0 {bar : Int} : ∀ {gs : List Wg}, pthE bar gs = 0 → ∀ j, j < gs.length → (pathR (gs.getD j wz) bar).2.2.2.2 = 0
  | [], _, j, hj => by simp at hj
  | g :: gs, h, j, hj => by
    unfold pthE at h
    split at h
    · rename_i hg
      rcases j with _ | j
      · exact hg
      · have := pthE_0 h j (by simpa using hj)
        simpa using this
    · rename_i hg
      exact absurd h hg
theorem pths_at {bar : Int} {gs : List Wg} {j : Nat} (hj : j < gs.length) : (pths bar gs).getD j bz = toB (pathR (gs.getD j wz) bar) := by
  simp [pths, List.getD_eq_getElem?_getD, hj]
/-- What it means that Clashes answers no error. -/
theorem clE_0 {x : Ex.Wk} {gs : List Wg} {bar : Int} {mv hd : List Bx} {P : List (Int × Int)} (h : clE x gs bar mv hd P = 0) :
    Ex.chk x = 0 ∧ gs.length ≤ 8 ∧ Tp.inb bar 0 (x.n - 1) = true ∧ mv.length = x.ro.length ∧ hd.length = x.ro.length ∧ (∀ b ∈ mv, okB b = true) ∧ (∀ b ∈ hd, okB b = true) ∧ P.any (badP x.ro.length) = false ∧ pthE bar gs = 0 := by
  unfold clE at h
  split at h
  · rename_i h1
    split at h
    · rename_i h2
      split at h
      · rename_i h3
        split at h
        · rename_i h4
          split at h
          · rename_i h5
            split at h
            · rename_i h6
              exact ⟨h1, h2, h3, h4.1, h4.2, fun b hb => by simpa using List.any_eq_false.1 h5.1 b hb, fun b hb => by simpa using List.any_eq_false.1 h5.2 b hb, h6, h⟩
            · omega
          · omega
        · omega
      · omega
    · omega
  · rename_i h1
    exact absurd h h1
theorem chk_wd {x : Ex.Wk} (h0 : Ex.chk x = 0) : 1 ≤ x.wd ∧ x.wd ≤ 1000 ∧ 1 ≤ x.dp ∧ x.dp ≤ 1000 := by
  unfold Ex.chk at h0
  split at h0
  · omega
  split at h0
  · omega
  split at h0
  · rename_i h1 h2 h3
    simp only [Ex.okW, Ex.okH, Bool.and_eq_true] at h3
    have a1 := (Tp.inb_iff _ _ _).1 h3.1.1.1.1.1.1.1
    have a2 := (Tp.inb_iff _ _ _).1 h3.1.1.1.1.1.1.2
    omega
  · omega
end Ap
theorem Rf.few_le {x : Ex.Wk} {nW nM nH nQ : Nat} (h : Rf.fewAll x nW nM nH nQ = true) : nW ≤ 100 ∧ nM ≤ 100 ∧ nH ≤ 100 ∧ nQ ≤ 100 := by
  simp only [Rf.fewAll, Bool.and_eq_true, decide_eq_true_eq] at h
  omega

set_option maxRecDepth 100000 in
theorem law_safe (x : Ex.Wk) (p : Ex.Wa) (aW : Option Addr) (gs : List Ap.Wg) (cW : Nat) (bar : Int) (aM : Option Addr) (mv : List Ap.Bx) (cM : Nat) (aH : Option Addr) (hd : List Ap.Bx) (cH : Nat) (aQ : Option Addr) (P : List (Int × Int)) (cQ : Nat) (m : Int) (a b : Nat) (u v : Int) (w : World)
    (ha : Ex.At w x p) (hl : Ex.Laid w) (sW : Tp.Sl w aW gs.length 8 (Ap.wgc gs)) (sM : Tp.Sl w aM mv.length 4 (Ap.bxc mv)) (sH : Tp.Sl w aH hd.length 4 (Ap.bxc hd)) (sQ : Tp.Sl w aQ P.length 2 (Ap.prc P))
    (lW : gs.length ≤ 4611686018427387904) (lM : mv.length ≤ 4611686018427387904) (lH : hd.length ≤ 4611686018427387904) (lQ : P.length ≤ 4611686018427387904) (m0 : 0 ≤ m) (m1 : m < 18446744073709551616) (a1 : a < 256) (b1 : b < 256) :
    Calls Tryd.prog 6 #[Ex.workV x p, .agg #[.slice aW gs.length cW], .int .i64 bar, .slice aM mv.length cM, .slice aH hd.length cH, .slice aQ P.length cQ, .int .u64 m, .int .u8 a, .int .u8 b, .int .i64 u, .int .i64 v] w fun e w' => e = .returned (.bool true) ∧ Below w.heap.size w w' := by
  have hS : ∀ W, Below w.heap.size w W → Calls Tryd.prog 11 #[] W fun e w' => e = .returned (.bool true) ∧ Below W.heap.size W w' := fun W hB => lw_sane W (hl.kept hB (Nat.le_refl _))
  have hF : ∀ W, Below w.heap.size w W → Calls Tryd.prog 14 #[Ex.workV x p, .agg #[.slice aW gs.length cW], .slice aM mv.length cM, .slice aH hd.length cH, .slice aQ P.length cQ] W fun e w' => e = .returned (.bool (Rf.fewAll x gs.length mv.length hd.length P.length)) ∧ Below W.heap.size W w' :=
    fun W hB => rf_few29 x p aW gs.length cW aM mv.length cM aH hd.length cH aQ P.length cQ W (ha.kept hB (Nat.le_refl _)) lW lM lH lQ
  rcases hf : Rf.fewAll x gs.length mv.length hd.length P.length with _ | _
  · rw [hf] at hF
    exact law_safe_1 _ _ _ _ _ _ _ _ _ _ _ _ _ _ _ _ _ _ _ _ _ aW gs.length cW bar aM mv.length cM aH hd.length cH aQ P.length cQ m a b u v w hS hF
  · rw [hf] at hF
    obtain ⟨f1, f2, f3, f4⟩ := Rf.few_le hf
    have hC : ∀ W, Below w.heap.size w W → Calls Tryd.prog 21 #[Ex.workV x p, .agg #[.slice aW gs.length cW], .int .i64 bar, .slice aM mv.length cM, .slice aH hd.length cH, .slice aQ P.length cQ] W (Ap.CPost (Ap.cls x gs bar mv hd P) (Ap.clE x gs bar mv hd P) W) :=
      fun W hB => ap_clash x p aW gs cW bar aM mv cM aH hd cH aQ P cQ W (ha.kept hB (Nat.le_refl _)) (hl.kept hB (Nat.le_refl _)) (sW.kept hB (Nat.le_refl _)) (sM.kept hB (Nat.le_refl _)) (sH.kept hB (Nat.le_refl _)) (sQ.kept hB (Nat.le_refl _)) (by omega) (by omega) (by omega) (by omega)
    by_cases hE : Ap.clE x gs bar mv hd P = 0
    · rw [hE] at hC
      have hC2 : ∀ W, Below w.heap.size w W → Calls Tryd.prog 21 #[Ex.workV x p, .agg #[.slice aW gs.length cW], .int .i64 bar, .slice aM mv.length cM, .slice aH hd.length cH, .slice aQ P.length cQ] W fun e w' => ∃ ad c, e = .returned (.tuple #[.slice ad (Ap.cls x gs bar mv hd P).length c, .int .i64 0]) ∧ Below W.heap.size W w' := fun W hB => (hC W hB).mono fun e w' h => by
        unfold Ap.CPost at h
        rw [if_pos rfl] at h
        obtain ⟨v, rfl, ho, hb⟩ := h
        obtain ⟨ad, c, rfl, _⟩ := Ap.own_sl (f := Ap.c3c (Ap.cls x gs bar mv hd P)) ho (fun i j hi hj => Ap.flC_at _ i j hi hj)
        exact ⟨ad, c, rfl, hb⟩
      rcases Nat.eq_zero_or_pos (Ap.cls x gs bar mv hd P).length with h0 | h0
      · rw [h0] at hC2
        have hnil : Ap.cls x gs bar mv hd P = [] := List.eq_nil_of_length_eq_zero h0
        obtain ⟨k0, k1, k2, k3, k4, _, _, _, k5⟩ := Ap.clE_0 hE
        obtain ⟨r1, _, r0⟩ := Ex.roles k0
        have hi := Nat.mod_lt a r0
        have hk := Nat.mod_lt b r0
        have kM : ∀ W, Below w.heap.size w W → Tp.Sl W aM mv.length 4 (Ap.bxc mv) := fun W hB => sM.kept hB (Nat.le_refl _)
        have kH : ∀ W, Below w.heap.size w W → Tp.Sl W aH hd.length 4 (Ap.bxc hd) := fun W hB => sH.kept hB (Nat.le_refl _)
        have hIs : ∀ (i : Nat) (W : World), i < x.ro.length → Below w.heap.size w W → W.cell? ⟨w.heap.size + 1 + 1 + 1 + 1, 0, none⟩ = some (.int .u64 m) → W.cell? ⟨w.heap.size + 1 + 1, 0, none⟩ = some (.slice aM mv.length cM) → W.cell? ⟨w.heap.size + 1 + 1 + 1, 0, none⟩ = some (.slice aH hd.length cH) →
            Calls Tryd.prog 24 #[.int .i64 i, .pointer (some ⟨w.heap.size + 1 + 1 + 1 + 1, 0, none⟩), .pointer (some ⟨w.heap.size + 1 + 1, 0, none⟩), .pointer (some ⟨w.heap.size + 1 + 1 + 1, 0, none⟩)] W fun e w' =>
              ∃ b : Ap.Bx, (b = mv.getD i Ap.bz ∨ b = hd.getD i Ap.bz) ∧ e = .returned (Sp.boxV b.1 b.2.1 b.2.2.1 b.2.2.2) ∧ Below W.heap.size W w' := fun i W h1 hB c1 c2 c3 =>
          lw_is i m _ _ _ aM mv cM aH hd cH W (by omega) (by omega) (by omega) m0 m1 (by omega) (by omega) (Kit.lt_of_cell c1) (Kit.lt_of_cell c2) (Kit.lt_of_cell c3) c1 c2 c3 (kM W hB) (kH W hB)
        rw [k3, k4] at hF hC2 hIs ⊢
        refine law_safe_4 _ _ _ _ _ _ _ _ _ _ _ _ _ _ _ _ _ _ _ _ _ aW gs.length cW bar aM cM aH cH aQ P.length cQ m a b u v w hS hF hC2 (fun i => mv.getD i Ap.bz) (fun i => hd.getD i Ap.bz) (fun j => gs.getD j Ap.wz) (fun j => (Ap.pths bar gs).getD j Ap.bz) (Ap.has P)
          r0 r1 (Ap.chk_wd k0) a1 b1 lW hIs ?_ ?_ ?_ ?_ ?_ ?_
        · refine Kit.sl_congr (fun i j _ hj => ?_) sW
          rcases j with _ | _ | _ | _ | _ | _ | _ | _ | j <;> first | rfl | omega
        · intro j hj W
          have := ap_path (gs.getD j Ap.wz) bar W
          unfold Ap.Path at this
          rw [Ap.pthE_0 k5 j hj] at this
          (try dsimp only)
          rw [Ap.pths_at hj]
          exact this
        · intro s t W hB
          exact rf_has aQ P cQ s t W (by omega) (sQ.kept hB (Nat.le_refl _))
        · intro q hq hh
          have := Ap.no_edge k3 k4 hnil hi hq
          obtain ⟨q1, q2, q3, q4⟩ := q
          simp only [Lw.hd4, Lw.holds, Bool.and_eq_true, decide_eq_true_eq, Ap.ins, Sp.inside, Ap.flo] at hh this
          obtain ⟨⟨h1, h2⟩, h3, h4⟩ := this
          have h1 := of_decide_eq_true h1
          have h2 := of_decide_eq_true h2
          have h3 := of_decide_eq_true h3
          have h4 := of_decide_eq_true h4
          omega
        · intro q hq hh j hj
          have := Ap.no_wagon k3 k4 hnil hi hj hq
          (try dsimp only)
          generalize (Ap.pths bar gs).getD j Ap.bz = t at *
          obtain ⟨q1, q2, q3, q4⟩ := q
          obtain ⟨t1, t2, t3, t4⟩ := t
          simp only [Lw.hd4, Lw.holds, Bool.and_eq_true, decide_eq_true_eq, Ap.meet, Sp.meets] at hh this ⊢
          simp at this ⊢
          omega
        · intro q hq hh t ht hor
          have hm : Ap.meet q t = false ∨ Ap.meet t q = false := by
            rcases hor with ⟨h1, h2⟩ | ⟨h1, h2⟩
            · exact .inl (Ap.no_roles k3 k4 hnil h1 hk h2 hq ht)
            · exact .inr (Ap.no_roles k3 k4 hnil h1 hi h2 ht hq)
          obtain ⟨q1, q2, q3, q4⟩ := q
          obtain ⟨t1, t2, t3, t4⟩ := t
          simp only [Lw.hd4, Lw.holds, Bool.and_eq_true, decide_eq_true_eq, Ap.meet, Sp.meets] at hh hm ⊢
          simp at hm ⊢
          omega
      · exact law_safe_3 _ _ _ _ _ _ _ _ _ _ _ _ _ _ _ _ _ _ _ _ _ aW gs.length cW bar aM mv.length cM aH hd.length cH aQ P.length cQ m a b u v w hS hF _ h0 hC2
    · refine law_safe_2 _ _ _ _ _ _ _ _ _ _ _ _ _ _ _ _ _ _ _ _ _ aW gs.length cW bar aM mv.length cM aH hd.length cH aQ P.length cQ m a b u v w hS hF (Ap.clE x gs bar mv hd P) (by simpa using hE) (fun W hB => (hC W hB).mono fun e w' h => ?_)
      unfold Ap.CPost at h
      rw [if_neg hE] at h
      exact h
theorem Lw.u8_bd {n : Int} (h : (Lit.int .u8 n).wf = true) : 0 ≤ n ∧ n < 256 := by
  simp only [Lit.wf, Bool.and_eq_true, decide_eq_true_eq] at h
  have h1 : IntKind.min .u8 = 0 := by decide
  have h2 : IntKind.max .u8 = 255 := by decide
  omega
theorem Lw.u64_bd {n : Int} (h : (Lit.int .u64 n).wf = true) : 0 ≤ n ∧ n < 18446744073709551616 := by
  simp only [Lit.wf, Bool.and_eq_true, decide_eq_true_eq] at h
  have h1 : IntKind.min .u64 = 0 := by decide
  have h2 : IntKind.max .u64 = 18446744073709551615 := by decide
  omega
/-- .. as the card hands it in. -/
theorem Lw.safe_in {x : Ex.Wk} {p : Ex.Wa} {aW : Option Addr} {gs : List Ap.Wg} {cW : Nat} {bar : Int} {aM : Option Addr} {mv : List Ap.Bx} {cM : Nat} {aH : Option Addr} {hd : List Ap.Bx} {cH : Nat} {aQ : Option Addr} {P : List (Int × Int)} {cQ : Nat} {m a b : Int} {u v : Int} {w : World}
    (ha : Ex.At w x p) (hl : Ex.Laid w) (sW : Tp.Sl w aW gs.length 8 (Ap.wgc gs)) (sM : Tp.Sl w aM mv.length 4 (Ap.bxc mv)) (sH : Tp.Sl w aH hd.length 4 (Ap.bxc hd)) (sQ : Tp.Sl w aQ P.length 2 (Ap.prc P))
    (lW : gs.length ≤ 4611686018427387904) (lM : mv.length ≤ 4611686018427387904) (lH : hd.length ≤ 4611686018427387904) (lQ : P.length ≤ 4611686018427387904) (w6 : (Lit.int .u64 m).wf = true) (w7 : (Lit.int .u8 a).wf = true) (w8 : (Lit.int .u8 b).wf = true) :
    Calls Tryd.prog 6 #[Ex.workV x p, .agg #[.slice aW gs.length cW], .int .i64 bar, .slice aM mv.length cM, .slice aH hd.length cH, .slice aQ P.length cQ, .int .u64 m, .int .u8 a, .int .u8 b, .int .i64 u, .int .i64 v] w fun e w' => e = .returned (.bool true) ∧ Below w.heap.size w w' := by
  have h6 := Lw.u64_bd w6
  have h7 := Lw.u8_bd w7
  have h8 := Lw.u8_bd w8
  obtain ⟨a, rfl⟩ := Int.eq_ofNat_of_zero_le h7.1
  obtain ⟨b, rfl⟩ := Int.eq_ofNat_of_zero_le h8.1
  exact law_safe x p aW gs cW bar aM mv cM aH hd cH aQ P cQ m a b u v w ha hl sW sM sH sQ lW lM lH lQ h6.1 h6.2 (by omega) (by omega)
end Go.Proofs.YtjoieglhmladhaaDoor
