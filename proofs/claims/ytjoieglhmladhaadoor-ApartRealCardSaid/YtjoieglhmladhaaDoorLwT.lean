/- Walks: the law ApartReal, of whatever it is handed. -/
import Derived.Test.YtjoieglhmladhaaDoorLwS
import Derived.Test.YtjoieglhmladhaaDoorLwQ
namespace Go.Proofs.YtjoieglhmladhaaDoor
set_option linter.unusedVariables false
set_option linter.unusedSimpArgs false
open Go.RowKit Go.Shelf

namespace Ap
theorem allC_len (h : Int → Int → Bool) (kd : Int) (u v : List Bx) (R : Nat) : ∀ (n a : Nat), (allC h kd u v R a n).length ≤ n * R
  | 0, a => by simp [allC]
  | n + 1, a => by
    have h1 := allC_len h kd u v R n (a + 1)
    have h2 := rowC_len h kd (u.getD a (0, 0, 0, 0)) v a (R - (a + 1)) (a + 1)
    rw [allC, List.length_append, Nat.succ_mul]
    omega
theorem one_len {mv hd : List Bx} {N : Nat} (hm : mv.length ≤ N) (hh : hd.length ≤ N) (k : Nat) : (one mv hd k).length ≤ N := by
  unfold one
  split
  · simp
  · split <;> assumption
theorem ksC_len (h : Int → Int → Bool) (mv hd : List Bx) (R N : Nat) (hm : mv.length ≤ N) (hh : hd.length ≤ N) : ∀ (n k : Nat), (ksC h mv hd R k n).length ≤ n * (N * R)
  | 0, k => by simp [ksC]
  | n + 1, k => by
    have h1 := ksC_len h mv hd R N hm hh n (k + 1)
    have h2 := allC_len h k (one mv hd k) (two mv hd k) R (one mv hd k).length 0
    have h3 := Nat.mul_le_mul_right R (one_len hm hh k)
    rw [ksC, List.length_append, Nat.succ_mul]
    omega
theorem rowW_len (p q : Bx) (ps : List Bx) (a : Nat) : ∀ (n b : Nat), (rowW p q ps a b n).length ≤ n
  | 0, _ => by simp [rowW]
  | n + 1, b => by
    have := rowW_len p q ps a n (b + 1)
    unfold rowW
    split
    · simp; omega
    · omega
theorem allW_len (mv hd ps : List Bx) : ∀ (n a : Nat), (allW mv hd ps a n).length ≤ n * ps.length
  | 0, a => by simp [allW]
  | n + 1, a => by
    have h1 := allW_len mv hd ps n (a + 1)
    have h2 := rowW_len (mv.getD a (0, 0, 0, 0)) (hd.getD a (0, 0, 0, 0)) ps a ps.length 0
    rw [allW, List.length_append, Nat.succ_mul]
    omega
theorem allE_len (f : Bx) (mv hd : List Bx) : ∀ (n a : Nat), (allE f mv hd a n).length ≤ n
  | 0, _ => by simp [allE]
  | n + 1, a => by
    have := allE_len f mv hd n (a + 1)
    unfold allE
    split
    · simp; omega
    · omega
theorem cls_len (x : Ex.Wk) (gs : List Wg) (bar : Int) (mv hd : List Bx) (P : List (Int × Int)) (hm : mv.length = x.ro.length) (hh : hd.length = x.ro.length) (hr : x.ro.length ≤ 64) (hg : gs.length ≤ 100) : (cls x gs bar mv hd P).length ≤ 4611686018427387904 := by
  have h1 := ksC_len (has P) mv hd x.ro.length 64 (by omega) (by omega) 5 0
  have h2 := allW_len mv hd (pths bar gs) x.ro.length 0
  have h3 := allE_len (flo x) mv hd x.ro.length 0
  have h4 : (pths bar gs).length ≤ 100 := by simpa [pths] using hg
  have h5 := Nat.mul_le_mul hr h4
  have h6 := Nat.mul_le_mul_left 64 hr
  unfold cls
  rw [List.length_append, List.length_append]
  omega
end Ap
namespace Lw
/-- The clashes are real. -/
theorem real_cls (x : Ex.Wk) (gs : List Ap.Wg) (bar : Int) (mv hd : List Ap.Bx) (P : List (Int × Int)) (hm : mv.length = x.ro.length) (hh : hd.length = x.ro.length) (c : Ap.C3) (hc : c ∈ Ap.cls x gs bar mv hd P) :
    Real (Ap.has P) (fun i => mv.getD i Ap.bz) (fun i => hd.getD i Ap.bz) (fun j => (Ap.pths bar gs).getD j Ap.bz) (Ap.flo x) x.ro.length gs.length c := by
  rcases (Ap.mem_cls x gs bar mv hd P hm hh c).1 hc with ⟨q, i, j, h1, h2, h3, h4, rfl, h5, h6⟩ | ⟨i, j, h1, h2, rfl, h3⟩ | ⟨i, h1, rfl, h2⟩
  · have hq : q = 1 ∨ q = 2 ∨ q = 3 ∨ q = 4 := by omega
    rcases hq with rfl | rfl | rfl | rfl
    · exact .k1 i j h3 h4 h5 (by simpa [Ap.oneL, Ap.twoL] using h6)
    · exact .k2 i j h3 h4 h5 (by simpa [Ap.oneL, Ap.twoL] using h6)
    · exact .k3 i j h3 h4 h5 (by simpa [Ap.oneL, Ap.twoL] using h6)
    · exact .k4 i j h3 h4 h5 (by simpa [Ap.oneL, Ap.twoL] using h6)
  · exact .k5 i j h1 h2 (by simpa only [Bool.or_eq_true] using h3)
  · exact .k6 i h1 (by simpa only [Bool.or_eq_true, Bool.not_eq_true'] using h2)
theorem getD_mem {α : Type} {l : List α} {i : Nat} (d : α) (h : i < l.length) : l.getD i d ∈ l := by
  rw [List.getD_eq_getElem?_getD, List.getElem?_eq_getElem h]
  exact List.getElem_mem h
end Lw

set_option maxRecDepth 100000 in
theorem law_real (x : Ex.Wk) (p : Ex.Wa) (aW : Option Addr) (gs : List Ap.Wg) (cW : Nat) (bar : Int) (aM : Option Addr) (mv : List Ap.Bx) (cM : Nat) (aH : Option Addr) (hd : List Ap.Bx) (cH : Nat) (aQ : Option Addr) (P : List (Int × Int)) (cQ : Nat) (w : World)
    (ha : Ex.At w x p) (hl : Ex.Laid w) (sW : Tp.Sl w aW gs.length 8 (Ap.wgc gs)) (sM : Tp.Sl w aM mv.length 4 (Ap.bxc mv)) (sH : Tp.Sl w aH hd.length 4 (Ap.bxc hd)) (sQ : Tp.Sl w aQ P.length 2 (Ap.prc P))
    (lW : gs.length ≤ 4611686018427387904) (lM : mv.length ≤ 4611686018427387904) (lH : hd.length ≤ 4611686018427387904) (lQ : P.length ≤ 4611686018427387904) :
    Calls Tryd.prog 7 #[Ex.workV x p, .agg #[.slice aW gs.length cW], .int .i64 bar, .slice aM mv.length cM, .slice aH hd.length cH, .slice aQ P.length cQ] w fun e w' => e = .returned (.bool true) ∧ Below w.heap.size w w' := by
  have hS : ∀ W, Below w.heap.size w W → Calls Tryd.prog 11 #[] W fun e w' => e = .returned (.bool true) ∧ Below W.heap.size W w' := fun W hB => lw_sane W (hl.kept hB (Nat.le_refl _))
  have hF : ∀ W, Below w.heap.size w W → Calls Tryd.prog 14 #[Ex.workV x p, .agg #[.slice aW gs.length cW], .slice aM mv.length cM, .slice aH hd.length cH, .slice aQ P.length cQ] W fun e w' => e = .returned (.bool (Rf.fewAll x gs.length mv.length hd.length P.length)) ∧ Below W.heap.size W w' :=
    fun W hB => rf_few29 x p aW gs.length cW aM mv.length cM aH hd.length cH aQ P.length cQ W (ha.kept hB (Nat.le_refl _)) lW lM lH lQ
  rcases hf : Rf.fewAll x gs.length mv.length hd.length P.length with _ | _
  · rw [hf] at hF
    exact law_real_1 _ _ _ _ _ _ _ _ _ _ _ _ _ _ _ _ _ _ _ _ _ aW gs.length cW bar aM mv.length cM aH hd.length cH aQ P.length cQ w hS hF
  · rw [hf] at hF
    obtain ⟨f1, f2, f3, f4⟩ := Rf.few_le hf
    have hC : ∀ W, Below w.heap.size w W → Calls Tryd.prog 21 #[Ex.workV x p, .agg #[.slice aW gs.length cW], .int .i64 bar, .slice aM mv.length cM, .slice aH hd.length cH, .slice aQ P.length cQ] W (Ap.CPost (Ap.cls x gs bar mv hd P) (Ap.clE x gs bar mv hd P) W) :=
      fun W hB => ap_clash x p aW gs cW bar aM mv cM aH hd cH aQ P cQ W (ha.kept hB (Nat.le_refl _)) (hl.kept hB (Nat.le_refl _)) (sW.kept hB (Nat.le_refl _)) (sM.kept hB (Nat.le_refl _)) (sH.kept hB (Nat.le_refl _)) (sQ.kept hB (Nat.le_refl _)) (by omega) (by omega) (by omega) (by omega)
    by_cases hE : Ap.clE x gs bar mv hd P = 0
    · rw [hE] at hC
      obtain ⟨k0, k1, k2, k3, k4, o1, o2, _, k5⟩ := Ap.clE_0 hE
      obtain ⟨r1, _, r0⟩ := Ex.roles k0
      have hlen : (Ap.cls x gs bar mv hd P).length ≤ 4611686018427387904 := Ap.cls_len x gs bar mv hd P k3 k4 r1 (by omega)
      have hC2 : ∀ W, Below w.heap.size w W → Calls Tryd.prog 21 #[Ex.workV x p, .agg #[.slice aW gs.length cW], .int .i64 bar, .slice aM mv.length cM, .slice aH hd.length cH, .slice aQ P.length cQ] W fun e w' => ∃ ad c, e = .returned (.tuple #[.slice ad (Ap.cls x gs bar mv hd P).length c, .int .i64 0]) ∧ Tp.Sl w' ad (Ap.cls x gs bar mv hd P).length 3 (Ap.c3c (Ap.cls x gs bar mv hd P)) ∧ Below W.heap.size W w' := fun W hB => (hC W hB).mono fun e w' h => by
        unfold Ap.CPost at h
        rw [if_pos rfl] at h
        obtain ⟨v, rfl, ho, hb⟩ := h
        obtain ⟨ad, c, rfl, hs, _⟩ := Ap.own_sl (f := Ap.c3c (Ap.cls x gs bar mv hd P)) ho (fun i j hi hj => Ap.flC_at _ i j hi hj)
        exact ⟨ad, c, rfl, hs, hb⟩
      have hform : ∀ k, k < (Ap.cls x gs bar mv hd P).length → Lw.Real (Ap.has P) (fun i => mv.getD i Ap.bz) (fun i => hd.getD i Ap.bz) (fun j => (Ap.pths bar gs).getD j Ap.bz) (Ap.flo x) x.ro.length gs.length ((Ap.cls x gs bar mv hd P).getD k (0, 0, 0)) :=
        fun k hk => Lw.real_cls x gs bar mv hd P k3 k4 _ (Lw.getD_mem _ hk)
      have wd := Ap.chk_wd k0
      have kM : Tp.Sl w aM x.ro.length 4 (Lw.bxf fun i => mv.getD i Ap.bz) := by
        rw [← k3]
        refine Kit.sl_congr (fun i j _ hj => ?_) sM
        rcases j with _ | _ | _ | _ | j <;> first | rfl | omega
      have kH : Tp.Sl w aH x.ro.length 4 (Lw.bxf fun i => hd.getD i Ap.bz) := by
        rw [← k4]
        refine Kit.sl_congr (fun i j _ hj => ?_) sH
        rcases j with _ | _ | _ | _ | j <;> first | rfl | omega
      have q1 : ∀ i, i < x.ro.length → Ap.okB (mv.getD i Ap.bz) = true := fun i hi => o1 _ (Lw.getD_mem _ (by omega))
      have q2 : ∀ i, i < x.ro.length → Ap.okB (hd.getD i Ap.bz) = true := fun i hi => o2 _ (Lw.getD_mem _ (by omega))
      rw [k3, k4] at hF hC2 ⊢
      refine law_real_3 _ _ _ _ _ _ _ _ _ _ _ _ _ _ _ _ _ _ _ _ _ aW gs.length cW bar aM cM aH cH aQ P.length cQ w hS hF (Ap.cls x gs bar mv hd P) (Ap.flo x) hC2 (fun i => mv.getD i Ap.bz) (fun i => hd.getD i Ap.bz) (fun j => gs.getD j Ap.wz) (fun j => (Ap.pths bar gs).getD j Ap.bz) (Ap.has P)
        r1 lW hlen ?_ ?_ kM kH ?_ ?_ q1 q2 ?_ ?_ hform (fun k hk => Ap.srt_at (Ap.srt_cls x gs bar mv hd P) hk)
      · intro W
        exact rf_floor x p W wd
      · refine Kit.sl_congr (fun i j _ hj => ?_) sW
        rcases j with _ | _ | _ | _ | _ | _ | _ | _ | j <;> first | rfl | omega
      · intro j hj W
        have := ap_path (gs.getD j Ap.wz) bar W
        unfold Ap.Path at this
        rw [Ap.pthE_0 k5 j hj] at this
        (try dsimp only)
        rw [Ap.pths_at hj]
        exact this
      · intro s t W hB
        exact rf_has aQ P cQ s t W (by omega) (sQ.kept hB (Nat.le_refl _))
      · intro j hj
        (try dsimp only)
        rw [Ap.pths_at hj]
        exact Ap.pathR_ok (Ap.pthE_0 k5 j hj)
      · have hfl : Sp.okBox 0 (841 * x.wd) 0 (841 * x.dp) = true := by simp [Sp.okBox, Sp.inB]; omega
        exact hfl
    · refine law_real_2 _ _ _ _ _ _ _ _ _ _ _ _ _ _ _ _ _ _ _ _ _ aW gs.length cW bar aM mv.length cM aH hd.length cH aQ P.length cQ w hS hF (Ap.clE x gs bar mv hd P) (by simpa using hE) (fun W hB => (hC W hB).mono fun e w' h => ?_)
      unfold Ap.CPost at h
      rw [if_neg hE] at h
      exact h
end Go.Proofs.YtjoieglhmladhaaDoor
