/- Walks: package apart: Clashes, of whatever it is handed. -/
import Derived.Test.YtjoieglhmladhaaDoorClC
namespace Go.Proofs.YtjoieglhmladhaaDoor
set_option linter.unusedVariables false
set_option linter.unusedSimpArgs false
open Go.RowKit Go.Shelf

/-- Clashes. -/
theorem ap_clash (x : Ex.Wk) (p : Ex.Wa) (aW : Option Addr) (gs : List Ap.Wg) (cW : Nat) (bar : Int) (aM : Option Addr) (mv : List Ap.Bx) (cM : Nat) (aH : Option Addr) (hd : List Ap.Bx) (cH : Nat) (aQ : Option Addr) (P : List (Int × Int)) (cQ : Nat) (w : World)
    (ha : Ex.At w x p) (hl : Ex.Laid w) (sW : Tp.Sl w aW gs.length 8 (Ap.wgc gs)) (sM : Tp.Sl w aM mv.length 4 (Ap.bxc mv)) (sH : Tp.Sl w aH hd.length 4 (Ap.bxc hd)) (sQ : Tp.Sl w aQ P.length 2 (Ap.prc P))
    (lW : gs.length ≤ 1099511627776) (lM : mv.length ≤ 1099511627776) (lH : hd.length ≤ 1099511627776) (lQ : P.length ≤ 1099511627776) :
    Calls Tryd.prog 21 #[Ex.workV x p, .agg #[.slice aW gs.length cW], .int .i64 bar, .slice aM mv.length cM, .slice aH hd.length cH, .slice aQ P.length cQ] w (Ap.CPost (Ap.cls x gs bar mv hd P) (Ap.clE x gs bar mv hd P) w) := by
  have hc : ∀ W, Below w.heap.size w W → Ex.Chk x p W (Ex.chk x) := fun W hB => ex_check x p W (ha.kept hB (Nat.le_refl _)) (hl.kept hB (Nat.le_refl _))
  unfold Ex.Chk at hc
  have err : ∀ (r : Int), r ≠ 0 → Ap.clE x gs bar mv hd P = r →
      (Calls Tryd.prog 21 #[Ex.workV x p, .agg #[.slice aW gs.length cW], .int .i64 bar, .slice aM mv.length cM, .slice aH hd.length cH, .slice aQ P.length cQ] w fun e w' => e = .returned (.tuple #[.slice none 0 0, .int .i64 r]) ∧ Below w.heap.size w w') →
      Calls Tryd.prog 21 #[Ex.workV x p, .agg #[.slice aW gs.length cW], .int .i64 bar, .slice aM mv.length cM, .slice aH hd.length cH, .slice aQ P.length cQ] w (Ap.CPost (Ap.cls x gs bar mv hd P) (Ap.clE x gs bar mv hd P) w) := by
    intro r hr he h
    refine h.mono ?_
    rintro e w' ⟨rfl, hb⟩
    exact Ap.CPost.err he hr hb
  by_cases h0 : Ex.chk x = 0
  · rw [h0] at hc
    obtain ⟨n1, n2⟩ := Ex.bars h0
    obtain ⟨r1, _, r3⟩ := Ex.roles h0
    by_cases hg : gs.length ≤ 8
    · by_cases hb : Tp.inb bar 0 (x.n - 1) = true
      · by_cases hlen : mv.length = x.ro.length ∧ hd.length = x.ro.length
        · by_cases hok : (mv.any fun b => !Ap.okB b) = false ∧ (hd.any fun b => !Ap.okB b) = false
          · have hE : Ap.clE x gs bar mv hd P = if P.any (Ap.badP x.ro.length) = false then Ap.pthE bar gs else 290 := by
              unfold Ap.clE
              rw [if_pos h0, if_pos hg, if_pos hb, if_pos hlen, if_pos hok]
            have hwd : 1 ≤ x.wd ∧ x.wd ≤ 1000 ∧ 1 ≤ x.dp ∧ x.dp ≤ 1000 := by
              unfold Ex.chk at h0
              split at h0
              · omega
              split at h0
              · omega
              split at h0
              · rename_i h1 h2 h3
                simp only [Ex.okW, Ex.okH, Bool.and_eq_true] at h3
                have a1 := (Tp.inb_iff _ _ _).1 h3.1.1.1.1.1.1.1
                have a2 := (Tp.inb_iff _ _ _).1 h3.1.1.1.1.1.1.2
                omega
              · omega
            have cM' : ∀ W, Below w.heap.size w W → Calls Tryd.prog 51 #[.slice aM x.ro.length cM, .func (.func 50) #[] #[]] W fun e w' => e = .returned (.bool false) ∧ Below W.heap.size W w' := fun W hB => by
              have := ap_contains aM mv cM W (by omega) (sM.kept hB (Nat.le_refl _))
              rw [hok.1, hlen.1] at this
              exact this
            have cH' : ∀ W, Below w.heap.size w W → Calls Tryd.prog 51 #[.slice aH x.ro.length cH, .func (.func 50) #[] #[]] W fun e w' => e = .returned (.bool false) ∧ Below W.heap.size W w' := fun W hB => by
              have := ap_contains aH hd cH W (by omega) (sH.kept hB (Nat.le_refl _))
              rw [hok.2, hlen.2] at this
              exact this
            have oM : ∀ b ∈ mv, Ap.okB b = true := fun b hb => by
              have := List.any_eq_false.1 hok.1 b hb
              simpa using this
            have oH : ∀ b ∈ hd, Ap.okB b = true := fun b hb => by
              have := List.any_eq_false.1 hok.2 b hb
              simpa using this
            have sM' := sM
            have sH' := sH
            rw [hlen.1] at sM'
            rw [hlen.2] at sH'
            rw [hlen.1, hlen.2]
            exact ap_clash_6a x.wd x.dp x.ta x.tb x.tc p.aR x.ro.length p.cR x.n p.aT x.ts.length p.cT p.aP x.ps.length p.cP p.aS x.ss.length p.cS p.aG x.sg.length p.cG aW gs cW bar aM mv cM aH hd cH aQ P cQ w
              hg n1 n2 hb r1 lQ hwd.1 hwd.2.1 hwd.2.2.1 hwd.2.2.2 hlen.1 hlen.2 sM' sH' sW sQ oM oH cM' cH' hc _ hE _ rfl
          · refine err 290 (by decide) (by unfold Ap.clE; rw [if_pos h0, if_pos hg, if_pos hb, if_pos hlen, if_neg hok]) ?_
            refine ap_clash_5a x.wd x.dp x.ta x.tb x.tc p.aR x.ro.length p.cR x.n p.aT x.ts.length p.cT p.aP x.ps.length p.cP p.aS x.ss.length p.cS p.aG x.sg.length p.cG aW gs cW bar aM mv cM aH hd cH aQ P cQ w
              hg n1 n2 hb r1 hlen.1 hlen.2 sM sH ?_ hc
            rcases h1 : (mv.any fun b => !Ap.okB b) with _ | _
            · rcases h2 : (hd.any fun b => !Ap.okB b) with _ | _
              · exact absurd ⟨h1, h2⟩ hok
              · exact .inr rfl
            · exact .inl rfl
        · refine err 290 (by decide) (by unfold Ap.clE; rw [if_pos h0, if_pos hg, if_pos hb, if_neg hlen]) ?_
          exact ap_clash_4a x.wd x.dp x.ta x.tb x.tc p.aR x.ro.length p.cR x.n p.aT x.ts.length p.cT p.aP x.ps.length p.cP p.aS x.ss.length p.cS p.aG x.sg.length p.cG aW gs cW bar aM mv cM aH hd cH aQ P cQ w
            hg n1 n2 hb r1 (by omega) (by omega) (by omega) hc
      · refine err 1 (by decide) (by unfold Ap.clE; rw [if_pos h0, if_pos hg, if_neg hb]) ?_
        exact ap_clash_3a x.wd x.dp x.ta x.tb x.tc p.aR x.ro.length p.cR x.n p.aT x.ts.length p.cT p.aP x.ps.length p.cP p.aS x.ss.length p.cS p.aG x.sg.length p.cG aW gs cW bar aM mv cM aH hd cH aQ P cQ w
          hg n1 n2 (by simpa using hb) hc
    · refine err 2 (by decide) (by unfold Ap.clE; rw [if_pos h0, if_neg hg]) ?_
      exact ap_clash_2a x.wd x.dp x.ta x.tb x.tc p.aR x.ro.length p.cR x.n p.aT x.ts.length p.cT p.aP x.ps.length p.cP p.aS x.ss.length p.cS p.aG x.sg.length p.cG aW gs cW bar aM mv cM aH hd cH aQ P cQ w
        (by omega) (by omega) hc
  · refine err (Ex.chk x) h0 (by unfold Ap.clE; rw [if_neg h0]) ?_
    exact ap_clash_1a x.wd x.dp x.ta x.tb x.tc p.aR x.ro.length p.cR x.n p.aT x.ts.length p.cT p.aP x.ps.length p.cP p.aS x.ss.length p.cS p.aG x.sg.length p.cG aW gs cW bar aM mv cM aH hd cH aQ P cQ w
      _ (by simpa using h0) hc
end Go.Proofs.YtjoieglhmladhaaDoor
