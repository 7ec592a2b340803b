/- Walks: the law ApartGroups, of whatever work, bar and labels. -/
import Derived.Test.YtjoieglhmladhaaDoorLwI
import Derived.Test.YtjoieglhmladhaaDoorPpB
namespace Go.Proofs.YtjoieglhmladhaaDoor
set_option linter.unusedVariables false
set_option linter.unusedSimpArgs false
open Go.RowKit Go.Shelf

namespace Ap
theorem rowP_mem (M : List (Int × Int)) (a : Nat) : ∀ (n b : Nat), ∀ p ∈ rowP M a b n, p ∈ M
  | 0, _, p, hp => by simp [rowP] at hp
  | n + 1, b, p, hp => by
    unfold rowP at hp
    split at hp
    · rename_i hm
      rcases List.mem_cons.1 hp with rfl | hp
      · exact hm
      · exact rowP_mem M a n _ p hp
    · exact rowP_mem M a n _ p hp
theorem allP_mem (M : List (Int × Int)) (R : Nat) : ∀ (n a : Nat), ∀ p ∈ allP M R a n, p ∈ M
  | 0, _, p, hp => by simp [allP] at hp
  | n + 1, a, p, hp => by
    rcases List.mem_append.1 hp with hp | hp
    · exact rowP_mem M a _ _ p hp
    · exact allP_mem M R n _ p hp
theorem met_lt (bar : Int) : ∀ (l : List Ex.Sg), ∀ p ∈ met bar l, p.1 < p.2
  | [], p, hp => by simp [met] at hp
  | s :: l, p, hp => by
    unfold met at hp
    split at hp
    · rename_i hm
      rcases List.mem_cons.1 hp with rfl | hp
      · simp only [lift, Bool.and_eq_true, bne_iff_ne, ne_eq] at hm
        have h1 := Kit.mn2_le s.role (s.wth - 1)
        have h2 := Kit.mx2_le s.role (s.wth - 1)
        simp only [prOf]
        have := hm.2
        omega
      · exact met_lt bar l p hp
    · exact met_lt bar l p hp
/-- A pair's roles: the first below the second, both roles of the work. -/
theorem prs_bd (x : Ex.Wk) (bar : Int) : ∀ p ∈ prs x bar, ∃ u v : Nat, p = ((u : Int), (v : Int)) ∧ u < v ∧ v < x.ro.length := by
  rintro ⟨a, b⟩ hp
  obtain ⟨⟨u, hu, _⟩, v, hv, hvR⟩ := allP_bd _ _ _ _ (by omega) _ hp
  have hlt := met_lt bar _ _ (allP_mem _ _ _ _ _ hp)
  dsimp only at hu hv hlt
  subst hu hv
  exact ⟨u, v, rfl, by omega, hvR⟩
theorem prs_len (x : Ex.Wk) (bar : Int) (h : x.ro.length ≤ 64) : (prs x bar).length ≤ 4096 :=
  Nat.le_trans (allP_len _ _ _ _) (Nat.le_trans (Nat.mul_le_mul h h) (by omega))
theorem chk_0 {x : Ex.Wk} {bar : Int} (h : chk x bar = 0) : Ex.chk x = 0 := by
  unfold chk at h
  split at h
  · assumption
  · exact h
end Ap

/-- Pairs, as the laws read it. -/
theorem lw_pairs_sl (x : Ex.Wk) (p : Ex.Wa) (bar : Int) (w : World) (ha : Ex.At w x p) (hl : Ex.Laid w) (h : Ap.chk x bar = 0) :
    Calls Tryd.prog 15 #[Ex.workV x p, .int .i64 bar] w fun e w' => ∃ ad c, e = .returned (.tuple #[.slice ad (Ap.prs x bar).length c, .int .i64 0]) ∧ Tp.Sl w' ad (Ap.prs x bar).length 2 (Ap.prc (Ap.prs x bar)) ∧ Below w.heap.size w w' := by
  have hc := ap_pairs x p bar w ha hl
  unfold Ap.Pairs at hc
  simp only [if_pos h] at hc
  refine hc.mono ?_
  rintro e w' ⟨v, rfl, ho, hb⟩
  obtain ⟨ad, c, rfl, hs, _⟩ := Ap.row_sl ho
  exact ⟨ad, c, rfl, hs, hb⟩
theorem lw_pairs_err (x : Ex.Wk) (p : Ex.Wa) (bar : Int) (w : World) (ha : Ex.At w x p) (hl : Ex.Laid w) (h : ¬ Ap.chk x bar = 0) :
    Calls Tryd.prog 15 #[Ex.workV x p, .int .i64 bar] w fun e w' => e = .returned (.tuple #[.slice none 0 0, .int .i64 (Ap.chk x bar)]) ∧ Below w.heap.size w w' := by
  have hc := ap_pairs x p bar w ha hl
  unfold Ap.Pairs at hc
  simpa only [if_neg h] using hc
/-- Groups, as the laws read it. -/
theorem lw_groups_sl (x : Ex.Wk) (p : Ex.Wa) (bar : Int) (w : World) (ha : Ex.At w x p) (hl : Ex.Laid w) (h : Ap.chk x bar = 0) :
    Calls Tryd.prog 17 #[Ex.workV x p, .int .i64 bar] w fun e w' => ∃ ad c, e = .returned (.tuple #[.slice ad x.ro.length c, .int .i64 0]) ∧ Tp.Sl w' ad x.ro.length 1 (fun i _ => .int .i64 (Ap.grp (Ap.prs x bar) i)) ∧ Below w.heap.size w w' := by
  have hc := ap_groups x p bar w ha hl
  unfold Ap.Groups at hc
  simp only [if_pos h] at hc
  refine hc.mono ?_
  rintro e w' ⟨g, cap, rfl, hg, hlt, hcell, hb⟩
  refine ⟨some ⟨g, 0, none⟩, cap, rfl, .inr ⟨⟨g, 0, none⟩, rfl, hlt, fun i j hi hj => ?_⟩, hb⟩
  obtain rfl : j = 0 := by omega
  have := hcell i hi
  rcases i with _ | i
  · simpa [Addr.add] using this
  · simpa [Addr.add] using this
theorem lw_groups_err (x : Ex.Wk) (p : Ex.Wa) (bar : Int) (w : World) (ha : Ex.At w x p) (hl : Ex.Laid w) (h : ¬ Ap.chk x bar = 0) :
    Calls Tryd.prog 17 #[Ex.workV x p, .int .i64 bar] w fun e w' => e = .returned (.tuple #[.slice none 0 0, .int .i64 (Ap.chk x bar)]) ∧ Below w.heap.size w w' := by
  have hc := ap_groups x p bar w ha hl
  unfold Ap.Groups at hc
  simpa only [if_neg h] using hc

set_option maxRecDepth 100000 in
theorem law_groups (x : Ex.Wk) (p : Ex.Wa) (bar : Int) (aL : Option Addr) (nL cL : Nat) (lab : Nat → Int) (w : World) (ha : Ex.At w x p) (hl : Ex.Laid w) (lL : nL ≤ 4611686018427387904) (sL : Tp.Sl w aL nL 1 (fun i _ => .int .u8 (lab i))) :
    Calls Tryd.prog 8 #[Ex.workV x p, .int .i64 bar, .slice aL nL cL] w fun e w' => e = .returned (.bool true) ∧ Below w.heap.size w w' := by
  have hS : ∀ W, Below w.heap.size w W → Calls Tryd.prog 11 #[] W fun e w' => e = .returned (.bool true) ∧ Below W.heap.size W w' := fun W hB => lw_sane W (hl.kept hB (Nat.le_refl _))
  have hF : ∀ W, Below w.heap.size w W → Calls Tryd.prog 14 #[Ex.workV x p, .agg #[.slice none 0 0], .slice none 0 0, .slice none 0 0, .slice none 0 0] W fun e w' => e = .returned (.bool (Rf.fewAll x 0 0 0 0)) ∧ Below W.heap.size W w' :=
    fun W hB => rf_few29 x p none 0 0 none 0 0 none 0 0 none 0 0 W (ha.kept hB (Nat.le_refl _)) (by omega) (by omega) (by omega) (by omega)
  have kA : ∀ W, Below w.heap.size w W → Ex.At W x p := fun W hB => ha.kept hB (Nat.le_refl _)
  have kL : ∀ W, Below w.heap.size w W → Ex.Laid W := fun W hB => hl.kept hB (Nat.le_refl _)
  rcases hf : Rf.fewAll x 0 0 0 0 with _ | _
  · rw [hf] at hF
    exact law_groups_1 _ _ _ _ _ _ _ _ _ _ _ _ _ _ _ _ _ _ _ _ _ bar aL nL cL w hS hF
  · rw [hf] at hF
    by_cases h : Ap.chk x bar = 0
    · obtain ⟨r1, r2, r3⟩ := Ex.roles (Ap.chk_0 h)
      refine law_groups_3 _ _ _ _ _ _ _ _ _ _ _ _ _ _ _ _ _ _ _ _ _ bar aL nL cL w hS hF r1 lL (Ap.prs x bar) (Ap.prs_len x bar r1) (Ap.grp (Ap.prs x bar)) lab
        (fun W hB => lw_pairs_sl x p bar W (kA W hB) (kL W hB) h) (fun W hB => lw_groups_sl x p bar W (kA W hB) (kL W hB) h) (Ap.grp_le _) (Ap.grp_fix _) ?_ sL ?_
      · intro q hq
        obtain ⟨u, v, rfl, h1, h2⟩ := Ap.prs_bd x bar q hq
        exact ⟨u, v, rfl, h1, h2, by simpa using Ap.grp_pair _ _ hq⟩
      · intro hall j
        refine (Ap.grp_label lab _ (fun q hq => ?_) j).symm
        have := (List.all_eq_true.1 hall) q hq
        simpa [Lw.eqL] using this
    · exact law_groups_2 _ _ _ _ _ _ _ _ _ _ _ _ _ _ _ _ _ _ _ _ _ bar aL nL cL w hS hF (Ap.chk x bar) (by simpa using h)
        (fun W hB => lw_pairs_err x p bar W (kA W hB) (kL W hB) h) (fun W hB => lw_groups_err x p bar W (kA W hB) (kL W hB) h)
end Go.Proofs.YtjoieglhmladhaaDoor
