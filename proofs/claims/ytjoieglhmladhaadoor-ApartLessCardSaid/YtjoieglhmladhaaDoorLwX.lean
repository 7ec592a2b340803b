/- Walks: the law ApartLess, of whatever it is handed. -/
import Derived.Test.YtjoieglhmladhaaDoorLwW
import Derived.Test.YtjoieglhmladhaaDoorPpE
import Derived.Test.YtjoieglhmladhaaDoorLwK
namespace Go.Proofs.YtjoieglhmladhaaDoor
set_option linter.unusedVariables false
set_option linter.unusedSimpArgs false
open Go.RowKit Go.Shelf

namespace Lw
/-- The wagons but one. -/
def few (gs : List Ap.Wg) (d : Nat) : List Ap.Wg := (gs.drop 0).take d ++ (gs.drop (d + 1)).take (gs.length - (d + 1))
theorem few_len {gs : List Ap.Wg} {d : Nat} (h : d < gs.length) : (few gs d).length = gs.length - 1 := by
  simp [few]; omega
theorem few_at {gs : List Ap.Wg} {d : Nat} (h : d < gs.length) {j : Nat} (hj : j < gs.length - 1) : (few gs d).getD j Ap.wz = gs.getD (if d ≤ j then j + 1 else j) Ap.wz := by
  simp only [few, List.drop_zero, List.getD_eq_getElem?_getD]
  by_cases hd : d ≤ j
  · rw [if_pos hd, List.getElem?_append_right (by simp; omega), List.getElem?_take_of_lt (by simp; omega), List.getElem?_drop]
    congr 2
    simp
    omega
  · rw [if_neg hd, List.getElem?_append_left (by simp; omega), List.getElem?_take_of_lt (by omega)]
theorem few_mem {gs : List Ap.Wg} {d : Nat} {g : Ap.Wg} (h : g ∈ few gs d) : g ∈ gs := by
  rcases List.mem_append.1 h with h | h
  · exact List.mem_of_mem_drop (List.mem_of_mem_take h)
  · exact List.mem_of_mem_drop (List.mem_of_mem_take h)
theorem pthE_sub {bar : Int} {gs : List Ap.Wg} (h : Ap.pthE bar gs = 0) : ∀ {l : List Ap.Wg}, (∀ g ∈ l, g ∈ gs) → Ap.pthE bar l = 0
  | [], _ => rfl
  | g :: l, hl => by
    unfold Ap.pthE
    obtain ⟨i, hi, he⟩ := List.mem_iff_getElem.1 (hl g (List.mem_cons_self ..))
    have := Ap.pthE_0 h i hi
    rw [List.getD_eq_getElem?_getD, List.getElem?_eq_getElem hi, Option.getD_some, he] at this
    rw [if_pos this]
    exact pthE_sub h (fun x hx => hl x (List.mem_cons_of_mem _ hx))
theorem ins_meet {p q r : Ap.Bx} (h : Ap.ins p q = true) (hm : Ap.meet p r = true) : Ap.meet q r = true := by
  obtain ⟨a, b, c, d⟩ := p
  obtain ⟨a', b', c', d'⟩ := q
  obtain ⟨e, f, g, i⟩ := r
  simp only [Ap.ins, Sp.inside, Ap.meet, Sp.meets, Bool.and_eq_true, decide_eq_true_iff] at *
  omega
theorem meet_comm (p q : Ap.Bx) : Ap.meet p q = Ap.meet q p := by
  obtain ⟨a, b, c, d⟩ := p
  obtain ⟨e, f, g, i⟩ := q
  simp only [Ap.meet, Sp.meets]
  rw [Bool.and_comm (decide (a ≤ f)), Bool.and_comm (decide (c ≤ i))]
theorem ins_ins {p q r : Ap.Bx} (h : Ap.ins p q = true) (hm : Ap.ins q r = true) : Ap.ins p r = true := by
  obtain ⟨a, b, c, d⟩ := p
  obtain ⟨a', b', c', d'⟩ := q
  obtain ⟨e, f, g, i⟩ := r
  simp only [Ap.ins, Sp.inside, Bool.and_eq_true] at *
  obtain ⟨⟨h1, h2⟩, h3, h4⟩ := h
  obtain ⟨⟨m1, m2⟩, m3, m4⟩ := hm
  have h1 := of_decide_eq_true h1; have h2 := of_decide_eq_true h2; have h3 := of_decide_eq_true h3; have h4 := of_decide_eq_true h4
  have m1 := of_decide_eq_true m1; have m2 := of_decide_eq_true m2; have m3 := of_decide_eq_true m3; have m4 := of_decide_eq_true m4
  refine ⟨⟨?_, ?_⟩, ?_, ?_⟩ <;> (apply decide_eq_true; omega)
theorem in1_iff {p q : Ap.Bx} (h : in1 p q = true) : Ap.okB p = true ∧ Ap.okB q = true ∧ Ap.ins p q = true := by
  simp only [in1, Bool.and_eq_true] at h
  exact ⟨h.1.1, h.1.2, h.2⟩
theorem any_ok {l : List Ap.Bx} (h : ∀ i, i < l.length → Ap.okB (l.getD i Ap.bz) = true) : (l.any fun b => !Ap.okB b) = false := by
  rw [List.any_eq_false]
  intro b hb
  obtain ⟨i, hi, rfl⟩ := List.mem_iff_getElem.1 hb
  have := h i hi
  rw [List.getD_eq_getElem?_getD, List.getElem?_eq_getElem hi, Option.getD_some] at this
  simp [this]
/-- The second Clashes: no error, or too many pairs. -/
theorem less_E {x : Ex.Wk} {gs gf : List Ap.Wg} {bar : Int} {mv hd ls lr : List Ap.Bx} {P P' : List (Int × Int)} (h : Ap.clE x gs bar mv hd P = 0) (hg : ∀ g ∈ gf, g ∈ gs) (hl : gf.length ≤ gs.length) (h1 : insB ls mv = true) (h2 : insB lr hd = true) :
    Ap.clE x gf bar ls lr P' = 0 ∨ Ap.clE x gf bar ls lr P' = 290 := by
  obtain ⟨k0, k1, k2, k3, k4, _, _, _, k5⟩ := Ap.clE_0 h
  obtain ⟨e1, a1⟩ := insB_at h1
  obtain ⟨e2, a2⟩ := insB_at h2
  unfold Ap.clE
  rw [if_pos k0, if_pos (by omega), if_pos k2, if_pos ⟨by omega, by omega⟩, if_pos ⟨any_ok (fun i hi => (in1_iff (a1 i hi)).1), any_ok (fun i hi => (in1_iff (a2 i hi)).1)⟩]
  split
  · exact .inl (pthE_sub k5 hg)
  · exact .inr rfl
theorem adj_ne {d : Int} {a b c : Int} (h : a ≠ 5) : adj d (a, b, c) = (a, b, c) := by
  unfold adj
  rw [if_neg (fun h2 => h h2.1)]
/-- With smaller boxes, a wagon less and further pairs there are no further clashes. -/
theorem less_cls {x : Ex.Wk} {gs gf : List Ap.Wg} {bar : Int} {mv hd ls lr : List Ap.Bx} {P P' : List (Int × Int)} {dv : Int} (h : Ap.clE x gs bar mv hd P = 0) (h1 : insB ls mv = true) (h2 : insB lr hd = true) (hp : ∀ p ∈ P, p ∈ P')
    (hw : ∀ j, j < gf.length → ∃ i : Nat, i < gs.length ∧ gf.getD j Ap.wz = gs.getD i Ap.wz ∧ (if dv ≤ (j : Int) then (j : Int) + 1 else (j : Int)) = (i : Int)) (c : Ap.C3) (hc : c ∈ Ap.cls x gf bar ls lr P') : adj dv c ∈ Ap.cls x gs bar mv hd P := by
  obtain ⟨k0, k1, k2, k3, k4, _, _, _, k5⟩ := Ap.clE_0 h
  obtain ⟨e1, a1⟩ := insB_at h1
  obtain ⟨e2, a2⟩ := insB_at h2
  have sm : ∀ i, i < x.ro.length → Ap.ins (ls.getD i Ap.bz) (mv.getD i Ap.bz) = true := fun i hi => (in1_iff (a1 i (by omega))).2.2
  have sh : ∀ i, i < x.ro.length → Ap.ins (lr.getD i Ap.bz) (hd.getD i Ap.bz) = true := fun i hi => (in1_iff (a2 i (by omega))).2.2
  have so : ∀ q i, i < x.ro.length → Ap.ins ((Ap.oneL ls lr q).getD i Ap.bz) ((Ap.oneL mv hd q).getD i Ap.bz) = true := fun q i hi => by
    unfold Ap.oneL; split
    · exact sm i hi
    · exact sh i hi
  have st : ∀ q i, i < x.ro.length → Ap.ins ((Ap.twoL ls lr q).getD i Ap.bz) ((Ap.twoL mv hd q).getD i Ap.bz) = true := fun q i hi => by
    unfold Ap.twoL; split
    · exact sm i hi
    · exact sh i hi
  rw [Ap.mem_cls x gf bar ls lr P' (by omega) (by omega)] at hc
  rw [Ap.mem_cls x gs bar mv hd P k3 k4]
  rcases hc with ⟨q, i, j, q1, q2, hij, hj, rfl, hh, hm⟩ | ⟨i, j, hi, hj, rfl, hm⟩ | ⟨i, hi, rfl, hm⟩
  · refine .inl ⟨q, i, j, q1, q2, hij, hj, adj_ne (by omega), ?_, ?_⟩
    · simp only [Ap.has, decide_eq_false_iff_not] at hh ⊢
      exact fun h => hh (hp _ h)
    · have m1 := ins_meet (so q i (by omega)) hm
      rw [meet_comm] at m1 ⊢
      exact ins_meet (st q j hj) m1
  · obtain ⟨i2, hi2, he, hd2⟩ := hw j hj
    refine .inr (.inl ⟨i, i2, hi, hi2, ?_, ?_⟩)
    · unfold adj
      by_cases hd3 : dv ≤ (j : Int)
      · rw [if_pos ⟨rfl, hd3⟩]; rw [if_pos hd3] at hd2; rw [hd2]
      · rw [if_neg (fun h => hd3 h.2)]; rw [if_neg hd3] at hd2; rw [hd2]
    · rw [Ap.pths_at hj, he, ← Ap.pths_at hi2] at hm
      rw [Bool.or_eq_true] at hm ⊢
      rcases hm with hm | hm
      · exact .inl (ins_meet (sm i hi) hm)
      · exact .inr (ins_meet (sh i hi) hm)
  · refine .inr (.inr ⟨i, hi, adj_ne (by omega), ?_⟩)
    rw [Bool.or_eq_true, Bool.not_eq_true', Bool.not_eq_true'] at hm ⊢
    rcases hm with hm | hm
    · refine .inl ?_
      rcases hx : Ap.ins (mv.getD i Ap.bz) (Ap.flo x) with _ | _
      · rfl
      · rw [ins_ins (sm i hi) hx] at hm; cases hm
    · refine .inr ?_
      rcases hx : Ap.ins (hd.getD i Ap.bz) (Ap.flo x) with _ | _
      · rfl
      · rw [ins_ins (sh i hi) hx] at hm; cases hm
end Lw

theorem Lw.cls_bd {x : Ex.Wk} {gf : List Ap.Wg} {bar : Int} {ls lr : List Ap.Bx} {P : List (Int × Int)} (h1 : ls.length = x.ro.length) (h2 : lr.length = x.ro.length) (hr : x.ro.length ≤ 64) (hg : gf.length ≤ 100) (c : Ap.C3) (hc : c ∈ Ap.cls x gf bar ls lr P) : c.2.2 ≤ 100 ∧ 0 ≤ c.2.2 := by
  rw [Ap.mem_cls x gf bar ls lr P h1 h2] at hc
  rcases hc with ⟨q, i, j, q1, q2, hij, hj, rfl, _⟩ | ⟨i, j, hi, hj, rfl, _⟩ | ⟨i, hi, rfl, _⟩ <;> (dsimp only; omega)

set_option maxRecDepth 100000 in
theorem law_less (x : Ex.Wk) (p : Ex.Wa) (aW : Option Addr) (gs : List Ap.Wg) (cW : Nat) (bar : Int) (aM : Option Addr) (mv : List Ap.Bx) (cM : Nat) (aH : Option Addr) (hd : List Ap.Bx) (cH : Nat) (aL : Option Addr) (ls : List Ap.Bx) (cL : Nat) (aK : Option Addr) (lr : List Ap.Bx) (cK : Nat) (aQ : Option Addr) (P : List (Int × Int)) (cQ : Nat) (aO : Option Addr) (PO : List (Int × Int)) (cO : Nat) (wo : Nat) (w : World)
    (ha : Ex.At w x p) (hl : Ex.Laid w) (sW : Tp.Sl w aW gs.length 8 (Ap.wgc gs)) (sM : Tp.Sl w aM mv.length 4 (Ap.bxc mv)) (sH : Tp.Sl w aH hd.length 4 (Ap.bxc hd)) (sL : Tp.Sl w aL ls.length 4 (Ap.bxc ls)) (sK : Tp.Sl w aK lr.length 4 (Ap.bxc lr)) (sQ : Tp.Sl w aQ P.length 2 (Ap.prc P)) (sO : Tp.Sl w aO PO.length 2 (Ap.prc PO))
    (lW : gs.length ≤ 4611686018427387904) (lM : mv.length ≤ 4611686018427387904) (lH : hd.length ≤ 4611686018427387904) (lL : ls.length ≤ 4611686018427387904) (lK : lr.length ≤ 4611686018427387904) (lQ : P.length ≤ 4611686018427387904) (lO : PO.length ≤ 4611686018427387904) (hwo : wo < 256) (hcW : gs.length ≤ cW) :
    Calls Tryd.prog 9 #[Ex.workV x p, .agg #[.slice aW gs.length cW], .int .i64 bar, .slice aM mv.length cM, .slice aH hd.length cH, .slice aL ls.length cL, .slice aK lr.length cK, .slice aQ P.length cQ, .slice aO PO.length cO, .int .u8 wo] w fun e w' => e = .returned (.bool true) ∧ Below w.heap.size w w' := by
  have hS : ∀ W, Below w.heap.size w W → Calls Tryd.prog 11 #[] W fun e w' => e = .returned (.bool true) ∧ Below W.heap.size W w' := fun W hB => lw_sane W (hl.kept hB (Nat.le_refl _))
  have hF1 : ∀ W, Below w.heap.size w W → Calls Tryd.prog 14 #[Ex.workV x p, .agg #[.slice aW gs.length cW], .slice aM mv.length cM, .slice aH hd.length cH, .slice aQ P.length cQ] W fun e w' => e = .returned (.bool (Rf.fewAll x gs.length mv.length hd.length P.length)) ∧ Below W.heap.size W w' :=
    fun W hB => rf_few29 x p aW gs.length cW aM mv.length cM aH hd.length cH aQ P.length cQ W (ha.kept hB (Nat.le_refl _)) lW lM lH lQ
  have hF2 : ∀ W, Below w.heap.size w W → Calls Tryd.prog 14 #[Ex.workV x p, .agg #[.slice aW gs.length cW], .slice aL ls.length cL, .slice aK lr.length cK, .slice aO PO.length cO] W fun e w' => e = .returned (.bool (Rf.fewAll x gs.length ls.length lr.length PO.length)) ∧ Below W.heap.size W w' :=
    fun W hB => rf_few29 x p aW gs.length cW aL ls.length cL aK lr.length cK aO PO.length cO W (ha.kept hB (Nat.le_refl _)) lW lL lK lO
  have hI1 : ∀ W, Below w.heap.size w W → Calls Tryd.prog 31 #[.slice aL ls.length cL, .slice aM mv.length cM] W fun e w' => e = .returned (.bool (Lw.insB ls mv)) ∧ Below W.heap.size W w' :=
    fun W hB => lw_inside aL ls cL aM mv cM W lL lM (sL.kept hB (Nat.le_refl _)) (sM.kept hB (Nat.le_refl _))
  have hI2 : ∀ W, Below w.heap.size w W → Calls Tryd.prog 31 #[.slice aK lr.length cK, .slice aH hd.length cH] W fun e w' => e = .returned (.bool (Lw.insB lr hd)) ∧ Below W.heap.size W w' :=
    fun W hB => lw_inside aK lr cK aH hd cH W lK lH (sK.kept hB (Nat.le_refl _)) (sH.kept hB (Nat.le_refl _))
  rcases f1 : Rf.fewAll x gs.length mv.length hd.length P.length with _ | _
  · rw [f1] at hF1
    exact law_less_1 _ _ _ _ _ _ _ _ _ _ _ _ _ _ _ _ _ _ _ _ _ aW gs.length cW bar aM mv.length cM aH hd.length cH aL ls.length cL aK lr.length cK aQ P.length cQ aO PO.length cO wo w hS hF1
  rcases f2 : Rf.fewAll x gs.length ls.length lr.length PO.length with _ | _
  · rw [f1] at hF1; rw [f2] at hF2
    exact law_less_2 _ _ _ _ _ _ _ _ _ _ _ _ _ _ _ _ _ _ _ _ _ aW gs.length cW bar aM mv.length cM aH hd.length cH aL ls.length cL aK lr.length cK aQ P.length cQ aO PO.length cO wo w hS hF1 hF2
  rcases b1 : Lw.insB ls mv with _ | _
  · rw [f1] at hF1; rw [f2] at hF2; rw [b1] at hI1
    exact law_less_3 _ _ _ _ _ _ _ _ _ _ _ _ _ _ _ _ _ _ _ _ _ aW gs.length cW bar aM mv.length cM aH hd.length cH aL ls.length cL aK lr.length cK aQ P.length cQ aO PO.length cO wo w hS hF1 hF2 hI1
  rcases b2 : Lw.insB lr hd with _ | _
  · rw [f1] at hF1; rw [f2] at hF2; rw [b1] at hI1; rw [b2] at hI2
    exact law_less_4 _ _ _ _ _ _ _ _ _ _ _ _ _ _ _ _ _ _ _ _ _ aW gs.length cW bar aM mv.length cM aH hd.length cH aL ls.length cL aK lr.length cK aQ P.length cQ aO PO.length cO wo w hS hF1 hF2 hI1 hI2
  rw [f1] at hF1; rw [f2] at hF2; rw [b1] at hI1; rw [b2] at hI2
  obtain ⟨n1, n2, n3, n4⟩ := Rf.few_le f1
  obtain ⟨_, n5, n6, n7⟩ := Rf.few_le f2
  have hC : ∀ W, Below w.heap.size w W → Calls Tryd.prog 21 #[Ex.workV x p, .agg #[.slice aW gs.length cW], .int .i64 bar, .slice aM mv.length cM, .slice aH hd.length cH, .slice aQ P.length cQ] W (Ap.CPost (Ap.cls x gs bar mv hd P) (Ap.clE x gs bar mv hd P) W) :=
    fun W hB => ap_clash x p aW gs cW bar aM mv cM aH hd cH aQ P cQ W (ha.kept hB (Nat.le_refl _)) (hl.kept hB (Nat.le_refl _)) (sW.kept hB (Nat.le_refl _)) (sM.kept hB (Nat.le_refl _)) (sH.kept hB (Nat.le_refl _)) (sQ.kept hB (Nat.le_refl _)) (by omega) (by omega) (by omega) (by omega)
  by_cases hE : Ap.clE x gs bar mv hd P = 0
  · rw [hE] at hC
    obtain ⟨k0, k1, k2, k3, k4, _, _, _, k5⟩ := Ap.clE_0 hE
    obtain ⟨r1, _, r0⟩ := Ex.roles k0
    obtain ⟨e1, _⟩ := Lw.insB_at b1
    obtain ⟨e2, _⟩ := Lw.insB_at b2
    have hC2 : ∀ W, Below w.heap.size w W → Calls Tryd.prog 21 #[Ex.workV x p, .agg #[.slice aW gs.length cW], .int .i64 bar, .slice aM mv.length cM, .slice aH hd.length cH, .slice aQ P.length cQ] W fun e w' => ∃ ad c, e = .returned (.tuple #[.slice ad (Ap.cls x gs bar mv hd P).length c, .int .i64 0]) ∧ Tp.Sl w' ad (Ap.cls x gs bar mv hd P).length 3 (Ap.c3c (Ap.cls x gs bar mv hd P)) ∧ Below W.heap.size W w' := fun W hB => (hC W hB).mono fun e w' h => by
      unfold Ap.CPost at h
      rw [if_pos rfl] at h
      obtain ⟨v, rfl, ho, hb⟩ := h
      obtain ⟨ad, c, rfl, hs, _⟩ := Ap.own_sl (f := Ap.c3c (Ap.cls x gs bar mv hd P)) ho (fun i j hi hj => Ap.flC_at _ i j hi hj)
      exact ⟨ad, c, rfl, hs, hb⟩
    obtain ⟨gf, dv, hg0, hg1, hgm, hgl, hw⟩ : ∃ (gf : List Ap.Wg) (dv : Int), (gs.length = 0 → gf = [] ∧ dv = -1) ∧ (0 < gs.length → gf = (gs.drop 0).take (wo % gs.length) ++ (gs.drop (wo % gs.length + 1)).take (gs.length - (wo % gs.length + 1)) ∧ dv = ((wo % gs.length : Nat) : Int)) ∧
        (∀ g ∈ gf, g ∈ gs) ∧ gf.length ≤ gs.length ∧ ∀ j, j < gf.length → ∃ i : Nat, i < gs.length ∧ gf.getD j Ap.wz = gs.getD i Ap.wz ∧ (if dv ≤ (j : Int) then (j : Int) + 1 else (j : Int)) = (i : Int) := by
      by_cases h0 : gs.length = 0
      · exact ⟨[], -1, fun _ => ⟨rfl, rfl⟩, fun h => by omega, fun g hg => by simp at hg, by simp, fun j hj => by simp at hj⟩
      · have hd := Nat.mod_lt wo (show 0 < gs.length by omega)
        refine ⟨Lw.few gs (wo % gs.length), ((wo % gs.length : Nat) : Int), fun h => by omega, fun _ => ⟨rfl, rfl⟩, fun g hg => Lw.few_mem hg, by rw [Lw.few_len hd]; omega, fun j hj => ?_⟩
        rw [Lw.few_len hd] at hj
        refine ⟨if wo % gs.length ≤ j then j + 1 else j, by split <;> omega, Lw.few_at hd hj, ?_⟩
        by_cases h2 : wo % gs.length ≤ j
        · rw [if_pos h2, if_pos (by omega)]; rfl
        · rw [if_neg h2, if_neg (by omega)]
    have hpl : (PO ++ P ++ PO).length = PO.length + P.length + PO.length := by rw [List.length_append, List.length_append]
    have hD : ∀ ad2 c2 ad3 c3 W, Below w.heap.size w W → Tp.Sl W ad2 gf.length 8 (Ap.wgc gf) → Tp.Sl W ad3 (PO.length + P.length + PO.length) 2 (Ap.prc (PO ++ P ++ PO)) →
        Calls Tryd.prog 21 #[Ex.workV x p, .agg #[.slice ad2 gf.length c2], .int .i64 bar, .slice aL ls.length cL, .slice aK lr.length cK, .slice ad3 (PO.length + P.length + PO.length) c3] W (Lw.LPost (Ap.cls x gf bar ls lr (PO ++ P ++ PO)) W) := by
      intro ad2 c2 ad3 c3 W hB h2 h3
      rw [← hpl] at h3 ⊢
      have := ap_clash x p ad2 gf c2 bar aL ls cL aK lr cK ad3 (PO ++ P ++ PO) c3 W (ha.kept hB (Nat.le_refl _)) (hl.kept hB (Nat.le_refl _)) h2 (sL.kept hB (Nat.le_refl _)) (sK.kept hB (Nat.le_refl _)) h3 (by omega) (by omega) (by omega) (by rw [hpl]; omega)
      refine this.mono fun e w' h => ?_
      unfold Ap.CPost at h
      rcases Lw.less_E (P' := PO ++ P ++ PO) hE hgm hgl b1 b2 with hz | hz
      · rw [if_pos hz] at h
        obtain ⟨v, rfl, ho, hb⟩ := h
        obtain ⟨ad, c, rfl, hs, _⟩ := Ap.own_sl (f := Ap.c3c (Ap.cls x gf bar ls lr (PO ++ P ++ PO))) ho (fun i j hi hj => Ap.flC_at _ i j hi hj)
        exact ⟨_, 0, rfl, .inr ⟨rfl, ad, c, rfl, hs⟩, hb⟩
      · rw [if_neg (by rw [hz]; omega)] at h
        obtain ⟨rfl, hb⟩ := h
        rw [hz]
        exact ⟨_, 290, rfl, .inl ⟨rfl, rfl⟩, hb⟩
    refine law_less_6 _ _ _ _ _ _ _ _ _ _ _ _ _ _ _ _ _ _ _ _ _ aW gs.length cW bar aM mv.length cM aH hd.length cH aL ls.length cL aK lr.length cK aQ P.length cQ aO PO.length cO wo w hS hF1 hF2 hI1 hI2 (Ap.cls x gs bar mv hd P) (Ap.cls x gf bar ls lr (PO ++ P ++ PO)) hC2
      k1 hwo hcW gs rfl sW P PO rfl rfl n4 n7 sQ sO (Ap.cls_len x gs bar mv hd P k3 k4 r1 n1) (Ap.cls_len x gf bar ls lr _ (by omega) (by omega) r1 (by omega)) gf dv hg0 hg1 hD (fun k hk => ?_) (fun k hk => ?_)
    · exact Lw.cls_bd (by omega) (by omega) r1 (by omega) _ (Lw.getD_mem _ hk)
    · exact Lw.less_cls hE b1 b2 (fun q hq => by simp [hq]) hw _ (Lw.getD_mem _ hk)
  · refine law_less_5 _ _ _ _ _ _ _ _ _ _ _ _ _ _ _ _ _ _ _ _ _ aW gs.length cW bar aM mv.length cM aH hd.length cH aL ls.length cL aK lr.length cK aQ P.length cQ aO PO.length cO wo w hS hF1 hF2 hI1 hI2 (Ap.clE x gs bar mv hd P) (by simpa using hE) (fun W hB => (hC W hB).mono fun e w' h => ?_)
    unfold Ap.CPost at h
    rw [if_neg hE] at h
    exact h
namespace Lw
open Go.ChangeShapes Go.WideShapes Go.ChangeAt Go.Joins
variable {H : Type} {enc : TypeId × Value → H} {w : World} {base : Nat} {spare : Nat → Bool} {held : Bool}
set_option maxRecDepth 100000 in
/-- A hall that is handed in, with its slice's capacity. -/
theorem hall_in2 {r : Reach} {b0 : Nat} {v : Value} {d : DataW H} {q : List MemPlace} (hv : Value.okWide Tryd.prog w r b0 47 v) (h : DataW.Trod enc Tryd.prog w base spare held 47 v d q)
    (hw : ∀ m ∈ d.weights Tryd.prog 47, m ≤ reachBytes) : ∃ (ad : Option Addr) (l : List Ap.Wg) (c : Nat), v = .agg #[.slice ad l.length c] ∧ Tp.Sl w ad l.length 8 (Ap.wgc l) ∧ l.length ≤ 4611686018427387904 ∧ l.length ≤ c := by
  obtain ⟨cs, rfl, hsz⟩ := okWide_struct Tryd.underlying47 hv
  obtain ⟨fuel, hf0⟩ := h
  have hf' : DataW.trod enc Tryd.prog w base spare held fuel 47 cs.toList = some (d, q) := by simpa [Value.cells] using hf0
  obtain ⟨ds, e, hl, hc, hf⟩ := Kit.sub_trod Tryd.underlying47 hf'
  dsimp only at e
  subst e
  have hp := fun (i : Nat) f hfi d hd => Kit.weights_part (P := Tryd.prog) Tryd.underlying47 hw (i := i) (f := f) hfi (d := d) hd
  rw [show Tryd.prog.cellsOf 47 = 1 by kernel_rfl] at hc
  obtain ⟨l⟩ := cs
  dsimp only at hc hf
  match l, hc with
  | [a0], _ =>
    obtain ⟨n0, y0, k0, d0⟩ := hf 0 _ rfl
    have w0 : ∀ m ∈ y0.1.weights Tryd.prog 45, m ≤ reachBytes := hp 0 _ rfl _ d0
    have k0' : DataW.trod enc Tryd.prog w base spare held n0 45 (([a0].drop 0).take (Tryd.prog.cellsOf 45)) = some y0 := k0
    simp only [show Tryd.prog.cellsOf 45 = 1 by kernel_rfl, List.drop_succ_cons, List.drop_zero, List.take_succ_cons, List.take_zero] at k0'
    obtain ⟨ad, l, cap, e, hcap, hs, hl⟩ := Kit.slice_list (⟨0, 0, 0, 0, 0, 0, 0, 0⟩) Tryd.underlying45 (k := 8) (by kernel_rfl) (by omega) (of_decide_eq_true (by kernel_rfl)) wgF (fun n cs y h => wgF_O h) k0' w0
    simp only [List.cons.injEq, and_true] at e
    subst e
    refine ⟨ad, l, cap, rfl, Kit.sl_congr (fun i j hi hj => ?_) hs, hl, hcap⟩
    rcases j with _ | _ | _ | _ | _ | _ | _ | _ | j <;> first | rfl | omega
/-- .. as the card hands it in. -/
theorem less_in {x : Ex.Wk} {p : Ex.Wa} {aW : Option Addr} {gs : List Ap.Wg} {cW : Nat} {bar : Int} {aM : Option Addr} {mv : List Ap.Bx} {cM : Nat} {aH : Option Addr} {hd : List Ap.Bx} {cH : Nat} {aL : Option Addr} {ls : List Ap.Bx} {cL : Nat} {aK : Option Addr} {lr : List Ap.Bx} {cK : Nat} {aQ : Option Addr} {P : List (Int × Int)} {cQ : Nat} {aO : Option Addr} {PO : List (Int × Int)} {cO : Nat} {wo : Int} {w : World}
    (ha : Ex.At w x p) (hl : Ex.Laid w) (sW : Tp.Sl w aW gs.length 8 (Ap.wgc gs)) (sM : Tp.Sl w aM mv.length 4 (Ap.bxc mv)) (sH : Tp.Sl w aH hd.length 4 (Ap.bxc hd)) (sL : Tp.Sl w aL ls.length 4 (Ap.bxc ls)) (sK : Tp.Sl w aK lr.length 4 (Ap.bxc lr)) (sQ : Tp.Sl w aQ P.length 2 (Ap.prc P)) (sO : Tp.Sl w aO PO.length 2 (Ap.prc PO))
    (lW : gs.length ≤ 4611686018427387904) (lM : mv.length ≤ 4611686018427387904) (lH : hd.length ≤ 4611686018427387904) (lL : ls.length ≤ 4611686018427387904) (lK : lr.length ≤ 4611686018427387904) (lQ : P.length ≤ 4611686018427387904) (lO : PO.length ≤ 4611686018427387904) (hwo : (Lit.int .u8 wo).wf = true) (hcW : gs.length ≤ cW) :
    Calls Tryd.prog 9 #[Ex.workV x p, .agg #[.slice aW gs.length cW], .int .i64 bar, .slice aM mv.length cM, .slice aH hd.length cH, .slice aL ls.length cL, .slice aK lr.length cK, .slice aQ P.length cQ, .slice aO PO.length cO, .int .u8 wo] w fun e w' => e = .returned (.bool true) ∧ Below w.heap.size w w' := by
  have h := Lw.u8_bd hwo
  obtain ⟨b, rfl⟩ := Int.eq_ofNat_of_zero_le h.1
  exact law_less x p aW gs cW bar aM mv cM aH hd cH aL ls cL aK lr cK aQ P cQ aO PO cO b w ha hl sW sM sH sL sK sQ sO lW lM lH lL lK lQ lO (by omega) hcW
end Lw
end Go.Proofs.YtjoieglhmladhaaDoor
