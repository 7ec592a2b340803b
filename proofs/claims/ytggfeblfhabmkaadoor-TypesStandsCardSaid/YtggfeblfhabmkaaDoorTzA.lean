/- Plain facts: left and right exchanged; some signs of a work alone: the laws TypesMirrored, TypesLess. -/
import Derived.Test.YtggfeblfhabmkaaDoorTyW
namespace Go.Proofs.YtggfeblfhabmkaaDoor
set_option linter.unusedVariables false
set_option linter.unusedSimpArgs false
namespace Ty
/-- Left and right exchanged. -/
def mir (s : Ex.Sg) : Ex.Sg := { s with side := if s.side = 0 then 0 else 3 - s.side, dir := if 1 < s.dir then 10 - s.dir else s.dir, size := if s.kind = 6 then 8 - s.size else s.size }
theorem fld_iff (n : Int) (u : Bool) (lo hi : Int) : Ex.fld n u lo hi = true ↔ (u = true → lo ≤ n ∧ n ≤ hi) ∧ (u = false → n = 0) := by
  cases u <;> simp [Ex.fld, Tp.inb]
theorem bad_mir (s : Ex.Sg) : ∀ k, Ex.bad (mir s) k = Ex.bad s k
  | 0 => rfl
  | 1 => rfl
  | _ + 2 => rfl
theorem ok_mir {s : Ex.Sg} {roles bars : Int} (h : Ex.okSign s roles bars = true) : Ex.okSign (mir s) roles bars = true := by
  unfold Ex.okSign at h ⊢
  rw [bad_mir, bad_mir, bad_mir]
  simp only [Bool.and_eq_true] at h ⊢
  obtain ⟨⟨⟨⟨h1, h2⟩, h3⟩, h4⟩, h5⟩ := h
  refine ⟨⟨⟨⟨h1, ?_⟩, h3⟩, h4⟩, h5⟩
  have hk : 1 ≤ s.kind ∧ s.kind ≤ 9 := by
    simp only [Ex.ok1, Bool.and_eq_true, Tp.inb_iff] at h1
    exact h1.1.1.1
  clear h1 h3 h4 h5
  obtain ⟨id, role, bar, mark, kind, side, dir, level, size, wth, fn, fd, tn, td⟩ := s
  have h : kind = 1 ∨ kind = 2 ∨ kind = 3 ∨ kind = 4 ∨ kind = 5 ∨ kind = 6 ∨ kind = 7 ∨ kind = 8 ∨ kind = 9 := by dsimp only at hk; omega
  clear hk
  rcases h with rfl | rfl | rfl | rfl | rfl | rfl | rfl | rfl | rfl <;>
  · simp only [mir, Ex.ok2, Ex.rule, Bool.and_eq_true, fld_iff, Int.reduceToNat] at h2 ⊢
    simp at h2 ⊢
    try omega
theorem vG_mir {roles n : Int} : ∀ {l : List Ex.Sg} {last : Int}, Ex.vG roles n last l = true → Ex.vG roles n last (l.map mir) = true
  | [], _, _ => rfl
  | s :: l, last, h => by
    simp only [Ex.vG, Ex.okG1, List.map_cons, Bool.and_eq_true] at h ⊢
    exact ⟨⟨h.1.1, ok_mir h.1.2⟩, vG_mir h.2⟩
theorem vG_filter {roles n : Int} (p : Ex.Sg → Bool) : ∀ {l : List Ex.Sg} {last last' : Int}, last' ≤ last → Ex.vG roles n last l = true → Ex.vG roles n last' (l.filter p) = true
  | [], _, _, _, _ => rfl
  | s :: l, last, last', hl, h => by
    simp only [Ex.vG, Ex.okG1, Bool.and_eq_true, decide_eq_true_eq] at h
    obtain ⟨⟨⟨h1, h2⟩, h3⟩, h4⟩ := h
    rw [List.filter_cons]
    split
    · simp only [Ex.vG, Ex.okG1, Bool.and_eq_true, decide_eq_true_eq]
      exact ⟨⟨⟨by omega, h2⟩, h3⟩, vG_filter p (Int.le_refl _) h4⟩
    · exact vG_filter p (by omega) h4
theorem chk_sg {x : Ex.Wk} (l : List Ex.Sg) (h : Ex.chk x = 0) (hl : l.length ≤ x.sg.length) (hv : Ex.vG x.ro.length x.n (-1) x.sg = true → Ex.vG x.ro.length x.n (-1) l = true) : Ex.chk { x with sg := l } = 0 := by
  unfold Ex.chk at h ⊢
  split at h
  · omega
  rename_i h1
  dsimp only
  rw [if_neg (by omega)]
  split at h
  · omega
  rename_i h2
  rw [if_neg h2]
  split at h
  · rename_i h3
    rw [if_pos]
    simp only [Ex.okW, Bool.and_eq_true] at h3 ⊢
    exact ⟨h3.1, hv h3.2⟩
  · omega
theorem chk_mir {x : Ex.Wk} (h : Ex.chk x = 0) : Ex.chk { x with sg := x.sg.map mir } = 0 := chk_sg _ h (by simp) vG_mir
theorem chk_filter {x : Ex.Wk} (p : Ex.Sg → Bool) (h : Ex.chk x = 0) : Ex.chk { x with sg := x.sg.filter p } = 0 := chk_sg _ h (List.length_filter_le _ _) (vG_filter p (Int.le_refl _))
/-- One sign less. -/
theorem vG_erase {roles n : Int} : ∀ {l : List Ex.Sg} {last last' : Int} (k : Nat), last' ≤ last → Ex.vG roles n last l = true → Ex.vG roles n last' (l.eraseIdx k) = true
  | [], _, _, _, _, _ => rfl
  | s :: l, last, last', k, hl, h => by
    simp only [Ex.vG, Ex.okG1, Bool.and_eq_true, decide_eq_true_eq] at h
    obtain ⟨⟨⟨h1, h2⟩, h3⟩, h4⟩ := h
    cases k with
    | zero =>
      have := vG_filter (roles := roles) (n := n) (fun _ => true) (show last' ≤ s.id by omega) h4
      rwa [List.filter_eq_self.2 (fun _ _ => rfl)] at this
    | succ k =>
      rw [List.eraseIdx_cons_succ]
      simp only [Ex.vG, Ex.okG1, Bool.and_eq_true, decide_eq_true_eq]
      exact ⟨⟨⟨by omega, h2⟩, h3⟩, vG_erase k (Int.le_refl _) h4⟩
theorem chk_erase {x : Ex.Wk} (k : Nat) (h : Ex.chk x = 0) : Ex.chk { x with sg := x.sg.eraseIdx k } = 0 := chk_sg _ h (by rw [List.length_eraseIdx]; split <;> omega) (vG_erase k (Int.le_refl _))

/-! the mirrored faults -/
theorem cm_all : ((List.range 10).all fun k => (List.range 10).all fun l => (List.range 3).all fun s => (List.range 3).all fun t => fb k s || fb l t || (((cols k (3 - (s : Int)) &&& cols l (3 - (t : Int))) != 0) == ((cols k s &&& cols l t) != 0))) = true := by decide +kernel
theorem cm_fin (k l s t : Nat) (hk : k < 10) (hl : l < 10) (hs : s < 3) (ht : t < 3) (h1 : (k = 1 ∨ k = 3 ∨ k = 4 ∨ k = 9) → s ≠ 0) (h2 : (l = 1 ∨ l = 3 ∨ l = 4 ∨ l = 9) → t ≠ 0) :
    ((cols k (3 - (s : Int)) &&& cols l (3 - (t : Int))) != 0) = ((cols k s &&& cols l t) != 0) := by
  have h := List.all_eq_true.1 (List.all_eq_true.1 (List.all_eq_true.1 (List.all_eq_true.1 cm_all k (List.mem_range.2 hk)) l (List.mem_range.2 hl)) s (List.mem_range.2 hs)) t (List.mem_range.2 ht)
  have f1 : fb k s = false := by
    simp only [fb, Bool.and_eq_false_iff, Bool.or_eq_false_iff, beq_eq_false_iff_ne, ne_eq]
    omega
  have f2 : fb l t = false := by
    simp only [fb, Bool.and_eq_false_iff, Bool.or_eq_false_iff, beq_eq_false_iff_ne, ne_eq]
    omega
  rw [f1, f2, Bool.false_or, Bool.false_or] at h
  simpa using h
theorem cols_mir {c : Ex.Sg} {roles bars : Int} (hc : Rt c roles bars) : ∃ k s : Nat, k < 10 ∧ s < 3 ∧ cols c.kind c.side = cols k s ∧ cols (mir c).kind (mir c).side = cols k (3 - (s : Int)) ∧ ((k = 1 ∨ k = 3 ∨ k = 4 ∨ k = 9) → s ≠ 0) := by
  have h1 := hc.kind
  have h2 := hc.side
  by_cases h : c.kind = 1 ∨ c.kind = 3 ∨ c.kind = 4 ∨ c.kind = 9
  · have h3 := h2 h
    refine ⟨c.kind.toNat, c.side.toNat, by omega, by omega, ?_, ?_, by omega⟩
    · rw [show ((c.kind.toNat : Nat) : Int) = c.kind by omega, show ((c.side.toNat : Nat) : Int) = c.side by omega]
    · rw [show ((c.kind.toNat : Nat) : Int) = c.kind by omega, show ((c.side.toNat : Nat) : Int) = c.side by omega]
      unfold mir
      dsimp only
      rw [if_neg (by omega)]
  · have e : ∀ s t, cols c.kind s = cols c.kind t := fun s t => by
      rw [cols_sd c.kind s, cols_sd c.kind t, sd, sd, if_neg h, if_neg h]
    refine ⟨c.kind.toNat, 1, by omega, by omega, ?_, ?_, by omega⟩
    · rw [show ((c.kind.toNat : Nat) : Int) = c.kind by omega]; exact e _ _
    · rw [show ((c.kind.toNat : Nat) : Int) = c.kind by omega]; exact e _ _
theorem com_mir {a b : Ex.Sg} {roles bars : Int} (ha : Rt a roles bars) (hb : Rt b roles bars) : com (mir a) (mir b) = com a b := by
  obtain ⟨k, s, k1, s1, e1, e2, h1⟩ := cols_mir ha
  obtain ⟨l, t, l1, t1, e3, e4, h2⟩ := cols_mir hb
  unfold com
  rw [e1, e2, e3, e4]
  exact cm_fin k l s t k1 l1 s1 t1 h1 h2
theorem sup_mir {a b : Ex.Sg} {roles bars : Int} (ha : Rt a roles bars) (hb : Rt b roles bars) : sup (mir a) (mir b) = sup a b := by
  have h1 := ha.side
  have h2 := hb.side
  unfold sup
  rw [show are (mir a) (mir b) 7 2 = are a b 7 2 from rfl, show leg (mir a) = leg a from rfl, show leg (mir b) = leg b from rfl]
  congr 1
  rcases la : leg a with _ | _
  · rfl
  rcases lb : leg b with _ | _
  · rfl
  simp only [leg, Bool.or_eq_true, beq_iff_eq] at la lb
  have s1 := h1 (by omega)
  have s2 := h2 (by omega)
  rw [Bool.eq_iff_iff]
  simp only [mir, Bool.true_and, bne_iff_ne, ne_eq]
  rw [if_neg (by omega), if_neg (by omega)]
  omega
theorem pairK_mir (kind : Int) {a b : Ex.Sg} {roles bars : Int} (ha : Rt a roles bars) (hb : Rt b roles bars) : pairK kind (mir a) (mir b) = pairK kind a b := by
  unfold pairK
  rw [com_mir ha hb, sup_mir ha hb]
  rfl
theorem alone_mir (all : List Ex.Sg) (a : Ex.Sg) : alone (all.map mir) (mir a) = alone all a := by
  unfold alone
  rw [List.any_map]
  rfl
theorem rK_mir (kind : Int) (all : List Ex.Sg) {roles bars : Int} : ∀ {l : List Ex.Sg}, (∀ s ∈ l, Rt s roles bars) → rK kind (all.map mir) (l.map mir) = rK kind all l
  | [], _ => rfl
  | a :: l, h => by
    rw [List.map_cons, rK, rK, rK_mir kind all (fun s hs => h s (List.mem_cons_of_mem _ hs))]
    have e1 : selfK kind (all.map mir) (mir a) = selfK kind all a := by unfold selfK; rw [alone_mir]; rfl
    have e2 : rowK kind (mir a) (l.map mir) = rowK kind a l := by
      unfold rowK
      rw [List.filter_map, List.map_map]
      have : l.filter (pairK kind (mir a) ∘ mir) = l.filter (pairK kind a) := List.filter_congr fun b hb => pairK_mir kind (h a (List.mem_cons_self ..)) (h b (List.mem_cons_of_mem _ hb))
      rw [this]
      rfl
    rw [e1, e2]
theorem refL_mir {l : List Ex.Sg} {roles bars : Int} (h : ∀ s ∈ l, Rt s roles bars) : refL (l.map mir) = refL l := by
  unfold refL
  rw [rK_mir 1 l h, rK_mir 2 l h, rK_mir 3 l h, rK_mir 4 l h]

/-! the faults of one bar -/
theorem pairK_bar {kind : Int} {a b : Ex.Sg} (h : pairK kind a b = true) : a.bar = b.bar := by
  simp only [pairK, sim, Bool.and_eq_true, beq_iff_eq] at h
  exact h.1.1.2
theorem alone_bar (all : List Ex.Sg) {a : Ex.Sg} {bar : Int} (h : a.bar = bar) : alone (all.filter fun s => s.bar == bar) a = alone all a := by
  unfold alone
  congr 2
  rw [List.any_filter]
  congr 1
  apply List.any_congr rfl
  intro b
  rw [Bool.eq_iff_iff]
  simp only [fits, Bool.and_eq_true, Bool.or_eq_true, beq_iff_eq]
  constructor
  · exact fun h => h.2
  · rintro (h1 | h1)
    · exact ⟨by omega, .inl h1⟩
    · exact ⟨by omega, .inr h1⟩
theorem rK_bar (kind bar : Int) (all : List Ex.Sg) (own : Int → Bool) : ∀ {l : List Ex.Sg}, (∀ s ∈ l, own s.id = (s.bar == bar)) →
    rK kind (all.filter fun s => s.bar == bar) (l.filter fun s => s.bar == bar) = (rK kind all l).filter fun y => own y.2.1
  | [], _ => rfl
  | a :: l, h => by
    have ih := rK_bar kind bar all own (l := l) (fun s hs => h s (List.mem_cons_of_mem _ hs))
    have ho := h a (List.mem_cons_self ..)
    rw [rK, List.filter_append, List.filter_append, ← ih, List.filter_cons]
    have f1 : ∀ (m : List F3), (∀ y ∈ m, y.2.1 = a.id) → m.filter (fun y => own y.2.1) = if a.bar == bar then m else [] := fun m hm => by
      split
      · rename_i e
        exact List.filter_eq_self.2 fun y hy => by rw [hm y hy, ho, e]
      · rename_i e
        exact List.filter_eq_nil_iff.2 fun y hy => by rw [hm y hy, ho]; exact e
    rw [f1 (selfK kind all a) (fun y hy => by unfold selfK at hy; split at hy <;> simp at hy; rw [hy]), f1 (rowK kind a l) (fun y hy => by simp only [rowK, List.mem_map] at hy; obtain ⟨b, _, rfl⟩ := hy; rfl)]
    split
    · rename_i e
      have e' : a.bar = bar := by simpa using e
      rw [rK]
      have e1 : selfK kind (all.filter fun s => s.bar == bar) a = selfK kind all a := by unfold selfK; rw [alone_bar all e']
      have e2 : rowK kind a (l.filter fun s => s.bar == bar) = rowK kind a l := by
        unfold rowK
        rw [List.filter_filter]
        congr 1
        apply List.filter_congr
        intro b _
        rw [Bool.eq_iff_iff, Bool.and_eq_true]
        exact ⟨fun h => h.1, fun h => ⟨h, by have := pairK_bar h; simp; omega⟩⟩
      rw [e1, e2]
    · simp
theorem refL_bar (bar : Int) {l : List Ex.Sg} (own : Int → Bool) (h : ∀ s ∈ l, own s.id = (s.bar == bar)) : refL (l.filter fun s => s.bar == bar) = (refL l).filter fun y => own y.2.1 := by
  unfold refL
  rw [rK_bar 1 bar l own h, rK_bar 2 bar l own h, rK_bar 3 bar l own h, rK_bar 4 bar l own h, List.filter_append, List.filter_append, List.filter_append]
/-- Who is of the bar. -/
theorem own_bar (bar : Int) {l : List Ex.Sg} (hi : Inc l) : ∀ s ∈ l, (l.any fun t => t.bar == bar && t.id == s.id) = (s.bar == bar) := by
  intro s hs
  rw [Bool.eq_iff_iff, List.any_eq_true]
  constructor
  · rintro ⟨t, ht, h⟩
    simp only [Bool.and_eq_true, beq_iff_eq] at h
    rw [← inc_inj l hi t s ht hs h.2]
    simpa using h.1
  · intro h
    exact ⟨s, hs, by simpa using h⟩
end Ty
end Go.Proofs.YtggfeblfhabmkaaDoor
