/- Plain facts: the references of Pairs and Groups say what the program's say. -/
import Derived.Test.YtjoieglhmladhaaDoorPpB
namespace Go.Proofs.YtjoieglhmladhaaDoor
set_option linter.unusedVariables false
set_option linter.unusedSimpArgs false
namespace Rf
def lf1 (bar a b : Int) (s : Ex.Sg) : Bool := s.bar == bar && s.kind == 7 && s.role == a && s.wth == b + 1
def lf (bar : Int) (l : List Ex.Sg) (a b : Int) : Bool := l.any (lf1 bar a b)
/-- Row a of the reference's pairs, from b on (n: how many are left). -/
def rowF (f : Nat → Nat → Bool) (a : Nat) : Nat → Nat → List (Int × Int)
  | _, 0 => []
  | b, n + 1 => if f a b = true then ((a : Int), (b : Int)) :: rowF f a (b + 1) n else rowF f a (b + 1) n
def allF (f : Nat → Nat → Bool) (R : Nat) : Nat → Nat → List (Int × Int)
  | _, 0 => []
  | a, n + 1 => rowF f a (a + 1) (R - (a + 1)) ++ allF f R (a + 1) n
def two (bar : Int) (l : List Ex.Sg) (a b : Nat) : Bool := lf bar l a b || lf bar l b a
theorem key1 (bar : Int) (s : Ex.Sg) (a b : Int) (h : a < b) : (Ap.lift bar s = true ∧ Ap.prOf s = (a, b)) ↔ (lf1 bar a b s || lf1 bar b a s) = true := by
  unfold Ap.lift Ap.prOf lf1 Kit.mn2 Kit.mx2
  simp only [Bool.or_eq_true, Bool.and_eq_true, beq_iff_eq, bne_iff_ne, ne_eq, Prod.mk.injEq]
  constructor
  · rintro ⟨⟨⟨h1, h2⟩, h3⟩, h4, h5⟩
    by_cases e : s.role < s.wth - 1
    · rw [if_neg (by omega)] at h4
      rw [if_pos e] at h5
      exact .inl ⟨⟨⟨h1, h2⟩, h4⟩, by omega⟩
    · rw [if_pos (by omega)] at h4
      rw [if_neg e] at h5
      exact .inr ⟨⟨⟨h1, h2⟩, h5⟩, by omega⟩
  · rintro (⟨⟨⟨h1, h2⟩, h3⟩, h4⟩ | ⟨⟨⟨h1, h2⟩, h3⟩, h4⟩)
    · refine ⟨⟨⟨h1, h2⟩, by omega⟩, ?_, ?_⟩
      · rw [if_neg (by omega)]; exact h3
      · rw [if_pos (by omega)]; omega
    · refine ⟨⟨⟨h1, h2⟩, by omega⟩, ?_, ?_⟩
      · rw [if_pos (by omega)]; omega
      · rw [if_neg (by omega)]; exact h3
theorem met_iff (bar : Int) (a b : Int) (h : a < b) : ∀ l : List Ex.Sg, (a, b) ∈ Ap.met bar l ↔ (lf bar l a b || lf bar l b a) = true
  | [] => by simp [Ap.met, lf]
  | s :: l => by
    have ih := met_iff bar a b h l
    have k := key1 bar s a b h
    have e : (lf bar (s :: l) a b || lf bar (s :: l) b a) = ((lf1 bar a b s || lf1 bar b a s) || (lf bar l a b || lf bar l b a)) := by
      simp only [lf, List.any_cons]
      cases lf1 bar a b s <;> cases lf1 bar b a s <;> simp
    have em : Ap.met bar (s :: l) = if Ap.lift bar s = true then Ap.prOf s :: Ap.met bar l else Ap.met bar l := rfl
    rw [e, Bool.or_eq_true, ← k, ← ih, em]
    by_cases hl : Ap.lift bar s = true
    · rw [if_pos hl, List.mem_cons]
      constructor
      · rintro (h1 | h1)
        · exact .inl ⟨hl, h1.symm⟩
        · exact .inr h1
      · rintro (⟨_, h1⟩ | h1)
        · exact .inl h1.symm
        · exact .inr h1
    · rw [if_neg hl]
      exact ⟨.inr, fun h1 => h1.resolve_left (fun h2 => hl h2.1)⟩
theorem met_lt (bar : Int) : ∀ (l : List Ex.Sg), ∀ p ∈ Ap.met bar l, p.1 < p.2
  | [], p, hp => by simp [Ap.met] at hp
  | s :: l, p, hp => by
    unfold Ap.met at hp
    split at hp
    · rename_i hm
      rcases List.mem_cons.1 hp with rfl | hp
      · simp only [Ap.lift, Bool.and_eq_true, bne_iff_ne, ne_eq] at hm
        have h1 := Kit.mn2_le s.role (s.wth - 1)
        have h2 := Kit.mx2_le s.role (s.wth - 1)
        simp only [Ap.prOf]
        have := hm.2
        omega
      · exact met_lt bar l p hp
    · exact met_lt bar l p hp
theorem row_skip {M : List (Int × Int)} (hM : ∀ p ∈ M, p.1 < p.2) (a : Nat) : ∀ (n b m : Nat), b + n ≤ a + 1 → Ap.rowP M a b (n + m) = Ap.rowP M a (b + n) m
  | 0, b, m, _ => by simp
  | n + 1, b, m, h => by
    have hne : ¬ ((a : Int), (b : Int)) ∈ M := fun h1 => by have := hM _ h1; simp at this; omega
    rw [show n + 1 + m = (n + m) + 1 by omega, Ap.rowP, if_neg hne, row_skip hM a n (b + 1) m (by omega), show b + 1 + n = b + (n + 1) by omega]
theorem row_eq {M : List (Int × Int)} {f : Nat → Nat → Bool} (hM : ∀ a b : Nat, a < b → (((a : Int), (b : Int)) ∈ M ↔ f a b = true)) (a : Nat) : ∀ (n b : Nat), a < b → Ap.rowP M a b n = rowF f a b n
  | 0, _, _ => rfl
  | n + 1, b, h => by
    simp only [Ap.rowP, rowF, hM a b h, row_eq hM a n (b + 1) (by omega)]
theorem all_eq {M : List (Int × Int)} {f : Nat → Nat → Bool} (hlt : ∀ p ∈ M, p.1 < p.2) (hM : ∀ a b : Nat, a < b → (((a : Int), (b : Int)) ∈ M ↔ f a b = true)) (R : Nat) : ∀ (n a : Nat), a + n ≤ R → Ap.allP M R a n = allF f R a n
  | 0, _, _ => rfl
  | n + 1, a, h => by
    have e := row_skip hlt a (a + 1) 0 (R - (a + 1)) (by omega)
    rw [show a + 1 + (R - (a + 1)) = R by omega, Nat.zero_add, row_eq hM a _ _ (show a < a + 1 by omega)] at e
    simp only [Ap.allP, allF, e, all_eq hlt hM R n (a + 1) (by omega)]
/-- The reference's pairs are the program's. -/
theorem prs_eq (x : Ex.Wk) (bar : Int) : Ap.prs x bar = allF (two bar x.sg) x.ro.length 0 x.ro.length :=
  all_eq (met_lt bar x.sg) (fun a b h => met_iff bar a b (by omega) x.sg) _ _ _ (by omega)
theorem rowF_step (f : Nat → Nat → Bool) (a b R : Nat) (h : b < R) : rowF f a b (R - b) = if f a b = true then ((a : Int), (b : Int)) :: rowF f a (b + 1) (R - (b + 1)) else rowF f a (b + 1) (R - (b + 1)) := by
  rw [show R - b = (R - (b + 1)) + 1 by omega]; rfl
theorem allF_step (f : Nat → Nat → Bool) (R a : Nat) (h : a < R) : allF f R a (R - a) = rowF f a (a + 1) (R - (a + 1)) ++ allF f R (a + 1) (R - (a + 1)) := by
  rw [show R - a = (R - (a + 1)) + 1 by omega]; rfl
-- the groups
def stp (G : Nat → Nat) (p : Int × Int) (j : Nat) : Nat := if j = p.1.toNat ∨ j = p.2.toNat then min (G p.1.toNat) (G p.2.toNat) else G j
def its (L : List (Int × Int)) : Nat → Nat → Nat
  | 0 => id
  | k + 1 => L.foldl stp (its L k)
/-- Between a role's least role and itself, and of one group with it. -/
structure Mid (r G : Nat → Nat) : Prop where
  lo : ∀ j, r j ≤ G j
  up : ∀ j, G j ≤ j
  same : ∀ j, r (G j) = r j
theorem stp_mid {r G : Nat → Nat} (h : Mid r G) (p : Int × Int) (hp : r p.1.toNat = r p.2.toNat) : Mid r (stp G p) := by
  have l1 := h.lo p.1.toNat
  have l2 := h.lo p.2.toNat
  have u1 := h.up p.1.toNat
  have u2 := h.up p.2.toNat
  have s1 := h.same p.1.toNat
  have s2 := h.same p.2.toNat
  have sm : r (min (G p.1.toNat) (G p.2.toNat)) = r p.1.toNat := by
    rcases Nat.le_total (G p.1.toNat) (G p.2.toNat) with e | e
    · rw [Nat.min_eq_left e]; exact s1
    · rw [Nat.min_eq_right e]; omega
  refine ⟨fun j => ?_, fun j => ?_, fun j => ?_⟩
  · unfold stp
    split
    · rename_i e
      rcases e with rfl | rfl <;> omega
    · exact h.lo j
  · unfold stp
    split
    · rename_i e
      rcases e with rfl | rfl <;> omega
    · exact h.up j
  · unfold stp
    split
    · rename_i e
      rcases e with rfl | rfl <;> omega
    · exact h.same j
theorem stp_dn {r G : Nat → Nat} (h : Mid r G) (p : Int × Int) (j : Nat) : stp G p j ≤ G j := by
  unfold stp
  split
  · rename_i e
    rcases e with rfl | rfl <;> omega
  · omega
theorem fold_mid {r : Nat → Nat} : ∀ (L : List (Int × Int)) {G : Nat → Nat}, Mid r G → (∀ p ∈ L, r p.1.toNat = r p.2.toNat) → Mid r (L.foldl stp G) ∧ ∀ j, L.foldl stp G j ≤ G j
  | [], _, h, _ => ⟨h, fun _ => Nat.le_refl _⟩
  | p :: L, G, h, hL => by
    obtain ⟨m, d⟩ := fold_mid L (stp_mid h p (hL p (List.mem_cons_self ..))) (fun q hq => hL q (List.mem_cons_of_mem _ hq))
    exact ⟨m, fun j => Nat.le_trans (d j) (stp_dn h p j)⟩
/-- Where one role of a pair has its least role, the other has it behind the pass. -/
theorem fold_win {r : Nat → Nat} : ∀ (L : List (Int × Int)) {G : Nat → Nat}, Mid r G → (∀ p ∈ L, r p.1.toNat = r p.2.toNat) → ∀ p ∈ L, (G p.1.toNat = r p.1.toNat ∨ G p.2.toNat = r p.2.toNat) → L.foldl stp G p.1.toNat = r p.1.toNat ∧ L.foldl stp G p.2.toNat = r p.2.toNat
  | q :: L, G, h, hL, p, hp, hw => by
    have hq := hL q (List.mem_cons_self ..)
    have hL' : ∀ q ∈ L, r q.1.toNat = r q.2.toNat := fun q hq => hL q (List.mem_cons_of_mem _ hq)
    have hm := stp_mid h q hq
    rcases List.mem_cons.1 hp with rfl | hp
    · obtain ⟨m, d⟩ := fold_mid L hm hL'
      have l1 := h.lo p.1.toNat
      have l2 := h.lo p.2.toNat
      have e1 : stp G p p.1.toNat = min (G p.1.toNat) (G p.2.toNat) := by simp [stp]
      have e2 : stp G p p.2.toNat = min (G p.1.toNat) (G p.2.toNat) := by simp [stp]
      have d1 := d p.1.toNat
      have d2 := d p.2.toNat
      have m1 := m.lo p.1.toNat
      have m2 := m.lo p.2.toNat
      rw [e1] at d1
      rw [e2] at d2
      have hq2 := hq
      rw [List.foldl_cons]
      constructor <;> omega
    · refine fold_win L hm hL' p hp ?_
      have d1 := stp_dn h q p.1.toNat
      have d2 := stp_dn h q p.2.toNat
      have m1 := hm.lo p.1.toNat
      have m2 := hm.lo p.2.toNat
      rcases hw with hw | hw
      · exact .inl (by omega)
      · exact .inr (by omega)
theorem countP_lt {α : Type} {p q : α → Bool} : ∀ (l : List α), (∀ x ∈ l, p x = true → q x = true) → ∀ y ∈ l, p y = false → q y = true → l.countP p < l.countP q
  | x :: l, h, y, hy, h1, h2 => by
    have hle : l.countP p ≤ l.countP q := List.countP_mono_left (fun z hz => h z (List.mem_cons_of_mem _ hz))
    rcases List.mem_cons.1 hy with rfl | hy
    · rw [List.countP_cons, List.countP_cons, h1, h2]; simp; omega
    · have ih := countP_lt l (fun z hz => h z (List.mem_cons_of_mem _ hz)) y hy h1 h2
      have hx := h x (List.mem_cons_self ..)
      rw [List.countP_cons, List.countP_cons]
      rcases hp : p x with _ | _
      · simp; omega
      · rw [hx hp]; simp; omega
def bad (r G : Nat → Nat) (R : Nat) : Nat := (List.range R).countP fun j => decide (G j ≠ r j)
theorem bad_zero {r G : Nat → Nat} {R : Nat} (h : bad r G R = 0) (j : Nat) (hj : j < R) : G j = r j := by
  have h1 := (List.countP_eq_zero.1 h) j (List.mem_range.2 hj)
  simpa using h1
theorem its_mid (L : List (Int × Int)) : ∀ k, Mid (Ap.grp L) (its L k)
  | 0 => ⟨fun j => Ap.grp_le L j, fun _ => Nat.le_refl _, fun _ => rfl⟩
  | k + 1 => (fold_mid L (its_mid L k) (fun p hp => Ap.grp_pair L p hp)).1
theorem its_bad (L : List (Int × Int)) (R : Nat) (hL : ∀ p ∈ L, p.1.toNat < R ∧ p.2.toNat < R) : ∀ k, bad (Ap.grp L) (its L k) R ≤ R - k
  | 0 => by unfold bad; exact Nat.le_trans List.countP_le_length (by simp)
  | k + 1 => by
    have ih := its_bad L R hL k
    have hm := its_mid L k
    obtain ⟨m, d⟩ := fold_mid L hm (fun p hp => Ap.grp_pair L p hp)
    have hw := fold_win L hm (fun p hp => Ap.grp_pair L p hp)
    have key : ∀ j, its L k j = Ap.grp L j → its L (k + 1) j = Ap.grp L j := fun j h => by
      have h1 := d j
      have h2 := m.lo j
      show L.foldl stp (its L k) j = _
      omega
    by_cases hall : ∀ p ∈ L, decide (its L k p.1.toNat = Ap.grp L p.1.toNat) = decide (its L k p.2.toNat = Ap.grp L p.2.toNat)
    · have hj : ∀ j, its L k j = Ap.grp L j := fun j => by
        have h1 := Ap.grp_label (fun j => decide (its L k j = Ap.grp L j)) L hall j
        have h2 := hm.up (Ap.grp L j)
        have h3 := hm.lo (Ap.grp L j)
        have h4 := Ap.grp_fix L j
        have h5 : decide (its L k (Ap.grp L j) = Ap.grp L (Ap.grp L j)) = true := decide_eq_true (by omega)
        exact of_decide_eq_true (h1.symm.trans h5)
      have : bad (Ap.grp L) (its L (k + 1)) R = 0 := List.countP_eq_zero.2 (fun j _ => by simp [key j (hj j)])
      omega
    · have hall2 : ∃ p ∈ L, decide (its L k p.1.toNat = Ap.grp L p.1.toNat) ≠ decide (its L k p.2.toNat = Ap.grp L p.2.toNat) := by simpa using hall
      obtain ⟨p, hp, hne⟩ := hall2
      obtain ⟨b1, b2⟩ := hL p hp
      have hlt : bad (Ap.grp L) (its L (k + 1)) R < bad (Ap.grp L) (its L k) R := by
        by_cases e1 : its L k p.1.toNat = Ap.grp L p.1.toNat
        · have e2 : its L k p.2.toNat ≠ Ap.grp L p.2.toNat := fun e2 => hne (by rw [decide_eq_true e1, decide_eq_true e2])
          have hw2 := (hw p hp (.inl e1)).2
          exact countP_lt _ (fun j _ h => by simp only [ne_eq, decide_eq_true_eq] at h ⊢; exact fun h' => h (key j h')) p.2.toNat (List.mem_range.2 b2) (by rw [show its L (k + 1) p.2.toNat = Ap.grp L p.2.toNat from hw2]; simp) (by simpa using e2)
        · have e2 : its L k p.2.toNat = Ap.grp L p.2.toNat := Classical.byContradiction fun e2 => hne (by rw [decide_eq_false e1, decide_eq_false e2])
          have hw1 := (hw p hp (.inr e2)).1
          exact countP_lt _ (fun j _ h => by simp only [ne_eq, decide_eq_true_eq] at h ⊢; exact fun h' => h (key j h')) p.1.toNat (List.mem_range.2 b1) (by rw [show its L (k + 1) p.1.toNat = Ap.grp L p.1.toNat from hw1]; simp) (by simpa using e1)
      omega
/-- The reference's groups are the program's. -/
theorem its_grp (L : List (Int × Int)) (R : Nat) (hL : ∀ p ∈ L, p.1.toNat < R ∧ p.2.toNat < R) (j : Nat) (hj : j < R) : its L R j = Ap.grp L j :=
  bad_zero (by have := its_bad L R hL R; omega) j hj
end Rf
end Go.Proofs.YtjoieglhmladhaaDoor
