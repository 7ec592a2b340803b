/- Plain facts: the law TypesMoment. -/
import Derived.Test.YtggfeblfhabmkaaDoorTyG
import Derived.Test.YtggfeblfhabmkaaDoorTyB
namespace Go.Proofs.YtggfeblfhabmkaaDoor
set_option linter.unusedVariables false
set_option linter.unusedSimpArgs false
namespace Ty
/-- Is a sign active at a moment? -/
def act (k : Ex.Sg) (n d : Int) : Bool := decide (k.fn * d ≤ n * k.fd) && decide (n * k.td < k.tn * d)
/-- a/b < c/d < e/f. -/
theorem lt_tr {a b c d e f : Int} (hd : 0 < d) (hb : 0 < b) (hf : 0 < f) (h1 : a * d < c * b) (h2 : c * f < e * d) : a * f < e * b := by
  have h3 : a * d * f < c * b * f := Int.mul_lt_mul_of_pos_right h1 hf
  have h4 : c * f * b < e * d * b := Int.mul_lt_mul_of_pos_right h2 hb
  have h5 : a * f * d < e * b * d := by
    have e1 : a * f * d = a * d * f := Int.mul_right_comm ..
    have e2 : c * b * f = c * f * b := Int.mul_right_comm ..
    have e3 : e * b * d = e * d * b := Int.mul_right_comm ..
    omega
  exact Int.lt_of_mul_lt_mul_right h5 (Int.le_of_lt hd)
theorem le_lt_tr {a b c d e f : Int} (hd : 0 < d) (hb : 0 < b) (hf : 0 < f) (h1 : a * d ≤ c * b) (h2 : c * f < e * d) : a * f < e * b := by
  have h3 : a * d * f ≤ c * b * f := Int.mul_le_mul_of_nonneg_right h1 (Int.le_of_lt hf)
  have h4 : c * f * b < e * d * b := Int.mul_lt_mul_of_pos_right h2 hb
  have h5 : a * f * d < e * b * d := by
    have e1 : a * f * d = a * d * f := Int.mul_right_comm ..
    have e2 : c * b * f = c * f * b := Int.mul_right_comm ..
    have e3 : e * b * d = e * d * b := Int.mul_right_comm ..
    omega
  exact Int.lt_of_mul_lt_mul_right h5 (Int.le_of_lt hd)
/-- Two signs last at one time exactly if both are active when the later of them begins. -/
theorem act_over {a b : Ex.Sg} {roles bars : Int} (ha : Rt a roles bars) (hb : Rt b roles bars) :
    (if a.fn * b.fd < b.fn * a.fd then act a b.fn b.fd && act b b.fn b.fd else act a a.fn a.fd && act b a.fn a.fd) = over a b := by
  have a1 := (Ra.ok_iff _ _).1 ha.fok
  have a2 := (Ra.ok_iff _ _).1 ha.tok
  have b1 := (Ra.ok_iff _ _).1 hb.fok
  have b2 := (Ra.ok_iff _ _).1 hb.tok
  have fa := ha.ft
  have fb := hb.ft
  rw [Bool.eq_iff_iff]
  split
  · rename_i h
    simp only [act, over, bef, Bool.and_eq_true, decide_eq_true_eq]
    constructor
    · rintro ⟨⟨h1, h2⟩, h3, h4⟩
      exact ⟨lt_tr (d := b.fd) (by omega) (by omega) (by omega) h fb, h2⟩
    · rintro ⟨h1, h2⟩
      exact ⟨⟨by omega, h2⟩, Int.le_refl _, fb⟩
  · rename_i h
    simp only [act, over, bef, Bool.and_eq_true, decide_eq_true_eq]
    constructor
    · rintro ⟨⟨h1, h2⟩, h3, h4⟩
      exact ⟨h4, le_lt_tr (d := a.fd) (by omega) (by omega) (by omega) (by omega) fa⟩
    · rintro ⟨h1, h2⟩
      exact ⟨⟨Int.le_refl _, fa⟩, by omega, h1⟩
/-- The parts of the body that a sign uses. -/
def usesP (kind side : Int) : Bool × Bool × Bool × Bool × Bool × Bool :=
  if kind = 1 ∨ kind = 3 then (side == 1, !(side == 1), false, false, false, false)
  else if kind = 2 then (true, true, false, false, false, false)
  else if kind = 4 ∨ kind = 9 then (false, false, side == 1, !(side == 1), false, false)
  else if kind = 5 then (false, false, false, false, true, false)
  else if kind = 6 then (false, false, false, false, false, true)
  else if kind = 7 then (false, false, true, true, false, false)
  else if kind = 8 then (true, true, false, false, false, true)
  else (false, false, false, false, false, false)
def comP (p q : Bool × Bool × Bool × Bool × Bool × Bool) : Bool :=
  p.1 && q.1 || p.2.1 && q.2.1 || p.2.2.1 && q.2.2.1 || p.2.2.2.1 && q.2.2.2.1 || p.2.2.2.2.1 && q.2.2.2.2.1 || p.2.2.2.2.2 && q.2.2.2.2.2
/-- The sides that matter. -/
def sd (kind side : Int) : Int := if kind = 1 ∨ kind = 3 ∨ kind = 4 ∨ kind = 9 then side else 0
def fb (k s : Nat) : Bool := (k == 1 || k == 3 || k == 4 || k == 9) && s == 0
theorem com_all : ((List.range 10).all fun k => (List.range 10).all fun l => (List.range 3).all fun s => (List.range 3).all fun t => fb k s || fb l t || (((cols k s &&& cols l t) != 0) == comP (usesP k s) (usesP l t))) = true := by decide +kernel
theorem com_fin (k l s t : Nat) (hk : k < 10) (hl : l < 10) (hs : s < 3) (ht : t < 3) (h1 : (k = 1 ∨ k = 3 ∨ k = 4 ∨ k = 9) → s ≠ 0) (h2 : (l = 1 ∨ l = 3 ∨ l = 4 ∨ l = 9) → t ≠ 0) :
    ((cols k s &&& cols l t) != 0) = comP (usesP k s) (usesP l t) := by
  have h := List.all_eq_true.1 (List.all_eq_true.1 (List.all_eq_true.1 (List.all_eq_true.1 com_all k (List.mem_range.2 hk)) l (List.mem_range.2 hl)) s (List.mem_range.2 hs)) t (List.mem_range.2 ht)
  have f1 : fb k s = false := by
    simp only [fb, Bool.and_eq_false_iff, Bool.or_eq_false_iff, beq_eq_false_iff_ne, ne_eq]
    omega
  have f2 : fb l t = false := by
    simp only [fb, Bool.and_eq_false_iff, Bool.or_eq_false_iff, beq_eq_false_iff_ne, ne_eq]
    omega
  rw [f1, f2, Bool.false_or, Bool.false_or] at h
  simpa using h
theorem cols_sd (k s : Int) : cols k s = cols k (sd k s) := by
  unfold cols sd
  by_cases h : k = 1 ∨ k = 3 ∨ k = 4 ∨ k = 9
  · rw [if_pos h]
  · have h1 : ¬ (k = 1 ∨ k = 3) := by omega
    have h4 : ¬ (k = 4 ∨ k = 9) := by omega
    rw [if_neg h]
    simp only [if_neg h1, if_neg h4]
theorem uses_sd (k s : Int) : usesP k s = usesP k (sd k s) := by
  unfold usesP sd
  by_cases h : k = 1 ∨ k = 3 ∨ k = 4 ∨ k = 9
  · rw [if_pos h]
  · have h1 : ¬ (k = 1 ∨ k = 3) := by omega
    have h4 : ¬ (k = 4 ∨ k = 9) := by omega
    rw [if_neg h]
    simp only [if_neg h1, if_neg h4]
theorem com_uses {a b : Ex.Sg} {roles bars : Int} (ha : Rt a roles bars) (hb : Rt b roles bars) : com a b = comP (usesP a.kind a.side) (usesP b.kind b.side) := by
  unfold com
  rw [cols_sd a.kind, cols_sd b.kind, uses_sd a.kind, uses_sd b.kind]
  have side : ∀ {c : Ex.Sg}, Rt c roles bars → ∃ k s : Nat, k < 10 ∧ s < 3 ∧ c.kind = k ∧ sd c.kind c.side = s ∧ ((k = 1 ∨ k = 3 ∨ k = 4 ∨ k = 9) → s ≠ 0) := fun {c} hc => by
    have h1 := hc.kind
    have h2 := hc.side
    refine ⟨c.kind.toNat, (sd c.kind c.side).toNat, by omega, ?_, by omega, ?_, ?_⟩
    · unfold sd; split <;> omega
    · unfold sd; split <;> omega
    · intro h; unfold sd; rw [if_pos (by omega)]; have := h2 (by omega); omega
  obtain ⟨k, s, k1, s1, ek, es, h1⟩ := side ha
  obtain ⟨l, t, l1, t1, el, et, h2⟩ := side hb
  rw [es, et, ek, el]
  exact com_fin k l s t k1 l1 s1 t1 h1 h2
theorem bf_of (l : List Ex.Sg) : ∀ (i j : Nat) (a b : Ex.Sg), i < j → l[i]? = some a → l[j]? = some b → Bf a b l := by
  induction l with
  | nil => intro i j a b _ h; simp at h
  | cons c l ih =>
    intro i j a b h h1 h2
    cases j with
    | zero => omega
    | succ j =>
      cases i with
      | zero =>
        left
        exact ⟨by simpa using h1.symm, List.mem_of_getElem? (i := j) (by simpa using h2)⟩
      | succ i => exact .inr (ih i j a b (by omega) (by simpa using h1) (by simpa using h2))
theorem bf_mem : ∀ {l : List Ex.Sg} {a b : Ex.Sg}, Bf a b l → a ∈ l ∧ b ∈ l
  | [], _, _, h => h.elim
  | c :: l, a, b, h => by
    rcases h with ⟨rfl, h⟩ | h
    · exact ⟨List.mem_cons_self .., List.mem_cons_of_mem _ h⟩
    · obtain ⟨h1, h2⟩ := bf_mem h
      exact ⟨List.mem_cons_of_mem _ h1, List.mem_cons_of_mem _ h2⟩
theorem bf_lt : ∀ {l : List Ex.Sg} {a b : Ex.Sg}, Inc l → Bf a b l → a.id < b.id
  | [], _, _, _, h => h.elim
  | c :: l, a, b, hi, h => by
    have h' := List.pairwise_cons.1 hi
    rcases h with ⟨rfl, h⟩ | h
    · exact h'.1 b h
    · exact bf_lt h'.2 h
set_option maxHeartbeats 1000000 in
/-- Which faults two signs are. -/
theorem moment_got {l : List Ex.Sg} (h : Inc l) {a b : Ex.Sg} (hab : Bf a b l) (k : Int) : ((refL l).any fun x => x.2.1 == a.id && x.2.2 == b.id && x.1 == k) = ((k == 1 || k == 2 || k == 4) && pairK k a b) := by
  have hlt := bf_lt h hab
  obtain ⟨ma, mb⟩ := bf_mem hab
  have one : ∀ {c d : Ex.Sg}, Bf c d l → c.id = a.id → d.id = b.id → c = a ∧ d = b := fun {c d} hcd e1 e2 => by
    obtain ⟨mc, md⟩ := bf_mem hcd
    exact ⟨inc_inj l h c a mc ma e1, inc_inj l h d b md mb e2⟩
  rw [Bool.eq_iff_iff, List.any_eq_true]
  constructor
  · rintro ⟨x, hx, h3⟩
    simp only [Bool.and_eq_true, beq_iff_eq] at h3
    obtain ⟨⟨h4, h5⟩, h6⟩ := h3
    simp only [refL, List.mem_append, mem_rK] at hx
    rcases hx with (⟨h7, _⟩ | ⟨c, d, hcd, hp, rfl⟩) | (⟨h7, _⟩ | ⟨c, d, hcd, hp, rfl⟩) | (⟨_, c, hc, _, rfl⟩ | ⟨c, d, hcd, hp, rfl⟩) | (⟨h7, _⟩ | ⟨c, d, hcd, hp, rfl⟩)
    · omega
    · obtain ⟨e1, e2⟩ := one hcd h4 h5; rw [e1, e2] at hp; have h6' : k = 1 := h6.symm; rw [h6', hp]; rfl
    · omega
    · obtain ⟨e1, e2⟩ := one hcd h4 h5; rw [e1, e2] at hp; have h6' : k = 2 := h6.symm; rw [h6', hp]; rfl
    · dsimp only at h4 h5; omega
    · simp [pairK] at hp
    · omega
    · obtain ⟨e1, e2⟩ := one hcd h4 h5; rw [e1, e2] at hp; have h6' : k = 4 := h6.symm; rw [h6', hp]; rfl
  · intro h3
    simp only [Bool.and_eq_true, Bool.or_eq_true, beq_iff_eq] at h3
    refine ⟨(k, a.id, b.id), ?_, by simp⟩
    simp only [refL, List.mem_append, mem_rK]
    rcases h3 with ⟨(rfl | rfl) | rfl, hp⟩
    · exact .inl (.inr ⟨a, b, hab, hp, rfl⟩)
    · exact .inr (.inl (.inr ⟨a, b, hab, hp, rfl⟩))
    · exact .inr (.inr (.inr (.inr ⟨a, b, hab, hp, rfl⟩)))
theorem tow_eq (a b : Ex.Sg) : tow a b = (min a.kind b.kind == 7 && max a.kind b.kind == 8) := by
  rw [Bool.eq_iff_iff]
  simp only [tow, are, Bool.or_eq_true, Bool.and_eq_true, beq_iff_eq]
  omega
theorem leg_com {a b : Ex.Sg} {roles bars : Int} (ha : Rt a roles bars) (hb : Rt b roles bars) (la : leg a = true) (lb : leg b = true) : (a.side != b.side) = !com a b := by
  simp only [leg, Bool.or_eq_true, beq_iff_eq] at la lb
  have s1 := ha.side (by omega)
  have s2 := hb.side (by omega)
  have c1 : cols a.kind a.side = if a.side = 2 then 2 else 1 := by unfold cols; rw [if_pos la]
  have c2 : cols b.kind b.side = if b.side = 2 then 2 else 1 := by unfold cols; rw [if_pos lb]
  unfold com
  rw [c1, c2]
  rcases s1 with s1 | s1 <;> rcases s2 with s2 | s2 <;> rw [s1, s2] <;> decide
theorem sup_eq {a b : Ex.Sg} {roles bars : Int} (ha : Rt a roles bars) (hb : Rt b roles bars) : sup a b = ((leg a && leg b && !com a b) || (min a.kind b.kind == 2 && max a.kind b.kind == 7)) := by
  have e : are a b 7 2 = (min a.kind b.kind == 2 && max a.kind b.kind == 7) := by
    rw [Bool.eq_iff_iff]
    simp only [are, Bool.or_eq_true, Bool.and_eq_true, beq_iff_eq]
    omega
  unfold sup
  rw [e]
  congr 1
  rcases la : leg a with _ | _
  · rfl
  · rcases lb : leg b with _ | _
    · rfl
    · rw [leg_com ha hb la lb]
/-- What the law asks of two signs. -/
def wantK (a b : Ex.Sg) (k : Int) : Bool := if k = 1 then com a b else if k = 2 then (leg a && leg b && !com a b) || (min a.kind b.kind == 2 && max a.kind b.kind == 7) else if k = 4 then (min a.kind b.kind == 7 && max a.kind b.kind == 8) else false
theorem moment_want {l : List Ex.Sg} {roles bars : Int} (h : Inc l) (hr : ∀ s ∈ l, Rt s roles bars) {a b : Ex.Sg} (hab : Bf a b l) (k : Int) (hk : k = 1 ∨ k = 2 ∨ k = 4) :
    ((refL l).any fun x => x.2.1 == a.id && x.2.2 == b.id && x.1 == k) = (sim a b && wantK a b k) := by
  have ma := (Bf_mem hab).1
  have mb := (Bf_mem hab).2
  rw [moment_got h hab k]
  unfold pairK wantK
  rw [← sup_eq (hr a ma) (hr b mb), ← tow_eq]
  rcases hk with rfl | rfl | rfl <;> simp
theorem moment_lift {l : List Ex.Sg} (h : Inc l) {a b : Ex.Sg} (hab : Bf a b l) : ((refL l).any fun x => x.2.1 == a.id && x.2.2 == b.id && x.1 == 3) = false := by
  rw [moment_got h hab 3]; rfl
end Ty
end Go.Proofs.YtggfeblfhabmkaaDoor
