/- Plain facts: without faults everybody stands: the law TypesStands. -/
import Derived.Test.YtggfeblfhabmkaaDoorTzB
namespace Go.Proofs.YtggfeblfhabmkaaDoor
set_option linter.unusedVariables false
set_option linter.unusedSimpArgs false
namespace Ty
/-- The active signs of a role at a moment. -/
def lk (l : List Ex.Sg) (role bar n d : Int) : List Ex.Sg := l.filter fun k => k.role == role && k.bar == bar && act k n d
def lgs (l : List Ex.Sg) (i : Int) : Bool := l.any fun k => leg k && k.side == i
def jmp (l : List Ex.Sg) : Bool := l.any fun k => k.kind == 2
def rds (l : List Ex.Sg) : List Ex.Sg := l.filter fun k => k.kind == 8
def lfs (l : List Ex.Sg) : List Ex.Sg := l.filter fun k => k.kind == 7
def std (l : List Ex.Sg) : Bool := !jmp l && (rds l).length == 0 && !(lgs l 1 && lgs l 2)
theorem mem_lk {l : List Ex.Sg} {role bar n d : Int} {a : Ex.Sg} : a ∈ lk l role bar n d ↔ a ∈ l ∧ a.role = role ∧ a.bar = bar ∧ act a n d = true := by
  simp only [lk, List.mem_filter, Bool.and_eq_true, beq_iff_eq, and_assoc]
theorem over_act {a b : Ex.Sg} {roles bars n d : Int} (ha : Rt a roles bars) (hb : Rt b roles bars) (hd : 0 < d) (h1 : act a n d = true) (h2 : act b n d = true) : over a b = true := by
  have a1 := (Ra.ok_iff _ _).1 ha.fok
  have a2 := (Ra.ok_iff _ _).1 ha.tok
  have b1 := (Ra.ok_iff _ _).1 hb.fok
  have b2 := (Ra.ok_iff _ _).1 hb.tok
  simp only [act, over, bef, Bool.and_eq_true, decide_eq_true_eq] at h1 h2 ⊢
  exact ⟨le_lt_tr (d := d) hd (by omega) (by omega) h1.1 h2.2, le_lt_tr (d := d) hd (by omega) (by omega) h2.1 h1.2⟩
theorem com_symm (a b : Ex.Sg) : com a b = com b a := by unfold com; rw [Nat.and_comm]
theorem sup_symm (a b : Ex.Sg) : sup a b = sup b a := by
  rw [Bool.eq_iff_iff]
  simp only [sup, are, leg, Bool.or_eq_true, Bool.and_eq_true, beq_iff_eq, bne_iff_ne, ne_eq]
  omega
theorem tow_symm (a b : Ex.Sg) : tow a b = tow b a := by
  rw [Bool.eq_iff_iff]
  simp only [tow, are, Bool.or_eq_true, Bool.and_eq_true, beq_iff_eq]
  omega
/-- Two signs of a role that are active at one moment, in a work without faults. -/
theorem no_two {l : List Ex.Sg} {roles bars : Int} (h : Inc l) (hr : ∀ s ∈ l, Rt s roles bars) (h0 : refL l = []) {role bar n d : Int} (hd : 0 < d) {a b : Ex.Sg} (ha : a ∈ lk l role bar n d) (hb : b ∈ lk l role bar n d) (hne : a.id ≠ b.id) :
    com a b = false ∧ sup a b = false ∧ tow a b = false := by
  have key : ∀ {a b : Ex.Sg}, a ∈ lk l role bar n d → b ∈ lk l role bar n d → a.id < b.id → com a b = false ∧ sup a b = false ∧ tow a b = false := fun {a b} ha hb hlt => by
    obtain ⟨a1, a2, a3, a4⟩ := mem_lk.1 ha
    obtain ⟨b1, b2, b3, b4⟩ := mem_lk.1 hb
    have hs : sim a b = true := by
      simp only [sim, Bool.and_eq_true, beq_iff_eq]
      exact ⟨⟨by omega, by omega⟩, over_act (hr a a1) (hr b b1) hd a4 b4⟩
    have no : ∀ k, (k = 1 ∨ k = 2 ∨ k = 4) → pairK k a b = false := fun k hk => by
      rcases hp : pairK k a b with _ | _
      · rfl
      · have : (k, a.id, b.id) ∈ refL l := (mem_ref h _).2 (.inr ⟨k, a, b, hk, a1, b1, hlt, hp, rfl⟩)
        rw [h0] at this
        cases this
    have n1 := no 1 (by omega)
    have n2 := no 2 (by omega)
    have n4 := no 4 (by omega)
    simp only [pairK, hs, Bool.true_and] at n1 n2 n4
    exact ⟨by simpa using n1, by simpa using n2, by simpa using n4⟩
  rcases Int.lt_trichotomy a.id b.id with h1 | h1 | h1
  · exact key ha hb h1
  · exact absurd h1 hne
  · have := key hb ha h1
    rw [com_symm, sup_symm, tow_symm]
    exact this
theorem two_of {l : List Ex.Sg} (h : Inc l) {p : Ex.Sg → Bool} (hl : 2 ≤ (l.filter p).length) : ∃ a b, a ∈ l ∧ b ∈ l ∧ p a = true ∧ p b = true ∧ a.id < b.id := by
  have hi : Inc (l.filter p) := h.sublist List.filter_sublist
  match e : l.filter p, hl with
  | a :: b :: t, _ =>
    rw [e] at hi
    have ha : a ∈ l.filter p := by rw [e]; simp
    have hb : b ∈ l.filter p := by rw [e]; simp
    rw [List.mem_filter] at ha hb
    exact ⟨a, b, ha.1, hb.1, ha.2, hb.2, (List.pairwise_cons.1 hi).1 b (by simp)⟩
theorem inc_lk {l : List Ex.Sg} (h : Inc l) (role bar n d : Int) : Inc (lk l role bar n d) := h.sublist List.filter_sublist
theorem com_of {a b : Ex.Sg} {k : Int} (ha : a.kind = k) (hb : b.kind = k) (hk : k = 7 ∨ k = 8) : com a b = true := by
  unfold com
  rw [ha, hb]
  rcases hk with rfl | rfl <;> simp [cols]
/-- The law. -/
theorem stands_law {l : List Ex.Sg} {roles bars : Int} (h : Inc l) (hr : ∀ s ∈ l, Rt s roles bars) (h0 : refL l = []) {role bar n d : Int} (hd : 0 < d)
    (hj : jmp (lk l role bar n d) = false) (hs : std (lk l role bar n d) = false) :
    ∃ r s, rds (lk l role bar n d) = [r] ∧ r.wth - 1 ≠ role ∧ 0 ≤ r.wth - 1 ∧ r.wth - 1 < roles ∧ std (lk l (r.wth - 1) bar n d) = true ∧ lfs (lk l (r.wth - 1) bar n d) = [s] ∧ s.wth = role + 1 ∧ s.fn = r.fn ∧ s.fd = r.fd ∧ s.tn = r.tn ∧ s.td = r.td := by
  have one : ∀ (ro k : Int), (k = 7 ∨ k = 8) → ((lk l ro bar n d).filter fun s => s.kind == k).length ≤ 1 := fun ro k hk => by
    apply Classical.byContradiction
    intro hc
    obtain ⟨a, b, ha, hb, pa, pb, hlt⟩ := two_of (inc_lk h ro bar n d) (p := fun s => s.kind == k) (by omega)
    have := (no_two h hr h0 hd ha hb (by omega)).1
    rw [com_of (by simpa using pa) (by simpa using pb) hk] at this
    cases this
  have legs : ∀ ro, (lgs (lk l ro bar n d) 1 && lgs (lk l ro bar n d) 2) = false := fun ro => by
    rcases hc : (lgs (lk l ro bar n d) 1 && lgs (lk l ro bar n d) 2) with _ | _
    · rfl
    · simp only [lgs, Bool.and_eq_true, List.any_eq_true, beq_iff_eq] at hc
      obtain ⟨⟨a, ha, la, sa⟩, b, hb, lb, sb⟩ := hc
      have hne : a.id ≠ b.id := fun e => by
        have := inc_inj l h a b (mem_lk.1 ha).1 (mem_lk.1 hb).1 e
        subst this; omega
      have := (no_two h hr h0 hd ha hb hne).2.1
      simp [sup, la, lb, sa, sb] at this
  have hrd : rds (lk l role bar n d) ≠ [] := fun e => by
    simp [std, hj, e, legs role] at hs
  obtain ⟨r, hr1⟩ : ∃ r, rds (lk l role bar n d) = [r] := by
    have h1 := one role 8 (.inr rfl)
    match e : rds (lk l role bar n d) with
    | [] => exact absurd e hrd
    | [r] => exact ⟨r, rfl⟩
    | a :: b :: t => unfold rds at e; rw [e] at h1; simp at h1
  have hrm : r ∈ rds (lk l role bar n d) := by rw [hr1]; simp
  simp only [rds, List.mem_filter, beq_iff_eq] at hrm
  obtain ⟨hrl, hrk⟩ := hrm
  obtain ⟨m1, m2, m3, m4⟩ := mem_lk.1 hrl
  have hna : alone l r = false := by
    rcases ha : alone l r with _ | _
    · rfl
    · have : (3, r.id, r.id) ∈ refL l := (mem_ref h _).2 (.inl ⟨r, m1, ha, rfl⟩)
      rw [h0] at this
      cases this
  unfold alone at hna
  rw [show held r = true by simp [held, hrk], Bool.true_and, Bool.or_eq_false_iff, Bool.not_eq_false', List.any_eq_true] at hna
  obtain ⟨hw, s, hsl, hf⟩ := hna
  simp only [fits, Bool.or_eq_true, Bool.and_eq_true, beq_iff_eq] at hf
  have hw : r.wth ≠ r.role + 1 := by simpa using hw
  have hsr := (hr s hsl).role
  have e1 : s.role = r.wth - 1 := by omega
  have hact : act s n d = true := by
    have : act s n d = act r n d := by unfold act; rw [show s.fn = r.fn by omega, show s.fd = r.fd by omega, show s.tn = r.tn by omega, show s.td = r.td by omega]
    rw [this]; exact m4
  have hsm : s ∈ lk l (r.wth - 1) bar n d := mem_lk.2 ⟨hsl, e1, by omega, hact⟩
  have hsk : s.kind = 7 := by omega
  obtain ⟨s', hs1⟩ : ∃ s', lfs (lk l (r.wth - 1) bar n d) = [s'] := by
    have h1 := one (r.wth - 1) 7 (.inl rfl)
    match e : lfs (lk l (r.wth - 1) bar n d) with
    | [] =>
      have : s ∈ lfs (lk l (r.wth - 1) bar n d) := by simp only [lfs, List.mem_filter, beq_iff_eq]; exact ⟨hsm, hsk⟩
      rw [e] at this; cases this
    | [s'] => exact ⟨s', rfl⟩
    | a :: b :: t => unfold lfs at e; rw [e] at h1; simp at h1
  have hss : s' = s := by
    have : s ∈ lfs (lk l (r.wth - 1) bar n d) := by simp only [lfs, List.mem_filter, beq_iff_eq]; exact ⟨hsm, hsk⟩
    rw [hs1] at this
    exact (List.mem_singleton.1 this).symm
  subst hss
  refine ⟨r, s', hr1, by omega, by omega, by omega, ?_, hs1, by omega, by omega, by omega, by omega, by omega⟩
  have j1 : jmp (lk l (r.wth - 1) bar n d) = false := by
    rcases hc : jmp (lk l (r.wth - 1) bar n d) with _ | _
    · rfl
    · simp only [jmp, List.any_eq_true, beq_iff_eq] at hc
      obtain ⟨j, hj1, hj2⟩ := hc
      have := (no_two h hr h0 hd hsm hj1 (fun e => by have := inc_inj l h _ _ hsl (mem_lk.1 hj1).1 e; subst this; omega)).2.1
      simp [sup, are, hsk, hj2] at this
  have r1 : (rds (lk l (r.wth - 1) bar n d)).length = 0 := by
    match e : rds (lk l (r.wth - 1) bar n d) with
    | [] => rfl
    | q :: t =>
      have hq : q ∈ rds (lk l (r.wth - 1) bar n d) := by rw [e]; simp
      simp only [rds, List.mem_filter, beq_iff_eq] at hq
      have := (no_two h hr h0 hd hsm hq.1 (fun e => by have := inc_inj l h _ _ hsl (mem_lk.1 hq.1).1 e; subst this; omega)).2.2
      simp [tow, are, hsk, hq.2] at this
  simp [std, j1, r1, legs]
end Ty
end Go.Proofs.YtggfeblfhabmkaaDoor
