/- Plain facts: what a right work's signs are; the faults of the pairs are those of prP. -/
import Derived.Test.YtggfeblfhabmkaaGreatDoorTyE
namespace Go.Proofs.YtggfeblfhabmkaaGreatDoor
set_option linter.unusedVariables false
set_option linter.unusedSimpArgs false
open Go.RowKit
namespace Ty
/-- A sign of a right work. -/
structure Rt (s : Ex.Sg) (roles bars : Int) : Prop where
  role : 0 ≤ s.role ∧ s.role < roles
  bar : 0 ≤ s.bar ∧ s.bar < bars
  kind : 1 ≤ s.kind ∧ s.kind ≤ 9
  side : (s.kind = 1 ∨ s.kind = 3 ∨ s.kind = 4 ∨ s.kind = 9) → s.side = 1 ∨ s.side = 2
  wth : (s.kind = 7 ∨ s.kind = 8) → 1 ≤ s.wth ∧ s.wth ≤ roles
  fok : Ra.ok s.fn s.fd = true
  tok : Ra.ok s.tn s.td = true
  f0 : 0 ≤ s.fn
  ft : s.fn * s.td < s.tn * s.fd
  t1 : s.tn ≤ s.td
theorem not_gt {n d n' d' : Int} (h : ¬ 0 < Ra.sg (n * d') (n' * d)) : n * d' ≤ n' * d := by
  unfold Ra.sg at h
  split at h
  · omega
  · split at h <;> omega
theorem not_bad {s : Ex.Sg} {k : Nat} (h : Ex.bad s k = false) : (Ra.ok (Ex.pr s k).1 (Ex.pr s k).2.1 = true ∧ Ra.ok (Ex.pr s k).2.2.1 (Ex.pr s k).2.2.2 = true) ∧ (Ex.pr s k).1 * (Ex.pr s k).2.2.2 ≤ (Ex.pr s k).2.2.1 * (Ex.pr s k).2.1 := by
  unfold Ex.bad at h
  simp only [Bool.or_eq_false_iff] at h
  obtain ⟨⟨h1, h2⟩, _⟩ := h
  unfold Ex.cmpE at h1
  unfold Ex.cmpC at h2
  rcases e : (Ra.ok (Ex.pr s k).1 (Ex.pr s k).2.1 && Ra.ok (Ex.pr s k).2.2.1 (Ex.pr s k).2.2.2) with _ | _
  · rw [e] at h1; simp at h1
  · rw [e] at h2
    simp only [if_true, decide_eq_false_iff_not] at h2
    exact ⟨by simpa using e, not_gt h2⟩
theorem rt_of {s : Ex.Sg} {roles bars : Int} (h : Ex.okSign s roles bars = true) : Rt s roles bars := by
  simp only [Ex.okSign, Ex.ok1, Bool.and_eq_true, Tp.inb_iff, Bool.not_eq_true'] at h
  obtain ⟨⟨⟨⟨⟨⟨⟨hk, hr⟩, hb⟩, hm⟩, h2⟩, b0⟩, b1⟩, b2⟩ := h
  have c0 := not_bad b0
  have c1 := not_bad b1
  have c2 := not_bad b2
  simp only [Ex.pr] at c0 c1 c2
  have hne : s.fn * s.td ≠ s.tn * s.fd := by
    intro e
    unfold Ex.bad at b1
    simp only [Bool.or_eq_false_iff] at b1
    have h3 := b1.2
    simp only [Ex.pr, Ex.cmpC, c1.1.1, c1.1.2, Bool.and_self, if_true, Ra.sg, e, Int.lt_irrefl, if_false, Ex.same] at h3
    simp at h3
  have hsd : (s.kind = 1 ∨ s.kind = 3 ∨ s.kind = 4 ∨ s.kind = 9) → Ex.fld s.side true 1 2 = true := by
    unfold Ex.ok2 at h2
    simp only [Bool.and_eq_true] at h2
    have h3 := h2.1.1.1.1
    rintro (e | e | e | e) <;> (rw [e] at h3; exact h3)
  have hwt : (s.kind = 7 ∨ s.kind = 8) → Ex.fld s.wth true 1 roles = true := by
    unfold Ex.ok2 at h2
    simp only [Bool.and_eq_true] at h2
    have h3 := h2.2
    rintro (e | e) <;> (rw [e] at h3; exact h3)
  refine ⟨by omega, by omega, hk, fun h => ?_, fun h => ?_, c0.1.2, c1.1.2, by omega, by omega, by omega⟩
  · have := (Tp.inb_iff _ _ _).1 (hsd h); omega
  · exact (Tp.inb_iff _ _ _).1 (hwt h)
theorem rt_rt {s : Ex.Sg} {roles bars : Int} (h : Rt s roles bars) : rt s s.kind.toNat := by
  have := h.kind
  refine ⟨by omega, by omega, by omega, fun h1 => h.side ?_⟩
  omega
theorem bf_bef {n d n' d' : Int} (h : Ra.ok n d = true) (h' : Ra.ok n' d' = true) : bf n d n' d' = bef n d n' d' := by
  unfold bf bef Ex.cmpC
  rw [h, h']
  simp only [Bool.and_self, if_true, Ra.sg]
  rw [Bool.eq_iff_iff]
  simp only [decide_eq_true_eq]
  split
  · simp [*]
  · split <;> simp <;> omega
theorem overB_over {a k : Ex.Sg} {roles bars : Int} (h : Rt a roles bars) (h' : Rt k roles bars) : overB a k = over a k := by
  unfold overB over
  rw [bf_bef h.fok h'.tok, bf_bef h'.fok h.tok]
theorem prP_prs {roles bars : Int} : ∀ (l seen : List Ex.Sg), (∀ a ∈ seen, Rt a roles bars) → (∀ a ∈ l, Rt a roles bars) → prP seen l = (prs seen l).flatMap fun p => fk p.1 p.2
  | [], _, _, _ => rfl
  | k :: l, seen, h1, h2 => by
    have hk := h2 k (List.mem_cons_self ..)
    simp only [prP, prs, List.flatMap_append]
    rw [prP_prs l (seen ++ [k]) (fun a ha => by
      rcases List.mem_append.1 ha with h | h
      · exact h1 a h
      · simp at h; rw [h]; exact hk) (fun a ha => h2 a (List.mem_cons_of_mem _ ha))]
    congr 1
    unfold row1 grp
    rw [List.flatMap_map, List.filter_filter]
    congr 1
    apply List.filter_congr
    intro a ha
    rw [overB_over (h1 a ha) hk]
    unfold sim key
    rw [Bool.eq_iff_iff]
    simp only [Bool.and_eq_true, beq_iff_eq, List.cons.injEq, and_true]
    exact ⟨fun h => ⟨h.2, h.1⟩, fun h => ⟨h.2, h.1⟩⟩
theorem prs_mem' : ∀ (l seen : List Ex.Sg) (e : Ex.Sg × Ex.Sg), e ∈ prs seen l → (e.1 ∈ seen ∨ e.1 ∈ l) ∧ e.2 ∈ l
  | [], _, _, h => by simp [prs] at h
  | k :: l, seen, e, h => by
    simp only [prs, List.mem_append] at h
    rcases h with h | h
    · simp only [row1, grp, List.mem_map, List.mem_filter] at h
      obtain ⟨a, ⟨⟨ha, _⟩, _⟩, rfl⟩ := h
      exact ⟨.inl ha, List.mem_cons_self ..⟩
    · obtain ⟨h1, h2⟩ := prs_mem' l (seen ++ [k]) e h
      refine ⟨?_, List.mem_cons_of_mem _ h2⟩
      rcases h1 with h1 | h1
      · rcases List.mem_append.1 h1 with h1 | h1
        · exact .inl h1
        · simp at h1; exact .inr (by rw [h1]; exact List.mem_cons_self ..)
      · exact .inr (List.mem_cons_of_mem _ h1)
theorem prs_mem (l seen : List Ex.Sg) (e : Ex.Sg × Ex.Sg) (h : e ∈ prs [] l) : e.1 ∈ l ∧ e.2 ∈ l := by
  have := prs_mem' l [] e h
  exact ⟨by simpa using this.1, this.2⟩
set_option maxRecDepth 100000 in
theorem bits_small : ∀ a : Nat, a < 64 → ∀ b : Nat, b < 64 → bits .and .u64 (a : Int) (b : Int) = ((a &&& b : Nat) : Int) := by decide +kernel
theorem cols_lt (k s : Int) : cols k s < 64 := by
  unfold cols
  repeat' split
  all_goals omega
theorem com_bits (a b : Ex.Sg) : (bits .and .u64 (cols a.kind a.side : Int) (cols b.kind b.side : Int) != 0) = com a b := by
  rw [bits_small _ (cols_lt _ _) _ (cols_lt _ _)]
  unfold com
  rw [Bool.eq_iff_iff]
  simp only [bne_iff_ne, ne_eq]
  omega
end Ty
end Go.Proofs.YtggfeblfhabmkaaGreatDoor
