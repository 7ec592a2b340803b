/- Plain facts: who is a fault of lifts; the law TypesLift. -/
import Derived.Test.YtggfeblfhabmkaaDoorTyA
namespace Go.Proofs.YtggfeblfhabmkaaDoor
set_option linter.unusedVariables false
set_option linter.unusedSimpArgs false
namespace Ty
def part (a b : Ex.Sg) : Bool := (a.kind == 7 && b.kind == 8 || a.kind == 8 && b.kind == 7) && a.bar == b.bar && (a.fn == b.fn && a.fd == b.fd) && (a.tn == b.tn && a.td == b.td) && a.wth == b.role + 1 && b.wth == a.role + 1 && a.role != b.role
theorem alone_part (all : List Ex.Sg) (a : Ex.Sg) : alone all a = (held a && !all.any (part a)) := by
  unfold alone
  rcases hh : held a with _ | _
  · rfl
  · simp only [Bool.true_and]
    by_cases e : a.wth = a.role + 1
    · have h1 : (a.wth == a.role + 1) = true := by simpa using e
      rw [h1, Bool.true_or]
      have h2 : all.any (part a) = false := by
        rw [List.any_eq_false]
        intro b _
        simp only [part, Bool.and_eq_true, beq_iff_eq, bne_iff_ne, ne_eq, not_and]
        omega
      rw [h2]; rfl
    · have h1 : (a.wth == a.role + 1) = false := by simpa using e
      rw [h1, Bool.false_or]
      congr 1
      apply List.any_congr rfl
      intro b
      rw [Bool.eq_iff_iff]
      simp only [held, Bool.or_eq_true, beq_iff_eq] at hh
      simp only [fits, part, Bool.or_eq_true, Bool.and_eq_true, beq_iff_eq, bne_iff_ne, ne_eq]
      omega
theorem lift_same {l : List Ex.Sg} {x : F3} (h : x ∈ refL l) (h3 : x.1 = 3) : x.2.1 = x.2.2 := by
  simp only [refL, List.mem_append, mem_rK] at h
  rcases h with (⟨h, _⟩ | ⟨a, b, _, hp, rfl⟩) | (⟨h, _⟩ | ⟨a, b, _, hp, rfl⟩) | (⟨_, a, _, _, rfl⟩ | ⟨a, b, _, hp, rfl⟩) | (⟨h, _⟩ | ⟨a, b, _, hp, rfl⟩)
  · omega
  · simp at h3
  · omega
  · simp at h3
  · rfl
  · simp [pairK] at hp
  · omega
  · simp at h3
theorem inc_inj (l : List Ex.Sg) : Inc l → ∀ a b : Ex.Sg, a ∈ l → b ∈ l → a.id = b.id → a = b := by
  induction l with
  | nil => intro _ a _ ha; simp at ha
  | cons c l ih =>
    intro h a b ha hb e
    have h' := List.pairwise_cons.1 h
    rcases List.mem_cons.1 ha with h1 | h1
    · rcases List.mem_cons.1 hb with h2 | h2
      · rw [h1, h2]
      · have := h'.1 b h2; rw [h1] at e; exact absurd e (Int.ne_of_lt this)
    · rcases List.mem_cons.1 hb with h2 | h2
      · have := h'.1 a h1; rw [h2] at e; exact absurd e (Int.ne_of_gt this)
      · exact ih h'.2 a b h1 h2 e
/-- Which signs are faults of lifts. -/
theorem lift_got {l : List Ex.Sg} (h : Inc l) {a : Ex.Sg} (ha : a ∈ l) : ((refL l).any fun x => x.1 == 3 && x.2.1 == a.id) = alone l a := by
  rw [Bool.eq_iff_iff, List.any_eq_true]
  constructor
  · rintro ⟨x, hx, h3⟩
    simp only [Bool.and_eq_true, beq_iff_eq] at h3
    simp only [refL, List.mem_append, mem_rK] at hx
    rcases hx with (⟨h, _⟩ | ⟨_, _, _, hp, rfl⟩) | (⟨h, _⟩ | ⟨_, _, _, hp, rfl⟩) | (⟨_, b, hb, hal, rfl⟩ | ⟨_, _, _, hp, rfl⟩) | (⟨h, _⟩ | ⟨_, _, _, hp, rfl⟩)
    · omega
    · simp at h3
    · omega
    · simp at h3
    · rwa [← inc_inj l h b a hb ha h3.2]
    · simp [pairK] at hp
    · omega
    · simp at h3
  · intro hal
    refine ⟨(3, a.id, a.id), ?_, by simp⟩
    simp only [refL, List.mem_append, mem_rK]
    exact .inr (.inr (.inl (.inl ⟨trivial, a, ha, hal, rfl⟩)))
end Ty
end Go.Proofs.YtggfeblfhabmkaaDoor
