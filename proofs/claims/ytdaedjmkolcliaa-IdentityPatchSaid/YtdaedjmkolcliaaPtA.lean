/- Plain: signs of which one is changed in a field that does not order them, or is taken away. -/
import Derived.Test.YtdaedjmkolcliaaJaK
import Derived.Test.YtdaedjmkolcliaaPtB
namespace Go.Proofs.Ytdaedjmkolcliaa
set_option linter.unusedVariables false
set_option linter.unusedSimpArgs false
open Go.RowKit

namespace Id
/-- The same place in the order, and the same mark. -/
structure Sim (x y : Sg) : Prop where
  id : x.id = y.id
  role : x.role = y.role
  bar : x.bar = y.bar
  fn : x.fn = y.fn
  fd : x.fd = y.fd
  mark : x.mark = y.mark
theorem setF_sim (f : Nat) (x y : Sg) : Sim x (setF f x y) := by
  unfold setF
  split <;> exact ⟨rfl, rfl, rfl, rfl, rfl, rfl⟩
theorem Sim.lt1 {x y : Sg} (h : Sim x y) (z : Sg) : lt x z ↔ lt y z := by
  unfold lt; rw [h.id, h.role, h.bar, h.fn, h.fd]
theorem Sim.lt2 {x y : Sg} (h : Sim x y) (z : Sg) : lt z x ↔ lt z y := by
  unfold lt; rw [h.id, h.role, h.bar, h.fn, h.fd]
theorem essl_app (A : List Sg) (x : Sg) (B : List Sg) : essl (A ++ x :: B) = essl A ++ (if x.mark = 1 then x :: essl B else essl B) := by
  unfold essl
  rw [List.filter_append, List.filter_cons]
  by_cases h : x.mark = 1 <;> simp [h]
theorem essl_app' (A B : List Sg) : essl (A ++ B) = essl A ++ essl B := by
  unfold essl
  rw [List.filter_append]
theorem chk_of {l : List Sg} (h : l.length ≤ 4096) (hf : ∀ s ∈ l, form s = true) (hp : l.Pairwise fun a b => a.id < b.id) : chk l = 0 := by
  unfold chk
  rw [if_neg (by omega), if_pos]
  refine vE_of (fun s hs => ⟨hf s hs, ?_⟩) hp
  have := ((form_iff s).1 (hf s hs)).1.1
  omega
theorem pw_mid {R : Sg → Sg → Prop} {A B : List Sg} {x y : Sg} (h : (A ++ x :: B).Pairwise R) (h1 : ∀ z, R x z → R y z) (h2 : ∀ z, R z x → R z y) : (A ++ y :: B).Pairwise R := by
  rw [List.pairwise_append] at h ⊢
  obtain ⟨a, b, c⟩ := h
  have b' := List.pairwise_cons.1 b
  refine ⟨a, List.pairwise_cons.2 ⟨fun z hz => h1 z (b'.1 z hz), b'.2⟩, fun p hp q hq => ?_⟩
  rcases List.mem_cons.1 hq with e | e
  · subst e; exact h2 p (c p hp x (by simp))
  · exact c p hp q (by simp [e])
theorem pw_drop {R : Sg → Sg → Prop} {A B : List Sg} {x : Sg} (h : (A ++ x :: B).Pairwise R) : (A ++ B).Pairwise R :=
  h.sublist (List.Sublist.append_left (List.sublist_cons_self x B) A)
theorem not_mid {R : Sg → Sg → Prop} (hr : ∀ a, ¬ R a a) {A B : List Sg} {x : Sg} (h : (A ++ x :: B).Pairwise R) : x ∉ A ∧ x ∉ B := by
  rw [List.pairwise_append] at h
  obtain ⟨a, b, c⟩ := h
  exact ⟨fun hx => hr x (c x hx x (by simp)), fun hx => hr x ((List.pairwise_cons.1 b).1 x hx)⟩
/-- The sorted list with one sign in sight. -/
theorem srt_mid {A B : List Sg} {x : Sg} (h : Ok (A ++ x :: B)) : ∃ P Q, srt (A ++ x :: B) = P ++ x :: Q ∧ ∀ y, (y ∈ P ∨ y ∈ Q) ↔ (y ∈ A ∨ y ∈ B) := by
  have hx : x ∈ srt (A ++ x :: B) := srt_mem.2 (by simp)
  obtain ⟨P, Q, e⟩ := List.append_of_mem hx
  refine ⟨P, Q, e, fun y => ?_⟩
  have h1 := srt_srt h
  rw [e] at h1
  have n1 := not_mid lt_irrefl h1
  have n2 := not_mid (R := fun a b : Sg => a.id ≠ b.id) (fun a => by simp) h.2
  have hm : y ∈ P ++ x :: Q ↔ y ∈ A ++ x :: B := by rw [← e, srt_mem]
  simp only [List.mem_append, List.mem_cons] at hm
  constructor
  · intro hy
    have hne : y ≠ x := by
      rintro rfl
      rcases hy with hy | hy
      · exact n1.1 hy
      · exact n1.2 hy
    rcases hm.1 (by rcases hy with hy | hy <;> simp [hy]) with h | h | h
    · exact .inl h
    · exact absurd h hne
    · exact .inr h
  · intro hy
    have hne : y ≠ x := by
      rintro rfl
      rcases hy with hy | hy
      · exact n2.1 hy
      · exact n2.2 hy
    rcases hm.2 (by rcases hy with hy | hy <;> simp [hy]) with h | h | h
    · exact .inl h
    · exact absurd h hne
    · exact .inr h
theorem Ok.mid {A B : List Sg} {x y : Sg} (h : Ok (A ++ x :: B)) (s : Sim x y) : Ok (A ++ y :: B) := by
  refine ⟨fun z hz => ?_, pw_mid h.2 (fun z hz => by rw [← s.id]; exact hz) (fun z hz => by rw [← s.id]; exact hz)⟩
  rcases List.mem_append.1 hz with e | e
  · exact h.1 z (by simp [e])
  · rcases List.mem_cons.1 e with e | e
    · subst e; rw [← s.fd]; exact h.1 x (by simp)
    · exact h.1 z (by simp [e])
theorem Ok.drop {A B : List Sg} {x : Sg} (h : Ok (A ++ x :: B)) : Ok (A ++ B) := by
  refine ⟨fun z hz => h.1 z ?_, pw_drop h.2⟩
  rcases List.mem_append.1 hz with e | e <;> simp [e]
/-- One sign changed. -/
theorem set_ess {A B : List Sg} {x y : Sg} (h0 : essE (A ++ x :: B) = 0) (s : Sim x y) (hy : form y = true) :
    essE (A ++ y :: B) = 0 ∧ cst (ess (A ++ x :: B)) (ess (A ++ y :: B)) ≤ 3 ∧ (x.mark ≠ 1 → ess (A ++ y :: B) = ess (A ++ x :: B)) := by
  have hc := (ess_le h0).1
  have hl := (ess_le h0).2
  obtain ⟨c1, c2, c3⟩ := chk_ok hc
  have hc' : chk (A ++ y :: B) = 0 := by
    refine chk_of (by simpa using c1) (fun z hz => ?_) (pw_mid c3 (fun z hz => by rw [← s.id]; exact hz) (fun z hz => by rw [← s.id]; exact hz))
    rcases List.mem_append.1 hz with e | e
    · exact c2 z (by simp [e])
    · rcases List.mem_cons.1 e with e | e
      · subst e; exact hy
      · exact c2 z (by simp [e])
  have hok := essl_ok hc
  have e1 := essl_app A x B
  have e2 := essl_app A y B
  rw [← s.mark] at e2
  rw [ess_len] at hl
  by_cases hm : x.mark = 1
  · rw [if_pos hm] at e1 e2
    rw [e1] at hok hl
    obtain ⟨P, Q, h1, h2⟩ := srt_mid hok
    have h3 : P ++ y :: Q = srt (essl A ++ y :: essl B) := by
      refine srt_uniq (hok.mid s) ?_ (fun z => ?_)
      · have h4 := srt_srt hok
        rw [h1] at h4
        exact pw_mid h4 (fun z => (s.lt1 z).1) (fun z => (s.lt2 z).1)
      · have := h2 z
        simp only [List.mem_append, List.mem_cons]
        constructor
        · rintro (h | h | h)
          · rcases this.1 (.inl h) with h | h <;> simp [h]
          · simp [h]
          · rcases this.1 (.inr h) with h | h <;> simp [h]
        · rintro (h | h | h)
          · rcases this.2 (.inl h) with h | h <;> simp [h]
          · simp [h]
          · rcases this.2 (.inr h) with h | h <;> simp [h]
    refine ⟨?_, ?_, fun h => absurd hm h⟩
    · unfold essE
      rw [if_pos hc', e2, if_neg]
      simp only [List.length_append, List.length_cons] at hl ⊢
      omega
    · unfold ess
      rw [e1, e2, h1, ← h3, List.map_append, List.map_append, List.map_cons, List.map_cons]
      exact cst_put _ _ _ _
  · rw [if_neg hm] at e1 e2
    have h3 : ess (A ++ y :: B) = ess (A ++ x :: B) := by unfold ess; rw [e1, e2]
    refine ⟨?_, by rw [h3, cst_self]; omega, fun _ => h3⟩
    unfold essE
    rw [if_pos hc', e2, ← e1, if_neg (by omega)]
/-- One sign taken away. -/
theorem drop_ess {A B : List Sg} {x : Sg} (h0 : essE (A ++ x :: B) = 0) :
    essE (A ++ B) = 0 ∧ cst (ess (A ++ x :: B)) (ess (A ++ B)) ≤ 3 ∧ (x.mark ≠ 1 → ess (A ++ B) = ess (A ++ x :: B)) := by
  have hc := (ess_le h0).1
  have hl := (ess_le h0).2
  obtain ⟨c1, c2, c3⟩ := chk_ok hc
  have hc' : chk (A ++ B) = 0 := by
    refine chk_of (by simp only [List.length_append, List.length_cons] at c1 ⊢; omega) (fun z hz => c2 z ?_) (pw_drop c3)
    rcases List.mem_append.1 hz with e | e <;> simp [e]
  have hok := essl_ok hc
  have e1 := essl_app A x B
  have e2 := essl_app' A B
  rw [ess_len] at hl
  by_cases hm : x.mark = 1
  · rw [if_pos hm] at e1
    rw [e1] at hok hl
    obtain ⟨P, Q, h1, h2⟩ := srt_mid hok
    have h3 : P ++ Q = srt (essl A ++ essl B) := by
      refine srt_uniq hok.drop ?_ (fun z => ?_)
      · have h4 := srt_srt hok
        rw [h1] at h4
        exact pw_drop h4
      · simp only [List.mem_append]; exact h2 z
    refine ⟨?_, ?_, fun h => absurd hm h⟩
    · unfold essE
      rw [if_pos hc', e2, if_neg]
      simp only [List.length_append, List.length_cons] at hl ⊢
      omega
    · unfold ess
      rw [e1, e2, h1, ← h3, List.map_append, List.map_append, List.map_cons]
      have := cst_drop (P.map code) (Q.map code) (code x)
      omega
  · rw [if_neg hm] at e1
    have h3 : ess (A ++ B) = ess (A ++ x :: B) := by unfold ess; rw [e1, e2]
    refine ⟨?_, by rw [h3, cst_self]; omega, fun _ => h3⟩
    unfold essE
    rw [if_pos hc', e2, ← e1, if_neg (by omega)]
end Id
end Go.Proofs.Ytdaedjmkolcliaa
