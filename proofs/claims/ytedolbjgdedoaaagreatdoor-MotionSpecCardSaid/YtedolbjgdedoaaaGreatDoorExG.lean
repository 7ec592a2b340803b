/- Plain: what Check says of a work. -/
import Derived.Test.YtedolbjgdedoaaaGreatDoorEx
set_option linter.unusedSimpArgs false
set_option linter.unusedVariables false
namespace Go.Proofs.YtedolbjgdedoaaaGreatDoor
open Go.RowKit
namespace Ex
theorem okG1_id {roles n last : Int} {s : Sg} (h : okG1 roles n last s = true) : last < s.id ∧ s.id ≤ 1048576 := by
 unfold okG1 at h
 simp only [Bool.and_eq_true, decide_eq_true_eq] at h
 exact ⟨h.1.1, h.1.2⟩
theorem vG_all {roles n : Int} : ∀ {last : Int} {l : List Sg}, vG roles n last l = true → (∀ s ∈ l, last < s.id ∧ s.id ≤ 1048576 ∧ okSign s roles n = true) ∧ l.Pairwise fun a b => a.id < b.id
 | _, [], _ => ⟨fun _ h => by (cases h), List.Pairwise.nil⟩
 | last, s :: l, h => by
  rw [vG, Bool.and_eq_true] at h
  obtain ⟨h1, h2⟩ := h
  have hi := okG1_id h1
  have ho : okSign s roles n = true := by unfold okG1 at h1; rw [Bool.and_eq_true] at h1; exact h1.2
  obtain ⟨k1, k2⟩ := vG_all h2
  refine ⟨fun t ht => ?_, List.pairwise_cons.2 ⟨fun t ht => (k1 t ht).1, k2⟩⟩
  rcases List.mem_cons.1 ht with rfl | ht
  ·exact ⟨hi.1, hi.2, ho⟩
  ·have := k1 t ht
   exact ⟨by omega, this.2⟩
structure Good (x : Wk) : Prop where
 chk : chk x = 0
 len : x.sg.length ≤ 4096
 roles : x.ro.length ≤ 64
 okw : okW x = true
 ids : ∀ s ∈ x.sg, 0 ≤ s.id ∧ s.id ≤ 1048576
 oks : ∀ s ∈ x.sg, okSign s x.ro.length x.n = true
 rise : x.sg.Pairwise fun a b => a.id < b.id
theorem good_of {x : Wk} (h : chk x = 0) : Good x := by
 have h0 := h
 unfold chk at h
 split at h
 ·cases h
 ·rename_i h1
  split at h
  ·rename_i h2
   exact absurd h h2
  ·split at h
   ·rename_i h3
    have hv := h3
    unfold okW at hv
    rw [Bool.and_eq_true] at hv
    obtain ⟨k1, k2⟩ := vG_all hv.2
    exact ⟨h0, by omega, by omega, h3, fun s hs => by have := k1 s hs; exact ⟨by omega, this.2.1⟩, fun s hs => (k1 s hs).2.2, k2⟩
   ·cases h
end Ex
end Go.Proofs.YtedolbjgdedoaaaGreatDoor
