/- Plain: a mirrored motion ends in the mirrored state (law MotionMirror). -/
import Derived.Test.YtedolbjgdedoaaaGreatDoorMpW
import Derived.Test.YtedolbjgdedoaaaGreatDoorMpD
set_option linter.unusedSimpArgs false
set_option linter.unusedVariables false
namespace Go.Proofs.YtedolbjgdedoaaaGreatDoor
open Go.RowKit Go.Shelf
namespace Mo
theorem real_mir (r : List Uo.Re) (id : Int) : real (r.map mirR) id = mirR (real r id) := by
 unfold real
 induction r with
 | nil => rfl
 | cons y r ih =>
  rw [List.map_cons, List.find?_cons, List.find?_cons]
  show Option.getD (match (y.1 == id) with | true => some (mirR y) | false => (r.map mirR).find? fun y => y.1 == id) (0, 0, 0, false) = _
  rcases (y.1 == id) with _ | _
  ·exact ih
  ·rfl
theorem mot_mir : ∀ (l : List Ex.Sg) (r : List Uo.Re), mot l r = true → mot (l.map mirK) (r.map mirR) = true := by
 intro l r h
 unfold mot at *
 rw [List.length_map, List.length_map]
 rw [Bool.and_eq_true] at h ⊢
 refine ⟨h.1, ?_⟩
 have h2 := h.2
 rw [List.all_eq_true] at h2 ⊢
 intro q hq
 rw [List.zip_map] at hq
 obtain ⟨⟨a, c⟩, hm, rfl⟩ := List.mem_map.1 hq
 exact form_mir (h2 (a, c) hm)
theorem end_mir {x : Ex.Wk} {role bar : Int} {s t : St} {r : List Uo.Re} (hg : Ex.Good x) (hW : 1 ≤ x.wd ∧ x.wd ≤ 1000) (hc : Ex.chk x = 0) (hn : near s = true) (h : EndR x role bar s r t 0) (hE : ofE x role bar = 0) :
  ok s = true ∧ ok t = true ∧ ok (mirS x.wd s) = true ∧ ok (mirS x.wd t) = true ∧ mot (ofI x role bar) r = true ∧ EndR (mirW x role bar) role bar (mirS x.wd s) (r.map mirR) (mirS x.wd t) 0 := by
 unfold EndR at h
 rw [if_neg (by rw [hE]; decide)] at h
 split at h
 ·exact absurd h.2 (by decide)
 rename_i h1
 split at h
 ·exact absurd h.2 (by decide)
 rename_i h2
 obtain ⟨l, hl, h⟩ := h
 split at h
 case isFalse => exact absurd h.2 (by decide)
 rename_i hf
 have hs : ok s = true := by simpa using h1
 have hm : mot (ofI x role bar) r = true := by simpa using h2
 have hfit : ∀ k ∈ l, Fit k := fun k hk => fit_of (hg.oks k (List.mem_filter.1 ((hl.perm.mem_iff).1 hk)).1)
 have hfrm : ∀ k ∈ l, form k (real r k.id) = true := fun k hk => mot_real _ _ (ofI_lt hg role bar) hm k ((hl.perm.mem_iff).1 hk)
 have hlen : l.length ≤ 4096 := by rw [hl.perm.length_eq]; exact Nat.le_trans (List.length_filter_le _ _) hg.len
 have hF := okF_of hs
 unfold near at hn
 simp only [Bool.and_eq_true, decide_eq_true_eq] at hn
 have h0 : ok (mirS x.wd s) = true := by
  rw [ok_iff (okF_mir hF)]
  unfold mirS
  dsimp only
  omega
 obtain ⟨w1, w2, w3, _⟩ := way_mir x.wd hW l.length omg r (r.map mirR) l s hfit hfrm (fun k _ => real_mir r k.id) (Int.le_refl _) hF omg omg
 have hend : ok t = true := by
  have h5 := (way_at r l s l.length hs hf nlr).2
  rw [List.take_length] at h5
  rw [h.1]
  exact h5
 obtain ⟨ht, _⟩ := h
 refine ⟨hs, hend, h0, by rw [ht]; exact w3, hm, ?_⟩
 have hE2 : ofE (mirW x role bar) role bar = 0 := by
  have h6 : ofE (mirW x role bar) role bar = ofE x role bar := by
   unfold ofE
   rw [chk_mir hc, hc]
   rfl
  rw [h6, hE]
 unfold EndR
 rw [if_neg (by rw [hE2]; decide), if_neg (by rw [h0]; decide), if_neg (by rw [ofI_mir, mot_mir _ _ hm]; decide)]
 exact ⟨l.map mirK, of_mir hl, by rw [if_pos w1]; exact ⟨by rw [w2, ht], rfl⟩⟩
end Mo
end Go.Proofs.YtedolbjgdedoaaaGreatDoor
