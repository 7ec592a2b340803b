/- Walks: the law IdentityEither. -/
import Derived.Test.YtdaedjmkolcliaaJax
import Derived.Deep.CutRange
namespace Go.Proofs.Ytdaedjmkolcliaa
set_option linter.unusedVariables false
set_option linter.unusedSimpArgs false
open Go.RowKit Go.Shelf

namespace Id
theorem nearB_gr {lim : Int} {L : List (List Sg)} (h : eE lim L = 0) {a b : Nat} (ha : a < L.length) (hb : b < L.length) : nearB (L.getD a []) (L.getD b []) lim = gr lim L a b := by
  obtain ⟨h1, h2, h3⟩ := eE_all h
  have m : ∀ {k : Nat}, k < L.length → L.getD k [] ∈ L := fun {k} hk => by rw [List.getD_eq_getElem?_getD, List.getElem?_eq_getElem hk]; exact List.getElem_mem hk
  have e : eE lim [L.getD a [], L.getD b []] = 0 := by
    unfold eE
    rw [if_pos (h1 _ (m ha))]
    unfold eE
    rw [if_pos (h1 _ (m hb))]
    unfold eE limE
    rw [if_neg (by omega)]
  unfold nearB gr
  rw [e]
  simp
theorem tE_0 {lim : Int} {L : List (List Sg)} (h : tE lim L = 0) : L.length ≤ 16 ∧ eE lim L = 0 := by
  unfold tE at h
  split at h
  · cases h
  · exact ⟨by omega, h⟩
theorem aE_0 {lim : Int} {L : List (List Sg)} {i j : Int} (h : aE lim L i j = 0) : tE lim L = 0 ∧ 0 ≤ i ∧ 0 ≤ j ∧ i < L.length ∧ j < L.length := by
  unfold aE at h
  split at h
  · rename_i ht
    split at h
    · rename_i hr
      simp only [inR, Bool.and_eq_true, decide_eq_true_eq] at hr
      exact ⟨ht, hr.1.1.1, hr.1.1.2, hr.1.2, hr.2⟩
    · cases h
  · rename_i ht; exact absurd h ht
theorem sm_ap {lim : Int} {L : List (List Sg)} {i j : Int} (h : aE lim L i j = 0) : apB lim L i j = !smB lim L i j := by
  obtain ⟨_, h1, h2, h3, h4⟩ := aE_0 h
  have h5 := dst_back (g := gr lim L) (n := L.length) (gr_comm lim L) (i := i.toNat) (k := j.toNat) (by omega) (by omega)
  unfold apB smB
  rw [h]
  by_cases h6 : 0 ≤ dst L.length (gr lim L) j.toNat i.toNat
  · have := h5.2 h6
    have e1 : decide (dst L.length (gr lim L) i.toNat j.toNat < 0) = false := by simpa using this
    simp [h6, e1]
  · have : ¬ 0 ≤ dst L.length (gr lim L) i.toNat j.toNat := fun h7 => h6 (h5.1 h7)
    have e1 : decide (dst L.length (gr lim L) i.toNat j.toNat < 0) = true := by simpa using this
    simp [h6, e1]
/-- A chain, as Same tells it. -/
structure IsCh (n : Nat) (g : Nat → Nat → Bool) (i j : Nat) (C : List Nat) : Prop where
  len : 1 ≤ C.length ∧ C.length ≤ n
  fst : C.getD 0 0 = i
  lst : C.getD (C.length - 1) 0 = j
  lt : ∀ k, k < C.length → C.getD k 0 < n
  near : ∀ k, 0 < k → k < C.length → g (C.getD (k - 1) 0) (C.getD k 0) = true
theorem isCh {lim : Int} {L : List (List Sg)} {i j : Nat} (hi : i < L.length) (hj : j < L.length) (h : smB lim L i j = true) : IsCh L.length (gr lim L) i j (chain lim L i j) := by
  unfold smB at h
  simp only [Bool.and_eq_true, decide_eq_true_eq, Int.toNat_natCast] at h
  have h1 := dst_lt (g := gr lim L) hj hi
  obtain ⟨D, hD⟩ : ∃ D : Nat, dst L.length (gr lim L) j i = D := ⟨(dst L.length (gr lim L) j i).toNat, by omega⟩
  have hc : chain lim L i j = chn L.length (gr lim L) j D i := by
    unfold chain
    simp only [Int.toNat_natCast]
    rw [hD]
    simp
  obtain ⟨h2, h3, h4⟩ := chn_all (gr_comm lim L) hi hD
  have hl := chn_len (n := L.length) (g := gr lim L) j D i
  have hh := chn_head (n := L.length) (g := gr lim L) j D i
  rw [← hc] at h2 h3 h4 hl hh
  have gd : ∀ k, k < (chain lim L i j).length → (chain lim L i j)[k]? = some ((chain lim L i j).getD k 0) := fun k hk => by
    rw [List.getD_eq_getElem?_getD, List.getElem?_eq_getElem hk]; rfl
  refine ⟨by omega, ?_, ?_, fun k hk => ?_, fun k h0 hk => ?_⟩
  · rw [List.getD_eq_getElem?_getD, hh]; rfl
  · rw [hl, List.getD_eq_getElem?_getD, show D + 1 - 1 = D by omega, h3]; rfl
  · exact h2 _ (List.mem_of_getElem? (gd k hk))
  · exact h4 (k - 1) _ _ (gd (k - 1) (by omega)) (by rw [show k - 1 + 1 = k by omega]; exact gd k hk)
/-- A side, as Apart tells it. -/
structure IsSd (n : Nat) (g : Nat → Nat → Bool) (i j : Nat) (S : List Bool) : Prop where
  len : S.length = n
  yes : S.getD i false = true
  no : S.getD j false = false
  far : ∀ a b, a < n → b < n → S.getD a false = true → S.getD b false = false → g a b = false
theorem isSd {lim : Int} {L : List (List Sg)} {i j : Nat} (hi : i < L.length) (hj : j < L.length) (h : apB lim L i j = true) : IsSd L.length (gr lim L) i j (side L.length (gr lim L) i) := by
  unfold apB at h
  simp only [Bool.and_eq_true, decide_eq_true_eq, Int.toNat_natCast] at h
  have hg : ∀ k, k < L.length → (side L.length (gr lim L) i).getD k false = decide (0 ≤ dst L.length (gr lim L) i k) := fun k hk => by
    simp [side, dsts, List.getD, hk]
  refine ⟨side_len _ _ _, ?_, ?_, fun a b ha hb h1 h2 => ?_⟩
  · rw [hg i hi, dst_to]; rfl
  · rw [hg j hj]; simpa using h.2
  · rw [hg a ha] at h1
    rw [hg b hb] at h2
    rcases h3 : gr lim L a b with _ | _
    · rfl
    · have := dst_near (g := gr lim L) hi ha (of_decide_eq_true h1) h3
      simp at h2
      omega
end Id
end Go.Proofs.Ytdaedjmkolcliaa
