/- Plain: signs without the optional ones, and with other IDs in the same order. -/
import Derived.Test.YtdaedjmkolcliaaJaF
namespace Go.Proofs.Ytdaedjmkolcliaa
set_option linter.unusedVariables false
set_option linter.unusedSimpArgs false
open Go.RowKit

namespace Id
/-- The next ID to give, ahead of its gap. -/
def nxi (g : Nat → Int) : Nat → Int
  | 0 => 0
  | m + 1 => nxi g m + g m + 1
def rid (g : Nat → Int) (E : List Sg) (m : Nat) : Sg := {E.getD m default with id := nxi g m + g m}
def bare (g : Nat → Int) (E : List Sg) : List Sg := (List.range E.length).map (rid g E)
section
variable {g : Nat → Int}
theorem bare_len (g : Nat → Int) (E : List Sg) : (bare g E).length = E.length := by simp [bare]
theorem bare_snoc (g : Nat → Int) (E : List Sg) (x : Sg) : bare g (E ++ [x]) = bare g E ++ [{x with id := nxi g E.length + g E.length}] := by
  unfold bare
  rw [List.length_append, List.length_singleton, List.range_succ, List.map_append]
  congr 1
  · refine List.map_congr_left fun m hm => ?_
    have hm := List.mem_range.1 hm
    simp [rid, List.getD, List.getElem?_append_left hm]
  · simp [rid, List.getD]
theorem nxi_le (h0 : ∀ m, 0 ≤ g m) : ∀ {m n : Nat}, m ≤ n → nxi g m ≤ nxi g n
  | m, 0, h => by obtain rfl : m = 0 := by omega
                  exact Int.le_refl _
  | m, n + 1, h => by
    rcases Nat.lt_or_ge n m with h1 | h1
    · obtain rfl : m = n + 1 := by omega
      exact Int.le_refl _
    · have := nxi_le h0 h1
      have := h0 n
      rw [nxi]; omega
theorem nxi_bd (h0 : ∀ m, 0 ≤ g m) (h1 : ∀ m, g m ≤ 255) : ∀ m : Nat, 0 ≤ nxi g m ∧ nxi g m ≤ 256 * m
  | 0 => by simp [nxi]
  | m + 1 => by
    have := nxi_bd h0 h1 m
    have := h0 m
    have := h1 m
    rw [nxi]; omega
def insP (p : Sg × Sg) : List (Sg × Sg) → List (Sg × Sg)
  | [] => [p]
  | q :: l => if lt p.1 q.1 then p :: q :: l else q :: insP p l
def srtP : List (Sg × Sg) → List (Sg × Sg)
  | [] => []
  | p :: l => insP p (srtP l)
theorem insP_mem {p q : Sg × Sg} : ∀ {l : List (Sg × Sg)}, q ∈ insP p l → q = p ∨ q ∈ l
  | [], h => by simpa [insP] using h
  | r :: l, h => by
    unfold insP at h
    split at h
    · simpa using h
    · rcases List.mem_cons.1 h with h | h
      · exact .inr (by rw [h]; simp)
      · rcases insP_mem h with h | h
        · exact .inl h
        · exact .inr (List.mem_cons_of_mem _ h)
theorem srtP_mem {q : Sg × Sg} : ∀ {l : List (Sg × Sg)}, q ∈ srtP l → q ∈ l
  | [], h => by cases h
  | p :: l, h => by
    rcases insP_mem h with h | h
    · rw [h]; simp
    · exact List.mem_cons_of_mem _ (srtP_mem h)
theorem insP_fst (p : Sg × Sg) : ∀ l : List (Sg × Sg), (insP p l).map Prod.fst = ins p.1 (l.map Prod.fst)
  | [] => rfl
  | q :: l => by
    rw [insP, List.map_cons, ins]
    split
    · rfl
    · rw [List.map_cons, insP_fst p l]
theorem insP_snd (p : Sg × Sg) : ∀ l : List (Sg × Sg), (∀ q ∈ l, lt p.1 q.1 ↔ lt p.2 q.2) → (insP p l).map Prod.snd = ins p.2 (l.map Prod.snd)
  | [], _ => rfl
  | q :: l, h => by
    rw [insP, List.map_cons, ins]
    by_cases h1 : lt p.1 q.1
    · rw [if_pos h1, if_pos ((h q (by simp)).1 h1)]
      rfl
    · rw [if_neg h1, if_neg (fun h2 => h1 ((h q (by simp)).2 h2)), List.map_cons, insP_snd p l fun r hr => h r (List.mem_cons_of_mem _ hr)]
theorem srtP_fst : ∀ l : List (Sg × Sg), (srtP l).map Prod.fst = srt (l.map Prod.fst)
  | [] => rfl
  | p :: l => by rw [srtP, insP_fst, srtP_fst l]; rfl
theorem srtP_snd : ∀ l : List (Sg × Sg), (∀ p ∈ l, ∀ q ∈ l, lt p.1 q.1 ↔ lt p.2 q.2) → (srtP l).map Prod.snd = srt (l.map Prod.snd)
  | [], _ => rfl
  | p :: l, h => by
    rw [srtP, insP_snd p _ fun q hq => h p (by simp) q (List.mem_cons_of_mem _ (srtP_mem hq)), srtP_snd l fun p hp q hq => h p (List.mem_cons_of_mem _ hp) q (List.mem_cons_of_mem _ hq)]
    rfl
def prs (g : Nat → Int) (E : List Sg) : List (Sg × Sg) := (List.range E.length).map fun m => (E.getD m default, rid g E m)
theorem prs_fst (E : List Sg) : (prs g E).map Prod.fst = E := by
  unfold prs
  rw [List.map_map]
  refine List.ext_getElem (by simp) fun i h1 h2 => ?_
  simp [List.getD, h2]
theorem prs_snd (E : List Sg) : (prs g E).map Prod.snd = bare g E := by
  unfold prs bare
  rw [List.map_map]
  rfl
theorem ids_lt {E : List Sg} (h : E.Pairwise fun a b => a.id < b.id) {m n : Nat} (hn : n < E.length) (hm : m < n) : (E.getD m default).id < (E.getD n default).id := by
  have h1 := List.pairwise_iff_getElem.1 h m n (by omega) hn hm
  simpa [List.getD, show m < E.length by omega, hn] using h1
theorem prs_lt (h0 : ∀ m, 0 ≤ g m) {E : List Sg} (h : E.Pairwise fun a b => a.id < b.id) : ∀ p ∈ prs g E, ∀ q ∈ prs g E, lt p.1 q.1 ↔ lt p.2 q.2 := by
  intro p hp q hq
  obtain ⟨m, hm, rfl⟩ := List.mem_map.1 hp
  obtain ⟨n, hn, rfl⟩ := List.mem_map.1 hq
  have hm := List.mem_range.1 hm
  have hn := List.mem_range.1 hn
  have h1 : (E.getD m default).id < (E.getD n default).id ↔ m < n := by
    rcases Nat.lt_trichotomy m n with h2 | h2 | h2
    · have := ids_lt h hn h2; omega
    · subst h2; omega
    · have := ids_lt h hm h2; omega
  have h2 : nxi g m + g m < nxi g n + g n ↔ m < n := by
    have t : ∀ {a b : Nat}, a < b → nxi g a + g a < nxi g b + g b := fun {a b} hab => by
      have := nxi_le h0 (show a + 1 ≤ b from hab)
      rw [nxi] at this
      have := h0 b
      omega
    rcases Nat.lt_trichotomy m n with h2 | h2 | h2
    · have := t h2; omega
    · subst h2; omega
    · have := t h2; omega
  unfold lt rid
  simp only
  rw [h1, h2]
theorem rid_code (E : List Sg) (m : Nat) : code (rid g E m) = code (E.getD m default) := rfl
theorem form_id {x : Sg} {i : Int} (h : form x = true) (h0 : 0 ≤ i) (h1 : i ≤ 1048576) : form {x with id := i} = true := by
  have e : Tp.inb i 0 1048576 = true := by rw [Tp.inb_iff]; exact ⟨h0, h1⟩
  simp only [form, Bool.and_eq_true] at h ⊢
  simp only [e, h, and_self]
theorem vE_of : ∀ {l : List Sg} {last : Int}, (∀ s ∈ l, form s = true ∧ last < s.id) → (l.Pairwise fun a b => a.id < b.id) → vE last l = true
  | [], _, _, _ => rfl
  | x :: l, last, h, hp => by
    have h1 := h x (by simp)
    have h2 := List.pairwise_cons.1 hp
    rw [vE, h1.1, decide_eq_true h1.2, vE_of (fun s hs => ⟨(h s (List.mem_cons_of_mem _ hs)).1, h2.1 s hs⟩) h2.2]
    rfl
theorem essl_le (l : List Sg) (k : Nat) : (essl (l.take k)).length ≤ (essl l).length := ((List.take_sublist k l).filter _).length_le
/-- Without the optional signs, and with other IDs: the same essence. -/
theorem bare_ok (h0 : ∀ m, 0 ≤ g m) (h1 : ∀ m, g m ≤ 255) {s : List Sg} (hs : essE s = 0) (hl : (essl s).length ≤ 20) :
    essE (bare g (essl s)) = 0 ∧ ess (bare g (essl s)) = ess s ∧ eE 0 [s, bare g (essl s)] = 0 ∧ nearB s (bare g (essl s)) 0 = true := by
  have hc := (ess_le hs).1
  have hi := essl_ids hc
  have hf := essl_form hc
  have hmk : ∀ x ∈ essl s, x.mark = 1 := fun x hx => by
    have := (List.mem_filter.1 hx).2
    simpa using this
  generalize hE : essl s = E at *
  have hmem : ∀ m, m < E.length → E.getD m default ∈ E := fun m hm => by
    rw [List.getD_eq_getElem?_getD, List.getElem?_eq_getElem hm]; exact List.getElem_mem hm
  have hb : ∀ x ∈ bare g E, ∃ m, m < E.length ∧ x = rid g E m := fun x hx => by
    obtain ⟨m, hm, rfl⟩ := List.mem_map.1 hx
    exact ⟨m, List.mem_range.1 hm, rfl⟩
  have hbe : essl (bare g E) = bare g E := by
    unfold essl
    refine List.filter_eq_self.2 fun x hx => ?_
    obtain ⟨m, hm, rfl⟩ := hb x hx
    exact decide_eq_true (show (E.getD m default).mark = 1 from hmk _ (hmem m hm))
  have hbc : chk (bare g E) = 0 := by
    unfold chk
    rw [bare_len, if_neg (by omega), if_pos]
    refine vE_of (fun x hx => ?_) ?_
    · obtain ⟨m, hm, rfl⟩ := hb x hx
      have := nxi_bd h0 h1 m
      have := h0 m
      have := h1 m
      exact ⟨form_id (hf _ (hmem m hm)) (by omega) (by omega), show (-1 : Int) < nxi g m + g m by omega⟩
    · unfold bare
      refine List.pairwise_map.2 (List.Pairwise.imp (R := fun a b => a < b) (fun {a b} hab => ?_) List.pairwise_lt_range)
      have := nxi_le h0 (show a + 1 ≤ b from hab)
      rw [nxi] at this
      have := h0 b
      show nxi g a + g a < nxi g b + g b
      omega
  have hbE : essE (bare g E) = 0 := by
    unfold essE
    rw [if_pos hbc, hbe, bare_len, if_neg (by omega)]
  have hbs : ess (bare g E) = ess s := by
    have h2 := srtP_snd (prs g E) (prs_lt h0 hi)
    rw [prs_snd] at h2
    have h3 := srtP_fst (prs g E)
    rw [prs_fst] at h3
    unfold ess
    rw [hbe, hE, ← h2, ← h3, List.map_map, List.map_map]
    refine List.map_congr_left fun p hp => ?_
    obtain ⟨m, _, rfl⟩ := List.mem_map.1 (srtP_mem hp)
    rfl
  have hee : eE 0 [s, bare g E] = 0 := by
    unfold eE
    rw [if_pos hs]
    unfold eE
    rw [if_pos hbE]
    rfl
  refine ⟨hbE, hbs, hee, ?_⟩
  unfold nearB
  rw [hee, hbs, simi_self 0 (Int.le_refl _)]
  rfl
end
end Id
end Go.Proofs.Ytdaedjmkolcliaa
