/- Plain facts of layer 45: the essence of signs. -/
import Derived.Test.YtdaedjmkolcliaaIdJ
import Derived.Test.YtdaedjmkolcliaaKixz
namespace Go.Proofs.Ytdaedjmkolcliaa
set_option linter.unusedVariables false
set_option linter.unusedSimpArgs false
open Go.RowKit Go.Sort

namespace Id
/-- Codes of signs in their ranges. -/
def Cod (l : List Int) : Prop := ∀ c ∈ l, ∃ s, InC s ∧ c = code s
theorem getD_mem {l : List Int} {i : Nat} (h : i < l.length) : l.getD i 0 ∈ l := by
  rw [List.getD_eq_getElem?_getD, List.getElem?_eq_getElem h]; exact List.getElem_mem h
theorem form_iff (s : Sg) : form s = true ↔ (0 ≤ s.id ∧ s.id ≤ 1048576) ∧ (0 ≤ s.role ∧ s.role ≤ 63) ∧ (0 ≤ s.bar ∧ s.bar ≤ 4095) ∧ (1 ≤ s.kind ∧ s.kind ≤ 9) ∧ (1 ≤ s.mark ∧ s.mark ≤ 3) ∧ (0 ≤ s.side ∧ s.side ≤ 2) ∧ (0 ≤ s.dir ∧ s.dir ≤ 8) ∧ (0 ≤ s.level ∧ s.level ≤ 3) ∧ (0 ≤ s.size ∧ s.size ≤ 255) ∧ (0 ≤ s.wth ∧ s.wth ≤ 64) ∧ fin s.fn s.fd s.tn s.td = true := by
  simp only [form, Bool.and_eq_true, Tp.inb_iff, and_assoc]
theorem form_inC {s : Sg} (h : form s = true) : InC s := by
  rw [form_iff] at h
  obtain ⟨_, h1, _, h2, _, h3, h4, h5, h6, h7, _⟩ := h
  exact ⟨h1, h2, h3, h4, h5, h6, h7⟩
theorem form_fin {s : Sg} (h : form s = true) : Ra.ok s.fn s.fd = true ∧ Ra.ok s.tn s.td = true := by
  have h1 := ((form_iff s).1 h).2.2.2.2.2.2.2.2.2.2
  simp only [fin, Bool.and_eq_true] at h1
  exact ⟨h1.1.1.1.1, h1.1.1.1.2⟩
theorem form_fd {s : Sg} (h : form s = true) : 0 < s.fd := by
  have := (Ra.ok_iff _ _).1 (form_fin h).1
  omega
theorem vE_all : ∀ {l : List Sg} {last : Int}, vE last l = true → (∀ s ∈ l, form s = true ∧ last < s.id) ∧ l.Pairwise fun a b => a.id < b.id
  | [], _, _ => ⟨by simp, List.Pairwise.nil⟩
  | x :: l, last, h => by
    simp only [vE, Bool.and_eq_true, decide_eq_true_eq] at h
    obtain ⟨⟨h1, h2⟩, h3⟩ := h
    obtain ⟨h4, h5⟩ := vE_all h3
    refine ⟨?_, List.pairwise_cons.2 ⟨fun y hy => (h4 y hy).2, h5⟩⟩
    intro s hs
    rcases List.mem_cons.1 hs with rfl | hs
    · exact ⟨h1, h2⟩
    · exact ⟨(h4 s hs).1, by have := (h4 s hs).2; omega⟩
theorem chk_ok {l : List Sg} (h : chk l = 0) : l.length ≤ 4096 ∧ (∀ s ∈ l, form s = true) ∧ l.Pairwise fun a b => a.id < b.id := by
  unfold chk at h
  split at h
  · cases h
  · rename_i h1
    split at h
    · rename_i h2
      have := vE_all h2
      exact ⟨by omega, fun s hs => (this.1 s hs).1, this.2⟩
    · cases h
theorem chk_cases (l : List Sg) : chk l = 0 ∨ chk l = 2 ∨ chk l = 360 := by
  unfold chk
  split
  · exact .inr (.inl rfl)
  · split
    · exact .inl rfl
    · exact .inr (.inr rfl)
/-- The signs that are essential. -/
def essl (l : List Sg) : List Sg := l.filter fun s => decide (s.mark = 1)
/-- The essence. -/
def ess (l : List Sg) : List Int := (srt (essl l)).map code
/-- What Essence says besides. -/
def essE (l : List Sg) : Int := if chk l = 0 then if 64 < (essl l).length then 2 else 0 else chk l
theorem essl_form {l : List Sg} (h : chk l = 0) : ∀ s ∈ essl l, form s = true := fun s hs => (chk_ok h).2.1 s (List.mem_filter.1 hs).1
theorem essl_ids {l : List Sg} (h : chk l = 0) : (essl l).Pairwise fun a b => a.id < b.id := (chk_ok h).2.2.filter _
theorem essl_ok {l : List Sg} (h : chk l = 0) : Ok (essl l) := ⟨fun s hs => form_fd (essl_form h s hs), (essl_ids h).imp fun h => by omega⟩
theorem ess_len (l : List Sg) : (ess l).length = (essl l).length := by simp [ess, srt_len]
theorem ess_cod {l : List Sg} (h : chk l = 0) : Cod (ess l) := by
  intro c hc
  obtain ⟨s, hs, rfl⟩ := List.mem_map.1 hc
  exact ⟨s, form_inC (essl_form h s (srt_mem.1 hs)), rfl⟩
/-- What compare says. -/
def cfS (a b : Sg) : Int := if (a.role - b.role != 0) = true then a.role - b.role else if (a.bar - b.bar != 0) = true then a.bar - b.bar else if (Ra.sg (a.fn * b.fd) (b.fn * a.fd) != 0) = true then Ra.sg (a.fn * b.fd) (b.fn * a.fd) else a.id - b.id
theorem cfS_lt (a b : Sg) : cfS a b < 0 ↔ lt a b := by
  unfold cfS lt Ra.sg
  generalize a.fn * b.fd = x
  generalize b.fn * a.fd = y
  by_cases h1 : a.role - b.role = 0
  · simp only [h1, bne_self_eq_false, Bool.false_eq_true, if_false]
    by_cases h2 : a.bar - b.bar = 0
    · simp only [h2, bne_self_eq_false, Bool.false_eq_true, if_false]
      by_cases h3 : x < y
      · simp [h3]; omega
      · by_cases h4 : y < x
        · simp [h3, h4]; omega
        · simp [h3, h4]; omega
    · have : (a.bar - b.bar != 0) = true := by simpa using h2
      simp only [this, if_true]; omega
  · have : (a.role - b.role != 0) = true := by simpa using h1
    simp only [this, if_true]; omega
/-- Signs in form. -/
abbrev Fs := {s : Sg // form s = true}
instance : Inhabited Fs := ⟨⟨⟨0, 0, 0, 1, 1, 0, 0, 0, 0, 0, 0, 1, 1, 1⟩, by decide +kernel⟩⟩
def cf (a b : Fs) : Int := cfS a.1 b.1
theorem ltOf_cf (a b : Fs) : ltOf cf a b = decide (lt a.1 b.1) := by
  unfold ltOf cf
  exact decide_eq_decide.2 (cfS_lt a.1 b.1)
theorem lt_ntrans {a b c : Sg} (ha : 0 < a.fd) (hb : 0 < b.fd) (hc : 0 < c.fd) (h : ¬ lt a b) (k : ¬ lt b c) : ¬ lt a c := by
  unfold lt at *
  have t1 : b.fn * a.fd < a.fn * b.fd → c.fn * b.fd ≤ b.fn * c.fd → c.fn * a.fd < a.fn * c.fd := fun h k => fr_lt' hc hb ha k h
  have t2 : b.fn * a.fd ≤ a.fn * b.fd → c.fn * b.fd < b.fn * c.fd → c.fn * a.fd < a.fn * c.fd := fun h k => fr_lt hc hb ha k h
  have t3 : a.fn * b.fd = b.fn * a.fd → b.fn * c.fd = c.fn * b.fd → a.fn * c.fd = c.fn * a.fd := fr_eq hb
  omega
theorem cf_swo : SWO (ltOf cf) where
  irrefl x := by rw [ltOf_cf]; simp [lt_irrefl]
  trans x y z h1 h2 := by
    rw [ltOf_cf] at *
    exact decide_eq_true (lt_trans (form_fd x.2) (form_fd y.2) (form_fd z.2) (of_decide_eq_true h1) (of_decide_eq_true h2))
  ntrans x y z h1 h2 := by
    rw [ltOf_cf] at *
    exact decide_eq_false (lt_ntrans (form_fd x.2) (form_fd y.2) (form_fd z.2) (of_decide_eq_false h1) (of_decide_eq_false h2))
/-- The cells of a sign. -/
def sc (s : Sg) : List Value := [.int .i64 s.id, .int .i64 s.role, .int .i64 s.bar, .int .i64 s.mark, .int .i64 s.kind, .int .i64 s.side, .int .i64 s.dir, .int .i64 s.level, .int .i64 s.size, .int .i64 s.wth, .int .i64 s.fn, .int .i64 s.fd, .int .i64 s.tn, .int .i64 s.td]
def flatS (l : List Sg) : List Value := l.flatMap sc
theorem flatS_snoc (l : List Sg) (s : Sg) : flatS (l ++ [s]) = flatS l ++ sc s := by simp [flatS]
theorem flatS_len (l : List Sg) : (flatS l).length = l.length * 14 := Kit.flat_len sc 14 (fun _ => rfl) l
theorem flatS_get (l : List Sg) (i j : Nat) (hi : i < l.length) (hj : j < 14) : (flatS l)[i * 14 + j]? = some (sgc l i j) := by
  rw [show flatS l = l.flatMap sc from rfl, Kit.flat_get sc 14 (fun _ => rfl) l i j hi hj]
  unfold sgc
  generalize l.getD i default = s
  rcases j with _ | _ | _ | _ | _ | _ | _ | _ | _ | _ | _ | _ | _ | _ | j <;> first | rfl | omega
/-- Sorted by the order, the same signs: the essence's order. -/
theorem sorted_srt {l : List Sg} {m : List Fs} (h : Ok l) (hp : (m.map (·.1)).Perm l) (hs : m.Pairwise fun a b => ltOf cf b a = false) : m.map (·.1) = srt l := by
  refine srt_uniq h ?_ fun x => hp.mem_iff
  have h1 : (m.map (·.1)).Pairwise fun a b => ¬ lt b a := by
    rw [List.pairwise_map]
    exact hs.imp fun {a b} e => by rw [ltOf_cf] at e; exact of_decide_eq_false e
  have h2 : (m.map (·.1)).Pairwise fun a b => a.id ≠ b.id := by
    refine (hp.pairwise_iff ?_).2 h.2
    intro a b e; exact e.symm
  exact (h1.and h2).imp fun {a b} e => by
    rcases lt_total e.2 with h3 | h3
    · exact h3
    · exact absurd h3 e.1
/-- A list of signs in form, as such. -/
theorem lift_form {l : List Sg} (h : ∀ s ∈ l, form s = true) : ∃ m : List Fs, m.map (·.1) = l := ⟨l.attachWith (fun s => form s = true) h, by simp⟩
theorem flat_lift (m : List Fs) : m.flatMap (fun s => sc s.1) = flatS (m.map (·.1)) := by
  simp [flatS, List.flatMap_map]
end Id
end Go.Proofs.Ytdaedjmkolcliaa
