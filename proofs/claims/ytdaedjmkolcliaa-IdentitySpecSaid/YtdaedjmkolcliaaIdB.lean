/- Plain facts of layer 45: the order of essences. -/
import Derived.Test.YtdaedjmkolcliaaIdK
namespace Go.Proofs.Ytdaedjmkolcliaa
set_option linter.unusedVariables false
set_option linter.unusedSimpArgs false
open Go.RowKit

namespace Id
/-- A sign. -/
structure Sg where
  id : Int
  role : Int
  bar : Int
  mark : Int
  kind : Int
  side : Int
  dir : Int
  level : Int
  size : Int
  wth : Int
  fn : Int
  fd : Int
  tn : Int
  td : Int
/-- The order of essences. -/
def lt (a b : Sg) : Prop := a.role < b.role ∨ a.role = b.role ∧ (a.bar < b.bar ∨ a.bar = b.bar ∧ (a.fn * b.fd < b.fn * a.fd ∨ a.fn * b.fd = b.fn * a.fd ∧ a.id < b.id))
instance (a b : Sg) : Decidable (lt a b) := by unfold lt; infer_instance
theorem fr_lt {a b c d e f : Int} (hb : 0 < b) (hd : 0 < d) (hf : 0 < f) (h : a * d < c * b) (k : c * f ≤ e * d) : a * f < e * b := by
  have h1 : a * d * f < c * b * f := Int.mul_lt_mul_of_pos_right h hf
  have h2 : c * f * b ≤ e * d * b := Int.mul_le_mul_of_nonneg_right k (Int.le_of_lt hb)
  have e1 : a * d * f = a * f * d := by rw [Int.mul_assoc, Int.mul_comm d f, Int.mul_assoc]
  have e2 : c * b * f = c * f * b := by rw [Int.mul_assoc, Int.mul_comm b f, Int.mul_assoc]
  have e3 : e * d * b = e * b * d := by rw [Int.mul_assoc, Int.mul_comm d b, Int.mul_assoc]
  exact Int.lt_of_mul_lt_mul_right (by omega : a * f * d < e * b * d) (Int.le_of_lt hd)
theorem fr_lt' {a b c d e f : Int} (hb : 0 < b) (hd : 0 < d) (hf : 0 < f) (h : a * d ≤ c * b) (k : c * f < e * d) : a * f < e * b := by
  have h1 : a * d * f ≤ c * b * f := Int.mul_le_mul_of_nonneg_right h (Int.le_of_lt hf)
  have h2 : c * f * b < e * d * b := Int.mul_lt_mul_of_pos_right k hb
  have e1 : a * d * f = a * f * d := by rw [Int.mul_assoc, Int.mul_comm d f, Int.mul_assoc]
  have e2 : c * b * f = c * f * b := by rw [Int.mul_assoc, Int.mul_comm b f, Int.mul_assoc]
  have e3 : e * d * b = e * b * d := by rw [Int.mul_assoc, Int.mul_comm d b, Int.mul_assoc]
  exact Int.lt_of_mul_lt_mul_right (by omega : a * f * d < e * b * d) (Int.le_of_lt hd)
theorem fr_eq {a b c d e f : Int} (hd : 0 < d) (h : a * d = c * b) (k : c * f = e * d) : a * f = e * b := by
  have e1 : a * d * f = a * f * d := by rw [Int.mul_assoc, Int.mul_comm d f, Int.mul_assoc]
  have e2 : c * b * f = c * f * b := by rw [Int.mul_assoc, Int.mul_comm b f, Int.mul_assoc]
  have e3 : e * d * b = e * b * d := by rw [Int.mul_assoc, Int.mul_comm d b, Int.mul_assoc]
  have : a * f * d = e * b * d := by rw [← e1, h, e2, k, e3]
  exact Int.eq_of_mul_eq_mul_right (by omega) this
theorem lt_irrefl (a : Sg) : ¬ lt a a := by unfold lt; omega
theorem lt_asymm {a b : Sg} (h : lt a b) : ¬ lt b a := by unfold lt at *; omega
theorem lt_trans {a b c : Sg} (ha : 0 < a.fd) (hb : 0 < b.fd) (hc : 0 < c.fd) (h : lt a b) (k : lt b c) : lt a c := by
  unfold lt at *
  have t1 : a.fn * b.fd < b.fn * a.fd → b.fn * c.fd ≤ c.fn * b.fd → a.fn * c.fd < c.fn * a.fd := fr_lt ha hb hc
  have t2 : a.fn * b.fd ≤ b.fn * a.fd → b.fn * c.fd < c.fn * b.fd → a.fn * c.fd < c.fn * a.fd := fr_lt' ha hb hc
  have t3 : a.fn * b.fd = b.fn * a.fd → b.fn * c.fd = c.fn * b.fd → a.fn * c.fd = c.fn * a.fd := fr_eq hb
  omega
theorem lt_total {a b : Sg} (h : a.id ≠ b.id) : lt a b ∨ lt b a := by unfold lt; omega
/-- Two lists in the order, with the same signs, are equal. -/
theorem uniq : ∀ {l m : List Sg}, l.Pairwise lt → m.Pairwise lt → (∀ x, x ∈ l ↔ x ∈ m) → l = m
  | [], [], _, _, _ => rfl
  | [], b :: m, _, _, h => by have := (h b).2 (by simp); simp at this
  | a :: l, [], _, _, h => by have := (h a).1 (by simp); simp at this
  | a :: l, b :: m, hl, hm, h => by
    have hl' := List.pairwise_cons.1 hl
    have hm' := List.pairwise_cons.1 hm
    have e : a = b := by
      rcases List.mem_cons.1 ((h a).1 (by simp)) with e | e
      · exact e
      · rcases List.mem_cons.1 ((h b).2 (by simp)) with f | f
        · exact f.symm
        · exact absurd (hl'.1 b f) (lt_asymm (hm'.1 a e))
    subst e
    refine congrArg _ (uniq hl'.2 hm'.2 fun x => ⟨fun hx => ?_, fun hx => ?_⟩)
    · rcases List.mem_cons.1 ((h x).1 (List.mem_cons_of_mem _ hx)) with e | e
      · subst e; exact absurd (hl'.1 x hx) (lt_irrefl _)
      · exact e
    · rcases List.mem_cons.1 ((h x).2 (List.mem_cons_of_mem _ hx)) with e | e
      · subst e; exact absurd (hm'.1 x hx) (lt_irrefl _)
      · exact e
def ins (x : Sg) : List Sg → List Sg
  | [] => [x]
  | y :: l => if lt x y then x :: y :: l else y :: ins x l
/-- Signs in the order of essences. -/
def srt : List Sg → List Sg
  | [] => []
  | x :: l => ins x (srt l)
theorem ins_mem {x y : Sg} : ∀ {l : List Sg}, y ∈ ins x l ↔ y = x ∨ y ∈ l
  | [] => by simp [ins]
  | z :: l => by
    unfold ins
    split
    · simp
    · simp only [List.mem_cons, ins_mem (l := l)]
      constructor
      · rintro (h | h | h) <;> simp [h]
      · rintro (h | h | h) <;> simp [h]
theorem srt_mem {y : Sg} : ∀ {l : List Sg}, y ∈ srt l ↔ y ∈ l
  | [] => by simp [srt]
  | x :: l => by rw [srt, ins_mem, srt_mem (l := l), List.mem_cons]
theorem ins_len (x : Sg) : ∀ l : List Sg, (ins x l).length = l.length + 1
  | [] => rfl
  | y :: l => by unfold ins; split <;> simp [ins_len x l]
theorem srt_len : ∀ l : List Sg, (srt l).length = l.length
  | [] => rfl
  | x :: l => by rw [srt, ins_len, srt_len l, List.length_cons]
/-- Signs that can be ordered: of different IDs, that begin at right moments. -/
def Ok (l : List Sg) : Prop := (∀ s ∈ l, 0 < s.fd) ∧ l.Pairwise fun a b => a.id ≠ b.id
theorem ins_srt {x : Sg} (hx : 0 < x.fd) : ∀ {l : List Sg}, (∀ s ∈ l, 0 < s.fd) → (∀ s ∈ l, x.id ≠ s.id) → l.Pairwise lt → (ins x l).Pairwise lt
  | [], _, _, _ => by simp [ins]
  | y :: l, hf, hd, hs => by
    have hs' := List.pairwise_cons.1 hs
    unfold ins
    split
    case isTrue h =>
      refine List.pairwise_cons.2 ⟨fun z hz => ?_, hs⟩
      rcases List.mem_cons.1 hz with e | e
      · subst e; exact h
      · exact lt_trans hx (hf y (by simp)) (hf z (by simp [e])) h (hs'.1 z e)
    case isFalse h =>
      refine List.pairwise_cons.2 ⟨fun z hz => ?_, ins_srt hx (fun s hs => hf s (by simp [hs])) (fun s hs => hd s (by simp [hs])) hs'.2⟩
      rcases ins_mem.1 hz with e | e
      · subst e
        rcases lt_total (hd y (by simp)) with h1 | h1
        · exact absurd h1 h
        · exact h1
      · exact hs'.1 z e
theorem srt_srt : ∀ {l : List Sg}, Ok l → (srt l).Pairwise lt
  | [], _ => by simp [srt]
  | x :: l, ⟨hf, hd⟩ => by
    have hd' := List.pairwise_cons.1 hd
    refine ins_srt (hf x (by simp)) (fun s hs => hf s (by simp [srt_mem.1 hs])) (fun s hs => hd'.1 s (srt_mem.1 hs)) (srt_srt ⟨fun s hs => hf s (by simp [hs]), hd'.2⟩)
theorem srt_uniq {l m : List Sg} (h : Ok l) (hm : m.Pairwise lt) (e : ∀ x, x ∈ m ↔ x ∈ l) : m = srt l :=
  uniq hm (srt_srt h) fun x => by rw [e, srt_mem]
/-- The reference's way: from the end on. -/
theorem put_srt {x : Sg} (hx : 0 < x.fd) {l : List Sg} (hf : ∀ s ∈ l, 0 < s.fd) (hd : ∀ s ∈ l, x.id ≠ s.id) (hs : l.Pairwise lt) (k : Nat) (hkl : k ≤ l.length) (h1 : ∀ s ∈ l.drop k, lt x s) (h2 : ∀ s, l[k - 1]? = some s → 0 < k → ¬ lt x s) :
    (l.take k ++ x :: l.drop k).Pairwise lt := by
  have hs' : (l.take k ++ l.drop k).Pairwise lt := by rw [List.take_append_drop]; exact hs
  rw [List.pairwise_append] at hs'
  refine List.pairwise_append.2 ⟨hs'.1, List.pairwise_cons.2 ⟨h1, hs'.2.1⟩, ?_⟩
  have key : ∀ a ∈ l.take k, lt a x := by
    intro a ha
    have hk : 0 < k := by rcases k with _ | k <;> simp at ha ⊢
    have hg : l[k - 1]? = some l[k - 1] := List.getElem?_eq_getElem (by omega)
    have hn := h2 _ hg hk
    have hlast : lt l[k - 1] x := by
      rcases lt_total (hd l[k - 1] (List.getElem_mem _)) with h | h
      · exact absurd h hn
      · exact h
    obtain ⟨i, hi, rfl⟩ := List.getElem_of_mem ha
    simp only [List.length_take] at hi
    rw [List.getElem_take]
    by_cases e : i = k - 1
    · subst e; exact hlast
    · have := List.pairwise_iff_getElem.1 hs i (k - 1) (by omega) (by omega) (by omega)
      exact lt_trans (hf _ (List.getElem_mem _)) (hf _ (List.getElem_mem _)) hx this hlast
  intro a ha b hb
  rcases List.mem_cons.1 hb with e | e
  · subst e; exact key a ha
  · exact hs'.2.2 a ha b e
end Id
end Go.Proofs.Ytdaedjmkolcliaa
