/- Slices of structs that are handed in: their cells. Plain facts of layer 45: the cost of two lists of codes. Plain facts of layer 45: the order of essences. Plain facts of layer 45: chains of editions. Plain facts of layer 45: shortest chains, and the first edition that is the same work. Plain facts of layer 45: one round of steps. Plain: the reference's distances, in place, step by step. -/
import Derived.Test.YtdaedjmkolcliaaKit
import Derived.Test.YtdaedjmkolcliaaProg
import Derived.WalkKit
import Derived.WalkSpells
import Derived.WalkLawsBesides
import Derived.Lib.Hide
import Derived.IntWalk
namespace Go.Proofs.Ytdaedjmkolcliaa
set_option linter.unusedVariables false
set_option linter.unusedSimpArgs false
open Go.RowKit

namespace Tp
/-- Is n from lo to hi? -/
def inb (n lo hi : Int) : Bool := decide (lo ≤ n) && decide (n ≤ hi)
theorem inb_iff (n lo hi : Int) : inb n lo hi = true ↔ lo ≤ n ∧ n ≤ hi := by simp [inb]
/-- A slice of n elements of k cells each. -/
def Sl (w : World) (a : Option Addr) (n k : Nat) (f : Nat → Nat → Value) : Prop :=
  n = 0 ∨ ∃ ad, a = some ad ∧ ad.block < w.heap.size ∧ ∀ i j, i < n → j < k → w.cell? (ad.add (i * k + j)) = some (f i j)
theorem Sl.at {w : World} {a : Option Addr} {n k : Nat} {f : Nat → Nat → Value} (h : Sl w a n k f) {i : Nat} (hi : i < n) : ∃ ad, a = some ad ∧ ad.block < w.heap.size ∧ ∀ j, j < k → w.cell? (ad.add (i * k + j)) = some (f i j) := by
  rcases h with h | ⟨ad, h1, h2, h3⟩
  · omega
  · exact ⟨ad, h1, h2, fun j hj => h3 i j hi hj⟩
theorem add_block (ad : Addr) (n : Nat) : (ad.add n).block = ad.block := by unfold Addr.add; split <;> rfl
theorem add_pos (ad : Addr) (m j : Nat) (h : j ≠ 0) : ad.add (m + j) = ⟨(ad.add m).block, (ad.add m).off + j, none⟩ := by
  unfold Addr.add
  rw [if_neg (by omega)]
  by_cases hm : m = 0
  · subst hm; simp
  · simp [hm, Nat.add_assoc]
/-- The cells of element i, as the walk spells them. -/
theorem Sl.head {w : World} {ad : Addr} {n k : Nat} {f : Nat → Nat → Value} (h : Sl w (some ad) n k f) {i : Nat} (hi : i < n) (hk : 0 < k) : w.cell? (ad.add (i * k)) = some (f i 0) := by
  obtain ⟨ad', e, _, hc⟩ := h.at hi
  cases e
  exact hc 0 hk
theorem Sl.field {w : World} {ad : Addr} {n k : Nat} {f : Nat → Nat → Value} (h : Sl w (some ad) n k f) {i j : Nat} (hi : i < n) (hk : j < k) (hj : j ≠ 0) : w.cell? ⟨(ad.add (i * k)).block, (ad.add (i * k)).off + j, none⟩ = some (f i j) := by
  obtain ⟨ad', e, _, hc⟩ := h.at hi
  cases e
  rw [← add_pos _ _ _ hj]
  exact hc j hk
theorem Sl.kept {w w' : World} {a : Option Addr} {n k : Nat} {f : Nat → Nat → Value} (h : Sl w a n k f) {B : Nat} (hb : Below B w w') (hB : w.heap.size ≤ B) : Sl w' a n k f := by
  rcases h with h | ⟨ad, h1, h2, h3⟩
  · exact .inl h
  · exact .inr ⟨ad, h1, Nat.lt_of_lt_of_le h2 hb.size, fun i j hi hj => (hb.cell (by rw [add_block]; omega)).trans (h3 i j hi hj)⟩
end Tp
namespace Tp
theorem drop_cons {α : Type} (l : List α) (d : α) (k : Nat) (h : k < l.length) : l.drop k = l.getD k d :: l.drop (k + 1) := by
  rw [List.drop_eq_getElem_cons h]
  simp [List.getD_eq_getElem?_getD, List.getElem?_eq_getElem h]
end Tp
end Go.Proofs.Ytdaedjmkolcliaa

namespace Go.Proofs.Ytdaedjmkolcliaa
set_option linter.unusedVariables false
set_option linter.unusedSimpArgs false
open Go.RowKit

namespace Id
/-- The cost of two codes side by side. -/
def bes (x y : Int) : Int := if (x != y && x != 8589934592 && y != 8589934592) = true then 3 else 0
def mn (a b c : Int) : Int := min (min a b) c
/-- The least cost of what is left of two lists (with enough fuel). -/
def cstF : Nat → List Int → List Int → Int
  | _, [], b => 2 * (b.length : Int)
  | _, x :: a, [] => 2 * ((x :: a).length : Int)
  | 0, _ :: _, _ :: _ => 0
  | n + 1, x :: a, y :: b => mn (bes x y + cstF n a b) (2 + cstF n a (y :: b)) (2 + cstF n (x :: a) b)
def cst (a b : List Int) : Int := cstF (a.length + b.length) a b
theorem cstF_nil (n : Nat) (b : List Int) : cstF n [] b = 2 * (b.length : Int) := by cases n <;> rfl
theorem cstF_nil' (n : Nat) (a : List Int) : cstF n a [] = 2 * (a.length : Int) := by cases n <;> cases a <;> rfl
theorem cstF_enough : ∀ (n m : Nat) (a b : List Int), a.length + b.length ≤ n → a.length + b.length ≤ m → cstF n a b = cstF m a b
  | n, m, [], b, _, _ => by rw [cstF_nil, cstF_nil]
  | n, m, x :: a, [], _, _ => by rw [cstF_nil', cstF_nil']
  | 0, m, x :: a, y :: b, h, _ => by simp at h
  | n + 1, 0, x :: a, y :: b, _, h => by simp at h
  | n + 1, m + 1, x :: a, y :: b, h, k => by
    simp only [List.length_cons] at h k
    simp only [cstF]
    rw [cstF_enough n m a b (by omega) (by omega), cstF_enough n m a (y :: b) (by simp; omega) (by simp; omega), cstF_enough n m (x :: a) b (by simp; omega) (by simp; omega)]
theorem cst_nil (b : List Int) : cst [] b = 2 * (b.length : Int) := cstF_nil _ _
theorem cst_nil' (a : List Int) : cst a [] = 2 * (a.length : Int) := cstF_nil' _ _
theorem cst_cons (x y : Int) (a b : List Int) : cst (x :: a) (y :: b) = mn (bes x y + cst a b) (2 + cst a (y :: b)) (2 + cst (x :: a) b) := by
  have e : (x :: a).length + (y :: b).length = (a.length + b.length + 1) + 1 := by simp; omega
  unfold cst
  rw [e]
  simp only [cstF]
  rw [cstF_enough _ (a.length + b.length) a b (by omega) (by omega), cstF_enough _ (a.length + (y :: b).length) a (y :: b) (by simp; omega) (by omega), cstF_enough _ ((x :: a).length + b.length) (x :: a) b (by simp; omega) (by omega)]
theorem bes_symm (x y : Int) : bes x y = bes y x := by
  unfold bes
  rw [show (x != y) = (y != x) from by rw [bne_comm]]
  cases (y != x) <;> cases (x != 8589934592) <;> cases (y != 8589934592) <;> rfl
theorem bes_bd (x y : Int) : 0 ≤ bes x y ∧ bes x y ≤ 3 := by unfold bes; split <;> omega
theorem bes_self (x : Int) : bes x x = 0 := by simp [bes]
theorem mn_swap (a b c : Int) : mn a b c = mn a c b := by unfold mn; omega
theorem cst_symm : ∀ (n : Nat) (a b : List Int), a.length + b.length ≤ n → cst a b = cst b a
  | n, [], b, _ => by rw [cst_nil, cst_nil']
  | n, x :: a, [], _ => by rw [cst_nil, cst_nil']
  | 0, x :: a, y :: b, h => by simp at h
  | n + 1, x :: a, y :: b, h => by
    simp only [List.length_cons] at h
    rw [cst_cons, cst_cons, mn_swap, bes_symm, cst_symm n a b (by omega), cst_symm n (x :: a) b (by simp; omega), cst_symm n a (y :: b) (by simp; omega)]
theorem cst_comm (a b : List Int) : cst a b = cst b a := cst_symm _ a b (Nat.le_refl _)
theorem cst_bd : ∀ (n : Nat) (a b : List Int), a.length + b.length ≤ n → 0 ≤ cst a b ∧ cst a b ≤ 2 * ((a.length : Int) + b.length)
  | n, [], b, _ => by rw [cst_nil]; simp; omega
  | n, x :: a, [], _ => by rw [cst_nil']; simp; omega
  | 0, x :: a, y :: b, h => by simp at h
  | n + 1, x :: a, y :: b, h => by
    simp only [List.length_cons] at h
    have h1 := cst_bd n a b (by omega)
    have h2 := cst_bd n (x :: a) b (by simp; omega)
    have h3 := cst_bd n a (y :: b) (by simp; omega)
    have h4 := bes_bd x y
    rw [cst_cons]
    unfold mn
    simp only [List.length_cons] at *
    omega
theorem cst_nonneg (a b : List Int) : 0 ≤ cst a b := (cst_bd _ a b (Nat.le_refl _)).1
theorem cst_le (a b : List Int) : cst a b ≤ 2 * ((a.length : Int) + b.length) := (cst_bd _ a b (Nat.le_refl _)).2
theorem cst_self : ∀ a : List Int, cst a a = 0
  | [] => by rw [cst_nil]; rfl
  | x :: a => by
    have h1 := cst_self a
    have h2 := cst_nonneg a (x :: a)
    have h3 := cst_nonneg (x :: a) a
    rw [cst_cons, bes_self, h1]
    unfold mn
    omega
/-- One code for another one. -/
theorem cst_put : ∀ (l m : List Int) (x y : Int), cst (l ++ x :: m) (l ++ y :: m) ≤ 3
  | [], m, x, y => by
    have h := bes_bd x y
    have e := cst_self m
    rw [List.nil_append, List.nil_append, cst_cons, e]
    unfold mn
    omega
  | z :: l, m, x, y => by
    have h := cst_put l m x y
    rw [List.cons_append, List.cons_append, cst_cons, bes_self]
    unfold mn
    omega
/-- One code less. -/
theorem cst_drop : ∀ (l m : List Int) (x : Int), cst (l ++ x :: m) (l ++ m) ≤ 2
  | [], m, x => by
    rw [List.nil_append, List.nil_append]
    cases m with
    | nil => rw [cst_nil']; simp
    | cons y m =>
      have e := cst_self (y :: m)
      rw [cst_cons, e]
      unfold mn
      omega
  | z :: l, m, x => by
    have h := cst_drop l m x
    rw [List.cons_append, List.cons_append, cst_cons, bes_self]
    unfold mn
    omega
/-- Whether two lists of codes are near each other. -/
def simi (lim : Int) (a b : List Int) : Bool := decide (1000 * cst a b ≤ 2 * lim * ((a.length : Int) + b.length))
theorem simi_comm (lim : Int) (a b : List Int) : simi lim a b = simi lim b a := by
  unfold simi
  rw [cst_comm, Int.add_comm (a.length : Int)]
theorem simi_self (lim : Int) (h : 0 ≤ lim) (a : List Int) : simi lim a a = true := by
  unfold simi
  rw [cst_self]
  have : 0 ≤ 2 * lim * ((a.length : Int) + a.length) := Int.mul_nonneg (by omega) (by omega)
  simpa using this
end Id
end Go.Proofs.Ytdaedjmkolcliaa

namespace Go.Proofs.Ytdaedjmkolcliaa
set_option linter.unusedVariables false
set_option linter.unusedSimpArgs false
open Go.RowKit

namespace Id
/-- A sign. -/
structure Sg where
  id : Int
  role : Int
  bar : Int
  mark : Int
  kind : Int
  side : Int
  dir : Int
  level : Int
  size : Int
  wth : Int
  fn : Int
  fd : Int
  tn : Int
  td : Int
/-- The order of essences. -/
def lt (a b : Sg) : Prop := a.role < b.role ∨ a.role = b.role ∧ (a.bar < b.bar ∨ a.bar = b.bar ∧ (a.fn * b.fd < b.fn * a.fd ∨ a.fn * b.fd = b.fn * a.fd ∧ a.id < b.id))
instance (a b : Sg) : Decidable (lt a b) := by unfold lt; infer_instance
theorem fr_lt {a b c d e f : Int} (hb : 0 < b) (hd : 0 < d) (hf : 0 < f) (h : a * d < c * b) (k : c * f ≤ e * d) : a * f < e * b := by
  have h1 : a * d * f < c * b * f := Int.mul_lt_mul_of_pos_right h hf
  have h2 : c * f * b ≤ e * d * b := Int.mul_le_mul_of_nonneg_right k (Int.le_of_lt hb)
  have e1 : a * d * f = a * f * d := by rw [Int.mul_assoc, Int.mul_comm d f, Int.mul_assoc]
  have e2 : c * b * f = c * f * b := by rw [Int.mul_assoc, Int.mul_comm b f, Int.mul_assoc]
  have e3 : e * d * b = e * b * d := by rw [Int.mul_assoc, Int.mul_comm d b, Int.mul_assoc]
  exact Int.lt_of_mul_lt_mul_right (by omega : a * f * d < e * b * d) (Int.le_of_lt hd)
theorem fr_lt' {a b c d e f : Int} (hb : 0 < b) (hd : 0 < d) (hf : 0 < f) (h : a * d ≤ c * b) (k : c * f < e * d) : a * f < e * b := by
  have h1 : a * d * f ≤ c * b * f := Int.mul_le_mul_of_nonneg_right h (Int.le_of_lt hf)
  have h2 : c * f * b < e * d * b := Int.mul_lt_mul_of_pos_right k hb
  have e1 : a * d * f = a * f * d := by rw [Int.mul_assoc, Int.mul_comm d f, Int.mul_assoc]
  have e2 : c * b * f = c * f * b := by rw [Int.mul_assoc, Int.mul_comm b f, Int.mul_assoc]
  have e3 : e * d * b = e * b * d := by rw [Int.mul_assoc, Int.mul_comm d b, Int.mul_assoc]
  exact Int.lt_of_mul_lt_mul_right (by omega : a * f * d < e * b * d) (Int.le_of_lt hd)
theorem fr_eq {a b c d e f : Int} (hd : 0 < d) (h : a * d = c * b) (k : c * f = e * d) : a * f = e * b := by
  have e1 : a * d * f = a * f * d := by rw [Int.mul_assoc, Int.mul_comm d f, Int.mul_assoc]
  have e2 : c * b * f = c * f * b := by rw [Int.mul_assoc, Int.mul_comm b f, Int.mul_assoc]
  have e3 : e * d * b = e * b * d := by rw [Int.mul_assoc, Int.mul_comm d b, Int.mul_assoc]
  have : a * f * d = e * b * d := by rw [← e1, h, e2, k, e3]
  exact Int.eq_of_mul_eq_mul_right (by omega) this
theorem lt_irrefl (a : Sg) : ¬ lt a a := by unfold lt; omega
theorem lt_asymm {a b : Sg} (h : lt a b) : ¬ lt b a := by unfold lt at *; omega
theorem lt_trans {a b c : Sg} (ha : 0 < a.fd) (hb : 0 < b.fd) (hc : 0 < c.fd) (h : lt a b) (k : lt b c) : lt a c := by
  unfold lt at *
  have t1 : a.fn * b.fd < b.fn * a.fd → b.fn * c.fd ≤ c.fn * b.fd → a.fn * c.fd < c.fn * a.fd := fr_lt ha hb hc
  have t2 : a.fn * b.fd ≤ b.fn * a.fd → b.fn * c.fd < c.fn * b.fd → a.fn * c.fd < c.fn * a.fd := fr_lt' ha hb hc
  have t3 : a.fn * b.fd = b.fn * a.fd → b.fn * c.fd = c.fn * b.fd → a.fn * c.fd = c.fn * a.fd := fr_eq hb
  omega
theorem lt_total {a b : Sg} (h : a.id ≠ b.id) : lt a b ∨ lt b a := by unfold lt; omega
/-- Two lists in the order, with the same signs, are equal. -/
theorem uniq : ∀ {l m : List Sg}, l.Pairwise lt → m.Pairwise lt → (∀ x, x ∈ l ↔ x ∈ m) → l = m
  | [], [], _, _, _ => rfl
  | [], b :: m, _, _, h => by have := (h b).2 (by simp); simp at this
  | a :: l, [], _, _, h => by have := (h a).1 (by simp); simp at this
  | a :: l, b :: m, hl, hm, h => by
    have hl' := List.pairwise_cons.1 hl
    have hm' := List.pairwise_cons.1 hm
    have e : a = b := by
      rcases List.mem_cons.1 ((h a).1 (by simp)) with e | e
      · exact e
      · rcases List.mem_cons.1 ((h b).2 (by simp)) with f | f
        · exact f.symm
        · exact absurd (hl'.1 b f) (lt_asymm (hm'.1 a e))
    subst e
    refine congrArg _ (uniq hl'.2 hm'.2 fun x => ⟨fun hx => ?_, fun hx => ?_⟩)
    · rcases List.mem_cons.1 ((h x).1 (List.mem_cons_of_mem _ hx)) with e | e
      · subst e; exact absurd (hl'.1 x hx) (lt_irrefl _)
      · exact e
    · rcases List.mem_cons.1 ((h x).2 (List.mem_cons_of_mem _ hx)) with e | e
      · subst e; exact absurd (hm'.1 x hx) (lt_irrefl _)
      · exact e
def ins (x : Sg) : List Sg → List Sg
  | [] => [x]
  | y :: l => if lt x y then x :: y :: l else y :: ins x l
/-- Signs in the order of essences. -/
def srt : List Sg → List Sg
  | [] => []
  | x :: l => ins x (srt l)
theorem ins_mem {x y : Sg} : ∀ {l : List Sg}, y ∈ ins x l ↔ y = x ∨ y ∈ l
  | [] => by simp [ins]
  | z :: l => by
    unfold ins
    split
    · simp
    · simp only [List.mem_cons, ins_mem (l := l)]
      constructor
      · rintro (h | h | h) <;> simp [h]
      · rintro (h | h | h) <;> simp [h]
theorem srt_mem {y : Sg} : ∀ {l : List Sg}, y ∈ srt l ↔ y ∈ l
  | [] => by simp [srt]
  | x :: l => by rw [srt, ins_mem, srt_mem (l := l), List.mem_cons]
theorem ins_len (x : Sg) : ∀ l : List Sg, (ins x l).length = l.length + 1
  | [] => rfl
  | y :: l => by unfold ins; split <;> simp [ins_len x l]
theorem srt_len : ∀ l : List Sg, (srt l).length = l.length
  | [] => rfl
  | x :: l => by rw [srt, ins_len, srt_len l, List.length_cons]
/-- Signs that can be ordered: of different IDs, that begin at right moments. -/
def Ok (l : List Sg) : Prop := (∀ s ∈ l, 0 < s.fd) ∧ l.Pairwise fun a b => a.id ≠ b.id
theorem ins_srt {x : Sg} (hx : 0 < x.fd) : ∀ {l : List Sg}, (∀ s ∈ l, 0 < s.fd) → (∀ s ∈ l, x.id ≠ s.id) → l.Pairwise lt → (ins x l).Pairwise lt
  | [], _, _, _ => by simp [ins]
  | y :: l, hf, hd, hs => by
    have hs' := List.pairwise_cons.1 hs
    unfold ins
    split
    case isTrue h =>
      refine List.pairwise_cons.2 ⟨fun z hz => ?_, hs⟩
      rcases List.mem_cons.1 hz with e | e
      · subst e; exact h
      · exact lt_trans hx (hf y (by simp)) (hf z (by simp [e])) h (hs'.1 z e)
    case isFalse h =>
      refine List.pairwise_cons.2 ⟨fun z hz => ?_, ins_srt hx (fun s hs => hf s (by simp [hs])) (fun s hs => hd s (by simp [hs])) hs'.2⟩
      rcases ins_mem.1 hz with e | e
      · subst e
        rcases lt_total (hd y (by simp)) with h1 | h1
        · exact absurd h1 h
        · exact h1
      · exact hs'.1 z e
theorem srt_srt : ∀ {l : List Sg}, Ok l → (srt l).Pairwise lt
  | [], _ => by simp [srt]
  | x :: l, ⟨hf, hd⟩ => by
    have hd' := List.pairwise_cons.1 hd
    refine ins_srt (hf x (by simp)) (fun s hs => hf s (by simp [srt_mem.1 hs])) (fun s hs => hd'.1 s (srt_mem.1 hs)) (srt_srt ⟨fun s hs => hf s (by simp [hs]), hd'.2⟩)
theorem srt_uniq {l m : List Sg} (h : Ok l) (hm : m.Pairwise lt) (e : ∀ x, x ∈ m ↔ x ∈ l) : m = srt l :=
  uniq hm (srt_srt h) fun x => by rw [e, srt_mem]
/-- The reference's way: from the end on. -/
theorem put_srt {x : Sg} (hx : 0 < x.fd) {l : List Sg} (hf : ∀ s ∈ l, 0 < s.fd) (hd : ∀ s ∈ l, x.id ≠ s.id) (hs : l.Pairwise lt) (k : Nat) (hkl : k ≤ l.length) (h1 : ∀ s ∈ l.drop k, lt x s) (h2 : ∀ s, l[k - 1]? = some s → 0 < k → ¬ lt x s) :
    (l.take k ++ x :: l.drop k).Pairwise lt := by
  have hs' : (l.take k ++ l.drop k).Pairwise lt := by rw [List.take_append_drop]; exact hs
  rw [List.pairwise_append] at hs'
  refine List.pairwise_append.2 ⟨hs'.1, List.pairwise_cons.2 ⟨h1, hs'.2.1⟩, ?_⟩
  have key : ∀ a ∈ l.take k, lt a x := by
    intro a ha
    have hk : 0 < k := by rcases k with _ | k <;> simp at ha ⊢
    have hg : l[k - 1]? = some l[k - 1] := List.getElem?_eq_getElem (by omega)
    have hn := h2 _ hg hk
    have hlast : lt l[k - 1] x := by
      rcases lt_total (hd l[k - 1] (List.getElem_mem _)) with h | h
      · exact absurd h hn
      · exact h
    obtain ⟨i, hi, rfl⟩ := List.getElem_of_mem ha
    simp only [List.length_take] at hi
    rw [List.getElem_take]
    by_cases e : i = k - 1
    · subst e; exact hlast
    · have := List.pairwise_iff_getElem.1 hs i (k - 1) (by omega) (by omega) (by omega)
      exact lt_trans (hf _ (List.getElem_mem _)) (hf _ (List.getElem_mem _)) hx this hlast
  intro a ha b hb
  rcases List.mem_cons.1 hb with e | e
  · subst e; exact key a ha
  · exact hs'.2.2 a ha b e
end Id
end Go.Proofs.Ytdaedjmkolcliaa

namespace Go.Proofs.Ytdaedjmkolcliaa
set_option linter.unusedVariables false
set_option linter.unusedSimpArgs false
open Go.RowKit

namespace Id
section
variable (n : Nat) (g : Nat → Nat → Bool) (to : Nat)
/-- How many steps each edition is away, behind so many rounds; -1 while no chain is found. -/
def aw : Nat → Nat → Int
  | 0, k => if k = to then 0 else -1
  | d + 1, k => if 0 ≤ aw d k then aw d k else if ((List.range n).any fun i => decide (aw d i = d) && g i k) = true then (d : Int) + 1 else -1
def dst (k : Nat) : Int := aw n g to n k
/-- Some edition was found in this round. -/
def Live (d : Nat) : Prop := ∃ i, i < n ∧ aw n g to d i = d
end
section
variable {n : Nat} {g : Nat → Nat → Bool} {to : Nat}
theorem any_iff {d k : Nat} : ((List.range n).any fun i => decide (aw n g to d i = d) && g i k) = true ↔ ∃ i, i < n ∧ aw n g to d i = d ∧ g i k = true := by
  simp [List.any_eq_true, List.mem_range]
theorem aw_bd : ∀ d k, aw n g to d k = -1 ∨ 0 ≤ aw n g to d k ∧ aw n g to d k ≤ d
  | 0, k => by unfold aw; split <;> simp
  | d + 1, k => by
    have h := aw_bd d k
    unfold aw
    split
    · omega
    · split <;> omega
theorem aw_keep {d k : Nat} (h : 0 ≤ aw n g to d k) : aw n g to (d + 1) k = aw n g to d k := by rw [aw, if_pos h]
theorem aw_keep' {d k : Nat} (h : 0 ≤ aw n g to d k) : ∀ e, aw n g to (d + e) k = aw n g to d k
  | 0 => rfl
  | e + 1 => by
    have h1 := aw_keep' h e
    rw [← Nat.add_assoc, aw_keep (by rw [h1]; exact h), h1]
theorem aw_le {d e k : Nat} (hde : d ≤ e) (h : 0 ≤ aw n g to d k) : aw n g to e k = aw n g to d k := by
  have := aw_keep' h (e - d)
  rwa [show d + (e - d) = e by omega] at this
theorem aw_new {d k : Nat} (h : aw n g to d k < 0) : aw n g to (d + 1) k = if (∃ i, i < n ∧ aw n g to d i = d ∧ g i k = true) then (d : Int) + 1 else -1 := by
  rw [aw, if_neg (by omega)]
  by_cases e : ((List.range n).any fun i => decide (aw n g to d i = d) && g i k) = true
  · rw [if_pos e, if_pos (any_iff.1 e)]
  · rw [if_neg e, if_neg (fun h => e (any_iff.2 h))]
theorem aw_to (d : Nat) : aw n g to d to = 0 := by
  have h : aw n g to 0 to = 0 := by simp [aw]
  have := aw_keep' (n := n) (g := g) (d := 0) (k := to) (by rw [h]; decide) d
  rw [Nat.zero_add] at this
  rw [this, h]
/-- Who was found in round d+1 has a neighbour that was found in round d. -/
theorem aw_pred {d k : Nat} (h : aw n g to (d + 1) k = (d : Int) + 1) : ∃ i, i < n ∧ aw n g to d i = d ∧ g i k = true := by
  have hb := aw_bd (n := n) (g := g) (to := to) d k
  have hn : aw n g to d k < 0 := by
    rcases hb with e | ⟨e1, e2⟩
    · omega
    · rw [aw_keep e1] at h; omega
  rw [aw_new hn] at h
  by_cases e : ∃ i, i < n ∧ aw n g to d i = d ∧ g i k = true
  · exact e
  · rw [if_neg e] at h; omega
theorem live_pred {d : Nat} (h : Live n g to (d + 1)) : Live n g to d := by
  obtain ⟨i, _, e⟩ := h
  obtain ⟨j, hj, e2, _⟩ := aw_pred (d := d) (k := i) (by rw [e]; simp)
  exact ⟨j, hj, e2⟩
theorem aw_still {d : Nat} (h : ¬ Live n g to d) : ∀ e k, aw n g to (d + e) k = aw n g to d k
  | 0, k => rfl
  | e + 1, k => by
    have ih := aw_still h e
    rw [← Nat.add_assoc]
    rcases aw_bd (n := n) (g := g) (to := to) (d + e) k with hb | hb
    · rw [aw_new (by omega)]
      rw [if_neg, ← ih k, hb]
      rintro ⟨i, hi, e1, _⟩
      rw [ih i] at e1
      have hbi := aw_bd (n := n) (g := g) (to := to) d i
      rcases Nat.eq_zero_or_pos e with rfl | hp
      · exact h ⟨i, hi, by simpa using e1⟩
      · omega
    · rw [aw_keep hb.1, ih k]
/-- How many were not found yet. -/
def cnt (n : Nat) (g : Nat → Nat → Bool) (to d : Nat) : Nat := ((List.range n).filter fun k => decide (aw n g to d k < 0)).length
theorem filt_lt {α : Type} {p q : α → Bool} : ∀ {l : List α}, (∀ x ∈ l, q x = true → p x = true) → (∃ x ∈ l, p x = true ∧ q x = false) → (l.filter q).length + 1 ≤ (l.filter p).length
  | [], _, ⟨x, hx, _⟩ => by simp at hx
  | y :: l, h, ⟨x, hx, hp, hq⟩ => by
    have hle : (l.filter q).length ≤ (l.filter p).length := by
      have : ∀ l : List α, (∀ x ∈ l, q x = true → p x = true) → (l.filter q).length ≤ (l.filter p).length := by
        intro l
        induction l with
        | nil => intro _; simp
        | cons z l ih =>
          intro h
          have i1 := ih (fun x hx => h x (by simp [hx]))
          have i2 := h z (by simp)
          rcases e : q z with _ | _
          · rcases e2 : p z with _ | _ <;> simp [e, e2] <;> omega
          · have := i2 e; simp [e, this]; omega
      exact this l (fun x hx => h x (by simp [hx]))
    rcases List.mem_cons.1 hx with rfl | hx'
    · simp [hp, hq]; omega
    · have ih := filt_lt (l := l) (fun x hx => h x (by simp [hx])) ⟨x, hx', hp, hq⟩
      have i2 := h y (by simp)
      rcases e : q y with _ | _
      · rcases e2 : p y with _ | _ <;> simp [e, e2] <;> omega
      · have := i2 e; simp [e, this]; omega
theorem cnt_lt {d : Nat} (h : Live n g to (d + 1)) : cnt n g to (d + 1) + 1 ≤ cnt n g to d := by
  obtain ⟨i, hi, e⟩ := h
  refine filt_lt (fun x _ hx => ?_) ⟨i, List.mem_range.2 hi, ?_, ?_⟩
  · simp only [decide_eq_true_eq] at *
    rcases aw_bd (n := n) (g := g) (to := to) d x with hb | hb
    · omega
    · rw [aw_keep hb.1] at hx; omega
  · simp only [decide_eq_true_eq]
    rcases aw_bd (n := n) (g := g) (to := to) d i with hb | hb
    · omega
    · rw [aw_keep hb.1] at e; omega
  · simp only [decide_eq_false_iff_not]; omega
theorem cnt_bd (hto : to < n) : ∀ d, Live n g to d → cnt n g to d + d + 1 ≤ n
  | 0, _ => by
    have : cnt n g to 0 + 1 ≤ ((List.range n).filter fun _ => true).length := filt_lt (fun _ _ _ => rfl) ⟨to, List.mem_range.2 hto, rfl, by simp [aw]⟩
    have e : ((List.range n).filter fun _ => true).length = n := by
      rw [List.filter_eq_self.2 (fun _ _ => rfl), List.length_range]
    omega
  | d + 1, h => by
    have h1 := cnt_bd hto d (live_pred h)
    have h2 := cnt_lt h
    omega
theorem live_lt (hto : to < n) {d : Nat} (h : Live n g to d) : d < n := by have := cnt_bd hto d h; omega
/-- Behind the round that found none, all is told. -/
theorem aw_dst (hto : to < n) {d : Nat} (h : ¬ Live n g to d) (k : Nat) : aw n g to d k = dst n g to k := by
  have hn : ¬ Live n g to n := fun hl => by have := live_lt hto hl; omega
  unfold dst
  rcases Nat.le_total d n with hle | hle
  · have := aw_still h (n - d) k
    rw [show d + (n - d) = n by omega] at this
    exact this.symm
  · have := aw_still hn (d - n) k
    rw [show n + (d - n) = d by omega] at this
    exact this
theorem dst_bd (k : Nat) : dst n g to k = -1 ∨ 0 ≤ dst n g to k ∧ dst n g to k ≤ n := aw_bd n k
theorem dst_to : dst n g to to = 0 := aw_to n
theorem aw_at {d : Nat} : ∀ {e k : Nat}, aw n g to e k = (d : Int) → d ≤ e → aw n g to d k = d
  | 0, k, h, hd => by obtain rfl : d = 0 := by omega
                      exact h
  | e + 1, k, h, hd => by
    rcases Nat.eq_or_lt_of_le hd with rfl | hlt
    · exact h
    · rcases aw_bd (n := n) (g := g) (to := to) e k with hb | hb
      · rw [aw_new (by omega)] at h
        split at h <;> omega
      · rw [aw_keep hb.1] at h
        exact aw_at h (by omega)
theorem dst_at {k d : Nat} (h : dst n g to k = (d : Int)) : aw n g to d k = d := by
  have hb := dst_bd (n := n) (g := g) (to := to) k
  exact aw_at h (by omega)
theorem dst_lt (hto : to < n) {k : Nat} (hk : k < n) : dst n g to k < n := by
  rcases dst_bd (n := n) (g := g) (to := to) k with hb | hb
  · omega
  · obtain ⟨d, e⟩ := Int.eq_ofNat_of_zero_le hb.1
    have := live_lt hto ⟨k, hk, dst_at e⟩
    omega
/-- To the neighbours of who was found there is a chain. -/
theorem dst_near (hto : to < n) {a b : Nat} (ha : a < n) (h : 0 ≤ dst n g to a) (hg : g a b = true) : 0 ≤ dst n g to b := by
  obtain ⟨d, e⟩ := Int.eq_ofNat_of_zero_le h
  have e1 := dst_at e
  have hd := live_lt hto ⟨a, ha, e1⟩
  have e2 : 0 ≤ aw n g to (d + 1) b := by
    rcases aw_bd (n := n) (g := g) (to := to) d b with hb | hb
    · rw [aw_new (by omega), if_pos ⟨a, ha, e1, hg⟩]; omega
    · rw [aw_keep hb.1]; exact hb.1
  unfold dst
  rw [aw_le (show d + 1 ≤ n by omega) e2]
  exact e2
theorem dst_pred {k d : Nat} (h : dst n g to k = (d : Int) + 1) : ∃ i, i < n ∧ dst n g to i = d ∧ g i k = true := by
  have e := dst_at (d := d + 1) (k := k) (by rw [h]; simp)
  obtain ⟨i, hi, e1, hg⟩ := aw_pred (d := d) (k := k) (by rw [e]; simp)
  have hb := dst_bd (n := n) (g := g) (to := to) k
  refine ⟨i, hi, ?_, hg⟩
  unfold dst
  rw [aw_le (show d ≤ n by omega) (by rw [e1]; omega)]
  exact e1
/-- There is a chain. -/
inductive Rch (n : Nat) (g : Nat → Nat → Bool) (a : Nat) : Nat → Prop
  | self : Rch n g a a
  | step {b c : Nat} : Rch n g a b → b < n → g b c = true → Rch n g a c
theorem rch_of : ∀ {d k : Nat}, dst n g to k = (d : Int) → Rch n g to k
  | 0, k, h => by
    have e := dst_at h
    simp only [aw] at e
    split at e
    case isTrue h => subst h; exact .self
    case isFalse h => omega
  | d + 1, k, h => by
    obtain ⟨i, hi, e, hg⟩ := dst_pred (d := d) (by rw [h]; simp)
    exact .step (rch_of e) hi hg
theorem dst_rch (hto : to < n) {k : Nat} : 0 ≤ dst n g to k ↔ Rch n g to k := by
  constructor
  · intro h
    obtain ⟨d, e⟩ := Int.eq_ofNat_of_zero_le h
    exact rch_of e
  · intro h
    induction h with
    | self => rw [dst_to]; decide
    | step _ hb hg ih => exact dst_near hto hb ih hg
theorem Rch.trans {a b c : Nat} (h : Rch n g a b) (k : Rch n g b c) : Rch n g a c := by
  induction k with
  | self => exact h
  | step _ hb hg ih => exact .step ih hb hg
theorem Rch.symm (hs : ∀ i j, g i j = g j i) {a b : Nat} (hb : b < n) (h : Rch n g a b) : Rch n g b a := by
  induction h with
  | self => exact .self
  | step _ hc hg ih => exact .trans (.step .self hb (by rw [hs]; exact hg)) (ih hc)
theorem Rch.mono {m : Nat} {f : Nat → Nat → Bool} (hm : n ≤ m) (hf : ∀ i j, i < n → j < n → g i j = true → f i j = true) {a b : Nat} (hb : b < n) (h : Rch n g a b) : Rch m f a b := by
  induction h with
  | self => exact .self
  | step _ hc hg ih => exact .step (ih hc) (by omega) (hf _ _ hc hb hg)
end
end Id
end Go.Proofs.Ytdaedjmkolcliaa

namespace Go.Proofs.Ytdaedjmkolcliaa
set_option linter.unusedVariables false
set_option linter.unusedSimpArgs false
open Go.RowKit

namespace Id
/-- The first edition near another one that is so many steps away. -/
def nxt (n : Nat) (g : Nat → Nat → Bool) (j at_ d : Nat) : Nat := ((List.range n).find? fun k => g at_ k && decide (dst n g j k = (d : Int))).getD n
/-- The shortest chain. -/
def chn (n : Nat) (g : Nat → Nat → Bool) (j : Nat) : Nat → Nat → List Nat
  | 0, at_ => [at_]
  | d + 1, at_ => at_ :: chn n g j d (nxt n g j at_ d)
/-- The first edition that is the same work. -/
def wrk (n : Nat) (g : Nat → Nat → Bool) (i : Nat) : Nat := ((List.range n).find? fun k => decide (0 ≤ dst n g i k)).getD n
section
variable {n : Nat} {g : Nat → Nat → Bool}
theorem nxt_ok (hs : ∀ i j, g i j = g j i) {j a d : Nat} (h : dst n g j a = (d : Int) + 1) : nxt n g j a d < n ∧ g a (nxt n g j a d) = true ∧ dst n g j (nxt n g j a d) = d := by
  obtain ⟨i, hi, e, hg⟩ := dst_pred h
  unfold nxt
  rcases c : (List.range n).find? (fun k => g a k && decide (dst n g j k = (d : Int))) with _ | k
  · have := List.find?_eq_none.1 c i (List.mem_range.2 hi)
    rw [hs a i, hg, e] at this
    simp at this
  · have h1 := List.find?_some c
    have h2 := List.mem_of_find?_eq_some c
    simp only [Bool.and_eq_true, decide_eq_true_eq] at h1
    exact ⟨List.mem_range.1 h2, h1.1, h1.2⟩
theorem chn_len (j : Nat) : ∀ d a, (chn n g j d a).length = d + 1
  | 0, _ => rfl
  | d + 1, a => by rw [chn, List.length_cons, chn_len j d]
theorem chn_head (j d a : Nat) : (chn n g j d a)[0]? = some a := by cases d <;> rfl
theorem chn_all (hs : ∀ i j, g i j = g j i) {j : Nat} : ∀ {d a : Nat}, a < n → dst n g j a = (d : Int) →
    (∀ x ∈ chn n g j d a, x < n) ∧ (chn n g j d a)[d]? = some j ∧ ∀ k x y, (chn n g j d a)[k]? = some x → (chn n g j d a)[k + 1]? = some y → g x y = true
  | 0, a, ha, h => by
    have e := dst_at h
    simp only [aw] at e
    have e' : a = j := by
      split at e
      case isTrue h => exact h
      case isFalse h => omega
    subst e'
    refine ⟨by simp [chn, ha], rfl, fun k x y h1 h2 => ?_⟩
    simp [chn] at h2
  | d + 1, a, ha, h => by
    obtain ⟨h1, h2, h3⟩ := nxt_ok hs (d := d) (by rw [h]; simp)
    obtain ⟨i1, i2, i3⟩ := chn_all hs h1 h3
    refine ⟨fun x hx => ?_, ?_, fun k x y hx hy => ?_⟩
    · rcases List.mem_cons.1 hx with e | e
      · subst e; exact ha
      · exact i1 x e
    · rw [chn, List.getElem?_cons_succ, i2]
    · rcases k with _ | k
      · rw [chn, List.getElem?_cons_zero] at hx
        rw [chn, List.getElem?_cons_succ, chn_head] at hy
        cases hx; cases hy
        exact h2
      · rw [chn, List.getElem?_cons_succ] at hx hy
        exact i3 k x y hx hy
theorem wrk_ok {i : Nat} (hi : i < n) : wrk n g i ≤ i ∧ 0 ≤ dst n g i (wrk n g i) := by
  unfold wrk
  rcases c : (List.range n).find? (fun k => decide (0 ≤ dst n g i k)) with _ | k
  · have := List.find?_eq_none.1 c i (List.mem_range.2 hi)
    rw [dst_to] at this
    simp at this
  · have h1 := List.find?_some c
    refine ⟨?_, by simpa using h1⟩
    have h2 := List.find?_range_eq_some.1 c
    have h3 : k ≤ i := by
      rcases Nat.lt_or_ge i k with hlt | hge
      · have := h2.2.2 i hlt
        rw [dst_to] at this
        simp at this
      · exact hge
    exact h3
theorem wrk_eq (hs : ∀ i j, g i j = g j i) {i k : Nat} (hi : i < n) (hk : k < n) (h : 0 ≤ dst n g i k) : wrk n g i = wrk n g k := by
  have h1 := (dst_rch hi).1 h
  have h2 := h1.symm hs hk
  unfold wrk
  congr 1
  congr 1
  funext x
  rw [decide_eq_decide]
  rw [dst_rch hi, dst_rch hk]
  exact ⟨fun h => h2.trans h, fun h => h1.trans h⟩
theorem wrk_iff (hs : ∀ i j, g i j = g j i) {i k : Nat} (hi : i < n) (hk : k < n) : wrk n g i = wrk n g k ↔ 0 ≤ dst n g i k := by
  refine ⟨fun h => ?_, wrk_eq hs hi hk⟩
  have hwi := wrk_ok (g := g) hi
  have hwk := wrk_ok (g := g) hk
  have h1 := (dst_rch hi).1 hwi.2
  have h2 := (dst_rch hk).1 hwk.2
  rw [← h] at h2
  exact (dst_rch hi).2 (h1.trans (h2.symm hs (by omega)))
theorem wrk_wrk (hs : ∀ i j, g i j = g j i) {i : Nat} (hi : i < n) : wrk n g (wrk n g i) = wrk n g i := by
  have h := wrk_ok (g := g) hi
  exact (wrk_eq hs hi (by omega) h.2).symm
theorem dst_back (hs : ∀ i j, g i j = g j i) {i k : Nat} (hi : i < n) (hk : k < n) : (0 ≤ dst n g i k) ↔ 0 ≤ dst n g k i := by
  rw [dst_rch hi, dst_rch hk]
  exact ⟨fun h => h.symm hs hk, fun h => h.symm hs hi⟩
theorem wrk_mono {m : Nat} {f : Nat → Nat → Bool} (hs : ∀ i j, g i j = g j i) (hsf : ∀ i j, f i j = f j i) (hm : n ≤ m) (hf : ∀ i j, i < n → j < n → g i j = true → f i j = true) {i k : Nat} (hi : i < n) (hk : k < n) (h : wrk n g i = wrk n g k) : wrk m f i = wrk m f k := by
  have h1 := (dst_rch hi).1 ((wrk_iff hs hi hk).1 h)
  exact wrk_eq hsf (by omega) (by omega) ((dst_rch (by omega)).2 (h1.mono hm hf hk))
end
end Id
end Go.Proofs.Ytdaedjmkolcliaa

namespace Go.Proofs.Ytdaedjmkolcliaa
set_option linter.unusedVariables false
set_option linter.unusedSimpArgs false
open Go.RowKit

namespace Id
/-- Was it found from the first q of a list, or from the next one, up to kk? -/
def hit (g : Nat → Nat → Bool) (N : List Nat) (q kk k : Nat) : Bool := (N.take q).any (fun i => g i k) || (decide (k < kk) && g (N.getD q 0) k)
theorem hit_row (g : Nat → Nat → Bool) (N : List Nat) (q k n : Nat) (hq : q < N.length) (hk : k < n) : hit g N q n k = hit g N (q + 1) 0 k := by
  have h1 : N.take (q + 1) = N.take q ++ [N.getD q 0] := by
    rw [List.take_add_one, List.getD_eq_getElem?_getD, List.getElem?_eq_getElem hq]; rfl
  simp [hit, h1, hk]
def upd (a : Nat → Int) (k : Nat) (v : Int) (j : Nat) : Int := if j = k then v else a j
/-- What stands in a round of steps. -/
structure StI (n : Nat) (g : Nat → Nat → Bool) (to d : Nat) (N : List Nat) (q kk : Nat) (a : Nat → Int) (X : List Nat) : Prop where
  av : ∀ k, k < n → a k = if 0 ≤ aw n g to d k then aw n g to d k else if hit g N q kk k = true then (d : Int) + 1 else -1
  mem : ∀ k, k ∈ X ↔ k < n ∧ aw n g to d k < 0 ∧ hit g N q kk k = true
  cnt : X.length + ((List.range n).filter fun k => decide (a k < 0)).length ≤ n
variable {n : Nat} {g : Nat → Nat → Bool} {to d : Nat} {N : List Nat} {q kk k : Nat} {a : Nat → Int} {X : List Nat}
theorem StI.start (h : ∀ k, k < n → a k = aw n g to d k) : StI n g to d N 0 0 a [] := by
  have h0 : ∀ k, hit g N 0 0 k = false := fun k => by simp [hit]
  refine ⟨fun k hk => ?_, fun k => by simp [h0], by
    have := List.length_filter_le (fun k => decide (a k < 0)) (List.range n)
    simpa using this⟩
  rw [h k hk, h0]
  split
  · rfl
  · rcases aw_bd (n := n) (g := g) (to := to) d k with h1 | h1
    · simp [h1]
    · omega
theorem hit_succ (g : Nat → Nat → Bool) (N : List Nat) (q k j : Nat) : hit g N q (k + 1) j = (hit g N q k j || (decide (j = k) && g (N.getD q 0) k)) := by
  by_cases hj : j = k
  · subst hj
    simp [hit]
  · have : decide (j < k + 1) = decide (j < k) := by
      apply decide_eq_decide.2; omega
    simp [hit, hj, this]
theorem StI.lt0 (h : StI n g to d N q kk a X) (hk : k < n) : a k < 0 ↔ aw n g to d k < 0 ∧ hit g N q kk k = false := by
  rw [h.av k hk]
  by_cases h1 : 0 ≤ aw n g to d k
  · rw [if_pos h1]
    exact ⟨fun h2 => by omega, fun h2 => by omega⟩
  · rw [if_neg h1]
    rcases hit g N q kk k with _ | _
    · simp; omega
    · simp; omega
theorem StI.yes (h : StI n g to d N q k a X) (hk : k < n) (hg : g (N.getD q 0) k = true) (ha : a k < 0) : StI n g to d N q (k + 1) (upd a k ((d : Int) + 1)) (X ++ [k]) := by
  have h1 := (h.lt0 hk).1 ha
  have hg' : g (N[q]?.getD 0) k = true := by simpa using hg
  refine ⟨fun j hj => ?_, fun j => ?_, ?_⟩
  · by_cases e : j = k
    · subst e
      rw [hit_succ, upd, if_pos rfl, if_neg (by omega)]
      simp [hg']
    · rw [hit_succ, upd, if_neg e, h.av j hj]
      simp [e]
  · rw [List.mem_append, h.mem, hit_succ]
    by_cases e : j = k
    · subst e
      simp [hg', h1.1, hk]
    · simp [e]
  · have h2 : ((List.range n).filter fun j => decide (upd a k ((d : Int) + 1) j < 0)).length + 1 ≤ ((List.range n).filter fun j => decide (a j < 0)).length := by
      refine filt_lt (fun j _ hj => ?_) ⟨k, by simpa using hk, by simpa using ha, by simp [upd]; omega⟩
      by_cases e : j = k
      · subst e; simpa using ha
      · simpa [upd, e] using hj
    have h3 := h.cnt
    simp only [List.length_append, List.length_cons, List.length_nil]
    omega
theorem StI.no (h : StI n g to d N q k a X) (hk : k < n) (hg : ¬(g (N.getD q 0) k = true ∧ a k < 0)) : StI n g to d N q (k + 1) a X := by
  have e1 : ∀ j, j < n → aw n g to d j < 0 → hit g N q (k + 1) j = hit g N q k j := by
    intro j hj h0
    rw [hit_succ]
    by_cases e : j = k
    · subst e
      rcases hgg : g (N.getD q 0) j with _ | _
      · simp
      · have h2 : ¬ a j < 0 := fun h => hg ⟨hgg, h⟩
        rw [h.lt0 hk] at h2
        rcases hh : hit g N q j j with _ | _
        · exact absurd ⟨h0, hh⟩ h2
        · simp
    · simp [e]
  refine ⟨fun j hj => ?_, fun j => ?_, h.cnt⟩
  · rw [h.av j hj]
    by_cases h0 : 0 ≤ aw n g to d j
    · rw [if_pos h0, if_pos h0]
    · rw [if_neg h0, if_neg h0, e1 j hj (by omega)]
  · rw [h.mem]
    constructor
    · rintro ⟨h1, h2, h3⟩
      exact ⟨h1, h2, by rw [e1 j h1 h2]; exact h3⟩
    · rintro ⟨h1, h2, h3⟩
      exact ⟨h1, h2, by rw [← e1 j h1 h2]; exact h3⟩
theorem StI.row (h : StI n g to d N q n a X) (hq : q < N.length) : StI n g to d N (q + 1) 0 a X :=
  ⟨fun k hk => by rw [h.av k hk, hit_row g N q k n hq hk], fun k => by
    rw [h.mem]
    constructor
    · rintro ⟨h1, h2, h3⟩; exact ⟨h1, h2, by rw [← hit_row g N q k n hq h1]; exact h3⟩
    · rintro ⟨h1, h2, h3⟩; exact ⟨h1, h2, by rw [hit_row g N q k n hq h1]; exact h3⟩, h.cnt⟩
theorem StI.len (h : StI n g to d N q kk a X) : X.length ≤ n := by have := h.cnt; omega
theorem StI.done (h : StI n g to d N N.length 0 a X) (hN : ∀ k, k ∈ N ↔ k < n ∧ aw n g to d k = d) : (∀ k, k < n → a k = aw n g to (d + 1) k) ∧ ∀ k, k ∈ X ↔ k < n ∧ aw n g to (d + 1) k = ((d + 1 : Nat) : Int) := by
  have hh : ∀ k, hit g N N.length 0 k = true ↔ ∃ i, i < n ∧ aw n g to d i = d ∧ g i k = true := by
    intro k
    simp only [hit, List.take_length, Nat.not_lt_zero, decide_false, Bool.false_and, Bool.or_false, List.any_eq_true]
    constructor
    · rintro ⟨i, h1, h2⟩
      exact ⟨i, ((hN i).1 h1).1, ((hN i).1 h1).2, h2⟩
    · rintro ⟨i, h1, h2, h3⟩
      exact ⟨i, (hN i).2 ⟨h1, h2⟩, h3⟩
  have e1 : ∀ k, k < n → a k = aw n g to (d + 1) k := by
    intro k hk
    rw [h.av k hk]
    by_cases h0 : 0 ≤ aw n g to d k
    · rw [if_pos h0, aw_keep h0]
    · rw [if_neg h0, aw_new (by omega)]
      by_cases h1 : hit g N N.length 0 k = true
      · rw [if_pos h1, if_pos ((hh k).1 h1)]
      · rw [if_neg h1, if_neg (fun h2 => h1 ((hh k).2 h2))]
  refine ⟨e1, fun k => ?_⟩
  rw [h.mem]
  constructor
  · rintro ⟨h1, h2, h3⟩
    refine ⟨h1, ?_⟩
    rw [aw_new h2, if_pos ((hh k).1 h3)]
    omega
  · rintro ⟨h1, h2⟩
    by_cases h0 : 0 ≤ aw n g to d k
    · rw [aw_keep h0] at h2
      rcases aw_bd (n := n) (g := g) (to := to) d k with h3 | h3
      · omega
      · omega
    · refine ⟨h1, by omega, ?_⟩
      rw [aw_new (by omega)] at h2
      by_cases h4 : ∃ i, i < n ∧ aw n g to d i = d ∧ g i k = true
      · exact (hh k).2 h4
      · rw [if_neg h4] at h2; omega
end Id
end Go.Proofs.Ytdaedjmkolcliaa

namespace Go.Proofs.Ytdaedjmkolcliaa
set_option linter.unusedVariables false
set_option linter.unusedSimpArgs false
open Go.RowKit

namespace Id
/-- The distances while step s runs: rows up to i are done, of row i the columns up to k. -/
def Fr (n : Nat) (g : Nat → Nat → Bool) (t0 s i k : Nat) (b : Nat → Int) : Prop :=
  ∀ x, x < n → b x = if 0 ≤ aw n g t0 s x then aw n g t0 s x else if (∃ i', i' < n ∧ aw n g t0 s i' = s ∧ g i' x = true ∧ (i' < i ∨ i' = i ∧ x < k)) then (s : Int) + 1 else -1
section
variable {n : Nat} {g : Nat → Nat → Bool} {t0 s i k : Nat} {b : Nat → Int}
theorem Fr.start {c : Nat → Int} (h : ∀ x, x < n → c x = aw n g t0 s x) : Fr n g t0 s 0 0 c := by
  intro x hx
  rw [h x hx, if_neg (show ¬ ∃ i', i' < n ∧ aw n g t0 s i' = s ∧ g i' x = true ∧ (i' < 0 ∨ i' = 0 ∧ x < 0) from fun ⟨_, _, _, _, h⟩ => by omega)]
  rcases aw_bd (n := n) (g := g) (to := t0) s x with h1 | h1
  · rw [if_neg (by omega), h1]
  · rw [if_pos h1.1]
theorem Fr.at (h : Fr n g t0 s i k b) (hi : i < n) : b i = s ↔ aw n g t0 s i = s := by
  rw [h i hi]
  split
  · exact Iff.rfl
  · split <;> omega
theorem Fr.neg (h : Fr n g t0 s i k b) (hk : k < n) : b k < 0 ↔ aw n g t0 s k < 0 ∧ ¬ ∃ i', i' < n ∧ aw n g t0 s i' = s ∧ g i' k = true ∧ (i' < i ∨ i' = i ∧ k < k) := by
  rw [h k hk]
  split
  · omega
  · split
    · rename_i h1 h2
      constructor
      · intro h; omega
      · exact fun h => absurd h2 h.2
    · rename_i h1 h2
      exact ⟨fun _ => ⟨by omega, h2⟩, fun _ => by omega⟩
theorem Fr.yes (h : Fr n g t0 s i k b) (hi : i < n) (hk : k < n) (h1 : b i = s) (h2 : b k < 0) (h3 : g i k = true) : Fr n g t0 s i (k + 1) (upd b k ((s : Int) + 1)) := by
  have e1 := (h.at hi).1 h1
  have e2 := (h.neg hk).1 h2
  intro x hx
  unfold upd
  by_cases e : x = k
  · subst e
    rw [if_pos rfl, if_neg (by omega), if_pos ⟨i, hi, e1, h3, .inr ⟨rfl, by omega⟩⟩]
  · rw [if_neg e, h x hx]
    have e3 : (∃ i', i' < n ∧ aw n g t0 s i' = s ∧ g i' x = true ∧ (i' < i ∨ i' = i ∧ x < k)) ↔ ∃ i', i' < n ∧ aw n g t0 s i' = s ∧ g i' x = true ∧ (i' < i ∨ i' = i ∧ x < k + 1) :=
      ⟨fun ⟨a, b, c, d, f⟩ => ⟨a, b, c, d, by omega⟩, fun ⟨a, b, c, d, f⟩ => ⟨a, b, c, d, by omega⟩⟩
    simp only [e3]
theorem Fr.no (h : Fr n g t0 s i k b) (hi : i < n) (hk : k < n) (h1 : ¬ (b i = s ∧ b k < 0 ∧ g i k = true)) : Fr n g t0 s i (k + 1) b := by
  intro x hx
  rw [h x hx]
  by_cases e : x = k
  · subst e
    by_cases h2 : 0 ≤ aw n g t0 s x
    · rw [if_pos h2, if_pos h2]
    · rw [if_neg h2, if_neg h2]
      have e3 : (∃ i', i' < n ∧ aw n g t0 s i' = s ∧ g i' x = true ∧ (i' < i ∨ i' = i ∧ x < x)) ↔ ∃ i', i' < n ∧ aw n g t0 s i' = s ∧ g i' x = true ∧ (i' < i ∨ i' = i ∧ x < x + 1) := by
        refine ⟨fun ⟨a, b, c, d, f⟩ => ⟨a, b, c, d, by omega⟩, fun ⟨a, b', c, d, f⟩ => ?_⟩
        rcases f with f | ⟨rfl, _⟩
        · exact ⟨a, b', c, d, .inl f⟩
        · by_cases hq : ∃ i', i' < n ∧ aw n g t0 s i' = s ∧ g i' x = true ∧ (i' < a ∨ i' = a ∧ x < x)
          · exact hq
          · exact absurd ⟨(h.at hi).2 c, (h.neg hk).2 ⟨by omega, hq⟩, d⟩ h1
      simp only [e3]
  · have e3 : (∃ i', i' < n ∧ aw n g t0 s i' = s ∧ g i' x = true ∧ (i' < i ∨ i' = i ∧ x < k)) ↔ ∃ i', i' < n ∧ aw n g t0 s i' = s ∧ g i' x = true ∧ (i' < i ∨ i' = i ∧ x < k + 1) :=
      ⟨fun ⟨a, b, c, d, f⟩ => ⟨a, b, c, d, by omega⟩, fun ⟨a, b, c, d, f⟩ => ⟨a, b, c, d, by omega⟩⟩
    simp only [e3]
theorem Fr.row (h : Fr n g t0 s i n b) : Fr n g t0 s (i + 1) 0 b := by
  intro x hx
  rw [h x hx]
  have e3 : (∃ i', i' < n ∧ aw n g t0 s i' = s ∧ g i' x = true ∧ (i' < i ∨ i' = i ∧ x < n)) ↔ ∃ i', i' < n ∧ aw n g t0 s i' = s ∧ g i' x = true ∧ (i' < i + 1 ∨ i' = i + 1 ∧ x < 0) :=
    ⟨fun ⟨a, b, c, d, f⟩ => ⟨a, b, c, d, by omega⟩, fun ⟨a, b, c, d, f⟩ => ⟨a, b, c, d, by omega⟩⟩
  simp only [e3]
theorem Fr.all (h : Fr n g t0 s n 0 b) : ∀ x, x < n → b x = aw n g t0 (s + 1) x := by
  intro x hx
  rw [h x hx]
  by_cases h1 : 0 ≤ aw n g t0 s x
  · rw [if_pos h1, aw_keep h1]
  · rw [if_neg h1, aw_new (by omega)]
    have e3 : (∃ i', i' < n ∧ aw n g t0 s i' = s ∧ g i' x = true ∧ (i' < n ∨ i' = n ∧ x < 0)) ↔ ∃ i', i' < n ∧ aw n g t0 s i' = s ∧ g i' x = true :=
      ⟨fun ⟨a, b, c, d, f⟩ => ⟨a, b, c, d⟩, fun ⟨a, b, c, d⟩ => ⟨a, b, c, d, .inl b⟩⟩
    simp only [e3]
end
end Id
end Go.Proofs.Ytdaedjmkolcliaa
