/- Plain: the library's stable sort (insertion of blocks, merges by rotation), over arrays: what each step does, and that the whole is sorted by the comparison and, where it says nothing, by the places at the start. Plain: the library's stable sort, its two phases: blocks of twenty sorted by insertion, then merged by pairs. Plain: what the library's stable sort leaves is core's mergeSort. -/
import Derived.Sort.LotA
import Derived.Shelf.SlSortCmp.Insertion
set_option linter.unusedSectionVars false
set_option linter.unusedSimpArgs false
set_option linter.unusedVariables false
namespace Go.Proofs.YtedolbjgdedoaaaGreatDoor.Kst
theorem stay {p : Prop} (h : ∀ X : Prop, Go.RowKit.Hid (X = p) → X) : p := h p rfl
open Go.Sort Go.Proofs

section
variable {α : Type} [Inhabited α] (cf : α → α → Int) (ix : α → Nat)
def stl (x y : α) : Bool := decide (cf x y < 0) || (decide (cf x y = 0) && decide (ix x < ix y))
structure Cmp (cf : α → α → Int) : Prop where
 anti : ∀ x y, cf x y < 0 ↔ 0 < cf y x
 trans : ∀ x y z, cf x y ≤ 0 → cf y z ≤ 0 → cf x z ≤ 0
variable {cf} {ix}
theorem Cmp.self (h : Cmp cf) (x : α) : cf x x = 0 := by have := h.anti x x; omega
theorem Cmp.eq (h : Cmp cf) (x y : α) : cf x y = 0 ↔ cf y x = 0 := by have := h.anti x y; have := h.anti y x; omega
theorem stl_iff (x y : α) : stl cf ix x y = true ↔ cf x y < 0 ∨ cf x y = 0 ∧ ix x < ix y := by simp [stl]
theorem stl_false (x y : α) : stl cf ix x y = false ↔ 0 ≤ cf x y ∧ (cf x y = 0 → ix y ≤ ix x) := by
 rw [← Bool.not_eq_true, stl_iff]
 constructor
 ·intro h; exact ⟨by omega, fun e => by omega⟩
 ·rintro ⟨h1, h2⟩ (h | ⟨h, k⟩)
  ·omega
  ·have := h2 h; omega
theorem swo (h : Cmp cf) : SWO (stl cf ix) where
 irrefl x := by rw [stl_false, h.self]; omega
 trans x y z h1 h2 := by
  rw [stl_iff] at *
  have t1 := h.trans x y z
  have t2 := h.trans z x y
  have t3 := h.trans y z x
  have a1 := h.anti x y; have a2 := h.anti y z; have a3 := h.anti x z; have a4 := h.anti y x; have a5 := h.anti z y; have a6 := h.anti z x
  omega
 ntrans x y z h1 h2 := by
  rw [stl_false] at *
  have t1 := h.trans z y x
  have t2 := h.trans x z y
  have t3 := h.trans y x z
  have a1 := h.anti x y; have a2 := h.anti y z; have a3 := h.anti x z; have a4 := h.anti y x; have a5 := h.anti z y; have a6 := h.anti z x
  omega
theorem stl_lt (h : Cmp cf) {x y : α} (hi : ix x < ix y) : (cf y x < 0 ↔ stl cf ix y x = true) := by
 rw [stl_iff]
 omega
theorem ltOf_stl {x y : α} (hi : ix x < ix y) : ltOf cf y x = stl cf ix y x := by
 unfold ltOf stl
 have : decide (ix y < ix x) = false := by simp; omega
 rw [this]
 simp

/-! ### Insertion -/
theorem insInner_congr (a : Nat) : ∀ (j : Nat) (d : Array α), j < d.size → (∀ k, a ≤ k → k < j → ix d[k]! < ix d[j]!) → insInner (ltOf cf) a j d = insInner (stl cf ix) a j d
 | 0, _, _, _ => rfl
 | j + 1, d, hs, h => by
  rw [insInner, insInner]
  by_cases ha : a < j + 1
  ·rw [ltOf_stl (h j (by omega) (by omega))]
   split
   ·refine insInner_congr a j _ (by rw [size_swp]; omega) (fun k hk hkj => ?_)
    rw [swp_get d hs (by omega), swp_get d hs (by omega), if_neg (by omega), if_neg (by omega), if_pos rfl]
    exact h k hk (by omega)
   ·rfl
  ·rw [show decide (j + 1 > a) = false by simp; omega]
   simp
theorem insInner_perm (lt : α → α → Bool) (a : Nat) : ∀ (j : Nat) (d : Array α) (b : Nat), a ≤ j → j < b → b ≤ d.size → PermIn a b d (insInner lt a j d)
 | 0, d, b, _, _, _ => permIn_refl d a b
 | j + 1, d, b, h1, h2, h3 => by
  rw [insInner]
  split
  ·rename_i hc
   simp only [Bool.and_eq_true, decide_eq_true_eq] at hc
   exact permIn_trans _ _ _ a b (swp_permIn d a b (j + 1) j h1 h2 (by omega) (by omega) h3) (insInner_perm lt a j _ b (by omega) (by omega) (by rw [size_swp]; exact h3))
  ·exact permIn_refl d a b
theorem insOuter_congr (a b : Nat) : ∀ (n i : Nat) (d : Array α), b - i ≤ n → a ≤ i → b ≤ d.size → (∀ k l, a ≤ k → k < l → i ≤ l → l < b → ix d[k]! < ix d[l]!) → insOuter (ltOf cf) a b i d = insOuter (stl cf ix) a b i d
 | n, i, d, hn, ha, hb, h => by
  by_cases hi : i < b
  ·obtain ⟨m, rfl⟩ : ∃ m, n = m + 1 := ⟨n - 1, by omega⟩
   rw [insOuter, if_pos hi, insOuter.eq_def (stl cf ix), if_pos hi, insInner_congr a i d (by omega) (fun k hk hki => h k i hk hki (Nat.le_refl _) hi)]
   have hp := insInner_perm (stl cf ix) a i d (i + 1) ha (by omega) (by omega)
   refine insOuter_congr a b m (i + 1) _ (by omega) (by omega) (by rw [hp.1]; exact hb) (fun k l hk hkl hl hlb => ?_)
   rw [hp.2.1 l (.inr hl)]
   rcases Nat.lt_or_ge k (i + 1) with h1 | h1
   ·exact permIn_all d _ a (i + 1) (fun x => ix x < ix d[l]!) (by omega) hp (fun q hq hqi => h q l hq (by omega) (by omega) hlb) k hk h1
   ·rw [hp.2.1 k (.inr h1)]
    exact h k l hk hkl (by omega) hlb
  ·rw [insOuter, if_neg hi, insOuter.eq_def (stl cf ix), if_neg hi]
theorem ins_stable (hc : Cmp cf) (d : Array α) (a b : Nat) (hab : a ≤ b) (hb : b ≤ d.size) (h : ∀ k l, a ≤ k → k < l → l < b → ix d[k]! < ix d[l]!) :
  PermIn a b d (insertionSort (ltOf cf) d a b) ∧ SortedIn (stl cf ix) a b (insertionSort (ltOf cf) d a b) := by
 have e : insertionSort (ltOf cf) d a b = insertionSort (stl cf ix) d a b := by
  unfold insertionSort
  exact insOuter_congr a b _ (a + 1) d (Nat.le_refl _) (by omega) hb (fun k l hk hkl _ hlb => h k l hk hkl hlb)
 rw [e]
 exact insertionSort_holds (swo hc) d a b hab hb
end

/-! ### Rotation, told by places -/
section
variable {α : Type} [Inhabited α]
def Idx (d d' : Array α) (f : Nat → Nat) : Prop := d'.size = d.size ∧ ∀ k, d'[k]! = d[f k]!
theorem Idx.refl (d : Array α) : Idx d d (fun k => k) := ⟨rfl, fun _ => rfl⟩
theorem Idx.trans {d d' d'' : Array α} {f g : Nat → Nat} (h : Idx d d' f) (h' : Idx d' d'' g) : Idx d d'' (fun k => f (g k)) := ⟨h'.1.trans h.1, fun k => by rw [h'.2, h.2]⟩
theorem Idx.congr {d d' : Array α} {f g : Nat → Nat} (h : Idx d d' f) (e : ∀ k, f k = g k) : Idx d d' g := ⟨h.1, fun k => by rw [h.2, e]⟩
def swf (p q n k : Nat) : Nat := if p ≤ k ∧ k < p + n then k + (q - p) else if q ≤ k ∧ k < q + n then k - (q - p) else k
def rotf (s m e k : Nat) : Nat := if k < s ∨ e ≤ k then k else if k < s + (e - m) then k + (m - s) else k - (e - m)
theorem Idx.swap {d : Array α} {i j : Nat} (hi : i < d.size) (hj : j < d.size) (hij : i < j) : Idx d (swp d i j) (swf i j 1) := by
 refine ⟨size_swp d i j, fun k => ?_⟩
 rw [swp_get d hi hj]
 unfold swf
 by_cases h1 : k = j
 ·rw [if_pos h1, if_neg (by omega), if_pos (by omega)]; congr 1; omega
 ·rw [if_neg h1]
  by_cases h2 : k = i
  ·rw [if_pos h2, if_pos (by omega)]; congr 1; omega
  ·rw [if_neg h2, if_neg (by omega), if_neg (by omega)]
theorem Idx.swap' {d : Array α} {i j : Nat} (hi : i < d.size) (hj : j < d.size) (hij : i < j) : Idx d (swp d j i) (swf i j 1) := by
 refine ⟨size_swp d j i, fun k => ?_⟩
 rw [swp_get d hj hi]
 unfold swf
 by_cases h1 : k = i
 ·rw [if_pos h1, if_pos (by omega)]; congr 1; omega
 ·rw [if_neg h1]
  by_cases h2 : k = j
  ·rw [if_pos h2, if_neg (by omega), if_pos (by omega)]; congr 1; omega
  ·rw [if_neg h2, if_neg (by omega), if_neg (by omega)]
theorem rot_id (s m e k : Nat) (h : s = m ∨ e = m) : rotf s m e k = k := by
 unfold rotf
 repeat' split
 all_goals omega
theorem swf_step (p q n : Nat) (h : p + (n + 1) ≤ q) (k : Nat) : swf p q n (swf (p + n) (q + n) 1 k) = swf p q (n + 1) k := by
 unfold swf
 repeat' split
 all_goals omega
theorem rot_gt (m i j k : Nat) (hi : i ≤ m) (hj : j < i) (hj0 : 0 < j) : swf (m - i) m j (rotf (m - (i - j)) m (m + j) k) = rotf (m - i) m (m + j) k := by
 unfold swf rotf
 repeat' split
 all_goals omega
theorem rot_lt (m i j k : Nat) (hi : i ≤ m) (hj : i < j) (hi0 : 0 < i) : swf (m - i) (m + j - i) i (rotf (m - i) m (m + (j - i)) k) = rotf (m - i) m (m + j) k := by
 unfold swf rotf
 repeat' split
 all_goals omega
theorem rot_eq (m i k : Nat) (hi : i ≤ m) (hi0 : 0 < i) : swf (m - i) m i k = rotf (m - i) m (m + i) k := by
 unfold swf rotf
 repeat' split
 all_goals omega
theorem rot_right (a n k : Nat) : rotf a (a + 1) (a + 1 + n) (swf (a + n) (a + n + 1) 1 k) = rotf a (a + 1) (a + 1 + (n + 1)) k := by
 unfold swf rotf
 repeat' split
 all_goals omega
theorem rot_left (m n k : Nat) (h : n + 1 ≤ m) : rotf (m - n) m (m + 1) (swf (m - n - 1) (m - n) 1 k) = rotf (m - (n + 1)) m (m + 1) k := by
 unfold swf rotf
 repeat' split
 all_goals omega
end

/-! ### Merging -/
section
variable {α : Type} [Inhabited α] (cf : α → α → Int) (ix : α → Nat)
structure Two (d : Array α) (a m b : Nat) : Prop where
 left : SortedIn (stl cf ix) a m d
 right : SortedIn (stl cf ix) m b d
 cross : ∀ i j, a ≤ i → i < m → m ≤ j → j < b → (cf d[j]! d[i]! < 0 ↔ stl cf ix d[j]! d[i]! = true)
structure Cut (d : Array α) (a m b s e : Nat) : Prop where
 has_ : a ≤ s
 sm : s ≤ m
 me : m ≤ e
 eb : e ≤ b
 h1 : ∀ k l, a ≤ k → k < s → e ≤ l → l < b → stl cf ix d[l]! d[k]! = false
 h2 : ∀ l k, m ≤ l → l < e → s ≤ k → k < m → stl cf ix d[k]! d[l]! = false
variable {cf} {ix} {d d1 d2 d3 : Array α} {a m b s e : Nat}
theorem rotf_a {k : Nat} (h : k < s) : rotf s m e k = k := by unfold rotf; rw [if_pos (by omega)]
theorem rotf_b {k : Nat} (h : s ≤ k) (hs : s ≤ m) (he : m ≤ e) (h' : k < s + (e - m)) : rotf s m e k = k + (m - s) := by unfold rotf; rw [if_neg (by omega), if_pos (by omega)]
theorem rotf_c {k : Nat} (hs : s ≤ m) (he : m ≤ e) (h : s + (e - m) ≤ k) (h' : k < e) : rotf s m e k = k - (e - m) := by unfold rotf; rw [if_neg (by omega), if_neg (by omega)]
theorem rotf_d {k : Nat} (h : e ≤ k) : rotf s m e k = k := by unfold rotf; rw [if_pos (by omega)]
theorem two_left (T : Two cf ix d a m b) (C : Cut cf ix d a m b s e) (h : Idx d d1 (rotf s m e)) : Two cf ix d1 a s (s + (e - m)) := by
 have := C.has_; have := C.sm; have := C.me; have := C.eb
 refine ⟨fun i j h1 h2 h3 => ?_, fun i j h1 h2 h3 => ?_, fun i j h1 h2 h3 h4 => ?_⟩
 ·rw [h.2, h.2, rotf_a (by omega), rotf_a (by omega)]; exact T.left i j h1 h2 (by omega)
 ·rw [h.2, h.2, rotf_b (by omega) (by omega) (by omega) (by omega), rotf_b (by omega) (by omega) (by omega) (by omega)]; exact T.right _ _ (by omega) (by omega) (by omega)
 ·rw [h.2, h.2, rotf_a (k := i) (by omega), rotf_b (k := j) (by omega) (by omega) (by omega) (by omega)]; exact T.cross _ _ (by omega) (by omega) (by omega) (by omega)
theorem two_right (T : Two cf ix d a m b) (C : Cut cf ix d a m b s e) (h : Idx d d1 (rotf s m e)) : Two cf ix d1 (s + (e - m)) e b := by
 have := C.has_; have := C.sm; have := C.me; have := C.eb
 refine ⟨fun i j h1 h2 h3 => ?_, fun i j h1 h2 h3 => ?_, fun i j h1 h2 h3 h4 => ?_⟩
 ·rw [h.2, h.2, rotf_c (by omega) (by omega) (by omega) (by omega), rotf_c (by omega) (by omega) (by omega) (by omega)]; exact T.left _ _ (by omega) (by omega) (by omega)
 ·rw [h.2, h.2, rotf_d (by omega), rotf_d (by omega)]; exact T.right i j (by omega) h2 h3
 ·rw [h.2, h.2, rotf_c (k := i) (by omega) (by omega) (by omega) (by omega), rotf_d (k := j) (by omega)]; exact T.cross _ _ (by omega) (by omega) (by omega) (by omega)
theorem low (T : Two cf ix d a m b) (C : Cut cf ix d a m b s e) (h : Idx d d1 (rotf s m e)) : ∀ i j, a ≤ i → i < s + (e - m) → s + (e - m) ≤ j → j < b → stl cf ix d1[j]! d1[i]! = false := by
 have := C.has_; have := C.sm; have := C.me; have := C.eb
 intro i j h1 h2 h3 h4
 rw [h.2, h.2]
 rcases Nat.lt_or_ge i s with hi | hi <;> rcases Nat.lt_or_ge j e with hj | hj
 ·rw [rotf_a (k := i) hi, rotf_c (k := j) (by omega) (by omega) (by omega) hj]; exact T.left _ _ (by omega) (by omega) (by omega)
 ·rw [rotf_a (k := i) hi, rotf_d (k := j) hj]; exact C.h1 _ _ (by omega) (by omega) (by omega) (by omega)
 ·rw [rotf_b (k := i) hi (by omega) (by omega) h2, rotf_c (k := j) (by omega) (by omega) (by omega) hj]; exact C.h2 _ _ (by omega) (by omega) (by omega) (by omega)
 ·rw [rotf_b (k := i) hi (by omega) (by omega) h2, rotf_d (k := j) hj]; exact T.right _ _ (by omega) (by omega) (by omega)
theorem two_same {M : Nat} (hM : M ≤ e) (p : PermIn a M d1 d2) (T : Two cf ix d1 M e b) : Two cf ix d2 M e b := by
 refine ⟨fun i j h1 h2 h3 => ?_, fun i j h1 h2 h3 => ?_, fun i j h1 h2 h3 h4 => ?_⟩
 ·rw [p.2.1 i (.inr h1), p.2.1 j (.inr (by omega))]; exact T.left i j h1 h2 h3
 ·rw [p.2.1 i (.inr (by omega)), p.2.1 j (.inr (by omega))]; exact T.right i j h1 h2 h3
 ·rw [p.2.1 i (.inr h1), p.2.1 j (.inr (by omega))]; exact T.cross i j h1 h2 h3 h4
theorem halves {M : Nat} (hbs : b ≤ d1.size) (haM : a ≤ M) (hMb : M ≤ b) (hlow : ∀ i j, a ≤ i → i < M → M ≤ j → j < b → stl cf ix d1[j]! d1[i]! = false)
  (p2 : PermIn a M d1 d2) (s2 : SortedIn (stl cf ix) a M d2) (p3 : PermIn M b d2 d3) (s3 : SortedIn (stl cf ix) M b d3) : SortedIn (stl cf ix) a b d3 := by
 intro i j h1 h2 h3
 have hz : d2.size = d1.size := p2.1
 rcases Nat.lt_or_ge j M with hj | hj
 ·rw [p3.2.1 i (.inl (by omega)), p3.2.1 j (.inl hj)]; exact s2 i j h1 h2 hj
 ·rcases Nat.lt_or_ge i M with hi | hi
  ·rw [p3.2.1 i (.inl hi)]
   refine permIn_all d2 d3 M b (fun y => stl cf ix y d2[i]! = false) (by omega) p3 (fun q hq hqb => ?_) j hj h3
   rw [p2.2.1 q (.inr hq)]
   exact permIn_all d1 d2 a M (fun x => stl cf ix d1[q]! x = false) (by omega) p2 (fun r hr hrM => hlow r q hr hrM hq hqb) i h1 hi
  ·exact s3 i j hi h2 h3
theorem perm_halves {M : Nat} (hbs : b ≤ d1.size) (haM : a ≤ M) (hMb : M ≤ b) (p2 : PermIn a M d1 d2) (p3 : PermIn M b d2 d3) : PermIn a b d1 d3 :=
 permIn_trans _ _ _ a b (permIn_mono d1 d2 a M a b (Nat.le_refl _) hMb hbs p2) (permIn_mono d2 d3 M b a b haM (Nat.le_refl _) (by rw [p2.1]; exact hbs) p3)
theorem fin {M : Nat} (hbs : b ≤ d1.size) (haM : a ≤ M) (hMb : M ≤ b) (h3 : PermIn a b d d1) (hlow : ∀ i j, a ≤ i → i < M → M ≤ j → j < b → stl cf ix d1[j]! d1[i]! = false) (p2 : PermIn a M d1 d2) (s2 : SortedIn (stl cf ix) a M d2) :
  ∀ d3, PermIn M b d2 d3 → SortedIn (stl cf ix) M b d3 → PermIn a b d d3 ∧ SortedIn (stl cf ix) a b d3 := fun d3 p3 q3 => ⟨permIn_trans _ _ _ _ _ h3 (perm_halves hbs haM hMb p2 p3), halves hbs haM hMb hlow p2 s2 p3 q3⟩
theorem tr {M : Nat} (T : Two cf ix d a m b) (C : Cut cf ix d a m b s e) (h : Idx d d1 (rotf s m e)) (hM : s + (e - m) = M) : Two cf ix d1 M e b := hM ▸ two_right T C h
theorem lo {M : Nat} (T : Two cf ix d a m b) (C : Cut cf ix d a m b s e) (h : Idx d d1 (rotf s m e)) (hM : s + (e - m) = M) : ∀ i j, a ≤ i → i < M → M ≤ j → j < b → stl cf ix d1[j]! d1[i]! = false := hM ▸ low T C h
theorem cut_of (hc : Cmp cf) (T : Two cf ix d a m b) (h1 : a ≤ s) (h2 : s ≤ m) (h3 : m ≤ e) (h4 : e ≤ b)
  (hl : (s = a ∨ e = b) ∨ ¬ cf d[e]! d[s - 1]! < 0) (hr : (s = m ∨ e = m) ∨ cf d[e - 1]! d[s]! < 0) : Cut cf ix d a m b s e := by
 have S := swo (ix := ix) hc
 have le : ∀ {x y : Nat}, a ≤ x → x ≤ y → y < m → stl cf ix d[y]! d[x]! = false := fun {x y} g1 g2 g3 => by
  rcases Nat.lt_or_ge x y with h | h
  ·exact T.left x y g1 h g3
  ·obtain rfl : x = y := by omega
   exact S.irrefl _
 have le' : ∀ {x y : Nat}, m ≤ x → x ≤ y → y < b → stl cf ix d[y]! d[x]! = false := fun {x y} g1 g2 g3 => by
  rcases Nat.lt_or_ge x y with h | h
  ·exact T.right x y g1 h g3
  ·obtain rfl : x = y := by omega
   exact S.irrefl _
 refine ⟨h1, h2, h3, h4, fun k l g1 g2 g3 g4 => ?_, fun l k g1 g2 g3 g4 => ?_⟩
 ·rcases hl with h | h
  ·omega
  ·have h5 : stl cf ix d[e]! d[s - 1]! = false := by
    rw [← Bool.not_eq_true]
    exact fun h6 => h ((T.cross (s - 1) e (by omega) (by omega) (by omega) (by omega)).2 h6)
   exact S.ntrans _ _ _ (S.ntrans _ _ _ (le' h3 g3 g4) h5) (le g1 (by omega) (by omega))
 ·rcases hr with h | h
  ·omega
  ·have h5 := S.asymmA ((T.cross s (e - 1) (by omega) (by omega) (by omega) (by omega)).1 h)
   exact S.ntrans _ _ _ (S.ntrans _ _ _ (le (by omega) g3 g4) h5) (le' g1 (by omega) (by omega))
theorem one_left (hc : Cmp cf) (T : Two cf ix d a (a + 1) b) {i : Nat} (hb : b ≤ d.size) (h1 : a + 1 ≤ i) (h2 : i ≤ b) (hl : i = a + 1 ∨ cf d[i - 1]! d[a]! < 0) (hr : i = b ∨ ¬ cf d[i]! d[a]! < 0) (h : Idx d d1 (rotf a (a + 1) i)) : SortedIn (stl cf ix) a b d1 := by
 have S := swo (ix := ix) hc
 have C : Cut cf ix d a (a + 1) b a i := cut_of hc T (Nat.le_refl _) (by omega) h1 h2 (.inl (.inl rfl)) (by rcases hl with h | h; exact .inl (.inr h); exact .inr h)
 have TL := two_left T C h
 have TR := two_right T C h
 have hM : a + (i - (a + 1)) = i - 1 := by omega
 rw [hM] at TL TR
 have L := low T C h
 rw [hM] at L
 refine halves (d1 := d1) (d2 := d1) (d3 := d1) (M := i - 1) (by rw [h.1]; exact hb) (by omega) (by omega) L (permIn_refl _ _ _) TL.right (permIn_refl _ _ _) (fun k l g1 g2 g3 => ?_)
 rcases Nat.lt_or_ge k i with hk | hk
 ·obtain rfl : k = i - 1 := by omega
  rw [h.2, h.2, rotf_d (k := l) (by omega), rotf_c (k := i - 1) (by omega) (by omega) (by omega) (by omega), show i - 1 - (i - (a + 1)) = a by omega]
  rcases hr with h5 | h5
  ·omega
  ·have h6 : stl cf ix d[i]! d[a]! = false := by
    rw [← Bool.not_eq_true]
    exact fun h7 => h5 ((T.cross a i (by omega) (by omega) (by omega) (by omega)).2 h7)
   rcases Nat.lt_or_ge i l with h8 | h8
   ·exact S.ntrans _ _ _ (T.right i l (by omega) h8 g3) h6
   ·obtain rfl : i = l := by omega
    exact h6
 ·exact TR.right k l hk g2 g3
theorem one_right (hc : Cmp cf) (T : Two cf ix d a m (m + 1)) {i : Nat} (hb : m + 1 ≤ d.size) (h1 : a ≤ i) (h2 : i ≤ m) (hl : i = a ∨ ¬ cf d[m]! d[i - 1]! < 0) (hr : i = m ∨ cf d[m]! d[i]! < 0) (h : Idx d d1 (rotf i m (m + 1))) : SortedIn (stl cf ix) a (m + 1) d1 := by
 have S := swo (ix := ix) hc
 have C : Cut cf ix d a m (m + 1) i (m + 1) := cut_of hc T h1 h2 (by omega) (Nat.le_refl _) (.inl (.inr rfl)) (by rcases hr with h | h; exact .inl (.inl h); exact .inr h)
 have TL := two_left T C h
 have TR := two_right T C h
 have hM : i + (m + 1 - m) = i + 1 := by omega
 rw [hM] at TL TR
 have L := low T C h
 rw [hM] at L
 refine halves (d1 := d1) (d2 := d1) (d3 := d1) (M := i + 1) (by rw [h.1]; exact hb) (by omega) (by omega) L (permIn_refl _ _ _) (fun k l g1 g2 g3 => ?_) (permIn_refl _ _ _) TR.left
 rcases Nat.lt_or_ge l i with hk | hk
 ·exact TL.left k l g1 g2 hk
 ·obtain rfl : l = i := by omega
  rw [h.2, h.2, rotf_a (k := k) (by omega), rotf_b (k := l) (by omega) (by omega) (by omega) (by omega), show l + (m - l) = m by omega]
  rcases hl with h5 | h5
  ·omega
  ·have h6 : stl cf ix d[m]! d[l - 1]! = false := by
    rw [← Bool.not_eq_true]
    exact fun h7 => h5 ((T.cross (l - 1) m (by omega) (by omega) (by omega) (by omega)).2 h7)
   rcases Nat.lt_or_ge k (l - 1) with h8 | h8
   ·exact S.ntrans _ _ _ h6 (T.left k (l - 1) g1 h8 (by omega))
   ·obtain rfl : k = l - 1 := by omega
    exact h6
end

section
variable {α : Type} [Inhabited α] (cf : α → α → Int) (ix : α → Nat)
def Bord (N : Nat) (d : Array α) (m : Nat) : Prop := ∀ x y, x < m → m ≤ y → y < N → ix d[x]! < ix d[y]!
structure Ins (N a : Nat) (d : Array α) : Prop where
 size : d.size = N
 le : a ≤ N
 ga : ∃ q, a = q * 20
 bord : ∀ m, a ≤ m ∨ (∃ q, m = q * 20) → Bord ix N d m
 done : ∀ q, q * 20 < a → SortedIn (stl cf ix) (q * 20) (q * 20 + 20) d
structure Runs (N B a : Nat) (d : Array α) : Prop where
 size : d.size = N
 le : a ≤ N
 pos : 0 < B
 ga : ∃ q, a = q * (2 * B)
 bord : ∀ m, (a ≤ m ∧ ∃ q, m = q * B) ∨ (∃ q, m = q * (2 * B)) → Bord ix N d m
 done : ∀ q, q * (2 * B) < a → SortedIn (stl cf ix) (q * (2 * B)) (q * (2 * B) + 2 * B) d
 todo : ∀ q, a ≤ q * B → q * B < N → SortedIn (stl cf ix) (q * B) (min (q * B + B) N) d
variable {cf} {ix} {N a b B : Nat} {d d' : Array α}
theorem bord_perm {m : Nat} (hb : b ≤ d.size) (hbN : b ≤ N) (hp : PermIn a b d d') (h : m ≤ a ∨ b ≤ m) (H : Bord ix N d m) : Bord ix N d' m := by
 intro x y hx hy hyN
 rcases Nat.lt_or_ge x a with h1 | h1
 ·rw [hp.2.1 x (.inl h1)]
  rcases Nat.lt_or_ge y a with h2 | h2
  ·rw [hp.2.1 y (.inl h2)]; exact H x y hx hy hyN
  ·rcases Nat.lt_or_ge y b with h3 | h3
   ·rcases h with h | h
    ·refine permIn_all d d' a b (fun z => ix d[x]! < ix z) hb hp (fun q hq hqb => ?_) y h2 h3
     exact H x q hx (by omega) (by omega)
    ·omega
   ·rw [hp.2.1 y (.inr h3)]; exact H x y hx hy hyN
 ·rcases h with h | h
  ·omega
  ·rw [hp.2.1 y (.inr (by omega))]
   rcases Nat.lt_or_ge x b with h3 | h3
   ·exact permIn_all d d' a b (fun z => ix z < ix d[y]!) hb hp (fun q hq hqb => H q y (by omega) hy hyN) x h1 h3
   ·rw [hp.2.1 x (.inr h3)]; exact H x y hx hy hyN
theorem sorted_out {i j : Nat} (hp : PermIn a b d d') (h : j ≤ a ∨ b ≤ i) (H : SortedIn (stl cf ix) i j d) : SortedIn (stl cf ix) i j d' := by
 intro k l h1 h2 h3
 rw [hp.2.1 k (by omega), hp.2.1 l (by omega)]
 exact H k l h1 h2 h3
theorem ins_start (hd : d.size = N) (h : ∀ k l, k < l → l < N → ix d[k]! < ix d[l]!) : Ins cf ix N 0 d :=
 ⟨hd, Nat.zero_le _, ⟨0, by omega⟩, fun m _ x y hx hy hyN => h x y (by omega) hyN, fun q hq => absurd hq (Nat.not_lt_zero _)⟩
theorem Ins.incr (H : Ins cf ix N a d) (hb : b ≤ N) : ∀ k l, a ≤ k → k < l → l < b → ix d[k]! < ix d[l]! := fun k l hk hkl hl => H.bord l (.inl (by omega)) k l hkl (Nat.le_refl _) (by omega)
theorem Ins.step (H : Ins cf ix N a d) (hle : a + 20 ≤ N) (hp : PermIn a (a + 20) d d') (hs : SortedIn (stl cf ix) a (a + 20) d') : Ins cf ix N (a + 20) d' := by
 obtain ⟨p, hp0⟩ := H.ga
 refine ⟨hp.1.trans H.size, hle, ⟨p + 1, by omega⟩, fun m hm => ?_, fun q hq => ?_⟩
 ·refine bord_perm (by rw [H.size]; exact hle) hle hp ?_ (H.bord m ?_)
  ·rcases hm with h | ⟨q, hq⟩
   ·exact .inr h
   ·omega
  ·rcases hm with h | h
   ·exact .inl (by omega)
   ·exact .inr h
 ·rcases Nat.lt_or_ge (q * 20) a with h | h
  ·exact sorted_out hp (.inl (by omega)) (H.done q h)
  ·obtain rfl : a = q * 20 := by omega
   exact hs
theorem Ins.finish (H : Ins cf ix N a d) (hlt : N < a + 20) (hp : PermIn a N d d') (hs : SortedIn (stl cf ix) a N d') : Runs cf ix N 20 0 d' := by
 obtain ⟨p, hp0⟩ := H.ga
 have hl := H.le
 refine ⟨hp.1.trans H.size, Nat.zero_le _, by omega, ⟨0, by omega⟩, fun m hm => ?_, fun q hq => absurd hq (Nat.not_lt_zero _), fun q _ hq => ?_⟩
 ·have hm' : ∃ q, m = q * 20 := by
   rcases hm with ⟨_, h⟩ | ⟨q, h⟩
   ·exact h
   ·exact ⟨2 * q, by omega⟩
  rcases Nat.lt_or_ge N m with h | h
  ·refine bord_perm (by rw [H.size]; exact Nat.le_refl _) (Nat.le_refl _) hp (.inr (by omega)) (H.bord m (.inr hm'))
  ·refine bord_perm (by rw [H.size]; exact Nat.le_refl _) (Nat.le_refl _) hp ?_ (H.bord m (.inr hm'))
   obtain ⟨q, hq⟩ := hm'
   omega
 ·rcases Nat.lt_or_ge (q * 20) a with h | h
  ·rw [show min (q * 20 + 20) N = q * 20 + 20 by omega]
   exact sorted_out hp (.inl (by omega)) (H.done q h)
  ·obtain rfl : a = q * 20 := by omega
   rw [show min (q * 20 + 20) N = N by omega]
   exact hs
theorem mul_lt {p q C : Nat} (h : q * C < p * C) : q * C + C ≤ p * C := by
 have h1 : q < p := Nat.lt_of_mul_lt_mul_right h
 have := Nat.mul_le_mul_right C (show q + 1 ≤ p from h1)
 rwa [Nat.add_mul, Nat.one_mul] at this
theorem two_of (hc : Cmp cf) (H : Runs cf ix N B a d) (hb : a + B < N) (hbN : b = min (a + 2 * B) N) : Two cf ix d a (a + B) b := by
 obtain ⟨p, hp⟩ := H.ga
 have e0 : (2 * p) * B = a := by rw [hp, Nat.mul_comm 2 p, Nat.mul_assoc]
 have e1 : (2 * p + 1) * B = a + B := by rw [Nat.add_mul, Nat.one_mul, e0]
 have t0 := H.todo (2 * p) (by omega) (by omega)
 have t1 := H.todo (2 * p + 1) (by omega) (by omega)
 have hB := H.bord (a + B) (.inl ⟨by omega, ⟨2 * p + 1, e1.symm⟩⟩)
 rw [e0, show min (a + B) N = a + B by omega] at t0
 rw [e1, show min (a + B + B) N = b by omega] at t1
 exact ⟨t0, t1, fun i j h1 h2 h3 h4 => stl_lt hc (hB i j h2 h3 (by omega))⟩
theorem Runs.step (H : Runs cf ix N B a d) (hle : a + 2 * B ≤ N) (hp : PermIn a (a + 2 * B) d d') (hs : SortedIn (stl cf ix) a (a + 2 * B) d') : Runs cf ix N B (a + 2 * B) d' := by
 obtain ⟨p, hp0⟩ := H.ga
 refine ⟨hp.1.trans H.size, hle, H.pos, ⟨p + 1, by rw [Nat.add_mul, Nat.one_mul, hp0]⟩, fun m hm => ?_, fun q hq => ?_, fun q h1 h2 => ?_⟩
 ·refine bord_perm (by rw [H.size]; exact hle) hle hp ?_ (H.bord m ?_)
  ·rcases hm with ⟨h, _⟩ | ⟨q, hq⟩
   ·exact .inr h
   ·rcases Nat.lt_or_ge a m with h | h
    ·have := mul_lt (p := q) (q := p) (C := 2 * B) (by omega)
     exact .inr (by omega)
    ·exact .inl h
  ·rcases hm with ⟨h, h'⟩ | h
   ·exact .inl ⟨by omega, h'⟩
   ·exact .inr h
 ·rcases Nat.lt_or_ge (q * (2 * B)) a with h | h
  ·have := mul_lt (p := p) (q := q) (C := 2 * B) (by omega)
   exact sorted_out hp (.inl (by omega)) (H.done q h)
  ·have : q * (2 * B) = a := by
    rcases Nat.lt_or_ge a (q * (2 * B)) with h' | h'
    ·have := mul_lt (p := q) (q := p) (C := 2 * B) (by omega)
     omega
    ·omega
   rw [this]
   exact hs
 ·exact sorted_out hp (.inr h1) (H.todo q (by omega) h2)
theorem Runs.finish (H : Runs cf ix N B a d) (hlt : N < a + 2 * B) (hp : PermIn a N d d') (hs : SortedIn (stl cf ix) a N d') : Runs cf ix N (2 * B) 0 d' := by
 obtain ⟨p, hp0⟩ := H.ga
 have hl := H.le
 have hB := H.pos
 refine ⟨hp.1.trans H.size, Nat.zero_le _, by omega, ⟨0, by omega⟩, fun m hm => ?_, fun q hq => absurd hq (Nat.not_lt_zero _), fun q _ hq => ?_⟩
 ·have hm' : ∃ q, m = q * (2 * B) := by
   rcases hm with ⟨_, h⟩ | ⟨q, h⟩
   ·exact h
   ·exact ⟨q * 2, by rw [h, Nat.mul_assoc]⟩
  refine bord_perm (by rw [H.size]; exact Nat.le_refl _) (Nat.le_refl _) hp ?_ (H.bord m (.inr hm'))
  obtain ⟨q, hq⟩ := hm'
  rcases Nat.lt_or_ge a m with h | h
  ·have := mul_lt (p := q) (q := p) (C := 2 * B) (by omega)
   exact .inr (by omega)
  ·exact .inl h
 ·rcases Nat.lt_or_ge (q * (2 * B)) a with h | h
  ·have := mul_lt (p := p) (q := q) (C := 2 * B) (by omega)
   rw [show min (q * (2 * B) + 2 * B) N = q * (2 * B) + 2 * B by omega]
   exact sorted_out hp (.inl (by omega)) (H.done q h)
  ·have : q * (2 * B) = a := by
    rcases Nat.lt_or_ge a (q * (2 * B)) with h' | h'
    ·have := mul_lt (p := q) (q := p) (C := 2 * B) (by omega)
     omega
    ·omega
   rw [this, show min (a + 2 * B) N = N by omega]
   exact hs
theorem Runs.finish0 (H : Runs cf ix N B a d) (hlt : N ≤ a + B) : Runs cf ix N (2 * B) 0 d := by
 refine H.finish (by have := H.pos; omega) (permIn_refl d a N) ?_
 obtain ⟨p, hp0⟩ := H.ga
 have e0 : (2 * p) * B = a := by rw [hp0, Nat.mul_comm 2 p, Nat.mul_assoc]
 rcases Nat.lt_or_ge a N with h | h
 ·have t0 := H.todo (2 * p) (by omega) (by omega)
  rwa [e0, show min (a + B) N = N by omega] at t0
 ·intro i j h1 h2 h3
  omega
theorem Runs.all (H : Runs cf ix N B 0 d) (h : N ≤ B) : SortedIn (stl cf ix) 0 N d := by
 rcases Nat.lt_or_ge 0 N with h' | h'
 ·have t0 := H.todo 0 (by omega) (by omega)
  rwa [show 0 * B = 0 by omega, show min (0 + B) N = N by omega] at t0
 ·intro i j h1 h2 h3
  omega
end

section
variable {β : Type} [Inhabited β] {cf : β → β → Int}
theorem cmp_fst (h : Cmp cf) : Cmp (fun p q : β × Nat => cf p.1 q.1) := ⟨fun x y => h.anti x.1 y.1, fun x y z => h.trans x.1 y.1 z.1⟩
theorem stl_le (h : Cmp cf) (a b : β × Nat) : stl (fun p q : β × Nat => cf p.1 q.1) Prod.snd b a = false ↔ List.zipIdxLE (fun x y => decide (cf x y ≤ 0)) a b = true := by
 rw [stl_false]
 unfold List.zipIdxLE
 have h1 := h.anti b.1 a.1
 have h2 := h.anti a.1 b.1
 by_cases g1 : cf a.1 b.1 ≤ 0
 ·by_cases g2 : cf b.1 a.1 ≤ 0
  ·rw [if_pos (by simpa using g1), if_pos (by simpa using g2)]
   simp
   omega
  ·rw [if_pos (by simpa using g1), if_neg (by simpa using g2)]
   simp
   omega
 ·rw [if_neg (by simpa using g1)]
  simp
  omega
theorem stab_eq (h : Cmp cf) (l : List β) (d : List (β × Nat)) (hp : d.Perm l.zipIdx) (hs : d.Pairwise fun a b => stl (fun p q : β × Nat => cf p.1 q.1) Prod.snd b a = false) :
  d.map Prod.fst = l.mergeSort fun x y => decide (cf x y ≤ 0) := by
 have ht : ∀ a b c : β, decide (cf a b ≤ 0) = true → decide (cf b c ≤ 0) = true → decide (cf a c ≤ 0) = true := fun a b c => by simp only [decide_eq_true_eq]; exact h.trans a b c
 have hl : ∀ a b : β, (decide (cf a b ≤ 0) || decide (cf b a ≤ 0)) = true := fun a b => by
  have := h.anti a b; have := h.anti b a
  simp only [Bool.or_eq_true, decide_eq_true_eq]; omega
 have hm := List.pairwise_mergeSort (List.zipIdxLE_trans ht) (List.zipIdxLE_total hl) l.zipIdx
 have e : d = l.zipIdx.mergeSort (List.zipIdxLE fun x y => decide (cf x y ≤ 0)) := by
  refine List.Perm.eq_of_pairwise (le := fun a b => List.zipIdxLE (fun x y => decide (cf x y ≤ 0)) a b = true) (fun a b ha hb g1 g2 => ?_) (hs.imp fun {a b} g => (stl_le h a b).1 g) hm (hp.trans (List.mergeSort_perm _ _).symm)
  have ha' := List.mem_zipIdx (hp.mem_iff.1 ha)
  have hb' := List.mem_zipIdx ((List.mergeSort_perm _ _).mem_iff.1 hb)
  have k1 := (stl_le h a b).2 g1
  have k2 := (stl_le h b a).2 g2
  rw [stl_false] at k1 k2
  have h1 := h.anti b.1 a.1
  have h2 := h.anti a.1 b.1
  have e2 : a.2 = b.2 := by omega
  refine Prod.ext ?_ e2
  rw [ha'.2.2, hb'.2.2]
  congr 1
 rw [e, List.mergeSort_zipIdx]
end
end Go.Proofs.YtedolbjgdedoaaaGreatDoor.Kst
