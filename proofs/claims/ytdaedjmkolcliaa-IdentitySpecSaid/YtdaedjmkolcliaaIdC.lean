/- Plain facts of layer 45: chains of editions. -/
import Derived.Test.YtdaedjmkolcliaaIdK
namespace Go.Proofs.Ytdaedjmkolcliaa
set_option linter.unusedVariables false
set_option linter.unusedSimpArgs false
open Go.RowKit

namespace Id
section
variable (n : Nat) (g : Nat → Nat → Bool) (to : Nat)
/-- How many steps each edition is away, behind so many rounds; -1 while no chain is found. -/
def aw : Nat → Nat → Int
  | 0, k => if k = to then 0 else -1
  | d + 1, k => if 0 ≤ aw d k then aw d k else if ((List.range n).any fun i => decide (aw d i = d) && g i k) = true then (d : Int) + 1 else -1
def dst (k : Nat) : Int := aw n g to n k
/-- Some edition was found in this round. -/
def Live (d : Nat) : Prop := ∃ i, i < n ∧ aw n g to d i = d
end
section
variable {n : Nat} {g : Nat → Nat → Bool} {to : Nat}
theorem any_iff {d k : Nat} : ((List.range n).any fun i => decide (aw n g to d i = d) && g i k) = true ↔ ∃ i, i < n ∧ aw n g to d i = d ∧ g i k = true := by
  simp [List.any_eq_true, List.mem_range]
theorem aw_bd : ∀ d k, aw n g to d k = -1 ∨ 0 ≤ aw n g to d k ∧ aw n g to d k ≤ d
  | 0, k => by unfold aw; split <;> simp
  | d + 1, k => by
    have h := aw_bd d k
    unfold aw
    split
    · omega
    · split <;> omega
theorem aw_keep {d k : Nat} (h : 0 ≤ aw n g to d k) : aw n g to (d + 1) k = aw n g to d k := by rw [aw, if_pos h]
theorem aw_keep' {d k : Nat} (h : 0 ≤ aw n g to d k) : ∀ e, aw n g to (d + e) k = aw n g to d k
  | 0 => rfl
  | e + 1 => by
    have h1 := aw_keep' h e
    rw [← Nat.add_assoc, aw_keep (by rw [h1]; exact h), h1]
theorem aw_le {d e k : Nat} (hde : d ≤ e) (h : 0 ≤ aw n g to d k) : aw n g to e k = aw n g to d k := by
  have := aw_keep' h (e - d)
  rwa [show d + (e - d) = e by omega] at this
theorem aw_new {d k : Nat} (h : aw n g to d k < 0) : aw n g to (d + 1) k = if (∃ i, i < n ∧ aw n g to d i = d ∧ g i k = true) then (d : Int) + 1 else -1 := by
  rw [aw, if_neg (by omega)]
  by_cases e : ((List.range n).any fun i => decide (aw n g to d i = d) && g i k) = true
  · rw [if_pos e, if_pos (any_iff.1 e)]
  · rw [if_neg e, if_neg (fun h => e (any_iff.2 h))]
theorem aw_to (d : Nat) : aw n g to d to = 0 := by
  have h : aw n g to 0 to = 0 := by simp [aw]
  have := aw_keep' (n := n) (g := g) (d := 0) (k := to) (by rw [h]; decide) d
  rw [Nat.zero_add] at this
  rw [this, h]
/-- Who was found in round d+1 has a neighbour that was found in round d. -/
theorem aw_pred {d k : Nat} (h : aw n g to (d + 1) k = (d : Int) + 1) : ∃ i, i < n ∧ aw n g to d i = d ∧ g i k = true := by
  have hb := aw_bd (n := n) (g := g) (to := to) d k
  have hn : aw n g to d k < 0 := by
    rcases hb with e | ⟨e1, e2⟩
    · omega
    · rw [aw_keep e1] at h; omega
  rw [aw_new hn] at h
  by_cases e : ∃ i, i < n ∧ aw n g to d i = d ∧ g i k = true
  · exact e
  · rw [if_neg e] at h; omega
theorem live_pred {d : Nat} (h : Live n g to (d + 1)) : Live n g to d := by
  obtain ⟨i, _, e⟩ := h
  obtain ⟨j, hj, e2, _⟩ := aw_pred (d := d) (k := i) (by rw [e]; simp)
  exact ⟨j, hj, e2⟩
theorem aw_still {d : Nat} (h : ¬ Live n g to d) : ∀ e k, aw n g to (d + e) k = aw n g to d k
  | 0, k => rfl
  | e + 1, k => by
    have ih := aw_still h e
    rw [← Nat.add_assoc]
    rcases aw_bd (n := n) (g := g) (to := to) (d + e) k with hb | hb
    · rw [aw_new (by omega)]
      rw [if_neg, ← ih k, hb]
      rintro ⟨i, hi, e1, _⟩
      rw [ih i] at e1
      have hbi := aw_bd (n := n) (g := g) (to := to) d i
      rcases Nat.eq_zero_or_pos e with rfl | hp
      · exact h ⟨i, hi, by simpa using e1⟩
      · omega
    · rw [aw_keep hb.1, ih k]
/-- How many were not found yet. -/
def cnt (n : Nat) (g : Nat → Nat → Bool) (to d : Nat) : Nat := ((List.range n).filter fun k => decide (aw n g to d k < 0)).length
theorem filt_lt {α : Type} {p q : α → Bool} : ∀ {l : List α}, (∀ x ∈ l, q x = true → p x = true) → (∃ x ∈ l, p x = true ∧ q x = false) → (l.filter q).length + 1 ≤ (l.filter p).length
  | [], _, ⟨x, hx, _⟩ => by simp at hx
  | y :: l, h, ⟨x, hx, hp, hq⟩ => by
    have hle : (l.filter q).length ≤ (l.filter p).length := by
      have : ∀ l : List α, (∀ x ∈ l, q x = true → p x = true) → (l.filter q).length ≤ (l.filter p).length := by
        intro l
        induction l with
        | nil => intro _; simp
        | cons z l ih =>
          intro h
          have i1 := ih (fun x hx => h x (by simp [hx]))
          have i2 := h z (by simp)
          rcases e : q z with _ | _
          · rcases e2 : p z with _ | _ <;> simp [e, e2] <;> omega
          · have := i2 e; simp [e, this]; omega
      exact this l (fun x hx => h x (by simp [hx]))
    rcases List.mem_cons.1 hx with rfl | hx'
    · simp [hp, hq]; omega
    · have ih := filt_lt (l := l) (fun x hx => h x (by simp [hx])) ⟨x, hx', hp, hq⟩
      have i2 := h y (by simp)
      rcases e : q y with _ | _
      · rcases e2 : p y with _ | _ <;> simp [e, e2] <;> omega
      · have := i2 e; simp [e, this]; omega
theorem cnt_lt {d : Nat} (h : Live n g to (d + 1)) : cnt n g to (d + 1) + 1 ≤ cnt n g to d := by
  obtain ⟨i, hi, e⟩ := h
  refine filt_lt (fun x _ hx => ?_) ⟨i, List.mem_range.2 hi, ?_, ?_⟩
  · simp only [decide_eq_true_eq] at *
    rcases aw_bd (n := n) (g := g) (to := to) d x with hb | hb
    · omega
    · rw [aw_keep hb.1] at hx; omega
  · simp only [decide_eq_true_eq]
    rcases aw_bd (n := n) (g := g) (to := to) d i with hb | hb
    · omega
    · rw [aw_keep hb.1] at e; omega
  · simp only [decide_eq_false_iff_not]; omega
theorem cnt_bd (hto : to < n) : ∀ d, Live n g to d → cnt n g to d + d + 1 ≤ n
  | 0, _ => by
    have : cnt n g to 0 + 1 ≤ ((List.range n).filter fun _ => true).length := filt_lt (fun _ _ _ => rfl) ⟨to, List.mem_range.2 hto, rfl, by simp [aw]⟩
    have e : ((List.range n).filter fun _ => true).length = n := by
      rw [List.filter_eq_self.2 (fun _ _ => rfl), List.length_range]
    omega
  | d + 1, h => by
    have h1 := cnt_bd hto d (live_pred h)
    have h2 := cnt_lt h
    omega
theorem live_lt (hto : to < n) {d : Nat} (h : Live n g to d) : d < n := by have := cnt_bd hto d h; omega
/-- Behind the round that found none, all is told. -/
theorem aw_dst (hto : to < n) {d : Nat} (h : ¬ Live n g to d) (k : Nat) : aw n g to d k = dst n g to k := by
  have hn : ¬ Live n g to n := fun hl => by have := live_lt hto hl; omega
  unfold dst
  rcases Nat.le_total d n with hle | hle
  · have := aw_still h (n - d) k
    rw [show d + (n - d) = n by omega] at this
    exact this.symm
  · have := aw_still hn (d - n) k
    rw [show n + (d - n) = d by omega] at this
    exact this
theorem dst_bd (k : Nat) : dst n g to k = -1 ∨ 0 ≤ dst n g to k ∧ dst n g to k ≤ n := aw_bd n k
theorem dst_to : dst n g to to = 0 := aw_to n
theorem aw_at {d : Nat} : ∀ {e k : Nat}, aw n g to e k = (d : Int) → d ≤ e → aw n g to d k = d
  | 0, k, h, hd => by obtain rfl : d = 0 := by omega
                      exact h
  | e + 1, k, h, hd => by
    rcases Nat.eq_or_lt_of_le hd with rfl | hlt
    · exact h
    · rcases aw_bd (n := n) (g := g) (to := to) e k with hb | hb
      · rw [aw_new (by omega)] at h
        split at h <;> omega
      · rw [aw_keep hb.1] at h
        exact aw_at h (by omega)
theorem dst_at {k d : Nat} (h : dst n g to k = (d : Int)) : aw n g to d k = d := by
  have hb := dst_bd (n := n) (g := g) (to := to) k
  exact aw_at h (by omega)
theorem dst_lt (hto : to < n) {k : Nat} (hk : k < n) : dst n g to k < n := by
  rcases dst_bd (n := n) (g := g) (to := to) k with hb | hb
  · omega
  · obtain ⟨d, e⟩ := Int.eq_ofNat_of_zero_le hb.1
    have := live_lt hto ⟨k, hk, dst_at e⟩
    omega
/-- To the neighbours of who was found there is a chain. -/
theorem dst_near (hto : to < n) {a b : Nat} (ha : a < n) (h : 0 ≤ dst n g to a) (hg : g a b = true) : 0 ≤ dst n g to b := by
  obtain ⟨d, e⟩ := Int.eq_ofNat_of_zero_le h
  have e1 := dst_at e
  have hd := live_lt hto ⟨a, ha, e1⟩
  have e2 : 0 ≤ aw n g to (d + 1) b := by
    rcases aw_bd (n := n) (g := g) (to := to) d b with hb | hb
    · rw [aw_new (by omega), if_pos ⟨a, ha, e1, hg⟩]; omega
    · rw [aw_keep hb.1]; exact hb.1
  unfold dst
  rw [aw_le (show d + 1 ≤ n by omega) e2]
  exact e2
theorem dst_pred {k d : Nat} (h : dst n g to k = (d : Int) + 1) : ∃ i, i < n ∧ dst n g to i = d ∧ g i k = true := by
  have e := dst_at (d := d + 1) (k := k) (by rw [h]; simp)
  obtain ⟨i, hi, e1, hg⟩ := aw_pred (d := d) (k := k) (by rw [e]; simp)
  have hb := dst_bd (n := n) (g := g) (to := to) k
  refine ⟨i, hi, ?_, hg⟩
  unfold dst
  rw [aw_le (show d ≤ n by omega) (by rw [e1]; omega)]
  exact e1
/-- There is a chain. -/
inductive Rch (n : Nat) (g : Nat → Nat → Bool) (a : Nat) : Nat → Prop
  | self : Rch n g a a
  | step {b c : Nat} : Rch n g a b → b < n → g b c = true → Rch n g a c
theorem rch_of : ∀ {d k : Nat}, dst n g to k = (d : Int) → Rch n g to k
  | 0, k, h => by
    have e := dst_at h
    simp only [aw] at e
    split at e
    case isTrue h => subst h; exact .self
    case isFalse h => omega
  | d + 1, k, h => by
    obtain ⟨i, hi, e, hg⟩ := dst_pred (d := d) (by rw [h]; simp)
    exact .step (rch_of e) hi hg
theorem dst_rch (hto : to < n) {k : Nat} : 0 ≤ dst n g to k ↔ Rch n g to k := by
  constructor
  · intro h
    obtain ⟨d, e⟩ := Int.eq_ofNat_of_zero_le h
    exact rch_of e
  · intro h
    induction h with
    | self => rw [dst_to]; decide
    | step _ hb hg ih => exact dst_near hto hb ih hg
theorem Rch.trans {a b c : Nat} (h : Rch n g a b) (k : Rch n g b c) : Rch n g a c := by
  induction k with
  | self => exact h
  | step _ hb hg ih => exact .step ih hb hg
theorem Rch.symm (hs : ∀ i j, g i j = g j i) {a b : Nat} (hb : b < n) (h : Rch n g a b) : Rch n g b a := by
  induction h with
  | self => exact .self
  | step _ hc hg ih => exact .trans (.step .self hb (by rw [hs]; exact hg)) (ih hc)
theorem Rch.mono {m : Nat} {f : Nat → Nat → Bool} (hm : n ≤ m) (hf : ∀ i j, i < n → j < n → g i j = true → f i j = true) {a b : Nat} (hb : b < n) (h : Rch n g a b) : Rch m f a b := by
  induction h with
  | self => exact .self
  | step _ hc hg ih => exact .step (ih hc) (by omega) (hf _ _ hc hb hg)
end
end Id
end Go.Proofs.Ytdaedjmkolcliaa
