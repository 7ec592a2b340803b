/- Plain: a body that a cap lowers. -/
import Derived.Test.YtbhgogiaaljclaaGreatDoorUna
set_option linter.unusedSimpArgs false
set_option linter.unusedVariables false
namespace Go.Proofs.YtbhgogiaaljclaaGreatDoor
open Go.RowKit
namespace Un
def setB (b : Bd) (i : Nat) (v : Int) : Bd := match i with
 | 1 => { b with weight := v } | 2 => { b with lift := v } | 3 => { b with girth := v } | 4 => { b with step := v } | 5 => { b with jump := v } | 6 => { b with r0 := v } | 7 => { b with r1 := v } | 8 => { b with r2 := v }
 | 9 => { b with s0 := v } | 10 => { b with s1 := v } | 11 => { b with s2 := v } | 12 => { b with t0 := v } | 13 => { b with t1 := v } | 14 => { b with t2 := v } | 15 => { b with effort := v } | _ => { b with recover := v }
theorem seventeen {p : Nat} (h0 : 0 < p) (h : p < 17) : p = 1 ∨ p = 2 ∨ p = 3 ∨ p = 4 ∨ p = 5 ∨ p = 6 ∨ p = 7 ∨ p = 8 ∨ p = 9 ∨ p = 10 ∨ p = 11 ∨ p = 12 ∨ p = 13 ∨ p = 14 ∨ p = 15 ∨ p = 16 := by omega
theorem setB_cells (b : Bd) (p : Nat) (v : Int) (h0 : 0 < p) (h : p < 17) : (bdA b).setIfInBounds p (.int .i64 v) = bdA (setB b p v) := by
 rcases seventeen h0 h with h | h | h | h | h | h | h | h | h | h | h | h | h | h | h | h <;> subst h <;> rfl
def capped (p : Nat) : Prop := p = 2 ∨ p = 4 ∨ p = 5 ∨ p = 9 ∨ p = 10 ∨ p = 11 ∨ p = 12 ∨ p = 13 ∨ p = 14 ∨ p = 15
theorem setB_name (b : Bd) (p : Nat) (v : Int) : (setB b p v).name = b.name := by unfold setB; split <;> rfl
def vld (k l n : Int) : Bool := if 1 ≤ k ∧ k ≤ 6 then Tp.inb l 0 (rM (k - 1).toNat) && Tp.inb n (rLo (k - 1).toNat) (rUp (k - 1).toNat) else false
def fld (k l : Int) : Nat := rB (k - 1).toNat + l.toNat
def mn (x y : Int) : Int := if y < x then y else x
def low (b : Bd) (k l n : Int) : Bd := setB b (fld k l) (mn (bdN b (fld k l)) n)
theorem vld_cases {k l n : Int} (h : vld k l n = true) : ∃ i j : Nat, k = (i : Int) + 1 ∧ l = j ∧ i < 6 ∧ j ≤ rM i ∧ rLo i ≤ n ∧ n ≤ rUp i ∧ fld k l = rB i + j := by
 unfold vld at h
 split at h
 ·rename_i hk
  rw [Bool.and_eq_true, Tp.inb_iff, Tp.inb_iff] at h
  refine ⟨(k - 1).toNat, l.toNat, by omega, by omega, by omega, by omega, h.2.1, h.2.2, rfl⟩
 ·cases h
theorem ruok_iff (b : Bd) : ruok b = true ↔ ∀ i, i < 6 → ∀ j, j ≤ rM i → rLo i ≤ bdN b (rB i + j) ∧ bdN b (rB i + j) ≤ rUp i := by
 unfold ruok okAt
 simp only [List.all_eq_true, List.mem_range, Tp.inb_iff]
 exact ⟨fun h i hi j hj => h i hi j (by omega), fun h i hi j hj => h i hi j (by omega)⟩
theorem bdN_setB (b : Bd) (p q : Nat) (v : Int) (h0 : 0 < p) (h : p < 17) (hq0 : 0 < q) (hq : q < 17) : bdN (setB b p v) q = if q = p then v else bdN b q := by
 rcases seventeen h0 h with h | h | h | h | h | h | h | h | h | h | h | h | h | h | h | h <;> subst h <;>
 (rcases seventeen hq0 hq with h | h | h | h | h | h | h | h | h | h | h | h | h | h | h | h <;> subst h <;> rfl)
theorem rule_pos (i j : Nat) (h : i < 6) (hj : j ≤ rM i) : 0 < rB i + j ∧ rB i + j < 17 ∧ capped (rB i + j) := by
 rcases six h with rfl | rfl | rfl | rfl | rfl | rfl <;> simp only [rM] at hj <;> simp only [rB] <;> unfold capped <;> omega
theorem rule_apart {i j k l : Nat} (h : i < 6) (hj : j ≤ rM i) (hk : k < 6) (hl : l ≤ rM k) (e : rB i + j = rB k + l) : i = k := by
 rcases six h with rfl | rfl | rfl | rfl | rfl | rfl <;> rcases six hk with rfl | rfl | rfl | rfl | rfl | rfl <;> simp only [rM] at hj hl <;> simp only [rB] at e <;> omega
theorem low_ok {b : Bd} {k l n : Int} (hb : bok b = true) (hv : vld k l n = true) : bok (low b k l n) = true := by
 obtain ⟨i, j, rfl, rfl, hi, hj, h1, h2, hf⟩ := vld_cases hv
 have hp := rule_pos i j hi hj
 unfold low
 rw [hf]
 unfold bok at hb ⊢
 simp only [Bool.and_eq_true] at hb ⊢
 obtain ⟨⟨⟨⟨⟨b1, b2⟩, b3⟩, b4⟩, b5⟩, b6⟩ := hb
 have hs : ∀ q, 0 < q → q < 17 → ¬ capped q → bdN (setB b (rB i + j) (mn (bdN b (rB i + j)) n)) q = bdN b q := fun q h0 hq hc => by
  rw [bdN_setB b _ q _ hp.1 hp.2.1 h0 hq, if_neg]
  rintro rfl
  exact hc hp.2.2
 refine ⟨⟨⟨⟨⟨by rw [setB_name]; exact b1, ?_⟩, ?_⟩, ⟨⟨?_, ?_⟩, ?_⟩⟩, ?_⟩, ?_⟩
 ·have : (setB b (rB i + j) (mn (bdN b (rB i + j)) n)).weight = b.weight := hs 1 (by omega) (by omega) (by unfold capped; omega)
  rw [this]; exact b2
 ·have : (setB b (rB i + j) (mn (bdN b (rB i + j)) n)).girth = b.girth := hs 3 (by omega) (by omega) (by unfold capped; omega)
  rw [this]; exact b3
 ·have : (setB b (rB i + j) (mn (bdN b (rB i + j)) n)).r0 = b.r0 := hs 6 (by omega) (by omega) (by unfold capped; omega)
  rw [this]; exact b4.1.1
 ·have : (setB b (rB i + j) (mn (bdN b (rB i + j)) n)).r1 = b.r1 := hs 7 (by omega) (by omega) (by unfold capped; omega)
  rw [this]; exact b4.1.2
 ·have : (setB b (rB i + j) (mn (bdN b (rB i + j)) n)).r2 = b.r2 := hs 8 (by omega) (by omega) (by unfold capped; omega)
  rw [this]; exact b4.2
 ·have : (setB b (rB i + j) (mn (bdN b (rB i + j)) n)).recover = b.recover := hs 16 (by omega) (by omega) (by unfold capped; omega)
  rw [this]; exact b5
 ·rw [ruok_iff] at b6 ⊢
  intro i' hi' j' hj'
  have hp' := rule_pos i' j' hi' hj'
  rw [bdN_setB b _ _ _ hp.1 hp.2.1 hp'.1 hp'.2.1]
  have h3 := b6 i hi j hj
  have h4 := b6 i' hi' j' hj'
  split
  ·rename_i e
   obtain rfl := rule_apart hi' hj' hi hj e
   unfold mn
   split <;> omega
  ·exact h4
theorem low_le {b : Bd} {k l n : Int} (hv : vld k l n = true) (p : Nat) (h0 : 0 < p) (hp17 : p < 17) : bdN (low b k l n) p ≤ bdN b p := by
 obtain ⟨i, j, rfl, rfl, hi, hj, h1, h2, hf⟩ := vld_cases hv
 have hp := rule_pos i j hi hj
 unfold low
 rw [hf, bdN_setB b _ _ _ hp.1 hp.2.1 h0 hp17]
 split
 ·rename_i e
  rw [e]
  unfold mn
  split <;> omega
 ·exact Int.le_refl _
end Un
end Go.Proofs.YtbhgogiaaljclaaGreatDoor
