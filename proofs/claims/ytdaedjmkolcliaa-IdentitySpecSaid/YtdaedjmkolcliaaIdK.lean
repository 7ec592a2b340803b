/- Slices of structs that are handed in: their cells. -/
import Derived.Test.YtdaedjmkolcliaaKit
import Derived.Test.YtdaedjmkolcliaaProg
import Derived.WalkKit
import Derived.WalkSpells
import Derived.WalkLawsBesides
import Derived.Lib.Hide
import Derived.IntWalk
namespace Go.Proofs.Ytdaedjmkolcliaa
set_option linter.unusedVariables false
set_option linter.unusedSimpArgs false
open Go.RowKit

namespace Tp
/-- Is n from lo to hi? -/
def inb (n lo hi : Int) : Bool := decide (lo ≤ n) && decide (n ≤ hi)
theorem inb_iff (n lo hi : Int) : inb n lo hi = true ↔ lo ≤ n ∧ n ≤ hi := by simp [inb]
/-- A slice of n elements of k cells each. -/
def Sl (w : World) (a : Option Addr) (n k : Nat) (f : Nat → Nat → Value) : Prop :=
  n = 0 ∨ ∃ ad, a = some ad ∧ ad.block < w.heap.size ∧ ∀ i j, i < n → j < k → w.cell? (ad.add (i * k + j)) = some (f i j)
theorem Sl.at {w : World} {a : Option Addr} {n k : Nat} {f : Nat → Nat → Value} (h : Sl w a n k f) {i : Nat} (hi : i < n) : ∃ ad, a = some ad ∧ ad.block < w.heap.size ∧ ∀ j, j < k → w.cell? (ad.add (i * k + j)) = some (f i j) := by
  rcases h with h | ⟨ad, h1, h2, h3⟩
  · omega
  · exact ⟨ad, h1, h2, fun j hj => h3 i j hi hj⟩
theorem add_block (ad : Addr) (n : Nat) : (ad.add n).block = ad.block := by unfold Addr.add; split <;> rfl
theorem add_pos (ad : Addr) (m j : Nat) (h : j ≠ 0) : ad.add (m + j) = ⟨(ad.add m).block, (ad.add m).off + j, none⟩ := by
  unfold Addr.add
  rw [if_neg (by omega)]
  by_cases hm : m = 0
  · subst hm; simp
  · simp [hm, Nat.add_assoc]
/-- The cells of element i, as the walk spells them. -/
theorem Sl.head {w : World} {ad : Addr} {n k : Nat} {f : Nat → Nat → Value} (h : Sl w (some ad) n k f) {i : Nat} (hi : i < n) (hk : 0 < k) : w.cell? (ad.add (i * k)) = some (f i 0) := by
  obtain ⟨ad', e, _, hc⟩ := h.at hi
  cases e
  exact hc 0 hk
theorem Sl.field {w : World} {ad : Addr} {n k : Nat} {f : Nat → Nat → Value} (h : Sl w (some ad) n k f) {i j : Nat} (hi : i < n) (hk : j < k) (hj : j ≠ 0) : w.cell? ⟨(ad.add (i * k)).block, (ad.add (i * k)).off + j, none⟩ = some (f i j) := by
  obtain ⟨ad', e, _, hc⟩ := h.at hi
  cases e
  rw [← add_pos _ _ _ hj]
  exact hc j hk
theorem Sl.kept {w w' : World} {a : Option Addr} {n k : Nat} {f : Nat → Nat → Value} (h : Sl w a n k f) {B : Nat} (hb : Below B w w') (hB : w.heap.size ≤ B) : Sl w' a n k f := by
  rcases h with h | ⟨ad, h1, h2, h3⟩
  · exact .inl h
  · exact .inr ⟨ad, h1, Nat.lt_of_lt_of_le h2 hb.size, fun i j hi hj => (hb.cell (by rw [add_block]; omega)).trans (h3 i j hi hj)⟩
end Tp
namespace Tp
theorem drop_cons {α : Type} (l : List α) (d : α) (k : Nat) (h : k < l.length) : l.drop k = l.getD k d :: l.drop (k + 1) := by
  rw [List.drop_eq_getElem_cons h]
  simp [List.getD_eq_getElem?_getD, List.getElem?_eq_getElem h]
end Tp
end Go.Proofs.Ytdaedjmkolcliaa
