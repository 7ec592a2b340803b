/- Plain facts: the groups. -/
import Derived.Test.YtjoieglhmladhaaDoorApK
namespace Go.Proofs.YtjoieglhmladhaaDoor
set_option linter.unusedVariables false
set_option linter.unusedSimpArgs false
namespace Ap
structure Roots (r : Nat → Nat) : Prop where
  le : ∀ j, r j ≤ j
  fix : ∀ j, r (r j) = r j
theorem roots_id : Roots id := ⟨fun _ => Nat.le_refl _, fun _ => rfl⟩
theorem uni_roots {r : Nat → Nat} (h : Roots r) (p : Int × Int) : Roots (uni r p) := by
  have fa := h.fix p.1.toNat
  have fb := h.fix p.2.toNat
  have key : ∀ j, uni r p j = if r j = max (r p.1.toNat) (r p.2.toNat) then min (r p.1.toNat) (r p.2.toNat) else r j := fun _ => rfl
  generalize r p.1.toNat = A at *
  generalize r p.2.toNat = B at *
  have fm : r (min A B) = min A B := by rcases Nat.le_total A B with e | e <;> simp [e, fa, fb]
  refine ⟨fun j => ?_, fun j => ?_⟩
  · have := h.le j
    rw [key]
    split <;> omega
  · rw [key (uni r p j)]
    rcases Nat.decEq (r j) (max A B) with e | e
    · have e1 : uni r p j = r j := by rw [key, if_neg e]
      rw [e1, h.fix, if_neg e]
    · have e1 : uni r p j = min A B := by rw [key, if_pos e]
      rw [e1, fm]
      split <;> rfl
theorem uni_same {r : Nat → Nat} (p : Int × Int) {x y : Nat} (h : r x = r y) : uni r p x = uni r p y := by simp only [uni, h]
theorem uni_pair (r : Nat → Nat) (p : Int × Int) : uni r p p.1.toNat = uni r p p.2.toNat := by
  simp only [uni]
  repeat' split
  all_goals omega
theorem fold_same : ∀ (L : List (Int × Int)) (r : Nat → Nat) {x y : Nat}, r x = r y → L.foldl uni r x = L.foldl uni r y
  | [], _, _, _, h => h
  | p :: L, r, _, _, h => fold_same L (uni r p) (uni_same p h)
theorem fold_roots : ∀ (L : List (Int × Int)) {r : Nat → Nat}, Roots r → Roots (L.foldl uni r)
  | [], _, h => h
  | p :: L, _, h => fold_roots L (uni_roots h p)
theorem fold_pair : ∀ (L : List (Int × Int)) (r : Nat → Nat) (p : Int × Int), p ∈ L → L.foldl uni r p.1.toNat = L.foldl uni r p.2.toNat
  | q :: L, r, p, h => by
    rcases List.mem_cons.1 h with rfl | h
    · exact fold_same L (uni r p) (uni_pair r p)
    · exact fold_pair L (uni r q) p h
theorem fold_label {α : Type} (f : Nat → α) : ∀ (L : List (Int × Int)) (r : Nat → Nat), (∀ p ∈ L, f p.1.toNat = f p.2.toNat) → (∀ j, f (r j) = f j) → ∀ j, f (L.foldl uni r j) = f j
  | [], _, _, h, j => h j
  | p :: L, r, hL, h, j => by
    refine fold_label f L (uni r p) (fun q hq => hL q (List.mem_cons_of_mem _ hq)) (fun i => ?_) j
    have hp := hL p (List.mem_cons_self ..)
    have ha := h p.1.toNat
    have hb := h p.2.toNat
    unfold uni
    split
    · rename_i e
      rw [← h i, e]
      rcases Nat.le_total (r p.1.toNat) (r p.2.toNat) with k | k
      · rw [Nat.min_eq_left k, Nat.max_eq_right k, ha, hb, hp]
      · rw [Nat.min_eq_right k, Nat.max_eq_left k, ha, hb, hp]
    · exact h i
theorem grp_le (L : List (Int × Int)) (j : Nat) : grp L j ≤ j := (fold_roots L roots_id).le j
theorem grp_fix (L : List (Int × Int)) (j : Nat) : grp L (grp L j) = grp L j := (fold_roots L roots_id).fix j
theorem grp_pair (L : List (Int × Int)) (p : Int × Int) (h : p ∈ L) : grp L p.1.toNat = grp L p.2.toNat := fold_pair L id p h
theorem grp_label {α : Type} (f : Nat → α) (L : List (Int × Int)) (h : ∀ p ∈ L, f p.1.toNat = f p.2.toNat) (j : Nat) : f (grp L j) = f j := fold_label f L id h (fun _ => rfl) j
end Ap
end Go.Proofs.YtjoieglhmladhaaDoor
