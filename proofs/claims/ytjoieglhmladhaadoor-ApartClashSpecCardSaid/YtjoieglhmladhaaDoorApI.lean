/- Walks: package apart: least (the closure of Groups that calls itself). -/
import Derived.Test.YtjoieglhmladhaaDoorApG
import Derived.Test.YtjoieglhmladhaaDoorKit
namespace Go.Proofs.YtjoieglhmladhaaDoor
set_option linter.unusedVariables false
set_option linter.unusedSimpArgs false
open Go.RowKit Go.Shelf

namespace Ap
/-- The last of the chain i, G i, G (G i) .. -/
def rt (G : Nat → Nat) (i : Nat) : Nat := if h : G i < i then rt G (G i) else i
termination_by i
theorem rt_lt {G : Nat → Nat} {i : Nat} (h : G i < i) : rt G i = rt G (G i) := by rw [rt, dif_pos h]
theorem rt_ge {G : Nat → Nat} {i : Nat} (h : ¬ G i < i) : rt G i = i := by rw [rt, dif_neg h]
theorem rt_le (G : Nat → Nat) (i : Nat) : rt G i ≤ i := by
  induction i using Nat.strongRecOn with
  | ind i ih =>
    by_cases h : G i < i
    · rw [rt_lt h]; have := ih _ h; omega
    · rw [rt_ge h]; exact Nat.le_refl _
theorem rt_fix (G : Nat → Nat) (i : Nat) : ¬ G (rt G i) < rt G i := by
  induction i using Nat.strongRecOn with
  | ind i ih =>
    by_cases h : G i < i
    · rw [rt_lt h]; exact ih _ h
    · rw [rt_ge h]; exact h
theorem rt_idem (G : Nat → Nat) (i : Nat) : rt G (rt G i) = rt G i := rt_ge (rt_fix G i)
/-- G' is G but for some steps that lead to the chain's last at once. -/
def Cmp (R : Nat) (G G' : Nat → Nat) : Prop := ∀ j, j < R → G' j = G j ∨ G' j = rt G j
theorem Cmp.refl (R : Nat) (G : Nat → Nat) : Cmp R G G := fun _ _ => .inl rfl
theorem Cmp.rt {R : Nat} {G G' : Nat → Nat} (h : Cmp R G G') (j : Nat) (hj : j < R) : Ap.rt G' j = Ap.rt G j := by
  induction j using Nat.strongRecOn with
  | ind j ih =>
    by_cases hg : G j < j
    · have h2 := rt_le G (G j)
      rw [rt_lt hg]
      rcases h j hj with e | e
      · rw [rt_lt (by omega), e, ih _ hg (by omega)]
      · rw [rt_lt hg] at e
        rw [rt_lt (by omega), e, ih _ (by omega) (by omega), rt_idem]
    · rw [rt_ge hg]
      rcases h j hj with e | e
      · exact rt_ge (by omega)
      · rw [rt_ge hg] at e; exact rt_ge (by omega)
theorem Cmp.trans {R : Nat} {G G' G'' : Nat → Nat} (h : Cmp R G G') (h' : Cmp R G' G'') : Cmp R G G'' := by
  intro j hj
  rcases h' j hj with e | e
  · rw [e]; exact h j hj
  · rw [e, h.rt j hj]; exact .inr rfl
theorem Cmp.le {R : Nat} {G G' : Nat → Nat} (h : Cmp R G G') (hG : ∀ j, j < R → G j ≤ j) : ∀ j, j < R → G' j ≤ j := by
  intro j hj
  rcases h j hj with e | e
  · rw [e]; exact hG j hj
  · rw [e]; exact rt_le _ _
theorem Cmp.set {R : Nat} {G G' : Nat → Nat} (h : Cmp R G G') (i : Nat) : Cmp R G (fun j => if j = i then Ap.rt G i else G' j) := by
  intro j hj
  by_cases e : j = i
  · subst e; simp
  · simp only [if_neg e]; exact h j hj
/-- Block Bg holds G's first R numbers (writable); B4 the slice over them, B8 the function itself. -/
structure LAt (B4 B8 Bg R cap : Nat) (w : World) (G : Nat → Nat) : Prop where
  cell : ∀ j, j < R → w.cell? ⟨Bg, j, none⟩ = some (.int .i64 (G j))
  free : ∀ j, j < R → w.frozen? ⟨Bg, j, none⟩ = false
  slice : w.cell? ⟨B4, 0, none⟩ = some (.slice (some ⟨Bg, 0, none⟩) R cap)
  fn : w.cell? ⟨B8, 0, none⟩ = some (.func (.func 47) #[] #[.pointer (some ⟨B4, 0, none⟩), .pointer (some ⟨B8, 0, none⟩)])
  lg : Bg < w.heap.size
  l4 : B4 < w.heap.size
  l8 : B8 < w.heap.size
theorem LAt.set {B4 B8 Bg R cap : Nat} {w : World} {G : Nat → Nat} (h : LAt B4 B8 Bg R cap w G) (n4 : B4 ≠ Bg) (n8 : B8 ≠ Bg) (i v : Nat) (hi : i < R) : LAt B4 B8 Bg R cap (w.setCell ⟨Bg, i, none⟩ (.int .i64 v)) (fun j => if j = i then v else G j) := by
  refine ⟨fun j hj => ?_, fun j hj => ?_, ?_, ?_, ?_, ?_, ?_⟩
  · rw [Kit.cell_set]
    by_cases e : j = i
    · subst e; simp [h.cell j hj]
    · rw [if_neg (by first | (simp; omega) | (simp; done)), if_neg e]; exact h.cell j hj
  · rw [World.frozen?_setCell]; exact h.free j hj
  · rw [Kit.cell_set, if_neg (by first | (simp; omega) | (simp; done))]; exact h.slice
  · rw [Kit.cell_set, if_neg (by first | (simp; omega) | (simp; done))]; exact h.fn
  · simpa [World.setCell] using h.lg
  · simpa [World.setCell] using h.l4
  · simpa [World.setCell] using h.l8
theorem LAt.drawn {B4 B8 Bg R cap : Nat} {w w' : World} {G : Nat → Nat} (h : LAt B4 B8 Bg R cap w G) (hh : w'.heap = w.heap) (hf : ∀ a, w'.frozen? a = w.frozen? a) : LAt B4 B8 Bg R cap w' G := by
  have hc : ∀ a, w'.cell? a = w.cell? a := fun a => by unfold World.cell?; rw [hh]
  exact ⟨fun j hj => (hc _).trans (h.cell j hj), fun j hj => (hf _).trans (h.free j hj), (hc _).trans h.slice, (hc _).trans h.fn, by rw [hh]; exact h.lg, by rw [hh]; exact h.l4, by rw [hh]; exact h.l8⟩
end Ap
end Go.Proofs.YtjoieglhmladhaaDoor
