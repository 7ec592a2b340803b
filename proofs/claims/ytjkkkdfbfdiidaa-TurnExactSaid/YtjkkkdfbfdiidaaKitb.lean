/- More small facts on worlds. -/
import Derived.Test.YtjkkkdfbfdiidaaKita
import Derived.Deep.RegionHeld3
import Derived.BigRegion
namespace Go.Proofs.Ytjkkkdfbfdiidaa.Kit
set_option linter.unusedVariables false
set_option linter.unusedSimpArgs false
open Go.RowKit

theorem cell_set (w : World) (p q : Addr) (u : Value) : (w.setCell p u).cell? q = if p = q then (w.cell? q).map (fun _ => u) else w.cell? q := by
  by_cases h : p = q
  · subst h
    rw [if_pos rfl]
    cases hc : w.cell? p with
    | some v => rw [World.cell?_setCell_same w p u hc]; rfl
    | none =>
      simp only [World.cell?, World.setCell] at hc ⊢
      simp only [Array.getElem?_modify, if_true]
      cases hh : w.heap[p.block]? with
      | none => simp
      | some o =>
        cases o with
        | cells c e f =>
          simp only [hh] at hc
          by_cases hs : p.spot.isSome = true
          · simp [hs]
          · simp only [hs] at hc ⊢
            simp at hc
            simp [hc]
        | _ => simp
  · rw [if_neg h]; exact World.cell?_setCell_other _ _ _ _ h
end Go.Proofs.Ytjkkkdfbfdiidaa.Kit
