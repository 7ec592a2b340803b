/- Walks: the laws of layer 20: Few. -/
import Derived.Test.YtggfeblfhabmkaaGreatDoorTyQ
namespace Go.Proofs.YtggfeblfhabmkaaGreatDoor
set_option linter.unusedVariables false
set_option linter.unusedSimpArgs false
open Go.RowKit Go.Shelf
def Ty.IsB (e : Ending) : Prop := ∃ b, e = .returned (.bool b)
set_option maxHeartbeats 1000000 in
theorem lw_few (x : Ex.Wk) (p : Ex.Wa) (w : World) : Calls Tryz.prog 5 #[Ex.workV x p] w fun e w' => Ty.IsB e ∧ Below w.heap.size w w' := by
  obtain ⟨wd, dp, ta, tb, tc, n, ro, ts, ps, ss, sg⟩ := x
  obtain ⟨aR, cR, aT, cT, aP, cP, aS, cS, aG, cG⟩ := p
  generalize hR : ro.length = nR
  generalize hT : ts.length = nT
  generalize hP : ps.length = nP
  generalize hS : ss.length = nS
  generalize hG : sg.length = nG
  unfold Ex.workV
  dsimp only
  rw [hR, hT, hP, hS, hG]
  clear hR hT hP hS hG
  go_enter Tryz.func5, Tryz.ntmps5
  go_wp2
  all_goals (go_ret; exact ⟨⟨_, rfl⟩, by (repeat' first | (with_reducible first | exact Below.refl _ _ | assumption | refine Kit.below_drewN ?_ _ | refine Below.drew ?_ | refine Below.alloc ?_ ?_ _ | refine Below.setCell ?_ ?_ _ | exact Nat.le_refl _) | omega | (simp; omega) | (simp; done) | (apply Below.size; assumption))⟩)
end Go.Proofs.YtggfeblfhabmkaaGreatDoor
