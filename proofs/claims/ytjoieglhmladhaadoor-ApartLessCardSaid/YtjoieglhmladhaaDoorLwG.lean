/- Walks: the laws of layer 29: holds; the references: Floor. -/
import Derived.Test.YtjoieglhmladhaaDoorClA
namespace Go.Proofs.YtjoieglhmladhaaDoor
set_option linter.unusedVariables false
set_option linter.unusedSimpArgs false
open Go.RowKit Go.Shelf

namespace Lw
def holds (b : Ap.Bx) (x y : Int) : Bool := decide (b.1 ≤ x) && decide (x ≤ b.2.1) && decide (b.2.2.1 ≤ y) && decide (y ≤ b.2.2.2)
end Lw
set_option maxHeartbeats 1000000 in
theorem lw_holds (a b c d x y : Int) (w : World) : Calls Tryd.prog 25 #[Sp.boxV a b c d, .int .i64 x, .int .i64 y] w fun e w' => e = .returned (.bool (Lw.holds (a, b, c, d) x y)) ∧ Below w.heap.size w w' := by
  have fin : ∀ p q r s : Bool, decide (a ≤ x) = p → decide (x ≤ b) = q → decide (c ≤ y) = r → decide (y ≤ d) = s → Calls Tryd.prog 25 #[Sp.boxV a b c d, .int .i64 x, .int .i64 y] w fun e w' => e = .returned (.bool (p && q && r && s)) ∧ Below w.heap.size w w' := by
    intro p q r s hp hq hr hs
    cases p <;> cases q <;> cases r <;> cases s <;>
    · go_enter Tryd.func25, Tryd.ntmps25
      go_wp2
      go_ret
      exact ⟨rfl, by (repeat' (first | (with_reducible exact Below.refl _ _) | (with_reducible assumption) | (with_reducible refine Kit.below_drewN ?_ _) | (with_reducible refine Below.drew ?_) | (with_reducible refine Below.alloc ?_ ?_ _) | (with_reducible refine Below.setCell ?_ ?_ _) | (with_reducible exact Nat.le_refl _) | omega | (simp; omega) | (simp; done) | (apply Below.size; assumption)))⟩
  exact fin _ _ _ _ rfl rfl rfl rfl

set_option maxRecDepth 100000 in
set_option maxHeartbeats 1000000 in
theorem rf_floor (x : Ex.Wk) (p : Ex.Wa) (w : World) (h : 1 ≤ x.wd ∧ x.wd ≤ 1000 ∧ 1 ≤ x.dp ∧ x.dp ≤ 1000) :
    Calls Tryd.prog 27 #[Ex.workV x p] w fun e w' => e = .returned (Sp.boxV 0 (841 * x.wd) 0 (841 * x.dp)) ∧ Below w.heap.size w w' := by
  have key : ∀ (wd dp ta tb tc : Int) (aR : Option Addr) (nR cR : Nat) (n : Int) (aT : Option Addr) (nT cT : Nat) (aP : Option Addr) (nP cP : Nat) (aS : Option Addr) (nS cS : Nat) (aG : Option Addr) (nG cG : Nat), (1 ≤ wd ∧ wd ≤ 1000 ∧ 1 ≤ dp ∧ dp ≤ 1000) →
      Calls Tryd.prog 27 #[Ex.wv wd dp ta tb tc aR nR cR n aT nT cT aP nP cP aS nS cS aG nG cG] w fun e w' => e = .returned (Sp.boxV 0 (841 * wd) 0 (841 * dp)) ∧ Below w.heap.size w w' := by
    rintro wd dp ta tb tc aR nR cR n aT nT cT aP nP cP aS nS cS aG nG cG ⟨h1, h2, h3, h4⟩
    go_enter Tryd.func27, Tryd.ntmps27
    go_wp2
    (refine bodyPost_ret (by simp [results, Tryd.results27, go_sem, Kit.cell_set]; try rfl) rfl ?_)
    exact ⟨rfl, by (repeat' (first | (with_reducible exact Below.refl _ _) | (with_reducible assumption) | (with_reducible refine Kit.below_drewN ?_ _) | (with_reducible refine Below.drew ?_) | (with_reducible refine Below.alloc ?_ ?_ _) | (with_reducible refine Below.setCell ?_ ?_ _) | (with_reducible exact Nat.le_refl _) | omega | (simp; omega) | (simp; done) | (apply Below.size; assumption)))⟩
  exact key _ _ _ _ _ _ _ _ _ _ _ _ _ _ _ _ _ _ _ _ _ h
end Go.Proofs.YtjoieglhmladhaaDoor
