/- The least and the greatest of four integers, in a walk. -/
import Derived.Test.YtjkkkdfbfdiidaaKitb
namespace Go.Proofs.Ytjkkkdfbfdiidaa.Kit
set_option linter.unusedVariables false
set_option linter.unusedSimpArgs false
open Go.RowKit

def mn2 (x y : Int) : Int := if y < x then y else x
def mx2 (x y : Int) : Int := if x < y then y else x
def mn4 (x y z u : Int) : Int := mn2 (mn2 (mn2 x y) z) u
def mx4 (x y z u : Int) : Int := mx2 (mx2 (mx2 x y) z) u
theorem mn2_le (x y : Int) : mn2 x y ≤ x ∧ mn2 x y ≤ y ∧ (mn2 x y = x ∨ mn2 x y = y) := by unfold mn2; split <;> omega
theorem mx2_le (x y : Int) : x ≤ mx2 x y ∧ y ≤ mx2 x y ∧ (mx2 x y = x ∨ mx2 x y = y) := by unfold mx2; split <;> omega
theorem mn4_lt (x y z u m : Int) : mn4 x y z u < m ↔ x < m ∨ y < m ∨ z < m ∨ u < m := by
  have h1 := mn2_le x y; have h2 := mn2_le (mn2 x y) z; have h3 := mn2_le (mn2 (mn2 x y) z) u
  unfold mn4; omega
theorem mx4_gt (x y z u m : Int) : m < mx4 x y z u ↔ m < x ∨ m < y ∨ m < z ∨ m < u := by
  have h1 := mx2_le x y; have h2 := mx2_le (mx2 x y) z; have h3 := mx2_le (mx2 (mx2 x y) z) u
  unfold mx4; omega
theorem run_min4 {P : Program} (w : World) (ts : Array TypeId) (t : TypeId) (k k1 k2 k3 : IntKind) (x y z u : Int) : (Builtin.min_ ts t #[.int k x, .int k1 y, .int k2 z, .int k3 u]).run P w = .ok (.int k (mn4 x y z u)) w := by
  simp [Builtin.min_, Builtin.min2]; rfl
theorem run_max4 {P : Program} (w : World) (ts : Array TypeId) (t : TypeId) (k k1 k2 k3 : IntKind) (x y z u : Int) : (Builtin.max_ ts t #[.int k x, .int k1 y, .int k2 z, .int k3 u]).run P w = .ok (.int k (mx4 x y z u)) w := by
  simp [Builtin.max_, Builtin.max2]; rfl
attribute [go_sem] run_min4 run_max4
end Go.Proofs.Ytjkkkdfbfdiidaa.Kit
