/- Walks: the laws of layer 20: active, uses. -/
import Derived.Test.YtggfeblfhabmkaaDoorTyW
import Derived.Test.YtggfeblfhabmkaaDoorTyF
namespace Go.Proofs.YtggfeblfhabmkaaDoor
set_option linter.unusedVariables false
set_option linter.unusedSimpArgs false
open Go.RowKit Go.Shelf

theorem Ty.mul_bd {a b : Int} (ha : -1073741824 ≤ a ∧ a ≤ 1073741824) (hb : 0 ≤ b ∧ b ≤ 1073741824) : -1152921504606846976 ≤ a * b ∧ a * b ≤ 1152921504606846976 := by
  have h1 : a * b ≤ 1073741824 * b := Int.mul_le_mul_of_nonneg_right ha.2 hb.1
  have h2 : -1073741824 * b ≤ a * b := Int.mul_le_mul_of_nonneg_right ha.1 hb.1
  omega
set_option maxHeartbeats 1000000 in
theorem lw_active_b (s : Ex.Sg) (n d : Int) (w : World) (hf : Ra.ok s.fn s.fd = true) (ht : Ra.ok s.tn s.td = true) (hn : (-1073741824 ≤ n ∧ n ≤ 1073741824) ∧ 0 ≤ d ∧ d ≤ 1073741824) :
    Calls Tryd.prog 15 #[Ex.sgV s, Ra.V n d] w fun e w' => e = .returned (.bool (Ty.act s n d)) ∧ Below w.heap.size w w' := by
  have f := (Ra.ok_iff _ _).1 hf
  have t := (Ra.ok_iff _ _).1 ht
  have m := hn
  obtain ⟨id, role, bar, mark, kind, side, dir, level, size, wth, fn, fd, tn, td⟩ := s
  dsimp only at f t
  have b1 := Ty.mul_bd (a := fn) (b := d) (by omega) (by omega)
  have b2 := Ty.mul_bd (a := n) (b := fd) (by omega) (by omega)
  have b3 := Ty.mul_bd (a := n) (b := td) (by omega) (by omega)
  have b4 := Ty.mul_bd (a := tn) (b := d) (by omega) (by omega)
  unfold Ty.act
  dsimp only
  clear f t m hf ht hn
  rcases d1 : decide (fn * d ≤ n * fd) with _ | _ <;> rcases d2 : decide (n * td < tn * d) with _ | _ <;>
  · go_enter Tryd.func15, Tryd.ntmps15
    go_wp2
    go_ret
    exact ⟨rfl, by (repeat' first | (with_reducible first | exact Below.refl _ _ | assumption | refine Kit.below_drewN ?_ _ | refine Below.drew ?_ | refine Below.alloc ?_ ?_ _ | refine Below.setCell ?_ ?_ _ | exact Nat.le_refl _) | omega | (simp; omega) | (simp; done) | (apply Below.size; assumption))⟩
theorem lw_active (s : Ex.Sg) (n d : Int) (w : World) (hf : Ra.ok s.fn s.fd = true) (ht : Ra.ok s.tn s.td = true) (hn : Ra.ok n d = true) :
    Calls Tryd.prog 15 #[Ex.sgV s, Ra.V n d] w fun e w' => e = .returned (.bool (Ty.act s n d)) ∧ Below w.heap.size w w' := by
  have m := (Ra.ok_iff _ _).1 hn
  exact lw_active_b s n d w hf ht (by omega)
abbrev Ty.usV (p : Bool × Bool × Bool × Bool × Bool × Bool) : Value := .agg #[.bool p.1, .bool p.2.1, .bool p.2.2.1, .bool p.2.2.2.1, .bool p.2.2.2.2.1, .bool p.2.2.2.2.2]
set_option maxHeartbeats 1000000 in
theorem lw_uses (s : Ex.Sg) (w : World) (hk : 1 ≤ s.kind ∧ s.kind ≤ 9) :
    Calls Tryd.prog 16 #[Ex.sgV s] w fun e w' => e = .returned (Ty.usV (Ty.usesP s.kind s.side)) ∧ Below w.heap.size w w' := by
  obtain ⟨id, role, bar, mark, kind, side, dir, level, size, wth, fn, fd, tn, td⟩ := s
  dsimp only at hk ⊢
  have h : kind = 1 ∨ kind = 2 ∨ kind = 3 ∨ kind = 4 ∨ kind = 5 ∨ kind = 6 ∨ kind = 7 ∨ kind = 8 ∨ kind = 9 := by omega
  clear hk
  rcases h with rfl | rfl | rfl | rfl | rfl | rfl | rfl | rfl | rfl <;> rcases d : (side == 1) with _ | _ <;>
  · simp only [Ty.usesP, d]
    go_enter Tryd.func16, Tryd.ntmps16
    go_wp2
    (refine bodyPost_ret (by simp [results, Tryd.results16, go_sem, Kit.cell_set]; try rfl) rfl ?_)
    exact ⟨rfl, by (repeat' first | (with_reducible first | exact Below.refl _ _ | assumption | refine Kit.below_drewN ?_ _ | refine Below.drew ?_ | refine Below.alloc ?_ ?_ _ | refine Below.setCell ?_ ?_ _ | exact Nat.le_refl _) | omega | (simp; omega) | (simp; done) | (apply Below.size; assumption))⟩
end Go.Proofs.YtggfeblfhabmkaaDoor
