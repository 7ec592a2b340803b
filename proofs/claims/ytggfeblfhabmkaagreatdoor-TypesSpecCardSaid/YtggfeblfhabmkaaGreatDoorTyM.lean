/- Walks: package types: the side of a contact. -/
import Derived.Test.YtggfeblfhabmkaaGreatDoorTyF
import Derived.Test.YtggfeblfhabmkaaGreatDoorTyG
import Derived.Laws.EntriesVeiled
namespace Go.Proofs.YtggfeblfhabmkaaGreatDoor
set_option linter.unusedVariables false
set_option linter.unusedSimpArgs false
open Go.RowKit

/-- A contact's key. -/
def Ty.ck (s : Ex.Sg) : List Int := if (s.kind == 7) = true then [s.role, s.wth - 1, s.bar, s.fn, s.fd, s.tn, s.td] else [s.wth - 1, s.role, s.bar, s.fn, s.fd, s.tn, s.td]
abbrev Ty.ckV (s : Ex.Sg) : Value := .agg ((Ty.ck s).map (Value.int .i64)).toArray
set_option maxRecDepth 100000 in
set_option maxHeartbeats 1000000 in
theorem ty_side (s : Ex.Sg) (B C : Nat) (m o : Value) (w : World) (hB : Boxed w B 59 m) (hC : Boxed w C 59 o) (hm : m.oneCell' = true) (ho : o.oneCell' = true) (h1 : 0 ≤ s.wth) (h2 : s.wth ≤ 1000000) :
    Calls Tryz.prog 20 #[Ex.sgV s, .pointer (some ⟨B, 0, none⟩), .pointer (some ⟨C, 0, none⟩)] w
      fun e w' => e = .returned (.tuple #[if (s.kind == 7) = true then m else o, if (s.kind == 7) = true then o else m, Ty.ckV s]) ∧ Below w.heap.size w w' := by
  have b0 := hB.cell
  have c0 := hC.cell
  have zB := hB.lt
  have zC := hC.lt
  unfold Ty.ckV Ty.ck
  obtain ⟨id, role, bar, mark, kind, side, dir, level, size, wth, fn, fd, tn, td⟩ := s
  dsimp only at h1 h2 ⊢
  clear hB hC
  rcases d : (kind == 7) with _ | _
  · go_enter Tryz.func20, Tryz.ntmps20
    go_wp2_with fail
    (refine Kit.wp_region_drew_tail 16 (by kernel_rfl) (by kernel_rfl) ?_; simp only [List.take_succ_cons, List.take_zero, List.drop_succ_cons, List.drop_zero]; (repeat (go_big_quiet_step (fail))); refine wpQuiet_nil ?_; intro _ hw'; obtain ⟨nq, hw''⟩ := hw'; subst hw'')
    go_wp2
    (refine bodyPost_ret (by simp [results, Tryz.results20, go_sem, Kit.cell_set, *]; try rfl) rfl ?_)
    exact ⟨rfl, by (repeat' first | (with_reducible first | exact Below.refl _ _ | assumption | refine Kit.below_drewN ?_ _ | refine Below.drew ?_ | refine Below.alloc ?_ ?_ _ | refine Below.setCell ?_ ?_ _ | exact Nat.le_refl _) | omega | (simp; omega) | (simp; done) | (apply Below.size; assumption))⟩
  · go_enter Tryz.func20, Tryz.ntmps20
    go_wp2_with fail
    (refine Kit.wp_region_drew_tail 16 (by kernel_rfl) (by kernel_rfl) ?_; simp only [List.take_succ_cons, List.take_zero, List.drop_succ_cons, List.drop_zero]; (repeat (go_big_quiet_step (fail))); refine wpQuiet_nil ?_; intro _ hw'; obtain ⟨nq, hw''⟩ := hw'; subst hw'')
    go_wp2
    (refine bodyPost_ret (by simp [results, Tryz.results20, go_sem, Kit.cell_set, *]; try rfl) rfl ?_)
    exact ⟨rfl, by (repeat' first | (with_reducible first | exact Below.refl _ _ | assumption | refine Kit.below_drewN ?_ _ | refine Below.drew ?_ | refine Below.alloc ?_ ?_ _ | refine Below.setCell ?_ ?_ _ | exact Nat.le_refl _) | omega | (simp; omega) | (simp; done) | (apply Below.size; assumption))⟩
end Go.Proofs.YtggfeblfhabmkaaGreatDoor
