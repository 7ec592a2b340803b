/- Walks: package patch: numbers, set. -/
import Derived.Test.YtdaedjmkolcliaaIdL
namespace Go.Proofs.Ytdaedjmkolcliaa
set_option linter.unusedVariables false
set_option linter.unusedSimpArgs false
open Go.RowKit Go.Shelf

set_option maxRecDepth 100000 in
set_option maxHeartbeats 2000000 in
theorem pa_numbers (B : Nat) (w : World) : Calls Try.prog 108 #[.pointer (some ⟨B, 0, none⟩)] w fun e w' => e = .returned (.agg #[.pointer none, .pointer (some ⟨B, 1, none⟩), .pointer (some ⟨B, 2, none⟩), .pointer (some ⟨B, 3, none⟩), .pointer (some ⟨B, 5, none⟩), .pointer (some ⟨B, 6, none⟩), .pointer (some ⟨B, 7, none⟩), .pointer (some ⟨B, 8, none⟩), .pointer (some ⟨B, 9, none⟩)]) ∧ Below w.heap.size w w' := by
  go_enter Try.func108, Try.ntmps108
  go_wp2
  (refine Kit.wp_region_drew_tail 25 (by kernel_rfl) (by kernel_rfl) ?_; simp only [List.take_succ_cons, List.take_zero, List.drop_succ_cons, List.drop_zero]; (repeat (go_big_quiet_step (fail))); refine wpQuiet_nil ?_; intro _ hw'; obtain ⟨nq, hw''⟩ := hw'; subst hw'')
  go_wp2
  (refine bodyPost_ret (by simp [results, Try.results108, go_sem, Kit.cell_set]; try rfl) rfl ?_)
  exact ⟨rfl, by (repeat' first | (with_reducible first | exact Below.refl _ _ | assumption | refine Kit.below_drewN ?_ _ | refine Below.drew ?_ | refine Below.alloc ?_ ?_ _ | refine Below.setCell ?_ ?_ _ | exact Nat.le_refl _) | omega | (simp; omega) | (simp; done) | (apply Below.size; assumption))⟩
namespace Id
theorem nix4 (B : Nat) (W : World) : (Instr.index 139 (.agg #[.pointer none, .pointer (some ⟨B, 1, none⟩), .pointer (some ⟨B, 2, none⟩), .pointer (some ⟨B, 3, none⟩), .pointer (some ⟨B, 5, none⟩), .pointer (some ⟨B, 6, none⟩), .pointer (some ⟨B, 7, none⟩), .pointer (some ⟨B, 8, none⟩), .pointer (some ⟨B, 9, none⟩)]) (.int .i64 4)).run Try.prog W = .ok (.pointer (some ⟨B, 5, none⟩)) W := by kernel_rfl
theorem nix5 (B : Nat) (W : World) : (Instr.index 139 (.agg #[.pointer none, .pointer (some ⟨B, 1, none⟩), .pointer (some ⟨B, 2, none⟩), .pointer (some ⟨B, 3, none⟩), .pointer (some ⟨B, 5, none⟩), .pointer (some ⟨B, 6, none⟩), .pointer (some ⟨B, 7, none⟩), .pointer (some ⟨B, 8, none⟩), .pointer (some ⟨B, 9, none⟩)]) (.int .i64 5)).run Try.prog W = .ok (.pointer (some ⟨B, 6, none⟩)) W := by kernel_rfl
theorem nix6 (B : Nat) (W : World) : (Instr.index 139 (.agg #[.pointer none, .pointer (some ⟨B, 1, none⟩), .pointer (some ⟨B, 2, none⟩), .pointer (some ⟨B, 3, none⟩), .pointer (some ⟨B, 5, none⟩), .pointer (some ⟨B, 6, none⟩), .pointer (some ⟨B, 7, none⟩), .pointer (some ⟨B, 8, none⟩), .pointer (some ⟨B, 9, none⟩)]) (.int .i64 6)).run Try.prog W = .ok (.pointer (some ⟨B, 7, none⟩)) W := by kernel_rfl
theorem nix7 (B : Nat) (W : World) : (Instr.index 139 (.agg #[.pointer none, .pointer (some ⟨B, 1, none⟩), .pointer (some ⟨B, 2, none⟩), .pointer (some ⟨B, 3, none⟩), .pointer (some ⟨B, 5, none⟩), .pointer (some ⟨B, 6, none⟩), .pointer (some ⟨B, 7, none⟩), .pointer (some ⟨B, 8, none⟩), .pointer (some ⟨B, 9, none⟩)]) (.int .i64 7)).run Try.prog W = .ok (.pointer (some ⟨B, 8, none⟩)) W := by kernel_rfl
theorem nix8 (B : Nat) (W : World) : (Instr.index 139 (.agg #[.pointer none, .pointer (some ⟨B, 1, none⟩), .pointer (some ⟨B, 2, none⟩), .pointer (some ⟨B, 3, none⟩), .pointer (some ⟨B, 5, none⟩), .pointer (some ⟨B, 6, none⟩), .pointer (some ⟨B, 7, none⟩), .pointer (some ⟨B, 8, none⟩), .pointer (some ⟨B, 9, none⟩)]) (.int .i64 8)).run Try.prog W = .ok (.pointer (some ⟨B, 9, none⟩)) W := by kernel_rfl
/-- A sign with the field f of another one. -/
def setF (f : Nat) (x y : Sg) : Sg := match f with
  | 4 => {x with side := y.side}
  | 5 => {x with dir := y.dir}
  | 6 => {x with level := y.level}
  | 7 => {x with size := y.size}
  | 8 => {x with wth := y.wth}
  | _ => x
/-- Where a field lies in a sign. -/
def fAt (f : Nat) : Nat := match f with | 4 => 5 | 5 => 6 | 6 => 7 | 7 => 8 | _ => 9
def fOf (f : Nat) (y : Sg) : Int := match f with | 4 => y.side | 5 => y.dir | 6 => y.level | 7 => y.size | _ => y.wth
theorem setF_sgF (f : Nat) (hf : 4 ≤ f ∧ f ≤ 8) (x y : Sg) (j : Nat) (hj : j < 14) : sgF (setF f x y) j = if j = fAt f then fOf f y else sgF x j := by
  obtain ⟨h1, h2⟩ := hf
  obtain rfl | rfl | rfl | rfl | rfl : f = 4 ∨ f = 5 ∨ f = 6 ∨ f = 7 ∨ f = 8 := by omega
  all_goals
    rcases j with _ | _ | _ | _ | _ | _ | _ | _ | _ | _ | _ | _ | _ | _ | j <;> first | rfl | omega
end Id
set_option maxRecDepth 100000 in
set_option maxHeartbeats 4000000 in
theorem pa_set (x y : Id.Sg) (f : Nat) (hf : 4 ≤ f ∧ f ≤ 8) (w : World) : Calls Try.prog 92 #[Id.sgV x, .int .i64 f, Id.sgV y] w fun e w' => e = .returned (Id.sgV (Id.setF f x y)) ∧ Below w.heap.size w w' := by
  obtain ⟨h1, h2⟩ := hf
  obtain rfl | rfl | rfl | rfl | rfl : f = 4 ∨ f = 5 ∨ f = 6 ∨ f = 7 ∨ f = 8 := by omega
  · show Calls Try.prog 92 #[Id.sgV x, .int .i64 4, Id.sgV y] w _
    have i0 := Id.nix4 w.heap.size
    have i1 := Id.nix4 (w.heap.size + 1)
    go_enter Try.func92, Try.ntmps92
    go_wp2
    refine Kit.wp_name ?_
    intro W hW
    have sW : W.heap.size = w.heap.size + 1 + 1 + 1 := by rw [hW]; simp
    have bW : Below w.heap.size w W := by rw [hW]; (repeat' first | (with_reducible first | exact Below.refl _ _ | assumption | refine Kit.below_drewN ?_ _ | refine Below.drew ?_ | refine Below.alloc ?_ ?_ _ | refine Below.setCell ?_ ?_ _ | exact Nat.le_refl _) | omega | (simp; omega) | (simp; done) | (apply Below.size; assumption))
    have k0 : ∀ z : Kit.Wd W, z.val.cell? ⟨w.heap.size, 0, none⟩ = some (.int .i64 x.id) := fun z => z.cell (by rw [hW]; simp [go_sem]) (by simp; omega)
    have k1 : ∀ z : Kit.Wd W, z.val.cell? ⟨w.heap.size, 1, none⟩ = some (.int .i64 x.role) := fun z => z.cell (by rw [hW]; simp [go_sem]) (by simp; omega)
    have k2 : ∀ z : Kit.Wd W, z.val.cell? ⟨w.heap.size, 2, none⟩ = some (.int .i64 x.bar) := fun z => z.cell (by rw [hW]; simp [go_sem]) (by simp; omega)
    have k3 : ∀ z : Kit.Wd W, z.val.cell? ⟨w.heap.size, 3, none⟩ = some (.int .i64 x.mark) := fun z => z.cell (by rw [hW]; simp [go_sem]) (by simp; omega)
    have k4 : ∀ z : Kit.Wd W, z.val.cell? ⟨w.heap.size, 4, none⟩ = some (.int .i64 x.kind) := fun z => z.cell (by rw [hW]; simp [go_sem]) (by simp; omega)
    have k5 : ∀ z : Kit.Wd W, z.val.cell? ⟨w.heap.size, 5, none⟩ = some (.int .i64 x.side) := fun z => z.cell (by rw [hW]; simp [go_sem]) (by simp; omega)
    have k6 : ∀ z : Kit.Wd W, z.val.cell? ⟨w.heap.size, 6, none⟩ = some (.int .i64 x.dir) := fun z => z.cell (by rw [hW]; simp [go_sem]) (by simp; omega)
    have k7 : ∀ z : Kit.Wd W, z.val.cell? ⟨w.heap.size, 7, none⟩ = some (.int .i64 x.level) := fun z => z.cell (by rw [hW]; simp [go_sem]) (by simp; omega)
    have k8 : ∀ z : Kit.Wd W, z.val.cell? ⟨w.heap.size, 8, none⟩ = some (.int .i64 x.size) := fun z => z.cell (by rw [hW]; simp [go_sem]) (by simp; omega)
    have k9 : ∀ z : Kit.Wd W, z.val.cell? ⟨w.heap.size, 9, none⟩ = some (.int .i64 x.wth) := fun z => z.cell (by rw [hW]; simp [go_sem]) (by simp; omega)
    have k10 : ∀ z : Kit.Wd W, z.val.cell? ⟨w.heap.size, 10, none⟩ = some (.int .i64 x.fn) := fun z => z.cell (by rw [hW]; simp [go_sem]) (by simp; omega)
    have k11 : ∀ z : Kit.Wd W, z.val.cell? ⟨w.heap.size, 11, none⟩ = some (.int .i64 x.fd) := fun z => z.cell (by rw [hW]; simp [go_sem]) (by simp; omega)
    have k12 : ∀ z : Kit.Wd W, z.val.cell? ⟨w.heap.size, 12, none⟩ = some (.int .i64 x.tn) := fun z => z.cell (by rw [hW]; simp [go_sem]) (by simp; omega)
    have k13 : ∀ z : Kit.Wd W, z.val.cell? ⟨w.heap.size, 13, none⟩ = some (.int .i64 x.td) := fun z => z.cell (by rw [hW]; simp [go_sem]) (by simp; omega)
    have y5 : ∀ z : Kit.Wd W, z.val.cell? ⟨w.heap.size + 1, 5, none⟩ = some (.int .i64 y.side) := fun z => z.cell (by rw [hW]; simp [go_sem]) (by simp; omega)
    have f5 : ∀ z : Kit.Wd W, z.val.frozen? ⟨w.heap.size, 5, none⟩ = false := fun z => (z.below.frozen (by simp; omega)).trans (by rw [hW]; simp [go_sem])
    have y6 : ∀ z : Kit.Wd W, z.val.cell? ⟨w.heap.size + 1, 6, none⟩ = some (.int .i64 y.dir) := fun z => z.cell (by rw [hW]; simp [go_sem]) (by simp; omega)
    have f6 : ∀ z : Kit.Wd W, z.val.frozen? ⟨w.heap.size, 6, none⟩ = false := fun z => (z.below.frozen (by simp; omega)).trans (by rw [hW]; simp [go_sem])
    have y7 : ∀ z : Kit.Wd W, z.val.cell? ⟨w.heap.size + 1, 7, none⟩ = some (.int .i64 y.level) := fun z => z.cell (by rw [hW]; simp [go_sem]) (by simp; omega)
    have f7 : ∀ z : Kit.Wd W, z.val.frozen? ⟨w.heap.size, 7, none⟩ = false := fun z => (z.below.frozen (by simp; omega)).trans (by rw [hW]; simp [go_sem])
    have y8 : ∀ z : Kit.Wd W, z.val.cell? ⟨w.heap.size + 1, 8, none⟩ = some (.int .i64 y.size) := fun z => z.cell (by rw [hW]; simp [go_sem]) (by simp; omega)
    have f8 : ∀ z : Kit.Wd W, z.val.frozen? ⟨w.heap.size, 8, none⟩ = false := fun z => (z.below.frozen (by simp; omega)).trans (by rw [hW]; simp [go_sem])
    have y9 : ∀ z : Kit.Wd W, z.val.cell? ⟨w.heap.size + 1, 9, none⟩ = some (.int .i64 y.wth) := fun z => z.cell (by rw [hW]; simp [go_sem]) (by simp; omega)
    have f9 : ∀ z : Kit.Wd W, z.val.frozen? ⟨w.heap.size, 9, none⟩ = false := fun z => (z.below.frozen (by simp; omega)).trans (by rw [hW]; simp [go_sem])
    have q0 : ∀ z : Kit.Wd W, z.val.cell? ⟨w.heap.size + 1 + 1, 0, none⟩ = some (.int .i64 0) := fun z => z.cell (by rw [hW]; simp [go_sem]) (by simp; omega)
    have g0 : ∀ z : Kit.Wd W, z.val.frozen? ⟨w.heap.size + 1 + 1, 0, none⟩ = false := fun z => (z.below.frozen (by simp; omega)).trans (by rw [hW]; simp [go_sem])
    have q1 : ∀ z : Kit.Wd W, z.val.cell? ⟨w.heap.size + 1 + 1, 1, none⟩ = some (.int .i64 0) := fun z => z.cell (by rw [hW]; simp [go_sem]) (by simp; omega)
    have g1 : ∀ z : Kit.Wd W, z.val.frozen? ⟨w.heap.size + 1 + 1, 1, none⟩ = false := fun z => (z.below.frozen (by simp; omega)).trans (by rw [hW]; simp [go_sem])
    have q2 : ∀ z : Kit.Wd W, z.val.cell? ⟨w.heap.size + 1 + 1, 2, none⟩ = some (.int .i64 0) := fun z => z.cell (by rw [hW]; simp [go_sem]) (by simp; omega)
    have g2 : ∀ z : Kit.Wd W, z.val.frozen? ⟨w.heap.size + 1 + 1, 2, none⟩ = false := fun z => (z.below.frozen (by simp; omega)).trans (by rw [hW]; simp [go_sem])
    have q3 : ∀ z : Kit.Wd W, z.val.cell? ⟨w.heap.size + 1 + 1, 3, none⟩ = some (.int .i64 0) := fun z => z.cell (by rw [hW]; simp [go_sem]) (by simp; omega)
    have g3 : ∀ z : Kit.Wd W, z.val.frozen? ⟨w.heap.size + 1 + 1, 3, none⟩ = false := fun z => (z.below.frozen (by simp; omega)).trans (by rw [hW]; simp [go_sem])
    have q4 : ∀ z : Kit.Wd W, z.val.cell? ⟨w.heap.size + 1 + 1, 4, none⟩ = some (.int .i64 0) := fun z => z.cell (by rw [hW]; simp [go_sem]) (by simp; omega)
    have g4 : ∀ z : Kit.Wd W, z.val.frozen? ⟨w.heap.size + 1 + 1, 4, none⟩ = false := fun z => (z.below.frozen (by simp; omega)).trans (by rw [hW]; simp [go_sem])
    have q5 : ∀ z : Kit.Wd W, z.val.cell? ⟨w.heap.size + 1 + 1, 5, none⟩ = some (.int .i64 0) := fun z => z.cell (by rw [hW]; simp [go_sem]) (by simp; omega)
    have g5 : ∀ z : Kit.Wd W, z.val.frozen? ⟨w.heap.size + 1 + 1, 5, none⟩ = false := fun z => (z.below.frozen (by simp; omega)).trans (by rw [hW]; simp [go_sem])
    have q6 : ∀ z : Kit.Wd W, z.val.cell? ⟨w.heap.size + 1 + 1, 6, none⟩ = some (.int .i64 0) := fun z => z.cell (by rw [hW]; simp [go_sem]) (by simp; omega)
    have g6 : ∀ z : Kit.Wd W, z.val.frozen? ⟨w.heap.size + 1 + 1, 6, none⟩ = false := fun z => (z.below.frozen (by simp; omega)).trans (by rw [hW]; simp [go_sem])
    have q7 : ∀ z : Kit.Wd W, z.val.cell? ⟨w.heap.size + 1 + 1, 7, none⟩ = some (.int .i64 0) := fun z => z.cell (by rw [hW]; simp [go_sem]) (by simp; omega)
    have g7 : ∀ z : Kit.Wd W, z.val.frozen? ⟨w.heap.size + 1 + 1, 7, none⟩ = false := fun z => (z.below.frozen (by simp; omega)).trans (by rw [hW]; simp [go_sem])
    have q8 : ∀ z : Kit.Wd W, z.val.cell? ⟨w.heap.size + 1 + 1, 8, none⟩ = some (.int .i64 0) := fun z => z.cell (by rw [hW]; simp [go_sem]) (by simp; omega)
    have g8 : ∀ z : Kit.Wd W, z.val.frozen? ⟨w.heap.size + 1 + 1, 8, none⟩ = false := fun z => (z.below.frozen (by simp; omega)).trans (by rw [hW]; simp [go_sem])
    have q9 : ∀ z : Kit.Wd W, z.val.cell? ⟨w.heap.size + 1 + 1, 9, none⟩ = some (.int .i64 0) := fun z => z.cell (by rw [hW]; simp [go_sem]) (by simp; omega)
    have g9 : ∀ z : Kit.Wd W, z.val.frozen? ⟨w.heap.size + 1 + 1, 9, none⟩ = false := fun z => (z.below.frozen (by simp; omega)).trans (by rw [hW]; simp [go_sem])
    have q10 : ∀ z : Kit.Wd W, z.val.cell? ⟨w.heap.size + 1 + 1, 10, none⟩ = some (.int .i64 0) := fun z => z.cell (by rw [hW]; simp [go_sem]) (by simp; omega)
    have g10 : ∀ z : Kit.Wd W, z.val.frozen? ⟨w.heap.size + 1 + 1, 10, none⟩ = false := fun z => (z.below.frozen (by simp; omega)).trans (by rw [hW]; simp [go_sem])
    have q11 : ∀ z : Kit.Wd W, z.val.cell? ⟨w.heap.size + 1 + 1, 11, none⟩ = some (.int .i64 0) := fun z => z.cell (by rw [hW]; simp [go_sem]) (by simp; omega)
    have g11 : ∀ z : Kit.Wd W, z.val.frozen? ⟨w.heap.size + 1 + 1, 11, none⟩ = false := fun z => (z.below.frozen (by simp; omega)).trans (by rw [hW]; simp [go_sem])
    have q12 : ∀ z : Kit.Wd W, z.val.cell? ⟨w.heap.size + 1 + 1, 12, none⟩ = some (.int .i64 0) := fun z => z.cell (by rw [hW]; simp [go_sem]) (by simp; omega)
    have g12 : ∀ z : Kit.Wd W, z.val.frozen? ⟨w.heap.size + 1 + 1, 12, none⟩ = false := fun z => (z.below.frozen (by simp; omega)).trans (by rw [hW]; simp [go_sem])
    have q13 : ∀ z : Kit.Wd W, z.val.cell? ⟨w.heap.size + 1 + 1, 13, none⟩ = some (.int .i64 0) := fun z => z.cell (by rw [hW]; simp [go_sem]) (by simp; omega)
    have g13 : ∀ z : Kit.Wd W, z.val.frozen? ⟨w.heap.size + 1 + 1, 13, none⟩ = false := fun z => (z.below.frozen (by simp; omega)).trans (by rw [hW]; simp [go_sem])
    clear hW
    (refine Kit.wp_region_cls_tail 8 (by kernel_rfl) (by kernel_rfl) ?_; simp only [List.take_succ_cons, List.take_zero, List.drop_succ_cons, List.drop_zero]; (repeat (go_big_quiet_step (first | (with_reducible exact Kit.calls_cls _ (pa_numbers w.heap.size _)) | (with_reducible exact Kit.calls_cls _ (pa_numbers (w.heap.size + 1) _))))); refine wpQuiet_nil ?_; intro z)
    replace k0 := k0 z
    replace q0 := q0 z
    replace g0 := g0 z
    replace k1 := k1 z
    replace q1 := q1 z
    replace g1 := g1 z
    replace k2 := k2 z
    replace q2 := q2 z
    replace g2 := g2 z
    replace k3 := k3 z
    replace q3 := q3 z
    replace g3 := g3 z
    replace k4 := k4 z
    replace q4 := q4 z
    replace g4 := g4 z
    replace k5 := k5 z
    replace q5 := q5 z
    replace g5 := g5 z
    replace k6 := k6 z
    replace q6 := q6 z
    replace g6 := g6 z
    replace k7 := k7 z
    replace q7 := q7 z
    replace g7 := g7 z
    replace k8 := k8 z
    replace q8 := q8 z
    replace g8 := g8 z
    replace k9 := k9 z
    replace q9 := q9 z
    replace g9 := g9 z
    replace k10 := k10 z
    replace q10 := q10 z
    replace g10 := g10 z
    replace k11 := k11 z
    replace q11 := q11 z
    replace g11 := g11 z
    replace k12 := k12 z
    replace q12 := q12 z
    replace g12 := g12 z
    replace k13 := k13 z
    replace q13 := q13 z
    replace g13 := g13 z
    replace y5 := y5 z
    replace f5 := f5 z
    replace y6 := y6 z
    replace f6 := f6 z
    replace y7 := y7 z
    replace f7 := f7 z
    replace y8 := y8 z
    replace f8 := f8 z
    replace y9 := y9 z
    replace f9 := f9 z
    have hz := z.below
    generalize z.val = Z at *
    have HZ := Lib.hid (bW.trans (hz.mono bW.size))
    have zz := hz.size
    clear hz bW
    go_wp2
    (refine bodyPost_ret (by simp [results, Try.results92, go_sem, Kit.cell_set, q0, q1, q2, q3, q4, q5, q6, q7, q8, q9, q10, q11, q12, q13]; try rfl) rfl ?_)
    exact ⟨rfl, by have := HZ.out; (repeat' first | (with_reducible first | exact Below.refl _ _ | assumption | refine Kit.below_drewN ?_ _ | refine Below.drew ?_ | refine Below.alloc ?_ ?_ _ | refine Below.setCell ?_ ?_ _ | exact Nat.le_refl _) | omega | (simp; omega) | (simp; done) | (apply Below.size; assumption))⟩
  · show Calls Try.prog 92 #[Id.sgV x, .int .i64 5, Id.sgV y] w _
    have i0 := Id.nix5 w.heap.size
    have i1 := Id.nix5 (w.heap.size + 1)
    go_enter Try.func92, Try.ntmps92
    go_wp2
    refine Kit.wp_name ?_
    intro W hW
    have sW : W.heap.size = w.heap.size + 1 + 1 + 1 := by rw [hW]; simp
    have bW : Below w.heap.size w W := by rw [hW]; (repeat' first | (with_reducible first | exact Below.refl _ _ | assumption | refine Kit.below_drewN ?_ _ | refine Below.drew ?_ | refine Below.alloc ?_ ?_ _ | refine Below.setCell ?_ ?_ _ | exact Nat.le_refl _) | omega | (simp; omega) | (simp; done) | (apply Below.size; assumption))
    have k0 : ∀ z : Kit.Wd W, z.val.cell? ⟨w.heap.size, 0, none⟩ = some (.int .i64 x.id) := fun z => z.cell (by rw [hW]; simp [go_sem]) (by simp; omega)
    have k1 : ∀ z : Kit.Wd W, z.val.cell? ⟨w.heap.size, 1, none⟩ = some (.int .i64 x.role) := fun z => z.cell (by rw [hW]; simp [go_sem]) (by simp; omega)
    have k2 : ∀ z : Kit.Wd W, z.val.cell? ⟨w.heap.size, 2, none⟩ = some (.int .i64 x.bar) := fun z => z.cell (by rw [hW]; simp [go_sem]) (by simp; omega)
    have k3 : ∀ z : Kit.Wd W, z.val.cell? ⟨w.heap.size, 3, none⟩ = some (.int .i64 x.mark) := fun z => z.cell (by rw [hW]; simp [go_sem]) (by simp; omega)
    have k4 : ∀ z : Kit.Wd W, z.val.cell? ⟨w.heap.size, 4, none⟩ = some (.int .i64 x.kind) := fun z => z.cell (by rw [hW]; simp [go_sem]) (by simp; omega)
    have k5 : ∀ z : Kit.Wd W, z.val.cell? ⟨w.heap.size, 5, none⟩ = some (.int .i64 x.side) := fun z => z.cell (by rw [hW]; simp [go_sem]) (by simp; omega)
    have k6 : ∀ z : Kit.Wd W, z.val.cell? ⟨w.heap.size, 6, none⟩ = some (.int .i64 x.dir) := fun z => z.cell (by rw [hW]; simp [go_sem]) (by simp; omega)
    have k7 : ∀ z : Kit.Wd W, z.val.cell? ⟨w.heap.size, 7, none⟩ = some (.int .i64 x.level) := fun z => z.cell (by rw [hW]; simp [go_sem]) (by simp; omega)
    have k8 : ∀ z : Kit.Wd W, z.val.cell? ⟨w.heap.size, 8, none⟩ = some (.int .i64 x.size) := fun z => z.cell (by rw [hW]; simp [go_sem]) (by simp; omega)
    have k9 : ∀ z : Kit.Wd W, z.val.cell? ⟨w.heap.size, 9, none⟩ = some (.int .i64 x.wth) := fun z => z.cell (by rw [hW]; simp [go_sem]) (by simp; omega)
    have k10 : ∀ z : Kit.Wd W, z.val.cell? ⟨w.heap.size, 10, none⟩ = some (.int .i64 x.fn) := fun z => z.cell (by rw [hW]; simp [go_sem]) (by simp; omega)
    have k11 : ∀ z : Kit.Wd W, z.val.cell? ⟨w.heap.size, 11, none⟩ = some (.int .i64 x.fd) := fun z => z.cell (by rw [hW]; simp [go_sem]) (by simp; omega)
    have k12 : ∀ z : Kit.Wd W, z.val.cell? ⟨w.heap.size, 12, none⟩ = some (.int .i64 x.tn) := fun z => z.cell (by rw [hW]; simp [go_sem]) (by simp; omega)
    have k13 : ∀ z : Kit.Wd W, z.val.cell? ⟨w.heap.size, 13, none⟩ = some (.int .i64 x.td) := fun z => z.cell (by rw [hW]; simp [go_sem]) (by simp; omega)
    have y5 : ∀ z : Kit.Wd W, z.val.cell? ⟨w.heap.size + 1, 5, none⟩ = some (.int .i64 y.side) := fun z => z.cell (by rw [hW]; simp [go_sem]) (by simp; omega)
    have f5 : ∀ z : Kit.Wd W, z.val.frozen? ⟨w.heap.size, 5, none⟩ = false := fun z => (z.below.frozen (by simp; omega)).trans (by rw [hW]; simp [go_sem])
    have y6 : ∀ z : Kit.Wd W, z.val.cell? ⟨w.heap.size + 1, 6, none⟩ = some (.int .i64 y.dir) := fun z => z.cell (by rw [hW]; simp [go_sem]) (by simp; omega)
    have f6 : ∀ z : Kit.Wd W, z.val.frozen? ⟨w.heap.size, 6, none⟩ = false := fun z => (z.below.frozen (by simp; omega)).trans (by rw [hW]; simp [go_sem])
    have y7 : ∀ z : Kit.Wd W, z.val.cell? ⟨w.heap.size + 1, 7, none⟩ = some (.int .i64 y.level) := fun z => z.cell (by rw [hW]; simp [go_sem]) (by simp; omega)
    have f7 : ∀ z : Kit.Wd W, z.val.frozen? ⟨w.heap.size, 7, none⟩ = false := fun z => (z.below.frozen (by simp; omega)).trans (by rw [hW]; simp [go_sem])
    have y8 : ∀ z : Kit.Wd W, z.val.cell? ⟨w.heap.size + 1, 8, none⟩ = some (.int .i64 y.size) := fun z => z.cell (by rw [hW]; simp [go_sem]) (by simp; omega)
    have f8 : ∀ z : Kit.Wd W, z.val.frozen? ⟨w.heap.size, 8, none⟩ = false := fun z => (z.below.frozen (by simp; omega)).trans (by rw [hW]; simp [go_sem])
    have y9 : ∀ z : Kit.Wd W, z.val.cell? ⟨w.heap.size + 1, 9, none⟩ = some (.int .i64 y.wth) := fun z => z.cell (by rw [hW]; simp [go_sem]) (by simp; omega)
    have f9 : ∀ z : Kit.Wd W, z.val.frozen? ⟨w.heap.size, 9, none⟩ = false := fun z => (z.below.frozen (by simp; omega)).trans (by rw [hW]; simp [go_sem])
    have q0 : ∀ z : Kit.Wd W, z.val.cell? ⟨w.heap.size + 1 + 1, 0, none⟩ = some (.int .i64 0) := fun z => z.cell (by rw [hW]; simp [go_sem]) (by simp; omega)
    have g0 : ∀ z : Kit.Wd W, z.val.frozen? ⟨w.heap.size + 1 + 1, 0, none⟩ = false := fun z => (z.below.frozen (by simp; omega)).trans (by rw [hW]; simp [go_sem])
    have q1 : ∀ z : Kit.Wd W, z.val.cell? ⟨w.heap.size + 1 + 1, 1, none⟩ = some (.int .i64 0) := fun z => z.cell (by rw [hW]; simp [go_sem]) (by simp; omega)
    have g1 : ∀ z : Kit.Wd W, z.val.frozen? ⟨w.heap.size + 1 + 1, 1, none⟩ = false := fun z => (z.below.frozen (by simp; omega)).trans (by rw [hW]; simp [go_sem])
    have q2 : ∀ z : Kit.Wd W, z.val.cell? ⟨w.heap.size + 1 + 1, 2, none⟩ = some (.int .i64 0) := fun z => z.cell (by rw [hW]; simp [go_sem]) (by simp; omega)
    have g2 : ∀ z : Kit.Wd W, z.val.frozen? ⟨w.heap.size + 1 + 1, 2, none⟩ = false := fun z => (z.below.frozen (by simp; omega)).trans (by rw [hW]; simp [go_sem])
    have q3 : ∀ z : Kit.Wd W, z.val.cell? ⟨w.heap.size + 1 + 1, 3, none⟩ = some (.int .i64 0) := fun z => z.cell (by rw [hW]; simp [go_sem]) (by simp; omega)
    have g3 : ∀ z : Kit.Wd W, z.val.frozen? ⟨w.heap.size + 1 + 1, 3, none⟩ = false := fun z => (z.below.frozen (by simp; omega)).trans (by rw [hW]; simp [go_sem])
    have q4 : ∀ z : Kit.Wd W, z.val.cell? ⟨w.heap.size + 1 + 1, 4, none⟩ = some (.int .i64 0) := fun z => z.cell (by rw [hW]; simp [go_sem]) (by simp; omega)
    have g4 : ∀ z : Kit.Wd W, z.val.frozen? ⟨w.heap.size + 1 + 1, 4, none⟩ = false := fun z => (z.below.frozen (by simp; omega)).trans (by rw [hW]; simp [go_sem])
    have q5 : ∀ z : Kit.Wd W, z.val.cell? ⟨w.heap.size + 1 + 1, 5, none⟩ = some (.int .i64 0) := fun z => z.cell (by rw [hW]; simp [go_sem]) (by simp; omega)
    have g5 : ∀ z : Kit.Wd W, z.val.frozen? ⟨w.heap.size + 1 + 1, 5, none⟩ = false := fun z => (z.below.frozen (by simp; omega)).trans (by rw [hW]; simp [go_sem])
    have q6 : ∀ z : Kit.Wd W, z.val.cell? ⟨w.heap.size + 1 + 1, 6, none⟩ = some (.int .i64 0) := fun z => z.cell (by rw [hW]; simp [go_sem]) (by simp; omega)
    have g6 : ∀ z : Kit.Wd W, z.val.frozen? ⟨w.heap.size + 1 + 1, 6, none⟩ = false := fun z => (z.below.frozen (by simp; omega)).trans (by rw [hW]; simp [go_sem])
    have q7 : ∀ z : Kit.Wd W, z.val.cell? ⟨w.heap.size + 1 + 1, 7, none⟩ = some (.int .i64 0) := fun z => z.cell (by rw [hW]; simp [go_sem]) (by simp; omega)
    have g7 : ∀ z : Kit.Wd W, z.val.frozen? ⟨w.heap.size + 1 + 1, 7, none⟩ = false := fun z => (z.below.frozen (by simp; omega)).trans (by rw [hW]; simp [go_sem])
    have q8 : ∀ z : Kit.Wd W, z.val.cell? ⟨w.heap.size + 1 + 1, 8, none⟩ = some (.int .i64 0) := fun z => z.cell (by rw [hW]; simp [go_sem]) (by simp; omega)
    have g8 : ∀ z : Kit.Wd W, z.val.frozen? ⟨w.heap.size + 1 + 1, 8, none⟩ = false := fun z => (z.below.frozen (by simp; omega)).trans (by rw [hW]; simp [go_sem])
    have q9 : ∀ z : Kit.Wd W, z.val.cell? ⟨w.heap.size + 1 + 1, 9, none⟩ = some (.int .i64 0) := fun z => z.cell (by rw [hW]; simp [go_sem]) (by simp; omega)
    have g9 : ∀ z : Kit.Wd W, z.val.frozen? ⟨w.heap.size + 1 + 1, 9, none⟩ = false := fun z => (z.below.frozen (by simp; omega)).trans (by rw [hW]; simp [go_sem])
    have q10 : ∀ z : Kit.Wd W, z.val.cell? ⟨w.heap.size + 1 + 1, 10, none⟩ = some (.int .i64 0) := fun z => z.cell (by rw [hW]; simp [go_sem]) (by simp; omega)
    have g10 : ∀ z : Kit.Wd W, z.val.frozen? ⟨w.heap.size + 1 + 1, 10, none⟩ = false := fun z => (z.below.frozen (by simp; omega)).trans (by rw [hW]; simp [go_sem])
    have q11 : ∀ z : Kit.Wd W, z.val.cell? ⟨w.heap.size + 1 + 1, 11, none⟩ = some (.int .i64 0) := fun z => z.cell (by rw [hW]; simp [go_sem]) (by simp; omega)
    have g11 : ∀ z : Kit.Wd W, z.val.frozen? ⟨w.heap.size + 1 + 1, 11, none⟩ = false := fun z => (z.below.frozen (by simp; omega)).trans (by rw [hW]; simp [go_sem])
    have q12 : ∀ z : Kit.Wd W, z.val.cell? ⟨w.heap.size + 1 + 1, 12, none⟩ = some (.int .i64 0) := fun z => z.cell (by rw [hW]; simp [go_sem]) (by simp; omega)
    have g12 : ∀ z : Kit.Wd W, z.val.frozen? ⟨w.heap.size + 1 + 1, 12, none⟩ = false := fun z => (z.below.frozen (by simp; omega)).trans (by rw [hW]; simp [go_sem])
    have q13 : ∀ z : Kit.Wd W, z.val.cell? ⟨w.heap.size + 1 + 1, 13, none⟩ = some (.int .i64 0) := fun z => z.cell (by rw [hW]; simp [go_sem]) (by simp; omega)
    have g13 : ∀ z : Kit.Wd W, z.val.frozen? ⟨w.heap.size + 1 + 1, 13, none⟩ = false := fun z => (z.below.frozen (by simp; omega)).trans (by rw [hW]; simp [go_sem])
    clear hW
    (refine Kit.wp_region_cls_tail 8 (by kernel_rfl) (by kernel_rfl) ?_; simp only [List.take_succ_cons, List.take_zero, List.drop_succ_cons, List.drop_zero]; (repeat (go_big_quiet_step (first | (with_reducible exact Kit.calls_cls _ (pa_numbers w.heap.size _)) | (with_reducible exact Kit.calls_cls _ (pa_numbers (w.heap.size + 1) _))))); refine wpQuiet_nil ?_; intro z)
    replace k0 := k0 z
    replace q0 := q0 z
    replace g0 := g0 z
    replace k1 := k1 z
    replace q1 := q1 z
    replace g1 := g1 z
    replace k2 := k2 z
    replace q2 := q2 z
    replace g2 := g2 z
    replace k3 := k3 z
    replace q3 := q3 z
    replace g3 := g3 z
    replace k4 := k4 z
    replace q4 := q4 z
    replace g4 := g4 z
    replace k5 := k5 z
    replace q5 := q5 z
    replace g5 := g5 z
    replace k6 := k6 z
    replace q6 := q6 z
    replace g6 := g6 z
    replace k7 := k7 z
    replace q7 := q7 z
    replace g7 := g7 z
    replace k8 := k8 z
    replace q8 := q8 z
    replace g8 := g8 z
    replace k9 := k9 z
    replace q9 := q9 z
    replace g9 := g9 z
    replace k10 := k10 z
    replace q10 := q10 z
    replace g10 := g10 z
    replace k11 := k11 z
    replace q11 := q11 z
    replace g11 := g11 z
    replace k12 := k12 z
    replace q12 := q12 z
    replace g12 := g12 z
    replace k13 := k13 z
    replace q13 := q13 z
    replace g13 := g13 z
    replace y5 := y5 z
    replace f5 := f5 z
    replace y6 := y6 z
    replace f6 := f6 z
    replace y7 := y7 z
    replace f7 := f7 z
    replace y8 := y8 z
    replace f8 := f8 z
    replace y9 := y9 z
    replace f9 := f9 z
    have hz := z.below
    generalize z.val = Z at *
    have HZ := Lib.hid (bW.trans (hz.mono bW.size))
    have zz := hz.size
    clear hz bW
    go_wp2
    (refine bodyPost_ret (by simp [results, Try.results92, go_sem, Kit.cell_set, q0, q1, q2, q3, q4, q5, q6, q7, q8, q9, q10, q11, q12, q13]; try rfl) rfl ?_)
    exact ⟨rfl, by have := HZ.out; (repeat' first | (with_reducible first | exact Below.refl _ _ | assumption | refine Kit.below_drewN ?_ _ | refine Below.drew ?_ | refine Below.alloc ?_ ?_ _ | refine Below.setCell ?_ ?_ _ | exact Nat.le_refl _) | omega | (simp; omega) | (simp; done) | (apply Below.size; assumption))⟩
  · show Calls Try.prog 92 #[Id.sgV x, .int .i64 6, Id.sgV y] w _
    have i0 := Id.nix6 w.heap.size
    have i1 := Id.nix6 (w.heap.size + 1)
    go_enter Try.func92, Try.ntmps92
    go_wp2
    refine Kit.wp_name ?_
    intro W hW
    have sW : W.heap.size = w.heap.size + 1 + 1 + 1 := by rw [hW]; simp
    have bW : Below w.heap.size w W := by rw [hW]; (repeat' first | (with_reducible first | exact Below.refl _ _ | assumption | refine Kit.below_drewN ?_ _ | refine Below.drew ?_ | refine Below.alloc ?_ ?_ _ | refine Below.setCell ?_ ?_ _ | exact Nat.le_refl _) | omega | (simp; omega) | (simp; done) | (apply Below.size; assumption))
    have k0 : ∀ z : Kit.Wd W, z.val.cell? ⟨w.heap.size, 0, none⟩ = some (.int .i64 x.id) := fun z => z.cell (by rw [hW]; simp [go_sem]) (by simp; omega)
    have k1 : ∀ z : Kit.Wd W, z.val.cell? ⟨w.heap.size, 1, none⟩ = some (.int .i64 x.role) := fun z => z.cell (by rw [hW]; simp [go_sem]) (by simp; omega)
    have k2 : ∀ z : Kit.Wd W, z.val.cell? ⟨w.heap.size, 2, none⟩ = some (.int .i64 x.bar) := fun z => z.cell (by rw [hW]; simp [go_sem]) (by simp; omega)
    have k3 : ∀ z : Kit.Wd W, z.val.cell? ⟨w.heap.size, 3, none⟩ = some (.int .i64 x.mark) := fun z => z.cell (by rw [hW]; simp [go_sem]) (by simp; omega)
    have k4 : ∀ z : Kit.Wd W, z.val.cell? ⟨w.heap.size, 4, none⟩ = some (.int .i64 x.kind) := fun z => z.cell (by rw [hW]; simp [go_sem]) (by simp; omega)
    have k5 : ∀ z : Kit.Wd W, z.val.cell? ⟨w.heap.size, 5, none⟩ = some (.int .i64 x.side) := fun z => z.cell (by rw [hW]; simp [go_sem]) (by simp; omega)
    have k6 : ∀ z : Kit.Wd W, z.val.cell? ⟨w.heap.size, 6, none⟩ = some (.int .i64 x.dir) := fun z => z.cell (by rw [hW]; simp [go_sem]) (by simp; omega)
    have k7 : ∀ z : Kit.Wd W, z.val.cell? ⟨w.heap.size, 7, none⟩ = some (.int .i64 x.level) := fun z => z.cell (by rw [hW]; simp [go_sem]) (by simp; omega)
    have k8 : ∀ z : Kit.Wd W, z.val.cell? ⟨w.heap.size, 8, none⟩ = some (.int .i64 x.size) := fun z => z.cell (by rw [hW]; simp [go_sem]) (by simp; omega)
    have k9 : ∀ z : Kit.Wd W, z.val.cell? ⟨w.heap.size, 9, none⟩ = some (.int .i64 x.wth) := fun z => z.cell (by rw [hW]; simp [go_sem]) (by simp; omega)
    have k10 : ∀ z : Kit.Wd W, z.val.cell? ⟨w.heap.size, 10, none⟩ = some (.int .i64 x.fn) := fun z => z.cell (by rw [hW]; simp [go_sem]) (by simp; omega)
    have k11 : ∀ z : Kit.Wd W, z.val.cell? ⟨w.heap.size, 11, none⟩ = some (.int .i64 x.fd) := fun z => z.cell (by rw [hW]; simp [go_sem]) (by simp; omega)
    have k12 : ∀ z : Kit.Wd W, z.val.cell? ⟨w.heap.size, 12, none⟩ = some (.int .i64 x.tn) := fun z => z.cell (by rw [hW]; simp [go_sem]) (by simp; omega)
    have k13 : ∀ z : Kit.Wd W, z.val.cell? ⟨w.heap.size, 13, none⟩ = some (.int .i64 x.td) := fun z => z.cell (by rw [hW]; simp [go_sem]) (by simp; omega)
    have y5 : ∀ z : Kit.Wd W, z.val.cell? ⟨w.heap.size + 1, 5, none⟩ = some (.int .i64 y.side) := fun z => z.cell (by rw [hW]; simp [go_sem]) (by simp; omega)
    have f5 : ∀ z : Kit.Wd W, z.val.frozen? ⟨w.heap.size, 5, none⟩ = false := fun z => (z.below.frozen (by simp; omega)).trans (by rw [hW]; simp [go_sem])
    have y6 : ∀ z : Kit.Wd W, z.val.cell? ⟨w.heap.size + 1, 6, none⟩ = some (.int .i64 y.dir) := fun z => z.cell (by rw [hW]; simp [go_sem]) (by simp; omega)
    have f6 : ∀ z : Kit.Wd W, z.val.frozen? ⟨w.heap.size, 6, none⟩ = false := fun z => (z.below.frozen (by simp; omega)).trans (by rw [hW]; simp [go_sem])
    have y7 : ∀ z : Kit.Wd W, z.val.cell? ⟨w.heap.size + 1, 7, none⟩ = some (.int .i64 y.level) := fun z => z.cell (by rw [hW]; simp [go_sem]) (by simp; omega)
    have f7 : ∀ z : Kit.Wd W, z.val.frozen? ⟨w.heap.size, 7, none⟩ = false := fun z => (z.below.frozen (by simp; omega)).trans (by rw [hW]; simp [go_sem])
    have y8 : ∀ z : Kit.Wd W, z.val.cell? ⟨w.heap.size + 1, 8, none⟩ = some (.int .i64 y.size) := fun z => z.cell (by rw [hW]; simp [go_sem]) (by simp; omega)
    have f8 : ∀ z : Kit.Wd W, z.val.frozen? ⟨w.heap.size, 8, none⟩ = false := fun z => (z.below.frozen (by simp; omega)).trans (by rw [hW]; simp [go_sem])
    have y9 : ∀ z : Kit.Wd W, z.val.cell? ⟨w.heap.size + 1, 9, none⟩ = some (.int .i64 y.wth) := fun z => z.cell (by rw [hW]; simp [go_sem]) (by simp; omega)
    have f9 : ∀ z : Kit.Wd W, z.val.frozen? ⟨w.heap.size, 9, none⟩ = false := fun z => (z.below.frozen (by simp; omega)).trans (by rw [hW]; simp [go_sem])
    have q0 : ∀ z : Kit.Wd W, z.val.cell? ⟨w.heap.size + 1 + 1, 0, none⟩ = some (.int .i64 0) := fun z => z.cell (by rw [hW]; simp [go_sem]) (by simp; omega)
    have g0 : ∀ z : Kit.Wd W, z.val.frozen? ⟨w.heap.size + 1 + 1, 0, none⟩ = false := fun z => (z.below.frozen (by simp; omega)).trans (by rw [hW]; simp [go_sem])
    have q1 : ∀ z : Kit.Wd W, z.val.cell? ⟨w.heap.size + 1 + 1, 1, none⟩ = some (.int .i64 0) := fun z => z.cell (by rw [hW]; simp [go_sem]) (by simp; omega)
    have g1 : ∀ z : Kit.Wd W, z.val.frozen? ⟨w.heap.size + 1 + 1, 1, none⟩ = false := fun z => (z.below.frozen (by simp; omega)).trans (by rw [hW]; simp [go_sem])
    have q2 : ∀ z : Kit.Wd W, z.val.cell? ⟨w.heap.size + 1 + 1, 2, none⟩ = some (.int .i64 0) := fun z => z.cell (by rw [hW]; simp [go_sem]) (by simp; omega)
    have g2 : ∀ z : Kit.Wd W, z.val.frozen? ⟨w.heap.size + 1 + 1, 2, none⟩ = false := fun z => (z.below.frozen (by simp; omega)).trans (by rw [hW]; simp [go_sem])
    have q3 : ∀ z : Kit.Wd W, z.val.cell? ⟨w.heap.size + 1 + 1, 3, none⟩ = some (.int .i64 0) := fun z => z.cell (by rw [hW]; simp [go_sem]) (by simp; omega)
    have g3 : ∀ z : Kit.Wd W, z.val.frozen? ⟨w.heap.size + 1 + 1, 3, none⟩ = false := fun z => (z.below.frozen (by simp; omega)).trans (by rw [hW]; simp [go_sem])
    have q4 : ∀ z : Kit.Wd W, z.val.cell? ⟨w.heap.size + 1 + 1, 4, none⟩ = some (.int .i64 0) := fun z => z.cell (by rw [hW]; simp [go_sem]) (by simp; omega)
    have g4 : ∀ z : Kit.Wd W, z.val.frozen? ⟨w.heap.size + 1 + 1, 4, none⟩ = false := fun z => (z.below.frozen (by simp; omega)).trans (by rw [hW]; simp [go_sem])
    have q5 : ∀ z : Kit.Wd W, z.val.cell? ⟨w.heap.size + 1 + 1, 5, none⟩ = some (.int .i64 0) := fun z => z.cell (by rw [hW]; simp [go_sem]) (by simp; omega)
    have g5 : ∀ z : Kit.Wd W, z.val.frozen? ⟨w.heap.size + 1 + 1, 5, none⟩ = false := fun z => (z.below.frozen (by simp; omega)).trans (by rw [hW]; simp [go_sem])
    have q6 : ∀ z : Kit.Wd W, z.val.cell? ⟨w.heap.size + 1 + 1, 6, none⟩ = some (.int .i64 0) := fun z => z.cell (by rw [hW]; simp [go_sem]) (by simp; omega)
    have g6 : ∀ z : Kit.Wd W, z.val.frozen? ⟨w.heap.size + 1 + 1, 6, none⟩ = false := fun z => (z.below.frozen (by simp; omega)).trans (by rw [hW]; simp [go_sem])
    have q7 : ∀ z : Kit.Wd W, z.val.cell? ⟨w.heap.size + 1 + 1, 7, none⟩ = some (.int .i64 0) := fun z => z.cell (by rw [hW]; simp [go_sem]) (by simp; omega)
    have g7 : ∀ z : Kit.Wd W, z.val.frozen? ⟨w.heap.size + 1 + 1, 7, none⟩ = false := fun z => (z.below.frozen (by simp; omega)).trans (by rw [hW]; simp [go_sem])
    have q8 : ∀ z : Kit.Wd W, z.val.cell? ⟨w.heap.size + 1 + 1, 8, none⟩ = some (.int .i64 0) := fun z => z.cell (by rw [hW]; simp [go_sem]) (by simp; omega)
    have g8 : ∀ z : Kit.Wd W, z.val.frozen? ⟨w.heap.size + 1 + 1, 8, none⟩ = false := fun z => (z.below.frozen (by simp; omega)).trans (by rw [hW]; simp [go_sem])
    have q9 : ∀ z : Kit.Wd W, z.val.cell? ⟨w.heap.size + 1 + 1, 9, none⟩ = some (.int .i64 0) := fun z => z.cell (by rw [hW]; simp [go_sem]) (by simp; omega)
    have g9 : ∀ z : Kit.Wd W, z.val.frozen? ⟨w.heap.size + 1 + 1, 9, none⟩ = false := fun z => (z.below.frozen (by simp; omega)).trans (by rw [hW]; simp [go_sem])
    have q10 : ∀ z : Kit.Wd W, z.val.cell? ⟨w.heap.size + 1 + 1, 10, none⟩ = some (.int .i64 0) := fun z => z.cell (by rw [hW]; simp [go_sem]) (by simp; omega)
    have g10 : ∀ z : Kit.Wd W, z.val.frozen? ⟨w.heap.size + 1 + 1, 10, none⟩ = false := fun z => (z.below.frozen (by simp; omega)).trans (by rw [hW]; simp [go_sem])
    have q11 : ∀ z : Kit.Wd W, z.val.cell? ⟨w.heap.size + 1 + 1, 11, none⟩ = some (.int .i64 0) := fun z => z.cell (by rw [hW]; simp [go_sem]) (by simp; omega)
    have g11 : ∀ z : Kit.Wd W, z.val.frozen? ⟨w.heap.size + 1 + 1, 11, none⟩ = false := fun z => (z.below.frozen (by simp; omega)).trans (by rw [hW]; simp [go_sem])
    have q12 : ∀ z : Kit.Wd W, z.val.cell? ⟨w.heap.size + 1 + 1, 12, none⟩ = some (.int .i64 0) := fun z => z.cell (by rw [hW]; simp [go_sem]) (by simp; omega)
    have g12 : ∀ z : Kit.Wd W, z.val.frozen? ⟨w.heap.size + 1 + 1, 12, none⟩ = false := fun z => (z.below.frozen (by simp; omega)).trans (by rw [hW]; simp [go_sem])
    have q13 : ∀ z : Kit.Wd W, z.val.cell? ⟨w.heap.size + 1 + 1, 13, none⟩ = some (.int .i64 0) := fun z => z.cell (by rw [hW]; simp [go_sem]) (by simp; omega)
    have g13 : ∀ z : Kit.Wd W, z.val.frozen? ⟨w.heap.size + 1 + 1, 13, none⟩ = false := fun z => (z.below.frozen (by simp; omega)).trans (by rw [hW]; simp [go_sem])
    clear hW
    (refine Kit.wp_region_cls_tail 8 (by kernel_rfl) (by kernel_rfl) ?_; simp only [List.take_succ_cons, List.take_zero, List.drop_succ_cons, List.drop_zero]; (repeat (go_big_quiet_step (first | (with_reducible exact Kit.calls_cls _ (pa_numbers w.heap.size _)) | (with_reducible exact Kit.calls_cls _ (pa_numbers (w.heap.size + 1) _))))); refine wpQuiet_nil ?_; intro z)
    replace k0 := k0 z
    replace q0 := q0 z
    replace g0 := g0 z
    replace k1 := k1 z
    replace q1 := q1 z
    replace g1 := g1 z
    replace k2 := k2 z
    replace q2 := q2 z
    replace g2 := g2 z
    replace k3 := k3 z
    replace q3 := q3 z
    replace g3 := g3 z
    replace k4 := k4 z
    replace q4 := q4 z
    replace g4 := g4 z
    replace k5 := k5 z
    replace q5 := q5 z
    replace g5 := g5 z
    replace k6 := k6 z
    replace q6 := q6 z
    replace g6 := g6 z
    replace k7 := k7 z
    replace q7 := q7 z
    replace g7 := g7 z
    replace k8 := k8 z
    replace q8 := q8 z
    replace g8 := g8 z
    replace k9 := k9 z
    replace q9 := q9 z
    replace g9 := g9 z
    replace k10 := k10 z
    replace q10 := q10 z
    replace g10 := g10 z
    replace k11 := k11 z
    replace q11 := q11 z
    replace g11 := g11 z
    replace k12 := k12 z
    replace q12 := q12 z
    replace g12 := g12 z
    replace k13 := k13 z
    replace q13 := q13 z
    replace g13 := g13 z
    replace y5 := y5 z
    replace f5 := f5 z
    replace y6 := y6 z
    replace f6 := f6 z
    replace y7 := y7 z
    replace f7 := f7 z
    replace y8 := y8 z
    replace f8 := f8 z
    replace y9 := y9 z
    replace f9 := f9 z
    have hz := z.below
    generalize z.val = Z at *
    have HZ := Lib.hid (bW.trans (hz.mono bW.size))
    have zz := hz.size
    clear hz bW
    go_wp2
    (refine bodyPost_ret (by simp [results, Try.results92, go_sem, Kit.cell_set, q0, q1, q2, q3, q4, q5, q6, q7, q8, q9, q10, q11, q12, q13]; try rfl) rfl ?_)
    exact ⟨rfl, by have := HZ.out; (repeat' first | (with_reducible first | exact Below.refl _ _ | assumption | refine Kit.below_drewN ?_ _ | refine Below.drew ?_ | refine Below.alloc ?_ ?_ _ | refine Below.setCell ?_ ?_ _ | exact Nat.le_refl _) | omega | (simp; omega) | (simp; done) | (apply Below.size; assumption))⟩
  · show Calls Try.prog 92 #[Id.sgV x, .int .i64 7, Id.sgV y] w _
    have i0 := Id.nix7 w.heap.size
    have i1 := Id.nix7 (w.heap.size + 1)
    go_enter Try.func92, Try.ntmps92
    go_wp2
    refine Kit.wp_name ?_
    intro W hW
    have sW : W.heap.size = w.heap.size + 1 + 1 + 1 := by rw [hW]; simp
    have bW : Below w.heap.size w W := by rw [hW]; (repeat' first | (with_reducible first | exact Below.refl _ _ | assumption | refine Kit.below_drewN ?_ _ | refine Below.drew ?_ | refine Below.alloc ?_ ?_ _ | refine Below.setCell ?_ ?_ _ | exact Nat.le_refl _) | omega | (simp; omega) | (simp; done) | (apply Below.size; assumption))
    have k0 : ∀ z : Kit.Wd W, z.val.cell? ⟨w.heap.size, 0, none⟩ = some (.int .i64 x.id) := fun z => z.cell (by rw [hW]; simp [go_sem]) (by simp; omega)
    have k1 : ∀ z : Kit.Wd W, z.val.cell? ⟨w.heap.size, 1, none⟩ = some (.int .i64 x.role) := fun z => z.cell (by rw [hW]; simp [go_sem]) (by simp; omega)
    have k2 : ∀ z : Kit.Wd W, z.val.cell? ⟨w.heap.size, 2, none⟩ = some (.int .i64 x.bar) := fun z => z.cell (by rw [hW]; simp [go_sem]) (by simp; omega)
    have k3 : ∀ z : Kit.Wd W, z.val.cell? ⟨w.heap.size, 3, none⟩ = some (.int .i64 x.mark) := fun z => z.cell (by rw [hW]; simp [go_sem]) (by simp; omega)
    have k4 : ∀ z : Kit.Wd W, z.val.cell? ⟨w.heap.size, 4, none⟩ = some (.int .i64 x.kind) := fun z => z.cell (by rw [hW]; simp [go_sem]) (by simp; omega)
    have k5 : ∀ z : Kit.Wd W, z.val.cell? ⟨w.heap.size, 5, none⟩ = some (.int .i64 x.side) := fun z => z.cell (by rw [hW]; simp [go_sem]) (by simp; omega)
    have k6 : ∀ z : Kit.Wd W, z.val.cell? ⟨w.heap.size, 6, none⟩ = some (.int .i64 x.dir) := fun z => z.cell (by rw [hW]; simp [go_sem]) (by simp; omega)
    have k7 : ∀ z : Kit.Wd W, z.val.cell? ⟨w.heap.size, 7, none⟩ = some (.int .i64 x.level) := fun z => z.cell (by rw [hW]; simp [go_sem]) (by simp; omega)
    have k8 : ∀ z : Kit.Wd W, z.val.cell? ⟨w.heap.size, 8, none⟩ = some (.int .i64 x.size) := fun z => z.cell (by rw [hW]; simp [go_sem]) (by simp; omega)
    have k9 : ∀ z : Kit.Wd W, z.val.cell? ⟨w.heap.size, 9, none⟩ = some (.int .i64 x.wth) := fun z => z.cell (by rw [hW]; simp [go_sem]) (by simp; omega)
    have k10 : ∀ z : Kit.Wd W, z.val.cell? ⟨w.heap.size, 10, none⟩ = some (.int .i64 x.fn) := fun z => z.cell (by rw [hW]; simp [go_sem]) (by simp; omega)
    have k11 : ∀ z : Kit.Wd W, z.val.cell? ⟨w.heap.size, 11, none⟩ = some (.int .i64 x.fd) := fun z => z.cell (by rw [hW]; simp [go_sem]) (by simp; omega)
    have k12 : ∀ z : Kit.Wd W, z.val.cell? ⟨w.heap.size, 12, none⟩ = some (.int .i64 x.tn) := fun z => z.cell (by rw [hW]; simp [go_sem]) (by simp; omega)
    have k13 : ∀ z : Kit.Wd W, z.val.cell? ⟨w.heap.size, 13, none⟩ = some (.int .i64 x.td) := fun z => z.cell (by rw [hW]; simp [go_sem]) (by simp; omega)
    have y5 : ∀ z : Kit.Wd W, z.val.cell? ⟨w.heap.size + 1, 5, none⟩ = some (.int .i64 y.side) := fun z => z.cell (by rw [hW]; simp [go_sem]) (by simp; omega)
    have f5 : ∀ z : Kit.Wd W, z.val.frozen? ⟨w.heap.size, 5, none⟩ = false := fun z => (z.below.frozen (by simp; omega)).trans (by rw [hW]; simp [go_sem])
    have y6 : ∀ z : Kit.Wd W, z.val.cell? ⟨w.heap.size + 1, 6, none⟩ = some (.int .i64 y.dir) := fun z => z.cell (by rw [hW]; simp [go_sem]) (by simp; omega)
    have f6 : ∀ z : Kit.Wd W, z.val.frozen? ⟨w.heap.size, 6, none⟩ = false := fun z => (z.below.frozen (by simp; omega)).trans (by rw [hW]; simp [go_sem])
    have y7 : ∀ z : Kit.Wd W, z.val.cell? ⟨w.heap.size + 1, 7, none⟩ = some (.int .i64 y.level) := fun z => z.cell (by rw [hW]; simp [go_sem]) (by simp; omega)
    have f7 : ∀ z : Kit.Wd W, z.val.frozen? ⟨w.heap.size, 7, none⟩ = false := fun z => (z.below.frozen (by simp; omega)).trans (by rw [hW]; simp [go_sem])
    have y8 : ∀ z : Kit.Wd W, z.val.cell? ⟨w.heap.size + 1, 8, none⟩ = some (.int .i64 y.size) := fun z => z.cell (by rw [hW]; simp [go_sem]) (by simp; omega)
    have f8 : ∀ z : Kit.Wd W, z.val.frozen? ⟨w.heap.size, 8, none⟩ = false := fun z => (z.below.frozen (by simp; omega)).trans (by rw [hW]; simp [go_sem])
    have y9 : ∀ z : Kit.Wd W, z.val.cell? ⟨w.heap.size + 1, 9, none⟩ = some (.int .i64 y.wth) := fun z => z.cell (by rw [hW]; simp [go_sem]) (by simp; omega)
    have f9 : ∀ z : Kit.Wd W, z.val.frozen? ⟨w.heap.size, 9, none⟩ = false := fun z => (z.below.frozen (by simp; omega)).trans (by rw [hW]; simp [go_sem])
    have q0 : ∀ z : Kit.Wd W, z.val.cell? ⟨w.heap.size + 1 + 1, 0, none⟩ = some (.int .i64 0) := fun z => z.cell (by rw [hW]; simp [go_sem]) (by simp; omega)
    have g0 : ∀ z : Kit.Wd W, z.val.frozen? ⟨w.heap.size + 1 + 1, 0, none⟩ = false := fun z => (z.below.frozen (by simp; omega)).trans (by rw [hW]; simp [go_sem])
    have q1 : ∀ z : Kit.Wd W, z.val.cell? ⟨w.heap.size + 1 + 1, 1, none⟩ = some (.int .i64 0) := fun z => z.cell (by rw [hW]; simp [go_sem]) (by simp; omega)
    have g1 : ∀ z : Kit.Wd W, z.val.frozen? ⟨w.heap.size + 1 + 1, 1, none⟩ = false := fun z => (z.below.frozen (by simp; omega)).trans (by rw [hW]; simp [go_sem])
    have q2 : ∀ z : Kit.Wd W, z.val.cell? ⟨w.heap.size + 1 + 1, 2, none⟩ = some (.int .i64 0) := fun z => z.cell (by rw [hW]; simp [go_sem]) (by simp; omega)
    have g2 : ∀ z : Kit.Wd W, z.val.frozen? ⟨w.heap.size + 1 + 1, 2, none⟩ = false := fun z => (z.below.frozen (by simp; omega)).trans (by rw [hW]; simp [go_sem])
    have q3 : ∀ z : Kit.Wd W, z.val.cell? ⟨w.heap.size + 1 + 1, 3, none⟩ = some (.int .i64 0) := fun z => z.cell (by rw [hW]; simp [go_sem]) (by simp; omega)
    have g3 : ∀ z : Kit.Wd W, z.val.frozen? ⟨w.heap.size + 1 + 1, 3, none⟩ = false := fun z => (z.below.frozen (by simp; omega)).trans (by rw [hW]; simp [go_sem])
    have q4 : ∀ z : Kit.Wd W, z.val.cell? ⟨w.heap.size + 1 + 1, 4, none⟩ = some (.int .i64 0) := fun z => z.cell (by rw [hW]; simp [go_sem]) (by simp; omega)
    have g4 : ∀ z : Kit.Wd W, z.val.frozen? ⟨w.heap.size + 1 + 1, 4, none⟩ = false := fun z => (z.below.frozen (by simp; omega)).trans (by rw [hW]; simp [go_sem])
    have q5 : ∀ z : Kit.Wd W, z.val.cell? ⟨w.heap.size + 1 + 1, 5, none⟩ = some (.int .i64 0) := fun z => z.cell (by rw [hW]; simp [go_sem]) (by simp; omega)
    have g5 : ∀ z : Kit.Wd W, z.val.frozen? ⟨w.heap.size + 1 + 1, 5, none⟩ = false := fun z => (z.below.frozen (by simp; omega)).trans (by rw [hW]; simp [go_sem])
    have q6 : ∀ z : Kit.Wd W, z.val.cell? ⟨w.heap.size + 1 + 1, 6, none⟩ = some (.int .i64 0) := fun z => z.cell (by rw [hW]; simp [go_sem]) (by simp; omega)
    have g6 : ∀ z : Kit.Wd W, z.val.frozen? ⟨w.heap.size + 1 + 1, 6, none⟩ = false := fun z => (z.below.frozen (by simp; omega)).trans (by rw [hW]; simp [go_sem])
    have q7 : ∀ z : Kit.Wd W, z.val.cell? ⟨w.heap.size + 1 + 1, 7, none⟩ = some (.int .i64 0) := fun z => z.cell (by rw [hW]; simp [go_sem]) (by simp; omega)
    have g7 : ∀ z : Kit.Wd W, z.val.frozen? ⟨w.heap.size + 1 + 1, 7, none⟩ = false := fun z => (z.below.frozen (by simp; omega)).trans (by rw [hW]; simp [go_sem])
    have q8 : ∀ z : Kit.Wd W, z.val.cell? ⟨w.heap.size + 1 + 1, 8, none⟩ = some (.int .i64 0) := fun z => z.cell (by rw [hW]; simp [go_sem]) (by simp; omega)
    have g8 : ∀ z : Kit.Wd W, z.val.frozen? ⟨w.heap.size + 1 + 1, 8, none⟩ = false := fun z => (z.below.frozen (by simp; omega)).trans (by rw [hW]; simp [go_sem])
    have q9 : ∀ z : Kit.Wd W, z.val.cell? ⟨w.heap.size + 1 + 1, 9, none⟩ = some (.int .i64 0) := fun z => z.cell (by rw [hW]; simp [go_sem]) (by simp; omega)
    have g9 : ∀ z : Kit.Wd W, z.val.frozen? ⟨w.heap.size + 1 + 1, 9, none⟩ = false := fun z => (z.below.frozen (by simp; omega)).trans (by rw [hW]; simp [go_sem])
    have q10 : ∀ z : Kit.Wd W, z.val.cell? ⟨w.heap.size + 1 + 1, 10, none⟩ = some (.int .i64 0) := fun z => z.cell (by rw [hW]; simp [go_sem]) (by simp; omega)
    have g10 : ∀ z : Kit.Wd W, z.val.frozen? ⟨w.heap.size + 1 + 1, 10, none⟩ = false := fun z => (z.below.frozen (by simp; omega)).trans (by rw [hW]; simp [go_sem])
    have q11 : ∀ z : Kit.Wd W, z.val.cell? ⟨w.heap.size + 1 + 1, 11, none⟩ = some (.int .i64 0) := fun z => z.cell (by rw [hW]; simp [go_sem]) (by simp; omega)
    have g11 : ∀ z : Kit.Wd W, z.val.frozen? ⟨w.heap.size + 1 + 1, 11, none⟩ = false := fun z => (z.below.frozen (by simp; omega)).trans (by rw [hW]; simp [go_sem])
    have q12 : ∀ z : Kit.Wd W, z.val.cell? ⟨w.heap.size + 1 + 1, 12, none⟩ = some (.int .i64 0) := fun z => z.cell (by rw [hW]; simp [go_sem]) (by simp; omega)
    have g12 : ∀ z : Kit.Wd W, z.val.frozen? ⟨w.heap.size + 1 + 1, 12, none⟩ = false := fun z => (z.below.frozen (by simp; omega)).trans (by rw [hW]; simp [go_sem])
    have q13 : ∀ z : Kit.Wd W, z.val.cell? ⟨w.heap.size + 1 + 1, 13, none⟩ = some (.int .i64 0) := fun z => z.cell (by rw [hW]; simp [go_sem]) (by simp; omega)
    have g13 : ∀ z : Kit.Wd W, z.val.frozen? ⟨w.heap.size + 1 + 1, 13, none⟩ = false := fun z => (z.below.frozen (by simp; omega)).trans (by rw [hW]; simp [go_sem])
    clear hW
    (refine Kit.wp_region_cls_tail 8 (by kernel_rfl) (by kernel_rfl) ?_; simp only [List.take_succ_cons, List.take_zero, List.drop_succ_cons, List.drop_zero]; (repeat (go_big_quiet_step (first | (with_reducible exact Kit.calls_cls _ (pa_numbers w.heap.size _)) | (with_reducible exact Kit.calls_cls _ (pa_numbers (w.heap.size + 1) _))))); refine wpQuiet_nil ?_; intro z)
    replace k0 := k0 z
    replace q0 := q0 z
    replace g0 := g0 z
    replace k1 := k1 z
    replace q1 := q1 z
    replace g1 := g1 z
    replace k2 := k2 z
    replace q2 := q2 z
    replace g2 := g2 z
    replace k3 := k3 z
    replace q3 := q3 z
    replace g3 := g3 z
    replace k4 := k4 z
    replace q4 := q4 z
    replace g4 := g4 z
    replace k5 := k5 z
    replace q5 := q5 z
    replace g5 := g5 z
    replace k6 := k6 z
    replace q6 := q6 z
    replace g6 := g6 z
    replace k7 := k7 z
    replace q7 := q7 z
    replace g7 := g7 z
    replace k8 := k8 z
    replace q8 := q8 z
    replace g8 := g8 z
    replace k9 := k9 z
    replace q9 := q9 z
    replace g9 := g9 z
    replace k10 := k10 z
    replace q10 := q10 z
    replace g10 := g10 z
    replace k11 := k11 z
    replace q11 := q11 z
    replace g11 := g11 z
    replace k12 := k12 z
    replace q12 := q12 z
    replace g12 := g12 z
    replace k13 := k13 z
    replace q13 := q13 z
    replace g13 := g13 z
    replace y5 := y5 z
    replace f5 := f5 z
    replace y6 := y6 z
    replace f6 := f6 z
    replace y7 := y7 z
    replace f7 := f7 z
    replace y8 := y8 z
    replace f8 := f8 z
    replace y9 := y9 z
    replace f9 := f9 z
    have hz := z.below
    generalize z.val = Z at *
    have HZ := Lib.hid (bW.trans (hz.mono bW.size))
    have zz := hz.size
    clear hz bW
    go_wp2
    (refine bodyPost_ret (by simp [results, Try.results92, go_sem, Kit.cell_set, q0, q1, q2, q3, q4, q5, q6, q7, q8, q9, q10, q11, q12, q13]; try rfl) rfl ?_)
    exact ⟨rfl, by have := HZ.out; (repeat' first | (with_reducible first | exact Below.refl _ _ | assumption | refine Kit.below_drewN ?_ _ | refine Below.drew ?_ | refine Below.alloc ?_ ?_ _ | refine Below.setCell ?_ ?_ _ | exact Nat.le_refl _) | omega | (simp; omega) | (simp; done) | (apply Below.size; assumption))⟩
  · show Calls Try.prog 92 #[Id.sgV x, .int .i64 8, Id.sgV y] w _
    have i0 := Id.nix8 w.heap.size
    have i1 := Id.nix8 (w.heap.size + 1)
    go_enter Try.func92, Try.ntmps92
    go_wp2
    refine Kit.wp_name ?_
    intro W hW
    have sW : W.heap.size = w.heap.size + 1 + 1 + 1 := by rw [hW]; simp
    have bW : Below w.heap.size w W := by rw [hW]; (repeat' first | (with_reducible first | exact Below.refl _ _ | assumption | refine Kit.below_drewN ?_ _ | refine Below.drew ?_ | refine Below.alloc ?_ ?_ _ | refine Below.setCell ?_ ?_ _ | exact Nat.le_refl _) | omega | (simp; omega) | (simp; done) | (apply Below.size; assumption))
    have k0 : ∀ z : Kit.Wd W, z.val.cell? ⟨w.heap.size, 0, none⟩ = some (.int .i64 x.id) := fun z => z.cell (by rw [hW]; simp [go_sem]) (by simp; omega)
    have k1 : ∀ z : Kit.Wd W, z.val.cell? ⟨w.heap.size, 1, none⟩ = some (.int .i64 x.role) := fun z => z.cell (by rw [hW]; simp [go_sem]) (by simp; omega)
    have k2 : ∀ z : Kit.Wd W, z.val.cell? ⟨w.heap.size, 2, none⟩ = some (.int .i64 x.bar) := fun z => z.cell (by rw [hW]; simp [go_sem]) (by simp; omega)
    have k3 : ∀ z : Kit.Wd W, z.val.cell? ⟨w.heap.size, 3, none⟩ = some (.int .i64 x.mark) := fun z => z.cell (by rw [hW]; simp [go_sem]) (by simp; omega)
    have k4 : ∀ z : Kit.Wd W, z.val.cell? ⟨w.heap.size, 4, none⟩ = some (.int .i64 x.kind) := fun z => z.cell (by rw [hW]; simp [go_sem]) (by simp; omega)
    have k5 : ∀ z : Kit.Wd W, z.val.cell? ⟨w.heap.size, 5, none⟩ = some (.int .i64 x.side) := fun z => z.cell (by rw [hW]; simp [go_sem]) (by simp; omega)
    have k6 : ∀ z : Kit.Wd W, z.val.cell? ⟨w.heap.size, 6, none⟩ = some (.int .i64 x.dir) := fun z => z.cell (by rw [hW]; simp [go_sem]) (by simp; omega)
    have k7 : ∀ z : Kit.Wd W, z.val.cell? ⟨w.heap.size, 7, none⟩ = some (.int .i64 x.level) := fun z => z.cell (by rw [hW]; simp [go_sem]) (by simp; omega)
    have k8 : ∀ z : Kit.Wd W, z.val.cell? ⟨w.heap.size, 8, none⟩ = some (.int .i64 x.size) := fun z => z.cell (by rw [hW]; simp [go_sem]) (by simp; omega)
    have k9 : ∀ z : Kit.Wd W, z.val.cell? ⟨w.heap.size, 9, none⟩ = some (.int .i64 x.wth) := fun z => z.cell (by rw [hW]; simp [go_sem]) (by simp; omega)
    have k10 : ∀ z : Kit.Wd W, z.val.cell? ⟨w.heap.size, 10, none⟩ = some (.int .i64 x.fn) := fun z => z.cell (by rw [hW]; simp [go_sem]) (by simp; omega)
    have k11 : ∀ z : Kit.Wd W, z.val.cell? ⟨w.heap.size, 11, none⟩ = some (.int .i64 x.fd) := fun z => z.cell (by rw [hW]; simp [go_sem]) (by simp; omega)
    have k12 : ∀ z : Kit.Wd W, z.val.cell? ⟨w.heap.size, 12, none⟩ = some (.int .i64 x.tn) := fun z => z.cell (by rw [hW]; simp [go_sem]) (by simp; omega)
    have k13 : ∀ z : Kit.Wd W, z.val.cell? ⟨w.heap.size, 13, none⟩ = some (.int .i64 x.td) := fun z => z.cell (by rw [hW]; simp [go_sem]) (by simp; omega)
    have y5 : ∀ z : Kit.Wd W, z.val.cell? ⟨w.heap.size + 1, 5, none⟩ = some (.int .i64 y.side) := fun z => z.cell (by rw [hW]; simp [go_sem]) (by simp; omega)
    have f5 : ∀ z : Kit.Wd W, z.val.frozen? ⟨w.heap.size, 5, none⟩ = false := fun z => (z.below.frozen (by simp; omega)).trans (by rw [hW]; simp [go_sem])
    have y6 : ∀ z : Kit.Wd W, z.val.cell? ⟨w.heap.size + 1, 6, none⟩ = some (.int .i64 y.dir) := fun z => z.cell (by rw [hW]; simp [go_sem]) (by simp; omega)
    have f6 : ∀ z : Kit.Wd W, z.val.frozen? ⟨w.heap.size, 6, none⟩ = false := fun z => (z.below.frozen (by simp; omega)).trans (by rw [hW]; simp [go_sem])
    have y7 : ∀ z : Kit.Wd W, z.val.cell? ⟨w.heap.size + 1, 7, none⟩ = some (.int .i64 y.level) := fun z => z.cell (by rw [hW]; simp [go_sem]) (by simp; omega)
    have f7 : ∀ z : Kit.Wd W, z.val.frozen? ⟨w.heap.size, 7, none⟩ = false := fun z => (z.below.frozen (by simp; omega)).trans (by rw [hW]; simp [go_sem])
    have y8 : ∀ z : Kit.Wd W, z.val.cell? ⟨w.heap.size + 1, 8, none⟩ = some (.int .i64 y.size) := fun z => z.cell (by rw [hW]; simp [go_sem]) (by simp; omega)
    have f8 : ∀ z : Kit.Wd W, z.val.frozen? ⟨w.heap.size, 8, none⟩ = false := fun z => (z.below.frozen (by simp; omega)).trans (by rw [hW]; simp [go_sem])
    have y9 : ∀ z : Kit.Wd W, z.val.cell? ⟨w.heap.size + 1, 9, none⟩ = some (.int .i64 y.wth) := fun z => z.cell (by rw [hW]; simp [go_sem]) (by simp; omega)
    have f9 : ∀ z : Kit.Wd W, z.val.frozen? ⟨w.heap.size, 9, none⟩ = false := fun z => (z.below.frozen (by simp; omega)).trans (by rw [hW]; simp [go_sem])
    have q0 : ∀ z : Kit.Wd W, z.val.cell? ⟨w.heap.size + 1 + 1, 0, none⟩ = some (.int .i64 0) := fun z => z.cell (by rw [hW]; simp [go_sem]) (by simp; omega)
    have g0 : ∀ z : Kit.Wd W, z.val.frozen? ⟨w.heap.size + 1 + 1, 0, none⟩ = false := fun z => (z.below.frozen (by simp; omega)).trans (by rw [hW]; simp [go_sem])
    have q1 : ∀ z : Kit.Wd W, z.val.cell? ⟨w.heap.size + 1 + 1, 1, none⟩ = some (.int .i64 0) := fun z => z.cell (by rw [hW]; simp [go_sem]) (by simp; omega)
    have g1 : ∀ z : Kit.Wd W, z.val.frozen? ⟨w.heap.size + 1 + 1, 1, none⟩ = false := fun z => (z.below.frozen (by simp; omega)).trans (by rw [hW]; simp [go_sem])
    have q2 : ∀ z : Kit.Wd W, z.val.cell? ⟨w.heap.size + 1 + 1, 2, none⟩ = some (.int .i64 0) := fun z => z.cell (by rw [hW]; simp [go_sem]) (by simp; omega)
    have g2 : ∀ z : Kit.Wd W, z.val.frozen? ⟨w.heap.size + 1 + 1, 2, none⟩ = false := fun z => (z.below.frozen (by simp; omega)).trans (by rw [hW]; simp [go_sem])
    have q3 : ∀ z : Kit.Wd W, z.val.cell? ⟨w.heap.size + 1 + 1, 3, none⟩ = some (.int .i64 0) := fun z => z.cell (by rw [hW]; simp [go_sem]) (by simp; omega)
    have g3 : ∀ z : Kit.Wd W, z.val.frozen? ⟨w.heap.size + 1 + 1, 3, none⟩ = false := fun z => (z.below.frozen (by simp; omega)).trans (by rw [hW]; simp [go_sem])
    have q4 : ∀ z : Kit.Wd W, z.val.cell? ⟨w.heap.size + 1 + 1, 4, none⟩ = some (.int .i64 0) := fun z => z.cell (by rw [hW]; simp [go_sem]) (by simp; omega)
    have g4 : ∀ z : Kit.Wd W, z.val.frozen? ⟨w.heap.size + 1 + 1, 4, none⟩ = false := fun z => (z.below.frozen (by simp; omega)).trans (by rw [hW]; simp [go_sem])
    have q5 : ∀ z : Kit.Wd W, z.val.cell? ⟨w.heap.size + 1 + 1, 5, none⟩ = some (.int .i64 0) := fun z => z.cell (by rw [hW]; simp [go_sem]) (by simp; omega)
    have g5 : ∀ z : Kit.Wd W, z.val.frozen? ⟨w.heap.size + 1 + 1, 5, none⟩ = false := fun z => (z.below.frozen (by simp; omega)).trans (by rw [hW]; simp [go_sem])
    have q6 : ∀ z : Kit.Wd W, z.val.cell? ⟨w.heap.size + 1 + 1, 6, none⟩ = some (.int .i64 0) := fun z => z.cell (by rw [hW]; simp [go_sem]) (by simp; omega)
    have g6 : ∀ z : Kit.Wd W, z.val.frozen? ⟨w.heap.size + 1 + 1, 6, none⟩ = false := fun z => (z.below.frozen (by simp; omega)).trans (by rw [hW]; simp [go_sem])
    have q7 : ∀ z : Kit.Wd W, z.val.cell? ⟨w.heap.size + 1 + 1, 7, none⟩ = some (.int .i64 0) := fun z => z.cell (by rw [hW]; simp [go_sem]) (by simp; omega)
    have g7 : ∀ z : Kit.Wd W, z.val.frozen? ⟨w.heap.size + 1 + 1, 7, none⟩ = false := fun z => (z.below.frozen (by simp; omega)).trans (by rw [hW]; simp [go_sem])
    have q8 : ∀ z : Kit.Wd W, z.val.cell? ⟨w.heap.size + 1 + 1, 8, none⟩ = some (.int .i64 0) := fun z => z.cell (by rw [hW]; simp [go_sem]) (by simp; omega)
    have g8 : ∀ z : Kit.Wd W, z.val.frozen? ⟨w.heap.size + 1 + 1, 8, none⟩ = false := fun z => (z.below.frozen (by simp; omega)).trans (by rw [hW]; simp [go_sem])
    have q9 : ∀ z : Kit.Wd W, z.val.cell? ⟨w.heap.size + 1 + 1, 9, none⟩ = some (.int .i64 0) := fun z => z.cell (by rw [hW]; simp [go_sem]) (by simp; omega)
    have g9 : ∀ z : Kit.Wd W, z.val.frozen? ⟨w.heap.size + 1 + 1, 9, none⟩ = false := fun z => (z.below.frozen (by simp; omega)).trans (by rw [hW]; simp [go_sem])
    have q10 : ∀ z : Kit.Wd W, z.val.cell? ⟨w.heap.size + 1 + 1, 10, none⟩ = some (.int .i64 0) := fun z => z.cell (by rw [hW]; simp [go_sem]) (by simp; omega)
    have g10 : ∀ z : Kit.Wd W, z.val.frozen? ⟨w.heap.size + 1 + 1, 10, none⟩ = false := fun z => (z.below.frozen (by simp; omega)).trans (by rw [hW]; simp [go_sem])
    have q11 : ∀ z : Kit.Wd W, z.val.cell? ⟨w.heap.size + 1 + 1, 11, none⟩ = some (.int .i64 0) := fun z => z.cell (by rw [hW]; simp [go_sem]) (by simp; omega)
    have g11 : ∀ z : Kit.Wd W, z.val.frozen? ⟨w.heap.size + 1 + 1, 11, none⟩ = false := fun z => (z.below.frozen (by simp; omega)).trans (by rw [hW]; simp [go_sem])
    have q12 : ∀ z : Kit.Wd W, z.val.cell? ⟨w.heap.size + 1 + 1, 12, none⟩ = some (.int .i64 0) := fun z => z.cell (by rw [hW]; simp [go_sem]) (by simp; omega)
    have g12 : ∀ z : Kit.Wd W, z.val.frozen? ⟨w.heap.size + 1 + 1, 12, none⟩ = false := fun z => (z.below.frozen (by simp; omega)).trans (by rw [hW]; simp [go_sem])
    have q13 : ∀ z : Kit.Wd W, z.val.cell? ⟨w.heap.size + 1 + 1, 13, none⟩ = some (.int .i64 0) := fun z => z.cell (by rw [hW]; simp [go_sem]) (by simp; omega)
    have g13 : ∀ z : Kit.Wd W, z.val.frozen? ⟨w.heap.size + 1 + 1, 13, none⟩ = false := fun z => (z.below.frozen (by simp; omega)).trans (by rw [hW]; simp [go_sem])
    clear hW
    (refine Kit.wp_region_cls_tail 8 (by kernel_rfl) (by kernel_rfl) ?_; simp only [List.take_succ_cons, List.take_zero, List.drop_succ_cons, List.drop_zero]; (repeat (go_big_quiet_step (first | (with_reducible exact Kit.calls_cls _ (pa_numbers w.heap.size _)) | (with_reducible exact Kit.calls_cls _ (pa_numbers (w.heap.size + 1) _))))); refine wpQuiet_nil ?_; intro z)
    replace k0 := k0 z
    replace q0 := q0 z
    replace g0 := g0 z
    replace k1 := k1 z
    replace q1 := q1 z
    replace g1 := g1 z
    replace k2 := k2 z
    replace q2 := q2 z
    replace g2 := g2 z
    replace k3 := k3 z
    replace q3 := q3 z
    replace g3 := g3 z
    replace k4 := k4 z
    replace q4 := q4 z
    replace g4 := g4 z
    replace k5 := k5 z
    replace q5 := q5 z
    replace g5 := g5 z
    replace k6 := k6 z
    replace q6 := q6 z
    replace g6 := g6 z
    replace k7 := k7 z
    replace q7 := q7 z
    replace g7 := g7 z
    replace k8 := k8 z
    replace q8 := q8 z
    replace g8 := g8 z
    replace k9 := k9 z
    replace q9 := q9 z
    replace g9 := g9 z
    replace k10 := k10 z
    replace q10 := q10 z
    replace g10 := g10 z
    replace k11 := k11 z
    replace q11 := q11 z
    replace g11 := g11 z
    replace k12 := k12 z
    replace q12 := q12 z
    replace g12 := g12 z
    replace k13 := k13 z
    replace q13 := q13 z
    replace g13 := g13 z
    replace y5 := y5 z
    replace f5 := f5 z
    replace y6 := y6 z
    replace f6 := f6 z
    replace y7 := y7 z
    replace f7 := f7 z
    replace y8 := y8 z
    replace f8 := f8 z
    replace y9 := y9 z
    replace f9 := f9 z
    have hz := z.below
    generalize z.val = Z at *
    have HZ := Lib.hid (bW.trans (hz.mono bW.size))
    have zz := hz.size
    clear hz bW
    go_wp2
    (refine bodyPost_ret (by simp [results, Try.results92, go_sem, Kit.cell_set, q0, q1, q2, q3, q4, q5, q6, q7, q8, q9, q10, q11, q12, q13]; try rfl) rfl ?_)
    exact ⟨rfl, by have := HZ.out; (repeat' first | (with_reducible first | exact Below.refl _ _ | assumption | refine Kit.below_drewN ?_ _ | refine Below.drew ?_ | refine Below.alloc ?_ ?_ _ | refine Below.setCell ?_ ?_ _ | exact Nat.le_refl _) | omega | (simp; omega) | (simp; done) | (apply Below.size; assumption))⟩
end Go.Proofs.Ytdaedjmkolcliaa
