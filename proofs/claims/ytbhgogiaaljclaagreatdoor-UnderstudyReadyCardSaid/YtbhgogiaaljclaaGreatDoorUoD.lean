/- Walks: package options: dot. -/
import Derived.Test.YtbhgogiaaljclaaGreatDoorUoV
import Derived.BigQuiet
set_option linter.unusedSimpArgs false
set_option linter.unusedVariables false
set_option maxRecDepth 100000
set_option maxHeartbeats 8000000
namespace Go.Proofs.YtbhgogiaaljclaaGreatDoor
open Go.RowKit
theorem Uo.eq_vec (x y z : Int) (w : World) : (Op.equalIn 10000 188 (.agg #[.int .i64 x, .int .i64 y, .int .i64 z]) (.agg #[.int .i64 0, .int .i64 0, .int .i64 0])).run Tryz.prog w = .ok (x == 0 && y == 0 && z == 0) w := by
 simp [go_sem]
 by_cases h : x = 0
 case neg => simp [h]
 subst h
 by_cases h : y = 0
 case neg => simp [h]
 subst h
 by_cases h : z = 0
 case neg => simp [h]
 subst h
 simp
theorem uo_dot (a b d v : Nat) (w : World) (ha : a < 9) (hb : 0 < b) (hb3 : b < 4) (hd : d < 9) (hv : 0 < v) (hv3 : v < 4) (hF : Uo.Flat w) :
  Calls Tryz.prog 197 #[.int .i64 a, .int .i64 b, .int .i64 d, .int .i64 v] w fun e w' => e = .returned (.tuple #[.int .i64 (Uo.dt a b d v), .bool (Uo.nz a b && Uo.nz d v)]) ∧ Below w.heap.size w w' := by
 have H1 := qh (fun W hW => sp_vec a b W ha hb hb3 (hF.kept hW nlr))
 have H2 := qh (fun W hW => sp_vec d v W hd hv hv3 (hF.kept hW nlr))
 have n1 := Uo.nz_eq a ha b hb3 hb
 have n2 := Uo.nz_eq d hd v hv3 hv
 have b1 := Uo.v_bd a ha b hb3 hb
 have b2 := Uo.v_bd d hd v hv3 hv
 unfold Uo.dt
 unfold Uo.vecV at H1 H2
 generalize Uo.vx a b = x at *
 generalize Uo.vy a b = y at *
 generalize Uo.vz a b = z at *
 generalize Uo.vx d v = x' at *
 generalize Uo.vy d v = y' at *
 generalize Uo.vz d v = z' at *
 generalize Uo.nz a b = N at *
 generalize Uo.nz d v = M at *
 have H3 := qh (fun W => so_dot x y z x' y' z' W b1.1 b1.2.1 b1.2.2 b2.1 b2.2.1 b2.2.2)
 have e1 := fun w => Uo.eq_vec x y z w
 have e2 := fun w => Uo.eq_vec x' y' z' w
 generalize x * x' + y * y' + z * z' = R at *
 generalize (x == 0 && y == 0 && z == 0) = P at *
 generalize (x' == 0 && y' == 0 && z' == 0) = Q at *
 subst n1 n2
 clear b1 b2 hF
 go_enter Tryz.func197, Tryz.ntmps197
 go_wp2_with fail
 refine (H1.out _ (by exact Kit.gr)).mono ?_
 rintro _ w1 ⟨rfl, hb1⟩
 have hb1' : Below w.heap.size w w1 := by first | exact hb1 | exact Below.trans (n := w.heap.size) (by exact Kit.gr) (hb1.mono (by simp))
 clear hb1
 go_wp2_with fail
 refine (H2.out _ (by exact hb1'.alloc (by exact hb1'.size) _)).mono ?_
 rintro _ w2 ⟨rfl, hb2⟩
 have x0 : w2.cell? ⟨w1.heap.size, 0, none⟩ = some (.int .i64 x) := (hb2.cell (by simp)).trans (by simp [go_sem])
 have x1 : w2.cell? ⟨w1.heap.size, 1, none⟩ = some (.int .i64 y) := (hb2.cell (by simp)).trans (by simp [go_sem])
 have x2 : w2.cell? ⟨w1.heap.size, 2, none⟩ = some (.int .i64 z) := (hb2.cell (by simp)).trans (by simp [go_sem])
 have hz2 : w1.heap.size < w2.heap.size := by have := hb2.size; simp at this; omega
 have hb2' : Below w.heap.size w w2 := (hb1'.alloc hb1'.size _).trans (hb2.mono (by have := hb1'.size; simp; omega))
 clear hb2
 obtain ⟨B1, hB1⟩ : ∃ B1, B1 = w1.heap.size := ⟨_, rfl⟩
 rw [← hB1] at x0 x1 x2 hz2 ⊢
 clear hB1 hb1' H1 H2
 go_wp2_with fail
 refine (H3.out _).mono ?_
 rintro _ w3 ⟨rfl, hb3'⟩
 have y0 : w3.cell? ⟨w2.heap.size, 0, none⟩ = some (.int .i64 x') := (hb3'.cell (by simp)).trans (by simp [go_sem])
 have y1 : w3.cell? ⟨w2.heap.size, 1, none⟩ = some (.int .i64 y') := (hb3'.cell (by simp)).trans (by simp [go_sem])
 have y2 : w3.cell? ⟨w2.heap.size, 2, none⟩ = some (.int .i64 z') := (hb3'.cell (by simp)).trans (by simp [go_sem])
 replace x0 : w3.cell? ⟨B1, 0, none⟩ = some (.int .i64 x) := (hb3'.cell (by simp; omega)).trans (by simp [go_sem, x0, hz2])
 replace x1 : w3.cell? ⟨B1, 1, none⟩ = some (.int .i64 y) := (hb3'.cell (by simp; omega)).trans (by simp [go_sem, x1, hz2])
 replace x2 : w3.cell? ⟨B1, 2, none⟩ = some (.int .i64 z) := (hb3'.cell (by simp; omega)).trans (by simp [go_sem, x2, hz2])
 have hb3w : Below w.heap.size w w3 := (hb2'.alloc hb2'.size _).trans (hb3'.mono (by have := hb2'.size; simp; omega))
 clear hb3' hb2' hz2
 have HB := qh hb3w
 clear hb3w
 generalize w2.heap.size = B2 at *
 cases P <;> cases Q
 all_goals
  go_wp2_with fail
  go_quiet (fail)
  go_wp2_with fail
  go_ret2
  exact ⟨rfl, HB.out.trans ⟨rfl, rfl, rfl, Nat.le_refl _, fun _ _ => rfl⟩⟩
end Go.Proofs.YtbhgogiaaljclaaGreatDoor
