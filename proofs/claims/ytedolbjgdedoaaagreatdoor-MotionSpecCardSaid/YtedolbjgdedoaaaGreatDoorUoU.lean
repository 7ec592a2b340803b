/- Walks: package space: vectors of directions (Vector). -/
import Derived.Test.YtedolbjgdedoaaaGreatDoorUoa
import Derived.Test.YtedolbjgdedoaaaGreatDoorEx
import Derived.Test.YtedolbjgdedoaaaGreatDoorKit
set_option linter.unusedSimpArgs false
set_option linter.unusedVariables false
set_option maxRecDepth 100000
set_option maxHeartbeats 8000000
namespace Go.Proofs.YtedolbjgdedoaaaGreatDoor
open Go.RowKit
namespace Uo
def Flat (w : World) : Prop := 1 < w.heap.size ∧ ∀ k, k < 8 → w.cell? ⟨1, k * 2, none⟩ = some (.int .i64 (fl k).1) ∧ w.cell? ⟨1, k * 2 + 1, none⟩ = some (.int .i64 (fl k).2)
theorem Flat.kept {w w' : World} (h : Flat w) {B : Nat} (hb : Below B w w') (hB : w.heap.size ≤ B) : Flat w' := by
 obtain ⟨h0, h1⟩ := h
 refine ⟨Nat.lt_of_lt_of_le h0 hb.size, fun k hk => ?_⟩
 obtain ⟨a, b⟩ := h1 k hk
 exact ⟨(hb.cell (by simp; omega)).trans a, (hb.cell (by simp; omega)).trans b⟩
theorem fl_bd : ∀ k, k < 8 → (-29 ≤ (fl k).1 ∧ (fl k).1 ≤ 29) ∧ (-29 ≤ (fl k).2 ∧ (fl k).2 ≤ 29) := by decide +kernel
def scale (u n : Int) : Int := if u = 0 then 29 * n else 20 * n
theorem scale_eq (v : Nat) (n : Int) : scale ((v : Int) - 2) n = sc v * n := by
 unfold scale sc
 by_cases h : v = 2
 ·subst h; rfl
 ·rw [if_neg h, if_neg omg]
abbrev vecV (d v : Nat) : Value := .agg #[.int .i64 (vx d v), .int .i64 (vy d v), .int .i64 (vz d v)]
end Uo
theorem sp_scale (u n : Int) (b : Nat) (w : World) (hb : w.cell? ⟨b, 0, none⟩ = some (.int .i64 u)) (h1 : -29 ≤ n) (h2 : n ≤ 29) :
  Calls Tryz.prog 82 #[.int .i64 n, .pointer (some ⟨b, 0, none⟩)] w fun e w' => e = .returned (.int .i64 (Uo.scale u n)) ∧ Below w.heap.size w w' := by
 go_enter Tryz.func82, Tryz.ntmps82
 by_cases h : u = 0
 ·subst h
  go_wp2
  go_ret
  exact ⟨by unfold Uo.scale; rw [if_pos rfl]; rfl, by exact Kit.gr⟩
 ·go_wp2
  go_ret
  exact ⟨by unfold Uo.scale; rw [if_neg h]; rfl, by exact Kit.gr⟩
theorem sp_vec0 (v : Nat) (w : World) (hv : 0 < v) (hv3 : v < 4) :
  Calls Tryz.prog 42 #[.int .i64 0, .int .i64 v] w fun e w' => e = .returned (.tuple #[Uo.vecV 0 v, .int .i64 0]) ∧ Below w.heap.size w w' := by
 have hvi : (1 : Int) ≤ v ∧ (v : Int) ≤ 3 := by omega
 have e0 : Uo.vecV 0 v = .agg #[.int .i64 0, .int .i64 0, .int .i64 (841 * ((v : Int) - 2))] := rfl
 rw [e0]
 clear e0
 go_enter Tryz.func42, Tryz.ntmps42
 go_wp2
 (refine bodyPost_ret (by simp [results, Tryz.results42, go_sem, Kit.cell_set]; try rfl) rfl ?_)
 exact ⟨rfl, by exact Kit.gr⟩
theorem sp_vec1 (k v : Nat) (w : World) (hk : k < 8) (hv : 0 < v) (hv3 : v < 4) (hF : Uo.Flat w) :
  Calls Tryz.prog 42 #[.int .i64 ((k + 1 : Nat) : Int), .int .i64 v] w fun e w' => e = .returned (.tuple #[Uo.vecV (k + 1) v, .int .i64 0]) ∧ Below w.heap.size w w' := by
 have hvi : (1 : Int) ≤ v ∧ (v : Int) ≤ 3 := by omega
 have e0 : Uo.vecV (k + 1) v = .agg #[.int .i64 (Uo.scale ((v : Int) - 2) (Uo.fl k).1), .int .i64 (Uo.scale ((v : Int) - 2) (Uo.fl k).2), .int .i64 (609 * ((v : Int) - 2))] := by
  rw [Uo.scale_eq, Uo.scale_eq]; rfl
 rw [e0]
 clear e0
 obtain ⟨f0, f1⟩ := hF.2 k hk
 have hbd := Uo.fl_bd k hk
 have hz := hF.1
 have hz0 : 0 < w.heap.size := by omega
 generalize Uo.fl k = F at *
 obtain ⟨X, Y⟩ := F
 dsimp only at f0 f1 hbd ⊢
 have HBD := qh hbd
 clear hbd hF
 have ek : (((k + 1 : Nat) : Int) - 1) = (k : Int) := by omega
 go_enter Tryz.func42, Tryz.ntmps42
 have hC := fun (n : Int) (h1 : -29 ≤ n) (h2 : n ≤ 29) (b : Nat) (W : World) (hb : W.cell? ⟨b, 0, none⟩ = some (.int .i64 ((v : Int) - 2))) => sp_scale ((v : Int) - 2) n b W hb h1 h2
 have HC := qh hC
 clear hC
 go_wp2_with fail
 refine Kit.wp_name ?_
 intro W1 hW1
 have hb1 : Below w.heap.size w W1 := by rw [hW1]; exact Kit.gr
 have hs1 : W1.heap.size = w.heap.size + 3 := by rw [hW1]; simp
 have ku : ∀ z : Kit.Wd W1, z.val.cell? ⟨w.heap.size + 1, 0, none⟩ = some (.int .i64 ((v : Int) - 2)) := fun z => z.cell (by rw [hW1]; simp [go_sem]) (by simp; omega)
 have k0 : ∀ z : Kit.Wd W1, z.val.cell? ⟨w.heap.size + 1 + 1, 0, none⟩ = some (.int .i64 X) := fun z => z.cell (by rw [hW1]; simp [go_sem]) (by simp; omega)
 have k1 : ∀ z : Kit.Wd W1, z.val.cell? ⟨w.heap.size + 1 + 1, 1, none⟩ = some (.int .i64 Y) := fun z => z.cell (by rw [hW1]; simp [go_sem]) (by simp; omega)
 have r0 : ∀ z : Kit.Wd W1, z.val.cell? ⟨w.heap.size, 0, none⟩ = some (.int .i64 0) := fun z => z.cell (by rw [hW1]; simp [go_sem]) (by simp; omega)
 have r1 : ∀ z : Kit.Wd W1, z.val.cell? ⟨w.heap.size, 1, none⟩ = some (.int .i64 0) := fun z => z.cell (by rw [hW1]; simp [go_sem]) (by simp; omega)
 have r2 : ∀ z : Kit.Wd W1, z.val.cell? ⟨w.heap.size, 2, none⟩ = some (.int .i64 0) := fun z => z.cell (by rw [hW1]; simp [go_sem]) (by simp; omega)
 have q0 : ∀ (z : Kit.Wd W1) (j : Nat), z.val.frozen? ⟨w.heap.size, j, none⟩ = false := fun z j => by
  rw [World.frozen?_of_block (z.below.block w.heap.size omg), hW1]; simp [go_sem]
 have HX := qh (fun z : Kit.Wd W1 => HC.out X HBD.out.1.1 HBD.out.1.2 _ z.val (ku z))
 have HY := qh (fun z : Kit.Wd W1 => HC.out Y HBD.out.2.1 HBD.out.2.2 _ z.val (ku z))
 clear hW1
 (refine Kit.wp_region_cls_tail 11 (by kernel_rfl) (by kernel_rfl) ?_; simp only [List.take_succ_cons, List.take_zero, List.drop_succ_cons, List.drop_zero]; (repeat (go_big_quiet_step (first | (with_reducible exact Kit.calls_cls _ (HX.out _)) | (with_reducible exact Kit.calls_cls _ (HY.out _))))); refine wpQuiet_nil ?_; intro z)
 replace r0 := r0 z
 replace r1 := r1 z
 replace r2 := r2 z
 have q1 := q0 z 1
 have q2 := q0 z 2
 replace q0 := q0 z 0
 have hbz : Below w.heap.size w z.val := hb1.trans (z.below.mono omg)
 generalize z.val = Z at *
 have HBZ := qh hbz
 clear hbz ku k0 k1 hb1 hs1 f0 f1
 go_wp2
 (refine bodyPost_ret (by simp [results, Tryz.results42, go_sem, Kit.cell_set, r0, r1, r2]; try rfl) rfl ?_)
 exact ⟨rfl, ((HBZ.out.setCell (by simp) _).setCell (by simp) _).setCell (by simp) _⟩

theorem sp_vec (d v : Nat) (w : World) (hd : d < 9) (hv : 0 < v) (hv3 : v < 4) (hF : Uo.Flat w) :
  Calls Tryz.prog 42 #[.int .i64 d, .int .i64 v] w fun e w' => e = .returned (.tuple #[Uo.vecV d v, .int .i64 0]) ∧ Below w.heap.size w w' := by
 rcases d with _ | k
 ·exact sp_vec0 v w hv hv3
 ·exact sp_vec1 k v w omg hv hv3 hF
end Go.Proofs.YtedolbjgdedoaaaGreatDoor
