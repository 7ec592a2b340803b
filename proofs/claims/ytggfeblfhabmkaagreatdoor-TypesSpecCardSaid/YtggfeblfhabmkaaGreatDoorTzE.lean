/- The table of kinds: what the row's premise gives the walks (layer 20). -/
import Derived.Test.YtggfeblfhabmkaaGreatDoorRows
import Derived.Test.YtggfeblfhabmkaaGreatDoorKitk
import Derived.Test.YtggfeblfhabmkaaGreatDoorEx
import Derived.LaidMore
import Derived.Stop.Joined
import Derived.MakeChecks
namespace Go.Proofs.YtggfeblfhabmkaaGreatDoor
set_option linter.unusedVariables false
set_option linter.unusedSimpArgs false
open Go.ChangeShapes Go.WideShapes Go.ChangeAt Go.RowKit Go.Joins

namespace Lw
abbrev laid : List (String × DataW Unit) := [("kinesphere/expand.kinds", Rows.laid_kinesphere_expand_kinds)]
theorem gK : Tryz.prog.globalNamed "kinesphere/expand.kinds" = some 0 := by kernel_rfl
theorem tK : (Tryz.prog.globals[0]?).map (·.type) = some 96 := by kernel_rfl
def rows : List (DataW Unit) := (List.range 10).map fun k => .agg [.lit (.bool (Ex.rule k).sd), .lit (.bool (Ex.rule k).dr), .lit (.bool (Ex.rule k).wt), .lit (.int .i64 (Ex.rule k).pl), .lit (.int .i64 (Ex.rule k).lv), .lit (.int .i64 (Ex.rule k).sz)]
theorem rows_eq : (Rows.laid_kinesphere_expand_kinds : DataW Unit) = .agg rows := by kernel_rfl
theorem rows_at (k : Nat) (hk : k < 10) : rows[k]? = some (.agg [.lit (.bool (Ex.rule k).sd), .lit (.bool (Ex.rule k).dr), .lit (.bool (Ex.rule k).wt), .lit (.int .i64 (Ex.rule k).pl), .lit (.int .i64 (Ex.rule k).lv), .lit (.int .i64 (Ex.rule k).sz)]) := by
  simp [rows, hk]
set_option maxRecDepth 100000 in
theorem row {H : Type} {enc : TypeId × Value → H} {w : World} {base : Nat} {spare : Nat → Bool} {held : Bool} {fuel : Nat} {cs : List Value} {x : DataW H × List MemPlace} (h : DataW.trod enc Tryz.prog w base spare held fuel 95 cs = some x) (r : Ex.Rl)
    (hx : x.1 = .agg [.lit (.bool r.sd), .lit (.bool r.dr), .lit (.bool r.wt), .lit (.int .i64 r.pl), .lit (.int .i64 r.lv), .lit (.int .i64 r.sz)]) :
    cs = [.bool r.sd, .bool r.dr, .bool r.wt, .int .i64 r.pl, .int .i64 r.lv, .int .i64 r.sz] := by
  obtain ⟨ds, e, hl, hc, hf⟩ := Kit.sub_trod Tryz.underlying95 h
  rw [e] at hx
  obtain rfl : ds = _ := by simpa using hx
  have c6 : Tryz.prog.cellsOf 95 = 6 := by kernel_rfl
  have cb : Tryz.prog.cellsOf 4 = 1 := by kernel_rfl
  have ci : Tryz.prog.cellsOf 3 = 1 := by kernel_rfl
  rw [c6] at hc
  match cs, hc with
  | [a0, a1, a2, a3, a4, a5], _ =>
    obtain ⟨n0, y0, k0, d0⟩ := hf 0 _ rfl
    obtain ⟨n1, y1, k1, d1⟩ := hf 1 _ rfl
    obtain ⟨n2, y2, k2, d2⟩ := hf 2 _ rfl
    obtain ⟨n3, y3, k3, d3⟩ := hf 3 _ rfl
    obtain ⟨n4, y4, k4, d4⟩ := hf 4 _ rfl
    obtain ⟨n5, y5, k5, d5⟩ := hf 5 _ rfl
    have k0' : DataW.trod enc Tryz.prog w base spare held n0 4 (([a0, a1, a2, a3, a4, a5].drop 0).take (Tryz.prog.cellsOf 4)) = some y0 := k0
    have k1' : DataW.trod enc Tryz.prog w base spare held n1 4 (([a0, a1, a2, a3, a4, a5].drop 1).take (Tryz.prog.cellsOf 4)) = some y1 := k1
    have k2' : DataW.trod enc Tryz.prog w base spare held n2 4 (([a0, a1, a2, a3, a4, a5].drop 2).take (Tryz.prog.cellsOf 4)) = some y2 := k2
    have k3' : DataW.trod enc Tryz.prog w base spare held n3 3 (([a0, a1, a2, a3, a4, a5].drop 3).take (Tryz.prog.cellsOf 3)) = some y3 := k3
    have k4' : DataW.trod enc Tryz.prog w base spare held n4 3 (([a0, a1, a2, a3, a4, a5].drop 4).take (Tryz.prog.cellsOf 3)) = some y4 := k4
    have k5' : DataW.trod enc Tryz.prog w base spare held n5 3 (([a0, a1, a2, a3, a4, a5].drop 5).take (Tryz.prog.cellsOf 3)) = some y5 := k5
    simp only [cb, ci, List.drop_succ_cons, List.drop_zero, List.take_succ_cons, List.take_zero] at k0' k1' k2' k3' k4' k5'
    obtain ⟨b0, rfl, z0⟩ := Kit.bool_at Tryz.underlying4 k0'
    obtain ⟨b1, rfl, z1⟩ := Kit.bool_at Tryz.underlying4 k1'
    obtain ⟨b2, rfl, z2⟩ := Kit.bool_at Tryz.underlying4 k2'
    obtain ⟨b3, rfl, z3, _⟩ := Kit.int_at Tryz.underlying3 k3'
    obtain ⟨b4, rfl, z4, _⟩ := Kit.int_at Tryz.underlying3 k4'
    obtain ⟨b5, rfl, z5, _⟩ := Kit.int_at Tryz.underlying3 k5'
    rw [z0] at d0
    rw [z1] at d1
    rw [z2] at d2
    rw [z3] at d3
    rw [z4] at d4
    rw [z5] at d5
    simp at d0 d1 d2 d3 d4 d5
    rw [d0, d1, d2, d3, d4, d5]

/-- The premise gives the walks their table. -/
theorem of_laid {W : World} (h : laidMetH Tryz.prog laid W) : Ex.Laid W := by
  rw [MakeChecks.laidMetH_plain _ _ _ (by kernel_rfl)] at h
  obtain ⟨ps, ⟨g0, t0, cs0, f0, p0, q0, hg0, ht0, hv0, hd0, _, _⟩, _⟩ := h
  obtain rfl := Option.some.inj (gK.symm.trans hg0)
  obtain rfl := Option.some.inj (tK.symm.trans ht0)
  obtain ⟨ds, e, hl, hc, hf⟩ := Kit.arr_trod Tryz.underlying96 hd0
  have c6 : Tryz.prog.cellsOf 95 = 6 := by kernel_rfl
  have ca : Tryz.prog.cellsOf 96 = 60 := by kernel_rfl
  rw [ca] at hc
  have hcell : ∀ off, W.cell? ⟨0, off, none⟩ = cs0.toList[off]? := fun off => by rw [World.var?_cell hg0 hv0 off]; simp
  have e2 : rows = ds := by
    have h1 := e
    simp only [rows_eq, DataW.agg.injEq] at h1
    exact h1
  have key : ∀ k, k < 10 → (cs0.toList.drop (k * 6)).take 6 = [.bool (Ex.rule k).sd, .bool (Ex.rule k).dr, .bool (Ex.rule k).wt, .int .i64 (Ex.rule k).pl, .int .i64 (Ex.rule k).lv, .int .i64 (Ex.rule k).sz] := by
    intro k hk
    obtain ⟨m, y, hy, hd⟩ := hf k hk
    rw [c6] at hy
    refine row hy (Ex.rule k) ?_
    rw [← e2, rows_at k hk] at hd
    exact (Option.some.inj hd).symm
  have at_ : ∀ k j v, k < 10 → j < 6 → [Value.bool (Ex.rule k).sd, .bool (Ex.rule k).dr, .bool (Ex.rule k).wt, .int .i64 (Ex.rule k).pl, .int .i64 (Ex.rule k).lv, .int .i64 (Ex.rule k).sz][j]? = some v → W.cell? ⟨0, k * 6 + j, none⟩ = some v := by
    intro k j v hk hj hv
    rw [hcell, ← hv, ← key k hk, List.getElem?_take_of_lt hj, List.getElem?_drop]
  refine ⟨?_, fun k hk => ⟨?_, ?_, ?_, ?_, ?_, ?_⟩⟩
  · have h0 := at_ 0 0 _ (by omega) (by omega) rfl
    rcases Nat.eq_zero_or_pos W.heap.size with hz | hz
    · simp [World.cell?, Array.getElem?_eq_none (show W.heap.size ≤ 0 by omega)] at h0
    · exact hz
  · exact at_ k 0 _ hk (by omega) rfl
  · exact at_ k 1 _ hk (by omega) rfl
  · exact at_ k 2 _ hk (by omega) rfl
  · exact at_ k 3 _ hk (by omega) rfl
  · exact at_ k 4 _ hk (by omega) rfl
  · exact at_ k 5 _ hk (by omega) rfl
section
variable {H : Type} {enc : TypeId × Value → H} {w : World} {base : Nat} {spare : Nat → Bool} {held : Bool} {fuel : Nat} {cs : List Value} {x : DataW H × List MemPlace}
theorem ci : Tryz.prog.cellsOf 3 = 1 := by kernel_rfl
end
end Lw
end Go.Proofs.YtggfeblfhabmkaaGreatDoor
