/- The table of kinds: what the row's premise gives the walks (layer 27). Opening works that are handed in (layer 27). -/
import Derived.Test.YtedolbjgdedoaaaGreatDoorRows
import Derived.Test.YtedolbjgdedoaaaGreatDoorKxc
import Derived.Test.YtedolbjgdedoaaaGreatDoorEx
import Derived.Test.YtedolbjgdedoaaaGreatDoorUoU
import Derived.Test.YtedolbjgdedoaaaGreatDoorMou
import Derived.LaidMore
import Derived.Stop.Joined
import Derived.MakeChecks
import Derived.Test.YtedolbjgdedoaaaGreatDoorMom
set_option linter.unusedSimpArgs false
set_option linter.unusedVariables false
set_option maxRecDepth 100000
namespace Go.Proofs.YtedolbjgdedoaaaGreatDoor
open Go.ChangeShapes Go.WideShapes Go.ChangeAt Go.RowKit Go.Joins

namespace Lw
abbrev laid : List (String × DataW Unit) := [("kinesphere/space.flat", Rows.laid_kinesphere_space_flat), ("kinesphere/expand.kinds", Rows.laid_kinesphere_expand_kinds), ("kinesphere/motion.kinds", Rows.laid_kinesphere_motion_kinds)]
theorem gK : Tryz.prog.globalNamed "kinesphere/expand.kinds" = some 2 := by kernel_rfl
theorem tK : (Tryz.prog.globals[2]?).map (·.type) = some 179 := by kernel_rfl
def rows : List (DataW Unit) := (List.range 10).map fun k => .agg [.lit (.bool (Ex.rule k).sd), .lit (.bool (Ex.rule k).dr), .lit (.bool (Ex.rule k).wt), .lit (.int .i64 (Ex.rule k).pl), .lit (.int .i64 (Ex.rule k).lv), .lit (.int .i64 (Ex.rule k).sz)]
theorem rows_eq : (Rows.laid_kinesphere_expand_kinds : DataW Unit) = .agg rows := by kernel_rfl
theorem rows_at (k : Nat) (hk : k < 10) : rows[k]? = some (.agg [.lit (.bool (Ex.rule k).sd), .lit (.bool (Ex.rule k).dr), .lit (.bool (Ex.rule k).wt), .lit (.int .i64 (Ex.rule k).pl), .lit (.int .i64 (Ex.rule k).lv), .lit (.int .i64 (Ex.rule k).sz)]) := by
 simp [rows, hk]
theorem row {H : Type} {enc : TypeId × Value → H} {w : World} {base : Nat} {spare : Nat → Bool} {held : Bool} {fuel : Nat} {cs : List Value} {x : DataW H × List MemPlace} (h : DataW.trod enc Tryz.prog w base spare held fuel 178 cs = some x) (r : Ex.Rl)
  (hx : x.1 = .agg [.lit (.bool r.sd), .lit (.bool r.dr), .lit (.bool r.wt), .lit (.int .i64 r.pl), .lit (.int .i64 r.lv), .lit (.int .i64 r.sz)]) :
  cs = [.bool r.sd, .bool r.dr, .bool r.wt, .int .i64 r.pl, .int .i64 r.lv, .int .i64 r.sz] := by
 obtain ⟨ds, e, hl, hc, hf⟩ := Kit.sub_trod Tryz.underlying178 h
 rw [e] at hx
 obtain rfl : ds = _ := by simpa using hx
 have c6 : Tryz.prog.cellsOf 178 = 6 := by kernel_rfl
 have cb : Tryz.prog.cellsOf 4 = 1 := by kernel_rfl
 have ci : Tryz.prog.cellsOf 3 = 1 := by kernel_rfl
 rw [c6] at hc
 match cs, hc with
 | [a0, a1, a2, a3, a4, a5], _ =>
  obtain ⟨n0, y0, k0, d0⟩ := hf 0 _ rfl
  obtain ⟨n1, y1, k1, d1⟩ := hf 1 _ rfl
  obtain ⟨n2, y2, k2, d2⟩ := hf 2 _ rfl
  obtain ⟨n3, y3, k3, d3⟩ := hf 3 _ rfl
  obtain ⟨n4, y4, k4, d4⟩ := hf 4 _ rfl
  obtain ⟨n5, y5, k5, d5⟩ := hf 5 _ rfl
  have k0' : DataW.trod enc Tryz.prog w base spare held n0 4 (([a0, a1, a2, a3, a4, a5].drop 0).take (Tryz.prog.cellsOf 4)) = some y0 := k0
  have k1' : DataW.trod enc Tryz.prog w base spare held n1 4 (([a0, a1, a2, a3, a4, a5].drop 1).take (Tryz.prog.cellsOf 4)) = some y1 := k1
  have k2' : DataW.trod enc Tryz.prog w base spare held n2 4 (([a0, a1, a2, a3, a4, a5].drop 2).take (Tryz.prog.cellsOf 4)) = some y2 := k2
  have k3' : DataW.trod enc Tryz.prog w base spare held n3 3 (([a0, a1, a2, a3, a4, a5].drop 3).take (Tryz.prog.cellsOf 3)) = some y3 := k3
  have k4' : DataW.trod enc Tryz.prog w base spare held n4 3 (([a0, a1, a2, a3, a4, a5].drop 4).take (Tryz.prog.cellsOf 3)) = some y4 := k4
  have k5' : DataW.trod enc Tryz.prog w base spare held n5 3 (([a0, a1, a2, a3, a4, a5].drop 5).take (Tryz.prog.cellsOf 3)) = some y5 := k5
  simp only [cb, ci, List.drop_succ_cons, List.drop_zero, List.take_succ_cons, List.take_zero] at k0' k1' k2' k3' k4' k5'
  obtain ⟨b0, rfl, z0⟩ := Kit.bool_at Tryz.underlying4 k0'
  obtain ⟨b1, rfl, z1⟩ := Kit.bool_at Tryz.underlying4 k1'
  obtain ⟨b2, rfl, z2⟩ := Kit.bool_at Tryz.underlying4 k2'
  obtain ⟨b3, rfl, z3, _⟩ := Kit.int_at Tryz.underlying3 k3'
  obtain ⟨b4, rfl, z4, _⟩ := Kit.int_at Tryz.underlying3 k4'
  obtain ⟨b5, rfl, z5, _⟩ := Kit.int_at Tryz.underlying3 k5'
  rw [z0] at d0
  rw [z1] at d1
  rw [z2] at d2
  rw [z3] at d3
  rw [z4] at d4
  rw [z5] at d5
  simp at d0 d1 d2 d3 d4 d5
  rw [d0, d1, d2, d3, d4, d5]

theorem of_laid {W : World} (h : laidMetH Tryz.prog laid W) : Ex.Laid W := by
 rw [MakeChecks.laidMetH_plain _ _ _ (by kernel_rfl)] at h
 obtain ⟨ps, ⟨_, _, _, _, _, _, _, _, _, _, ⟨g0, t0, cs0, f0, p0, q0, hg0, ht0, hv0, hd0, _, _⟩, _⟩, _⟩ := h
 obtain rfl := Option.some.inj (gK.symm.trans hg0)
 obtain rfl := Option.some.inj (tK.symm.trans ht0)
 obtain ⟨ds, e, hl, hc, hf⟩ := Kit.arr_trod Tryz.underlying179 hd0
 have c6 : Tryz.prog.cellsOf 178 = 6 := by kernel_rfl
 have ca : Tryz.prog.cellsOf 179 = 60 := by kernel_rfl
 rw [ca] at hc
 have hcell : ∀ off, W.cell? ⟨2, off, none⟩ = cs0.toList[off]? := fun off => by rw [World.var?_cell hg0 hv0 off]; simp
 have e2 : rows = ds := by
  have h1 := e
  simp only [rows_eq, DataW.agg.injEq] at h1
  exact h1
 have key : ∀ k, k < 10 → (cs0.toList.drop (k * 6)).take 6 = [.bool (Ex.rule k).sd, .bool (Ex.rule k).dr, .bool (Ex.rule k).wt, .int .i64 (Ex.rule k).pl, .int .i64 (Ex.rule k).lv, .int .i64 (Ex.rule k).sz] := by
  intro k hk
  obtain ⟨m, y, hy, hd⟩ := hf k hk
  rw [c6] at hy
  refine row hy (Ex.rule k) ?_
  rw [← e2, rows_at k hk] at hd
  exact (Option.some.inj hd).symm
 have at_ : ∀ k j v, k < 10 → j < 6 → [Value.bool (Ex.rule k).sd, .bool (Ex.rule k).dr, .bool (Ex.rule k).wt, .int .i64 (Ex.rule k).pl, .int .i64 (Ex.rule k).lv, .int .i64 (Ex.rule k).sz][j]? = some v → W.cell? ⟨2, k * 6 + j, none⟩ = some v := by
  intro k j v hk hj hv
  rw [hcell, ← hv, ← key k hk, List.getElem?_take_of_lt hj, List.getElem?_drop]
 refine ⟨?_, fun k hk => ⟨?_, ?_, ?_, ?_, ?_, ?_⟩⟩
 ·have h0 := at_ 0 0 _ omg omg rfl
  rcases Nat.lt_or_ge 2 W.heap.size with hz | hz
  ·exact hz
  ·simp [World.cell?, Array.getElem?_eq_none (show W.heap.size ≤ 2 by omega)] at h0
 ·exact at_ k 0 _ hk omg rfl
 ·exact at_ k 1 _ hk omg rfl
 ·exact at_ k 2 _ hk omg rfl
 ·exact at_ k 3 _ hk omg rfl
 ·exact at_ k 4 _ hk omg rfl
 ·exact at_ k 5 _ hk omg rfl
theorem gF : Tryz.prog.globalNamed "kinesphere/space.flat" = some 1 := by kernel_rfl
theorem tF1 : (Tryz.prog.globals[1]?).map (·.type) = some 165 := by kernel_rfl
def frows : List (DataW Unit) := (List.range 8).map fun k => .agg [.lit (.int .i64 (Uo.fl k).1), .lit (.int .i64 (Uo.fl k).2)]
theorem frows_eq : (Rows.laid_kinesphere_space_flat : DataW Unit) = .agg frows := by kernel_rfl
theorem frows_at (k : Nat) (hk : k < 8) : frows[k]? = some (.agg [.lit (.int .i64 (Uo.fl k).1), .lit (.int .i64 (Uo.fl k).2)]) := by
 simp [frows, hk]
theorem frow {H : Type} {enc : TypeId × Value → H} {w : World} {base : Nat} {spare : Nat → Bool} {held : Bool} {fuel : Nat} {cs : List Value} {x : DataW H × List MemPlace} (h : DataW.trod enc Tryz.prog w base spare held fuel 141 cs = some x) (a b : Int)
  (hx : x.1 = .agg [.lit (.int .i64 a), .lit (.int .i64 b)]) : cs = [.int .i64 a, .int .i64 b] := by
 obtain ⟨ds, e, hl, hc, hf⟩ := Kit.arr_trod Tryz.underlying141 h
 rw [e] at hx
 obtain rfl : ds = _ := by simpa using hx
 have c2 : Tryz.prog.cellsOf 141 = 2 := by kernel_rfl
 have ci : Tryz.prog.cellsOf 3 = 1 := by kernel_rfl
 rw [c2] at hc
 match cs, hc with
 | [a0, a1], _ =>
  obtain ⟨n0, y0, k0, d0⟩ := hf 0 omg
  obtain ⟨n1, y1, k1, d1⟩ := hf 1 omg
  simp only [ci, Nat.zero_mul, Nat.one_mul, List.drop_succ_cons, List.drop_zero, List.take_succ_cons, List.take_zero] at k0 k1
  obtain ⟨b0, rfl, z0, _⟩ := Kit.int_at Tryz.underlying3 k0
  obtain ⟨b1, rfl, z1, _⟩ := Kit.int_at Tryz.underlying3 k1
  rw [z0] at d0
  rw [z1] at d1
  simp at d0 d1
  rw [d0, d1]
theorem flat_laid {W : World} (h : laidMetH Tryz.prog laid W) : Uo.Flat W := by
 rw [MakeChecks.laidMetH_plain _ _ _ (by kernel_rfl)] at h
 obtain ⟨ps, ⟨g0, t0, cs0, f0, p0, q0, hg0, ht0, hv0, hd0, _, _⟩, _⟩ := h
 obtain rfl := Option.some.inj (gF.symm.trans hg0)
 obtain rfl := Option.some.inj (tF1.symm.trans ht0)
 obtain ⟨ds, e, hl, hc, hf⟩ := Kit.arr_trod Tryz.underlying165 hd0
 have c2 : Tryz.prog.cellsOf 141 = 2 := by kernel_rfl
 have hcell : ∀ off, W.cell? ⟨1, off, none⟩ = cs0.toList[off]? := fun off => by rw [World.var?_cell hg0 hv0 off]; simp
 have e2 : frows = ds := by
  have h1 := e
  simp only [frows_eq, DataW.agg.injEq] at h1
  exact h1
 have key : ∀ k, k < 8 → (cs0.toList.drop (k * 2)).take 2 = [.int .i64 (Uo.fl k).1, .int .i64 (Uo.fl k).2] := by
  intro k hk
  obtain ⟨m, y, hy, hd⟩ := hf k hk
  rw [c2] at hy
  refine frow hy _ _ ?_
  rw [← e2, frows_at k hk] at hd
  exact (Option.some.inj hd).symm
 have at_ : ∀ k j v, k < 8 → j < 2 → [Value.int .i64 (Uo.fl k).1, .int .i64 (Uo.fl k).2][j]? = some v → W.cell? ⟨1, k * 2 + j, none⟩ = some v := by
  intro k j v hk hj hv
  rw [hcell, ← hv, ← key k hk, List.getElem?_take_of_lt hj, List.getElem?_drop]
 refine ⟨?_, fun k hk => ⟨at_ k 0 _ hk omg rfl, at_ k 1 _ hk omg rfl⟩⟩
 have h0 := at_ 0 0 _ omg omg rfl
 rcases Nat.lt_or_ge 1 W.heap.size with hz | hz
 ·exact hz
 ·simp [World.cell?, Array.getElem?_eq_none (show W.heap.size ≤ 1 by omega)] at h0
theorem gM : Tryz.prog.globalNamed "kinesphere/motion.kinds" = some 0 := by kernel_rfl
theorem tM : (Tryz.prog.globals[0]?).map (·.type) = some 100 := by kernel_rfl
def kD {H : Type} (l : List Nat) : DataW H := if l = [] then .nil else .slice (l.map fun n : Nat => DataW.lit (.int .i64 (n : Int))) []
def mrows : List (DataW Unit) := (List.range 10).map fun k => .agg [kD (Mo.kL0 k), kD (Mo.kL1 k)]
theorem mrows_eq : (Rows.laid_kinesphere_motion_kinds : DataW Unit) = .agg mrows := by kernel_rfl
theorem mrows_at (k : Nat) (hk : k < 10) : mrows[k]? = some (.agg [kD (Mo.kL0 k), kD (Mo.kL1 k)]) := by
 simp [mrows, hk]
theorem ksl {H : Type} {enc : TypeId × Value → H} {w : World} {base : Nat} {spare : Nat → Bool} {held : Bool} {fuel : Nat} {c : Value} {x : DataW H × List MemPlace} (h : DataW.trod enc Tryz.prog w base spare held fuel 80 [c] = some x) (l : List Nat)
  (hx : x.1 = kD l) : ∃ a q, c = .slice a l.length q ∧ Mo.LsN w a l := by
 have ci : Tryz.prog.cellsOf 3 = 1 := by kernel_rfl
 rcases DataW.trod_slice Tryz.underlying80 h with ⟨h1, rfl⟩ | ⟨a, len, cap, elems, rest, n, _, h1, rfl, _, _, _, hl, he, _, _⟩
 ·have hn : l = [] := by
   unfold kD at hx
   split at hx
   ·assumption
   ·cases hx
  subst hn
  exact ⟨none, 0, by simpa using h1, .inl rfl⟩
 ·unfold kD at hx
  split at hx
  ·cases hx
  rename_i hne
  have hx1 : elems.map (·.1) = l.map fun n : Nat => DataW.lit (.int .i64 (n : Int)) := by
   have := hx
   simp only [DataW.slice.injEq] at this
   exact this.1
  have hlen : len = l.length := by
   rw [← hl]
   have := congrArg List.length hx1
   simpa using this
  subst hlen
  have cell : ∀ j, j < l.length → w.cell? (a.add j) = some (.int .i64 (l.getD j 0 : Nat)) := by
   intro j hj
   have e := he j hj
   rw [ci, Nat.mul_one] at e
   have hje : j < elems.length := by omega
   rw [List.getElem?_eq_getElem hje] at e
   obtain ⟨cs, h2, h3⟩ := Option.bind_eq_some_iff.1 e
   obtain ⟨_, hcl, hget⟩ := World.cells?_some h2
   match cs, hcl with
   | [d], _ =>
    obtain ⟨m, rfl, hy, _⟩ := Kit.int_at Tryz.underlying3 h3
    have h4 : (elems.map (·.1))[j]? = (l.map fun n : Nat => DataW.lit (.int .i64 (n : Int)))[j]? := by rw [hx1]
    simp only [List.getElem?_map, List.getElem?_eq_getElem hje, List.getElem?_eq_getElem hj, Option.map_some, Option.some.injEq, hy, DataW.lit.injEq, Lit.int.injEq, true_and] at h4
    have h5 := hget 0 omg
    have h6 : (a.add j).add 0 = a.add j := by simp [Addr.add]
    rw [h6] at h5
    rw [h5]
    simp [List.getD, hj, h4]
  refine ⟨some a, cap, by simpa using h1, .inr ⟨a, rfl, ?_, cell⟩⟩
  have hc := cell 0 (by rcases l with _ | _ <;> simp at hne ⊢)
  unfold World.cell? at hc
  rw [show (a.add 0).block = a.block from Tp.add_block _ _] at hc
  rcases Nat.lt_or_ge a.block w.heap.size with hlt | hge
  ·exact hlt
  ·rw [Array.getElem?_eq_none hge] at hc
   simp at hc
theorem kl_laid {W : World} (h : laidMetH Tryz.prog laid W) : Mo.KL W := by
 rw [MakeChecks.laidMetH_plain _ _ _ (by kernel_rfl)] at h
 obtain ⟨ps, ⟨_, _, _, _, _, _, _, _, _, _, ⟨_, _, _, _, _, _, _, _, _, _, ⟨g0, t0, cs0, f0, p0, q0, hg0, ht0, hv0, hd0, _, _⟩, _⟩, _⟩, _⟩ := h
 obtain rfl := Option.some.inj (gM.symm.trans hg0)
 obtain rfl := Option.some.inj (tM.symm.trans ht0)
 obtain ⟨ds, e, hl, hc, hf⟩ := Kit.arr_trod Tryz.underlying100 hd0
 have c2 : Tryz.prog.cellsOf 99 = 2 := by kernel_rfl
 have c1 : Tryz.prog.cellsOf 80 = 1 := by kernel_rfl
 have hcell : ∀ off, W.cell? ⟨0, off, none⟩ = cs0.toList[off]? := fun off => by rw [World.var?_cell hg0 hv0 off]; simp
 have e2 : mrows = ds := by
  have h1 := e
  simp only [mrows_eq, DataW.agg.injEq] at h1
  exact h1
 have key : ∀ k, k < 10 → (∃ a q, W.cell? ⟨0, k * 2, none⟩ = some (.slice a (Mo.kL0 k).length q) ∧ Mo.LsN W a (Mo.kL0 k)) ∧ ∃ a q, W.cell? ⟨0, k * 2 + 1, none⟩ = some (.slice a (Mo.kL1 k).length q) ∧ Mo.LsN W a (Mo.kL1 k) := by
  intro k hk
  obtain ⟨m, y, hy, hd⟩ := hf k hk
  rw [c2] at hy
  rw [← e2, mrows_at k hk] at hd
  have hy1 := (Option.some.inj hd).symm
  obtain ⟨dz, e3, hl3, hc3, hf3⟩ := Kit.arr_trod Tryz.underlying99 hy
  rw [e3] at hy1
  obtain rfl : dz = _ := by simpa using hy1
  rw [c2] at hc3
  obtain ⟨n0, y0, k0, d0⟩ := hf3 0 omg
  obtain ⟨n1, y1, k1, d1⟩ := hf3 1 omg
  have a0 : cs0.toList[k * 2]? = ((cs0.toList.drop (k * 2)).take 2)[0]? := by rw [List.getElem?_take_of_lt omg, List.getElem?_drop]; rfl
  have a1 : cs0.toList[k * 2 + 1]? = ((cs0.toList.drop (k * 2)).take 2)[1]? := by rw [List.getElem?_take_of_lt omg, List.getElem?_drop]
  rw [hcell, hcell, a0, a1]
  generalize (cs0.toList.drop (k * 2)).take 2 = cs at *
  match cs, hc3 with
  | [u0, u1], _ =>
   simp only [c1, Nat.zero_mul, Nat.one_mul, List.drop_succ_cons, List.drop_zero, List.take_succ_cons, List.take_zero] at k0 k1
   obtain ⟨a, q, rfl, ha⟩ := ksl k0 (Mo.kL0 k) (by simpa using d0.symm)
   obtain ⟨a', q', rfl, ha'⟩ := ksl k1 (Mo.kL1 k) (by simpa using d1.symm)
   exact ⟨⟨a, q, rfl, ha⟩, a', q', rfl, ha'⟩
 refine ⟨?_, key⟩
 obtain ⟨⟨a, q, h0, _⟩, _⟩ := key 0 omg
 rcases Nat.lt_or_ge 0 W.heap.size with hz | hz
 ·exact hz
 ·simp [World.cell?, Array.getElem?_eq_none hz] at h0
section
variable {H : Type} {enc : TypeId × Value → H} {w : World} {base : Nat} {spare : Nat → Bool} {held : Bool} {fuel : Nat} {cs : List Value} {x : DataW H × List MemPlace}
theorem ci : Tryz.prog.cellsOf 3 = 1 := by kernel_rfl
end
end Lw
end Go.Proofs.YtedolbjgdedoaaaGreatDoor

namespace Go.Proofs.YtedolbjgdedoaaaGreatDoor
open Go.ChangeShapes Go.WideShapes Go.ChangeAt Go.RowKit Go.Joins

namespace Lw
def roF (r : Ex.Ro) : List Value := [.string r.1, .int .i64 r.2.1, .int .i64 r.2.2.1, .int .i64 r.2.2.2]
def sgF (s : Ex.Sg) : List Value := [.int .i64 s.id, .int .i64 s.role, .int .i64 s.bar, .int .i64 s.mark, .int .i64 s.kind, .int .i64 s.side, .int .i64 s.dir, .int .i64 s.level, .int .i64 s.size, .int .i64 s.wth, .int .i64 s.fn, .int .i64 s.fd, .int .i64 s.tn, .int .i64 s.td]
def tF (t : Tp.T) : List Value := [.int .i64 t.1, .int .i64 t.2.1, .int .i64 t.2.2]
def qF (q : Tp.Q) : List Value := [.int .i64 q.1, .int .i64 q.2.1, .int .i64 q.2.2.1, .int .i64 q.2.2.2]
section
variable {H : Type} {enc : TypeId × Value → H} {w : World} {base : Nat} {spare : Nat → Bool} {held : Bool} {fuel : Nat} {cs : List Value} {x : DataW H × List MemPlace}
theorem roO (h : DataW.trod enc Tryz.prog w base spare held fuel 116 cs = some x) : ∃ r, cs = roF r := by
 obtain ⟨ds, e, hl, hc, hf⟩ := Kit.sub_trod Tryz.underlying116 h
 rw [show Tryz.prog.cellsOf 116 = 4 by kernel_rfl] at hc
 match cs, hc with
 | [a0, a1, a2, a3], _ =>
  obtain ⟨n0, y0, k0, _⟩ := hf 0 _ rfl
  obtain ⟨n1, y1, k1, _⟩ := hf 1 _ rfl
  obtain ⟨n2, y2, k2, _⟩ := hf 2 _ rfl
  obtain ⟨n3, y3, k3, _⟩ := hf 3 _ rfl
  have k0' : DataW.trod enc Tryz.prog w base spare held n0 9 (([a0, a1, a2, a3].drop 0).take (Tryz.prog.cellsOf 9)) = some y0 := k0
  have k1' : DataW.trod enc Tryz.prog w base spare held n1 3 (([a0, a1, a2, a3].drop 1).take (Tryz.prog.cellsOf 3)) = some y1 := k1
  have k2' : DataW.trod enc Tryz.prog w base spare held n2 3 (([a0, a1, a2, a3].drop 2).take (Tryz.prog.cellsOf 3)) = some y2 := k2
  have k3' : DataW.trod enc Tryz.prog w base spare held n3 3 (([a0, a1, a2, a3].drop 3).take (Tryz.prog.cellsOf 3)) = some y3 := k3
  simp only [show Tryz.prog.cellsOf 9 = 1 by kernel_rfl, ci, List.drop_succ_cons, List.drop_zero, List.take_succ_cons, List.take_zero] at k0' k1' k2' k3'
  obtain ⟨s, e0, _, _⟩ := DataW.trod_string Tryz.underlying9 k0'
  obtain ⟨z1, rfl, _⟩ := Kit.int_at Tryz.underlying3 k1'
  obtain ⟨z2, rfl, _⟩ := Kit.int_at Tryz.underlying3 k2'
  obtain ⟨z3, rfl, _⟩ := Kit.int_at Tryz.underlying3 k3'
  simp only [List.cons.injEq, and_true] at e0
  subst e0
  exact ⟨(s, z1, z2, z3), rfl⟩
theorem sgO (h : DataW.trod enc Tryz.prog w base spare held fuel 60 cs = some x) : ∃ s, cs = sgF s := by
 obtain ⟨zs, hl, rfl, _⟩ := Kit.flat_ints (n := 5) (by kernel_rfl) h
 rw [show Tryz.prog.cellsOf 60 = 14 by kernel_rfl] at hl
 match zs, hl with
 | [a, b, c, d, e, f, g, h, i, j, k, l, m, n], _ => exact ⟨⟨a, b, c, d, e, f, g, h, i, j, k, l, m, n⟩, rfl⟩
theorem tO (h : DataW.trod enc Tryz.prog w base spare held fuel 156 cs = some x) : ∃ s, cs = tF s := by
 obtain ⟨zs, hl, rfl, _⟩ := Kit.flat_ints (n := 5) (by kernel_rfl) h
 rw [show Tryz.prog.cellsOf 156 = 3 by kernel_rfl] at hl
 match zs, hl with
 | [a, b, c], _ => exact ⟨(a, b, c), rfl⟩
theorem qO (h : DataW.trod enc Tryz.prog w base spare held fuel 200 cs = some x) : ∃ s, cs = qF s := by
 obtain ⟨zs, hl, rfl, _⟩ := Kit.flat_ints (n := 5) (by kernel_rfl) h
 rw [show Tryz.prog.cellsOf 200 = 4 by kernel_rfl] at hl
 match zs, hl with
 | [a, b, c, d], _ => exact ⟨(a, b, c, d), rfl⟩
theorem cO (h : DataW.trod enc Tryz.prog w base spare held fuel 202 cs = some x) : ∃ s, cs = qF s := by
 obtain ⟨zs, hl, rfl, _⟩ := Kit.flat_ints (n := 5) (by kernel_rfl) h
 rw [show Tryz.prog.cellsOf 202 = 4 by kernel_rfl] at hl
 match zs, hl with
 | [a, b, c, d], _ => exact ⟨(a, b, c, d), rfl⟩
theorem trnO (h : DataW.trod enc Tryz.prog w base spare held fuel 23 cs = some x) : ∃ a b c : Int, cs = [.int .i64 a, .int .i64 b, .int .i64 c] := by
 obtain ⟨zs, hl, rfl, _⟩ := Kit.flat_ints (n := 5) (by kernel_rfl) h
 rw [show Tryz.prog.cellsOf 23 = 3 by kernel_rfl] at hl
 match zs, hl with
 | [a, b, c], _ => exact ⟨a, b, c, rfl⟩

theorem rosO (h : DataW.trod enc Tryz.prog w base spare held fuel 24 cs = some x) (hw : ∀ m ∈ x.1.weights Tryz.prog 24, m ≤ reachBytes) :
  ∃ (ad : Option Addr) (l : List Ex.Ro) (cap : Nat), cs = [.slice ad l.length cap] ∧ Tp.Sl w ad l.length 4 (Ex.roc l) ∧ l.length ≤ 4611686018427387904 := by
 obtain ⟨ad, l, cap, e, _, hs, hl⟩ := Kit.slice_list ((.empty, 0, 0, 0)) Tryz.underlying24 (k := 4) (by kernel_rfl) omg (of_decide_eq_true (by kernel_rfl)) roF (fun n cs y h => roO h) h hw
 refine ⟨ad, l, cap, e, Kit.sl_congr (fun i j hi hj => ?_) hs, hl⟩
 rcases j with _ | _ | _ | _ | j
 ·rfl
 ·rfl
 ·rfl
 ·rfl
 ·omega
theorem sgsO (h : DataW.trod enc Tryz.prog w base spare held fuel 30 cs = some x) (hw : ∀ m ∈ x.1.weights Tryz.prog 30, m ≤ reachBytes) :
  ∃ (ad : Option Addr) (l : List Ex.Sg) (cap : Nat), cs = [.slice ad l.length cap] ∧ Tp.Sl w ad l.length 14 (Ex.sgc l) ∧ l.length ≤ 4611686018427387904 := by
 obtain ⟨ad, l, cap, e, _, hs, hl⟩ := Kit.slice_list (default) Tryz.underlying30 (k := 14) (by kernel_rfl) omg (of_decide_eq_true (by kernel_rfl)) sgF (fun n cs y h => sgO h) h hw
 refine ⟨ad, l, cap, e, Kit.sl_congr (fun i j hi hj => ?_) hs, hl⟩
 rcases j with _ | _ | _ | _ | _ | _ | _ | _ | _ | _ | _ | _ | _ | _ | j <;> first | rfl | omega
theorem tsO (h : DataW.trod enc Tryz.prog w base spare held fuel 25 cs = some x) (hw : ∀ m ∈ x.1.weights Tryz.prog 25, m ≤ reachBytes) :
  ∃ (ad : Option Addr) (l : List Tp.T) (cap : Nat), cs = [.slice ad l.length cap] ∧ Tp.Sl w ad l.length 3 (Tp.tc l) ∧ l.length ≤ 4611686018427387904 := by
 obtain ⟨ad, l, cap, e, _, hs, hl⟩ := Kit.slice_list ((0, 0, 0)) Tryz.underlying25 (k := 3) (by kernel_rfl) omg (of_decide_eq_true (by kernel_rfl)) tF (fun n cs y h => tO h) h hw
 refine ⟨ad, l, cap, e, Kit.sl_congr (fun i j hi hj => ?_) hs, hl⟩
 rcases j with _ | _ | _ | j <;> first | rfl | omega
theorem psO (h : DataW.trod enc Tryz.prog w base spare held fuel 26 cs = some x) (hw : ∀ m ∈ x.1.weights Tryz.prog 26, m ≤ reachBytes) :
  ∃ (ad : Option Addr) (l : List Tp.Q) (cap : Nat), cs = [.slice ad l.length cap] ∧ Tp.Sl w ad l.length 4 (Tp.qc l) ∧ l.length ≤ 4611686018427387904 := by
 obtain ⟨ad, l, cap, e, _, hs, hl⟩ := Kit.slice_list ((0, 0, 0, 0)) Tryz.underlying26 (k := 4) (by kernel_rfl) omg (of_decide_eq_true (by kernel_rfl)) qF (fun n cs y h => qO h) h hw
 refine ⟨ad, l, cap, e, Kit.sl_congr (fun i j hi hj => ?_) hs, hl⟩
 rcases j with _ | _ | _ | _ | j <;> first | rfl | omega
theorem ssO (h : DataW.trod enc Tryz.prog w base spare held fuel 27 cs = some x) (hw : ∀ m ∈ x.1.weights Tryz.prog 27, m ≤ reachBytes) :
  ∃ (ad : Option Addr) (l : List Tp.Q) (cap : Nat), cs = [.slice ad l.length cap] ∧ Tp.Sl w ad l.length 4 (Tp.qc l) ∧ l.length ≤ 4611686018427387904 := by
 obtain ⟨ad, l, cap, e, _, hs, hl⟩ := Kit.slice_list ((0, 0, 0, 0)) Tryz.underlying27 (k := 4) (by kernel_rfl) omg (of_decide_eq_true (by kernel_rfl)) qF (fun n cs y h => cO h) h hw
 refine ⟨ad, l, cap, e, Kit.sl_congr (fun i j hi hj => ?_) hs, hl⟩
 rcases j with _ | _ | _ | _ | j <;> first | rfl | omega
theorem clO (h : DataW.trod enc Tryz.prog w base spare held fuel 29 cs = some x) (hw : ∀ m ∈ x.1.weights Tryz.prog 29, m ≤ reachBytes) :
  ∃ (n : Int) (aT : Option Addr) (ts : List Tp.T) (cT : Nat) (aP : Option Addr) (ps : List Tp.Q) (cP : Nat) (aS : Option Addr) (ss : List Tp.Q) (cS : Nat),
   cs = [.int .i64 n, .slice aT ts.length cT, .slice aP ps.length cP, .slice aS ss.length cS] ∧ Tp.Sl w aT ts.length 3 (Tp.tc ts) ∧ Tp.Sl w aP ps.length 4 (Tp.qc ps) ∧ Tp.Sl w aS ss.length 4 (Tp.qc ss) ∧
   ts.length ≤ 4611686018427387904 ∧ ps.length ≤ 4611686018427387904 ∧ ss.length ≤ 4611686018427387904 := by
 obtain ⟨ds, e, hl, hc, hf⟩ := Kit.sub_trod Tryz.underlying29 h
 rw [e] at hw
 have hp := fun (i : Nat) f hfi d hd => Kit.weights_part (P := Tryz.prog) Tryz.underlying29 hw (i := i) (f := f) hfi (d := d) hd
 rw [show Tryz.prog.cellsOf 29 = 4 by kernel_rfl] at hc
 match cs, hc with
 | [a0, a1, a2, a3], _ =>
  obtain ⟨n0, y0, k0, d0⟩ := hf 0 _ rfl
  obtain ⟨n1, y1, k1, d1⟩ := hf 1 _ rfl
  obtain ⟨n2, y2, k2, d2⟩ := hf 2 _ rfl
  obtain ⟨n3, y3, k3, d3⟩ := hf 3 _ rfl
  have w1 : ∀ m ∈ y1.1.weights Tryz.prog 25, m ≤ reachBytes := hp 1 _ rfl _ d1
  have w2 : ∀ m ∈ y2.1.weights Tryz.prog 26, m ≤ reachBytes := hp 2 _ rfl _ d2
  have w3 : ∀ m ∈ y3.1.weights Tryz.prog 27, m ≤ reachBytes := hp 3 _ rfl _ d3
  have k0' : DataW.trod enc Tryz.prog w base spare held n0 3 (([a0, a1, a2, a3].drop 0).take (Tryz.prog.cellsOf 3)) = some y0 := k0
  have k1' : DataW.trod enc Tryz.prog w base spare held n1 25 (([a0, a1, a2, a3].drop 1).take (Tryz.prog.cellsOf 25)) = some y1 := k1
  have k2' : DataW.trod enc Tryz.prog w base spare held n2 26 (([a0, a1, a2, a3].drop 2).take (Tryz.prog.cellsOf 26)) = some y2 := k2
  have k3' : DataW.trod enc Tryz.prog w base spare held n3 27 (([a0, a1, a2, a3].drop 3).take (Tryz.prog.cellsOf 27)) = some y3 := k3
  simp only [show Tryz.prog.cellsOf 25 = 1 by kernel_rfl, show Tryz.prog.cellsOf 26 = 1 by kernel_rfl, show Tryz.prog.cellsOf 27 = 1 by kernel_rfl, ci, List.drop_succ_cons, List.drop_zero, List.take_succ_cons, List.take_zero] at k0' k1' k2' k3'
  obtain ⟨n, rfl, _⟩ := Kit.int_at Tryz.underlying3 k0'
  obtain ⟨aT, ts, cT, e1, s1, l1⟩ := tsO k1' w1
  obtain ⟨aP, ps, cP, e2, s2, l2⟩ := psO k2' w2
  obtain ⟨aS, ss, cS, e3, s3, l3⟩ := ssO k3' w3
  simp only [List.cons.injEq, and_true] at e1 e2 e3
  subst e1 e2 e3
  exact ⟨n, aT, ts, cT, aP, ps, cP, aS, ss, cS, rfl, s1, s2, s3, l1, l2, l3⟩
theorem work_in {r : Reach} {b0 : Nat} {v : Value} {d : DataW H} {q : List MemPlace} (hv : Value.okWide Tryz.prog w r b0 32 v) (h : DataW.Trod enc Tryz.prog w base spare held 32 v d q)
  (hw : ∀ m ∈ d.weights Tryz.prog 32, m ≤ reachBytes) : ∃ x p, v = Ex.workV x p ∧ Ex.At w x p := by
 obtain ⟨cs, rfl, hsz⟩ := okWide_struct Tryz.underlying32 hv
 obtain ⟨fuel, hf0⟩ := h
 have hf' : DataW.trod enc Tryz.prog w base spare held fuel 32 cs.toList = some (d, q) := by simpa [Value.cells] using hf0
 obtain ⟨ds, e, hl, hc, hf⟩ := Kit.sub_trod Tryz.underlying32 hf'
 dsimp only at e
 subst e
 have hp := fun (i : Nat) f hfi d hd => Kit.weights_part (P := Tryz.prog) Tryz.underlying32 hw (i := i) (f := f) hfi (d := d) hd
 rw [show Tryz.prog.cellsOf 32 = 11 by kernel_rfl] at hc
 obtain ⟨l⟩ := cs
 dsimp only at hc hf
 match l, hc with
 | [a0, a1, a2, a3, a4, a5, a6, a7, a8, a9, a10], _ =>
  obtain ⟨n0, y0, k0, d0⟩ := hf 0 _ rfl
  obtain ⟨n1, y1, k1, d1⟩ := hf 1 _ rfl
  obtain ⟨n2, y2, k2, d2⟩ := hf 2 _ rfl
  obtain ⟨n3, y3, k3, d3⟩ := hf 3 _ rfl
  obtain ⟨n4, y4, k4, d4⟩ := hf 4 _ rfl
  obtain ⟨n5, y5, k5, d5⟩ := hf 5 _ rfl
  have w3 : ∀ m ∈ y3.1.weights Tryz.prog 24, m ≤ reachBytes := hp 3 _ rfl _ d3
  have w4 : ∀ m ∈ y4.1.weights Tryz.prog 29, m ≤ reachBytes := hp 4 _ rfl _ d4
  have w5 : ∀ m ∈ y5.1.weights Tryz.prog 30, m ≤ reachBytes := hp 5 _ rfl _ d5
  have k0' : DataW.trod enc Tryz.prog w base spare held n0 3 (([a0, a1, a2, a3, a4, a5, a6, a7, a8, a9, a10].drop 0).take (Tryz.prog.cellsOf 3)) = some y0 := k0
  have k1' : DataW.trod enc Tryz.prog w base spare held n1 3 (([a0, a1, a2, a3, a4, a5, a6, a7, a8, a9, a10].drop 1).take (Tryz.prog.cellsOf 3)) = some y1 := k1
  have k2' : DataW.trod enc Tryz.prog w base spare held n2 23 (([a0, a1, a2, a3, a4, a5, a6, a7, a8, a9, a10].drop 2).take (Tryz.prog.cellsOf 23)) = some y2 := k2
  have k3' : DataW.trod enc Tryz.prog w base spare held n3 24 (([a0, a1, a2, a3, a4, a5, a6, a7, a8, a9, a10].drop 5).take (Tryz.prog.cellsOf 24)) = some y3 := k3
  have k4' : DataW.trod enc Tryz.prog w base spare held n4 29 (([a0, a1, a2, a3, a4, a5, a6, a7, a8, a9, a10].drop 6).take (Tryz.prog.cellsOf 29)) = some y4 := k4
  have k5' : DataW.trod enc Tryz.prog w base spare held n5 30 (([a0, a1, a2, a3, a4, a5, a6, a7, a8, a9, a10].drop 10).take (Tryz.prog.cellsOf 30)) = some y5 := k5
  simp only [show Tryz.prog.cellsOf 24 = 1 by kernel_rfl, show Tryz.prog.cellsOf 30 = 1 by kernel_rfl, show Tryz.prog.cellsOf 23 = 3 by kernel_rfl, show Tryz.prog.cellsOf 29 = 4 by kernel_rfl, ci, List.drop_succ_cons, List.drop_zero, List.take_succ_cons, List.take_zero] at k0' k1' k2' k3' k4' k5'
  obtain ⟨wd, rfl, _⟩ := Kit.int_at Tryz.underlying3 k0'
  obtain ⟨dp, rfl, _⟩ := Kit.int_at Tryz.underlying3 k1'
  obtain ⟨ta, tb, tc, e2⟩ := trnO k2'
  obtain ⟨aR, ro, cR, e3, s3, l3⟩ := rosO k3' w3
  obtain ⟨n, aT, ts, cT, aP, ps, cP, aS, ss, cS, e4, sT, sP, sS, lT, lP, lS⟩ := clO k4' w4
  obtain ⟨aG, sg, cG, e5, s5, l5⟩ := sgsO k5' w5
  simp only [List.cons.injEq, and_true] at e2 e3 e4 e5
  obtain ⟨rfl, rfl, rfl⟩ := e2
  obtain ⟨rfl, rfl, rfl, rfl⟩ := e4
  subst e3 e5
  exact ⟨⟨wd, dp, ta, tb, tc, n, ro, ts, ps, ss, sg⟩, ⟨aR, cR, aT, cT, aP, cP, aS, cS, aG, cG⟩, rfl, s3, sT, sP, sS, s5, l3, lT, lP, lS, l5⟩

theorem state_in {r : Reach} {b0 : Nat} {v : Value} {d : DataW H} {q : List MemPlace} (hv : Value.okWide Tryz.prog w r b0 37 v) (h : DataW.Trod enc Tryz.prog w base spare held 37 v d q) :
  ∃ s : Mo.St, v = .agg (Mo.stA s) := by
 obtain ⟨cs, rfl, _⟩ := okWide_struct Tryz.underlying37 hv
 obtain ⟨fuel, hf0⟩ := h
 have hf' : DataW.trod enc Tryz.prog w base spare held fuel 37 cs.toList = some (d, q) := by simpa [Value.cells] using hf0
 obtain ⟨zs, hl, e, _⟩ := Kit.flat_ints (n := 5) (by kernel_rfl) hf'
 rw [show Tryz.prog.cellsOf 37 = 13 by kernel_rfl] at hl
 obtain ⟨l⟩ := cs
 match zs, hl with
 | [a0, a1, a2, a3, a4, a5, a6, a7, a8, a9, a10, a11, a12], _ => exact ⟨⟨a0, a1, a2, a3, a4, a5, a6, a7, a8, a9, a10, a11, a12⟩, by rw [show l = [.int .i64 a0, .int .i64 a1, .int .i64 a2, .int .i64 a3, .int .i64 a4, .int .i64 a5, .int .i64 a6, .int .i64 a7, .int .i64 a8, .int .i64 a9, .int .i64 a10, .int .i64 a11, .int .i64 a12] from e]⟩
theorem reO (h : DataW.trod enc Tryz.prog w base spare held fuel 69 cs = some x) : ∃ y : Uo.Re, cs = Mo.reC y := by
 obtain ⟨ds, e, hl, hc, hf⟩ := Kit.sub_trod Tryz.underlying69 h
 rw [show Tryz.prog.cellsOf 69 = 4 by kernel_rfl] at hc
 match cs, hc with
 | [a0, a1, a2, a3], _ =>
  obtain ⟨n0, y0, k0, _⟩ := hf 0 _ rfl
  obtain ⟨n1, y1, k1, _⟩ := hf 1 _ rfl
  obtain ⟨n2, y2, k2, _⟩ := hf 2 _ rfl
  obtain ⟨n3, y3, k3, _⟩ := hf 3 _ rfl
  have k0' : DataW.trod enc Tryz.prog w base spare held n0 3 (([a0, a1, a2, a3].drop 0).take (Tryz.prog.cellsOf 3)) = some y0 := k0
  have k1' : DataW.trod enc Tryz.prog w base spare held n1 3 (([a0, a1, a2, a3].drop 1).take (Tryz.prog.cellsOf 3)) = some y1 := k1
  have k2' : DataW.trod enc Tryz.prog w base spare held n2 3 (([a0, a1, a2, a3].drop 2).take (Tryz.prog.cellsOf 3)) = some y2 := k2
  have k3' : DataW.trod enc Tryz.prog w base spare held n3 4 (([a0, a1, a2, a3].drop 3).take (Tryz.prog.cellsOf 4)) = some y3 := k3
  simp only [show Tryz.prog.cellsOf 4 = 1 by kernel_rfl, ci, List.drop_succ_cons, List.drop_zero, List.take_succ_cons, List.take_zero] at k0' k1' k2' k3'
  obtain ⟨z0, rfl, _⟩ := Kit.int_at Tryz.underlying3 k0'
  obtain ⟨z1, rfl, _⟩ := Kit.int_at Tryz.underlying3 k1'
  obtain ⟨z2, rfl, _⟩ := Kit.int_at Tryz.underlying3 k2'
  obtain ⟨z3, rfl, _⟩ := Kit.bool_at Tryz.underlying4 k3'
  exact ⟨(z0, z1, z2, z3), rfl⟩
theorem reals_in {r : Reach} {b0 : Nat} {v : Value} {d : DataW H} {q : List MemPlace} (hv : Value.okWide Tryz.prog w r b0 38 v) (h : DataW.Trod enc Tryz.prog w base spare held 38 v d q)
  (hw : ∀ m ∈ d.weights Tryz.prog 38, m ≤ reachBytes) : ∃ (ad : Option Addr) (l : List Uo.Re) (c : Nat), v = .slice ad l.length c ∧ Tp.Sl w ad l.length 4 (Mo.rcs l) ∧ l.length ≤ 4611686018427387904 := by
 obtain ⟨a1, n1, c1, rfl⟩ := okWide_slice Tryz.underlying38 hv
 obtain ⟨fuel, hf0⟩ := h
 obtain ⟨ad, l, cap, e, _, hs, hl⟩ := Kit.slice_list ((0, 0, 0, false) : Uo.Re) Tryz.underlying38 (k := 4) (by kernel_rfl) omg (of_decide_eq_true (by kernel_rfl)) Mo.reC (fun n cs y h => reO h) (show DataW.trod enc Tryz.prog w base spare held fuel 38 [.slice a1 n1 c1] = some (d, q) by simpa [Value.cells] using hf0) hw
 simp only [List.cons.injEq, and_true] at e
 refine ⟨ad, l, cap, e, Kit.sl_congr (fun i j hi hj => ?_) hs, hl⟩
 unfold Mo.rcs
 rcases (by omega : j = 0 ∨ j = 1 ∨ j = 2 ∨ j = 3) with rfl | rfl | rfl | rfl <;> rfl
end
end Lw
end Go.Proofs.YtedolbjgdedoaaaGreatDoor
