/- The table of kinds: what the row's premise gives the walks (layer 48). Opening works that are handed in (layer 48). Arguments that are handed in: a body, a cap. -/
import Derived.Test.YtbhgogiaaljclaaGreatDoorRows
import Derived.Test.YtbhgogiaaljclaaGreatDoorKxc
import Derived.Test.YtbhgogiaaljclaaGreatDoorEx
import Derived.Test.YtbhgogiaaljclaaGreatDoorUoV
import Derived.LaidMore
import Derived.Stop.Joined
import Derived.MakeChecks
import Derived.Test.YtbhgogiaaljclaaGreatDoorUuab
import Derived.Test.YtbhgogiaaljclaaGreatDoorUux
import Derived.Test.YtbhgogiaaljclaaGreatDoorUoa
import Derived.Test.YtbhgogiaaljclaaGreatDoorUvA
set_option linter.unusedSimpArgs false
set_option linter.unusedVariables false
set_option maxRecDepth 100000
namespace Go.Proofs.YtbhgogiaaljclaaGreatDoor
open Go.ChangeShapes Go.WideShapes Go.ChangeAt Go.RowKit Go.Joins

namespace Lw
abbrev laid : List (String × DataW Unit) := [("kinesphere/space.flat", Rows.laid_kinesphere_space_flat), ("kinesphere/expand.kinds", Rows.laid_kinesphere_expand_kinds)]
theorem gK : Tryz.prog.globalNamed "kinesphere/expand.kinds" = some 0 := by kernel_rfl
theorem tK : (Tryz.prog.globals[0]?).map (·.type) = some 197 := by kernel_rfl
def rows : List (DataW Unit) := (List.range 10).map fun k => .agg [.lit (.bool (Ex.rule k).sd), .lit (.bool (Ex.rule k).dr), .lit (.bool (Ex.rule k).wt), .lit (.int .i64 (Ex.rule k).pl), .lit (.int .i64 (Ex.rule k).lv), .lit (.int .i64 (Ex.rule k).sz)]
theorem rows_eq : (Rows.laid_kinesphere_expand_kinds : DataW Unit) = .agg rows := by kernel_rfl
theorem rows_at (k : Nat) (hk : k < 10) : rows[k]? = some (.agg [.lit (.bool (Ex.rule k).sd), .lit (.bool (Ex.rule k).dr), .lit (.bool (Ex.rule k).wt), .lit (.int .i64 (Ex.rule k).pl), .lit (.int .i64 (Ex.rule k).lv), .lit (.int .i64 (Ex.rule k).sz)]) := by
 simp [rows, hk]
theorem row {H : Type} {enc : TypeId × Value → H} {w : World} {base : Nat} {spare : Nat → Bool} {held : Bool} {fuel : Nat} {cs : List Value} {x : DataW H × List MemPlace} (h : DataW.trod enc Tryz.prog w base spare held fuel 196 cs = some x) (r : Ex.Rl)
  (hx : x.1 = .agg [.lit (.bool r.sd), .lit (.bool r.dr), .lit (.bool r.wt), .lit (.int .i64 r.pl), .lit (.int .i64 r.lv), .lit (.int .i64 r.sz)]) :
  cs = [.bool r.sd, .bool r.dr, .bool r.wt, .int .i64 r.pl, .int .i64 r.lv, .int .i64 r.sz] := by
 obtain ⟨ds, e, hl, hc, hf⟩ := Kit.sub_trod Tryz.underlying196 h
 rw [e] at hx
 obtain rfl : ds = _ := by simpa using hx
 have c6 : Tryz.prog.cellsOf 196 = 6 := by kernel_rfl
 have cb : Tryz.prog.cellsOf 4 = 1 := by kernel_rfl
 have ci : Tryz.prog.cellsOf 3 = 1 := by kernel_rfl
 rw [c6] at hc
 match cs, hc with
 | [a0, a1, a2, a3, a4, a5], _ =>
  obtain ⟨n0, y0, k0, d0⟩ := hf 0 _ rfl
  obtain ⟨n1, y1, k1, d1⟩ := hf 1 _ rfl
  obtain ⟨n2, y2, k2, d2⟩ := hf 2 _ rfl
  obtain ⟨n3, y3, k3, d3⟩ := hf 3 _ rfl
  obtain ⟨n4, y4, k4, d4⟩ := hf 4 _ rfl
  obtain ⟨n5, y5, k5, d5⟩ := hf 5 _ rfl
  have k0' : DataW.trod enc Tryz.prog w base spare held n0 4 (([a0, a1, a2, a3, a4, a5].drop 0).take (Tryz.prog.cellsOf 4)) = some y0 := k0
  have k1' : DataW.trod enc Tryz.prog w base spare held n1 4 (([a0, a1, a2, a3, a4, a5].drop 1).take (Tryz.prog.cellsOf 4)) = some y1 := k1
  have k2' : DataW.trod enc Tryz.prog w base spare held n2 4 (([a0, a1, a2, a3, a4, a5].drop 2).take (Tryz.prog.cellsOf 4)) = some y2 := k2
  have k3' : DataW.trod enc Tryz.prog w base spare held n3 3 (([a0, a1, a2, a3, a4, a5].drop 3).take (Tryz.prog.cellsOf 3)) = some y3 := k3
  have k4' : DataW.trod enc Tryz.prog w base spare held n4 3 (([a0, a1, a2, a3, a4, a5].drop 4).take (Tryz.prog.cellsOf 3)) = some y4 := k4
  have k5' : DataW.trod enc Tryz.prog w base spare held n5 3 (([a0, a1, a2, a3, a4, a5].drop 5).take (Tryz.prog.cellsOf 3)) = some y5 := k5
  simp only [cb, ci, List.drop_succ_cons, List.drop_zero, List.take_succ_cons, List.take_zero] at k0' k1' k2' k3' k4' k5'
  obtain ⟨b0, rfl, z0⟩ := Kit.bool_at Tryz.underlying4 k0'
  obtain ⟨b1, rfl, z1⟩ := Kit.bool_at Tryz.underlying4 k1'
  obtain ⟨b2, rfl, z2⟩ := Kit.bool_at Tryz.underlying4 k2'
  obtain ⟨b3, rfl, z3, _⟩ := Kit.int_at Tryz.underlying3 k3'
  obtain ⟨b4, rfl, z4, _⟩ := Kit.int_at Tryz.underlying3 k4'
  obtain ⟨b5, rfl, z5, _⟩ := Kit.int_at Tryz.underlying3 k5'
  rw [z0] at d0
  rw [z1] at d1
  rw [z2] at d2
  rw [z3] at d3
  rw [z4] at d4
  rw [z5] at d5
  simp at d0 d1 d2 d3 d4 d5
  rw [d0, d1, d2, d3, d4, d5]

theorem of_laid {W : World} (h : laidMetH Tryz.prog laid W) : Ex.Laid W := by
 rw [MakeChecks.laidMetH_plain _ _ _ (by kernel_rfl)] at h
 obtain ⟨ps, ⟨_, _, _, _, _, _, _, _, _, _, ⟨g0, t0, cs0, f0, p0, q0, hg0, ht0, hv0, hd0, _, _⟩, _⟩, _⟩ := h
 obtain rfl := Option.some.inj (gK.symm.trans hg0)
 obtain rfl := Option.some.inj (tK.symm.trans ht0)
 obtain ⟨ds, e, hl, hc, hf⟩ := Kit.arr_trod Tryz.underlying197 hd0
 have c6 : Tryz.prog.cellsOf 196 = 6 := by kernel_rfl
 have ca : Tryz.prog.cellsOf 197 = 60 := by kernel_rfl
 rw [ca] at hc
 have hcell : ∀ off, W.cell? ⟨0, off, none⟩ = cs0.toList[off]? := fun off => by rw [World.var?_cell hg0 hv0 off]; simp
 have e2 : rows = ds := by
  have h1 := e
  simp only [rows_eq, DataW.agg.injEq] at h1
  exact h1
 have key : ∀ k, k < 10 → (cs0.toList.drop (k * 6)).take 6 = [.bool (Ex.rule k).sd, .bool (Ex.rule k).dr, .bool (Ex.rule k).wt, .int .i64 (Ex.rule k).pl, .int .i64 (Ex.rule k).lv, .int .i64 (Ex.rule k).sz] := by
  intro k hk
  obtain ⟨m, y, hy, hd⟩ := hf k hk
  rw [c6] at hy
  refine row hy (Ex.rule k) ?_
  rw [← e2, rows_at k hk] at hd
  exact (Option.some.inj hd).symm
 have at_ : ∀ k j v, k < 10 → j < 6 → [Value.bool (Ex.rule k).sd, .bool (Ex.rule k).dr, .bool (Ex.rule k).wt, .int .i64 (Ex.rule k).pl, .int .i64 (Ex.rule k).lv, .int .i64 (Ex.rule k).sz][j]? = some v → W.cell? ⟨0, k * 6 + j, none⟩ = some v := by
  intro k j v hk hj hv
  rw [hcell, ← hv, ← key k hk, List.getElem?_take_of_lt hj, List.getElem?_drop]
 refine ⟨?_, fun k hk => ⟨?_, ?_, ?_, ?_, ?_, ?_⟩⟩
 ·have h0 := at_ 0 0 _ omg omg rfl
  rcases Nat.eq_zero_or_pos W.heap.size with hz | hz
  ·simp [World.cell?, Array.getElem?_eq_none (show W.heap.size ≤ 0 by omega)] at h0
  ·exact hz
 ·exact at_ k 0 _ hk omg rfl
 ·exact at_ k 1 _ hk omg rfl
 ·exact at_ k 2 _ hk omg rfl
 ·exact at_ k 3 _ hk omg rfl
 ·exact at_ k 4 _ hk omg rfl
 ·exact at_ k 5 _ hk omg rfl
theorem gF : Tryz.prog.globalNamed "kinesphere/space.flat" = some 1 := by kernel_rfl
theorem tF1 : (Tryz.prog.globals[1]?).map (·.type) = some 279 := by kernel_rfl
def frows : List (DataW Unit) := (List.range 8).map fun k => .agg [.lit (.int .i64 (Uo.fl k).1), .lit (.int .i64 (Uo.fl k).2)]
theorem frows_eq : (Rows.laid_kinesphere_space_flat : DataW Unit) = .agg frows := by kernel_rfl
theorem frows_at (k : Nat) (hk : k < 8) : frows[k]? = some (.agg [.lit (.int .i64 (Uo.fl k).1), .lit (.int .i64 (Uo.fl k).2)]) := by
 simp [frows, hk]
theorem frow {H : Type} {enc : TypeId × Value → H} {w : World} {base : Nat} {spare : Nat → Bool} {held : Bool} {fuel : Nat} {cs : List Value} {x : DataW H × List MemPlace} (h : DataW.trod enc Tryz.prog w base spare held fuel 57 cs = some x) (a b : Int)
  (hx : x.1 = .agg [.lit (.int .i64 a), .lit (.int .i64 b)]) : cs = [.int .i64 a, .int .i64 b] := by
 obtain ⟨ds, e, hl, hc, hf⟩ := Kit.arr_trod Tryz.underlying57 h
 rw [e] at hx
 obtain rfl : ds = _ := by simpa using hx
 have c2 : Tryz.prog.cellsOf 57 = 2 := by kernel_rfl
 have ci : Tryz.prog.cellsOf 3 = 1 := by kernel_rfl
 rw [c2] at hc
 match cs, hc with
 | [a0, a1], _ =>
  obtain ⟨n0, y0, k0, d0⟩ := hf 0 omg
  obtain ⟨n1, y1, k1, d1⟩ := hf 1 omg
  simp only [ci, Nat.zero_mul, Nat.one_mul, List.drop_succ_cons, List.drop_zero, List.take_succ_cons, List.take_zero] at k0 k1
  obtain ⟨b0, rfl, z0, _⟩ := Kit.int_at Tryz.underlying3 k0
  obtain ⟨b1, rfl, z1, _⟩ := Kit.int_at Tryz.underlying3 k1
  rw [z0] at d0
  rw [z1] at d1
  simp at d0 d1
  rw [d0, d1]
theorem flat_laid {W : World} (h : laidMetH Tryz.prog laid W) : Uo.Flat W := by
 rw [MakeChecks.laidMetH_plain _ _ _ (by kernel_rfl)] at h
 obtain ⟨ps, ⟨g0, t0, cs0, f0, p0, q0, hg0, ht0, hv0, hd0, _, _⟩, _⟩ := h
 obtain rfl := Option.some.inj (gF.symm.trans hg0)
 obtain rfl := Option.some.inj (tF1.symm.trans ht0)
 obtain ⟨ds, e, hl, hc, hf⟩ := Kit.arr_trod Tryz.underlying279 hd0
 have c2 : Tryz.prog.cellsOf 57 = 2 := by kernel_rfl
 have hcell : ∀ off, W.cell? ⟨1, off, none⟩ = cs0.toList[off]? := fun off => by rw [World.var?_cell hg0 hv0 off]; simp
 have e2 : frows = ds := by
  have h1 := e
  simp only [frows_eq, DataW.agg.injEq] at h1
  exact h1
 have key : ∀ k, k < 8 → (cs0.toList.drop (k * 2)).take 2 = [.int .i64 (Uo.fl k).1, .int .i64 (Uo.fl k).2] := by
  intro k hk
  obtain ⟨m, y, hy, hd⟩ := hf k hk
  rw [c2] at hy
  refine frow hy _ _ ?_
  rw [← e2, frows_at k hk] at hd
  exact (Option.some.inj hd).symm
 have at_ : ∀ k j v, k < 8 → j < 2 → [Value.int .i64 (Uo.fl k).1, .int .i64 (Uo.fl k).2][j]? = some v → W.cell? ⟨1, k * 2 + j, none⟩ = some v := by
  intro k j v hk hj hv
  rw [hcell, ← hv, ← key k hk, List.getElem?_take_of_lt hj, List.getElem?_drop]
 refine ⟨?_, fun k hk => ⟨at_ k 0 _ hk omg rfl, at_ k 1 _ hk omg rfl⟩⟩
 have h0 := at_ 0 0 _ omg omg rfl
 rcases Nat.lt_or_ge 1 W.heap.size with hz | hz
 ·exact hz
 ·simp [World.cell?, Array.getElem?_eq_none (show W.heap.size ≤ 1 by omega)] at h0
section
variable {H : Type} {enc : TypeId × Value → H} {w : World} {base : Nat} {spare : Nat → Bool} {held : Bool} {fuel : Nat} {cs : List Value} {x : DataW H × List MemPlace}
theorem ci : Tryz.prog.cellsOf 3 = 1 := by kernel_rfl
end
end Lw
end Go.Proofs.YtbhgogiaaljclaaGreatDoor

namespace Go.Proofs.YtbhgogiaaljclaaGreatDoor
open Go.ChangeShapes Go.WideShapes Go.ChangeAt Go.RowKit Go.Joins

namespace Lw
def roF (r : Ex.Ro) : List Value := [.string r.1, .int .i64 r.2.1, .int .i64 r.2.2.1, .int .i64 r.2.2.2]
def sgF (s : Ex.Sg) : List Value := [.int .i64 s.id, .int .i64 s.role, .int .i64 s.bar, .int .i64 s.mark, .int .i64 s.kind, .int .i64 s.side, .int .i64 s.dir, .int .i64 s.level, .int .i64 s.size, .int .i64 s.wth, .int .i64 s.fn, .int .i64 s.fd, .int .i64 s.tn, .int .i64 s.td]
def tF (t : Tp.T) : List Value := [.int .i64 t.1, .int .i64 t.2.1, .int .i64 t.2.2]
def qF (q : Tp.Q) : List Value := [.int .i64 q.1, .int .i64 q.2.1, .int .i64 q.2.2.1, .int .i64 q.2.2.2]
def prF (q : Int × Int) : List Value := [.int .i64 q.1, .int .i64 q.2]
section
variable {H : Type} {enc : TypeId × Value → H} {w : World} {base : Nat} {spare : Nat → Bool} {held : Bool} {fuel : Nat} {cs : List Value} {x : DataW H × List MemPlace}
theorem roO (h : DataW.trod enc Tryz.prog w base spare held fuel 69 cs = some x) : ∃ r, cs = roF r := by
 obtain ⟨ds, e, hl, hc, hf⟩ := Kit.sub_trod Tryz.underlying69 h
 rw [show Tryz.prog.cellsOf 69 = 4 by kernel_rfl] at hc
 match cs, hc with
 | [a0, a1, a2, a3], _ =>
  obtain ⟨n0, y0, k0, _⟩ := hf 0 _ rfl
  obtain ⟨n1, y1, k1, _⟩ := hf 1 _ rfl
  obtain ⟨n2, y2, k2, _⟩ := hf 2 _ rfl
  obtain ⟨n3, y3, k3, _⟩ := hf 3 _ rfl
  have k0' : DataW.trod enc Tryz.prog w base spare held n0 9 (([a0, a1, a2, a3].drop 0).take (Tryz.prog.cellsOf 9)) = some y0 := k0
  have k1' : DataW.trod enc Tryz.prog w base spare held n1 3 (([a0, a1, a2, a3].drop 1).take (Tryz.prog.cellsOf 3)) = some y1 := k1
  have k2' : DataW.trod enc Tryz.prog w base spare held n2 3 (([a0, a1, a2, a3].drop 2).take (Tryz.prog.cellsOf 3)) = some y2 := k2
  have k3' : DataW.trod enc Tryz.prog w base spare held n3 3 (([a0, a1, a2, a3].drop 3).take (Tryz.prog.cellsOf 3)) = some y3 := k3
  simp only [show Tryz.prog.cellsOf 9 = 1 by kernel_rfl, ci, List.drop_succ_cons, List.drop_zero, List.take_succ_cons, List.take_zero] at k0' k1' k2' k3'
  obtain ⟨s, e0, _, _⟩ := DataW.trod_string Tryz.underlying9 k0'
  obtain ⟨z1, rfl, _⟩ := Kit.int_at Tryz.underlying3 k1'
  obtain ⟨z2, rfl, _⟩ := Kit.int_at Tryz.underlying3 k2'
  obtain ⟨z3, rfl, _⟩ := Kit.int_at Tryz.underlying3 k3'
  simp only [List.cons.injEq, and_true] at e0
  subst e0
  exact ⟨(s, z1, z2, z3), rfl⟩
theorem sgO (h : DataW.trod enc Tryz.prog w base spare held fuel 52 cs = some x) : ∃ s, cs = sgF s := by
 obtain ⟨zs, hl, rfl, _⟩ := Kit.flat_ints (n := 5) (by kernel_rfl) h
 rw [show Tryz.prog.cellsOf 52 = 14 by kernel_rfl] at hl
 match zs, hl with
 | [a, b, c, d, e, f, g, h, i, j, k, l, m, n], _ => exact ⟨⟨a, b, c, d, e, f, g, h, i, j, k, l, m, n⟩, rfl⟩
theorem tO (h : DataW.trod enc Tryz.prog w base spare held fuel 136 cs = some x) : ∃ s, cs = tF s := by
 obtain ⟨zs, hl, rfl, _⟩ := Kit.flat_ints (n := 5) (by kernel_rfl) h
 rw [show Tryz.prog.cellsOf 136 = 3 by kernel_rfl] at hl
 match zs, hl with
 | [a, b, c], _ => exact ⟨(a, b, c), rfl⟩
theorem qO (h : DataW.trod enc Tryz.prog w base spare held fuel 254 cs = some x) : ∃ s, cs = qF s := by
 obtain ⟨zs, hl, rfl, _⟩ := Kit.flat_ints (n := 5) (by kernel_rfl) h
 rw [show Tryz.prog.cellsOf 254 = 4 by kernel_rfl] at hl
 match zs, hl with
 | [a, b, c, d], _ => exact ⟨(a, b, c, d), rfl⟩
theorem cO (h : DataW.trod enc Tryz.prog w base spare held fuel 256 cs = some x) : ∃ s, cs = qF s := by
 obtain ⟨zs, hl, rfl, _⟩ := Kit.flat_ints (n := 5) (by kernel_rfl) h
 rw [show Tryz.prog.cellsOf 256 = 4 by kernel_rfl] at hl
 match zs, hl with
 | [a, b, c, d], _ => exact ⟨(a, b, c, d), rfl⟩
theorem trnO (h : DataW.trod enc Tryz.prog w base spare held fuel 23 cs = some x) : ∃ a b c : Int, cs = [.int .i64 a, .int .i64 b, .int .i64 c] := by
 obtain ⟨zs, hl, rfl, _⟩ := Kit.flat_ints (n := 5) (by kernel_rfl) h
 rw [show Tryz.prog.cellsOf 23 = 3 by kernel_rfl] at hl
 match zs, hl with
 | [a, b, c], _ => exact ⟨a, b, c, rfl⟩

theorem rosO (h : DataW.trod enc Tryz.prog w base spare held fuel 24 cs = some x) (hw : ∀ m ∈ x.1.weights Tryz.prog 24, m ≤ reachBytes) :
  ∃ (ad : Option Addr) (l : List Ex.Ro) (cap : Nat), cs = [.slice ad l.length cap] ∧ Tp.Sl w ad l.length 4 (Ex.roc l) ∧ l.length ≤ 4611686018427387904 := by
 obtain ⟨ad, l, cap, e, _, hs, hl⟩ := Kit.slice_list ((.empty, 0, 0, 0)) Tryz.underlying24 (k := 4) (by kernel_rfl) omg (of_decide_eq_true (by kernel_rfl)) roF (fun n cs y h => roO h) h hw
 refine ⟨ad, l, cap, e, Kit.sl_congr (fun i j hi hj => ?_) hs, hl⟩
 rcases j with _ | _ | _ | _ | j
 ·rfl
 ·rfl
 ·rfl
 ·rfl
 ·omega
theorem sgsO (h : DataW.trod enc Tryz.prog w base spare held fuel 30 cs = some x) (hw : ∀ m ∈ x.1.weights Tryz.prog 30, m ≤ reachBytes) :
  ∃ (ad : Option Addr) (l : List Ex.Sg) (cap : Nat), cs = [.slice ad l.length cap] ∧ Tp.Sl w ad l.length 14 (Ex.sgc l) ∧ l.length ≤ 4611686018427387904 := by
 obtain ⟨ad, l, cap, e, _, hs, hl⟩ := Kit.slice_list (default) Tryz.underlying30 (k := 14) (by kernel_rfl) omg (of_decide_eq_true (by kernel_rfl)) sgF (fun n cs y h => sgO h) h hw
 refine ⟨ad, l, cap, e, Kit.sl_congr (fun i j hi hj => ?_) hs, hl⟩
 rcases j with _ | _ | _ | _ | _ | _ | _ | _ | _ | _ | _ | _ | _ | _ | j <;> first | rfl | omega
theorem tsO (h : DataW.trod enc Tryz.prog w base spare held fuel 25 cs = some x) (hw : ∀ m ∈ x.1.weights Tryz.prog 25, m ≤ reachBytes) :
  ∃ (ad : Option Addr) (l : List Tp.T) (cap : Nat), cs = [.slice ad l.length cap] ∧ Tp.Sl w ad l.length 3 (Tp.tc l) ∧ l.length ≤ 4611686018427387904 := by
 obtain ⟨ad, l, cap, e, _, hs, hl⟩ := Kit.slice_list ((0, 0, 0)) Tryz.underlying25 (k := 3) (by kernel_rfl) omg (of_decide_eq_true (by kernel_rfl)) tF (fun n cs y h => tO h) h hw
 refine ⟨ad, l, cap, e, Kit.sl_congr (fun i j hi hj => ?_) hs, hl⟩
 rcases j with _ | _ | _ | j <;> first | rfl | omega
theorem psO (h : DataW.trod enc Tryz.prog w base spare held fuel 26 cs = some x) (hw : ∀ m ∈ x.1.weights Tryz.prog 26, m ≤ reachBytes) :
  ∃ (ad : Option Addr) (l : List Tp.Q) (cap : Nat), cs = [.slice ad l.length cap] ∧ Tp.Sl w ad l.length 4 (Tp.qc l) ∧ l.length ≤ 4611686018427387904 := by
 obtain ⟨ad, l, cap, e, _, hs, hl⟩ := Kit.slice_list ((0, 0, 0, 0)) Tryz.underlying26 (k := 4) (by kernel_rfl) omg (of_decide_eq_true (by kernel_rfl)) qF (fun n cs y h => qO h) h hw
 refine ⟨ad, l, cap, e, Kit.sl_congr (fun i j hi hj => ?_) hs, hl⟩
 rcases j with _ | _ | _ | _ | j <;> first | rfl | omega
theorem ssO (h : DataW.trod enc Tryz.prog w base spare held fuel 27 cs = some x) (hw : ∀ m ∈ x.1.weights Tryz.prog 27, m ≤ reachBytes) :
  ∃ (ad : Option Addr) (l : List Tp.Q) (cap : Nat), cs = [.slice ad l.length cap] ∧ Tp.Sl w ad l.length 4 (Tp.qc l) ∧ l.length ≤ 4611686018427387904 := by
 obtain ⟨ad, l, cap, e, _, hs, hl⟩ := Kit.slice_list ((0, 0, 0, 0)) Tryz.underlying27 (k := 4) (by kernel_rfl) omg (of_decide_eq_true (by kernel_rfl)) qF (fun n cs y h => cO h) h hw
 refine ⟨ad, l, cap, e, Kit.sl_congr (fun i j hi hj => ?_) hs, hl⟩
 rcases j with _ | _ | _ | _ | j <;> first | rfl | omega
theorem clO (h : DataW.trod enc Tryz.prog w base spare held fuel 29 cs = some x) (hw : ∀ m ∈ x.1.weights Tryz.prog 29, m ≤ reachBytes) :
  ∃ (n : Int) (aT : Option Addr) (ts : List Tp.T) (cT : Nat) (aP : Option Addr) (ps : List Tp.Q) (cP : Nat) (aS : Option Addr) (ss : List Tp.Q) (cS : Nat),
   cs = [.int .i64 n, .slice aT ts.length cT, .slice aP ps.length cP, .slice aS ss.length cS] ∧ Tp.Sl w aT ts.length 3 (Tp.tc ts) ∧ Tp.Sl w aP ps.length 4 (Tp.qc ps) ∧ Tp.Sl w aS ss.length 4 (Tp.qc ss) ∧
   ts.length ≤ 4611686018427387904 ∧ ps.length ≤ 4611686018427387904 ∧ ss.length ≤ 4611686018427387904 := by
 obtain ⟨ds, e, hl, hc, hf⟩ := Kit.sub_trod Tryz.underlying29 h
 rw [e] at hw
 have hp := fun (i : Nat) f hfi d hd => Kit.weights_part (P := Tryz.prog) Tryz.underlying29 hw (i := i) (f := f) hfi (d := d) hd
 rw [show Tryz.prog.cellsOf 29 = 4 by kernel_rfl] at hc
 match cs, hc with
 | [a0, a1, a2, a3], _ =>
  obtain ⟨n0, y0, k0, d0⟩ := hf 0 _ rfl
  obtain ⟨n1, y1, k1, d1⟩ := hf 1 _ rfl
  obtain ⟨n2, y2, k2, d2⟩ := hf 2 _ rfl
  obtain ⟨n3, y3, k3, d3⟩ := hf 3 _ rfl
  have w1 : ∀ m ∈ y1.1.weights Tryz.prog 25, m ≤ reachBytes := hp 1 _ rfl _ d1
  have w2 : ∀ m ∈ y2.1.weights Tryz.prog 26, m ≤ reachBytes := hp 2 _ rfl _ d2
  have w3 : ∀ m ∈ y3.1.weights Tryz.prog 27, m ≤ reachBytes := hp 3 _ rfl _ d3
  have k0' : DataW.trod enc Tryz.prog w base spare held n0 3 (([a0, a1, a2, a3].drop 0).take (Tryz.prog.cellsOf 3)) = some y0 := k0
  have k1' : DataW.trod enc Tryz.prog w base spare held n1 25 (([a0, a1, a2, a3].drop 1).take (Tryz.prog.cellsOf 25)) = some y1 := k1
  have k2' : DataW.trod enc Tryz.prog w base spare held n2 26 (([a0, a1, a2, a3].drop 2).take (Tryz.prog.cellsOf 26)) = some y2 := k2
  have k3' : DataW.trod enc Tryz.prog w base spare held n3 27 (([a0, a1, a2, a3].drop 3).take (Tryz.prog.cellsOf 27)) = some y3 := k3
  simp only [show Tryz.prog.cellsOf 25 = 1 by kernel_rfl, show Tryz.prog.cellsOf 26 = 1 by kernel_rfl, show Tryz.prog.cellsOf 27 = 1 by kernel_rfl, ci, List.drop_succ_cons, List.drop_zero, List.take_succ_cons, List.take_zero] at k0' k1' k2' k3'
  obtain ⟨n, rfl, _⟩ := Kit.int_at Tryz.underlying3 k0'
  obtain ⟨aT, ts, cT, e1, s1, l1⟩ := tsO k1' w1
  obtain ⟨aP, ps, cP, e2, s2, l2⟩ := psO k2' w2
  obtain ⟨aS, ss, cS, e3, s3, l3⟩ := ssO k3' w3
  simp only [List.cons.injEq, and_true] at e1 e2 e3
  subst e1 e2 e3
  exact ⟨n, aT, ts, cT, aP, ps, cP, aS, ss, cS, rfl, s1, s2, s3, l1, l2, l3⟩
theorem work_in {r : Reach} {b0 : Nat} {v : Value} {d : DataW H} {q : List MemPlace} (hv : Value.okWide Tryz.prog w r b0 32 v) (h : DataW.Trod enc Tryz.prog w base spare held 32 v d q)
  (hw : ∀ m ∈ d.weights Tryz.prog 32, m ≤ reachBytes) : ∃ x p, v = Ex.workV x p ∧ Ex.At w x p := by
 obtain ⟨cs, rfl, hsz⟩ := okWide_struct Tryz.underlying32 hv
 obtain ⟨fuel, hf0⟩ := h
 have hf' : DataW.trod enc Tryz.prog w base spare held fuel 32 cs.toList = some (d, q) := by simpa [Value.cells] using hf0
 obtain ⟨ds, e, hl, hc, hf⟩ := Kit.sub_trod Tryz.underlying32 hf'
 dsimp only at e
 subst e
 have hp := fun (i : Nat) f hfi d hd => Kit.weights_part (P := Tryz.prog) Tryz.underlying32 hw (i := i) (f := f) hfi (d := d) hd
 rw [show Tryz.prog.cellsOf 32 = 11 by kernel_rfl] at hc
 obtain ⟨l⟩ := cs
 dsimp only at hc hf
 match l, hc with
 | [a0, a1, a2, a3, a4, a5, a6, a7, a8, a9, a10], _ =>
  obtain ⟨n0, y0, k0, d0⟩ := hf 0 _ rfl
  obtain ⟨n1, y1, k1, d1⟩ := hf 1 _ rfl
  obtain ⟨n2, y2, k2, d2⟩ := hf 2 _ rfl
  obtain ⟨n3, y3, k3, d3⟩ := hf 3 _ rfl
  obtain ⟨n4, y4, k4, d4⟩ := hf 4 _ rfl
  obtain ⟨n5, y5, k5, d5⟩ := hf 5 _ rfl
  have w3 : ∀ m ∈ y3.1.weights Tryz.prog 24, m ≤ reachBytes := hp 3 _ rfl _ d3
  have w4 : ∀ m ∈ y4.1.weights Tryz.prog 29, m ≤ reachBytes := hp 4 _ rfl _ d4
  have w5 : ∀ m ∈ y5.1.weights Tryz.prog 30, m ≤ reachBytes := hp 5 _ rfl _ d5
  have k0' : DataW.trod enc Tryz.prog w base spare held n0 3 (([a0, a1, a2, a3, a4, a5, a6, a7, a8, a9, a10].drop 0).take (Tryz.prog.cellsOf 3)) = some y0 := k0
  have k1' : DataW.trod enc Tryz.prog w base spare held n1 3 (([a0, a1, a2, a3, a4, a5, a6, a7, a8, a9, a10].drop 1).take (Tryz.prog.cellsOf 3)) = some y1 := k1
  have k2' : DataW.trod enc Tryz.prog w base spare held n2 23 (([a0, a1, a2, a3, a4, a5, a6, a7, a8, a9, a10].drop 2).take (Tryz.prog.cellsOf 23)) = some y2 := k2
  have k3' : DataW.trod enc Tryz.prog w base spare held n3 24 (([a0, a1, a2, a3, a4, a5, a6, a7, a8, a9, a10].drop 5).take (Tryz.prog.cellsOf 24)) = some y3 := k3
  have k4' : DataW.trod enc Tryz.prog w base spare held n4 29 (([a0, a1, a2, a3, a4, a5, a6, a7, a8, a9, a10].drop 6).take (Tryz.prog.cellsOf 29)) = some y4 := k4
  have k5' : DataW.trod enc Tryz.prog w base spare held n5 30 (([a0, a1, a2, a3, a4, a5, a6, a7, a8, a9, a10].drop 10).take (Tryz.prog.cellsOf 30)) = some y5 := k5
  simp only [show Tryz.prog.cellsOf 24 = 1 by kernel_rfl, show Tryz.prog.cellsOf 30 = 1 by kernel_rfl, show Tryz.prog.cellsOf 23 = 3 by kernel_rfl, show Tryz.prog.cellsOf 29 = 4 by kernel_rfl, ci, List.drop_succ_cons, List.drop_zero, List.take_succ_cons, List.take_zero] at k0' k1' k2' k3' k4' k5'
  obtain ⟨wd, rfl, _⟩ := Kit.int_at Tryz.underlying3 k0'
  obtain ⟨dp, rfl, _⟩ := Kit.int_at Tryz.underlying3 k1'
  obtain ⟨ta, tb, tc, e2⟩ := trnO k2'
  obtain ⟨aR, ro, cR, e3, s3, l3⟩ := rosO k3' w3
  obtain ⟨n, aT, ts, cT, aP, ps, cP, aS, ss, cS, e4, sT, sP, sS, lT, lP, lS⟩ := clO k4' w4
  obtain ⟨aG, sg, cG, e5, s5, l5⟩ := sgsO k5' w5
  simp only [List.cons.injEq, and_true] at e2 e3 e4 e5
  obtain ⟨rfl, rfl, rfl⟩ := e2
  obtain ⟨rfl, rfl, rfl, rfl⟩ := e4
  subst e3 e5
  exact ⟨⟨wd, dp, ta, tb, tc, n, ro, ts, ps, ss, sg⟩, ⟨aR, cR, aT, cT, aP, cP, aS, cS, aG, cG⟩, rfl, s3, sT, sP, sS, s5, l3, lT, lP, lS, l5⟩

def bdL (b : Un.Bd) : List Value := (Un.bdA b).toList
theorem in3 (h : DataW.trod enc Tryz.prog w base spare held fuel 34 cs = some x) : ∃ a b c : Int, cs = [.int .i64 a, .int .i64 b, .int .i64 c] := by
 obtain ⟨zs, hl, rfl, _⟩ := Kit.flat_ints (n := 5) (by kernel_rfl) h
 rw [show Tryz.prog.cellsOf 34 = 3 by kernel_rfl] at hl
 match zs, hl with
 | [a, b, c], _ => exact ⟨a, b, c, rfl⟩
theorem bdO (h : DataW.trod enc Tryz.prog w base spare held fuel 36 cs = some x) : ∃ b : Un.Bd, cs = bdL b ∧ b.name.size ≤ 9223372036854775807 := by
 obtain ⟨ds, e, hl, hc, hf⟩ := Kit.sub_trod Tryz.underlying36 h
 rw [show Tryz.prog.cellsOf 36 = 17 by kernel_rfl] at hc
 match cs, hc with
 | [a0, a1, a2, a3, a4, a5, a6, a7, a8, a9, a10, a11, a12, a13, a14, a15, a16], _ =>
  obtain ⟨n0, y0, k0, _⟩ := hf 0 _ rfl
  obtain ⟨n1, y1, k1, _⟩ := hf 1 _ rfl
  obtain ⟨n2, y2, k2, _⟩ := hf 2 _ rfl
  obtain ⟨n3, y3, k3, _⟩ := hf 3 _ rfl
  obtain ⟨n4, y4, k4, _⟩ := hf 4 _ rfl
  obtain ⟨n5, y5, k5, _⟩ := hf 5 _ rfl
  obtain ⟨n6, y6, k6, _⟩ := hf 6 _ rfl
  obtain ⟨n7, y7, k7, _⟩ := hf 7 _ rfl
  obtain ⟨n8, y8, k8, _⟩ := hf 8 _ rfl
  obtain ⟨n9, y9, k9, _⟩ := hf 9 _ rfl
  obtain ⟨n10, y10, k10, _⟩ := hf 10 _ rfl
  have k0' : DataW.trod enc Tryz.prog w base spare held n0 9 (([a0, a1, a2, a3, a4, a5, a6, a7, a8, a9, a10, a11, a12, a13, a14, a15, a16].drop 0).take (Tryz.prog.cellsOf 9)) = some y0 := k0
  have k1' : DataW.trod enc Tryz.prog w base spare held n1 3 (([a0, a1, a2, a3, a4, a5, a6, a7, a8, a9, a10, a11, a12, a13, a14, a15, a16].drop 1).take (Tryz.prog.cellsOf 3)) = some y1 := k1
  have k2' : DataW.trod enc Tryz.prog w base spare held n2 3 (([a0, a1, a2, a3, a4, a5, a6, a7, a8, a9, a10, a11, a12, a13, a14, a15, a16].drop 2).take (Tryz.prog.cellsOf 3)) = some y2 := k2
  have k3' : DataW.trod enc Tryz.prog w base spare held n3 3 (([a0, a1, a2, a3, a4, a5, a6, a7, a8, a9, a10, a11, a12, a13, a14, a15, a16].drop 3).take (Tryz.prog.cellsOf 3)) = some y3 := k3
  have k4' : DataW.trod enc Tryz.prog w base spare held n4 3 (([a0, a1, a2, a3, a4, a5, a6, a7, a8, a9, a10, a11, a12, a13, a14, a15, a16].drop 4).take (Tryz.prog.cellsOf 3)) = some y4 := k4
  have k5' : DataW.trod enc Tryz.prog w base spare held n5 3 (([a0, a1, a2, a3, a4, a5, a6, a7, a8, a9, a10, a11, a12, a13, a14, a15, a16].drop 5).take (Tryz.prog.cellsOf 3)) = some y5 := k5
  have k6' : DataW.trod enc Tryz.prog w base spare held n6 34 (([a0, a1, a2, a3, a4, a5, a6, a7, a8, a9, a10, a11, a12, a13, a14, a15, a16].drop 6).take (Tryz.prog.cellsOf 34)) = some y6 := k6
  have k7' : DataW.trod enc Tryz.prog w base spare held n7 34 (([a0, a1, a2, a3, a4, a5, a6, a7, a8, a9, a10, a11, a12, a13, a14, a15, a16].drop 9).take (Tryz.prog.cellsOf 34)) = some y7 := k7
  have k8' : DataW.trod enc Tryz.prog w base spare held n8 34 (([a0, a1, a2, a3, a4, a5, a6, a7, a8, a9, a10, a11, a12, a13, a14, a15, a16].drop 12).take (Tryz.prog.cellsOf 34)) = some y8 := k8
  have k9' : DataW.trod enc Tryz.prog w base spare held n9 3 (([a0, a1, a2, a3, a4, a5, a6, a7, a8, a9, a10, a11, a12, a13, a14, a15, a16].drop 15).take (Tryz.prog.cellsOf 3)) = some y9 := k9
  have k10' : DataW.trod enc Tryz.prog w base spare held n10 3 (([a0, a1, a2, a3, a4, a5, a6, a7, a8, a9, a10, a11, a12, a13, a14, a15, a16].drop 16).take (Tryz.prog.cellsOf 3)) = some y10 := k10
  simp only [show Tryz.prog.cellsOf 9 = 1 by kernel_rfl, show Tryz.prog.cellsOf 34 = 3 by kernel_rfl, ci, List.drop_succ_cons, List.drop_zero, List.take_succ_cons, List.take_zero] at k0' k1' k2' k3' k4' k5' k6' k7' k8' k9' k10'
  obtain ⟨s, e0, hs1, hs2⟩ := DataW.trod_string Tryz.underlying9 k0'
  obtain ⟨z1, rfl, _⟩ := Kit.int_at Tryz.underlying3 k1'
  obtain ⟨z2, rfl, _⟩ := Kit.int_at Tryz.underlying3 k2'
  obtain ⟨z3, rfl, _⟩ := Kit.int_at Tryz.underlying3 k3'
  obtain ⟨z4, rfl, _⟩ := Kit.int_at Tryz.underlying3 k4'
  obtain ⟨z5, rfl, _⟩ := Kit.int_at Tryz.underlying3 k5'
  obtain ⟨p0, p1, p2, e6⟩ := in3 k6'
  obtain ⟨q0, q1, q2, e7⟩ := in3 k7'
  obtain ⟨r0, r1, r2, e8⟩ := in3 k8'
  obtain ⟨z9, rfl, _⟩ := Kit.int_at Tryz.underlying3 k9'
  obtain ⟨z10, rfl, _⟩ := Kit.int_at Tryz.underlying3 k10'
  simp only [List.cons.injEq, and_true] at e0 e6 e7 e8
  obtain ⟨rfl, rfl, rfl⟩ := e6
  obtain ⟨rfl, rfl, rfl⟩ := e7
  obtain ⟨rfl, rfl, rfl⟩ := e8
  subst e0
  exact ⟨⟨s, z1, z2, z3, z4, z5, p0, p1, p2, q0, q1, q2, r0, r1, r2, z9, z10⟩, rfl, by unfold maxLen at hs2; omega⟩
theorem bdsO (h : DataW.trod enc Tryz.prog w base spare held fuel 33 cs = some x) (hw : ∀ m ∈ x.1.weights Tryz.prog 33, m ≤ reachBytes) :
  ∃ (ad : Option Addr) (l : List Un.Bd) (cap : Nat), cs = [.slice ad l.length cap] ∧ Tp.Sl w ad l.length 17 (Un.bdF l) ∧ l.length ≤ 4611686018427387904 ∧ ∀ b ∈ l, b.name.size ≤ 9223372036854775807 := by
 obtain ⟨ad, l, cap, e, _, hs, hl⟩ := Kit.slice_list ((⟨default, by decide⟩ : { b : Un.Bd // b.name.size ≤ 9223372036854775807 })) Tryz.underlying33 (k := 17) (by kernel_rfl) omg (of_decide_eq_true (by kernel_rfl)) (fun b => bdL b.1) (fun n cs y h => by obtain ⟨b, e, hb⟩ := bdO h; exact ⟨⟨b, hb⟩, e⟩) h hw
 refine ⟨ad, l.map (·.1), cap, by simpa using e, ?_, by simpa using hl, fun b hb => by obtain ⟨c, _, rfl⟩ := List.mem_map.1 hb; exact c.2⟩
 rw [List.length_map]
 refine Kit.sl_congr (fun i j hi hj => ?_) hs
 have e1 : (l.map (·.1)).getD i default = (l.getD i ⟨default, by decide⟩).1 := by simp [List.getD, hi]
 exact (Un.bdF_at (l.map (·.1)) i _ e1 j _ (by
  show (bdL (l.getD i ⟨default, by decide⟩).1)[j]? = some ((bdL (l.getD i ⟨default, by decide⟩).1).getD j (.bool false))
  have h17 : (bdL (l.getD i ⟨default, by decide⟩).1).length = 17 := rfl
  rw [List.getD_eq_getElem?_getD (l := bdL _), List.getElem?_eq_getElem (show j < (bdL (l.getD i ⟨default, by decide⟩).1).length by omega)]; rfl)).symm
theorem bodies_in {r : Reach} {b0 : Nat} {v : Value} {d : DataW H} {q : List MemPlace} (hv : Value.okWide Tryz.prog w r b0 33 v) (h : DataW.Trod enc Tryz.prog w base spare held 33 v d q)
  (hw : ∀ m ∈ d.weights Tryz.prog 33, m ≤ reachBytes) : ∃ (ad : Option Addr) (l : List Un.Bd) (c : Nat), v = .slice ad l.length c ∧ Tp.Sl w ad l.length 17 (Un.bdF l) ∧ l.length ≤ 4611686018427387904 ∧ ∀ b ∈ l, b.name.size ≤ 9223372036854775807 := by
 obtain ⟨a1, n1, c1, rfl⟩ := okWide_slice Tryz.underlying33 hv
 obtain ⟨fuel, hf0⟩ := h
 obtain ⟨ad, l, cap, e, hs, hl, hn⟩ := bdsO (show DataW.trod enc Tryz.prog w base spare held fuel 33 [.slice a1 n1 c1] = some (d, q) by simpa [Value.cells] using hf0) hw
 simp only [List.cons.injEq, and_true] at e
 exact ⟨ad, l, cap, e, hs, hl, hn⟩
theorem inO (h : DataW.trod enc Tryz.prog w base spare held fuel 3 cs = some x) : ∃ z : Int, cs = [.int .i64 z] := by
 obtain ⟨zs, hl, rfl, _⟩ := Kit.flat_ints (n := 5) (by kernel_rfl) h
 rw [show Tryz.prog.cellsOf 3 = 1 by kernel_rfl] at hl
 match zs, hl with
 | [a], _ => exact ⟨a, rfl⟩
theorem ints_in {r : Reach} {b0 : Nat} {v : Value} {d : DataW H} {q : List MemPlace} (hv : Value.okWide Tryz.prog w r b0 44 v) (h : DataW.Trod enc Tryz.prog w base spare held 44 v d q)
  (hw : ∀ m ∈ d.weights Tryz.prog 44, m ≤ reachBytes) : ∃ (ad : Option Addr) (l : List Int) (c : Nat), v = .slice ad l.length c ∧ Tp.Sl w ad l.length 1 (Un.ic l) ∧ l.length ≤ 4611686018427387904 ∧ l.length ≤ c := by
 obtain ⟨a1, n1, c1, rfl⟩ := okWide_slice Tryz.underlying44 hv
 obtain ⟨fuel, hf0⟩ := h
 obtain ⟨ad, l, cap, e, hc, hs, hl⟩ := Kit.slice_list (0 : Int) Tryz.underlying44 (k := 1) (by kernel_rfl) omg (of_decide_eq_true (by kernel_rfl)) (fun z => [.int .i64 z]) (fun n cs y h => inO h) (show DataW.trod enc Tryz.prog w base spare held fuel 44 [.slice a1 n1 c1] = some (d, q) by simpa [Value.cells] using hf0) hw
 simp only [List.cons.injEq, and_true] at e
 rw [e]
 refine ⟨ad, l, cap, rfl, Kit.sl_congr (fun i j hi hj => ?_) hs, hl, hc⟩
 obtain rfl : j = 0 := by omega
 rfl

end
end Lw
end Go.Proofs.YtbhgogiaaljclaaGreatDoor

namespace Go.Proofs.YtbhgogiaaljclaaGreatDoor
open Go.ChangeShapes Go.WideShapes Go.ChangeAt Go.RowKit Go.Joins
namespace Lw
section
variable {H : Type} {enc : TypeId × Value → H} {w : World} {base : Nat} {spare : Nat → Bool} {held : Bool}
end
end Lw
end Go.Proofs.YtbhgogiaaljclaaGreatDoor
