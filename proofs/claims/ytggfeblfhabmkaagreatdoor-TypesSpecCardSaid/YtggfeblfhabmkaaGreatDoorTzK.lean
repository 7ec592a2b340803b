/- Opening works that are handed in (layer 20). -/
import Derived.Test.YtggfeblfhabmkaaGreatDoorTzE
import Derived.Test.YtggfeblfhabmkaaGreatDoorKitl
import Derived.Test.YtggfeblfhabmkaaGreatDoorEx
namespace Go.Proofs.YtggfeblfhabmkaaGreatDoor
set_option linter.unusedVariables false
set_option linter.unusedSimpArgs false
open Go.ChangeShapes Go.WideShapes Go.ChangeAt Go.RowKit Go.Joins

namespace Lw
def roF (r : Ex.Ro) : List Value := [.string r.1, .int .i64 r.2.1, .int .i64 r.2.2.1, .int .i64 r.2.2.2]
def sgF (s : Ex.Sg) : List Value := [.int .i64 s.id, .int .i64 s.role, .int .i64 s.bar, .int .i64 s.mark, .int .i64 s.kind, .int .i64 s.side, .int .i64 s.dir, .int .i64 s.level, .int .i64 s.size, .int .i64 s.wth, .int .i64 s.fn, .int .i64 s.fd, .int .i64 s.tn, .int .i64 s.td]
def tF (t : Tp.T) : List Value := [.int .i64 t.1, .int .i64 t.2.1, .int .i64 t.2.2]
def qF (q : Tp.Q) : List Value := [.int .i64 q.1, .int .i64 q.2.1, .int .i64 q.2.2.1, .int .i64 q.2.2.2]
def prF (q : Int × Int) : List Value := [.int .i64 q.1, .int .i64 q.2]
section
variable {H : Type} {enc : TypeId × Value → H} {w : World} {base : Nat} {spare : Nat → Bool} {held : Bool} {fuel : Nat} {cs : List Value} {x : DataW H × List MemPlace}
set_option maxRecDepth 100000 in
theorem roO (h : DataW.trod enc Tryz.prog w base spare held fuel 73 cs = some x) : ∃ r, cs = roF r := by
  obtain ⟨ds, e, hl, hc, hf⟩ := Kit.sub_trod Tryz.underlying73 h
  rw [show Tryz.prog.cellsOf 73 = 4 by kernel_rfl] at hc
  match cs, hc with
  | [a0, a1, a2, a3], _ =>
    obtain ⟨n0, y0, k0, _⟩ := hf 0 _ rfl
    obtain ⟨n1, y1, k1, _⟩ := hf 1 _ rfl
    obtain ⟨n2, y2, k2, _⟩ := hf 2 _ rfl
    obtain ⟨n3, y3, k3, _⟩ := hf 3 _ rfl
    have k0' : DataW.trod enc Tryz.prog w base spare held n0 9 (([a0, a1, a2, a3].drop 0).take (Tryz.prog.cellsOf 9)) = some y0 := k0
    have k1' : DataW.trod enc Tryz.prog w base spare held n1 3 (([a0, a1, a2, a3].drop 1).take (Tryz.prog.cellsOf 3)) = some y1 := k1
    have k2' : DataW.trod enc Tryz.prog w base spare held n2 3 (([a0, a1, a2, a3].drop 2).take (Tryz.prog.cellsOf 3)) = some y2 := k2
    have k3' : DataW.trod enc Tryz.prog w base spare held n3 3 (([a0, a1, a2, a3].drop 3).take (Tryz.prog.cellsOf 3)) = some y3 := k3
    simp only [show Tryz.prog.cellsOf 9 = 1 by kernel_rfl, ci, List.drop_succ_cons, List.drop_zero, List.take_succ_cons, List.take_zero] at k0' k1' k2' k3'
    obtain ⟨s, e0, _, _⟩ := DataW.trod_string Tryz.underlying9 k0'
    obtain ⟨z1, rfl, _⟩ := Kit.int_at Tryz.underlying3 k1'
    obtain ⟨z2, rfl, _⟩ := Kit.int_at Tryz.underlying3 k2'
    obtain ⟨z3, rfl, _⟩ := Kit.int_at Tryz.underlying3 k3'
    simp only [List.cons.injEq, and_true] at e0
    subst e0
    exact ⟨(s, z1, z2, z3), rfl⟩
set_option maxRecDepth 100000 in
theorem sgO (h : DataW.trod enc Tryz.prog w base spare held fuel 44 cs = some x) : ∃ s, cs = sgF s := by
  obtain ⟨zs, hl, rfl, _⟩ := Kit.flat_ints (n := 5) (by kernel_rfl) h
  rw [show Tryz.prog.cellsOf 44 = 14 by kernel_rfl] at hl
  match zs, hl with
  | [a, b, c, d, e, f, g, h, i, j, k, l, m, n], _ => exact ⟨⟨a, b, c, d, e, f, g, h, i, j, k, l, m, n⟩, rfl⟩
set_option maxRecDepth 100000 in
theorem tO (h : DataW.trod enc Tryz.prog w base spare held fuel 75 cs = some x) : ∃ s, cs = tF s := by
  obtain ⟨zs, hl, rfl, _⟩ := Kit.flat_ints (n := 5) (by kernel_rfl) h
  rw [show Tryz.prog.cellsOf 75 = 3 by kernel_rfl] at hl
  match zs, hl with
  | [a, b, c], _ => exact ⟨(a, b, c), rfl⟩
set_option maxRecDepth 100000 in
theorem qO (h : DataW.trod enc Tryz.prog w base spare held fuel 120 cs = some x) : ∃ s, cs = qF s := by
  obtain ⟨zs, hl, rfl, _⟩ := Kit.flat_ints (n := 5) (by kernel_rfl) h
  rw [show Tryz.prog.cellsOf 120 = 4 by kernel_rfl] at hl
  match zs, hl with
  | [a, b, c, d], _ => exact ⟨(a, b, c, d), rfl⟩
set_option maxRecDepth 100000 in
theorem cO (h : DataW.trod enc Tryz.prog w base spare held fuel 122 cs = some x) : ∃ s, cs = qF s := by
  obtain ⟨zs, hl, rfl, _⟩ := Kit.flat_ints (n := 5) (by kernel_rfl) h
  rw [show Tryz.prog.cellsOf 122 = 4 by kernel_rfl] at hl
  match zs, hl with
  | [a, b, c, d], _ => exact ⟨(a, b, c, d), rfl⟩
set_option maxRecDepth 100000 in
theorem trnO (h : DataW.trod enc Tryz.prog w base spare held fuel 23 cs = some x) : ∃ a b c : Int, cs = [.int .i64 a, .int .i64 b, .int .i64 c] := by
  obtain ⟨zs, hl, rfl, _⟩ := Kit.flat_ints (n := 5) (by kernel_rfl) h
  rw [show Tryz.prog.cellsOf 23 = 3 by kernel_rfl] at hl
  match zs, hl with
  | [a, b, c], _ => exact ⟨a, b, c, rfl⟩

set_option maxRecDepth 100000 in
/-- The slices of a clock and of a work. -/
theorem rosO (h : DataW.trod enc Tryz.prog w base spare held fuel 24 cs = some x) (hw : ∀ m ∈ x.1.weights Tryz.prog 24, m ≤ reachBytes) :
    ∃ (ad : Option Addr) (l : List Ex.Ro) (cap : Nat), cs = [.slice ad l.length cap] ∧ Tp.Sl w ad l.length 4 (Ex.roc l) ∧ l.length ≤ 4611686018427387904 := by
  obtain ⟨ad, l, cap, e, _, hs, hl⟩ := Kit.slice_list ((.empty, 0, 0, 0)) Tryz.underlying24 (k := 4) (by kernel_rfl) (by omega) (of_decide_eq_true (by kernel_rfl)) roF (fun n cs y h => roO h) h hw
  refine ⟨ad, l, cap, e, Kit.sl_congr (fun i j hi hj => ?_) hs, hl⟩
  rcases j with _ | _ | _ | _ | j
  · rfl
  · rfl
  · rfl
  · rfl
  · omega
set_option maxRecDepth 100000 in
theorem sgsO (h : DataW.trod enc Tryz.prog w base spare held fuel 30 cs = some x) (hw : ∀ m ∈ x.1.weights Tryz.prog 30, m ≤ reachBytes) :
    ∃ (ad : Option Addr) (l : List Ex.Sg) (cap : Nat), cs = [.slice ad l.length cap] ∧ Tp.Sl w ad l.length 14 (Ex.sgc l) ∧ l.length ≤ 4611686018427387904 := by
  obtain ⟨ad, l, cap, e, _, hs, hl⟩ := Kit.slice_list (default) Tryz.underlying30 (k := 14) (by kernel_rfl) (by omega) (of_decide_eq_true (by kernel_rfl)) sgF (fun n cs y h => sgO h) h hw
  refine ⟨ad, l, cap, e, Kit.sl_congr (fun i j hi hj => ?_) hs, hl⟩
  rcases j with _ | _ | _ | _ | _ | _ | _ | _ | _ | _ | _ | _ | _ | _ | j <;> first | rfl | omega
set_option maxRecDepth 100000 in
theorem tsO (h : DataW.trod enc Tryz.prog w base spare held fuel 25 cs = some x) (hw : ∀ m ∈ x.1.weights Tryz.prog 25, m ≤ reachBytes) :
    ∃ (ad : Option Addr) (l : List Tp.T) (cap : Nat), cs = [.slice ad l.length cap] ∧ Tp.Sl w ad l.length 3 (Tp.tc l) ∧ l.length ≤ 4611686018427387904 := by
  obtain ⟨ad, l, cap, e, _, hs, hl⟩ := Kit.slice_list ((0, 0, 0)) Tryz.underlying25 (k := 3) (by kernel_rfl) (by omega) (of_decide_eq_true (by kernel_rfl)) tF (fun n cs y h => tO h) h hw
  refine ⟨ad, l, cap, e, Kit.sl_congr (fun i j hi hj => ?_) hs, hl⟩
  rcases j with _ | _ | _ | j <;> first | rfl | omega
set_option maxRecDepth 100000 in
theorem psO (h : DataW.trod enc Tryz.prog w base spare held fuel 26 cs = some x) (hw : ∀ m ∈ x.1.weights Tryz.prog 26, m ≤ reachBytes) :
    ∃ (ad : Option Addr) (l : List Tp.Q) (cap : Nat), cs = [.slice ad l.length cap] ∧ Tp.Sl w ad l.length 4 (Tp.qc l) ∧ l.length ≤ 4611686018427387904 := by
  obtain ⟨ad, l, cap, e, _, hs, hl⟩ := Kit.slice_list ((0, 0, 0, 0)) Tryz.underlying26 (k := 4) (by kernel_rfl) (by omega) (of_decide_eq_true (by kernel_rfl)) qF (fun n cs y h => qO h) h hw
  refine ⟨ad, l, cap, e, Kit.sl_congr (fun i j hi hj => ?_) hs, hl⟩
  rcases j with _ | _ | _ | _ | j <;> first | rfl | omega
set_option maxRecDepth 100000 in
theorem ssO (h : DataW.trod enc Tryz.prog w base spare held fuel 27 cs = some x) (hw : ∀ m ∈ x.1.weights Tryz.prog 27, m ≤ reachBytes) :
    ∃ (ad : Option Addr) (l : List Tp.Q) (cap : Nat), cs = [.slice ad l.length cap] ∧ Tp.Sl w ad l.length 4 (Tp.qc l) ∧ l.length ≤ 4611686018427387904 := by
  obtain ⟨ad, l, cap, e, _, hs, hl⟩ := Kit.slice_list ((0, 0, 0, 0)) Tryz.underlying27 (k := 4) (by kernel_rfl) (by omega) (of_decide_eq_true (by kernel_rfl)) qF (fun n cs y h => cO h) h hw
  refine ⟨ad, l, cap, e, Kit.sl_congr (fun i j hi hj => ?_) hs, hl⟩
  rcases j with _ | _ | _ | _ | j <;> first | rfl | omega
set_option maxRecDepth 100000 in
theorem clO (h : DataW.trod enc Tryz.prog w base spare held fuel 29 cs = some x) (hw : ∀ m ∈ x.1.weights Tryz.prog 29, m ≤ reachBytes) :
    ∃ (n : Int) (aT : Option Addr) (ts : List Tp.T) (cT : Nat) (aP : Option Addr) (ps : List Tp.Q) (cP : Nat) (aS : Option Addr) (ss : List Tp.Q) (cS : Nat),
      cs = [.int .i64 n, .slice aT ts.length cT, .slice aP ps.length cP, .slice aS ss.length cS] ∧ Tp.Sl w aT ts.length 3 (Tp.tc ts) ∧ Tp.Sl w aP ps.length 4 (Tp.qc ps) ∧ Tp.Sl w aS ss.length 4 (Tp.qc ss) ∧
      ts.length ≤ 4611686018427387904 ∧ ps.length ≤ 4611686018427387904 ∧ ss.length ≤ 4611686018427387904 := by
  obtain ⟨ds, e, hl, hc, hf⟩ := Kit.sub_trod Tryz.underlying29 h
  rw [e] at hw
  have hp := fun (i : Nat) f hfi d hd => Kit.weights_part (P := Tryz.prog) Tryz.underlying29 hw (i := i) (f := f) hfi (d := d) hd
  rw [show Tryz.prog.cellsOf 29 = 4 by kernel_rfl] at hc
  match cs, hc with
  | [a0, a1, a2, a3], _ =>
    obtain ⟨n0, y0, k0, d0⟩ := hf 0 _ rfl
    obtain ⟨n1, y1, k1, d1⟩ := hf 1 _ rfl
    obtain ⟨n2, y2, k2, d2⟩ := hf 2 _ rfl
    obtain ⟨n3, y3, k3, d3⟩ := hf 3 _ rfl
    have w1 : ∀ m ∈ y1.1.weights Tryz.prog 25, m ≤ reachBytes := hp 1 _ rfl _ d1
    have w2 : ∀ m ∈ y2.1.weights Tryz.prog 26, m ≤ reachBytes := hp 2 _ rfl _ d2
    have w3 : ∀ m ∈ y3.1.weights Tryz.prog 27, m ≤ reachBytes := hp 3 _ rfl _ d3
    have k0' : DataW.trod enc Tryz.prog w base spare held n0 3 (([a0, a1, a2, a3].drop 0).take (Tryz.prog.cellsOf 3)) = some y0 := k0
    have k1' : DataW.trod enc Tryz.prog w base spare held n1 25 (([a0, a1, a2, a3].drop 1).take (Tryz.prog.cellsOf 25)) = some y1 := k1
    have k2' : DataW.trod enc Tryz.prog w base spare held n2 26 (([a0, a1, a2, a3].drop 2).take (Tryz.prog.cellsOf 26)) = some y2 := k2
    have k3' : DataW.trod enc Tryz.prog w base spare held n3 27 (([a0, a1, a2, a3].drop 3).take (Tryz.prog.cellsOf 27)) = some y3 := k3
    simp only [show Tryz.prog.cellsOf 25 = 1 by kernel_rfl, show Tryz.prog.cellsOf 26 = 1 by kernel_rfl, show Tryz.prog.cellsOf 27 = 1 by kernel_rfl, ci, List.drop_succ_cons, List.drop_zero, List.take_succ_cons, List.take_zero] at k0' k1' k2' k3'
    obtain ⟨n, rfl, _⟩ := Kit.int_at Tryz.underlying3 k0'
    obtain ⟨aT, ts, cT, e1, s1, l1⟩ := tsO k1' w1
    obtain ⟨aP, ps, cP, e2, s2, l2⟩ := psO k2' w2
    obtain ⟨aS, ss, cS, e3, s3, l3⟩ := ssO k3' w3
    simp only [List.cons.injEq, and_true] at e1 e2 e3
    subst e1 e2 e3
    exact ⟨n, aT, ts, cT, aP, ps, cP, aS, ss, cS, rfl, s1, s2, s3, l1, l2, l3⟩
set_option maxRecDepth 100000 in
/-- A work that is handed in. -/
theorem work_in {r : Reach} {b0 : Nat} {v : Value} {d : DataW H} {q : List MemPlace} (hv : Value.okWide Tryz.prog w r b0 32 v) (h : DataW.Trod enc Tryz.prog w base spare held 32 v d q)
    (hw : ∀ m ∈ d.weights Tryz.prog 32, m ≤ reachBytes) : ∃ x p, v = Ex.workV x p ∧ Ex.At w x p := by
  obtain ⟨cs, rfl, hsz⟩ := okWide_struct Tryz.underlying32 hv
  obtain ⟨fuel, hf0⟩ := h
  have hf' : DataW.trod enc Tryz.prog w base spare held fuel 32 cs.toList = some (d, q) := by simpa [Value.cells] using hf0
  obtain ⟨ds, e, hl, hc, hf⟩ := Kit.sub_trod Tryz.underlying32 hf'
  dsimp only at e
  subst e
  have hp := fun (i : Nat) f hfi d hd => Kit.weights_part (P := Tryz.prog) Tryz.underlying32 hw (i := i) (f := f) hfi (d := d) hd
  rw [show Tryz.prog.cellsOf 32 = 11 by kernel_rfl] at hc
  obtain ⟨l⟩ := cs
  dsimp only at hc hf
  match l, hc with
  | [a0, a1, a2, a3, a4, a5, a6, a7, a8, a9, a10], _ =>
    obtain ⟨n0, y0, k0, d0⟩ := hf 0 _ rfl
    obtain ⟨n1, y1, k1, d1⟩ := hf 1 _ rfl
    obtain ⟨n2, y2, k2, d2⟩ := hf 2 _ rfl
    obtain ⟨n3, y3, k3, d3⟩ := hf 3 _ rfl
    obtain ⟨n4, y4, k4, d4⟩ := hf 4 _ rfl
    obtain ⟨n5, y5, k5, d5⟩ := hf 5 _ rfl
    have w3 : ∀ m ∈ y3.1.weights Tryz.prog 24, m ≤ reachBytes := hp 3 _ rfl _ d3
    have w4 : ∀ m ∈ y4.1.weights Tryz.prog 29, m ≤ reachBytes := hp 4 _ rfl _ d4
    have w5 : ∀ m ∈ y5.1.weights Tryz.prog 30, m ≤ reachBytes := hp 5 _ rfl _ d5
    have k0' : DataW.trod enc Tryz.prog w base spare held n0 3 (([a0, a1, a2, a3, a4, a5, a6, a7, a8, a9, a10].drop 0).take (Tryz.prog.cellsOf 3)) = some y0 := k0
    have k1' : DataW.trod enc Tryz.prog w base spare held n1 3 (([a0, a1, a2, a3, a4, a5, a6, a7, a8, a9, a10].drop 1).take (Tryz.prog.cellsOf 3)) = some y1 := k1
    have k2' : DataW.trod enc Tryz.prog w base spare held n2 23 (([a0, a1, a2, a3, a4, a5, a6, a7, a8, a9, a10].drop 2).take (Tryz.prog.cellsOf 23)) = some y2 := k2
    have k3' : DataW.trod enc Tryz.prog w base spare held n3 24 (([a0, a1, a2, a3, a4, a5, a6, a7, a8, a9, a10].drop 5).take (Tryz.prog.cellsOf 24)) = some y3 := k3
    have k4' : DataW.trod enc Tryz.prog w base spare held n4 29 (([a0, a1, a2, a3, a4, a5, a6, a7, a8, a9, a10].drop 6).take (Tryz.prog.cellsOf 29)) = some y4 := k4
    have k5' : DataW.trod enc Tryz.prog w base spare held n5 30 (([a0, a1, a2, a3, a4, a5, a6, a7, a8, a9, a10].drop 10).take (Tryz.prog.cellsOf 30)) = some y5 := k5
    simp only [show Tryz.prog.cellsOf 24 = 1 by kernel_rfl, show Tryz.prog.cellsOf 30 = 1 by kernel_rfl, show Tryz.prog.cellsOf 23 = 3 by kernel_rfl, show Tryz.prog.cellsOf 29 = 4 by kernel_rfl, ci, List.drop_succ_cons, List.drop_zero, List.take_succ_cons, List.take_zero] at k0' k1' k2' k3' k4' k5'
    obtain ⟨wd, rfl, _⟩ := Kit.int_at Tryz.underlying3 k0'
    obtain ⟨dp, rfl, _⟩ := Kit.int_at Tryz.underlying3 k1'
    obtain ⟨ta, tb, tc, e2⟩ := trnO k2'
    obtain ⟨aR, ro, cR, e3, s3, l3⟩ := rosO k3' w3
    obtain ⟨n, aT, ts, cT, aP, ps, cP, aS, ss, cS, e4, sT, sP, sS, lT, lP, lS⟩ := clO k4' w4
    obtain ⟨aG, sg, cG, e5, s5, l5⟩ := sgsO k5' w5
    simp only [List.cons.injEq, and_true] at e2 e3 e4 e5
    obtain ⟨rfl, rfl, rfl⟩ := e2
    obtain ⟨rfl, rfl, rfl, rfl⟩ := e4
    subst e3 e5
    exact ⟨⟨wd, dp, ta, tb, tc, n, ro, ts, ps, ss, sg⟩, ⟨aR, cR, aT, cT, aP, cP, aS, cS, aG, cG⟩, rfl, s3, sT, sP, sS, s5, l3, lT, lP, lS, l5⟩

end
end Lw
end Go.Proofs.YtggfeblfhabmkaaGreatDoor
