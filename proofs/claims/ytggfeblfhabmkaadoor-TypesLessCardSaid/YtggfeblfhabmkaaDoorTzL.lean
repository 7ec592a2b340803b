/- A work that is handed in, with the capacity of its signs. -/
import Derived.Test.YtggfeblfhabmkaaDoorTzK
import Derived.Test.YtggfeblfhabmkaaDoorTzE
import Derived.Test.YtggfeblfhabmkaaDoorKitl
import Derived.Test.YtggfeblfhabmkaaDoorEx
namespace Go.Proofs.YtggfeblfhabmkaaDoor
set_option linter.unusedVariables false
set_option linter.unusedSimpArgs false
open Go.ChangeShapes Go.WideShapes Go.ChangeAt Go.RowKit Go.Joins

namespace Lw
section
variable {H : Type} {enc : TypeId × Value → H} {w : World} {base : Nat} {spare : Nat → Bool} {held : Bool} {fuel : Nat} {cs : List Value} {x : DataW H × List MemPlace}
set_option maxRecDepth 100000 in
theorem sgsO2 (h : DataW.trod enc Tryd.prog w base spare held fuel 30 cs = some x) (hw : ∀ m ∈ x.1.weights Tryd.prog 30, m ≤ reachBytes) :
    ∃ (ad : Option Addr) (l : List Ex.Sg) (cap : Nat), cs = [.slice ad l.length cap] ∧ Tp.Sl w ad l.length 14 (Ex.sgc l) ∧ l.length ≤ 4611686018427387904 ∧ l.length ≤ cap := by
  obtain ⟨ad, l, cap, e, hc, hs, hl⟩ := Kit.slice_list (default) Tryd.underlying30 (k := 14) (by kernel_rfl) (by omega) (of_decide_eq_true (by kernel_rfl)) sgF (fun n cs y h => sgO h) h hw
  refine ⟨ad, l, cap, e, Kit.sl_congr (fun i j hi hj => ?_) hs, hl, hc⟩
  rcases j with _ | _ | _ | _ | _ | _ | _ | _ | _ | _ | _ | _ | _ | _ | j <;> first | rfl | omega
set_option maxRecDepth 100000 in
theorem work_in2 {r : Reach} {b0 : Nat} {v : Value} {d : DataW H} {q : List MemPlace} (hv : Value.okWide Tryd.prog w r b0 32 v) (h : DataW.Trod enc Tryd.prog w base spare held 32 v d q)
    (hw : ∀ m ∈ d.weights Tryd.prog 32, m ≤ reachBytes) : ∃ x p, v = Ex.workV x p ∧ Ex.At w x p ∧ x.sg.length ≤ p.cG := by
  obtain ⟨cs, rfl, hsz⟩ := okWide_struct Tryd.underlying32 hv
  obtain ⟨fuel, hf0⟩ := h
  have hf' : DataW.trod enc Tryd.prog w base spare held fuel 32 cs.toList = some (d, q) := by simpa [Value.cells] using hf0
  obtain ⟨ds, e, hl, hc, hf⟩ := Kit.sub_trod Tryd.underlying32 hf'
  dsimp only at e
  subst e
  have hp := fun (i : Nat) f hfi d hd => Kit.weights_part (P := Tryd.prog) Tryd.underlying32 hw (i := i) (f := f) hfi (d := d) hd
  rw [show Tryd.prog.cellsOf 32 = 11 by kernel_rfl] at hc
  obtain ⟨l⟩ := cs
  dsimp only at hc hf
  match l, hc with
  | [a0, a1, a2, a3, a4, a5, a6, a7, a8, a9, a10], _ =>
    obtain ⟨n0, y0, k0, d0⟩ := hf 0 _ rfl
    obtain ⟨n1, y1, k1, d1⟩ := hf 1 _ rfl
    obtain ⟨n2, y2, k2, d2⟩ := hf 2 _ rfl
    obtain ⟨n3, y3, k3, d3⟩ := hf 3 _ rfl
    obtain ⟨n4, y4, k4, d4⟩ := hf 4 _ rfl
    obtain ⟨n5, y5, k5, d5⟩ := hf 5 _ rfl
    have w3 : ∀ m ∈ y3.1.weights Tryd.prog 24, m ≤ reachBytes := hp 3 _ rfl _ d3
    have w4 : ∀ m ∈ y4.1.weights Tryd.prog 29, m ≤ reachBytes := hp 4 _ rfl _ d4
    have w5 : ∀ m ∈ y5.1.weights Tryd.prog 30, m ≤ reachBytes := hp 5 _ rfl _ d5
    have k0' : DataW.trod enc Tryd.prog w base spare held n0 3 (([a0, a1, a2, a3, a4, a5, a6, a7, a8, a9, a10].drop 0).take (Tryd.prog.cellsOf 3)) = some y0 := k0
    have k1' : DataW.trod enc Tryd.prog w base spare held n1 3 (([a0, a1, a2, a3, a4, a5, a6, a7, a8, a9, a10].drop 1).take (Tryd.prog.cellsOf 3)) = some y1 := k1
    have k2' : DataW.trod enc Tryd.prog w base spare held n2 23 (([a0, a1, a2, a3, a4, a5, a6, a7, a8, a9, a10].drop 2).take (Tryd.prog.cellsOf 23)) = some y2 := k2
    have k3' : DataW.trod enc Tryd.prog w base spare held n3 24 (([a0, a1, a2, a3, a4, a5, a6, a7, a8, a9, a10].drop 5).take (Tryd.prog.cellsOf 24)) = some y3 := k3
    have k4' : DataW.trod enc Tryd.prog w base spare held n4 29 (([a0, a1, a2, a3, a4, a5, a6, a7, a8, a9, a10].drop 6).take (Tryd.prog.cellsOf 29)) = some y4 := k4
    have k5' : DataW.trod enc Tryd.prog w base spare held n5 30 (([a0, a1, a2, a3, a4, a5, a6, a7, a8, a9, a10].drop 10).take (Tryd.prog.cellsOf 30)) = some y5 := k5
    simp only [show Tryd.prog.cellsOf 24 = 1 by kernel_rfl, show Tryd.prog.cellsOf 30 = 1 by kernel_rfl, show Tryd.prog.cellsOf 23 = 3 by kernel_rfl, show Tryd.prog.cellsOf 29 = 4 by kernel_rfl, ci, List.drop_succ_cons, List.drop_zero, List.take_succ_cons, List.take_zero] at k0' k1' k2' k3' k4' k5'
    obtain ⟨wd, rfl, _⟩ := Kit.int_at Tryd.underlying3 k0'
    obtain ⟨dp, rfl, _⟩ := Kit.int_at Tryd.underlying3 k1'
    obtain ⟨ta, tb, tc, e2⟩ := trnO k2'
    obtain ⟨aR, ro, cR, e3, s3, l3⟩ := rosO k3' w3
    obtain ⟨n, aT, ts, cT, aP, ps, cP, aS, ss, cS, e4, sT, sP, sS, lT, lP, lS⟩ := clO k4' w4
    obtain ⟨aG, sg, cG, e5, s5, l5, hcap⟩ := sgsO2 k5' w5
    simp only [List.cons.injEq, and_true] at e2 e3 e4 e5
    obtain ⟨rfl, rfl, rfl⟩ := e2
    obtain ⟨rfl, rfl, rfl, rfl⟩ := e4
    subst e3 e5
    exact ⟨⟨wd, dp, ta, tb, tc, n, ro, ts, ps, ss, sg⟩, ⟨aR, cR, aT, cT, aP, cP, aS, cS, aG, cG⟩, rfl, ⟨s3, sT, sP, sS, s5, l3, lT, lP, lS, l5⟩, hcap⟩

end
end Lw
end Go.Proofs.YtggfeblfhabmkaaDoor
