/- Opening what is handed in: a patch. -/
import Derived.Test.YtdaedjmkolcliaaJaF
import Derived.Test.YtdaedjmkolcliaaPtF
namespace Go.Proofs.Ytdaedjmkolcliaa
set_option linter.unusedVariables false
set_option linter.unusedSimpArgs false
open Go.ChangeShapes Go.WideShapes Go.ChangeAt Go.RowKit Go.Joins Go.Deep

namespace Id
section
variable {H : Type} {enc : TypeId × Value → H} {w : World} {base : Nat} {spare : Nat → Bool} {held : Bool}
set_option maxRecDepth 100000 in
theorem patch_in {r : Reach} {b0 : Nat} {v : Value} {d : DataW H} {q : List MemPlace} (hv : Value.okWide Try.prog w r b0 52 v) (h : DataW.Trod enc Try.prog w base spare held 52 v d q)
    (hw : ∀ m ∈ d.weights Try.prog 52, m ≤ reachBytes) : ∃ (p : Pt) (aN : Option Addr) (N : List Int) (cN : Nat), v = .agg (ptA p aN N.length cN) ∧ Tp.Sl w aN N.length 1 (ic N) ∧ N.length ≤ 4611686018427387904 := by
  obtain ⟨cs, rfl, hsz⟩ := okWide_struct Try.underlying52 hv
  obtain ⟨fuel, hf0⟩ := h
  have hf' : DataW.trod enc Try.prog w base spare held fuel 52 cs.toList = some (d, q) := by simpa [Value.cells] using hf0
  obtain ⟨ds, e, hl, hc, hf⟩ := Kit.sub_trod Try.underlying52 hf'
  dsimp only at e
  subst e
  have hp := fun (i : Nat) f hfi d hd => Kit.weights_part (P := Try.prog) Try.underlying52 hw (i := i) (f := f) hfi (d := d) hd
  rw [show Try.prog.cellsOf 52 = 19 by kernel_rfl] at hc
  obtain ⟨l⟩ := cs
  dsimp only at hc hf
  match l, hc with
  | [a0, a1, a2, a3, s0, s1, s2, s3, s4, s5, s6, s7, s8, s9, s10, s11, s12, s13, a5], _ =>
    obtain ⟨n0, y0, k0, d0⟩ := hf 0 _ rfl
    obtain ⟨n1, y1, k1, d1⟩ := hf 1 _ rfl
    obtain ⟨n2, y2, k2, d2⟩ := hf 2 _ rfl
    obtain ⟨n3, y3, k3, d3⟩ := hf 3 _ rfl
    obtain ⟨n4, y4, k4, d4⟩ := hf 4 _ rfl
    obtain ⟨n5, y5, k5, d5⟩ := hf 5 _ rfl
    have w5 : ∀ m ∈ y5.1.weights Try.prog 25, m ≤ reachBytes := hp 5 _ rfl _ d5
    have k4' : DataW.trod enc Try.prog w base spare held n4 49 (([a0, a1, a2, a3, s0, s1, s2, s3, s4, s5, s6, s7, s8, s9, s10, s11, s12, s13, a5].drop 4).take (Try.prog.cellsOf 49)) = some y4 := k4
    have k5' : DataW.trod enc Try.prog w base spare held n5 25 (([a0, a1, a2, a3, s0, s1, s2, s3, s4, s5, s6, s7, s8, s9, s10, s11, s12, s13, a5].drop 18).take (Try.prog.cellsOf 25)) = some y5 := k5
    have i0 : ∀ {n : Nat} {cs : List Value} {y : DataW H × List MemPlace}, DataW.trod enc Try.prog w base spare held n 3 cs = some y → ∃ z : Int, cs = [.int .i64 z] := fun h => by
      obtain ⟨z, h1, _⟩ := DataW.trod_int Try.underlying3 h
      exact ⟨z, h1⟩
    have k0' : DataW.trod enc Try.prog w base spare held n0 3 [a0] = some y0 := by
      have := k0; simpa [show Try.prog.cellsOf 3 = 1 by kernel_rfl] using this
    have k1' : DataW.trod enc Try.prog w base spare held n1 3 [a1] = some y1 := by
      have := k1; simpa [show Try.prog.cellsOf 3 = 1 by kernel_rfl] using this
    have k2' : DataW.trod enc Try.prog w base spare held n2 3 [a2] = some y2 := by
      have := k2; simpa [show Try.prog.cellsOf 3 = 1 by kernel_rfl] using this
    have k3' : DataW.trod enc Try.prog w base spare held n3 3 [a3] = some y3 := by
      have := k3; simpa [show Try.prog.cellsOf 3 = 1 by kernel_rfl] using this
    simp only [show Try.prog.cellsOf 49 = 14 by kernel_rfl, List.drop_succ_cons, List.drop_zero, List.take_succ_cons, List.take_zero] at k4'
    simp only [show Try.prog.cellsOf 25 = 1 by kernel_rfl, List.drop_succ_cons, List.drop_zero, List.take_succ_cons, List.take_zero] at k5'
    obtain ⟨z0, e0⟩ := i0 k0'
    obtain ⟨z1, e1⟩ := i0 k1'
    obtain ⟨z2, e2⟩ := i0 k2'
    obtain ⟨z3, e3⟩ := i0 k3'
    obtain ⟨s, e4⟩ := sgO k4'
    obtain ⟨ad, N, cap, e5, _, hs, hl⟩ := Kit.slice_list (0 : Int) Try.underlying25 (k := 1) (by kernel_rfl) (by omega) (of_decide_eq_true (by kernel_rfl)) (fun z => [.int .i64 z]) (fun n cs y h _ => i0 h) k5' w5
    simp only [List.cons.injEq, and_true] at e0 e1 e2 e3 e5
    simp only [sc, List.cons.injEq, and_true] at e4
    obtain ⟨rfl, rfl, rfl, rfl, rfl, rfl, rfl, rfl, rfl, rfl, rfl, rfl, rfl, rfl⟩ := e4
    subst e0 e1 e2 e3 e5
    refine ⟨⟨z0, z1, z2, z3, s⟩, ad, N, cap, rfl, Kit.sl_congr (fun i j hi hj => ?_) hs, hl⟩
    obtain rfl : j = 0 := by omega
    rfl
end
end Id
end Go.Proofs.Ytdaedjmkolcliaa
