/- Opening an argument of four bytes (layer 27). -/
import Derived.Test.YtedolbjgdedoaaaGreatDoorMza
set_option linter.unusedSimpArgs false
set_option linter.unusedVariables false
set_option maxRecDepth 100000
namespace Go.Proofs.YtedolbjgdedoaaaGreatDoor
open Go.ChangeShapes Go.WideShapes Go.ChangeAt Go.RowKit Go.Joins
namespace Lw
section
variable {H : Type} {enc : TypeId × Value → H} {w : World} {base : Nat} {spare : Nat → Bool} {held : Bool}
theorem okWide_arr {P : Program} {w : World} {r : Reach} {base : Nat} {t : TypeId} {v : Value} {n : Nat} {e : TypeId} (ht : P.underlying t = some (.array n e)) (h : Value.okWide P w r base t v) : ∃ cs, v = .agg cs ∧ cs.size = P.cellsOf t := by
 simp only [Value.okWide, ht] at h
 obtain ⟨cs, h1, h2, _⟩ := h
 exact ⟨cs, h1, h2⟩
theorem u8_bd {n : Int} (h : (Lit.int .u8 n).wf = true) : 0 ≤ n ∧ n ≤ 255 := by
 have h2 : (decide ((0 : Int) ≤ n) && decide (n ≤ 255)) = true := h
 simpa using h2
theorem four_in {r : Reach} {b0 : Nat} {v : Value} {d : DataW H} {q : List MemPlace} (hv : Value.okWide Tryz.prog w r b0 61 v) (h : DataW.Trod enc Tryz.prog w base spare held 61 v d q) :
  ∃ a b c e : Int, v = .agg #[.int .u8 a, .int .u8 b, .int .u8 c, .int .u8 e] ∧ (0 ≤ a ∧ a ≤ 255) ∧ (0 ≤ b ∧ b ≤ 255) ∧ (0 ≤ c ∧ c ≤ 255) ∧ (0 ≤ e ∧ e ≤ 255) := by
 obtain ⟨cs, rfl, _⟩ := okWide_arr Tryz.underlying61 hv
 obtain ⟨fuel, hf0⟩ := h
 have hf' : DataW.trod enc Tryz.prog w base spare held fuel 61 cs.toList = some (d, q) := by simpa [Value.cells] using hf0
 obtain ⟨l⟩ := cs
 obtain ⟨ds, e, hl, hc, hf⟩ := Kit.arr_trod Tryz.underlying61 hf'
 have c1 : Tryz.prog.cellsOf 5 = 1 := by kernel_rfl
 rw [show Tryz.prog.cellsOf 61 = 4 by kernel_rfl] at hc
 match l, hc with
 | [a0, a1, a2, a3], _ =>
  obtain ⟨n0, y0, k0, _⟩ := hf 0 omg
  obtain ⟨n1, y1, k1, _⟩ := hf 1 omg
  obtain ⟨n2, y2, k2, _⟩ := hf 2 omg
  obtain ⟨n3, y3, k3, _⟩ := hf 3 omg
  simp only [c1, Nat.zero_mul, Nat.one_mul, Nat.mul_one, List.drop_succ_cons, List.drop_zero, List.take_succ_cons, List.take_zero] at k0 k1 k2 k3
  obtain ⟨z0, rfl, _, w0⟩ := Kit.int_at Tryz.underlying5 k0
  obtain ⟨z1, rfl, _, w1⟩ := Kit.int_at Tryz.underlying5 k1
  obtain ⟨z2, rfl, _, w2⟩ := Kit.int_at Tryz.underlying5 k2
  obtain ⟨z3, rfl, _, w3⟩ := Kit.int_at Tryz.underlying5 k3
  exact ⟨z0, z1, z2, z3, rfl, u8_bd w0, u8_bd w1, u8_bd w2, u8_bd w3⟩
end
end Lw
end Go.Proofs.YtedolbjgdedoaaaGreatDoor
