/- Arguments that are handed in: a body, a cap. -/
import Derived.Test.YtbhgogiaaljclaaGreatDoorUza
import Derived.Test.YtbhgogiaaljclaaGreatDoorUvA
namespace Go.Proofs.YtbhgogiaaljclaaGreatDoor
set_option linter.unusedVariables false
set_option linter.unusedSimpArgs false
open Go.ChangeShapes Go.WideShapes Go.ChangeAt Go.RowKit Go.Joins
namespace Lw
section
variable {H : Type} {enc : TypeId × Value → H} {w : World} {base : Nat} {spare : Nat → Bool} {held : Bool}
set_option maxRecDepth 100000 in
theorem body_in {r : Reach} {b0 : Nat} {v : Value} {d : DataW H} {q : List MemPlace} (hv : Value.okWide Tryz.prog w r b0 36 v) (h : DataW.Trod enc Tryz.prog w base spare held 36 v d q) :
    ∃ b : Un.Bd, v = .agg (Un.bdA b) ∧ b.name.size ≤ 9223372036854775807 := by
  obtain ⟨cs, rfl, _⟩ := okWide_struct Tryz.underlying36 hv
  obtain ⟨fuel, hf0⟩ := h
  have hf' : DataW.trod enc Tryz.prog w base spare held fuel 36 cs.toList = some (d, q) := by simpa [Value.cells] using hf0
  obtain ⟨b, e, hn⟩ := bdO hf'
  obtain ⟨l⟩ := cs
  exact ⟨b, by rw [show l = (Un.bdA b).toList from e], hn⟩
set_option maxRecDepth 100000 in
theorem cap_in {r : Reach} {b0 : Nat} {v : Value} {d : DataW H} {q : List MemPlace} (hv : Value.okWide Tryz.prog w r b0 64 v) (h : DataW.Trod enc Tryz.prog w base spare held 64 v d q) :
    ∃ a b c : Int, v = .agg #[.int .i64 a, .int .i64 b, .int .i64 c] := by
  obtain ⟨cs, rfl, _⟩ := okWide_struct Tryz.underlying64 hv
  obtain ⟨fuel, hf0⟩ := h
  have hf' : DataW.trod enc Tryz.prog w base spare held fuel 64 cs.toList = some (d, q) := by simpa [Value.cells] using hf0
  obtain ⟨zs, hl, e, _⟩ := Kit.flat_ints (n := 5) (by kernel_rfl) hf'
  rw [show Tryz.prog.cellsOf 64 = 3 by kernel_rfl] at hl
  obtain ⟨l⟩ := cs
  match zs, hl with
  | [a, b, c], _ => exact ⟨a, b, c, by rw [show l = [.int .i64 a, .int .i64 b, .int .i64 c] from e]⟩
end
end Lw
end Go.Proofs.YtbhgogiaaljclaaGreatDoor
