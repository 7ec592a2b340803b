/- Opening bytes that are handed in. -/
import Derived.Test.YtdaedjmkolcliaaJaK
namespace Go.Proofs.Ytdaedjmkolcliaa
set_option linter.unusedVariables false
set_option linter.unusedSimpArgs false
open Go.ChangeShapes Go.WideShapes Go.ChangeAt Go.RowKit Go.Joins Go.Deep

namespace Id
section
variable {H : Type} {enc : TypeId × Value → H} {w : World} {base : Nat} {spare : Nat → Bool} {held : Bool} {fuel : Nat} {cs : List Value} {x : DataW H × List MemPlace}
set_option maxRecDepth 100000 in
/-- Bytes that are handed in. -/
theorem bytes_in {r : Reach} {b0 : Nat} {v : Value} {d : DataW H} {q : List MemPlace} (hv : Value.okWide Try.prog w r b0 45 v) (h : DataW.Trod enc Try.prog w base spare held 45 v d q)
    (hw : ∀ m ∈ d.weights Try.prog 45, m ≤ reachBytes) : ∃ (ad : Option Addr) (n c : Nat) (f : Nat → Int), v = .slice ad n c ∧ Tp.Sl w ad n 1 (fun i _ => .int .u8 (f i)) ∧ n ≤ 4611686018427387904 ∧ ∀ i, 0 ≤ f i ∧ f i ≤ 255 := by
  obtain ⟨a1, n1, c1, rfl⟩ := okWide_slice Try.underlying45 hv
  obtain ⟨fuel, hf0⟩ := h
  let α := {z : Int // 0 ≤ z ∧ z ≤ 255}
  obtain ⟨ad, l, cap, e, _, hs, hl⟩ := Kit.slice_list (α := α) ⟨0, by omega⟩ Try.underlying45 (k := 1) (by kernel_rfl) (by omega) (of_decide_eq_true (by kernel_rfl)) (fun z => [.int .u8 z.1]) (fun n cs y h _ => by
    obtain ⟨z, h1, _, h3⟩ := DataW.trod_int Try.underlying5 h
    exact ⟨⟨z, by simpa [Lit.wf, IntKind.min, IntKind.max, IntKind.signed, IntKind.bits] using h3⟩, h1⟩) (show DataW.trod enc Try.prog w base spare held fuel 45 [.slice a1 n1 c1] = some (d, q) by simpa [Value.cells] using hf0) hw
  simp only [List.cons.injEq, and_true] at e
  rw [e]
  refine ⟨ad, l.length, cap, fun i => (l.getD i ⟨0, by omega⟩).1, rfl, sl_congr hs (fun i j hi hj => ?_), hl, fun i => (l.getD i _).2⟩
  obtain rfl : j = 0 := by omega
  rfl
end
end Id
end Go.Proofs.Ytdaedjmkolcliaa
