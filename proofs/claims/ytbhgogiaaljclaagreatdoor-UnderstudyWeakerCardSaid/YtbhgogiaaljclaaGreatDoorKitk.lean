/- Opening data: what a struct's or an array's reading says of its parts. -/
import Derived.OpenShut
import Derived.Lib.SmallJoins
import Derived.ProofKit
namespace Go.Proofs.YtbhgogiaaljclaaGreatDoor.Kit
set_option linter.unusedVariables false
set_option linter.unusedSimpArgs false
open Go.ChangeShapes Go.WideShapes Go.ChangeAt Go.RowKit Go.Joins
variable {H : Type} {enc : TypeId × Value → H} {P : Program} {w : World} {base : Nat} {spare : Nat → Bool} {held : Bool} {fuel : Nat} {t : TypeId} {cs : List Value} {x : DataW H × List MemPlace}

theorem sub_trod {fs : Array Field} (ht : P.underlying t = some (.struct fs)) (h : DataW.trod enc P w base spare held fuel t cs = some x) :
    ∃ ds : List (DataW H), x.1 = .agg ds ∧ ds.length = fs.size ∧ cs.length = P.cellsOf t ∧
      ∀ (i : Nat) (f : Field), fs[i]? = some f → ∃ n y, DataW.trod enc P w base spare held n f.type ((cs.drop f.offset).take (P.cellsOf f.type)) = some y ∧ ds[i]? = some y.1 := by
  obtain ⟨xs, n, _, rfl, hl, hlen, hf⟩ := DataW.trod_struct ht h
  refine ⟨xs.map (·.1), rfl, by simpa using hlen, hl, fun i f hfi => ?_⟩
  have hi : i < xs.length := by rw [hlen]; exact (Array.getElem?_eq_some_iff.1 hfi).1
  exact ⟨n, xs[i], by rw [hf i f hfi]; exact List.getElem?_eq_getElem hi, by simp [hi]⟩
theorem arr_trod {n : Nat} {e : TypeId} (ht : P.underlying t = some (.array n e)) (h : DataW.trod enc P w base spare held fuel t cs = some x) :
    ∃ ds : List (DataW H), x.1 = .agg ds ∧ ds.length = n ∧ cs.length = P.cellsOf t ∧
      ∀ (i : Nat), i < n → ∃ m y, DataW.trod enc P w base spare held m e ((cs.drop (i * P.cellsOf e)).take (P.cellsOf e)) = some y ∧ ds[i]? = some y.1 := by
  obtain ⟨xs, m, _, rfl, hl, hlen, hf⟩ := DataW.trod_array ht h
  refine ⟨xs.map (·.1), rfl, by simpa using hlen, hl, fun i hi => ?_⟩
  have hi' : i < xs.length := by omega
  exact ⟨m, xs[i], by rw [hf i hi]; exact List.getElem?_eq_getElem hi', by simp [hi']⟩
/-- A one-cell part of kind int, told by its datum. -/
theorem int_at {k : IntKind} {c : Value} {y : DataW H × List MemPlace} (ht : P.underlying t = some (.int k)) (h : DataW.trod enc P w base spare held fuel t [c] = some y) : ∃ n, c = .int k n ∧ y.1 = .lit (.int k n) ∧ (Lit.int k n).wf = true := by
  obtain ⟨n, h1, rfl, hw⟩ := DataW.trod_int ht h
  exact ⟨n, by simpa using h1, rfl, hw⟩
theorem bool_at {c : Value} {y : DataW H × List MemPlace} (ht : P.underlying t = some .bool) (h : DataW.trod enc P w base spare held fuel t [c] = some y) : ∃ n, c = .bool n ∧ y.1 = .lit (.bool n) := by
  obtain ⟨n, h1, rfl⟩ := DataW.trod_bool ht h
  exact ⟨n, by simpa using h1, rfl⟩
end Go.Proofs.YtbhgogiaaljclaaGreatDoor.Kit
