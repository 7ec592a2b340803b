/- Opening what is handed in: signs, editions, bytes. -/
import Derived.Test.YtdaedjmkolcliaaIdZ
import Derived.Test.YtdaedjmkolcliaaJax
namespace Go.Proofs.Ytdaedjmkolcliaa
set_option linter.unusedVariables false
set_option linter.unusedSimpArgs false
open Go.ChangeShapes Go.WideShapes Go.ChangeAt Go.RowKit Go.Joins Go.Deep

namespace Id
section
variable {H : Type} {enc : TypeId × Value → H} {w : World} {base : Nat} {spare : Nat → Bool} {held : Bool} {fuel : Nat} {cs : List Value} {x : DataW H × List MemPlace}
set_option maxRecDepth 100000 in
theorem sgO (h : DataW.trod enc Try.prog w base spare held fuel 49 cs = some x) : ∃ s, cs = sc s := by
  obtain ⟨l, hl, e, _⟩ := Kit.flat_ints (n := 4) (by kernel_rfl) h
  rw [show Try.prog.cellsOf 49 = 14 by kernel_rfl] at hl
  match l, hl with
  | [a0, a1, a2, a3, a4, a5, a6, a7, a8, a9, a10, a11, a12, a13], _ => exact ⟨⟨a0, a1, a2, a3, a4, a5, a6, a7, a8, a9, a10, a11, a12, a13⟩, e⟩
set_option maxRecDepth 100000 in
/-- Signs that are handed in, as a slice's cell tells them. -/
theorem signsO (h : DataW.trod enc Try.prog w base spare held fuel 22 cs = some x) (hw : ∀ m ∈ x.1.weights Try.prog 22, m ≤ reachBytes) :
    ∃ (ad : Option Addr) (l : List Sg) (c : Nat), cs = [.slice ad l.length c] ∧ Tp.Sl w ad l.length 14 (sgc l) ∧ l.length ≤ 4611686018427387904 ∧ l.length ≤ c := by
  obtain ⟨ad, l, cap, e, hc, hs, hl⟩ := Kit.slice_list (default : Sg) Try.underlying22 (k := 14) (by kernel_rfl) (by omega) (of_decide_eq_true (by kernel_rfl)) sc (fun n cs y h _ => sgO h) h hw
  refine ⟨ad, l, cap, e, sl_congr hs (fun i j hi hj => ?_), hl, hc⟩
  unfold sgc
  generalize l.getD i default = s
  rcases j with _ | _ | _ | _ | _ | _ | _ | _ | _ | _ | _ | _ | _ | _ | j <;> first | rfl | omega
set_option maxRecDepth 100000 in
theorem signs_in {r : Reach} {b0 : Nat} {v : Value} {d : DataW H} {q : List MemPlace} (hv : Value.okWide Try.prog w r b0 22 v) (h : DataW.Trod enc Try.prog w base spare held 22 v d q)
    (hw : ∀ m ∈ d.weights Try.prog 22, m ≤ reachBytes) : ∃ (ad : Option Addr) (l : List Sg) (c : Nat), v = .slice ad l.length c ∧ Tp.Sl w ad l.length 14 (sgc l) ∧ l.length ≤ 4611686018427387904 ∧ l.length ≤ c := by
  obtain ⟨a1, n1, c1, rfl⟩ := okWide_slice Try.underlying22 hv
  obtain ⟨fuel, hf0⟩ := h
  obtain ⟨ad, l, cap, e, hs, hl, hc⟩ := signsO (show DataW.trod enc Try.prog w base spare held fuel 22 [.slice a1 n1 c1] = some (d, q) by simpa [Value.cells] using hf0) hw
  simp only [List.cons.injEq, and_true] at e
  exact ⟨ad, l, cap, e, hs, hl, hc⟩
set_option maxRecDepth 100000 in
/-- Editions that are handed in. -/
theorem eds_in {r : Reach} {b0 : Nat} {v : Value} {d : DataW H} {q : List MemPlace} (hv : Value.okWide Try.prog w r b0 33 v) (h : DataW.Trod enc Try.prog w base spare held 33 v d q)
    (hw : ∀ m ∈ d.weights Try.prog 33, m ≤ reachBytes) : ∃ (ad : Option Addr) (L : List (List Sg)) (c : Nat), v = .slice ad L.length c ∧ Sls w ad 14 sgc L ∧ L.length ≤ 4611686018427387904 ∧ (∀ l ∈ L, l.length ≤ 4611686018427387904) ∧ L.length ≤ c := by
  obtain ⟨a1, n1, c1, rfl⟩ := okWide_slice Try.underlying33 hv
  obtain ⟨fuel, hf0⟩ := h
  let α := {t : Option Addr × List Sg × Nat // Tp.Sl w t.1 t.2.1.length 14 (sgc t.2.1) ∧ t.2.1.length ≤ 4611686018427387904}
  obtain ⟨ad, l, cap, e, hc, hs, hl⟩ := Kit.slice_list (α := α) ⟨(none, [], 0), .inl rfl, by simp⟩ Try.underlying33 (k := 1) (by kernel_rfl) (by omega) (of_decide_eq_true (by kernel_rfl)) (fun t => [.slice t.1.1 t.1.2.1.length t.1.2.2])
    (fun n cs y h hw => by
      obtain ⟨ad, l, c, e, hs, hl, _⟩ := signsO h hw
      exact ⟨⟨(ad, l, c), hs, hl⟩, e⟩) (show DataW.trod enc Try.prog w base spare held fuel 33 [.slice a1 n1 c1] = some (d, q) by simpa [Value.cells] using hf0) hw
  simp only [List.cons.injEq, and_true] at e
  refine ⟨ad, l.map fun t => t.1.2.1, cap, by rw [List.length_map]; exact e, ?_, by rw [List.length_map]; exact hl, ?_, by rw [List.length_map]; exact hc⟩
  · rcases hs with h0 | ⟨a, e1, h1, h2⟩
    · exact .inl (by rw [List.length_map]; exact h0)
    · refine .inr ⟨a, e1, h1, fun i hi => ?_⟩
      rw [List.length_map] at hi
      have h3 := h2 i 0 hi (by omega)
      simp only [Nat.mul_one, Nat.add_zero, List.getD_cons_zero] at h3
      have e2 : (l.map fun t => t.1.2.1).getD i [] = (l.getD i ⟨(none, [], 0), .inl rfl, by simp⟩).1.2.1 := by
        simp [List.getD, List.getElem?_map, List.getElem?_eq_getElem hi]
      rw [e2]
      exact ⟨_, _, h3, (l.getD i _).2.1⟩
  · intro x hx
    obtain ⟨t, _, rfl⟩ := List.mem_map.1 hx
    exact t.2.2
end
end Id
end Go.Proofs.Ytdaedjmkolcliaa
