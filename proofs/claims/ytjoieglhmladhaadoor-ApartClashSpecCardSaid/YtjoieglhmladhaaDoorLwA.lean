/- Walks: the laws of layer 29: box, work. -/
import Derived.Test.YtjoieglhmladhaaDoorClD
import Derived.Test.YtjoieglhmladhaaDoorRsA
namespace Go.Proofs.YtjoieglhmladhaaDoor
set_option linter.unusedVariables false
set_option linter.unusedSimpArgs false
open Go.RowKit Go.Shelf

set_option maxHeartbeats 1000000 in
theorem lw_box (x y : Int) (w : World) (h : -1099511627776 ≤ x ∧ x ≤ 1099511627776 ∧ -1099511627776 ≤ y ∧ y ≤ 1099511627776) :
    Calls Tryd.prog 33 #[.int .i64 x, .int .i64 y] w fun e w' => e = .returned (Sp.boxV x (x + 841) y (y + 841)) ∧ Below w.heap.size w w' := by
  go_enter Tryd.func33, Tryd.ntmps33
  go_wp2
  (refine bodyPost_ret (by simp [results, Tryd.results33, go_sem, Kit.cell_set]; try rfl) rfl ?_)
  exact ⟨rfl, by (repeat' first | (with_reducible first | exact Below.refl _ _ | assumption | refine Kit.below_drewN ?_ _ | refine Below.drew ?_ | refine Below.alloc ?_ ?_ _ | refine Below.setCell ?_ ?_ _ | exact Nat.le_refl _) | omega | (simp; omega) | (simp; done) | (apply Below.size; assumption))⟩

set_option maxHeartbeats 1000000 in
theorem lw_lift (id role wth : Int) (b : Nat) (w : World) (h : 0 ≤ wth ∧ wth ≤ 64) (hb : b < w.heap.size) (c0 : w.cell? ⟨b, 0, none⟩ = some (.int .i64 1)) (c1 : w.cell? ⟨b, 1, none⟩ = some (.int .i64 1)) :
    Calls Tryd.prog 64 #[.int .i64 id, .int .i64 role, .int .i64 wth, .pointer (some ⟨b, 0, none⟩)] w fun e w' =>
      e = .returned (.agg #[.int .i64 id, .int .i64 role, .int .i64 0, .int .i64 1, .int .i64 7, .int .i64 0, .int .i64 0, .int .i64 0, .int .i64 0, .int .i64 (wth + 1), .int .i64 0, .int .i64 1, .int .i64 1, .int .i64 1]) ∧ Below w.heap.size w w' := by
  go_enter Tryd.func64, Tryd.ntmps64
  go_wp2
  (refine bodyPost_ret (by simp [results, Tryd.results64, go_sem, Kit.cell_set]; try rfl) rfl ?_)
  exact ⟨rfl, by (repeat' first | (with_reducible first | exact Below.refl _ _ | assumption | refine Kit.below_drewN ?_ _ | refine Below.drew ?_ | refine Below.alloc ?_ ?_ _ | refine Below.setCell ?_ ?_ _ | exact Nat.le_refl _) | omega | (simp; omega) | (simp; done) | (apply Below.size; assumption))⟩

namespace Lw
def Ro (N : Nat) (b : Nat) (w : World) : Prop := N ≤ b ∧ w.heap[b]? = some (.cells #[.string .empty, .int .i64 0, .int .i64 0, .int .i64 0, .string .empty, .int .i64 0, .int .i64 0, .int .i64 0, .string .empty, .int .i64 0, .int .i64 0, .int .i64 0] 120 (0, 0))
def Te (N : Nat) (b : Nat) (w : World) : Prop := N ≤ b ∧ w.heap[b]? = some (.cells #[.int .i64 0, .int .i64 100, .int .i64 0] 113 (0, 0))
def Si (N : Nat) (b : Nat) (w : World) : Prop := N ≤ b ∧ w.heap[b]? = some (.cells #[.int .i64 0, .int .i64 0, .int .i64 0, .int .i64 1, .int .i64 7, .int .i64 0, .int .i64 0, .int .i64 0, .int .i64 0, .int .i64 3, .int .i64 0, .int .i64 1, .int .i64 1, .int .i64 1, .int .i64 3, .int .i64 2, .int .i64 0, .int .i64 1, .int .i64 7, .int .i64 0, .int .i64 0, .int .i64 0, .int .i64 0, .int .i64 2, .int .i64 0, .int .i64 1, .int .i64 1, .int .i64 1] 96 (0, 0))
theorem Ro.thn {N b : Nat} {w w' : World} (h : Ro N b w) (k : Below w.heap.size w w') : Ro N b w' := ⟨h.1, (k.block b (Array.getElem?_eq_some_iff.1 h.2).1).trans h.2⟩
theorem Te.thn {N b : Nat} {w w' : World} (h : Te N b w) (k : Below w.heap.size w w') : Te N b w' := ⟨h.1, (k.block b (Array.getElem?_eq_some_iff.1 h.2).1).trans h.2⟩
theorem Si.thn {N b : Nat} {w w' : World} (h : Si N b w) (k : Below w.heap.size w w') : Si N b w' := ⟨h.1, (k.block b (Array.getElem?_eq_some_iff.1 h.2).1).trans h.2⟩
abbrev wkV (b1 b2 b3 : Nat) : Value := .agg #[.int .i64 10, .int .i64 10, .int .i64 1, .int .i64 0, .int .i64 1, .slice (some ⟨b1, 0, none⟩) 3 3, .int .i64 2, .slice (some ⟨b2, 0, none⟩) 1 1, .slice none 0 0, .slice none 0 0, .slice (some ⟨b3, 0, none⟩) 2 2]
/-- The work of the chapter's examples. -/
def wk : Ex.Wk := ⟨10, 10, 1, 0, 1, 2, [(.empty, 0, 0, 0), (.empty, 0, 0, 0), (.empty, 0, 0, 0)], [(0, 100, 0)], [], [], [⟨0, 0, 0, 1, 7, 0, 0, 0, 0, 3, 0, 1, 1, 1⟩, ⟨3, 2, 0, 1, 7, 0, 0, 0, 0, 2, 0, 1, 1, 1⟩]⟩
end Lw

theorem Lw.infoR : (Tryd.prog.info? 120).map (fun i => (i.zero, i.size, i.bytes)) = some (some (.agg #[.string .empty, .int .i64 0, .int .i64 0, .int .i64 0]), 4, 40) := by kernel_rfl
theorem Lw.mk3 (w : World) : (Instr.makeSlice 35 (.int .i64 3) (.int .i64 3)).run Tryd.prog w = .ok (.slice (some ⟨w.heap.size, 0, none⟩) 3 3) (w.alloc (.cells #[.string .empty, .int .i64 0, .int .i64 0, .int .i64 0, .string .empty, .int .i64 0, .int .i64 0, .int .i64 0, .string .empty, .int .i64 0, .int .i64 0, .int .i64 0] 120)) := by
  obtain ⟨i, hi, hz, hs, hb⟩ := info_parts Lw.infoR
  have h := run_make (P := Tryd.prog) w 35 120 i _ (by kernel_rfl) hi hz .i64 .i64 3 3 (by omega) (Int.le_refl _) (by rw [hb]; decide) (by decide)
  rw [hs] at h
  have hm : madeCells (Value.agg #[.string .empty, .int .i64 0, .int .i64 0, .int .i64 0]).cells (Int.toNat 3 * 4) = #[.string .empty, .int .i64 0, .int .i64 0, .int .i64 0, .string .empty, .int .i64 0, .int .i64 0, .int .i64 0, .string .empty, .int .i64 0, .int .i64 0, .int .i64 0] := by kernel_rfl
  rw [hm] at h
  exact h
theorem Lw.ro_sl {N b : Nat} {w : World} (h : Lw.Ro N b w) : Tp.Sl w (some ⟨b, 0, none⟩) 3 4 (Ex.roc Lw.wk.ro) := by
  refine .inr ⟨_, rfl, (Array.getElem?_eq_some_iff.1 h.2).1, fun i j hi hj => ?_⟩
  have e : ∀ m : Nat, (⟨b, 0, none⟩ : Addr).add m = ⟨b, m, none⟩ := fun m => by simp [Addr.add]; exact fun h => h.symm
  rw [e]
  rcases i with _ | _ | _ | i
  · rcases j with _ | _ | _ | _ | j <;> first | omega | simp [World.cell?, h.2, Ex.roc, Lw.wk]
  · rcases j with _ | _ | _ | _ | j <;> first | omega | simp [World.cell?, h.2, Ex.roc, Lw.wk]
  · rcases j with _ | _ | _ | _ | j <;> first | omega | simp [World.cell?, h.2, Ex.roc, Lw.wk]
  · omega
theorem Lw.te_sl {N b : Nat} {w : World} (h : Lw.Te N b w) : Tp.Sl w (some ⟨b, 0, none⟩) 1 3 (Tp.tc Lw.wk.ts) := by
  refine .inr ⟨_, rfl, (Array.getElem?_eq_some_iff.1 h.2).1, fun i j hi hj => ?_⟩
  have e : ∀ m : Nat, (⟨b, 0, none⟩ : Addr).add m = ⟨b, m, none⟩ := fun m => by simp [Addr.add]; exact fun h => h.symm
  rw [e]
  rcases i with _ | i
  · rcases j with _ | _ | _ | j <;> first | omega | simp [World.cell?, h.2, Tp.tc, Lw.wk]
  · omega
theorem Lw.si_sl {N b : Nat} {w : World} (h : Lw.Si N b w) : Tp.Sl w (some ⟨b, 0, none⟩) 2 14 (Ex.sgc Lw.wk.sg) := by
  refine .inr ⟨_, rfl, (Array.getElem?_eq_some_iff.1 h.2).1, fun i j hi hj => ?_⟩
  have e : ∀ m : Nat, (⟨b, 0, none⟩ : Addr).add m = ⟨b, m, none⟩ := fun m => by simp [Addr.add]; exact fun h => h.symm
  rw [e]
  rcases i with _ | _ | i
  · rcases j with _ | _ | _ | _ | _ | _ | _ | _ | _ | _ | _ | _ | _ | _ | j <;> first | omega | simp [World.cell?, h.2, Ex.sgc, Lw.wk]
  · rcases j with _ | _ | _ | _ | _ | _ | _ | _ | _ | _ | _ | _ | _ | _ | j <;> first | omega | simp [World.cell?, h.2, Ex.sgc, Lw.wk]
  · omega

theorem Lw.at_fin {N b1 b2 b3 B : Nat} {w w' : World} (h1 : Lw.Ro N b1 w) (h2 : Lw.Te N b2 w) (h3 : Lw.Si N b3 w) (hB : B < N) (X : Kit.Exc (fun k => k = B) w w') : Ex.At w' Lw.wk ⟨some ⟨b1, 0, none⟩, 3, some ⟨b2, 0, none⟩, 1, none, 0, none, 0, some ⟨b3, 0, none⟩, 2⟩ := by
  have k : ∀ {b : Nat} {o : Obj}, N ≤ b → w.heap[b]? = some o → w'.heap[b]? = some o := fun hb h => X.heap h (by omega)
  exact ⟨Lw.ro_sl ⟨h1.1, k h1.1 h1.2⟩, Lw.te_sl ⟨h2.1, k h2.1 h2.2⟩, .inl rfl, .inl rfl, Lw.si_sl ⟨h3.1, k h3.1 h3.2⟩, by decide, by decide, by decide, by decide, by decide⟩

set_option maxRecDepth 100000 in
set_option maxHeartbeats 2000000 in
theorem lw_work (w : World) : Calls Tryd.prog 34 #[] w fun e w' => ∃ p : Ex.Wa, e = .returned (Ex.workV Lw.wk p) ∧ Ex.At w' Lw.wk p ∧ Below w.heap.size w w' := by
  go_enter Tryd.func34, Tryd.ntmps34
  go_wp2
  refine Kit.wp_name ?_
  intro W hW
  have bW : Below w.heap.size w W := by rw [hW]; (repeat' first | (with_reducible first | exact Below.refl _ _ | assumption | refine Kit.below_drewN ?_ _ | refine Below.drew ?_ | refine Below.alloc ?_ ?_ _ | refine Below.setCell ?_ ?_ _ | exact Nat.le_refl _) | omega | (simp; omega) | (simp; done) | (apply Below.size; assumption))
  have zW : w.heap.size + 1 < W.heap.size := by rw [hW]; simp
  have c1 : ∀ w1, Below W.heap.size W w1 → w1.cell? ⟨w.heap.size + 1, 0, none⟩ = some (.int .i64 1) := fun w1 h => (h.cell (by rw [hW]; simp)).trans (by rw [hW]; simp [go_sem])
  have c2 : ∀ w1, Below W.heap.size W w1 → w1.cell? ⟨w.heap.size + 1, 1, none⟩ = some (.int .i64 1) := fun w1 h => (h.cell (by rw [hW]; simp)).trans (by rw [hW]; simp [go_sem])
  have c0 : ∀ j, j < 11 → W.cell? ⟨w.heap.size, j, none⟩ = some (if j = 5 ∨ 6 < j then .slice none 0 0 else .int .i64 0) := fun j hj => by
    rw [hW]
    rcases j with _ | _ | _ | _ | _ | _ | _ | _ | _ | _ | _ | j <;> first | omega | simp [go_sem]
  have f0 : ∀ j, W.frozen? ⟨w.heap.size, j, none⟩ = false := fun j => by rw [hW]; simp [go_sem]
  clear hW
  refine Kit.wp_region_vals 11 [([], none, true), ([], none, true), ([], none, true), ([(7, some 2)], none, true), ([(8, some 3)], none, true), ([(2, none)], none, true), ([(10, some 5)], none, true), ([(2, none)], none, true), ([(12, some 7)], none, true), ([(11, some 6), (13, some 8)], none, true), ([(5, some 0), (6, some 1), (9, some 4), (14, some 9)], none, true)]
    [some 5, some 6, some 7, some 8, some 9, some 10, some 11, some 12, some 13, some 14, some 15] rfl (by kernel_rfl) (by kernel_rfl) (fun A B => Below A.heap.size A B) (fun i v w' => match i with
    | 0 => v = .agg #[.int .i64 1, .int .i64 0, .int .i64 1]
    | 1 => ∃ b, v = .slice (some ⟨b, 0, none⟩) 3 3 ∧ Lw.Ro W.heap.size b w'
    | 2 => v = .agg #[.int .i64 0, .int .i64 100, .int .i64 0]
    | 3 => ∃ b, v = .slice (some ⟨b, 0, none⟩) 1 1 ∧ Lw.Te W.heap.size b w'
    | 4 => ∃ b, v = .agg #[.int .i64 2, .slice (some ⟨b, 0, none⟩) 1 1, .slice none 0 0, .slice none 0 0] ∧ Lw.Te W.heap.size b w'
    | 5 => v = .func (.func 64) #[] #[.pointer (some ⟨w.heap.size + 1, 0, none⟩)]
    | 6 => v = .agg #[.int .i64 0, .int .i64 0, .int .i64 0, .int .i64 1, .int .i64 7, .int .i64 0, .int .i64 0, .int .i64 0, .int .i64 0, .int .i64 3, .int .i64 0, .int .i64 1, .int .i64 1, .int .i64 1]
    | 7 => v = .func (.func 64) #[] #[.pointer (some ⟨w.heap.size + 1, 0, none⟩)]
    | 8 => v = .agg #[.int .i64 3, .int .i64 2, .int .i64 0, .int .i64 1, .int .i64 7, .int .i64 0, .int .i64 0, .int .i64 0, .int .i64 0, .int .i64 2, .int .i64 0, .int .i64 1, .int .i64 1, .int .i64 1]
    | 9 => ∃ b, v = .slice (some ⟨b, 0, none⟩) 2 2 ∧ Lw.Si W.heap.size b w'
    | _ => ∃ b1 b2 b3, v = Lw.wkV b1 b2 b3 ∧ Lw.Ro W.heap.size b1 w' ∧ Lw.Te W.heap.size b2 w' ∧ Lw.Si W.heap.size b3 w')
    (fun h k => h.trans (k.mono h.size)) (Below.drew (Below.refl _ _)) (fun _ => Below.refl _ _) ?_ ?_ ?_
  · intro i v A B h1 h2 h3
    split at h3 <;> try exact h3
    · obtain ⟨b, e, h⟩ := h3; exact ⟨b, e, h.thn h2⟩
    · obtain ⟨b, e, h⟩ := h3; exact ⟨b, e, h.thn h2⟩
    · obtain ⟨b, e, h⟩ := h3; exact ⟨b, e, h.thn h2⟩
    · obtain ⟨b, e, h⟩ := h3; exact ⟨b, e, h.thn h2⟩
    · obtain ⟨b1, b2, b3, e, x1, x2, x3⟩ := h3; exact ⟨b1, b2, b3, e, x1.thn h2, x2.thn h2, x3.thn h2⟩
  · simp only [List.take_succ_cons, List.take_zero, Kit.StepsV, Kit.VOp, Kit.RdP, true_and, if_true, and_true]
    refine ⟨?_, ?_, ?_, ?_, ?_, ?_, ?_, ?_, ?_, ?_, ?_⟩
    all_goals intro ev w1 hx hv hc hf hg
    · simp [execOp, hc, go_sem, Kit.UponV, Below.refl]
    · have hz := hx.size
      simp [execOp, hc, go_sem, Kit.UponV, Lw.mk3]
      exact ⟨⟨hz, World.alloc_heap_new _ _⟩, (Below.refl _ _).alloc (Nat.le_refl _) _⟩
    · simp [execOp, hc, go_sem, Kit.UponV, Below.refl]
    · have hz := hx.size
      simp [execOp, hv, hc, go_sem, Kit.UponV]
      exact ⟨⟨hz, World.alloc_heap_new _ _⟩, (Below.refl _ _).alloc (Nat.le_refl _) _⟩
    · obtain ⟨b, e, h⟩ := hv
      simp [execOp, e, hc, go_sem, Kit.UponV, Below.refl, h]
    · simp at hv; simp [execOp, hv, go_sem, Kit.UponV, Below.refl]
    · simp [execOp, hv, hc, go_sem, Kit.UponV]
      refine (lw_lift 0 0 2 (w.heap.size + 1) w1 (by omega) (by have := hx.size; omega) (c1 w1 hx) (c2 w1 hx)).mono ?_
      rintro e w2 ⟨rfl, hb⟩
      exact ⟨_, rfl, rfl, hb⟩
    · simp at hv; simp [execOp, hv, go_sem, Kit.UponV, Below.refl]
    · simp [execOp, hv, hc, go_sem, Kit.UponV]
      refine (lw_lift 3 2 1 (w.heap.size + 1) w1 (by omega) (by have := hx.size; omega) (c1 w1 hx) (c2 w1 hx)).mono ?_
      rintro e w2 ⟨rfl, hb⟩
      exact ⟨_, rfl, rfl, hb⟩
    · have hz := hx.size
      obtain ⟨hv1, hv2⟩ := hv
      simp [execOp, hv1, hv2, hc, go_sem, Kit.UponV]
      exact ⟨⟨hz, World.alloc_heap_new _ _⟩, (Below.refl _ _).alloc (Nat.le_refl _) _⟩
    · obtain ⟨e0, ⟨b1, e1, h1⟩, ⟨b2, e2, h2⟩, ⟨b3, e3, h3⟩⟩ := hv
      simp [execOp, e0, e1, e2, e3, hc, go_sem, Kit.UponV, Below.refl]
      exact ⟨b1, b2, b3, ⟨rfl, rfl, rfl⟩, h1, h2, h3⟩
  · intro vs w1 hv hx
    obtain ⟨b1, b2, b3, v10, h1, h2, h3⟩ := hv 10 (by omega)
    clear hv
    have h0 : ∀ j, j < 11 → w1.cell? ⟨w.heap.size, j, none⟩ = W.cell? ⟨w.heap.size, j, none⟩ := fun j _ => hx.cell (by simp; omega)
    have hf0 : ∀ j, w1.frozen? ⟨w.heap.size, j, none⟩ = W.frozen? ⟨w.heap.size, j, none⟩ := fun j => hx.frozen (by simp; omega)
    have H0 := Lib.hid h0
    have HF0 := Lib.hid hf0
    have H1 := Lib.hid h1
    have H2 := Lib.hid h2
    have H3 := Lib.hid h3
    have HB := Lib.hid (bW.trans (hx.mono bW.size))
    have q := fun j hj => (h0 j hj).trans (c0 j hj)
    have qf := fun j => (hf0 j).trans (f0 j)
    clear h0 hf0 h1 h2 h3
    have q0 : w1.cell? ⟨w.heap.size, 0, none⟩ = some (.int .i64 0) := q 0 (by omega)
    have q1 : w1.cell? ⟨w.heap.size, 1, none⟩ = some (.int .i64 0) := q 1 (by omega)
    have q2 : w1.cell? ⟨w.heap.size, 2, none⟩ = some (.int .i64 0) := q 2 (by omega)
    have q3 : w1.cell? ⟨w.heap.size, 3, none⟩ = some (.int .i64 0) := q 3 (by omega)
    have q4 : w1.cell? ⟨w.heap.size, 4, none⟩ = some (.int .i64 0) := q 4 (by omega)
    have q5 : w1.cell? ⟨w.heap.size, 5, none⟩ = some (.slice none 0 0) := q 5 (by omega)
    have q6 : w1.cell? ⟨w.heap.size, 6, none⟩ = some (.int .i64 0) := q 6 (by omega)
    have q7 : w1.cell? ⟨w.heap.size, 7, none⟩ = some (.slice none 0 0) := q 7 (by omega)
    have q8 : w1.cell? ⟨w.heap.size, 8, none⟩ = some (.slice none 0 0) := q 8 (by omega)
    have q9 : w1.cell? ⟨w.heap.size, 9, none⟩ = some (.slice none 0 0) := q 9 (by omega)
    have q10 : w1.cell? ⟨w.heap.size, 10, none⟩ = some (.slice none 0 0) := q 10 (by omega)
    clear q c0 f0 c1 c2
    simp only [Kit.putD, List.getD_cons_zero, List.getD_cons_succ, Act.put, v10, List.drop_succ_cons, List.drop_zero]
    go_simp
    go_wp2
    clear qf
    (refine bodyPost_ret (by simp [results, Tryd.results34, go_sem, Kit.cell_set, q0, q1, q2, q3, q4, q5, q6, q7, q8, q9, q10]; try rfl) rfl ?_)
    refine ⟨⟨some ⟨b1, 0, none⟩, 3, some ⟨b2, 0, none⟩, 1, none, 0, none, 0, some ⟨b3, 0, none⟩, 2⟩, ?_, Lw.at_fin (B := w.heap.size) H1.out H2.out H3.out (by omega) ?_, ?_⟩
    · rfl
    · exact (((((((((((Kit.Exc.refl (fun k => k = w.heap.size) w1).setCell (p := ⟨w.heap.size, 0, none⟩) (.inl rfl) _).setCell (p := ⟨w.heap.size, 1, none⟩) (.inl rfl) _).setCell (p := ⟨w.heap.size, 2, none⟩) (.inl rfl) _).setCell (p := ⟨w.heap.size, 3, none⟩) (.inl rfl) _).setCell (p := ⟨w.heap.size, 4, none⟩) (.inl rfl) _).setCell (p := ⟨w.heap.size, 5, none⟩) (.inl rfl) _).setCell (p := ⟨w.heap.size, 6, none⟩) (.inl rfl) _).setCell (p := ⟨w.heap.size, 7, none⟩) (.inl rfl) _).setCell (p := ⟨w.heap.size, 8, none⟩) (.inl rfl) _).setCell (p := ⟨w.heap.size, 9, none⟩) (.inl rfl) _).setCell (p := ⟨w.heap.size, 10, none⟩) (.inl rfl) _
    · have := HB.out; (repeat' first | (with_reducible first | exact Below.refl _ _ | assumption | refine Kit.below_drewN ?_ _ | refine Below.drew ?_ | refine Below.alloc ?_ ?_ _ | refine Below.setCell ?_ ?_ _ | exact Nat.le_refl _) | omega | (simp; omega) | (simp; done) | (apply Below.size; assumption))
end Go.Proofs.YtjoieglhmladhaaDoor
