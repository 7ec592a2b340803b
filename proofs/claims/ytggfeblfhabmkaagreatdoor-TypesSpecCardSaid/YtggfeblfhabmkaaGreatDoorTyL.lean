/- Walks: the comparison of faults; the library's SortFunc at faults. -/
import Derived.Test.YtggfeblfhabmkaaGreatDoorTyD
import Derived.Test.YtggfeblfhabmkaaGreatDoorTySl
import Derived.Test.YtggfeblfhabmkaaGreatDoorKitr
import Derived.Shelf.SlSortCmp.NoneTotal
namespace Go.Proofs.YtggfeblfhabmkaaGreatDoor
set_option linter.unusedVariables false
set_option linter.unusedSimpArgs false
open Go.RowKit Go.Shelf Go.Lib Go.Sort

abbrev Ty.fv (x : Ty.F3) : Value := .agg #[.int .i64 x.1, .int .i64 x.2.1, .int .i64 x.2.2]
theorem ty_f1 (x : Ty.F3) (W : World) : Calls Tryz.prog 27 #[Ty.fv x] W fun e w' => e = .returned (.int .i64 x.1) ∧ Kit.Lays W w' := by
  go_enter Tryz.func27, Tryz.ntmps27
  go_wp2
  go_ret
  exact ⟨rfl, (Kit.Lays.refl W).alloc _⟩
theorem ty_f2 (x : Ty.F3) (W : World) : Calls Tryz.prog 28 #[Ty.fv x] W fun e w' => e = .returned (.int .i64 x.2.1) ∧ Kit.Lays W w' := by
  go_enter Tryz.func28, Tryz.ntmps28
  go_wp2
  go_ret
  exact ⟨rfl, (Kit.Lays.refl W).alloc _⟩
theorem ty_f3 (x : Ty.F3) (W : World) : Calls Tryz.prog 29 #[Ty.fv x] W fun e w' => e = .returned (.int .i64 x.2.2) ∧ Kit.Lays W w' := by
  go_enter Tryz.func29, Tryz.ntmps29
  go_wp2
  go_ret
  exact ⟨rfl, (Kit.Lays.refl W).alloc _⟩
theorem cm_lay (x y : Int) (w : World) : Calls Tryz.prog 51 #[.int .i64 x, .int .i64 y] w fun e w' => e = .returned (.int .i64 (Ra.sg x y)) ∧ Kit.Lays w w' :=
  (cm_cmp x y w).mono fun _ _ ⟨a, b⟩ => ⟨a, b ▸ Kit.Lays.refl _⟩
/-- How two faults compare. -/
def Ty.cf (x y : Ty.F3) : Int := if (Ra.sg x.1 y.1 != 0) = true then Ra.sg x.1 y.1 else if (Ra.sg x.2.1 y.2.1 != 0) = true then Ra.sg x.2.1 y.2.1 else if (Ra.sg x.2.2 y.2.2 != 0) = true then Ra.sg x.2.2 y.2.2 else 0
/-- Where the fields' functions lie. -/
def Ty.By (W : World) (B : Nat) : Prop := B < W.heap.size ∧ W.cell? ⟨B, 0, none⟩ = some (.func (.func 27) #[] #[]) ∧ W.cell? ⟨B, 1, none⟩ = some (.func (.func 28) #[] #[]) ∧ W.cell? ⟨B, 2, none⟩ = some (.func (.func 29) #[] #[])

def Ty.ct (x y : Ty.F3) : Nat → Int
  | 0 => Ra.sg x.1 y.1
  | 1 => Ra.sg x.2.1 y.2.1
  | _ => Ra.sg x.2.2 y.2.2
set_option maxRecDepth 100000 in
set_option maxHeartbeats 1000000 in
theorem ty_compared (x y : Ty.F3) (B : Nat) (w : World) (hB : Ty.By w B) :
    Calls Tryz.prog 26 #[Ty.fv x, Ty.fv y, .slice (some ⟨B, 0, none⟩) 3 3] w fun e w' => e = .returned (.int .i64 (Ty.cf x y)) ∧ Kit.Lays w w' := by
  obtain ⟨x1, x2, x3⟩ := x
  obtain ⟨y1, y2, y3⟩ := y
  have HB := Lib.hid hB; clear hB
  go_enter Tryz.func26, Tryz.ntmps26
  have HC0 : ((w.alloc (.cells #[.int .i64 x1, .int .i64 x2, .int .i64 x3] 48)).alloc (.cells #[.int .i64 y1, .int .i64 y2, .int .i64 y3] 48)).heap.size = w.heap.size + 2 := by simp
  obtain ⟨W1, hW1⟩ : ∃ W1, W1 = (w.alloc (.cells #[.int .i64 x1, .int .i64 x2, .int .i64 x3] 48)).alloc (.cells #[.int .i64 y1, .int .i64 y2, .int .i64 y3] 48) := ⟨_, rfl⟩
  have L1 := Lib.hid (show Kit.Lays w W1 by rw [hW1]; exact ((Kit.Lays.refl w).alloc _).alloc _)
  have E1 := Lib.hid (show Kit.Exc (fun _ => False) w W1 by rw [hW1]; exact ((Kit.Exc.refl _ w).alloc _).alloc _)
  have hs1 : W1.heap.size = w.heap.size + 2 := by rw [hW1]; exact HC0
  have hc : ∀ wr, Kit.Lays W1 wr → wr.cell? ⟨w.heap.size, 0, none⟩ = some (.int .i64 x1) := fun wr h => (h.below.cell (by simp; omega)).trans (by rw [hW1]; simp [go_sem])
  have HC := Lib.hid (show (∀ wr, Kit.Lays W1 wr → wr.cell? ⟨w.heap.size, 0, none⟩ = some (.int .i64 x1)) ∧ (∀ wr, Kit.Lays W1 wr → wr.cell? ⟨w.heap.size, 1, none⟩ = some (.int .i64 x2)) ∧ (∀ wr, Kit.Lays W1 wr → wr.cell? ⟨w.heap.size, 2, none⟩ = some (.int .i64 x3)) ∧ (∀ wr, Kit.Lays W1 wr → wr.cell? ⟨w.heap.size + 1, 0, none⟩ = some (.int .i64 y1)) ∧ (∀ wr, Kit.Lays W1 wr → wr.cell? ⟨w.heap.size + 1, 1, none⟩ = some (.int .i64 y2)) ∧ (∀ wr, Kit.Lays W1 wr → wr.cell? ⟨w.heap.size + 1, 2, none⟩ = some (.int .i64 y3)) from
    ⟨hc, fun wr h => (h.below.cell (by simp; omega)).trans (by rw [hW1]; simp [go_sem]), fun wr h => (h.below.cell (by simp; omega)).trans (by rw [hW1]; simp [go_sem]), fun wr h => (h.below.cell (by simp; omega)).trans (by rw [hW1]; simp [go_sem]), fun wr h => (h.below.cell (by simp; omega)).trans (by rw [hW1]; simp [go_sem]), fun wr h => (h.below.cell (by simp; omega)).trans (by rw [hW1]; simp [go_sem])⟩)
  go_wp2_with fail
  rw [← hW1]
  clear hc hW1 HC0
  go_loopw [12] (fun v12 wr => ∃ k : Nat, v12 = .int .i64 k ∧ k ≤ 3 ∧ Hid (∀ i, i < k → (Ty.ct (x1, x2, x3) (y1, y2, y3) i != 0) = false) ∧ Hid (Kit.Lays W1 wr))
    (fun v12 _ => 3 - (intOf v12).toNat)
  case atStart => exact ⟨0, rfl, by omega, (fun i hi => by omega), Kit.Lays.refl _⟩
  case round =>
    obtain ⟨k, rfl, hk, HP, HW⟩ := hrel
    have z0 : w.heap.size < wr.heap.size := by have := HW.out.below.size; omega
    have z1 : w.heap.size + 1 < wr.heap.size := by have := HW.out.below.size; omega
    obtain rfl | rfl | rfl | rfl : k = 0 ∨ k = 1 ∨ k = 2 ∨ k = 3 := by omega
    · have fk : wr.cell? ⟨B, 0, none⟩ = some (.func (.func 27) #[] #[]) := (HW.out.below.cell (by show B < W1.heap.size; have := HB.out.1; omega)).trans (E1.out.cell HB.out.2.1 (fun h => h) HB.out.1)
      have ba : ∀ z : Kit.Ly wr, z.val.cell? ⟨w.heap.size, 0, none⟩ = some (.int .i64 x1) ∧ z.val.cell? ⟨w.heap.size, 1, none⟩ = some (.int .i64 x2) ∧ z.val.cell? ⟨w.heap.size, 2, none⟩ = some (.int .i64 x3) := fun z => ⟨z.cell (HC.out.1 wr HW.out) z0, z.cell (HC.out.2.1 wr HW.out) z0, z.cell (HC.out.2.2.1 wr HW.out) z0⟩
      have bb : ∀ z : Kit.Ly wr, z.val.cell? ⟨w.heap.size + 1, 0, none⟩ = some (.int .i64 y1) ∧ z.val.cell? ⟨w.heap.size + 1, 1, none⟩ = some (.int .i64 y2) ∧ z.val.cell? ⟨w.heap.size + 1, 2, none⟩ = some (.int .i64 y3) := fun z => ⟨z.cell (HC.out.2.2.2.1 wr HW.out) z1, z.cell (HC.out.2.2.2.2.1 wr HW.out) z1, z.cell (HC.out.2.2.2.2.2 wr HW.out) z1⟩
      have a0 := fun z => (ba z).1
      have a1 := fun z => (ba z).2.1
      have a2 := fun z => (ba z).2.2
      have b0 := fun z => (bb z).1
      have b1 := fun z => (bb z).2.1
      have b2 := fun z => (bb z).2.2
      clear ba bb
      go_wp2_with fail
      refine Kit.wp_region_lay (by kernel_rfl) (by kernel_rfl) ?_
      (repeat (go_big_quiet_step (first | exact Kit.calls_lay _ (ty_f1 (x1, x2, x3) _) | exact Kit.calls_lay _ (ty_f1 (y1, y2, y3) _) | exact Kit.calls_lay _ (cm_lay _ _ _))))
      refine wpQuiet_nil ?_
      intro z
      have HZ := Lib.hid (HW.out.trans z.lays)
      clear a0 a1 a2 b0 b1 b2 fk
      rcases d : (Ra.sg x1 y1 != 0) with _ | _
      · go_wp2
        go_roundw
        case rel => exact ⟨1, by go_num, by omega, (fun i hi => by
          have : i = 0 := by omega
          rcases this with rfl
          · exact d), HZ.out⟩
        case measure => simp [intOf]
      · go_wp2
        go_ret
        refine ⟨?_, L1.out.trans HZ.out⟩
        have hp := HP.out
        simp only [Ty.cf]
        rw [if_pos d]
        rfl
    · have fk : wr.cell? ⟨B, 1, none⟩ = some (.func (.func 28) #[] #[]) := (HW.out.below.cell (by show B < W1.heap.size; have := HB.out.1; omega)).trans (E1.out.cell HB.out.2.2.1 (fun h => h) HB.out.1)
      have ba : ∀ z : Kit.Ly wr, z.val.cell? ⟨w.heap.size, 0, none⟩ = some (.int .i64 x1) ∧ z.val.cell? ⟨w.heap.size, 1, none⟩ = some (.int .i64 x2) ∧ z.val.cell? ⟨w.heap.size, 2, none⟩ = some (.int .i64 x3) := fun z => ⟨z.cell (HC.out.1 wr HW.out) z0, z.cell (HC.out.2.1 wr HW.out) z0, z.cell (HC.out.2.2.1 wr HW.out) z0⟩
      have bb : ∀ z : Kit.Ly wr, z.val.cell? ⟨w.heap.size + 1, 0, none⟩ = some (.int .i64 y1) ∧ z.val.cell? ⟨w.heap.size + 1, 1, none⟩ = some (.int .i64 y2) ∧ z.val.cell? ⟨w.heap.size + 1, 2, none⟩ = some (.int .i64 y3) := fun z => ⟨z.cell (HC.out.2.2.2.1 wr HW.out) z1, z.cell (HC.out.2.2.2.2.1 wr HW.out) z1, z.cell (HC.out.2.2.2.2.2 wr HW.out) z1⟩
      have a0 := fun z => (ba z).1
      have a1 := fun z => (ba z).2.1
      have a2 := fun z => (ba z).2.2
      have b0 := fun z => (bb z).1
      have b1 := fun z => (bb z).2.1
      have b2 := fun z => (bb z).2.2
      clear ba bb
      go_wp2_with fail
      refine Kit.wp_region_lay (by kernel_rfl) (by kernel_rfl) ?_
      (repeat (go_big_quiet_step (first | exact Kit.calls_lay _ (ty_f2 (x1, x2, x3) _) | exact Kit.calls_lay _ (ty_f2 (y1, y2, y3) _) | exact Kit.calls_lay _ (cm_lay _ _ _))))
      refine wpQuiet_nil ?_
      intro z
      have HZ := Lib.hid (HW.out.trans z.lays)
      clear a0 a1 a2 b0 b1 b2 fk
      rcases d : (Ra.sg x2 y2 != 0) with _ | _
      · go_wp2
        go_roundw
        case rel => exact ⟨2, by go_num, by omega, (fun i hi => by
          have : i = 0 ∨ i = 1 := by omega
          rcases this with rfl | rfl
          · exact HP.out 0 (by omega)
          · exact d), HZ.out⟩
        case measure => simp [intOf]
      · go_wp2
        go_ret
        refine ⟨?_, L1.out.trans HZ.out⟩
        have hp := HP.out
        simp only [Ty.cf]
        rw [if_neg (by have := hp 0 (by omega); simp only [Ty.ct] at this; rw [this]; simp), if_pos d]
        rfl
    · have fk : wr.cell? ⟨B, 2, none⟩ = some (.func (.func 29) #[] #[]) := (HW.out.below.cell (by show B < W1.heap.size; have := HB.out.1; omega)).trans (E1.out.cell HB.out.2.2.2 (fun h => h) HB.out.1)
      have ba : ∀ z : Kit.Ly wr, z.val.cell? ⟨w.heap.size, 0, none⟩ = some (.int .i64 x1) ∧ z.val.cell? ⟨w.heap.size, 1, none⟩ = some (.int .i64 x2) ∧ z.val.cell? ⟨w.heap.size, 2, none⟩ = some (.int .i64 x3) := fun z => ⟨z.cell (HC.out.1 wr HW.out) z0, z.cell (HC.out.2.1 wr HW.out) z0, z.cell (HC.out.2.2.1 wr HW.out) z0⟩
      have bb : ∀ z : Kit.Ly wr, z.val.cell? ⟨w.heap.size + 1, 0, none⟩ = some (.int .i64 y1) ∧ z.val.cell? ⟨w.heap.size + 1, 1, none⟩ = some (.int .i64 y2) ∧ z.val.cell? ⟨w.heap.size + 1, 2, none⟩ = some (.int .i64 y3) := fun z => ⟨z.cell (HC.out.2.2.2.1 wr HW.out) z1, z.cell (HC.out.2.2.2.2.1 wr HW.out) z1, z.cell (HC.out.2.2.2.2.2 wr HW.out) z1⟩
      have a0 := fun z => (ba z).1
      have a1 := fun z => (ba z).2.1
      have a2 := fun z => (ba z).2.2
      have b0 := fun z => (bb z).1
      have b1 := fun z => (bb z).2.1
      have b2 := fun z => (bb z).2.2
      clear ba bb
      go_wp2_with fail
      refine Kit.wp_region_lay (by kernel_rfl) (by kernel_rfl) ?_
      (repeat (go_big_quiet_step (first | exact Kit.calls_lay _ (ty_f3 (x1, x2, x3) _) | exact Kit.calls_lay _ (ty_f3 (y1, y2, y3) _) | exact Kit.calls_lay _ (cm_lay _ _ _))))
      refine wpQuiet_nil ?_
      intro z
      have HZ := Lib.hid (HW.out.trans z.lays)
      clear a0 a1 a2 b0 b1 b2 fk
      rcases d : (Ra.sg x3 y3 != 0) with _ | _
      · go_wp2
        go_roundw
        case rel => exact ⟨3, by go_num, by omega, (fun i hi => by
          have : i = 0 ∨ i = 1 ∨ i = 2 := by omega
          rcases this with rfl | rfl | rfl
          · exact HP.out 0 (by omega)
          · exact HP.out 1 (by omega)
          · exact d), HZ.out⟩
        case measure => simp [intOf]
      · go_wp2
        go_ret
        refine ⟨?_, L1.out.trans HZ.out⟩
        have hp := HP.out
        simp only [Ty.cf]
        rw [if_neg (by have := hp 0 (by omega); simp only [Ty.ct] at this; rw [this]; simp), if_neg (by have := hp 1 (by omega); simp only [Ty.ct] at this; rw [this]; simp), if_pos d]
        rfl
    · go_wp2
      go_ret
      refine ⟨?_, L1.out.trans HW.out⟩
      have hp := HP.out
      simp only [Ty.cf]
      rw [if_neg (by have := hp 0 (by omega); simp only [Ty.ct] at this; rw [this]; simp), if_neg (by have := hp 1 (by omega); simp only [Ty.ct] at this; rw [this]; simp), if_neg (by have := hp 2 (by omega); simp only [Ty.ct] at this; rw [this]; simp)]
      rfl

set_option maxRecDepth 100000 in
/-- The comparison that Faults hands to SortFunc. -/
theorem ty_cmp (x y : Ty.F3) (w : World) : Calls Tryz.prog 25 #[Ty.fv x, Ty.fv y] w fun e w' => e = .returned (.int .i64 (Ty.cf x y)) ∧ Kit.Lays w w' := by
  obtain ⟨x1, x2, x3⟩ := x
  obtain ⟨y1, y2, y3⟩ := y
  have HC := Lib.hid (fun B W => ty_compared (x1, x2, x3) (y1, y2, y3) B W)
  go_enter Tryz.func25, Tryz.ntmps25
  go_wp2_with fail
  refine (HC.out (w.heap.size + 2) _ ⟨by simp, by simp [go_sem], by simp [go_sem], by simp [go_sem]⟩).mono ?_
  rintro _ w2 ⟨rfl, hl⟩
  have HL := Lib.hid ((((Kit.Lays.refl w).alloc _).alloc _).alloc _ |>.trans hl)
  clear hl
  go_wp2
  go_ret
  exact ⟨rfl, HL.out⟩
instance Ty.dec3 (x y : Ty.F3) : Decidable (Ty.lt3 x y) := by unfold Ty.lt3; infer_instance
theorem Ty.lt_cf (x y : Ty.F3) : ltOf Ty.cf x y = decide (Ty.lt3 x y) := by
  unfold ltOf Ty.cf Ty.lt3 Ra.sg
  apply decide_eq_decide.2
  by_cases a1 : x.1 < y.1 <;> by_cases a2 : y.1 < x.1 <;> by_cases b1 : x.2.1 < y.2.1 <;> by_cases b2 : y.2.1 < x.2.1 <;> by_cases c1 : x.2.2 < y.2.2 <;> by_cases c2 : y.2.2 < x.2.2 <;> simp [a1, a2, b1, b2, c1, c2] <;> omega
theorem Ty.lt3_ntrans {x y z : Ty.F3} (h : ¬ Ty.lt3 x y) (k : ¬ Ty.lt3 y z) : ¬ Ty.lt3 x z := by unfold Ty.lt3 at *; omega
theorem Ty.swo : SWO (ltOf Ty.cf) where
  irrefl x := by rw [Ty.lt_cf]; simp [Ty.lt3_irrefl]
  trans x y z h1 h2 := by rw [Ty.lt_cf] at *; simp at *; exact Ty.lt3_trans h1 h2
  ntrans x y z h1 h2 := by rw [Ty.lt_cf] at h1 h2 ⊢; exact decide_eq_false (Ty.lt3_ntrans (of_decide_eq_false h1) (of_decide_eq_false h2))
theorem Ty.flatF_len (l : List Ty.F3) : (Ty.flatF l).length = l.length * 3 := by
  induction l with
  | nil => rfl
  | cons s l ih => simp [Ty.flatF] at ih ⊢; omega
theorem Ty.flatF_get : ∀ (l : List Ty.F3) (i j : Nat), i < l.length → j < 3 → (Ty.flatF l)[i * 3 + j]? = (Ty.fs (l.getD i (0, 0, 0)))[j]?
  | s :: l, 0, j, _, hj => by
    have h : Ty.flatF (s :: l) = Ty.fs s ++ Ty.flatF l := by simp [Ty.flatF]
    rw [h, List.getElem?_append_left (by simp; omega)]
    simp
  | s :: l, i + 1, j, hi, hj => by
    have h : Ty.flatF (s :: l) = Ty.fs s ++ Ty.flatF l := by simp [Ty.flatF]
    rw [h, List.getElem?_append_right (by simp; omega)]
    have h2 : (i + 1) * 3 + j - (Ty.fs s).length = i * 3 + j := by simp; omega
    rw [h2, Ty.flatF_get l i j (by simpa using hi) hj]
    simp
theorem Ty.flatK_get (d : Array Ty.F3) (t : Nat) (h : t < d.size * 3) : some ((flatK Ty.fs 3 d)[t]!) = (Ty.flatF d.toList)[t]? := by
  rw [get_flatK _ _ _ _ h]
  have h1 := Ty.flatF_get d.toList (t / 3) (t % 3) (by simp; omega) (by omega)
  rw [show t / 3 * 3 + t % 3 = t by omega] at h1
  rw [h1]
  have h2 : d.toList.getD (t / 3) (0, 0, 0) = d[t / 3]! := by
    have h3 : t / 3 < d.size := by omega
    simp [List.getD, h3]
  rw [h2]
  have h4 : t % 3 < 3 := by omega
  generalize t % 3 = q at *
  rcases q with _ | _ | _ | q <;> first | rfl | omega
theorem Ty.row_sorted {w : World} {g n : Nat} {cur : Array Value} {t : TypeId} {d : Array Ty.F3} {os : Array Obj} (hg : w.heap[g]? = some (.cells cur t (0, 0))) :
    (sortWorldK Ty.fs 3 w g 0 n d os).heap[g]? = some (.cells (putCells id 0 (flatK Ty.fs 3 d) cur) t (0, 0)) := by
  have hlt := (Array.getElem?_eq_some_iff.1 hg).1
  show ((w.heap.modify g (onCells (putCells id 0 (flatK Ty.fs 3 d)))) ++ os)[g]? = _
  rw [Array.getElem?_append_left (by simpa using hlt), Array.getElem?_modify, if_pos rfl, hg]
  rfl
theorem Ty.row_exc (w : World) (g n : Nat) (d : Array Ty.F3) (os : Array Obj) : Kit.Exc (fun k => k = g) w (sortWorldK Ty.fs 3 w g 0 n d os) := by
  refine ⟨rfl, rfl, rfl, ?_, fun k hk hn => ?_⟩
  · show w.heap.size ≤ ((w.heap.modify g (onCells (putCells id 0 (flatK Ty.fs 3 d)))) ++ os).size
    simp
  · show ((w.heap.modify g (onCells (putCells id 0 (flatK Ty.fs 3 d)))) ++ os)[k]? = _
    rw [Array.getElem?_append_left (by simpa using hk), Array.getElem?_modify, if_neg (fun e => hn e.symm)]
theorem Ty.sorted_le (d : Array Ty.F3) (hs : SortedIn (ltOf Ty.cf) 0 d.size d) : d.toList.Pairwise Ty.le3 := by
  rw [List.pairwise_iff_getElem]
  intro i j hi hj hij
  have hi' : i < d.size := by simpa using hi
  have hj' : j < d.size := by simpa using hj
  have h := hs i j (Nat.zero_le _) hij hj'
  rw [Ty.lt_cf] at h
  rw [getElem!_pos d i hi', getElem!_pos d j hj'] at h
  simp only [Array.getElem_toList]
  generalize d[i] = x at *
  generalize d[j] = y at *
  obtain ⟨x1, x2, x3⟩ := x
  obtain ⟨y1, y2, y3⟩ := y
  have h' := of_decide_eq_false h
  simp only [Ty.lt3] at h'
  simp only [Ty.le3, Ty.lt3, Prod.mk.injEq]
  omega
set_option maxHeartbeats 1000000 in
/-- SortFunc of the list of faults. -/
theorem ty_sort (v : Value) (s : Nat) (l : List Ty.F3) (w : World) (hb : l.length ≤ 1000000000) (hS : w.ownsRow s 48 3 v l.length (Ty.flatF l)) :
    Calls Tryz.prog 24 #[v, .func (.func 25) #[] #[]] w
      fun e w' => e = .returned (.tuple #[]) ∧ ∃ l' : List Ty.F3, l'.Perm l ∧ l'.Pairwise Ty.le3 ∧ w'.ownsRow s 48 3 v l'.length (Ty.flatF l') ∧ Kit.Exc (fun k => v.ownBlock = some k) w w' := by
  rcases hS.2 with ⟨rfl, hl⟩ | ⟨g, cap, cur, rfl, hg, hh, h1, h2, h3, h4⟩
  · obtain rfl := List.eq_nil_of_length_eq_zero hl
    refine (AnyF.slices_SortFunc_none sortFault none 0 _ w).mono ?_
    rintro e w' ⟨rfl, rfl⟩
    exact ⟨rfl, [], List.Perm.refl _, List.Pairwise.nil, hS, Kit.Exc.refl _ _⟩
  · have hlt := (Array.getElem?_eq_some_iff.1 hh).1
    have hH : HoldsK Ty.fs 3 w g 0 l.toArray := fun j hj => by
      rw [size_flatK, List.size_toArray] at hj
      refine ⟨?_, frozen_of_row _ _ _ _ _ hh⟩
      have e1 := Ty.flatK_get l.toArray j (by simpa using hj)
      simp only [World.cell?, hh, Nat.zero_add]
      rw [show id ((flatK Ty.fs 3 l.toArray)[j]!) = (flatK Ty.fs 3 l.toArray)[j]! from rfl, e1, ← h4, List.getElem?_take_of_lt (by omega)]
      simp
    have hcon := AnyQ.slices_SortFunc sortFault 3 Tryz.isAgg48 Tryz.sizeOf48 Ty.fs (fun _ => rfl) (fun x v hv => by simp at hv; rcases hv with rfl | rfl | rfl <;> rfl) Ty.cf Ty.swo 25 #[] g 0 cap l.toArray w
      (enters_of Tryz.func25 (by kernel_rfl) rfl) (fun _ _ _ _ x y => ty_cmp x y _) hH hlt (by simp; omega)
    refine hcon.mono ?_
    rintro e w' ⟨rfl, d', n, os, hp, hs, rfl⟩
    have hsz : d'.size = l.length := by simpa using hp.1
    have hex := Ty.row_exc w g n d' os
    refine ⟨rfl, d'.toList, ?_, Ty.sorted_le d' (by rw [hsz]; simpa using hs), ⟨by rw [Ty.flatF_len], .inr ⟨g, cap, putCells id 0 (flatK Ty.fs 3 d') cur, by simp [hsz], hg, Ty.row_sorted hh, by simpa [hsz] using h1, h2, by simp [putCells, h3], ?_⟩⟩, hex.mono (fun k _ e => by simp [Value.ownBlock, e])⟩
    · have := hp.2.2
      have e1 : d'.extract 0 l.toArray.size = d' := by rw [← hp.1]; simp
      have e2 : l.toArray.extract 0 l.toArray.size = l.toArray := by simp
      rw [e1, e2] at this
      simpa using this
    · apply List.ext_getElem?
      intro p
      by_cases hpp : p < d'.size * 3
      · have e1 := Ty.flatK_get d' p hpp
        rw [List.getElem?_take_of_lt (by simpa using hpp), ← e1]
        have e2 : p < cur.size := by omega
        simp [putCells, e2, hpp]
      · rw [List.getElem?_take_eq_none (by simp; omega), List.getElem?_eq_none (by rw [Ty.flatF_len]; simp; omega)]
end Go.Proofs.YtggfeblfhabmkaaGreatDoor
