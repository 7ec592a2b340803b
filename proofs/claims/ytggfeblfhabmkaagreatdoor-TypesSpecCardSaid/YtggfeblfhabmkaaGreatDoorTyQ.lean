/- Walks: the laws of layer 20: Same, the closures of sane, work. -/
import Derived.Test.YtggfeblfhabmkaaGreatDoorTyP
import Derived.Test.YtggfeblfhabmkaaGreatDoorKits
import Derived.ChangeKeysEq
namespace Go.Proofs.YtggfeblfhabmkaaGreatDoor
set_option linter.unusedVariables false
set_option linter.unusedSimpArgs false
open Go.RowKit Go.Shelf

namespace Rf
theorem dec_cons {α : Type} [DecidableEq α] (a b : α) (l m : List α) : decide (a :: l = b :: m) = (decide (a = b) && decide (l = m)) := by
  rw [Bool.eq_iff_iff]; simp
end Rf
def Ty.f3c (l : List Ty.F3) (i j : Nat) : Value := .int .i64 (match j with | 0 => (l.getD i (0, 0, 0)).1 | 1 => (l.getD i (0, 0, 0)).2.1 | _ => (l.getD i (0, 0, 0)).2.2)
/-- A list of faults of one's own, as a slice. -/
theorem Ty.own_fl {W : World} {s : Nat} {v : Value} {l : List Ty.F3} (h : W.ownsRow s 48 3 v l.length (Ty.flatF l)) : ∃ a c, v = .slice a l.length c ∧ Tp.Sl W a l.length 3 (Ty.f3c l) := by
  have h' := h
  rcases h.2 with ⟨e1, e2⟩ | ⟨g, cap, cur, rfl, hg, hh, r⟩
  · obtain rfl := List.eq_nil_of_length_eq_zero e2
    exact ⟨none, 0, e1, .inl rfl⟩
  · refine ⟨_, cap, rfl, .inr ⟨_, rfl, (h'.lt g rfl).2, fun i j hi hj => ?_⟩⟩
    refine h'.cells (g := g) rfl (i * 3 + j) _ ?_
    rw [Ty.flatF_get l i j hi hj]
    rcases j with _ | _ | _ | j <;> first | rfl | omega
set_option maxRecDepth 100000 in
set_option maxHeartbeats 2000000 in
theorem ty_same (aA : Option Addr) (l : List (Int × Int × Int)) (cA : Nat) (aB : Option Addr) (m : List (Int × Int × Int)) (cB : Nat) (w : World) (lA : l.length ≤ 4611686018427387904) (lB : m.length ≤ 4611686018427387904)
    (sA : Tp.Sl w aA l.length 3 (Ty.f3c l)) (sB : Tp.Sl w aB m.length 3 (Ty.f3c m)) :
    Calls Tryz.prog 8 #[.slice aA l.length cA, .slice aB m.length cB] w fun e w' => e = .returned (.bool (decide (l = m))) ∧ Below w.heap.size w w' := by
  have SA := Lib.hid sA; clear sA
  have SB := Lib.hid sB; clear sB
  by_cases hlen : l.length = m.length
  · have dl : ((l.length : Int) != (m.length : Int)) = false := by simp; omega
    have HLEN := Lib.hid hlen; clear hlen
    go_enter Tryz.func8, Tryz.ntmps8
    go_wp2
    clear dl
    go_loopw [5] (fun v5 wr => ∃ k : Nat, v5 = .int .i64 k ∧ k ≤ l.length ∧ Hid (decide (l = m) = decide (l.drop k = m.drop k)) ∧ Hid (Below w.heap.size w wr))
      (fun v5 _ => l.length - (intOf v5).toNat)
    case atStart => exact ⟨0, rfl, Nat.zero_le _, Lib.hid (by simp), Lib.hid (Below.refl _ _)⟩
    case round =>
      obtain ⟨k, rfl, hk, HI, HB⟩ := hrel
      by_cases hlt : k < l.length
      · have hlm : k < m.length := by have := HLEN.out; omega
        obtain ⟨aa, rfl, haa, _⟩ := SA.out.at hlt
        obtain ⟨ab, rfl, hab, _⟩ := SB.out.at hlm
        have hse : ∀ z : Kit.Wd wr, Tp.Sl z.val (some aa) l.length 3 (Ty.f3c l) := fun z => SA.out.kept (HB.out.trans (z.below.mono HB.out.size)) (Nat.le_refl _)
        have e0 := fun z => (hse z).head hlt (by omega)
        have e1 := fun z => (hse z).field hlt (j := 1) (by omega) (by omega)
        have e2 := fun z => (hse z).field hlt (j := 2) (by omega) (by omega)
        clear hse
        have hsi : ∀ z : Kit.Wd wr, Tp.Sl z.val (some ab) m.length 3 (Ty.f3c m) := fun z => SB.out.kept (HB.out.trans (z.below.mono HB.out.size)) (Nat.le_refl _)
        have i0 := fun z => (hsi z).head hlm (by omega)
        have i1 := fun z => (hsi z).field hlm (j := 1) (by omega) (by omega)
        have i2 := fun z => (hsi z).field hlm (j := 2) (by omega) (by omega)
        clear hsi
        have hd1 := Tp.drop_cons l (0, 0, 0) k hlt
        have hd2 := Tp.drop_cons m (0, 0, 0) k hlm
        generalize hx : l.getD k (0, 0, 0) = x at hd1
        generalize hy : m.getD k (0, 0, 0) = y at hd2
        obtain ⟨x1, x2, x3⟩ := x
        obtain ⟨y1, y2, y3⟩ := y
        simp only [Ty.f3c, hx, hy, if_true, if_false, Nat.one_ne_zero] at e0 e1 e2 i0 i1 i2
        have hI : decide (l = m) = (decide ((x1, x2, x3) = (y1, y2, y3)) && decide (l.drop (k + 1) = m.drop (k + 1))) := by rw [HI.out, hd1, hd2, Rf.dec_cons]
        have HI2 := Lib.hid hI
        clear hI hd1 hd2 hx hy HI
        rcases c0 : (x1 == y1) with _ | _
        · have b0 : (x1 != y1) = true := by simpa using c0
          have HR := Lib.hid (show decide (l = m) = false by
            have c0x : ¬ x1 = y1 := by simpa using c0
            rw [HI2.out]; simp [c0x])
          clear HI2
          go_wp2
          (refine Kit.wp_region_cls (by kernel_rfl) (by kernel_rfl) ?_; (repeat (go_big_quiet_step (fail))); refine wpQuiet_nil ?_; intro z)
          have HZ := Lib.hid (HB.out.trans (z.below.mono HB.out.size))
          generalize z.val = Z at *
          clear e0 e1 e2 i0 i1 i2
          go_wp2
          go_ret
          exact ⟨by rw [HR.out]; rfl, HZ.out⟩
        · have b0 : (x1 != y1) = false := by simpa using c0
          rcases c1 : (x2 == y2) with _ | _
          · have b1 : (x2 != y2) = true := by simpa using c1
            have HR := Lib.hid (show decide (l = m) = false by
              have c1x : ¬ x2 = y2 := by simpa using c1
              rw [HI2.out]; simp [c1x])
            clear HI2
            go_wp2
            (refine Kit.wp_region_cls (by kernel_rfl) (by kernel_rfl) ?_; (repeat (go_big_quiet_step (fail))); refine wpQuiet_nil ?_; intro z)
            have HZ := Lib.hid (HB.out.trans (z.below.mono HB.out.size))
            generalize z.val = Z at *
            clear e0 e1 e2 i0 i1 i2
            go_wp2
            go_ret
            exact ⟨by rw [HR.out]; rfl, HZ.out⟩
          · have b1 : (x2 != y2) = false := by simpa using c1
            rcases c2 : (x3 == y3) with _ | _
            · have b2 : (x3 != y3) = true := by simpa using c2
              have HR := Lib.hid (show decide (l = m) = false by
                have c2x : ¬ x3 = y3 := by simpa using c2
                rw [HI2.out]; simp [c2x])
              clear HI2
              go_wp2
              (refine Kit.wp_region_cls (by kernel_rfl) (by kernel_rfl) ?_; (repeat (go_big_quiet_step (fail))); refine wpQuiet_nil ?_; intro z)
              have HZ := Lib.hid (HB.out.trans (z.below.mono HB.out.size))
              generalize z.val = Z at *
              clear e0 e1 e2 i0 i1 i2
              go_wp2
              go_ret
              exact ⟨by rw [HR.out]; rfl, HZ.out⟩
            · have b2 : (x3 != y3) = false := by simpa using c2
              have HR := Lib.hid (show decide (l = m) = decide (l.drop (k + 1) = m.drop (k + 1)) by
                have c0x : x1 = y1 := by simpa using c0
                have c1x : x2 = y2 := by simpa using c1
                have c2x : x3 = y3 := by simpa using c2
                rw [HI2.out]; simp [c0x, c1x, c2x])
              clear HI2
              go_wp2
              (refine Kit.wp_region_cls (by kernel_rfl) (by kernel_rfl) ?_; (repeat (go_big_quiet_step (fail))); refine wpQuiet_nil ?_; intro z)
              have HZ := Lib.hid (HB.out.trans (z.below.mono HB.out.size))
              generalize z.val = Z at *
              clear e0 e1 e2 i0 i1 i2
              go_wp2
              go_roundw
              case rel => exact ⟨k + 1, by go_num, by omega, HR, HZ⟩
              case measure => simp [intOf]; omega
      · have HR := Lib.hid (show decide (l = m) = true by have := HLEN.out; rw [HI.out, List.drop_of_length_le (by omega), List.drop_of_length_le (by omega)]; simp)
        clear HI
        go_wp2
        go_ret
        exact ⟨by rw [HR.out]; rfl, HB.out⟩
  · have dl : ((l.length : Int) != (m.length : Int)) = true := by simp; omega
    have HR := Lib.hid (show decide (l = m) = false by have : ¬ l = m := (fun h => hlen (by rw [h])); simp [this])
    clear hlen
    go_enter Tryz.func8, Tryz.ntmps8
    go_wp2
    go_ret
    exact ⟨by rw [HR.out]; rfl, Below.refl _ _⟩

abbrev Ty.armS (side a b c d : Int) : Ex.Sg := ⟨0, 0, 0, 0, 4, side, 0, 1, 0, 0, a, b, c, d⟩
abbrev Ty.stepS (side a b c d : Int) : Ex.Sg := ⟨0, 0, 0, 0, 1, side, 1, 0, 1, 0, a, b, c, d⟩
theorem lw_arm (side a b c d : Int) (w : World) : Calls Tryz.prog 11 #[.int .i64 side, Ra.V a b, Ra.V c d] w fun e w' => e = .returned (Ex.sgV (Ty.armS side a b c d)) ∧ Below w.heap.size w w' := by
  go_enter Tryz.func11, Tryz.ntmps11
  go_wp2
  (refine bodyPost_ret (by simp [results, Tryz.results11, go_sem, Kit.cell_set]; try rfl) rfl ?_)
  exact ⟨rfl, by (repeat' first | (with_reducible first | exact Below.refl _ _ | assumption | refine Kit.below_drewN ?_ _ | refine Below.drew ?_ | refine Below.alloc ?_ ?_ _ | refine Below.setCell ?_ ?_ _ | exact Nat.le_refl _) | omega | (simp; omega) | (simp; done) | (apply Below.size; assumption))⟩
theorem lw_step (side a b c d : Int) (w : World) : Calls Tryz.prog 12 #[.int .i64 side, Ra.V a b, Ra.V c d] w fun e w' => e = .returned (Ex.sgV (Ty.stepS side a b c d)) ∧ Below w.heap.size w w' := by
  go_enter Tryz.func12, Tryz.ntmps12
  go_wp2
  (refine bodyPost_ret (by simp [results, Tryz.results12, go_sem, Kit.cell_set]; try rfl) rfl ?_)
  exact ⟨rfl, by (repeat' first | (with_reducible first | exact Below.refl _ _ | assumption | refine Kit.below_drewN ?_ _ | refine Below.drew ?_ | refine Below.alloc ?_ ?_ _ | refine Below.setCell ?_ ?_ _ | exact Nat.le_refl _) | omega | (simp; omega) | (simp; done) | (apply Below.size; assumption))⟩
end Go.Proofs.YtggfeblfhabmkaaGreatDoor
