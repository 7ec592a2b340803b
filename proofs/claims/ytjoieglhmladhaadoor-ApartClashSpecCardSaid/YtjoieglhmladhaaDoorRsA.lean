/- Walks: the references of layer 29: SamePairs, SameInts, Same, Has. -/
import Derived.Test.YtjoieglhmladhaaDoorClA
import Derived.ChangeKeysEq
namespace Go.Proofs.YtjoieglhmladhaaDoor
set_option linter.unusedVariables false
set_option linter.unusedSimpArgs false
open Go.RowKit Go.Shelf

namespace Rf
def intc (l : List Int) (i _ : Nat) : Value := .int .i64 (l.getD i 0)
theorem dec_cons {α : Type} [DecidableEq α] (a b : α) (l m : List α) : decide (a :: l = b :: m) = (decide (a = b) && decide (l = m)) := by
  rw [Bool.eq_iff_iff]; simp
end Rf

theorem Rf.infoI : (Tryd.prog.info? 3).map (fun i => (i.zero, i.size, i.bytes)) = some (some (.int .i64 0), 1, 8) := by kernel_rfl
theorem Rf.eq_pair (a b c d : Int) (w : World) : (Op.equalIn 10000 75 (.agg #[.int .i64 a, .int .i64 b]) (.agg #[.int .i64 c, .int .i64 d])).run Tryd.prog w = .ok (a == c && b == d) w := by
  obtain ⟨i, hi, hz, hs, hb⟩ := info_parts Rf.infoI
  have hcs : Tryd.prog.cellsOf 3 = 1 := by kernel_rfl
  have hu : Tryd.prog.underlying 3 = some (.int .i64) := by kernel_rfl
  rw [show (10000 : Nat) = 9999 + 1 from rfl, run_equalIn_array w 9999 _ _ (show Tryd.prog.underlying 75 = some (.array 2 3) by kernel_rfl) hi]
  by_cases h1 : a = c <;> by_cases h2 : b = d <;> simp [Op.eqItems, hcs, go_sem, List.range, List.range.loop, h1, h2]

set_option maxRecDepth 100000 in
set_option maxHeartbeats 2000000 in
theorem rf_samepairs (aA : Option Addr) (l : List (Int × Int)) (cA : Nat) (aB : Option Addr) (m : List (Int × Int)) (cB : Nat) (w : World) (lA : l.length ≤ 4611686018427387904) (lB : m.length ≤ 4611686018427387904)
    (sA : Tp.Sl w aA l.length 2 (Ap.prc l)) (sB : Tp.Sl w aB m.length 2 (Ap.prc m)) :
    Calls Tryd.prog 19 #[.slice aA l.length cA, .slice aB m.length cB] w fun e w' => e = .returned (.bool (decide (l = m))) ∧ Below w.heap.size w w' := by
  have heq := Rf.eq_pair
  have SA := Lib.hid sA; clear sA
  have SB := Lib.hid sB; clear sB
  by_cases hlen : l.length = m.length
  · have dl : ((l.length : Int) != (m.length : Int)) = false := by simp; omega
    have HLEN := Lib.hid hlen; clear hlen
    go_enter Tryd.func19, Tryd.ntmps19
    go_wp2
    clear dl
    go_loopw [5] (fun v5 wr => ∃ k : Nat, v5 = .int .i64 k ∧ k ≤ l.length ∧ Hid (decide (l = m) = decide (l.drop k = m.drop k)) ∧ Hid (Below w.heap.size w wr))
      (fun v5 _ => l.length - (intOf v5).toNat)
    case atStart => exact ⟨0, rfl, Nat.zero_le _, Lib.hid (by simp), Lib.hid (Below.refl _ _)⟩
    case round =>
      obtain ⟨k, rfl, hk, HI, HB⟩ := hrel
      by_cases hlt : k < l.length
      · have hlm : k < m.length := by have := HLEN.out; omega
        obtain ⟨aa, rfl, haa, _⟩ := SA.out.at hlt
        obtain ⟨ab, rfl, hab, _⟩ := SB.out.at hlm
        have hse : ∀ z : Kit.Wd wr, Tp.Sl z.val (some aa) l.length 2 (Ap.prc l) := fun z => SA.out.kept (HB.out.trans (z.below.mono HB.out.size)) (Nat.le_refl _)
        have e0 := fun z => (hse z).head hlt (by omega)
        have e1 := fun z => (hse z).field hlt (j := 1) (by omega) (by omega)
        clear hse
        have hsi : ∀ z : Kit.Wd wr, Tp.Sl z.val (some ab) m.length 2 (Ap.prc m) := fun z => SB.out.kept (HB.out.trans (z.below.mono HB.out.size)) (Nat.le_refl _)
        have i0 := fun z => (hsi z).head hlm (by omega)
        have i1 := fun z => (hsi z).field hlm (j := 1) (by omega) (by omega)
        clear hsi
        have hd1 := Tp.drop_cons l (0, 0) k hlt
        have hd2 := Tp.drop_cons m (0, 0) k hlm
        generalize hx : l.getD k (0, 0) = x at hd1
        generalize hy : m.getD k (0, 0) = y at hd2
        obtain ⟨x1, x2⟩ := x
        obtain ⟨y1, y2⟩ := y
        simp only [Ap.prc, hx, hy, if_true, if_false, Nat.one_ne_zero] at e0 e1 i0 i1
        have hI : decide (l = m) = (decide ((x1, x2) = (y1, y2)) && decide (l.drop (k + 1) = m.drop (k + 1))) := by rw [HI.out, hd1, hd2, Rf.dec_cons]
        have HI2 := Lib.hid hI
        clear hI hd1 hd2 hx hy HI
        rcases c0 : (x1 == y1) with _ | _
        · have b0 : (x1 != y1) = true := by simpa using c0
          have HR := Lib.hid (show decide (l = m) = false by
            have c0x : ¬ x1 = y1 := by simpa using c0
            rw [HI2.out]; simp [c0x])
          clear HI2
          go_wp2
          (refine Kit.wp_region_cls (by kernel_rfl) (by kernel_rfl) ?_; (repeat (go_big_quiet_step (fail))); refine wpQuiet_nil ?_; intro z)
          have HZ := Lib.hid (HB.out.trans (z.below.mono HB.out.size))
          generalize z.val = Z at *
          clear e0 e1 i0 i1
          go_wp2
          go_ret
          exact ⟨by rw [HR.out]; rfl, HZ.out⟩
        · have b0 : (x1 != y1) = false := by simpa using c0
          rcases c1 : (x2 == y2) with _ | _
          · have b1 : (x2 != y2) = true := by simpa using c1
            have HR := Lib.hid (show decide (l = m) = false by
              have c1x : ¬ x2 = y2 := by simpa using c1
              rw [HI2.out]; simp [c1x])
            clear HI2
            go_wp2
            (refine Kit.wp_region_cls (by kernel_rfl) (by kernel_rfl) ?_; (repeat (go_big_quiet_step (fail))); refine wpQuiet_nil ?_; intro z)
            have HZ := Lib.hid (HB.out.trans (z.below.mono HB.out.size))
            generalize z.val = Z at *
            clear e0 e1 i0 i1
            go_wp2
            go_ret
            exact ⟨by rw [HR.out]; rfl, HZ.out⟩
          · have b1 : (x2 != y2) = false := by simpa using c1
            have HR := Lib.hid (show decide (l = m) = decide (l.drop (k + 1) = m.drop (k + 1)) by
              have c0x : x1 = y1 := by simpa using c0
              have c1x : x2 = y2 := by simpa using c1
              rw [HI2.out]; simp [c0x, c1x])
            clear HI2
            go_wp2
            (refine Kit.wp_region_cls (by kernel_rfl) (by kernel_rfl) ?_; (repeat (go_big_quiet_step (fail))); refine wpQuiet_nil ?_; intro z)
            have HZ := Lib.hid (HB.out.trans (z.below.mono HB.out.size))
            generalize z.val = Z at *
            clear e0 e1 i0 i1
            go_wp2
            go_roundw
            case rel => exact ⟨k + 1, by go_num, by omega, HR, HZ⟩
            case measure => simp [intOf]; omega
      · have HR := Lib.hid (show decide (l = m) = true by have := HLEN.out; rw [HI.out, List.drop_of_length_le (by omega), List.drop_of_length_le (by omega)]; simp)
        clear HI
        go_wp2
        go_ret
        exact ⟨by rw [HR.out]; rfl, HB.out⟩
  · have dl : ((l.length : Int) != (m.length : Int)) = true := by simp; omega
    have HR := Lib.hid (show decide (l = m) = false by have : ¬ l = m := (fun h => hlen (by rw [h])); simp [this])
    clear hlen
    go_enter Tryd.func19, Tryd.ntmps19
    go_wp2
    go_ret
    exact ⟨by rw [HR.out]; rfl, Below.refl _ _⟩

set_option maxRecDepth 100000 in
set_option maxHeartbeats 2000000 in
theorem rf_sameclash (aA : Option Addr) (l : List (Int × Int × Int)) (cA : Nat) (aB : Option Addr) (m : List (Int × Int × Int)) (cB : Nat) (w : World) (lA : l.length ≤ 4611686018427387904) (lB : m.length ≤ 4611686018427387904)
    (sA : Tp.Sl w aA l.length 3 (Ap.c3c l)) (sB : Tp.Sl w aB m.length 3 (Ap.c3c m)) :
    Calls Tryd.prog 23 #[.slice aA l.length cA, .slice aB m.length cB] w fun e w' => e = .returned (.bool (decide (l = m))) ∧ Below w.heap.size w w' := by
  have SA := Lib.hid sA; clear sA
  have SB := Lib.hid sB; clear sB
  by_cases hlen : l.length = m.length
  · have dl : ((l.length : Int) != (m.length : Int)) = false := by simp; omega
    have HLEN := Lib.hid hlen; clear hlen
    go_enter Tryd.func23, Tryd.ntmps23
    go_wp2
    clear dl
    go_loopw [5] (fun v5 wr => ∃ k : Nat, v5 = .int .i64 k ∧ k ≤ l.length ∧ Hid (decide (l = m) = decide (l.drop k = m.drop k)) ∧ Hid (Below w.heap.size w wr))
      (fun v5 _ => l.length - (intOf v5).toNat)
    case atStart => exact ⟨0, rfl, Nat.zero_le _, Lib.hid (by simp), Lib.hid (Below.refl _ _)⟩
    case round =>
      obtain ⟨k, rfl, hk, HI, HB⟩ := hrel
      by_cases hlt : k < l.length
      · have hlm : k < m.length := by have := HLEN.out; omega
        obtain ⟨aa, rfl, haa, _⟩ := SA.out.at hlt
        obtain ⟨ab, rfl, hab, _⟩ := SB.out.at hlm
        have hse : ∀ z : Kit.Wd wr, Tp.Sl z.val (some aa) l.length 3 (Ap.c3c l) := fun z => SA.out.kept (HB.out.trans (z.below.mono HB.out.size)) (Nat.le_refl _)
        have e0 := fun z => (hse z).head hlt (by omega)
        have e1 := fun z => (hse z).field hlt (j := 1) (by omega) (by omega)
        have e2 := fun z => (hse z).field hlt (j := 2) (by omega) (by omega)
        clear hse
        have hsi : ∀ z : Kit.Wd wr, Tp.Sl z.val (some ab) m.length 3 (Ap.c3c m) := fun z => SB.out.kept (HB.out.trans (z.below.mono HB.out.size)) (Nat.le_refl _)
        have i0 := fun z => (hsi z).head hlm (by omega)
        have i1 := fun z => (hsi z).field hlm (j := 1) (by omega) (by omega)
        have i2 := fun z => (hsi z).field hlm (j := 2) (by omega) (by omega)
        clear hsi
        have hd1 := Tp.drop_cons l (0, 0, 0) k hlt
        have hd2 := Tp.drop_cons m (0, 0, 0) k hlm
        generalize hx : l.getD k (0, 0, 0) = x at hd1
        generalize hy : m.getD k (0, 0, 0) = y at hd2
        obtain ⟨x1, x2, x3⟩ := x
        obtain ⟨y1, y2, y3⟩ := y
        simp only [Ap.c3c, hx, hy, if_true, if_false, Nat.one_ne_zero] at e0 e1 e2 i0 i1 i2
        have hI : decide (l = m) = (decide ((x1, x2, x3) = (y1, y2, y3)) && decide (l.drop (k + 1) = m.drop (k + 1))) := by rw [HI.out, hd1, hd2, Rf.dec_cons]
        have HI2 := Lib.hid hI
        clear hI hd1 hd2 hx hy HI
        rcases c0 : (x1 == y1) with _ | _
        · have b0 : (x1 != y1) = true := by simpa using c0
          have HR := Lib.hid (show decide (l = m) = false by
            have c0x : ¬ x1 = y1 := by simpa using c0
            rw [HI2.out]; simp [c0x])
          clear HI2
          go_wp2
          (refine Kit.wp_region_cls (by kernel_rfl) (by kernel_rfl) ?_; (repeat (go_big_quiet_step (fail))); refine wpQuiet_nil ?_; intro z)
          have HZ := Lib.hid (HB.out.trans (z.below.mono HB.out.size))
          generalize z.val = Z at *
          clear e0 e1 e2 i0 i1 i2
          go_wp2
          go_ret
          exact ⟨by rw [HR.out]; rfl, HZ.out⟩
        · have b0 : (x1 != y1) = false := by simpa using c0
          rcases c1 : (x2 == y2) with _ | _
          · have b1 : (x2 != y2) = true := by simpa using c1
            have HR := Lib.hid (show decide (l = m) = false by
              have c1x : ¬ x2 = y2 := by simpa using c1
              rw [HI2.out]; simp [c1x])
            clear HI2
            go_wp2
            (refine Kit.wp_region_cls (by kernel_rfl) (by kernel_rfl) ?_; (repeat (go_big_quiet_step (fail))); refine wpQuiet_nil ?_; intro z)
            have HZ := Lib.hid (HB.out.trans (z.below.mono HB.out.size))
            generalize z.val = Z at *
            clear e0 e1 e2 i0 i1 i2
            go_wp2
            go_ret
            exact ⟨by rw [HR.out]; rfl, HZ.out⟩
          · have b1 : (x2 != y2) = false := by simpa using c1
            rcases c2 : (x3 == y3) with _ | _
            · have b2 : (x3 != y3) = true := by simpa using c2
              have HR := Lib.hid (show decide (l = m) = false by
                have c2x : ¬ x3 = y3 := by simpa using c2
                rw [HI2.out]; simp [c2x])
              clear HI2
              go_wp2
              (refine Kit.wp_region_cls (by kernel_rfl) (by kernel_rfl) ?_; (repeat (go_big_quiet_step (fail))); refine wpQuiet_nil ?_; intro z)
              have HZ := Lib.hid (HB.out.trans (z.below.mono HB.out.size))
              generalize z.val = Z at *
              clear e0 e1 e2 i0 i1 i2
              go_wp2
              go_ret
              exact ⟨by rw [HR.out]; rfl, HZ.out⟩
            · have b2 : (x3 != y3) = false := by simpa using c2
              have HR := Lib.hid (show decide (l = m) = decide (l.drop (k + 1) = m.drop (k + 1)) by
                have c0x : x1 = y1 := by simpa using c0
                have c1x : x2 = y2 := by simpa using c1
                have c2x : x3 = y3 := by simpa using c2
                rw [HI2.out]; simp [c0x, c1x, c2x])
              clear HI2
              go_wp2
              (refine Kit.wp_region_cls (by kernel_rfl) (by kernel_rfl) ?_; (repeat (go_big_quiet_step (fail))); refine wpQuiet_nil ?_; intro z)
              have HZ := Lib.hid (HB.out.trans (z.below.mono HB.out.size))
              generalize z.val = Z at *
              clear e0 e1 e2 i0 i1 i2
              go_wp2
              go_roundw
              case rel => exact ⟨k + 1, by go_num, by omega, HR, HZ⟩
              case measure => simp [intOf]; omega
      · have HR := Lib.hid (show decide (l = m) = true by have := HLEN.out; rw [HI.out, List.drop_of_length_le (by omega), List.drop_of_length_le (by omega)]; simp)
        clear HI
        go_wp2
        go_ret
        exact ⟨by rw [HR.out]; rfl, HB.out⟩
  · have dl : ((l.length : Int) != (m.length : Int)) = true := by simp; omega
    have HR := Lib.hid (show decide (l = m) = false by have : ¬ l = m := (fun h => hlen (by rw [h])); simp [this])
    clear hlen
    go_enter Tryd.func23, Tryd.ntmps23
    go_wp2
    go_ret
    exact ⟨by rw [HR.out]; rfl, Below.refl _ _⟩

set_option maxRecDepth 100000 in
set_option maxHeartbeats 2000000 in
theorem rf_sameints (aA : Option Addr) (l : List (Int)) (cA : Nat) (aB : Option Addr) (m : List (Int)) (cB : Nat) (w : World) (lA : l.length ≤ 4611686018427387904) (lB : m.length ≤ 4611686018427387904)
    (sA : Tp.Sl w aA l.length 1 (Rf.intc l)) (sB : Tp.Sl w aB m.length 1 (Rf.intc m)) :
    Calls Tryd.prog 20 #[.slice aA l.length cA, .slice aB m.length cB] w fun e w' => e = .returned (.bool (decide (l = m))) ∧ Below w.heap.size w w' := by
  have SA := Lib.hid sA; clear sA
  have SB := Lib.hid sB; clear sB
  by_cases hlen : l.length = m.length
  · have dl : ((l.length : Int) != (m.length : Int)) = false := by simp; omega
    have HLEN := Lib.hid hlen; clear hlen
    go_enter Tryd.func20, Tryd.ntmps20
    go_wp2
    clear dl
    go_loopw [5] (fun v5 wr => ∃ k : Nat, v5 = .int .i64 k ∧ k ≤ l.length ∧ Hid (decide (l = m) = decide (l.drop k = m.drop k)) ∧ Hid (Below w.heap.size w wr))
      (fun v5 _ => l.length - (intOf v5).toNat)
    case atStart => exact ⟨0, rfl, Nat.zero_le _, Lib.hid (by simp), Lib.hid (Below.refl _ _)⟩
    case round =>
      obtain ⟨k, rfl, hk, HI, HB⟩ := hrel
      by_cases hlt : k < l.length
      · have hlm : k < m.length := by have := HLEN.out; omega
        obtain ⟨aa, rfl, haa, _⟩ := SA.out.at hlt
        obtain ⟨ab, rfl, hab, _⟩ := SB.out.at hlm
        have hse : ∀ z : Kit.Wd wr, Tp.Sl z.val (some aa) l.length 1 (Rf.intc l) := fun z => SA.out.kept (HB.out.trans (z.below.mono HB.out.size)) (Nat.le_refl _)
        have e0 : ∀ z : Kit.Wd wr, z.val.cell? (aa.add k) = some (Rf.intc l k 0) := fun z => by simpa using (hse z).head hlt (by omega)
        clear hse
        have hsi : ∀ z : Kit.Wd wr, Tp.Sl z.val (some ab) m.length 1 (Rf.intc m) := fun z => SB.out.kept (HB.out.trans (z.below.mono HB.out.size)) (Nat.le_refl _)
        have i0 : ∀ z : Kit.Wd wr, z.val.cell? (ab.add k) = some (Rf.intc m k 0) := fun z => by simpa using (hsi z).head hlm (by omega)
        clear hsi
        have hd1 := Tp.drop_cons l 0 k hlt
        have hd2 := Tp.drop_cons m 0 k hlm
        generalize hx : l.getD k 0 = x at hd1
        generalize hy : m.getD k 0 = y at hd2
        obtain ⟨x1, rfl⟩ : ∃ x1, x1 = x := ⟨_, rfl⟩
        obtain ⟨y1, rfl⟩ : ∃ y1, y1 = y := ⟨_, rfl⟩
        simp only [Rf.intc, hx, hy, if_true, if_false, Nat.one_ne_zero] at e0 i0
        have hI : decide (l = m) = (decide ((x1) = (y1)) && decide (l.drop (k + 1) = m.drop (k + 1))) := by rw [HI.out, hd1, hd2, Rf.dec_cons]
        have HI2 := Lib.hid hI
        clear hI hd1 hd2 hx hy HI
        rcases c0 : (x1 == y1) with _ | _
        · have b0 : (x1 != y1) = true := by simpa using c0
          have HR := Lib.hid (show decide (l = m) = false by
            have c0x : ¬ x1 = y1 := by simpa using c0
            rw [HI2.out]; simp [c0x])
          clear HI2
          go_wp2
          (refine Kit.wp_region_cls (by kernel_rfl) (by kernel_rfl) ?_; (repeat (go_big_quiet_step (fail))); refine wpQuiet_nil ?_; intro z)
          have HZ := Lib.hid (HB.out.trans (z.below.mono HB.out.size))
          generalize z.val = Z at *
          clear e0 i0
          go_wp2
          go_ret
          exact ⟨by rw [HR.out]; rfl, HZ.out⟩
        · have b0 : (x1 != y1) = false := by simpa using c0
          have HR := Lib.hid (show decide (l = m) = decide (l.drop (k + 1) = m.drop (k + 1)) by
            have c0x : x1 = y1 := by simpa using c0
            rw [HI2.out]; simp [c0x])
          clear HI2
          go_wp2
          (refine Kit.wp_region_cls (by kernel_rfl) (by kernel_rfl) ?_; (repeat (go_big_quiet_step (fail))); refine wpQuiet_nil ?_; intro z)
          have HZ := Lib.hid (HB.out.trans (z.below.mono HB.out.size))
          generalize z.val = Z at *
          clear e0 i0
          go_wp2
          go_roundw
          case rel => exact ⟨k + 1, by go_num, by omega, HR, HZ⟩
          case measure => simp [intOf]; omega
      · have HR := Lib.hid (show decide (l = m) = true by have := HLEN.out; rw [HI.out, List.drop_of_length_le (by omega), List.drop_of_length_le (by omega)]; simp)
        clear HI
        go_wp2
        go_ret
        exact ⟨by rw [HR.out]; rfl, HB.out⟩
  · have dl : ((l.length : Int) != (m.length : Int)) = true := by simp; omega
    have HR := Lib.hid (show decide (l = m) = false by have : ¬ l = m := (fun h => hlen (by rw [h])); simp [this])
    clear hlen
    go_enter Tryd.func20, Tryd.ntmps20
    go_wp2
    go_ret
    exact ⟨by rw [HR.out]; rfl, Below.refl _ _⟩

set_option maxRecDepth 100000 in
set_option maxHeartbeats 1000000 in
theorem rf_has (aA : Option Addr) (P : List (Int × Int)) (cA : Nat) (a b : Int) (w : World) (lA : P.length ≤ 4611686018427387904) (sA : Tp.Sl w aA P.length 2 (Ap.prc P)) :
    Calls Tryd.prog 26 #[.slice aA P.length cA, .int .i64 a, .int .i64 b] w fun e w' => e = .returned (.bool (Ap.has P a b)) ∧ Below w.heap.size w w' := by
  have SA := Lib.hid sA; clear sA
  have heq := Rf.eq_pair
  go_enter Tryd.func26, Tryd.ntmps26
  go_wp2
  go_loopw [7] (fun v7 wr => ∃ k : Nat, v7 = .int .i64 k ∧ k ≤ P.length ∧ Hid (Ap.has P a b = Ap.has (P.drop k) a b) ∧ Hid (Below w.heap.size w wr))
    (fun v7 _ => P.length - (intOf v7).toNat)
  case atStart => exact ⟨0, rfl, Nat.zero_le _, Lib.hid (by simp), Lib.hid (Below.refl _ _)⟩
  case round =>
    obtain ⟨k, rfl, hk, HI, HB⟩ := hrel
    by_cases hlt : k < P.length
    · obtain ⟨ad, rfl, had, _⟩ := SA.out.at hlt
      have HSl := SA.out.kept HB.out (Nat.le_refl _)
      have e0 := HSl.head hlt (by omega)
      have e1 := HSl.field hlt (j := 1) (by omega) (by omega)
      clear HSl
      have hdrop := Tp.drop_cons P (0, 0) k hlt
      generalize hx : P.getD k (0, 0) = x at hdrop
      obtain ⟨x1, x2⟩ := x
      simp only [Ap.prc, hx, if_true, if_false, Nat.one_ne_zero] at e0 e1
      have hI : Ap.has P a b = (decide ((a, b) = (x1, x2)) || Ap.has (P.drop (k + 1)) a b) := by
        rw [HI.out, hdrop]
        simp [Ap.has]
      have HI2 := Lib.hid hI
      clear hI hdrop hx HI
      rcases c1 : (x1 == a) with _ | _
      · have HR := Lib.hid (show Ap.has P a b = Ap.has (P.drop (k + 1)) a b by
          have c1' : ¬ a = x1 := fun h => by simp [h] at c1
          rw [HI2.out]; simp [c1'])
        clear HI2
        go_wp2
        go_roundw
        case rel => exact ⟨k + 1, by go_num, by omega, HR, Lib.hid (by have := HB.out; (repeat' first | (with_reducible first | exact Below.refl _ _ | assumption | refine Kit.below_drewN ?_ _ | refine Below.drew ?_ | refine Below.alloc ?_ ?_ _ | refine Below.setCell ?_ ?_ _ | exact Nat.le_refl _) | omega | (simp; omega) | (simp; done) | (apply Below.size; assumption)))⟩
        case measure => simp [intOf]; omega
      · rcases c2 : (x2 == b) with _ | _
        · have HR := Lib.hid (show Ap.has P a b = Ap.has (P.drop (k + 1)) a b by
            have c2' : ¬ b = x2 := fun h => by simp [h] at c2
            rw [HI2.out]; simp [c2'])
          clear HI2
          go_wp2
          go_roundw
          case rel => exact ⟨k + 1, by go_num, by omega, HR, Lib.hid (by have := HB.out; (repeat' first | (with_reducible first | exact Below.refl _ _ | assumption | refine Kit.below_drewN ?_ _ | refine Below.drew ?_ | refine Below.alloc ?_ ?_ _ | refine Below.setCell ?_ ?_ _ | exact Nat.le_refl _) | omega | (simp; omega) | (simp; done) | (apply Below.size; assumption)))⟩
          case measure => simp [intOf]; omega
        · have HR := Lib.hid (show Ap.has P a b = true by
            have c1' : x1 = a := by simpa using c1
            have c2' : x2 = b := by simpa using c2
            rw [HI2.out]; simp [c1', c2'])
          clear HI2
          go_wp2
          go_ret
          exact ⟨by rw [HR.out]; rfl, by have := HB.out; (repeat' first | (with_reducible first | exact Below.refl _ _ | assumption | refine Kit.below_drewN ?_ _ | refine Below.drew ?_ | refine Below.alloc ?_ ?_ _ | refine Below.setCell ?_ ?_ _ | exact Nat.le_refl _) | omega | (simp; omega) | (simp; done) | (apply Below.size; assumption))⟩
    · have HR := Lib.hid (show Ap.has P a b = false by rw [HI.out, List.drop_of_length_le (by omega)]; simp [Ap.has])
      clear HI
      go_wp2
      go_ret
      exact ⟨by rw [HR.out]; rfl, by have := HB.out; (repeat' first | (with_reducible first | exact Below.refl _ _ | assumption | refine Kit.below_drewN ?_ _ | refine Below.drew ?_ | refine Below.alloc ?_ ?_ _ | refine Below.setCell ?_ ?_ _ | exact Nat.le_refl _) | omega | (simp; omega) | (simp; done) | (apply Below.size; assumption))⟩
end Go.Proofs.YtjoieglhmladhaaDoor
