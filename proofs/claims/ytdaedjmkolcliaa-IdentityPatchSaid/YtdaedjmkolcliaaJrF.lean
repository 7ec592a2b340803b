/- Walks: the reference of layer 41: Pair; of layer 45: near, Near. -/
import Derived.Test.YtdaedjmkolcliaaJrE
import Derived.Test.YtdaedjmkolcliaaIdN
namespace Go.Proofs.Ytdaedjmkolcliaa
set_option linter.unusedVariables false
set_option linter.unusedSimpArgs false
open Go.RowKit Go.Shelf

namespace Id
theorem Ct.kept {a b : List Int} {C : Nat} {R : Nat → Nat} {vs : List Value} {i : Nat} {w w' : World} (h : Ct a b C R vs i w) (hb : Below w.heap.size w w') : Ct a b C R vs i w' :=
  ⟨(hb.block C (Array.getElem?_eq_some_iff.1 h.head).1).trans h.head, h.len, h.val, fun i' h1 h2 => ⟨(h.row i' h1 h2).1, (h.row i' h1 h2).2.kept (hb.block _ (h.row i' h1 h2).2.lt)⟩⟩
theorem elP : Kit.El Try.prog 55 92 (.agg #[.int .i64 0, .int .i64 0]) 2 16 := ⟨Try.underlying55, by kernel_rfl, rfl, by omega, by omega⟩
end Id
set_option maxRecDepth 100000 in
set_option maxHeartbeats 8000000 in
theorem ry_pair (a b : List Int) (aA : Option Addr) (cA : Nat) (aB : Option Addr) (cB : Nat) (w : World) (sa : Tp.Sl w aA a.length 1 (Id.ic a)) (sb : Tp.Sl w aB b.length 1 (Id.ic b)) (la : a.length ≤ 64) (lb : b.length ≤ 64) (ha : Id.Cod a) (hb : Id.Cod b) :
    Calls Try.prog 65 #[.slice aA a.length cA, .slice aB b.length cB] w fun e w' => (∃ p, e = .returned (.tuple #[.int .i64 (Id.cst a b), p, .int .i64 0])) ∧ Below w.heap.size w w' := by
  have SA := Lib.hid sa
  have SB := Lib.hid sb
  have HA := Lib.hid (fun W s => ry_all aA a cA W s la ha)
  have HB := Lib.hid (fun W s => ry_all aB b cB W s lb hb)
  clear sa sb ha hb
  have k1 : decide ((64 : Int) < (a.length : Int)) = false := by simp; omega
  have k2 : decide (64 < a.length) = false := by simp; omega
  have k3 : decide ((64 : Int) < (b.length : Int)) = false := by simp; omega
  have k4 : decide (64 < b.length) = false := by simp; omega
  go_enter Try.func65, Try.ntmps65
  go_wp2_with fail
  refine (HA.out _ SA.out).mono ?_
  rintro _ w1 ⟨rfl, hb1⟩
  have HB1 := Lib.hid hb1
  clear hb1
  go_wp2_with fail
  refine (HB.out _ (SB.out.kept HB1.out (Nat.le_refl _))).mono ?_
  rintro _ w2 ⟨rfl, hb2⟩
  have HB2 := Lib.hid (HB1.out.trans (hb2.mono HB1.out.size))
  clear hb2
  go_wp2_with fail
  refine (ry_rest a b aA cA aB cB _ (SA.out.kept HB2.out (Nat.le_refl _)) (SB.out.kept HB2.out (Nat.le_refl _)) la lb).mono ?_
  rintro _ w3 ⟨hb3, C, R, vs, rfl, hk3⟩
  have HB3 := Lib.hid (HB2.out.trans (hb3.mono HB2.out.size))
  have HK := Lib.hid hk3
  clear hb3 hk3
  go_wp2_with fail
  go_loopw [8, 9, 10] (fun v8 v9 v10 wx => ∃ (i k n : Nat) (xs : List Value), v9 = .int .i64 i ∧ v10 = .int .i64 k ∧ i ≤ a.length ∧ k ≤ b.length ∧ n ≤ 1000 ∧ n + (a.length - i) + (b.length - k) ≤ 200 ∧ Hid (Kit.Gw w3 92 2 v8 n xs wx))
    (fun _ v9 v10 _ => (a.length - (intOf v9).toNat) + (b.length - (intOf v10).toNat))
  case atStart => exact ⟨0, 0, 0, [], rfl, rfl, Nat.zero_le _, Nat.zero_le _, by omega, by omega, Kit.Gw.start _ _ _⟩
  case round =>
    obtain ⟨i, k, n, xs, rfl, rfl, hi, hk, hn, hnn, HO⟩ := hrel
    rename World => wx
    obtain ⟨aP, cP, rfl⟩ := HO.out.shape
    have HKX := Lib.hid (HK.out.kept HO.out.bel)
    have HBX := Lib.hid (HB3.out.trans (HO.out.bel.mono HB3.out.size))
    by_cases hin : i < a.length
    · have i1 : decide ((i : Int) < (a.length : Int)) = true := by simp; omega
      have i2 : decide (i < a.length) = true := by simp; omega
      obtain ⟨n0, n0'⟩ := HKX.out.row i (Nat.zero_le _) hi
      obtain ⟨n1, n1'⟩ := HKX.out.row (i + 1) (Nat.zero_le _) hin
      have hCx : C < wx.heap.size := (Array.getElem?_eq_some_iff.1 HKX.out.head).1
      have g0 := fun z : Kit.Wd wx => (z.below.cell hCx).trans (HKX.out.cell (j := i) (Nat.zero_le _) hi)
      have g1 := fun z : Kit.Wd wx => (z.below.cell hCx).trans (HKX.out.cell (j := i + 1) (Nat.zero_le _) hin)
      have g2 := fun z : Kit.Wd wx => (z.below.cell n0'.lt).trans (n0'.cell (k := k) (by omega))
      have g3 := fun z : Kit.Wd wx => (z.below.cell n1'.lt).trans (n1'.cell (k := k) (by omega))
      have b1 := Id.cst_nonneg (a.drop i) (b.drop k)
      have b1' := Id.cst_le (a.drop i) (b.drop k)
      have b2 := Id.cst_nonneg (a.drop (i + 1)) (b.drop k)
      have b2' := Id.cst_le (a.drop (i + 1)) (b.drop k)
      simp only [List.length_drop] at b1' b2'
      by_cases hkm : k < b.length
      · have j1 : decide ((k : Int) < (b.length : Int)) = true := by simp; omega
        have j2 : decide (k < b.length) = true := by simp; omega
        obtain ⟨ada, rfl, hada, _⟩ := SA.out.at hin
        obtain ⟨adb, rfl, hadb, _⟩ := SB.out.at hkm
        have g4 := fun z : Kit.Wd wx => (z.below.cell n1'.lt).trans (n1'.cell (k := k + 1) (by omega))
        have g7 : ∀ z : Kit.Wd wx, z.val.cell? (ada.add i) = some (.int .i64 (a.getD i 0)) := fun z => by
          have h := (SA.out.kept (HBX.out.trans (z.below.mono HBX.out.size)) (Nat.le_refl _)).head hin (by omega)
          rw [Nat.mul_one] at h; exact h
        have g8 : ∀ z : Kit.Wd wx, z.val.cell? (adb.add k) = some (.int .i64 (b.getD k 0)) := fun z => by
          have h := (SB.out.kept (HBX.out.trans (z.below.mono HBX.out.size)) (Nat.le_refl _)).head hkm (by omega)
          rw [Nat.mul_one] at h; exact h
        have b0 : 0 ≤ Id.bes (a.getD i 0) (b.getD k 0) ∧ Id.bes (a.getD i 0) (b.getD k 0) ≤ 3 := by unfold Id.bes; split <;> omega
        have b3 := Id.cst_nonneg (a.drop (i + 1)) (b.drop (k + 1))
        have b3' := Id.cst_le (a.drop (i + 1)) (b.drop (k + 1))
        simp only [List.length_drop] at b3'
        have HBS := Lib.hid (fun W => ry_besideB (a.getD i 0) (b.getD k 0) W)
        generalize Id.bes (a.getD i 0) (b.getD k 0) = vb at b0 HBS
        generalize a.getD i 0 = va at g7 HBS
        generalize b.getD k 0 = vc at g8 HBS
        generalize Id.cst (a.drop i) (b.drop k) = V at b1 b1' g2
        generalize Id.cst (a.drop (i + 1)) (b.drop k) = X2 at b2 b2' g3
        generalize Id.cst (a.drop (i + 1)) (b.drop (k + 1)) = X1 at b3 b3' g4
        clear n0' n1'
        by_cases hV : V = vb + X1
        · subst hV
          go_wp2_with fail
          (refine Kit.wp_region_cls (by kernel_rfl) (by kernel_rfl) ?_; (repeat (go_big_quiet_step (exact Kit.calls_cls _ (HBS.out _)))); refine wpQuiet_nil ?_; intro z)
          have HO1 := Lib.hid (HO.out.thn z.below)
          clear g0 g1 g2 g3 g4 g7 g8
          go_wp2_with (at_builtin; refine Kit.wpList_app Id.elP _ rfl _ _ rfl _ _ _ (HO1.out.alloc _) rfl (by omega) ⟨z.val.heap.size, 0, none⟩ 1 [.int .i64 (i + 1), .int .i64 (k + 1)] rfl rfl (fun j u hu => Kit.lit_at _ _ _ rfl j u hu) (by simp [Value.oneCell']) ?_; intro v' w5 ho hg; have HO3 := Lib.hid ho; clear ho hg)
          go_roundw
          case rel => exact ⟨i + 1, k + 1, n + 1, _, by go_num, by go_num, by omega, by omega, by omega, by omega, HO3.out⟩
          case measure => simp [intOf]; omega
        · have q1 : (V == vb + X1) = false := by simpa using hV
          clear hV
          by_cases hV2 : V = 2 + X2
          · go_wp2_with fail
            (refine Kit.wp_region_cls (by kernel_rfl) (by kernel_rfl) ?_; (repeat (go_big_quiet_step (exact Kit.calls_cls _ (HBS.out _)))); refine wpQuiet_nil ?_; intro z)
            have HO1 := Lib.hid (HO.out.thn z.below)
            have up0 : ∀ y : Kit.Wd z.val, y.val.cell? ⟨C, i, none⟩ = some (.slice (some ⟨R i, 0, none⟩) (b.length + 1) (b.length + 1)) := fun y => g0 ⟨y.val, z.below.trans (y.below.mono z.below.size)⟩
            have up1 : ∀ y : Kit.Wd z.val, y.val.cell? ⟨C, i + 1, none⟩ = some (.slice (some ⟨R (i + 1), 0, none⟩) (b.length + 1) (b.length + 1)) := fun y => g1 ⟨y.val, z.below.trans (y.below.mono z.below.size)⟩
            have up2 : ∀ y : Kit.Wd z.val, y.val.cell? ⟨R i, k, none⟩ = some (.int .i64 V) := fun y => g2 ⟨y.val, z.below.trans (y.below.mono z.below.size)⟩
            have up3 : ∀ y : Kit.Wd z.val, y.val.cell? ⟨R (i + 1), k, none⟩ = some (.int .i64 X2) := fun y => g3 ⟨y.val, z.below.trans (y.below.mono z.below.size)⟩
            clear g0 g1 g2 g3 g4 g7 g8
            subst hV2
            go_wp2_with fail
            (refine Kit.wp_region_cls (by kernel_rfl) (by kernel_rfl) ?_; (repeat (go_big_quiet_step (fail))); refine wpQuiet_nil ?_; intro y)
            have HO2 := Lib.hid (HO1.out.thn y.below)
            clear up0 up1 up2 up3
            go_wp2_with (at_builtin; refine Kit.wpList_app Id.elP _ rfl _ _ rfl _ _ _ (HO2.out.alloc _) rfl (by omega) ⟨y.val.heap.size, 0, none⟩ 1 [.int .i64 (i + 1), .int .i64 0] rfl rfl (fun j u hu => Kit.lit_at _ _ _ rfl j u hu) (by simp [Value.oneCell']) ?_; intro v' w5 ho hg; have HO3 := Lib.hid ho; clear ho hg)
            go_roundw
            case rel => exact ⟨i + 1, k, n + 1, _, by go_num, rfl, by omega, by omega, by omega, by omega, HO3.out⟩
            case measure => simp [intOf]; omega
          · have q2 : (V == 2 + X2) = false := by simpa using hV2
            clear hV2
            go_wp2_with fail
            (refine Kit.wp_region_cls (by kernel_rfl) (by kernel_rfl) ?_; (repeat (go_big_quiet_step (exact Kit.calls_cls _ (HBS.out _)))); refine wpQuiet_nil ?_; intro z)
            have HO1 := Lib.hid (HO.out.thn z.below)
            have up0 : ∀ y : Kit.Wd z.val, y.val.cell? ⟨C, i, none⟩ = some (.slice (some ⟨R i, 0, none⟩) (b.length + 1) (b.length + 1)) := fun y => g0 ⟨y.val, z.below.trans (y.below.mono z.below.size)⟩
            have up1 : ∀ y : Kit.Wd z.val, y.val.cell? ⟨C, i + 1, none⟩ = some (.slice (some ⟨R (i + 1), 0, none⟩) (b.length + 1) (b.length + 1)) := fun y => g1 ⟨y.val, z.below.trans (y.below.mono z.below.size)⟩
            have up2 : ∀ y : Kit.Wd z.val, y.val.cell? ⟨R i, k, none⟩ = some (.int .i64 V) := fun y => g2 ⟨y.val, z.below.trans (y.below.mono z.below.size)⟩
            have up3 : ∀ y : Kit.Wd z.val, y.val.cell? ⟨R (i + 1), k, none⟩ = some (.int .i64 X2) := fun y => g3 ⟨y.val, z.below.trans (y.below.mono z.below.size)⟩
            clear g0 g1 g2 g3 g4 g7 g8
            go_wp2_with fail
            (refine Kit.wp_region_cls (by kernel_rfl) (by kernel_rfl) ?_; (repeat (go_big_quiet_step (fail))); refine wpQuiet_nil ?_; intro y)
            have HO2 := Lib.hid (HO1.out.thn y.below)
            clear up0 up1 up2 up3
            go_wp2_with (at_builtin; refine Kit.wpList_app Id.elP _ rfl _ _ rfl _ _ _ (HO2.out.alloc _) rfl (by omega) ⟨y.val.heap.size, 0, none⟩ 1 [.int .i64 0, .int .i64 (k + 1)] rfl rfl (fun j u hu => Kit.lit_at _ _ _ rfl j u hu) (by simp [Value.oneCell']) ?_; intro v' w5 ho hg; have HO3 := Lib.hid ho; clear ho hg)
            go_roundw
            case rel => exact ⟨i, k + 1, n + 1, _, rfl, by go_num, by omega, by omega, by omega, by omega, HO3.out⟩
            case measure => simp [intOf]; omega
      · obtain rfl : k = b.length := by omega
        have hV : Id.cst (a.drop i) (b.drop b.length) = 2 + Id.cst (a.drop (i + 1)) (b.drop b.length) := by
          rw [List.drop_length, Id.cst_nil', Id.cst_nil', List.length_drop, List.length_drop]; omega
        rw [hV] at g2
        clear hV b1 b1'
        generalize Id.cst (a.drop (i + 1)) (b.drop b.length) = X2 at b2 b2' g2 g3
        clear n0' n1'
        go_wp2_with fail
        (refine Kit.wp_region_cls (by kernel_rfl) (by kernel_rfl) ?_; (repeat (go_big_quiet_step (fail))); refine wpQuiet_nil ?_; intro z)
        have HO1 := Lib.hid (HO.out.thn z.below)
        have up0 : ∀ y : Kit.Wd z.val, y.val.cell? ⟨C, i, none⟩ = some (.slice (some ⟨R i, 0, none⟩) (b.length + 1) (b.length + 1)) := fun y => g0 ⟨y.val, z.below.trans (y.below.mono z.below.size)⟩
        have up1 : ∀ y : Kit.Wd z.val, y.val.cell? ⟨C, i + 1, none⟩ = some (.slice (some ⟨R (i + 1), 0, none⟩) (b.length + 1) (b.length + 1)) := fun y => g1 ⟨y.val, z.below.trans (y.below.mono z.below.size)⟩
        have up2 : ∀ y : Kit.Wd z.val, y.val.cell? ⟨R i, b.length, none⟩ = some (.int .i64 (2 + X2)) := fun y => g2 ⟨y.val, z.below.trans (y.below.mono z.below.size)⟩
        have up3 : ∀ y : Kit.Wd z.val, y.val.cell? ⟨R (i + 1), b.length, none⟩ = some (.int .i64 X2) := fun y => g3 ⟨y.val, z.below.trans (y.below.mono z.below.size)⟩
        clear g0 g1 g2 g3
        go_wp2_with fail
        (refine Kit.wp_region_cls (by kernel_rfl) (by kernel_rfl) ?_; (repeat (go_big_quiet_step (fail))); refine wpQuiet_nil ?_; intro y)
        have HO2 := Lib.hid (HO1.out.thn y.below)
        clear up0 up1 up2 up3
        go_wp2_with (at_builtin; refine Kit.wpList_app Id.elP _ rfl _ _ rfl _ _ _ (HO2.out.alloc _) rfl (by omega) ⟨y.val.heap.size, 0, none⟩ 1 [.int .i64 (i + 1), .int .i64 0] rfl rfl (fun j u hu => Kit.lit_at _ _ _ rfl j u hu) (by simp [Value.oneCell']) ?_; intro v' w5 ho hg; have HO3 := Lib.hid ho; clear ho hg)
        go_roundw
        case rel => exact ⟨i + 1, b.length, n + 1, _, by go_num, rfl, by omega, by omega, by omega, by omega, HO3.out⟩
        case measure => simp [intOf]; omega
    · obtain rfl : i = a.length := by omega
      by_cases hkm : k < b.length
      · have j1 : decide ((k : Int) < (b.length : Int)) = true := by simp; omega
        have j2 : decide (k < b.length) = true := by simp; omega
        go_wp2_with fail
        (refine Kit.wp_region_cls (by kernel_rfl) (by kernel_rfl) ?_; (repeat (go_big_quiet_step (fail))); refine wpQuiet_nil ?_; intro z)
        have HO1 := Lib.hid (HO.out.thn z.below)
        go_wp2_with fail
        (refine Kit.wp_region_cls (by kernel_rfl) (by kernel_rfl) ?_; (repeat (go_big_quiet_step (fail))); refine wpQuiet_nil ?_; intro y)
        have HO2 := Lib.hid (HO1.out.thn y.below)
        go_wp2_with (at_builtin; refine Kit.wpList_app Id.elP _ rfl _ _ rfl _ _ _ (HO2.out.alloc _) rfl (by omega) ⟨y.val.heap.size, 0, none⟩ 1 [.int .i64 0, .int .i64 (k + 1)] rfl rfl (fun j u hu => Kit.lit_at _ _ _ rfl j u hu) (by simp [Value.oneCell']) ?_; intro v' w5 ho hg; have HO3 := Lib.hid ho; clear ho hg)
        go_roundw
        case rel => exact ⟨a.length, k + 1, n + 1, _, rfl, by go_num, by omega, by omega, by omega, by omega, HO3.out⟩
        case measure => simp [intOf]; omega
      · obtain rfl : k = b.length := by omega
        have g0 : wx.cell? ⟨C, 0, none⟩ = some (.slice (some ⟨R 0, 0, none⟩) (b.length + 1) (b.length + 1)) := HKX.out.cell (j := 0) (Nat.zero_le _) (Nat.zero_le _)
        have g2 : wx.cell? ⟨R 0, 0, none⟩ = some (.int .i64 (Id.cst a b)) := by
          have h := (HKX.out.row 0 (Nat.le_refl _) (Nat.zero_le _)).2.cell (k := 0) (by omega)
          simpa using h
        go_wp2
        go_ret3
        exact ⟨⟨.slice aP n cP, rfl⟩, HBX.out⟩
end Go.Proofs.Ytdaedjmkolcliaa
