/- Walks: package collate: Pair. -/
import Derived.Test.YtdaedjmkolcliaaIdG
import Derived.Test.YtdaedjmkolcliaaIdL
import Derived.Deep.CutRange
import Derived.OwnWalk
import Derived.Laws.EntriesVeiled
import Derived.Test.YtdaedjmkolcliaaKit
namespace Go.Proofs.Ytdaedjmkolcliaa
set_option linter.unusedVariables false
set_option linter.unusedSimpArgs false
open Go.RowKit Go.Shelf

theorem Id.info92 : (Try.prog.info? 92).map (fun i => (i.zero, i.size, i.bytes)) = some (some (.agg #[.int .i64 0, .int .i64 0]), 2, 16) := by kernel_rfl
set_option maxRecDepth 100000 in
set_option maxHeartbeats 4000000 in
theorem co_pair (a b : List Int) (aA : Option Addr) (cA : Nat) (aB : Option Addr) (cB : Nat) (w : World) (sa : Tp.Sl w aA a.length 1 (Id.ic a)) (sb : Tp.Sl w aB b.length 1 (Id.ic b)) (la : a.length ≤ 64) (lb : b.length ≤ 64) (ha : Id.Cod a) (hb : Id.Cod b) :
    Calls Try.prog 27 #[.slice aA a.length cA, .slice aB b.length cB] w fun e w' => (∃ p, e = .returned (.tuple #[.int .i64 (Id.cst a b), p, .int .i64 0])) ∧ Below w.heap.size w w' := by
  have hs : ∀ c, (c ∈ a ∨ c ∈ b) → ∀ W, Calls Try.prog 51 #[.int .i64 c] W fun e w' => (∃ s' : Id.Sg, e = .returned (.tuple #[Id.sgV s', .int .i64 0])) ∧ Below W.heap.size W w' := by
    intro c hc W
    rcases hc with h | h
    · obtain ⟨s, hi, rfl⟩ := ha c h
      exact co_sign s W hi
    · obtain ⟨s, hi, rfl⟩ := hb c h
      exact co_sign s W hi
  have HS := Lib.hid hs
  have SA := Lib.hid sa
  have SB := Lib.hid sb
  have q1 : decide ((64 : Int) < (a.length : Int)) = false := by simp; omega
  have q2 : decide ((64 : Int) < (b.length : Int)) = false := by simp; omega
  have hmm := @run_makeMap Try.prog
  clear hs sa sb ha hb
  go_enter Try.func27, Try.ntmps27
  go_wp2
  go_loopw [5, 30] (fun v5 v30 wr => ∃ k : Int, v30 = .int .i64 k ∧ v5 = .slice none 0 0 ∧ (0 ≤ k ∧ k ≤ 2) ∧ Hid (Below w.heap.size w wr) ∧ wr.cell? ⟨w.heap.size, 0, none⟩ = some (.slice aA a.length cA) ∧ wr.cell? ⟨w.heap.size + 1, 0, none⟩ = some (.slice aB b.length cB) ∧ wr.cell? ⟨w.heap.size + 2, 0, none⟩ = some (.slice aA a.length cA) ∧ wr.cell? ⟨w.heap.size + 2, 1, none⟩ = some (.slice aB b.length cB) ∧ w.heap.size + 2 < wr.heap.size)
    (fun _ v30 _ => 2 - (intOf v30).toNat)
  case atStart => exact ⟨0, rfl, rfl, by omega, Lib.hid (((Below.refl w.heap.size w).alloc (Nat.le_refl _) _).alloc (by simp) _ |>.alloc (by simp; omega) _), by simp [go_sem], by simp [go_sem], by simp [go_sem], by simp [go_sem], by simp⟩
  case round =>
    obtain ⟨k, rfl, rfl, hk, HB, c0, c1, c2, c3, hsz⟩ := hrel
    rename World => W0
    rcases Int.lt_or_le k 2 with hk2 | hk2
    · obtain rfl | rfl : k = 0 ∨ k = 1 := by omega
      · go_wp2_with fail
        go_loopw [5, 36] (fun v5 v36 wx => ∃ j : Nat, v36 = .int .i64 j ∧ v5 = .slice none 0 0 ∧ j ≤ a.length ∧ Hid (Below W0.heap.size W0 wx))
          (fun _ v36 _ => a.length - (intOf v36).toNat)
        case atStart => exact ⟨0, rfl, rfl, Nat.zero_le _, Lib.hid (Below.refl _ _)⟩
        case round =>
          obtain ⟨j, rfl, rfl, hj, HX⟩ := hrel
          by_cases hlt : j < a.length
          · obtain ⟨ad, rfl, had, _⟩ := SA.out.at hlt
            have f0 : wr.cell? (ad.add (j * 1)) = some (.int .i64 (a.getD j 0)) := (((SA.out.kept HB.out (Nat.le_refl _)).kept HX.out (Nat.le_refl _)).head hlt (by omega)).trans rfl
            rw [Nat.mul_one] at f0
            have hm := Id.getD_mem hlt
            generalize a.getD j 0 = c at f0 hm
            go_wp2_with fail
            refine (HS.out c (.inl hm) _).mono ?_
            rintro _ w4 ⟨⟨s', rfl⟩, hb4⟩
            have HX4 := Lib.hid (HX.out.trans (hb4.mono HX.out.size))
            clear hb4 f0 hm
            go_wp2
            go_roundw
            case rel => exact ⟨j + 1, by go_num, rfl, by omega, HX4.out.alloc HX4.out.size _⟩
            case measure => simp [intOf]; omega
          · obtain rfl : j = a.length := by omega
            have HX2 := Lib.hid (HB.out.trans (HX.out.mono HB.out.size))
            have d0 := (HX.out.cell (p := ⟨w.heap.size, 0, none⟩) (by simp; omega)).trans c0
            have d1 := (HX.out.cell (p := ⟨w.heap.size + 1, 0, none⟩) (by simp; omega)).trans c1
            have d2 := (HX.out.cell (p := ⟨w.heap.size + 2, 0, none⟩) (by simp; omega)).trans c2
            have d3 := (HX.out.cell (p := ⟨w.heap.size + 2, 1, none⟩) (by simp; omega)).trans c3
            have hsx := HX.out.size
            go_wp2
            go_roundw
            case rel => exact ⟨1, rfl, rfl, by omega, HX2.out, d0, d1, d2, d3, by omega⟩
            case measure => simp [intOf]
      · go_wp2_with fail
        go_loopw [5, 36] (fun v5 v36 wx => ∃ j : Nat, v36 = .int .i64 j ∧ v5 = .slice none 0 0 ∧ j ≤ b.length ∧ Hid (Below W0.heap.size W0 wx))
          (fun _ v36 _ => b.length - (intOf v36).toNat)
        case atStart => exact ⟨0, rfl, rfl, Nat.zero_le _, Lib.hid (Below.refl _ _)⟩
        case round =>
          obtain ⟨j, rfl, rfl, hj, HX⟩ := hrel
          by_cases hlt : j < b.length
          · obtain ⟨ad, rfl, had, _⟩ := SB.out.at hlt
            have f0 : wr.cell? (ad.add (j * 1)) = some (.int .i64 (b.getD j 0)) := (((SB.out.kept HB.out (Nat.le_refl _)).kept HX.out (Nat.le_refl _)).head hlt (by omega)).trans rfl
            rw [Nat.mul_one] at f0
            have hm := Id.getD_mem hlt
            generalize b.getD j 0 = c at f0 hm
            go_wp2_with fail
            refine (HS.out c (.inr hm) _).mono ?_
            rintro _ w4 ⟨⟨s', rfl⟩, hb4⟩
            have HX4 := Lib.hid (HX.out.trans (hb4.mono HX.out.size))
            clear hb4 f0 hm
            go_wp2
            go_roundw
            case rel => exact ⟨j + 1, by go_num, rfl, by omega, HX4.out.alloc HX4.out.size _⟩
            case measure => simp [intOf]; omega
          · obtain rfl : j = b.length := by omega
            have HX2 := Lib.hid (HB.out.trans (HX.out.mono HB.out.size))
            have d0 := (HX.out.cell (p := ⟨w.heap.size, 0, none⟩) (by simp; omega)).trans c0
            have d1 := (HX.out.cell (p := ⟨w.heap.size + 1, 0, none⟩) (by simp; omega)).trans c1
            have d2 := (HX.out.cell (p := ⟨w.heap.size + 2, 0, none⟩) (by simp; omega)).trans c2
            have d3 := (HX.out.cell (p := ⟨w.heap.size + 2, 1, none⟩) (by simp; omega)).trans c3
            have hsx := HX.out.size
            go_wp2
            go_roundw
            case rel => exact ⟨2, rfl, rfl, by omega, HX2.out, d0, d1, d2, d3, by omega⟩
            case measure => simp [intOf]
    · obtain rfl : k = 2 := by omega
      have HPW := Lib.hid (Id.PSt.made (tM := 89) (tF := 90) c0 c1 (by omega) (by omega) (SA.out.kept HB.out (Nat.le_refl _)) (SB.out.kept HB.out (Nat.le_refl _)))
      go_wp2_with fail
      refine Kit.wp_name ?_
      intro W2 hW2
      rw [← hW2] at HPW
      obtain ⟨M, hM⟩ : ∃ M, M = W0.heap.size := ⟨_, rfl⟩
      rw [← hM] at HPW
      rw [← hM]
      have HBW := Lib.hid (show Below w.heap.size w W2 by
        rw [hW2]
        exact (HB.out.trans ((((Below.refl W0.heap.size W0).alloc (Nat.le_refl _) _).alloc (by simp) _).alloc (by simp; omega) _ |>.mono HB.out.size)))
      have hMw : M < W2.heap.size := HPW.out.memo.lt
      have HMw : w.heap.size ≤ M := by rw [hM]; exact HB.out.size
      obtain ⟨N, hN⟩ : ∃ N, N = W2.heap.size := ⟨_, rfl⟩
      have hNW := hN.symm
      rw [← hN] at hMw
      have HLE := Lib.hid (fun i k W (hi : i ≤ a.length) (hk : k ≤ b.length) (hP : Id.PSt a b w.heap.size (w.heap.size + 1) (M + 1) (M + 1 + 1) M aA cA aB cB W) => co_least a b w.heap.size (w.heap.size + 1) (M + 1) (M + 1 + 1) M aA cA aB cB la lb _ i k W hi hk (Nat.le_refl _) hP)
      clear hW2 hM hN c0 c1 c2 c3 hsz HB SA SB hmm
      unfold Id.Lst at HLE
      have HP2 := HPW
      go_loopw [5, 15, 16] (fun v5 v15 v16 wr => ∃ (i k n : Nat) (v : Value) (xs : List Value), v15 = .int .i64 i ∧ v16 = .int .i64 k ∧ v5 = v ∧ i ≤ a.length ∧ k ≤ b.length ∧ n ≤ i + k ∧ Hid (wr.ownsRow N 92 2 v n xs) ∧ Hid (Id.PSt a b w.heap.size (w.heap.size + 1) (M + 1) (M + 1 + 1) M aA cA aB cB wr) ∧ Hid (Below w.heap.size w wr) ∧ N ≤ wr.heap.size)
        (fun _ v15 v16 _ => (a.length - (intOf v15).toNat) + (b.length - (intOf v16).toNat))
      case atStart => exact ⟨0, 0, 0, _, [], rfl, rfl, rfl, Nat.zero_le _, Nat.zero_le _, Nat.le_refl _, Lib.hid (World.ownsRow_nil _ _ _ _), HPW.out, HBW.out, by omega⟩
      case round =>
        obtain ⟨i, k, n, v, xs, rfl, rfl, rfl, hi, hk, hn, HO, HP, HB, hs⟩ := hrel
        rename World => W3
        have ca := HP.out.ca
        have cb := HP.out.cb
        have cl := HP.out.cl
        by_cases hdone : i = a.length ∧ k = b.length
        · obtain ⟨rfl, rfl⟩ := hdone
          go_wp2_with fail
          refine (HLE.out 0 0 _ (Nat.zero_le _) (Nat.zero_le _) HP.out).mono ?_
          rintro _ w5 ⟨rfl, hx5⟩
          have HB5 := Lib.hid (HB.out.trans (hx5.1.below HB.out.size (fun q hq => by omega)))
          clear hx5
          go_wp2
          go_ret3
          exact ⟨⟨_, rfl⟩, HB5.out⟩
        have hgo : (decide ((i : Int) < a.length) || decide ((k : Int) < b.length)) = true := by simp; omega
        obtain ⟨R, hR⟩ : ∃ R, Id.cst (a.drop i) (b.drop k) = R := ⟨_, rfl⟩
        obtain ⟨C2, hC2⟩ : ∃ C2, Id.cst (a.drop (i + 1)) (b.drop k) = C2 := ⟨_, rfl⟩
        have b2 : 0 ≤ C2 ∧ C2 ≤ 256 := by
          have h1 := Id.cst_nonneg (a.drop (i + 1)) (b.drop k); have h2 := Id.cst_le (a.drop (i + 1)) (b.drop k)
          rw [hC2] at h1 h2; simp only [List.length_drop] at h2; omega
        have e1 : (((i + 1 : Nat)) : Int) = (i : Int) + 1 := by simp
        have e2 : (((k + 1 : Nat)) : Int) = (k : Int) + 1 := by simp
        have LE1 := HLE
        by_cases hia : i < a.length
        · have d1 : decide ((i : Int) < a.length) = true := by simp; omega
          by_cases hkb : k < b.length
          · have d2 : decide ((k : Int) < b.length) = true := by simp; omega
            obtain ⟨ada, rfl, hada, _⟩ := HP.out.sa.at hia
            obtain ⟨adb, rfl, hadb, _⟩ := HP.out.sb.at hkb
            go_wp2_with fail
            refine (HLE.out i k _ hi hk HP.out).mono ?_
            rintro _ w5 ⟨rfl, hx5⟩
            rw [hR]
            have HP5 := Lib.hid (HP.out.step hx5)
            have HO5 := Lib.hid (Id.own_kept HO.out (w' := w5) (fun g hg => hx5.1.block g (HO.out.lt g hg).2 (by have := (HO.out.lt g hg).1; omega)))
            have HB5 := Lib.hid (HB.out.trans (hx5.1.below HB.out.size (fun q hq => by omega)))
            have hs5 : N ≤ w5.heap.size := Nat.le_trans hs hx5.1.size
            have ca5 := HP5.out.ca
            have cb5 := HP5.out.cb
            clear hx5 ca cb cl
            go_upto_region 22 with fail
            clear ca5 cb5
            obtain ⟨x, hx⟩ : ∃ x, a.getD i 0 = x := ⟨_, rfl⟩
            obtain ⟨y, hy⟩ : ∃ y, b.getD k 0 = y := ⟨_, rfl⟩
            obtain ⟨C1, hC1⟩ : ∃ C1, Id.cst (a.drop (i + 1)) (b.drop (k + 1)) = C1 := ⟨_, rfl⟩
            have hbx := Id.bes_bd x y
            have b1 : 0 ≤ C1 ∧ C1 ≤ 256 := by
              have h1 := Id.cst_nonneg (a.drop (i + 1)) (b.drop (k + 1)); have h2 := Id.cst_le (a.drop (i + 1)) (b.drop (k + 1))
              rw [hC1] at h1 h2; simp only [List.length_drop] at h2; omega
            refine Kit.wp_region_vals 31 [([(15, none)], none, true), ([(2, none)], none, true), ([(78, some 1)], none, true), ([(77, some 0), (79, some 2)], none, true), ([(80, some 3)], none, true), ([(16, none)], some (4, true), true), ([(3, none)], some (4, true), true), ([(83, some 6)], some (4, true), true), ([(82, some 5), (84, some 7)], some (4, true), true), ([(81, some 4), (85, some 8)], none, true), ([(86, some 9)], none, true), ([(17, none)], some (10, true), true), ([(2, none)], some (10, true), true), ([(15, none)], some (10, true), true), ([(89, some 12), (90, some 13)], some (10, true), true), ([(91, some 14)], some (10, true), true), ([(3, none)], some (10, true), true), ([(16, none)], some (10, true), true), ([(93, some 16), (94, some 17)], some (10, true), true), ([(95, some 18)], some (10, true), true), ([(92, some 15), (96, some 19)], some (10, true), true), ([(14, none)], some (10, true), true), ([(15, none)], some (10, true), true), ([(99, some 22)], some (10, true), true), ([(16, none)], some (10, true), true), ([(101, some 24)], some (10, true), true), ([(98, some 21), (100, some 23), (102, some 25)], some (10, true), true), ([(97, some 20), (103, some 26)], some (10, true), true), ([(88, some 11), (104, some 27)], some (10, true), true), ([(87, some 10), (105, some 28)], none, true), ([(106, some 29)], none, true)]
              [some 77, some 78, some 79, some 80, some 81, some 82, some 83, some 84, some 85, some 86, some 87, some 88, some 89, some 90, some 91, some 92, some 93, some 94, some 95, some 96, some 97, some 98, some 99, some 100, some 101, some 102, some 103, some 104, some 105, some 106, some 76] rfl (by kernel_rfl) (by kernel_rfl) (Id.LE a b M) (fun i' v w' => match i' with
                | 0 => v = .int .i64 i
                | 1 => v = .slice (some ada) a.length cA
                | 2 => v = .int .i64 a.length
                | 3 => v = .bool true
                | 4 => v = .bool true
                | 5 => v = .int .i64 k
                | 6 => v = .slice (some adb) b.length cB
                | 7 => v = .int .i64 b.length
                | 8 => v = .bool true
                | 9 => v = .bool true
                | 10 => v = .bool true
                | 11 => v = .int .i64 R
                | 12 => v = .slice (some ada) a.length cA
                | 13 => v = .int .i64 i
                | 14 => v = .pointer (some (ada.add i))
                | 15 => v = .int .i64 x
                | 16 => v = .slice (some adb) b.length cB
                | 17 => v = .int .i64 k
                | 18 => v = .pointer (some (adb.add k))
                | 19 => v = .int .i64 y
                | 20 => v = .int .i64 (Id.bes x y)
                | 21 => v = Id.lstV w.heap.size (w.heap.size + 1) (M + 1) (M + 1 + 1)
                | 22 => v = .int .i64 i
                | 23 => v = .int .i64 ((i : Int) + 1)
                | 24 => v = .int .i64 k
                | 25 => v = .int .i64 ((k : Int) + 1)
                | 26 => v = .int .i64 C1
                | 27 => v = .int .i64 (Id.bes x y + C1)
                | 28 => v = .bool (R == Id.bes x y + C1)
                | 29 => v = .bool (R == Id.bes x y + C1)
                | _ => v = .bool (R == Id.bes x y + C1))
              (fun h k => h.trans k) ⟨(Kit.Exc.refl _ _).drew, fun h => h.kept rfl⟩ (fun _ => Id.LE.refl _ _ _ _) ?_ ?_ ?_
            · intro i' v A B h1 h2 h3
              split at h3 <;> exact h3
            · simp only [List.take_succ_cons, List.take_zero, Kit.StepsV, Kit.VOp, Kit.RdP, true_and, if_true, and_true, if_false, Bool.false_eq_true]
              refine ⟨?_, ?_, ?_, ?_, ?_, ?_, ?_, ?_, ?_, ?_, ?_, ?_, ?_, ?_, ?_, ?_, ?_, ?_, ?_, ?_, ?_, ?_, ?_, ?_, ?_, ?_, ?_, ?_, ?_, ?_, ?_⟩
              · intro ev w1 hx1 hv hc hf hg'
                simp at hv; simp [execOp, hv, go_sem, Kit.UponV, Id.LE.refl]
              · intro ev w1 hx1 hv hc hf hg'
                have P := HP5.out.step hx1
                have s1 := P.ca
                simp at hv; simp [execOp, hv, go_sem, Kit.UponV, Id.LE.refl, s1]
              · intro ev w1 hx1 hv hc hf hg'
                simp [execOp, hv, hc, go_sem, Kit.UponV, Id.LE.refl]
              · intro ev w1 hx1 hv hc hf hg'
                simp [execOp, hv, hc, go_sem, Kit.UponV, Id.LE.refl] <;> omega
              · intro ev w1 hx1 hv hc hf hg'
                simp [execOp, hv, hc, go_sem, Kit.UponV, Id.LE.refl]
              · refine ⟨fun v w _ h => ⟨_, h, rfl⟩, ?_⟩
                intro ev w1 hx1 hv hc hf hg'
                simp at hv; simp [execOp, hv, go_sem, Kit.UponV, Id.LE.refl]
              · refine ⟨fun v w _ h => ⟨_, h, rfl⟩, ?_⟩
                intro ev w1 hx1 hv hc hf hg'
                have P := HP5.out.step hx1
                have s1 := P.cb
                simp at hv; simp [execOp, hv, go_sem, Kit.UponV, Id.LE.refl, s1]
              · refine ⟨fun v w _ h => ⟨_, h, rfl⟩, ?_⟩
                intro ev w1 hx1 hv hc hf hg'
                simp [execOp, hv, hc, go_sem, Kit.UponV, Id.LE.refl]
              · refine ⟨fun v w _ h => ⟨_, h, rfl⟩, ?_⟩
                intro ev w1 hx1 hv hc hf hg'
                simp [execOp, hv, hc, go_sem, Kit.UponV, Id.LE.refl] <;> omega
              · intro ev w1 hx1 hv hc hf hg'
                simp [execOp, hv, hc, go_sem, Kit.UponV, Id.LE.refl]
              · intro ev w1 hx1 hv hc hf hg'
                simp [execOp, hv, hc, go_sem, Kit.UponV, Id.LE.refl]
              · refine ⟨fun v w _ h => ⟨_, h, rfl⟩, ?_⟩
                intro ev w1 hx1 hv hc hf hg'
                simp at hv; simp [execOp, hv, go_sem, Kit.UponV, Id.LE.refl]
              · refine ⟨fun v w _ h => ⟨_, h, rfl⟩, ?_⟩
                intro ev w1 hx1 hv hc hf hg'
                have P := HP5.out.step hx1
                have s1 := P.ca
                simp at hv; simp [execOp, hv, go_sem, Kit.UponV, Id.LE.refl, s1]
              · refine ⟨fun v w _ h => ⟨_, h, rfl⟩, ?_⟩
                intro ev w1 hx1 hv hc hf hg'
                simp at hv; simp [execOp, hv, go_sem, Kit.UponV, Id.LE.refl]
              · refine ⟨fun v w _ h => ⟨_, h, rfl⟩, ?_⟩
                intro ev w1 hx1 hv hc hf hg'
                simp [execOp, hv, hc, go_sem, Kit.UponV, Id.LE.refl, hia, hkb]
              · refine ⟨fun v w _ h => ⟨_, h, rfl⟩, ?_⟩
                intro ev w1 hx1 hv hc hf hg'
                have P := HP5.out.step hx1
                have s1 : w1.cell? (ada.add i) = some (.int .i64 x) := by have h := P.sa.head hia (by omega); rw [Nat.mul_one] at h; rw [h, ← hx]; rfl
                simp [execOp, hv, hc, go_sem, Kit.UponV, Id.LE.refl, s1]
              · refine ⟨fun v w _ h => ⟨_, h, rfl⟩, ?_⟩
                intro ev w1 hx1 hv hc hf hg'
                have P := HP5.out.step hx1
                have s1 := P.cb
                simp at hv; simp [execOp, hv, go_sem, Kit.UponV, Id.LE.refl, s1]
              · refine ⟨fun v w _ h => ⟨_, h, rfl⟩, ?_⟩
                intro ev w1 hx1 hv hc hf hg'
                simp at hv; simp [execOp, hv, go_sem, Kit.UponV, Id.LE.refl]
              · refine ⟨fun v w _ h => ⟨_, h, rfl⟩, ?_⟩
                intro ev w1 hx1 hv hc hf hg'
                simp [execOp, hv, hc, go_sem, Kit.UponV, Id.LE.refl, hia, hkb]
              · refine ⟨fun v w _ h => ⟨_, h, rfl⟩, ?_⟩
                intro ev w1 hx1 hv hc hf hg'
                have P := HP5.out.step hx1
                have s1 : w1.cell? (adb.add k) = some (.int .i64 y) := by have h := P.sb.head hkb (by omega); rw [Nat.mul_one] at h; rw [h, ← hy]; rfl
                simp [execOp, hv, hc, go_sem, Kit.UponV, Id.LE.refl, s1]
              · refine ⟨fun v w _ h => ⟨_, h, rfl⟩, ?_⟩
                intro ev w1 hx1 hv hc hf hg'
                simp [execOp, hv, hc, hf, go_sem, Kit.UponV]
                refine (co_beside x y w1).mono ?_
                rintro e w' ⟨rfl, rfl⟩
                exact ⟨_, rfl, rfl, Id.LE.refl _ _ _ _⟩
              · refine ⟨fun v w _ h => ⟨_, h, rfl⟩, ?_⟩
                intro ev w1 hx1 hv hc hf hg'
                have P := HP5.out.step hx1
                have s1 := P.cl
                simp at hv; simp [execOp, hv, go_sem, Kit.UponV, Id.LE.refl, s1]
              · refine ⟨fun v w _ h => ⟨_, h, rfl⟩, ?_⟩
                intro ev w1 hx1 hv hc hf hg'
                simp at hv; simp [execOp, hv, go_sem, Kit.UponV, Id.LE.refl]
              · refine ⟨fun v w _ h => ⟨_, h, rfl⟩, ?_⟩
                intro ev w1 hx1 hv hc hf hg'
                simp [execOp, hv, hc, go_sem, Kit.UponV, Id.LE.refl, IntKind.wrap_i64] <;> omega
              · refine ⟨fun v w _ h => ⟨_, h, rfl⟩, ?_⟩
                intro ev w1 hx1 hv hc hf hg'
                simp at hv; simp [execOp, hv, go_sem, Kit.UponV, Id.LE.refl]
              · refine ⟨fun v w _ h => ⟨_, h, rfl⟩, ?_⟩
                intro ev w1 hx1 hv hc hf hg'
                simp [execOp, hv, hc, go_sem, Kit.UponV, Id.LE.refl, IntKind.wrap_i64] <;> omega
              · refine ⟨fun v w _ h => ⟨_, h, rfl⟩, ?_⟩
                intro ev w1 hx1 hv hc hf hg'
                have P := HP5.out.step hx1
                simp [execOp, hv, hc, hf, go_sem, Kit.UponV]
                rw [← e1, ← e2]
                refine (LE1.out (i + 1) (k + 1) w1 (by omega) (by omega) P).mono ?_
                rintro e w' ⟨rfl, h⟩
                exact ⟨_, rfl, by rw [hC1], h⟩
              · refine ⟨fun v w _ h => ⟨_, h, rfl⟩, ?_⟩
                intro ev w1 hx1 hv hc hf hg'
                simp [execOp, hv, hc, go_sem, Kit.UponV, Id.LE.refl, IntKind.wrap_i64] <;> omega
              · refine ⟨fun v w _ h => ⟨_, h, rfl⟩, ?_⟩
                intro ev w1 hx1 hv hc hf hg'
                simp [execOp, hv, hc, go_sem, Kit.UponV, Id.LE.refl]
              · intro ev w1 hx1 hv hc hf hg'
                simp [execOp, hv, hc, go_sem, Kit.UponV, Id.LE.refl]
              · intro ev w1 hx1 hv hc hf hg'
                simp [execOp, hv, hc, go_sem, Kit.UponV, Id.LE.refl]
            · intro vs w1 hv hx1
              have v0 : vs 0 = _ := hv 0 (by omega)
              have v1 : vs 1 = _ := hv 1 (by omega)
              have v2 : vs 2 = _ := hv 2 (by omega)
              have v3 : vs 3 = _ := hv 3 (by omega)
              have v4 : vs 4 = _ := hv 4 (by omega)
              have v5 : vs 5 = _ := hv 5 (by omega)
              have v6 : vs 6 = _ := hv 6 (by omega)
              have v7 : vs 7 = _ := hv 7 (by omega)
              have v8 : vs 8 = _ := hv 8 (by omega)
              have v9 : vs 9 = _ := hv 9 (by omega)
              have v10 : vs 10 = _ := hv 10 (by omega)
              have v11 : vs 11 = _ := hv 11 (by omega)
              have v12 : vs 12 = _ := hv 12 (by omega)
              have v13 : vs 13 = _ := hv 13 (by omega)
              have v14 : vs 14 = _ := hv 14 (by omega)
              have v15 : vs 15 = _ := hv 15 (by omega)
              have v16 : vs 16 = _ := hv 16 (by omega)
              have v17 : vs 17 = _ := hv 17 (by omega)
              have v18 : vs 18 = _ := hv 18 (by omega)
              have v19 : vs 19 = _ := hv 19 (by omega)
              have v20 : vs 20 = _ := hv 20 (by omega)
              have v21 : vs 21 = _ := hv 21 (by omega)
              have v22 : vs 22 = _ := hv 22 (by omega)
              have v23 : vs 23 = _ := hv 23 (by omega)
              have v24 : vs 24 = _ := hv 24 (by omega)
              have v25 : vs 25 = _ := hv 25 (by omega)
              have v26 : vs 26 = _ := hv 26 (by omega)
              have v27 : vs 27 = _ := hv 27 (by omega)
              have v28 : vs 28 = _ := hv 28 (by omega)
              have v29 : vs 29 = _ := hv 29 (by omega)
              have v30 : vs 30 = _ := hv 30 (by omega)
              clear hv
              simp only [Kit.putD, List.getD_cons_zero, List.getD_cons_succ, Act.put, v0, v1, v2, v3, v4, v5, v6, v7, v8, v9, v10, v11, v12, v13, v14, v15, v16, v17, v18, v19, v20, v21, v22, v23, v24, v25, v26, v27, v28, v29, v30, List.drop_succ_cons, List.drop_zero]
              go_simp
              have HP6 := Lib.hid (HP5.out.step hx1)
              have HO6 := Lib.hid (Id.own_kept HO5.out (w' := w1) (fun g hg => hx1.1.block g (HO5.out.lt g hg).2 (by have := (HO5.out.lt g hg).1; omega)))
              have HB6 := Lib.hid (HB5.out.trans (hx1.1.below HB5.out.size (fun q hq => by omega)))
              have hs6 : N ≤ w1.heap.size := Nat.le_trans hs5 hx1.1.size
              clear hx1 v0 v1 v2 v3 v4 v5 v6 v7 v8 v9 v10 v11 v12 v13 v14 v15 v16 v17 v18 v19 v20 v21 v22 v23 v24 v25 v26 v27 v28 v29 v30
              have ca := HP6.out.ca
              have cb := HP6.out.cb
              have cl := HP6.out.cl
              rcases dR : (R == Id.bes x y + C1) with _ | _
              · go_wp2_with fail
                rw [← e1]
                refine (LE1.out (i + 1) k w1 (by omega) (by omega) HP6.out).mono ?_
                rintro _ w7 ⟨rfl, hx7⟩
                have HP7 := Lib.hid (HP6.out.step hx7)
                have HO7 := Lib.hid (Id.own_kept HO6.out (w' := w7) (fun g hg => hx7.1.block g (HO6.out.lt g hg).2 (by have := (HO6.out.lt g hg).1; omega)))
                have HB7 := Lib.hid (HB6.out.trans (hx7.1.below HB6.out.size (fun q hq => by omega)))
                have hs7 : N ≤ w7.heap.size := Nat.le_trans hs6 hx7.1.size
                clear hx7
                rw [hC2]
                rcases dC : (R == 2 + C2) with _ | _
                · obtain ⟨j0, hJ, hy0, hy1, hy2⟩ := info_parts Id.info92
                  go_wp2_with (at_builtin; refine Kit.wpList_append_own' _ rfl _ _ 55 rfl N 92 j0 (.agg #[.int .i64 0, .int .i64 0]) 2 16 Try.underlying55 hJ hy0 hy1 hy2 rfl (by decide) _ _ _ rfl (HO7.out.alloc _) ⟨w7.heap.size, 0, none⟩ 1 1 [.int .i64 0, .int .i64 ((k : Int) + 1)] rfl rfl (fun j u hu => Id.lit_cell _ _ _ rfl j u hu) (by simp [Value.oneCell']) (by unfold maxLen; omega) (by omega) (by simp; omega) ?_; intro v' w9 hown' hgrow _ hwhere; have hG9 := Lib.hid hgrow; have hO9 := Lib.hid hown'; clear hown' hgrow hwhere)
                  go_roundw
                  case rel =>
                    have xg : Kit.Exc (fun q => N ≤ q) w7 w9 := (((Kit.Exc.refl _ w7).alloc _).grown hG9.out (fun q hq => .inl (HO7.out.lt q hq).1))
                    exact ⟨i, k + 1, n + 1, _, _, by go_num, by go_num, rfl, by omega, by omega, by omega, hO9.out, HP2.out.exc HP7.out xg (fun q hq => by rw [hNW]; exact hq), HB7.out.trans (xg.below HB7.out.size (fun q hq => by omega)), Nat.le_trans hs7 xg.size⟩
                  case measure => simp [intOf]; omega
                · obtain ⟨j0, hJ, hy0, hy1, hy2⟩ := info_parts Id.info92
                  go_wp2_with (at_builtin; refine Kit.wpList_append_own' _ rfl _ _ 55 rfl N 92 j0 (.agg #[.int .i64 0, .int .i64 0]) 2 16 Try.underlying55 hJ hy0 hy1 hy2 rfl (by decide) _ _ _ rfl (HO7.out.alloc _) ⟨w7.heap.size, 0, none⟩ 1 1 [.int .i64 ((i : Int) + 1), .int .i64 0] rfl rfl (fun j u hu => Id.lit_cell _ _ _ rfl j u hu) (by simp [Value.oneCell']) (by unfold maxLen; omega) (by omega) (by simp; omega) ?_; intro v' w9 hown' hgrow _ hwhere; have hG9 := Lib.hid hgrow; have hO9 := Lib.hid hown'; clear hown' hgrow hwhere)
                  go_roundw
                  case rel =>
                    have xg : Kit.Exc (fun q => N ≤ q) w7 w9 := (((Kit.Exc.refl _ w7).alloc _).grown hG9.out (fun q hq => .inl (HO7.out.lt q hq).1))
                    exact ⟨i + 1, k, n + 1, _, _, by go_num, by go_num, rfl, by omega, by omega, by omega, hO9.out, HP2.out.exc HP7.out xg (fun q hq => by rw [hNW]; exact hq), HB7.out.trans (xg.below HB7.out.size (fun q hq => by omega)), Nat.le_trans hs7 xg.size⟩
                  case measure => simp [intOf]; omega
              · obtain ⟨j0, hJ, hy0, hy1, hy2⟩ := info_parts Id.info92
                go_wp2_with (at_builtin; refine Kit.wpList_append_own' _ rfl _ _ 55 rfl N 92 j0 (.agg #[.int .i64 0, .int .i64 0]) 2 16 Try.underlying55 hJ hy0 hy1 hy2 rfl (by decide) _ _ _ rfl (HO6.out.alloc _) ⟨w1.heap.size, 0, none⟩ 1 1 [.int .i64 ((i : Int) + 1), .int .i64 ((k : Int) + 1)] rfl rfl (fun j u hu => Id.lit_cell _ _ _ rfl j u hu) (by simp [Value.oneCell']) (by unfold maxLen; omega) (by omega) (by simp; omega) ?_; intro v' w9 hown' hgrow _ hwhere; have hG9 := Lib.hid hgrow; have hO9 := Lib.hid hown'; clear hown' hgrow hwhere)
                go_roundw
                case rel =>
                  have xg : Kit.Exc (fun q => N ≤ q) w1 w9 := (((Kit.Exc.refl _ w1).alloc _).grown hG9.out (fun q hq => .inl (HO6.out.lt q hq).1))
                  exact ⟨i + 1, k + 1, n + 1, _, _, by go_num, by go_num, rfl, by omega, by omega, by omega, hO9.out, HP2.out.exc HP6.out xg (fun q hq => by rw [hNW]; exact hq), HB6.out.trans (xg.below HB6.out.size (fun q hq => by omega)), Nat.le_trans hs6 xg.size⟩
                case measure => simp [intOf]; omega
          · have HK0 := Lib.hid (show k = b.length by omega)
            have d2 : decide ((k : Int) < b.length) = false := by simp; omega
            go_wp2_with fail
            refine (HLE.out i k _ hi hk HP.out).mono ?_
            rintro _ w5 ⟨rfl, hx5⟩
            rw [hR]
            have HP5 := Lib.hid (HP.out.step hx5)
            have HO5 := Lib.hid (Id.own_kept HO.out (w' := w5) (fun g hg => hx5.1.block g (HO.out.lt g hg).2 (by have := (HO.out.lt g hg).1; omega)))
            have HB5 := Lib.hid (HB.out.trans (hx5.1.below HB.out.size (fun q hq => by omega)))
            have hs5 : N ≤ w5.heap.size := Nat.le_trans hs hx5.1.size
            have ca5 := HP5.out.ca
            have cb5 := HP5.out.cb
            clear hx5 ca cb cl
            go_upto_region 22 with fail
            clear ca5 cb5
            refine Kit.wp_region_vals 31 [([(15, none)], none, true), ([(2, none)], none, true), ([(78, some 1)], none, true), ([(77, some 0), (79, some 2)], none, true), ([(80, some 3)], none, true), ([(16, none)], some (4, true), true), ([(3, none)], some (4, true), true), ([(83, some 6)], some (4, true), true), ([(82, some 5), (84, some 7)], some (4, true), true), ([(81, some 4), (85, some 8)], none, true), ([(86, some 9)], none, true), ([(17, none)], some (10, true), false), ([(2, none)], some (10, true), false), ([(15, none)], some (10, true), false), ([(89, some 12), (90, some 13)], some (10, true), false), ([(91, some 14)], some (10, true), false), ([(3, none)], some (10, true), false), ([(16, none)], some (10, true), false), ([(93, some 16), (94, some 17)], some (10, true), false), ([(95, some 18)], some (10, true), false), ([(92, some 15), (96, some 19)], some (10, true), false), ([(14, none)], some (10, true), false), ([(15, none)], some (10, true), false), ([(99, some 22)], some (10, true), false), ([(16, none)], some (10, true), false), ([(101, some 24)], some (10, true), false), ([(98, some 21), (100, some 23), (102, some 25)], some (10, true), false), ([(97, some 20), (103, some 26)], some (10, true), false), ([(88, some 11), (104, some 27)], some (10, true), false), ([(87, some 10), (105, some 28)], none, true), ([(106, some 29)], none, true)]
              [some 77, some 78, some 79, some 80, some 81, some 82, some 83, some 84, some 85, some 86, some 87, some 88, some 89, some 90, some 91, some 92, some 93, some 94, some 95, some 96, some 97, some 98, some 99, some 100, some 101, some 102, some 103, some 104, some 105, some 106, some 76] rfl (by kernel_rfl) (by kernel_rfl) (Id.LE a b M) (fun i' v w' => match i' with
                | 0 => v = .int .i64 i
                | 1 => v = .slice aA a.length cA
                | 2 => v = .int .i64 a.length
                | 3 => v = .bool true
                | 4 => v = .bool true
                | 5 => v = .int .i64 k
                | 6 => v = .slice aB b.length cB
                | 7 => v = .int .i64 b.length
                | 8 => v = .bool false
                | 9 => v = .bool false
                | 10 => v = .bool false
                | 11 => v = undef
                | 12 => v = undef
                | 13 => v = undef
                | 14 => v = undef
                | 15 => v = undef
                | 16 => v = undef
                | 17 => v = undef
                | 18 => v = undef
                | 19 => v = undef
                | 20 => v = undef
                | 21 => v = undef
                | 22 => v = undef
                | 23 => v = undef
                | 24 => v = undef
                | 25 => v = undef
                | 26 => v = undef
                | 27 => v = undef
                | 28 => v = undef
                | 29 => v = .bool false
                | _ => v = .bool false)
              (fun h k => h.trans k) ⟨(Kit.Exc.refl _ _).drew, fun h => h.kept rfl⟩ (fun _ => Id.LE.refl _ _ _ _) ?_ ?_ ?_
            · intro i' v A B h1 h2 h3
              split at h3 <;> exact h3
            · simp only [List.take_succ_cons, List.take_zero, Kit.StepsV, Kit.VOp, Kit.RdP, true_and, if_true, and_true, if_false, Bool.false_eq_true]
              refine ⟨?_, ?_, ?_, ?_, ?_, ?_, ?_, ?_, ?_, ?_, ?_, ?_, ?_, ?_, ?_, ?_, ?_, ?_, ?_, ?_, ?_, ?_, ?_, ?_, ?_, ?_, ?_, ?_, ?_, ?_, ?_⟩
              · intro ev w1 hx1 hv hc hf hg'
                simp at hv; simp [execOp, hv, go_sem, Kit.UponV, Id.LE.refl]
              · intro ev w1 hx1 hv hc hf hg'
                have P := HP5.out.step hx1
                have s1 := P.ca
                simp at hv; simp [execOp, hv, go_sem, Kit.UponV, Id.LE.refl, s1]
              · intro ev w1 hx1 hv hc hf hg'
                simp [execOp, hv, hc, go_sem, Kit.UponV, Id.LE.refl]
              · intro ev w1 hx1 hv hc hf hg'
                simp [execOp, hv, hc, go_sem, Kit.UponV, Id.LE.refl] <;> omega
              · intro ev w1 hx1 hv hc hf hg'
                simp [execOp, hv, hc, go_sem, Kit.UponV, Id.LE.refl]
              · refine ⟨fun v w _ h => ⟨_, h, rfl⟩, ?_⟩
                intro ev w1 hx1 hv hc hf hg'
                simp at hv; simp [execOp, hv, go_sem, Kit.UponV, Id.LE.refl]
              · refine ⟨fun v w _ h => ⟨_, h, rfl⟩, ?_⟩
                intro ev w1 hx1 hv hc hf hg'
                have P := HP5.out.step hx1
                have s1 := P.cb
                simp at hv; simp [execOp, hv, go_sem, Kit.UponV, Id.LE.refl, s1]
              · refine ⟨fun v w _ h => ⟨_, h, rfl⟩, ?_⟩
                intro ev w1 hx1 hv hc hf hg'
                simp [execOp, hv, hc, go_sem, Kit.UponV, Id.LE.refl]
              · refine ⟨fun v w _ h => ⟨_, h, rfl⟩, ?_⟩
                intro ev w1 hx1 hv hc hf hg'
                simp [execOp, hv, hc, go_sem, Kit.UponV, Id.LE.refl] <;> omega
              · intro ev w1 hx1 hv hc hf hg'
                simp [execOp, hv, hc, go_sem, Kit.UponV, Id.LE.refl]
              · intro ev w1 hx1 hv hc hf hg'
                simp [execOp, hv, hc, go_sem, Kit.UponV, Id.LE.refl]
              · exact ⟨fun v w _ h => ⟨_, h, rfl⟩, fun _ _ _ _ _ _ _ => by first | trivial | rfl⟩
              · exact ⟨fun v w _ h => ⟨_, h, rfl⟩, fun _ _ _ _ _ _ _ => by first | trivial | rfl⟩
              · exact ⟨fun v w _ h => ⟨_, h, rfl⟩, fun _ _ _ _ _ _ _ => by first | trivial | rfl⟩
              · exact ⟨fun v w _ h => ⟨_, h, rfl⟩, fun _ _ _ _ _ _ _ => by first | trivial | rfl⟩
              · exact ⟨fun v w _ h => ⟨_, h, rfl⟩, fun _ _ _ _ _ _ _ => by first | trivial | rfl⟩
              · exact ⟨fun v w _ h => ⟨_, h, rfl⟩, fun _ _ _ _ _ _ _ => by first | trivial | rfl⟩
              · exact ⟨fun v w _ h => ⟨_, h, rfl⟩, fun _ _ _ _ _ _ _ => by first | trivial | rfl⟩
              · exact ⟨fun v w _ h => ⟨_, h, rfl⟩, fun _ _ _ _ _ _ _ => by first | trivial | rfl⟩
              · exact ⟨fun v w _ h => ⟨_, h, rfl⟩, fun _ _ _ _ _ _ _ => by first | trivial | rfl⟩
              · exact ⟨fun v w _ h => ⟨_, h, rfl⟩, fun _ _ _ _ _ _ _ => by first | trivial | rfl⟩
              · exact ⟨fun v w _ h => ⟨_, h, rfl⟩, fun _ _ _ _ _ _ _ => by first | trivial | rfl⟩
              · exact ⟨fun v w _ h => ⟨_, h, rfl⟩, fun _ _ _ _ _ _ _ => by first | trivial | rfl⟩
              · exact ⟨fun v w _ h => ⟨_, h, rfl⟩, fun _ _ _ _ _ _ _ => by first | trivial | rfl⟩
              · exact ⟨fun v w _ h => ⟨_, h, rfl⟩, fun _ _ _ _ _ _ _ => by first | trivial | rfl⟩
              · exact ⟨fun v w _ h => ⟨_, h, rfl⟩, fun _ _ _ _ _ _ _ => by first | trivial | rfl⟩
              · exact ⟨fun v w _ h => ⟨_, h, rfl⟩, fun _ _ _ _ _ _ _ => by first | trivial | rfl⟩
              · exact ⟨fun v w _ h => ⟨_, h, rfl⟩, fun _ _ _ _ _ _ _ => by first | trivial | rfl⟩
              · exact ⟨fun v w _ h => ⟨_, h, rfl⟩, fun _ _ _ _ _ _ _ => by first | trivial | rfl⟩
              · intro ev w1 hx1 hv hc hf hg'
                simp [execOp, hv, hc, go_sem, Kit.UponV, Id.LE.refl]
              · intro ev w1 hx1 hv hc hf hg'
                simp [execOp, hv, hc, go_sem, Kit.UponV, Id.LE.refl]
            · intro vs w1 hv hx1
              have v0 : vs 0 = _ := hv 0 (by omega)
              have v1 : vs 1 = _ := hv 1 (by omega)
              have v2 : vs 2 = _ := hv 2 (by omega)
              have v3 : vs 3 = _ := hv 3 (by omega)
              have v4 : vs 4 = _ := hv 4 (by omega)
              have v5 : vs 5 = _ := hv 5 (by omega)
              have v6 : vs 6 = _ := hv 6 (by omega)
              have v7 : vs 7 = _ := hv 7 (by omega)
              have v8 : vs 8 = _ := hv 8 (by omega)
              have v9 : vs 9 = _ := hv 9 (by omega)
              have v10 : vs 10 = _ := hv 10 (by omega)
              have v11 : vs 11 = _ := hv 11 (by omega)
              have v12 : vs 12 = _ := hv 12 (by omega)
              have v13 : vs 13 = _ := hv 13 (by omega)
              have v14 : vs 14 = _ := hv 14 (by omega)
              have v15 : vs 15 = _ := hv 15 (by omega)
              have v16 : vs 16 = _ := hv 16 (by omega)
              have v17 : vs 17 = _ := hv 17 (by omega)
              have v18 : vs 18 = _ := hv 18 (by omega)
              have v19 : vs 19 = _ := hv 19 (by omega)
              have v20 : vs 20 = _ := hv 20 (by omega)
              have v21 : vs 21 = _ := hv 21 (by omega)
              have v22 : vs 22 = _ := hv 22 (by omega)
              have v23 : vs 23 = _ := hv 23 (by omega)
              have v24 : vs 24 = _ := hv 24 (by omega)
              have v25 : vs 25 = _ := hv 25 (by omega)
              have v26 : vs 26 = _ := hv 26 (by omega)
              have v27 : vs 27 = _ := hv 27 (by omega)
              have v28 : vs 28 = _ := hv 28 (by omega)
              have v29 : vs 29 = _ := hv 29 (by omega)
              have v30 : vs 30 = _ := hv 30 (by omega)
              clear hv
              simp only [Kit.putD, List.getD_cons_zero, List.getD_cons_succ, Act.put, v0, v1, v2, v3, v4, v5, v6, v7, v8, v9, v10, v11, v12, v13, v14, v15, v16, v17, v18, v19, v20, v21, v22, v23, v24, v25, v26, v27, v28, v29, v30, List.drop_succ_cons, List.drop_zero]
              go_simp
              have HP6 := Lib.hid (HP5.out.step hx1)
              have HO6 := Lib.hid (Id.own_kept HO5.out (w' := w1) (fun g hg => hx1.1.block g (HO5.out.lt g hg).2 (by have := (HO5.out.lt g hg).1; omega)))
              have HB6 := Lib.hid (HB5.out.trans (hx1.1.below HB5.out.size (fun q hq => by omega)))
              have hs6 : N ≤ w1.heap.size := Nat.le_trans hs5 hx1.1.size
              clear hx1 v0 v1 v2 v3 v4 v5 v6 v7 v8 v9 v10 v11 v12 v13 v14 v15 v16 v17 v18 v19 v20 v21 v22 v23 v24 v25 v26 v27 v28 v29 v30
              have ca := HP6.out.ca
              have cb := HP6.out.cb
              have cl := HP6.out.cl
              go_wp2_with fail
              rw [← e1]
              refine (LE1.out (i + 1) k w1 (by omega) (by omega) HP6.out).mono ?_
              rintro _ w7 ⟨rfl, hx7⟩
              have HP7 := Lib.hid (HP6.out.step hx7)
              have HO7 := Lib.hid (Id.own_kept HO6.out (w' := w7) (fun g hg => hx7.1.block g (HO6.out.lt g hg).2 (by have := (HO6.out.lt g hg).1; omega)))
              have HB7 := Lib.hid (HB6.out.trans (hx7.1.below HB6.out.size (fun q hq => by omega)))
              have hs7 : N ≤ w7.heap.size := Nat.le_trans hs6 hx7.1.size
              clear hx7
              rw [hC2]
              have dC : (R == 2 + C2) = true := by
                rw [← hR, ← hC2, HK0.out, List.drop_length, Id.cst_nil', Id.cst_nil', List.length_drop, List.length_drop]
                simp; omega
              obtain ⟨j0, hJ, hy0, hy1, hy2⟩ := info_parts Id.info92
              go_wp2_with (at_builtin; refine Kit.wpList_append_own' _ rfl _ _ 55 rfl N 92 j0 (.agg #[.int .i64 0, .int .i64 0]) 2 16 Try.underlying55 hJ hy0 hy1 hy2 rfl (by decide) _ _ _ rfl (HO7.out.alloc _) ⟨w7.heap.size, 0, none⟩ 1 1 [.int .i64 ((i : Int) + 1), .int .i64 0] rfl rfl (fun j u hu => Id.lit_cell _ _ _ rfl j u hu) (by simp [Value.oneCell']) (by unfold maxLen; omega) (by omega) (by simp; omega) ?_; intro v' w9 hown' hgrow _ hwhere; have hG9 := Lib.hid hgrow; have hO9 := Lib.hid hown'; clear hown' hgrow hwhere)
              go_roundw
              case rel =>
                have xg : Kit.Exc (fun q => N ≤ q) w7 w9 := (((Kit.Exc.refl _ w7).alloc _).grown hG9.out (fun q hq => .inl (HO7.out.lt q hq).1))
                exact ⟨i + 1, k, n + 1, _, _, by go_num, by go_num, rfl, by omega, by omega, by omega, hO9.out, HP2.out.exc HP7.out xg (fun q hq => by rw [hNW]; exact hq), HB7.out.trans (xg.below HB7.out.size (fun q hq => by omega)), Nat.le_trans hs7 xg.size⟩
              case measure => simp [intOf]; omega
        · have HI0 := Lib.hid (show i = a.length by omega)
          have hkb : k < b.length := by omega
          have d1 : decide ((i : Int) < a.length) = false := by simp; omega
          have d2 : decide ((k : Int) < b.length) = true := by simp; omega
          go_wp2_with fail
          refine (HLE.out i k _ hi hk HP.out).mono ?_
          rintro _ w5 ⟨rfl, hx5⟩
          rw [hR]
          have HP5 := Lib.hid (HP.out.step hx5)
          have HO5 := Lib.hid (Id.own_kept HO.out (w' := w5) (fun g hg => hx5.1.block g (HO.out.lt g hg).2 (by have := (HO.out.lt g hg).1; omega)))
          have HB5 := Lib.hid (HB.out.trans (hx5.1.below HB.out.size (fun q hq => by omega)))
          have hs5 : N ≤ w5.heap.size := Nat.le_trans hs hx5.1.size
          have ca5 := HP5.out.ca
          have cb5 := HP5.out.cb
          clear hx5 ca cb cl
          go_upto_region 22 with fail
          clear ca5 cb5
          refine Kit.wp_region_vals 31 [([(15, none)], none, true), ([(2, none)], none, true), ([(78, some 1)], none, true), ([(77, some 0), (79, some 2)], none, true), ([(80, some 3)], none, true), ([(16, none)], some (4, true), false), ([(3, none)], some (4, true), false), ([(83, some 6)], some (4, true), false), ([(82, some 5), (84, some 7)], some (4, true), false), ([(81, some 4), (85, some 8)], none, true), ([(86, some 9)], none, true), ([(17, none)], some (10, true), false), ([(2, none)], some (10, true), false), ([(15, none)], some (10, true), false), ([(89, some 12), (90, some 13)], some (10, true), false), ([(91, some 14)], some (10, true), false), ([(3, none)], some (10, true), false), ([(16, none)], some (10, true), false), ([(93, some 16), (94, some 17)], some (10, true), false), ([(95, some 18)], some (10, true), false), ([(92, some 15), (96, some 19)], some (10, true), false), ([(14, none)], some (10, true), false), ([(15, none)], some (10, true), false), ([(99, some 22)], some (10, true), false), ([(16, none)], some (10, true), false), ([(101, some 24)], some (10, true), false), ([(98, some 21), (100, some 23), (102, some 25)], some (10, true), false), ([(97, some 20), (103, some 26)], some (10, true), false), ([(88, some 11), (104, some 27)], some (10, true), false), ([(87, some 10), (105, some 28)], none, true), ([(106, some 29)], none, true)]
            [some 77, some 78, some 79, some 80, some 81, some 82, some 83, some 84, some 85, some 86, some 87, some 88, some 89, some 90, some 91, some 92, some 93, some 94, some 95, some 96, some 97, some 98, some 99, some 100, some 101, some 102, some 103, some 104, some 105, some 106, some 76] rfl (by kernel_rfl) (by kernel_rfl) (Id.LE a b M) (fun i' v w' => match i' with
              | 0 => v = .int .i64 i
              | 1 => v = .slice aA a.length cA
              | 2 => v = .int .i64 a.length
              | 3 => v = .bool false
              | 4 => v = .bool false
              | 5 => v = undef
              | 6 => v = undef
              | 7 => v = undef
              | 8 => v = undef
              | 9 => v = .bool false
              | 10 => v = .bool false
              | 11 => v = undef
              | 12 => v = undef
              | 13 => v = undef
              | 14 => v = undef
              | 15 => v = undef
              | 16 => v = undef
              | 17 => v = undef
              | 18 => v = undef
              | 19 => v = undef
              | 20 => v = undef
              | 21 => v = undef
              | 22 => v = undef
              | 23 => v = undef
              | 24 => v = undef
              | 25 => v = undef
              | 26 => v = undef
              | 27 => v = undef
              | 28 => v = undef
              | 29 => v = .bool false
              | _ => v = .bool false)
            (fun h k => h.trans k) ⟨(Kit.Exc.refl _ _).drew, fun h => h.kept rfl⟩ (fun _ => Id.LE.refl _ _ _ _) ?_ ?_ ?_
          · intro i' v A B h1 h2 h3
            split at h3 <;> exact h3
          · simp only [List.take_succ_cons, List.take_zero, Kit.StepsV, Kit.VOp, Kit.RdP, true_and, if_true, and_true, if_false, Bool.false_eq_true]
            refine ⟨?_, ?_, ?_, ?_, ?_, ?_, ?_, ?_, ?_, ?_, ?_, ?_, ?_, ?_, ?_, ?_, ?_, ?_, ?_, ?_, ?_, ?_, ?_, ?_, ?_, ?_, ?_, ?_, ?_, ?_, ?_⟩
            · intro ev w1 hx1 hv hc hf hg'
              simp at hv; simp [execOp, hv, go_sem, Kit.UponV, Id.LE.refl]
            · intro ev w1 hx1 hv hc hf hg'
              have P := HP5.out.step hx1
              have s1 := P.ca
              simp at hv; simp [execOp, hv, go_sem, Kit.UponV, Id.LE.refl, s1]
            · intro ev w1 hx1 hv hc hf hg'
              simp [execOp, hv, hc, go_sem, Kit.UponV, Id.LE.refl]
            · intro ev w1 hx1 hv hc hf hg'
              simp [execOp, hv, hc, go_sem, Kit.UponV, Id.LE.refl] <;> omega
            · intro ev w1 hx1 hv hc hf hg'
              simp [execOp, hv, hc, go_sem, Kit.UponV, Id.LE.refl]
            · exact ⟨fun v w _ h => ⟨_, h, rfl⟩, fun _ _ _ _ _ _ _ => by first | trivial | rfl⟩
            · exact ⟨fun v w _ h => ⟨_, h, rfl⟩, fun _ _ _ _ _ _ _ => by first | trivial | rfl⟩
            · exact ⟨fun v w _ h => ⟨_, h, rfl⟩, fun _ _ _ _ _ _ _ => by first | trivial | rfl⟩
            · exact ⟨fun v w _ h => ⟨_, h, rfl⟩, fun _ _ _ _ _ _ _ => by first | trivial | rfl⟩
            · intro ev w1 hx1 hv hc hf hg'
              simp [execOp, hv, hc, go_sem, Kit.UponV, Id.LE.refl]
            · intro ev w1 hx1 hv hc hf hg'
              simp [execOp, hv, hc, go_sem, Kit.UponV, Id.LE.refl]
            · exact ⟨fun v w _ h => ⟨_, h, rfl⟩, fun _ _ _ _ _ _ _ => by first | trivial | rfl⟩
            · exact ⟨fun v w _ h => ⟨_, h, rfl⟩, fun _ _ _ _ _ _ _ => by first | trivial | rfl⟩
            · exact ⟨fun v w _ h => ⟨_, h, rfl⟩, fun _ _ _ _ _ _ _ => by first | trivial | rfl⟩
            · exact ⟨fun v w _ h => ⟨_, h, rfl⟩, fun _ _ _ _ _ _ _ => by first | trivial | rfl⟩
            · exact ⟨fun v w _ h => ⟨_, h, rfl⟩, fun _ _ _ _ _ _ _ => by first | trivial | rfl⟩
            · exact ⟨fun v w _ h => ⟨_, h, rfl⟩, fun _ _ _ _ _ _ _ => by first | trivial | rfl⟩
            · exact ⟨fun v w _ h => ⟨_, h, rfl⟩, fun _ _ _ _ _ _ _ => by first | trivial | rfl⟩
            · exact ⟨fun v w _ h => ⟨_, h, rfl⟩, fun _ _ _ _ _ _ _ => by first | trivial | rfl⟩
            · exact ⟨fun v w _ h => ⟨_, h, rfl⟩, fun _ _ _ _ _ _ _ => by first | trivial | rfl⟩
            · exact ⟨fun v w _ h => ⟨_, h, rfl⟩, fun _ _ _ _ _ _ _ => by first | trivial | rfl⟩
            · exact ⟨fun v w _ h => ⟨_, h, rfl⟩, fun _ _ _ _ _ _ _ => by first | trivial | rfl⟩
            · exact ⟨fun v w _ h => ⟨_, h, rfl⟩, fun _ _ _ _ _ _ _ => by first | trivial | rfl⟩
            · exact ⟨fun v w _ h => ⟨_, h, rfl⟩, fun _ _ _ _ _ _ _ => by first | trivial | rfl⟩
            · exact ⟨fun v w _ h => ⟨_, h, rfl⟩, fun _ _ _ _ _ _ _ => by first | trivial | rfl⟩
            · exact ⟨fun v w _ h => ⟨_, h, rfl⟩, fun _ _ _ _ _ _ _ => by first | trivial | rfl⟩
            · exact ⟨fun v w _ h => ⟨_, h, rfl⟩, fun _ _ _ _ _ _ _ => by first | trivial | rfl⟩
            · exact ⟨fun v w _ h => ⟨_, h, rfl⟩, fun _ _ _ _ _ _ _ => by first | trivial | rfl⟩
            · exact ⟨fun v w _ h => ⟨_, h, rfl⟩, fun _ _ _ _ _ _ _ => by first | trivial | rfl⟩
            · intro ev w1 hx1 hv hc hf hg'
              simp [execOp, hv, hc, go_sem, Kit.UponV, Id.LE.refl]
            · intro ev w1 hx1 hv hc hf hg'
              simp [execOp, hv, hc, go_sem, Kit.UponV, Id.LE.refl]
          · intro vs w1 hv hx1
            have v0 : vs 0 = _ := hv 0 (by omega)
            have v1 : vs 1 = _ := hv 1 (by omega)
            have v2 : vs 2 = _ := hv 2 (by omega)
            have v3 : vs 3 = _ := hv 3 (by omega)
            have v4 : vs 4 = _ := hv 4 (by omega)
            have v5 : vs 5 = _ := hv 5 (by omega)
            have v6 : vs 6 = _ := hv 6 (by omega)
            have v7 : vs 7 = _ := hv 7 (by omega)
            have v8 : vs 8 = _ := hv 8 (by omega)
            have v9 : vs 9 = _ := hv 9 (by omega)
            have v10 : vs 10 = _ := hv 10 (by omega)
            have v11 : vs 11 = _ := hv 11 (by omega)
            have v12 : vs 12 = _ := hv 12 (by omega)
            have v13 : vs 13 = _ := hv 13 (by omega)
            have v14 : vs 14 = _ := hv 14 (by omega)
            have v15 : vs 15 = _ := hv 15 (by omega)
            have v16 : vs 16 = _ := hv 16 (by omega)
            have v17 : vs 17 = _ := hv 17 (by omega)
            have v18 : vs 18 = _ := hv 18 (by omega)
            have v19 : vs 19 = _ := hv 19 (by omega)
            have v20 : vs 20 = _ := hv 20 (by omega)
            have v21 : vs 21 = _ := hv 21 (by omega)
            have v22 : vs 22 = _ := hv 22 (by omega)
            have v23 : vs 23 = _ := hv 23 (by omega)
            have v24 : vs 24 = _ := hv 24 (by omega)
            have v25 : vs 25 = _ := hv 25 (by omega)
            have v26 : vs 26 = _ := hv 26 (by omega)
            have v27 : vs 27 = _ := hv 27 (by omega)
            have v28 : vs 28 = _ := hv 28 (by omega)
            have v29 : vs 29 = _ := hv 29 (by omega)
            have v30 : vs 30 = _ := hv 30 (by omega)
            clear hv
            simp only [Kit.putD, List.getD_cons_zero, List.getD_cons_succ, Act.put, v0, v1, v2, v3, v4, v5, v6, v7, v8, v9, v10, v11, v12, v13, v14, v15, v16, v17, v18, v19, v20, v21, v22, v23, v24, v25, v26, v27, v28, v29, v30, List.drop_succ_cons, List.drop_zero]
            go_simp
            have HP6 := Lib.hid (HP5.out.step hx1)
            have HO6 := Lib.hid (Id.own_kept HO5.out (w' := w1) (fun g hg => hx1.1.block g (HO5.out.lt g hg).2 (by have := (HO5.out.lt g hg).1; omega)))
            have HB6 := Lib.hid (HB5.out.trans (hx1.1.below HB5.out.size (fun q hq => by omega)))
            have hs6 : N ≤ w1.heap.size := Nat.le_trans hs5 hx1.1.size
            clear hx1 v0 v1 v2 v3 v4 v5 v6 v7 v8 v9 v10 v11 v12 v13 v14 v15 v16 v17 v18 v19 v20 v21 v22 v23 v24 v25 v26 v27 v28 v29 v30
            have ca := HP6.out.ca
            have cb := HP6.out.cb
            have cl := HP6.out.cl
            obtain ⟨j0, hJ, hy0, hy1, hy2⟩ := info_parts Id.info92
            go_wp2_with (at_builtin; refine Kit.wpList_append_own' _ rfl _ _ 55 rfl N 92 j0 (.agg #[.int .i64 0, .int .i64 0]) 2 16 Try.underlying55 hJ hy0 hy1 hy2 rfl (by decide) _ _ _ rfl (HO6.out.alloc _) ⟨w1.heap.size, 0, none⟩ 1 1 [.int .i64 0, .int .i64 ((k : Int) + 1)] rfl rfl (fun j u hu => Id.lit_cell _ _ _ rfl j u hu) (by simp [Value.oneCell']) (by unfold maxLen; omega) (by omega) (by simp; omega) ?_; intro v' w9 hown' hgrow _ hwhere; have hG9 := Lib.hid hgrow; have hO9 := Lib.hid hown'; clear hown' hgrow hwhere)
            go_roundw
            case rel =>
              have xg : Kit.Exc (fun q => N ≤ q) w1 w9 := (((Kit.Exc.refl _ w1).alloc _).grown hG9.out (fun q hq => .inl (HO6.out.lt q hq).1))
              exact ⟨i, k + 1, n + 1, _, _, by go_num, by go_num, rfl, by omega, by omega, by omega, hO9.out, HP2.out.exc HP6.out xg (fun q hq => by rw [hNW]; exact hq), HB6.out.trans (xg.below HB6.out.size (fun q hq => by omega)), Nat.le_trans hs6 xg.size⟩
            case measure => simp [intOf]; omega
end Go.Proofs.Ytdaedjmkolcliaa
