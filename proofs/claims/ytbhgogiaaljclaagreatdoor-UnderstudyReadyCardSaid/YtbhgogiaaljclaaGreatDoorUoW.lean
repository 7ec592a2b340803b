/- Walks: package options: within (what the tolerance lets through, as an iterator). -/
import Derived.Test.YtbhgogiaaljclaaGreatDoorUoD
import Derived.Test.YtbhgogiaaljclaaGreatDoorKxb
set_option linter.unusedSimpArgs false
set_option linter.unusedVariables false
set_option maxRecDepth 100000
set_option maxHeartbeats 8000000
namespace Go.Proofs.YtbhgogiaaljclaaGreatDoor
open Go.RowKit
namespace Kit
structure Kp (Z : Nat → Prop) (W A : World) : Prop where
 size : W.heap.size ≤ A.heap.size
 blk : ∀ k, Z k → k < W.heap.size ∧ A.heap[k]? = W.heap[k]?
theorem Kp.refl {Z : Nat → Prop} {W : World} (h : ∀ k, Z k → k < W.heap.size) : Kp Z W W := ⟨Nat.le_refl _, fun k hk => ⟨h k hk, rfl⟩⟩
theorem Kp.exc {Z S : Nat → Prop} {W A B : World} (h : Kp Z W A) (hx : Exc S A B) (hS : ∀ k, Z k → ¬ S k) : Kp Z W B :=
 ⟨Nat.le_trans h.size hx.size, fun k hk => ⟨(h.blk k hk).1, (hx.block k (Nat.lt_of_lt_of_le (h.blk k hk).1 h.size) (hS k hk)).trans (h.blk k hk).2⟩⟩
theorem Kp.then {Z : Nat → Prop} {W A B : World} (h : Kp Z W A) (k : Below A.heap.size A B) : Kp Z W B :=
 h.exc (S := fun _ => False) ((Exc.refl _ A).then k) (fun _ _ h => h)
theorem Kp.cell {Z : Nat → Prop} {W A : World} (h : Kp Z W A) {p : Addr} {v : Value} (hp : Z p.block) (hc : W.cell? p = some v) : A.cell? p = some v := (World.cell?_of_block (h.blk _ hp).2).trans hc
end Kit
namespace Uo
abbrev enc (x : Re × Int) : Array Value := #[.agg #[.int .i64 x.1.1, .int .i64 x.1.2.1, .int .i64 x.1.2.2.1, .bool x.1.2.2.2], .int .i64 x.2]
def Zb (BT BK BU k : Nat) : Prop := k = BT ∨ k = BK ∨ k = BU ∨ k = 1
end Uo
theorem uo_iter (n : Nat) (hn : 1 ≤ n) (BT BK BU : Nat) (A BB C : Int) (s : Ex.Sg) (a b m : Nat) (hd : s.dir = a) (hl : s.level = b) (ha : a < 9) (hb : 0 < b) (hb3 : b < 4) (hm : m < 4) (hA : 0 ≤ A) (hA2 : A ≤ 32768) (hC : 0 ≤ C) (hC2 : C ≤ 32768) (w : World)
  (hF : Uo.Flat w) (bT : w.cell? ⟨BT, 0, none⟩ = some (.int .i64 m)) (zT : BT < w.heap.size) (zK : BK < w.heap.size) (zU : BU < w.heap.size)
  (k0 : w.cell? ⟨BK, 0, none⟩ = some (.int .i64 s.id)) (k6 : w.cell? ⟨BK, 6, none⟩ = some (.int .i64 s.dir)) (k7 : w.cell? ⟨BK, 7, none⟩ = some (.int .i64 s.level))
  (u0 : w.cell? ⟨BU, 0, none⟩ = some (.int .i64 A)) (u2 : w.cell? ⟨BU, 2, none⟩ = some (.int .i64 C)) :
  Kit.SeqR Fence.wide n Tryz.prog 196 #[.pointer (some ⟨BT, 0, none⟩), .pointer (some ⟨BK, 0, none⟩), .pointer (some ⟨BU, 0, none⟩)] Uo.enc (fun _ => False) (Uo.Zb BT BK BU) (fun xs => xs = Uo.prs A C s.id a b m) (fun _ => True) (fun pre x => pre.length ≤ 100 ∧ x ∈ Uo.prs A C s.id a b m) w := by
 intro l J Jx Y0 W hW hl1 hl2 hY0 hJ hJx hY h0
 have hZ : ∀ k, Uo.Zb BT BK BU k → k < w.heap.size := fun k hk => by
  have := hF.1
  rcases hk with rfl | rfl | rfl | rfl <;> assumption
 have hKW : Kit.Kp (Uo.Zb BT BK BU) W W := Kit.Kp.refl (fun k hk => Nat.lt_of_lt_of_le (hZ k hk) hW.size)
 have hFW := hF.kept hW nlr
 replace bT := (hW.cell (p := ⟨BT, 0, none⟩) zT).trans bT
 replace k0 := (hW.cell (p := ⟨BK, 0, none⟩) zK).trans k0
 replace k6 := (hW.cell (p := ⟨BK, 6, none⟩) zK).trans k6
 replace k7 := (hW.cell (p := ⟨BK, 7, none⟩) zK).trans k7
 replace u0 := (hW.cell (p := ⟨BU, 0, none⟩) zU).trans u0
 replace u2 := (hW.cell (p := ⟨BU, 2, none⟩) zU).trans u2
 rw [hd] at k6
 rw [hl] at k7
 have HY := qh hY
 have HJ := qh hJ
 have HJX := qh hJx
 have HY0 := qh hY0
 have HZ := qh hZ
 have HFW := qh hFW
 have nl : ∀ k, Uo.Zb BT BK BU k → k ≠ l := fun k hk e => by have := HZ.out k hk; omega
 have NL := qh nl
 have KC : ∀ X, Kit.Kp (Uo.Zb BT BK BU) W X → Uo.Flat X ∧ X.cell? ⟨BT, 0, none⟩ = some (.int .i64 m) ∧ X.cell? ⟨BK, 0, none⟩ = some (.int .i64 s.id) ∧ X.cell? ⟨BK, 6, none⟩ = some (.int .i64 a) ∧ X.cell? ⟨BK, 7, none⟩ = some (.int .i64 b) ∧ X.cell? ⟨BU, 0, none⟩ = some (.int .i64 A) ∧ X.cell? ⟨BU, 2, none⟩ = some (.int .i64 C) := fun X h =>
  ⟨⟨Nat.lt_of_lt_of_le hFW.1 h.size, fun k hk => ⟨h.cell (.inr (.inr (.inr rfl))) (hFW.2 k hk).1, h.cell (.inr (.inr (.inr rfl))) (hFW.2 k hk).2⟩⟩,
   h.cell (.inl rfl) bT, h.cell (.inr (.inl rfl)) k0, h.cell (.inr (.inl rfl)) k6, h.cell (.inr (.inl rfl)) k7, h.cell (.inr (.inr (.inl rfl))) u0, h.cell (.inr (.inr (.inl rfl))) u2⟩
 have HKC := qh KC
 have HKW := qh hKW
 have pm : m ≤ 3 := by omega
 clear hY hJ hJx hZ hFW nl KC hKW bT k0 k6 k7 u0 u2 hF hd hl
 refine callsIn_of_wp Tryz.func196 rfl trivial ?_ rfl
 simp only [Tryz.ntmps196, List.size_toArray, List.length_cons, List.length_nil, Nat.reduceAdd, Nat.reduceSub, Array.replicate_succ, Array.replicate_zero, List.push_toArray, List.append_toArray, List.nil_append, List.cons_append]
 gi_wp2
 gi_loopw [5] (fun v5 wr => ∃ (d : Nat) (Y : Nat → Prop), v5 = .int .i64 d ∧ d ≤ 9 ∧ J (Uo.pre A C s.id a b m d) Y wr ∧ Hid (Kit.Kp (Uo.Zb BT BK BU) W wr) ∧ Hid (∀ k, Y k → ¬ Uo.Zb BT BK BU k))
  (fun v5 _ => 9 - (intOf v5).toNat)
 case atStart => exact ⟨0, Y0, rfl, by omega, h0, HKW.out, fun k hk => (HY0.out k hk).2.2⟩
 case round =>
  obtain ⟨d, Y, rfl, hd, hj, HK, HYK⟩ := hrel
  have HJD := qh hj
  clear hj
  by_cases hlt : d < 9
  ·have hltz : (d : Int) ≤ 8 := by omega
   gi_wp2
   gi_loopw [6] (fun v6 wx => ∃ (i : Nat) (Y : Nat → Prop), v6 = .int .i64 ((i : Int) + 1) ∧ i ≤ m ∧ J (Uo.pre A C s.id a b m d ++ Uo.row A C s.id a b d i) Y wx ∧ Hid (Kit.Kp (Uo.Zb BT BK BU) W wx) ∧ Hid (∀ k, Y k → ¬ Uo.Zb BT BK BU k))
    (fun v6 _ => m + 1 - (intOf v6).toNat)
   case atStart => exact ⟨0, Y, rfl, Nat.zero_le _, by rw [Uo.row_zero, List.append_nil]; exact HJD.out, HK.out, HYK.out⟩
   case round =>
    obtain ⟨i, Y, rfl, hi, hj, HK, HYK⟩ := hrel
    obtain ⟨_, bT, k0, k6, k7, u0, u2⟩ := HKC.out _ HK.out
    have HJD := qh hj
    clear hj
    by_cases him : i < m
    ·have himz : (i : Int) + 1 ≤ m := by omega

     have hFl := (HKC.out _ HK.out).1
     have hD : Calls Tryz.prog 197 #[.int .i64 a, .int .i64 b, .int .i64 d, .int .i64 ((i : Int) + 1)] wr fun e w' => e = .returned (.tuple #[.int .i64 (Uo.dt a b d (i + 1)), .bool (Uo.nz a b && Uo.nz d (i + 1))]) ∧ Below wr.heap.size wr w' :=
      uo_dot a b d (i + 1) wr ha hb hb3 hlt (Nat.succ_pos i) omg hFl
     have dbd := Uo.dt_bd a ha b hb3 hb d hlt (i + 1) omg (Nat.succ_pos i)
     have hmem : Uo.tol A C a b d (i + 1) = true → Uo.one s.id a b d (i + 1) ∈ Uo.prs A C s.id a b m := fun h => Uo.mem_prs.2 ⟨d, i, hlt, him, h, rfl⟩
     have hit1 : Uo.tol A C a b d (i + 1) = true → Uo.it A C s.id a b d (i + 1) = [Uo.one s.id a b d (i + 1)] := fun h => by unfold Uo.it; rw [if_pos h]
     have hit0 : Uo.tol A C a b d (i + 1) = false → Uo.it A C s.id a b d (i + 1) = [] := fun h => by unfold Uo.it; rw [if_neg (by simp [h])]
     have htol : Uo.tol A C a b d (i + 1) = (Uo.own a b d (i + 1) || ((Uo.nz a b && Uo.nz d (i + 1)) && decide (A * 841 * 841 ≤ Uo.dt a b d (i + 1) * C))) := rfl
     have hone : Uo.one s.id a b d (i + 1) = ((s.id, (d : Int), (i : Int) + 1, false), if Uo.own a b d (i + 1) = true then 1073741824 else Uo.dt a b d (i + 1)) := rfl
     have hown : Uo.own a b d (i + 1) = (decide (d = a) && decide (i + 1 = b)) := by unfold Uo.own; rfl
     have hrow : Uo.row A C s.id a b d (i + 1) = Uo.row A C s.id a b d i ++ Uo.it A C s.id a b d (i + 1) := Uo.row_succ ..
     generalize Uo.it A C s.id a b d (i + 1) = IT at hit1 hit0 hrow
     generalize Uo.tol A C a b d (i + 1) = TO at htol hmem hit1 hit0
     generalize Uo.one s.id a b d (i + 1) = ON at hone hmem hit1
     generalize Uo.own a b d (i + 1) = OW at htol hone hown
     generalize Uo.dt a b d (i + 1) = D at hD dbd htol hone
     generalize (Uo.nz a b && Uo.nz d (i + 1)) = Q at hD htol
     have pbd : -23176183808 ≤ D * C ∧ D * C ≤ 23176183808 := by
      constructor
      ·have h1 := Int.mul_le_mul_of_nonneg_right (c := C) (show -707281 ≤ D by omega) hC
       omega
      ·have h1 := Int.mul_le_mul_of_nonneg_right (c := C) (show D ≤ 707281 by omega) hC
       omega
     have hlen : (Uo.pre A C s.id a b m d ++ Uo.row A C s.id a b d i).length ≤ 100 := by
      have h1 := Uo.pre_len A C s.id a b m d
      have h2 := Uo.row_len A C s.id a b d i
      have h3 : d * m ≤ 8 * 3 := Nat.mul_le_mul omg omg
      rw [List.length_append]
      omega
     have HLEN := qh hlen
     clear hlen
     have HROW := qh hrow
     have HONE := qh hone
     have HMEM := qh hmem
     have HIT1 := qh hit1
     have HIT0 := qh hit0
     clear hrow hone hmem hit1 hit0 hFl
     gi_wp2
     refine ⟨trivial, CallsIn.mono (callsIn_wide.2 hD) ?_⟩
     rintro e w1 ⟨rfl, hb1⟩
     have HK1 := qh (HK.out.then hb1)
     have j1 := HJ.out _ _ _ _ HJD.out ((Kit.Exc.refl _ wr).then hb1)
     have HJ1 := qh j1
     clear j1 hD hb1 bT k0 k6 k7 u0 u2
     obtain ⟨_, bT, k0, k6, k7, u0, u2⟩ := HKC.out _ HK1.out
     have EY : ∀ (Y3 : Nat → Prop) (W3 : World), Kit.Exc (fun b => Y b ∨ b = l) w1 W3 → (∀ b, Y3 b → (Y b ∨ w1.heap.size ≤ b) ∧ b < W3.heap.size) → Hid (Kit.Kp (Uo.Zb BT BK BU) W W3) ∧ Hid (∀ k, Y3 k → ¬ Uo.Zb BT BK BU k) := fun Y3 W3 hx hy =>
      ⟨HK1.out.exc hx (fun k hk h => h.elim (fun h => HYK.out k h hk) (fun e => NL.out k hk e)), fun k hk => (hy k hk).1.elim (HYK.out k) (fun h hz => by
       have h1 := (HK1.out.blk k hz).1
       have h2 := HK1.out.size
       omega)⟩
     have HEY := qh EY
     clear EY
     by_cases h1 : d = a
     ·have c1 : ((d : Int) == (a : Int)) = true := by simp [h1]
      by_cases h2 : i + 1 = b
      ·have c2 : ((i : Int) + 1 == (b : Int)) = true := by simp; omega
       have hO : OW = true := by rw [hown]; simp [h1, h2]
       have HT := qh (show TO = true by rw [htol, hO]; rfl)
       have HX := qh (show ON = ((s.id, (d : Int), (i : Int) + 1, false), 1073741824) by rw [HONE.out, hO]; rfl)
       clear htol hown hO h1 h2
       obtain ⟨fn, tmps, assign, body, hyy, hR⟩ := HY.out _ ((s.id, (d : Int), (i : Int) + 1, false), 1073741824) Y _ HJ1.out ⟨HLEN.out, (by rw [← HX.out]; exact HMEM.out HT.out)⟩
       dsimp only [Uo.enc] at hyy hR
       gi_wp2
       refine hR.mono ?_
       rintro e W3 ⟨Y3, hx3, hy3, (⟨rfl, hj3⟩ | ⟨rfl, hj3⟩)⟩
       ·obtain ⟨HK3, HYK3⟩ := HEY.out Y3 W3 hx3 hy3
        have HJ3 := qh hj3
        clear hx3 hy3 hj3 hyy hR
        gi_wp2
        go_roundw
        case rel => exact ⟨i + 1, Y3, by go_num, by omega, by rw [HROW.out, HIT1.out HT.out, HX.out, ← List.append_assoc]; exact HJ3.out, HK3.out, HYK3.out⟩
        case measure => simp [intOf]; omega
       ·have HJ3 := qh hj3
        clear hx3 hy3 hj3 hyy hR
        gi_wp2
        refine bodyPost_ret (results_none rfl _ _ _) rfl ?_
        exact ⟨⟨_, rfl⟩, Y3, .inr ⟨_, trivial, HJ3.out⟩⟩
      ·have c2 : ((i : Int) + 1 == (b : Int)) = false := by simp; omega
       have hO : OW = false := by rw [hown]; simp [h2]
       rcases Q with _ | _
       ·have HT := qh (show TO = false by rw [htol, hO]; rfl)
        clear htol hown hO h1 h2
        gi_wp2
        refine ⟨(fun f h => by cases h), ?_⟩
        gi_wp2
        go_roundw
        case rel => exact ⟨i + 1, Y, by go_num, by omega, by rw [HROW.out, HIT0.out HT.out, List.append_nil]; exact HJ1.out, HK1.out, HYK.out⟩
        case measure => simp [intOf]; omega
       ·rcases hge : decide (A * 841 * 841 ≤ D * C) with _ | _
        ·have HT := qh (show TO = false by rw [htol, hO, hge]; rfl)
         clear htol hown hO h1 h2
         gi_wp2
         refine ⟨(fun f h => by cases h), ?_⟩
         gi_wp2
         go_roundw
         case rel => exact ⟨i + 1, Y, by go_num, by omega, by rw [HROW.out, HIT0.out HT.out, List.append_nil]; exact HJ1.out, HK1.out, HYK.out⟩
         case measure => simp [intOf]; omega
        ·have HT := qh (show TO = true by rw [htol, hO, hge]; rfl)
         have HX := qh (show ON = ((s.id, (d : Int), (i : Int) + 1, false), D) by rw [HONE.out, hO]; rfl)
         clear htol hown hO h1 h2
         obtain ⟨fn, tmps, assign, body, hyy, hR⟩ := HY.out _ ((s.id, (d : Int), (i : Int) + 1, false), D) Y _ HJ1.out ⟨HLEN.out, (by rw [← HX.out]; exact HMEM.out HT.out)⟩
         dsimp only [Uo.enc] at hyy hR
         gi_wp2
         refine hR.mono ?_
         rintro e W3 ⟨Y3, hx3, hy3, (⟨rfl, hj3⟩ | ⟨rfl, hj3⟩)⟩
         ·obtain ⟨HK3, HYK3⟩ := HEY.out Y3 W3 hx3 hy3
          have HJ3 := qh hj3
          clear hx3 hy3 hj3 hyy hR
          gi_wp2
          go_roundw
          case rel => exact ⟨i + 1, Y3, by go_num, by omega, by rw [HROW.out, HIT1.out HT.out, HX.out, ← List.append_assoc]; exact HJ3.out, HK3.out, HYK3.out⟩
          case measure => simp [intOf]; omega
         ·have HJ3 := qh hj3
          clear hx3 hy3 hj3 hyy hR
          gi_wp2
          refine bodyPost_ret (results_none rfl _ _ _) rfl ?_
          exact ⟨⟨_, rfl⟩, Y3, .inr ⟨_, trivial, HJ3.out⟩⟩
     ·have c1 : ((d : Int) == (a : Int)) = false := by simp; omega
      have hO : OW = false := by rw [hown]; simp [h1]
      rcases Q with _ | _
      ·have HT := qh (show TO = false by rw [htol, hO]; rfl)
       clear htol hown hO h1
       gi_wp2
       refine ⟨(fun f h => by cases h), ?_⟩
       gi_wp2
       go_roundw
       case rel => exact ⟨i + 1, Y, by go_num, by omega, by rw [HROW.out, HIT0.out HT.out, List.append_nil]; exact HJ1.out, HK1.out, HYK.out⟩
       case measure => simp [intOf]; omega
      ·rcases hge : decide (A * 841 * 841 ≤ D * C) with _ | _
       ·have HT := qh (show TO = false by rw [htol, hO, hge]; rfl)
        clear htol hown hO h1
        gi_wp2
        refine ⟨(fun f h => by cases h), ?_⟩
        gi_wp2
        go_roundw
        case rel => exact ⟨i + 1, Y, by go_num, by omega, by rw [HROW.out, HIT0.out HT.out, List.append_nil]; exact HJ1.out, HK1.out, HYK.out⟩
        case measure => simp [intOf]; omega
       ·have HT := qh (show TO = true by rw [htol, hO, hge]; rfl)
        have HX := qh (show ON = ((s.id, (d : Int), (i : Int) + 1, false), D) by rw [HONE.out, hO]; rfl)
        clear htol hown hO h1
        obtain ⟨fn, tmps, assign, body, hyy, hR⟩ := HY.out _ ((s.id, (d : Int), (i : Int) + 1, false), D) Y _ HJ1.out ⟨HLEN.out, (by rw [← HX.out]; exact HMEM.out HT.out)⟩
        dsimp only [Uo.enc] at hyy hR
        gi_wp2
        refine hR.mono ?_
        rintro e W3 ⟨Y3, hx3, hy3, (⟨rfl, hj3⟩ | ⟨rfl, hj3⟩)⟩
        ·obtain ⟨HK3, HYK3⟩ := HEY.out Y3 W3 hx3 hy3
         have HJ3 := qh hj3
         clear hx3 hy3 hj3 hyy hR
         gi_wp2
         go_roundw
         case rel => exact ⟨i + 1, Y3, by go_num, by omega, by rw [HROW.out, HIT1.out HT.out, HX.out, ← List.append_assoc]; exact HJ3.out, HK3.out, HYK3.out⟩
         case measure => simp [intOf]; omega
        ·have HJ3 := qh hj3
         clear hx3 hy3 hj3 hyy hR
         gi_wp2
         refine bodyPost_ret (results_none rfl _ _ _) rfl ?_
         exact ⟨⟨_, rfl⟩, Y3, .inr ⟨_, trivial, HJ3.out⟩⟩
    ·obtain rfl : i = m := by omega
     gi_wp2
     go_roundw
     case rel => exact ⟨d + 1, Y, by go_num, by omega, by rw [Uo.pre_succ]; exact HJD.out, HK.out, HYK.out⟩
     case measure => simp [intOf]; omega
  ·obtain rfl : d = 9 := by omega
   gi_wp2
   go_end0
   exact ⟨⟨_, rfl⟩, Y, .inl ⟨_, rfl, HJD.out⟩⟩
end Go.Proofs.YtbhgogiaaljclaaGreatDoor
