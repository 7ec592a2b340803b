/- Walks: package body: Valid. -/
import Derived.Test.YtbhgogiaaljclaaGreatDoorUvA
import Derived.Test.YtbhgogiaaljclaaGreatDoorUna
import Derived.Test.YtbhgogiaaljclaaGreatDoorKxb
namespace Go.Proofs.YtbhgogiaaljclaaGreatDoor
set_option linter.unusedVariables false
set_option linter.unusedSimpArgs false
open Go.RowKit
namespace Un
theorem wpList_name {P : Program} {ops : Array Oper} {Q : Exit → Act → World → Prop} {l : List Oper} {a : Act} {w : World} (h : ∀ W, W = w → wpList P ops Q l a W) : wpList P ops Q l a w := h w rfl
theorem below_setCells {w : World} {n b : Nat} (hb : n ≤ b) : ∀ (vs : List Value) (o : Nat) {w' : World}, Below n w w' → Below n w (w'.setCells b o vs)
  | [], _, _, h => h
  | v :: vs, o, _, h => below_setCells hb vs (o + 1) (h.setCell (by simpa using hb) v)
theorem nix (i : Nat) (h : i < 6) : ∀ W, (Instr.index 158 (.agg ruA) (.int .i64 ((i : Int) + 1))).run Tryz.prog W = .ok (.agg (ruL i).toArray) W := fun W => by
  rcases six h with rfl | rfl | rfl | rfl | rfl | rfl <;> kernel_rfl
theorem there_kept {w w' : World} {b o n : Nat} (h : w.there b o n) (hb : Below w.heap.size w w') (hB : b < w.heap.size) : w'.there b o n := fun j hj => by
  obtain ⟨h1, h2⟩ := h j hj
  exact ⟨by rw [hb.cell (p := ⟨b, o + j, none⟩) hB]; exact h1, by rw [hb.frozen (p := ⟨b, o + j, none⟩) hB]; exact h2⟩
theorem ruL_one (i : Nat) : (ruL i).toArray.all (·.oneCell') = true := by simp [ruL, Value.oneCell']
end Un
theorem bd_within1_b (lo up x : Int) (b cap : Nat) (w : World) (hx : w.cell? ⟨b, 0, none⟩ = some (.int .i64 x)) :
    Calls Tryz.prog 88 #[.int .i64 lo, .int .i64 up, .slice (some ⟨b, 0, none⟩) 1 cap] w fun e w' => e = .returned (.bool (Tp.inb x lo up)) ∧ Below w.heap.size w w' :=
  (bd_within1 lo up x b cap w hx).mono fun _ _ ⟨h1, h2⟩ => ⟨h1, h2 ▸ Below.refl _ _⟩
set_option maxRecDepth 100000 in
set_option maxHeartbeats 4000000 in
theorem bd_valid (k l n : Int) (w : World) : Calls Tryz.prog 95 #[.agg #[.int .i64 k, .int .i64 l, .int .i64 n]] w fun e w' => e = .returned (.bool (Un.vld k l n)) ∧ Below w.heap.size w w' := by
  rcases hk : Tp.inb k 1 6 with _ | _
  · have hv : Un.vld k l n = false := by
      unfold Un.vld
      rw [if_neg]
      intro h
      rw [(Tp.inb_iff k 1 6).2 h] at hk
      cases hk
    have HV := Lib.hid hv
    have HK := Lib.hid (fun b W hx => (hk ▸ bd_within1 1 6 k b 1 W hx : Calls Tryz.prog 88 #[.int .i64 1, .int .i64 6, .slice (some ⟨b, 0, none⟩) 1 1] W fun e w' => e = .returned (.bool false) ∧ w' = W))
    clear hv hk
    go_enter Tryz.func95, Tryz.ntmps95
    go_wp2_with (go_at_call 88; refine (HK.out _ _ (by simp [go_sem])).mono ?_; rintro e w' ⟨rfl, rfl⟩)
    go_ret
    exact ⟨by rw [HV.out]; rfl, by (repeat' first | (with_reducible first | exact Below.refl _ _ | assumption | refine Kit.below_drewN ?_ _ | refine Below.drew ?_ | refine Below.alloc ?_ ?_ _ | refine Below.setCell ?_ ?_ _ | exact Nat.le_refl _) | omega | (simp; omega) | (simp; done) | (apply Below.size; assumption))⟩
  · have hki := (Tp.inb_iff k 1 6).1 hk
    obtain ⟨i, rfl⟩ : ∃ i : Nat, k = (i : Int) + 1 := ⟨(k - 1).toNat, by omega⟩
    have hi : i < 6 := by omega
    have hv : Un.vld ((i : Int) + 1) l n = (Tp.inb l 0 (Un.rM i) && Tp.inb n (Un.rLo i) (Un.rUp i)) := by
      unfold Un.vld
      rw [if_pos hki, show ((i : Int) + 1 - 1).toNat = i by omega]
    rw [hv]
    obtain ⟨r, hr⟩ : ∃ r, (Tp.inb l 0 (Un.rM i) && Tp.inb n (Un.rLo i) (Un.rUp i)) = r := ⟨_, rfl⟩
    rw [hr]
    have HK := Lib.hid (fun b W hx => (hk ▸ bd_within1 1 6 ((i : Int) + 1) b 1 W hx : Calls Tryz.prog 88 #[.int .i64 1, .int .i64 6, .slice (some ⟨b, 0, none⟩) 1 1] W fun e w' => e = .returned (.bool true) ∧ w' = W))
    have HX := Lib.hid (Un.nix i hi)
    have HIZ := Lib.hid (show (Tryz.prog.info? 157).map (·.size) = some (Un.ruL i).toArray.size from by show _ = some 4; kernel_rfl)
    have H1 := Lib.hid (Un.ruL_one i)
    clear hk hv hki
    go_enter Tryz.func95, Tryz.ntmps95
    go_upto_region 3 with (go_at_call 88; refine (HK.out _ _ (by simp [go_sem])).mono ?_; rintro e w' ⟨rfl, rfl⟩)
    refine Kit.wp_name ?_
    intro W1 hW1
    have q0 : W1.cell? ⟨w.heap.size, 0, none⟩ = some (.int .i64 ((i : Int) + 1)) := by rw [hW1]; simp [go_sem]
    have q1 : W1.cell? ⟨w.heap.size, 1, none⟩ = some (.int .i64 l) := by rw [hW1]; simp [go_sem]
    have q2 : W1.cell? ⟨w.heap.size, 2, none⟩ = some (.int .i64 n) := by rw [hW1]; simp [go_sem]
    have hz1 : w.heap.size < W1.heap.size := by rw [hW1]; simp; omega
    have HB1 := Lib.hid (show Below w.heap.size w W1 by rw [hW1]; (repeat' first | (with_reducible first | exact Below.refl _ _ | assumption | refine Kit.below_drewN ?_ _ | refine Below.drew ?_ | refine Below.alloc ?_ ?_ _ | refine Below.setCell ?_ ?_ _ | exact Nat.le_refl _) | omega | (simp; omega) | (simp; done) | (apply Below.size; assumption)))
    clear hW1 HK
    refine Kit.wp_region_vals 5 [([], none, true), ([(1, none)], none, true), ([(10, some 1)], none, true), ([(9, some 0), (11, some 2)], none, true), ([], none, true)]
      [some 9, some 10, some 11, some 12, some 3] rfl (by kernel_rfl) (by kernel_rfl) (fun A B => Below A.heap.size A B) (fun q v w' => match q with
      | 0 => v = .agg Un.ruA
      | 1 => v = .pointer (some ⟨w.heap.size, 0, none⟩)
      | 2 => v = .int .i64 ((i : Int) + 1)
      | 3 => v = .agg (Un.ruL i).toArray
      | _ => ∃ b, v = .pointer (some ⟨b, 0, none⟩) ∧ w'.there b 0 4 ∧ W1.heap.size ≤ b ∧ b < w'.heap.size) (fun h k => h.trans (k.mono h.size)) (Below.drew (Below.refl _ _)) (fun _ => Below.refl _ _) ?_ ?_ ?_
    · intro q v A B h1 h2 h3
      split at h3 <;> try exact h3
      obtain ⟨b, e, h5, h6, h7⟩ := h3
      exact ⟨b, e, Un.there_kept h5 h2 h7, h6, Nat.lt_of_lt_of_le h7 h2.size⟩
    · simp only [List.take_succ_cons, List.take_zero, Kit.StepsV, Kit.VOp, Kit.RdP, true_and, if_true, and_true]
      refine ⟨?_, ?_, ?_, ?_, ?_⟩
      all_goals intro ev w1 hx hv hc hf hg
      · simp [execOp, hc, hf, go_sem, Kit.UponV]
        refine (bd_rules w1).mono ?_
        rintro e w' ⟨rfl, hb⟩
        exact ⟨_, rfl, rfl, hb⟩
      · simp at hv; simp [execOp, hv, hc, go_sem, Kit.UponV, Below.refl]
      · have so := (hx.cell (p := ⟨w.heap.size, 0, none⟩) hz1).trans q0
        simp [execOp, hv, hc, so, go_sem, Kit.UponV, Below.refl]
      · obtain ⟨hv1, hv2⟩ := hv
        have hi2 := HX.out w1
        simp [execOp, hv1, hv2, hc, hi2, Kit.UponV, Below.refl]
      · simp [execOp, hv, hc, go_sem, Kit.UponV]
        exact ⟨⟨Kit.there_alloc w1 _ #[.nilFunc, .int .i64 0, .int .i64 0, .int .i64 0], hx.size⟩, (Below.refl _ _).alloc (Nat.le_refl _) _⟩
    · intro vs w2 hv hx
      obtain ⟨b, v4, h4, hb4, hb4'⟩ := hv 4 (by omega)
      have v3 : vs 3 = .agg (Un.ruL i).toArray := hv 3 (by omega)
      clear hv
      simp only [Kit.putD, List.getD_cons_zero, List.getD_cons_succ, Act.put, v3, v4, List.drop_succ_cons, List.drop_zero]
      go_simp
      refine Kit.wpList_store_at (ty := 157) (x := .tmp 3) (y := .tmp 12) (p := ⟨b, 0, none⟩) (b := b) (o := 0) (cells := (Un.ruL i).toArray) ?_ ?_ ?_ rfl ?_ h4 HIZ.out H1.out ?_
      · rfl
      · rfl
      · rfl
      · rfl
      refine Un.wpList_name ?_
      intro X1 hX1
      have hr : X1.rangeAt b 0 (Un.ruL i) := by rw [hX1]; exact World.rangeAt_setCells_same _ _ _ _ h4
      have hbx : Below W1.heap.size W1 X1 := by rw [hX1]; exact Un.below_setCells hb4 _ _ hx
      clear hX1 h4 hb4' hx
      have c1 : X1.cell? ⟨b, 1, none⟩ = some (.int .i64 (Un.rLo i)) := hr 1 _ rfl
      have c2 : X1.cell? ⟨b, 2, none⟩ = some (.int .i64 (Un.rUp i)) := hr 2 _ rfl
      have c3 : X1.cell? ⟨b, 3, none⟩ = some (.int .i64 (Un.rM i)) := hr 3 _ rfl
      have d1 : X1.cell? ⟨w.heap.size, 1, none⟩ = some (.int .i64 l) := (hbx.cell (p := ⟨w.heap.size, 1, none⟩) hz1).trans q1
      have d2 : X1.cell? ⟨w.heap.size, 2, none⟩ = some (.int .i64 n) := (hbx.cell (p := ⟨w.heap.size, 2, none⟩) hz1).trans q2
      have HBX := Lib.hid (HB1.out.trans (hbx.mono HB1.out.size))
      have hzx := hbx.size
      clear hr hbx q0 q1 q2
      generalize Un.rLo i = lo at *
      generalize Un.rUp i = up at *
      generalize Un.rM i = m at *
      have hzb : w.heap.size < X1.heap.size := by omega
      have hbb : b < X1.heap.size := by
        rcases Nat.lt_or_ge b X1.heap.size with h | h
        · exact h
        · exfalso
          have := c1
          simp [World.cell?, Array.getElem?_eq_none h] at this
      have HA := Lib.hid (fun b W hx => bd_within1 0 (m : Int) l b 1 W hx)
      have HC := Lib.hid (fun b W hx => bd_within1 lo up n b 1 W hx)
      generalize Tp.inb l 0 m = t1 at *
      generalize Tp.inb n lo up = t2 at *
      have HR := Lib.hid hr
      clear hr
      cases t1
      · go_wp2_with fail
        refine (HA.out _ _ (by simp)).mono ?_
        rintro _ w' ⟨rfl, hww⟩
        subst w'
        go_wp2_with fail
        go_ret
        exact ⟨by rw [← HR.out]; rfl, by have := HBX.out; have := this.size; (repeat' first | (with_reducible first | exact Below.refl _ _ | assumption | refine Kit.below_drewN ?_ _ | refine Below.drew ?_ | refine Below.alloc ?_ ?_ _ | refine Below.setCell ?_ ?_ _ | exact Nat.le_refl _) | omega | (simp; omega) | (simp; done) | (apply Below.size; assumption))⟩
      · go_wp2_with fail
        refine (HA.out _ _ (by simp)).mono ?_
        rintro _ w' ⟨rfl, hww⟩
        subst w'
        go_wp2_with fail
        refine (HC.out _ _ (by simp)).mono ?_
        rintro _ w' ⟨rfl, hww⟩
        subst w'
        go_wp2_with fail
        go_ret
        exact ⟨by rw [← HR.out]; rfl, by have := HBX.out; have := this.size; (repeat' first | (with_reducible first | exact Below.refl _ _ | assumption | refine Kit.below_drewN ?_ _ | refine Below.drew ?_ | refine Below.alloc ?_ ?_ _ | refine Below.setCell ?_ ?_ _ | exact Nat.le_refl _) | omega | (simp; omega) | (simp; done) | (apply Below.size; assumption))⟩
end Go.Proofs.YtbhgogiaaljclaaGreatDoor
