/- Walks: package apart: the places of a wagon as an iterator. -/
import Derived.Test.YtjoieglhmladhaaDoorApB
import Derived.Test.YtjoieglhmladhaaDoorKit
namespace Go.Proofs.YtjoieglhmladhaaDoor
set_option linter.unusedVariables false
set_option linter.unusedSimpArgs false
open Go.RowKit Go.Shelf

abbrev Ap.enc (x : Sp.BE) : Array Value := #[Sp.boxV x.1 x.2.1 x.2.2.1 x.2.2.2.1, .int .i64 x.2.2.2.2]
theorem Ap.mul_bd (f l k : Int) (h1 : 0 ≤ f) (h2 : f ≤ l) (h3 : l < 4096) : 0 ≤ Ap.mul f l k ∧ Ap.mul f l k ≤ 4096 := by
  have a := Kit.mx2_le 0 (Kit.mn2 k (l + 1) - f)
  have b := Kit.mn2_le k (l + 1)
  unfold Ap.mul
  omega
theorem Ap.prod_bd (m x : Int) (h1 : 0 ≤ m) (h2 : m ≤ 4096) (h3 : -1048576 ≤ x) (h4 : x ≤ 1048576) : -4294967296 ≤ m * x ∧ m * x ≤ 4294967296 := by
  constructor
  · have := Int.mul_le_mul_of_nonneg_left h3 h1
    omega
  · have := Int.mul_le_mul_of_nonneg_left h4 h1
    omega

set_option maxRecDepth 100000 in
set_option maxHeartbeats 2000000 in
theorem ap_iter (n : Nat) (hn : 1 ≤ n) (Bk Bg : Nat) (g : Ap.Wg) (bar : Int) (h1 : 0 ≤ g.f) (h2 : g.f ≤ g.l) (h3 : g.l < 4096) (h4 : -1048576 ≤ g.x) (h5 : g.x ≤ 1048576) (h6 : -1048576 ≤ g.y) (h7 : g.y ≤ 1048576) (h8 : 0 ≤ bar) (h9 : bar ≤ 4095) (w : World)
    (bB : Boxed w Bk 3 (.int .i64 bar)) (bG : w.heap[Bg]? = some (.cells #[.int .i64 g.a, .int .i64 g.b, .int .i64 g.c, .int .i64 g.d, .int .i64 g.f, .int .i64 g.l, .int .i64 g.x, .int .i64 g.y] 27 (0, 0))) :
    Kit.SeqE Fence.wide n Tryd.prog 65 #[.pointer (some ⟨Bk, 0, none⟩), .pointer (some ⟨Bg, 0, none⟩)] Ap.enc (fun k => k = Bk ∨ k = Bg) (fun xs => xs = [Ap.at_ g bar, Ap.at_ g (bar + 1)])
      (fun pre => pre = [Ap.at_ g bar] ∨ pre = [Ap.at_ g bar, Ap.at_ g (bar + 1)]) (fun pre x => pre.length < 2 ∧ x = (if pre.length = 0 then Ap.at_ g bar else Ap.at_ g (bar + 1)) ∧ (pre ≠ [] → pre = [Ap.at_ g bar])) w := by
  intro l J Jx Y0 W hW hl1 hl2 hY0 hJ hJx hY h0
  have zB := bB.lt
  have zG := (Array.getElem?_eq_some_iff.1 bG).1
  replace bB : Boxed W Bk _ _ := (hW.block Bk zB).trans bB
  replace bG := (hW.block Bg zG).trans bG
  have cK := bB.cell
  replace hY := Lib.hid hY
  replace hJ := Lib.hid hJ
  replace hJx := Lib.hid hJx
  replace hY0' := Lib.hid hY0
  refine callsIn_of_wp Tryd.func65 rfl trivial ?_ rfl
  simp only [Tryd.ntmps65, List.size_toArray, List.length_cons, List.length_nil, Nat.reduceAdd, Nat.reduceSub, Array.replicate_succ, Array.replicate_zero, List.push_toArray, List.append_toArray, List.nil_append, List.cons_append]
  gi_wp2
  gi_loopw [13] (fun v13 wr => ∃ (pre : List Sp.BE) (Y : Nat → Prop), J pre Y wr ∧ w.heap.size ≤ wr.heap.size ∧ wr.heap[Bg]? = W.heap[Bg]? ∧ (∀ k, Y k → k ≠ Bg) ∧
      ((v13 = .int .i64 0 ∧ pre = []) ∨ (v13 = .int .i64 1 ∧ pre = [Ap.at_ g bar]) ∨ (v13 = .int .i64 2 ∧ pre = [Ap.at_ g bar, Ap.at_ g (bar + 1)])))
    (fun v13 _ => 2 - (intOf v13).toNat)
  case atStart => exact ⟨[], Y0, h0, hW.size, rfl, fun k hk e => (hY0'.out k hk).2 (.inr e), .inl ⟨rfl, rfl⟩⟩
  case round =>
    obtain ⟨pre, Y, hj, hsz, hbg, hYk, (⟨rfl, rfl⟩ | ⟨rfl, rfl⟩ | ⟨rfl, rfl⟩)⟩ := hrel
    · have cells : wr.cell? ⟨Bg, 0, none⟩ = some (.int .i64 g.a) ∧ wr.cell? ⟨Bg, 1, none⟩ = some (.int .i64 g.b) ∧ wr.cell? ⟨Bg, 2, none⟩ = some (.int .i64 g.c) ∧ wr.cell? ⟨Bg, 3, none⟩ = some (.int .i64 g.d) ∧
          wr.cell? ⟨Bg, 4, none⟩ = some (.int .i64 g.f) ∧ wr.cell? ⟨Bg, 5, none⟩ = some (.int .i64 g.l) ∧ wr.cell? ⟨Bg, 6, none⟩ = some (.int .i64 g.x) ∧ wr.cell? ⟨Bg, 7, none⟩ = some (.int .i64 g.y) := by
        simp [World.cell?, hbg, bG]
      obtain ⟨y0, y1, y2, y3, y4, y5, y6, y7⟩ := cells
      have i0 : ∀ w, (Instr.index 75 (.agg #[.int .i64 bar, .int .i64 (bar + 1)]) (.int .i64 0)).run Tryd.prog w = .ok (.int .i64 (bar)) w := fun _ => by kernel_rfl
      have m1 : (if g.l + 1 < bar then g.l + 1 else bar) = Kit.mn2 (bar) (g.l + 1) := rfl
      have m1x : (if g.l + 1 < bar then g.l + 1 else bar) = Kit.mn2 (bar) (g.l + 1) := by
        unfold Kit.mn2
        split <;> (try split) <;> omega
      have mb := Kit.mn2_le (bar) (g.l + 1)
      have m2 : (if 0 < Kit.mn2 (bar) (g.l + 1) - g.f then Kit.mn2 (bar) (g.l + 1) - g.f else 0) = Ap.mul g.f g.l (bar) := rfl
      have m3 : (if g.f < Kit.mn2 (bar) (g.l + 1) then Kit.mn2 (bar) (g.l + 1) - g.f else 0) = Ap.mul g.f g.l (bar) := by
        rw [← m2]
        by_cases hh : g.f < Kit.mn2 (bar) (g.l + 1)
        · rw [if_pos hh, if_pos (by omega)]
        · rw [if_neg hh, if_neg (by omega)]
      obtain ⟨u1, u2⟩ := Ap.mul_bd g.f g.l (bar) h1 h2 h3
      obtain ⟨u3, u4⟩ := Ap.prod_bd _ g.x u1 u2 h4 h5
      obtain ⟨u5, u6⟩ := Ap.prod_bd _ g.y u1 u2 h6 h7
      have hS : ∀ W, Sp.ShiftIs g.a g.b g.c g.d (Ap.mul g.f g.l (bar) * g.x) (Ap.mul g.f g.l (bar) * g.y) W (Ap.at_ g (bar)).1 (Ap.at_ g (bar)).2.1 (Ap.at_ g (bar)).2.2.1 (Ap.at_ g (bar)).2.2.2.1 (Ap.at_ g (bar)).2.2.2.2 := fun W => sp_shift _ _ _ _ _ _ W
      have hAt : Ap.at_ g (bar) = Ap.at_ g (bar) := rfl
      generalize hq : Ap.at_ g (bar) = q at hS hAt
      obtain ⟨q1, q2, q3, q4, q5⟩ := q
      dsimp only at hS
      have HQ := Lib.hid hq
      have HS := Lib.hid hS
      have HJ := Lib.hid hj
      have HBG := Lib.hid hbg
      have HYK := Lib.hid hYk
      clear hq hS hAt hj hbg hYk
      generalize Ap.mul g.f g.l (bar) = M at m2 m3 u1 u2 u3 u4 u5 u6 HS
      generalize Kit.mn2 (bar) (g.l + 1) = MN at m1 m1x m2 m3 mb
      gi_wp2
      refine ⟨trivial, CallsIn.mono (callsIn_wide.2 (HS.out _ : Sp.ShiftIs _ _ _ _ _ _ _ _ _ _ _ _)) ?_⟩
      rintro e w1 ⟨rfl, hb1⟩
      have E1 : ∀ S, Kit.Exc S wr (w1.alloc (.cells #[.int .i64 q1, .int .i64 q2, .int .i64 q3, .int .i64 q4] 25)) := fun S => ((Kit.Exc.refl S wr).then hb1).alloc _
      have j1 := hJ.out _ _ _ _ HJ.out (E1 _)
      obtain ⟨fn, tmps, assign, body, hyy, hR⟩ := hY.out [] (q1, q2, q3, q4, q5) Y _ j1 ⟨by simp, by simp [HQ.out], by simp⟩
      have z1 : w.heap.size ≤ w1.heap.size := by have := hb1.size; omega
      have bg1 : (w1.alloc (.cells #[.int .i64 q1, .int .i64 q2, .int .i64 q3, .int .i64 q4] 25)).heap[Bg]? = W.heap[Bg]? := ((E1 (fun _ => False)).block Bg (by omega) (by simp)).trans HBG.out
      have BG1 := Lib.hid bg1
      have HJ1 := Lib.hid j1
      clear j1 E1 hb1 bg1
      gi_wp2
      refine hR.mono ?_
      rintro e W3 ⟨Y3, hx3, hy3, (⟨rfl, hj3⟩ | ⟨rfl, hj3⟩)⟩
      · have hx3' := Lib.hid hx3
        have hy3' := Lib.hid hy3
        have hj3' := Lib.hid hj3
        clear hx3 hy3 hj3
        gi_wp2
        go_roundw
        case rel =>
          refine ⟨[] ++ [(q1, q2, q3, q4, q5)], Y3, hj3'.out, ?_, ?_, ?_, ?_⟩
          · have := hx3'.out.size; simp at this; omega
          · exact (hx3'.out.block Bg (by simp; omega) (fun h => h.elim (fun h => HYK.out _ h rfl) (fun h => by omega))).trans BG1.out
          · intro k hk
            rcases (hy3'.out k hk).1 with h | h
            · exact HYK.out k h
            · simp at h; omega
          · rw [← HQ.out]; exact .inr (.inl ⟨by go_num, rfl⟩)
        case measure => simp [intOf]
      · have hj3' := Lib.hid hj3
        clear hx3 hy3 hj3
        gi_wp2
        refine bodyPost_ret (results_none rfl _ _ _) rfl ?_
        exact ⟨⟨_, rfl⟩, Y3, .inr ⟨_, (by rw [← HQ.out]; exact .inl rfl), hj3'.out⟩⟩
    · have cells : wr.cell? ⟨Bg, 0, none⟩ = some (.int .i64 g.a) ∧ wr.cell? ⟨Bg, 1, none⟩ = some (.int .i64 g.b) ∧ wr.cell? ⟨Bg, 2, none⟩ = some (.int .i64 g.c) ∧ wr.cell? ⟨Bg, 3, none⟩ = some (.int .i64 g.d) ∧
          wr.cell? ⟨Bg, 4, none⟩ = some (.int .i64 g.f) ∧ wr.cell? ⟨Bg, 5, none⟩ = some (.int .i64 g.l) ∧ wr.cell? ⟨Bg, 6, none⟩ = some (.int .i64 g.x) ∧ wr.cell? ⟨Bg, 7, none⟩ = some (.int .i64 g.y) := by
        simp [World.cell?, hbg, bG]
      obtain ⟨y0, y1, y2, y3, y4, y5, y6, y7⟩ := cells
      have i0 : ∀ w, (Instr.index 75 (.agg #[.int .i64 bar, .int .i64 (bar + 1)]) (.int .i64 1)).run Tryd.prog w = .ok (.int .i64 (bar + 1)) w := fun _ => by kernel_rfl
      have m1 : (if g.l + 1 < bar + 1 then g.l + 1 else bar + 1) = Kit.mn2 (bar + 1) (g.l + 1) := rfl
      have m1x : (if g.l < bar then g.l + 1 else bar + 1) = Kit.mn2 (bar + 1) (g.l + 1) := by
        unfold Kit.mn2
        split <;> (try split) <;> omega
      have mb := Kit.mn2_le (bar + 1) (g.l + 1)
      have m2 : (if 0 < Kit.mn2 (bar + 1) (g.l + 1) - g.f then Kit.mn2 (bar + 1) (g.l + 1) - g.f else 0) = Ap.mul g.f g.l (bar + 1) := rfl
      have m3 : (if g.f < Kit.mn2 (bar + 1) (g.l + 1) then Kit.mn2 (bar + 1) (g.l + 1) - g.f else 0) = Ap.mul g.f g.l (bar + 1) := by
        rw [← m2]
        by_cases hh : g.f < Kit.mn2 (bar + 1) (g.l + 1)
        · rw [if_pos hh, if_pos (by omega)]
        · rw [if_neg hh, if_neg (by omega)]
      obtain ⟨u1, u2⟩ := Ap.mul_bd g.f g.l (bar + 1) h1 h2 h3
      obtain ⟨u3, u4⟩ := Ap.prod_bd _ g.x u1 u2 h4 h5
      obtain ⟨u5, u6⟩ := Ap.prod_bd _ g.y u1 u2 h6 h7
      have hS : ∀ W, Sp.ShiftIs g.a g.b g.c g.d (Ap.mul g.f g.l (bar + 1) * g.x) (Ap.mul g.f g.l (bar + 1) * g.y) W (Ap.at_ g (bar + 1)).1 (Ap.at_ g (bar + 1)).2.1 (Ap.at_ g (bar + 1)).2.2.1 (Ap.at_ g (bar + 1)).2.2.2.1 (Ap.at_ g (bar + 1)).2.2.2.2 := fun W => sp_shift _ _ _ _ _ _ W
      have hAt : Ap.at_ g (bar + 1) = Ap.at_ g (bar + 1) := rfl
      generalize hq : Ap.at_ g (bar + 1) = q at hS hAt
      obtain ⟨q1, q2, q3, q4, q5⟩ := q
      dsimp only at hS
      have HQ := Lib.hid hq
      have HS := Lib.hid hS
      have HJ := Lib.hid hj
      have HBG := Lib.hid hbg
      have HYK := Lib.hid hYk
      clear hq hS hAt hj hbg hYk
      generalize Ap.mul g.f g.l (bar + 1) = M at m2 m3 u1 u2 u3 u4 u5 u6 HS
      generalize Kit.mn2 (bar + 1) (g.l + 1) = MN at m1 m1x m2 m3 mb
      gi_wp2
      refine ⟨trivial, CallsIn.mono (callsIn_wide.2 (HS.out _ : Sp.ShiftIs _ _ _ _ _ _ _ _ _ _ _ _)) ?_⟩
      rintro e w1 ⟨rfl, hb1⟩
      have E1 : ∀ S, Kit.Exc S wr (w1.alloc (.cells #[.int .i64 q1, .int .i64 q2, .int .i64 q3, .int .i64 q4] 25)) := fun S => ((Kit.Exc.refl S wr).then hb1).alloc _
      have j1 := hJ.out _ _ _ _ HJ.out (E1 _)
      obtain ⟨fn, tmps, assign, body, hyy, hR⟩ := hY.out [Ap.at_ g bar] (q1, q2, q3, q4, q5) Y _ j1 ⟨by simp, by simp [HQ.out], by simp⟩
      have z1 : w.heap.size ≤ w1.heap.size := by have := hb1.size; omega
      have bg1 : (w1.alloc (.cells #[.int .i64 q1, .int .i64 q2, .int .i64 q3, .int .i64 q4] 25)).heap[Bg]? = W.heap[Bg]? := ((E1 (fun _ => False)).block Bg (by omega) (by simp)).trans HBG.out
      have BG1 := Lib.hid bg1
      have HJ1 := Lib.hid j1
      clear j1 E1 hb1 bg1
      gi_wp2
      refine hR.mono ?_
      rintro e W3 ⟨Y3, hx3, hy3, (⟨rfl, hj3⟩ | ⟨rfl, hj3⟩)⟩
      · have hx3' := Lib.hid hx3
        have hy3' := Lib.hid hy3
        have hj3' := Lib.hid hj3
        clear hx3 hy3 hj3
        gi_wp2
        go_roundw
        case rel =>
          refine ⟨[Ap.at_ g bar] ++ [(q1, q2, q3, q4, q5)], Y3, hj3'.out, ?_, ?_, ?_, ?_⟩
          · have := hx3'.out.size; simp at this; omega
          · exact (hx3'.out.block Bg (by simp; omega) (fun h => h.elim (fun h => HYK.out _ h rfl) (fun h => by omega))).trans BG1.out
          · intro k hk
            rcases (hy3'.out k hk).1 with h | h
            · exact HYK.out k h
            · simp at h; omega
          · rw [← HQ.out]; exact .inr (.inr ⟨by go_num, rfl⟩)
        case measure => simp [intOf]
      · have hj3' := Lib.hid hj3
        clear hx3 hy3 hj3
        gi_wp2
        refine bodyPost_ret (results_none rfl _ _ _) rfl ?_
        exact ⟨⟨_, rfl⟩, Y3, .inr ⟨_, (by rw [← HQ.out]; exact .inr rfl), hj3'.out⟩⟩
    · have HJ := Lib.hid hj
      clear hj
      gi_wp2
      go_end0
      exact ⟨⟨_, rfl⟩, Y, .inl ⟨_, rfl, HJ.out⟩⟩
end Go.Proofs.YtjoieglhmladhaaDoor
