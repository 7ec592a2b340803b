/- Walks: package collate: Sign. -/
import Derived.Test.YtdaedjmkolcliaaIdE
import Derived.Test.YtdaedjmkolcliaaKits
import Derived.RangeFuncBox
namespace Go.Proofs.Ytdaedjmkolcliaa
set_option linter.unusedVariables false
set_option linter.unusedSimpArgs false
open Go.RowKit Go.Shelf

theorem co_mask (R : Int) (i : Nat) (hi : i ≤ 8) (h0 : 0 ≤ R) (h1 : R < 2 ^ 40) : bits .and .i64 R (2 ^ i - 1) = R % 2 ^ i := by
  exact bits_mask .i64 60 (by decide) (Id.wrap64 60 (by decide)) i (by omega) R h0 (by have e : (2 : Int) ^ 40 < 2 ^ 60 := by decide
                                                                                       omega)
set_option maxRecDepth 100000 in
set_option maxHeartbeats 1000000 in
theorem co_last (B : Nat) (R k M : Int) (w : World) (hB : Boxed w B 3 (.int .i64 R)) (h0 : 0 ≤ R) (h1 : R < 2 ^ 40) (hk : k = 7 ∧ M = 128 ∨ k = 8 ∧ M = 256 ∨ k = 2 ∧ M = 4 ∨ k = 4 ∧ M = 16) :
    Calls Try.prog 69 #[.int .i64 k, .pointer (some ⟨B, 0, none⟩)] w fun e w' => e = .returned (.int .i64 (R % M)) ∧ Boxed w' B 3 (.int .i64 (R / M)) ∧ Kit.Exc (fun b => b = B) w w' := by
  have y0 : ∀ x : Kit.Wd w, x.val.cell? ⟨B, 0, none⟩ = some (.int .i64 R) := fun x => x.cell hB.cell hB.lt
  have HB := Lib.hid hB
  clear hB
  rcases hk with ⟨rfl, rfl⟩ | ⟨rfl, rfl⟩ | ⟨rfl, rfl⟩ | ⟨rfl, rfl⟩
  · have hm : bits .and .i64 R 127 = R % 128 := co_mask R 7 (by decide) h0 h1
    go_enter Try.func69, Try.ntmps69
    go_wp2
    refine Kit.wp_region_cls (by kernel_rfl) (by kernel_rfl) ?_
    (repeat (go_big_quiet_step (fail)))
    refine wpQuiet_nil ?_
    intro x
    have yx := y0 x
    have fx := x.frozen HB.out.frozen HB.out.lt
    have HX := Lib.hid (show Boxed x.val B 3 (.int .i64 R) from (x.below.block B HB.out.lt).trans HB.out)
    go_wp2
    go_ret
    exact ⟨by rw [← hm]; rfl, HX.out.set _, ((Kit.Exc.refl (fun b => b = B) w).then x.below).setCell (.inl rfl) _⟩
  · have hm : bits .and .i64 R 255 = R % 256 := co_mask R 8 (by decide) h0 h1
    go_enter Try.func69, Try.ntmps69
    go_wp2
    refine Kit.wp_region_cls (by kernel_rfl) (by kernel_rfl) ?_
    (repeat (go_big_quiet_step (fail)))
    refine wpQuiet_nil ?_
    intro x
    have yx := y0 x
    have fx := x.frozen HB.out.frozen HB.out.lt
    have HX := Lib.hid (show Boxed x.val B 3 (.int .i64 R) from (x.below.block B HB.out.lt).trans HB.out)
    go_wp2
    go_ret
    exact ⟨by rw [← hm]; rfl, HX.out.set _, ((Kit.Exc.refl (fun b => b = B) w).then x.below).setCell (.inl rfl) _⟩
  · have hm : bits .and .i64 R 3 = R % 4 := co_mask R 2 (by decide) h0 h1
    go_enter Try.func69, Try.ntmps69
    go_wp2
    refine Kit.wp_region_cls (by kernel_rfl) (by kernel_rfl) ?_
    (repeat (go_big_quiet_step (fail)))
    refine wpQuiet_nil ?_
    intro x
    have yx := y0 x
    have fx := x.frozen HB.out.frozen HB.out.lt
    have HX := Lib.hid (show Boxed x.val B 3 (.int .i64 R) from (x.below.block B HB.out.lt).trans HB.out)
    go_wp2
    go_ret
    exact ⟨by rw [← hm]; rfl, HX.out.set _, ((Kit.Exc.refl (fun b => b = B) w).then x.below).setCell (.inl rfl) _⟩
  · have hm : bits .and .i64 R 15 = R % 16 := co_mask R 4 (by decide) h0 h1
    go_enter Try.func69, Try.ntmps69
    go_wp2
    refine Kit.wp_region_cls (by kernel_rfl) (by kernel_rfl) ?_
    (repeat (go_big_quiet_step (fail)))
    refine wpQuiet_nil ?_
    intro x
    have yx := y0 x
    have fx := x.frozen HB.out.frozen HB.out.lt
    have HX := Lib.hid (show Boxed x.val B 3 (.int .i64 R) from (x.below.block B HB.out.lt).trans HB.out)
    go_wp2
    go_ret
    exact ⟨by rw [← hm]; rfl, HX.out.set _, ((Kit.Exc.refl (fun b => b = B) w).then x.below).setCell (.inl rfl) _⟩
namespace Id
theorem code_bd {s : Sg} (h : InC s) : 0 ≤ code s ∧ code s < 8589934592 := by
  have h1 := h.role; have h2 := h.kind; have h3 := h.side; have h4 := h.dir; have h5 := h.level; have h6 := h.size; have h7 := h.wth
  unfold code
  omega
theorem code_parts {s : Sg} (h : InC s) : code s % 128 = s.wth ∧ code s / 128 % 256 = s.size ∧ code s / 128 / 256 % 4 = s.level ∧ code s / 128 / 256 / 4 % 16 = s.dir ∧ code s / 128 / 256 / 4 / 16 % 4 = s.side ∧ code s / 128 / 256 / 4 / 16 / 4 % 16 = s.kind ∧ code s / 128 / 256 / 4 / 16 / 4 / 16 = s.role := by
  have h1 := h.role; have h2 := h.kind; have h3 := h.side; have h4 := h.dir; have h5 := h.level; have h6 := h.size; have h7 := h.wth
  unfold code
  omega
end Id
set_option maxRecDepth 100000 in
set_option maxHeartbeats 2000000 in
theorem co_sign (s : Id.Sg) (w : World) (h : Id.InC s) : Calls Try.prog 51 #[.int .i64 (Id.code s)] w fun e w' => (∃ s' : Id.Sg, e = .returned (.tuple #[Id.sgV s', .int .i64 0])) ∧ Below w.heap.size w w' := by
  obtain ⟨c, hc⟩ : ∃ c, c = Id.code s := ⟨_, rfl⟩
  have hb := Id.code_bd h
  obtain ⟨p1, p2, p3, p4, p5, p6, p7⟩ := Id.code_parts h
  rw [← hc] at hb p1 p2 p3 p4 p5 p6 p7
  rw [← hc]
  have HC := Lib.hid (fun W => co_code ⟨0, s.role, 0, 0, s.kind, s.side, s.dir, s.level, s.size, s.wth, 0, 0, 0, 0⟩ W ⟨h.role, h.kind, h.side, h.dir, h.level, h.size, h.wth⟩)
  clear h hc
  go_enter Try.func51, Try.ntmps51
  have B0 := Lib.hid (show Boxed ((w.alloc (.cells #[.int .i64 0, .int .i64 0, .int .i64 0, .int .i64 0, .int .i64 0, .int .i64 0, .int .i64 0, .int .i64 0, .int .i64 0, .int .i64 0, .int .i64 0, .int .i64 0, .int .i64 0, .int .i64 0] 49)).alloc (.cells #[.int .i64 c] 3)) (w.heap.size + 1) 3 (.int .i64 c) by have := Boxed.new (w.alloc (.cells #[.int .i64 0, .int .i64 0, .int .i64 0, .int .i64 0, .int .i64 0, .int .i64 0, .int .i64 0, .int .i64 0, .int .i64 0, .int .i64 0, .int .i64 0, .int .i64 0, .int .i64 0, .int .i64 0] 49)) 3 (.int .i64 c); simpa using this)
  have O0 := Lib.hid (show ((w.alloc (.cells #[.int .i64 0, .int .i64 0, .int .i64 0, .int .i64 0, .int .i64 0, .int .i64 0, .int .i64 0, .int .i64 0, .int .i64 0, .int .i64 0, .int .i64 0, .int .i64 0, .int .i64 0, .int .i64 0] 49)).alloc (.cells #[.int .i64 c] 3)).heap[w.heap.size]? = some (.cells #[.int .i64 0, .int .i64 0, .int .i64 0, .int .i64 0, .int .i64 0, .int .i64 0, .int .i64 0, .int .i64 0, .int .i64 0, .int .i64 0, .int .i64 0, .int .i64 0, .int .i64 0, .int .i64 0] 49 (0, 0)) from (Kit.Exc.heap ((Kit.Exc.refl (fun _ => False) _).alloc _) (World.alloc_heap_new w _) (fun h => h)))
  have E0 := Lib.hid (show Below w.heap.size w ((w.alloc (.cells #[.int .i64 0, .int .i64 0, .int .i64 0, .int .i64 0, .int .i64 0, .int .i64 0, .int .i64 0, .int .i64 0, .int .i64 0, .int .i64 0, .int .i64 0, .int .i64 0, .int .i64 0, .int .i64 0] 49)).alloc (.cells #[.int .i64 c] 3)) from ((Below.refl _ _).alloc (Nat.le_refl _) _).alloc (by simp) _)
  go_wp2_with fail
  refine (co_last (w.heap.size + 1) (c) 7 128 _ B0.out (by omega) (by omega) (by simp)).mono ?_
  rintro _ w1 ⟨rfl, b1, x1⟩
  rw [p1]
  have o1 := x1.heap O0.out (by omega)
  have e1 := E0.out.trans ((x1.below (n := w.heap.size) E0.out.size (fun b h => by omega)))
  have f1 : w1.cell? ⟨w.heap.size, 9, none⟩ = some (.int .i64 0) := by simp [World.cell?, o1]
  have z1 : w1.frozen? ⟨w.heap.size, 9, none⟩ = false := by simp [World.frozen?, o1]
  have B1 := Lib.hid (show Boxed (w1.setCell ⟨w.heap.size, 9, none⟩ (.int .i64 s.wth)) (w.heap.size + 1) 3 (.int .i64 (c / 128)) from (heap_setCell_other _ _ _ _ (by simp)).trans b1)
  have O1 := Lib.hid (show (w1.setCell ⟨w.heap.size, 9, none⟩ (.int .i64 s.wth)).heap[w.heap.size]? = some (.cells #[.int .i64 0, .int .i64 0, .int .i64 0, .int .i64 0, .int .i64 0, .int .i64 0, .int .i64 0, .int .i64 0, .int .i64 0, .int .i64 s.wth, .int .i64 0, .int .i64 0, .int .i64 0, .int .i64 0] 49 (0, 0)) from heap_setCell_same _ _ _ _ _ _ o1)
  have E1 := Lib.hid (show Below w.heap.size w (w1.setCell ⟨w.heap.size, 9, none⟩ (.int .i64 s.wth)) from e1.setCell (p := ⟨w.heap.size, 9, none⟩) (Nat.le_refl _) _)
  clear b1 x1 o1 e1 B0 O0 E0
  go_wp2_with fail
  refine (co_last (w.heap.size + 1) (c / 128) 8 256 _ B1.out (by omega) (by omega) (by simp)).mono ?_
  rintro _ w2 ⟨rfl, b2, x2⟩
  rw [p2]
  have o2 := x2.heap O1.out (by omega)
  have e2 := E1.out.trans ((x2.below (n := w.heap.size) E1.out.size (fun b h => by omega)))
  have f2 : w2.cell? ⟨w.heap.size, 8, none⟩ = some (.int .i64 0) := by simp [World.cell?, o2]
  have z2 : w2.frozen? ⟨w.heap.size, 8, none⟩ = false := by simp [World.frozen?, o2]
  have B2 := Lib.hid (show Boxed (w2.setCell ⟨w.heap.size, 8, none⟩ (.int .i64 s.size)) (w.heap.size + 1) 3 (.int .i64 (c / 128 / 256)) from (heap_setCell_other _ _ _ _ (by simp)).trans b2)
  have O2 := Lib.hid (show (w2.setCell ⟨w.heap.size, 8, none⟩ (.int .i64 s.size)).heap[w.heap.size]? = some (.cells #[.int .i64 0, .int .i64 0, .int .i64 0, .int .i64 0, .int .i64 0, .int .i64 0, .int .i64 0, .int .i64 0, .int .i64 s.size, .int .i64 s.wth, .int .i64 0, .int .i64 0, .int .i64 0, .int .i64 0] 49 (0, 0)) from heap_setCell_same _ _ _ _ _ _ o2)
  have E2 := Lib.hid (show Below w.heap.size w (w2.setCell ⟨w.heap.size, 8, none⟩ (.int .i64 s.size)) from e2.setCell (p := ⟨w.heap.size, 8, none⟩) (Nat.le_refl _) _)
  clear b2 x2 o2 e2 B1 O1 E1
  go_wp2_with fail
  refine (co_last (w.heap.size + 1) (c / 128 / 256) 2 4 _ B2.out (by omega) (by omega) (by simp)).mono ?_
  rintro _ w3 ⟨rfl, b3, x3⟩
  rw [p3]
  have o3 := x3.heap O2.out (by omega)
  have e3 := E2.out.trans ((x3.below (n := w.heap.size) E2.out.size (fun b h => by omega)))
  have f3 : w3.cell? ⟨w.heap.size, 7, none⟩ = some (.int .i64 0) := by simp [World.cell?, o3]
  have z3 : w3.frozen? ⟨w.heap.size, 7, none⟩ = false := by simp [World.frozen?, o3]
  have B3 := Lib.hid (show Boxed (w3.setCell ⟨w.heap.size, 7, none⟩ (.int .i64 s.level)) (w.heap.size + 1) 3 (.int .i64 (c / 128 / 256 / 4)) from (heap_setCell_other _ _ _ _ (by simp)).trans b3)
  have O3 := Lib.hid (show (w3.setCell ⟨w.heap.size, 7, none⟩ (.int .i64 s.level)).heap[w.heap.size]? = some (.cells #[.int .i64 0, .int .i64 0, .int .i64 0, .int .i64 0, .int .i64 0, .int .i64 0, .int .i64 0, .int .i64 s.level, .int .i64 s.size, .int .i64 s.wth, .int .i64 0, .int .i64 0, .int .i64 0, .int .i64 0] 49 (0, 0)) from heap_setCell_same _ _ _ _ _ _ o3)
  have E3 := Lib.hid (show Below w.heap.size w (w3.setCell ⟨w.heap.size, 7, none⟩ (.int .i64 s.level)) from e3.setCell (p := ⟨w.heap.size, 7, none⟩) (Nat.le_refl _) _)
  clear b3 x3 o3 e3 B2 O2 E2
  go_wp2_with fail
  refine (co_last (w.heap.size + 1) (c / 128 / 256 / 4) 4 16 _ B3.out (by omega) (by omega) (by simp)).mono ?_
  rintro _ w4 ⟨rfl, b4, x4⟩
  rw [p4]
  have o4 := x4.heap O3.out (by omega)
  have e4 := E3.out.trans ((x4.below (n := w.heap.size) E3.out.size (fun b h => by omega)))
  have f4 : w4.cell? ⟨w.heap.size, 6, none⟩ = some (.int .i64 0) := by simp [World.cell?, o4]
  have z4 : w4.frozen? ⟨w.heap.size, 6, none⟩ = false := by simp [World.frozen?, o4]
  have B4 := Lib.hid (show Boxed (w4.setCell ⟨w.heap.size, 6, none⟩ (.int .i64 s.dir)) (w.heap.size + 1) 3 (.int .i64 (c / 128 / 256 / 4 / 16)) from (heap_setCell_other _ _ _ _ (by simp)).trans b4)
  have O4 := Lib.hid (show (w4.setCell ⟨w.heap.size, 6, none⟩ (.int .i64 s.dir)).heap[w.heap.size]? = some (.cells #[.int .i64 0, .int .i64 0, .int .i64 0, .int .i64 0, .int .i64 0, .int .i64 0, .int .i64 s.dir, .int .i64 s.level, .int .i64 s.size, .int .i64 s.wth, .int .i64 0, .int .i64 0, .int .i64 0, .int .i64 0] 49 (0, 0)) from heap_setCell_same _ _ _ _ _ _ o4)
  have E4 := Lib.hid (show Below w.heap.size w (w4.setCell ⟨w.heap.size, 6, none⟩ (.int .i64 s.dir)) from e4.setCell (p := ⟨w.heap.size, 6, none⟩) (Nat.le_refl _) _)
  clear b4 x4 o4 e4 B3 O3 E3
  go_wp2_with fail
  refine (co_last (w.heap.size + 1) (c / 128 / 256 / 4 / 16) 2 4 _ B4.out (by omega) (by omega) (by simp)).mono ?_
  rintro _ w5 ⟨rfl, b5, x5⟩
  rw [p5]
  have o5 := x5.heap O4.out (by omega)
  have e5 := E4.out.trans ((x5.below (n := w.heap.size) E4.out.size (fun b h => by omega)))
  have f5 : w5.cell? ⟨w.heap.size, 5, none⟩ = some (.int .i64 0) := by simp [World.cell?, o5]
  have z5 : w5.frozen? ⟨w.heap.size, 5, none⟩ = false := by simp [World.frozen?, o5]
  have B5 := Lib.hid (show Boxed (w5.setCell ⟨w.heap.size, 5, none⟩ (.int .i64 s.side)) (w.heap.size + 1) 3 (.int .i64 (c / 128 / 256 / 4 / 16 / 4)) from (heap_setCell_other _ _ _ _ (by simp)).trans b5)
  have O5 := Lib.hid (show (w5.setCell ⟨w.heap.size, 5, none⟩ (.int .i64 s.side)).heap[w.heap.size]? = some (.cells #[.int .i64 0, .int .i64 0, .int .i64 0, .int .i64 0, .int .i64 0, .int .i64 s.side, .int .i64 s.dir, .int .i64 s.level, .int .i64 s.size, .int .i64 s.wth, .int .i64 0, .int .i64 0, .int .i64 0, .int .i64 0] 49 (0, 0)) from heap_setCell_same _ _ _ _ _ _ o5)
  have E5 := Lib.hid (show Below w.heap.size w (w5.setCell ⟨w.heap.size, 5, none⟩ (.int .i64 s.side)) from e5.setCell (p := ⟨w.heap.size, 5, none⟩) (Nat.le_refl _) _)
  clear b5 x5 o5 e5 B4 O4 E4
  go_wp2_with fail
  refine (co_last (w.heap.size + 1) (c / 128 / 256 / 4 / 16 / 4) 4 16 _ B5.out (by omega) (by omega) (by simp)).mono ?_
  rintro _ w6 ⟨rfl, b6, x6⟩
  rw [p6]
  have o6 := x6.heap O5.out (by omega)
  have e6 := E5.out.trans ((x6.below (n := w.heap.size) E5.out.size (fun b h => by omega)))
  have f6 : w6.cell? ⟨w.heap.size, 4, none⟩ = some (.int .i64 0) := by simp [World.cell?, o6]
  have z6 : w6.frozen? ⟨w.heap.size, 4, none⟩ = false := by simp [World.frozen?, o6]
  have B7 := b6.cell
  rw [p7] at B7
  have g0 : w6.cell? ⟨w.heap.size, 0, none⟩ = some (.int .i64 0) := by simp [World.cell?, o6]
  have g1 : w6.cell? ⟨w.heap.size, 1, none⟩ = some (.int .i64 0) := by simp [World.cell?, o6]
  have g2 : w6.cell? ⟨w.heap.size, 2, none⟩ = some (.int .i64 0) := by simp [World.cell?, o6]
  have g3 : w6.cell? ⟨w.heap.size, 3, none⟩ = some (.int .i64 0) := by simp [World.cell?, o6]
  have g5 : w6.cell? ⟨w.heap.size, 5, none⟩ = some (.int .i64 s.side) := by simp [World.cell?, o6]
  have g6 : w6.cell? ⟨w.heap.size, 6, none⟩ = some (.int .i64 s.dir) := by simp [World.cell?, o6]
  have g7 : w6.cell? ⟨w.heap.size, 7, none⟩ = some (.int .i64 s.level) := by simp [World.cell?, o6]
  have g8 : w6.cell? ⟨w.heap.size, 8, none⟩ = some (.int .i64 s.size) := by simp [World.cell?, o6]
  have g9 : w6.cell? ⟨w.heap.size, 9, none⟩ = some (.int .i64 s.wth) := by simp [World.cell?, o6]
  have g10 : w6.cell? ⟨w.heap.size, 10, none⟩ = some (.int .i64 0) := by simp [World.cell?, o6]
  have g11 : w6.cell? ⟨w.heap.size, 11, none⟩ = some (.int .i64 0) := by simp [World.cell?, o6]
  have g12 : w6.cell? ⟨w.heap.size, 12, none⟩ = some (.int .i64 0) := by simp [World.cell?, o6]
  have g13 : w6.cell? ⟨w.heap.size, 13, none⟩ = some (.int .i64 0) := by simp [World.cell?, o6]
  have zz := show w6.frozen? ⟨w.heap.size, 1, none⟩ = false by simp [World.frozen?, o6]
  have ee := Lib.hid e6
  have hs := e6.size
  have oo := Lib.hid o6
  clear b6 x6 o6 e6 B5 O5 E5
  go_wp2_with fail
  have ov := heap_setCell_same _ _ 1 _ _ (.int .i64 s.role) (heap_setCell_same _ _ 4 _ _ (.int .i64 s.kind) oo.out)
  have ev := Lib.hid ((ee.out.setCell (p := ⟨w.heap.size, 4, none⟩) (Nat.le_refl _) (.int .i64 s.kind)).setCell (p := ⟨w.heap.size, 1, none⟩) (Nat.le_refl _) (.int .i64 s.role))
  clear g0 g1 g2 g3 g5 g6 g7 g8 g9 g10 g11 g12 g13 zz ee oo B7 hb p1 p2 p3 p4 p5 p6 p7 f1 z1 f2 z2 f3 z3 f4 z4 f5 z5 f6 z6
  refine (HC.out _).mono ?_
  rintro _ w8 ⟨rfl, b8⟩
  have o8 : w8.heap[w.heap.size]? = some (.cells #[.int .i64 0, .int .i64 s.role, .int .i64 0, .int .i64 0, .int .i64 s.kind, .int .i64 s.side, .int .i64 s.dir, .int .i64 s.level, .int .i64 s.size, .int .i64 s.wth, .int .i64 0, .int .i64 0, .int .i64 0, .int .i64 0] 49 (0, 0)) := (b8.block w.heap.size (Array.getElem?_eq_some_iff.1 ov).1).trans ov
  have e8 := Lib.hid (ev.out.trans (b8.mono (by simp; omega)))
  have hs8 := e8.out.size
  have g0 : w8.cell? ⟨w.heap.size, 0, none⟩ = some (.int .i64 0) := by simp [World.cell?, o8]
  have g1 : w8.cell? ⟨w.heap.size, 1, none⟩ = some (.int .i64 s.role) := by simp [World.cell?, o8]
  have g2 : w8.cell? ⟨w.heap.size, 2, none⟩ = some (.int .i64 0) := by simp [World.cell?, o8]
  have g3 : w8.cell? ⟨w.heap.size, 3, none⟩ = some (.int .i64 0) := by simp [World.cell?, o8]
  have g4 : w8.cell? ⟨w.heap.size, 4, none⟩ = some (.int .i64 s.kind) := by simp [World.cell?, o8]
  have g5 : w8.cell? ⟨w.heap.size, 5, none⟩ = some (.int .i64 s.side) := by simp [World.cell?, o8]
  have g6 : w8.cell? ⟨w.heap.size, 6, none⟩ = some (.int .i64 s.dir) := by simp [World.cell?, o8]
  have g7 : w8.cell? ⟨w.heap.size, 7, none⟩ = some (.int .i64 s.level) := by simp [World.cell?, o8]
  have g8 : w8.cell? ⟨w.heap.size, 8, none⟩ = some (.int .i64 s.size) := by simp [World.cell?, o8]
  have g9 : w8.cell? ⟨w.heap.size, 9, none⟩ = some (.int .i64 s.wth) := by simp [World.cell?, o8]
  have g10 : w8.cell? ⟨w.heap.size, 10, none⟩ = some (.int .i64 0) := by simp [World.cell?, o8]
  have g11 : w8.cell? ⟨w.heap.size, 11, none⟩ = some (.int .i64 0) := by simp [World.cell?, o8]
  have g12 : w8.cell? ⟨w.heap.size, 12, none⟩ = some (.int .i64 0) := by simp [World.cell?, o8]
  have g13 : w8.cell? ⟨w.heap.size, 13, none⟩ = some (.int .i64 0) := by simp [World.cell?, o8]
  have z0 : w8.frozen? ⟨w.heap.size, 0, none⟩ = false := by simp [World.frozen?, o8]
  have z1 : w8.frozen? ⟨w.heap.size, 1, none⟩ = false := by simp [World.frozen?, o8]
  have z2 : w8.frozen? ⟨w.heap.size, 2, none⟩ = false := by simp [World.frozen?, o8]
  have z3 : w8.frozen? ⟨w.heap.size, 3, none⟩ = false := by simp [World.frozen?, o8]
  have z4 : w8.frozen? ⟨w.heap.size, 4, none⟩ = false := by simp [World.frozen?, o8]
  have z5 : w8.frozen? ⟨w.heap.size, 5, none⟩ = false := by simp [World.frozen?, o8]
  have z6 : w8.frozen? ⟨w.heap.size, 6, none⟩ = false := by simp [World.frozen?, o8]
  have z7 : w8.frozen? ⟨w.heap.size, 7, none⟩ = false := by simp [World.frozen?, o8]
  have z8 : w8.frozen? ⟨w.heap.size, 8, none⟩ = false := by simp [World.frozen?, o8]
  have z9 : w8.frozen? ⟨w.heap.size, 9, none⟩ = false := by simp [World.frozen?, o8]
  have z10 : w8.frozen? ⟨w.heap.size, 10, none⟩ = false := by simp [World.frozen?, o8]
  have z11 : w8.frozen? ⟨w.heap.size, 11, none⟩ = false := by simp [World.frozen?, o8]
  have z12 : w8.frozen? ⟨w.heap.size, 12, none⟩ = false := by simp [World.frozen?, o8]
  have z13 : w8.frozen? ⟨w.heap.size, 13, none⟩ = false := by simp [World.frozen?, o8]
  clear b8 ov ev o8 HC
  go_wp2
  (refine bodyPost_ret (by simp [results, Try.results51, go_sem, Kit.cell_set, g0, g1, g2, g3, g4, g5, g6, g7, g8, g9, g10, g11, g12, g13]; try rfl) rfl ?_)
  exact ⟨⟨⟨0, s.role, 0, 0, s.kind, s.side, s.dir, s.level, s.size, s.wth, 0, 0, 0, 0⟩, rfl⟩, by have hh := e8.out; (repeat' first | (with_reducible first | exact Below.refl _ _ | assumption | refine Kit.below_drewN ?_ _ | refine Below.drew ?_ | refine Below.alloc ?_ ?_ _ | refine Below.setCell ?_ ?_ _ | exact Nat.le_refl _) | omega | (simp; omega) | (simp; done) | (apply Below.size; assumption))⟩
end Go.Proofs.Ytdaedjmkolcliaa
