/- Walks: the laws of layer 20: sane. -/
import Derived.Test.YtggfeblfhabmkaaGreatDoorTyR
namespace Go.Proofs.YtggfeblfhabmkaaGreatDoor
set_option linter.unusedVariables false
set_option linter.unusedSimpArgs false
open Go.RowKit Go.Shelf

theorem Ty.WR.new {w : World} {l : List Ex.Sg} {cur : Array Value} (h : cur = (Ty.flatS l).toArray) : Ty.WR (w.alloc (.cells cur 44)) w.heap.size l 0 := by
  subst h
  refine ⟨_, World.alloc_heap_new w _, by simp [Ty.flatS_len], fun i q hi hq => ?_⟩
  have := Ty.flatS_get l i q hi hq
  unfold Ty.uv
  rw [if_neg (by omega)]
  simpa using this
theorem lw_fl (l : List Ex.Sg) (L : List Ty.F3) (n : Nat) (hn : L.length = n) (p : Ex.Wa) (w : World) (hc : Ex.chk (Ty.wk l) = 0) (hL : Ty.refL (Ty.fin l) = L) (ha : Ex.At w (Ty.wk l) p) (hl : Ex.Laid w) : Calls Tryz.prog 6 #[Ex.workV (Ty.wk l) p] w fun e w' =>
    ∃ a c, e = .returned (.tuple #[.slice a n c, .int .i64 0]) ∧ Tp.Sl w' a n 3 (Ty.f3c L) ∧ Below w.heap.size w w' := by
  subst hn
  have h := ty_faults (Ty.wk l) p w ha hl
  unfold Ty.Fl Ty.lst at h
  rw [hc, if_pos rfl, show (Ty.wk l).sg = Ty.fin l from rfl, hL] at h
  refine h.mono ?_
  rintro e w' ⟨v, rfl, ho, hb⟩
  obtain ⟨a, c, rfl, hs⟩ := Ty.own_fl ho
  exact ⟨a, c, rfl, hs, hb⟩
theorem lw_ck (l : List Ex.Sg) (r : Int) (p : Ex.Wa) (w : World) (hr : Ty.ck20 (Ty.wk l) = r) (ha : Ex.At w (Ty.wk l) p) (hl : Ex.Laid w) : Calls Tryz.prog 9 #[Ex.workV (Ty.wk l) p] w fun e w' => e = .returned (.int .i64 r) ∧ Below w.heap.size w w' := by
  have h := ty_check (Ty.wk l) p w ha hl
  rwa [hr] at h
/-- The cells of a block. -/
def Ty.Cs (w : World) (b : Nat) (l : List Value) : Prop := b < w.heap.size ∧ ∀ j v, l[j]? = some v → w.cell? ⟨b, j, none⟩ = some v
theorem Ty.Cs.kept {w w' : World} {b : Nat} {l : List Value} (h : Ty.Cs w b l) {B : Nat} (hb : Below B w w') (hB : w.heap.size ≤ B) : Ty.Cs w' b l :=
  ⟨Nat.lt_of_lt_of_le h.1 hb.size, fun j v hv => (hb.cell (p := ⟨b, j, none⟩) (Nat.lt_of_lt_of_le h.1 hB)).trans (h.2 j v hv)⟩
theorem Ty.Cs.exc {w w' : World} {b c : Nat} {l : List Value} (h : Ty.Cs w b l) (hx : Kit.Exc (fun k => k = c) w w') (hc : b ≠ c) : Ty.Cs w' b l :=
  ⟨Nat.lt_of_lt_of_le h.1 hx.size, fun j v hv => hx.cell (p := ⟨b, j, none⟩) (h.2 j v hv) hc h.1⟩
namespace Ty

def sgA : List Ex.Sg := [⟨0, 0, 0, 0, 4, 1, 0, 1, 0, 0, 0, 1, 1, 1⟩, ⟨0, 0, 0, 0, 4, 2, 0, 1, 0, 0, 0, 1, 1, 1⟩]
theorem chkA : Ex.chk (wk sgA) = 0 := by decide +kernel
theorem refA : refL (fin sgA) = [] := by decide +kernel
def sgB : List Ex.Sg := [⟨0, 0, 0, 0, 4, 1, 0, 1, 0, 0, 0, 1, 1, 2⟩, ⟨0, 0, 0, 0, 4, 1, 0, 1, 0, 0, 1, 2, 1, 1⟩]
theorem chkB : Ex.chk (wk sgB) = 0 := by decide +kernel
theorem refB : refL (fin sgB) = [] := by decide +kernel
def sgC : List Ex.Sg := [⟨0, 0, 0, 0, 4, 1, 0, 1, 0, 0, 0, 1, 1, 2⟩, ⟨0, 0, 0, 0, 4, 1, 0, 1, 0, 0, 1, 3, 1, 1⟩]
theorem chkC : Ex.chk (wk sgC) = 0 := by decide +kernel
theorem refC : refL (fin sgC) = [(1, 0, 1)] := by decide +kernel
def sgD : List Ex.Sg := [⟨0, 0, 0, 0, 1, 1, 1, 0, 1, 0, 0, 1, 1, 2⟩, ⟨0, 0, 0, 0, 1, 2, 1, 0, 1, 0, 1, 3, 1, 1⟩]
theorem chkD : Ex.chk (wk sgD) = 0 := by decide +kernel
theorem refD : refL (fin sgD) = [(2, 0, 1)] := by decide +kernel
def sgX : List Ex.Sg := [⟨0, 1, 0, 0, 8, 0, 0, 0, 0, 1, 0, 1, 1, 1⟩]
theorem chkX : Ex.chk (wk sgX) = 0 := by decide +kernel
theorem refX : refL (fin sgX) = [(3, 0, 0)] := by decide +kernel
def sgY : List Ex.Sg := [⟨0, 0, 0, 0, 7, 0, 0, 0, 0, 2, 0, 1, 1, 1⟩, ⟨0, 1, 0, 0, 8, 0, 0, 0, 0, 1, 0, 1, 1, 1⟩]
theorem chkY : Ex.chk (wk sgY) = 0 := by decide +kernel
theorem refY : refL (fin sgY) = [] := by decide +kernel
theorem ckX : ck20 (wk sgX) = 200 := by decide +kernel
theorem ckY : ck20 (wk sgY) = 0 := by decide +kernel
def wk0 : Ex.Wk := ⟨0, 0, 0, 0, 0, 0, [], [], [], [], []⟩
theorem chk0 : Ex.chk wk0 = 130 := by decide +kernel
theorem lst0 : lst wk0 = [] := by rw [lst, chk0]; rfl
end Ty

theorem lw_fl0 (w : World) (hl : Ex.Laid w) : Calls Tryz.prog 6 #[.agg #[.int .i64 0, .int .i64 0, .int .i64 0, .int .i64 0, .int .i64 0, .slice none 0 0, .int .i64 0, .slice none 0 0, .slice none 0 0, .slice none 0 0, .slice none 0 0]] w fun e w' =>
    ∃ a c, e = .returned (.tuple #[.slice a 0 c, .int .i64 130]) ∧ Below w.heap.size w w' := by
  have h := ty_faults Ty.wk0 ⟨none, 0, none, 0, none, 0, none, 0, none, 0⟩ w ⟨.inl rfl, .inl rfl, .inl rfl, .inl rfl, .inl rfl, by decide, by decide, by decide, by decide, by decide⟩ hl
  unfold Ty.Fl at h
  rw [Ty.chk0, Ty.lst0] at h
  refine h.mono ?_
  rintro e w' ⟨v, rfl, ho, hb⟩
  obtain ⟨a, c, rfl, hs⟩ := Ty.own_fl ho
  exact ⟨a, c, rfl, hb⟩
theorem Ty.Cs.top {w : World} {b : Nat} {l : List Value} {t : TypeId} (hb : b = w.heap.size) : Ty.Cs (w.alloc (.cells l.toArray t)) b l := by
  subst hb
  have h := World.alloc_heap_new w (.cells l.toArray t)
  refine ⟨(Array.getElem?_eq_some_iff.1 h).1, fun j v hv => ?_⟩
  simp only [World.cell?, h]
  simpa using hv
theorem Ty.Cs.more {w : World} {b : Nat} {l : List Value} (h : Ty.Cs w b l) (o : Obj) : Ty.Cs (w.alloc o) b l := h.kept ((Below.refl w.heap.size w).alloc (Nat.le_refl _) o) (Nat.le_refl _)
set_option maxRecDepth 100000 in
set_option maxHeartbeats 4000000 in
theorem lw_sane (w : World) (hl : Ex.Laid w) : Calls Tryz.prog 4 #[] w fun e w' => e = .returned (.bool true) ∧ Below w.heap.size w w' := by
  have HL := Lib.hid hl; clear hl
  go_enter Tryz.func4, Tryz.ntmps4
  go_upto_region 6 with fail
  obtain ⟨W6, hW6⟩ : ∃ W6, W6 = (((((w.alloc (.cells #[.int .i64 0, .int .i64 1] 42)).alloc (.cells #[.int .i64 1, .int .i64 2] 42)).alloc (.cells #[.int .i64 1, .int .i64 3] 42)).alloc (.cells #[.int .i64 1, .int .i64 1] 42)).alloc (.cells #[.int .i64 0, .int .i64 0, .int .i64 0, .int .i64 0, .int .i64 7, .int .i64 0, .int .i64 0, .int .i64 0, .int .i64 0, .int .i64 2, .int .i64 0, .int .i64 1, .int .i64 1, .int .i64 1] 44)).alloc (.cells #[.int .i64 0, .int .i64 1, .int .i64 0, .int .i64 0, .int .i64 8, .int .i64 0, .int .i64 0, .int .i64 0, .int .i64 0, .int .i64 1, .int .i64 0, .int .i64 1, .int .i64 1, .int .i64 1] 44) := ⟨_, rfl⟩
  rw [← hW6]
  have HB6 := Lib.hid (show Below w.heap.size w W6 by rw [hW6]; (repeat' first | (with_reducible first | exact Below.refl _ _ | assumption | refine Kit.below_drewN ?_ _ | refine Below.drew ?_ | refine Below.alloc ?_ ?_ _ | refine Below.setCell ?_ ?_ _ | exact Nat.le_refl _) | omega | (simp; omega) | (simp; done) | (apply Below.size; assumption)))
  have CZ6 := Lib.hid (show Ty.Cs W6 (w.heap.size) [.int .i64 0, .int .i64 1] by rw [hW6]; exact Ty.Cs.more (Ty.Cs.more (Ty.Cs.more (Ty.Cs.more (Ty.Cs.more (Ty.Cs.top (by simp)) _) _) _) _) _)
  have CH6 := Lib.hid (show Ty.Cs W6 (w.heap.size + 1) [.int .i64 1, .int .i64 2] by rw [hW6]; exact Ty.Cs.more (Ty.Cs.more (Ty.Cs.more (Ty.Cs.more (Ty.Cs.top (by simp)) _) _) _) _)
  have CT6 := Lib.hid (show Ty.Cs W6 (w.heap.size + 1 + 1) [.int .i64 1, .int .i64 3] by rw [hW6]; exact Ty.Cs.more (Ty.Cs.more (Ty.Cs.more (Ty.Cs.top (by simp)) _) _) _)
  have CO6 := Lib.hid (show Ty.Cs W6 (w.heap.size + 1 + 1 + 1) [.int .i64 1, .int .i64 1] by rw [hW6]; exact Ty.Cs.more (Ty.Cs.more (Ty.Cs.top (by simp)) _) _)
  have CLI6 := Lib.hid (show Ty.Cs W6 (w.heap.size + 1 + 1 + 1 + 1) [.int .i64 0, .int .i64 0, .int .i64 0, .int .i64 0, .int .i64 7, .int .i64 0, .int .i64 0, .int .i64 0, .int .i64 0, .int .i64 2, .int .i64 0, .int .i64 1, .int .i64 1, .int .i64 1] by rw [hW6]; exact Ty.Cs.more (Ty.Cs.top (by simp)) _)
  have CRI6 := Lib.hid (show Ty.Cs W6 (w.heap.size + 1 + 1 + 1 + 1 + 1) [.int .i64 0, .int .i64 1, .int .i64 0, .int .i64 0, .int .i64 8, .int .i64 0, .int .i64 0, .int .i64 0, .int .i64 0, .int .i64 1, .int .i64 0, .int .i64 1, .int .i64 1, .int .i64 1] by rw [hW6]; exact Ty.Cs.top (by simp))
  clear hW6
  have z_0 : ∀ z : Kit.Wd W6, z.val.cell? ⟨w.heap.size, 0, none⟩ = some (.int .i64 0) := fun z => z.cell (CZ6.out.2 0 _ rfl) CZ6.out.1
  have z_1 : ∀ z : Kit.Wd W6, z.val.cell? ⟨w.heap.size, 1, none⟩ = some (.int .i64 1) := fun z => z.cell (CZ6.out.2 1 _ rfl) CZ6.out.1
  have o_0 : ∀ z : Kit.Wd W6, z.val.cell? ⟨w.heap.size + 1 + 1 + 1, 0, none⟩ = some (.int .i64 1) := fun z => z.cell (CO6.out.2 0 _ rfl) CO6.out.1
  have o_1 : ∀ z : Kit.Wd W6, z.val.cell? ⟨w.heap.size + 1 + 1 + 1, 1, none⟩ = some (.int .i64 1) := fun z => z.cell (CO6.out.2 1 _ rfl) CO6.out.1
  refine Kit.wp_region_cls_mid 8 4 (by kernel_rfl) (by kernel_rfl) ?_
  simp only [List.take_succ_cons, List.take_zero, List.drop_succ_cons, List.drop_zero]
  (repeat (go_big_quiet_step (exact Kit.calls_cls _ (lw_arm _ _ _ _ _ _))))
  refine wpQuiet_nil ?_
  intro z6
  clear z_0 z_1 o_0 o_1
  go_wp2_with fail
  obtain ⟨V6, hV6⟩ : ∃ V, V = z6.val.alloc (.cells #[.int .i64 0, .int .i64 0, .int .i64 0, .int .i64 0, .int .i64 4, .int .i64 1, .int .i64 0, .int .i64 1, .int .i64 0, .int .i64 0, .int .i64 0, .int .i64 1, .int .i64 1, .int .i64 1, .int .i64 0, .int .i64 0, .int .i64 0, .int .i64 0, .int .i64 4, .int .i64 2, .int .i64 0, .int .i64 1, .int .i64 0, .int .i64 0, .int .i64 0, .int .i64 1, .int .i64 1, .int .i64 1] 44) := ⟨_, rfl⟩
  rw [← hV6]
  have bV6 : Below W6.heap.size W6 V6 := by rw [hV6]; exact (z6.below.alloc (by have := z6.below.size; omega) _)
  have wr6 : Ty.WR V6 z6.val.heap.size Ty.sgA 0 := by rw [hV6]; exact Ty.WR.new rfl
  refine (lw_work Ty.sgA z6.val.heap.size V6 (by decide) wr6).mono ?_
  rintro _ X6 ⟨p6, rfl, ha6, hx6⟩
  have bx6 : Below W6.heap.size V6 X6 := hx6.below bV6.size (fun b e => by have := z6.below.size; omega)
  have HB6x := Lib.hid (HB6.out.trans ((bV6.trans bx6).mono HB6.out.size))
  have CZ6x := Lib.hid (CZ6.out.kept (bV6.trans bx6) (Nat.le_refl _))
  have CH6x := Lib.hid (CH6.out.kept (bV6.trans bx6) (Nat.le_refl _))
  have CT6x := Lib.hid (CT6.out.kept (bV6.trans bx6) (Nat.le_refl _))
  have CO6x := Lib.hid (CO6.out.kept (bV6.trans bx6) (Nat.le_refl _))
  have CLI6x := Lib.hid (CLI6.out.kept (bV6.trans bx6) (Nat.le_refl _))
  have CRI6x := Lib.hid (CRI6.out.kept (bV6.trans bx6) (Nat.le_refl _))
  clear HB6 CZ6 CH6 CT6 CO6 CLI6 CRI6
  clear hx6
  go_wp2_with fail
  refine (lw_fl Ty.sgA [] 0 rfl p6 X6 Ty.chkA Ty.refA ha6 (HL.out.kept HB6x.out (Nat.le_refl _))).mono ?_
  rintro _ W7 ⟨aA, cA, rfl, sA, hb7⟩
  have HB7 := Lib.hid (HB6x.out.trans ((hb7).mono HB6x.out.size))
  have CZ7 := Lib.hid (CZ6x.out.kept (hb7) (Nat.le_refl _))
  have CH7 := Lib.hid (CH6x.out.kept (hb7) (Nat.le_refl _))
  have CT7 := Lib.hid (CT6x.out.kept (hb7) (Nat.le_refl _))
  have CO7 := Lib.hid (CO6x.out.kept (hb7) (Nat.le_refl _))
  have CLI7 := Lib.hid (CLI6x.out.kept (hb7) (Nat.le_refl _))
  have CRI7 := Lib.hid (CRI6x.out.kept (hb7) (Nat.le_refl _))
  clear HB6x CZ6x CH6x CT6x CO6x CLI6x CRI6x
  clear ha6 hb7
  clear sA
  go_wp2_with fail
  show wpQuiet Tryz.prog _ _ _ _ _
  (repeat (go_big_quiet_step (fail)))
  refine wpQuiet_nil ?_
  go_upto_region 7 with fail
  have z_0 : ∀ z : Kit.Wd W7, z.val.cell? ⟨w.heap.size, 0, none⟩ = some (.int .i64 0) := fun z => z.cell (CZ7.out.2 0 _ rfl) CZ7.out.1
  have z_1 : ∀ z : Kit.Wd W7, z.val.cell? ⟨w.heap.size, 1, none⟩ = some (.int .i64 1) := fun z => z.cell (CZ7.out.2 1 _ rfl) CZ7.out.1
  have h_0 : ∀ z : Kit.Wd W7, z.val.cell? ⟨w.heap.size + 1, 0, none⟩ = some (.int .i64 1) := fun z => z.cell (CH7.out.2 0 _ rfl) CH7.out.1
  have h_1 : ∀ z : Kit.Wd W7, z.val.cell? ⟨w.heap.size + 1, 1, none⟩ = some (.int .i64 2) := fun z => z.cell (CH7.out.2 1 _ rfl) CH7.out.1
  have o_0 : ∀ z : Kit.Wd W7, z.val.cell? ⟨w.heap.size + 1 + 1 + 1, 0, none⟩ = some (.int .i64 1) := fun z => z.cell (CO7.out.2 0 _ rfl) CO7.out.1
  have o_1 : ∀ z : Kit.Wd W7, z.val.cell? ⟨w.heap.size + 1 + 1 + 1, 1, none⟩ = some (.int .i64 1) := fun z => z.cell (CO7.out.2 1 _ rfl) CO7.out.1
  refine Kit.wp_region_cls_mid 8 4 (by kernel_rfl) (by kernel_rfl) ?_
  simp only [List.take_succ_cons, List.take_zero, List.drop_succ_cons, List.drop_zero]
  (repeat (go_big_quiet_step (exact Kit.calls_cls _ (lw_arm _ _ _ _ _ _))))
  refine wpQuiet_nil ?_
  intro z7
  clear z_0 z_1 h_0 h_1 o_0 o_1
  go_wp2_with fail
  obtain ⟨V7, hV7⟩ : ∃ V, V = z7.val.alloc (.cells #[.int .i64 0, .int .i64 0, .int .i64 0, .int .i64 0, .int .i64 4, .int .i64 1, .int .i64 0, .int .i64 1, .int .i64 0, .int .i64 0, .int .i64 0, .int .i64 1, .int .i64 1, .int .i64 2, .int .i64 0, .int .i64 0, .int .i64 0, .int .i64 0, .int .i64 4, .int .i64 1, .int .i64 0, .int .i64 1, .int .i64 0, .int .i64 0, .int .i64 1, .int .i64 2, .int .i64 1, .int .i64 1] 44) := ⟨_, rfl⟩
  rw [← hV7]
  have bV7 : Below W7.heap.size W7 V7 := by rw [hV7]; exact (z7.below.alloc (by have := z7.below.size; omega) _)
  have wr7 : Ty.WR V7 z7.val.heap.size Ty.sgB 0 := by rw [hV7]; exact Ty.WR.new rfl
  refine (lw_work Ty.sgB z7.val.heap.size V7 (by decide) wr7).mono ?_
  rintro _ X7 ⟨p7, rfl, ha7, hx7⟩
  have bx7 : Below W7.heap.size V7 X7 := hx7.below bV7.size (fun b e => by have := z7.below.size; omega)
  have HB7x := Lib.hid (HB7.out.trans ((bV7.trans bx7).mono HB7.out.size))
  have CZ7x := Lib.hid (CZ7.out.kept (bV7.trans bx7) (Nat.le_refl _))
  have CH7x := Lib.hid (CH7.out.kept (bV7.trans bx7) (Nat.le_refl _))
  have CT7x := Lib.hid (CT7.out.kept (bV7.trans bx7) (Nat.le_refl _))
  have CO7x := Lib.hid (CO7.out.kept (bV7.trans bx7) (Nat.le_refl _))
  have CLI7x := Lib.hid (CLI7.out.kept (bV7.trans bx7) (Nat.le_refl _))
  have CRI7x := Lib.hid (CRI7.out.kept (bV7.trans bx7) (Nat.le_refl _))
  clear HB7 CZ7 CH7 CT7 CO7 CLI7 CRI7
  clear hx7
  go_wp2_with fail
  refine (lw_fl Ty.sgB [] 0 rfl p7 X7 Ty.chkB Ty.refB ha7 (HL.out.kept HB7x.out (Nat.le_refl _))).mono ?_
  rintro _ W8 ⟨aB, cB, rfl, sB, hb8⟩
  have HB8 := Lib.hid (HB7x.out.trans ((hb8).mono HB7x.out.size))
  have CZ8 := Lib.hid (CZ7x.out.kept (hb8) (Nat.le_refl _))
  have CH8 := Lib.hid (CH7x.out.kept (hb8) (Nat.le_refl _))
  have CT8 := Lib.hid (CT7x.out.kept (hb8) (Nat.le_refl _))
  have CO8 := Lib.hid (CO7x.out.kept (hb8) (Nat.le_refl _))
  have CLI8 := Lib.hid (CLI7x.out.kept (hb8) (Nat.le_refl _))
  have CRI8 := Lib.hid (CRI7x.out.kept (hb8) (Nat.le_refl _))
  clear HB7x CZ7x CH7x CT7x CO7x CLI7x CRI7x
  clear ha7 hb8
  clear sB
  go_wp2_with fail
  show wpQuiet Tryz.prog _ _ _ _ _
  (repeat (go_big_quiet_step (fail)))
  refine wpQuiet_nil ?_
  go_upto_region 8 with fail
  have z_0 : ∀ z : Kit.Wd W8, z.val.cell? ⟨w.heap.size, 0, none⟩ = some (.int .i64 0) := fun z => z.cell (CZ8.out.2 0 _ rfl) CZ8.out.1
  have z_1 : ∀ z : Kit.Wd W8, z.val.cell? ⟨w.heap.size, 1, none⟩ = some (.int .i64 1) := fun z => z.cell (CZ8.out.2 1 _ rfl) CZ8.out.1
  have h_0 : ∀ z : Kit.Wd W8, z.val.cell? ⟨w.heap.size + 1, 0, none⟩ = some (.int .i64 1) := fun z => z.cell (CH8.out.2 0 _ rfl) CH8.out.1
  have h_1 : ∀ z : Kit.Wd W8, z.val.cell? ⟨w.heap.size + 1, 1, none⟩ = some (.int .i64 2) := fun z => z.cell (CH8.out.2 1 _ rfl) CH8.out.1
  have t_0 : ∀ z : Kit.Wd W8, z.val.cell? ⟨w.heap.size + 1 + 1, 0, none⟩ = some (.int .i64 1) := fun z => z.cell (CT8.out.2 0 _ rfl) CT8.out.1
  have t_1 : ∀ z : Kit.Wd W8, z.val.cell? ⟨w.heap.size + 1 + 1, 1, none⟩ = some (.int .i64 3) := fun z => z.cell (CT8.out.2 1 _ rfl) CT8.out.1
  have o_0 : ∀ z : Kit.Wd W8, z.val.cell? ⟨w.heap.size + 1 + 1 + 1, 0, none⟩ = some (.int .i64 1) := fun z => z.cell (CO8.out.2 0 _ rfl) CO8.out.1
  have o_1 : ∀ z : Kit.Wd W8, z.val.cell? ⟨w.heap.size + 1 + 1 + 1, 1, none⟩ = some (.int .i64 1) := fun z => z.cell (CO8.out.2 1 _ rfl) CO8.out.1
  refine Kit.wp_region_cls_mid 8 4 (by kernel_rfl) (by kernel_rfl) ?_
  simp only [List.take_succ_cons, List.take_zero, List.drop_succ_cons, List.drop_zero]
  (repeat (go_big_quiet_step (exact Kit.calls_cls _ (lw_arm _ _ _ _ _ _))))
  refine wpQuiet_nil ?_
  intro z8
  clear z_0 z_1 h_0 h_1 t_0 t_1 o_0 o_1
  go_wp2_with fail
  obtain ⟨V8, hV8⟩ : ∃ V, V = z8.val.alloc (.cells #[.int .i64 0, .int .i64 0, .int .i64 0, .int .i64 0, .int .i64 4, .int .i64 1, .int .i64 0, .int .i64 1, .int .i64 0, .int .i64 0, .int .i64 0, .int .i64 1, .int .i64 1, .int .i64 2, .int .i64 0, .int .i64 0, .int .i64 0, .int .i64 0, .int .i64 4, .int .i64 1, .int .i64 0, .int .i64 1, .int .i64 0, .int .i64 0, .int .i64 1, .int .i64 3, .int .i64 1, .int .i64 1] 44) := ⟨_, rfl⟩
  rw [← hV8]
  have bV8 : Below W8.heap.size W8 V8 := by rw [hV8]; exact (z8.below.alloc (by have := z8.below.size; omega) _)
  have wr8 : Ty.WR V8 z8.val.heap.size Ty.sgC 0 := by rw [hV8]; exact Ty.WR.new rfl
  refine (lw_work Ty.sgC z8.val.heap.size V8 (by decide) wr8).mono ?_
  rintro _ X8 ⟨p8, rfl, ha8, hx8⟩
  have bx8 : Below W8.heap.size V8 X8 := hx8.below bV8.size (fun b e => by have := z8.below.size; omega)
  have HB8x := Lib.hid (HB8.out.trans ((bV8.trans bx8).mono HB8.out.size))
  have CZ8x := Lib.hid (CZ8.out.kept (bV8.trans bx8) (Nat.le_refl _))
  have CH8x := Lib.hid (CH8.out.kept (bV8.trans bx8) (Nat.le_refl _))
  have CT8x := Lib.hid (CT8.out.kept (bV8.trans bx8) (Nat.le_refl _))
  have CO8x := Lib.hid (CO8.out.kept (bV8.trans bx8) (Nat.le_refl _))
  have CLI8x := Lib.hid (CLI8.out.kept (bV8.trans bx8) (Nat.le_refl _))
  have CRI8x := Lib.hid (CRI8.out.kept (bV8.trans bx8) (Nat.le_refl _))
  clear HB8 CZ8 CH8 CT8 CO8 CLI8 CRI8
  clear hx8
  go_wp2_with fail
  refine (lw_fl Ty.sgC [(1, 0, 1)] 1 rfl p8 X8 Ty.chkC Ty.refC ha8 (HL.out.kept HB8x.out (Nat.le_refl _))).mono ?_
  rintro _ W9 ⟨aC, cC, rfl, sC, hb9⟩
  have HB9 := Lib.hid (HB8x.out.trans ((hb9).mono HB8x.out.size))
  have CZ9 := Lib.hid (CZ8x.out.kept (hb9) (Nat.le_refl _))
  have CH9 := Lib.hid (CH8x.out.kept (hb9) (Nat.le_refl _))
  have CT9 := Lib.hid (CT8x.out.kept (hb9) (Nat.le_refl _))
  have CO9 := Lib.hid (CO8x.out.kept (hb9) (Nat.le_refl _))
  have CLI9 := Lib.hid (CLI8x.out.kept (hb9) (Nat.le_refl _))
  have CRI9 := Lib.hid (CRI8x.out.kept (hb9) (Nat.le_refl _))
  clear HB8x CZ8x CH8x CT8x CO8x CLI8x CRI8x
  clear ha8 hb9
  have SC9 := Lib.hid sC
  clear sC
  go_wp2_with fail
  show wpQuiet Tryz.prog _ _ _ _ _
  (repeat (go_big_quiet_step (fail)))
  refine wpQuiet_nil ?_
  go_upto_region 9 with fail
  have z_0 : ∀ z : Kit.Wd W9, z.val.cell? ⟨w.heap.size, 0, none⟩ = some (.int .i64 0) := fun z => z.cell (CZ9.out.2 0 _ rfl) CZ9.out.1
  have z_1 : ∀ z : Kit.Wd W9, z.val.cell? ⟨w.heap.size, 1, none⟩ = some (.int .i64 1) := fun z => z.cell (CZ9.out.2 1 _ rfl) CZ9.out.1
  have h_0 : ∀ z : Kit.Wd W9, z.val.cell? ⟨w.heap.size + 1, 0, none⟩ = some (.int .i64 1) := fun z => z.cell (CH9.out.2 0 _ rfl) CH9.out.1
  have h_1 : ∀ z : Kit.Wd W9, z.val.cell? ⟨w.heap.size + 1, 1, none⟩ = some (.int .i64 2) := fun z => z.cell (CH9.out.2 1 _ rfl) CH9.out.1
  have t_0 : ∀ z : Kit.Wd W9, z.val.cell? ⟨w.heap.size + 1 + 1, 0, none⟩ = some (.int .i64 1) := fun z => z.cell (CT9.out.2 0 _ rfl) CT9.out.1
  have t_1 : ∀ z : Kit.Wd W9, z.val.cell? ⟨w.heap.size + 1 + 1, 1, none⟩ = some (.int .i64 3) := fun z => z.cell (CT9.out.2 1 _ rfl) CT9.out.1
  have o_0 : ∀ z : Kit.Wd W9, z.val.cell? ⟨w.heap.size + 1 + 1 + 1, 0, none⟩ = some (.int .i64 1) := fun z => z.cell (CO9.out.2 0 _ rfl) CO9.out.1
  have o_1 : ∀ z : Kit.Wd W9, z.val.cell? ⟨w.heap.size + 1 + 1 + 1, 1, none⟩ = some (.int .i64 1) := fun z => z.cell (CO9.out.2 1 _ rfl) CO9.out.1
  refine Kit.wp_region_cls_mid 8 4 (by kernel_rfl) (by kernel_rfl) ?_
  simp only [List.take_succ_cons, List.take_zero, List.drop_succ_cons, List.drop_zero]
  (repeat (go_big_quiet_step (exact Kit.calls_cls _ (lw_step _ _ _ _ _ _))))
  refine wpQuiet_nil ?_
  intro z9
  clear z_0 z_1 h_0 h_1 t_0 t_1 o_0 o_1
  go_wp2_with fail
  obtain ⟨V9, hV9⟩ : ∃ V, V = z9.val.alloc (.cells #[.int .i64 0, .int .i64 0, .int .i64 0, .int .i64 0, .int .i64 1, .int .i64 1, .int .i64 1, .int .i64 0, .int .i64 1, .int .i64 0, .int .i64 0, .int .i64 1, .int .i64 1, .int .i64 2, .int .i64 0, .int .i64 0, .int .i64 0, .int .i64 0, .int .i64 1, .int .i64 2, .int .i64 1, .int .i64 0, .int .i64 1, .int .i64 0, .int .i64 1, .int .i64 3, .int .i64 1, .int .i64 1] 44) := ⟨_, rfl⟩
  rw [← hV9]
  have bV9 : Below W9.heap.size W9 V9 := by rw [hV9]; exact (z9.below.alloc (by have := z9.below.size; omega) _)
  have wr9 : Ty.WR V9 z9.val.heap.size Ty.sgD 0 := by rw [hV9]; exact Ty.WR.new rfl
  refine (lw_work Ty.sgD z9.val.heap.size V9 (by decide) wr9).mono ?_
  rintro _ X9 ⟨p9, rfl, ha9, hx9⟩
  have bx9 : Below W9.heap.size V9 X9 := hx9.below bV9.size (fun b e => by have := z9.below.size; omega)
  have HB9x := Lib.hid (HB9.out.trans ((bV9.trans bx9).mono HB9.out.size))
  have CZ9x := Lib.hid (CZ9.out.kept (bV9.trans bx9) (Nat.le_refl _))
  have CH9x := Lib.hid (CH9.out.kept (bV9.trans bx9) (Nat.le_refl _))
  have CT9x := Lib.hid (CT9.out.kept (bV9.trans bx9) (Nat.le_refl _))
  have CO9x := Lib.hid (CO9.out.kept (bV9.trans bx9) (Nat.le_refl _))
  have CLI9x := Lib.hid (CLI9.out.kept (bV9.trans bx9) (Nat.le_refl _))
  have CRI9x := Lib.hid (CRI9.out.kept (bV9.trans bx9) (Nat.le_refl _))
  have SC9x := Lib.hid (SC9.out.kept (bV9.trans bx9) (Nat.le_refl _))
  clear HB9 CZ9 CH9 CT9 CO9 CLI9 CRI9 SC9
  clear hx9
  go_wp2_with fail
  refine (lw_fl Ty.sgD [(2, 0, 1)] 1 rfl p9 X9 Ty.chkD Ty.refD ha9 (HL.out.kept HB9x.out (Nat.le_refl _))).mono ?_
  rintro _ W10 ⟨aD, cD, rfl, sD, hb10⟩
  have HB10 := Lib.hid (HB9x.out.trans ((hb10).mono HB9x.out.size))
  have CZ10 := Lib.hid (CZ9x.out.kept (hb10) (Nat.le_refl _))
  have CH10 := Lib.hid (CH9x.out.kept (hb10) (Nat.le_refl _))
  have CT10 := Lib.hid (CT9x.out.kept (hb10) (Nat.le_refl _))
  have CO10 := Lib.hid (CO9x.out.kept (hb10) (Nat.le_refl _))
  have CLI10 := Lib.hid (CLI9x.out.kept (hb10) (Nat.le_refl _))
  have CRI10 := Lib.hid (CRI9x.out.kept (hb10) (Nat.le_refl _))
  have SC10 := Lib.hid (SC9x.out.kept (hb10) (Nat.le_refl _))
  clear HB9x CZ9x CH9x CT9x CO9x CLI9x CRI9x SC9x
  clear ha9 hb10
  have SD10 := Lib.hid sD
  clear sD
  go_wp2_with fail
  show wpQuiet Tryz.prog _ _ _ _ _
  (repeat (go_big_quiet_step (fail)))
  refine wpQuiet_nil ?_
  go_upto_region 10 with fail
  have ri_0 := CRI10.out.2 0 _ rfl
  have ri_1 := CRI10.out.2 1 _ rfl
  have ri_2 := CRI10.out.2 2 _ rfl
  have ri_3 := CRI10.out.2 3 _ rfl
  have ri_4 := CRI10.out.2 4 _ rfl
  have ri_5 := CRI10.out.2 5 _ rfl
  have ri_6 := CRI10.out.2 6 _ rfl
  have ri_7 := CRI10.out.2 7 _ rfl
  have ri_8 := CRI10.out.2 8 _ rfl
  have ri_9 := CRI10.out.2 9 _ rfl
  have ri_10 := CRI10.out.2 10 _ rfl
  have ri_11 := CRI10.out.2 11 _ rfl
  have ri_12 := CRI10.out.2 12 _ rfl
  have ri_13 := CRI10.out.2 13 _ rfl
  have ri_z := CRI10.out.1
  go_wp2_with fail
  clear ri_0 ri_1 ri_2 ri_3 ri_4 ri_5 ri_6 ri_7 ri_8 ri_9 ri_10 ri_11 ri_12 ri_13 ri_z
  obtain ⟨V10, hV10⟩ : ∃ V, V = W10.alloc (.cells #[.int .i64 0, .int .i64 1, .int .i64 0, .int .i64 0, .int .i64 8, .int .i64 0, .int .i64 0, .int .i64 0, .int .i64 0, .int .i64 1, .int .i64 0, .int .i64 1, .int .i64 1, .int .i64 1] 44) := ⟨_, rfl⟩
  rw [← hV10]
  have bV10 : Below W10.heap.size W10 V10 := by rw [hV10]; exact ((Below.refl _ _).alloc (Nat.le_refl _) _)
  have wr10 : Ty.WR V10 W10.heap.size Ty.sgX 0 := by rw [hV10]; exact Ty.WR.new rfl
  refine (lw_work Ty.sgX W10.heap.size V10 (by decide) wr10).mono ?_
  rintro _ X10 ⟨p10, rfl, ha10, hx10⟩
  have bx10 : Below W10.heap.size V10 X10 := hx10.below bV10.size (fun b e => by omega)
  have HB10x := Lib.hid (HB10.out.trans ((bV10.trans bx10).mono HB10.out.size))
  have CZ10x := Lib.hid (CZ10.out.kept (bV10.trans bx10) (Nat.le_refl _))
  have CH10x := Lib.hid (CH10.out.kept (bV10.trans bx10) (Nat.le_refl _))
  have CT10x := Lib.hid (CT10.out.kept (bV10.trans bx10) (Nat.le_refl _))
  have CO10x := Lib.hid (CO10.out.kept (bV10.trans bx10) (Nat.le_refl _))
  have CLI10x := Lib.hid (CLI10.out.kept (bV10.trans bx10) (Nat.le_refl _))
  have CRI10x := Lib.hid (CRI10.out.kept (bV10.trans bx10) (Nat.le_refl _))
  have SC10x := Lib.hid (SC10.out.kept (bV10.trans bx10) (Nat.le_refl _))
  have SD10x := Lib.hid (SD10.out.kept (bV10.trans bx10) (Nat.le_refl _))
  clear HB10 CZ10 CH10 CT10 CO10 CLI10 CRI10 SC10 SD10
  clear hx10
  go_wp2_with fail
  refine (lw_fl Ty.sgX [(3, 0, 0)] 1 rfl p10 X10 Ty.chkX Ty.refX ha10 (HL.out.kept HB10x.out (Nat.le_refl _))).mono ?_
  rintro _ W11 ⟨aX, cX, rfl, sX, hb11⟩
  have HB11 := Lib.hid (HB10x.out.trans ((hb11).mono HB10x.out.size))
  have CZ11 := Lib.hid (CZ10x.out.kept (hb11) (Nat.le_refl _))
  have CH11 := Lib.hid (CH10x.out.kept (hb11) (Nat.le_refl _))
  have CT11 := Lib.hid (CT10x.out.kept (hb11) (Nat.le_refl _))
  have CO11 := Lib.hid (CO10x.out.kept (hb11) (Nat.le_refl _))
  have CLI11 := Lib.hid (CLI10x.out.kept (hb11) (Nat.le_refl _))
  have CRI11 := Lib.hid (CRI10x.out.kept (hb11) (Nat.le_refl _))
  have SC11 := Lib.hid (SC10x.out.kept (hb11) (Nat.le_refl _))
  have SD11 := Lib.hid (SD10x.out.kept (hb11) (Nat.le_refl _))
  clear HB10x CZ10x CH10x CT10x CO10x CLI10x CRI10x SC10x SD10x
  clear ha10 hb11
  have SX11 := Lib.hid sX
  clear sX
  go_upto_region 11 with fail
  have li_0 := CLI11.out.2 0 _ rfl
  have li_1 := CLI11.out.2 1 _ rfl
  have li_2 := CLI11.out.2 2 _ rfl
  have li_3 := CLI11.out.2 3 _ rfl
  have li_4 := CLI11.out.2 4 _ rfl
  have li_5 := CLI11.out.2 5 _ rfl
  have li_6 := CLI11.out.2 6 _ rfl
  have li_7 := CLI11.out.2 7 _ rfl
  have li_8 := CLI11.out.2 8 _ rfl
  have li_9 := CLI11.out.2 9 _ rfl
  have li_10 := CLI11.out.2 10 _ rfl
  have li_11 := CLI11.out.2 11 _ rfl
  have li_12 := CLI11.out.2 12 _ rfl
  have li_13 := CLI11.out.2 13 _ rfl
  have li_z := CLI11.out.1
  have ri_0 := CRI11.out.2 0 _ rfl
  have ri_1 := CRI11.out.2 1 _ rfl
  have ri_2 := CRI11.out.2 2 _ rfl
  have ri_3 := CRI11.out.2 3 _ rfl
  have ri_4 := CRI11.out.2 4 _ rfl
  have ri_5 := CRI11.out.2 5 _ rfl
  have ri_6 := CRI11.out.2 6 _ rfl
  have ri_7 := CRI11.out.2 7 _ rfl
  have ri_8 := CRI11.out.2 8 _ rfl
  have ri_9 := CRI11.out.2 9 _ rfl
  have ri_10 := CRI11.out.2 10 _ rfl
  have ri_11 := CRI11.out.2 11 _ rfl
  have ri_12 := CRI11.out.2 12 _ rfl
  have ri_13 := CRI11.out.2 13 _ rfl
  have ri_z := CRI11.out.1
  go_wp2_with fail
  clear li_0 li_1 li_2 li_3 li_4 li_5 li_6 li_7 li_8 li_9 li_10 li_11 li_12 li_13 li_z ri_0 ri_1 ri_2 ri_3 ri_4 ri_5 ri_6 ri_7 ri_8 ri_9 ri_10 ri_11 ri_12 ri_13 ri_z
  obtain ⟨V11, hV11⟩ : ∃ V, V = W11.alloc (.cells #[.int .i64 0, .int .i64 0, .int .i64 0, .int .i64 0, .int .i64 7, .int .i64 0, .int .i64 0, .int .i64 0, .int .i64 0, .int .i64 2, .int .i64 0, .int .i64 1, .int .i64 1, .int .i64 1, .int .i64 0, .int .i64 1, .int .i64 0, .int .i64 0, .int .i64 8, .int .i64 0, .int .i64 0, .int .i64 0, .int .i64 0, .int .i64 1, .int .i64 0, .int .i64 1, .int .i64 1, .int .i64 1] 44) := ⟨_, rfl⟩
  rw [← hV11]
  have bV11 : Below W11.heap.size W11 V11 := by rw [hV11]; exact ((Below.refl _ _).alloc (Nat.le_refl _) _)
  have wr11 : Ty.WR V11 W11.heap.size Ty.sgY 0 := by rw [hV11]; exact Ty.WR.new rfl
  refine (lw_work Ty.sgY W11.heap.size V11 (by decide) wr11).mono ?_
  rintro _ X11 ⟨p11, rfl, ha11, hx11⟩
  have bx11 : Below W11.heap.size V11 X11 := hx11.below bV11.size (fun b e => by omega)
  have HB11x := Lib.hid (HB11.out.trans ((bV11.trans bx11).mono HB11.out.size))
  have CZ11x := Lib.hid (CZ11.out.kept (bV11.trans bx11) (Nat.le_refl _))
  have CH11x := Lib.hid (CH11.out.kept (bV11.trans bx11) (Nat.le_refl _))
  have CT11x := Lib.hid (CT11.out.kept (bV11.trans bx11) (Nat.le_refl _))
  have CO11x := Lib.hid (CO11.out.kept (bV11.trans bx11) (Nat.le_refl _))
  have CLI11x := Lib.hid (CLI11.out.kept (bV11.trans bx11) (Nat.le_refl _))
  have CRI11x := Lib.hid (CRI11.out.kept (bV11.trans bx11) (Nat.le_refl _))
  have SC11x := Lib.hid (SC11.out.kept (bV11.trans bx11) (Nat.le_refl _))
  have SD11x := Lib.hid (SD11.out.kept (bV11.trans bx11) (Nat.le_refl _))
  have SX11x := Lib.hid (SX11.out.kept (bV11.trans bx11) (Nat.le_refl _))
  clear HB11 CZ11 CH11 CT11 CO11 CLI11 CRI11 SC11 SD11 SX11
  clear hx11
  go_wp2_with fail
  refine (lw_fl Ty.sgY [] 0 rfl p11 X11 Ty.chkY Ty.refY ha11 (HL.out.kept HB11x.out (Nat.le_refl _))).mono ?_
  rintro _ W12 ⟨aY, cY, rfl, sY, hb12⟩
  have HB12 := Lib.hid (HB11x.out.trans ((hb12).mono HB11x.out.size))
  have CZ12 := Lib.hid (CZ11x.out.kept (hb12) (Nat.le_refl _))
  have CH12 := Lib.hid (CH11x.out.kept (hb12) (Nat.le_refl _))
  have CT12 := Lib.hid (CT11x.out.kept (hb12) (Nat.le_refl _))
  have CO12 := Lib.hid (CO11x.out.kept (hb12) (Nat.le_refl _))
  have CLI12 := Lib.hid (CLI11x.out.kept (hb12) (Nat.le_refl _))
  have CRI12 := Lib.hid (CRI11x.out.kept (hb12) (Nat.le_refl _))
  have SC12 := Lib.hid (SC11x.out.kept (hb12) (Nat.le_refl _))
  have SD12 := Lib.hid (SD11x.out.kept (hb12) (Nat.le_refl _))
  have SX12 := Lib.hid (SX11x.out.kept (hb12) (Nat.le_refl _))
  clear HB11x CZ11x CH11x CT11x CO11x CLI11x CRI11x SC11x SD11x SX11x
  clear ha11 hb12
  clear sY
  go_upto_region 12 with fail
  go_wp2_with fail
  refine (lw_fl0 W12 (HL.out.kept HB12.out (Nat.le_refl _))).mono ?_
  rintro _ W13 ⟨a0, c0, rfl, hb13⟩
  have HB13 := Lib.hid (HB12.out.trans ((hb13).mono HB12.out.size))
  have CZ13 := Lib.hid (CZ12.out.kept (hb13) (Nat.le_refl _))
  have CH13 := Lib.hid (CH12.out.kept (hb13) (Nat.le_refl _))
  have CT13 := Lib.hid (CT12.out.kept (hb13) (Nat.le_refl _))
  have CO13 := Lib.hid (CO12.out.kept (hb13) (Nat.le_refl _))
  have CLI13 := Lib.hid (CLI12.out.kept (hb13) (Nat.le_refl _))
  have CRI13 := Lib.hid (CRI12.out.kept (hb13) (Nat.le_refl _))
  have SC13 := Lib.hid (SC12.out.kept (hb13) (Nat.le_refl _))
  have SD13 := Lib.hid (SD12.out.kept (hb13) (Nat.le_refl _))
  have SX13 := Lib.hid (SX12.out.kept (hb13) (Nat.le_refl _))
  clear HB12 CZ12 CH12 CT12 CO12 CLI12 CRI12 SC12 SD12 SX12
  clear hb13
  go_upto_region 15 with fail
  have ri_0 := CRI13.out.2 0 _ rfl
  have ri_1 := CRI13.out.2 1 _ rfl
  have ri_2 := CRI13.out.2 2 _ rfl
  have ri_3 := CRI13.out.2 3 _ rfl
  have ri_4 := CRI13.out.2 4 _ rfl
  have ri_5 := CRI13.out.2 5 _ rfl
  have ri_6 := CRI13.out.2 6 _ rfl
  have ri_7 := CRI13.out.2 7 _ rfl
  have ri_8 := CRI13.out.2 8 _ rfl
  have ri_9 := CRI13.out.2 9 _ rfl
  have ri_10 := CRI13.out.2 10 _ rfl
  have ri_11 := CRI13.out.2 11 _ rfl
  have ri_12 := CRI13.out.2 12 _ rfl
  have ri_13 := CRI13.out.2 13 _ rfl
  have ri_z := CRI13.out.1
  go_wp2_with fail
  clear ri_0 ri_1 ri_2 ri_3 ri_4 ri_5 ri_6 ri_7 ri_8 ri_9 ri_10 ri_11 ri_12 ri_13 ri_z
  obtain ⟨V13, hV13⟩ : ∃ V, V = W13.alloc (.cells #[.int .i64 0, .int .i64 1, .int .i64 0, .int .i64 0, .int .i64 8, .int .i64 0, .int .i64 0, .int .i64 0, .int .i64 0, .int .i64 1, .int .i64 0, .int .i64 1, .int .i64 1, .int .i64 1] 44) := ⟨_, rfl⟩
  rw [← hV13]
  have bV13 : Below W13.heap.size W13 V13 := by rw [hV13]; exact ((Below.refl _ _).alloc (Nat.le_refl _) _)
  have wr13 : Ty.WR V13 W13.heap.size Ty.sgX 0 := by rw [hV13]; exact Ty.WR.new rfl
  refine (lw_work Ty.sgX W13.heap.size V13 (by decide) wr13).mono ?_
  rintro _ X13 ⟨p13, rfl, ha13, hx13⟩
  have bx13 : Below W13.heap.size V13 X13 := hx13.below bV13.size (fun b e => by omega)
  have HB13x := Lib.hid (HB13.out.trans ((bV13.trans bx13).mono HB13.out.size))
  have CZ13x := Lib.hid (CZ13.out.kept (bV13.trans bx13) (Nat.le_refl _))
  have CH13x := Lib.hid (CH13.out.kept (bV13.trans bx13) (Nat.le_refl _))
  have CT13x := Lib.hid (CT13.out.kept (bV13.trans bx13) (Nat.le_refl _))
  have CO13x := Lib.hid (CO13.out.kept (bV13.trans bx13) (Nat.le_refl _))
  have CLI13x := Lib.hid (CLI13.out.kept (bV13.trans bx13) (Nat.le_refl _))
  have CRI13x := Lib.hid (CRI13.out.kept (bV13.trans bx13) (Nat.le_refl _))
  have SC13x := Lib.hid (SC13.out.kept (bV13.trans bx13) (Nat.le_refl _))
  have SD13x := Lib.hid (SD13.out.kept (bV13.trans bx13) (Nat.le_refl _))
  have SX13x := Lib.hid (SX13.out.kept (bV13.trans bx13) (Nat.le_refl _))
  clear HB13 CZ13 CH13 CT13 CO13 CLI13 CRI13 SC13 SD13 SX13
  clear hx13
  go_wp2_with fail
  refine (lw_ck Ty.sgX 200 p13 X13 Ty.ckX ha13 (HL.out.kept HB13x.out (Nat.le_refl _))).mono ?_
  rintro _ W14 ⟨rfl, hb14⟩
  have HB14 := Lib.hid (HB13x.out.trans ((hb14).mono HB13x.out.size))
  have CZ14 := Lib.hid (CZ13x.out.kept (hb14) (Nat.le_refl _))
  have CH14 := Lib.hid (CH13x.out.kept (hb14) (Nat.le_refl _))
  have CT14 := Lib.hid (CT13x.out.kept (hb14) (Nat.le_refl _))
  have CO14 := Lib.hid (CO13x.out.kept (hb14) (Nat.le_refl _))
  have CLI14 := Lib.hid (CLI13x.out.kept (hb14) (Nat.le_refl _))
  have CRI14 := Lib.hid (CRI13x.out.kept (hb14) (Nat.le_refl _))
  have SC14 := Lib.hid (SC13x.out.kept (hb14) (Nat.le_refl _))
  have SD14 := Lib.hid (SD13x.out.kept (hb14) (Nat.le_refl _))
  have SX14 := Lib.hid (SX13x.out.kept (hb14) (Nat.le_refl _))
  clear HB13x CZ13x CH13x CT13x CO13x CLI13x CRI13x SC13x SD13x SX13x
  clear ha13 hb14
  have li_0 := CLI14.out.2 0 _ rfl
  have li_1 := CLI14.out.2 1 _ rfl
  have li_2 := CLI14.out.2 2 _ rfl
  have li_3 := CLI14.out.2 3 _ rfl
  have li_4 := CLI14.out.2 4 _ rfl
  have li_5 := CLI14.out.2 5 _ rfl
  have li_6 := CLI14.out.2 6 _ rfl
  have li_7 := CLI14.out.2 7 _ rfl
  have li_8 := CLI14.out.2 8 _ rfl
  have li_9 := CLI14.out.2 9 _ rfl
  have li_10 := CLI14.out.2 10 _ rfl
  have li_11 := CLI14.out.2 11 _ rfl
  have li_12 := CLI14.out.2 12 _ rfl
  have li_13 := CLI14.out.2 13 _ rfl
  have li_z := CLI14.out.1
  have ri_0 := CRI14.out.2 0 _ rfl
  have ri_1 := CRI14.out.2 1 _ rfl
  have ri_2 := CRI14.out.2 2 _ rfl
  have ri_3 := CRI14.out.2 3 _ rfl
  have ri_4 := CRI14.out.2 4 _ rfl
  have ri_5 := CRI14.out.2 5 _ rfl
  have ri_6 := CRI14.out.2 6 _ rfl
  have ri_7 := CRI14.out.2 7 _ rfl
  have ri_8 := CRI14.out.2 8 _ rfl
  have ri_9 := CRI14.out.2 9 _ rfl
  have ri_10 := CRI14.out.2 10 _ rfl
  have ri_11 := CRI14.out.2 11 _ rfl
  have ri_12 := CRI14.out.2 12 _ rfl
  have ri_13 := CRI14.out.2 13 _ rfl
  have ri_z := CRI14.out.1
  go_wp2_with fail
  clear li_0 li_1 li_2 li_3 li_4 li_5 li_6 li_7 li_8 li_9 li_10 li_11 li_12 li_13 li_z ri_0 ri_1 ri_2 ri_3 ri_4 ri_5 ri_6 ri_7 ri_8 ri_9 ri_10 ri_11 ri_12 ri_13 ri_z
  obtain ⟨V14, hV14⟩ : ∃ V, V = W14.alloc (.cells #[.int .i64 0, .int .i64 0, .int .i64 0, .int .i64 0, .int .i64 7, .int .i64 0, .int .i64 0, .int .i64 0, .int .i64 0, .int .i64 2, .int .i64 0, .int .i64 1, .int .i64 1, .int .i64 1, .int .i64 0, .int .i64 1, .int .i64 0, .int .i64 0, .int .i64 8, .int .i64 0, .int .i64 0, .int .i64 0, .int .i64 0, .int .i64 1, .int .i64 0, .int .i64 1, .int .i64 1, .int .i64 1] 44) := ⟨_, rfl⟩
  rw [← hV14]
  have bV14 : Below W14.heap.size W14 V14 := by rw [hV14]; exact ((Below.refl _ _).alloc (Nat.le_refl _) _)
  have wr14 : Ty.WR V14 W14.heap.size Ty.sgY 0 := by rw [hV14]; exact Ty.WR.new rfl
  refine (lw_work Ty.sgY W14.heap.size V14 (by decide) wr14).mono ?_
  rintro _ X14 ⟨p14, rfl, ha14, hx14⟩
  have bx14 : Below W14.heap.size V14 X14 := hx14.below bV14.size (fun b e => by omega)
  have HB14x := Lib.hid (HB14.out.trans ((bV14.trans bx14).mono HB14.out.size))
  have CZ14x := Lib.hid (CZ14.out.kept (bV14.trans bx14) (Nat.le_refl _))
  have CH14x := Lib.hid (CH14.out.kept (bV14.trans bx14) (Nat.le_refl _))
  have CT14x := Lib.hid (CT14.out.kept (bV14.trans bx14) (Nat.le_refl _))
  have CO14x := Lib.hid (CO14.out.kept (bV14.trans bx14) (Nat.le_refl _))
  have CLI14x := Lib.hid (CLI14.out.kept (bV14.trans bx14) (Nat.le_refl _))
  have CRI14x := Lib.hid (CRI14.out.kept (bV14.trans bx14) (Nat.le_refl _))
  have SC14x := Lib.hid (SC14.out.kept (bV14.trans bx14) (Nat.le_refl _))
  have SD14x := Lib.hid (SD14.out.kept (bV14.trans bx14) (Nat.le_refl _))
  have SX14x := Lib.hid (SX14.out.kept (bV14.trans bx14) (Nat.le_refl _))
  clear HB14 CZ14 CH14 CT14 CO14 CLI14 CRI14 SC14 SD14 SX14
  clear hx14
  go_wp2_with fail
  refine (lw_ck Ty.sgY 0 p14 X14 Ty.ckY ha14 (HL.out.kept HB14x.out (Nat.le_refl _))).mono ?_
  rintro _ W15 ⟨rfl, hb15⟩
  have HB15 := Lib.hid (HB14x.out.trans ((hb15).mono HB14x.out.size))
  have CZ15 := Lib.hid (CZ14x.out.kept (hb15) (Nat.le_refl _))
  have CH15 := Lib.hid (CH14x.out.kept (hb15) (Nat.le_refl _))
  have CT15 := Lib.hid (CT14x.out.kept (hb15) (Nat.le_refl _))
  have CO15 := Lib.hid (CO14x.out.kept (hb15) (Nat.le_refl _))
  have CLI15 := Lib.hid (CLI14x.out.kept (hb15) (Nat.le_refl _))
  have CRI15 := Lib.hid (CRI14x.out.kept (hb15) (Nat.le_refl _))
  have SC15 := Lib.hid (SC14x.out.kept (hb15) (Nat.le_refl _))
  have SD15 := Lib.hid (SD14x.out.kept (hb15) (Nat.le_refl _))
  have SX15 := Lib.hid (SX14x.out.kept (hb15) (Nat.le_refl _))
  clear HB14x CZ14x CH14x CT14x CO14x CLI14x CRI14x SC14x SD14x SX14x
  clear ha14 hb15
  clear CZ15 CH15 CT15 CO15 CLI15 CRI15
  go_wp2_with fail
  have hs15 := ty_same aC [(1, 0, 1)] cC (some ⟨W15.heap.size, 0, none⟩) [(1, 0, 1)] 1 (W15.alloc (.cells #[.int .i64 1, .int .i64 0, .int .i64 1] 48)) (by decide) (by decide) (SC15.out.kept ((Below.refl _ _).alloc (Nat.le_refl _) _) (Nat.le_refl _)) (Ty.blk_sl (World.alloc_heap_new _ _) (fun i j hi hj => by have hi' : i < 1 := hi; rcases i with _ | i <;> rcases j with _ | _ | _ | j <;> first | omega | rfl))
  rw [show decide ([((1 : Int), (0 : Int), (1 : Int))] = [(1, 0, 1)]) = true by decide] at hs15
  refine hs15.mono ?_
  rintro _ W16 ⟨rfl, hb16⟩
  have hbb16 : Below W15.heap.size W15 W16 := ((Below.refl _ _).alloc (Nat.le_refl _) _).trans (hb16.mono (by simp))
  clear hs15 SC15
  have HB16 := Lib.hid (HB15.out.trans ((hbb16).mono HB15.out.size))
  have SD16 := Lib.hid (SD15.out.kept (hbb16) (Nat.le_refl _))
  have SX16 := Lib.hid (SX15.out.kept (hbb16) (Nat.le_refl _))
  clear HB15 SD15 SX15
  clear hb16 hbb16
  go_wp2_with fail
  have hs16 := ty_same aD [(2, 0, 1)] cD (some ⟨W16.heap.size, 0, none⟩) [(2, 0, 1)] 1 (W16.alloc (.cells #[.int .i64 2, .int .i64 0, .int .i64 1] 48)) (by decide) (by decide) (SD16.out.kept ((Below.refl _ _).alloc (Nat.le_refl _) _) (Nat.le_refl _)) (Ty.blk_sl (World.alloc_heap_new _ _) (fun i j hi hj => by have hi' : i < 1 := hi; rcases i with _ | i <;> rcases j with _ | _ | _ | j <;> first | omega | rfl))
  rw [show decide ([((2 : Int), (0 : Int), (1 : Int))] = [(2, 0, 1)]) = true by decide] at hs16
  refine hs16.mono ?_
  rintro _ W17 ⟨rfl, hb17⟩
  have hbb17 : Below W16.heap.size W16 W17 := ((Below.refl _ _).alloc (Nat.le_refl _) _).trans (hb17.mono (by simp))
  clear hs16 SD16
  have HB17 := Lib.hid (HB16.out.trans ((hbb17).mono HB16.out.size))
  have SX17 := Lib.hid (SX16.out.kept (hbb17) (Nat.le_refl _))
  clear HB16 SX16
  clear hb17 hbb17
  go_wp2_with fail
  have hs17 := ty_same aX [(3, 0, 0)] cX (some ⟨W17.heap.size, 0, none⟩) [(3, 0, 0)] 1 (W17.alloc (.cells #[.int .i64 3, .int .i64 0, .int .i64 0] 48)) (by decide) (by decide) (SX17.out.kept ((Below.refl _ _).alloc (Nat.le_refl _) _) (Nat.le_refl _)) (Ty.blk_sl (World.alloc_heap_new _ _) (fun i j hi hj => by have hi' : i < 1 := hi; rcases i with _ | i <;> rcases j with _ | _ | _ | j <;> first | omega | rfl))
  rw [show decide ([((3 : Int), (0 : Int), (0 : Int))] = [(3, 0, 0)]) = true by decide] at hs17
  refine hs17.mono ?_
  rintro _ W18 ⟨rfl, hb18⟩
  have hbb18 : Below W17.heap.size W17 W18 := ((Below.refl _ _).alloc (Nat.le_refl _) _).trans (hb18.mono (by simp))
  clear hs17 SX17
  have HB18 := Lib.hid (HB17.out.trans ((hbb18).mono HB17.out.size))
  clear HB17
  clear hb18 hbb18
  go_wp2
  go_ret
  exact ⟨rfl, HB18.out⟩
end Go.Proofs.YtggfeblfhabmkaaGreatDoor
