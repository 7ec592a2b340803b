/- Walks: package types: before, columns, the closures of Faults. -/
import Derived.Test.YtggfeblfhabmkaaGreatDoorTyA
import Derived.Laws.EntriesVeiled
namespace Go.Proofs.YtggfeblfhabmkaaGreatDoor
set_option linter.unusedVariables false
set_option linter.unusedSimpArgs false
open Go.RowKit

def Ty.bf (n d n' d' : Int) : Bool := decide (Ex.cmpC n d n' d' < 0)
def Ty.Bef (n d n' d' : Int) (b : Bool) (w : World) : Prop := Calls Tryz.prog 38 #[Ra.V n d, Ra.V n' d'] w fun e w' => e = .returned (.bool b) ∧ Below w.heap.size w w'
theorem ty_before (n d n' d' : Int) (w : World) : Ty.Bef n d n' d' (Ty.bf n d n' d') w := by
  unfold Ty.Bef Ty.bf
  have H : ∀ W, Ra.Cmp n d n' d' (Ex.cmpC n d n' d') (Ex.cmpE n d n' d') W := fun W => ex_cmp n d n' d' W
  generalize Ex.cmpC n d n' d' = c at *
  generalize Ex.cmpE n d n' d' = r at *
  replace H := Lib.hid H
  go_enter Tryz.func38, Tryz.ntmps38
  skip
  (go_wp2_with (fail); refine ((H.out _ : Ra.Cmp _ _ _ _ _ _ _)).mono ?_; rintro e w1_ ⟨rfl, hb1_⟩; have hp1_ : Below w.heap.size w w1_ := Below.trans (by (repeat' first | (with_reducible first | exact Below.refl _ _ | assumption | refine Kit.below_drewN ?_ _ | refine Below.drew ?_ | refine Below.alloc ?_ ?_ _ | refine Below.setCell ?_ ?_ _ | exact Nat.le_refl _) | omega | (simp; omega) | (simp; done) | (apply Below.size; assumption))) (hb1_.mono (by first | assumption | (simp; done) | (simp; omega) | omega)); have hw1_ : Below w.heap.size w w1_ := hp1_; obtain ⟨hc1_, hf1_⟩ := Kit.bcell hb1_; have z1_w : w.heap.size < w1_.heap.size := (by have := hb1_.size; first | omega | (simp at this; omega)); obtain ⟨g1_w_0, g1_w_1⟩ : w1_.cell? ⟨w.heap.size, 0, none⟩ = some (.int .i64 n) ∧ w1_.cell? ⟨w.heap.size, 1, none⟩ = some (.int .i64 d) := (by refine ⟨?_, ?_⟩ <;> (rw [hc1_ _ _ (by first | assumption | (simp; done) | (simp; omega) | omega)]; first | assumption | (simp [go_sem]; done) | (simp [go_sem, *]; done))); have z1_w_1 : w.heap.size + 1 < w1_.heap.size := (by have := hb1_.size; first | omega | (simp at this; omega)); obtain ⟨g1_w_1_0, g1_w_1_1⟩ : w1_.cell? ⟨w.heap.size + 1, 0, none⟩ = some (.int .i64 n') ∧ w1_.cell? ⟨w.heap.size + 1, 1, none⟩ = some (.int .i64 d') := (by refine ⟨?_, ?_⟩ <;> (rw [hc1_ _ _ (by first | assumption | (simp; done) | (simp; omega) | omega)]; first | assumption | (simp [go_sem]; done) | (simp [go_sem, *]; done))); clear hc1_ hf1_; clear hb1_ hp1_)
  go_wp2
  go_ret
  exact ⟨rfl, by (repeat' first | (with_reducible first | exact Below.refl _ _ | assumption | refine Kit.below_drewN ?_ _ | refine Below.drew ?_ | refine Below.alloc ?_ ?_ _ | refine Below.setCell ?_ ?_ _ | exact Nat.le_refl _) | omega | (simp; omega) | (simp; done) | (apply Below.size; assumption))⟩

def Ty.Col (f : FuncId) (s : Ex.Sg) (w : World) : Prop := Calls Tryz.prog f #[Ex.sgV s] w fun e w' => e = .returned (.int .u64 (Ty.cols s.kind s.side)) ∧ Below w.heap.size w w'
theorem ty_col1 (s : Ex.Sg) (w : World) (hk : s.kind = 1) (hs : s.side = 1 ∨ s.side = 2) : Ty.Col 39 s w := by
  unfold Ty.Col
  obtain ⟨id, role, bar, mark, kind, side, dir, level, size, wth, fn, fd, tn, td⟩ := s
  dsimp only at hk hs ⊢
  subst hk
  rcases hs with rfl | rfl
  · go_enter Tryz.func39, Tryz.ntmps39
    go_wp2
    go_ret
    exact ⟨rfl, by (repeat' first | (with_reducible first | exact Below.refl _ _ | assumption | refine Kit.below_drewN ?_ _ | refine Below.drew ?_ | refine Below.alloc ?_ ?_ _ | refine Below.setCell ?_ ?_ _ | exact Nat.le_refl _) | omega | (simp; omega) | (simp; done) | (apply Below.size; assumption))⟩
  · go_enter Tryz.func39, Tryz.ntmps39
    go_wp2
    go_ret
    exact ⟨rfl, by (repeat' first | (with_reducible first | exact Below.refl _ _ | assumption | refine Kit.below_drewN ?_ _ | refine Below.drew ?_ | refine Below.alloc ?_ ?_ _ | refine Below.setCell ?_ ?_ _ | exact Nat.le_refl _) | omega | (simp; omega) | (simp; done) | (apply Below.size; assumption))⟩
theorem ty_col2 (s : Ex.Sg) (w : World) (hk : s.kind = 2) : Ty.Col 40 s w := by
  unfold Ty.Col
  obtain ⟨id, role, bar, mark, kind, side, dir, level, size, wth, fn, fd, tn, td⟩ := s
  dsimp only at hk ⊢
  subst hk
  go_enter Tryz.func40, Tryz.ntmps40
  go_wp2
  go_ret
  exact ⟨rfl, by (repeat' first | (with_reducible first | exact Below.refl _ _ | assumption | refine Kit.below_drewN ?_ _ | refine Below.drew ?_ | refine Below.alloc ?_ ?_ _ | refine Below.setCell ?_ ?_ _ | exact Nat.le_refl _) | omega | (simp; omega) | (simp; done) | (apply Below.size; assumption))⟩
theorem ty_col3 (s : Ex.Sg) (w : World) (hk : s.kind = 3) (hs : s.side = 1 ∨ s.side = 2) : Ty.Col 41 s w := by
  unfold Ty.Col
  obtain ⟨id, role, bar, mark, kind, side, dir, level, size, wth, fn, fd, tn, td⟩ := s
  dsimp only at hk hs ⊢
  subst hk
  rcases hs with rfl | rfl
  · go_enter Tryz.func41, Tryz.ntmps41
    go_wp2
    go_ret
    exact ⟨rfl, by (repeat' first | (with_reducible first | exact Below.refl _ _ | assumption | refine Kit.below_drewN ?_ _ | refine Below.drew ?_ | refine Below.alloc ?_ ?_ _ | refine Below.setCell ?_ ?_ _ | exact Nat.le_refl _) | omega | (simp; omega) | (simp; done) | (apply Below.size; assumption))⟩
  · go_enter Tryz.func41, Tryz.ntmps41
    go_wp2
    go_ret
    exact ⟨rfl, by (repeat' first | (with_reducible first | exact Below.refl _ _ | assumption | refine Kit.below_drewN ?_ _ | refine Below.drew ?_ | refine Below.alloc ?_ ?_ _ | refine Below.setCell ?_ ?_ _ | exact Nat.le_refl _) | omega | (simp; omega) | (simp; done) | (apply Below.size; assumption))⟩
theorem ty_col4 (s : Ex.Sg) (w : World) (hk : s.kind = 4) (hs : s.side = 1 ∨ s.side = 2) : Ty.Col 42 s w := by
  unfold Ty.Col
  obtain ⟨id, role, bar, mark, kind, side, dir, level, size, wth, fn, fd, tn, td⟩ := s
  dsimp only at hk hs ⊢
  subst hk
  rcases hs with rfl | rfl
  · go_enter Tryz.func42, Tryz.ntmps42
    go_wp2
    go_ret
    exact ⟨rfl, by (repeat' first | (with_reducible first | exact Below.refl _ _ | assumption | refine Kit.below_drewN ?_ _ | refine Below.drew ?_ | refine Below.alloc ?_ ?_ _ | refine Below.setCell ?_ ?_ _ | exact Nat.le_refl _) | omega | (simp; omega) | (simp; done) | (apply Below.size; assumption))⟩
  · go_enter Tryz.func42, Tryz.ntmps42
    go_wp2
    go_ret
    exact ⟨rfl, by (repeat' first | (with_reducible first | exact Below.refl _ _ | assumption | refine Kit.below_drewN ?_ _ | refine Below.drew ?_ | refine Below.alloc ?_ ?_ _ | refine Below.setCell ?_ ?_ _ | exact Nat.le_refl _) | omega | (simp; omega) | (simp; done) | (apply Below.size; assumption))⟩
theorem ty_col5 (s : Ex.Sg) (w : World) (hk : s.kind = 5) : Ty.Col 43 s w := by
  unfold Ty.Col
  obtain ⟨id, role, bar, mark, kind, side, dir, level, size, wth, fn, fd, tn, td⟩ := s
  dsimp only at hk ⊢
  subst hk
  go_enter Tryz.func43, Tryz.ntmps43
  go_wp2
  go_ret
  exact ⟨rfl, by (repeat' first | (with_reducible first | exact Below.refl _ _ | assumption | refine Kit.below_drewN ?_ _ | refine Below.drew ?_ | refine Below.alloc ?_ ?_ _ | refine Below.setCell ?_ ?_ _ | exact Nat.le_refl _) | omega | (simp; omega) | (simp; done) | (apply Below.size; assumption))⟩
theorem ty_col6 (s : Ex.Sg) (w : World) (hk : s.kind = 6) : Ty.Col 44 s w := by
  unfold Ty.Col
  obtain ⟨id, role, bar, mark, kind, side, dir, level, size, wth, fn, fd, tn, td⟩ := s
  dsimp only at hk ⊢
  subst hk
  go_enter Tryz.func44, Tryz.ntmps44
  go_wp2
  go_ret
  exact ⟨rfl, by (repeat' first | (with_reducible first | exact Below.refl _ _ | assumption | refine Kit.below_drewN ?_ _ | refine Below.drew ?_ | refine Below.alloc ?_ ?_ _ | refine Below.setCell ?_ ?_ _ | exact Nat.le_refl _) | omega | (simp; omega) | (simp; done) | (apply Below.size; assumption))⟩
theorem ty_col7 (s : Ex.Sg) (w : World) (hk : s.kind = 7) : Ty.Col 45 s w := by
  unfold Ty.Col
  obtain ⟨id, role, bar, mark, kind, side, dir, level, size, wth, fn, fd, tn, td⟩ := s
  dsimp only at hk ⊢
  subst hk
  go_enter Tryz.func45, Tryz.ntmps45
  go_wp2
  go_ret
  exact ⟨rfl, by (repeat' first | (with_reducible first | exact Below.refl _ _ | assumption | refine Kit.below_drewN ?_ _ | refine Below.drew ?_ | refine Below.alloc ?_ ?_ _ | refine Below.setCell ?_ ?_ _ | exact Nat.le_refl _) | omega | (simp; omega) | (simp; done) | (apply Below.size; assumption))⟩
theorem ty_col8 (s : Ex.Sg) (w : World) (hk : s.kind = 8) : Ty.Col 46 s w := by
  unfold Ty.Col
  obtain ⟨id, role, bar, mark, kind, side, dir, level, size, wth, fn, fd, tn, td⟩ := s
  dsimp only at hk ⊢
  subst hk
  go_enter Tryz.func46, Tryz.ntmps46
  go_wp2
  go_ret
  exact ⟨rfl, by (repeat' first | (with_reducible first | exact Below.refl _ _ | assumption | refine Kit.below_drewN ?_ _ | refine Below.drew ?_ | refine Below.alloc ?_ ?_ _ | refine Below.setCell ?_ ?_ _ | exact Nat.le_refl _) | omega | (simp; omega) | (simp; done) | (apply Below.size; assumption))⟩
theorem ty_col9 (s : Ex.Sg) (w : World) (hk : s.kind = 9) (hs : s.side = 1 ∨ s.side = 2) : Ty.Col 47 s w := by
  unfold Ty.Col
  obtain ⟨id, role, bar, mark, kind, side, dir, level, size, wth, fn, fd, tn, td⟩ := s
  dsimp only at hk hs ⊢
  subst hk
  rcases hs with rfl | rfl
  · go_enter Tryz.func47, Tryz.ntmps47
    go_wp2
    go_ret
    exact ⟨rfl, by (repeat' first | (with_reducible first | exact Below.refl _ _ | assumption | refine Kit.below_drewN ?_ _ | refine Below.drew ?_ | refine Below.alloc ?_ ?_ _ | refine Below.setCell ?_ ?_ _ | exact Nat.le_refl _) | omega | (simp; omega) | (simp; done) | (apply Below.size; assumption))⟩
  · go_enter Tryz.func47, Tryz.ntmps47
    go_wp2
    go_ret
    exact ⟨rfl, by (repeat' first | (with_reducible first | exact Below.refl _ _ | assumption | refine Kit.below_drewN ?_ _ | refine Below.drew ?_ | refine Below.alloc ?_ ?_ _ | refine Below.setCell ?_ ?_ _ | exact Nat.le_refl _) | omega | (simp; omega) | (simp; done) | (apply Below.size; assumption))⟩
abbrev Ty.colV : Value := .agg #[.nilFunc, .func (.func 39) #[] #[], .func (.func 40) #[] #[], .func (.func 41) #[] #[], .func (.func 42) #[] #[],
  .func (.func 43) #[] #[], .func (.func 44) #[] #[], .func (.func 45) #[] #[], .func (.func 46) #[] #[], .func (.func 47) #[] #[]]
theorem ty_columns (w : World) : Calls Tryz.prog 19 #[] w fun e w' => e = .returned Ty.colV ∧ Below w.heap.size w w' := by
  go_enter Tryz.func19, Tryz.ntmps19
  go_wp2
  (refine bodyPost_ret (by simp [results, Tryz.results19, go_sem, Kit.cell_set]; try rfl) rfl ?_)
  exact ⟨rfl, by (repeat' first | (with_reducible first | exact Below.refl _ _ | assumption | refine Kit.below_drewN ?_ _ | refine Below.drew ?_ | refine Below.alloc ?_ ?_ _ | refine Below.setCell ?_ ?_ _ | exact Nat.le_refl _) | omega | (simp; omega) | (simp; done) | (apply Below.size; assumption))⟩
/-- The column function of a kind. -/
def Ty.colF : Nat → FuncId
  | 1 => 39
  | 2 => 40
  | 3 => 41
  | 4 => 42
  | 5 => 43
  | 6 => 44
  | 7 => 45
  | 8 => 46
  | _ => 47
/-- A sign of a right kind and side. -/
def Ty.rt (s : Ex.Sg) (K : Nat) : Prop := s.kind = K ∧ 1 ≤ K ∧ K ≤ 9 ∧ ((K = 1 ∨ K = 3 ∨ K = 4 ∨ K = 9) → s.side = 1 ∨ s.side = 2)
theorem ty_col (s : Ex.Sg) (K : Nat) (h : Ty.rt s K) (w : World) : Ty.Col (Ty.colF K) s w := by
  obtain ⟨h1, h2, h3, h4⟩ := h
  rcases K with _ | _ | _ | _ | _ | _ | _ | _ | _ | _ | K
  · omega
  · exact ty_col1 s w h1 (h4 (.inl rfl))
  · exact ty_col2 s w h1
  · exact ty_col3 s w h1 (h4 (by simp))
  · exact ty_col4 s w h1 (h4 (by simp))
  · exact ty_col5 s w h1
  · exact ty_col6 s w h1
  · exact ty_col7 s w h1
  · exact ty_col8 s w h1
  · exact ty_col9 s w h1 (h4 (by simp))
  · omega
/-- Where a sign lies. -/
abbrev Ty.SgAt (W : World) (B : Nat) (s : Ex.Sg) : Prop := W.heap[B]? = some (.cells #[.int .i64 s.id, .int .i64 s.role, .int .i64 s.bar, .int .i64 s.mark, .int .i64 s.kind, .int .i64 s.side, .int .i64 s.dir, .int .i64 s.level, .int .i64 s.size, .int .i64 s.wth, .int .i64 s.fn, .int .i64 s.fd, .int .i64 s.tn, .int .i64 s.td] 44 (0, 0))
theorem Ty.SgAt.cellAt {W : World} {B : Nat} {s : Ex.Sg} (h : Ty.SgAt W B s) : W.cell? ⟨B, 0, none⟩ = some (.int .i64 s.id) ∧ W.cell? ⟨B, 4, none⟩ = some (.int .i64 s.kind) ∧ W.cell? ⟨B, 5, none⟩ = some (.int .i64 s.side) := by
  refine ⟨?_, ?_, ?_⟩ <;> simp [World.cell?, h]
theorem Ty.SgAt.cells {W : World} {B : Nat} {s : Ex.Sg} (h : Ty.SgAt W B s) : W.cell? ⟨B, 0, none⟩ = some (.int .i64 s.id) ∧ W.cell? ⟨B, 1, none⟩ = some (.int .i64 s.role) ∧ W.cell? ⟨B, 2, none⟩ = some (.int .i64 s.bar) ∧ W.cell? ⟨B, 3, none⟩ = some (.int .i64 s.mark) ∧ W.cell? ⟨B, 4, none⟩ = some (.int .i64 s.kind) ∧ W.cell? ⟨B, 5, none⟩ = some (.int .i64 s.side) ∧ W.cell? ⟨B, 6, none⟩ = some (.int .i64 s.dir) ∧ W.cell? ⟨B, 7, none⟩ = some (.int .i64 s.level) ∧ W.cell? ⟨B, 8, none⟩ = some (.int .i64 s.size) ∧ W.cell? ⟨B, 9, none⟩ = some (.int .i64 s.wth) ∧ W.cell? ⟨B, 10, none⟩ = some (.int .i64 s.fn) ∧ W.cell? ⟨B, 11, none⟩ = some (.int .i64 s.fd) ∧ W.cell? ⟨B, 12, none⟩ = some (.int .i64 s.tn) ∧ W.cell? ⟨B, 13, none⟩ = some (.int .i64 s.td) := by
  refine ⟨?_, ?_, ?_, ?_, ?_, ?_, ?_, ?_, ?_, ?_, ?_, ?_, ?_, ?_⟩ <;> simp [World.cell?, h]
theorem ty_are (a b : Ex.Sg) (x y : Int) (Ba Bb : Nat) (w : World) (ha : Ty.SgAt w Ba a) (hb : Ty.SgAt w Bb b) :
    Calls Tryz.prog 17 #[.int .i64 x, .int .i64 y, .pointer (some ⟨Ba, 0, none⟩), .pointer (some ⟨Bb, 0, none⟩)] w fun e w' => e = .returned (.bool (Ty.are a b x y)) ∧ w' = w := by
  obtain ⟨_, a4, _⟩ := ha.cellAt
  obtain ⟨_, b4, _⟩ := hb.cellAt
  clear ha hb
  unfold Ty.are
  rcases d1 : (a.kind == x) with _ | _ <;> rcases d2 : (b.kind == y) with _ | _ <;> rcases d3 : (a.kind == y) with _ | _ <;> rcases d4 : (b.kind == x) with _ | _ <;>
  · go_enter Tryz.func17, Tryz.ntmps17
    go_wp2
    go_ret
    exact ⟨rfl, rfl⟩
theorem ty_leg (s : Ex.Sg) (w : World) : Calls Tryz.prog 18 #[Ex.sgV s] w fun e w' => e = .returned (.bool (Ty.leg s)) ∧ Below w.heap.size w w' := by
  obtain ⟨id, role, bar, mark, kind, side, dir, level, size, wth, fn, fd, tn, td⟩ := s
  unfold Ty.leg
  dsimp only
  rcases d1 : (kind == 1) with _ | _ <;> rcases d2 : (kind == 3) with _ | _ <;>
  · go_enter Tryz.func18, Tryz.ntmps18
    go_wp2
    go_ret
    exact ⟨rfl, by (repeat' first | (with_reducible first | exact Below.refl _ _ | assumption | refine Kit.below_drewN ?_ _ | refine Below.drew ?_ | refine Below.alloc ?_ ?_ _ | refine Below.setCell ?_ ?_ _ | exact Nat.le_refl _) | omega | (simp; omega) | (simp; done) | (apply Below.size; assumption))⟩
theorem ty_index (s : Ex.Sg) (K : Nat) (h : Ty.rt s K) (w : World) : (Instr.index 57 Ty.colV (.int .i64 s.kind)).run Tryz.prog w = .ok (.func (.func (Ty.colF K)) #[] #[]) w := by
  obtain ⟨h1, h2, h3, _⟩ := h
  rw [h1]
  rcases K with _ | _ | _ | _ | _ | _ | _ | _ | _ | _ | K
  · omega
  · kernel_rfl
  · kernel_rfl
  · kernel_rfl
  · kernel_rfl
  · kernel_rfl
  · kernel_rfl
  · kernel_rfl
  · kernel_rfl
  · kernel_rfl
  · omega
theorem ty_enters (K : Nat) (h : 1 ≤ K ∧ K ≤ 9) (args : Array Value) (w : World) : (callFunc (Ty.colF K) args).run Tryz.prog w = .ok (.enter (Ty.colF K) args) w := by
  rcases K with _ | _ | _ | _ | _ | _ | _ | _ | _ | _ | K
  · omega
  · exact enters_of Tryz.func39 (by kernel_rfl) rfl args w
  · exact enters_of Tryz.func40 (by kernel_rfl) rfl args w
  · exact enters_of Tryz.func41 (by kernel_rfl) rfl args w
  · exact enters_of Tryz.func42 (by kernel_rfl) rfl args w
  · exact enters_of Tryz.func43 (by kernel_rfl) rfl args w
  · exact enters_of Tryz.func44 (by kernel_rfl) rfl args w
  · exact enters_of Tryz.func45 (by kernel_rfl) rfl args w
  · exact enters_of Tryz.func46 (by kernel_rfl) rfl args w
  · exact enters_of Tryz.func47 (by kernel_rfl) rfl args w
  · omega
theorem Ty.SgAt.all {W : World} {B : Nat} {s : Ex.Sg} (h : Ty.SgAt W B s) : (∀ z : Kit.Wd W, z.val.cell? ⟨B, 0, none⟩ = some (.int .i64 s.id)) ∧ (∀ z : Kit.Wd W, z.val.cell? ⟨B, 1, none⟩ = some (.int .i64 s.role)) ∧ (∀ z : Kit.Wd W, z.val.cell? ⟨B, 2, none⟩ = some (.int .i64 s.bar)) ∧ (∀ z : Kit.Wd W, z.val.cell? ⟨B, 3, none⟩ = some (.int .i64 s.mark)) ∧ (∀ z : Kit.Wd W, z.val.cell? ⟨B, 4, none⟩ = some (.int .i64 s.kind)) ∧ (∀ z : Kit.Wd W, z.val.cell? ⟨B, 5, none⟩ = some (.int .i64 s.side)) ∧ (∀ z : Kit.Wd W, z.val.cell? ⟨B, 6, none⟩ = some (.int .i64 s.dir)) ∧ (∀ z : Kit.Wd W, z.val.cell? ⟨B, 7, none⟩ = some (.int .i64 s.level)) ∧ (∀ z : Kit.Wd W, z.val.cell? ⟨B, 8, none⟩ = some (.int .i64 s.size)) ∧ (∀ z : Kit.Wd W, z.val.cell? ⟨B, 9, none⟩ = some (.int .i64 s.wth)) ∧ (∀ z : Kit.Wd W, z.val.cell? ⟨B, 10, none⟩ = some (.int .i64 s.fn)) ∧ (∀ z : Kit.Wd W, z.val.cell? ⟨B, 11, none⟩ = some (.int .i64 s.fd)) ∧ (∀ z : Kit.Wd W, z.val.cell? ⟨B, 12, none⟩ = some (.int .i64 s.tn)) ∧ (∀ z : Kit.Wd W, z.val.cell? ⟨B, 13, none⟩ = some (.int .i64 s.td)) := by
  have hl := (Array.getElem?_eq_some_iff.1 h).1
  have hz : ∀ z : Kit.Wd W, Ty.SgAt z.val B s := fun z => (z.below.block B hl).trans h
  exact ⟨fun z => (hz z).cells.1, fun z => (hz z).cells.2.1, fun z => (hz z).cells.2.2.1, fun z => (hz z).cells.2.2.2.1, fun z => (hz z).cells.2.2.2.2.1, fun z => (hz z).cells.2.2.2.2.2.1, fun z => (hz z).cells.2.2.2.2.2.2.1, fun z => (hz z).cells.2.2.2.2.2.2.2.1, fun z => (hz z).cells.2.2.2.2.2.2.2.2.1, fun z => (hz z).cells.2.2.2.2.2.2.2.2.2.1, fun z => (hz z).cells.2.2.2.2.2.2.2.2.2.2.1, fun z => (hz z).cells.2.2.2.2.2.2.2.2.2.2.2.1, fun z => (hz z).cells.2.2.2.2.2.2.2.2.2.2.2.2.1, fun z => (hz z).cells.2.2.2.2.2.2.2.2.2.2.2.2.2⟩
end Go.Proofs.YtggfeblfhabmkaaGreatDoor
