/- Walks: package space: Turned, Flat. Walks: package pose: what a sign does, on the box of a change. Walks: package pose: limbs that rest, that point; travel; what the signs of a kind do. Walks: package motion: within, form. Walks: package pose: travel, and what the signs of each kind do. Walks: package space: Mirrored; package kinespherelaw27: q, near. -/
import Derived.Test.YtedolbjgdedoaaaGreatDoorMoy
import Derived.Test.YtedolbjgdedoaaaGreatDoorUoU
import Derived.Test.YtedolbjgdedoaaaGreatDoorKit
import Derived.Test.YtedolbjgdedoaaaGreatDoorMox
set_option linter.unusedSimpArgs false
set_option linter.unusedVariables false
set_option maxRecDepth 100000
set_option maxHeartbeats 8000000
namespace Go.Proofs.YtedolbjgdedoaaaGreatDoor
open Go.RowKit Go.Shelf
theorem sp_turned (d f : Int) (w : World) (hd : 0 ≤ d ∧ d ≤ 8) (hf : 0 ≤ f ∧ f ≤ 7) : Calls Tryz.prog 41 #[.int .i64 d, .int .i64 f] w fun e w' => e = .returned (.tuple #[.int .i64 (Mo.turned d f), .int .i64 0]) ∧ w' = w := by
 have a1 : decide (d < 0) = false := by simp; omega
 have a2 : decide (8 < d) = false := by simp; omega
 have a3 : decide (f < 0) = false := by simp; omega
 have a4 : decide (7 < f) = false := by simp; omega
 obtain ⟨t, ht⟩ : ∃ t, Mo.turned d f = t := ⟨_, rfl⟩
 rw [ht]
 unfold Mo.turned at ht
 have hw : IntKind.i64.wrap (d + f) = d + f := by rw [IntKind.wrap_i64] <;> omega
 have hw2 : IntKind.i64.wrap (d + f - 8) = d + f - 8 := by rw [IntKind.wrap_i64] <;> omega
 by_cases h0 : d = 0
 ·subst h0
  rw [if_pos rfl] at ht
  subst ht
  go_enter Tryz.func41, Tryz.ntmps41
  go_wp2_with fail
  go_ret2
  exact ⟨rfl, rfl⟩
 ·rw [if_neg h0] at ht
  have a5 : (d == 0) = false := by simpa using h0
  rcases d8 : decide (8 < d + f) with _ | _
  ·rw [if_neg (by simpa using d8)] at ht
   subst ht
   clear h0
   go_enter Tryz.func41, Tryz.ntmps41
   go_wp2_with fail
   go_ret2
   exact ⟨rfl, rfl⟩
  ·rw [if_pos (by simpa using d8)] at ht
   subst ht
   clear h0
   go_enter Tryz.func41, Tryz.ntmps41
   go_wp2_with fail
   go_ret2
   exact ⟨rfl, rfl⟩
theorem Mo.res3 {fn : Func} {t u v : Tmp} (h : fn.results = #[.tmp t, .tmp u, .tmp v]) (tmps : Array Value) (P : Program) (w : World) : (results fn tmps).run P w = .ok (.tuple #[tmps.getD t undef, tmps.getD u undef, tmps.getD v undef]) w := by
 simp [results, h]
theorem Mo.fl_eq : ∀ k : Fin 8, Mo.fx ((k.val : Int) + 1) = (Uo.fl k.val).1 ∧ Mo.fy ((k.val : Int) + 1) = (Uo.fl k.val).2 := by decide
theorem sp_flat (d : Int) (w : World) (hd : 1 ≤ d ∧ d ≤ 8) (hF : Uo.Flat w) : Calls Tryz.prog 170 #[.int .i64 d] w fun e w' => e = .returned (.tuple #[.int .i64 (Mo.fx d), .int .i64 (Mo.fy d), .int .i64 0]) ∧ Below w.heap.size w w' := by
 obtain ⟨k, rfl⟩ : ∃ k : Nat, d = (k : Int) + 1 := ⟨(d - 1).toNat, by omega⟩
 have hk : k < 8 := by omega
 obtain ⟨e1, e2⟩ := Mo.fl_eq ⟨k, hk⟩
 simp only at e1 e2
 rw [e1, e2]
 obtain ⟨f0, f1⟩ := hF.2 k hk
 have hz := hF.1
 have hz0 : 0 < w.heap.size := by omega
 generalize Uo.fl k = F at *
 obtain ⟨X, Y⟩ := F
 dsimp only at *
 have a1 : decide ((k : Int) + 1 < 1) = false := by simp; omega
 have a2 : decide (8 < (k : Int) + 1) = false := by simp; omega
 have hkz : (k : Int) < 8 := by omega
 clear e1 e2 hd hF
 go_enter Tryz.func170, Tryz.ntmps170
 go_upto_region 3 with fail
 go_quiet (fail)
 go_wp2_with fail
 exact bodyPost_ret (Mo.res3 rfl _ _ _) rfl ⟨rfl, by exact Kit.gr⟩
namespace Mo
abbrev reC (r : Uo.Re) : List Value := [.int .i64 r.1, .int .i64 r.2.1, .int .i64 r.2.2.1, .bool r.2.2.2]
def chA (s : St) (k : Ex.Sg) (r : Uo.Re) : Array Value := ((stA s).toList ++ sgC k ++ reC r).toArray
def Ch (w : World) (B : Nat) (s : St) (k : Ex.Sg) (r : Uo.Re) : Prop := w.heap[B]? = some (.cells (chA s k r) 153 (0, 0))
theorem Ch.lt {w : World} {B : Nat} {s : St} {k : Ex.Sg} {r : Uo.Re} (h : Ch w B s k r) : B < w.heap.size := (Array.getElem?_eq_some_iff.1 h).1
theorem Ch.cell {w : World} {B : Nat} {s : St} {k : Ex.Sg} {r : Uo.Re} (h : Ch w B s k r) (j : Nat) : w.cell? ⟨B, j, none⟩ = (chA s k r)[j]? := by simp [World.cell?, show w.heap[B]? = _ from h]
theorem Ch.frozen {w : World} {B : Nat} {s : St} {k : Ex.Sg} {r : Uo.Re} (h : Ch w B s k r) (j : Nat) : w.frozen? ⟨B, j, none⟩ = false := by simp [World.frozen?, show w.heap[B]? = _ from h]
theorem Ch.set {w : World} {B : Nat} {s t : St} {k : Ex.Sg} {r : Uo.Re} (h : Ch w B s k r) (j : Nat) (v : Value) (hv : (chA s k r).setIfInBounds j v = chA t k r) : Ch (w.setCell ⟨B, j, none⟩ v) B t k r := by
 have hl := h.lt
 unfold Ch at *
 rw [← hv]
 simp only [World.setCell]
 rw [Array.getElem?_modify, if_pos rfl, h]
 rfl
end Mo
theorem pc_turn (B : Nat) (s : Mo.St) (k : Ex.Sg) (r : Uo.Re) (w : World) (hB : Mo.Ch w B s k r) (hf : 0 ≤ s.f ∧ s.f ≤ 7) (hz : 1 ≤ k.size ∧ k.size ≤ 7) : Calls Tryz.prog 113 #[.pointer (some ⟨B, 0, none⟩)] w fun e w' => e = .returned (.tuple #[]) ∧ Mo.Ch w' B { s with f := (s.f + k.size) % 8 } k r ∧ Kit.Exc (fun j => j = B) w w' := by
 have c2 : w.cell? ⟨B, 2, none⟩ = some (.int .i64 s.f) := (hB.cell 2).trans rfl
 have c21 : w.cell? ⟨B, 21, none⟩ = some (.int .i64 k.size) := (hB.cell 21).trans rfl
 have z2 := hB.frozen 2
 have hw : IntKind.i64.wrap (s.f + k.size) = s.f + k.size := by rw [IntKind.wrap_i64] <;> omega
 have hw2 : IntKind.i64.wrap ((s.f + k.size).tmod 8) = (s.f + k.size) % 8 := by rw [Int.tmod_eq_emod_of_nonneg omg, IntKind.wrap_i64] <;> omega
 have HB := qh hB; clear hB
 go_enter Tryz.func113, Tryz.ntmps113
 go_upto_region 0 with fail
 (refine Kit.wp_region_drew_tail 16 (by kernel_rfl) (by kernel_rfl) ?_; simp only [List.take_succ_cons, List.take_zero, List.drop_succ_cons, List.drop_zero]; (repeat (go_big_quiet_step (fail))); refine wpQuiet_nil ?_; intro _ hw'; obtain ⟨nq, hw''⟩ := hw'; subst hw'')
 go_wp2_with fail
 go_returns
 exact ⟨rfl, Mo.Ch.set (w := w.drewN nq) HB.out 2 _ rfl, Kit.Exc.setCell (S := fun j => j = B) (p := ⟨B, 2, none⟩) ((Kit.Exc.refl _ w).drewN nq) (.inl rfl) _⟩
theorem pc_point (B : Nat) (s : Mo.St) (k : Ex.Sg) (r : Uo.Re) (w : World) (hB : Mo.Ch w B s k r) (i : Nat) (hi : i < 5) : Calls Tryz.prog 144 #[.pointer (some ⟨B, 0, none⟩), .int .i64 i] w fun e w' => e = .returned (.tuple #[]) ∧ Mo.Ch w' B (Mo.put s i r.2.1 r.2.2.1) k r ∧ Kit.Exc (fun j => j = B) w w' := by
 have c28 : w.cell? ⟨B, 28, none⟩ = some (.int .i64 r.2.1) := (hB.cell 28).trans rfl
 have c29 : w.cell? ⟨B, 29, none⟩ = some (.int .i64 r.2.2.1) := (hB.cell 29).trans rfl
 have HB := qh hB; clear hB
 have c3 : w.cell? ⟨B, 3, none⟩ = some (.int .i64 s.d0) := (HB.out.cell 3).trans rfl
 have z3 := HB.out.frozen 3
 have c4 : w.cell? ⟨B, 4, none⟩ = some (.int .i64 s.v0) := (HB.out.cell 4).trans rfl
 have z4 := HB.out.frozen 4
 have c5 : w.cell? ⟨B, 5, none⟩ = some (.int .i64 s.d1) := (HB.out.cell 5).trans rfl
 have z5 := HB.out.frozen 5
 have c6 : w.cell? ⟨B, 6, none⟩ = some (.int .i64 s.v1) := (HB.out.cell 6).trans rfl
 have z6 := HB.out.frozen 6
 have c7 : w.cell? ⟨B, 7, none⟩ = some (.int .i64 s.d2) := (HB.out.cell 7).trans rfl
 have z7 := HB.out.frozen 7
 have c8 : w.cell? ⟨B, 8, none⟩ = some (.int .i64 s.v2) := (HB.out.cell 8).trans rfl
 have z8 := HB.out.frozen 8
 have c9 : w.cell? ⟨B, 9, none⟩ = some (.int .i64 s.d3) := (HB.out.cell 9).trans rfl
 have z9 := HB.out.frozen 9
 have c10 : w.cell? ⟨B, 10, none⟩ = some (.int .i64 s.v3) := (HB.out.cell 10).trans rfl
 have z10 := HB.out.frozen 10
 have c11 : w.cell? ⟨B, 11, none⟩ = some (.int .i64 s.d4) := (HB.out.cell 11).trans rfl
 have z11 := HB.out.frozen 11
 have c12 : w.cell? ⟨B, 12, none⟩ = some (.int .i64 s.v4) := (HB.out.cell 12).trans rfl
 have z12 := HB.out.frozen 12
 obtain rfl | rfl | rfl | rfl | rfl : i = 0 ∨ i = 1 ∨ i = 2 ∨ i = 3 ∨ i = 4 := by omega
 ·go_enter Tryz.func144, Tryz.ntmps144
  go_upto_region 0 with fail
  (refine Kit.wp_region_drew_tail 17 (by kernel_rfl) (by kernel_rfl) ?_; simp only [List.take_succ_cons, List.take_zero, List.drop_succ_cons, List.drop_zero]; (repeat (go_big_quiet_step (fail))); refine wpQuiet_nil ?_; intro _ hw'; obtain ⟨nq, hw''⟩ := hw'; subst hw'')
  go_wp2_with fail
  go_returns
  exact ⟨rfl, Mo.Ch.set (t := Mo.put s 0 r.2.1 r.2.2.1) (Mo.Ch.set (w := w.drewN nq) (t := { s with d0 := r.2.1 }) HB.out 3 (.int .i64 r.2.1) rfl) 4 (.int .i64 r.2.2.1) rfl, Kit.Exc.setCell (S := fun j => j = B) (p := ⟨B, 4, none⟩) (Kit.Exc.setCell (S := fun j => j = B) (p := ⟨B, 3, none⟩) ((Kit.Exc.refl _ w).drewN nq) (.inl rfl) _) (.inl rfl) _⟩
 ·go_enter Tryz.func144, Tryz.ntmps144
  go_upto_region 0 with fail
  (refine Kit.wp_region_drew_tail 17 (by kernel_rfl) (by kernel_rfl) ?_; simp only [List.take_succ_cons, List.take_zero, List.drop_succ_cons, List.drop_zero]; (repeat (go_big_quiet_step (fail))); refine wpQuiet_nil ?_; intro _ hw'; obtain ⟨nq, hw''⟩ := hw'; subst hw'')
  go_wp2_with fail
  go_returns
  exact ⟨rfl, Mo.Ch.set (t := Mo.put s 1 r.2.1 r.2.2.1) (Mo.Ch.set (w := w.drewN nq) (t := { s with d1 := r.2.1 }) HB.out 5 (.int .i64 r.2.1) rfl) 6 (.int .i64 r.2.2.1) rfl, Kit.Exc.setCell (S := fun j => j = B) (p := ⟨B, 6, none⟩) (Kit.Exc.setCell (S := fun j => j = B) (p := ⟨B, 5, none⟩) ((Kit.Exc.refl _ w).drewN nq) (.inl rfl) _) (.inl rfl) _⟩
 ·go_enter Tryz.func144, Tryz.ntmps144
  go_upto_region 0 with fail
  (refine Kit.wp_region_drew_tail 17 (by kernel_rfl) (by kernel_rfl) ?_; simp only [List.take_succ_cons, List.take_zero, List.drop_succ_cons, List.drop_zero]; (repeat (go_big_quiet_step (fail))); refine wpQuiet_nil ?_; intro _ hw'; obtain ⟨nq, hw''⟩ := hw'; subst hw'')
  go_wp2_with fail
  go_returns
  exact ⟨rfl, Mo.Ch.set (t := Mo.put s 2 r.2.1 r.2.2.1) (Mo.Ch.set (w := w.drewN nq) (t := { s with d2 := r.2.1 }) HB.out 7 (.int .i64 r.2.1) rfl) 8 (.int .i64 r.2.2.1) rfl, Kit.Exc.setCell (S := fun j => j = B) (p := ⟨B, 8, none⟩) (Kit.Exc.setCell (S := fun j => j = B) (p := ⟨B, 7, none⟩) ((Kit.Exc.refl _ w).drewN nq) (.inl rfl) _) (.inl rfl) _⟩
 ·go_enter Tryz.func144, Tryz.ntmps144
  go_upto_region 0 with fail
  (refine Kit.wp_region_drew_tail 17 (by kernel_rfl) (by kernel_rfl) ?_; simp only [List.take_succ_cons, List.take_zero, List.drop_succ_cons, List.drop_zero]; (repeat (go_big_quiet_step (fail))); refine wpQuiet_nil ?_; intro _ hw'; obtain ⟨nq, hw''⟩ := hw'; subst hw'')
  go_wp2_with fail
  go_returns
  exact ⟨rfl, Mo.Ch.set (t := Mo.put s 3 r.2.1 r.2.2.1) (Mo.Ch.set (w := w.drewN nq) (t := { s with d3 := r.2.1 }) HB.out 9 (.int .i64 r.2.1) rfl) 10 (.int .i64 r.2.2.1) rfl, Kit.Exc.setCell (S := fun j => j = B) (p := ⟨B, 10, none⟩) (Kit.Exc.setCell (S := fun j => j = B) (p := ⟨B, 9, none⟩) ((Kit.Exc.refl _ w).drewN nq) (.inl rfl) _) (.inl rfl) _⟩
 ·go_enter Tryz.func144, Tryz.ntmps144
  go_upto_region 0 with fail
  (refine Kit.wp_region_drew_tail 17 (by kernel_rfl) (by kernel_rfl) ?_; simp only [List.take_succ_cons, List.take_zero, List.drop_succ_cons, List.drop_zero]; (repeat (go_big_quiet_step (fail))); refine wpQuiet_nil ?_; intro _ hw'; obtain ⟨nq, hw''⟩ := hw'; subst hw'')
  go_wp2_with fail
  go_returns
  exact ⟨rfl, Mo.Ch.set (t := Mo.put s 4 r.2.1 r.2.2.1) (Mo.Ch.set (w := w.drewN nq) (t := { s with d4 := r.2.1 }) HB.out 11 (.int .i64 r.2.1) rfl) 12 (.int .i64 r.2.2.1) rfl, Kit.Exc.setCell (S := fun j => j = B) (p := ⟨B, 12, none⟩) (Kit.Exc.setCell (S := fun j => j = B) (p := ⟨B, 11, none⟩) ((Kit.Exc.refl _ w).drewN nq) (.inl rfl) _) (.inl rfl) _⟩
end Go.Proofs.YtedolbjgdedoaaaGreatDoor

namespace Go.Proofs.YtedolbjgdedoaaaGreatDoor
open Go.RowKit Go.Shelf
namespace Mo
theorem Ch.put {w : World} {B : Nat} {s : St} {k : Ex.Sg} {r : Uo.Re} (h : Ch w B s k r) (i : Nat) (hi : i < 5) (d v : Int) : Ch ((w.setCell ⟨B, 3 + 2 * i, none⟩ (.int .i64 d)).setCell ⟨B, 4 + 2 * i, none⟩ (.int .i64 v)) B (put s i d v) k r := by
 obtain rfl | rfl | rfl | rfl | rfl : i = 0 ∨ i = 1 ∨ i = 2 ∨ i = 3 ∨ i = 4 := by omega
 ·exact Ch.set (t := Mo.put s 0 d v) (Ch.set (t := { s with d0 := d }) h 3 (.int .i64 d) rfl) 4 (.int .i64 v) rfl
 ·exact Ch.set (t := Mo.put s 1 d v) (Ch.set (t := { s with d1 := d }) h 5 (.int .i64 d) rfl) 6 (.int .i64 v) rfl
 ·exact Ch.set (t := Mo.put s 2 d v) (Ch.set (t := { s with d2 := d }) h 7 (.int .i64 d) rfl) 8 (.int .i64 v) rfl
 ·exact Ch.set (t := Mo.put s 3 d v) (Ch.set (t := { s with d3 := d }) h 9 (.int .i64 d) rfl) 10 (.int .i64 v) rfl
 ·exact Ch.set (t := Mo.put s 4 d v) (Ch.set (t := { s with d4 := d }) h 11 (.int .i64 d) rfl) 12 (.int .i64 v) rfl
theorem exc_two {w A : World} {B : Nat} (h : Kit.Exc (fun j => j = B) w A) (i j : Nat) (u v : Value) : Kit.Exc (fun j => j = B) w ((A.setCell ⟨B, i, none⟩ u).setCell ⟨B, j, none⟩ v) :=
 Kit.Exc.setCell (S := fun j => j = B) (p := ⟨B, j, none⟩) (Kit.Exc.setCell (S := fun j => j = B) (p := ⟨B, i, none⟩) h (.inl rfl) _) (.inl rfl) _
def rest (s : St) (l : List Nat) : St := l.foldl (fun s i => put s i 0 0) s
theorem rest_step (s : St) (l : List Nat) (i : Nat) (h : i < l.length) : rest s (l.take (i + 1)) = put (rest s (l.take i)) (l.getD i 0) 0 0 := by
 unfold rest
 rw [List.take_succ_eq_append_getElem h, List.foldl_append]
 simp [List.getD_eq_getElem?_getD, List.getElem?_eq_getElem h]
structure Ls (w : World) (ad : Addr) (l : List Nat) : Prop where
 lt : ad.block < w.heap.size
 cell : ∀ j, j < l.length → w.cell? (ad.add j) = some (.int .i64 (l.getD j 0 : Nat))
 five : ∀ i, i < l.length → l.getD i 0 < 5
theorem Ls.exc {w W : World} {ad : Addr} {l : List Nat} {B : Nat} (h : Ls w ad l) (hx : Kit.Exc (fun j => j = B) w W) (hn : ad.block ≠ B) : Ls W ad l :=
 ⟨Nat.lt_of_lt_of_le h.lt hx.size, fun j hj => (World.cell?_of_block (by rw [Tp.add_block]; exact hx.block _ h.lt hn)).trans (h.cell j hj), h.five⟩
end Mo
theorem pc_rest (B : Nat) (s : Mo.St) (k : Ex.Sg) (r : Uo.Re) (w : World) (hB : Mo.Ch w B s k r) (ad : Addr) (l : List Nat) (c : Nat) (hL : Mo.Ls w ad l) (hn : ad.block ≠ B) (hl : l.length ≤ 100) : Calls Tryz.prog 143 #[.pointer (some ⟨B, 0, none⟩), .slice (some ad) l.length c] w fun e w' => e = .returned (.tuple #[]) ∧ Mo.Ch w' B (Mo.rest s l) k r ∧ Kit.Exc (fun j => j = B) w w' := by
 have HB := qh hB
 have HL := qh hL
 have HN := qh hn
 clear hB hL hn
 go_enter Tryz.func143, Tryz.ntmps143
 go_wp2_with fail
 go_loopg [8] l.length (fun kx v8 wr => ∃ i : Nat, v8 = .int .i64 i ∧ i ≤ l.length ∧ l.length - i ≤ kx ∧ Hid (Mo.Ch wr B (Mo.rest s (l.take i)) k r) ∧ Hid (Kit.Exc (fun j => j = B) w wr))
 case atStart => exact ⟨0, rfl, by omega, by omega, HB, qh (Kit.Exc.refl _ _)⟩
 case round =>
  obtain ⟨i, rfl, hi, hk, HC, HX⟩ := hrel
  by_cases hlt : i < l.length
  ·have hltz : (i : Int) < (l.length : Int) := by omega
   have hls := HL.out.exc HX.out HN.out
   have hc := hls.cell i hlt
   have hq := hls.five i hlt
   have HS := qh (Mo.rest_step s l i hlt)
   clear hls
   obtain ⟨q, hqq⟩ : ∃ q, l.getD i 0 = q := ⟨_, rfl⟩
   rw [hqq] at hc hq HS
   clear hqq
   obtain ⟨S, hS⟩ : ∃ S, Mo.rest s (l.take i) = S := ⟨_, rfl⟩
   rw [hS] at HC HS
   clear hS
   obtain ⟨v0, v1, c0, c1⟩ : ∃ v0 v1, wr.cell? ⟨B, 3 + 2 * q, none⟩ = some v0 ∧ wr.cell? ⟨B, 4 + 2 * q, none⟩ = some v1 := by
    rw [HC.out.cell, HC.out.cell]
    obtain rfl | rfl | rfl | rfl | rfl : q = 0 ∨ q = 1 ∨ q = 2 ∨ q = 3 ∨ q = 4 := by omega
    all_goals exact ⟨_, _, rfl, rfl⟩
   have z0 := HC.out.frozen (3 + 2 * q)
   have z1 := HC.out.frozen (4 + 2 * q)
   have HP := qh (HC.out.put q hq 0 0)
   have HE := qh (Mo.exc_two HX.out (3 + 2 * q) (4 + 2 * q) (.int .i64 0) (.int .i64 0))
   clear HC
   obtain rfl | rfl | rfl | rfl | rfl : q = 0 ∨ q = 1 ∨ q = 2 ∨ q = 3 ∨ q = 4 := by omega
   all_goals
    simp only [Nat.reduceMul, Nat.reduceAdd] at c0 c1 z0 z1 HP HE
    go_wp2_with fail
    go_roundg (l.length - (i + 1))
    case measure => omega
    case rel => exact ⟨i + 1, by go_num, by omega, Nat.le_refl _, qh (by rw [HS.out]; exact HP.out), HE⟩
  ·obtain rfl : i = l.length := by omega
   have hfin := HC.out
   rw [List.take_length] at hfin
   have HF := qh hfin
   clear hfin
   go_wp2_with fail
   go_returns
   exact ⟨rfl, HF.out, HX.out⟩
end Go.Proofs.YtedolbjgdedoaaaGreatDoor

namespace Go.Proofs.YtedolbjgdedoaaaGreatDoor
open Go.RowKit Go.Shelf
theorem mo_within (n lo hi : Int) (w : World) : Calls Tryz.prog 120 #[.int .i64 n, .int .i64 lo, .int .i64 hi] w fun e w' => e = .returned (.bool (Tp.inb n lo hi)) ∧ w' = w := by
 unfold Tp.inb
 rcases d1 : decide (lo ≤ n) with _ | _ <;> rcases d2 : decide (n ≤ hi) with _ | _
 all_goals
  go_enter Tryz.func120, Tryz.ntmps120
  go_wp2_with fail
  go_ret
  exact ⟨rfl, rfl⟩
theorem Mo.form_eq (k : Ex.Sg) (r : Uo.Re) : Mo.form k r = ((r.1 == k.id) && (if r.2.2.2 = true then (r.2.1 == 0) && (r.2.2.1 == 0) else if (k.kind == 3) = true then Tp.inb r.2.1 0 8 && Tp.inb r.2.2.1 1 3 else if (k.kind == 4) = true then Tp.inb r.2.1 0 8 && Tp.inb r.2.2.1 1 3 else if (k.kind == 5) = true then Tp.inb r.2.1 0 8 && Tp.inb r.2.2.1 1 3 else if (k.kind == 9) = true then (r.2.1 == 0) && Tp.inb r.2.2.1 1 3 else (r.2.1 == 0) && (r.2.2.1 == 0))) := by
 unfold Mo.form
 by_cases h3 : k.kind = 3
 ·simp [h3]
 by_cases h4 : k.kind = 4
 ·simp [h4]
 by_cases h5 : k.kind = 5
 ·simp [h5]
 simp [h3, h4, h5]
theorem mo_form (k : Ex.Sg) (r : Uo.Re) (w : World) : Calls Tryz.prog 71 #[.agg (Mo.sgC k).toArray, .agg (Mo.reC r).toArray] w fun e w' => e = .returned (.bool (Mo.form k r)) ∧ Below w.heap.size w w' := by
 rw [Mo.form_eq]
 obtain ⟨rs, rd, rl, rp⟩ := r
 unfold Mo.sgC Mo.reC
 dsimp only [List.toArray]
 have HI1 := qh (fun W => mo_within rd 0 8 W)
 have HI2 := qh (fun W => mo_within rl 1 3 W)
 generalize Tp.inb rd 0 8 = i8 at *
 generalize Tp.inb rl 1 3 = i3 at *
 obtain ⟨n, hn⟩ : ∃ n, (rs == k.id) = n := ⟨_, rfl⟩
 have hn2 : (rs != k.id) = !n := by rw [← hn]; rfl
 rw [hn]
 clear hn
 obtain ⟨res, hres⟩ : ∃ b, (n && (if rp = true then (rd == 0) && (rl == 0) else if (k.kind == 3) = true then i8 && i3 else if (k.kind == 4) = true then i8 && i3 else if (k.kind == 5) = true then i8 && i3 else if (k.kind == 9) = true then (rd == 0) && i3 else (rd == 0) && (rl == 0))) = b := ⟨_, rfl⟩
 rw [hres]
 have HRES := qh hres
 clear hres
 rcases d3 : (k.kind == 3) with _ | _
 case' false =>
  rcases d4 : (k.kind == 4) with _ | _
  case' false =>
   rcases d5 : (k.kind == 5) with _ | _
   case' false => rcases d9 : (k.kind == 9) with _ | _
 all_goals
  rcases n with _ | _
  case' true =>
   rcases rp with _ | _
   all_goals
    rcases z1 : (rd == 0) with _ | _
    all_goals rcases i8 with _ | _
  all_goals
   simp only [Bool.not_true, Bool.not_false] at hn2
   go_enter Tryz.func71, Tryz.ntmps71
   go_wp2_with (first | (with_reducible refine (HI1.out _).mono ?_; rintro _ w' ⟨rfl, hw⟩; subst w') | (with_reducible refine (HI2.out _).mono ?_; rintro _ w' ⟨rfl, hw⟩; subst w'))
   go_ret
   exact ⟨by rw [← HRES.out]; simp [*], by exact Kit.gr⟩
namespace Mo
theorem Ch.alloc {w : World} {B : Nat} {s : St} {k : Ex.Sg} {r : Uo.Re} (h : Ch w B s k r) (o : Obj) : Ch (w.alloc o) B s k r := (Below.heap_alloc _ _ _ h.lt).trans h
theorem lit1 (w : World) (t : TypeId) (q : Nat) (hq : q < 5) : Ls (w.alloc (.cells #[.int .i64 q] t)) ⟨w.heap.size, 0, none⟩ [q] :=
 ⟨by simp, fun j hj => by
  obtain rfl : j = 0 := by simpa using hj
  simp [Addr.add, go_sem], fun i hi => by
  obtain rfl : i = 0 := by simpa using hi
  simpa using hq⟩
theorem lit2 (w : World) (t : TypeId) (q p : Nat) (hq : q < 5) (hp : p < 5) : Ls (w.alloc (.cells #[.int .i64 q, .int .i64 p] t)) ⟨w.heap.size, 0, none⟩ [q, p] :=
 ⟨by simp, fun j hj => by
  obtain rfl | rfl : j = 0 ∨ j = 1 := by simp at hj; omega
  all_goals simp [Addr.add, go_sem], fun i hi => by
  obtain rfl | rfl : i = 0 ∨ i = 1 := by simp at hi; omega
  all_goals simpa using ‹_›⟩
theorem exc_al {w W : World} {B : Nat} (o : Obj) (h : Kit.Exc (fun j => j = B) (w.alloc o) W) : Kit.Exc (fun j => j = B) w W := ((Kit.Exc.refl _ w).alloc o).trans h
theorem turned_bd {d f : Int} (hd : 1 ≤ d ∧ d ≤ 8) (hf : 0 ≤ f ∧ f ≤ 7) : 1 ≤ turned d f ∧ turned d f ≤ 8 := by
 unfold turned
 rw [if_neg omg]
 split <;> omega
theorem size_bd {n F : Int} (h0 : 0 ≤ n) (hn : n ≤ 16) (hF : -29 ≤ F ∧ F ≤ 29) : -464 ≤ n * F ∧ n * F ≤ 464 := by
 have h1 := Int.mul_le_mul_of_nonneg_left hF.1 h0
 have h2 := Int.mul_le_mul_of_nonneg_left hF.2 h0
 omega
theorem ok_bd {s : St} (h : ok s = true) : (-1073741824 ≤ s.x ∧ s.x ≤ 1073741824) ∧ (-1073741824 ≤ s.y ∧ s.y ≤ 1073741824) ∧ (0 ≤ s.f ∧ s.f ≤ 7) := by
 unfold ok okP okF at h
 simp only [Bool.and_eq_true] at h
 exact ⟨(Tp.inb_iff _ _ _).1 h.1.1, (Tp.inb_iff _ _ _).1 h.1.2, (Tp.inb_iff _ _ _).1 h.2.1.1.1.1.1⟩
end Mo
theorem pc_travel (B : Nat) (s : Mo.St) (k : Ex.Sg) (r : Uo.Re) (w : World) (hB : Mo.Ch w B s k r) (hF : Uo.Flat w) (hok : Mo.ok s = true) (hd : 1 ≤ k.dir ∧ k.dir ≤ 8) (hz : 1 ≤ k.size ∧ k.size ≤ 16) : Calls Tryz.prog 142 #[.pointer (some ⟨B, 0, none⟩)] w fun e w' => e = .returned (.tuple #[]) ∧ Mo.Ch w' B (Mo.travel s k.dir k.size) k r ∧ Kit.Exc (fun j => j = B) w w' := by
 obtain ⟨bx, bY, bf⟩ := Mo.ok_bd hok
 have HT := qh (fun W => sp_turned k.dir s.f W ⟨by omega, hd.2⟩ bf)
 have htb := Mo.turned_bd hd bf
 have HFl := qh (fun W (hb : Below w.heap.size w W) => sp_flat (Mo.turned k.dir s.f) W htb (hF.kept hb nlr))
 have HTR := qh (show Mo.travel s k.dir k.size = { s with x := s.x + k.size * Mo.fx (Mo.turned k.dir s.f), y := s.y + k.size * Mo.fy (Mo.turned k.dir s.f) } from rfl)
 have h1 := Mo.size_bd omg hz.2 (Mo.fx_bd (Mo.turned k.dir s.f))
 have h2 := Mo.size_bd omg hz.2 (Mo.fy_bd (Mo.turned k.dir s.f))
 generalize Mo.turned k.dir s.f = T at HT HFl HTR h1 h2
 generalize Mo.fx T = X at HFl HTR h1
 generalize Mo.fy T = Y at HFl HTR h2
 have w1 : IntKind.i64.wrap (k.size * X) = k.size * X := by rw [IntKind.wrap_i64] <;> omega
 have w2 : IntKind.i64.wrap (k.size * Y) = k.size * Y := by rw [IntKind.wrap_i64] <;> omega
 have w3 : IntKind.i64.wrap (s.x + k.size * X) = s.x + k.size * X := by rw [IntKind.wrap_i64] <;> omega
 have w4 : IntKind.i64.wrap (s.y + k.size * Y) = s.y + k.size * Y := by rw [IntKind.wrap_i64] <;> omega
 have HB := qh hB
 have c2 : w.cell? ⟨B, 2, none⟩ = some (.int .i64 s.f) := (hB.cell 2).trans rfl
 have c19 : w.cell? ⟨B, 19, none⟩ = some (.int .i64 k.dir) := (hB.cell 19).trans rfl
 clear hB hF hok hd hz bx bY bf htb h1 h2
 go_enter Tryz.func142, Tryz.ntmps142
 go_upto_region 0 with fail
 go_quiet ((go_at_call 41; exact Calls.quiet_of_same (HT.out _)))
 have HB2 := qh (show Mo.Ch (w.drewN nq) B s k r from HB.out)
 have HX2 := qh (show Kit.Exc (fun j => j = B) w (w.drewN nq) from (Kit.Exc.refl _ w).drewN nq)
 have HL2 := qh (show Below w.heap.size w (w.drewN nq) from Kit.below_drewN (Below.refl _ _) nq)
 clear c2 c19 HB
 generalize w.drewN nq = W2 at *
 go_wp2_with (refine (HFl.out _ HL2.out).mono ?_; rintro _ W3 ⟨rfl, hb⟩)
 go_upto_region 2 with fail
 have hlt := HB2.out.lt
 have HB3 := qh (show Mo.Ch W3 B s k r from (hb.block B hlt).trans HB2.out)
 have HX3 := qh (show Kit.Exc (fun j => j = B) w W3 from HX2.out.then hb)
 clear HB2 HX2 hb HL2 hlt
 have c0 : W3.cell? ⟨B, 0, none⟩ = some (.int .i64 s.x) := (HB3.out.cell 0).trans rfl
 have c21 : W3.cell? ⟨B, 21, none⟩ = some (.int .i64 k.size) := (HB3.out.cell 21).trans rfl
 have z0 := HB3.out.frozen 0
 (refine Kit.wp_region_drew_tail 16 (by kernel_rfl) (by kernel_rfl) ?_; simp only [List.take_succ_cons, List.take_zero, List.drop_succ_cons, List.drop_zero]; (repeat (go_big_quiet_step (fail))); refine wpQuiet_nil ?_; intro _ hw'; obtain ⟨nq, hw''⟩ := hw'; subst hw'')
 go_upto_region 3 with fail
 refine Kit.wp_name ?_
 intro W4 hW4
 have HB4 := qh (show Mo.Ch W4 B { s with x := s.x + k.size * X } k r by rw [hW4]; exact Mo.Ch.set (w := W3.drewN nq) HB3.out 0 _ rfl)
 have HX4 := qh (show Kit.Exc (fun j => j = B) w W4 by rw [hW4]; exact Kit.Exc.setCell (S := fun j => j = B) (p := ⟨B, 0, none⟩) (HX3.out.drewN nq) (.inl rfl) _)
 clear hW4 HB3 HX3 c0 c21 z0
 have c1 : W4.cell? ⟨B, 1, none⟩ = some (.int .i64 s.y) := (HB4.out.cell 1).trans rfl
 have c21 : W4.cell? ⟨B, 21, none⟩ = some (.int .i64 k.size) := (HB4.out.cell 21).trans rfl
 have z1 := HB4.out.frozen 1
 (refine Kit.wp_region_drew_tail 16 (by kernel_rfl) (by kernel_rfl) ?_; simp only [List.take_succ_cons, List.take_zero, List.drop_succ_cons, List.drop_zero]; (repeat (go_big_quiet_step (fail))); refine wpQuiet_nil ?_; intro _ hw'; obtain ⟨nq, hw''⟩ := hw'; subst hw'')
 go_wp2_with fail
 go_returns
 exact ⟨rfl, by rw [HTR.out]; exact Mo.Ch.set (w := W4.drewN nq) HB4.out 1 _ rfl, Kit.Exc.setCell (S := fun j => j = B) (p := ⟨B, 1, none⟩) (HX4.out.drewN nq) (.inl rfl) _⟩
theorem pc_leg (B : Nat) (s : Mo.St) (k : Ex.Sg) (r : Uo.Re) (w : World) (hB : Mo.Ch w B s k r) (hs : 1 ≤ k.side ∧ k.side ≤ 2) : Calls Tryz.prog 110 #[.pointer (some ⟨B, 0, none⟩)] w fun e w' => e = .returned (.tuple #[]) ∧ Mo.Ch w' B (Mo.put s (k.side - 1).toNat r.2.1 r.2.2.1) k r ∧ Kit.Exc (fun j => j = B) w w' := by
 have c : w.cell? ⟨B, 18, none⟩ = some (.int .i64 k.side) := (hB.cell 18).trans rfl
 have HB := qh hB; clear hB
 rcases (by omega : k.side = 1 ∨ k.side = 2) with e | e
 all_goals
  rw [e] at c ⊢
  clear e hs
  go_enter Tryz.func110, Tryz.ntmps110
 ·go_wp2_with (refine (pc_point B s k r _ HB.out 0 (by decide)).mono ?_; rintro _ w' ⟨rfl, hC, hX⟩)
  go_returns
  exact ⟨rfl, hC, hX⟩
 ·go_wp2_with (refine (pc_point B s k r _ HB.out 1 (by decide)).mono ?_; rintro _ w' ⟨rfl, hC, hX⟩)
  go_returns
  exact ⟨rfl, hC, hX⟩
theorem pc_arm (B : Nat) (s : Mo.St) (k : Ex.Sg) (r : Uo.Re) (w : World) (hB : Mo.Ch w B s k r) (hs : 1 ≤ k.side ∧ k.side ≤ 2) : Calls Tryz.prog 111 #[.pointer (some ⟨B, 0, none⟩)] w fun e w' => e = .returned (.tuple #[]) ∧ Mo.Ch w' B (Mo.put s (k.side + 1).toNat r.2.1 r.2.2.1) k r ∧ Kit.Exc (fun j => j = B) w w' := by
 have c : w.cell? ⟨B, 18, none⟩ = some (.int .i64 k.side) := (hB.cell 18).trans rfl
 have HB := qh hB; clear hB
 rcases (by omega : k.side = 1 ∨ k.side = 2) with e | e
 all_goals
  rw [e] at c ⊢
  clear e hs
  go_enter Tryz.func111, Tryz.ntmps111
 ·go_wp2_with (refine (pc_point B s k r _ HB.out 2 (by decide)).mono ?_; rintro _ w' ⟨rfl, hC, hX⟩)
  go_returns
  exact ⟨rfl, hC, hX⟩
 ·go_wp2_with (refine (pc_point B s k r _ HB.out 3 (by decide)).mono ?_; rintro _ w' ⟨rfl, hC, hX⟩)
  go_returns
  exact ⟨rfl, hC, hX⟩
theorem pc_trunk (B : Nat) (s : Mo.St) (k : Ex.Sg) (r : Uo.Re) (w : World) (hB : Mo.Ch w B s k r) : Calls Tryz.prog 112 #[.pointer (some ⟨B, 0, none⟩)] w fun e w' => e = .returned (.tuple #[]) ∧ Mo.Ch w' B (Mo.put s 4 r.2.1 r.2.2.1) k r ∧ Kit.Exc (fun j => j = B) w w' := by
 have HB := qh hB; clear hB
 go_enter Tryz.func112, Tryz.ntmps112
 go_wp2_with (refine (pc_point B s k r _ HB.out 4 (by decide)).mono ?_; rintro _ w' ⟨rfl, hC, hX⟩)
 go_returns
 exact ⟨rfl, hC, hX⟩
theorem pc_lift (B : Nat) (s : Mo.St) (k : Ex.Sg) (r : Uo.Re) (w : World) (hB : Mo.Ch w B s k r) : Calls Tryz.prog 114 #[.pointer (some ⟨B, 0, none⟩)] w fun e w' => e = .returned (.tuple #[]) ∧ Mo.Ch w' B (Mo.put (Mo.put s 2 0 0) 3 0 0) k r ∧ Kit.Exc (fun j => j = B) w w' := by
 have HB := qh hB
 have HN := qh (Nat.ne_of_gt hB.lt)
 clear hB
 go_enter Tryz.func114, Tryz.ntmps114
 go_wp2_with (refine (pc_rest B s k r (w.alloc _) (HB.out.alloc _) ⟨w.heap.size, 0, none⟩ [2, 3] 2 (Mo.lit2 w _ 2 3 (by decide) (by decide)) HN.out (by decide)).mono ?_; rintro _ w' ⟨rfl, hC, hX⟩)
 go_returns
 exact ⟨rfl, hC, Mo.exc_al _ hX⟩
theorem pc_ride (B : Nat) (s : Mo.St) (k : Ex.Sg) (r : Uo.Re) (w : World) (hB : Mo.Ch w B s k r) : Calls Tryz.prog 115 #[.pointer (some ⟨B, 0, none⟩)] w fun e w' => e = .returned (.tuple #[]) ∧ Mo.Ch w' B (Mo.put (Mo.put s 0 0 0) 1 0 0) k r ∧ Kit.Exc (fun j => j = B) w w' := by
 have HB := qh hB
 have HN := qh (Nat.ne_of_gt hB.lt)
 clear hB
 go_enter Tryz.func115, Tryz.ntmps115
 go_wp2_with (refine (pc_rest B s k r (w.alloc _) (HB.out.alloc _) ⟨w.heap.size, 0, none⟩ [0, 1] 2 (Mo.lit2 w _ 0 1 (by decide) (by decide)) HN.out (by decide)).mono ?_; rintro _ w' ⟨rfl, hC, hX⟩)
 go_returns
 exact ⟨rfl, hC, Mo.exc_al _ hX⟩
theorem pc_free (B : Nat) (s : Mo.St) (k : Ex.Sg) (r : Uo.Re) (w : World) (hB : Mo.Ch w B s k r) (hs : 1 ≤ k.side ∧ k.side ≤ 2) : Calls Tryz.prog 116 #[.pointer (some ⟨B, 0, none⟩)] w fun e w' => e = .returned (.tuple #[]) ∧ Mo.Ch w' B (Mo.put s (k.side + 1).toNat 0 0) k r ∧ Kit.Exc (fun j => j = B) w w' := by
 have c : w.cell? ⟨B, 18, none⟩ = some (.int .i64 k.side) := (hB.cell 18).trans rfl
 have HB := qh hB
 have HN := qh (Nat.ne_of_gt hB.lt)
 clear hB
 rcases (by omega : k.side = 1 ∨ k.side = 2) with e | e
 all_goals
  rw [e] at c ⊢
  clear e hs
  go_enter Tryz.func116, Tryz.ntmps116
 ·go_wp2_with (refine (pc_rest B s k r (w.alloc _) (HB.out.alloc _) ⟨w.heap.size, 0, none⟩ [2] 1 (Mo.lit1 w _ 2 (by decide)) HN.out (by decide)).mono ?_; rintro _ w' ⟨rfl, hC, hX⟩)
  go_returns
  exact ⟨rfl, hC, Mo.exc_al _ hX⟩
 ·go_wp2_with (refine (pc_rest B s k r (w.alloc _) (HB.out.alloc _) ⟨w.heap.size, 0, none⟩ [3] 1 (Mo.lit1 w _ 3 (by decide)) HN.out (by decide)).mono ?_; rintro _ w' ⟨rfl, hC, hX⟩)
  go_returns
  exact ⟨rfl, hC, Mo.exc_al _ hX⟩
theorem pc_step (B : Nat) (s : Mo.St) (k : Ex.Sg) (r : Uo.Re) (w : World) (hB : Mo.Ch w B s k r) (hF : Uo.Flat w) (hok : Mo.ok s = true) (hd : 1 ≤ k.dir ∧ k.dir ≤ 8) (hz : 1 ≤ k.size ∧ k.size ≤ 16) (hs : 1 ≤ k.side ∧ k.side ≤ 2) : Calls Tryz.prog 108 #[.pointer (some ⟨B, 0, none⟩)] w fun e w' => e = .returned (.tuple #[]) ∧ Mo.Ch w' B (Mo.put (Mo.travel s k.dir k.size) (k.side - 1).toNat 0 0) k r ∧ Kit.Exc (fun j => j = B) w w' := by
 have HT := qh (pc_travel B s k r w hB hF hok hd hz)
 obtain ⟨S, hS⟩ : ∃ S, Mo.travel s k.dir k.size = S := ⟨_, rfl⟩
 rw [hS] at HT ⊢
 obtain ⟨q, hq, e⟩ : ∃ q : Nat, (q = 0 ∨ q = 1) ∧ k.side = q + 1 := by
  rcases (by omega : k.side = 1 ∨ k.side = 2) with e | e
  ·exact ⟨0, .inl rfl, e⟩
  ·exact ⟨1, .inr rfl, e⟩
 have e2 : (k.side - 1).toNat = q := by omega
 rw [e2]
 have HE := qh e
 have HQ := qh hq
 clear hB hF hok hd hz hs hS e e2 hq
 go_enter Tryz.func108, Tryz.ntmps108
 go_upto_region 1 with (with_reducible refine HT.out.mono ?_; rintro _ w1 ⟨rfl, hC, hX⟩)
 have c : w1.cell? ⟨B, 18, none⟩ = some (.int .i64 k.side) := (hC.cell 18).trans rfl
 rw [HE.out] at c
 have HN := qh (Nat.ne_of_gt hC.lt)
 have HC := qh hC
 have HX := qh hX
 clear hC hX
 rcases HQ.out with rfl | rfl
 ·go_wp2_with (refine (pc_rest B S k r (w1.alloc _) (HC.out.alloc _) ⟨w1.heap.size, 0, none⟩ [0] 1 (Mo.lit1 w1 _ 0 (by decide)) HN.out (by decide)).mono ?_; rintro _ w' ⟨rfl, hC, hX⟩)
  go_returns
  exact ⟨rfl, hC, HX.out.trans (Mo.exc_al _ hX)⟩
 ·go_wp2_with (refine (pc_rest B S k r (w1.alloc _) (HC.out.alloc _) ⟨w1.heap.size, 0, none⟩ [1] 1 (Mo.lit1 w1 _ 1 (by decide)) HN.out (by decide)).mono ?_; rintro _ w' ⟨rfl, hC, hX⟩)
  go_returns
  exact ⟨rfl, hC, HX.out.trans (Mo.exc_al _ hX)⟩
theorem pc_jump (B : Nat) (s : Mo.St) (k : Ex.Sg) (r : Uo.Re) (w : World) (hB : Mo.Ch w B s k r) (hF : Uo.Flat w) (hok : Mo.ok s = true) (hd : 1 ≤ k.dir ∧ k.dir ≤ 8) (hz : 1 ≤ k.size ∧ k.size ≤ 16) : Calls Tryz.prog 109 #[.pointer (some ⟨B, 0, none⟩)] w fun e w' => e = .returned (.tuple #[]) ∧ Mo.Ch w' B (Mo.put (Mo.put (Mo.travel s k.dir k.size) 0 0 0) 1 0 0) k r ∧ Kit.Exc (fun j => j = B) w w' := by
 have HT := qh (pc_travel B s k r w hB hF hok hd hz)
 obtain ⟨S, hS⟩ : ∃ S, Mo.travel s k.dir k.size = S := ⟨_, rfl⟩
 rw [hS] at HT ⊢
 clear hB hF hok hd hz hS
 go_enter Tryz.func109, Tryz.ntmps109
 go_upto_region 1 with (with_reducible refine HT.out.mono ?_; rintro _ w1 ⟨rfl, hC, hX⟩)
 have HN := qh (Nat.ne_of_gt hC.lt)
 have HC := qh hC
 have HX := qh hX
 clear hC hX
 go_wp2_with (refine (pc_rest B S k r (w1.alloc _) (HC.out.alloc _) ⟨w1.heap.size, 0, none⟩ [0, 1] 2 (Mo.lit2 w1 _ 0 1 (by decide) (by decide)) HN.out (by decide)).mono ?_; rintro _ w' ⟨rfl, hC, hX⟩)
 go_returns
 exact ⟨rfl, hC, HX.out.trans (Mo.exc_al _ hX)⟩
theorem pc_do (B : Nat) (s : Mo.St) (k : Ex.Sg) (r : Uo.Re) (w : World) (hk : Mo.Fit k) (hB : Mo.Ch w B s k r) (hF : Uo.Flat w) (hok : Mo.ok s = true) : Calls Tryz.prog (Mo.fnK k.kind) #[.pointer (some ⟨B, 0, none⟩)] w fun e w' => e = .returned (.tuple #[]) ∧ Mo.Ch w' B (Mo.act1 s k r) k r ∧ Kit.Exc (fun j => j = B) w w' := by
 have c9 : k.kind = 1 ∨ k.kind = 2 ∨ k.kind = 3 ∨ k.kind = 4 ∨ k.kind = 5 ∨ k.kind = 6 ∨ k.kind = 7 ∨ k.kind = 8 ∨ k.kind = 9 := by have := hk.kind; omega
 have h1 := hk.side
 have h2 := hk.dir
 have h4 := hk.size
 unfold Mo.act1 Mo.fnK
 rcases c9 with e | e | e | e | e | e | e | e | e
 all_goals
  simp [e] at h1 h2 h4
  simp only [e, if_true, if_false, Int.reduceEq]
 ·exact pc_step B s k r w hB hF hok h2 h4 h1
 ·exact pc_jump B s k r w hB hF hok h2 h4
 ·exact pc_leg B s k r w hB h1
 ·exact pc_arm B s k r w hB h1
 ·exact pc_trunk B s k r w hB
 ·exact pc_turn B s k r w hB (Mo.ok_bd hok).2.2 h4
 ·exact pc_lift B s k r w hB
 ·exact pc_ride B s k r w hB
 ·exact pc_free B s k r w hB h1
end Go.Proofs.YtedolbjgdedoaaaGreatDoor

namespace Go.Proofs.YtedolbjgdedoaaaGreatDoor
open Go.RowKit Go.Shelf
namespace Mo
def near (s : St) : Bool := decide (-536870912 ≤ s.x) && decide (s.x ≤ 536870912) && decide (-536870912 ≤ s.y) && decide (s.y ≤ 536870912)
end Mo
theorem lw_q (n d : Int) (w : World) : Calls Tryz.prog 66 #[.int .i64 n, .int .i64 d] w fun e w' => e = .returned (.agg #[.int .i64 n, .int .i64 d]) ∧ Below w.heap.size w w' := by
 go_enter Tryz.func66, Tryz.ntmps66
 go_wp2_with fail
 (refine bodyPost_ret (by simp [results, Tryz.results66, go_sem, Kit.cell_set]; try rfl) rfl ?_)
 exact ⟨rfl, by exact Kit.gr⟩
end Go.Proofs.YtedolbjgdedoaaaGreatDoor
