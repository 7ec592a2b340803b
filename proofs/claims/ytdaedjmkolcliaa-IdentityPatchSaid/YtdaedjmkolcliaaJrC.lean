/- Walks: the reference of layer 41: within, Code, Sign, IsCode, all, Beside (printed by mk/mkJrC.py). -/
import Derived.Test.YtdaedjmkolcliaaJrA
import Derived.Test.YtdaedjmkolcliaaIdL
import Derived.Test.YtdaedjmkolcliaaIdF
import Derived.Test.YtdaedjmkolcliaaIdG
namespace Go.Proofs.Ytdaedjmkolcliaa
set_option linter.unusedVariables false
set_option linter.unusedSimpArgs false
open Go.RowKit Go.Shelf

theorem ry_within (n lo hi : Int) (w : World) : Calls Try.prog 64 #[.int .i64 n, .int .i64 lo, .int .i64 hi] w fun e w' => e = .returned (.bool (Tp.inb n lo hi)) ∧ w' = w := by
  unfold Tp.inb
  rcases c1 : decide (lo ≤ n) with _ | _ <;> rcases c2 : decide (n ≤ hi) with _ | _ <;>
  · go_enter Try.func64, Try.ntmps64
    go_wp2
    go_ret
    exact ⟨rfl, rfl⟩
set_option maxRecDepth 100000 in
set_option maxHeartbeats 4000000 in
theorem ry_code (s : Id.Sg) (w : World) (h : Id.InC s) : Calls Try.prog 36 #[Id.sgV s] w fun e w' => e = .returned (.tuple #[.int .i64 (Id.code s), .int .i64 0]) ∧ Below w.heap.size w w' := by
  have h0 := h.role
  have W0 := Lib.hid (fun W => (show Tp.inb s.role 0 63 = true by rw [Tp.inb_iff]; exact h0) ▸ ry_within s.role 0 63 W)
  have h1 := h.kind
  have W1 := Lib.hid (fun W => (show Tp.inb s.kind 1 9 = true by rw [Tp.inb_iff]; exact h1) ▸ ry_within s.kind 1 9 W)
  have h2 := h.side
  have W2 := Lib.hid (fun W => (show Tp.inb s.side 0 2 = true by rw [Tp.inb_iff]; exact h2) ▸ ry_within s.side 0 2 W)
  have h3 := h.dir
  have W3 := Lib.hid (fun W => (show Tp.inb s.dir 0 8 = true by rw [Tp.inb_iff]; exact h3) ▸ ry_within s.dir 0 8 W)
  have h4 := h.level
  have W4 := Lib.hid (fun W => (show Tp.inb s.level 0 3 = true by rw [Tp.inb_iff]; exact h4) ▸ ry_within s.level 0 3 W)
  have h5 := h.size
  have W5 := Lib.hid (fun W => (show Tp.inb s.size 0 255 = true by rw [Tp.inb_iff]; exact h5) ▸ ry_within s.size 0 255 W)
  have h6 := h.wth
  have W6 := Lib.hid (fun W => (show Tp.inb s.wth 0 64 = true by rw [Tp.inb_iff]; exact h6) ▸ ry_within s.wth 0 64 W)
  have w1 : IntKind.i64.wrap (s.role * 16) = s.role * 16 := by rw [IntKind.wrap_i64]; omega
  have w2 : IntKind.i64.wrap (s.role * 16 + s.kind) = s.role * 16 + s.kind := by rw [IntKind.wrap_i64]; omega
  have w3 : IntKind.i64.wrap ((s.role * 16 + s.kind) * 4) = (s.role * 16 + s.kind) * 4 := by rw [IntKind.wrap_i64]; omega
  have w4 : IntKind.i64.wrap ((s.role * 16 + s.kind) * 4 + s.side) = (s.role * 16 + s.kind) * 4 + s.side := by rw [IntKind.wrap_i64]; omega
  have w5 : IntKind.i64.wrap (((s.role * 16 + s.kind) * 4 + s.side) * 16) = ((s.role * 16 + s.kind) * 4 + s.side) * 16 := by rw [IntKind.wrap_i64]; omega
  have w6 : IntKind.i64.wrap (((s.role * 16 + s.kind) * 4 + s.side) * 16 + s.dir) = ((s.role * 16 + s.kind) * 4 + s.side) * 16 + s.dir := by rw [IntKind.wrap_i64]; omega
  have w7 : IntKind.i64.wrap ((((s.role * 16 + s.kind) * 4 + s.side) * 16 + s.dir) * 4) = (((s.role * 16 + s.kind) * 4 + s.side) * 16 + s.dir) * 4 := by rw [IntKind.wrap_i64]; omega
  have w8 : IntKind.i64.wrap ((((s.role * 16 + s.kind) * 4 + s.side) * 16 + s.dir) * 4 + s.level) = (((s.role * 16 + s.kind) * 4 + s.side) * 16 + s.dir) * 4 + s.level := by rw [IntKind.wrap_i64]; omega
  have w9 : IntKind.i64.wrap (((((s.role * 16 + s.kind) * 4 + s.side) * 16 + s.dir) * 4 + s.level) * 256) = ((((s.role * 16 + s.kind) * 4 + s.side) * 16 + s.dir) * 4 + s.level) * 256 := by rw [IntKind.wrap_i64]; omega
  have w10 : IntKind.i64.wrap (((((s.role * 16 + s.kind) * 4 + s.side) * 16 + s.dir) * 4 + s.level) * 256 + s.size) = ((((s.role * 16 + s.kind) * 4 + s.side) * 16 + s.dir) * 4 + s.level) * 256 + s.size := by rw [IntKind.wrap_i64]; omega
  have w11 : IntKind.i64.wrap ((((((s.role * 16 + s.kind) * 4 + s.side) * 16 + s.dir) * 4 + s.level) * 256 + s.size) * 128) = (((((s.role * 16 + s.kind) * 4 + s.side) * 16 + s.dir) * 4 + s.level) * 256 + s.size) * 128 := by rw [IntKind.wrap_i64]; omega
  have w12 : IntKind.i64.wrap ((((((s.role * 16 + s.kind) * 4 + s.side) * 16 + s.dir) * 4 + s.level) * 256 + s.size) * 128 + s.wth) = (((((s.role * 16 + s.kind) * 4 + s.side) * 16 + s.dir) * 4 + s.level) * 256 + s.size) * 128 + s.wth := by rw [IntKind.wrap_i64]; omega
  have HC := Lib.hid (show Id.code s = ((((((s.role * 16 + s.kind) * 4 + s.side) * 16 + s.dir) * 4 + s.level) * 256 + s.size) * 128 + s.wth) from rfl)
  clear h h0 h1 h2 h3 h4 h5 h6
  go_enter Try.func36, Try.ntmps36
  go_wp2_with fail
  refine (W0.out _).mono ?_
  rintro _ w' ⟨rfl, rfl⟩
  go_wp2_with fail
  refine (W1.out _).mono ?_
  rintro _ w' ⟨rfl, rfl⟩
  go_wp2_with fail
  refine (W2.out _).mono ?_
  rintro _ w' ⟨rfl, rfl⟩
  go_wp2_with fail
  refine (W3.out _).mono ?_
  rintro _ w' ⟨rfl, rfl⟩
  go_wp2_with fail
  refine (W4.out _).mono ?_
  rintro _ w' ⟨rfl, rfl⟩
  go_wp2_with fail
  refine (W5.out _).mono ?_
  rintro _ w' ⟨rfl, rfl⟩
  go_wp2_with fail
  refine (W6.out _).mono ?_
  rintro _ w' ⟨rfl, rfl⟩
  go_wp2
  go_ret2
  exact ⟨by rw [HC.out]; simp only [w1, w2, w3, w4, w5, w6, w7, w8, w9, w10, w11, w12]; rfl, by (repeat' first | (with_reducible first | exact Below.refl _ _ | assumption | refine Kit.below_drewN ?_ _ | refine Below.drew ?_ | refine Below.alloc ?_ ?_ _ | refine Below.setCell ?_ ?_ _ | exact Nat.le_refl _) | omega | (simp; omega) | (simp; done) | (apply Below.size; assumption))⟩
set_option maxRecDepth 100000 in
set_option maxHeartbeats 2000000 in
theorem ry_sign (s : Id.Sg) (w : World) (h : Id.InC s) : Calls Try.prog 115 #[.int .i64 (Id.code s)] w fun e w' => (∃ s' : Id.Sg, e = .returned (.tuple #[Id.sgV s', .int .i64 0])) ∧ Below w.heap.size w w' := by
  obtain ⟨c, hc⟩ : ∃ c, c = Id.code s := ⟨_, rfl⟩
  have hb := Id.code_bd h
  have HC := Lib.hid (fun W => ry_code ⟨0, s.role, 0, 0, s.kind, s.side, s.dir, s.level, s.size, s.wth, 0, 0, 0, 0⟩ W ⟨h.role, h.kind, h.side, h.dir, h.level, h.size, h.wth⟩)
  obtain ⟨p1, p2, p3, p4, p5, p6, p7⟩ := Id.code_parts h
  rw [← hc] at hb p1 p2 p3 p4 p5 p6 p7
  rw [← hc]
  clear h hc
  obtain ⟨hb0, hb1⟩ := hb
  have j1 : decide (c < 0) = false := by simp; omega
  have j2 : decide (8589934592 ≤ c) = false := by simp; omega
  have q3 : c / 32768 % 4 = s.level := by omega
  have q4 : c / 131072 % 16 = s.dir := by omega
  have q5 : c / 2097152 % 4 = s.side := by omega
  have q6 : c / 8388608 % 16 = s.kind := by omega
  have q7 : c / 134217728 = s.role := by omega
  clear p3 p4 p5 p6 p7
  go_enter Try.func115, Try.ntmps115
  go_wp2_with fail
  refine (HC.out _).mono ?_
  rintro _ w1 ⟨rfl, hb⟩
  have E0 := Lib.hid (show Below w.heap.size w w1 from (((Below.refl _ _).alloc (Nat.le_refl _) _).alloc (by simp) _).trans (hb.mono (by simp; omega)))
  have o0 : w1.heap[w.heap.size]? = some (.cells #[.int .i64 0, .int .i64 0, .int .i64 0, .int .i64 0, .int .i64 0, .int .i64 0, .int .i64 0, .int .i64 0, .int .i64 0, .int .i64 0, .int .i64 0, .int .i64 0, .int .i64 0, .int .i64 0] 49 (0, 0)) := (hb.block w.heap.size (by simp; omega)).trans (Kit.Exc.heap ((Kit.Exc.refl (fun _ => False) _).alloc _) (World.alloc_heap_new w _) (fun h => h))
  have o1 : w1.heap[w.heap.size + 1]? = some (.cells #[.int .i64 0, .int .i64 s.role, .int .i64 0, .int .i64 0, .int .i64 s.kind, .int .i64 s.side, .int .i64 s.dir, .int .i64 s.level, .int .i64 s.size, .int .i64 s.wth, .int .i64 0, .int .i64 0, .int .i64 0, .int .i64 0] 49 (0, 0)) := (hb.block (w.heap.size + 1) (by simp)).trans (by have := World.alloc_heap_new (w.alloc (.cells #[.int .i64 0, .int .i64 0, .int .i64 0, .int .i64 0, .int .i64 0, .int .i64 0, .int .i64 0, .int .i64 0, .int .i64 0, .int .i64 0, .int .i64 0, .int .i64 0, .int .i64 0, .int .i64 0] 49)) (.cells #[.int .i64 0, .int .i64 s.role, .int .i64 0, .int .i64 0, .int .i64 s.kind, .int .i64 s.side, .int .i64 s.dir, .int .i64 s.level, .int .i64 s.size, .int .i64 s.wth, .int .i64 0, .int .i64 0, .int .i64 0, .int .i64 0] 49); simpa using this)
  have f0 : w1.cell? ⟨w.heap.size + 1, 0, none⟩ = some (.int .i64 0) := by simp [World.cell?, o1]
  have f1 : w1.cell? ⟨w.heap.size + 1, 1, none⟩ = some (.int .i64 s.role) := by simp [World.cell?, o1]
  have f2 : w1.cell? ⟨w.heap.size + 1, 2, none⟩ = some (.int .i64 0) := by simp [World.cell?, o1]
  have f3 : w1.cell? ⟨w.heap.size + 1, 3, none⟩ = some (.int .i64 0) := by simp [World.cell?, o1]
  have f4 : w1.cell? ⟨w.heap.size + 1, 4, none⟩ = some (.int .i64 s.kind) := by simp [World.cell?, o1]
  have f5 : w1.cell? ⟨w.heap.size + 1, 5, none⟩ = some (.int .i64 s.side) := by simp [World.cell?, o1]
  have f6 : w1.cell? ⟨w.heap.size + 1, 6, none⟩ = some (.int .i64 s.dir) := by simp [World.cell?, o1]
  have f7 : w1.cell? ⟨w.heap.size + 1, 7, none⟩ = some (.int .i64 s.level) := by simp [World.cell?, o1]
  have f8 : w1.cell? ⟨w.heap.size + 1, 8, none⟩ = some (.int .i64 s.size) := by simp [World.cell?, o1]
  have f9 : w1.cell? ⟨w.heap.size + 1, 9, none⟩ = some (.int .i64 s.wth) := by simp [World.cell?, o1]
  have f10 : w1.cell? ⟨w.heap.size + 1, 10, none⟩ = some (.int .i64 0) := by simp [World.cell?, o1]
  have f11 : w1.cell? ⟨w.heap.size + 1, 11, none⟩ = some (.int .i64 0) := by simp [World.cell?, o1]
  have f12 : w1.cell? ⟨w.heap.size + 1, 12, none⟩ = some (.int .i64 0) := by simp [World.cell?, o1]
  have f13 : w1.cell? ⟨w.heap.size + 1, 13, none⟩ = some (.int .i64 0) := by simp [World.cell?, o1]
  have z0 : w1.frozen? ⟨w.heap.size, 0, none⟩ = false := by simp [World.frozen?, o0]
  have z1 : w1.frozen? ⟨w.heap.size, 1, none⟩ = false := by simp [World.frozen?, o0]
  have z2 : w1.frozen? ⟨w.heap.size, 2, none⟩ = false := by simp [World.frozen?, o0]
  have z3 : w1.frozen? ⟨w.heap.size, 3, none⟩ = false := by simp [World.frozen?, o0]
  have z4 : w1.frozen? ⟨w.heap.size, 4, none⟩ = false := by simp [World.frozen?, o0]
  have z5 : w1.frozen? ⟨w.heap.size, 5, none⟩ = false := by simp [World.frozen?, o0]
  have z6 : w1.frozen? ⟨w.heap.size, 6, none⟩ = false := by simp [World.frozen?, o0]
  have z7 : w1.frozen? ⟨w.heap.size, 7, none⟩ = false := by simp [World.frozen?, o0]
  have z8 : w1.frozen? ⟨w.heap.size, 8, none⟩ = false := by simp [World.frozen?, o0]
  have z9 : w1.frozen? ⟨w.heap.size, 9, none⟩ = false := by simp [World.frozen?, o0]
  have z10 : w1.frozen? ⟨w.heap.size, 10, none⟩ = false := by simp [World.frozen?, o0]
  have z11 : w1.frozen? ⟨w.heap.size, 11, none⟩ = false := by simp [World.frozen?, o0]
  have z12 : w1.frozen? ⟨w.heap.size, 12, none⟩ = false := by simp [World.frozen?, o0]
  have z13 : w1.frozen? ⟨w.heap.size, 13, none⟩ = false := by simp [World.frozen?, o0]
  have y0 : w1.cell? ⟨w.heap.size, 0, none⟩ = some (.int .i64 0) := by simp [World.cell?, o0]
  have y1 : w1.cell? ⟨w.heap.size, 1, none⟩ = some (.int .i64 0) := by simp [World.cell?, o0]
  have y2 : w1.cell? ⟨w.heap.size, 2, none⟩ = some (.int .i64 0) := by simp [World.cell?, o0]
  have y3 : w1.cell? ⟨w.heap.size, 3, none⟩ = some (.int .i64 0) := by simp [World.cell?, o0]
  have y4 : w1.cell? ⟨w.heap.size, 4, none⟩ = some (.int .i64 0) := by simp [World.cell?, o0]
  have y5 : w1.cell? ⟨w.heap.size, 5, none⟩ = some (.int .i64 0) := by simp [World.cell?, o0]
  have y6 : w1.cell? ⟨w.heap.size, 6, none⟩ = some (.int .i64 0) := by simp [World.cell?, o0]
  have y7 : w1.cell? ⟨w.heap.size, 7, none⟩ = some (.int .i64 0) := by simp [World.cell?, o0]
  have y8 : w1.cell? ⟨w.heap.size, 8, none⟩ = some (.int .i64 0) := by simp [World.cell?, o0]
  have y9 : w1.cell? ⟨w.heap.size, 9, none⟩ = some (.int .i64 0) := by simp [World.cell?, o0]
  have y10 : w1.cell? ⟨w.heap.size, 10, none⟩ = some (.int .i64 0) := by simp [World.cell?, o0]
  have y11 : w1.cell? ⟨w.heap.size, 11, none⟩ = some (.int .i64 0) := by simp [World.cell?, o0]
  have y12 : w1.cell? ⟨w.heap.size, 12, none⟩ = some (.int .i64 0) := by simp [World.cell?, o0]
  have y13 : w1.cell? ⟨w.heap.size, 13, none⟩ = some (.int .i64 0) := by simp [World.cell?, o0]
  have hz := hb.size
  clear hb o0 o1 HC
  go_wp2
  (refine bodyPost_ret (by simp [results, Try.results115, go_sem, Kit.cell_set, y0, y1, y2, y3, y4, y5, y6, y7, y8, y9, y10, y11, y12, y13]; try rfl) rfl ?_)
  exact ⟨⟨⟨0, s.role, 0, 0, s.kind, s.side, s.dir, s.level, s.size, s.wth, 0, 0, 0, 0⟩, rfl⟩, by have hh := E0.out; (repeat' first | (with_reducible first | exact Below.refl _ _ | assumption | refine Kit.below_drewN ?_ _ | refine Below.drew ?_ | refine Below.alloc ?_ ?_ _ | refine Below.setCell ?_ ?_ _ | exact Nat.le_refl _) | omega | (simp; omega) | (simp; done) | (apply Below.size; assumption))⟩
set_option maxRecDepth 100000 in
set_option maxHeartbeats 2000000 in
theorem ry_iscode (c : Int) (w : World) (h : ∃ s, Id.InC s ∧ c = Id.code s) : Calls Try.prog 107 #[.int .i64 c] w fun e w' => e = .returned (.bool true) ∧ Below w.heap.size w w' := by
  obtain ⟨s, hs, rfl⟩ := h
  have HC := Lib.hid (fun W => ry_sign s W hs)
  clear hs
  generalize Id.code s = c at HC ⊢
  go_enter Try.func107, Try.ntmps107
  go_wp2_with fail
  refine (HC.out _).mono ?_
  rintro _ w1 ⟨⟨s', rfl⟩, hb⟩
  go_wp2
  go_ret
  exact ⟨rfl, by have hh := hb; (repeat' first | (with_reducible first | exact Below.refl _ _ | assumption | refine Kit.below_drewN ?_ _ | refine Below.drew ?_ | refine Below.alloc ?_ ?_ _ | refine Below.setCell ?_ ?_ _ | exact Nat.le_refl _) | omega | (simp; omega) | (simp; done) | (apply Below.size; assumption))⟩
set_option maxHeartbeats 2000000 in
theorem ry_all (a : Option Addr) (l : List Int) (c : Nat) (w : World) (hS : Tp.Sl w a l.length 1 (Id.ic l)) (hl : l.length ≤ 64) (hC : Id.Cod l) : Calls Try.prog 87 #[.slice a l.length c] w fun e w' => e = .returned (.bool true) ∧ Below w.heap.size w w' := by
  have HS := Lib.hid hS
  have HC := Lib.hid (fun (k : Nat) (hk : k < l.length) W => ry_iscode (l.getD k 0) W (hC _ (Id.getD_mem hk)))
  clear hS hC
  go_enter Try.func87, Try.ntmps87
  go_wp2
  go_loopw [3] (fun v3 wr => ∃ k : Nat, v3 = .int .i64 k ∧ k ≤ l.length ∧ Hid (Below w.heap.size w wr))
    (fun v3 _ => l.length - (intOf v3).toNat)
  case atStart => exact ⟨0, rfl, Nat.zero_le _, Below.refl _ _⟩
  case round =>
    obtain ⟨k, rfl, hk, HB⟩ := hrel
    by_cases hlt : k < l.length
    · obtain ⟨ad, rfl, had, _⟩ := HS.out.at hlt
      have e0 : wr.cell? (ad.add k) = some (.int .i64 (l.getD k 0)) := by
        have h := (HS.out.kept HB.out (Nat.le_refl _)).head hlt (by omega)
        rw [Nat.mul_one] at h; exact h
      have HCK := Lib.hid (fun W => HC.out k hlt W)
      generalize l.getD k 0 = x at e0 HCK
      go_wp2_with fail
      refine (HCK.out _).mono ?_
      rintro _ w2 ⟨rfl, hb⟩
      have HB2 := Lib.hid (HB.out.trans (hb.mono HB.out.size))
      clear hb e0
      go_wp2_with fail
      go_roundw
      case rel => exact ⟨k + 1, by go_num, by omega, HB2.out⟩
      case measure => simp [intOf]; omega
    · obtain rfl : k = l.length := by omega
      go_wp2
      go_ret
      exact ⟨rfl, HB.out⟩
theorem ry_beside (x y : Int) (w : World) : Calls Try.prog 89 #[.int .i64 x, .int .i64 y] w fun e w' => e = .returned (.int .i64 (Id.bes x y)) ∧ w' = w := by
  unfold Id.bes
  rcases c1 : (x == y) with _ | _
  · have e1 : (x != y) = true := by rw [bne, c1]; rfl
    rw [e1]
    rcases c2 : (x == 8589934592) with _ | _
    · have e2 : (x != 8589934592) = true := by rw [bne, c2]; rfl
      rw [e2]
      rcases c3 : (y == 8589934592) with _ | _
      · have e3 : (y != 8589934592) = true := by rw [bne, c3]; rfl
        rw [e3]
        go_enter Try.func89, Try.ntmps89
        go_wp2
        go_ret
        exact ⟨rfl, rfl⟩
      · have e3 : (y != 8589934592) = false := by rw [bne, c3]; rfl
        rw [e3]
        go_enter Try.func89, Try.ntmps89
        go_wp2
        go_ret
        exact ⟨rfl, rfl⟩
    · have e2 : (x != 8589934592) = false := by rw [bne, c2]; rfl
      rw [e2]
      go_enter Try.func89, Try.ntmps89
      go_wp2
      go_ret
      exact ⟨by simp, rfl⟩
  · have e1 : (x != y) = false := by rw [bne, c1]; rfl
    rw [e1]
    go_enter Try.func89, Try.ntmps89
    go_wp2
    go_ret
    exact ⟨by simp, rfl⟩
end Go.Proofs.Ytdaedjmkolcliaa
