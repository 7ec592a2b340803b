/- Walks: package identity: compare. -/
import Derived.Test.YtdaedjmkolcliaaIdL
import Derived.Laws.EntriesVeiled
namespace Go.Proofs.Ytdaedjmkolcliaa
set_option linter.unusedVariables false
set_option linter.unusedSimpArgs false
open Go.RowKit Go.Shelf

namespace Id
/-- A sign in a block of its own. -/
def Bx (W : World) (B : Nat) (s : Sg) : Prop := B < W.heap.size ∧ ∀ j, j < 14 → W.cell? ⟨B, j, none⟩ = some (.int .i64 (sgF s j))
theorem Bx.kept {W W' : World} {B : Nat} {s : Sg} (h : Bx W B s) {n : Nat} (hb : Below n W W') (hn : W.heap.size ≤ n) : Bx W' B s :=
  ⟨Nat.lt_of_lt_of_le h.1 hb.size, fun j hj => (hb.cell (p := ⟨B, j, none⟩) (Nat.lt_of_lt_of_le h.1 hn)).trans (h.2 j hj)⟩
theorem Bx.new (W : World) {B : Nat} (hB : B = W.heap.size) (s : Sg) (t : TypeId) : Bx (W.alloc (.cells #[.int .i64 s.id, .int .i64 s.role, .int .i64 s.bar, .int .i64 s.mark, .int .i64 s.kind, .int .i64 s.side, .int .i64 s.dir, .int .i64 s.level, .int .i64 s.size, .int .i64 s.wth, .int .i64 s.fn, .int .i64 s.fd, .int .i64 s.tn, .int .i64 s.td] t)) B s := by
  subst hB
  refine ⟨by simp, fun j hj => ?_⟩
  have h1 := World.alloc_heap_new W (.cells #[.int .i64 s.id, .int .i64 s.role, .int .i64 s.bar, .int .i64 s.mark, .int .i64 s.kind, .int .i64 s.side, .int .i64 s.dir, .int .i64 s.level, .int .i64 s.size, .int .i64 s.wth, .int .i64 s.fn, .int .i64 s.fd, .int .i64 s.tn, .int .i64 s.td] t)
  simp only [World.cell?, h1]
  rcases j with _ | _ | _ | _ | _ | _ | _ | _ | _ | _ | _ | _ | _ | _ | j <;> first | rfl | omega
/-- Where compare's functions lie. -/
def By (W : World) (B A C : Nat) : Prop := B < W.heap.size ∧ W.cell? ⟨B, 0, none⟩ = some (.func (.func 57) #[] #[.pointer (some ⟨A, 0, none⟩), .pointer (some ⟨C, 0, none⟩)]) ∧ W.cell? ⟨B, 1, none⟩ = some (.func (.func 58) #[] #[.pointer (some ⟨A, 0, none⟩), .pointer (some ⟨C, 0, none⟩)]) ∧ W.cell? ⟨B, 2, none⟩ = some (.func (.func 59) #[] #[.pointer (some ⟨A, 0, none⟩), .pointer (some ⟨C, 0, none⟩)])
def By1 (s t : Sg) (W : World) (A C : Nat) (f : Nat) (v : Int) : Prop := Calls Try.prog f #[.pointer (some ⟨A, 0, none⟩), .pointer (some ⟨C, 0, none⟩)] W fun e w' => e = .returned (.int .i64 v) ∧ Below W.heap.size W w'
end Id
theorem id_by1 (s t : Id.Sg) (W : World) (A C : Nat) (hs : Id.form s = true) (ht : Id.form t = true) (ha : Id.Bx W A s) (hc : Id.Bx W C t) : Id.By1 s t W A C 57 (s.role - t.role) := by
  unfold Id.By1
  have h1 := (Id.form_inC hs).role
  have h2 := (Id.form_inC ht).role
  have c1 : W.cell? ⟨A, 1, none⟩ = some (.int .i64 s.role) := ha.2 1 (by omega)
  have c2 : W.cell? ⟨C, 1, none⟩ = some (.int .i64 t.role) := hc.2 1 (by omega)
  have hA := ha.1
  have hC := hc.1
  clear hs ht ha hc
  go_enter Try.func57, Try.ntmps57
  go_wp2
  go_ret
  exact ⟨rfl, by (repeat' first | (with_reducible first | exact Below.refl _ _ | assumption | refine Kit.below_drewN ?_ _ | refine Below.drew ?_ | refine Below.alloc ?_ ?_ _ | refine Below.setCell ?_ ?_ _ | exact Nat.le_refl _) | omega | (simp; omega) | (simp; done) | (apply Below.size; assumption))⟩
theorem id_by2 (s t : Id.Sg) (W : World) (A C : Nat) (hs : Id.form s = true) (ht : Id.form t = true) (ha : Id.Bx W A s) (hc : Id.Bx W C t) : Id.By1 s t W A C 58 (s.bar - t.bar) := by
  unfold Id.By1
  have h1 := ((Id.form_iff s).1 hs).2.2.1
  have h2 := ((Id.form_iff t).1 ht).2.2.1
  have c1 : W.cell? ⟨A, 2, none⟩ = some (.int .i64 s.bar) := ha.2 2 (by omega)
  have c2 : W.cell? ⟨C, 2, none⟩ = some (.int .i64 t.bar) := hc.2 2 (by omega)
  have hA := ha.1
  have hC := hc.1
  clear hs ht ha hc
  go_enter Try.func58, Try.ntmps58
  go_wp2
  go_ret
  exact ⟨rfl, by (repeat' first | (with_reducible first | exact Below.refl _ _ | assumption | refine Kit.below_drewN ?_ _ | refine Below.drew ?_ | refine Below.alloc ?_ ?_ _ | refine Below.setCell ?_ ?_ _ | exact Nat.le_refl _) | omega | (simp; omega) | (simp; done) | (apply Below.size; assumption))⟩
theorem id_by3 (s t : Id.Sg) (W : World) (A C : Nat) (hs : Id.form s = true) (ht : Id.form t = true) (ha : Id.Bx W A s) (hc : Id.Bx W C t) : Id.By1 s t W A C 59 (Ra.sg (s.fn * t.fd) (t.fn * s.fd)) := by
  unfold Id.By1
  have HC := Lib.hid (fun W => (ra_cmp_3 s.fn s.fd t.fn t.fd W (Id.form_fin hs).1 (Id.form_fin ht).1 : Ra.Cmp s.fn s.fd t.fn t.fd (Ra.sg (s.fn * t.fd) (t.fn * s.fd)) 0 W))
  have c1 : W.cell? ⟨A, 10, none⟩ = some (.int .i64 s.fn) := ha.2 10 (by omega)
  have c2 : W.cell? ⟨A, 11, none⟩ = some (.int .i64 s.fd) := ha.2 11 (by omega)
  have c3 : W.cell? ⟨C, 10, none⟩ = some (.int .i64 t.fn) := hc.2 10 (by omega)
  have c4 : W.cell? ⟨C, 11, none⟩ = some (.int .i64 t.fd) := hc.2 11 (by omega)
  clear hs ht ha hc
  go_enter Try.func59, Try.ntmps59
  go_wp2_with fail
  refine (HC.out _ : Ra.Cmp _ _ _ _ _ _ _).mono ?_
  rintro _ w1 ⟨rfl, hb⟩
  have HB := Lib.hid hb; clear hb
  go_wp2
  go_ret
  exact ⟨rfl, HB.out⟩
namespace Id
/-- The k-th number by which signs are compared. -/
def ct (s t : Sg) : Nat → Int
  | 0 => s.role - t.role
  | 1 => s.bar - t.bar
  | _ => Ra.sg (s.fn * t.fd) (t.fn * s.fd)
theorem cfS_0 {s t : Sg} (h : (ct s t 0 != 0) = true) : cfS s t = ct s t 0 := by
  simp only [ct] at *; simp only [cfS, h, if_true]
theorem cfS_1 {s t : Sg} (h0 : (ct s t 0 != 0) = false) (h : (ct s t 1 != 0) = true) : cfS s t = ct s t 1 := by
  simp only [ct] at *; simp [cfS, h, h0]
theorem cfS_2 {s t : Sg} (h0 : (ct s t 0 != 0) = false) (h1 : (ct s t 1 != 0) = false) (h : (ct s t 2 != 0) = true) : cfS s t = ct s t 2 := by
  simp only [ct] at *; simp [cfS, h, h0, h1]
theorem cfS_3 {s t : Sg} (h0 : (ct s t 0 != 0) = false) (h1 : (ct s t 1 != 0) = false) (h : (ct s t 2 != 0) = false) : cfS s t = s.id - t.id := by
  simp only [ct] at *; simp [cfS, h, h0, h1]
end Id
set_option maxRecDepth 100000 in
set_option maxHeartbeats 1000000 in
theorem id_compare (s t : Id.Sg) (w : World) (hs : Id.form s = true) (ht : Id.form t = true) : Calls Try.prog 32 #[Id.sgV s, Id.sgV t] w fun e w' => e = .returned (.int .i64 (Id.cfS s t)) ∧ Below w.heap.size w w' := by
  have b1 := ((Id.form_iff s).1 hs).1
  have b2 := ((Id.form_iff t).1 ht).1
  have H1 := Lib.hid (fun W ha hc => id_by1 s t W w.heap.size (w.heap.size + 1) hs ht ha hc)
  have H2 := Lib.hid (fun W ha hc => id_by2 s t W w.heap.size (w.heap.size + 1) hs ht ha hc)
  have H3 := Lib.hid (fun W ha hc => id_by3 s t W w.heap.size (w.heap.size + 1) hs ht ha hc)
  unfold Id.By1 at H1 H2 H3
  clear hs ht
  go_enter Try.func32, Try.ntmps32
  go_wp2_with fail
  refine Kit.wp_name ?_
  intro W1 hW1
  have HA := Lib.hid (show Id.Bx W1 w.heap.size s by
    rw [hW1]
    exact (Id.Bx.new w rfl s _).kept (((Below.refl _ _).alloc (Nat.le_refl _) _).alloc (by simp) _) (Nat.le_refl _))
  have HC := Lib.hid (show Id.Bx W1 (w.heap.size + 1) t by
    rw [hW1]
    exact (Id.Bx.new _ (by simp) t _).kept ((Below.refl _ _).alloc (Nat.le_refl _) _) (Nat.le_refl _))
  have HB := Lib.hid (show Id.By W1 (w.heap.size + 1 + 1) w.heap.size (w.heap.size + 1) by
    rw [hW1]
    exact ⟨by simp, by simp [go_sem], by simp [go_sem], by simp [go_sem]⟩)
  have HL := Lib.hid (show Below w.heap.size w W1 by rw [hW1]; (repeat' first | (with_reducible first | exact Below.refl _ _ | assumption | refine Kit.below_drewN ?_ _ | refine Below.drew ?_ | refine Below.alloc ?_ ?_ _ | refine Below.setCell ?_ ?_ _ | exact Nat.le_refl _) | omega | (simp; omega) | (simp; done) | (apply Below.size; assumption)))
  clear hW1
  go_loopw [13] (fun v13 wr => ∃ k : Nat, v13 = .int .i64 k ∧ k ≤ 3 ∧ Hid (∀ i, i < k → (Id.ct s t i != 0) = false) ∧ Hid (Below W1.heap.size W1 wr))
    (fun v13 _ => 3 - (intOf v13).toNat)
  case atStart => exact ⟨0, rfl, by omega, (fun i hi => by omega), Below.refl _ _⟩
  case round =>
    obtain ⟨k, rfl, hk, HP, HW⟩ := hrel
    have HA2 := Lib.hid (HA.out.kept HW.out (Nat.le_refl _))
    have HC2 := Lib.hid (HC.out.kept HW.out (Nat.le_refl _))
    obtain rfl | rfl | rfl | rfl : k = 0 ∨ k = 1 ∨ k = 2 ∨ k = 3 := by omega
    · have fk : wr.cell? ⟨w.heap.size + 1 + 1, 0, none⟩ = some (.func (.func 57) #[] #[.pointer (some ⟨w.heap.size, 0, none⟩), .pointer (some ⟨w.heap.size + 1, 0, none⟩)]) := (HW.out.cell (by exact HB.out.1)).trans HB.out.2.1
      go_wp2_with fail
      refine (H1.out _ HA2.out HC2.out).mono ?_
      rintro _ w2 ⟨rfl, hb⟩
      have HZ := Lib.hid (HW.out.trans (hb.mono HW.out.size))
      clear fk hb HA2 HC2
      rcases d : (Id.ct s t 0 != 0) with _ | _
      · have d' : (s.role - t.role != 0) = false := d
        go_wp2
        go_roundw
        case rel => exact ⟨1, by go_num, by omega, (fun i hi => by
          have : i = 0 := by omega
          rcases this with rfl
          · exact d), HZ.out⟩
        case measure => simp [intOf]
      · have d' : (s.role - t.role != 0) = true := d
        go_wp2
        go_ret
        exact ⟨by rw [Id.cfS_0  d]; rfl, HL.out.trans (HZ.out.mono HL.out.size)⟩
    · have fk : wr.cell? ⟨w.heap.size + 1 + 1, 1, none⟩ = some (.func (.func 58) #[] #[.pointer (some ⟨w.heap.size, 0, none⟩), .pointer (some ⟨w.heap.size + 1, 0, none⟩)]) := (HW.out.cell (by exact HB.out.1)).trans HB.out.2.2.1
      go_wp2_with fail
      refine (H2.out _ HA2.out HC2.out).mono ?_
      rintro _ w2 ⟨rfl, hb⟩
      have HZ := Lib.hid (HW.out.trans (hb.mono HW.out.size))
      clear fk hb HA2 HC2
      rcases d : (Id.ct s t 1 != 0) with _ | _
      · have d' : (s.bar - t.bar != 0) = false := d
        go_wp2
        go_roundw
        case rel => exact ⟨2, by go_num, by omega, (fun i hi => by
          have : i = 0 ∨ i = 1 := by omega
          rcases this with rfl | rfl
          · exact HP.out 0 (by omega)
          · exact d), HZ.out⟩
        case measure => simp [intOf]
      · have d' : (s.bar - t.bar != 0) = true := d
        go_wp2
        go_ret
        exact ⟨by rw [Id.cfS_1 (HP.out 0 (by omega)) d]; rfl, HL.out.trans (HZ.out.mono HL.out.size)⟩
    · have fk : wr.cell? ⟨w.heap.size + 1 + 1, 2, none⟩ = some (.func (.func 59) #[] #[.pointer (some ⟨w.heap.size, 0, none⟩), .pointer (some ⟨w.heap.size + 1, 0, none⟩)]) := (HW.out.cell (by exact HB.out.1)).trans HB.out.2.2.2
      go_wp2_with fail
      refine (H3.out _ HA2.out HC2.out).mono ?_
      rintro _ w2 ⟨rfl, hb⟩
      have HZ := Lib.hid (HW.out.trans (hb.mono HW.out.size))
      clear fk hb HA2 HC2
      rcases d : (Id.ct s t 2 != 0) with _ | _
      · have d' : (Ra.sg (s.fn * t.fd) (t.fn * s.fd) != 0) = false := d
        go_wp2
        go_roundw
        case rel => exact ⟨3, by go_num, by omega, (fun i hi => by
          have : i = 0 ∨ i = 1 ∨ i = 2 := by omega
          rcases this with rfl | rfl | rfl
          · exact HP.out 0 (by omega)
          · exact HP.out 1 (by omega)
          · exact d), HZ.out⟩
        case measure => simp [intOf]
      · have d' : (Ra.sg (s.fn * t.fd) (t.fn * s.fd) != 0) = true := d
        go_wp2
        go_ret
        exact ⟨by rw [Id.cfS_2 (HP.out 0 (by omega)) (HP.out 1 (by omega)) d]; rfl, HL.out.trans (HZ.out.mono HL.out.size)⟩
    · have e0 : wr.cell? ⟨w.heap.size, 0, none⟩ = some (.int .i64 s.id) := HA2.out.2 0 (by omega)
      have e1 : wr.cell? ⟨w.heap.size + 1, 0, none⟩ = some (.int .i64 t.id) := HC2.out.2 0 (by omega)
      go_wp2
      go_ret
      exact ⟨by rw [Id.cfS_3 (HP.out 0 (by omega)) (HP.out 1 (by omega)) (HP.out 2 (by omega))]; rfl, HL.out.trans (HW.out.mono HL.out.size)⟩
end Go.Proofs.Ytdaedjmkolcliaa
