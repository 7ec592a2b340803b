/- Walks: package collate: beside, pack, Code. -/
import Derived.Test.YtdaedjmkolcliaaIdq
import Derived.Laws.BitsLemmas
import Derived.Shelf.Abstract
import Derived.Test.YtdaedjmkolcliaaRa
import Derived.Deep.CutRange
namespace Go.Proofs.Ytdaedjmkolcliaa
set_option linter.unusedVariables false
set_option linter.unusedSimpArgs false
open Go.RowKit Go.Shelf

theorem co_beside (x y : Int) (w : World) : Calls Try.prog 53 #[.int .i64 x, .int .i64 y] w fun e w' => e = .returned (.int .i64 (Id.bes x y)) ∧ w' = w := by
  unfold Id.bes
  rcases c1 : (x != y) with _ | _
  · go_enter Try.func53, Try.ntmps53
    go_wp2
    go_ret
    exact ⟨rfl, rfl⟩
  rcases c2 : (x != 8589934592) with _ | _
  · go_enter Try.func53, Try.ntmps53
    go_wp2
    go_ret
    exact ⟨rfl, rfl⟩
  rcases c3 : (y != 8589934592) with _ | _ <;>
  · go_enter Try.func53, Try.ntmps53
    go_wp2
    go_ret
    exact ⟨rfl, rfl⟩
namespace Id
theorem wrap64 (j : Nat) (hj : j ≤ 62) : ∀ n : Int, 0 ≤ n → n < 2 ^ j → IntKind.i64.wrap n = n := by
  intro n h0 h1
  have h2 : (2 : Int) ^ j ≤ 2 ^ 62 := by exact_mod_cast Nat.pow_le_pow_right (by decide) hj
  rw [IntKind.wrap_i64]
  omega
/-- A digit: the number, its least and greatest, its bits. -/
abbrev Dg := Int × Int × Int × Nat
def dgc (l : List Dg) (i j : Nat) : Value := .int .i64 (match j with | 0 => (l.getD i (0, 0, 0, 0)).1 | 1 => (l.getD i (0, 0, 0, 0)).2.1 | 2 => (l.getD i (0, 0, 0, 0)).2.2.1 | _ => (l.getD i (0, 0, 0, 0)).2.2.2)
/-- Digits packed. -/
def pk : Int → List Dg → Int
  | c, [] => c
  | c, d :: l => pk (c * 2 ^ d.2.2.2 + d.1) l
/-- A digit that is in its range, and fits. -/
def dok (d : Dg) : Prop := d.2.1 ≤ d.1 ∧ d.1 ≤ d.2.2.1 ∧ 0 ≤ d.1 ∧ d.1 < 2 ^ d.2.2.2 ∧ d.2.2.2 ≤ 8
end Id
theorem co_or (c n : Int) (b : Nat) (hc : 0 ≤ c) (hc1 : c < 2 ^ 48) (hn : 0 ≤ n) (hn1 : n < 2 ^ b) (hb : b ≤ 8) : bits .or .i64 (Go.RowKit.wrap64 (c * 2 ^ b)) n = c * 2 ^ b + n := by
  have h2 : (2 : Int) ^ b ≤ 2 ^ 8 := by exact_mod_cast Nat.pow_le_pow_right (by decide) hb
  have h3 : (0 : Int) < 2 ^ b := by exact_mod_cast Nat.two_pow_pos b
  have h4 : 0 ≤ c * 2 ^ b := Int.mul_nonneg hc (by omega)
  have h5 : c * 2 ^ b ≤ 2 ^ 48 * 2 ^ 8 := by
    refine Int.le_trans (Int.mul_le_mul_of_nonneg_left h2 hc) (Int.mul_le_mul_of_nonneg_right (by omega) (by decide))
  have h6 : c * 2 ^ b < 2 ^ 60 := by
    have e : (2 : Int) ^ 48 * 2 ^ 8 < 2 ^ 60 := by decide
    omega
  have e0 : Go.RowKit.wrap64 (c * 2 ^ b) = c * 2 ^ b := by unfold Go.RowKit.wrap64; omega
  rw [e0]
  have e8 : (2 : Int) ^ 8 < 2 ^ 60 := by decide
  exact bits_join .i64 60 (by decide) (Id.wrap64 60 (by decide)) b _ _ h4 (by simp) h6 hn hn1 (by omega)
set_option maxRecDepth 100000 in
set_option maxHeartbeats 1000000 in
theorem co_pack (a : Option Addr) (l : List Id.Dg) (c : Nat) (w : World) (hS : Tp.Sl w a l.length 4 (Id.dgc l)) (hl : l.length ≤ 6 + 1) (hd : ∀ d ∈ l, Id.dok d) :
    Calls Try.prog 61 #[.slice a l.length c] w fun e w' => e = .returned (.tuple #[.int .i64 (Id.pk 0 l), .bool true]) ∧ Below w.heap.size w w' := by
  have HS := Lib.hid hS
  have HD := Lib.hid hd
  clear hS hd
  go_enter Try.func61, Try.ntmps61
  go_wp2
  go_loopw [2, 8] (fun v2 v8 wr => ∃ (k : Nat) (z : Int), v8 = .int .i64 k ∧ v2 = .int .i64 z ∧ k ≤ l.length ∧ 0 ≤ z ∧ Hid (z < 2 ^ (8 * k)) ∧ Hid (Id.pk 0 l = Id.pk z (l.drop k)) ∧ Hid (Below w.heap.size w wr))
    (fun _ v8 _ => l.length - (intOf v8).toNat)
  case atStart => exact ⟨0, 0, rfl, rfl, Nat.zero_le _, by decide, Lib.hid (by decide), rfl, Below.refl _ _⟩
  case round =>
    obtain ⟨k, z, rfl, rfl, hk, hz, HZ, HP, HB⟩ := hrel
    by_cases hlt : k < l.length
    · obtain ⟨ad, rfl, had, _⟩ := HS.out.at hlt
      have h := HS.out.kept HB.out (Nat.le_refl _)
      have f0 := h.head hlt (by omega)
      have f1 := h.field hlt (j := 1) (by omega) (by omega)
      have f2 := h.field hlt (j := 2) (by omega) (by omega)
      have f3 := h.field hlt (j := 3) (by omega) (by omega)
      have hP := HP.out
      rw [Tp.drop_cons l (0, 0, 0, 0) k hlt] at hP
      have hdk := HD.out (l.getD k (0, 0, 0, 0)) (by rw [List.getD_eq_getElem?_getD, List.getElem?_eq_getElem hlt]; exact List.getElem_mem _)
      generalize hx : l.getD k (0, 0, 0, 0) = x at hP hdk
      obtain ⟨n, lo, hi, b⟩ := x
      simp only [Id.dgc, hx] at f0 f1 f2 f3
      have hP' : Id.pk 0 l = Id.pk (z * 2 ^ b + n) (l.drop (k + 1)) := hP
      obtain ⟨d1, d2, d3, d4, d5⟩ := hdk
      dsimp only at d1 d2 d3 d4 d5
      have hz48 : z < 2 ^ 48 := by
        have h1 : (2 : Int) ^ (8 * k) ≤ 2 ^ 48 := by exact_mod_cast Nat.pow_le_pow_right (by decide) (by omega)
        have := HZ.out
        omega
      have hor := co_or z n b hz hz48 d3 d4 d5
      have hnew : 0 ≤ z * 2 ^ b + n ∧ z * 2 ^ b + n < 2 ^ (8 * (k + 1)) := by
        have h2 : (2 : Int) ^ b ≤ 2 ^ 8 := by exact_mod_cast Nat.pow_le_pow_right (by decide) d5
        have h3 : (0 : Int) < 2 ^ b := by exact_mod_cast Nat.two_pow_pos b
        have h4 : 0 ≤ z * 2 ^ b := Int.mul_nonneg hz (by omega)
        have h5 : (z + 1) * 2 ^ b ≤ 2 ^ (8 * k) * 2 ^ 8 := by
          have hz1 := HZ.out
          have e0 : (0 : Int) ≤ 2 ^ (8 * k) := by omega
          exact Int.le_trans (Int.mul_le_mul_of_nonneg_right (by omega : z + 1 ≤ 2 ^ (8 * k)) (by omega)) (Int.mul_le_mul_of_nonneg_left h2 e0)
        have e : (2 : Int) ^ (8 * (k + 1)) = 2 ^ (8 * k) * 2 ^ 8 := by rw [Nat.mul_add, Int.pow_add]
        rw [Int.add_mul, Int.one_mul] at h5
        omega
      have HP2 := Lib.hid hP'
      have hb0 : decide (n < lo) = false := by simpa using d1
      have hb1 : decide (hi < n) = false := by simpa using d2
      have hb2 : decide ((b : Int) < 0) = false := by simp
      clear hP hP' HP h hx d1 d2 d3 d4
      go_wp2
      refine Kit.wp_name ?_
      intro W hW
      have y0 : ∀ x : Kit.Wd W, x.val.cell? ⟨wr.heap.size, 0, none⟩ = some (.int .i64 n) := fun x => x.cell (by rw [hW]; simp [go_sem]) (by rw [hW]; simp)
      have y3 : ∀ x : Kit.Wd W, x.val.cell? ⟨wr.heap.size, 3, none⟩ = some (.int .i64 b) := fun x => x.cell (by rw [hW]; simp [go_sem]) (by rw [hW]; simp)
      have HW := Lib.hid (show Below w.heap.size w W by rw [hW]; exact HB.out.alloc HB.out.size _)
      clear hW
      refine Kit.wp_region_cls (by kernel_rfl) (by kernel_rfl) ?_
      (repeat (go_big_quiet_step (fail)))
      refine wpQuiet_nil ?_
      intro x
      have HX := Lib.hid (HW.out.trans (x.below.mono HW.out.size))
      generalize x.val = X at *
      clear y0 y3 x
      obtain ⟨hn0, hn1⟩ := hnew
      have HN := Lib.hid hn1
      clear hn1 hor
      go_wp2
      go_roundw
      case rel => exact ⟨k + 1, z * 2 ^ b + n, by go_num, rfl, by omega, hn0, HN.out, HP2.out, HX.out⟩
      case measure => simp [intOf]; omega
    · obtain rfl : k = l.length := by omega
      rw [List.drop_length] at HP
      have HQ := Lib.hid (show Id.pk 0 l = z from HP.out)
      go_wp2
      go_ret2
      exact ⟨by rw [HQ.out]; rfl, HB.out⟩
namespace Id
/-- A sign in its ranges. -/
structure InC (s : Sg) : Prop where
  role : 0 ≤ s.role ∧ s.role ≤ 63
  kind : 1 ≤ s.kind ∧ s.kind ≤ 9
  side : 0 ≤ s.side ∧ s.side ≤ 2
  dir : 0 ≤ s.dir ∧ s.dir ≤ 8
  level : 0 ≤ s.level ∧ s.level ≤ 3
  size : 0 ≤ s.size ∧ s.size ≤ 255
  wth : 0 ≤ s.wth ∧ s.wth ≤ 64
/-- The code of a sign. -/
def code (s : Sg) : Int := (((((s.role * 16 + s.kind) * 4 + s.side) * 16 + s.dir) * 4 + s.level) * 256 + s.size) * 128 + s.wth
def digs (s : Sg) : List Dg := [(s.role, 0, 63, 6), (s.kind, 1, 9, 4), (s.side, 0, 2, 2), (s.dir, 0, 8, 4), (s.level, 0, 3, 2), (s.size, 0, 255, 8), (s.wth, 0, 64, 7)]
theorem pk_digs (s : Sg) : pk 0 (digs s) = code s := by
  simp only [pk, digs, code]
  omega
theorem digs_ok {s : Sg} (h : InC s) : ∀ d ∈ digs s, dok d := by
  have h1 := h.role; have h2 := h.kind; have h3 := h.side; have h4 := h.dir; have h5 := h.level; have h6 := h.size; have h7 := h.wth
  intro d hd
  simp only [digs, List.mem_cons, List.not_mem_nil, or_false] at hd
  rcases hd with rfl | rfl | rfl | rfl | rfl | rfl | rfl <;> (unfold dok; dsimp only; omega)
abbrev sgV (s : Sg) : Value := .agg #[.int .i64 s.id, .int .i64 s.role, .int .i64 s.bar, .int .i64 s.mark, .int .i64 s.kind, .int .i64 s.side, .int .i64 s.dir, .int .i64 s.level, .int .i64 s.size, .int .i64 s.wth, .int .i64 s.fn, .int .i64 s.fd, .int .i64 s.tn, .int .i64 s.td]
abbrev sgW (s : Sg) : Value := .agg #[.int .i64 s.id, .int .i64 s.role, .int .i64 s.bar, .int .i64 s.mark, .int .i64 s.kind, .int .i64 s.side, .int .i64 s.dir, .int .i64 s.level, .int .i64 s.size, .int .i64 s.wth, .agg #[.int .i64 s.fn, .int .i64 s.fd], .agg #[.int .i64 s.tn, .int .i64 s.td]]
end Id
theorem Id.blk_sl {W : World} {b n k : Nat} {l : List Value} {t : TypeId} {q : Nat × Nat} {f : Nat → Nat → Value} (h : W.heap[b]? = some (.cells l.toArray t q)) (hf : ∀ i j, i < n → j < k → l[i * k + j]? = some (f i j)) : Tp.Sl W (some ⟨b, 0, none⟩) n k f := by
  refine .inr ⟨_, rfl, ?_, fun i j hi hj => ?_⟩
  · rcases Nat.lt_or_ge b W.heap.size with h1 | h1
    · exact h1
    · rw [Array.getElem?_eq_none h1] at h; cases h
  · have e : ((⟨b, 0, none⟩ : Addr).add (i * k + j)) = ⟨b, i * k + j, none⟩ := by unfold Addr.add; split <;> simp_all
    rw [e]
    simp only [World.cell?, h]
    simpa using hf i j hi hj
theorem Id.blk_new (W : World) {b : Nat} (hb : b = W.heap.size) (l : List Value) (t : TypeId) {n k : Nat} {f : Nat → Nat → Value} (hf : ∀ i j, i < n → j < k → l[i * k + j]? = some (f i j)) : Tp.Sl (W.alloc (.cells l.toArray t)) (some ⟨b, 0, none⟩) n k f := by
  subst hb
  exact Id.blk_sl (World.alloc_heap_new _ _) hf
theorem Id.digs_at (s : Id.Sg) : ∀ i j, i < 7 → j < 4 → [Value.int .i64 s.role, .int .i64 0, .int .i64 63, .int .i64 6, .int .i64 s.kind, .int .i64 1, .int .i64 9, .int .i64 4, .int .i64 s.side, .int .i64 0, .int .i64 2, .int .i64 2, .int .i64 s.dir, .int .i64 0, .int .i64 8, .int .i64 4, .int .i64 s.level, .int .i64 0, .int .i64 3, .int .i64 2, .int .i64 s.size, .int .i64 0, .int .i64 255, .int .i64 8, .int .i64 s.wth, .int .i64 0, .int .i64 64, .int .i64 7][i * 4 + j]? = some (Id.dgc (Id.digs s) i j) := by
  intro i j hi hj
  rcases i with _ | _ | _ | _ | _ | _ | _ | i <;> rcases j with _ | _ | _ | _ | j <;> first | rfl | omega
set_option maxRecDepth 100000 in
set_option maxHeartbeats 1000000 in
theorem co_code (s : Id.Sg) (w : World) (h : Id.InC s) : Calls Try.prog 33 #[Id.sgV s] w fun e w' => e = .returned (.tuple #[.int .i64 (Id.code s), .int .i64 0]) ∧ Below w.heap.size w w' := by
  have HD := Lib.hid (Id.digs_ok h)
  have HP := Lib.hid (Id.pk_digs s)
  clear h
  go_enter Try.func33, Try.ntmps33
  go_wp2_with fail
  refine (co_pack _ (Id.digs s) _ _ (Id.blk_new _ (by simp) _ _ (Id.digs_at s)) (by simp [Id.digs]) HD.out).mono ?_
  rw [HP.out]
  rintro _ w1 ⟨rfl, hb⟩
  have HB := Lib.hid (show Below w.heap.size w w1 from ((((Below.refl w.heap.size w).alloc (Nat.le_refl _) _).alloc (by simp) _)).trans (hb.mono (by simp; omega)))
  clear hb
  go_wp2
  go_ret2
  exact ⟨rfl, HB.out⟩
end Go.Proofs.Ytdaedjmkolcliaa
