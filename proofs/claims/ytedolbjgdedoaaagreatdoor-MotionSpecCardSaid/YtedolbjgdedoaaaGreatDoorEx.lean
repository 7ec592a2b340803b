/- Walks: package expand: within, field. Walks: package expand: right (which signs are right). Walks: package expand: right, where the ratios decide. Plain facts and values: works (package expand). Walks: package expand: Check. -/
import Derived.Test.YtedolbjgdedoaaaGreatDoorTp
import Derived.Test.YtedolbjgdedoaaaGreatDoorRa
import Derived.Test.YtedolbjgdedoaaaGreatDoorTurn
set_option linter.unusedSimpArgs false
set_option linter.unusedVariables false
set_option maxRecDepth 100000
set_option maxHeartbeats 4000000
namespace Go.Proofs.YtedolbjgdedoaaaGreatDoor
open Go.RowKit

theorem ex_in (n lo hi : Int) (w : World) : Calls Tryz.prog 49 #[.int .i64 n, .int .i64 lo, .int .i64 hi] w fun e w' => e = .returned (.bool (Tp.inb n lo hi)) ∧ w = w' := by
 have fin : ∀ p q : Bool, decide (lo ≤ n) = p → decide (n ≤ hi) = q → Calls Tryz.prog 49 #[.int .i64 n, .int .i64 lo, .int .i64 hi] w fun e w' => e = .returned (.bool (p && q)) ∧ w = w' := by
  intro p q hp hq
  cases p <;> cases q <;>
  ·go_enter Tryz.func49, Tryz.ntmps49
   go_wp2
   go_ret
   exact ⟨rfl, rfl⟩
 exact fin _ _ rfl rfl

namespace Ex
def fld (n : Int) (used : Bool) (lo hi : Int) : Bool := if used then Tp.inb n lo hi else n == 0
end Ex

theorem ex_field (n : Int) (used : Bool) (lo hi : Int) (w : World) : Calls Tryz.prog 97 #[.int .i64 n, .bool used, .int .i64 lo, .int .i64 hi] w fun e w' => e = .returned (.bool (Ex.fld n used lo hi)) ∧ w = w' := by
 cases used
 ·unfold Ex.fld
  go_enter Tryz.func97, Tryz.ntmps97
  go_wp2
  go_ret
  exact ⟨rfl, rfl⟩
 ·unfold Ex.fld
  go_enter Tryz.func97, Tryz.ntmps97
  go_wp2_with (go_at_call 49; refine (ex_in _ _ _ _).mono ?_; rintro e w' ⟨rfl, rfl⟩)
  go_ret
  exact ⟨rfl, rfl⟩
end Go.Proofs.YtedolbjgdedoaaaGreatDoor

namespace Go.Proofs.YtedolbjgdedoaaaGreatDoor
open Go.RowKit

namespace Ex
structure Sg where
 id : Int
 role : Int
 bar : Int
 mark : Int
 kind : Int
 side : Int
 dir : Int
 level : Int
 size : Int
 wth : Int
 fn : Int
 fd : Int
 tn : Int
 td : Int
structure Rl where
 sd : Bool
 dr : Bool
 wt : Bool
 pl : Int
 lv : Int
 sz : Int
abbrev sgV (s : Sg) : Value := .agg #[.int .i64 s.id, .int .i64 s.role, .int .i64 s.bar, .int .i64 s.mark, .int .i64 s.kind, .int .i64 s.side, .int .i64 s.dir, .int .i64 s.level, .int .i64 s.size, .int .i64 s.wth, .int .i64 s.fn, .int .i64 s.fd, .int .i64 s.tn, .int .i64 s.td]
def rule : Nat → Rl
 | 1 => ⟨true, true, false, 1, 0, 16⟩
 | 2 => ⟨false, true, false, 1, 0, 16⟩
 | 3 => ⟨true, true, false, 0, 3, 0⟩
 | 4 => ⟨true, true, false, 0, 3, 0⟩
 | 5 => ⟨false, true, false, 0, 3, 0⟩
 | 6 => ⟨false, false, false, 0, 0, 7⟩
 | 7 => ⟨false, false, true, 0, 0, 0⟩
 | 8 => ⟨false, false, true, 0, 0, 0⟩
 | 9 => ⟨true, false, false, 0, 3, 0⟩
 | _ => ⟨false, false, false, 0, 0, 0⟩
def Laid (w : World) : Prop := 2 < w.heap.size ∧ ∀ k, k < 10 →
 w.cell? ⟨2, k * 6, none⟩ = some (.bool (rule k).sd) ∧ w.cell? ⟨2, k * 6 + 1, none⟩ = some (.bool (rule k).dr) ∧ w.cell? ⟨2, k * 6 + 2, none⟩ = some (.bool (rule k).wt) ∧
 w.cell? ⟨2, k * 6 + 3, none⟩ = some (.int .i64 (rule k).pl) ∧ w.cell? ⟨2, k * 6 + 4, none⟩ = some (.int .i64 (rule k).lv) ∧ w.cell? ⟨2, k * 6 + 5, none⟩ = some (.int .i64 (rule k).sz)
theorem Laid.kept {w w' : World} (h : Laid w) {B : Nat} (hb : Below B w w') (hB : w.heap.size ≤ B) : Laid w' := by
 obtain ⟨h0, h1⟩ := h
 refine ⟨Nat.lt_of_lt_of_le h0 hb.size, fun k hk => ?_⟩
 obtain ⟨a, b, c, d, e, f⟩ := h1 k hk
 have hlt : 2 < B := by omega
 exact ⟨(hb.cell hlt).trans a, (hb.cell hlt).trans b, (hb.cell hlt).trans c, (hb.cell hlt).trans d, (hb.cell hlt).trans e, (hb.cell hlt).trans f⟩
def ok1 (s : Sg) (roles bars : Int) : Bool := Tp.inb s.kind 1 9 && Tp.inb s.role 0 (roles - 1) && Tp.inb s.bar 0 (bars - 1) && Tp.inb s.mark 1 3
def ok2 (s : Sg) (r : Rl) (roles : Int) : Bool := fld s.side r.sd 1 2 && fld s.dir r.dr r.pl 8 && fld s.level (decide (0 < r.lv)) 1 r.lv && fld s.size (decide (0 < r.sz)) 1 r.sz && fld s.wth r.wt 1 roles
def pr (s : Sg) : Nat → Int × Int × Int × Int
 | 0 => (0, 1, s.fn, s.fd)
 | 1 => (s.fn, s.fd, s.tn, s.td)
 | _ => (s.tn, s.td, 1, 1)
def cmpE (a b c d : Int) : Int := if Ra.ok a b && Ra.ok c d then 0 else 120
def cmpC (a b c d : Int) : Int := if Ra.ok a b && Ra.ok c d then Ra.sg (a * d) (c * b) else 0
def same (a b c d : Int) : Bool := a == c && b == d
def bad (s : Sg) (k : Nat) : Bool :=
 cmpE (pr s k).1 (pr s k).2.1 (pr s k).2.2.1 (pr s k).2.2.2 != 0 || decide (0 < cmpC (pr s k).1 (pr s k).2.1 (pr s k).2.2.1 (pr s k).2.2.2) ||
 (cmpC (pr s k).1 (pr s k).2.1 (pr s k).2.2.1 (pr s k).2.2.2 == 0 && same (pr s k).1 (pr s k).2.1 s.fn s.fd && same (pr s k).2.2.1 (pr s k).2.2.2 s.tn s.td)
def okSign (s : Sg) (roles bars : Int) : Bool := ok1 s roles bars && ok2 s (rule s.kind.toNat) roles && !bad s 0 && !bad s 1 && !bad s 2
def Right (s : Sg) (roles bars : Int) (w : World) (b : Bool) : Prop :=
 Calls Tryz.prog 51 #[sgV s, .int .i64 roles, .int .i64 bars] w fun e w' => e = .returned (.bool b) ∧ Below w.heap.size w w'
end Ex
theorem ex_cmp (a b c d : Int) (w : World) : Ra.Cmp a b c d (Ex.cmpC a b c d) (Ex.cmpE a b c d) w := by
 unfold Ex.cmpC Ex.cmpE
 rcases h1 : Ra.ok a b with _ | _
 ·simpa using ra_cmp_1 a b c d w h1
 ·rcases h2 : Ra.ok c d with _ | _
  ·simpa using ra_cmp_2 a b c d w h1 h2
  ·simpa using ra_cmp_3 a b c d w h1 h2

theorem ex_right_1 (s : Ex.Sg) (roles bars : Int) (w : World) (h1 : 0 ≤ roles) (h2 : roles ≤ 4611686018427387904) (h3 : 0 ≤ bars) (h4 : bars ≤ 4611686018427387904) (h : Ex.ok1 s roles bars = false) : Ex.Right s roles bars w false := by
 unfold Ex.Right
 obtain ⟨id, role, bar, mark, kind, side, dir, level, size, wth, fn, fd, tn, td⟩ := s
 unfold Ex.ok1 at h
 dsimp only at h ⊢
 rcases d1 : Tp.inb kind 1 9 with _ | _
 ·clear h
  go_enter Tryz.func51, Tryz.ntmps51
  go_wp2_with (first | (go_at_call 49; refine (ex_in _ _ _ _).mono ?_; rintro e w' ⟨rfl, rfl⟩) | (go_at_call 97; refine (ex_field _ _ _ _ _).mono ?_; rintro e w' ⟨rfl, rfl⟩))
  go_ret
  exact ⟨rfl, by exact Kit.gr⟩
 rcases d2 : Tp.inb role 0 (roles - 1) with _ | _
 ·clear h
  go_enter Tryz.func51, Tryz.ntmps51
  go_wp2_with (first | (go_at_call 49; refine (ex_in _ _ _ _).mono ?_; rintro e w' ⟨rfl, rfl⟩) | (go_at_call 97; refine (ex_field _ _ _ _ _).mono ?_; rintro e w' ⟨rfl, rfl⟩))
  go_ret
  exact ⟨rfl, by exact Kit.gr⟩
 rcases d3 : Tp.inb bar 0 (bars - 1) with _ | _
 ·clear h
  go_enter Tryz.func51, Tryz.ntmps51
  go_wp2_with (first | (go_at_call 49; refine (ex_in _ _ _ _).mono ?_; rintro e w' ⟨rfl, rfl⟩) | (go_at_call 97; refine (ex_field _ _ _ _ _).mono ?_; rintro e w' ⟨rfl, rfl⟩))
  go_ret
  exact ⟨rfl, by exact Kit.gr⟩
 rcases d4 : Tp.inb mark 1 3 with _ | _
 ·clear h
  go_enter Tryz.func51, Tryz.ntmps51
  go_wp2_with (first | (go_at_call 49; refine (ex_in _ _ _ _).mono ?_; rintro e w' ⟨rfl, rfl⟩) | (go_at_call 97; refine (ex_field _ _ _ _ _).mono ?_; rintro e w' ⟨rfl, rfl⟩))
  go_ret
  exact ⟨rfl, by exact Kit.gr⟩
 simp [d1, d2, d3, d4] at h

theorem ex_right_2 (s : Ex.Sg) (K : Nat) (roles bars : Int) (w : World) (h1 : 0 ≤ roles) (h2 : roles ≤ 4611686018427387904) (h3 : 0 ≤ bars) (h4 : bars ≤ 4611686018427387904) (h : Ex.ok1 s roles bars = true) (hK : s.kind = K) (hl : Ex.Laid w)
  (hh : Ex.ok2 s (Ex.rule K) roles = false) : Ex.Right s roles bars w false := by
 unfold Ex.Right
 obtain ⟨id, role, bar, mark, kind, side, dir, level, size, wth, fn, fd, tn, td⟩ := s
 unfold Ex.ok1 at h
 unfold Ex.ok2 at hh
 dsimp only at h hh hK ⊢
 subst hK
 simp only [Bool.and_eq_true] at h
 obtain ⟨⟨⟨d1, d2⟩, d3⟩, d4⟩ := h
 have hk := (Tp.inb_iff _ _ _).1 d1
 obtain ⟨g1, g2, g3, g4, g5, g6⟩ := hl.2 K omg
 have hz := hl.1
 generalize Ex.rule K = R at *
 obtain ⟨sd, dr, wt, pl, lv, sz⟩ := R
 dsimp only at g1 g2 g3 g4 g5 g6 hh
 have HL := qh hl; clear hl
 rcases e1 : Ex.fld side sd 1 2 with _ | _
 ·clear hh
  go_enter Tryz.func51, Tryz.ntmps51
  go_wp2_with (first | (go_at_call 49; refine (ex_in _ _ _ _).mono ?_; rintro e w' ⟨rfl, rfl⟩) | (go_at_call 97; refine (ex_field _ _ _ _ _).mono ?_; rintro e w' ⟨rfl, rfl⟩))
  go_ret
  exact ⟨rfl, by exact Kit.gr⟩
 rcases e2 : Ex.fld dir dr pl 8 with _ | _
 ·clear hh
  go_enter Tryz.func51, Tryz.ntmps51
  go_wp2_with (first | (go_at_call 49; refine (ex_in _ _ _ _).mono ?_; rintro e w' ⟨rfl, rfl⟩) | (go_at_call 97; refine (ex_field _ _ _ _ _).mono ?_; rintro e w' ⟨rfl, rfl⟩))
  go_ret
  exact ⟨rfl, by exact Kit.gr⟩
 rcases e3 : Ex.fld level (decide (0 < lv)) 1 lv with _ | _
 ·clear hh
  go_enter Tryz.func51, Tryz.ntmps51
  go_wp2_with (first | (go_at_call 49; refine (ex_in _ _ _ _).mono ?_; rintro e w' ⟨rfl, rfl⟩) | (go_at_call 97; refine (ex_field _ _ _ _ _).mono ?_; rintro e w' ⟨rfl, rfl⟩))
  go_ret
  exact ⟨rfl, by exact Kit.gr⟩
 rcases e4 : Ex.fld size (decide (0 < sz)) 1 sz with _ | _
 ·clear hh
  go_enter Tryz.func51, Tryz.ntmps51
  go_wp2_with (first | (go_at_call 49; refine (ex_in _ _ _ _).mono ?_; rintro e w' ⟨rfl, rfl⟩) | (go_at_call 97; refine (ex_field _ _ _ _ _).mono ?_; rintro e w' ⟨rfl, rfl⟩))
  go_ret
  exact ⟨rfl, by exact Kit.gr⟩
 rcases e5 : Ex.fld wth wt 1 roles with _ | _
 ·clear hh
  go_enter Tryz.func51, Tryz.ntmps51
  go_wp2_with (first | (go_at_call 49; refine (ex_in _ _ _ _).mono ?_; rintro e w' ⟨rfl, rfl⟩) | (go_at_call 97; refine (ex_field _ _ _ _ _).mono ?_; rintro e w' ⟨rfl, rfl⟩))
  go_ret
  exact ⟨rfl, by exact Kit.gr⟩
 simp [e1, e2, e3, e4, e5] at hh

end Go.Proofs.YtedolbjgdedoaaaGreatDoor

namespace Go.Proofs.YtedolbjgdedoaaaGreatDoor
open Go.RowKit

theorem Ex.b_bad {b : Bool} {S : Ex.Sg} {k : Nat} (hb : Hid (b = (!Ex.bad S 0 && !Ex.bad S 1 && !Ex.bad S 2))) (hk : k < 3) (h : Ex.bad S k = true) : Ending.returned (.bool false) = .returned (.bool b) := by
 have : b = false := by
  rw [hb.out]
  rcases k with _ | _ | _ | k
  ·simp [h]
  ·simp [h]
  ·simp [h]
  ·omega
 rw [this]
theorem Ex.b_good {b : Bool} {S : Ex.Sg} (hb : Hid (b = (!Ex.bad S 0 && !Ex.bad S 1 && !Ex.bad S 2))) (h : ∀ k, k < 3 → Ex.bad S k = false) : Ending.returned (.bool true) = .returned (.bool b) := by
 have : b = true := by
  rw [hb.out, h 0 omg, h 1 omg, h 2 omg]; rfl
 rw [this]

theorem ex_right_3 (s : Ex.Sg) (K : Nat) (roles bars : Int) (w : World) (h1 : 0 ≤ roles) (h2 : roles ≤ 4611686018427387904) (h3 : 0 ≤ bars) (h4 : bars ≤ 4611686018427387904) (h : Ex.ok1 s roles bars = true) (hK : s.kind = K) (hl : Ex.Laid w)
  (hh : Ex.ok2 s (Ex.rule K) roles = true) (b : Bool) (hb : Hid (b = (!Ex.bad s 0 && !Ex.bad s 1 && !Ex.bad s 2))) : Ex.Right s roles bars w b := by
 unfold Ex.Right
 have hbad : ∀ k, Ex.bad s k = Ex.bad s k := fun _ => rfl
 obtain ⟨S, hS⟩ : ∃ S : Ex.Sg, S = s := ⟨_, rfl⟩
 rw [← hS] at hb
 obtain ⟨id, role, bar, mark, kind, side, dir, level, size, wth, fn, fd, tn, td⟩ := s
 have q1 : S.fn = fn := by rw [hS]
 have q2 : S.fd = fd := by rw [hS]
 have q3 : S.tn = tn := by rw [hS]
 have q4 : S.td = td := by rw [hS]
 clear hbad hS
 have Q1 := qh q1; have Q2 := qh q2; have Q3 := qh q3; have Q4 := qh q4
 clear q1 q2 q3 q4
 unfold Ex.ok1 at h
 unfold Ex.ok2 at hh
 dsimp only at h hh hK ⊢
 subst hK
 simp only [Bool.and_eq_true] at h
 obtain ⟨⟨⟨d1, d2⟩, d3⟩, d4⟩ := h
 have hk := (Tp.inb_iff _ _ _).1 d1
 obtain ⟨g1, g2, g3, g4, g5, g6⟩ := hl.2 K omg
 have hz := hl.1
 generalize Ex.rule K = R at *
 obtain ⟨sd, dr, wt, pl, lv, sz⟩ := R
 simp only [Bool.and_eq_true] at g1 g2 g3 g4 g5 g6 hh
 obtain ⟨⟨⟨⟨e1, e2⟩, e3⟩, e4⟩, e5⟩ := hh
 have HL := qh hl; clear hl
 go_enter Tryz.func51, Tryz.ntmps51
 go_wp2_with (first | (go_at_call 49; refine (ex_in _ _ _ _).mono ?_; rintro e w' ⟨rfl, rfl⟩) | (go_at_call 97; refine (ex_field _ _ _ _ _).mono ?_; rintro e w' ⟨rfl, rfl⟩))
 refine Kit.wp_name ?_
 intro W0 hW0
 have b0 : Below w.heap.size w W0 := by rw [hW0]; exact Kit.gr
 have s0 : W0.heap.size = w.heap.size + 5 := by rw [hW0]; simp
 have x0 : W0.cell? ⟨w.heap.size, 10, none⟩ = some (.int .i64 fn) ∧ W0.cell? ⟨w.heap.size, 11, none⟩ = some (.int .i64 fd) ∧ W0.cell? ⟨w.heap.size, 12, none⟩ = some (.int .i64 tn) ∧ W0.cell? ⟨w.heap.size, 13, none⟩ = some (.int .i64 td) := by
  rw [hW0]; simp [go_sem]
 have y0 : ∀ k, k < 3 → W0.cell? ⟨w.heap.size + 1 + 1 + 1 + 1, k * 4, none⟩ = some (.int .i64 (Ex.pr S k).1) ∧ W0.cell? ⟨w.heap.size + 1 + 1 + 1 + 1, k * 4 + 1, none⟩ = some (.int .i64 (Ex.pr S k).2.1) ∧
   W0.cell? ⟨w.heap.size + 1 + 1 + 1 + 1, k * 4 + 2, none⟩ = some (.int .i64 (Ex.pr S k).2.2.1) ∧ W0.cell? ⟨w.heap.size + 1 + 1 + 1 + 1, k * 4 + 3, none⟩ = some (.int .i64 (Ex.pr S k).2.2.2) := by
  intro k hk
  rw [hW0]
  rcases k with _ | _ | _ | k
  ·simp [go_sem, Ex.pr, Q1.out, Q2.out]
  ·simp [go_sem, Ex.pr, Q1.out, Q2.out, Q3.out, Q4.out]
  ·simp [go_sem, Ex.pr, Q3.out, Q4.out]
  ·omega
 have S0 := qh s0
 have X0 := qh x0
 have Y0 := qh y0
 clear hW0 s0 x0 y0 g1 g2 g3 g4 g5 g6
 go_loopw [108] (fun v108 wr => ∃ k : Nat, v108 = .int .i64 k ∧ k ≤ 3 ∧ Hid (∀ i, i < k → Ex.bad S i = false) ∧ Below W0.heap.size W0 wr)
  (fun v108 _ => 3 - (intOf v108).toNat)
 case atStart => exact ⟨0, rfl, by omega, fun i hi => by omega, Below.refl _ _⟩
 case round =>
  obtain ⟨k, rfl, hk3, HA, hB⟩ := hrel
  by_cases hlt : k < 3
  ·have hY := Y0.out k hlt
   have hbd : Ex.bad S k = (Ex.cmpE (Ex.pr S k).1 (Ex.pr S k).2.1 (Ex.pr S k).2.2.1 (Ex.pr S k).2.2.2 != 0 || decide (0 < Ex.cmpC (Ex.pr S k).1 (Ex.pr S k).2.1 (Ex.pr S k).2.2.1 (Ex.pr S k).2.2.2) ||
    (Ex.cmpC (Ex.pr S k).1 (Ex.pr S k).2.1 (Ex.pr S k).2.2.1 (Ex.pr S k).2.2.2 == 0 && Ex.same (Ex.pr S k).1 (Ex.pr S k).2.1 fn fd && Ex.same (Ex.pr S k).2.2.1 (Ex.pr S k).2.2.2 tn td)) := by
    rw [← Q1.out, ← Q2.out, ← Q3.out, ← Q4.out]; rfl
   generalize Ex.pr S k = pk at hY hbd
   obtain ⟨a, b', c, d⟩ := pk
   dsimp only at hY hbd
   have hcmp := ex_cmp a b' c d
   generalize Ex.cmpE a b' c d = E at hcmp hbd
   generalize Ex.cmpC a b' c d = C at hcmp hbd
   have HCM := qh hcmp
   have HBD := qh hbd
   clear hcmp hbd
   have y0 : wr.cell? ⟨w.heap.size + 1 + 1 + 1 + 1, k * 4, none⟩ = some (.int .i64 a) := (hB.cell (by rw [S0.out]; simp)).trans hY.1
   have y1 : wr.cell? ⟨w.heap.size + 1 + 1 + 1 + 1, k * 4 + 1, none⟩ = some (.int .i64 b') := (hB.cell (by rw [S0.out]; simp)).trans hY.2.1
   have y2 : wr.cell? ⟨w.heap.size + 1 + 1 + 1 + 1, k * 4 + 2, none⟩ = some (.int .i64 c) := (hB.cell (by rw [S0.out]; simp)).trans hY.2.2.1
   have y3 : wr.cell? ⟨w.heap.size + 1 + 1 + 1 + 1, k * 4 + 3, none⟩ = some (.int .i64 d) := (hB.cell (by rw [S0.out]; simp)).trans hY.2.2.2
   clear hY
   have hwr : Below w.heap.size w wr := b0.trans (hB.mono b0.size)
   have zz : w.heap.size + 4 < wr.heap.size := by have h5 := hB.size; rw [S0.out] at h5; omega
   have HB := qh hB
   have HWR := qh hwr
   clear hB hwr
   go_wp2_with fail
   refine (HCM.out _).mono ?_
   rintro e w2 ⟨rfl, hb2⟩
   obtain ⟨hc2, hf2⟩ := Kit.bcell hb2
   have p0 : w2.cell? ⟨wr.heap.size, 0, none⟩ = some (.int .i64 a) := by rw [hc2 _ _ (by simp)]; simp [go_sem]
   have p1 : w2.cell? ⟨wr.heap.size, 1, none⟩ = some (.int .i64 b') := by rw [hc2 _ _ (by simp)]; simp [go_sem]
   have p2 : w2.cell? ⟨wr.heap.size, 2, none⟩ = some (.int .i64 c) := by rw [hc2 _ _ (by simp)]; simp [go_sem]
   have p3 : w2.cell? ⟨wr.heap.size, 3, none⟩ = some (.int .i64 d) := by rw [hc2 _ _ (by simp)]; simp [go_sem]
   have hBw : Below W0.heap.size W0 w2 := HB.out.trans (Below.trans (by exact Kit.gr) (hb2.mono (by simp; have := HB.out.size; omega)))
   have hWw : Below w.heap.size w w2 := b0.trans (hBw.mono b0.size)
   have q0 : w2.cell? ⟨w.heap.size, 10, none⟩ = some (.int .i64 fn) := (hBw.cell (by rw [S0.out]; simp)).trans X0.out.1
   have q1 : w2.cell? ⟨w.heap.size, 11, none⟩ = some (.int .i64 fd) := (hBw.cell (by rw [S0.out]; simp)).trans X0.out.2.1
   have q2 : w2.cell? ⟨w.heap.size, 12, none⟩ = some (.int .i64 tn) := (hBw.cell (by rw [S0.out]; simp)).trans X0.out.2.2.1
   have q3 : w2.cell? ⟨w.heap.size, 13, none⟩ = some (.int .i64 td) := (hBw.cell (by rw [S0.out]; simp)).trans X0.out.2.2.2
   have HBW := qh hBw
   have HWW := qh hWw
   clear hc2 hf2 hb2 hBw hWw y0 y1 y2 y3
   rcases m1 : (E != 0) with _ | _
   ·rcases m2 : decide (0 < C) with _ | _
    ·rcases m3 : (C == 0) with _ | _
     ·go_wp2
      go_roundw
      case rel => exact ⟨k + 1, by go_num, by omega, (fun i hi => by
       by_cases e : i = k
       ·subst e; rw [HBD.out, m1, m2, m3]; rfl
       ·exact HA.out i omg), HBW.out⟩
      case measure => simp [intOf]; omega
     ·go_wp2
      all_goals (first | go_ret | go_roundw)
      all_goals (first
       | exact ⟨Ex.b_bad hb hlt (by rw [HBD.out, m1, m2, m3]; simp [Ex.same, *]), HWW.out⟩
       | exact ⟨k + 1, (by go_num), omg, (fun i hi => (by
         by_cases e : i = k
         ·subst e; rw [HBD.out, m1, m2, m3]; simp [Ex.same, *]
         ·exact HA.out i omg)), HBW.out⟩
       | (simp [intOf]; omega))
    ·go_wp2
     go_ret
     exact ⟨Ex.b_bad hb hlt (by rw [HBD.out, m1, m2]; rfl), HWW.out⟩
   ·go_wp2
    go_ret
    exact ⟨Ex.b_bad hb hlt (by rw [HBD.out, m1]; rfl), HWW.out⟩
  ·have HWR := qh (b0.trans (hB.mono b0.size))
   have HG := qh (Ex.b_good hb (fun i hi => HA.out i omg))
   clear hB
   go_wp2
   go_ret
   exact ⟨HG.out, HWR.out⟩

theorem ex_right (s : Ex.Sg) (roles bars : Int) (w : World) (h1 : 0 ≤ roles) (h2 : roles ≤ 4611686018427387904) (h3 : 0 ≤ bars) (h4 : bars ≤ 4611686018427387904) (hl : Ex.Laid w) : Ex.Right s roles bars w (Ex.okSign s roles bars) := by
 unfold Ex.okSign
 rcases h : Ex.ok1 s roles bars with _ | _
 ·simpa using ex_right_1 s roles bars w h1 h2 h3 h4 h
 ·have hk : 1 ≤ s.kind ∧ s.kind ≤ 9 := by
   unfold Ex.ok1 at h
   simp only [Bool.and_eq_true] at h
   exact (Tp.inb_iff _ _ _).1 h.1.1.1
  have hK : s.kind = (s.kind.toNat : Int) := by omega
  rcases hh : Ex.ok2 s (Ex.rule s.kind.toNat) roles with _ | _
  ·simpa using ex_right_2 s s.kind.toNat roles bars w h1 h2 h3 h4 h hK hl hh
  ·simpa using ex_right_3 s s.kind.toNat roles bars w h1 h2 h3 h4 h hK hl hh _ rfl
namespace Ex
abbrev Ro := ByteArray × Int × Int × Int
structure Wk where
 wd : Int
 dp : Int
 ta : Int
 tb : Int
 tc : Int
 n : Int
 ro : List Ro
 ts : List Tp.T
 ps : List Tp.Q
 ss : List Tp.Q
 sg : List Sg
structure Wa where
 aR : Option Addr
 cR : Nat
 aT : Option Addr
 cT : Nat
 aP : Option Addr
 cP : Nat
 aS : Option Addr
 cS : Nat
 aG : Option Addr
 cG : Nat
instance : Inhabited Sg := ⟨⟨0, 0, 0, 0, 0, 0, 0, 0, 0, 0, 0, 0, 0, 0⟩⟩
def roc (l : List Ro) (i j : Nat) : Value := match j with | 0 => .string (l.getD i (.empty, 0, 0, 0)).1 | 1 => .int .i64 (l.getD i (.empty, 0, 0, 0)).2.1 | 2 => .int .i64 (l.getD i (.empty, 0, 0, 0)).2.2.1 | _ => .int .i64 (l.getD i (.empty, 0, 0, 0)).2.2.2
def sgc (l : List Sg) (i j : Nat) : Value :=
 let s := l.getD i default
 .int .i64 (match j with | 0 => s.id | 1 => s.role | 2 => s.bar | 3 => s.mark | 4 => s.kind | 5 => s.side | 6 => s.dir | 7 => s.level | 8 => s.size | 9 => s.wth | 10 => s.fn | 11 => s.fd | 12 => s.tn | _ => s.td)
abbrev wv (wd dp ta tb tc : Int) (aR : Option Addr) (nR cR : Nat) (n : Int) (aT : Option Addr) (nT cT : Nat) (aP : Option Addr) (nP cP : Nat) (aS : Option Addr) (nS cS : Nat) (aG : Option Addr) (nG cG : Nat) : Value :=
 .agg #[.int .i64 wd, .int .i64 dp, .int .i64 ta, .int .i64 tb, .int .i64 tc, .slice aR nR cR, .int .i64 n, .slice aT nT cT, .slice aP nP cP, .slice aS nS cS, .slice aG nG cG]
abbrev workV (x : Wk) (p : Wa) : Value := wv x.wd x.dp x.ta x.tb x.tc p.aR x.ro.length p.cR x.n p.aT x.ts.length p.cT p.aP x.ps.length p.cP p.aS x.ss.length p.cS p.aG x.sg.length p.cG
structure At (w : World) (x : Wk) (p : Wa) : Prop where
 ro : Tp.Sl w p.aR x.ro.length 4 (roc x.ro)
 ts : Tp.Sl w p.aT x.ts.length 3 (Tp.tc x.ts)
 ps : Tp.Sl w p.aP x.ps.length 4 (Tp.qc x.ps)
 ss : Tp.Sl w p.aS x.ss.length 4 (Tp.qc x.ss)
 sg : Tp.Sl w p.aG x.sg.length 14 (sgc x.sg)
 lro : x.ro.length ≤ 4611686018427387904
 lts : x.ts.length ≤ 4611686018427387904
 lps : x.ps.length ≤ 4611686018427387904
 lss : x.ss.length ≤ 4611686018427387904
 lsg : x.sg.length ≤ 4611686018427387904
theorem At.kept {w w' : World} {x : Wk} {p : Wa} (h : At w x p) {B : Nat} (hb : Below B w w') (hB : w.heap.size ≤ B) : At w' x p :=
 ⟨h.ro.kept hb hB, h.ts.kept hb hB, h.ps.kept hb hB, h.ss.kept hb hB, h.sg.kept hb hB, h.lro, h.lts, h.lps, h.lss, h.lsg⟩
def okR1 (wd dp : Int) (r : Ro) : Bool := Tp.inb r.2.1 0 wd && Tp.inb r.2.2.1 0 dp && Tp.inb r.2.2.2 0 7
def vR (wd dp : Int) (l : List Ro) : Bool := l.all (okR1 wd dp)
def okG1 (roles n last : Int) (s : Sg) : Bool := decide (last < s.id) && decide (s.id ≤ 1048576) && okSign s roles n
def vG (roles n : Int) : Int → List Sg → Bool
 | _, [] => true
 | last, s :: l => okG1 roles n last s && vG roles n s.id l
def okH (x : Wk) : Bool := Tp.inb x.wd 1 1000 && Tp.inb x.dp 1 1000 && Tm.vld x.ta x.tb x.tc && decide (0 ≤ x.ta) && decide (0 ≤ x.tb) && decide (0 < x.ro.length)
def okW (x : Wk) : Bool := okH x && vR x.wd x.dp x.ro && vG x.ro.length x.n (-1) x.sg
def chk (x : Wk) : Int :=
 if 64 < x.ro.length ∨ 4096 < x.sg.length then 2
 else if Tp.chk x.n x.ts x.ps x.ss ≠ 0 then Tp.chk x.n x.ts x.ps x.ss
 else if okW x = true then 0 else 190
def Chk (x : Wk) (p : Wa) (w : World) (r : Int) : Prop := Calls Tryz.prog 18 #[workV x p] w fun e w' => e = .returned (.int .i64 r) ∧ Below w.heap.size w w'
end Ex


theorem ex_check_1a (wd dp ta tb tc : Int) (aR : Option Addr) (nR cR : Nat) (n : Int) (aT : Option Addr) (nT cT : Nat) (aP : Option Addr) (nP cP : Nat) (aS : Option Addr) (nS cS : Nat) (aG : Option Addr) (nG cG : Nat) (w : World)
  (l1 : nR ≤ 4611686018427387904) (l2 : nG ≤ 4611686018427387904) (d0 d1 : Bool) (e0 : decide ((64 : Int) < nR) = d0) (e1 : decide ((4096 : Int) < nG) = d1) (h : (d0 || d1) = true) :
  Calls Tryz.prog 18 #[Ex.wv wd dp ta tb tc aR nR cR n aT nT cT aP nP cP aS nS cS aG nG cG] w fun e w' => e = .returned (.int .i64 2) ∧ Below w.heap.size w w' := by
 cases d0
 ·cases d1
  ·simp at h
  ·clear h
   go_enter Tryz.func18, Tryz.ntmps18
   go_wp2
   go_ret
   exact ⟨rfl, by exact Kit.gr⟩
 ·clear h e1
  go_enter Tryz.func18, Tryz.ntmps18
  go_wp2
  go_ret
  exact ⟨rfl, by exact Kit.gr⟩
theorem ex_check_1 (x : Ex.Wk) (p : Ex.Wa) (w : World) (ha : Ex.At w x p) (h : 64 < x.ro.length ∨ 4096 < x.sg.length) : Ex.Chk x p w 2 :=
 ex_check_1a _ _ _ _ _ _ _ _ _ _ _ _ _ _ _ _ _ _ _ _ _ w ha.lro ha.lsg _ _ rfl rfl (by simp; omega)

theorem ex_check_2a (wd dp ta tb tc : Int) (aR : Option Addr) (nR cR : Nat) (n : Int) (aT : Option Addr) (nT cT : Nat) (aP : Option Addr) (nP cP : Nat) (aS : Option Addr) (nS cS : Nat) (aG : Option Addr) (nG cG : Nat) (w : World)
  (l1 : (nR : Int) ≤ 64) (l2 : (nG : Int) ≤ 4096) (r : Int) (hr : (r != 0) = true) (hc : ∀ W, Below w.heap.size w W → Tp.Chk n aT nT cT aP nP cP aS nS cS W r) :
  Calls Tryz.prog 18 #[Ex.wv wd dp ta tb tc aR nR cR n aT nT cT aP nP cP aS nS cS aG nG cG] w fun e w' => e = .returned (.int .i64 r) ∧ Below w.heap.size w w' := by
 have HC := qh hc; clear hc
 go_enter Tryz.func18, Tryz.ntmps18
 skip
 (go_wp2_with (fail); refine ((HC.out _ (by exact Kit.gr) : Tp.Chk _ _ _ _ _ _ _ _ _ _ _ _)).mono ?_; rintro e w1_ ⟨rfl, hb1_⟩; have hp1_ : Below w.heap.size w w1_ := Below.trans (by exact Kit.gr) (hb1_.mono (by first | assumption | (simp; done) | (simp; omega) | omega)); have hw1_ : Below w.heap.size w w1_ := hp1_; obtain ⟨hc1_, hf1_⟩ := Kit.bcell hb1_; have z1_w : w.heap.size < w1_.heap.size := (by have := hb1_.size; first | omega | (simp at this; omega)); obtain ⟨g1_w_0, g1_w_1, g1_w_2, g1_w_3, g1_w_4, g1_w_5, g1_w_6, g1_w_7, g1_w_8, g1_w_9, g1_w_10⟩ : w1_.cell? ⟨w.heap.size, 0, none⟩ = some (.int .i64 wd) ∧ w1_.cell? ⟨w.heap.size, 1, none⟩ = some (.int .i64 dp) ∧ w1_.cell? ⟨w.heap.size, 2, none⟩ = some (.int .i64 ta) ∧ w1_.cell? ⟨w.heap.size, 3, none⟩ = some (.int .i64 tb) ∧ w1_.cell? ⟨w.heap.size, 4, none⟩ = some (.int .i64 tc) ∧ w1_.cell? ⟨w.heap.size, 5, none⟩ = some (.slice aR nR cR) ∧ w1_.cell? ⟨w.heap.size, 6, none⟩ = some (.int .i64 n) ∧ w1_.cell? ⟨w.heap.size, 7, none⟩ = some (.slice aT nT cT) ∧ w1_.cell? ⟨w.heap.size, 8, none⟩ = some (.slice aP nP cP) ∧ w1_.cell? ⟨w.heap.size, 9, none⟩ = some (.slice aS nS cS) ∧ w1_.cell? ⟨w.heap.size, 10, none⟩ = some (.slice aG nG cG) := (by refine ⟨?_, ?_, ?_, ?_, ?_, ?_, ?_, ?_, ?_, ?_, ?_⟩ <;> (rw [hc1_ _ _ (by first | assumption | (simp; done) | (simp; omega) | omega)]; first | assumption | (simp [go_sem]; done) | (simp [go_sem, *]; done))); clear hc1_ hf1_; clear hb1_ hp1_)
 go_wp2
 go_ret
 exact ⟨rfl, by exact Kit.gr⟩
theorem ex_check_2 (x : Ex.Wk) (p : Ex.Wa) (w : World) (ha : Ex.At w x p) (h : ¬ (64 < x.ro.length ∨ 4096 < x.sg.length)) (hr : Tp.chk x.n x.ts x.ps x.ss ≠ 0) : Ex.Chk x p w (Tp.chk x.n x.ts x.ps x.ss) :=
 ex_check_2a _ _ _ _ _ _ _ _ _ _ _ _ _ _ _ _ _ _ _ _ _ w omg omg _ (by simpa using hr) (fun W hB =>
  tp_check x.n p.aT x.ts p.cT p.aP x.ps p.cP p.aS x.ss p.cS W ha.lts ha.lps ha.lss (ha.ts.kept hB nlr) (ha.ps.kept hB nlr) (ha.ss.kept hB nlr))

def Ex.okHn (wd dp ta tb tc : Int) (nR : Nat) : Bool := Tp.inb wd 1 1000 && Tp.inb dp 1 1000 && Tm.vld ta tb tc && decide (0 ≤ ta) && decide (0 ≤ tb) && decide (0 < nR)
theorem t_check_t (a b c : Int) (w : World) (h : Tm.vld a b c = true) : TChk a b c 0 w := by have := t_check a b c w; rwa [if_pos h] at this
theorem t_check_f (a b c : Int) (w : World) (h : Tm.vld a b c = false) : TChk a b c 140 w := by have := t_check a b c w; rwa [if_neg (by simp [h])] at this

theorem ex_check_3a (wd dp ta tb tc : Int) (aR : Option Addr) (nR cR : Nat) (n : Int) (aT : Option Addr) (nT cT : Nat) (aP : Option Addr) (nP cP : Nat) (aS : Option Addr) (nS cS : Nat) (aG : Option Addr) (nG cG : Nat) (w : World)
  (l1 : (nR : Int) ≤ 64) (l2 : (nG : Int) ≤ 4096) (hc : ∀ W, Below w.heap.size w W → Tp.Chk n aT nT cT aP nP cP aS nS cS W 0) (h : Ex.okHn wd dp ta tb tc nR = false) :
  Calls Tryz.prog 18 #[Ex.wv wd dp ta tb tc aR nR cR n aT nT cT aP nP cP aS nS cS aG nG cG] w fun e w' => e = .returned (.int .i64 190) ∧ Below w.heap.size w w' := by
 have HC := qh hc; clear hc
 unfold Ex.okHn at h
 rcases c1 : Tp.inb wd 1 1000 with _ | _
 ·clear h
  go_enter Tryz.func18, Tryz.ntmps18
  skip
  (go_wp2_with (fail); refine ((HC.out _ (by exact Kit.gr) : Tp.Chk _ _ _ _ _ _ _ _ _ _ _ _)).mono ?_; rintro e w1_ ⟨rfl, hb1_⟩; have hp1_ : Below w.heap.size w w1_ := Below.trans (by exact Kit.gr) (hb1_.mono (by first | assumption | (simp; done) | (simp; omega) | omega)); have hw1_ : Below w.heap.size w w1_ := hp1_; obtain ⟨hc1_, hf1_⟩ := Kit.bcell hb1_; have z1_w : w.heap.size < w1_.heap.size := (by have := hb1_.size; first | omega | (simp at this; omega)); obtain ⟨g1_w_0, g1_w_1, g1_w_2, g1_w_3, g1_w_4, g1_w_5, g1_w_6, g1_w_7, g1_w_8, g1_w_9, g1_w_10⟩ : w1_.cell? ⟨w.heap.size, 0, none⟩ = some (.int .i64 wd) ∧ w1_.cell? ⟨w.heap.size, 1, none⟩ = some (.int .i64 dp) ∧ w1_.cell? ⟨w.heap.size, 2, none⟩ = some (.int .i64 ta) ∧ w1_.cell? ⟨w.heap.size, 3, none⟩ = some (.int .i64 tb) ∧ w1_.cell? ⟨w.heap.size, 4, none⟩ = some (.int .i64 tc) ∧ w1_.cell? ⟨w.heap.size, 5, none⟩ = some (.slice aR nR cR) ∧ w1_.cell? ⟨w.heap.size, 6, none⟩ = some (.int .i64 n) ∧ w1_.cell? ⟨w.heap.size, 7, none⟩ = some (.slice aT nT cT) ∧ w1_.cell? ⟨w.heap.size, 8, none⟩ = some (.slice aP nP cP) ∧ w1_.cell? ⟨w.heap.size, 9, none⟩ = some (.slice aS nS cS) ∧ w1_.cell? ⟨w.heap.size, 10, none⟩ = some (.slice aG nG cG) := (by refine ⟨?_, ?_, ?_, ?_, ?_, ?_, ?_, ?_, ?_, ?_, ?_⟩ <;> (rw [hc1_ _ _ (by first | assumption | (simp; done) | (simp; omega) | omega)]; first | assumption | (simp [go_sem]; done) | (simp [go_sem, *]; done))); clear hc1_ hf1_; clear hb1_ hp1_)
  go_wp2_with (first | (go_at_call 49; refine (ex_in _ _ _ _).mono ?_; rintro e w' ⟨rfl, rfl⟩) | (go_at_call 97; refine (ex_field _ _ _ _ _).mono ?_; rintro e w' ⟨rfl, rfl⟩))
  go_ret
  exact ⟨rfl, by exact Kit.gr⟩
 rcases c2 : Tp.inb dp 1 1000 with _ | _
 ·clear h
  go_enter Tryz.func18, Tryz.ntmps18
  skip
  (go_wp2_with (fail); refine ((HC.out _ (by exact Kit.gr) : Tp.Chk _ _ _ _ _ _ _ _ _ _ _ _)).mono ?_; rintro e w1_ ⟨rfl, hb1_⟩; have hp1_ : Below w.heap.size w w1_ := Below.trans (by exact Kit.gr) (hb1_.mono (by first | assumption | (simp; done) | (simp; omega) | omega)); have hw1_ : Below w.heap.size w w1_ := hp1_; obtain ⟨hc1_, hf1_⟩ := Kit.bcell hb1_; have z1_w : w.heap.size < w1_.heap.size := (by have := hb1_.size; first | omega | (simp at this; omega)); obtain ⟨g1_w_0, g1_w_1, g1_w_2, g1_w_3, g1_w_4, g1_w_5, g1_w_6, g1_w_7, g1_w_8, g1_w_9, g1_w_10⟩ : w1_.cell? ⟨w.heap.size, 0, none⟩ = some (.int .i64 wd) ∧ w1_.cell? ⟨w.heap.size, 1, none⟩ = some (.int .i64 dp) ∧ w1_.cell? ⟨w.heap.size, 2, none⟩ = some (.int .i64 ta) ∧ w1_.cell? ⟨w.heap.size, 3, none⟩ = some (.int .i64 tb) ∧ w1_.cell? ⟨w.heap.size, 4, none⟩ = some (.int .i64 tc) ∧ w1_.cell? ⟨w.heap.size, 5, none⟩ = some (.slice aR nR cR) ∧ w1_.cell? ⟨w.heap.size, 6, none⟩ = some (.int .i64 n) ∧ w1_.cell? ⟨w.heap.size, 7, none⟩ = some (.slice aT nT cT) ∧ w1_.cell? ⟨w.heap.size, 8, none⟩ = some (.slice aP nP cP) ∧ w1_.cell? ⟨w.heap.size, 9, none⟩ = some (.slice aS nS cS) ∧ w1_.cell? ⟨w.heap.size, 10, none⟩ = some (.slice aG nG cG) := (by refine ⟨?_, ?_, ?_, ?_, ?_, ?_, ?_, ?_, ?_, ?_, ?_⟩ <;> (rw [hc1_ _ _ (by first | assumption | (simp; done) | (simp; omega) | omega)]; first | assumption | (simp [go_sem]; done) | (simp [go_sem, *]; done))); clear hc1_ hf1_; clear hb1_ hp1_)
  go_wp2_with (first | (go_at_call 49; refine (ex_in _ _ _ _).mono ?_; rintro e w' ⟨rfl, rfl⟩) | (go_at_call 97; refine (ex_field _ _ _ _ _).mono ?_; rintro e w' ⟨rfl, rfl⟩))
  go_ret
  exact ⟨rfl, by exact Kit.gr⟩
 rcases c3 : Tm.vld ta tb tc with _ | _
 ·have HV := qh c3
  clear h c3
  go_enter Tryz.func18, Tryz.ntmps18
  skip
  (go_wp2_with (fail); refine ((HC.out _ (by exact Kit.gr) : Tp.Chk _ _ _ _ _ _ _ _ _ _ _ _)).mono ?_; rintro e w1_ ⟨rfl, hb1_⟩; have hp1_ : Below w.heap.size w w1_ := Below.trans (by exact Kit.gr) (hb1_.mono (by first | assumption | (simp; done) | (simp; omega) | omega)); have hw1_ : Below w.heap.size w w1_ := hp1_; obtain ⟨hc1_, hf1_⟩ := Kit.bcell hb1_; have z1_w : w.heap.size < w1_.heap.size := (by have := hb1_.size; first | omega | (simp at this; omega)); obtain ⟨g1_w_0, g1_w_1, g1_w_2, g1_w_3, g1_w_4, g1_w_5, g1_w_6, g1_w_7, g1_w_8, g1_w_9, g1_w_10⟩ : w1_.cell? ⟨w.heap.size, 0, none⟩ = some (.int .i64 wd) ∧ w1_.cell? ⟨w.heap.size, 1, none⟩ = some (.int .i64 dp) ∧ w1_.cell? ⟨w.heap.size, 2, none⟩ = some (.int .i64 ta) ∧ w1_.cell? ⟨w.heap.size, 3, none⟩ = some (.int .i64 tb) ∧ w1_.cell? ⟨w.heap.size, 4, none⟩ = some (.int .i64 tc) ∧ w1_.cell? ⟨w.heap.size, 5, none⟩ = some (.slice aR nR cR) ∧ w1_.cell? ⟨w.heap.size, 6, none⟩ = some (.int .i64 n) ∧ w1_.cell? ⟨w.heap.size, 7, none⟩ = some (.slice aT nT cT) ∧ w1_.cell? ⟨w.heap.size, 8, none⟩ = some (.slice aP nP cP) ∧ w1_.cell? ⟨w.heap.size, 9, none⟩ = some (.slice aS nS cS) ∧ w1_.cell? ⟨w.heap.size, 10, none⟩ = some (.slice aG nG cG) := (by refine ⟨?_, ?_, ?_, ?_, ?_, ?_, ?_, ?_, ?_, ?_, ?_⟩ <;> (rw [hc1_ _ _ (by first | assumption | (simp; done) | (simp; omega) | omega)]; first | assumption | (simp [go_sem]; done) | (simp [go_sem, *]; done))); clear hc1_ hf1_; clear hb1_ hp1_)
  (go_wp2_with ((first | (go_at_call 49; refine (ex_in _ _ _ _).mono ?_; rintro e w' ⟨rfl, rfl⟩) | (go_at_call 97; refine (ex_field _ _ _ _ _).mono ?_; rintro e w' ⟨rfl, rfl⟩))); refine ((t_check_f ta tb tc _ HV.out : TChk _ _ _ _ _)).mono ?_; rintro e w2_ ⟨rfl, hb2_⟩; have hp2_ : Below w1_.heap.size w1_ w2_ := Below.trans (by exact Kit.gr) (hb2_.mono (by first | assumption | (simp; done) | (simp; omega) | omega)); have hw2_ : Below w.heap.size w w2_ := hw1_.trans (hp2_.mono hw1_.size); have z2_w : w.heap.size < w2_.heap.size := Nat.lt_of_lt_of_le z1_w hp2_.size; have g2_w_0 := Kit.ck hp2_ g1_w_0 z1_w; have g2_w_1 := Kit.ck hp2_ g1_w_1 z1_w; have g2_w_2 := Kit.ck hp2_ g1_w_2 z1_w; have g2_w_3 := Kit.ck hp2_ g1_w_3 z1_w; have g2_w_4 := Kit.ck hp2_ g1_w_4 z1_w; have g2_w_5 := Kit.ck hp2_ g1_w_5 z1_w; have g2_w_6 := Kit.ck hp2_ g1_w_6 z1_w; have g2_w_7 := Kit.ck hp2_ g1_w_7 z1_w; have g2_w_8 := Kit.ck hp2_ g1_w_8 z1_w; have g2_w_9 := Kit.ck hp2_ g1_w_9 z1_w; have g2_w_10 := Kit.ck hp2_ g1_w_10 z1_w; clear z1_w g1_w_0 g1_w_1 g1_w_2 g1_w_3 g1_w_4 g1_w_5 g1_w_6 g1_w_7 g1_w_8 g1_w_9 g1_w_10 hw1_ hb2_ hp2_)
  go_wp2
  go_ret
  exact ⟨rfl, by exact Kit.gr⟩
 have HV := qh c3
 rcases c4 : decide (0 ≤ ta) with _ | _
 ·have c4' : decide (ta < 0) = true := by simp at c4 ⊢; omega
  clear h c3 c4
  go_enter Tryz.func18, Tryz.ntmps18
  skip
  (go_wp2_with (fail); refine ((HC.out _ (by exact Kit.gr) : Tp.Chk _ _ _ _ _ _ _ _ _ _ _ _)).mono ?_; rintro e w1_ ⟨rfl, hb1_⟩; have hp1_ : Below w.heap.size w w1_ := Below.trans (by exact Kit.gr) (hb1_.mono (by first | assumption | (simp; done) | (simp; omega) | omega)); have hw1_ : Below w.heap.size w w1_ := hp1_; obtain ⟨hc1_, hf1_⟩ := Kit.bcell hb1_; have z1_w : w.heap.size < w1_.heap.size := (by have := hb1_.size; first | omega | (simp at this; omega)); obtain ⟨g1_w_0, g1_w_1, g1_w_2, g1_w_3, g1_w_4, g1_w_5, g1_w_6, g1_w_7, g1_w_8, g1_w_9, g1_w_10⟩ : w1_.cell? ⟨w.heap.size, 0, none⟩ = some (.int .i64 wd) ∧ w1_.cell? ⟨w.heap.size, 1, none⟩ = some (.int .i64 dp) ∧ w1_.cell? ⟨w.heap.size, 2, none⟩ = some (.int .i64 ta) ∧ w1_.cell? ⟨w.heap.size, 3, none⟩ = some (.int .i64 tb) ∧ w1_.cell? ⟨w.heap.size, 4, none⟩ = some (.int .i64 tc) ∧ w1_.cell? ⟨w.heap.size, 5, none⟩ = some (.slice aR nR cR) ∧ w1_.cell? ⟨w.heap.size, 6, none⟩ = some (.int .i64 n) ∧ w1_.cell? ⟨w.heap.size, 7, none⟩ = some (.slice aT nT cT) ∧ w1_.cell? ⟨w.heap.size, 8, none⟩ = some (.slice aP nP cP) ∧ w1_.cell? ⟨w.heap.size, 9, none⟩ = some (.slice aS nS cS) ∧ w1_.cell? ⟨w.heap.size, 10, none⟩ = some (.slice aG nG cG) := (by refine ⟨?_, ?_, ?_, ?_, ?_, ?_, ?_, ?_, ?_, ?_, ?_⟩ <;> (rw [hc1_ _ _ (by first | assumption | (simp; done) | (simp; omega) | omega)]; first | assumption | (simp [go_sem]; done) | (simp [go_sem, *]; done))); clear hc1_ hf1_; clear hb1_ hp1_)
  (go_wp2_with ((first | (go_at_call 49; refine (ex_in _ _ _ _).mono ?_; rintro e w' ⟨rfl, rfl⟩) | (go_at_call 97; refine (ex_field _ _ _ _ _).mono ?_; rintro e w' ⟨rfl, rfl⟩))); refine ((t_check_t ta tb tc _ HV.out : TChk _ _ _ _ _)).mono ?_; rintro e w2_ ⟨rfl, hb2_⟩; have hp2_ : Below w1_.heap.size w1_ w2_ := Below.trans (by exact Kit.gr) (hb2_.mono (by first | assumption | (simp; done) | (simp; omega) | omega)); have hw2_ : Below w.heap.size w w2_ := hw1_.trans (hp2_.mono hw1_.size); have z2_w : w.heap.size < w2_.heap.size := Nat.lt_of_lt_of_le z1_w hp2_.size; have g2_w_0 := Kit.ck hp2_ g1_w_0 z1_w; have g2_w_1 := Kit.ck hp2_ g1_w_1 z1_w; have g2_w_2 := Kit.ck hp2_ g1_w_2 z1_w; have g2_w_3 := Kit.ck hp2_ g1_w_3 z1_w; have g2_w_4 := Kit.ck hp2_ g1_w_4 z1_w; have g2_w_5 := Kit.ck hp2_ g1_w_5 z1_w; have g2_w_6 := Kit.ck hp2_ g1_w_6 z1_w; have g2_w_7 := Kit.ck hp2_ g1_w_7 z1_w; have g2_w_8 := Kit.ck hp2_ g1_w_8 z1_w; have g2_w_9 := Kit.ck hp2_ g1_w_9 z1_w; have g2_w_10 := Kit.ck hp2_ g1_w_10 z1_w; clear z1_w g1_w_0 g1_w_1 g1_w_2 g1_w_3 g1_w_4 g1_w_5 g1_w_6 g1_w_7 g1_w_8 g1_w_9 g1_w_10 hw1_ hb2_ hp2_)
  go_wp2
  go_ret
  exact ⟨rfl, by exact Kit.gr⟩
 have c4' : decide (ta < 0) = false := by simp at c4 ⊢; omega
 rcases c5 : decide (0 ≤ tb) with _ | _
 ·have c5' : decide (tb < 0) = true := by simp at c5 ⊢; omega
  clear h c3 c4 c5
  go_enter Tryz.func18, Tryz.ntmps18
  skip
  (go_wp2_with (fail); refine ((HC.out _ (by exact Kit.gr) : Tp.Chk _ _ _ _ _ _ _ _ _ _ _ _)).mono ?_; rintro e w1_ ⟨rfl, hb1_⟩; have hp1_ : Below w.heap.size w w1_ := Below.trans (by exact Kit.gr) (hb1_.mono (by first | assumption | (simp; done) | (simp; omega) | omega)); have hw1_ : Below w.heap.size w w1_ := hp1_; obtain ⟨hc1_, hf1_⟩ := Kit.bcell hb1_; have z1_w : w.heap.size < w1_.heap.size := (by have := hb1_.size; first | omega | (simp at this; omega)); obtain ⟨g1_w_0, g1_w_1, g1_w_2, g1_w_3, g1_w_4, g1_w_5, g1_w_6, g1_w_7, g1_w_8, g1_w_9, g1_w_10⟩ : w1_.cell? ⟨w.heap.size, 0, none⟩ = some (.int .i64 wd) ∧ w1_.cell? ⟨w.heap.size, 1, none⟩ = some (.int .i64 dp) ∧ w1_.cell? ⟨w.heap.size, 2, none⟩ = some (.int .i64 ta) ∧ w1_.cell? ⟨w.heap.size, 3, none⟩ = some (.int .i64 tb) ∧ w1_.cell? ⟨w.heap.size, 4, none⟩ = some (.int .i64 tc) ∧ w1_.cell? ⟨w.heap.size, 5, none⟩ = some (.slice aR nR cR) ∧ w1_.cell? ⟨w.heap.size, 6, none⟩ = some (.int .i64 n) ∧ w1_.cell? ⟨w.heap.size, 7, none⟩ = some (.slice aT nT cT) ∧ w1_.cell? ⟨w.heap.size, 8, none⟩ = some (.slice aP nP cP) ∧ w1_.cell? ⟨w.heap.size, 9, none⟩ = some (.slice aS nS cS) ∧ w1_.cell? ⟨w.heap.size, 10, none⟩ = some (.slice aG nG cG) := (by refine ⟨?_, ?_, ?_, ?_, ?_, ?_, ?_, ?_, ?_, ?_, ?_⟩ <;> (rw [hc1_ _ _ (by first | assumption | (simp; done) | (simp; omega) | omega)]; first | assumption | (simp [go_sem]; done) | (simp [go_sem, *]; done))); clear hc1_ hf1_; clear hb1_ hp1_)
  (go_wp2_with ((first | (go_at_call 49; refine (ex_in _ _ _ _).mono ?_; rintro e w' ⟨rfl, rfl⟩) | (go_at_call 97; refine (ex_field _ _ _ _ _).mono ?_; rintro e w' ⟨rfl, rfl⟩))); refine ((t_check_t ta tb tc _ HV.out : TChk _ _ _ _ _)).mono ?_; rintro e w2_ ⟨rfl, hb2_⟩; have hp2_ : Below w1_.heap.size w1_ w2_ := Below.trans (by exact Kit.gr) (hb2_.mono (by first | assumption | (simp; done) | (simp; omega) | omega)); have hw2_ : Below w.heap.size w w2_ := hw1_.trans (hp2_.mono hw1_.size); have z2_w : w.heap.size < w2_.heap.size := Nat.lt_of_lt_of_le z1_w hp2_.size; have g2_w_0 := Kit.ck hp2_ g1_w_0 z1_w; have g2_w_1 := Kit.ck hp2_ g1_w_1 z1_w; have g2_w_2 := Kit.ck hp2_ g1_w_2 z1_w; have g2_w_3 := Kit.ck hp2_ g1_w_3 z1_w; have g2_w_4 := Kit.ck hp2_ g1_w_4 z1_w; have g2_w_5 := Kit.ck hp2_ g1_w_5 z1_w; have g2_w_6 := Kit.ck hp2_ g1_w_6 z1_w; have g2_w_7 := Kit.ck hp2_ g1_w_7 z1_w; have g2_w_8 := Kit.ck hp2_ g1_w_8 z1_w; have g2_w_9 := Kit.ck hp2_ g1_w_9 z1_w; have g2_w_10 := Kit.ck hp2_ g1_w_10 z1_w; clear z1_w g1_w_0 g1_w_1 g1_w_2 g1_w_3 g1_w_4 g1_w_5 g1_w_6 g1_w_7 g1_w_8 g1_w_9 g1_w_10 hw1_ hb2_ hp2_)
  go_wp2
  go_ret
  exact ⟨rfl, by exact Kit.gr⟩
 have c5' : decide (tb < 0) = false := by simp at c5 ⊢; omega
 rcases c6 : decide (0 < nR) with _ | _
 ·have c6' : ((nR : Int) == 0) = true := by simp at c6 ⊢; omega
  clear h c3 c4 c5 c6
  go_enter Tryz.func18, Tryz.ntmps18
  skip
  (go_wp2_with (fail); refine ((HC.out _ (by exact Kit.gr) : Tp.Chk _ _ _ _ _ _ _ _ _ _ _ _)).mono ?_; rintro e w1_ ⟨rfl, hb1_⟩; have hp1_ : Below w.heap.size w w1_ := Below.trans (by exact Kit.gr) (hb1_.mono (by first | assumption | (simp; done) | (simp; omega) | omega)); have hw1_ : Below w.heap.size w w1_ := hp1_; obtain ⟨hc1_, hf1_⟩ := Kit.bcell hb1_; have z1_w : w.heap.size < w1_.heap.size := (by have := hb1_.size; first | omega | (simp at this; omega)); obtain ⟨g1_w_0, g1_w_1, g1_w_2, g1_w_3, g1_w_4, g1_w_5, g1_w_6, g1_w_7, g1_w_8, g1_w_9, g1_w_10⟩ : w1_.cell? ⟨w.heap.size, 0, none⟩ = some (.int .i64 wd) ∧ w1_.cell? ⟨w.heap.size, 1, none⟩ = some (.int .i64 dp) ∧ w1_.cell? ⟨w.heap.size, 2, none⟩ = some (.int .i64 ta) ∧ w1_.cell? ⟨w.heap.size, 3, none⟩ = some (.int .i64 tb) ∧ w1_.cell? ⟨w.heap.size, 4, none⟩ = some (.int .i64 tc) ∧ w1_.cell? ⟨w.heap.size, 5, none⟩ = some (.slice aR nR cR) ∧ w1_.cell? ⟨w.heap.size, 6, none⟩ = some (.int .i64 n) ∧ w1_.cell? ⟨w.heap.size, 7, none⟩ = some (.slice aT nT cT) ∧ w1_.cell? ⟨w.heap.size, 8, none⟩ = some (.slice aP nP cP) ∧ w1_.cell? ⟨w.heap.size, 9, none⟩ = some (.slice aS nS cS) ∧ w1_.cell? ⟨w.heap.size, 10, none⟩ = some (.slice aG nG cG) := (by refine ⟨?_, ?_, ?_, ?_, ?_, ?_, ?_, ?_, ?_, ?_, ?_⟩ <;> (rw [hc1_ _ _ (by first | assumption | (simp; done) | (simp; omega) | omega)]; first | assumption | (simp [go_sem]; done) | (simp [go_sem, *]; done))); clear hc1_ hf1_; clear hb1_ hp1_)
  (go_wp2_with ((first | (go_at_call 49; refine (ex_in _ _ _ _).mono ?_; rintro e w' ⟨rfl, rfl⟩) | (go_at_call 97; refine (ex_field _ _ _ _ _).mono ?_; rintro e w' ⟨rfl, rfl⟩))); refine ((t_check_t ta tb tc _ HV.out : TChk _ _ _ _ _)).mono ?_; rintro e w2_ ⟨rfl, hb2_⟩; have hp2_ : Below w1_.heap.size w1_ w2_ := Below.trans (by exact Kit.gr) (hb2_.mono (by first | assumption | (simp; done) | (simp; omega) | omega)); have hw2_ : Below w.heap.size w w2_ := hw1_.trans (hp2_.mono hw1_.size); have z2_w : w.heap.size < w2_.heap.size := Nat.lt_of_lt_of_le z1_w hp2_.size; have g2_w_0 := Kit.ck hp2_ g1_w_0 z1_w; have g2_w_1 := Kit.ck hp2_ g1_w_1 z1_w; have g2_w_2 := Kit.ck hp2_ g1_w_2 z1_w; have g2_w_3 := Kit.ck hp2_ g1_w_3 z1_w; have g2_w_4 := Kit.ck hp2_ g1_w_4 z1_w; have g2_w_5 := Kit.ck hp2_ g1_w_5 z1_w; have g2_w_6 := Kit.ck hp2_ g1_w_6 z1_w; have g2_w_7 := Kit.ck hp2_ g1_w_7 z1_w; have g2_w_8 := Kit.ck hp2_ g1_w_8 z1_w; have g2_w_9 := Kit.ck hp2_ g1_w_9 z1_w; have g2_w_10 := Kit.ck hp2_ g1_w_10 z1_w; clear z1_w g1_w_0 g1_w_1 g1_w_2 g1_w_3 g1_w_4 g1_w_5 g1_w_6 g1_w_7 g1_w_8 g1_w_9 g1_w_10 hw1_ hb2_ hp2_)
  go_wp2
  go_ret
  exact ⟨rfl, by exact Kit.gr⟩
 simp [c1, c2, c3, c4, c5, c6] at h
theorem ex_check_3 (x : Ex.Wk) (p : Ex.Wa) (w : World) (ha : Ex.At w x p) (h : ¬ (64 < x.ro.length ∨ 4096 < x.sg.length)) (hr : Tp.chk x.n x.ts x.ps x.ss = 0) (hh : Ex.okH x = false) : Ex.Chk x p w 190 :=
 ex_check_3a _ _ _ _ _ _ _ _ _ _ _ _ _ _ _ _ _ _ _ _ _ w omg omg (fun W hB => by
  have := tp_check x.n p.aT x.ts p.cT p.aP x.ps p.cP p.aS x.ss p.cS W ha.lts ha.lps ha.lss (ha.ts.kept hB nlr) (ha.ps.kept hB nlr) (ha.ss.kept hB nlr)
  rwa [hr] at this) hh
end Go.Proofs.YtedolbjgdedoaaaGreatDoor

namespace Go.Proofs.YtedolbjgdedoaaaGreatDoor
open Go.RowKit

theorem Ex.r_bad {r : Int} {a b : Bool} (hr : Hid (r = if (a && b) = true then 0 else 190)) (h : (a && b) = false) : Ending.returned (.int .i64 190) = .returned (.int .i64 r) := by rw [hr.out, if_neg (by simp [h])]
theorem Ex.r_good {r : Int} {a b : Bool} (hr : Hid (r = if (a && b) = true then 0 else 190)) (h : (a && b) = true) : Ending.returned (.int .i64 0) = .returned (.int .i64 r) := by rw [hr.out, if_pos h]

theorem ex_check_4 (wd dp ta tb tc : Int) (aR : Option Addr) (ro : List Ex.Ro) (cR : Nat) (n : Int) (aT : Option Addr) (nT cT : Nat) (aP : Option Addr) (nP cP : Nat) (aS : Option Addr) (nS cS : Nat) (aG : Option Addr) (sg : List Ex.Sg) (cG : Nat) (w : World)
  (l1 : (ro.length : Int) ≤ 64) (l2 : (sg.length : Int) ≤ 4096) (hc : ∀ W, Below w.heap.size w W → Tp.Chk n aT nT cT aP nP cP aS nS cS W 0) (h : Ex.okHn wd dp ta tb tc ro.length = true)
  (hR : Tp.Sl w aR ro.length 4 (Ex.roc ro)) (hG : Tp.Sl w aG sg.length 14 (Ex.sgc sg)) (hl : Ex.Laid w) (n1 : 1 ≤ n) (n2 : n ≤ 4096) (r : Int) (hr : Hid (r = if (Ex.vR wd dp ro && Ex.vG ro.length n (-1) sg) = true then 0 else 190)) :
  Calls Tryz.prog 18 #[Ex.wv wd dp ta tb tc aR ro.length cR n aT nT cT aP nP cP aS nS cS aG sg.length cG] w fun e w' => e = .returned (.int .i64 r) ∧ Below w.heap.size w w' := by
 have HC := qh hc; clear hc
 have HR := qh hR; clear hR
 have HG := qh hG; clear hG
 have HL := qh hl; clear hl
 simp only [Ex.okHn, Bool.and_eq_true, decide_eq_true_eq] at h
 obtain ⟨⟨⟨⟨⟨c1, c2⟩, c3⟩, c4⟩, c5⟩, c6⟩ := h
 have HV := qh c3; clear c3
 have wd1 := (Tp.inb_iff _ _ _).1 c1
 have dp1 := (Tp.inb_iff _ _ _).1 c2
 have c4' : decide (ta < 0) = false := by simp; omega
 have c5' : decide (tb < 0) = false := by simp; omega
 have c6' : ((ro.length : Int) == 0) = false := by simp; intro h; simp [h] at c6
 go_enter Tryz.func18, Tryz.ntmps18
 skip
 (go_wp2_with (fail); refine ((HC.out _ (by exact Kit.gr) : Tp.Chk _ _ _ _ _ _ _ _ _ _ _ _)).mono ?_; rintro e w1_ ⟨rfl, hb1_⟩; have hp1_ : Below w.heap.size w w1_ := Below.trans (by exact Kit.gr) (hb1_.mono (by first | assumption | (simp; done) | (simp; omega) | omega)); have hw1_ : Below w.heap.size w w1_ := hp1_; obtain ⟨hc1_, hf1_⟩ := Kit.bcell hb1_; have z1_w : w.heap.size < w1_.heap.size := (by have := hb1_.size; first | omega | (simp at this; omega)); obtain ⟨g1_w_0, g1_w_1, g1_w_2, g1_w_3, g1_w_4, g1_w_5, g1_w_6, g1_w_7, g1_w_8, g1_w_9, g1_w_10⟩ : w1_.cell? ⟨w.heap.size, 0, none⟩ = some (.int .i64 wd) ∧ w1_.cell? ⟨w.heap.size, 1, none⟩ = some (.int .i64 dp) ∧ w1_.cell? ⟨w.heap.size, 2, none⟩ = some (.int .i64 ta) ∧ w1_.cell? ⟨w.heap.size, 3, none⟩ = some (.int .i64 tb) ∧ w1_.cell? ⟨w.heap.size, 4, none⟩ = some (.int .i64 tc) ∧ w1_.cell? ⟨w.heap.size, 5, none⟩ = some (.slice aR ro.length cR) ∧ w1_.cell? ⟨w.heap.size, 6, none⟩ = some (.int .i64 n) ∧ w1_.cell? ⟨w.heap.size, 7, none⟩ = some (.slice aT nT cT) ∧ w1_.cell? ⟨w.heap.size, 8, none⟩ = some (.slice aP nP cP) ∧ w1_.cell? ⟨w.heap.size, 9, none⟩ = some (.slice aS nS cS) ∧ w1_.cell? ⟨w.heap.size, 10, none⟩ = some (.slice aG sg.length cG) := (by refine ⟨?_, ?_, ?_, ?_, ?_, ?_, ?_, ?_, ?_, ?_, ?_⟩ <;> (rw [hc1_ _ _ (by first | assumption | (simp; done) | (simp; omega) | omega)]; first | assumption | (simp [go_sem]; done) | (simp [go_sem, *]; done))); clear hc1_ hf1_; clear hb1_ hp1_)
 (go_wp2_with ((first | (go_at_call 49; refine (ex_in _ _ _ _).mono ?_; rintro e w' ⟨rfl, rfl⟩) | (go_at_call 97; refine (ex_field _ _ _ _ _).mono ?_; rintro e w' ⟨rfl, rfl⟩))); refine ((t_check_t ta tb tc _ HV.out : TChk _ _ _ _ _)).mono ?_; rintro e w2_ ⟨rfl, hb2_⟩; have hp2_ : Below w1_.heap.size w1_ w2_ := Below.trans (by exact Kit.gr) (hb2_.mono (by first | assumption | (simp; done) | (simp; omega) | omega)); have hw2_ : Below w.heap.size w w2_ := hw1_.trans (hp2_.mono hw1_.size); have z2_w : w.heap.size < w2_.heap.size := Nat.lt_of_lt_of_le z1_w hp2_.size; have g2_w_0 := Kit.ck hp2_ g1_w_0 z1_w; have g2_w_1 := Kit.ck hp2_ g1_w_1 z1_w; have g2_w_2 := Kit.ck hp2_ g1_w_2 z1_w; have g2_w_3 := Kit.ck hp2_ g1_w_3 z1_w; have g2_w_4 := Kit.ck hp2_ g1_w_4 z1_w; have g2_w_5 := Kit.ck hp2_ g1_w_5 z1_w; have g2_w_6 := Kit.ck hp2_ g1_w_6 z1_w; have g2_w_7 := Kit.ck hp2_ g1_w_7 z1_w; have g2_w_8 := Kit.ck hp2_ g1_w_8 z1_w; have g2_w_9 := Kit.ck hp2_ g1_w_9 z1_w; have g2_w_10 := Kit.ck hp2_ g1_w_10 z1_w; clear z1_w g1_w_0 g1_w_1 g1_w_2 g1_w_3 g1_w_4 g1_w_5 g1_w_6 g1_w_7 g1_w_8 g1_w_9 g1_w_10 hw1_ hb2_ hp2_)
 go_wp2
 refine Kit.wp_name ?_
 intro W0 hW0
 have b0 : Below w.heap.size w W0 := by rw [hW0]; exact Kit.gr
 have k0 : W0.cell? ⟨w.heap.size, 0, none⟩ = some (.int .i64 wd) := by rw [hW0]; assumption
 have k1 : W0.cell? ⟨w.heap.size, 1, none⟩ = some (.int .i64 dp) := by rw [hW0]; assumption
 have k5 : W0.cell? ⟨w.heap.size, 5, none⟩ = some (.slice aR ro.length cR) := by rw [hW0]; assumption
 have k6 : W0.cell? ⟨w.heap.size, 6, none⟩ = some (.int .i64 n) := by rw [hW0]; assumption
 have k10 : W0.cell? ⟨w.heap.size, 10, none⟩ = some (.slice aG sg.length cG) := by rw [hW0]; assumption
 have s0 : w.heap.size < W0.heap.size := by rw [hW0]; assumption
 have K0 := qh k0; have K1 := qh k1; have K5 := qh k5; have K6 := qh k6; have K10 := qh k10
 clear k0 k1 k5 k6 k10 hW0 g2_w_0 g2_w_1 g2_w_2 g2_w_3 g2_w_4 g2_w_5 g2_w_6 g2_w_7 g2_w_8 g2_w_9 g2_w_10
 go_loopw [62] (fun v62 wr => ∃ k : Nat, v62 = .int .i64 k ∧ k ≤ ro.length ∧ Hid (Ex.vR wd dp ro = Ex.vR wd dp (ro.drop k)) ∧ Below W0.heap.size W0 wr)
  (fun v62 _ => ro.length - (intOf v62).toNat)
 case atStart => exact ⟨0, rfl, Nat.zero_le _, by show _ = _; simp, Below.refl _ _⟩
 case round =>
  obtain ⟨k, rfl, hk, HVR, hB⟩ := hrel
  have hwr : Below w.heap.size w wr := b0.trans (hB.mono b0.size)
  by_cases hlt : k < ro.length
  ·obtain ⟨ar, rfl, har, _⟩ := HR.out.at hlt
   have HSl := (HR.out.kept b0 nlr).kept hB nlr
   have e0 := HSl.head hlt omg
   have e1 := HSl.field hlt (j := 1) omg omg
   have e2 := HSl.field hlt (j := 2) omg omg
   have e3 := HSl.field hlt (j := 3) omg omg
   clear HSl
   have hdrop := Tp.drop_cons ro (.empty, 0, 0, 0) k hlt
   generalize hx : ro.getD k (.empty, 0, 0, 0) = x at hdrop
   simp only [Ex.roc, hx] at e0 e1 e2 e3
   obtain ⟨xn, xx, xy, xf⟩ := x
   dsimp only at e0 e1 e2 e3
   have hV : Ex.vR wd dp ro = (Ex.okR1 wd dp (xn, xx, xy, xf) && Ex.vR wd dp (ro.drop (k + 1))) := by rw [HVR.out, hdrop]; rfl
   have HV2 := qh hV
   have HX := qh hx
   clear hV hdrop hx HVR
   have hbk : (ar.add (k * 4)).block < w.heap.size := by rw [Tp.add_block]; exact har
   have k0 : wr.cell? ⟨w.heap.size, 0, none⟩ = some (.int .i64 wd) := (hB.cell (by simpa using s0)).trans K0.out
   have k1 : wr.cell? ⟨w.heap.size, 1, none⟩ = some (.int .i64 dp) := (hB.cell (by simpa using s0)).trans K1.out
   have z0 : w.heap.size < wr.heap.size := by have h5 := hB.size; omega
   have HB := qh hB
   have HWR := qh hwr
   have zb : (ar.add (k * 4)).block < wr.heap.size := by omega
   clear hB hwr
   rcases d1 : Tp.inb xx 0 wd with _ | _
   ·go_wp2_with (first | (go_at_call 49; refine (ex_in _ _ _ _).mono ?_; rintro e w' ⟨rfl, rfl⟩) | (go_at_call 97; refine (ex_field _ _ _ _ _).mono ?_; rintro e w' ⟨rfl, rfl⟩))
    go_ret
    exact ⟨Ex.r_bad hr (by rw [HV2.out]; simp [Ex.okR1, d1]), by have := HWR.out; exact Kit.gr⟩
   rcases d2 : Tp.inb xy 0 dp with _ | _
   ·go_wp2_with (first | (go_at_call 49; refine (ex_in _ _ _ _).mono ?_; rintro e w' ⟨rfl, rfl⟩) | (go_at_call 97; refine (ex_field _ _ _ _ _).mono ?_; rintro e w' ⟨rfl, rfl⟩))
    go_ret
    exact ⟨Ex.r_bad hr (by rw [HV2.out]; simp [Ex.okR1, d2]), by have := HWR.out; exact Kit.gr⟩
   rcases d3 : Tp.inb xf 0 7 with _ | _
   ·go_wp2_with (first | (go_at_call 49; refine (ex_in _ _ _ _).mono ?_; rintro e w' ⟨rfl, rfl⟩) | (go_at_call 97; refine (ex_field _ _ _ _ _).mono ?_; rintro e w' ⟨rfl, rfl⟩))
    go_ret
    exact ⟨Ex.r_bad hr (by rw [HV2.out]; simp [Ex.okR1, d3]), by have := HWR.out; exact Kit.gr⟩
   go_wp2_with (first | (go_at_call 49; refine (ex_in _ _ _ _).mono ?_; rintro e w' ⟨rfl, rfl⟩) | (go_at_call 97; refine (ex_field _ _ _ _ _).mono ?_; rintro e w' ⟨rfl, rfl⟩))
   go_roundw
   case rel => exact ⟨k + 1, by go_num, by omega, (by show _ = _; rw [HV2.out]; simp [Ex.okR1, d1, d2, d3]), (by have := HB.out; exact Kit.gr)⟩
   case measure => simp [intOf]; omega
  ·have hvr : Ex.vR wd dp ro = true := by rw [HVR.out, List.drop_of_length_le omg]; rfl
   have HVRT := qh hvr
   have HB := qh hB
   have k10 : wr.cell? ⟨w.heap.size, 10, none⟩ = some (.slice aG sg.length cG) := (hB.cell (by simpa using s0)).trans K10.out
   clear hvr HVR hB hwr
   go_wp2
   clear k10
   refine Kit.wp_name ?_
   intro W1 hW1
   have hB1 : Below W0.heap.size W0 W1 := by rw [hW1]; exact HB.out
   clear hW1 HB
   go_loopw [6, 90] (fun v6 v90 wr => ∃ (k : Nat) (last : Int), v6 = .int .i64 last ∧ v90 = .int .i64 k ∧ k ≤ sg.length ∧ Hid (Ex.vG ro.length n (-1) sg = Ex.vG ro.length n last (sg.drop k)) ∧ Below W0.heap.size W0 wr)
    (fun _ v90 _ => sg.length - (intOf v90).toNat)
   case atStart => exact ⟨0, -1, rfl, rfl, Nat.zero_le _, by show _ = _; simp, hB1⟩
   case round =>
    obtain ⟨k, last, rfl, rfl, hk, HVG, hB⟩ := hrel
    have hwr : Below w.heap.size w wr := b0.trans (hB.mono b0.size)
    by_cases hlt : k < sg.length
    ·obtain ⟨ay, rfl, hay, _⟩ := HG.out.at hlt
     have HSl := (HG.out.kept b0 nlr).kept hB nlr
     have e0 := HSl.head hlt omg
     have e1 := HSl.field hlt (j := 1) omg omg
     have e2 := HSl.field hlt (j := 2) omg omg
     have e3 := HSl.field hlt (j := 3) omg omg
     have e4 := HSl.field hlt (j := 4) omg omg
     have e5 := HSl.field hlt (j := 5) omg omg
     have e6 := HSl.field hlt (j := 6) omg omg
     have e7 := HSl.field hlt (j := 7) omg omg
     have e8 := HSl.field hlt (j := 8) omg omg
     have e9 := HSl.field hlt (j := 9) omg omg
     have e10 := HSl.field hlt (j := 10) omg omg
     have e11 := HSl.field hlt (j := 11) omg omg
     have e12 := HSl.field hlt (j := 12) omg omg
     have e13 := HSl.field hlt (j := 13) omg omg
     clear HSl
     have hdrop := Tp.drop_cons sg default k hlt
     generalize hx : sg.getD k default = x at hdrop
     simp only [Ex.sgc, hx] at e0 e1 e2 e3 e4 e5 e6 e7 e8 e9 e10 e11 e12 e13
     have hV : Ex.vG ro.length n (-1) sg = (Ex.okG1 ro.length n last x && Ex.vG ro.length n x.id (sg.drop (k + 1))) := by rw [HVG.out, hdrop]; rfl
     have HV2 := qh hV
     have HX := qh hx
     clear hV hdrop hx HVG
     have hright : ∀ W, Below w.heap.size w W → Ex.Right x ro.length n W (Ex.okSign x ro.length n) := fun W hW => ex_right x ro.length n W omg omg omg omg (HL.out.kept hW nlr)
     have HRI := qh hright; clear hright
     have hbk : (ay.add (k * 14)).block < w.heap.size := by rw [Tp.add_block]; exact hay
     have k5 : wr.cell? ⟨w.heap.size, 5, none⟩ = some (.slice aR ro.length cR) := (hB.cell (by simpa using s0)).trans K5.out
     have k6 : wr.cell? ⟨w.heap.size, 6, none⟩ = some (.int .i64 n) := (hB.cell (by simpa using s0)).trans K6.out
     have z0 : w.heap.size < wr.heap.size := by have h5 := hB.size; omega
     have HB := qh hB
     have HWR := qh hwr
     have zb : (ay.add (k * 14)).block < wr.heap.size := by omega
     clear hB hwr hB1
     rcases d1 : decide (last < x.id) with _ | _
     ·have d1' : decide (x.id ≤ last) = true := by simp at d1 ⊢; omega
      go_wp2
      go_ret
      exact ⟨Ex.r_bad hr (by rw [HV2.out]; simp only [Ex.okG1, d1]; simp), by have := HWR.out; exact Kit.gr⟩
     have d1' : decide (x.id ≤ last) = false := by simp at d1 ⊢; omega
     rcases d2 : decide (x.id ≤ 1048576) with _ | _
     ·have d2' : decide (1048576 < x.id) = true := by simp at d2 ⊢; omega
      go_wp2
      go_ret
      exact ⟨Ex.r_bad hr (by rw [HV2.out]; simp only [Ex.okG1, d2]; simp), by have := HWR.out; exact Kit.gr⟩
     have d2' : decide (1048576 < x.id) = false := by simp at d2 ⊢; omega
     go_wp2_with fail
     refine (show Ex.Right x ro.length n _ _ from HRI.out _ (by have := HWR.out; exact Kit.gr)).mono ?_
     rintro e w3 ⟨rfl, hb3⟩
     obtain ⟨hc3, hf3⟩ := Kit.bcell hb3
     have p0 : w3.cell? ⟨wr.heap.size, 0, none⟩ = some (.int .i64 x.id) := by rw [hc3 _ _ (by simp)]; simp [go_sem]
     have HB3 := qh (show Below W0.heap.size W0 w3 from HB.out.trans (Below.trans (by exact Kit.gr) (hb3.mono (by simp; have := HB.out.size; omega))))
     have HW3 := qh (show Below w.heap.size w w3 from HWR.out.trans (Below.trans (by exact Kit.gr) (hb3.mono (by simp; omega))))
     clear hc3 hf3 hb3 e0 e1 e2 e3 e4 e5 e6 e7 e8 e9 e10 e11 e12 e13 k5 k6
     rcases d3 : Ex.okSign x ro.length n with _ | _
     ·go_wp2
      go_ret
      exact ⟨Ex.r_bad hr (by rw [HV2.out]; simp only [Ex.okG1, d3]; simp), HW3.out⟩
     ·go_wp2
      go_roundw
      case rel => exact ⟨k + 1, x.id, rfl, by go_num, by omega, (by show _ = _; rw [HV2.out]; simp only [Ex.okG1, d1, d2, d3]; simp), HB3.out⟩
      case measure => simp [intOf]; omega
    ·have HWR := qh hwr
     have hvg : Ex.vG ro.length n (-1) sg = true := by rw [HVG.out, List.drop_of_length_le omg]; rfl
     have hgood := qh (Ex.r_good hr (by rw [HVRT.out, hvg]; rfl))
     clear hB hwr hB1 hvg
     go_wp2
     go_ret
     exact ⟨hgood.out, HWR.out⟩

theorem ex_check (x : Ex.Wk) (p : Ex.Wa) (w : World) (ha : Ex.At w x p) (hl : Ex.Laid w) : Ex.Chk x p w (Ex.chk x) := by
 unfold Ex.chk
 by_cases h : 64 < x.ro.length ∨ 4096 < x.sg.length
 ·rw [if_pos h]; exact ex_check_1 x p w ha h
 rw [if_neg h]
 by_cases hr : Tp.chk x.n x.ts x.ps x.ss = 0
 ·rw [if_neg (by simpa using hr)]
  rcases hh : Ex.okH x with _ | _
  ·rw [if_neg (by simp [Ex.okW, hh])]; exact ex_check_3 x p w ha h hr hh
  ·have hn : 1 ≤ x.n ∧ x.n ≤ 4096 := by
    have hok : Tp.okC x.n x.ts x.ps x.ss = true := by
     unfold Tp.chk at hr
     split at hr
     ·rcases hc : Tp.okC x.n x.ts x.ps x.ss with _ | _
      ·simp [hc] at hr
      ·rfl
     ·omega
    simp only [Tp.okC, Bool.and_eq_true] at hok
    exact (Tp.inb_iff _ _ _).1 hok.1.1.1.1.1.1
   exact ex_check_4 x.wd x.dp x.ta x.tb x.tc p.aR x.ro p.cR x.n p.aT _ p.cT p.aP _ p.cP p.aS _ p.cS p.aG x.sg p.cG w omg omg (fun W hB => by
    have := tp_check x.n p.aT x.ts p.cT p.aP x.ps p.cP p.aS x.ss p.cS W ha.lts ha.lps ha.lss (ha.ts.kept hB nlr) (ha.ps.kept hB nlr) (ha.ss.kept hB nlr)
    rwa [hr] at this) hh ha.ro ha.sg hl hn.1 hn.2 _ (by show _ = _; simp [Ex.okW, hh])
 ·rw [if_pos hr]; exact ex_check_2 x p w ha h hr
end Go.Proofs.YtedolbjgdedoaaaGreatDoor
