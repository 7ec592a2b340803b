/- Walks: package apart: in, places; what Shift and Join answer, in one word each. -/
import Derived.Test.YtjoieglhmladhaaDoorRa
import Derived.Test.YtjoieglhmladhaaDoorSp
import Derived.Test.YtjoieglhmladhaaDoorTp
import Derived.Test.YtjoieglhmladhaaDoorApA
namespace Go.Proofs.YtjoieglhmladhaaDoor
set_option linter.unusedVariables false
set_option linter.unusedSimpArgs false
open Go.RowKit Go.Shelf

namespace Sp
/-- A box and an error. -/
abbrev BE := Int × Int × Int × Int × Int
def shR (a b c d p q : Int) : BE :=
  if okBox a b c d = true then (if [p, q].all (inB 2199023255552) = true then (if okBox (a + p) (b + p) (c + q) (d + q) = true then (a + p, b + p, c + q, d + q, 0) else (0, 0, 0, 0, 2)) else (0, 0, 0, 0, 2)) else (0, 0, 0, 0, 150)
def joR (a b c d a' b' c' d' : Int) : BE :=
  if okBox a b c d = true then (if okBox a' b' c' d' = true then (Kit.mn2 a a', Kit.mx2 b b', Kit.mn2 c c', Kit.mx2 d d', 0) else (0, 0, 0, 0, 150)) else (0, 0, 0, 0, 150)
theorem okBox_bd {a b c d : Int} (h : okBox a b c d = true) : -1099511627776 ≤ a ∧ a ≤ 1099511627776 ∧ -1099511627776 ≤ b ∧ b ≤ 1099511627776 ∧ -1099511627776 ≤ c ∧ c ≤ 1099511627776 ∧ -1099511627776 ≤ d ∧ d ≤ 1099511627776 := by
  simp [okBox, inB] at h
  omega
end Sp
theorem sp_shift (a b c d p q : Int) (w : World) : Sp.ShiftIs a b c d p q w (Sp.shR a b c d p q).1 (Sp.shR a b c d p q).2.1 (Sp.shR a b c d p q).2.2.1 (Sp.shR a b c d p q).2.2.2.1 (Sp.shR a b c d p q).2.2.2.2 := by
  unfold Sp.shR
  rcases h : Sp.okBox a b c d with _ | _
  · simpa using sp_shift_1 a b c d p q w h
  · rcases h2 : [p, q].all (Sp.inB 2199023255552) with _ | _
    · simpa using sp_shift_2 a b c d p q w h h2
    · have hb := Sp.okBox_bd h
      have hp : -2199023255552 ≤ p ∧ p ≤ 2199023255552 ∧ -2199023255552 ≤ q ∧ q ≤ 2199023255552 := by
        simp [Sp.inB] at h2
        omega
      rcases h3 : Sp.okBox (a + p) (b + p) (c + q) (d + q) with _ | _
      · simpa using sp_shift_3 a b c d p q w h h2 h3 (by omega)
      · simpa using sp_shift_4 a b c d p q w h h2 h3 (by omega)
theorem sp_join (a b c d a' b' c' d' : Int) (w : World) : Sp.JoinIs a b c d a' b' c' d' w (Sp.joR a b c d a' b' c' d').1 (Sp.joR a b c d a' b' c' d').2.1 (Sp.joR a b c d a' b' c' d').2.2.1 (Sp.joR a b c d a' b' c' d').2.2.2.1 (Sp.joR a b c d a' b' c' d').2.2.2.2 := by
  unfold Sp.joR
  rcases h : Sp.okBox a b c d with _ | _
  · simpa using sp_join_1 a b c d a' b' c' d' w h
  · rcases h2 : Sp.okBox a' b' c' d' with _ | _
    · simpa using sp_join_2 a b c d a' b' c' d' w h h2
    · simpa using sp_join_3 a b c d a' b' c' d' w h h2

theorem ap_in (n lo hi : Int) (w : World) : Calls Tryd.prog 36 #[.int .i64 n, .int .i64 lo, .int .i64 hi] w fun e w' => e = .returned (.bool (Tp.inb n lo hi)) ∧ w = w' := by
  have fin : ∀ p q : Bool, decide (lo ≤ n) = p → decide (n ≤ hi) = q → Calls Tryd.prog 36 #[.int .i64 n, .int .i64 lo, .int .i64 hi] w fun e w' => e = .returned (.bool (p && q)) ∧ w = w' := by
    intro p q hp hq
    cases p <;> cases q <;>
    · go_enter Tryd.func36, Tryd.ntmps36
      go_wp2
      go_ret
      exact ⟨rfl, rfl⟩
  exact fin _ _ rfl rfl

namespace Ap
/-- A wagon. -/
structure Wg where
  a : Int
  b : Int
  c : Int
  d : Int
  f : Int
  l : Int
  x : Int
  y : Int
abbrev wgV (g : Wg) : Value := .agg #[.int .i64 g.a, .int .i64 g.b, .int .i64 g.c, .int .i64 g.d, .int .i64 g.f, .int .i64 g.l, .int .i64 g.x, .int .i64 g.y]
/-- How often it has been shifted before bar k. -/
def mul (f l k : Int) : Int := Kit.mx2 0 (Kit.mn2 k (l + 1) - f)
/-- Where it is before bar k. -/
def at_ (g : Wg) (k : Int) : Sp.BE := Sp.shR g.a g.b g.c g.d (mul g.f g.l k * g.x) (mul g.f g.l k * g.y)
end Ap

set_option maxHeartbeats 400000 in
theorem ap_places (g : Ap.Wg) (bar : Int) (w : World) :
    Calls Tryd.prog 37 #[Ap.wgV g, .int .i64 bar] w fun e w' => e = .returned (.func (.func 65) #[] #[.pointer (some ⟨w.heap.size + 1, 0, none⟩), .pointer (some ⟨w.heap.size, 0, none⟩)]) ∧
      w' = (w.alloc (.cells #[.int .i64 g.a, .int .i64 g.b, .int .i64 g.c, .int .i64 g.d, .int .i64 g.f, .int .i64 g.l, .int .i64 g.x, .int .i64 g.y] 27)).alloc (.cells #[.int .i64 bar] 3) := by
  go_enter Tryd.func37, Tryd.ntmps37
  go_wp2
  go_ret
  exact ⟨rfl, rfl⟩
end Go.Proofs.YtjoieglhmladhaaDoor
