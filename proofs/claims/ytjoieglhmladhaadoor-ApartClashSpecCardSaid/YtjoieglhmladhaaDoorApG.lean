/- Walks: package apart: Pairs. -/
import Derived.Test.YtjoieglhmladhaaDoorApF
import Derived.Test.YtjoieglhmladhaaDoorKit
import Derived.Carry
namespace Go.Proofs.YtjoieglhmladhaaDoor
set_option linter.unusedVariables false
set_option linter.unusedSimpArgs false
open Go.RowKit Go.Shelf

theorem Ap.ptypes : Kit.PTypes Tryd.prog 92 75 4 3 :=
  ⟨⟨by kernel_rfl, by kernel_rfl, by kernel_rfl, by kernel_rfl⟩, by kernel_rfl, by kernel_rfl, by kernel_rfl, fun _ => by kernel_rfl, ⟨(Tryd.prog.types.size - 1), by kernel_rfl⟩⟩
theorem Ap.info75 : (Tryd.prog.info? 75).map (fun i => (i.zero, i.size, i.bytes)) = some (some (.agg #[.int .i64 0, .int .i64 0]), 2, 16) := by kernel_rfl

theorem Ap.under48 : Tryd.prog.underlying 48 = some (.slice 75) := by kernel_rfl

namespace Ap
def lift (bar : Int) (s : Ex.Sg) : Bool := s.bar == bar && s.kind == 7 && (s.wth - 1 != s.role)
def prOf (s : Ex.Sg) : Int × Int := (Kit.mn2 s.role (s.wth - 1), Kit.mx2 s.role (s.wth - 1))
/-- The pairs that lift one another, in the signs' order. -/
def met (bar : Int) : List Ex.Sg → List (Int × Int)
  | [] => []
  | s :: l => if lift bar s = true then prOf s :: met bar l else met bar l
/-- Row a of the pairs, from b on (n: how many are left). -/
def rowP (M : List (Int × Int)) (a : Nat) : Nat → Nat → List (Int × Int)
  | _, 0 => []
  | b, n + 1 => if ((a : Int), (b : Int)) ∈ M then ((a : Int), (b : Int)) :: rowP M a (b + 1) n else rowP M a (b + 1) n
def allP (M : List (Int × Int)) (R : Nat) : Nat → Nat → List (Int × Int)
  | _, 0 => []
  | a, n + 1 => rowP M a 0 R ++ allP M R (a + 1) n
theorem rowP_step (M : List (Int × Int)) (a b R : Nat) (h : b < R) : rowP M a b (R - b) = if ((a : Int), (b : Int)) ∈ M then ((a : Int), (b : Int)) :: rowP M a (b + 1) (R - (b + 1)) else rowP M a (b + 1) (R - (b + 1)) := by
  rw [show R - b = (R - (b + 1)) + 1 by omega]; rfl
theorem allP_step (M : List (Int × Int)) (R a : Nat) (h : a < R) : allP M R a (R - a) = rowP M a 0 R ++ allP M R (a + 1) (R - (a + 1)) := by
  rw [show R - a = (R - (a + 1)) + 1 by omega]; rfl
theorem rowP_congr {M M' : List (Int × Int)} (h : ∀ p, p ∈ M ↔ p ∈ M') (a : Nat) : ∀ n b, rowP M a b n = rowP M' a b n
  | 0, _ => rfl
  | n + 1, b => by simp only [rowP, h, rowP_congr h a n]
theorem allP_congr {M M' : List (Int × Int)} (h : ∀ p, p ∈ M ↔ p ∈ M') (R : Nat) : ∀ n a, allP M R a n = allP M' R a n
  | 0, _ => rfl
  | n + 1, a => by simp only [allP, rowP_congr h, allP_congr h R n]
/-- What Pairs answers where check says nothing. -/
def prs (x : Ex.Wk) (bar : Int) : List (Int × Int) := allP (met bar x.sg) x.ro.length 0 x.ro.length
def fl2 (l : List (Int × Int)) : List Value := l.flatMap fun p => [.int .i64 p.1, .int .i64 p.2]
theorem fl2_snoc (l : List (Int × Int)) (p : Int × Int) : fl2 (l ++ [p]) = fl2 l ++ [.int .i64 p.1, .int .i64 p.2] := by simp [fl2]
theorem vG_ok {roles n : Int} : ∀ (l : List Ex.Sg) (last : Int), Ex.vG roles n last l = true → ∀ s ∈ l, Ex.okSign s roles n = true
  | [], _, _, s, hs => by simp at hs
  | x :: l, last, h, s, hs => by
    simp only [Ex.vG, Ex.okG1, Bool.and_eq_true] at h
    rcases List.mem_cons.1 hs with rfl | hs
    · exact h.1.2
    · exact vG_ok l _ h.2 s hs
theorem sg_bd {x : Ex.Wk} (h : Ex.chk x = 0) : ∀ s ∈ x.sg, 0 ≤ s.role ∧ s.role ≤ 64 ∧ 0 ≤ s.wth ∧ s.wth ≤ 64 := by
  obtain ⟨r1, _, _⟩ := Ex.roles h
  unfold Ex.chk at h
  split at h
  · omega
  split at h
  · omega
  split at h
  · rename_i h1 h2 h3
    simp only [Ex.okW, Bool.and_eq_true] at h3
    intro s hs
    have hk := vG_ok _ _ h3.2 s hs
    simp only [Ex.okSign, Ex.ok1, Ex.ok2, Bool.and_eq_true, Tp.inb_iff] at hk
    have hw := hk.1.1.1.2.2
    have hr := hk.1.1.1.1.1.1.2
    have : 0 ≤ s.wth ∧ s.wth ≤ x.ro.length := by
      unfold Ex.fld at hw
      split at hw
      · have := (Tp.inb_iff _ _ _).1 hw; omega
      · have : s.wth = 0 := by simpa using hw
        omega
    omega
  · omega
end Ap
end Go.Proofs.YtjoieglhmladhaaDoor
