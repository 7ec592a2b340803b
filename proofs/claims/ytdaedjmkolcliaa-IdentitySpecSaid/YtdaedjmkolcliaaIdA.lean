/- Plain facts of layer 45: the cost of two lists of codes. -/
import Derived.Test.YtdaedjmkolcliaaIdK
namespace Go.Proofs.Ytdaedjmkolcliaa
set_option linter.unusedVariables false
set_option linter.unusedSimpArgs false
open Go.RowKit

namespace Id
/-- The cost of two codes side by side. -/
def bes (x y : Int) : Int := if (x != y && x != 8589934592 && y != 8589934592) = true then 3 else 0
def mn (a b c : Int) : Int := min (min a b) c
/-- The least cost of what is left of two lists (with enough fuel). -/
def cstF : Nat → List Int → List Int → Int
  | _, [], b => 2 * (b.length : Int)
  | _, x :: a, [] => 2 * ((x :: a).length : Int)
  | 0, _ :: _, _ :: _ => 0
  | n + 1, x :: a, y :: b => mn (bes x y + cstF n a b) (2 + cstF n a (y :: b)) (2 + cstF n (x :: a) b)
def cst (a b : List Int) : Int := cstF (a.length + b.length) a b
theorem cstF_nil (n : Nat) (b : List Int) : cstF n [] b = 2 * (b.length : Int) := by cases n <;> rfl
theorem cstF_nil' (n : Nat) (a : List Int) : cstF n a [] = 2 * (a.length : Int) := by cases n <;> cases a <;> rfl
theorem cstF_enough : ∀ (n m : Nat) (a b : List Int), a.length + b.length ≤ n → a.length + b.length ≤ m → cstF n a b = cstF m a b
  | n, m, [], b, _, _ => by rw [cstF_nil, cstF_nil]
  | n, m, x :: a, [], _, _ => by rw [cstF_nil', cstF_nil']
  | 0, m, x :: a, y :: b, h, _ => by simp at h
  | n + 1, 0, x :: a, y :: b, _, h => by simp at h
  | n + 1, m + 1, x :: a, y :: b, h, k => by
    simp only [List.length_cons] at h k
    simp only [cstF]
    rw [cstF_enough n m a b (by omega) (by omega), cstF_enough n m a (y :: b) (by simp; omega) (by simp; omega), cstF_enough n m (x :: a) b (by simp; omega) (by simp; omega)]
theorem cst_nil (b : List Int) : cst [] b = 2 * (b.length : Int) := cstF_nil _ _
theorem cst_nil' (a : List Int) : cst a [] = 2 * (a.length : Int) := cstF_nil' _ _
theorem cst_cons (x y : Int) (a b : List Int) : cst (x :: a) (y :: b) = mn (bes x y + cst a b) (2 + cst a (y :: b)) (2 + cst (x :: a) b) := by
  have e : (x :: a).length + (y :: b).length = (a.length + b.length + 1) + 1 := by simp; omega
  unfold cst
  rw [e]
  simp only [cstF]
  rw [cstF_enough _ (a.length + b.length) a b (by omega) (by omega), cstF_enough _ (a.length + (y :: b).length) a (y :: b) (by simp; omega) (by omega), cstF_enough _ ((x :: a).length + b.length) (x :: a) b (by simp; omega) (by omega)]
theorem bes_symm (x y : Int) : bes x y = bes y x := by
  unfold bes
  rw [show (x != y) = (y != x) from by rw [bne_comm]]
  cases (y != x) <;> cases (x != 8589934592) <;> cases (y != 8589934592) <;> rfl
theorem bes_bd (x y : Int) : 0 ≤ bes x y ∧ bes x y ≤ 3 := by unfold bes; split <;> omega
theorem bes_self (x : Int) : bes x x = 0 := by simp [bes]
theorem mn_swap (a b c : Int) : mn a b c = mn a c b := by unfold mn; omega
theorem cst_symm : ∀ (n : Nat) (a b : List Int), a.length + b.length ≤ n → cst a b = cst b a
  | n, [], b, _ => by rw [cst_nil, cst_nil']
  | n, x :: a, [], _ => by rw [cst_nil, cst_nil']
  | 0, x :: a, y :: b, h => by simp at h
  | n + 1, x :: a, y :: b, h => by
    simp only [List.length_cons] at h
    rw [cst_cons, cst_cons, mn_swap, bes_symm, cst_symm n a b (by omega), cst_symm n (x :: a) b (by simp; omega), cst_symm n a (y :: b) (by simp; omega)]
theorem cst_comm (a b : List Int) : cst a b = cst b a := cst_symm _ a b (Nat.le_refl _)
theorem cst_bd : ∀ (n : Nat) (a b : List Int), a.length + b.length ≤ n → 0 ≤ cst a b ∧ cst a b ≤ 2 * ((a.length : Int) + b.length)
  | n, [], b, _ => by rw [cst_nil]; simp; omega
  | n, x :: a, [], _ => by rw [cst_nil']; simp; omega
  | 0, x :: a, y :: b, h => by simp at h
  | n + 1, x :: a, y :: b, h => by
    simp only [List.length_cons] at h
    have h1 := cst_bd n a b (by omega)
    have h2 := cst_bd n (x :: a) b (by simp; omega)
    have h3 := cst_bd n a (y :: b) (by simp; omega)
    have h4 := bes_bd x y
    rw [cst_cons]
    unfold mn
    simp only [List.length_cons] at *
    omega
theorem cst_nonneg (a b : List Int) : 0 ≤ cst a b := (cst_bd _ a b (Nat.le_refl _)).1
theorem cst_le (a b : List Int) : cst a b ≤ 2 * ((a.length : Int) + b.length) := (cst_bd _ a b (Nat.le_refl _)).2
theorem cst_self : ∀ a : List Int, cst a a = 0
  | [] => by rw [cst_nil]; rfl
  | x :: a => by
    have h1 := cst_self a
    have h2 := cst_nonneg a (x :: a)
    have h3 := cst_nonneg (x :: a) a
    rw [cst_cons, bes_self, h1]
    unfold mn
    omega
/-- One code for another one. -/
theorem cst_put : ∀ (l m : List Int) (x y : Int), cst (l ++ x :: m) (l ++ y :: m) ≤ 3
  | [], m, x, y => by
    have h := bes_bd x y
    have e := cst_self m
    rw [List.nil_append, List.nil_append, cst_cons, e]
    unfold mn
    omega
  | z :: l, m, x, y => by
    have h := cst_put l m x y
    rw [List.cons_append, List.cons_append, cst_cons, bes_self]
    unfold mn
    omega
/-- One code less. -/
theorem cst_drop : ∀ (l m : List Int) (x : Int), cst (l ++ x :: m) (l ++ m) ≤ 2
  | [], m, x => by
    rw [List.nil_append, List.nil_append]
    cases m with
    | nil => rw [cst_nil']; simp
    | cons y m =>
      have e := cst_self (y :: m)
      rw [cst_cons, e]
      unfold mn
      omega
  | z :: l, m, x => by
    have h := cst_drop l m x
    rw [List.cons_append, List.cons_append, cst_cons, bes_self]
    unfold mn
    omega
/-- Whether two lists of codes are near each other. -/
def simi (lim : Int) (a b : List Int) : Bool := decide (1000 * cst a b ≤ 2 * lim * ((a.length : Int) + b.length))
theorem simi_comm (lim : Int) (a b : List Int) : simi lim a b = simi lim b a := by
  unfold simi
  rw [cst_comm, Int.add_comm (a.length : Int)]
theorem simi_self (lim : Int) (h : 0 ≤ lim) (a : List Int) : simi lim a a = true := by
  unfold simi
  rw [cst_self]
  have : 0 ≤ 2 * lim * ((a.length : Int) + a.length) := Int.mul_nonneg (by omega) (by omega)
  simpa using this
end Id
end Go.Proofs.Ytdaedjmkolcliaa
