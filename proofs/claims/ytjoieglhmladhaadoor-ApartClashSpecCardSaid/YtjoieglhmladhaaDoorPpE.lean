/- Plain facts: how many clashes there are at most. -/
import Derived.Test.YtjoieglhmladhaaDoorClA
namespace Go.Proofs.YtjoieglhmladhaaDoor
set_option linter.unusedVariables false
set_option linter.unusedSimpArgs false
namespace Ap
theorem allC_len (h : Int → Int → Bool) (kd : Int) (u v : List Bx) (R : Nat) : ∀ (n a : Nat), (allC h kd u v R a n).length ≤ n * R
  | 0, a => by simp [allC]
  | n + 1, a => by
    have h1 := allC_len h kd u v R n (a + 1)
    have h2 := rowC_len h kd (u.getD a (0, 0, 0, 0)) v a (R - (a + 1)) (a + 1)
    rw [allC, List.length_append, Nat.succ_mul]
    omega
theorem one_len {mv hd : List Bx} {N : Nat} (hm : mv.length ≤ N) (hh : hd.length ≤ N) (k : Nat) : (one mv hd k).length ≤ N := by
  unfold one
  split
  · simp
  · split <;> assumption
theorem ksC_len (h : Int → Int → Bool) (mv hd : List Bx) (R N : Nat) (hm : mv.length ≤ N) (hh : hd.length ≤ N) : ∀ (n k : Nat), (ksC h mv hd R k n).length ≤ n * (N * R)
  | 0, k => by simp [ksC]
  | n + 1, k => by
    have h1 := ksC_len h mv hd R N hm hh n (k + 1)
    have h2 := allC_len h k (one mv hd k) (two mv hd k) R (one mv hd k).length 0
    have h3 := Nat.mul_le_mul_right R (one_len hm hh k)
    rw [ksC, List.length_append, Nat.succ_mul]
    omega
theorem rowW_len (p q : Bx) (ps : List Bx) (a : Nat) : ∀ (n b : Nat), (rowW p q ps a b n).length ≤ n
  | 0, _ => by simp [rowW]
  | n + 1, b => by
    have := rowW_len p q ps a n (b + 1)
    unfold rowW
    split
    · simp; omega
    · omega
theorem allW_len (mv hd ps : List Bx) : ∀ (n a : Nat), (allW mv hd ps a n).length ≤ n * ps.length
  | 0, a => by simp [allW]
  | n + 1, a => by
    have h1 := allW_len mv hd ps n (a + 1)
    have h2 := rowW_len (mv.getD a (0, 0, 0, 0)) (hd.getD a (0, 0, 0, 0)) ps a ps.length 0
    rw [allW, List.length_append, Nat.succ_mul]
    omega
theorem allE_len (f : Bx) (mv hd : List Bx) : ∀ (n a : Nat), (allE f mv hd a n).length ≤ n
  | 0, _ => by simp [allE]
  | n + 1, a => by
    have := allE_len f mv hd n (a + 1)
    unfold allE
    split
    · simp; omega
    · omega
theorem cls_len (x : Ex.Wk) (gs : List Wg) (bar : Int) (mv hd : List Bx) (P : List (Int × Int)) (hm : mv.length = x.ro.length) (hh : hd.length = x.ro.length) (hr : x.ro.length ≤ 64) (hg : gs.length ≤ 100) : (cls x gs bar mv hd P).length ≤ 4611686018427387904 := by
  have h1 := ksC_len (has P) mv hd x.ro.length 64 (by omega) (by omega) 5 0
  have h2 := allW_len mv hd (pths bar gs) x.ro.length 0
  have h3 := allE_len (flo x) mv hd x.ro.length 0
  have h4 : (pths bar gs).length ≤ 100 := by simpa [pths] using hg
  have h5 := Nat.mul_le_mul hr h4
  have h6 := Nat.mul_le_mul_left 64 hr
  unfold cls
  rw [List.length_append, List.length_append]
  omega
end Ap
namespace Lw
theorem getD_mem {α : Type} {l : List α} {i : Nat} (d : α) (h : i < l.length) : l.getD i d ∈ l := by
  rw [List.getD_eq_getElem?_getD, List.getElem?_eq_getElem h]
  exact List.getElem_mem h
end Lw
end Go.Proofs.YtjoieglhmladhaaDoor
