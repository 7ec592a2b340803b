/- Walks: package apart: Groups: plain facts, and the way that ends in an error. -/
import Derived.Test.YtjoieglhmladhaaDoorApH
import Derived.Test.YtjoieglhmladhaaDoorApJ
namespace Go.Proofs.YtjoieglhmladhaaDoor
set_option linter.unusedVariables false
set_option linter.unusedSimpArgs false
open Go.RowKit Go.Shelf

namespace Ap
/-- The groups of a and b become one. -/
def uni (r : Nat → Nat) (p : Int × Int) (j : Nat) : Nat :=
  if r j = max (r p.1.toNat) (r p.2.toNat) then min (r p.1.toNat) (r p.2.toNat) else r j
def grp (L : List (Int × Int)) : Nat → Nat := L.foldl uni id
theorem rt_id (j : Nat) : rt id j = j := rt_ge (by simp)
/-- A root's number is set to another root's below it, or its own. -/
theorem rt_set {G : Nat → Nat} {m n : Nat} (hm : ¬ G m < m) (hn : ¬ G n < n) (hnm : n ≤ m) (j : Nat) : rt (fun j => if j = m then n else G j) j = if rt G j = m then n else rt G j := by
  have root : ∀ j, ¬ G j < j → j ≠ m → rt (fun j => if j = m then n else G j) j = j := fun j h e => rt_ge (by simp only [if_neg e]; exact h)
  induction j using Nat.strongRecOn with
  | ind j ih =>
    by_cases e : j = m
    · subst e
      rw [rt_ge hm, if_pos rfl]
      by_cases h : n < j
      · rw [rt_lt (by simpa using h)]
        simp only [if_true]
        exact root n hn (by omega)
      · rw [rt_ge (by simpa using h)]; omega
    · by_cases h : G j < j
      · rw [rt_lt (by simpa only [if_neg e] using h)]
        simp only [if_neg e]
        rw [ih _ h, rt_lt h]
      · rw [root j h e, rt_ge h, if_neg e]
theorem uni_rt {R : Nat} {G r : Nat → Nat} (h : ∀ j, j < R → rt G j = r j) {a b : Nat} (ha : a < R) (hb : b < R) (j : Nat) (hj : j < R) :
    rt (fun j => if j = max (rt G a) (rt G b) then min (rt G a) (rt G b) else G j) j = uni r ((a : Int), (b : Int)) j := by
  rw [rt_set (by rcases Nat.le_total (rt G a) (rt G b) with e | e
                 · rw [Nat.max_eq_right e]; exact rt_fix _ _
                 · rw [Nat.max_eq_left e]; exact rt_fix _ _)
    (by rcases Nat.le_total (rt G a) (rt G b) with e | e
        · rw [Nat.min_eq_left e]; exact rt_fix _ _
        · rw [Nat.min_eq_right e]; exact rt_fix _ _) (by omega), h j hj, h a ha, h b hb]
  simp [uni]
theorem rowP_bd (M : List (Int × Int)) (a : Nat) : ∀ (n b : Nat), ∀ p ∈ rowP M a b n, p.1 = a ∧ ∃ c : Nat, p.2 = c ∧ c < b + n
  | 0, _, p, hp => by simp [rowP] at hp
  | n + 1, b, p, hp => by
    have key : p ∈ rowP M a (b + 1) n → p.1 = a ∧ ∃ c : Nat, p.2 = c ∧ c < b + (n + 1) := fun h => by
      obtain ⟨h1, c, h2, h3⟩ := rowP_bd M a n (b + 1) p h
      exact ⟨h1, c, h2, by omega⟩
    unfold rowP at hp
    split at hp
    · rcases List.mem_cons.1 hp with rfl | hp
      · exact ⟨rfl, b, rfl, by omega⟩
      · exact key hp
    · exact key hp
theorem allP_bd (M : List (Int × Int)) (R : Nat) : ∀ (n a : Nat), a + n ≤ R → ∀ p ∈ allP M R a n, (∃ c : Nat, p.1 = c ∧ c < R) ∧ ∃ c : Nat, p.2 = c ∧ c < R
  | 0, _, _, p, hp => by simp [allP] at hp
  | n + 1, a, ha, p, hp => by
    rcases List.mem_append.1 hp with hp | hp
    · obtain ⟨h1, c, h2, h3⟩ := rowP_bd M a R 0 p hp
      exact ⟨⟨a, h1, by omega⟩, c, h2, by omega⟩
    · exact allP_bd M R n (a + 1) (by omega) p hp
end Ap

set_option maxRecDepth 100000 in
set_option maxHeartbeats 1000000 in
theorem ap_groups_1a (wd dp ta tb tc : Int) (aR : Option Addr) (nR cR : Nat) (n : Int) (aT : Option Addr) (nT cT : Nat) (aP : Option Addr) (nP cP : Nat) (aS : Option Addr) (nS cS : Nat) (aG : Option Addr) (nG cG : Nat) (bar : Int) (w : World)
    (r : Int) (hr : (r != 0) = true) (hc : ∀ W, Below w.heap.size w W → Calls Tryd.prog 15 #[Ex.wv wd dp ta tb tc aR nR cR n aT nT cT aP nP cP aS nS cS aG nG cG, .int .i64 bar] W fun e w' => e = .returned (.tuple #[.slice none 0 0, .int .i64 r]) ∧ Below W.heap.size W w') :
    Calls Tryd.prog 17 #[Ex.wv wd dp ta tb tc aR nR cR n aT nT cT aP nP cP aS nS cS aG nG cG, .int .i64 bar] w fun e w' => e = .returned (.tuple #[.slice none 0 0, .int .i64 r]) ∧ Below w.heap.size w w' := by
  have HC := Lib.hid hc; clear hc
  go_enter Tryd.func17, Tryd.ntmps17
  skip
  (go_wp2_with (fail); refine (HC.out _ (by (repeat' first | (with_reducible first | exact Below.refl _ _ | assumption | refine Kit.below_drewN ?_ _ | refine Below.drew ?_ | refine Below.alloc ?_ ?_ _ | refine Below.setCell ?_ ?_ _ | exact Nat.le_refl _) | omega | (simp; omega) | (simp; done) | (apply Below.size; assumption)))).mono ?_; rintro e w1_ ⟨rfl, hb1_⟩; have hp1_ : Below w.heap.size w w1_ := Below.trans (by (repeat' first | (with_reducible first | exact Below.refl _ _ | assumption | refine Kit.below_drewN ?_ _ | refine Below.drew ?_ | refine Below.alloc ?_ ?_ _ | refine Below.setCell ?_ ?_ _ | exact Nat.le_refl _) | omega | (simp; omega) | (simp; done) | (apply Below.size; assumption))) (hb1_.mono (by first | assumption | (simp; done) | (simp; omega) | omega)); have hw1_ : Below w.heap.size w w1_ := hp1_; obtain ⟨hc1_, hf1_⟩ := Kit.bcell hb1_; have z1_w : w.heap.size < w1_.heap.size := (by have := hb1_.size; first | omega | (simp at this; omega)); obtain ⟨g1_w_0, g1_w_1, g1_w_2, g1_w_3, g1_w_4, g1_w_5, g1_w_6, g1_w_7, g1_w_8, g1_w_9, g1_w_10⟩ : w1_.cell? ⟨w.heap.size, 0, none⟩ = some (.int .i64 wd) ∧ w1_.cell? ⟨w.heap.size, 1, none⟩ = some (.int .i64 dp) ∧ w1_.cell? ⟨w.heap.size, 2, none⟩ = some (.int .i64 ta) ∧ w1_.cell? ⟨w.heap.size, 3, none⟩ = some (.int .i64 tb) ∧ w1_.cell? ⟨w.heap.size, 4, none⟩ = some (.int .i64 tc) ∧ w1_.cell? ⟨w.heap.size, 5, none⟩ = some (.slice aR nR cR) ∧ w1_.cell? ⟨w.heap.size, 6, none⟩ = some (.int .i64 n) ∧ w1_.cell? ⟨w.heap.size, 7, none⟩ = some (.slice aT nT cT) ∧ w1_.cell? ⟨w.heap.size, 8, none⟩ = some (.slice aP nP cP) ∧ w1_.cell? ⟨w.heap.size, 9, none⟩ = some (.slice aS nS cS) ∧ w1_.cell? ⟨w.heap.size, 10, none⟩ = some (.slice aG nG cG) := (by refine ⟨?_, ?_, ?_, ?_, ?_, ?_, ?_, ?_, ?_, ?_, ?_⟩ <;> (rw [hc1_ _ _ (by first | assumption | (simp; done) | (simp; omega) | omega)]; first | assumption | (simp [go_sem]; done) | (simp [go_sem, *]; done))); have z1_w_1 : w.heap.size + 1 < w1_.heap.size := (by have := hb1_.size; first | omega | (simp at this; omega)); have g1_w_1_0 : w1_.cell? ⟨w.heap.size + 1, 0, none⟩ = some (.slice none 0 0) := (by rw [hc1_ _ _ (by first | assumption | (simp; done) | (simp; omega) | omega)]; first | assumption | (simp [go_sem]; done) | (simp [go_sem, *]; done)); have f1_w_1_0 : w1_.frozen? ⟨w.heap.size + 1, 0, none⟩ = false := (by rw [hf1_ _ _ (by first | assumption | (simp; done) | (simp; omega) | omega)]; first | assumption | (simp [go_sem]; done) | (simp [go_sem, *]; done)); clear hc1_ hf1_; clear hb1_ hp1_)
  go_wp2
  (refine bodyPost_ret (by simp [results, Tryd.results17, go_sem, Kit.cell_set, g1_w_1_0]; try rfl) rfl ?_)
  exact ⟨rfl, by (repeat' first | (with_reducible first | exact Below.refl _ _ | assumption | refine Kit.below_drewN ?_ _ | refine Below.drew ?_ | refine Below.alloc ?_ ?_ _ | refine Below.setCell ?_ ?_ _ | exact Nat.le_refl _) | omega | (simp; omega) | (simp; done) | (apply Below.size; assumption))⟩
end Go.Proofs.YtjoieglhmladhaaDoor
