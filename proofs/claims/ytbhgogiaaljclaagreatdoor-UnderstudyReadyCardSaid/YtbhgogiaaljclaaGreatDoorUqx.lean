/- Plain: what the reference of layer 30 (options) finds, step by step, is what a body may do. Walks: the reference of layer 15: Flat, Vector, Dot. Walks: the reference of layer 30: near, below. Walks: the reference of layer 30: limbs. -/
import Derived.Test.YtbhgogiaaljclaaGreatDoorUoa
import Derived.Test.YtbhgogiaaljclaaGreatDoorUoV
import Derived.BigQuiet
import Derived.Test.YtbhgogiaaljclaaGreatDoorUoD
import Derived.Test.YtbhgogiaaljclaaGreatDoorUoK
import Derived.Deep.CutRange
set_option linter.unusedSimpArgs false
set_option linter.unusedVariables false
set_option maxRecDepth 100000
set_option maxHeartbeats 8000000
namespace Go.Proofs.YtbhgogiaaljclaaGreatDoor
open Go.RowKit
namespace K
section
variable {α : Type} (key : α → Int) (le : α → α → Bool) (hle : ∀ x y, le x y = true ↔ key y ≤ key x)
include hle
theorem ms_filter (l : List α) (n : Int) : (l.mergeSort le).filter (fun x => decide (key x = n)) = l.filter (fun x => decide (key x = n)) := by
 have ht : ∀ a b c : α, le a b = true → le b c = true → le a c = true := fun a b c h1 h2 => (hle _ _).2 (Int.le_trans ((hle _ _).1 h2) ((hle _ _).1 h1))
 have hl : ∀ a b : α, (le a b || le b a) = true := fun a b => by
  rcases Int.le_total (key b) (key a) with h | h
  ·rw [(hle a b).2 h]; rfl
  ·rw [(hle b a).2 h]; simp
 have hp : (l.filter (fun x => decide (key x = n))).Pairwise fun x y => le x y = true := by
  rw [List.pairwise_filter]
  refine List.pairwise_of_forall_mem_list ?_
  intro a _ b _ ha hb
  rw [decide_eq_true_eq] at ha hb
  rw [hle]; omega
 have h1 := List.sublist_mergeSort (le := le) ht hl hp List.filter_sublist
 have h2 := h1.filter (fun x => decide (key x = n))
 rw [List.filter_filter] at h2
 simp only [Bool.and_self] at h2
 exact (h2.eq_of_length ((List.mergeSort_perm l le).filter _).length_eq.symm).symm
omit hle
theorem step_filter : ∀ (m : List α), m.Pairwise (fun x y => key y ≤ key x) → ∀ (n k : Int), k < n → (∀ x ∈ m, key x < n → key x ≤ k) →
  m.filter (fun x => decide (k < key x)) = m.filter (fun x => decide (n < key x)) ++ m.filter (fun x => decide (key x = n))
 | [], _, _, _, _, _ => rfl
 | x :: m, hs, n, k, hk, hg => by
  have ih := step_filter m (List.pairwise_cons.1 hs).2 n k hk (fun y hy => hg y (List.mem_cons_of_mem _ hy))
  have hx := (List.pairwise_cons.1 hs).1
  have hgx := hg x (by simp)
  by_cases h1 : n < key x
  ·rw [List.filter_cons_of_pos (by simp; omega), List.filter_cons_of_pos (by simp; omega), List.filter_cons_of_neg (by simp; omega), ih, List.cons_append]
  ·have h0 : m.filter (fun x => decide (n < key x)) = [] := List.filter_eq_nil_iff.2 fun y hy => by have := hx y hy; simp; omega
   rw [h0] at ih
   by_cases h2 : key x = n
   ·rw [List.filter_cons_of_pos (by simp; omega), List.filter_cons_of_neg (by simp; omega), List.filter_cons_of_pos (by simp; omega), ih, h0]; rfl
   ·have h3 : key x ≤ k := hgx omg
    have h4 : m.filter (fun x => decide (k < key x)) = [] := List.filter_eq_nil_iff.2 fun y hy => by have := hx y hy; simp; omega
    rw [List.filter_cons_of_neg (by simp; omega), List.filter_cons_of_neg (by simp; omega), List.filter_cons_of_neg (by simp; omega), ih, h0]
end
end K
namespace Uo
def itn (A C id : Int) (a b : Nat) (n : Int) (d v : Nat) : List Re := if ((tol A C a b d v && !own a b d v) && decide (dt a b d v = n)) = true then [(id, (d : Int), (v : Int), false)] else []
def rown (A C id : Int) (a b : Nat) (n : Int) (d m : Nat) : List Re := (List.range m).flatMap fun v => itn A C id a b n d (v + 1)
def pren (A C id : Int) (a b : Nat) (n : Int) (m k : Nat) : List Re := (List.range k).flatMap fun d => rown A C id a b n d m
theorem rown_succ (A C id : Int) (a b : Nat) (n : Int) (d m : Nat) : rown A C id a b n d (m + 1) = rown A C id a b n d m ++ itn A C id a b n d (m + 1) := by simp [rown, List.range_succ]
theorem pren_succ (A C id : Int) (a b : Nat) (n : Int) (m k : Nat) : pren A C id a b n m (k + 1) = pren A C id a b n m k ++ rown A C id a b n k m := by simp [pren, List.range_succ]
theorem it_filter (A C id : Int) (a b d v : Nat) (n : Int) (hn : n ≤ 707281) : ((it A C id a b d v).filter (fun x => decide (x.2 = n))).map (·.1) = itn A C id a b n d v := by
 unfold it itn one val
 cases tol A C a b d v
 ·simp
 ·cases own a b d v
  ·by_cases h : dt a b d v = n <;> simp [h]
  ·have : ¬ (1073741824 : Int) = n := by omega
   simp [this]
theorem prs_filter (A C id : Int) (a b m : Nat) (n : Int) (hn : n ≤ 707281) : ((prs A C id a b m).filter (fun x => decide (x.2 = n))).map (·.1) = pren A C id a b n m 9 := by
 unfold prs pre row pren rown
 rw [List.filter_flatMap, List.map_flatMap]
 congr 1
 funext d
 rw [List.filter_flatMap, List.map_flatMap]
 congr 1
 funext v
 exact it_filter A C id a b d (v + 1) n hn
def bone (a b : Nat) (n s : Int) (d v : Nat) : Int := if dt a b d v < n then (if s < dt a b d v then dt a b d v else s) else s
def brow (a b : Nat) (n s : Int) (d m : Nat) : Int := (List.range m).foldl (fun s v => bone a b n s d (v + 1)) s
def bpre (a b : Nat) (n s : Int) (k : Nat) : Int := (List.range k).foldl (fun s d => brow a b n s d 3) s
def blw (a b : Nat) (n : Int) : Int := bpre a b n (-707282) 9
theorem brow_succ (a b : Nat) (n s : Int) (d m : Nat) : brow a b n s d (m + 1) = bone a b n (brow a b n s d m) d (m + 1) := by simp [brow, List.range_succ]
theorem bpre_succ (a b : Nat) (n s : Int) (k : Nat) : bpre a b n s (k + 1) = brow a b n (bpre a b n s k) k 3 := by simp [bpre, List.range_succ]
theorem bone_ge (a b : Nat) (n s : Int) (d v : Nat) : s ≤ bone a b n s d v ∧ (dt a b d v < n → dt a b d v ≤ bone a b n s d v) ∧ (s < n → bone a b n s d v < n) := by
 unfold bone
 split
 ·split <;> omega
 ·omega
theorem brow_ge (a b : Nat) (n s : Int) (d : Nat) : ∀ m, s ≤ brow a b n s d m ∧ (∀ v, v < m → dt a b d (v + 1) < n → dt a b d (v + 1) ≤ brow a b n s d m) ∧ (s < n → brow a b n s d m < n)
 | 0 => ⟨Int.le_refl _, fun v h => absurd h (Nat.not_lt_zero _), fun h => h⟩
 | m + 1 => by
  obtain ⟨h1, h2, h3⟩ := brow_ge a b n s d m
  rw [brow_succ]
  obtain ⟨k1, k2, k3⟩ := bone_ge a b n (brow a b n s d m) d (m + 1)
  refine ⟨by omega, fun v hv hd => ?_, fun h => k3 (h3 h)⟩
  rcases Nat.lt_or_ge v m with h | h
  ·have := h2 v h hd; omega
  ·obtain rfl : v = m := by omega
   exact k2 hd
theorem bpre_ge (a b : Nat) (n s : Int) : ∀ k, s ≤ bpre a b n s k ∧ (∀ d v, d < k → v < 3 → dt a b d (v + 1) < n → dt a b d (v + 1) ≤ bpre a b n s k) ∧ (s < n → bpre a b n s k < n)
 | 0 => ⟨Int.le_refl _, fun d v h => absurd h (Nat.not_lt_zero _), fun h => h⟩
 | k + 1 => by
  obtain ⟨h1, h2, h3⟩ := bpre_ge a b n s k
  rw [bpre_succ]
  obtain ⟨k1, k2, k3⟩ := brow_ge a b n (bpre a b n s k) k 3
  refine ⟨by omega, fun d v hd hv hq => ?_, fun h => k3 (h3 h)⟩
  rcases Nat.lt_or_ge d k with h | h
  ·have := h2 d v h hv hq; omega
  ·obtain rfl : d = k := by omega
   exact k2 v hv hq
theorem blw_bd (a b : Nat) (n : Int) (h : -707281 ≤ n) : -707282 ≤ blw a b n ∧ blw a b n < n := ⟨(bpre_ge a b n _ 9).1, (bpre_ge a b n _ 9).2.2 omg⟩
def outN (A C id : Int) (a b m : Nat) (n : Int) : List Re := ((fall (prs A C id a b m)).filter (fun x => decide (n < x.2))).map (·.1)
theorem key_cases {A C id : Int} {a b m : Nat} (hm : m < 4) (ha : a < 9) (hb : 0 < b) (hb3 : b < 4) {x : Re × Int} (hx : x ∈ fall (prs A C id a b m)) : x.2 = 1073741824 ∨ (∃ d v, d < 9 ∧ v < 3 ∧ x.2 = dt a b d (v + 1) ∧ -707281 ≤ x.2 ∧ x.2 ≤ 707281) := by
 obtain ⟨d, v, hd, hv, _, rfl⟩ := mem_prs.1 ((fall_perm _).mem_iff.1 hx)
 unfold one val
 dsimp only
 split
 ·exact .inl rfl
 ·have := dt_bd a ha b hb3 hb d hd (v + 1) omg omg
  exact .inr ⟨d, v, hd, by omega, rfl, this.1, this.2⟩
theorem fall_filter (A C id : Int) (a b m : Nat) (n : Int) : (fall (prs A C id a b m)).filter (fun x => decide (x.2 = n)) = (prs A C id a b m).filter (fun x => decide (x.2 = n)) :=
 K.ms_filter (fun x : Re × Int => x.2) _ le_iff _ _
theorem range_one {α : Type} (a : Nat) (X : Nat → List α) : ∀ n, (∀ d, d < n → d ≠ a → X d = []) → (List.range n).flatMap X = if a < n then X a else []
 | 0, _ => by simp
 | n + 1, hX => by
  rw [List.range_succ, List.flatMap_append, range_one a X n (fun d h => hX d omg)]
  by_cases h : n = a
  ·subst h; simp
  ·have e : List.flatMap X [n] = [] := by simp [hX n omg h]
   rw [e, List.append_nil]
   by_cases h2 : a < n
   ·rw [if_pos h2, if_pos omg]
   ·rw [if_neg h2, if_neg omg]
theorem it_big {A C id : Int} {a b d v : Nat} (ha : a < 9) (hb : 0 < b) (hb3 : b < 4) (hd : d < 9) (hv : 0 < v) (hv3 : v < 4) (h : own a b d v = false) : (it A C id a b d v).filter (fun x => decide (x.2 = 1073741824)) = [] := by
 have := dt_bd a ha b hb3 hb d hd v hv3 hv
 unfold it one val
 split
 ·have h2 : ¬ (dt a b d v = 1073741824) := by omega
  simp [h, h2]
 ·rfl
theorem out_start (A C id : Int) (a b m : Nat) (ha : a < 9) (hb : 0 < b) (hb3 : b < 4) (hm3 : m < 4) : outN A C id a b m 707281 = if b ≤ m then [(id, (a : Int), (b : Int), false)] else [] := by
 unfold outN
 have e1 : (fall (prs A C id a b m)).filter (fun x => decide (707281 < x.2)) = (fall (prs A C id a b m)).filter (fun x => decide (x.2 = 1073741824)) := by
  apply List.filter_congr
  intro x hx
  rcases key_cases hm3 ha hb hb3 hx with h | ⟨_, _, _, _, _, _, h⟩
  ·simp [h]
  ·have h1 : ¬ (707281 < x.2) := by omega
   have h2 : ¬ (x.2 = 1073741824) := by omega
   simp [h1, h2]
 rw [e1, fall_filter]
 unfold prs pre row
 rw [List.filter_flatMap, range_one a]
 ·rw [if_pos ha, List.filter_flatMap, range_one (b - 1)]
  ·by_cases h : b ≤ m
   ·rw [if_pos omg, if_pos h, Nat.sub_add_cancel hb]
    simp [it, tol, own, one, val]
   ·rw [if_neg omg, if_neg h]; rfl
  ·intro v hv hne
   exact it_big ha hb hb3 ha omg omg (by simp [own]; omega)
 ·intro d hd hne
  rw [List.filter_flatMap]
  refine List.flatMap_eq_nil_iff.2 fun v hv => ?_
  exact it_big ha hb hb3 hd omg (by have := List.mem_range.1 hv; omega) (by simp [own, hne])
theorem out_step (A C id : Int) (a b m : Nat) (ha : a < 9) (hb : 0 < b) (hb3 : b < 4) (hm3 : m < 4) (n : Int) (h1 : -707281 ≤ n) (h2 : n ≤ 707281) : outN A C id a b m (blw a b n) = outN A C id a b m n ++ pren A C id a b n m 9 := by
 unfold outN
 rw [K.step_filter (fun x : Re × Int => x.2) (fall (prs A C id a b m)) (fall_sorted _) n (blw a b n) (blw_bd a b n h1).2, List.map_append]
 ·congr 1
  rw [← prs_filter A C id a b m n h2, ← fall_filter]
 ·intro x hx hlt
  rcases key_cases hm3 ha hb hb3 hx with h | ⟨d, v, hd, hv, h, _⟩
  ·omega
  ·rw [h] at hlt ⊢
   exact (bpre_ge a b n _ 9).2.1 d v hd hv hlt
theorem out_end (A C id : Int) (a b m : Nat) (ha : a < 9) (hb : 0 < b) (hb3 : b < 4) (hm3 : m < 4) (n : Int) (h1 : n < -707281) : outN A C id a b m n = (fall (prs A C id a b m)).map (·.1) := by
 unfold outN
 rw [List.filter_eq_self.2]
 intro x hx
 rcases key_cases hm3 ha hb hb3 hx with h | ⟨_, _, _, _, _, h, _⟩
 ·simp; omega
 ·simp; omega
end Uo
end Go.Proofs.YtbhgogiaaljclaaGreatDoor

namespace Go.Proofs.YtbhgogiaaljclaaGreatDoor
open Go.RowKit
theorem rv_flat (k : Nat) (hk : k < 8) (w : World) : Calls Tryz.prog 251 #[.int .i64 ((k + 1 : Nat) : Int)] w fun e w' => e = .returned (.tuple #[.int .i64 (Uo.fl k).1, .int .i64 (Uo.fl k).2, .int .i64 0]) ∧ w = w' := by
 rcases (by omega : k = 0 ∨ k = 1 ∨ k = 2 ∨ k = 3 ∨ k = 4 ∨ k = 5 ∨ k = 6 ∨ k = 7) with rfl | rfl | rfl | rfl | rfl | rfl | rfl | rfl
 all_goals
  go_enter Tryz.func251, Tryz.ntmps251
  go_wp2
  refine bodyPost_ret (by simp [results, Tryz.results251, go_sem]; rfl) rfl ?_
  exact ⟨rfl, rfl⟩
theorem rv_vec (d v : Nat) (w : World) (hd : d < 9) (hv : 0 < v) (hv3 : v < 4) :
  Calls Tryz.prog 227 #[.int .i64 d, .int .i64 v] w fun e w' => e = .returned (.tuple #[Uo.vecV d v, .int .i64 0]) ∧ Below w.heap.size w w' := by
 have hvi : (1 : Int) ≤ v ∧ (v : Int) ≤ 3 := by omega
 rcases d with _ | k
 ·have e0 : Uo.vecV 0 v = .agg #[.int .i64 0, .int .i64 0, .int .i64 (841 * ((v : Int) - 2))] := rfl
  rw [e0]
  clear e0
  go_enter Tryz.func227, Tryz.ntmps227
  go_wp2
  (refine bodyPost_ret (by simp [results, Tryz.results227, go_sem, Kit.cell_set]; try rfl) rfl ?_)
  exact ⟨rfl, by exact Kit.gr⟩
 ·have hk : k < 8 := by omega
  have hki : (1 : Int) ≤ ((k + 1 : Nat) : Int) ∧ ((k + 1 : Nat) : Int) ≤ 8 := by omega
  have HFl := qh (rv_flat k hk)
  have hbd := Uo.fl_bd k hk
  have hX : Uo.vecV (k + 1) v = .agg #[.int .i64 (Uo.sc v * (Uo.fl k).1), .int .i64 (Uo.sc v * (Uo.fl k).2), .int .i64 (609 * ((v : Int) - 2))] := rfl
  rw [hX]
  clear hX
  generalize Uo.fl k = F at *
  obtain ⟨X, Y⟩ := F
  dsimp only at hbd HFl ⊢
  obtain ⟨q, hq⟩ : ∃ q : Int, q = ((k + 1 : Nat) : Int) := ⟨_, rfl⟩
  rw [← hq] at HFl hki ⊢
  have q0 : (q == 0) = false := by simp; omega
  clear hq hk hd
  by_cases h2 : v = 2
  ·subst h2
   have hs : Uo.sc 2 = 29 := rfl
   rw [hs]
   clear hs
   go_enter Tryz.func227, Tryz.ntmps227
   go_wp2_with (go_at_call 251; refine (HFl.out _).mono ?_; rintro e w ⟨rfl, rfl⟩)
   (refine bodyPost_ret (by simp [results, Tryz.results227, go_sem, Kit.cell_set]; try rfl) rfl ?_)
   exact ⟨rfl, by exact Kit.gr⟩
  ·have hs : Uo.sc v = 20 := by unfold Uo.sc; rw [if_neg h2]
   have h2i : ((v : Int) == 2) = false := by simp; omega
   rw [hs]
   clear hs
   go_enter Tryz.func227, Tryz.ntmps227
   go_wp2_with (go_at_call 251; refine (HFl.out _).mono ?_; rintro e w ⟨rfl, rfl⟩)
   (refine bodyPost_ret (by simp [results, Tryz.results227, go_sem, Kit.cell_set]; try rfl) rfl ?_)
   exact ⟨rfl, by exact Kit.gr⟩
theorem rv_small (x y z : Int) (w : World) (h0 : -841 ≤ x ∧ x ≤ 841) (h1 : -841 ≤ y ∧ y ≤ 841) (h2 : -841 ≤ z ∧ z ≤ 841) :
  Calls Tryz.prog 252 #[.agg #[.int .i64 x, .int .i64 y, .int .i64 z]] w fun e w' => e = .returned (.bool true) ∧ Below w.heap.size w w' := by
 go_enter Tryz.func252, Tryz.ntmps252
 go_wp2
 go_ret
 exact ⟨(by first | rfl | (simp; done) | (simp; omega)), by exact Kit.gr⟩
theorem rv_dot (x y z x' y' z' : Int) (w : World) (h0 : -841 ≤ x ∧ x ≤ 841) (h1 : -841 ≤ y ∧ y ≤ 841) (h2 : -841 ≤ z ∧ z ≤ 841) (h3 : -841 ≤ x' ∧ x' ≤ 841) (h4 : -841 ≤ y' ∧ y' ≤ 841) (h5 : -841 ≤ z' ∧ z' ≤ 841) :
  Calls Tryz.prog 228 #[.agg #[.int .i64 x, .int .i64 y, .int .i64 z], .agg #[.int .i64 x', .int .i64 y', .int .i64 z']] w fun e w' => e = .returned (.tuple #[.int .i64 (x * x' + y * y' + z * z'), .int .i64 0]) ∧ Below w.heap.size w w' := by
 have p0 := Uo.prod_bd x x' h0.1 h0.2 h3.1 h3.2
 have p1 := Uo.prod_bd y y' h1.1 h1.2 h4.1 h4.2
 have p2 := Uo.prod_bd z z' h2.1 h2.2 h5.1 h5.2
 have H1 := qh (fun W => rv_small x y z W h0 h1 h2)
 have H2 := qh (fun W => rv_small x' y' z' W h3 h4 h5)
 go_enter Tryz.func228, Tryz.ntmps228
 go_wp2_with fail
 refine (H1.out _).mono ?_
 rintro _ w1 ⟨rfl, hb1⟩
 have x0 : w1.cell? ⟨w.heap.size, 0, none⟩ = some (.int .i64 x) := (hb1.cell (by first | (simp; done) | (simp; omega))).trans (by simp [go_sem])
 have x1 : w1.cell? ⟨w.heap.size, 1, none⟩ = some (.int .i64 y) := (hb1.cell (by first | (simp; done) | (simp; omega))).trans (by simp [go_sem])
 have x2 : w1.cell? ⟨w.heap.size, 2, none⟩ = some (.int .i64 z) := (hb1.cell (by first | (simp; done) | (simp; omega))).trans (by simp [go_sem])
 have y0 : w1.cell? ⟨w.heap.size + 1, 0, none⟩ = some (.int .i64 x') := (hb1.cell (by first | (simp; done) | (simp; omega))).trans (by simp [go_sem])
 have y1 : w1.cell? ⟨w.heap.size + 1, 1, none⟩ = some (.int .i64 y') := (hb1.cell (by first | (simp; done) | (simp; omega))).trans (by simp [go_sem])
 have y2 : w1.cell? ⟨w.heap.size + 1, 2, none⟩ = some (.int .i64 z') := (hb1.cell (by first | (simp; done) | (simp; omega))).trans (by simp [go_sem])
 have hz1 : w.heap.size + 1 < w1.heap.size := by have := hb1.size; simp at this; omega
 have hB1 : Below w.heap.size w w1 := Below.trans (B := w.heap.size) (by exact Kit.gr) (hb1.mono (by simp; omega))
 have HB1 := qh hB1
 clear hb1 hB1
 go_wp2_with fail
 refine (H2.out _).mono ?_
 rintro _ w2 ⟨rfl, hb2⟩
 replace x0 := (hb2.cell (p := ⟨w.heap.size, 0, none⟩) (by simp; omega)).trans x0
 replace x1 := (hb2.cell (p := ⟨w.heap.size, 1, none⟩) (by simp; omega)).trans x1
 replace x2 := (hb2.cell (p := ⟨w.heap.size, 2, none⟩) (by simp; omega)).trans x2
 replace y0 := (hb2.cell (p := ⟨w.heap.size + 1, 0, none⟩) (by simp; omega)).trans y0
 replace y1 := (hb2.cell (p := ⟨w.heap.size + 1, 1, none⟩) (by simp; omega)).trans y1
 replace y2 := (hb2.cell (p := ⟨w.heap.size + 1, 2, none⟩) (by simp; omega)).trans y2
 have HB2 := qh (HB1.out.trans (hb2.mono HB1.out.size))
 clear hb2
 go_wp2_with fail
 go_ret2
 exact ⟨rfl, HB2.out⟩
theorem rv_near (A BB C : Int) (a b d v : Nat) (w : World) (ha : a < 9) (hb : 0 < b) (hb3 : b < 4) (hd : d < 9) (hv : 0 < v) (hv3 : v < 4) (hA : 0 ≤ A) (hA2 : A ≤ 32768) (hC : 0 ≤ C) (hC2 : C ≤ 32768) :
  Calls Tryz.prog 187 #[.agg #[.int .i64 A, .int .i64 BB, .int .i64 C], .int .i64 a, .int .i64 b, .int .i64 d, .int .i64 v] w fun e w' => e = .returned (.tuple #[.int .i64 (Uo.dt a b d v), .bool (Uo.tol A C a b d v)]) ∧ Below w.heap.size w w' := by
 have H1 := qh (fun W => rv_vec a b W ha hb hb3)
 have H2 := qh (fun W => rv_vec d v W hd hv hv3)
 have n1 := Uo.nz_eq a ha b hb3 hb
 have n2 := Uo.nz_eq d hd v hv3 hv
 have b1 := Uo.v_bd a ha b hb3 hb
 have b2 := Uo.v_bd d hd v hv3 hv
 have dbd := Uo.dt_bd a ha b hb3 hb d hd v hv3 hv
 have htol : Uo.tol A C a b d v = (Uo.own a b d v || ((Uo.nz a b && Uo.nz d v) && decide (A * 841 * 841 ≤ Uo.dt a b d v * C))) := rfl
 have hown : Uo.own a b d v = (d == a && v == b) := rfl
 rw [htol, hown]
 clear htol hown
 unfold Uo.vecV at H1 H2
 have hD : Uo.dt a b d v = Uo.vx a b * Uo.vx d v + Uo.vy a b * Uo.vy d v + Uo.vz a b * Uo.vz d v := rfl
 generalize Uo.vx a b = x at *
 generalize Uo.vy a b = y at *
 generalize Uo.vz a b = z at *
 generalize Uo.vx d v = x' at *
 generalize Uo.vy d v = y' at *
 generalize Uo.vz d v = z' at *
 generalize Uo.nz a b = N at *
 generalize Uo.nz d v = M at *
 have H3 := qh (fun W => rv_dot x y z x' y' z' W b1.1 b1.2.1 b1.2.2 b2.1 b2.2.1 b2.2.2)
 rw [← hD] at H3
 generalize Uo.dt a b d v = D at *
 have e1 := fun w => Uo.eq_vec x y z w
 have e2 := fun w => Uo.eq_vec x' y' z' w
 generalize (x == 0 && y == 0 && z == 0) = P at *
 generalize (x' == 0 && y' == 0 && z' == 0) = Q at *
 subst n1 n2
 have pbd : -23176183808 ≤ D * C ∧ D * C ≤ 23176183808 := by
  have h1 := Int.mul_le_mul_of_nonneg_right dbd.1 hC
  have h2 := Int.mul_le_mul_of_nonneg_right dbd.2 hC
  omega
 obtain ⟨R, hR⟩ : ∃ R, decide (A * 841 * 841 ≤ D * C) = R := ⟨_, rfl⟩
 obtain ⟨u, hu⟩ : ∃ u, (d == a) = u := ⟨_, rfl⟩
 obtain ⟨t, ht⟩ : ∃ t, (v == b) = t := ⟨_, rfl⟩
 rw [hR, hu, ht]
 have hu2 : ((a : Int) == (d : Int)) = u := by rw [← hu, Bool.eq_iff_iff]; simp; omega
 have ht2 : ((b : Int) == (v : Int)) = t := by rw [← ht, Bool.eq_iff_iff]; simp; omega
 have hu3 : (a == d) = u := by rw [← hu, Bool.eq_iff_iff]; simp; omega
 have ht3 : (b == v) = t := by rw [← ht, Bool.eq_iff_iff]; simp; omega
 clear b1 b2 hD
 go_enter Tryz.func187, Tryz.ntmps187
 go_wp2_with fail
 refine (H1.out _).mono ?_
 rintro _ w1 ⟨rfl, hb1⟩
 have q0 : w1.cell? ⟨w.heap.size, 0, none⟩ = some (.int .i64 A) := (hb1.cell (by simp)).trans (by simp [go_sem])
 have q2 : w1.cell? ⟨w.heap.size, 2, none⟩ = some (.int .i64 C) := (hb1.cell (by simp)).trans (by simp [go_sem])
 have hz1 : w.heap.size < w1.heap.size := by have := hb1.size; simp at this; omega
 have HB1 := qh (show Below w.heap.size w w1 from Below.trans (B := w.heap.size) (by exact Kit.gr) (hb1.mono (by simp)))
 clear hb1
 go_wp2_with fail
 refine (H2.out _).mono ?_
 rintro _ w2 ⟨rfl, hb2⟩
 have x0 : w2.cell? ⟨w1.heap.size, 0, none⟩ = some (.int .i64 x) := (hb2.cell (by simp)).trans (by simp [go_sem])
 have x1 : w2.cell? ⟨w1.heap.size, 1, none⟩ = some (.int .i64 y) := (hb2.cell (by simp)).trans (by simp [go_sem])
 have x2 : w2.cell? ⟨w1.heap.size, 2, none⟩ = some (.int .i64 z) := (hb2.cell (by simp)).trans (by simp [go_sem])
 replace q0 : w2.cell? ⟨w.heap.size, 0, none⟩ = some (.int .i64 A) := (hb2.cell (by simp; omega)).trans (by simp [go_sem, q0, hz1])
 replace q2 : w2.cell? ⟨w.heap.size, 2, none⟩ = some (.int .i64 C) := (hb2.cell (by simp; omega)).trans (by simp [go_sem, q2, hz1])
 have hz2 : w1.heap.size < w2.heap.size := by have := hb2.size; simp at this; omega
 have HB2 := qh (show Below w.heap.size w w2 from (HB1.out.alloc HB1.out.size _).trans (hb2.mono (by have := HB1.out.size; simp; omega)))
 clear hb2
 obtain ⟨B1, hB1⟩ : ∃ B1, B1 = w1.heap.size := ⟨_, rfl⟩
 rw [← hB1] at x0 x1 x2 hz2 ⊢
 have hzw : w.heap.size < w2.heap.size := by omega
 clear hB1 HB1 H1 H2
 go_wp2_with fail
 refine (H3.out _).mono ?_
 rintro _ w3 ⟨rfl, hb3'⟩
 have y0 : w3.cell? ⟨w2.heap.size, 0, none⟩ = some (.int .i64 x') := (hb3'.cell (by simp)).trans (by simp [go_sem])
 have y1 : w3.cell? ⟨w2.heap.size, 1, none⟩ = some (.int .i64 y') := (hb3'.cell (by simp)).trans (by simp [go_sem])
 have y2 : w3.cell? ⟨w2.heap.size, 2, none⟩ = some (.int .i64 z') := (hb3'.cell (by simp)).trans (by simp [go_sem])
 replace x0 : w3.cell? ⟨B1, 0, none⟩ = some (.int .i64 x) := (hb3'.cell (by simp; omega)).trans (by simp [go_sem, x0, hz2])
 replace x1 : w3.cell? ⟨B1, 1, none⟩ = some (.int .i64 y) := (hb3'.cell (by simp; omega)).trans (by simp [go_sem, x1, hz2])
 replace x2 : w3.cell? ⟨B1, 2, none⟩ = some (.int .i64 z) := (hb3'.cell (by simp; omega)).trans (by simp [go_sem, x2, hz2])
 replace q0 : w3.cell? ⟨w.heap.size, 0, none⟩ = some (.int .i64 A) := (hb3'.cell (by simp; omega)).trans (by simp [go_sem, q0, hzw])
 replace q2 : w3.cell? ⟨w.heap.size, 2, none⟩ = some (.int .i64 C) := (hb3'.cell (by simp; omega)).trans (by simp [go_sem, q2, hzw])
 have HB := qh (show Below w.heap.size w w3 from (HB2.out.alloc HB2.out.size _).trans (hb3'.mono (by have := HB2.out.size; simp; omega)))
 have hz3 : w2.heap.size < w3.heap.size := by have := hb3'.size; simp at this; omega
 have hzq : w.heap.size < w3.heap.size ∧ B1 < w3.heap.size := by omega
 clear hb3' HB2 hz2 hzw hz1 hu ht
 generalize w2.heap.size = B2 at *
 cases u <;> cases t <;> cases P <;> cases Q <;> cases R
 all_goals
  go_wp2_with fail
  go_quiet (fail)
  go_wp2_with fail
  go_ret2
  exact ⟨rfl, (HB.out.alloc HB.out.size _).trans ⟨rfl, rfl, rfl, Nat.le_refl _, fun _ _ => rfl⟩⟩
theorem Uo.brow_bd (a b : Nat) (ha : a < 9) (hb : 0 < b) (hb3 : b < 4) (n s : Int) (hs : -707282 ≤ s ∧ s ≤ 707281) (d : Nat) (hd : d < 9) : ∀ m, m < 4 → -707282 ≤ brow a b n s d m ∧ brow a b n s d m ≤ 707281
 | 0, _ => hs
 | m + 1, h => by
  have ih := Uo.brow_bd a b ha hb hb3 n s hs d hd m omg
  have h2 := Uo.dt_bd a ha b hb3 hb d hd (m + 1) omg omg
  rw [Uo.brow_succ]
  unfold Uo.bone
  split
  ·split <;> omega
  ·exact ih
theorem Uo.bpre_bd (a b : Nat) (ha : a < 9) (hb : 0 < b) (hb3 : b < 4) (n s : Int) (hs : -707282 ≤ s ∧ s ≤ 707281) : ∀ k, k ≤ 9 → -707282 ≤ bpre a b n s k ∧ bpre a b n s k ≤ 707281
 | 0, _ => hs
 | k + 1, h => by
  have ih := Uo.bpre_bd a b ha hb hb3 n s hs k omg
  rw [Uo.bpre_succ]
  exact Uo.brow_bd a b ha hb hb3 n _ ih k omg 3 omg
theorem rv_below (A BB C : Int) (s : Ex.Sg) (a b : Nat) (hsd : s.dir = a) (hsl : s.level = b) (n : Int) (w : World) (ha : a < 9) (hb : 0 < b) (hb3 : b < 4) (hA : 0 ≤ A) (hA2 : A ≤ 32768) (hC : 0 ≤ C) (hC2 : C ≤ 32768) (hn : -1000000 ≤ n ∧ n ≤ 1000000) :
  Calls Tryz.prog 186 #[.agg #[.int .i64 A, .int .i64 BB, .int .i64 C], Ex.sgV s, .int .i64 n] w fun e w' => e = .returned (.int .i64 (Uo.blw a b n)) ∧ Below w.heap.size w w' := by
 have HN := qh (fun d v hd hv hv3 W => rv_near A BB C a b d v W ha hb hb3 hd hv hv3 hA hA2 hC hC2)
 have HDB := qh (fun d v hd hv hv3 => Uo.dt_bd a ha b hb3 hb d hd v hv3 hv)
 have HRB := qh (fun S hs d hd m hm => Uo.brow_bd a b ha hb hb3 n S hs d hd m hm)
 have HPB := qh (fun k hk => Uo.bpre_bd a b ha hb hb3 n (-707282) omg k hk)
 go_enter Tryz.func186, Tryz.ntmps186
 go_wp2_with fail
 refine Kit.wp_name ?_
 intro W1 hW1
 have c0 : W1.cell? ⟨w.heap.size, 0, none⟩ = some (.int .i64 A) := by rw [hW1]; simp [go_sem]
 have c1 : W1.cell? ⟨w.heap.size, 1, none⟩ = some (.int .i64 BB) := by rw [hW1]; simp [go_sem]
 have c2 : W1.cell? ⟨w.heap.size, 2, none⟩ = some (.int .i64 C) := by rw [hW1]; simp [go_sem]
 have c6 : W1.cell? ⟨w.heap.size + 1, 6, none⟩ = some (.int .i64 (a : Int)) := by rw [hW1, ← hsd]; simp [go_sem]
 have c7 : W1.cell? ⟨w.heap.size + 1, 7, none⟩ = some (.int .i64 (b : Int)) := by rw [hW1, ← hsl]; simp [go_sem]
 have hz : w.heap.size + 1 < W1.heap.size := by rw [hW1]; simp
 have HB1 := qh (show Below w.heap.size w W1 by rw [hW1]; exact Kit.gr)
 have HC := qh (fun wr (h : Below W1.heap.size W1 wr) => (⟨(h.cell (p := ⟨w.heap.size, 0, none⟩) (by simp; omega)).trans c0, (h.cell (p := ⟨w.heap.size, 1, none⟩) (by simp; omega)).trans c1, (h.cell (p := ⟨w.heap.size, 2, none⟩) (by simp; omega)).trans c2, (h.cell (p := ⟨w.heap.size + 1, 6, none⟩) hz).trans c6, (h.cell (p := ⟨w.heap.size + 1, 7, none⟩) hz).trans c7⟩ : wr.cell? ⟨w.heap.size, 0, none⟩ = some (.int .i64 A) ∧ wr.cell? ⟨w.heap.size, 1, none⟩ = some (.int .i64 BB) ∧ wr.cell? ⟨w.heap.size, 2, none⟩ = some (.int .i64 C) ∧ wr.cell? ⟨w.heap.size + 1, 6, none⟩ = some (.int .i64 (a : Int)) ∧ wr.cell? ⟨w.heap.size + 1, 7, none⟩ = some (.int .i64 (b : Int))))
 clear hW1 c0 c1 c2 c6 c7 hsd hsl
 go_loopg [7, 8] 9 (fun kx v7 v8 wr => ∃ d : Nat, v8 = .int .i64 d ∧ d ≤ 9 ∧ 9 - d ≤ kx ∧ v7 = .int .i64 (Uo.bpre a b n (-707282) d) ∧ Hid (Below W1.heap.size W1 wr))
 case atStart => exact ⟨0, rfl, by omega, by omega, rfl, qh (Below.refl _ _)⟩
 case round =>
  obtain ⟨d, rfl, hd9, hk, rfl, HB⟩ := hrel
  by_cases hlt : d < 9
  ·have hdi : (d : Int) ≤ 8 := by omega
   obtain ⟨S, hS⟩ : ∃ S, Uo.bpre a b n (-707282) d = S := ⟨_, rfl⟩
   have hsb := HPB.out d omg
   rw [hS] at hsb ⊢
   have HNX := qh (show Uo.bpre a b n (-707282) (d + 1) = Uo.brow a b n S d 3 by rw [Uo.bpre_succ, hS])
   have HSB := qh hsb
   clear hS hsb
   go_wp2_with fail
   go_loopg [7, 9] 3 (fun kx v7 v9 wx => ∃ j : Nat, v9 = .int .i64 ((j : Int) + 1) ∧ j ≤ 3 ∧ 3 - j ≤ kx ∧ v7 = .int .i64 (Uo.brow a b n S d j) ∧ Hid (Below W1.heap.size W1 wx))
   case atStart => exact ⟨0, rfl, by omega, by omega, rfl, HB⟩
   case round =>
    obtain ⟨j, rfl, hj3, hkj, rfl, HX⟩ := hrel
    by_cases hlj : j < 3
    ·have hji : (j : Int) + 1 ≤ 3 := by omega
     obtain ⟨T, hT⟩ : ∃ T, Uo.brow a b n S d j = T := ⟨_, rfl⟩
     have htb := HRB.out S HSB.out d hlt j omg
     rw [hT] at htb ⊢
     have hbn : Uo.brow a b n S d (j + 1) = Uo.bone a b n T d (j + 1) := by rw [Uo.brow_succ, hT]
     unfold Uo.bone at hbn
     have hdb := HDB.out d (j + 1) hlt omg omg
     have hC := HN.out d (j + 1) hlt omg omg
     rw [show (((j + 1 : Nat) : Int)) = (j : Int) + 1 by omega] at hC
     generalize Uo.tol A C a b d (j + 1) = tl at hC
     generalize Uo.dt a b d (j + 1) = D at hC hdb hbn
     have HCN := qh hC
     have HBN := qh hbn
     obtain ⟨e0, e1, e2, e6, e7⟩ := HC.out _ HX.out
     have hzx := HX.out.size
     have hzy : w.heap.size + 1 < wr.heap.size := by omega
     clear hT hC hbn
     go_wp2_with fail
     refine (HCN.out _).mono ?_
     rintro _ w2 ⟨rfl, hb2⟩
     have HX2 := qh (HX.out.trans (hb2.mono omg))
     clear hb2 e0 e1 e2 e6 e7
     rcases dl : decide (D < n) with _ | _
     ·have HE := qh (show Uo.brow a b n S d (j + 1) = T by rw [HBN.out, if_neg (by simpa using dl)])
      clear HBN
      go_wp2_with fail
      go_roundg (3 - (j + 1))
      case measure => omega
      case rel => exact ⟨j + 1, by go_num, by omega, Nat.le_refl _, by rw [HE.out], HX2.out⟩
     ·have HE := qh (show Uo.brow a b n S d (j + 1) = max T D by rw [HBN.out, if_pos (by simpa using dl)]; split <;> omega)
      clear HBN
      obtain ⟨M, hM⟩ : ∃ M, max T D = M := ⟨_, rfl⟩
      have hM2 : (if T < D then D else T) = M := by rw [← hM]; split <;> omega
      have HM := qh hM
      clear hM
      go_wp2_with fail
      go_roundg (3 - (j + 1))
      case measure => omega
      case rel => exact ⟨j + 1, by go_num, by omega, Nat.le_refl _, by rw [HE.out, HM.out], HX2.out⟩
    ·obtain rfl : j = 3 := by omega
     rw [← HNX.out]
     go_wp2_with fail
     go_roundg (9 - (d + 1))
     case measure => omega
     case rel => exact ⟨d + 1, by go_num, by omega, Nat.le_refl _, rfl, HX.out⟩
  ·obtain rfl : d = 9 := by omega
   go_wp2_with fail
   go_ret
   exact ⟨rfl, HB1.out.trans (HB.out.mono HB1.out.size)⟩
namespace Uo
abbrev sgC (s : Ex.Sg) (a b : Nat) : Array Value := #[.int .i64 s.id, .int .i64 s.role, .int .i64 s.bar, .int .i64 s.mark, .int .i64 s.kind, .int .i64 s.side, .int .i64 a, .int .i64 b, .int .i64 s.size, .int .i64 s.wth, .int .i64 s.fn, .int .i64 s.fd, .int .i64 s.tn, .int .i64 s.td]
theorem flatMap_le {α : Type} (f : Nat → List α) (k : Nat) : ∀ n, (∀ i, i < n → (f i).length ≤ k) → ((List.range n).flatMap f).length ≤ n * k
 | 0, _ => by simp
 | n + 1, h => by
  rw [List.range_succ, List.flatMap_append, List.length_append]
  have h1 := flatMap_le f k n (fun i hi => h i omg)
  have h2 := h n omg
  simp only [List.flatMap_cons, List.flatMap_nil, List.append_nil]
  rw [Nat.succ_mul]; omega
theorem itn_le (A C id : Int) (a b : Nat) (n : Int) (d v : Nat) : (itn A C id a b n d v).length ≤ 1 := by unfold itn; split <;> simp
theorem rown_le (A C id : Int) (a b : Nat) (n : Int) (d m : Nat) : (rown A C id a b n d m).length ≤ m := by
 have := flatMap_le (fun v => itn A C id a b n d (v + 1)) 1 m (fun i _ => itn_le ..)
 unfold rown; omega
theorem pren_le (A C id : Int) (a b : Nat) (n : Int) (m k : Nat) : (pren A C id a b n m k).length ≤ k * m := flatMap_le _ m k (fun i _ => rown_le ..)
theorem outN_le (A C id : Int) (a b m : Nat) (n : Int) : (outN A C id a b m n).length ≤ 9 * m := by
 unfold outN
 rw [List.length_map]
 refine Nat.le_trans (List.length_filter_le _ _) ?_
 rw [fall_len]
 exact pre_len ..
end Uo
theorem rv_limbs (A BB C : Int) (s : Ex.Sg) (a b m : Nat) (hsd : s.dir = a) (hsl : s.level = b) (w : World) (ha : a < 9) (hb : 0 < b) (hb3 : b < 4) (hm : m < 4) (hA : 0 ≤ A) (hA2 : A ≤ 32768) (hC : 0 ≤ C) (hC2 : C ≤ 32768) :
  Calls Tryz.prog 129 #[.agg #[.int .i64 A, .int .i64 BB, .int .i64 C], Ex.sgV s, .int .i64 m] w (Uo.Post ((Uo.fall (Uo.prs A C s.id a b m)).map (·.1)) w) := by
 have HN := qh (fun d v hd hv hv3 W => rv_near A BB C a b d v W ha hb hb3 hd hv hv3 hA hA2 hC hC2)
 have hsv : Ex.sgV s = .agg (Uo.sgC s a b) := by simp [hsd, hsl]
 have HBL := qh (fun n W (hn : -1000000 ≤ n ∧ n ≤ 1000000) => (hsv ▸ rv_below A BB C s a b hsd hsl n W ha hb hb3 hA hA2 hC hC2 hn : Calls Tryz.prog 186 #[.agg #[.int .i64 A, .int .i64 BB, .int .i64 C], .agg (Uo.sgC s a b), .int .i64 n] W fun e w' => e = .returned (.int .i64 (Uo.blw a b n)) ∧ Below W.heap.size W w'))
 dsimp only [Uo.sgC] at HBL
 have HDB := qh (fun d v hd hv hv3 => Uo.dt_bd a ha b hb3 hb d hd v hv3 hv)
 have HST := qh (Uo.out_start A C s.id a b m ha hb hb3 hm)
 have HSP := qh (fun n h1 h2 => Uo.out_step A C s.id a b m ha hb hb3 hm n h1 h2)
 have HED := qh (fun n h => Uo.out_end A C s.id a b m ha hb hb3 hm n h)
 have HBB := qh (fun n h => Uo.blw_bd a b n h)
 have HOL := qh (fun n => Uo.outN_le A C s.id a b m n)
 go_enter Tryz.func129, Tryz.ntmps129
 go_upto_region 2 with fail
 refine Kit.wp_name ?_
 intro W1 hW1
 have c0 : W1.cell? ⟨w.heap.size, 0, none⟩ = some (.int .i64 A) := by rw [hW1]; simp [go_sem]
 have c1 : W1.cell? ⟨w.heap.size, 1, none⟩ = some (.int .i64 BB) := by rw [hW1]; simp [go_sem]
 have c2 : W1.cell? ⟨w.heap.size, 2, none⟩ = some (.int .i64 C) := by rw [hW1]; simp [go_sem]
 have cs : ∀ j, W1.cell? ⟨w.heap.size + 1, j, none⟩ = (Uo.sgC s a b)[j]? := fun j => by rw [hW1]; simp [go_sem, hsd, hsl]
 have hz : w.heap.size + 1 < W1.heap.size := by rw [hW1]; simp
 have HB1 := qh (show Below w.heap.size w W1 by rw [hW1]; exact Kit.gr)
 have HC := qh (fun wr (h : Below W1.heap.size W1 wr) => (⟨(h.cell (p := ⟨w.heap.size, 0, none⟩) (by simp; omega)).trans c0, (h.cell (p := ⟨w.heap.size, 1, none⟩) (by simp; omega)).trans c1, (h.cell (p := ⟨w.heap.size, 2, none⟩) (by simp; omega)).trans c2, fun j => (World.cell?_of_block (h.block (w.heap.size + 1) hz)).trans (cs j)⟩ : wr.cell? ⟨w.heap.size, 0, none⟩ = some (.int .i64 A) ∧ wr.cell? ⟨w.heap.size, 1, none⟩ = some (.int .i64 BB) ∧ wr.cell? ⟨w.heap.size, 2, none⟩ = some (.int .i64 C) ∧ (∀ j, wr.cell? ⟨w.heap.size + 1, j, none⟩ = (Uo.sgC s a b)[j]?)))
 clear hW1 hsd hsl hsv
 have hG : Hid (Kit.Gw W1 61 4 (.slice none 0 0) 0 [] W1) := qh (Kit.Gw.start _ _ _)
 have hm2 : m ≤ 3 := by omega
 obtain ⟨N, hN⟩ : ∃ N : Nat, N = 1414564 := ⟨_, rfl⟩
 have HNN := qh hN
 clear hN
 generalize hv0 : Value.slice none 0 0 = v0 at hG ⊢
 clear hv0
 obtain ⟨_, _, _, ec0⟩ := HC.out _ (Below.refl _ _)
 obtain ⟨bm, hbm⟩ : ∃ x, decide (b ≤ m) = x := ⟨_, rfl⟩
 go_upto_if 16 with fail
 have HBM := qh hbm
 clear hbm
 go_cut [7] from 17 to 26 (fun v7 wr => Hid (Kit.Gw W1 61 4 v7 (Uo.outN A C s.id a b m 707281).length ((Uo.outN A C s.id a b m 707281).flatMap Uo.rc) wr))
 case first =>
  rcases bm with _ | _
  ·have HE := qh (show Uo.outN A C s.id a b m 707281 = [] by rw [HST.out, if_neg (by simpa using HBM.out)])
   go_wp2_with fail
   go_meet
   case rel => exact qh (by rw [HE.out]; exact hG.out)
  ·have HE := qh (show Uo.outN A C s.id a b m 707281 = [(s.id, (a : Int), (b : Int), false)] by rw [HST.out, if_pos (by simpa using HBM.out)])
   go_wp2_with (at_builtin; refine Kit.wpList_app Uo.elR _ rfl _ _ rfl _ _ _ (hG.out.alloc _) rfl omg ⟨W1.heap.size, 0, none⟩ 1 (Uo.rc (s.id, (a : Int), (b : Int), false)) rfl rfl (fun j u hu => Kit.lit_at _ (Uo.rc (s.id, (a : Int), (b : Int), false)) _ (by simp) j u hu) (by simp [Uo.rc, Value.oneCell']) ?_; intro v' w2 ho hg; have HO2 := qh ho; clear ho hg)
   go_meet
   case rel => exact qh (by rw [HE.out]; exact HO2.out)
 case rest =>
  obtain ⟨W2, hW2⟩ : ∃ W2, W2 = wc := ⟨_, rfl⟩
  go_wp2_with fail
  go_loopg [7, 8] N (fun kx v7 v8 wr => ∃ n : Int, v8 = .int .i64 n ∧ -707282 ≤ n ∧ n ≤ 707281 ∧ n + 707283 ≤ (kx : Int) ∧ Hid (Kit.Gw W1 61 4 v7 (Uo.outN A C s.id a b m n).length ((Uo.outN A C s.id a b m n).flatMap Uo.rc) wr))
  case atStart => exact ⟨707281, rfl, by omega, by omega, by have := HNN.out; omega, hcut⟩
  case round =>
   obtain ⟨n, rfl, hn1, hn2, hk, HG⟩ := hrel
   rcases dn : decide (-707281 ≤ n) with _ | _
   ·have HE := qh (HED.out n (by have := of_decide_eq_false dn; omega))
    go_wp2_with fail
    go_ret
    refine ⟨⟨_, rfl, ?_⟩, HB1.out.trans (HG.out.bel.mono HB1.out.size)⟩
    rw [← HE.out]
    exact HG.out.own.mono HB1.out.size
   ·have hn3 : -707281 ≤ n := of_decide_eq_true dn
    have HNX := qh (HSP.out n hn3 hn2)
    have hpl := HOL.out n
    generalize Uo.outN A C s.id a b m n = P at *
    go_wp2_with fail
    go_loopg [7, 9] 9 (fun kx v7 v9 wr => ∃ d : Nat, v9 = .int .i64 d ∧ d ≤ 9 ∧ 9 - d ≤ kx ∧ Hid (Kit.Gw W1 61 4 v7 (P ++ Uo.pren A C s.id a b n m d).length ((P ++ Uo.pren A C s.id a b n m d).flatMap Uo.rc) wr))
    case atStart => exact ⟨0, rfl, by omega, by omega, qh (by rw [show Uo.pren A C s.id a b n m 0 = [] from rfl, List.append_nil]; exact HG.out)⟩
    case round =>
     obtain ⟨d, rfl, hd9, hkd, HD⟩ := hrel
     by_cases hlt : d < 9
     ·have hdi : (d : Int) ≤ 8 := by omega
      have hql := Uo.pren_le A C s.id a b n m d
      obtain ⟨Q, hQ⟩ : ∃ Q, P ++ Uo.pren A C s.id a b n m d = Q := ⟨_, rfl⟩
      have hqm : d * m ≤ 8 * 3 := Nat.mul_le_mul omg hm2
      have hQl : Q.length ≤ 60 := by rw [← hQ, List.length_append]; omega
      have HQX := qh (show P ++ Uo.pren A C s.id a b n m (d + 1) = Q ++ Uo.rown A C s.id a b n d m by rw [Uo.pren_succ, ← List.append_assoc, hQ])
      rw [hQ] at HD
      clear hQ hql hqm
      go_wp2_with fail
      go_loopg [7, 10] 3 (fun kx v7 v10 wr => ∃ j : Nat, v10 = .int .i64 ((j : Int) + 1) ∧ j ≤ m ∧ m - j ≤ kx ∧ Hid (Kit.Gw W1 61 4 v7 (Q ++ Uo.rown A C s.id a b n d j).length ((Q ++ Uo.rown A C s.id a b n d j).flatMap Uo.rc) wr))
      case atStart => exact ⟨0, rfl, by omega, by omega, qh (by rw [show Uo.rown A C s.id a b n d 0 = [] from rfl, List.append_nil]; exact HD.out)⟩
      case round =>
       obtain ⟨j, rfl, hjm, hkj, HJ⟩ := hrel
       by_cases hlj : j < m
       ·have hji : (j : Int) + 1 ≤ (m : Int) := by omega
        have hjn : j + 1 ≤ m := hlj
        have hrl := Uo.rown_le A C s.id a b n d j
        obtain ⟨R, hR⟩ : ∃ R, Q ++ Uo.rown A C s.id a b n d j = R := ⟨_, rfl⟩
        have hRl : R.length ≤ 100 := by rw [← hR, List.length_append]; omega
        have hrx : Q ++ Uo.rown A C s.id a b n d (j + 1) = R ++ Uo.itn A C s.id a b n d (j + 1) := by rw [Uo.rown_succ, ← List.append_assoc, hR]
        rw [hR] at HJ
        unfold Uo.itn Uo.own at hrx
        have hcn := HN.out d (j + 1) hlt omg omg
        rw [show (((j + 1 : Nat) : Int)) = (j : Int) + 1 by omega] at hcn hrx
        have hdb := HDB.out d (j + 1) hlt omg omg
        generalize Uo.tol A C a b d (j + 1) = tl at hcn hrx
        generalize Uo.dt a b d (j + 1) = D at hcn hrx hdb
        have HRX := qh hrx
        have HCN := qh hcn
        obtain ⟨e0, e1, e2, ec⟩ := HC.out _ HJ.out.bel
        have hzw := HJ.out.bel.size
        have hzx : w.heap.size + 1 < wr.heap.size := by omega
        clear hR hrx hcn hrl
        go_wp2_with fail
        refine (HCN.out _).mono ?_
        rintro _ w2 ⟨rfl, hb2⟩
        have HJ2 := qh (HJ.out.thn hb2)
        clear e0 e1 e2 ec hzw hzx hb2
        obtain ⟨_, _, _, ec⟩ := HC.out _ HJ2.out.bel
        have hzw := HJ2.out.bel.size
        have hzx : w.heap.size + 1 < w2.heap.size := by omega
        rcases tl with _ | _
        ·have HE := qh (show Q ++ Uo.rown A C s.id a b n d (j + 1) = R by rw [HRX.out, if_neg (by simp), List.append_nil])
         go_wp2_with fail
         go_roundg (m - (j + 1))
         case measure => omega
         case rel => exact ⟨j + 1, by go_num, by omega, Nat.le_refl _, qh (by rw [HE.out]; exact HJ2.out)⟩
        rcases dD : (D == n) with _ | _
        ·have HE := qh (show Q ++ Uo.rown A C s.id a b n d (j + 1) = R by rw [HRX.out, if_neg (by simp at dD ⊢; intro _; exact dD), List.append_nil])
         go_wp2_with fail
         go_roundg (m - (j + 1))
         case measure => omega
         case rel => exact ⟨j + 1, by go_num, by omega, Nat.le_refl _, qh (by rw [HE.out]; exact HJ2.out)⟩
        have hDn : D = n := by simpa using dD
        rcases da : ((d : Int) != (a : Int)) with _ | _
        ·have da2 : (d != a) = false := by simp at da ⊢; omega
         have hda : d = a := by simp at da; omega
         rcases db : ((j : Int) + 1 != (b : Int)) with _ | _
         ·have hdb2 : j + 1 = b := by simp at db; omega
          have HE := qh (show Q ++ Uo.rown A C s.id a b n d (j + 1) = R by rw [HRX.out, if_neg (by simp [hda, hdb2]), List.append_nil])
          clear hda hdb2 hDn
          go_wp2_with fail
          go_roundg (m - (j + 1))
          case measure => omega
          case rel => exact ⟨j + 1, by go_num, by omega, Nat.le_refl _, qh (by rw [HE.out]; exact HJ2.out)⟩
         ·have hdb2 : ¬ (j + 1 = b) := by simp at db; omega
          have HE := qh (show Q ++ Uo.rown A C s.id a b n d (j + 1) = R ++ [(s.id, (d : Int), (j : Int) + 1, false)] by rw [HRX.out, if_pos (by simp [hDn, hdb2])])
          clear hda hdb2 hDn
          go_wp2_with (at_builtin; refine Kit.wpList_app Uo.elR _ rfl _ _ rfl _ _ _ (HJ2.out.alloc _) rfl omg ⟨w2.heap.size, 0, none⟩ 1 (Uo.rc (s.id, (d : Int), (j : Int) + 1, false)) rfl rfl (fun j_ u hu => Kit.lit_at _ (Uo.rc (s.id, (d : Int), (j : Int) + 1, false)) _ (by simp) j_ u hu) (by simp [Uo.rc, Value.oneCell']) ?_; intro v' w3 ho hg; have HO2 := qh ho; clear ho hg)
          go_roundg (m - (j + 1))
          case measure => omega
          case rel => exact ⟨j + 1, by go_num, by omega, Nat.le_refl _, qh (by rw [HE.out, List.length_append, List.flatMap_append]; simpa using HO2.out)⟩
        ·have da2 : (d != a) = true := by simp at da ⊢; omega
         have hda : ¬ (d = a) := by simp at da; omega
         have HE := qh (show Q ++ Uo.rown A C s.id a b n d (j + 1) = R ++ [(s.id, (d : Int), (j : Int) + 1, false)] by rw [HRX.out, if_pos (by simp [hDn, hda])])
         clear hda hDn
         go_wp2_with (at_builtin; refine Kit.wpList_app Uo.elR _ rfl _ _ rfl _ _ _ (HJ2.out.alloc _) rfl omg ⟨w2.heap.size, 0, none⟩ 1 (Uo.rc (s.id, (d : Int), (j : Int) + 1, false)) rfl rfl (fun j_ u hu => Kit.lit_at _ (Uo.rc (s.id, (d : Int), (j : Int) + 1, false)) _ (by simp) j_ u hu) (by simp [Uo.rc, Value.oneCell']) ?_; intro v' w3 ho hg; have HO2 := qh ho; clear ho hg)
         go_roundg (m - (j + 1))
         case measure => omega
         case rel => exact ⟨j + 1, by go_num, by omega, Nat.le_refl _, qh (by rw [HE.out, List.length_append, List.flatMap_append]; simpa using HO2.out)⟩
       ·obtain rfl : j = m := by omega
        rw [← HQX.out] at HJ
        have hji : ¬ ((j : Int) + 1 ≤ (j : Int)) := by omega
        go_wp2_with fail
        go_roundg (9 - (d + 1))
        case measure => omega
        case rel => exact ⟨d + 1, by go_num, by omega, Nat.le_refl _, HJ⟩
     ·obtain rfl : d = 9 := by omega
      rw [← HNX.out] at HD
      obtain ⟨e0, e1, e2, ec⟩ := HC.out _ HD.out.bel
      have hzw := HD.out.bel.size
      have hzx : w.heap.size + 1 < wr.heap.size := by omega
      have hbb := HBB.out n hn3
      have HB := qh (fun W => HBL.out n W omg)
      generalize Uo.blw a b n = n' at *
      go_wp2_with fail
      refine (HB.out _).mono ?_
      rintro _ w2 ⟨rfl, hb2⟩
      have HD2 := qh (HD.out.thn hb2)
      clear e0 e1 e2 ec hb2
      go_wp2_with fail
      go_roundg (n' + 707283).toNat
      case measure => omega
      case rel => exact ⟨n', rfl, by omega, by omega, by omega, HD2⟩
end Go.Proofs.YtbhgogiaaljclaaGreatDoor
