/- Plain: what a body can do is in form; prices; slices of one's own, read; the cast. Plain: the cast, one more; a slice's head. -/
import Derived.Test.YtbhgogiaaljclaaGreatDoorUoC
import Derived.Test.YtbhgogiaaljclaaGreatDoorUoa
import Derived.Test.YtbhgogiaaljclaaGreatDoorUrs
import Derived.Test.YtbhgogiaaljclaaGreatDoorUuj
import Derived.Test.YtbhgogiaaljclaaGreatDoorKixz
set_option linter.unusedSimpArgs false
set_option linter.unusedVariables false
namespace Go.Proofs.YtbhgogiaaljclaaGreatDoor
open Go.RowKit
theorem Kit.own_sl {w : World} {s n k : Nat} {t : TypeId} {v : Value} {xs : List Value} {f : Nat → Nat → Value} (h : w.ownsRow s t k v n xs) (hf : ∀ i j, i < n → j < k → xs[i * k + j]? = some (f i j)) : ∃ a c, v = .slice a n c ∧ Tp.Sl w a n k f := by
 rcases h.2 with ⟨rfl, hn⟩ | ⟨g, cap, cur, rfl, hg, hh, h1, h2, h3, h4⟩
 ·exact ⟨none, 0, by rw [hn], .inl hn⟩
 ·refine ⟨_, _, rfl, .inr ⟨_, rfl, (Array.getElem?_eq_some_iff.1 hh).1, fun i j hi hj => ?_⟩⟩
  have e : (⟨g, 0, none⟩ : Addr).add (i * k + j) = ⟨g, i * k + j, none⟩ := by unfold Addr.add; split <;> simp_all
  have hlt : i * k + j < n * k := by
   have : (i + 1) * k ≤ n * k := Nat.mul_le_mul_right k hi
   rw [Nat.add_mul] at this; omega
  rw [e]
  simp only [World.cell?, hh]
  have e1 := hf i j hi hj
  rw [← h4, List.getElem?_take_of_lt hlt] at e1
  rw [← e1]
  simp
namespace Uo
theorem prs_form {A C id : Int} {a b m : Nat} {q : Re × Int} (h : q ∈ prs A C id a b m) : q.1.1 = id ∧ (0 ≤ q.1.2.1 ∧ q.1.2.1 ≤ 8 ∧ 1 ≤ q.1.2.2.1 ∧ q.1.2.2.1 ≤ m) ∧ q.1.2.2.2 = false := by
 unfold prs pre row it one at h
 simp only [List.mem_flatMap, List.mem_range] at h
 obtain ⟨d, hd, v, hv, h⟩ := h
 split at h
 ·simp only [List.mem_singleton] at h
  subst h
  refine ⟨rfl, ⟨?_, ?_, ?_, ?_⟩, rfl⟩ <;> simp <;> omega
 ·cases h
theorem limbs_form {A C : Int} {s : Ex.Sg} {t : Int} (ht : t ≤ 3) (hk : s.kind = 3 ∨ s.kind = 4 ∨ s.kind = 5) {r : Re} (h : r ∈ limbs A C s t) : form s r := by
 unfold limbs at h
 obtain ⟨q, hq, rfl⟩ := List.mem_map.1 h
 obtain ⟨h1, h2, h3⟩ := prs_form ((fall_perm _).mem_iff.1 hq)
 unfold form
 refine ⟨h1, ?_⟩
 rw [if_neg (by rw [h3]; simp), if_pos hk]
 omega
theorem base_form {A C : Int} {s : Ex.Sg} {b : Un.Bd} (hs : Ex.Fit s) (hb : Un.bok b = true) {r : Re} (h : r ∈ base A C s b) : form s r := by
 have t0 : b.t0 ≤ 3 := (Un.tops hb 0 omg).2
 have t1 : b.t1 ≤ 3 := (Un.tops hb 1 omg).2
 have t1' : 1 ≤ b.t1 := (Un.tops hb 1 omg).1
 have t2 : b.t2 ≤ 3 := (Un.tops hb 2 omg).2
 unfold base at h
 split at h
 ·rename_i hk
  split at h
  ·cases h
  ·simp only [List.mem_singleton] at h
   subst h
   exact ⟨rfl, by simp [hk]⟩
 rename_i n1
 split at h
 ·rename_i hk
  split at h
  ·cases h
  ·simp only [List.mem_singleton] at h
   subst h
   exact ⟨rfl, by simp [hk]⟩
 rename_i n2
 split at h
 ·rename_i hk; exact limbs_form t0 (.inl hk) h
 rename_i n3
 split at h
 ·rename_i hk; exact limbs_form t1 (.inr (.inl hk)) h
 rename_i n4
 split at h
 ·rename_i hk; exact limbs_form t2 (.inr (.inr hk)) h
 rename_i n5
 split at h
 ·rename_i hk
  simp only [List.mem_singleton] at h
  subst h
  have hl := hs.level (.inr (.inr (.inr hk)))
  refine ⟨rfl, ?_⟩
  simp only [hk, if_true, Bool.false_eq_true, if_false]
  rw [if_neg omg]
  unfold mnI
  refine ⟨trivial, ?_⟩
  split <;> omega
 ·rename_i n9
  simp only [List.mem_singleton] at h
  subst h
  exact ⟨rfl, by simp [n3, n4, n5, n9]⟩
theorem opts_form {A C : Int} {s : Ex.Sg} {b : Un.Bd} (hs : Ex.Fit s) (hb : Un.bok b = true) {r : Re} (h : r ∈ opts A C s b) : form s r := by
 unfold opts at h
 rcases List.mem_append.1 h with h | h
 ·exact base_form hs hb h
 ·split at h
  ·cases h
  ·simp only [List.mem_singleton] at h
   subst h
   exact ⟨rfl, by simp⟩
end Uo
namespace Un
theorem cost_bd (k : Ex.Sg) (r : Uo.Re) : 0 ≤ cost k r ∧ cost k r ≤ 64 := by
 unfold cost
 repeat' split
 all_goals omega
def sumC (x : Ex.Wk) (b : Bd) (l : List Ex.Sg) : Int := (l.map fun k => cost k ((Uo.opts x.ta x.tc k b).headD (0, 0, 0, false))).sum
theorem sumC_snoc (x : Ex.Wk) (b : Bd) (l : List Ex.Sg) (k : Ex.Sg) : sumC x b (l ++ [k]) = sumC x b l + cost k ((Uo.opts x.ta x.tc k b).headD (0, 0, 0, false)) := by
 unfold sumC; simp
theorem sumC_bd (x : Ex.Wk) (b : Bd) : ∀ l : List Ex.Sg, 0 ≤ sumC x b l ∧ sumC x b l ≤ 64 * l.length
 | [] => by simp [sumC]
 | k :: l => by
  have h := sumC_bd x b l
  have h2 := cost_bd k ((Uo.opts x.ta x.tc k b).headD (0, 0, 0, false))
  have e : sumC x b (k :: l) = cost k ((Uo.opts x.ta x.tc k b).headD (0, 0, 0, false)) + sumC x b l := by unfold sumC; simp
  rw [e]
  simp only [List.length_cons]
  omega
def onL (bs : List Bd) (cast : List Int) : List Bd := cast.map fun q => bs.getD q.toNat default
def bdsV (l : List Bd) : List Value := l.flatMap fun b => (bdA b).toList
theorem bdsV_len (l : List Bd) : (bdsV l).length = l.length * 17 := by
 induction l with
 | nil => rfl
 | cons b l ih => have e : (bdA b).toList.length = 17 := rfl; simp only [bdsV, List.flatMap_cons, List.length_append, e, List.length_cons] at ih ⊢; omega
theorem bdsV_at : ∀ (l : List Bd) (i j : Nat), i < l.length → j < 17 → (bdsV l)[i * 17 + j]? = some (bdF l i j)
 | b :: l, 0, j, _, hj => by
  have e : bdsV (b :: l) = (bdA b).toList ++ bdsV l := rfl
  rw [e, List.getElem?_append_left (by show 0 * 17 + j < 17; omega), Nat.zero_mul, Nat.zero_add]
  have hv : (bdA b).toList[j]? = some ((bdA b).toList[j]'(by show j < 17; omega)) := List.getElem?_eq_getElem _
  rw [hv, bdF_at (b :: l) 0 b rfl j _ hv]
 | b :: l, i + 1, j, hi, hj => by
  have e : bdsV (b :: l) = (bdA b).toList ++ bdsV l := rfl
  have e17 : (bdA b).toList.length = 17 := rfl
  rw [e, List.getElem?_append_right (by rw [e17]; omega), e17, show (i + 1) * 17 + j - 17 = i * 17 + j by omega, bdsV_at l i j (by simpa using hi) hj]
  rfl
theorem okCast_at (n : Nat) : ∀ (l pre : List Int), okCast n pre l = true → ∀ i (h : i < l.length), 0 ≤ l[i] ∧ l[i] < n ∧ (pre ++ l.take i).contains l[i] = false
 | [], _, _, i, h => by simp at h
 | p :: l, pre, hk, i, h => by
  unfold okCast at hk
  simp only [Bool.and_eq_true, decide_eq_true_eq, Bool.not_eq_true'] at hk
  obtain ⟨⟨⟨h1, h2⟩, h3⟩, h4⟩ := hk
  rcases i with _ | i
  ·simp only [List.getElem_cons_zero, List.take_zero, List.append_nil]
   exact ⟨h1, h2, h3⟩
  ·have ih := okCast_at n l (pre ++ [p]) h4 i (by simpa using h)
   simpa using ih
def prF (x : Ex.Wk) (bs : List Bd) (cast : List Int) (role bar : Int) (i p : Nat) : Int := if p < i ∧ fits x bs cast role bar p = true then price x (bs.getD p default) role bar else 0
def frs (x : Ex.Wk) (bs : List Bd) (cast : List Int) (role bar : Int) (i : Nat) : List Nat := (List.range i).filter (fits x bs cast role bar)
theorem frs_succ (x : Ex.Wk) (bs : List Bd) (cast : List Int) (role bar : Int) (i : Nat) : frs x bs cast role bar (i + 1) = frs x bs cast role bar i ++ (if fits x bs cast role bar i = true then [i] else []) := by
 unfold frs
 rw [List.range_succ, List.filter_append]
 congr 1
 by_cases h : fits x bs cast role bar i = true <;> simp [h]
theorem frs_lt {x : Ex.Wk} {bs : List Bd} {cast : List Int} {role bar : Int} {i p : Nat} (h : p ∈ frs x bs cast role bar i) : p < i := by
 unfold frs at h
 simpa using (List.mem_filter.1 h).1
theorem frs_len (x : Ex.Wk) (bs : List Bd) (cast : List Int) (role bar : Int) (i : Nat) : (frs x bs cast role bar i).length ≤ i := by
 unfold frs
 exact Nat.le_trans (List.length_filter_le _ _) (by simp)
theorem ready_of {x : Ex.Wk} {bs : List Bd} {cast : List Int} {role bar : Int} {pr : List Int} (hpr : ∀ p, p < bs.length → pr.getD p 0 = prF x bs cast role bar bs.length p) {l : List Nat} (hp : l.Perm (frs x bs cast role bar bs.length))
  (hs : l.Pairwise fun p q => pr.getD p 0 < pr.getD q 0 ∨ (pr.getD p 0 = pr.getD q 0 ∧ p ≤ q)) : Ready x bs cast role bar l := by
 refine ⟨hp, ?_⟩
 have key : ∀ p ∈ l, pr.getD p 0 = price x (bs.getD p default) role bar := fun p h => by
  have h1 := hp.mem_iff.1 h
  have h2 := frs_lt h1
  rw [hpr p h2]
  unfold prF
  unfold frs at h1
  rw [if_pos ⟨h2, (List.mem_filter.1 h1).2⟩]
 refine List.Pairwise.imp_of_mem (fun {p q} hp hq h => ?_) hs
 unfold before
 rw [← key p hp, ← key q hq]
 exact h
end Un
end Go.Proofs.YtbhgogiaaljclaaGreatDoor

namespace Go.Proofs.YtbhgogiaaljclaaGreatDoor
open Go.RowKit
namespace Un
theorem elB : Kit.El Tryz.prog 33 36 (.agg bdZ) 17 144 := ⟨Tryz.underlying33, by kernel_rfl, rfl, by omega, by omega⟩
theorem elI : Kit.El Tryz.prog 44 3 (.int .i64 0) 1 8 := ⟨Tryz.underlying44, by kernel_rfl, rfl, by omega, by omega⟩
theorem okCast_snoc (n : Nat) : ∀ (l pre : List Int) (p : Int), okCast n pre (l ++ [p]) = (okCast n pre l && (decide (0 ≤ p) && decide (p < n) && !((pre ++ l).contains p)))
 | [], pre, p => by simp [okCast]
 | q :: l, pre, p => by
  have ih := okCast_snoc n l (pre ++ [q]) p
  have e : okCast n pre ((q :: l) ++ [p]) = (decide (0 ≤ q) && decide (q < n) && !(pre.contains q) && okCast n (pre ++ [q]) (l ++ [p])) := rfl
  have e2 : okCast n pre (q :: l) = (decide (0 ≤ q) && decide (q < n) && !(pre.contains q) && okCast n (pre ++ [q]) l) := rfl
  rw [e, e2, ih]
  simp [Bool.and_assoc]
theorem take_snoc {α : Type} [Inhabited α] (l : List α) (i : Nat) (h : i < l.length) : l.take (i + 1) = l.take i ++ [l.getD i default] := by
 rw [List.take_add_one, List.getD_eq_getElem?_getD, List.getElem?_eq_getElem h]
 rfl
theorem okCast_take {n : Nat} {l : List Int} {i : Nat} (h : i < l.length) (hk : okCast n [] (l.take i) = true) (p : Int) (hp : l.getD i 0 = p) (h0 : 0 ≤ p) (h1 : p < n) (h2 : (l.take i).contains p = false) : okCast n [] (l.take (i + 1)) = true := by
 rw [take_snoc l i h, show l.getD i default = p from hp, okCast_snoc, hk, decide_eq_true h0, decide_eq_true h1, List.nil_append, h2]
 rfl
theorem okCast_no {n : Nat} {l : List Int} {i : Nat} (h : i < l.length) (p : Int) (hp : l.getD i 0 = p) (hx : p < 0 ∨ (n : Int) ≤ p ∨ (l.take i).contains p = true) : okCast n [] l = false := by
 rw [Bool.eq_false_iff]
 intro hk
 obtain ⟨h0, h1, h2⟩ := okCast_at n l [] hk i h
 rw [List.getD_eq_getElem?_getD, List.getElem?_eq_getElem h] at hp
 simp only [Option.getD_some] at hp
 rw [hp] at h0 h1 h2
 rcases hx with hx | hx | hx
 ·omega
 ·omega
 ·rw [List.nil_append] at h2; rw [h2] at hx; cases hx
theorem onL_snoc (bs : List Bd) (cast : List Int) (i : Nat) (h : i < cast.length) (p : Nat) (hp : cast.getD i 0 = (p : Int)) : onL bs (cast.take (i + 1)) = onL bs (cast.take i) ++ [bs.getD p default] := by
 rw [take_snoc cast i h, show cast.getD i default = (p : Int) from hp]
 simp [onL]
theorem bdsV_snoc (l : List Bd) (b : Bd) : bdsV (l ++ [b]) = bdsV l ++ (bdA b).toList := by simp [bdsV]
theorem sl_take {w : World} {a : Option Addr} {l : List Int} (h : Tp.Sl w a l.length 1 (ic l)) (i : Nat) (hi : i ≤ l.length) : Tp.Sl w a (l.take i).length 1 (ic (l.take i)) := by
 have e : (l.take i).length = i := by simp [hi]
 rw [e]
 by_cases h0 : i = 0
 ·exact .inl h0
 ·rcases h with h | ⟨ad, h1, h2, h3⟩
  ·omega
  ·refine .inr ⟨ad, h1, h2, fun q j hq hj => ?_⟩
   rw [h3 q j omg hj]
   unfold ic
   simp only [List.getD_eq_getElem?_getD]
   rw [List.getElem?_take_of_lt hq]
end Un
end Go.Proofs.YtbhgogiaaljclaaGreatDoor
