/- Plain: the signs of a role in a bar, sorted by time: stably. Plain: the states that the iterator of a way yields, with their errors; a motion's steps. Plain: a motion's steps: which real a sign gets. Plain: the table of the limbs that kinds move (motion.kinds), as it lies in its variable. -/
import Derived.Test.YtedolbjgdedoaaaGreatDoorMox
import Derived.Test.YtedolbjgdedoaaaGreatDoorKxa
import Derived.Test.YtedolbjgdedoaaaGreatDoorExG
import Derived.Test.YtedolbjgdedoaaaGreatDoorEx
import Derived.Test.YtedolbjgdedoaaaGreatDoorKit
set_option linter.unusedSimpArgs false
set_option linter.unusedVariables false
namespace Go.Proofs.YtedolbjgdedoaaaGreatDoor
open Go.RowKit
namespace Mo
abbrev Vg := { s : Ex.Sg // Ra.ok s.fn s.fd = true }
instance : Inhabited Vg := ⟨⟨⟨0, 0, 0, 0, 0, 0, 0, 0, 0, 0, 0, 1, 0, 1⟩, by decide⟩⟩
theorem from_ok {k : Ex.Sg} {r n : Int} (h : Ex.okSign k r n = true) : Ra.ok k.fn k.fd = true := by
 unfold Ex.okSign at h
 simp only [Bool.and_eq_true, Bool.not_eq_true'] at h
 have h0 := h.1.1.2
 unfold Ex.bad at h0
 simp only [Bool.or_eq_false_iff] at h0
 have h1 := h0.1.1
 replace h1 : ((if (Ra.ok 0 1 && Ra.ok k.fn k.fd) = true then (0 : Int) else 120) != 0) = false := h1
 cases e : Ra.ok k.fn k.fd with
 | true => rfl
 | false => rw [e, Bool.and_false] at h1; simp at h1
def cf (a b : Vg) : Int := Ra.sg (a.1.fn * b.1.fd) (b.1.fn * a.1.fd)
theorem sg_lt (x y : Int) : Ra.sg x y < 0 ↔ x < y := by unfold Ra.sg; repeat' split <;> omega
theorem sg_gt (x y : Int) : 0 < Ra.sg x y ↔ y < x := by unfold Ra.sg; repeat' split <;> omega
theorem sg_le (x y : Int) : Ra.sg x y ≤ 0 ↔ x ≤ y := by unfold Ra.sg; repeat' split <;> omega
theorem vpos (a : Vg) : 0 < a.1.fd := by have := ((Ra.ok_iff _ _).1 a.2).1; omega
theorem rat_trans {a b c d e f : Int} (hb : 0 < b) (hd : 0 < d) (hf : 0 < f) (h1 : a * d ≤ c * b) (h2 : c * f ≤ e * d) : a * f ≤ e * b := by
 have g1 := Int.mul_le_mul_of_nonneg_right h1 (Int.le_of_lt hf)
 have g2 := Int.mul_le_mul_of_nonneg_right h2 (Int.le_of_lt hb)
 have e1 : a * d * f = a * f * d := by rw [Int.mul_assoc, Int.mul_comm d f, ← Int.mul_assoc]
 have e2 : c * b * f = c * f * b := by rw [Int.mul_assoc, Int.mul_comm b f, ← Int.mul_assoc]
 have e3 : e * d * b = e * b * d := by rw [Int.mul_assoc, Int.mul_comm d b, ← Int.mul_assoc]
 rw [e1, e2] at g1
 rw [e3] at g2
 exact Int.le_of_mul_le_mul_right (Int.le_trans g1 g2) hd
theorem cf_cmp : Kst.Cmp cf := by
 constructor
 ·intro x y
  unfold cf
  rw [sg_lt, sg_gt]
 ·intro x y z h1 h2
  unfold cf at *
  rw [sg_le] at *
  exact rat_trans (vpos x) (vpos y) (vpos z) h1 h2
theorem vg_list : ∀ (l : List Ex.Sg), (∀ s ∈ l, Ra.ok s.fn s.fd = true) → ∃ l' : List Vg, l'.map (fun s => s.1) = l
 | [], _ => ⟨[], rfl⟩
 | s :: l, h => by
  obtain ⟨l', e⟩ := vg_list l (fun t ht => h t (List.mem_cons_of_mem _ ht))
  exact ⟨⟨s, h s (List.mem_cons_self ..)⟩ :: l', by rw [List.map_cons, e]⟩
theorem ord_sub {l : List Vg} (hp : l.Pairwise fun a b => a.1.id < b.1.id) {a b : Vg} (ha : a ∈ l) (hb : b ∈ l) (hlt : b.1.id < a.1.id) : [b, a].Sublist l := by
 induction l with
 | nil => cases ha
 | cons c l ih =>
  obtain ⟨h1, h2⟩ := List.pairwise_cons.1 hp
  rcases List.mem_cons.1 hb with rfl | hb'
  ·rcases List.mem_cons.1 ha with rfl | ha'
   ·omega
   ·exact List.Sublist.cons_cons _ (List.singleton_sublist.2 ha')
  ·rcases List.mem_cons.1 ha with rfl | ha'
   ·have := h1 b hb'; omega
   ·exact (ih h2 ha' hb').cons _
theorem sort_bef (l : List Vg) (hp : l.Pairwise fun a b => a.1.id < b.1.id) : (l.mergeSort fun x y => decide (cf x y ≤ 0)).Pairwise fun a b => bef a.1 b.1 := by
 have ht : ∀ a b c : Vg, (decide (cf a b ≤ 0)) = true → (decide (cf b c ≤ 0)) = true → (decide (cf a c ≤ 0)) = true := fun a b c h1 h2 => by
  rw [decide_eq_true_eq] at *
  exact cf_cmp.trans a b c h1 h2
 have hto : ∀ a b : Vg, (decide (cf a b ≤ 0) || decide (cf b a ≤ 0)) = true := fun a b => by
  have := cf_cmp.anti a b
  have := cf_cmp.anti b a
  rw [Bool.or_eq_true, decide_eq_true_eq, decide_eq_true_eq]
  omega
 have hs := List.pairwise_mergeSort (le := fun x y : Vg => decide (cf x y ≤ 0)) ht hto l
 have hperm := List.mergeSort_perm l (fun x y : Vg => decide (cf x y ≤ 0))
 have hnd : (l.mergeSort fun x y => decide (cf x y ≤ 0)).Nodup := hperm.nodup_iff.2 (hp.imp fun h e => by rw [e] at h; omega)
 obtain ⟨L, hL⟩ : ∃ L, (l.mergeSort fun x y => decide (cf x y ≤ 0)) = L := ⟨_, rfl⟩
 have hsub : ∀ a b : Vg, decide (cf a b ≤ 0) = true → [a, b].Sublist l → [a, b].Sublist L := fun a b h1 h2 => by
  rw [← hL]
  exact List.pair_sublist_mergeSort (le := fun x y : Vg => decide (cf x y ≤ 0)) ht hto h1 h2
 rw [hL] at hs hnd hperm ⊢
 rw [List.pairwise_iff_getElem] at hs ⊢
 intro i j hi hj hij
 have h1 := hs i j hi hj hij
 rw [decide_eq_true_eq] at h1
 have h1' := h1
 unfold cf at h1'
 rw [sg_le] at h1'
 rcases Int.lt_or_eq_of_le h1' with h | h
 ·exact .inl h
 ·refine .inr ⟨h, ?_⟩
  have ma := hperm.mem_iff.1 (List.getElem_mem hi)
  have mb := hperm.mem_iff.1 (List.getElem_mem hj)
  rcases Int.lt_trichotomy L[i].1.id L[j].1.id with h2 | h2 | h2
  ·exact h2
  ·exfalso
   have hne : L[i] ≠ L[j] := fun e => by
    have := List.pairwise_iff_getElem.1 hnd i j hi hj hij
    exact this e
   obtain ⟨p, hpl, ep⟩ := List.getElem_of_mem ma
   obtain ⟨q, hql, eq⟩ := List.getElem_of_mem mb
   rcases Nat.lt_trichotomy p q with h3 | h3 | h3
   ·have := List.pairwise_iff_getElem.1 hp p q hpl hql h3
    rw [ep, eq] at this; omega
   ·subst h3; exact hne (ep.symm.trans eq)
   ·have := List.pairwise_iff_getElem.1 hp q p hql hpl h3
    rw [ep, eq] at this; omega
  ·exfalso
   have h3 := hsub L[j] L[i] (by
    rw [decide_eq_true_eq]
    unfold cf
    rw [sg_le]
    omega) (ord_sub hp ma mb h2)
   obtain ⟨is, his, his2⟩ := List.sublist_eq_map_getElem h3
   match is, his, his2 with
   | [], e, _ => simp at e
   | [u], e, _ => simp at e
   | u :: v :: us, e, hpw =>
    simp only [List.map_cons, List.cons.injEq] at e
    have huv : u < v := (List.pairwise_cons.1 hpw).1 v (List.mem_cons_self ..)
    have e1 : u.val = j := by
     rcases Nat.lt_trichotomy u.val j with h4 | h4 | h4
     ·exact absurd e.1.symm (List.pairwise_iff_getElem.1 hnd u.val j u.2 hj h4)
     ·exact h4
     ·exact absurd e.1 (List.pairwise_iff_getElem.1 hnd j u.val hj u.2 h4)
    have e2 : v.val = i := by
     rcases Nat.lt_trichotomy v.val i with h4 | h4 | h4
     ·exact absurd e.2.1.symm (List.pairwise_iff_getElem.1 hnd v.val i v.2 hi h4)
     ·exact h4
     ·exact absurd e.2.1 (List.pairwise_iff_getElem.1 hnd i v.val hi v.2 h4)
    have : u.val < v.val := huv
    omega
theorem ofI_rise {x : Ex.Wk} (hg : Ex.Good x) (role bar : Int) : (ofI x role bar).Pairwise fun a b => a.id < b.id := hg.rise.filter _
theorem of_sort {x : Ex.Wk} (hg : Ex.Good x) (role bar : Int) : ∃ l' : List Vg, l'.map (fun s => s.1) = ofI x role bar ∧ Of x role bar ((l'.mergeSort fun x y => decide (cf x y ≤ 0)).map fun s => s.1) := by
 obtain ⟨l', e⟩ := vg_list (ofI x role bar) (fun s hs => from_ok (hg.oks s (List.mem_filter.1 hs).1))
 refine ⟨l', e, ?_, ?_⟩
 ·rw [← e]; exact (List.mergeSort_perm _ _).map _
 ·rw [List.pairwise_map]
  refine sort_bef l' ?_
  have h := ofI_rise hg role bar
  rw [← e, List.pairwise_map] at h
  exact h
end Mo
end Go.Proofs.YtedolbjgdedoaaaGreatDoor

namespace Go.Proofs.YtedolbjgdedoaaaGreatDoor
open Go.RowKit
namespace Mo
def prs (r : List Uo.Re) (l : List Ex.Sg) : List (Ex.Sg × Uo.Re) := l.map fun k => (k, real r k.id)
def tr : List (Ex.Sg × Uo.Re) → St → List (St × Int)
 | [], _ => []
 | x :: m, s => if ok (act s x.1 x.2) = true then (act s x.1 x.2, 0) :: tr m (act s x.1 x.2) else [(St.zero, 2)]
def all (m : List (Ex.Sg × Uo.Re)) (s : St) : List (St × Int) := (s, 0) :: tr m s
theorem tr_way (r : List Uo.Re) : ∀ (l : List Ex.Sg) (s : St), tr (prs r l) s = ((way r l s).drop 1).map (fun t => (t, (0 : Int))) ++ (if fine r l s = true then [] else [(St.zero, 2)])
 | [], s => rfl
 | k :: l, s => by
  show (if ok (act s k (real r k.id)) = true then (act s k (real r k.id), (0 : Int)) :: tr (prs r l) (act s k (real r k.id)) else [(St.zero, 2)]) = ((if ok (act s k (real r k.id)) = true then way r l (act s k (real r k.id)) else [])).map (fun t => (t, (0 : Int))) ++ (if (ok (act s k (real r k.id)) && fine r l (act s k (real r k.id))) = true then [] else [(St.zero, 2)])
  by_cases h : ok (act s k (real r k.id)) = true
  ·rw [if_pos h, if_pos h, h, Bool.true_and, tr_way r l, way_head r l (act s k (real r k.id))]
   rfl
  ·rw [if_neg h, if_neg h, if_neg (by simp [h])]
   rfl
theorem all_way (r : List Uo.Re) (l : List Ex.Sg) (s : St) : all (prs r l) s = (way r l s).map (fun t => (t, (0 : Int))) ++ (if fine r l s = true then [] else [(St.zero, 2)]) := by
 unfold all
 rw [tr_way, way_head r l s]
 rfl
theorem way_last (r : List Uo.Re) : ∀ (l : List Ex.Sg) (s : St), fine r l s = true → (way r l s).getLast? = some (last r l s)
 | [], s, _ => rfl
 | k :: l, s, h => by
  have h1 : (ok (act s k (real r k.id)) && fine r l (act s k (real r k.id))) = true := h
  rw [Bool.and_eq_true] at h1
  have h2 := way_last r l (act s k (real r k.id)) h1.2
  show (s :: (if ok (act s k (real r k.id)) = true then way r l (act s k (real r k.id)) else [])).getLast? = some (last r l (act s k (real r k.id)))
  rw [if_pos h1.1, ← h2, way_head r l (act s k (real r k.id))]
  rfl
theorem way_ok (r : List Uo.Re) : ∀ (l : List Ex.Sg) (s : St), ok s = true → ∀ t ∈ way r l s, ok t = true
 | [], s, h, t, ht => by
  have : t = s := by simpa [way] using ht
  rw [this]; exact h
 | k :: l, s, h, t, ht => by
  have ht2 : t ∈ s :: (if ok (act s k (real r k.id)) = true then way r l (act s k (real r k.id)) else []) := ht
  rcases List.mem_cons.1 ht2 with rfl | ht3
  ·exact h
  ·by_cases h1 : ok (act s k (real r k.id)) = true
   ·rw [if_pos h1] at ht3
    exact way_ok r l _ h1 t ht3
   ·rw [if_neg h1] at ht3
    cases ht3
theorem real_at {S : List Ex.Sg} {r : List Uo.Re} (hs : S.Pairwise fun a b => a.id < b.id) (hl : S.length = r.length) (hf : ∀ i (h : i < S.length) (h2 : i < r.length), (r[i]).1 = S[i].id) (i : Nat) (h : i < S.length) (h2 : i < r.length) : real r S[i].id = r[i] := by
 unfold real
 have e : r.find? (fun y => y.1 == S[i].id) = some r[i] := by
  rw [List.find?_eq_some_iff_getElem]
  refine ⟨by simp [hf i h h2], i, h2, rfl, fun j hj => ?_⟩
  have h3 := hf j omg omg
  have h4 := List.pairwise_iff_getElem.1 hs j i omg h hj
  simp only [Bool.not_eq_eq_eq_not, Bool.not_true, beq_eq_false_iff_ne, ne_eq]
  omega
 rw [e]
 rfl
end Mo
end Go.Proofs.YtedolbjgdedoaaaGreatDoor

namespace Go.Proofs.YtedolbjgdedoaaaGreatDoor
open Go.RowKit
namespace Mo
def pick (S : List Ex.Sg) (r : List Uo.Re) (x : Ex.Sg) : Uo.Re := (((S.zip r).find? fun p => p.1.id == x.id).map (·.2)).getD (0, 0, 0, false)
def fd (S : List Ex.Sg) (r : List Uo.Re) (x : Ex.Sg) : Bool := form x (pick S r x)
theorem pick_at {S : List Ex.Sg} {r : List Uo.Re} (hs : S.Pairwise fun a b => a.id < b.id) (hl : S.length = r.length) (i : Nat) (h : i < S.length) (h2 : i < r.length) : pick S r S[i] = r[i] := by
 unfold pick
 have hz : (S.zip r).length = S.length := by rw [List.length_zip, ← hl, Nat.min_self]
 have e : (S.zip r).find? (fun p => p.1.id == S[i].id) = some (S[i], r[i]) := by
  rw [List.find?_eq_some_iff_getElem]
  refine ⟨by simp, i, by omega, by simp, fun j hj => ?_⟩
  have h4 := List.pairwise_iff_getElem.1 hs j i omg h hj
  simp only [List.getElem_zip, Bool.not_eq_eq_eq_not, Bool.not_true, beq_eq_false_iff_ne, ne_eq]
  omega
 rw [e]
 rfl
theorem mot_fd {S l : List Ex.Sg} {r : List Uo.Re} (hp : l.Perm S) (hs : S.Pairwise fun a b => a.id < b.id) (hl : S.length = r.length) : mot S r = l.all (fd S r) := by
 have e1 : l.all (fd S r) = S.all (fd S r) := by
  rw [Bool.eq_iff_iff, List.all_eq_true, List.all_eq_true]
  exact ⟨fun h x hx => h x (hp.mem_iff.2 hx), fun h x hx => h x (hp.mem_iff.1 hx)⟩
 rw [e1]
 unfold mot
 rw [show (S.length == r.length) = true by simpa using hl, Bool.true_and, Bool.eq_iff_iff, List.all_eq_true, List.all_eq_true]
 constructor
 ·intro h x hx
  obtain ⟨i, hi, rfl⟩ := List.mem_iff_getElem.1 hx
  have h2 : i < r.length := by omega
  unfold fd
  rw [pick_at hs hl i hi h2]
  have := h (S[i], r[i]) (List.mem_iff_getElem.2 ⟨i, by rw [List.length_zip]; omega, by simp⟩)
  exact this
 ·intro h p hp
  obtain ⟨i, hi, rfl⟩ := List.mem_iff_getElem.1 hp
  rw [List.length_zip] at hi
  have h3 := h S[i] (List.getElem_mem _)
  unfold fd at h3
  rw [pick_at hs hl i omg omg] at h3
  simpa using h3
theorem pick_real {S : List Ex.Sg} {r : List Uo.Re} (hs : S.Pairwise fun a b => a.id < b.id) (hm : mot S r = true) : ∀ x ∈ S, pick S r x = real r x.id := by
 intro x hx
 obtain ⟨i, hi, rfl⟩ := List.mem_iff_getElem.1 hx
 unfold mot at hm
 rw [Bool.and_eq_true] at hm
 have hl : S.length = r.length := by simpa using hm.1
 rw [pick_at hs hl i hi omg, real_at hs hl _ i hi omg]
 intro j h h2
 have := List.all_eq_true.1 hm.2 (S[j], r[j]) (List.mem_iff_getElem.2 ⟨j, by rw [List.length_zip]; omega, by simp⟩)
 unfold form at this
 rw [Bool.and_eq_true] at this
 simpa using this.1
theorem at_of {S l : List Ex.Sg} {r : List Uo.Re} (hp : l.Perm S) (hs : S.Pairwise fun a b => a.id < b.id) (hl : S.length = r.length) (k : Nat) (hk : k < l.length) :
  ∃ p, p < S.length ∧ S.getD p default = l.getD k default ∧ pick S r (l.getD k default) = r.getD p (0, 0, 0, false) ∧ ∀ i, i < S.length → ((S.getD i default).id == (l.getD k default).id) = decide (i = p) := by
 have e : l.getD k default = l[k] := by simp [List.getD_eq_getElem?_getD, List.getElem?_eq_getElem hk]
 rw [e]
 obtain ⟨p, hp1, hp2⟩ := List.mem_iff_getElem.1 (hp.mem_iff.1 (List.getElem_mem hk))
 have h2 : p < r.length := by omega
 refine ⟨p, hp1, by simp [List.getD_eq_getElem?_getD, List.getElem?_eq_getElem hp1, hp2], ?_, fun i hi => ?_⟩
 ·rw [← hp2, pick_at hs hl p hp1 h2]; simp [List.getD_eq_getElem?_getD, List.getElem?_eq_getElem h2]
 ·have e2 : S.getD i default = S[i] := by simp [List.getD_eq_getElem?_getD, List.getElem?_eq_getElem hi]
  rw [e2, ← hp2, Bool.eq_iff_iff, beq_iff_eq, decide_eq_true_eq]
  constructor
  ·intro h
   rcases Nat.lt_trichotomy i p with hlt | rfl | hlt
   ·have := List.pairwise_iff_getElem.1 hs i p hi hp1 hlt; omega
   ·rfl
   ·have := List.pairwise_iff_getElem.1 hs p i hp1 hi hlt; omega
  ·rintro rfl; rfl
theorem ofI_lt {x : Ex.Wk} (hg : Ex.Good x) (role bar : Int) : (ofI x role bar).Pairwise fun a b => a.id < b.id := by
 unfold ofI
 exact List.Pairwise.filter _ hg.rise
end Mo
end Go.Proofs.YtedolbjgdedoaaaGreatDoor

namespace Go.Proofs.YtedolbjgdedoaaaGreatDoor
open Go.RowKit Go.Shelf
namespace Mo
def kL0 (k : Nat) : List Nat := match k with | 1 => [0] | 3 => [0] | 4 => [2] | 9 => [2] | _ => []
def kL1 (k : Nat) : List Nat := match k with | 2 => [0, 1] | 8 => [0, 1] | 7 => [2, 3] | 5 => [4] | _ => []
def LsN (w : World) (a : Option Addr) (l : List Nat) : Prop := l = [] ∨ ∃ ad, a = some ad ∧ ad.block < w.heap.size ∧ ∀ j, j < l.length → w.cell? (ad.add j) = some (.int .i64 (l.getD j 0 : Nat))
theorem LsN.kept {w w' : World} {a : Option Addr} {l : List Nat} (h : LsN w a l) (hb : Below w.heap.size w w') : LsN w' a l := by
 rcases h with h | ⟨ad, h1, h2, h3⟩
 ·exact .inl h
 ·exact .inr ⟨ad, h1, Nat.lt_of_lt_of_le h2 hb.size, fun j hj => (hb.cell (by rw [Tp.add_block]; exact h2)).trans (h3 j hj)⟩
def KL (w : World) : Prop := 0 < w.heap.size ∧ ∀ k, k < 10 → (∃ a c, w.cell? ⟨0, k * 2, none⟩ = some (.slice a (kL0 k).length c) ∧ LsN w a (kL0 k)) ∧ ∃ a c, w.cell? ⟨0, k * 2 + 1, none⟩ = some (.slice a (kL1 k).length c) ∧ LsN w a (kL1 k)
theorem KL.kept {w w' : World} (h : KL w) (hb : Below w.heap.size w w') : KL w' := by
 obtain ⟨h0, h1⟩ := h
 refine ⟨Nat.lt_of_lt_of_le h0 hb.size, fun k hk => ?_⟩
 obtain ⟨⟨a, c, e1, e2⟩, a2, c2, e3, e4⟩ := h1 k hk
 exact ⟨⟨a, c, (hb.cell h0).trans e1, e2.kept hb⟩, a2, c2, (hb.cell h0).trans e3, e4.kept hb⟩
end Mo
end Go.Proofs.YtedolbjgdedoaaaGreatDoor
