/- Walks: package tempo: need, in; the test that sort.Search is given; sort.Search. Walks: package tempo: the ticks of a bar. Plain facts: which clocks are valid (package tempo). Walks: package tempo: validate. Walks: package tempo: Check, which recovers. -/
import Derived.Test.YtedolbjgdedoaaaGreatDoorKit
import Derived.Test.YtedolbjgdedoaaaGreatDoorProg
import Derived.WalkKit
import Derived.WalkSpells
import Derived.WalkLawsBesides
import Derived.Lib.Hide
import Derived.IntWalk
import Derived.Defers
import Derived.Recover
import Derived.Laws.Pointers
set_option linter.unusedSimpArgs false
set_option linter.unusedVariables false
set_option maxRecDepth 100000
set_option maxHeartbeats 4000000
namespace Go.Proofs.YtedolbjgdedoaaaGreatDoor
open Go.RowKit

namespace Tp
def inb (n lo hi : Int) : Bool := decide (lo ≤ n) && decide (n ≤ hi)
theorem inb_iff (n lo hi : Int) : inb n lo hi = true ↔ lo ≤ n ∧ n ≤ hi := by simp [inb]
def Sl (w : World) (a : Option Addr) (n k : Nat) (f : Nat → Nat → Value) : Prop :=
 n = 0 ∨ ∃ ad, a = some ad ∧ ad.block < w.heap.size ∧ ∀ i j, i < n → j < k → w.cell? (ad.add (i * k + j)) = some (f i j)
theorem Sl.at {w : World} {a : Option Addr} {n k : Nat} {f : Nat → Nat → Value} (h : Sl w a n k f) {i : Nat} (hi : i < n) : ∃ ad, a = some ad ∧ ad.block < w.heap.size ∧ ∀ j, j < k → w.cell? (ad.add (i * k + j)) = some (f i j) := by
 rcases h with h | ⟨ad, h1, h2, h3⟩
 ·omega
 ·exact ⟨ad, h1, h2, fun j hj => h3 i j hi hj⟩
theorem add_block (ad : Addr) (n : Nat) : (ad.add n).block = ad.block := by unfold Addr.add; split <;> rfl
theorem add_pos (ad : Addr) (m j : Nat) (h : j ≠ 0) : ad.add (m + j) = ⟨(ad.add m).block, (ad.add m).off + j, none⟩ := by
 unfold Addr.add
 rw [if_neg omg]
 by_cases hm : m = 0
 ·subst hm; simp
 ·simp [hm, Nat.add_assoc]
theorem Sl.head {w : World} {ad : Addr} {n k : Nat} {f : Nat → Nat → Value} (h : Sl w (some ad) n k f) {i : Nat} (hi : i < n) (hk : 0 < k) : w.cell? (ad.add (i * k)) = some (f i 0) := by
 obtain ⟨ad', e, _, hc⟩ := h.at hi
 cases e
 exact hc 0 hk
theorem Sl.field {w : World} {ad : Addr} {n k : Nat} {f : Nat → Nat → Value} (h : Sl w (some ad) n k f) {i j : Nat} (hi : i < n) (hk : j < k) (hj : j ≠ 0) : w.cell? ⟨(ad.add (i * k)).block, (ad.add (i * k)).off + j, none⟩ = some (f i j) := by
 obtain ⟨ad', e, _, hc⟩ := h.at hi
 cases e
 rw [← add_pos _ _ _ hj]
 exact hc j hk
theorem Sl.kept {w w' : World} {a : Option Addr} {n k : Nat} {f : Nat → Nat → Value} (h : Sl w a n k f) {B : Nat} (hb : Below B w w') (hB : w.heap.size ≤ B) : Sl w' a n k f := by
 rcases h with h | ⟨ad, h1, h2, h3⟩
 ·exact .inl h
 ·exact .inr ⟨ad, h1, Nat.lt_of_lt_of_le h2 hb.size, fun i j hi hj => (hb.cell (by rw [add_block]; omega)).trans (h3 i j hi hj)⟩
end Tp

abbrev Tp.pan (t : Int) : List PanicEntry := [{ v := .iface 41 (.int .i64 t), recovered := false }]

theorem tp_need_t (t : Int) (w : World) : Calls Tryz.prog 133 #[.bool true, .int .i64 t] w fun e w' => e = .returned (.tuple #[]) ∧ w = w' := by
 go_enter Tryz.func133, Tryz.ntmps133
 go_wp2
 go_end0
 exact ⟨rfl, rfl⟩
theorem tp_need_f (t : Int) (w : World) : Calls Tryz.prog 133 #[.bool false, .int .i64 t] w fun e w' => e = .panicked (Tp.pan t) ∧ w = w' := by
 go_enter Tryz.func133, Tryz.ntmps133
 go_wp2
 exact ⟨rfl, rfl, rfl⟩
theorem tp_in (n lo hi : Int) (w : World) : Calls Tryz.prog 134 #[.int .i64 n, .int .i64 lo, .int .i64 hi] w fun e w' => e = .returned (.bool (Tp.inb n lo hi)) ∧ w = w' := by
 have fin : ∀ p q : Bool, decide (lo ≤ n) = p → decide (n ≤ hi) = q → Calls Tryz.prog 134 #[.int .i64 n, .int .i64 lo, .int .i64 hi] w fun e w' => e = .returned (.bool (p && q)) ∧ w = w' := by
  intro p q hp hq
  cases p <;> cases q <;>
  ·go_enter Tryz.func134, Tryz.ntmps134
   go_wp2
   go_ret
   exact ⟨rfl, rfl⟩
 exact fin _ _ rfl rfl

theorem tp_test (b1 b2 : Nat) (ad : Addr) (i n cap : Nat) (x bar : Int) (w : World) (hi : i < n) (hn : n ≤ 4611686018427387904)
  (c1 : w.cell? ⟨b1, 1, none⟩ = some (.slice (some ad) n cap)) (c2 : w.cell? ⟨b2, 0, none⟩ = some (.int .i64 bar)) (c3 : w.cell? (ad.add (i * 3)) = some (.int .i64 x)) :
  Calls Tryz.prog 166 #[.int .i64 i, .pointer (some ⟨b1, 0, none⟩), .pointer (some ⟨b2, 0, none⟩)] w fun e w' => e = .returned (.bool (decide (bar < x))) ∧ Below w.heap.size w w' := by
 go_enter Tryz.func166, Tryz.ntmps166
 go_wp2
 go_quiet (fail)
 go_wp2
 go_ret
 exact ⟨rfl, by exact Kit.gr⟩

namespace Tp
def IsLeast (p : Nat → Bool) (n k : Nat) : Prop := k ≤ n ∧ (∀ i, i < k → p i = false) ∧ (∀ i, k ≤ i → i < n → p i = true)
end Tp

theorem so_search (c1 c2 : Value) (n : Nat) (p : Nat → Bool) (w : World) (hn : n ≤ 4611686018427387904) (hp : ∀ i j, i ≤ j → j < n → p i = true → p j = true)
  (hg : ∀ (i : Nat) (W : World), i < n → Below w.heap.size w W → Calls Tryz.prog 166 #[.int .i64 i, c1, c2] W fun e w' => e = .returned (.bool (p i)) ∧ Below W.heap.size W w') :
  Calls Tryz.prog 165 #[.int .i64 n, .func (.func 166) #[] #[c1, c2]] w fun e w' => ∃ k, Tp.IsLeast p n k ∧ e = .returned (.int .i64 k) ∧ Below w.heap.size w w' := by
 have HP := qh hp; clear hp
 have HG := qh hg; clear hg
 go_enter Tryz.func165, Tryz.ntmps165
 go_wp2
 go_loopw [5, 6] (fun v5 v6 wr => ∃ a b : Nat, v5 = .int .i64 a ∧ v6 = .int .i64 b ∧ a ≤ b ∧ b ≤ n ∧ Hid (∀ i, i < a → p i = false) ∧ Hid (∀ i, b ≤ i → i < n → p i = true) ∧ Below w.heap.size w wr)
  (fun v5 v6 _ => (intOf v6).toNat - (intOf v5).toNat)
 case atStart => exact ⟨0, n, rfl, rfl, Nat.zero_le _, Nat.le_refl _, fun i h => by omega, fun i h1 h2 => by omega, Below.refl _ _⟩
 case round =>
  obtain ⟨a, b, rfl, rfl, hab, hbn, HA, HB, hB⟩ := hrel
  by_cases hlt : a < b
  ·obtain ⟨m, hm⟩ : ∃ m : Nat, m = (a + b) / 2 := ⟨_, rfl⟩
   have hm1 : a ≤ m := by omega
   have hm2 : m < b := by omega
   have hS := HG.out m wr omg hB
   have hm' : (m : Int) = ((a : Int) + b) / 2 := by omega
   rw [hm'] at hS
   cases hpm : p m
   ·rw [hpm] at hS
    have HS := qh hS; clear hS
    have HPM := qh hpm; clear hpm
    have HM := qh hm; clear hm
    have HM' := qh hm'; clear hm'
    go_wp2_with (go_at_call 166; refine HS.out.mono ?_; rintro e w1 ⟨rfl, hb1⟩)
    go_roundw
    case rel =>
     have hk : ∀ i, i < m + 1 → p i = false := by
      intro i hi
      rcases hpi : p i with _ | _
      ·rfl
      ·have := HP.out i m omg omg hpi
       rw [HPM.out] at this
       exact this.symm
     exact ⟨m + 1, b, (by rw [← HM'.out]; go_num), rfl, by omega, hbn, hk, HB.out, hB.trans (hb1.mono hB.size)⟩
    case measure => rw [← HM'.out]; simp [intOf]; omega
   ·rw [hpm] at hS
    have HS := qh hS; clear hS
    have HPM := qh hpm; clear hpm
    have HM := qh hm; clear hm
    have HM' := qh hm'; clear hm'
    go_wp2_with (go_at_call 166; refine HS.out.mono ?_; rintro e w1 ⟨rfl, hb1⟩)
    go_roundw
    case rel => exact ⟨a, m, rfl, by rw [← HM'.out], by omega, by omega, HA.out, fun i h1 h2 => HP.out m i h1 h2 HPM.out, hB.trans (hb1.mono hB.size)⟩
    case measure => rw [← HM'.out]; simp [intOf]; omega
  ·obtain rfl : a = b := by omega
   go_wp2
   refine bodyPost_ret (results_tmp rfl _ _ _) rfl ?_
   exact ⟨a, ⟨hbn, HA.out, HB.out⟩, rfl, hB⟩
end Go.Proofs.YtedolbjgdedoaaaGreatDoor

namespace Go.Proofs.YtedolbjgdedoaaaGreatDoor
open Go.RowKit

namespace Tp
abbrev T := Int × Int × Int
def bars (ts : List T) (i : Nat) : Int := (ts.getD i (0, 0, 0)).1
def tc (ts : List T) (i j : Nat) : Value := .int .i64 (match j with | 0 => (ts.getD i (0, 0, 0)).1 | 1 => (ts.getD i (0, 0, 0)).2.1 | _ => (ts.getD i (0, 0, 0)).2.2)
def Rise (ts : List T) : Prop := 0 < ts.length ∧ bars ts 0 = 0 ∧ ∀ i j, i < j → j < ts.length → bars ts i < bars ts j
abbrev clockV (n : Int) (aT : Option Addr) (nT cT : Nat) (aP : Option Addr) (nP cP : Nat) (aS : Option Addr) (nS cS : Nat) : Value := .agg #[.int .i64 n, .slice aT nT cT, .slice aP nP cP, .slice aS nS cS]
end Tp

def Tp.cur (ts : List Tp.T) (bar : Int) (k : Nat) : Prop := k < ts.length ∧ Tp.bars ts k ≤ bar ∧ ∀ i, k < i → i < ts.length → bar < Tp.bars ts i
theorem Tp.least_cur {ts : List Tp.T} {bar : Int} {k m : Nat} (hc : Tp.cur ts bar k) (hr : Tp.Rise ts) (h : Tp.IsLeast (fun i => decide (bar < Tp.bars ts i)) ts.length m) : m = k + 1 := by
 obtain ⟨h1, h2, h3⟩ := hc
 obtain ⟨g1, g2, g3⟩ := h
 rcases Nat.lt_trichotomy m (k + 1) with h | h | h
 ·have := g3 k omg h1
  simp at this
  omega
 ·exact h
 ·have := g2 (k + 1) h
  have h4 := h3 (k + 1) omg omg
  simp at this
  omega
def Tp.val (ts : List Tp.T) (bar : Int) (k : Nat) : Int := (ts.getD k (0, 0, 0)).2.1 + (bar - (ts.getD k (0, 0, 0)).1) * (ts.getD k (0, 0, 0)).2.2
theorem Tp.val_bd (a s : Int) (h1 : 0 ≤ a) (h2 : a ≤ 4096) (h3 : -65536 ≤ s) (h4 : s ≤ 65536) : -268435456 ≤ a * s ∧ a * s ≤ 268435456 := by
 constructor
 ·have := Int.mul_le_mul_of_nonneg_left h3 h1
  omega
 ·have := Int.mul_le_mul_of_nonneg_left h4 h1
  omega

theorem tp_ticks (n : Int) (ad : Addr) (ts : List Tp.T) (cT : Nat) (aP : Option Addr) (nP cP : Nat) (aS : Option Addr) (nS cS : Nat) (bar : Int) (k : Nat) (w : World) (hn : ts.length ≤ 4611686018427387904)
  (hc : Tp.Sl w (some ad) ts.length 3 (Tp.tc ts)) (hr : Tp.Rise ts) (hcur : Tp.cur ts bar k) (hb : bar ≤ 4096) (h0 : 0 ≤ Tp.bars ts k)
  (ht1 : -65536 ≤ (ts.getD k (0, 0, 0)).2.1) (ht2 : (ts.getD k (0, 0, 0)).2.1 ≤ 65536) (hs1 : -65536 ≤ (ts.getD k (0, 0, 0)).2.2) (hs2 : (ts.getD k (0, 0, 0)).2.2 ≤ 65536) :
  Calls Tryz.prog 135 #[Tp.clockV n (some ad) ts.length cT aP nP cP aS nS cS, .int .i64 bar] w fun e w' => e = .returned (.int .i64 (Tp.val ts bar k)) ∧ Below w.heap.size w w' := by
 have hk := hcur.1
 have hk1 := hcur.2.1
 unfold Tp.bars at hk1 h0
 have q0 : Tp.tc ts k 0 = .int .i64 (ts.getD k (0, 0, 0)).1 := rfl
 have q1 : Tp.tc ts k 1 = .int .i64 (ts.getD k (0, 0, 0)).2.1 := rfl
 have q2 : Tp.tc ts k 2 = .int .i64 (ts.getD k (0, 0, 0)).2.2 := rfl
 have hval : Tp.val ts bar k = (ts.getD k (0, 0, 0)).2.1 + (bar - (ts.getD k (0, 0, 0)).1) * (ts.getD k (0, 0, 0)).2.2 := rfl
 generalize ts.getD k (0, 0, 0) = t0 at q0 q1 q2 hval ht1 ht2 hs1 hs2 hk1 h0
 obtain ⟨xa, xt, xs⟩ := t0
 dsimp only at q0 q1 q2 hval ht1 ht2 hs1 hs2 hk1 h0
 obtain ⟨hm1, hm2⟩ := Tp.val_bd (bar - xa) xs omg omg hs1 hs2
 have Q0 := qh q0; clear q0
 have Q1 := qh q1; clear q1
 have Q2 := qh q2; clear q2
 have HVAL := qh hval; clear hval
 have HCUR := qh hcur; clear hcur
 have HR := qh hr; clear hr
 have HC := qh hc; clear hc
 go_enter Tryz.func135, Tryz.ntmps135
 go_wp2
 refine Kit.wp_name ?_
 intro W hW
 have bW : Below w.heap.size w W := by rw [hW]; exact Kit.gr
 have c1 : ∀ w1, Below W.heap.size W w1 → w1.cell? ⟨w.heap.size, 1, none⟩ = some (.slice (some ad) ts.length cT) := fun w1 h => (h.cell (by rw [hW]; simp; omega)).trans (by rw [hW]; simp [go_sem])
 have c2 : ∀ w1, Below W.heap.size W w1 → w1.cell? ⟨w.heap.size + 1, 0, none⟩ = some (.int .i64 bar) := fun w1 h => (h.cell (by rw [hW]; simp)).trans (by rw [hW]; simp [go_sem])
 have HW := qh hW; clear hW
 refine Kit.wp_region_vals 11 [([(2, none)], none, true), ([(6, some 0)], none, true), ([(2, none)], none, true), ([(8, some 2)], none, true), ([(9, some 3)], none, true), ([(2, none), (3, none)], none, true), ([(10, some 4), (11, some 5)], none, true), ([(12, some 6)], none, true), ([(7, some 1), (13, some 7)], none, true), ([(14, some 8)], none, true), ([], none, true)]
  [some 6, some 7, some 8, some 9, some 10, some 11, some 12, some 13, some 14, some 15, some 5] rfl (by kernel_rfl) (by kernel_rfl) (fun A B => Below A.heap.size A B) (fun i v w' => match i with
  | 0 => v = .pointer (some ⟨w.heap.size, 1, none⟩)
  | 1 => v = .slice (some ad) ts.length cT
  | 2 => v = .pointer (some ⟨w.heap.size, 1, none⟩)
  | 3 => v = .slice (some ad) ts.length cT
  | 4 => v = .int .i64 ts.length
  | 5 => v = .func (.func 166) #[] #[.pointer (some ⟨w.heap.size, 0, none⟩), .pointer (some ⟨w.heap.size + 1, 0, none⟩)]
  | 6 => v = .int .i64 (k + 1)
  | 7 => v = .int .i64 k
  | 8 => v = .pointer (some (ad.add (k * 3)))
  | 9 => v = .agg #[.int .i64 xa, .int .i64 xt, .int .i64 xs]
  | _ => ∃ b, v = .pointer (some ⟨b, 0, none⟩) ∧ W.heap.size ≤ b ∧ w'.heap[b]? = some (.cells #[.int .i64 0, .int .i64 0, .int .i64 0] 156 (0, 0)))
  (fun h k => h.trans (k.mono h.size)) (Below.drew (Below.refl _ _)) (fun _ => Below.refl _ _) ?_ ?_ ?_
 ·intro i v A B h1 h2 h3
  split at h3 <;> try exact h3
  obtain ⟨b, e, hb, hh⟩ := h3
  exact ⟨b, e, hb, (h2.block b (Array.getElem?_eq_some_iff.1 hh).1).trans hh⟩
 ·simp only [List.take_succ_cons, List.take_zero, Kit.StepsV, Kit.VOp, Kit.RdP, true_and, if_true, and_true]
  refine ⟨?_, ?_, ?_, ?_, ?_, ?_, ?_, ?_, ?_, ?_, ?_⟩
  all_goals intro ev w1 hx hv hc hf hg
  all_goals (try have k1 := c1 w1 hx)
  ·simp at hv; simp [execOp, hv, go_sem, Kit.UponV, Below.refl]
  ·simp [execOp, hv, go_sem, Kit.UponV, Below.refl, k1]
  ·simp at hv; simp [execOp, hv, go_sem, Kit.UponV, Below.refl]
  ·simp [execOp, hv, go_sem, Kit.UponV, Below.refl, k1]
  ·simp [execOp, hv, hc, go_sem, Kit.UponV, Below.refl]
  ·simp at hv; simp [execOp, hv, go_sem, Kit.UponV, Below.refl]
  ·simp [execOp, hv, hf, go_sem, Kit.UponV]
   refine (so_search _ _ ts.length (fun i => decide (bar < Tp.bars ts i)) w1 hn (fun i j hij hj hp => ?_) (fun i W2 hi hB => ?_)).mono ?_
   ·simp only [decide_eq_true_eq] at hp ⊢
    by_cases e : i = j
    ·subst e; exact hp
    ·have := HR.out.2.2 i j omg hj
     omega
   ·have hx2 : Below W.heap.size W W2 := hx.trans (hB.mono hx.size)
    refine tp_test _ _ ad i ts.length cT (Tp.bars ts i) bar W2 hi hn (c1 W2 hx2) (c2 W2 hx2) ?_
    exact ((HC.out.kept bW nlr).kept hx2 nlr).head hi omg
   ·rintro e w2 ⟨m, hm, rfl, hb2⟩
    have := Tp.least_cur HCUR.out HR.out hm
    subst this
    exact ⟨_, rfl, by simp, hb2⟩
  ·have e1 : IntKind.i64.wrap (k : Int) = k := IntWalk.i64_in _ omg
   simp [execOp, hv, hc, go_sem, Kit.UponV, Below.refl, e1]
  ·simp [execOp, hv, hc, go_sem, Kit.UponV, Below.refl, hk]
  ·have HS := (HC.out.kept bW nlr).kept hx nlr
   have e0 := HS.head hk omg
   have e1 := HS.field hk (j := 1) omg omg
   have e2 := HS.field hk (j := 2) omg omg
   rw [Q0.out] at e0
   rw [Q1.out] at e1
   rw [Q2.out] at e2
   simp [execOp, hv, hc, go_sem, Kit.UponV, Below.refl, e0, e1, e2]
  ·have hz := hx.size
   simp [execOp, hc, go_sem, Kit.UponV]
   have hnew := World.alloc_heap_new w1 (Obj.cells #[Value.int IntKind.i64 0, Value.int IntKind.i64 0, Value.int IntKind.i64 0] 156)
   exact ⟨⟨hz, by simpa using hnew⟩, (Below.refl _ _).alloc nlr _⟩
 ·intro vs w1 hv hx
  have v0 : vs 0 = _ := hv 0 omg
  have v1 : vs 1 = _ := hv 1 omg
  have v2 : vs 2 = _ := hv 2 omg
  have v3 : vs 3 = _ := hv 3 omg
  have v4 : vs 4 = _ := hv 4 omg
  have v5 : vs 5 = _ := hv 5 omg
  have v6 : vs 6 = _ := hv 6 omg
  have v7 : vs 7 = _ := hv 7 omg
  have v8 : vs 8 = _ := hv 8 omg
  have v9 : vs 9 = _ := hv 9 omg
  obtain ⟨b, v10, hb1, hb2⟩ := hv 10 omg
  clear hv
  simp only [Kit.putD, List.getD_cons_zero, List.getD_cons_succ, Act.put, v0, v1, v2, v3, v4, v5, v6, v7, v8, v9, v10, List.drop_succ_cons, List.drop_zero]
  go_simp
  have g0 : w1.cell? ⟨b, 0, none⟩ = some (.int .i64 0) := by simp [World.cell?, hb2]
  have g1 : w1.cell? ⟨b, 1, none⟩ = some (.int .i64 0) := by simp [World.cell?, hb2]
  have g2 : w1.cell? ⟨b, 2, none⟩ = some (.int .i64 0) := by simp [World.cell?, hb2]
  have f0 : w1.frozen? ⟨b, 0, none⟩ = false := by simp [World.frozen?, hb2]
  have f1 : w1.frozen? ⟨b, 1, none⟩ = false := by simp [World.frozen?, hb2]
  have f2 : w1.frozen? ⟨b, 2, none⟩ = false := by simp [World.frozen?, hb2]
  have k2 := c2 w1 hx
  have hne : w.heap.size + 1 ≠ b := by have := HW.out; rw [this] at hb1; simp at hb1; omega
  have hB1 := bW.trans (hx.mono bW.size)
  have hwb : w.heap.size ≤ b := by have := bW.size; omega
  replace hb2 := qh hb2
  replace hB1 := qh hB1
  clear v0 v1 v2 v3 v4 v5 v6 v7 v8 v9 v10 c1 c2
  go_wp2
  go_ret
  exact ⟨by simp [HVAL.out], by have := hB1.out; exact Kit.gr⟩
end Go.Proofs.YtedolbjgdedoaaaGreatDoor

namespace Go.Proofs.YtedolbjgdedoaaaGreatDoor
open Go.RowKit
namespace Tp
abbrev Q := Int × Int × Int × Int
def qc (l : List Q) (i j : Nat) : Value := .int .i64 (match j with | 0 => (l.getD i (0, 0, 0, 0)).1 | 1 => (l.getD i (0, 0, 0, 0)).2.1 | 2 => (l.getD i (0, 0, 0, 0)).2.2.1 | _ => (l.getD i (0, 0, 0, 0)).2.2.2)
def curI (ts : List T) (bar : Int) : Nat := ts.countP (fun t => decide (t.1 ≤ bar)) - 1
def tk (ts : List T) (bar : Int) : Int := val ts bar (curI ts bar)
def okT1 (bars last : Int) (x : T) : Bool := inb x.1 (last + 1) (bars - 1) && inb x.2.1 (-65536) 65536 && inb x.2.2 (-65536) 65536
def vT (bars : Int) : Int → List T → Bool
 | _, [] => true
 | last, x :: l => okT1 bars last x && vT bars x.1 l
def vB (ts : List T) (bars : Int) : Bool := (List.range bars.toNat).all fun b => inb (tk ts b) 1 65536
def okP1 (bars last : Int) (x : Q) : Bool := inb x.1 (last + 1) (bars - 2) && inb x.2.1 1 2 && inb x.2.2.1 0 x.2.2.2 && decide (x.2.2.2 ≤ 1048576)
def vP (bars : Int) : Int → List Q → Bool
 | _, [] => true
 | last, x :: l => okP1 bars last x && vP bars x.1 l
def okS1 (bars : Int) (x : Q) : Bool := inb x.1 0 bars && inb x.2.1 0 bars && (x.1 != x.2.1) && inb x.2.2.1 (-1099511627776) x.2.2.2 && decide (x.2.2.2 ≤ 1099511627776)
def vS (bars : Int) (l : List Q) : Bool := l.all (okS1 bars)
def okC (n : Int) (ts : List T) (ps ss : List Q) : Bool := inb n 1 4096 && decide (0 < ts.length) && (bars ts 0 == 0) && vT n (-1) ts && vB ts n && vP n (-1) ps && vS n ss
def chk (n : Int) (ts : List T) (ps ss : List Q) : Int :=
 if ts.length ≤ 4096 ∧ ps.length ≤ 4096 ∧ ss.length ≤ 256 then (if okC n ts ps ss = true then 0 else 130) else 2

theorem vT_mem {bars : Int} : ∀ {last : Int} {ts : List T}, vT bars last ts = true → ∀ i, i < ts.length → last < (ts.getD i (0, 0, 0)).1 ∧ (ts.getD i (0, 0, 0)).1 ≤ bars - 1 ∧ -65536 ≤ (ts.getD i (0, 0, 0)).2.1 ∧ (ts.getD i (0, 0, 0)).2.1 ≤ 65536 ∧ -65536 ≤ (ts.getD i (0, 0, 0)).2.2 ∧ (ts.getD i (0, 0, 0)).2.2 ≤ 65536
 | _, [], _, i, hi => by simp at hi
 | last, x :: l, h, i, hi => by
  simp only [vT, okT1, Bool.and_eq_true, inb_iff] at h
  obtain ⟨⟨⟨h1, h2⟩, h3⟩, h4⟩ := h
  cases i with
  | zero => simp; omega
  | succ i =>
   have := vT_mem h4 i (by simpa using hi)
   simp only [List.getD_cons_succ]
   omega
theorem vT_rise {bars : Int} : ∀ {last : Int} {ts : List T}, vT bars last ts = true → ∀ i j, i < j → j < ts.length → Tp.bars ts i < Tp.bars ts j
 | _, [], _, i, j, _, hj => by simp at hj
 | last, x :: l, h, i, j, hij, hj => by
  simp only [vT, Bool.and_eq_true] at h
  cases j with
  | zero => omega
  | succ j =>
   cases i with
   | zero => have := vT_mem h.2 j (by simpa using hj); simp only [Tp.bars, List.getD_cons_succ, List.getD_cons_zero]; omega
   | succ i => have := vT_rise h.2 i j omg (by simpa using hj); simpa [Tp.bars] using this
theorem countP_rise (ts : List T) (bar : Int) (hr : ∀ i j, i < j → j < ts.length → bars ts i < bars ts j) : ∀ m, m ≤ ts.length → (∀ i, i < m → bars ts i ≤ bar) → (∀ i, m ≤ i → i < ts.length → bar < bars ts i) → ts.countP (fun t => decide (t.1 ≤ bar)) = m := by
 induction ts with
 | nil => intro m hm _ _; simp at hm; simp [hm]
 | cons x l ih =>
  intro m hm h1 h2
  rw [List.countP_cons]
  cases m with
  | zero =>
   have hx := h2 0 omg (by simp)
   have := ih (fun i j hij hj => by have := hr (i + 1) (j + 1) omg (by simpa using hj); simpa [bars] using this) 0 omg (fun i hi => by omega) (fun i _ hi => by have := h2 (i + 1) omg (by simpa using hi); simpa [bars] using this)
   rw [this]
   simp [bars] at hx
   simp; omega
  | succ m =>
   have hx := h1 0 omg
   have := ih (fun i j hij hj => by have := hr (i + 1) (j + 1) omg (by simpa using hj); simpa [bars] using this) m (by simpa using hm) (fun i hi => by have := h1 (i + 1) omg; simpa [bars] using this) (fun i h hi => by have := h2 (i + 1) omg (by simpa using hi); simpa [bars] using this)
   rw [this]
   simp [bars] at hx
   simp; omega
theorem cur_curI {ts : List T} {bar : Int} (hr : Rise ts) (hb : 0 ≤ bar) : cur ts bar (curI ts bar) := by
 obtain ⟨h0, h1, h2⟩ := hr
 have hex : ∃ m, m < ts.length ∧ bars ts m ≤ bar ∧ ∀ i, m < i → i < ts.length → bar < bars ts i := by
  have : ∀ d m, m < ts.length → bars ts m ≤ bar → ts.length - m = d → ∃ m, m < ts.length ∧ bars ts m ≤ bar ∧ ∀ i, m < i → i < ts.length → bar < bars ts i := by
   intro d
   induction d using Nat.strongRecOn with
   | ind d ih =>
    intro m hm hmb hd
    by_cases hn : m + 1 < ts.length ∧ bars ts (m + 1) ≤ bar
    ·exact ih (ts.length - (m + 1)) omg (m + 1) hn.1 hn.2 rfl
    ·refine ⟨m, hm, hmb, fun i hi hl => ?_⟩
     by_cases e : i = m + 1
     ·subst e; omega
     ·have := h2 (m + 1) i omg hl
      omega
  exact this _ 0 h0 omg rfl
 obtain ⟨m, hm, hmb, hlt⟩ := hex
 have hc : ts.countP (fun t => decide (t.1 ≤ bar)) = m + 1 := countP_rise ts bar h2 (m + 1) omg (fun i hi => by
  by_cases e : i = m
  ·subst e; exact hmb
  ·have := h2 i m omg hm; omega) (fun i h hi => hlt i omg hi)
 have : curI ts bar = m := by unfold curI; omega
 rw [this]
 exact ⟨hm, hmb, hlt⟩
theorem drop_cons {α : Type} (l : List α) (d : α) (k : Nat) (h : k < l.length) : l.drop k = l.getD k d :: l.drop (k + 1) := by
 rw [List.drop_eq_getElem_cons h]
 simp [List.getD_eq_getElem?_getD, List.getElem?_eq_getElem h]
end Tp
end Go.Proofs.YtedolbjgdedoaaaGreatDoor

namespace Go.Proofs.YtedolbjgdedoaaaGreatDoor
open Go.RowKit

def Tp.fin (r : Int) : Ending := if r = 0 then .returned (.tuple #[]) else .panicked (Tp.pan r)
def Tp.Val (n : Int) (aT : Option Addr) (nT cT : Nat) (aP : Option Addr) (nP cP : Nat) (aS : Option Addr) (nS cS : Nat) (w : World) (r : Int) : Prop :=
 Calls Tryz.prog 95 #[Tp.clockV n aT nT cT aP nP cP aS nS cS] w fun e w' => e = Tp.fin r ∧ Below w.heap.size w w'
theorem Tp.fin_2 : Tp.fin 2 = .panicked (Tp.pan 2) := by unfold Tp.fin; rw [if_neg (by decide)]
theorem Tp.fin_130 : Tp.fin 130 = .panicked (Tp.pan 130) := by unfold Tp.fin; rw [if_neg (by decide)]
theorem Tp.fin_bad {r : Int} {n : Int} {ts : List Tp.T} {ps ss : List Tp.Q} (hr : Hid (r = if Tp.okC n ts ps ss = true then 0 else 130)) (h : Tp.okC n ts ps ss = false) : Ending.panicked (Tp.pan 130) = Tp.fin r := by
 rw [hr.out, if_neg (by simp [h]), Tp.fin_130]
theorem Tp.fin_good {r : Int} {n : Int} {ts : List Tp.T} {ps ss : List Tp.Q} (hr : Hid (r = if Tp.okC n ts ps ss = true then 0 else 130)) (h : Tp.okC n ts ps ss = true) : Ending.returned (.tuple #[]) = Tp.fin r := by
 rw [hr.out, if_pos h]; unfold Tp.fin; rw [if_pos rfl]

theorem tp_val_1 (n : Int) (aT : Option Addr) (nT cT : Nat) (aP : Option Addr) (nP cP : Nat) (aS : Option Addr) (nS cS : Nat) (w : World) (h1 : nT ≤ 4611686018427387904) (h2 : nP ≤ 4611686018427387904) (h3 : nS ≤ 4611686018427387904) (h4 : nT < nP) (h5 : (4096 : Int) < nP) : Tp.Val n aT nT cT aP nP cP aS nS cS w 2 := by
 unfold Tp.Val
 skip
 go_enter Tryz.func95, Tryz.ntmps95
 go_wp2_with fail
 refine (tp_need_f _ _).mono ?_
 rintro e w' ⟨rfl, rfl⟩
 go_wp2
 exact ⟨rfl, Tp.fin_2.symm, by exact Kit.gr⟩
theorem tp_val_2 (n : Int) (aT : Option Addr) (nT cT : Nat) (aP : Option Addr) (nP cP : Nat) (aS : Option Addr) (nS cS : Nat) (w : World) (h1 : nT ≤ 4611686018427387904) (h2 : nP ≤ 4611686018427387904) (h3 : nS ≤ 4611686018427387904) (h4 : nT < nP) (h5 : (nP : Int) ≤ 4096) (h6 : (256 : Int) < nS) : Tp.Val n aT nT cT aP nP cP aS nS cS w 2 := by
 unfold Tp.Val
 have d : decide ((nS : Int) ≤ 256) = false := by simp; omega
 go_enter Tryz.func95, Tryz.ntmps95
 go_wp2_with fail
 refine (tp_need_f _ _).mono ?_
 rintro e w' ⟨rfl, rfl⟩
 go_wp2
 exact ⟨rfl, Tp.fin_2.symm, by exact Kit.gr⟩
theorem tp_val_3 (n : Int) (aT : Option Addr) (nT cT : Nat) (aP : Option Addr) (nP cP : Nat) (aS : Option Addr) (nS cS : Nat) (w : World) (h1 : nT ≤ 4611686018427387904) (h2 : nP ≤ 4611686018427387904) (h3 : nS ≤ 4611686018427387904) (h4 : ¬ nT < nP) (h5 : (4096 : Int) < nT) : Tp.Val n aT nT cT aP nP cP aS nS cS w 2 := by
 unfold Tp.Val
 skip
 go_enter Tryz.func95, Tryz.ntmps95
 go_wp2_with fail
 refine (tp_need_f _ _).mono ?_
 rintro e w' ⟨rfl, rfl⟩
 go_wp2
 exact ⟨rfl, Tp.fin_2.symm, by exact Kit.gr⟩
theorem tp_val_4 (n : Int) (aT : Option Addr) (nT cT : Nat) (aP : Option Addr) (nP cP : Nat) (aS : Option Addr) (nS cS : Nat) (w : World) (h1 : nT ≤ 4611686018427387904) (h2 : nP ≤ 4611686018427387904) (h3 : nS ≤ 4611686018427387904) (h4 : ¬ nT < nP) (h5 : (nT : Int) ≤ 4096) (h6 : (256 : Int) < nS) : Tp.Val n aT nT cT aP nP cP aS nS cS w 2 := by
 unfold Tp.Val
 have d : decide ((nS : Int) ≤ 256) = false := by simp; omega
 go_enter Tryz.func95, Tryz.ntmps95
 go_wp2_with fail
 refine (tp_need_f _ _).mono ?_
 rintro e w' ⟨rfl, rfl⟩
 go_wp2
 exact ⟨rfl, Tp.fin_2.symm, by exact Kit.gr⟩


theorem tp_val_5 (n : Int) (aT : Option Addr) (nT cT : Nat) (aP : Option Addr) (nP cP : Nat) (aS : Option Addr) (nS cS : Nat) (w : World) (M : Int) (l1 : (nT : Int) ≤ 4096) (l2 : (nP : Int) ≤ 4096) (l3 : (nS : Int) ≤ 256)
  (hM : (if nT < nP then (nP : Int) else (nT : Int)) = M) (hM2 : M ≤ 4096) (c1 : Tp.inb n 1 4096 = false) : Tp.Val n aT nT cT aP nP cP aS nS cS w 130 := by
 unfold Tp.Val
 skip
 go_enter Tryz.func95, Tryz.ntmps95
 go_wp2_with (first | ((go_at_call 133; (first | (with_reducible refine (tp_need_t _ _).mono ?_) | (with_reducible refine (tp_need_f _ _).mono ?_)); rintro e w' ⟨rfl, rfl⟩)) | ((go_at_call 134; refine (tp_in _ _ _ _).mono ?_; rintro e w' ⟨rfl, rfl⟩)))
 exact ⟨rfl, Tp.fin_130.symm, by exact Kit.gr⟩
theorem tp_val_6 (n : Int) (aT : Option Addr) (nT cT : Nat) (aP : Option Addr) (nP cP : Nat) (aS : Option Addr) (nS cS : Nat) (w : World) (M : Int) (l1 : (nT : Int) ≤ 4096) (l2 : (nP : Int) ≤ 4096) (l3 : (nS : Int) ≤ 256)
  (hM : (if nT < nP then (nP : Int) else (nT : Int)) = M) (hM2 : M ≤ 4096) (c1 : Tp.inb n 1 4096 = true) (c2 : ¬ 0 < nT) : Tp.Val n aT nT cT aP nP cP aS nS cS w 130 := by
 unfold Tp.Val
 skip
 go_enter Tryz.func95, Tryz.ntmps95
 go_wp2_with (first | ((go_at_call 133; (first | (with_reducible refine (tp_need_t _ _).mono ?_) | (with_reducible refine (tp_need_f _ _).mono ?_)); rintro e w' ⟨rfl, rfl⟩)) | ((go_at_call 134; refine (tp_in _ _ _ _).mono ?_; rintro e w' ⟨rfl, rfl⟩)))
 exact ⟨rfl, Tp.fin_130.symm, by exact Kit.gr⟩
theorem tp_val_7 (n : Int) (ad : Addr) (nT cT : Nat) (aP : Option Addr) (nP cP : Nat) (aS : Option Addr) (nS cS : Nat) (w : World) (M : Int) (l1 : (nT : Int) ≤ 4096) (l2 : (nP : Int) ≤ 4096) (l3 : (nS : Int) ≤ 256)
  (hM : (if nT < nP then (nP : Int) else (nT : Int)) = M) (hM2 : M ≤ 4096) (c1 : Tp.inb n 1 4096 = true) (c2 : 0 < nT) (x : Int) (hb : ad.block < w.heap.size) (had : w.cell? (ad.add (0 * 3 + 0)) = some (.int .i64 x)) (c3 : (x == 0) = false) : Tp.Val n (some ad) nT cT aP nP cP aS nS cS w 130 := by
 unfold Tp.Val
 have had' : w.cell? ad = some (.int .i64 x) := by simpa [Addr.add] using had
 clear had
 have hadW : ∀ o, (w.alloc o).cell? ad = some (.int .i64 x) := fun o => (((Below.refl _ w).alloc nlr o).cell hb).trans had'
 go_enter Tryz.func95, Tryz.ntmps95
 go_wp2_with (first | ((go_at_call 133; (first | (with_reducible refine (tp_need_t _ _).mono ?_) | (with_reducible refine (tp_need_f _ _).mono ?_)); rintro e w' ⟨rfl, rfl⟩)) | ((go_at_call 134; refine (tp_in _ _ _ _).mono ?_; rintro e w' ⟨rfl, rfl⟩)))
 exact ⟨rfl, Tp.fin_130.symm, by exact Kit.gr⟩

theorem Tp.okC_vT {n : Int} {ts : List Tp.T} {ps ss : List Tp.Q} (h : Tp.vT n (-1) ts = false) : Tp.okC n ts ps ss = false := by simp [Tp.okC, h]
theorem Tp.okC_vP {n : Int} {ts : List Tp.T} {ps ss : List Tp.Q} (h : Tp.vP n (-1) ps = false) : Tp.okC n ts ps ss = false := by simp [Tp.okC, h]
theorem Tp.okC_vS {n : Int} {ts : List Tp.T} {ps ss : List Tp.Q} (h : Tp.vS n ss = false) : Tp.okC n ts ps ss = false := by simp [Tp.okC, h]
theorem tp_val_8 (n : Int) (ad : Addr) (ts : List Tp.T) (cT : Nat) (aP : Option Addr) (ps : List Tp.Q) (cP : Nat) (aS : Option Addr) (ss : List Tp.Q) (cS : Nat) (w : World) (M : Int)
  (l1 : (ts.length : Int) ≤ 4096) (l2 : (ps.length : Int) ≤ 4096) (l3 : (ss.length : Int) ≤ 256) (hM : (if ts.length < ps.length then (ps.length : Int) else (ts.length : Int)) = M) (hM2 : M ≤ 4096)
  (c1 : Tp.inb n 1 4096 = true) (c2 : 0 < ts.length) (c3 : Tp.bars ts 0 = 0)
  (hT : Tp.Sl w (some ad) ts.length 3 (Tp.tc ts)) (hP : Tp.Sl w aP ps.length 4 (Tp.qc ps)) (hS : Tp.Sl w aS ss.length 4 (Tp.qc ss)) (r : Int) (hr : Hid (r = if Tp.okC n ts ps ss = true then 0 else 130)) :
  Tp.Val n (some ad) ts.length cT aP ps.length cP aS ss.length cS w r := by
 unfold Tp.Val
 have n1 : 1 ≤ n := ((Tp.inb_iff _ _ _).1 c1).1
 have n2 : n ≤ 4096 := ((Tp.inb_iff _ _ _).1 c1).2
 obtain ⟨had, hc0⟩ : ad.block < w.heap.size ∧ w.cell? ad = some (.int .i64 0) := by
  obtain ⟨ad', e, h1, h2⟩ := hT.at c2
  cases e
  refine ⟨h1, ?_⟩
  have := h2 0 omg
  have e0 : (ts.getD 0 (0, 0, 0)).1 = 0 := c3
  rw [← e0]
  simpa [Addr.add, Tp.tc] using this
 have hadW : ∀ o, (w.alloc o).cell? ad = some (.int .i64 0) := fun o => (((Below.refl _ w).alloc nlr o).cell had).trans hc0
 have HT := qh hT; clear hT
 have HP := qh hP; clear hP
 have HS := qh hS; clear hS
 have C3 := qh c3; clear c3
 go_enter Tryz.func95, Tryz.ntmps95
 go_wp2_with (first | ((go_at_call 133; (first | (with_reducible refine (tp_need_t _ _).mono ?_) | (with_reducible refine (tp_need_f _ _).mono ?_)); rintro e w' ⟨rfl, rfl⟩)) | ((go_at_call 134; refine (tp_in _ _ _ _).mono ?_; rintro e w' ⟨rfl, rfl⟩)))
 refine Kit.wp_name ?_
 intro W0 hW0
 have k0 : W0.cell? ⟨w.heap.size, 0, none⟩ = some (.int .i64 n) := by rw [hW0]; simp [go_sem]
 have k1 : W0.cell? ⟨w.heap.size, 1, none⟩ = some (.slice (some ad) ts.length cT) := by rw [hW0]; simp [go_sem]
 have k2 : W0.cell? ⟨w.heap.size, 2, none⟩ = some (.slice aP ps.length cP) := by rw [hW0]; simp [go_sem]
 have k3 : W0.cell? ⟨w.heap.size, 3, none⟩ = some (.slice aS ss.length cS) := by rw [hW0]; simp [go_sem]
 have b0 : Below w.heap.size w W0 := by rw [hW0]; exact Kit.gr
 have s0 : W0.heap.size = w.heap.size + 1 := by rw [hW0]; simp
 have K0 := qh k0; have K1 := qh k1; have K2 := qh k2; have K3 := qh k3
 have S0 := qh s0
 have HW0 := qh hW0
 have HM := qh hM
 clear k0 k1 k2 k3 s0 hW0 hM hadW
 go_loopw [2, 46] (fun v2 v46 wr => ∃ (k : Nat) (last : Int), v2 = .int .i64 last ∧ v46 = .int .i64 k ∧ k ≤ ts.length ∧ -1 ≤ last ∧ last ≤ 4096 ∧ Hid (Tp.vT n (-1) ts = Tp.vT n last (ts.drop k)) ∧ Below W0.heap.size W0 wr)
  (fun _ v46 _ => ts.length - (intOf v46).toNat)
 case atStart => exact ⟨0, -1, rfl, rfl, Nat.zero_le _, by omega, by omega, by show _ = _; simp, Below.refl _ _⟩
 case round =>
  obtain ⟨k, last, rfl, rfl, hk, hl1, hl2, HV, hB⟩ := hrel
  have hwr : Below w.heap.size w wr := b0.trans (hB.mono b0.size)
  by_cases hlt : k < ts.length
  ·have HSl := (HT.out.kept b0 nlr).kept hB nlr
   have e0 := HSl.head hlt omg
   have e1 := HSl.field hlt (j := 1) omg omg
   have e2 := HSl.field hlt (j := 2) omg omg
   clear HSl
   have hdrop := Tp.drop_cons ts (0, 0, 0) k hlt
   generalize hx : ts.getD k (0, 0, 0) = x at hdrop
   simp only [Tp.tc, hx] at e0 e1 e2
   obtain ⟨xb, xt, xs⟩ := x
   dsimp only at e0 e1 e2
   have hV : Tp.vT n (-1) ts = (Tp.okT1 n last (xb, xt, xs) && Tp.vT n xb (ts.drop (k + 1))) := by rw [HV.out, hdrop]; rfl
   have HV2 := qh hV
   have HX := qh hx
   clear hV hdrop hx HV
   have hbk : (ad.add (k * 3)).block < w.heap.size := by rw [Tp.add_block]; exact had
   have k0 : wr.cell? ⟨w.heap.size, 0, none⟩ = some (.int .i64 n) := (hB.cell (by rw [S0.out]; simp)).trans K0.out
   have z0 : w.heap.size < wr.heap.size := by have h5 := hB.size; rw [S0.out] at h5; omega
   have HB := qh hB
   have HWR := qh hwr
   have zb : (ad.add (k * 3)).block < wr.heap.size := by omega
   clear hB hwr
   rcases d1 : Tp.inb xb (last + 1) (n - 1) with _ | _
   ·go_wp2_with (first | ((go_at_call 133; (first | (with_reducible refine (tp_need_t _ _).mono ?_) | (with_reducible refine (tp_need_f _ _).mono ?_)); rintro e w' ⟨rfl, rfl⟩)) | ((go_at_call 134; refine (tp_in _ _ _ _).mono ?_; rintro e w' ⟨rfl, rfl⟩)))
    exact ⟨rfl, Tp.fin_bad hr (Tp.okC_vT (by rw [HV2.out]; simp [Tp.okT1, d1])), by have := HWR.out; exact Kit.gr⟩
   rcases d2 : Tp.inb xt (-65536) 65536 with _ | _
   ·go_wp2_with (first | ((go_at_call 133; (first | (with_reducible refine (tp_need_t _ _).mono ?_) | (with_reducible refine (tp_need_f _ _).mono ?_)); rintro e w' ⟨rfl, rfl⟩)) | ((go_at_call 134; refine (tp_in _ _ _ _).mono ?_; rintro e w' ⟨rfl, rfl⟩)))
    exact ⟨rfl, Tp.fin_bad hr (Tp.okC_vT (by rw [HV2.out]; simp [Tp.okT1, d2])), by have := HWR.out; exact Kit.gr⟩
   rcases d3 : Tp.inb xs (-65536) 65536 with _ | _
   ·go_wp2_with (first | ((go_at_call 133; (first | (with_reducible refine (tp_need_t _ _).mono ?_) | (with_reducible refine (tp_need_f _ _).mono ?_)); rintro e w' ⟨rfl, rfl⟩)) | ((go_at_call 134; refine (tp_in _ _ _ _).mono ?_; rintro e w' ⟨rfl, rfl⟩)))
    exact ⟨rfl, Tp.fin_bad hr (Tp.okC_vT (by rw [HV2.out]; simp [Tp.okT1, d3])), by have := HWR.out; exact Kit.gr⟩
   go_wp2_with (first | ((go_at_call 133; (first | (with_reducible refine (tp_need_t _ _).mono ?_) | (with_reducible refine (tp_need_f _ _).mono ?_)); rintro e w' ⟨rfl, rfl⟩)) | ((go_at_call 134; refine (tp_in _ _ _ _).mono ?_; rintro e w' ⟨rfl, rfl⟩)))
   go_roundw
   case rel =>
    have hd := (Tp.inb_iff _ _ _).1 d1
    exact ⟨k + 1, xb, rfl, by go_num, by omega, by omega, by omega, (by show _ = _; rw [HV2.out]; simp [Tp.okT1, d1, d2, d3]), (by have := HB.out; exact Kit.gr)⟩
   case measure => simp [intOf]; omega
  ·have hvt : Tp.vT n (-1) ts = true := by rw [HV.out, List.drop_of_length_le omg]; rfl
   have HVT := qh hvt
   have k0 : wr.cell? ⟨w.heap.size, 0, none⟩ = some (.int .i64 n) := (hB.cell (by rw [S0.out]; simp)).trans K0.out
   have HB := qh hB
   clear hvt HV hB hwr
   go_wp2
   clear k0
   refine Kit.wp_name ?_
   intro W1 hW1
   have hB1 : Below W0.heap.size W0 W1 := by rw [hW1]; exact HB.out
   clear hW1 HB
   obtain ⟨N, rfl⟩ : ∃ N : Nat, n = N := ⟨n.toNat, by omega⟩
   go_loopw [74] (fun v74 wr => ∃ k : Nat, v74 = .int .i64 k ∧ k ≤ N ∧ Hid (∀ b, b < k → Tp.inb (Tp.tk ts b) 1 65536 = true) ∧ Below W0.heap.size W0 wr)
    (fun v74 _ => N - (intOf v74).toNat)
   case atStart => exact ⟨0, rfl, Nat.zero_le _, fun b hb => by omega, hB1⟩
   case round =>
    obtain ⟨k, rfl, hk, HA, hB⟩ := hrel
    by_cases hlt : k < N
    ·have hwr : Below w.heap.size w wr := b0.trans (hB.mono b0.size)
     have hrise : Tp.Rise ts := ⟨c2, C3.out, Tp.vT_rise HVT.out⟩
     have hcur := Tp.cur_curI (bar := k) hrise omg
     have hm := Tp.vT_mem HVT.out (Tp.curI ts k) hcur.1
     have hSl := (HT.out.kept b0 nlr).kept hB nlr
     have hS : Calls Tryz.prog 135 #[Tp.clockV N (some ad) ts.length cT aP ps.length cP aS ss.length cS, .int .i64 (k : Int)] wr fun e w' => e = .returned (.int .i64 (Tp.tk ts k)) ∧ Below wr.heap.size wr w' :=
      tp_ticks N ad ts cT aP ps.length cP aS ss.length cS k (Tp.curI ts k) wr omg hSl hrise hcur omg (by have := hm.1; unfold Tp.bars; omega) hm.2.2.1 hm.2.2.2.1 hm.2.2.2.2.1 hm.2.2.2.2.2
     have k0 : wr.cell? ⟨w.heap.size, 0, none⟩ = some (.int .i64 N) := (hB.cell (by rw [S0.out]; simp)).trans K0.out
     have k1 : wr.cell? ⟨w.heap.size, 1, none⟩ = some (.slice (some ad) ts.length cT) := (hB.cell (by rw [S0.out]; simp)).trans K1.out
     have k2 : wr.cell? ⟨w.heap.size, 2, none⟩ = some (.slice aP ps.length cP) := (hB.cell (by rw [S0.out]; simp)).trans K2.out
     have k3 : wr.cell? ⟨w.heap.size, 3, none⟩ = some (.slice aS ss.length cS) := (hB.cell (by rw [S0.out]; simp)).trans K3.out
     have HCS := qh hS
     have HB := qh hB
     have HWR := qh hwr
     clear hS hrise hcur hm hSl hB hwr
     go_wp2_with fail
     refine HCS.out.mono ?_
     rintro e w2 ⟨rfl, hb2⟩
     clear k0 k1 k2 k3
     have HB2 := qh hb2; clear hb2
     rcases d : Tp.inb (Tp.tk ts k) 1 65536 with _ | _
     ·go_wp2_with (first | ((go_at_call 133; (first | (with_reducible refine (tp_need_t _ _).mono ?_) | (with_reducible refine (tp_need_f _ _).mono ?_)); rintro e w' ⟨rfl, rfl⟩)) | ((go_at_call 134; refine (tp_in _ _ _ _).mono ?_; rintro e w' ⟨rfl, rfl⟩)))
      exact ⟨rfl, Tp.fin_bad hr (by
       have : Tp.vB ts N = false := by
        rw [Tp.vB, List.all_eq_false]
        exact ⟨k, List.mem_range.2 omg, by simp [d]⟩
       simp [Tp.okC, this]), HWR.out.trans (HB2.out.mono HWR.out.size)⟩
     ·go_wp2_with (first | ((go_at_call 133; (first | (with_reducible refine (tp_need_t _ _).mono ?_) | (with_reducible refine (tp_need_f _ _).mono ?_)); rintro e w' ⟨rfl, rfl⟩)) | ((go_at_call 134; refine (tp_in _ _ _ _).mono ?_; rintro e w' ⟨rfl, rfl⟩)))
      go_roundw
      case rel => exact ⟨k + 1, by go_num, by omega, (fun b hb => by
       by_cases e : b = k
       ·subst e; exact d
       ·exact HA.out b omg), HB.out.trans (HB2.out.mono HB.out.size)⟩
      case measure => simp [intOf]; omega
    ·have hvb : Tp.vB ts N = true := by
      rw [Tp.vB, List.all_eq_true]
      intro b hb
      exact HA.out b (by have := List.mem_range.1 hb; omega)
     have HVB := qh hvb
     have HB := qh hB
     have k2 : wr.cell? ⟨w.heap.size, 2, none⟩ = some (.slice aP ps.length cP) := (hB.cell (by rw [S0.out]; simp)).trans K2.out
     clear hvb hB hB1
     go_wp2
     clear k2
     refine Kit.wp_name ?_
     intro W2 hW2
     have hB2 : Below W0.heap.size W0 W2 := by rw [hW2]; exact HB.out
     clear hW2 HB
     go_loopw [2, 86] (fun v2 v86 wr => ∃ (k : Nat) (last : Int), v2 = .int .i64 last ∧ v86 = .int .i64 k ∧ k ≤ ps.length ∧ -1 ≤ last ∧ last ≤ 4096 ∧ Hid (Tp.vP N (-1) ps = Tp.vP N last (ps.drop k)) ∧ Below W0.heap.size W0 wr)
      (fun _ v86 _ => ps.length - (intOf v86).toNat)
     case atStart => exact ⟨0, -1, rfl, rfl, Nat.zero_le _, by omega, by omega, by show _ = _; simp, hB2⟩
     case round =>
      obtain ⟨k, last, rfl, rfl, hk, hl1, hl2, HV, hB⟩ := hrel
      have hwr : Below w.heap.size w wr := b0.trans (hB.mono b0.size)
      by_cases hlt : k < ps.length
      ·obtain ⟨ap, rfl, hap, _⟩ := HP.out.at hlt
       have HSl := (HP.out.kept b0 nlr).kept hB nlr
       have e0 := HSl.head hlt omg
       have e1 := HSl.field hlt (j := 1) omg omg
       have e2 := HSl.field hlt (j := 2) omg omg
       have e3 := HSl.field hlt (j := 3) omg omg
       clear HSl
       have hdrop := Tp.drop_cons ps (0, 0, 0, 0) k hlt
       generalize hx : ps.getD k (0, 0, 0, 0) = x at hdrop
       simp only [Tp.qc, hx] at e0 e1 e2 e3
       obtain ⟨xb, xk, xl, xh⟩ := x
       dsimp only at e0 e1 e2 e3
       have hV : Tp.vP N (-1) ps = (Tp.okP1 N last (xb, xk, xl, xh) && Tp.vP N xb (ps.drop (k + 1))) := by rw [HV.out, hdrop]; rfl
       have HV2 := qh hV
       have HX := qh hx
       clear hV hdrop hx HV
       have hbk : (ap.add (k * 4)).block < w.heap.size := by rw [Tp.add_block]; exact hap
       have k0 : wr.cell? ⟨w.heap.size, 0, none⟩ = some (.int .i64 N) := (hB.cell (by rw [S0.out]; simp)).trans K0.out
       have z0 : w.heap.size < wr.heap.size := by have h5 := hB.size; rw [S0.out] at h5; omega
       have HB := qh hB
       have HWR := qh hwr
       have zb : (ap.add (k * 4)).block < wr.heap.size := by omega
       clear hB hwr hB2
       rcases d1 : Tp.inb xb (last + 1) (N - 2) with _ | _
       ·go_wp2_with (first | ((go_at_call 133; (first | (with_reducible refine (tp_need_t _ _).mono ?_) | (with_reducible refine (tp_need_f _ _).mono ?_)); rintro e w' ⟨rfl, rfl⟩)) | ((go_at_call 134; refine (tp_in _ _ _ _).mono ?_; rintro e w' ⟨rfl, rfl⟩)))
        exact ⟨rfl, Tp.fin_bad hr (Tp.okC_vP (by rw [HV2.out]; simp [Tp.okP1, d1])), by have := HWR.out; exact Kit.gr⟩
       rcases d2 : Tp.inb xk 1 2 with _ | _
       ·go_wp2_with (first | ((go_at_call 133; (first | (with_reducible refine (tp_need_t _ _).mono ?_) | (with_reducible refine (tp_need_f _ _).mono ?_)); rintro e w' ⟨rfl, rfl⟩)) | ((go_at_call 134; refine (tp_in _ _ _ _).mono ?_; rintro e w' ⟨rfl, rfl⟩)))
        exact ⟨rfl, Tp.fin_bad hr (Tp.okC_vP (by rw [HV2.out]; simp [Tp.okP1, d2])), by have := HWR.out; exact Kit.gr⟩
       rcases d3 : Tp.inb xl 0 xh with _ | _
       ·go_wp2_with (first | ((go_at_call 133; (first | (with_reducible refine (tp_need_t _ _).mono ?_) | (with_reducible refine (tp_need_f _ _).mono ?_)); rintro e w' ⟨rfl, rfl⟩)) | ((go_at_call 134; refine (tp_in _ _ _ _).mono ?_; rintro e w' ⟨rfl, rfl⟩)))
        exact ⟨rfl, Tp.fin_bad hr (Tp.okC_vP (by rw [HV2.out]; simp [Tp.okP1, d3])), by have := HWR.out; exact Kit.gr⟩
       rcases d4 : decide (xh ≤ 1048576) with _ | _
       ·go_wp2_with (first | ((go_at_call 133; (first | (with_reducible refine (tp_need_t _ _).mono ?_) | (with_reducible refine (tp_need_f _ _).mono ?_)); rintro e w' ⟨rfl, rfl⟩)) | ((go_at_call 134; refine (tp_in _ _ _ _).mono ?_; rintro e w' ⟨rfl, rfl⟩)))
        exact ⟨rfl, Tp.fin_bad hr (Tp.okC_vP (by rw [HV2.out]; simp only [Tp.okP1, d4]; simp)), by have := HWR.out; exact Kit.gr⟩
       go_wp2_with (first | ((go_at_call 133; (first | (with_reducible refine (tp_need_t _ _).mono ?_) | (with_reducible refine (tp_need_f _ _).mono ?_)); rintro e w' ⟨rfl, rfl⟩)) | ((go_at_call 134; refine (tp_in _ _ _ _).mono ?_; rintro e w' ⟨rfl, rfl⟩)))
       go_roundw
       case rel =>
        have hd := (Tp.inb_iff _ _ _).1 d1
        exact ⟨k + 1, xb, rfl, by go_num, by omega, by omega, by omega, (by show _ = _; rw [HV2.out]; simp only [Tp.okP1, d1, d2, d3, d4]; simp), (by have := HB.out; exact Kit.gr)⟩
       case measure => simp [intOf]; omega
      ·have hvp : Tp.vP N (-1) ps = true := by rw [HV.out, List.drop_of_length_le omg]; rfl
       have HVP := qh hvp
       have HB := qh hB
       have k3 : wr.cell? ⟨w.heap.size, 3, none⟩ = some (.slice aS ss.length cS) := (hB.cell (by rw [S0.out]; simp)).trans K3.out
       clear hvp hB HV hwr hB2
       go_wp2
       clear k3
       refine Kit.wp_name ?_
       intro W3 hW3
       have hB3 : Below W0.heap.size W0 W3 := by rw [hW3]; exact HB.out
       clear hW3 HB
       go_loopw [122] (fun v122 wr => ∃ (k : Nat), v122 = .int .i64 k ∧ k ≤ ss.length ∧ Hid (Tp.vS N ss = Tp.vS N (ss.drop k)) ∧ Below W0.heap.size W0 wr)
        (fun v122 _ => ss.length - (intOf v122).toNat)
       case atStart => exact ⟨0, rfl, Nat.zero_le _, by show _ = _; simp, hB3⟩
       case round =>
        obtain ⟨k, rfl, hk, HV, hB⟩ := hrel
        have hwr : Below w.heap.size w wr := b0.trans (hB.mono b0.size)
        by_cases hlt : k < ss.length
        ·obtain ⟨ay, rfl, hay, _⟩ := HS.out.at hlt
         have HSl := (HS.out.kept b0 nlr).kept hB nlr
         have e0 := HSl.head hlt omg
         have e1 := HSl.field hlt (j := 1) omg omg
         have e2 := HSl.field hlt (j := 2) omg omg
         have e3 := HSl.field hlt (j := 3) omg omg
         clear HSl
         have hdrop := Tp.drop_cons ss (0, 0, 0, 0) k hlt
         generalize hx : ss.getD k (0, 0, 0, 0) = x at hdrop
         simp only [Tp.qc, hx] at e0 e1 e2 e3
         obtain ⟨xf, xt, xl, xh⟩ := x
         dsimp only at e0 e1 e2 e3
         have hV : Tp.vS N ss = (Tp.okS1 N (xf, xt, xl, xh) && Tp.vS N (ss.drop (k + 1))) := by rw [HV.out, hdrop]; rfl
         have HV2 := qh hV
         have HX := qh hx
         clear hV hdrop hx HV
         have hbk : (ay.add (k * 4)).block < w.heap.size := by rw [Tp.add_block]; exact hay
         have k0 : wr.cell? ⟨w.heap.size, 0, none⟩ = some (.int .i64 N) := (hB.cell (by rw [S0.out]; simp)).trans K0.out
         have z0 : w.heap.size < wr.heap.size := by have h5 := hB.size; rw [S0.out] at h5; omega
         have HB := qh hB
         have HWR := qh hwr
         have zb : (ay.add (k * 4)).block < wr.heap.size := by omega
         clear hB hwr hB3
         rcases d1 : Tp.inb xf 0 N with _ | _
         ·go_wp2_with (first | ((go_at_call 133; (first | (with_reducible refine (tp_need_t _ _).mono ?_) | (with_reducible refine (tp_need_f _ _).mono ?_)); rintro e w' ⟨rfl, rfl⟩)) | ((go_at_call 134; refine (tp_in _ _ _ _).mono ?_; rintro e w' ⟨rfl, rfl⟩)))
          exact ⟨rfl, Tp.fin_bad hr (Tp.okC_vS (by rw [HV2.out]; simp [Tp.okS1, d1])), by have := HWR.out; exact Kit.gr⟩
         rcases d2 : Tp.inb xt 0 N with _ | _
         ·go_wp2_with (first | ((go_at_call 133; (first | (with_reducible refine (tp_need_t _ _).mono ?_) | (with_reducible refine (tp_need_f _ _).mono ?_)); rintro e w' ⟨rfl, rfl⟩)) | ((go_at_call 134; refine (tp_in _ _ _ _).mono ?_; rintro e w' ⟨rfl, rfl⟩)))
          exact ⟨rfl, Tp.fin_bad hr (Tp.okC_vS (by rw [HV2.out]; simp [Tp.okS1, d2])), by have := HWR.out; exact Kit.gr⟩
         rcases d3 : (xf != xt) with _ | _
         ·go_wp2_with (first | ((go_at_call 133; (first | (with_reducible refine (tp_need_t _ _).mono ?_) | (with_reducible refine (tp_need_f _ _).mono ?_)); rintro e w' ⟨rfl, rfl⟩)) | ((go_at_call 134; refine (tp_in _ _ _ _).mono ?_; rintro e w' ⟨rfl, rfl⟩)))
          exact ⟨rfl, Tp.fin_bad hr (Tp.okC_vS (by rw [HV2.out]; simp only [Tp.okS1, d3]; simp)), by have := HWR.out; exact Kit.gr⟩
         rcases d4 : Tp.inb xl (-1099511627776) xh with _ | _
         ·go_wp2_with (first | ((go_at_call 133; (first | (with_reducible refine (tp_need_t _ _).mono ?_) | (with_reducible refine (tp_need_f _ _).mono ?_)); rintro e w' ⟨rfl, rfl⟩)) | ((go_at_call 134; refine (tp_in _ _ _ _).mono ?_; rintro e w' ⟨rfl, rfl⟩)))
          exact ⟨rfl, Tp.fin_bad hr (Tp.okC_vS (by rw [HV2.out]; simp only [Tp.okS1, d4]; simp)), by have := HWR.out; exact Kit.gr⟩
         rcases d5 : decide (xh ≤ 1099511627776) with _ | _
         ·go_wp2_with (first | ((go_at_call 133; (first | (with_reducible refine (tp_need_t _ _).mono ?_) | (with_reducible refine (tp_need_f _ _).mono ?_)); rintro e w' ⟨rfl, rfl⟩)) | ((go_at_call 134; refine (tp_in _ _ _ _).mono ?_; rintro e w' ⟨rfl, rfl⟩)))
          exact ⟨rfl, Tp.fin_bad hr (Tp.okC_vS (by rw [HV2.out]; simp only [Tp.okS1, d5]; simp)), by have := HWR.out; exact Kit.gr⟩
         go_wp2_with (first | ((go_at_call 133; (first | (with_reducible refine (tp_need_t _ _).mono ?_) | (with_reducible refine (tp_need_f _ _).mono ?_)); rintro e w' ⟨rfl, rfl⟩)) | ((go_at_call 134; refine (tp_in _ _ _ _).mono ?_; rintro e w' ⟨rfl, rfl⟩)))
         go_roundw
         case rel =>
          exact ⟨k + 1, by go_num, by omega, (by show _ = _; rw [HV2.out]; simp only [Tp.okS1, d1, d2, d3, d4, d5]; simp), (by have := HB.out; exact Kit.gr)⟩
         case measure => simp [intOf]; omega
        ·have hvs : Tp.vS N ss = true := by rw [HV.out, List.drop_of_length_le omg]; rfl
         have hok : Tp.okC N ts ps ss = true := by simp [Tp.okC, c1, c2, C3.out, HVT.out, HVB.out, HVP.out, hvs]
         have HOK := qh hok
         have HWR := qh hwr
         clear hvs hok hB HV hwr hB3
         go_wp2
         go_end0
         exact ⟨Tp.fin_good hr HOK.out, HWR.out⟩

theorem tp_val_ok (n : Int) (aT : Option Addr) (ts : List Tp.T) (cT : Nat) (aP : Option Addr) (ps : List Tp.Q) (cP : Nat) (aS : Option Addr) (ss : List Tp.Q) (cS : Nat) (w : World)
  (l1 : (ts.length : Int) ≤ 4096) (l2 : (ps.length : Int) ≤ 4096) (l3 : (ss.length : Int) ≤ 256)
  (hT : Tp.Sl w aT ts.length 3 (Tp.tc ts)) (hP : Tp.Sl w aP ps.length 4 (Tp.qc ps)) (hS : Tp.Sl w aS ss.length 4 (Tp.qc ss)) (r : Int) (hr : Hid (r = if Tp.okC n ts ps ss = true then 0 else 130)) :
  Tp.Val n aT ts.length cT aP ps.length cP aS ss.length cS w r := by
 unfold Tp.Val
 obtain ⟨M, hM⟩ : ∃ M : Int, (if ts.length < ps.length then (ps.length : Int) else (ts.length : Int)) = M := ⟨_, rfl⟩
 have hM2 : M ≤ 4096 := by rw [← hM]; split <;> omega
 have bad : Tp.okC n ts ps ss = false → Tp.Val n aT ts.length cT aP ps.length cP aS ss.length cS w 130 → Tp.Val n aT ts.length cT aP ps.length cP aS ss.length cS w r := fun h k => by
  rw [hr.out, if_neg (by simp [h])]; exact k
 rcases c1 : Tp.inb n 1 4096 with _ | _
 ·exact bad (by simp [Tp.okC, c1]) (tp_val_5 n aT _ cT aP _ cP aS _ cS w M l1 l2 l3 hM hM2 c1)
 by_cases c2 : 0 < ts.length
 ·obtain ⟨ad, rfl, had⟩ := hT.at c2
  by_cases c3 : Tp.bars ts 0 = 0
  ·exact tp_val_8 n ad ts cT aP ps cP aS ss cS w M l1 l2 l3 hM hM2 c1 c2 c3 hT hP hS r hr
  ·exact bad (by simp [Tp.okC, c3]) (tp_val_7 n ad _ cT aP _ cP aS _ cS w M l1 l2 l3 hM hM2 c1 c2 (Tp.bars ts 0) had.1 (by simpa [Tp.bars, Tp.tc] using had.2 0 omg) (by simpa using c3))
 ·exact bad (by simp [Tp.okC, c2]) (tp_val_6 n aT _ cT aP _ cP aS _ cS w M l1 l2 l3 hM hM2 c1 c2)

theorem tp_val (n : Int) (aT : Option Addr) (ts : List Tp.T) (cT : Nat) (aP : Option Addr) (ps : List Tp.Q) (cP : Nat) (aS : Option Addr) (ss : List Tp.Q) (cS : Nat) (w : World)
  (l1 : ts.length ≤ 4611686018427387904) (l2 : ps.length ≤ 4611686018427387904) (l3 : ss.length ≤ 4611686018427387904)
  (hT : Tp.Sl w aT ts.length 3 (Tp.tc ts)) (hP : Tp.Sl w aP ps.length 4 (Tp.qc ps)) (hS : Tp.Sl w aS ss.length 4 (Tp.qc ss)) :
  Tp.Val n aT ts.length cT aP ps.length cP aS ss.length cS w (Tp.chk n ts ps ss) := by
 unfold Tp.chk
 by_cases h : ts.length ≤ 4096 ∧ ps.length ≤ 4096 ∧ ss.length ≤ 256
 ·rw [if_pos h]
  exact tp_val_ok n aT ts cT aP ps cP aS ss cS w omg omg omg hT hP hS _ rfl
 ·rw [if_neg h]
  by_cases h4 : ts.length < ps.length
  ·by_cases h5 : ps.length ≤ 4096
   ·exact tp_val_2 n aT _ cT aP _ cP aS _ cS w l1 l2 l3 h4 omg omg
   ·exact tp_val_1 n aT _ cT aP _ cP aS _ cS w l1 l2 l3 h4 omg
  ·by_cases h5 : ts.length ≤ 4096
   ·exact tp_val_4 n aT _ cT aP _ cP aS _ cS w l1 l2 l3 h4 omg omg
   ·exact tp_val_3 n aT _ cT aP _ cP aS _ cS w l1 l2 l3 h4 omg

theorem tp_ta (t : Int) (w : World) : (Instr.typeAssert (Value.iface 41 (.int .i64 t)) 20 41 true).run Tryz.prog w = .ok (.tuple #[.int .i64 t, .bool true]) w := by
 kernel_rfl
theorem tp_catch_p (p : Addr) (x t : Int) (w : World) (hc : w.cell? p = some (.int .i64 x)) (hz : w.frozen? p = false) :
  CallsD Tryz.prog 94 #[.pointer (some p)] (.panicking (Tp.pan t)) w fun e u' w' =>
   e = .returned (.tuple #[]) ∧ u' = .panicking [{ v := .iface 41 (.int .i64 t), recovered := true }] ∧ w' = w.setCell p (.int .i64 t) := by
 refine callsD_of_wpS Tryz.func94 rfl fun c₀ cs hu => ?_
 simp only [Tryz.ntmps94, List.size_toArray, List.length_cons, List.length_nil, Nat.reduceAdd, Nat.reduceSub, Array.replicate_succ, Array.replicate_zero, List.push_toArray, List.append_toArray, List.nil_append, List.cons_append]
 apply wpS_seq
 apply wpS_region
 simp [wpOpsS, go_sem, recoverD, hu, Exit.thenS]
 refine wpS_of_wp ?_
 have hta := tp_ta t
 go_wp2
 simp [bodyPostS, results, Tryz.results94]

theorem tp_catch_r (p : Addr) (w : World) :
  CallsD Tryz.prog 94 #[.pointer (some p)] .returning w fun e u' w' => e = .returned (.tuple #[]) ∧ u' = .returning ∧ w' = w := by
 refine callsD_of_wpS Tryz.func94 rfl fun c₀ cs hu => ?_
 simp only [Tryz.ntmps94, List.size_toArray, List.length_cons, List.length_nil, Nat.reduceAdd, Nat.reduceSub, Array.replicate_succ, Array.replicate_zero, List.push_toArray, List.append_toArray, List.nil_append, List.cons_append]
 apply wpS_seq
 apply wpS_region
 simp [wpOpsS, go_sem, recoverD, hu, Exit.thenS]
 refine wpS_of_wp ?_
 go_wp2
 cases c₀
 simp_all [bodyPostS, results, Tryz.results94]

def Tp.Chk (n : Int) (aT : Option Addr) (nT cT : Nat) (aP : Option Addr) (nP cP : Nat) (aS : Option Addr) (nS cS : Nat) (w : World) (r : Int) : Prop :=
 Calls Tryz.prog 48 #[Tp.clockV n aT nT cT aP nP cP aS nS cS] w fun e w' => e = .returned (.int .i64 r) ∧ Below w.heap.size w w'

theorem tp_check_0 (n : Int) (aT : Option Addr) (nT cT : Nat) (aP : Option Addr) (nP cP : Nat) (aS : Option Addr) (nS cS : Nat) (w : World) 
  (hv : ∀ W, Below w.heap.size w W → Tp.Val n aT nT cT aP nP cP aS nS cS W 0) : Tp.Chk n aT nT cT aP nP cP aS nS cS w 0 := by
 unfold Tp.Chk
 have HV := qh hv; clear hv
 have hmf : ∀ (fn : Fn) (first cap : Array Value) (w : World), (Instr.makeFunc fn first cap).run Tryz.prog w = .ok (.func fn first cap) w := fun _ _ _ _ => rfl
 go_enter_defers Tryz.func48, Tryz.ntmps48
 go_wp2_with fail
 refine (HV.out _ (by exact Kit.gr)).mono ?_
 rintro e w1 ⟨he, hb1⟩
 have he' : e = .returned (.tuple #[]) := by rw [he]; unfold Tp.fin; simp
 subst he'
 clear he
 obtain ⟨hc1, hf1⟩ := Kit.bcell hb1
 have g1 : w1.cell? ⟨w.heap.size + 1, 0, none⟩ = some (.int .i64 0) := by rw [hc1 _ _ (by simp)]; simp [go_sem]
 have f1 : w1.frozen? ⟨w.heap.size + 1, 0, none⟩ = false := by rw [hf1 _ _ (by simp)]; simp [go_sem]
 have hw1 : Below w.heap.size w w1 := Below.trans (by exact Kit.gr) (hb1.mono (by simp; omega))
 clear hc1 hf1 hb1
 go_wp2
 refine leaves_cons (f := 94) (args := #[.pointer (some ⟨w.heap.size + 1, 0, none⟩)]) (by simp) (by simp [go_sem]) ?_
 refine (tp_catch_r ⟨w.heap.size + 1, 0, none⟩ _).mono ?_
 rintro e u' w'' ⟨rfl, rfl, rfl⟩
 simp [Leaves, settle, results, Tryz.results48, go_sem, Kit.cell_set, g1]
 exact hw1.setCell (by simp) _
theorem tp_check_1 (n : Int) (aT : Option Addr) (nT cT : Nat) (aP : Option Addr) (nP cP : Nat) (aS : Option Addr) (nS cS : Nat) (w : World) (r : Int) (hr0 : r ≠ 0)
  (hv : ∀ W, Below w.heap.size w W → Tp.Val n aT nT cT aP nP cP aS nS cS W r) : Tp.Chk n aT nT cT aP nP cP aS nS cS w r := by
 unfold Tp.Chk
 have HV := qh hv; clear hv
 have hmf : ∀ (fn : Fn) (first cap : Array Value) (w : World), (Instr.makeFunc fn first cap).run Tryz.prog w = .ok (.func fn first cap) w := fun _ _ _ _ => rfl
 go_enter_defers Tryz.func48, Tryz.ntmps48
 go_wp2_with fail
 refine (HV.out _ (by exact Kit.gr)).mono ?_
 rintro e w1 ⟨he, hb1⟩
 have he' : e = .panicked (Tp.pan r) := by rw [he]; unfold Tp.fin; rw [if_neg hr0]
 subst he'
 clear he
 obtain ⟨hc1, hf1⟩ := Kit.bcell hb1
 have g1 : w1.cell? ⟨w.heap.size + 1, 0, none⟩ = some (.int .i64 0) := by rw [hc1 _ _ (by simp)]; simp [go_sem]
 have f1 : w1.frozen? ⟨w.heap.size + 1, 0, none⟩ = false := by rw [hf1 _ _ (by simp)]; simp [go_sem]
 have hw1 : Below w.heap.size w w1 := Below.trans (by exact Kit.gr) (hb1.mono (by simp; omega))
 clear hc1 hf1 hb1
 go_wp2
 refine leaves_cons (f := 94) (args := #[.pointer (some ⟨w.heap.size + 1, 0, none⟩)]) (by simp) (by simp [go_sem]) ?_
 refine (tp_catch_p ⟨w.heap.size + 1, 0, none⟩ 0 r _ ?_ ?_).mono ?_
 ·exact g1
 ·exact f1
 rintro e u' w'' ⟨rfl, rfl, rfl⟩
 simp [Leaves, settle, results, Tryz.results48, go_sem, Kit.cell_set, g1]
 exact hw1.setCell (by simp) _

theorem tp_check (n : Int) (aT : Option Addr) (ts : List Tp.T) (cT : Nat) (aP : Option Addr) (ps : List Tp.Q) (cP : Nat) (aS : Option Addr) (ss : List Tp.Q) (cS : Nat) (w : World)
  (l1 : ts.length ≤ 4611686018427387904) (l2 : ps.length ≤ 4611686018427387904) (l3 : ss.length ≤ 4611686018427387904)
  (hT : Tp.Sl w aT ts.length 3 (Tp.tc ts)) (hP : Tp.Sl w aP ps.length 4 (Tp.qc ps)) (hS : Tp.Sl w aS ss.length 4 (Tp.qc ss)) :
  Tp.Chk n aT ts.length cT aP ps.length cP aS ss.length cS w (Tp.chk n ts ps ss) := by
 have hv : ∀ W, Below w.heap.size w W → Tp.Val n aT ts.length cT aP ps.length cP aS ss.length cS W (Tp.chk n ts ps ss) := fun W hB =>
  tp_val n aT ts cT aP ps cP aS ss cS W l1 l2 l3 (hT.kept hB nlr) (hP.kept hB nlr) (hS.kept hB nlr)
 by_cases h : Tp.chk n ts ps ss = 0
 ·rw [h] at hv ⊢
  exact tp_check_0 n aT _ cT aP _ cP aS _ cS w hv
 ·exact tp_check_1 n aT _ cT aP _ cP aS _ cS w _ h hv
end Go.Proofs.YtedolbjgdedoaaaGreatDoor
