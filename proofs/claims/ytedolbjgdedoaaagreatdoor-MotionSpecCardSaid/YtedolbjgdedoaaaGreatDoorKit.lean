/- A region that draws its order, whose callees may make memory of their own: the class of worlds 'as w was below w's own end'; and such a region that ends in stores. More small facts on worlds. A region that draws its order and holds stores into cells that nobody else of the region looks at, between calls that make memory: one walk of the text's order serves every order. What is known of the world is a family over the operations that have been carried out. The least and the greatest of four integers, in a walk. A range over a function, whose iterator may keep a state in boxes of its own and whose body may own blocks: the law. A region that draws its order, by what is known of each operation's value: whatever order the edges allow. The law of ranges over functions, telling of the heap's size. Append to a slice of one's own: where the longer one lies. Laws: a map[[2]int]bool that the call makes, told as the list of the pairs that it holds. A slice of one's own that grows while all else stands; a look-up in a set of pairs, in a drawn region. -/
import Derived.Below
import Derived.StillTail
import Derived.Deep.Quiet
import Derived.Deep.QuietTactic
import Derived.BigQuiet
import Derived.StillTailTactics
import Derived.Handy
import Derived.Lib.Hide
import Derived.Deep.RegionHeld3
import Derived.BigRegion
import Derived.RangeFuncNested
import Derived.RangeFuncBound
import Derived.RangeFuncCalls
import Derived.RangeFuncLeaves
import Derived.RangeFuncBox
import Derived.OwnWalkIn
import Derived.WalkKit
import Derived.Maps.OwnOps
import Derived.Maps.Views
import Derived.WideKeyPair
import Derived.OwnWalk
set_option linter.unusedSimpArgs false
set_option linter.unusedVariables false
namespace Go.Proofs.YtedolbjgdedoaaaGreatDoor
theorem omg {P : Prop} (h : P := by omega) : P := h
theorem nlr {n : Nat} : n ≤ n := Nat.le_refl n
theorem qh {p : Prop} (h : p) : Go.RowKit.Hid p := Go.Lib.hid h
end Go.Proofs.YtedolbjgdedoaaaGreatDoor
namespace Go.Proofs.YtedolbjgdedoaaaGreatDoor.Kit
open Go.RowKit

section
variable {P : Program} {ops : Array Oper} {md : Region.Mode} {C : World → Prop}

def wpAnyLQ (P : Program) (md : Region.Mode) (ops : Array Oper) (C : World → Prop) (n : Nat) (L : Array Bool → Act → Prop) : Nat → Array Bool → Act → Prop
 | 0, listed, a => L listed a
 | f + 1, listed, a =>
  Region.ready md ops listed ≠ [] ∧ ∀ i ∈ Region.ready md ops listed, i < n ∧ qOp P ops C i (wpAnyLQ P md ops C n L f (listed.setIfInBounds i true)) a

theorem wpAny_of_headQ {n g : Nat} {L : Array Bool → Act → Prop} {Q' : Exit → Act → World → Prop} (hL : ∀ listed a w, C w → L listed a → wpAny P md ops Q' g listed a w) :
  ∀ (f : Nat) (listed : Array Bool) (a : Act) (w : World), C w → wpAnyLQ P md ops C n L f listed a → wpAny P md ops Q' (f + g) listed a w
 | 0, listed, a, w, hw, h => by rw [Nat.zero_add]; exact hL _ _ _ hw h
 | f + 1, listed, a, w, hw, h => by
  rw [show f + 1 + g = (f + g) + 1 by omega]
  exact ⟨fun h0 => absurd h0 h.1, fun i hi => wpOp_of_qOp hw (fun a' w' hw' h' => wpAny_of_headQ hL f _ a' w' hw' h') (h.2 i hi).2⟩

theorem wpAnyLQ_first {n i : Nat} {oi : Oper} {v : Value} {L : Array Bool → Act → Prop} (hi : ops[i]? = some oi) (hsel : ∀ (j : Nat) (o : Oper) cs b, ops[j]? = some o → o.op ≠ .select cs b)
  (hs : Region.sinkB md ops n = true) (hc : Region.chainB md ops n = true) (hn : n < ops.size) (hin : i < n)
  (hdone : ∀ listed a, L listed a → ∀ j ∈ Region.ready md ops listed, n ≤ j) :
  ∀ (f : Nat) (listed : Array Bool) (a : Act), HeadInv md ops n listed →
   (∀ j oj, ops[j]? = some oj → j ≠ i → listed.getD j true = false → (∀ e ∈ oj.after, Region.binds md e = true → e.on ≠ i) → oi.apart ops oj = true) →
   i ∈ Region.ready md ops listed → YieldsIn P ops C oi v a →
   wpAnyLQ P md ops C n L f (listed.setIfInBounds i true) (a.put oi.dst v) → wpAnyLQ P md ops C n L (f + 1) listed a := by
 intro f
 induction f with
 | zero =>
  intro listed a inv _ hr hy H
  have hun := (mem_ready.1 hr).1
  refine ⟨fun h => (by rw [h] at hr; cases hr), fun j hj => ?_⟩
  have hjn : j < n := by
   rcases Nat.lt_or_ge j n with h | h
   ·exact h
   ·exact absurd hj (tail_waits hs hc hn inv _ i rfl hin hun j h)
  refine ⟨hjn, ?_⟩
  by_cases hji : j = i
  ·subst hji; exact hy.qOp hi H
  ·have := hdone _ _ H j (ready_mono hj hji)
   omega
 | succ f ih =>
  intro listed a inv hfree hr hy H
  have hun := (mem_ready.1 hr).1
  refine ⟨fun h => (by rw [h] at hr; cases hr), fun j hj => ?_⟩
  have hjn : j < n := by
   rcases Nat.lt_or_ge j n with h | h
   ·exact h
   ·exact absurd hj (tail_waits hs hc hn inv _ i rfl hin hun j h)
  refine ⟨hjn, ?_⟩
  by_cases hji : j = i
  ·subst hji; exact hy.qOp hi H
  ·have h1 := (H.2 j (ready_mono hj hji)).2
   obtain ⟨hjun, oj, hoj, hall⟩ := mem_ready.1 hj
   have hnot : ∀ e ∈ oj.after, Region.binds md e = true → e.on ≠ i := fun e he hb heq => by
    have h1 := hall e he hb
    rw [heq, getD_both hun] at h1
    cases h1
   have h2 := qOp_put hoj (hfree j oj hoj hji hjun hnot) (fun cs b => hsel i oi cs b hi) (fun cs b => hsel j oj cs b hoj) hy h1
   have hfree' : ∀ k ok, ops[k]? = some ok → k ≠ i → (listed.setIfInBounds j true).getD k true = false →
     (∀ e ∈ ok.after, Region.binds md e = true → e.on ≠ i) → oi.apart ops ok = true := fun k ok hk hki hun hno => by
    refine hfree k ok hk hki ?_ hno
    by_cases hjk : j = k
    ·subst hjk; exact hjun
    ·rw [getD_set_ne true hjk] at hun; exact hun
   refine qOp_mono (fun a' h3 => ih (listed.setIfInBounds j true) a' (inv.set hj hjn) hfree' (ready_mono hr (Ne.symm hji)) h3.1 ?_) h2
   rw [Array.setIfInBounds_comm _ _ hji]
   exact h3.2

theorem wpAnyLQ_lex {n g : Nat} {Lq : Act → Prop} (hsel : Region.noSelect ops = true) (hs : Region.sinkB md ops n = true) (hc : Region.chainB md ops n = true) (hn : n < ops.size) :
  ∀ (l : List Oper) (k : Nat) (listed : Array Bool) (a : Act), (∀ j, j < l.length → l[j]? = ops[k + j]?) → k + l.length = n → HeadInv md ops n listed →
  Region.lexHead md ops g l.length k listed = true → wpQuiet P ops C Lq l a →
  wpAnyLQ P md ops C n (fun listed' a' => Region.seqB md ops g n listed' = true ∧ Lq a') l.length listed a
 | [], k, listed, a, _, hk, _, hB, h => by
  have : k = n := by simpa using hk
  subst this
  exact ⟨by simpa [Region.lexHead] using hB, h⟩
 | o :: l, k, listed, a, hl, hk, inv, hB, h => by
  have h0 : ops[k]? = some o := by simpa using (hl 0 (by simp)).symm
  simp only [List.length_cons, Region.lexHead, Bool.and_eq_true] at hB
  obtain ⟨⟨hr, hf⟩, hB'⟩ := hB
  have hkn : k < n := by simp only [List.length_cons] at hk; omega
  have hr' : k ∈ Region.ready md ops listed := by simpa using hr
  have hst : qOp P ops C k (wpQuiet P ops C Lq l) a := by unfold qOp; simp only [h0]; exact h
  obtain ⟨v, hy, hK⟩ := yieldsIn_of_qOp h0 hst
  exact wpAnyLQ_first h0 (Region.noSelect_spec hsel) hs hc hn hkn (fun listed' a' hL => seqB_ready hL.1) l.length listed a inv (Region.free_spec h0 hf) hr' hy
   (wpAnyLQ_lex hsel hs hc hn l (k + 1) _ _ (fun j hj => by have := hl (j + 1) (by simp; omega); simpa [Nat.add_assoc, Nat.add_comm 1 j] using this) (by simp only [List.length_cons] at hk; omega) (inv.set hr' hkn) hB' hK)

theorem wp_region_quiet_tail {id : Nat} {Q : Exit → Act → World → Prop} {a : Act} {w : World} {l : List Oper} (n : Nat) (hm : P.follows .mixedOrders = true) (hB : Region.lexTailB .any l.toArray n = true)
  (hC : C { w with drawn := w.drawn + 1 })
  (h : wpQuiet P l.toArray C (fun a' => ∀ w', C w' → wpList P l.toArray Q (l.drop n) a' w') (l.take n) a) : (Code.region id l.toArray true).wp P Q a w := by
 simp only [Region.lexTailB, Bool.and_eq_true, decide_eq_true_eq] at hB
 obtain ⟨⟨⟨⟨hsel, hn⟩, hs⟩, hc⟩, hlex⟩ := hB
 have hn' : n < l.length := by simpa using hn
 have htl : (l.take n).length = n := by simp; omega
 have hdl : (l.drop n).length = l.toArray.size - n := by simp
 have inv0 : HeadInv .any l.toArray n (Array.replicate l.toArray.size false) :=
  ⟨by simp, fun j oj _ hl => (by rw [getD_replicate_false] at hl; cases hl), fun t _ ht => getD_in (by simpa using ht) (getD_replicate_false _ _)⟩
 have H := wpAnyLQ_lex (md := .any) (g := l.toArray.size - n) hsel hs hc hn (l.take n) 0 _ a (fun j hj => by
  have hj' : j < n := by rw [htl] at hj; exact hj
  simp [hj']) (by simpa using htl) inv0 (by rw [htl]; exact hlex) h
 refine wp_region_any hm ?_
 have := wpAny_of_headQ (Q' := Q) (g := l.toArray.size - n) (fun listed a' w' hw' hL => by
  have := wpAny_of_seq (md := .any) (Q' := Q) (l.drop n) n listed a' w' (fun j => by simp [List.getElem?_drop]) (by rw [hdl]; exact hL.1) (hL.2 w' hw')
  rwa [hdl] at this) _ _ _ _ hC H
 rw [htl, show n + (l.toArray.size - n) = l.toArray.size by omega] at this
 exact this
end

structure Wd (w : World) where
 val : World
 below : Below w.heap.size w val

theorem Wd.cell {w : World} (x : Wd w) {a : Addr} {v : Value} (h : w.cell? a = some v) (hb : a.block < w.heap.size) : x.val.cell? a = some v := (x.below.cell hb).trans h
theorem Wd.frozen {w : World} (x : Wd w) {a : Addr} {b : Bool} (h : w.frozen? a = b) (hb : a.block < w.heap.size) : x.val.frozen? a = b := (x.below.frozen hb).trans h

instance Wd.some (w : World) : Nonempty (Wd w) := ⟨⟨w, Below.refl _ w⟩⟩

def Cls (w : World) : World → Prop := fun w' => ∃ x : Wd w, w' = x.val

theorem cls_drew (w : World) : Cls w { w with drawn := w.drawn + 1 } := ⟨⟨_, (Below.refl _ w).drew⟩, rfl⟩

theorem wp_region_cls {P : Program} {id : Nat} {Q : Exit → Act → World → Prop} {a : Act} {w : World} {l : List Oper} (hm : P.follows .mixedOrders = true) (hB : Region.lexB .any l.toArray = true)
  (h : wpQuiet P l.toArray (fun w' => ∃ x : Wd w, w' = x.val) (fun a' => ∀ x : Wd w, Q .normal a' x.val) l a) : (Code.region id l.toArray true).wp P Q a w :=
 wp_region_quiet (C := fun w' => ∃ x : Wd w, w' = x.val) hm hB (cls_drew w) (by
  have : (fun a' => ∀ x : Wd w, Q .normal a' x.val) = fun a' => ∀ w', (∃ x : Wd w, w' = x.val) → Q .normal a' w' := by
   funext a'; simp
  rw [this] at h; simpa using h)

theorem wp_region_cls_tail {P : Program} {id : Nat} {Q : Exit → Act → World → Prop} {a : Act} {w : World} {l : List Oper} (n : Nat) (hm : P.follows .mixedOrders = true) (hB : Region.lexTailB .any l.toArray n = true)
  (h : wpQuiet P l.toArray (fun w' => ∃ x : Wd w, w' = x.val) (fun a' => ∀ x : Wd w, wpList P l.toArray Q (l.drop n) a' x.val) (l.take n) a) : (Code.region id l.toArray true).wp P Q a w :=
 wp_region_quiet_tail (C := fun w' => ∃ x : Wd w, w' = x.val) n hm hB (cls_drew w) (by
  have : (fun a' => ∀ x : Wd w, wpList P l.toArray Q (l.drop n) a' x.val) = fun a' => ∀ w', (∃ x : Wd w, w' = x.val) → wpList P l.toArray Q (l.drop n) a' w' := by
   funext a'; simp
  rw [this] at h; exact h)

theorem wp_region_drew_tail {P : Program} {id : Nat} {Q : Exit → Act → World → Prop} {a : Act} {w : World} {l : List Oper} (n : Nat) (hm : P.follows .mixedOrders = true) (hB : Region.lexTailB .any l.toArray n = true)
  (h : wpQuiet P l.toArray (fun w' => ∃ n, w' = w.drewN n) (fun a' => ∀ w', (∃ n, w' = w.drewN n) → wpList P l.toArray Q (l.drop n) a' w') (l.take n) a) : (Code.region id l.toArray true).wp P Q a w :=
 wp_region_quiet_tail (C := fun w' => ∃ n, w' = w.drewN n) n hm hB ⟨1, rfl⟩ h

theorem calls_cls {P : Program} {f : FuncId} {args : Array Value} {w : World} (x : Wd w) {v : Value}
  (h : Calls P f args x.val fun e w' => e = .returned v ∧ Below x.val.heap.size x.val w') : Calls P f args x.val fun e w'' => e = .returned v ∧ ∃ y : Wd w, w'' = y.val :=
 h.mono fun _ w' ⟨he, hb⟩ => ⟨he, ⟨w', x.below.trans (hb.mono x.below.size)⟩, rfl⟩
theorem wp_name {P : Program} {c : Code} {Q : Exit → Act → World → Prop} {a : Act} {w : World} (h : ∀ W, W = w → c.wp P Q a W) : c.wp P Q a w := h w rfl

theorem below_drewN {B : Nat} {a w : World} (h : Below B a w) (n : Nat) : Below B a (w.drewN n) := ⟨h.os, h.tape, h.output, h.size, h.block⟩
theorem gr {n : Nat} {w W : World} (h : Below n w W := by (repeat' first | (with_reducible first | exact Go.RowKit.Below.refl _ _ | assumption | refine Kit.below_drewN ?_ _ | refine Go.RowKit.Below.drew ?_ | refine Go.RowKit.Below.alloc ?_ ?_ _ | refine Go.RowKit.Below.setCell ?_ ?_ _ | exact Nat.le_refl _) | omega | (simp; omega) | (simp; done) | (apply Go.RowKit.Below.size; assumption))) : Below n w W := h
theorem bcell {W w1 : World} (hb : Below W.heap.size W w1) : (∀ b o, b < W.heap.size → w1.cell? ⟨b, o, none⟩ = W.cell? ⟨b, o, none⟩) ∧ (∀ b o, b < W.heap.size → w1.frozen? ⟨b, o, none⟩ = W.frozen? ⟨b, o, none⟩) :=
 ⟨fun b o h => hb.cell (p := ⟨b, o, none⟩) h, fun b o h => hb.frozen (p := ⟨b, o, none⟩) h⟩
theorem ck {B : Nat} {w w' : World} (h : Below B w w') {b o : Nat} {v : Value} (hc : w.cell? ⟨b, o, none⟩ = some v) (hb : b < B) : w'.cell? ⟨b, o, none⟩ = some v := (h.cell (p := ⟨b, o, none⟩) hb).trans hc
theorem fk {B : Nat} {w w' : World} (h : Below B w w') {b o : Nat} (hc : w.frozen? ⟨b, o, none⟩ = false) (hb : b < B) : w'.frozen? ⟨b, o, none⟩ = false := (h.frozen (p := ⟨b, o, none⟩) hb).trans hc

theorem cell_set (w : World) (p q : Addr) (u : Value) : (w.setCell p u).cell? q = if p = q then (w.cell? q).map (fun _ => u) else w.cell? q := by
 by_cases h : p = q
 ·subst h
  rw [if_pos rfl]
  cases hc : w.cell? p with
  | some v => rw [World.cell?_setCell_same w p u hc]; rfl
  | none =>
   simp only [World.cell?, World.setCell] at hc ⊢
   simp only [Array.getElem?_modify, if_true]
   cases hh : w.heap[p.block]? with
   | none => simp
   | some o =>
    cases o with
    | cells c e f =>
     simp only [hh] at hc
     by_cases hs : p.spot.isSome = true
     ·simp [hs]
     ·simp only [hs] at hc ⊢
      simp at hc
      simp [hc]
    | _ => simp
 ·rw [if_neg h]; exact World.cell?_setCell_other _ _ _ _ h

section
variable {P : Program} {ops : Array Oper} {md : Region.Mode} {CF : Array Bool → World → Prop}

structure BelowX (W : World) (bs : List Nat) (w : World) : Prop where
 os : w.os = W.os
 tape : w.tape = W.tape
 output : w.output = W.output
 size : W.heap.size ≤ w.heap.size
 block : ∀ k, k < W.heap.size → k ∉ bs → w.heap[k]? = W.heap[k]?

abbrev Plc := Nat × Addr × Value

structure Wx (W : World) (St : List Plc) where
 val : World
 below : BelowX W (St.map fun s => s.2.1.block) val
 there : ∀ s ∈ St, (val.cell? s.2.1).isSome = true ∧ val.frozen? s.2.1 = false

def Fam (W : World) (St : List Plc) (d : Array Bool) (w : World) : Prop :=
 ∃ x : Wx W St, w = x.val ∧ ∀ s ∈ St, d.getD s.1 false = true → w.cell? s.2.1 = some s.2.2

variable {W : World} {St : List Plc}
theorem Wx.cell (x : Wx W St) {a : Addr} {v : Value} (h : W.cell? a = some v) (hb : a.block < W.heap.size) (hn : a.block ∉ St.map fun s => s.2.1.block) : x.val.cell? a = some v :=
 (World.cell?_of_block (w := W) (x.below.block a.block hb hn)).trans h

theorem Wx.at_ (x : Wx W St) (s : Plc) (h : s ∈ St) : (∃ u, x.val.cell? s.2.1 = some u) ∧ x.val.frozen? s.2.1 = false := ⟨Option.isSome_iff_exists.1 (x.there s h).1, (x.there s h).2⟩
theorem Fam.below {d d' : Array Bool} {w w' : World} (h : Fam W St d w) (hd : ∀ s ∈ St, d'.getD s.1 false = d.getD s.1 false) (hs : ∀ s ∈ St, s.2.1.block < W.heap.size) (hb : Below w.heap.size w w') : Fam W St d' w' := by
 obtain ⟨x, rfl, hx⟩ := h
 have hc : ∀ s ∈ St, w'.cell? s.2.1 = x.val.cell? s.2.1 := fun s hm => hb.cell (Nat.lt_of_lt_of_le (hs s hm) x.below.size)
 refine ⟨⟨w', ⟨hb.os.trans x.below.os, hb.tape.trans x.below.tape, hb.output.trans x.below.output, Nat.le_trans x.below.size hb.size, fun k hk hn => (hb.block k (Nat.lt_of_lt_of_le hk x.below.size)).trans (x.below.block k hk hn)⟩, fun s hm => ?_⟩, rfl, fun s hm h1 => ?_⟩
 ·rw [hc s hm, hb.frozen (Nat.lt_of_lt_of_le (hs s hm) x.below.size)]; exact x.there s hm
 ·rw [hc s hm]; exact hx s hm (by rw [← hd s hm]; exact h1)

variable {Q : Act → Prop} {o : Oper} {rest : List Oper} {a : Act} {k : Nat}
end

def mn2 (x y : Int) : Int := if y < x then y else x
def mx2 (x y : Int) : Int := if x < y then y else x
def mn4 (x y z u : Int) : Int := mn2 (mn2 (mn2 x y) z) u
def mx4 (x y z u : Int) : Int := mx2 (mx2 (mx2 x y) z) u
theorem run_min4 {P : Program} (w : World) (ts : Array TypeId) (t : TypeId) (k k1 k2 k3 : IntKind) (x y z u : Int) : (Builtin.min_ ts t #[.int k x, .int k1 y, .int k2 z, .int k3 u]).run P w = .ok (.int k (mn4 x y z u)) w := by
 simp [Builtin.min_, Builtin.min2]; rfl
theorem run_max4 {P : Program} (w : World) (ts : Array TypeId) (t : TypeId) (k k1 k2 k3 : IntKind) (x y z u : Int) : (Builtin.max_ ts t #[.int k x, .int k1 y, .int k2 z, .int k3 u]).run P w = .ok (.int k (mx4 x y z u)) w := by
 simp [Builtin.max_, Builtin.max2]; rfl
attribute [go_sem] run_min4 run_max4

structure Exc (S : Nat → Prop) (A B : World) : Prop where
 os : B.os = A.os
 tape : B.tape = A.tape
 output : B.output = A.output
 size : A.heap.size ≤ B.heap.size
 block : ∀ k, k < A.heap.size → ¬ S k → B.heap[k]? = A.heap[k]?

theorem Exc.refl (S : Nat → Prop) (A : World) : Exc S A A := ⟨rfl, rfl, rfl, Nat.le_refl _, fun _ _ _ => rfl⟩
theorem Exc.trans {S : Nat → Prop} {A B C : World} (h : Exc S A B) (k : Exc S B C) : Exc S A C :=
 ⟨k.os.trans h.os, k.tape.trans h.tape, k.output.trans h.output, Nat.le_trans h.size k.size, fun i hi hs => (k.block i (Nat.lt_of_lt_of_le hi h.size) hs).trans (h.block i hi hs)⟩
theorem Exc.mono {S T : Nat → Prop} {A B : World} (h : Exc S A B) (hs : ∀ b, b < A.heap.size → S b → T b) : Exc T A B :=
 ⟨h.os, h.tape, h.output, h.size, fun k hk hn => h.block k hk (fun e => hn (hs k hk e))⟩
theorem Exc.drew {S : Nat → Prop} {A B : World} (h : Exc S A B) : Exc S A B.drew := ⟨h.os, h.tape, h.output, h.size, h.block⟩
theorem Exc.drewN {S : Nat → Prop} {A B : World} (h : Exc S A B) (n : Nat) : Exc S A (B.drewN n) := ⟨h.os, h.tape, h.output, h.size, h.block⟩
theorem Exc.alloc {S : Nat → Prop} {A B : World} (h : Exc S A B) (o : Obj) : Exc S A (B.alloc o) :=
 h.trans ⟨rfl, rfl, rfl, by simp, fun k hk _ => Below.heap_alloc _ _ _ hk⟩
theorem Exc.setCell {S : Nat → Prop} {A B : World} (h : Exc S A B) {p : Addr} (hp : S p.block ∨ A.heap.size ≤ p.block) (u : Value) : Exc S A (B.setCell p u) :=
 ⟨h.os, h.tape, h.output, by simpa [World.setCell] using h.size, fun k hk hs => (Below.heap_setCell _ _ _ _ (fun e => by
  rcases hp with hp | hp
  ·exact hs (e ▸ hp)
  ·omega)).trans (h.block k hk hs)⟩
theorem Exc.grown {S : Nat → Prop} {A B C : World} {row : Option Nat} (h : Exc S A B) (hg : B.grownBy C row) (hr : ∀ k, row = some k → S k ∨ A.heap.size ≤ k) : Exc S A C :=
 ⟨hg.os.trans h.os, hg.tape.trans h.tape, hg.output.trans h.output, Nat.le_trans h.size hg.size, fun k hk hs => (hg.block k (Nat.lt_of_lt_of_le hk h.size) (fun e => by
  rcases hr k e.symm with hp | hp
  ·exact hs hp
  ·omega)).trans (h.block k hk hs)⟩
theorem Exc.then {S : Nat → Prop} {A B C : World} (h : Exc S A B) (k : Below B.heap.size B C) : Exc S A C :=
 h.trans ⟨k.os, k.tape, k.output, k.size, fun i hi _ => k.block i hi⟩
theorem Exc.below {S : Nat → Prop} {A B : World} {n : Nat} (h : Exc S A B) (hn : n ≤ A.heap.size) (hs : ∀ b, S b → n ≤ b) : Below n A B :=
 ⟨h.os, h.tape, h.output, h.size, fun k hk => h.block k (by omega) (fun e => by have := hs k e; omega)⟩
theorem Exc.putObj {S : Nat → Prop} {A B : World} (h : Exc S A B) (l : Nat) (o : Obj) (hl : S l ∨ A.heap.size ≤ l) : Exc S A (B.putObj l o) :=
 h.grown (grownBy_putObj' B l o) (fun k e => by cases e; exact hl)
theorem Exc.cell {S : Nat → Prop} {A B : World} (h : Exc S A B) {p : Addr} {v : Value} (hc : A.cell? p = some v) (hs : ¬ S p.block) (hp : p.block < A.heap.size) : B.cell? p = some v :=
 (World.cell?_of_block (h.block p.block hp hs)).trans hc
theorem Exc.frozen {S : Nat → Prop} {A B : World} (h : Exc S A B) {p : Addr} {v : Bool} (hc : A.frozen? p = v) (hs : ¬ S p.block) (hp : p.block < A.heap.size) : B.frozen? p = v :=
 (World.frozen?_of_block (h.block p.block hp hs)).trans hc
theorem Exc.boxed {S : Nat → Prop} {A B : World} (h : Exc S A B) {b : Nat} {t : TypeId} {v : Value} (hc : Boxed A b t v) (hs : ¬ S b) : Boxed B b t v :=
 (h.block b hc.lt hs).trans hc
theorem Exc.heap {S : Nat → Prop} {A B : World} (h : Exc S A B) {b : Nat} {o : Obj} (hc : A.heap[b]? = some o) (hs : ¬ S b) : B.heap[b]? = some o :=
 (h.block b (Array.getElem?_eq_some_iff.1 hc).1 hs).trans hc

section
variable {F : Fence} {n : Nat} {P : Program} {w : World}

def SeqE {α : Type} (F : Fence) (n : Nat) (P : Program) (gf : Nat) (lb : Array Value) (encs : α → Array Value) (Z : Nat → Prop) (S Sp : List α → Prop) (Ok : List α → α → Prop) (w : World) : Prop :=
 ∀ (l : Nat) (J Jx : List α → (Nat → Prop) → World → Prop) (Y0 : Nat → Prop) (W : World),
  Below w.heap.size w W → w.heap.size ≤ l → l < W.heap.size → (∀ b, Y0 b → b < w.heap.size ∧ ¬ Z b) →
  (∀ pre Y A B, J pre Y A → Exc (fun b => Z b ∨ (W.heap.size ≤ b ∧ ¬ Y b)) A B → J pre Y B) →
  (∀ pre Y A B, Jx pre Y A → Exc (fun b => Z b ∨ (W.heap.size ≤ b ∧ ¬ Y b)) A B → Jx pre Y B) →
  (∀ pre x Y W1, J pre Y W1 → Ok pre x → YieldAt F (n - 1) P l (encs x) W1 fun e W' => ∃ Y', Exc (fun b => Y b ∨ b = l) W1 W' ∧ (∀ b, Y' b → (Y b ∨ W1.heap.size ≤ b) ∧ b < W'.heap.size) ∧
   ((e = .returned (.bool true) ∧ J (pre ++ [x]) Y' W') ∨ (e = .returned (.bool false) ∧ Jx (pre ++ [x]) Y' W'))) →
  J [] Y0 W →
  CallsIn F n P gf (#[.func (.yield l) #[] #[]] ++ lb) W fun e W' => (∃ v, e = .returned v) ∧ ∃ Y, ((∃ xs, S xs ∧ J xs Y W') ∨ (∃ pre, Sp pre ∧ Jx pre Y W'))

def RPost {α : Type} (I : List α → (Nat → Prop) → World → Prop) (Ix : Code → List α → (Nat → Prop) → World → Prop) (xs : List α) (Y : Nat → Prop) (W : World) : Exit → Act → World → Prop
 | .normal, _, W' => ∃ Y', Exc Y W W' ∧ (∀ b, Y' b → (Y b ∨ W.heap.size ≤ b) ∧ b < W'.heap.size) ∧ I xs Y' W'
 | .ret, _, W' => ∃ Y', Exc Y W W' ∧ (∀ b, Y' b → (Y b ∨ W.heap.size ≤ b) ∧ b < W'.heap.size) ∧ Ix .ret xs Y' W'
 | .exit id, _, W' => ∃ Y', Exc Y W W' ∧ (∀ b, Y' b → (Y b ∨ W.heap.size ≤ b) ∧ b < W'.heap.size) ∧ Ix (.exit id) xs Y' W'
 | .goto t, _, W' => ∃ Y', Exc Y W W' ∧ (∀ b, Y' b → (Y b ∨ W.heap.size ≤ b) ∧ b < W'.heap.size) ∧ Ix (.goto t) xs Y' W'
 | .panic _, _, _ => False
 | .outgrown, _, _ => False

theorem wpIn_range {α : Type} {g : Operand} {ps : Array Tmp} {assign body : Code} {Q : Exit → Act → World → Prop} {a : Act}
  (hro : F.round = none) (h1 : F.depth.isSome = true → 1 ≤ n) {gf : Nat} {lb : Array Value} (hg : a.eval g = .func (.func gf) #[] lb) (hFg : F.fn gf) (eg : ∀ args w, (callFunc gf args).run P w = .ok (.enter gf args) w)
  {encs : α → Array Value} {Z : Nat → Prop} {S Sp : List α → Prop} {Ok : List α → α → Prop} (hseq : SeqE F (n - 1) P gf lb encs Z S Sp Ok w) (hps : ∀ x, (encs x).size = ps.size)
  (I : List α → (Nat → Prop) → World → Prop) (Ix : Code → List α → (Nat → Prop) → World → Prop) (Ia : List α → α → Act → (Nat → Prop) → World → Prop) (Y0 : Nat → Prop)
  (hZ : ∀ b, Z b → b < w.heap.size) (hY0 : ∀ b, Y0 b → b < w.heap.size ∧ ¬ Z b)
  (hI : ∀ pre Y A B, I pre Y A → Exc (fun b => Z b ∨ (w.heap.size ≤ b ∧ ¬ Y b)) A B → I pre Y B)
  (hIx : ∀ c pre Y A B, Ix c pre Y A → Exc (fun b => Z b ∨ (w.heap.size ≤ b ∧ ¬ Y b)) A B → Ix c pre Y B)
  (hIa : ∀ pre x a' Y A B, Ia pre x a' Y A → Exc (fun b => w.heap.size ≤ b ∧ b ≤ w.heap.size + 1) A B → Ia pre x a' Y B)
  (h0 : I [] Y0 w)
  (hassign : ∀ (l : Nat) (pre : List α) (x : α) (Y : Nat → Prop) (W : World), I pre Y W → Ok pre x → (∀ b, Y b → b < W.heap.size) →
   assign.wpIn (F.inRound l) (n - 1 - 1) P (Exit.then (fun a' W' => ∃ Y', Exc Y W W' ∧ (∀ b, Y' b → (Y b ∨ W.heap.size ≤ b) ∧ b < W'.heap.size) ∧ Ia pre x a' Y' W') (fun _ _ _ => False)) { tmps := (ps.zip (encs x)).foldl (fun t (p, v) => t.setIfInBounds p v) a.tmps, defers := [] } W)
  (hbody : ∀ (l : Nat) (pre : List α) (x : α) (a' : Act) (Y : Nat → Prop) (W : World), w.heap.size ≤ l → (∃ r, W.heap[l]? = some (.loop r)) → Ia pre x a' Y W → Ok pre x → (∀ b, Y b → b < W.heap.size ∧ b ≠ l) →
   body.wpIn (F.inRound l) (n - 1 - 1) P (RPost I Ix (pre ++ [x]) Y W) a' W)
  (hdone : ∀ (D : Nat) (xs : List α) (Y : Nat → Prop) (W : World), w.heap.size ≤ D → ¬ Y D → S xs → I xs Y W → W.heap[D]? = some (.deferred (some [])) → Q .normal { a with defers := { target := .collected D, args := #[] } :: a.defers } W)
  (hstop : ∀ (D : Nat) (c : Code) (pre : List α) (Y : Nat → Prop) (W : World), w.heap.size ≤ D → ¬ Y D → Sp pre → Ix c pre Y W → W.heap[D]? = some (.deferred (some [])) → c.wpIn F n P Q { a with defers := { target := .collected D, args := #[] } :: a.defers } W) :
  (Code.rangeFunc g ps assign body).wpIn F n P Q a w := by
 refine wpIn_rangeFunc ?_
 intro fn hfn
 rw [hro]
 obtain ⟨rec, hrec⟩ : ∃ rec : LoopState → Option Code → Loop, rec = fun st pe => { state := st, pending := pe, fn, tmps := a.tmps, params := ps, assign, body, defers := w.heap.size } := ⟨_, rfl⟩
 obtain ⟨W1, hW1⟩ : ∃ W1, (w.alloc (.deferred (some []))).alloc (.loop (rec .ready none)) = W1 := ⟨_, rfl⟩
 have hL1 : W1.heap[w.heap.size + 1]? = some (.loop (rec .ready none)) := by
  rw [← hW1]; have := World.alloc_heap_new (w.alloc (.deferred (some []))) (.loop (rec .ready none)); rwa [World.size_alloc] at this
 have hK1 : W1.heap[w.heap.size]? = some (.deferred (some [])) := by
  rw [← hW1]; exact (Below.heap_alloc _ _ _ (by simp)).trans (World.alloc_heap_new w _)
 have hE1 : ∀ S, Exc S w W1 := fun S => by rw [← hW1]; exact ((Exc.refl S w).alloc _).alloc _
 have hz1 : W1.heap.size = w.heap.size + 2 := by rw [← hW1]; simp
 have hI1 : I [] Y0 W1 := hI _ _ _ _ h0 (hE1 _)
 have hb1 : Below w.heap.size w W1 := (hE1 (fun _ => False)).below (Nat.le_refl _) (fun _ h => h.elim)
 refine ⟨w.heap.size + 1, [{ target := .collected w.heap.size, args := #[] }], W1, { target := .fn (.func gf) lb, args := #[.func (.yield (w.heap.size + 1)) #[] #[]] }, W1, gf,
  #[.func (.yield (w.heap.size + 1)) #[] #[]] ++ lb, W1, ?_, ?_, ?_, ?_, h1, ?_⟩
 ·rw [← hW1, hrec]; exact run_enterLoop_outer _ _ _ _ _
 ·simp only [resolve, hg]
  simp [go_sem]
 ·intro f' hf'; simp [Target.leads] at hf'; subst hf'; exact hFg
 ·simp [invoke, go_sem, eg]
 ·-- the invariant with the facts of book-keeping
  let G (Y : Nat → Prop) (W : World) : Prop := (∀ b, Y b → b < W.heap.size ∧ b ≠ w.heap.size ∧ b ≠ w.heap.size + 1 ∧ ¬ Z b) ∧ W1.heap.size ≤ W.heap.size
  have hG : ∀ {Y A B}, G Y A → ∀ {T}, Exc T A B → G Y B := fun h _ k => ⟨fun b hb => ⟨Nat.lt_of_lt_of_le (h.1 b hb).1 k.size, (h.1 b hb).2⟩, Nat.le_trans h.2 k.size⟩
  have hG' : ∀ {Y Y' : Nat → Prop} {A B : World} {T}, G Y A → Exc T A B → (∀ b, Y' b → (Y b ∨ A.heap.size ≤ b) ∧ b < B.heap.size) → G Y' B := fun {Y Y' A B T} h k hy => by
   refine ⟨fun b hb' => ?_, Nat.le_trans h.2 k.size⟩
   obtain ⟨hyb, hlt⟩ := hy b hb'
   rcases hyb with h1 | h1
   ·exact ⟨hlt, (h.1 b h1).2⟩
   ·have h2 := h.2
    refine ⟨hlt, by omega, by omega, fun hz => ?_⟩
    have := hZ b hz
    omega
  have wk : ∀ (Y : Nat → Prop) (A B : World), Exc (fun b => Z b ∨ (W1.heap.size ≤ b ∧ ¬ Y b)) A B → Exc (fun b => Z b ∨ (w.heap.size ≤ b ∧ ¬ Y b)) A B := fun Y A B h =>
   h.mono (fun b _ hb => hb.imp id (fun hb => ⟨by omega, hb.2⟩))
  have nl : ∀ (Y : Nat → Prop) (b : Nat), b = w.heap.size ∨ b = w.heap.size + 1 → ¬ (Z b ∨ (W1.heap.size ≤ b ∧ ¬ Y b)) := fun Y b hb h => by
   rcases h with h | h
   ·have := hZ b h; omega
   ·omega
  refine (hseq (w.heap.size + 1)
   (fun pre Y W => I pre Y W ∧ W.heap[w.heap.size + 1]? = some (.loop (rec .ready none)) ∧ W.heap[w.heap.size]? = some (.deferred (some [])) ∧ G Y W)
   (fun pre Y W => ∃ c, Ix c pre Y W ∧ W.heap[w.heap.size + 1]? = some (.loop (rec .done (some c))) ∧ W.heap[w.heap.size]? = some (.deferred (some [])) ∧ G Y W)
   Y0 W1 hb1 (by omega) (by omega) hY0
   (fun pre Y A B hs hx => ⟨hI _ _ _ _ hs.1 (wk _ _ _ hx), hx.heap hs.2.1 (nl _ _ (.inr rfl)), hx.heap hs.2.2.1 (nl _ _ (.inl rfl)), hG hs.2.2.2 hx⟩)
   (fun pre Y A B hs hx => by
    obtain ⟨c, hc, hl, hk, hy⟩ := hs
    exact ⟨c, hIx _ _ _ _ _ hc (wk _ _ _ hx), hx.heap hl (nl _ _ (.inr rfl)), hx.heap hk (nl _ _ (.inl rfl)), hG hy hx⟩)
   ?_ ⟨hI1, hL1, hK1, fun b hb => ⟨by have := hY0 b hb; omega, by have := hY0 b hb; omega, by have := hY0 b hb; omega, (hY0 b hb).2⟩, Nat.le_refl _⟩).mono ?_
  ·-- one round
   rintro pre x Y W ⟨hi, hl, hk, hg1⟩ hok
   have hy := run_yield (P := P) (args := encs x) hl (by rw [hrec]; exact hps x)
   rw [hrec] at hy
   refine ⟨fn, _, assign, body, hy, roundIn_of_wpIn hfn ?_⟩
   refine wpIn_mono (hassign (w.heap.size + 1) pre x Y W hi hok (fun b hb => (hg1.1 b hb).1)) ?_
   clear hy
   intro e1 a1 W2 h2
   cases e1 with
   | normal =>
    obtain ⟨Y2, hx2, hy2, hia⟩ := h2
    have hg2 : G Y2 W2 := hG' hg1 hx2 hy2
    have nY : ∀ {Y : Nat → Prop} {A : World}, G Y A → ¬ Y (w.heap.size + 1) ∧ ¬ Y w.heap.size := fun h => ⟨fun k => (h.1 _ k).2.2.1 rfl, fun k => (h.1 _ k).2.1 rfl⟩
    have hl2 := hx2.heap hl (nY hg1).1
    have hk2 := hx2.heap hk (nY hg1).2
    have hlt2 := (Array.getElem?_eq_some_iff.1 hl2).1
    refine ⟨_, run_beginRound hl2 (by rw [hrec]), ?_⟩
    have hp3 : ∀ (T : Nat → Prop), T (w.heap.size + 1) → Exc T W2 (W2.putObj (w.heap.size + 1) (.loop { rec .ready none with state := .busy })) := fun T hT => (Exc.refl T W2).putObj _ _ (.inl hT)
    have hg3 := hG hg2 (hp3 (fun b => b = w.heap.size + 1) rfl)
    have hl3 : (W2.putObj (w.heap.size + 1) (.loop { rec .ready none with state := .busy })).heap[w.heap.size + 1]? = some (.loop { rec .ready none with state := .busy }) := World.putObj_heap_same hlt2
    have hk3 : (W2.putObj (w.heap.size + 1) (.loop { rec .ready none with state := .busy })).heap[w.heap.size]? = some (.deferred (some [])) := (World.putObj_heap_other (by omega)).trans hk2
    refine wpIn_mono (hbody _ pre x a1 Y2 _ (by omega) ⟨_, hl3⟩ (hIa _ _ _ _ _ _ hia (hp3 _ ⟨by omega, Nat.le_refl _⟩)) hok (fun b hb => ⟨(hg3.1 b hb).1, (hg3.1 b hb).2.2.1⟩)) ?_
    have fin : ∀ (jump : Option Code) (Y3 : Nat → Prop) (W3 : World), Exc Y2 (W2.putObj (w.heap.size + 1) (.loop { rec .ready none with state := .busy })) W3 →
      (∀ b, Y3 b → (Y2 b ∨ (W2.putObj (w.heap.size + 1) (.loop { rec .ready none with state := .busy })).heap.size ≤ b) ∧ b < W3.heap.size) →
      (Instr.endRound (w.heap.size + 1) jump).run P W3 = .ok (.bool jump.isNone) (W3.putObj (w.heap.size + 1) (.loop (rec (if jump.isNone then .ready else .done) jump))) ∧
      Exc (fun b => Y b ∨ b = w.heap.size + 1) W (W3.putObj (w.heap.size + 1) (.loop (rec (if jump.isNone then .ready else .done) jump))) ∧
      (∀ b, Y3 b → (Y b ∨ W.heap.size ≤ b) ∧ b < (W3.putObj (w.heap.size + 1) (.loop (rec (if jump.isNone then .ready else .done) jump))).heap.size) ∧
      (∀ T : Nat → Prop, T (w.heap.size + 1) → Exc T W3 (W3.putObj (w.heap.size + 1) (.loop (rec (if jump.isNone then .ready else .done) jump)))) ∧
      (W3.putObj (w.heap.size + 1) (.loop (rec (if jump.isNone then .ready else .done) jump))).heap[w.heap.size + 1]? = some (.loop (rec (if jump.isNone then .ready else .done) jump)) ∧
      (W3.putObj (w.heap.size + 1) (.loop (rec (if jump.isNone then .ready else .done) jump))).heap[w.heap.size]? = some (.deferred (some [])) ∧
      G Y3 (W3.putObj (w.heap.size + 1) (.loop (rec (if jump.isNone then .ready else .done) jump))) := fun jump Y3 W3 hx3 hy3 => by
     have hl4 := hx3.heap hl3 (nY hg3).1
     have hk4 := hx3.heap hk3 (nY hg3).2
     have hrun := run_endRound (P := P) jump hl4
     rw [hrec] at hrun ⊢
     have hpT : ∀ (T : Nat → Prop) (o : Obj), T (w.heap.size + 1) → Exc T W3 (W3.putObj (w.heap.size + 1) o) := fun T o hT => (Exc.refl T W3).putObj _ _ (.inl hT)
     have hs3 := hx3.size
     have hs2 := hx2.size
     simp only [World.putObj_size] at hs3 hy3
     refine ⟨hrun, ?_, ?_, fun T hT => hpT T _ hT, World.putObj_heap_same (Array.getElem?_eq_some_iff.1 hl4).1, (World.putObj_heap_other (by omega)).trans hk4, hG (hG' hg3 hx3 (by simpa using hy3)) (hpT (fun b => b = w.heap.size + 1) _ rfl)⟩
     ·refine ⟨hx3.os.trans hx2.os, hx3.tape.trans hx2.tape, hx3.output.trans hx2.output, by simp; omega, fun k hk hn => ?_⟩
      have n1 : ¬ Y k := fun h => hn (.inl h)
      have n2 : k ≠ w.heap.size + 1 := fun h => hn (.inr h)
      have n3 : ¬ Y2 k := fun h => by
       rcases (hy2 k h).1 with h7 | h7
       ·exact n1 h7
       ·omega
      rw [World.putObj_heap_other n2, hx3.block k (by simp; omega) n3, World.putObj_heap_other n2, hx2.block k hk n1]
     ·intro b hb
      obtain ⟨h5, h6⟩ := hy3 b hb
      refine ⟨?_, by simpa using h6⟩
      rcases h5 with h5 | h5
      ·rcases (hy2 b h5).1 with h7 | h7
       ·exact .inl h7
       ·exact .inr h7
      ·exact .inr (by omega)
    intro e3 a3 W3 hp
    cases e3 with
    | normal =>
     obtain ⟨Y3, hx3, hy3, hi3⟩ := hp
     obtain ⟨hr, h4, h5, h6, h7, h8, h9⟩ := fin none Y3 W3 hx3 hy3
     exact ⟨_, _, hr, Y3, h4, h5, .inl ⟨rfl, hI _ _ _ _ hi3 (h6 _ (.inr ⟨by omega, (nY h9).1⟩)), h7, h8, h9⟩⟩
    | ret =>
     obtain ⟨Y3, hx3, hy3, hi3⟩ := hp
     obtain ⟨hr, h4, h5, h6, h7, h8, h9⟩ := fin (some .ret) Y3 W3 hx3 hy3
     exact ⟨_, _, hr, Y3, h4, h5, .inr ⟨rfl, _, hIx _ _ _ _ _ hi3 (h6 _ (.inr ⟨by omega, (nY h9).1⟩)), h7, h8, h9⟩⟩
    | exit id =>
     obtain ⟨Y3, hx3, hy3, hi3⟩ := hp
     obtain ⟨hr, h4, h5, h6, h7, h8, h9⟩ := fin (some (.exit id)) Y3 W3 hx3 hy3
     exact ⟨_, _, hr, Y3, h4, h5, .inr ⟨rfl, _, hIx _ _ _ _ _ hi3 (h6 _ (.inr ⟨by omega, (nY h9).1⟩)), h7, h8, h9⟩⟩
    | goto t =>
     obtain ⟨Y3, hx3, hy3, hi3⟩ := hp
     obtain ⟨hr, h4, h5, h6, h7, h8, h9⟩ := fin (some (.goto t)) Y3 W3 hx3 hy3
     exact ⟨_, _, hr, Y3, h4, h5, .inr ⟨rfl, _, hIx _ _ _ _ _ hi3 (h6 _ (.inr ⟨by omega, (nY h9).1⟩)), h7, h8, h9⟩⟩
    | panic ch => exact hp.elim
    | outgrown => exact hp.elim
   | _ => exact h2.elim
  ·-- behind the iterator
   rintro e W2 ⟨⟨v, rfl⟩, Y, (⟨xs, hS, hi, hl, hk, hg1⟩ | ⟨pre, hSp, c, hi, hl, hk, hg1⟩)⟩
   ·refine ⟨none, _, by have := run_endLoop (P := P) hl (by rw [hrec]; simp); rw [hrec] at this; exact this, hdone _ xs Y _ (Nat.le_refl _) (fun h => (hg1.1 _ h).2.1 rfl) hS (hI _ _ _ _ hi ((Exc.refl _ _).putObj _ _ (.inl (.inr ⟨by omega, fun h => (hg1.1 _ h).2.2.1 rfl⟩)))) ((World.putObj_heap_other (by omega)).trans hk)⟩
   ·refine ⟨some c, _, by have := run_endLoop (P := P) hl (by rw [hrec]; simp); rw [hrec] at this; exact this, hstop _ c pre Y _ (Nat.le_refl _) (fun h => (hg1.1 _ h).2.1 rfl) hSp (hIx _ _ _ _ _ hi ((Exc.refl _ _).putObj _ _ (.inl (.inr ⟨by omega, fun h => (hg1.1 _ h).2.2.1 rfl⟩)))) ((World.putObj_heap_other (by omega)).trans hk)⟩
end

theorem calls_of_wp_marks {P : Program} {f : FuncId} {fn : Func} {c : Code} {args : Array Value} {w : World} {R : Ending → World → Prop}
  (hf : P.funcs[f]? = some fn) (hb : fn.body = some c)
  (h : c.wp P (bodyPostM Fence.wide 0 P fn R) { tmps := args ++ Array.replicate (fn.ntmps - args.size) undef, defers := [] } w) : Calls P f args w R :=
 (callsIn_wide (n := 0)).1 (callsIn_of_wp_marks hf hb trivial (wpIn_wide.2 h) rfl)

theorem wp_range {P : Program} {w : World} {α : Type} {g : Operand} {ps : Array Tmp} {assign body : Code} {Q : Exit → Act → World → Prop} {a : Act}
  {gf : Nat} {lb : Array Value} (hg : a.eval g = .func (.func gf) #[] lb) (eg : ∀ args w, (callFunc gf args).run P w = .ok (.enter gf args) w)
  {encs : α → Array Value} {Z : Nat → Prop} {S Sp : List α → Prop} {Ok : List α → α → Prop} (hseq : SeqE Fence.wide 2 P gf lb encs Z S Sp Ok w) (hps : ∀ x, (encs x).size = ps.size)
  (I : List α → (Nat → Prop) → World → Prop) (Ix : Code → List α → (Nat → Prop) → World → Prop) (Ia : List α → α → Act → (Nat → Prop) → World → Prop) (Y0 : Nat → Prop)
  (hZ : ∀ b, Z b → b < w.heap.size) (hY0 : ∀ b, Y0 b → b < w.heap.size ∧ ¬ Z b)
  (hI : ∀ pre Y A B, I pre Y A → Exc (fun b => Z b ∨ (w.heap.size ≤ b ∧ ¬ Y b)) A B → I pre Y B)
  (hIx : ∀ c pre Y A B, Ix c pre Y A → Exc (fun b => Z b ∨ (w.heap.size ≤ b ∧ ¬ Y b)) A B → Ix c pre Y B)
  (hIa : ∀ pre x a' Y A B, Ia pre x a' Y A → Exc (fun b => w.heap.size ≤ b ∧ b ≤ w.heap.size + 1) A B → Ia pre x a' Y B)
  (h0 : I [] Y0 w)
  (hassign : ∀ (l : Nat) (pre : List α) (x : α) (Y : Nat → Prop) (W : World), I pre Y W → Ok pre x → (∀ b, Y b → b < W.heap.size) →
   assign.wpIn (Fence.wide.inRound l) 1 P (Exit.then (fun a' W' => ∃ Y', Exc Y W W' ∧ (∀ b, Y' b → (Y b ∨ W.heap.size ≤ b) ∧ b < W'.heap.size) ∧ Ia pre x a' Y' W') (fun _ _ _ => False)) { tmps := (ps.zip (encs x)).foldl (fun t (p, v) => t.setIfInBounds p v) a.tmps, defers := [] } W)
  (hbody : ∀ (l : Nat) (pre : List α) (x : α) (a' : Act) (Y : Nat → Prop) (W : World), w.heap.size ≤ l → (∃ r, W.heap[l]? = some (.loop r)) → Ia pre x a' Y W → Ok pre x → (∀ b, Y b → b < W.heap.size ∧ b ≠ l) →
   body.wpIn (Fence.wide.inRound l) 1 P (RPost I Ix (pre ++ [x]) Y W) a' W)
  (hdone : ∀ (D : Nat) (xs : List α) (Y : Nat → Prop) (W : World), w.heap.size ≤ D → ¬ Y D → S xs → I xs Y W → W.heap[D]? = some (.deferred (some [])) → Q .normal { a with defers := { target := .collected D, args := #[] } :: a.defers } W)
  (hstop : ∀ (D : Nat) (c : Code) (pre : List α) (Y : Nat → Prop) (W : World), w.heap.size ≤ D → ¬ Y D → Sp pre → Ix c pre Y W → W.heap[D]? = some (.deferred (some [])) → c.wp P Q { a with defers := { target := .collected D, args := #[] } :: a.defers } W) :
  (Code.rangeFunc g ps assign body).wp P Q a w :=
 wpIn_wide.1 (wpIn_range (F := Fence.wide) (n := 3) rfl (fun h => by simp [Fence.wide] at h) hg trivial eg hseq hps I Ix Ia Y0 hZ hY0 hI hIx hIa h0 hassign hbody hdone (fun D c pre Y W h1 h2 h3 h4 h5 => wpIn_wide.2 (hstop D c pre Y W h1 h2 h3 h4 h5)))

theorem post_mark {P : Program} {fn : Func} {R : Ending → World → Prop} {tmps : Array Value} {D : Nat} {W : World} {v : Value} (hK : W.heap[D]? = some (.deferred (some [])))
  (hr : (results fn tmps).run P (W.putObj D (.deferred none)) = .ok v (W.putObj D (.deferred none))) (hR : R (.returned v) (W.putObj D (.deferred none))) :
  bodyPostM Fence.wide 0 P fn R .ret { tmps := tmps, defers := [{ target := .collected D, args := #[] }] } W :=
 ⟨by simp, .inl ⟨_, _, rfl, run_takeDeferred hK, ⟨_, hr, hR⟩⟩⟩
theorem mark_other {W : World} {D : Nat} {o : Obj} (hK : W.heap[D]? = some o) (p : Addr) (u : Value) (h : p.block ≠ D) : (W.setCell p u).heap[D]? = some o :=
 (Below.heap_setCell _ _ _ _ (fun e => h e.symm)).trans hK
theorem boxed_putObj {W : World} {b D : Nat} {t : TypeId} {v : Value} (hb : Boxed W b t v) (o : Obj) (h : b ≠ D) : Boxed (W.putObj D o) b t v := (World.putObj_heap_other h).trans hb
theorem below_putObj {B : Nat} {A W : World} (h : Below B A W) (D : Nat) (o : Obj) (hD : B ≤ D) : Below B A (W.putObj D o) :=
 ⟨h.os, h.tape, h.output, by simpa using h.size, fun k hk => (World.putObj_heap_other (by omega)).trans (h.block k hk)⟩

section
variable {P : Program} {ops : Array Oper} {Q : Exit → Act → World → Prop}

def dstOf (ops : Array Oper) (i : Nat) : Option Tmp := (ops[i]?).bind (·.dst)

def putAll (ops : Array Oper) (vs : Nat → Value) : Nat → Act → Act
 | 0, a => a
 | i + 1, a => (putAll ops vs i a).put (dstOf ops i) (vs i)

def regB (ops : Array Oper) (n sz : Nat) : Bool :=
 decide (n ≤ ops.size) &&
 ((List.range ops.size).all fun i => match ops[i]? with | none => false | some o => o.after.all fun e => !Region.binds .any e || decide (e.on < i)) &&
 ((List.range n).all fun i => (List.range n).all fun j => i == j || match dstOf ops i with | none => true | some t => dstOf ops j != some t) &&
 ((List.range n).all fun i => match dstOf ops i with | none => true | some t => decide (t < sz)) &&
 (decide (n = ops.size) || (Region.sinkB .any ops n && Region.chainB .any ops n)) &&
 Region.seqB .any ops (ops.size - n) n ((List.range ops.size).map fun i => decide (i < n)).toArray

structure RInv (ops : Array Oper) (n : Nat) (a0 : Act) (w0 : World) (E : World → World → Prop) (Φ : Nat → Value → World → Prop) (listed : Array Bool) (a : Act) (w : World) : Prop where
 ext : E w0 w
 defs : a.defers = a0.defers
 size : a.tmps.size = a0.tmps.size
 old : ∀ t, (∀ i, i < n → listed.getD i false = true → dstOf ops i ≠ some t) → a.tmps[t]? = a0.tmps[t]?
 new : ∀ i, i < n → listed.getD i false = true → ∃ v, Φ i v w ∧ ∀ t, dstOf ops i = some t → a.tmps[t]? = some v

def ROp (P : Program) (ops : Array Oper) (Q : Exit → Act → World → Prop) (n : Nat) (a0 : Act) (w0 : World) (E : World → World → Prop) (Φ : Nat → Value → World → Prop) (i : Nat) (o : Oper) : Prop :=
 ∀ a w, E w0 w → a.defers = a0.defers → a.tmps.size = a0.tmps.size → (∀ t, (∀ j, j < n → dstOf ops j ≠ some t) → a.tmps[t]? = a0.tmps[t]?) →
  (∀ e ∈ o.after, Region.binds .any e = true → ∃ v, Φ e.on v w ∧ ∀ t, dstOf ops e.on = some t → a.tmps[t]? = some v) →
  wpOp P ops Q i (fun a' w' => ∃ v, a' = a.put o.dst v ∧ Φ i v w' ∧ E w w') a w

theorem put_get {a : Act} {d : Option Tmp} {v : Value} {t : Nat} : (a.put d v).tmps[t]? = if d = some t then (if t < a.tmps.size then some v else none) else a.tmps[t]? := by
 cases d with
 | none => simp [Act.put]
 | some d =>
  simp only [Act.put, Option.some.injEq]
  rw [Array.getElem?_setIfInBounds]
  by_cases h : d = t
  ·subst h; rfl
  ·rw [if_neg h, if_neg h]
theorem put_size {a : Act} {d : Option Tmp} {v : Value} : (a.put d v).tmps.size = a.tmps.size := by cases d <;> simp [Act.put]
theorem put_defers {a : Act} {d : Option Tmp} {v : Value} : (a.put d v).defers = a.defers := by cases d <;> rfl

theorem putAll_size (vs : Nat → Value) : ∀ (n : Nat) (a : Act), (putAll ops vs n a).tmps.size = a.tmps.size
 | 0, _ => rfl
 | n + 1, a => by rw [putAll, put_size, putAll_size vs n a]
theorem putAll_defers (vs : Nat → Value) : ∀ (n : Nat) (a : Act), (putAll ops vs n a).defers = a.defers
 | 0, _ => rfl
 | n + 1, a => by rw [putAll, put_defers, putAll_defers vs n a]
theorem putAll_old (vs : Nat → Value) (t : Nat) : ∀ (n : Nat) (a : Act), (∀ i, i < n → dstOf ops i ≠ some t) → (putAll ops vs n a).tmps[t]? = a.tmps[t]?
 | 0, _, _ => rfl
 | n + 1, a, h => by rw [putAll, put_get, if_neg (h n (by omega)), putAll_old vs t n a (fun i hi => h i (by omega))]
theorem putAll_new (vs : Nat → Value) (t i : Nat) (hd : dstOf ops i = some t) : ∀ (n : Nat) (a : Act), i < n → (∀ j, j < n → j ≠ i → dstOf ops j ≠ some t) → t < a.tmps.size → (putAll ops vs n a).tmps[t]? = some (vs i)
 | 0, _, h, _, _ => by omega
 | n + 1, a, h, hne, ht => by
  rw [putAll, put_get]
  by_cases e : i = n
  ·subst e
   rw [if_pos hd, if_pos (by rw [putAll_size]; exact ht)]
  ·rw [if_neg (hne n (by omega) (Ne.symm e)), putAll_new vs t i hd n a (by omega) (fun j hj => hne j (by omega)) ht]

structure RegOk (ops : Array Oper) (n sz : Nat) : Prop where
 le : n ≤ ops.size
 back : ∀ (i : Nat) (o : Oper), ops[i]? = some o → ∀ e ∈ o.after, Region.binds .any e = true → e.on < i
 apart : ∀ i j t, i < n → j < n → i ≠ j → dstOf ops i = some t → dstOf ops j ≠ some t
 inn : ∀ i t, i < n → dstOf ops i = some t → t < sz
 tail : n = ops.size ∨ (Region.sinkB .any ops n = true ∧ Region.chainB .any ops n = true)
 seq : Region.seqB .any ops (ops.size - n) n ((List.range ops.size).map fun i => decide (i < n)).toArray = true

theorem regOk_of {n sz : Nat} (h : regB ops n sz = true) : RegOk ops n sz := by
 simp only [regB, Bool.and_eq_true, decide_eq_true_eq, List.all_eq_true, List.mem_range, Bool.or_eq_true] at h
 obtain ⟨⟨⟨⟨⟨h1, h2⟩, h3⟩, h4⟩, h5⟩, h6⟩ := h
 refine ⟨h1, fun i o hi e he hb => ?_, fun i j t hi hj hne hd hd' => ?_, fun i t hi hd => ?_, h5, h6⟩
 ·have := h2 i (Array.getElem?_eq_some_iff.1 hi).1
  rw [hi] at this
  have := Array.all_eq_true_iff_forall_mem.1 this e he
  simpa [hb] using this
 ·have := h3 i hi j hj
  rw [hd] at this
  rcases this with h | h
  ·exact hne (by simpa using h)
  ·simp [hd'] at h
 ·have := h4 i hi
  rw [hd] at this
  simpa using this

theorem wpAny_of_inv {n : Nat} {a0 : Act} {w0 : World} {E : World → World → Prop} {Φ : Nat → Value → World → Prop} (ok : RegOk ops n a0.tmps.size)
  (hE : ∀ {A B C : World}, E A B → E B C → E A C) (hst : ∀ i v A B, E w0 A → E A B → Φ i v A → Φ i v B)
  (hop : ∀ (i : Nat) (o : Oper), i < n → ops[i]? = some o → ROp P ops Q n a0 w0 E Φ i o)
  (hend : ∀ (vs : Nat → Value) w, (∀ i, i < n → Φ i (vs i) w) → E w0 w → wpList P ops Q (ops.toList.drop n) (putAll ops vs n a0) w) :
  ∀ (f : Nat) (listed : Array Bool) (a : Act) (w : World), listed.size = ops.size → (∀ j oj, ops[j]? = some oj → listed.getD j false = true → ∀ e ∈ oj.after, Region.binds .any e = true → listed.getD e.on false = true) →
   (∀ t, n ≤ t → t < ops.size → listed.getD t true = false) → RInv ops n a0 w0 E Φ listed a w → ((List.range n).countP fun i => !listed.getD i false) = f → wpAny P .any ops Q (f + (ops.size - n)) listed a w := by
 intro f
 induction f with
 | zero =>
  intro listed a w hsz hcl htl inv hf
  have hall : ∀ i, i < n → listed.getD i false = true := fun i hi => by
   have := (List.countP_eq_zero.1 hf) i (List.mem_range.2 hi)
   simpa using this
  have hlist : listed = ((List.range ops.size).map fun i => decide (i < n)).toArray := by
   apply Array.ext
   ·simp [hsz]
   ·intro i h1 h2
    simp only [List.getElem_toArray, List.getElem_map, List.getElem_range]
    by_cases hi : i < n
    ·have := hall i hi
     rw [Array.getD_eq_getD_getElem?, Array.getElem?_eq_getElem h1] at this
     simpa [hi] using this
    ·have := htl i (by omega) (by omega)
     rw [Array.getD_eq_getD_getElem?, Array.getElem?_eq_getElem h1] at this
     simpa [hi] using this
  have hch : ∀ i, ∃ v, i < n → Φ i v w ∧ ∀ t, dstOf ops i = some t → a.tmps[t]? = some v := fun i => by
   by_cases hi : i < n
   ·obtain ⟨v, hv⟩ := inv.new i hi (hall i hi)
    exact ⟨v, fun _ => hv⟩
   ·exact ⟨undef, fun h => absurd h hi⟩
  obtain ⟨vs, hvs⟩ := Classical.axiomOfChoice hch
  have ha : a = putAll ops vs n a0 := by
   have h1 : a.tmps = (putAll ops vs n a0).tmps := by
    apply Array.ext_getElem?
    intro t
    by_cases hd : ∃ i, i < n ∧ dstOf ops i = some t
    ·obtain ⟨i, hi, hd⟩ := hd
     rw [(hvs i hi).2 t hd, putAll_new vs t i hd n a0 hi (fun j hj hne => fun h => ok.apart j i t hj hi hne h hd) (ok.inn i t hi hd)]
    ·rw [inv.old t (fun i hi _ h => hd ⟨i, hi, h⟩), putAll_old vs t n a0 (fun i hi h => hd ⟨i, hi, h⟩)]
   have h2 : a.defers = (putAll ops vs n a0).defers := by rw [inv.defs, putAll_defers]
   cases a
   cases hp : putAll ops vs n a0
   simp_all
  have hlen : (ops.toList.drop n).length = ops.size - n := by simp
  have := wpAny_of_seq (md := .any) (Q' := Q) (P := P) (ops := ops) (ops.toList.drop n) n listed a w (fun j => by simp) (by rw [hlen, hlist]; exact ok.seq)
   (by rw [ha]; exact hend vs w (fun i hi => (hvs i hi).1) inv.ext)
  rw [Nat.zero_add]
  rwa [hlen] at this
 | succ f ih =>
  intro listed a w hsz hcl htl inv hf
  -- the least that is not listed is ready
  have hex : ∃ i, i < n ∧ listed.getD i false = false := by
   apply Classical.byContradiction
   intro hno
   have : ((List.range n).countP fun i => !listed.getD i false) = 0 := List.countP_eq_zero.2 fun i hi => by
    have hin := List.mem_range.1 hi
    cases h : listed.getD i false with
    | true => simp
    | false => exact absurd ⟨i, hin, h⟩ hno
   omega
  have hready : Region.ready .any ops listed ≠ [] := by
   have hmin : ∀ i, i < n → listed.getD i false = false → ∃ j, j ∈ Region.ready .any ops listed := by
    intro i
    induction i using Nat.strongRecOn with
    | ind i ihi =>
     intro hi hl
     have hio : i < ops.size := Nat.lt_of_lt_of_le hi ok.le
     obtain ⟨o, ho⟩ : ∃ o, ops[i]? = some o := ⟨_, Array.getElem?_eq_getElem hio⟩
     by_cases hp : ∀ e ∈ o.after, Region.binds .any e = true → listed.getD e.on false = true
     ·exact ⟨i, mem_ready.2 ⟨getD_in (by omega) hl, o, ho, hp⟩⟩
     ·obtain ⟨e, he⟩ := Classical.not_forall.1 hp
      obtain ⟨he1, he2⟩ := Classical.not_imp.1 he
      obtain ⟨hb, he3⟩ := Classical.not_imp.1 he2
      have hlt := ok.back i o ho e he1 hb
      exact ihi e.on hlt (by omega) (by simpa using he3)
   obtain ⟨i, hi, hl⟩ := hex
   obtain ⟨j, hj⟩ := hmin i hi hl
   exact fun h => by rw [h] at hj; cases hj
  rw [show f + 1 + (ops.size - n) = (f + (ops.size - n)) + 1 by omega]
  refine ⟨fun h0 => absurd h0 hready, fun i hi => ?_⟩
  obtain ⟨hun, o, ho, hall⟩ := mem_ready.1 hi
  have hio : i < ops.size := (Array.getElem?_eq_some_iff.1 ho).1
  have hin : i < n := by
   rcases Nat.lt_or_ge i n with h | h
   ·exact h
   ·exfalso
    rcases ok.tail with ht | ⟨ht1, ht2⟩
    ·omega
    ·obtain ⟨k, hk, hl⟩ := hex
     have hI : HeadInv .any ops n listed := ⟨hsz, hcl, htl⟩
     exact tail_waits ht1 ht2 (by omega) hI _ k rfl hk (getD_in (by omega) hl) i h hi
  have hpre : ∀ e ∈ o.after, Region.binds .any e = true → ∃ v, Φ e.on v w ∧ ∀ t, dstOf ops e.on = some t → a.tmps[t]? = some v := fun e he hb =>
   inv.new e.on (Nat.lt_trans (ok.back i o ho e he hb) hin) (hall e he hb)
  refine wpOp_mono ?_ (hop i o hin ho a w inv.ext inv.defs inv.size (fun t ht => inv.old t (fun j hj _ => ht j hj)) hpre)
  rintro a' w' ⟨v, rfl, hv, hx⟩
  have hdo : dstOf ops i = o.dst := by simp [dstOf, ho]
  refine ih _ _ w' (by simp [hsz]) ?_ ?_ ⟨hE inv.ext hx, by rw [put_defers, inv.defs], by rw [put_size, inv.size], ?_, ?_⟩ ?_
  ·intro j oj hj hl e he hb
   by_cases hij : i = j
   ·subst hij
    have : oj = o := Option.some.inj (hj.symm.trans ho)
    subst this
    exact getD_set_true (hall e he hb)
   ·rw [getD_set_ne false hij] at hl
    exact getD_set_true (hcl j oj hj hl e he hb)
  ·intro t h1 h2
   rw [getD_set_ne true (by omega)]
   exact htl t h1 h2
  ·intro t ht
   rw [put_get, if_neg]
   ·exact inv.old t (fun j hj hl => ht j hj (getD_set_true hl))
   ·rw [← hdo]
    exact ht i hin (by simp [Array.getD_eq_getD_getElem?, hsz, hio])
  ·intro j hj hl
   by_cases hij : i = j
   ·subst hij
    refine ⟨v, hv, fun t ht => ?_⟩
    rw [put_get, if_pos (by rw [← hdo]; exact ht), if_pos (by rw [inv.size]; exact ok.inn i t hin ht)]
   ·rw [getD_set_ne false hij] at hl
    obtain ⟨u, hu, hut⟩ := inv.new j hj hl
    refine ⟨u, hst j u w w' inv.ext hx hu, fun t ht => ?_⟩
    rw [put_get, if_neg (by rw [← hdo]; exact ok.apart j i t hj hin (Ne.symm hij) ht)]
    exact hut t ht
  ·have h1 : ∀ (l : List Nat), l.Nodup → i ∈ l → (l.countP fun j => !listed.getD j false) = (l.countP fun j => !(listed.setIfInBounds i true).getD j false) + 1 := by
    intro l
    induction l with
    | nil => intro _ h; cases h
    | cons x l ihl =>
     intro hnd hmem
     obtain ⟨hx1, hx2⟩ := List.nodup_cons.1 hnd
     rw [List.countP_cons, List.countP_cons]
     by_cases hxi : x = i
     ·subst hxi
      have e1 : (l.countP fun j => !listed.getD j false) = l.countP fun j => !(listed.setIfInBounds x true).getD j false :=
       List.countP_congr fun j hj => by rw [getD_set_ne false (by rintro rfl; exact hx1 hj)]
      have e2 : (listed.setIfInBounds x true).getD x false = true := by simp [Array.getD_eq_getD_getElem?, hsz, hio]
      rw [e1, e2, getD_both hun]
      simp
     ·rw [ihl hx2 (by rcases List.mem_cons.1 hmem with h | h; exact absurd h.symm hxi; exact h), getD_set_ne false (Ne.symm hxi)]
      omega
   have := h1 (List.range n) List.nodup_range (List.mem_range.2 hin)
   omega

def Steps (R : Nat → Oper → Prop) : Nat → List Oper → Prop
 | _, [] => True
 | k, o :: l => R k o ∧ Steps R (k + 1) l
theorem steps_at {R : Nat → Oper → Prop} : ∀ (l : List Oper) (k : Nat), Steps R k l → ∀ i o, l[i]? = some o → R (k + i) o
 | [], _, _, i, _, h => by simp at h
 | o :: l, k, ⟨h1, h2⟩, i, o', h => by
  cases i with
  | zero => simp at h; subst h; exact h1
  | succ i => have := steps_at l (k + 1) h2 i o' (by simpa using h); rwa [show k + (i + 1) = k + 1 + i by omega]

theorem wp_region_inv {id : Nat} {l : List Oper} {a0 : Act} {w0 : World} (n : Nat) (hm : P.follows .mixedOrders = true) (hB : regB l.toArray n a0.tmps.size = true)
  (E : World → World → Prop) (Φ : Nat → Value → World → Prop)
  (hE : ∀ {A B C : World}, E A B → E B C → E A C) (hE0 : E w0 { w0 with drawn := w0.drawn + 1 }) (hr : E w0 w0) (hst : ∀ i v A B, E w0 A → E A B → Φ i v A → Φ i v B)
  (hop : Steps (ROp P l.toArray Q n a0 w0 E Φ) 0 (l.take n))
  (hend : ∀ (vs : Nat → Value) w, (∀ i, i < n → Φ i (vs i) w) → E w0 w → wpList P l.toArray Q (l.drop n) (putAll l.toArray vs n a0) w) :
  (Code.region id l.toArray true).wp P Q a0 w0 := by
 have ok := regOk_of hB
 have hnl : n ≤ l.length := by simpa using ok.le
 refine wp_region_any hm ?_
 have h0 : ((List.range n).countP fun i => !(Array.replicate l.toArray.size false).getD i false) = n := by
  have : ((List.range n).countP fun i => !(Array.replicate l.toArray.size false).getD i false) = (List.range n).length := List.countP_eq_length.2 fun i _ => by rw [getD_replicate_false]; rfl
  simpa using this
 have := wpAny_of_inv (P := P) (Q := Q) (E := E) (w0 := w0) (Φ := Φ) ok (fun h k => hE h k) hst (fun i o hi ho => by
   have := steps_at _ 0 hop i o (by rw [List.getElem?_take_of_lt hi]; simpa using ho)
   rwa [Nat.zero_add] at this) (by simpa using hend) n (Array.replicate l.toArray.size false) a0 { w0 with drawn := w0.drawn + 1 } (by simp)
   (fun j oj _ hl => by rw [getD_replicate_false] at hl; cases hl) (fun t h1 h2 => getD_in (by simpa using h2) (getD_replicate_false _ _))
   ⟨hE0, rfl, rfl, fun t _ => rfl, fun i _ hl => by rw [getD_replicate_false] at hl; cases hl⟩ h0
 rwa [show n + (l.toArray.size - n) = l.toArray.size by have := ok.le; omega] at this

/-! ### The same, told of values alone -/

def UponV (P : Program) (K : Value → World → Prop) : Result Next → Prop
 | .ok (.value v) w => K v w
 | .ok .skip w => K undef w
 | .ok (.enter f args) w => Calls P f args w fun e w' => ∃ v, e = .returned v ∧ K v w'
 | _ => False
def RdP (a0 : Act) (Φ : Nat → Value → World → Prop) (ev : Operand → Value) (w : World) : List (Tmp × Option Nat) → Prop
 | [] => True
 | (t, some j) :: l => Φ j (ev (.tmp t)) w ∧ RdP a0 Φ ev w l
 | (t, none) :: l => ev (.tmp t) = a0.tmps.getD t undef ∧ RdP a0 Φ ev w l

def rdB (ops : Array Oper) (n : Nat) (i : Nat) : List (Tmp × Option Nat) → Bool
 | [] => true
 | (t, some j) :: l => dstOf ops j == some t && decide (j < n) && (match ops[i]? with | none => false | some o => o.after.any fun e => Region.binds .any e && e.on == j) && rdB ops n i l
 | (t, none) :: l => ((List.range n).all fun j => dstOf ops j != some t) && rdB ops n i l
def gdB (ops : Array Oper) (i : Nat) (g : Option (Nat × Bool)) : Bool :=
 match ops[i]? with
 | none => false
 | some o => match g, o.guard with
  | none, none => true
  | some (j, u), some (k, v) => j == k && u == v && (dstOf ops j).isSome && o.after.any fun e => Region.binds .any e && e.on == j
  | _, _ => false

def VOp (P : Program) (a0 : Act) (w0 : World) (E : World → World → Prop) (Φ : Nat → Value → World → Prop) (i : Nat) (o : Oper) (rd : List (Tmp × Option Nat)) (g : Option (Nat × Bool)) (run : Bool) : Prop :=
 (match g with | none => True | some (j, want) => ∀ v w, E w0 w → Φ j v w → ∃ b, v = .bool b ∧ (b == want) = run) ∧
 ∀ ev w, E w0 w → RdP a0 Φ ev w rd → (∀ v, ev (.const v) = v) → (∀ f, ev (.func f) = .func (.func f) #[] #[]) → (∀ g, ev (.global g) = .pointer (some ⟨g, 0, none⟩)) →
  if run then UponV P (fun v w' => Φ i v w' ∧ E w w') ((execOp ev o).run P w) else Φ i undef w

def rdsB (ops : Array Oper) (n : Nat) : Nat → List (List (Tmp × Option Nat) × Option (Nat × Bool) × Bool) → Bool
 | _, [] => true
 | i, (rd, g, run) :: l => rdB ops n i rd && gdB ops i g && (g.isSome || run) && rdsB ops n (i + 1) l
def StepsV (P : Program) (a0 : Act) (w0 : World) (E : World → World → Prop) (Φ : Nat → Value → World → Prop) : Nat → List Oper → List (List (Tmp × Option Nat) × Option (Nat × Bool) × Bool) → Prop
 | _, [], [] => True
 | k, o :: l, (rd, g, run) :: m => VOp P a0 w0 E Φ k o rd g run ∧ StepsV P a0 w0 E Φ (k + 1) l m
 | _, _, _ => False

theorem rdP_of {a0 a : Act} {w : World} {Φ : Nat → Value → World → Prop} {n i : Nat} {o : Oper} (ho : ops[i]? = some o)
  (hold : ∀ t, (∀ j, j < n → dstOf ops j ≠ some t) → a.tmps[t]? = a0.tmps[t]?)
  (hpre : ∀ e ∈ o.after, Region.binds .any e = true → ∃ v, Φ e.on v w ∧ ∀ t, dstOf ops e.on = some t → a.tmps[t]? = some v) :
  ∀ rd, rdB ops n i rd = true → RdP a0 Φ a.eval w rd
 | [], _ => trivial
 | (t, some j) :: l, h => by
  simp only [rdB, ho, Bool.and_eq_true, beq_iff_eq, decide_eq_true_eq] at h
  obtain ⟨⟨⟨h1, _⟩, h3⟩, h4⟩ := h
  obtain ⟨e, he, hb⟩ := Array.any_eq_true'.1 h3
  simp only [Bool.and_eq_true, beq_iff_eq] at hb
  obtain ⟨v, hv, ht⟩ := hpre e he hb.1
  rw [hb.2] at hv ht
  refine ⟨?_, rdP_of ho hold hpre l h4⟩
  have := ht t h1
  have e2 : a.eval (.tmp t) = v := by simp [Act.eval, Array.getD_eq_getD_getElem?, this]
  rw [e2]; exact hv
 | (t, none) :: l, h => by
  simp only [rdB, Bool.and_eq_true, List.all_eq_true, List.mem_range] at h
  refine ⟨?_, rdP_of ho hold hpre l h.2⟩
  have := hold t (fun j hj => by simpa using h.1 j hj)
  simp [Act.eval, Array.getD_eq_getD_getElem?, this]

theorem rop_of_vop {Q : Exit → Act → World → Prop} {n i : Nat} {o : Oper} {a0 : Act} {w0 : World} {E : World → World → Prop} {Φ : Nat → Value → World → Prop} {rd : List (Tmp × Option Nat)} {g : Option (Nat × Bool)} {run : Bool}
  (hr : ∀ w, E w w) (ho : ops[i]? = some o) (hB : rdB ops n i rd = true) (hG : gdB ops i g = true) (hN : g = none → run = true)
  (h : VOp P a0 w0 E Φ i o rd g run) : ROp P ops Q n a0 w0 E Φ i o := by
 intro a w hx hd hs hold hpre
 obtain ⟨h1, h2⟩ := h
 have hrd := rdP_of ho hold hpre rd hB
 have h3 := h2 a.eval w hx hrd (fun _ => rfl) (fun _ => rfl) (fun _ => rfl)
 have hw : Region.wanted o (yielded ops a.tmps) = run := by
  unfold gdB at hG
  rw [ho] at hG
  cases g with
  | none =>
   cases hg : o.guard with
   | none => rw [hN rfl]; simp [Region.wanted, hg]
   | some x => simp [hg] at hG
  | some x =>
   obtain ⟨j, want⟩ := x
   cases hg : o.guard with
   | none => simp [hg] at hG
   | some y =>
    obtain ⟨k, want'⟩ := y
    simp only [hg, Bool.and_eq_true, beq_iff_eq] at hG
    obtain ⟨⟨⟨rfl, rfl⟩, hsome⟩, hany⟩ := hG
    obtain ⟨e, he, hb⟩ := Array.any_eq_true'.1 hany
    simp only [Bool.and_eq_true, beq_iff_eq] at hb
    obtain ⟨v, hv, ht⟩ := hpre e he hb.1
    rw [hb.2] at hv ht
    obtain ⟨b, rfl, hbw⟩ := h1 v w hx hv
    obtain ⟨t, htd⟩ := Option.isSome_iff_exists.1 hsome
    have htt := ht t htd
    have hy : yielded ops a.tmps j = some b := by
     unfold yielded
     have : (ops[j]?).bind (·.dst) = some t := htd
     rw [this]
     simp [htt]
    simp only [Region.wanted, hg, hy]
    rw [← hbw]
    cases b <;> cases want <;> rfl
 unfold wpOp
 simp only [ho, hw]
 cases run with
 | false => 
  simp only [if_false, Bool.false_eq_true] at h3 ⊢
  exact ⟨undef, rfl, h3, hr w⟩
 | true =>
  simp only [if_true] at h3 ⊢
  left
  unfold Oper.wp
  generalize (execOp a.eval o).run P w = res at h3 ⊢
  unfold UponV at h3
  unfold Oper.upon
  split at h3
  ·exact ⟨_, rfl, h3.1, h3.2⟩
  ·exact ⟨_, rfl, h3.1, h3.2⟩
  ·refine h3.mono ?_
   rintro e w' ⟨v, rfl, h4, h5⟩
   exact ⟨v, rfl, h4, h5⟩
  ·exact h3.elim

theorem steps_of_stepsV {Q : Exit → Act → World → Prop} {n : Nat} {a0 : Act} {w0 : World} {E : World → World → Prop} {Φ : Nat → Value → World → Prop} (hr : ∀ w, E w w) :
  ∀ (l : List Oper) (m : List (List (Tmp × Option Nat) × Option (Nat × Bool) × Bool)) (k : Nat), (∀ i, i < l.length → ops[k + i]? = l[i]?) → rdsB ops n k m = true → StepsV P a0 w0 E Φ k l m → Steps (ROp P ops Q n a0 w0 E Φ) k l
 | [], _, _, _, _, _ => trivial
 | o :: l, [], _, _, _, h => h.elim
 | o :: l, (rd, g, run) :: m, k, ho, hB, ⟨h1, h2⟩ => by
  simp only [rdsB, Bool.and_eq_true, Bool.or_eq_true] at hB
  obtain ⟨⟨⟨hb1, hb2⟩, hb3⟩, hb4⟩ := hB
  refine ⟨rop_of_vop hr (by have := ho 0 (by simp); simpa using this) hb1 hb2 (fun e => by rw [e] at hb3; simpa using hb3) h1, steps_of_stepsV hr l m (k + 1) (fun i hi => by
   have := ho (i + 1) (by simp; omega)
   rw [show k + 1 + i = k + (i + 1) by omega]; simpa using this) hb4 h2⟩

def putD (ds : List (Option Tmp)) (vs : Nat → Value) : Nat → Act → Act
 | 0, a => a
 | i + 1, a => (putD ds vs i a).put (ds.getD i none) (vs i)
theorem putAll_putD {ds : List (Option Tmp)} (vs : Nat → Value) : ∀ (n : Nat) (a : Act), (∀ i, i < n → dstOf ops i = ds.getD i none) → putAll ops vs n a = putD ds vs n a
 | 0, _, _ => rfl
 | n + 1, a, h => by rw [putAll, putD, h n (by omega), putAll_putD vs n a (fun i hi => h i (by omega))]

theorem wp_region_vals {Q : Exit → Act → World → Prop} {id : Nat} {l : List Oper} {a0 : Act} {w0 : World} (n : Nat) (m : List (List (Tmp × Option Nat) × Option (Nat × Bool) × Bool)) (ds : List (Option Tmp)) (hD : (l.take n).map (·.dst) = ds) (hm : P.follows .mixedOrders = true)
  (hB : (regB l.toArray n a0.tmps.size && rdsB l.toArray n 0 m) = true)
  (E : World → World → Prop) (Φ : Nat → Value → World → Prop)
  (hE : ∀ {A B C : World}, E A B → E B C → E A C) (hE0 : E w0 { w0 with drawn := w0.drawn + 1 }) (hr : ∀ w, E w w) (hst : ∀ i v A B, E w0 A → E A B → Φ i v A → Φ i v B)
  (hop : StepsV P a0 w0 E Φ 0 (l.take n) m)
  (hend : ∀ (vs : Nat → Value) w, (∀ i, i < n → Φ i (vs i) w) → E w0 w → wpList P l.toArray Q (l.drop n) (putD ds vs n a0) w) :
  (Code.region id l.toArray true).wp P Q a0 w0 := by
 rw [Bool.and_eq_true] at hB
 exact wp_region_inv n hm hB.1 E Φ (fun h k => hE h k) hE0 (hr _) hst (steps_of_stepsV hr _ m 0 (fun i hi => by
  have : i < n := by simp at hi; omega
  rw [Nat.zero_add, List.getElem?_take_of_lt this]; simp) hB.2 hop) (fun vs w h1 h2 => by
   rw [putAll_putD (ds := ds) vs n a0 (fun i hi => by subst hD; simp [dstOf, List.getD_eq_getElem?_getD, List.getElem?_map, List.getElem?_take_of_lt hi]; cases l[i]? <;> rfl)]
   exact hend vs w h1 h2)
end
section
variable {F : Fence} {n : Nat} {P : Program} {w : World}
end

theorem run_append_own' {P : Program} (w : World) (base : Nat) (t ty e : TypeId) (i : TypeInfo) (z : Value) (size bytes : Nat) (ht : P.underlying t = some (.slice e)) (hi : P.info? e = some i) (hz : i.zero = some z)
  (hsize : i.size = size) (hby : i.bytes = bytes) (hzs : z.cells.size = size) (hsz : 0 < size)
  (v : Value) (n : Nat) (xs : List Value) (hown : w.ownsRow base e size v n xs)
  (a : Addr) (m c : Nat) (news : List Value) (hl : news.length = m * size) (hnews : ∀ j u, news[j]? = some u → w.cell? (a.add j) = some u) (h1 : ∀ u ∈ news, u.oneCell' = true)
  (h63 : n + m ≤ maxLen) (hbytes : (n + m) * bytes ≤ 140737488355328) (hbase : base ≤ w.heap.size) :
  ∃ v' w', (Builtin.append_ #[t, t] ty #[v, .slice (some a) m c]).run P w = .ok v' w' ∧ w'.ownsRow base e size v' (n + m) (xs ++ news) ∧ w.grownBy w' v.ownBlock ∧
   (v' = .slice none 0 0 ↔ v = .slice none 0 0 ∧ m = 0) ∧ (∀ k, v'.ownBlock = some k → v.ownBlock = some k ∨ w.heap.size ≤ k) := by
 obtain ⟨v', w', hr, h2, h3, h4⟩ := run_append_own (P := P) w base t ty e i z size bytes ht hi hz hsize hby hzs hsz v n xs hown a m c news hl hnews h1 h63 hbytes hbase
 refine ⟨v', w', hr, h2, h3, h4, ?_⟩
 have hown0 := hown
 rcases hown.2 with ⟨rfl, rfl⟩ | ⟨g, cap, cur, rfl, hbg, hg, hnc, hcm, hcs, htake⟩
 ·have hx : xs = [] := List.eq_nil_of_length_eq_zero (by simpa using hown.1)
  subst hx
  obtain ⟨v2, w2, hr2, g2, _, _⟩ := run_append_own (P := P) w w.heap.size t ty e i z size bytes ht hi hz hsize hby hzs hsz (.slice none 0 0) 0 [] (World.ownsRow_nil _ _ _ _) a m c news hl hnews h1 h63 hbytes (Nat.le_refl _)
  rw [hr] at hr2
  cases hr2
  exact fun k hk => .inr (g2.lt k hk).1
 ·by_cases hroom : n + m ≤ cap
  ·subst hsize
   have hfit : n * i.size + news.length ≤ cur.size := by rw [hl, hcs, ← Nat.add_mul]; exact Nat.mul_le_mul_right _ hroom
   have hr2 := run_append_room (P := P) w t ty e i ht hi g n cap cur hg a m c news hl hnews h1 hroom hfit
   rw [hr] at hr2
   cases hr2
   exact fun k hk => .inl (by simpa [Value.ownBlock] using hk)
  ·subst hsize
   subst hby
   have holds : ∀ j u, xs[j]? = some u → w.cell? ((⟨g, 0, none⟩ : Addr).add j) = some u := hown.cells (g := g) rfl
   have hr2 := run_append_grow (P := P) w t ty e i z ht hi hz ⟨g, 0, none⟩ n cap xs hown.1 holds a m c news hl hnews (by omega) (by simp only [maxLen] at h63; omega) (growslice_fits (by simp only [maxLen] at h63; omega) hbytes)
   rw [hr] at hr2
   cases hr2
   exact fun k hk => .inr (by simp [Value.ownBlock] at hk; omega)

theorem wpList_append_own' {P : Program} (w : World) {ops : Array Oper} {rest : List Oper} {o : Oper} {a : Act} {Q : Exit → Act → World → Prop} (hgd : o.guard = none) (s x : Operand) (t : TypeId)
  (ho : o.op = .call { callee := .builtin .append, args := #[s, x], argTypes := #[t, t] })
  (base : Nat) (e : TypeId) (i : TypeInfo) (z : Value) (size bytes : Nat) (ht : P.underlying t = some (.slice e)) (hi : P.info? e = some i) (hz : i.zero = some z)
  (hsize : i.size = size) (hby : i.bytes = bytes) (hzs : z.cells.size = size) (hsz : 0 < size)
  (v : Value) (n : Nat) (xs : List Value) (hs : a.eval s = v) (hown : w.ownsRow base e size v n xs)
  (ad : Addr) (m c : Nat) (news : List Value) (hx : a.eval x = .slice (some ad) m c) (hl : news.length = m * size) (hnews : ∀ j u, news[j]? = some u → w.cell? (ad.add j) = some u) (h1 : ∀ u ∈ news, u.oneCell' = true)
  (h63 : n + m ≤ maxLen) (hbytes : (n + m) * bytes ≤ 140737488355328) (hbase : base ≤ w.heap.size)
  (h : ∀ v' w', w'.ownsRow base e size v' (n + m) (xs ++ news) → w.grownBy w' v.ownBlock → (v' = .slice none 0 0 ↔ v = .slice none 0 0 ∧ m = 0) → (∀ b, v'.ownBlock = some b → v.ownBlock = some b ∨ w.heap.size ≤ b) → wpList P ops Q rest (a.put o.dst v') w') : wpList P ops Q (o :: rest) a w :=
 wpList_plain hgd fun K hK => by
  obtain ⟨v', w', hr, h2, h3, h4, h5⟩ := run_append_own' (P := P) w base t o.type e i z size bytes ht hi hz hsize hby hzs hsz v n xs hown ad m c news hl hnews h1 h63 hbytes hbase
  unfold Oper.wp execOp
  simp only [ho, resolve, invoke, builtin, Sem.run_bind, Sem.run_pure, Result.andThen_ok, List.map_toArray, List.map_cons, List.map_nil, hs, hx, hr]
  exact hK _ _ (h v' w' h2 h3 h4 h5)
end Go.Proofs.YtedolbjgdedoaaaGreatDoor.Kit

namespace Go.Proofs.YtedolbjgdedoaaaGreatDoor
open Go.RowKit Go.WideMaps
open Go.Maps (Keyed)

namespace Kit
structure PTypes (P : Program) (t k el i : TypeId) : Prop where
 arr : ArrKey P k i 2
 int : P.underlying i = some (.int .i64)
 map : P.underlying t = some (.map k el)
 bool : P.underlying el = some .bool
 zero : ∀ w, (zeroValue el).run P w = .ok (.bool false) w
 some : ∃ m, P.types.size = m + 1
theorem PTypes.law {P : Program} {t k el i : TypeId} (T : PTypes P t k el i) : Keyed P k := Keyed.of_law T.arr.law
abbrev pkey (a b : Int) : Lit := .string (keyBytes [.int .i64 a, .int .i64 b])
abbrev wfI (a : Int) : Prop := (Lit.int .i64 a).wf = true
theorem PTypes.key {P : Program} {t k el i : TypeId} (T : PTypes P t k el i) {a b : Int} (wa : wfI a) (wb : wfI b) : keyOf P k (.agg #[.int .i64 a, .int .i64 b]) = Option.some (pkey a b) := keyOf_pair T.arr T.int T.some wa wb
theorem PTypes.inj {P : Program} {t k el i : TypeId} (T : PTypes P t k el i) {a b a' b' : Int} (wa : wfI a) (wb : wfI b) (wa' : wfI a') (wb' : wfI b') (h : pkey a b = pkey a' b') : (a, b) = (a', b') := by
 have h1 := T.key wa wb
 rw [h] at h1
 have := T.law.inj h1 (T.key wa' wb')
 simpa using this

def PSet (P : Program) (k el : TypeId) (w : World) (B n : Nat) (l : List (Int × Int)) : Prop :=
 ∃ D : DataW Unit, w.ownsMap P k (plainElem P el) B n D ∧ Maps.IsMap D ∧ (∀ x y, wfI x → wfI y → D.atKey (pkey x y) (.lit (.bool false)) = .lit (.bool (decide ((x, y) ∈ l))))

theorem PSet.made (P : Program) (k el : TypeId) (w : World) : PSet P k el (w.alloc (.map #[] 0)) w.heap.size 0 [] :=
 ⟨_, World.ownsMap_made w P k _, Maps.isMap_empty, fun x y _ _ => by simp [DataW.atKey]⟩
theorem PSet.lt {P : Program} {k el : TypeId} {w : World} {B n : Nat} {l : List (Int × Int)} (h : PSet P k el w B n l) : B < w.heap.size := by
 obtain ⟨D, h1, _⟩ := h
 exact h1.lt
theorem PSet.kept {P : Program} {k el : TypeId} {w w' : World} {B n : Nat} {l : List (Int × Int)} (h : PSet P k el w B n l) (hb : w'.heap[B]? = w.heap[B]?) : PSet P k el w' B n l := by
 obtain ⟨D, ⟨es, clock, h1, h2⟩, h3⟩ := h
 exact ⟨D, ⟨es, clock, hb.trans h1, h2⟩, h3⟩
theorem PSet.mono {P : Program} {k el : TypeId} {w : World} {B n n' : Nat} {l : List (Int × Int)} (h : PSet P k el w B n l) (hn : n ≤ n') : PSet P k el w B n' l := by
 obtain ⟨D, h1, h3⟩ := h
 exact ⟨D, h1.mono hn, h3⟩

theorem PSet.alloc {P : Program} {k el : TypeId} {w : World} {B n : Nat} {l : List (Int × Int)} (h : PSet P k el w B n l) (o : Obj) : PSet P k el (w.alloc o) B n l := by
 obtain ⟨D, h1, h3⟩ := h
 exact ⟨D, h1.alloc o, h3⟩
theorem PSet.grown {P : Program} {k el : TypeId} {w w' : World} {B n : Nat} {l : List (Int × Int)} {row : Option Nat} (h : PSet P k el w B n l) (hg : w.grownBy w' row) (hne : some B ≠ row) : PSet P k el w' B n l := by
 obtain ⟨D, h1, h3⟩ := h
 exact ⟨D, h1.kept hg hne, h3⟩

end Kit

end Go.Proofs.YtedolbjgdedoaaaGreatDoor

namespace Go.Proofs.YtedolbjgdedoaaaGreatDoor
open Go.RowKit Go.WideMaps

namespace Kit
def LR (W0 : World) (v0 v : Value) (w : World) : Prop := Exc (fun k => v0.ownBlock = some k) W0 w ∧ ∀ b, v.ownBlock = some b → v0.ownBlock = some b ∨ W0.heap.size ≤ b
theorem LR.refl (w : World) (v : Value) : LR w v v w := ⟨Exc.refl _ _, fun _ h => .inl h⟩
theorem LR.alloc {W0 w : World} {v0 v : Value} (h : LR W0 v0 v w) (o : Obj) : LR W0 v0 v (w.alloc o) := ⟨h.1.alloc o, h.2⟩
theorem LR.then {W0 w w' : World} {v0 v : Value} (h : LR W0 v0 v w) (k : Below w.heap.size w w') : LR W0 v0 v w' := ⟨h.1.then k, h.2⟩
theorem LR.grown {W0 w w' : World} {v0 v v' : Value} (h : LR W0 v0 v w) (hg : w.grownBy w' v.ownBlock) (hw : ∀ b, v'.ownBlock = some b → v.ownBlock = some b ∨ w.heap.size ≤ b) : LR W0 v0 v' w' :=
 ⟨h.1.grown hg (fun k hk => h.2 k hk), fun b hb => (hw b hb).elim (h.2 b) (fun h2 => .inr (Nat.le_trans h.1.size h2))⟩
theorem LR.size {W0 w : World} {v0 v : Value} (h : LR W0 v0 v w) : W0.heap.size ≤ w.heap.size := h.1.size
theorem LR.below {W0 w : World} {v0 v : Value} {n : Nat} (h : LR W0 v0 v w) (hn : n ≤ W0.heap.size) (hv : ∀ b, v0.ownBlock = some b → n ≤ b) : Below n W0 w := h.1.below hn hv
theorem LR.block {W0 w : World} {v0 v : Value} (h : LR W0 v0 v w) {b : Nat} (hb : b < W0.heap.size) (hv : v0.ownBlock ≠ some b) : w.heap[b]? = W0.heap[b]? := h.1.block b hb hv

theorem ownsRow_same {w w' : World} {base : Nat} {e : TypeId} {size : Nat} {v : Value} {n : Nat} {xs : List Value} (h : w.ownsRow base e size v n xs) (hk : ∀ k, v.ownBlock = some k → w'.heap[k]? = w.heap[k]?) : w'.ownsRow base e size v n xs := by
 obtain ⟨hlen, hv⟩ := h
 refine ⟨hlen, ?_⟩
 rcases hv with hv | ⟨g, cap, cur, rfl, hg, hh, r⟩
 ·exact .inl hv
 ·exact .inr ⟨g, cap, cur, rfl, hg, (hk g rfl).trans hh, r⟩
theorem ownsRow_thn {w w' : World} {base : Nat} {e : TypeId} {size : Nat} {v : Value} {n : Nat} {xs : List Value} (h : w.ownsRow base e size v n xs) (hb : Below w.heap.size w w') : w'.ownsRow base e size v n xs :=
 ownsRow_same h (fun k hk => hb.block k (h.lt k hk).2)

end Kit
end Go.Proofs.YtedolbjgdedoaaaGreatDoor
