/- Laws: regions walked in the plain calculus, met in the round of a range over a function. -/
import Derived.OrdersIn
import Derived.TacticsIn
import Derived.RangeFuncCalls
import Derived.Test.YtbhgogiaaljclaaGreatDoorKit
namespace Go.Proofs.YtbhgogiaaljclaaGreatDoor.Kit
set_option linter.unusedVariables false
set_option linter.unusedSimpArgs false
open Go.RowKit

def noDefer (ops : Array Oper) : Bool := ops.all fun o => match o.op with | .defer _ => false | _ => true
theorem noDefer_spec {ops : Array Oper} (h : noDefer ops = true) (i : Nat) (o : Oper) (ho : ops[i]? = some o) (c : Call) : o.op ≠ .defer c := by
  intro e
  have h1 := Array.all_eq_true_iff_forall_mem.1 h o (Array.mem_of_getElem? ho)
  simp [e] at h1

section
variable {l n : Nat} {P : Program} {Q : Exit → Act → World → Prop}
theorem oper_round {o : Oper} {a : Act} {w : World} {K : Act → World → Prop} (h : ∀ c, o.op ≠ .defer c) (hh : o.wp P a w K Q) : o.wpIn (Fence.wide.inRound l) n P a w K Q := by
  refine ⟨fun _ _ => trivial, ?_⟩
  rw [Oper.semAt_eq _ _ _ h]
  unfold Oper.wp at hh
  generalize (execOp a.eval o).run P w = r at *
  cases r with
  | ok x w' =>
    cases x with
    | value v => exact hh
    | skip => exact hh
    | defer d => exact hh
    | enter f args =>
      refine ⟨fun h => by simp [Fence.wide] at h, ?_⟩
      refine CallsIn.mono ((callsIn_wide.2 hh).inRound l) fun e w'' he => ?_
      cases e <;> exact he
    | row row args =>
      refine ⟨fun h => by simp [Fence.wide] at h, fun c cs _ => ?_⟩
      obtain ⟨v, w'', r, s⟩ := hh c cs
      exact ⟨v, w'', r, stepsIn_wide.2 s⟩
    | _ => exact hh.elim
  | halt x w' => cases x <;> first | exact hh | exact hh.elim
theorem any_round {md : Region.Mode} {ops : Array Oper} (hd : ∀ (i : Nat) (o : Oper), ops[i]? = some o → ∀ c : Call, o.op ≠ .defer c) (hQ : ¬ LetsOut Q) :
    ∀ (f : Nat) (listed : Array Bool) (a : Act) (w : World), wpAny P md ops Q f listed a w → wpAnyIn (Fence.wide.inRound l) n P md ops Q f listed a w
  | 0, _, _, _, h => h
  | f + 1, listed, a, w, h => ⟨h.1, fun i hi => by
      have h1 := h.2 i hi
      unfold wpOp at h1
      unfold wpOpIn
      split at h1
      · rename_i e; simp only [e]; exact any_round hd hQ f _ _ _ h1
      · rename_i o e
        simp only [e]
        split
        · rename_i hw
          rw [if_pos hw] at h1
          rcases h1 with h1 | h1
          · exact Oper.wpIn_mono (fun a w h => any_round hd hQ f _ a w h) (oper_round (hd i o e) h1)
          · exact absurd h1.2 hQ
        · rename_i hw
          rw [if_neg hw] at h1
          exact ⟨fun _ _ => trivial, any_round hd hQ f _ _ _ h1⟩⟩
theorem list_round {ops : Array Oper} (hQ : ¬ LetsOut Q) : ∀ (os : List Oper) (a : Act) (w : World), (∀ o ∈ os, ∀ c, o.op ≠ .defer c) → wpList P ops Q os a w → wpListIn (Fence.wide.inRound l) n P ops Q os a w
  | [], _, _, _, h => h
  | o :: os, a, w, hd, h => by
      have h1 := h
      unfold wpList at h1
      unfold wpListIn
      split
      · rename_i hw
        rw [if_pos hw] at h1
        rcases h1 with h1 | h1
        · exact Oper.wpIn_mono (fun a w h => list_round hQ os a w (fun o ho => hd o (List.mem_cons_of_mem _ ho)) h) (oper_round (hd o (List.mem_cons_self ..)) h1)
        · exact absurd h1.2 hQ
      · rename_i hw
        rw [if_neg hw] at h1
        exact ⟨fun _ _ => trivial, list_round hQ os _ _ (fun o ho => hd o (List.mem_cons_of_mem _ ho)) h1⟩
/-- A region that does not draw, in a round: walked plainly. -/
theorem wpIn_region_plain {id : Nat} {os : List Oper} {a : Act} {w : World} (hQ : ¬ LetsOut Q) (hd : noDefer os.toArray = true) (h : wpList P os.toArray Q os a w) : (Code.region id os.toArray false).wpIn (Fence.wide.inRound l) n P Q a w :=
  wpIn_region_lit (list_round hQ os a w (fun o ho => by
    obtain ⟨i, hi⟩ := List.mem_iff_getElem?.1 ho
    exact noDefer_spec hd i o (by simpa using hi)) h)
/-- A region that draws, in a round. -/
theorem wpIn_region_any' {id : Nat} {ops : Array Oper} {a : Act} {w : World} (hQ : ¬ LetsOut Q) (hd : noDefer ops = true) (hm : P.follows .mixedOrders = true)
    (h : wpAny P .any ops Q ops.size (Array.replicate ops.size false) a { w with drawn := w.drawn + 1 }) : (Code.region id ops true).wpIn (Fence.wide.inRound l) n P Q a w :=
  wpIn_region_any hm (any_round (noDefer_spec hd) hQ _ _ _ _ h)
/-- .. whose first operations only read, and whose others follow one another. -/
theorem wpIn_region_tail {id : Nat} {a : Act} {w : World} {os : List Oper} (k : Nat) (hQ : ¬ LetsOut Q) (hd : noDefer os.toArray = true) (hm : P.follows .mixedOrders = true) (hB : Region.lexTailB .any os.toArray k = true)
    (h : wpQuiet P os.toArray (fun w' => ∃ x : Wd w, w' = x.val) (fun a' => ∀ x : Wd w, wpList P os.toArray Q (os.drop k) a' x.val) (os.take k) a) : (Code.region id os.toArray true).wpIn (Fence.wide.inRound l) n P Q a w := by
  simp only [Region.lexTailB, Bool.and_eq_true, decide_eq_true_eq] at hB
  obtain ⟨⟨⟨⟨hsel, hn⟩, hs⟩, hc⟩, hlex⟩ := hB
  have hn' : k < os.length := by simpa using hn
  have htl : (os.take k).length = k := by simp; omega
  have hdl : (os.drop k).length = os.toArray.size - k := by simp
  have inv0 : HeadInv .any os.toArray k (Array.replicate os.toArray.size false) :=
    ⟨by simp, fun j oj _ hl => (by rw [getD_replicate_false] at hl; cases hl), fun t _ ht => getD_in (by simpa using ht) (getD_replicate_false _ _)⟩
  have H := wpAnyLQ_lex (md := .any) (g := os.toArray.size - k) hsel hs hc hn (os.take k) 0 _ a (fun j hj => by
    have hj' : j < k := by rw [htl] at hj; exact hj
    simp [hj']) (by simpa using htl) inv0 (by rw [htl]; exact hlex) h
  refine wpIn_region_any' hQ hd hm ?_
  have := wpAny_of_headQ (Q' := Q) (g := os.toArray.size - k) (fun listed a' w' hw' hL => by
    have := wpAny_of_seq (md := .any) (ops := os.toArray) (Q' := Q) (os.drop k) k listed a' w' (fun j => by simp [List.getElem?_drop]) (by rw [hdl]; exact hL.1) (by
      obtain ⟨x, rfl⟩ := hw'
      exact hL.2 x)
    rwa [hdl] at this) _ _ _ _ (cls_drew w) H
  rw [htl, show k + (os.toArray.size - k) = os.toArray.size by omega] at this
  exact this
/-- .. that only reads. -/
theorem wpIn_region_reads {id : Nat} {a : Act} {w : World} {os : List Oper} (hQ : ¬ LetsOut Q) (hd : noDefer os.toArray = true) (hm : P.follows .mixedOrders = true) (hB : Region.lexB .any os.toArray = true)
    (h : wpQuiet P os.toArray (fun w' => ∃ x : Wd w, w' = x.val) (fun a' => ∀ x : Wd w, Q .normal a' x.val) os a) : (Code.region id os.toArray true).wpIn (Fence.wide.inRound l) n P Q a w := by
  simp only [Region.lexB, Bool.and_eq_true] at hB
  refine wpIn_region_any' hQ hd hm (wpAny_of_quiet (C := fun w' => ∃ x : Wd w, w' = x.val) (Q := fun a' => ∀ w', (∃ x : Wd w, w' = x.val) → Q .normal a' w') (fun _ w' hw' h => h w' hw') _ _ _ _ (cls_drew w) ?_)
  have h' : wpQuiet P os.toArray (fun w' => ∃ x : Wd w, w' = x.val) (fun a' => ∀ w', (∃ x : Wd w, w' = x.val) → Q .normal a' w') os a := by
    have e : (fun a' => ∀ x : Wd w, Q .normal a' x.val) = fun a' => ∀ w', (∃ x : Wd w, w' = x.val) → Q .normal a' w' := by
      funext a'; simp
    rwa [e] at h
  have := wpAnyQ_lex (C := fun w' => ∃ x : Wd w, w' = x.val) (md := .any) hB.1 os 0 (Array.replicate os.toArray.size false) a (by simp) (by simpa using hB.2) h'
  simpa using this
/-- The world under a name of its own. -/
theorem wpIn_name {F : Fence} {c : Code} {a : Act} {w : World} (h : ∀ W, W = w → c.wpIn F n P Q a W) : c.wpIn F n P Q a w := h w rfl
end
end Go.Proofs.YtbhgogiaaljclaaGreatDoor.Kit
