/- A region that draws: its head quiet, its middle one by one, its last operations quiet again. -/
import Derived.Test.YtdaedjmkolcliaaKit
namespace Go.Proofs.Ytdaedjmkolcliaa.Kit
set_option linter.unusedVariables false
set_option linter.unusedSimpArgs false
open Go.RowKit
section
variable {P : Program} {ops : Array Oper} {md : Region.Mode} {C : World → Prop}

/-- Each of the last waits for one of them. -/
def waitB (md : Region.Mode) (ops : Array Oper) (n : Nat) : Bool :=
  (List.range ops.size).all fun t => decide (t ≤ n) || (List.range t).any fun j => decide (n ≤ j) && Region.waitsFor md ops t j
theorem tail_waits' {n : Nat} {listed : Array Bool} (hs : Region.sinkB md ops n = true) (hc : waitB md ops n = true) (inv : HeadInv md ops n listed) :
    ∀ (d i : Nat), n - i = d → i < n → listed.getD i true = false → ∀ t, n ≤ t → t ∉ Region.ready md ops listed := by
  intro d
  induction d using Nat.strongRecOn with
  | _ d ih =>
    intro i hd hi hun t ht hr
    obtain ⟨_, ot, hot, hall⟩ := mem_ready.1 hr
    have htlt : t < ops.size := (Array.getElem?_eq_some_iff.1 hot).1
    by_cases htn : t = n
    · subst htn
      have h1 := List.all_eq_true.1 hs i (List.mem_range.2 hi)
      obtain ⟨j, hj, hj2⟩ := List.any_eq_true.1 h1
      simp only [Bool.and_eq_true, decide_eq_true_eq] at hj2
      obtain ⟨oj, hoj, e, he, hb, hon⟩ := Region.waitsFor_spec hj2.2
      have hjle : j ≤ t := by have := List.mem_range.1 hj; omega
      by_cases hjt : j = t
      · subst hjt
        have : oj = ot := Option.some.inj (hoj.symm.trans hot)
        subst this
        have h2 := hall e he hb
        rw [hon, getD_both hun] at h2
        cases h2
      · cases hl : listed.getD j false with
        | true =>
          have h2 := inv.closed j oj hoj hl e he hb
          rw [hon, getD_both hun] at h2
          cases h2
        | false =>
          have hjs : j < listed.size := by rw [inv.size]; omega
          exact ih (t - j) (by omega) j rfl (by omega) (getD_in hjs hl) t (Nat.le_refl _) hr
    · have h1 := List.all_eq_true.1 hc t (List.mem_range.2 htlt)
      simp only [Bool.or_eq_true, decide_eq_true_eq] at h1
      rcases h1 with h1 | h1
      · omega
      · obtain ⟨j, hj, hj2⟩ := List.any_eq_true.1 h1
        simp only [Bool.and_eq_true, decide_eq_true_eq] at hj2
        have hjt := List.mem_range.1 hj
        obtain ⟨o', ho', e, he, hb, hon⟩ := Region.waitsFor_spec hj2.2
        have : o' = ot := Option.some.inj (ho'.symm.trans hot)
        subst this
        have h2 := hall e he hb
        rw [hon, getD_both (inv.tail j hj2.1 (by omega))] at h2
        cases h2
theorem wpAnyLQ_first' {n i : Nat} {oi : Oper} {v : Value} {L : Array Bool → Act → Prop} (hi : ops[i]? = some oi) (hsel : ∀ (j : Nat) (o : Oper) cs b, ops[j]? = some o → o.op ≠ .select cs b)
    (tw : ∀ listed, HeadInv md ops n listed → ∀ i, i < n → listed.getD i true = false → ∀ t, n ≤ t → t ∉ Region.ready md ops listed) (hin : i < n)
    (hdone : ∀ listed a, L listed a → ∀ j ∈ Region.ready md ops listed, n ≤ j) :
    ∀ (f : Nat) (listed : Array Bool) (a : Act), HeadInv md ops n listed →
      (∀ j oj, ops[j]? = some oj → j ≠ i → listed.getD j true = false → (∀ e ∈ oj.after, Region.binds md e = true → e.on ≠ i) → oi.apart ops oj = true) →
      i ∈ Region.ready md ops listed → YieldsIn P ops C oi v a →
      wpAnyLQ P md ops C n L f (listed.setIfInBounds i true) (a.put oi.dst v) → wpAnyLQ P md ops C n L (f + 1) listed a := by
  intro f
  induction f with
  | zero =>
    intro listed a inv _ hr hy H
    have hun := (mem_ready.1 hr).1
    refine ⟨fun h => (by rw [h] at hr; cases hr), fun j hj => ?_⟩
    have hjn : j < n := by
      rcases Nat.lt_or_ge j n with h | h
      · exact h
      · exact absurd hj (tw _ inv i hin hun j h)
    refine ⟨hjn, ?_⟩
    by_cases hji : j = i
    · subst hji; exact hy.qOp hi H
    · have := hdone _ _ H j (ready_mono hj hji)
      omega
  | succ f ih =>
    intro listed a inv hfree hr hy H
    have hun := (mem_ready.1 hr).1
    refine ⟨fun h => (by rw [h] at hr; cases hr), fun j hj => ?_⟩
    have hjn : j < n := by
      rcases Nat.lt_or_ge j n with h | h
      · exact h
      · exact absurd hj (tw _ inv i hin hun j h)
    refine ⟨hjn, ?_⟩
    by_cases hji : j = i
    · subst hji; exact hy.qOp hi H
    · have h1 := (H.2 j (ready_mono hj hji)).2
      obtain ⟨hjun, oj, hoj, hall⟩ := mem_ready.1 hj
      have hnot : ∀ e ∈ oj.after, Region.binds md e = true → e.on ≠ i := fun e he hb heq => by
        have h1 := hall e he hb
        rw [heq, getD_both hun] at h1
        cases h1
      have h2 := qOp_put hoj (hfree j oj hoj hji hjun hnot) (fun cs b => hsel i oi cs b hi) (fun cs b => hsel j oj cs b hoj) hy h1
      have hfree' : ∀ k ok, ops[k]? = some ok → k ≠ i → (listed.setIfInBounds j true).getD k true = false →
          (∀ e ∈ ok.after, Region.binds md e = true → e.on ≠ i) → oi.apart ops ok = true := fun k ok hk hki hun hno => by
        refine hfree k ok hk hki ?_ hno
        by_cases hjk : j = k
        · subst hjk; exact hjun
        · rw [getD_set_ne true hjk] at hun; exact hun
      refine qOp_mono (fun a' h3 => ih (listed.setIfInBounds j true) a' (inv.set hj hjn) hfree' (ready_mono hr (Ne.symm hji)) h3.1 ?_) h2
      rw [Array.setIfInBounds_comm _ _ hji]
      exact h3.2

/-- m operations that follow one another, then g whose lexical order serves every order. -/
def midB (md : Region.Mode) (ops : Array Oper) (g : Nat) : Nat → Nat → Array Bool → Bool
  | 0, k, listed => Region.lexFrom md ops g k listed
  | m + 1, k, listed => decide (Region.ready md ops listed = [k]) && midB md ops g m (k + 1) (listed.setIfInBounds k true)
def headMB (md : Region.Mode) (ops : Array Oper) (g m : Nat) : Nat → Nat → Array Bool → Bool
  | 0, k, listed => midB md ops g m k listed
  | f + 1, k, listed => (Region.ready md ops listed).contains k && Region.free md ops listed k && headMB md ops g m f (k + 1) (listed.setIfInBounds k true)
def lexMidB (md : Region.Mode) (ops : Array Oper) (n m : Nat) : Bool :=
  Region.noSelect ops && decide (n < ops.size) && decide (0 < m) && decide (n + m ≤ ops.size) && Region.sinkB md ops n && waitB md ops n && headMB md ops (ops.size - (n + m)) m n 0 (Array.replicate ops.size false)
/-- Behind the middle: the last operations, quiet. -/
def QMid (P : Program) (ops : Array Oper) (Q : Exit → Act → World → Prop) (l : List Oper) : Exit → Act → World → Prop
  | .normal, a, w => wpQuiet P ops (fun w' => w' = w) (fun a' => Q .normal a' w) l a
  | e, a, w => Q e a w
theorem oper_mid {l : List Oper} {Q : Exit → Act → World → Prop} {o : Oper} {a : Act} {w : World} {K : Act → World → Prop} (hh : o.wp P a w K (QMid P ops Q l)) : o.wp P a w K Q := by
  unfold Oper.wp at *
  generalize (execOp a.eval o).run P w = r at *
  cases r with
  | ok x w' =>
    cases x with
    | enter f args =>
      refine Calls.mono hh fun e w'' he => ?_
      cases e <;> exact he
    | _ => exact hh
  | halt x w' => cases x <;> exact hh
theorem letsOut_mid {l : List Oper} {Q : Exit → Act → World → Prop} (h : LetsOut (QMid P ops Q l)) : LetsOut Q := h
theorem wpAny_of_mid {Q : Exit → Act → World → Prop} (hsel : Region.noSelect ops = true) (l2 : List Oper) : ∀ (l1 : List Oper) (k : Nat) (listed : Array Bool) (a : Act) (w : World), (∀ j, (l1 ++ l2)[j]? = ops[k + j]?) →
    midB md ops l2.length l1.length k listed = true → wpList P ops (QMid P ops Q l2) l1 a w → wpAny P md ops Q (l1.length + l2.length) listed a w
  | [], k, listed, a, w, hl, hB, h => by
    have h1 : wpQuiet P ops (fun w' => w' = w) (fun a' => Q .normal a' w) l2 a := h
    have h2 := wpAnyQ_lex (C := fun w' => w' = w) (md := md) hsel l2 k listed a (by simpa using hl) hB h1
    have h3 := wpAny_of_quiet (C := fun w' => w' = w) (Q' := Q) (Q := fun a' => Q .normal a' w) (fun a' w' hw h => by subst hw; exact h) l2.length listed a w rfl h2
    simpa using h3
  | o :: l1, k, listed, a, w, hl, hB, h => by
    have h0 : ops[k]? = some o := by simpa using (hl 0).symm
    simp only [List.length_cons, midB, Bool.and_eq_true, decide_eq_true_eq] at hB
    rw [show (o :: l1).length + l2.length = (l1.length + l2.length) + 1 by simp; omega]
    refine ⟨fun h1 => (by rw [hB.1] at h1; cases h1), fun i hi => ?_⟩
    rw [hB.1] at hi
    have hik : i = k := by simpa using hi
    subst hik
    have hw : wpOp P ops Q i (wpList P ops (QMid P ops Q l2) l1) a w := by
      unfold wpOp
      simp only [h0]
      unfold wpList at h
      split
      · rename_i hw
        rw [if_pos hw] at h
        rcases h with h | h
        · exact .inl (oper_mid h)
        · exact .inr ⟨h.1, letsOut_mid h.2⟩
      · rename_i hw
        rw [if_neg hw] at h
        exact h
    exact wpOp_mono (fun a' w' h' => wpAny_of_mid hsel l2 l1 (i + 1) _ a' w' (fun j => by have := hl (j + 1); simpa [Nat.add_assoc, Nat.add_comm 1 j] using this) hB.2 h') hw
theorem midB_ready {g m k : Nat} {listed : Array Bool} (hm : 0 < m) (h : midB md ops g m k listed = true) : ∀ j ∈ Region.ready md ops listed, k ≤ j := by
  obtain ⟨m, rfl⟩ : ∃ q, m = q + 1 := ⟨m - 1, by omega⟩
  intro j hj
  simp only [midB, Bool.and_eq_true, decide_eq_true_eq] at h
  rw [h.1] at hj
  have : j = k := by simpa using hj
  omega
theorem wpAnyLQ_mid {n g m : Nat} {Lq : Act → Prop} (hm : 0 < m) (hsel : Region.noSelect ops = true) (hs : Region.sinkB md ops n = true) (hc : waitB md ops n = true) :
    ∀ (l : List Oper) (k : Nat) (listed : Array Bool) (a : Act), (∀ j, j < l.length → l[j]? = ops[k + j]?) → k + l.length = n → HeadInv md ops n listed →
    headMB md ops g m l.length k listed = true → wpQuiet P ops C Lq l a →
    wpAnyLQ P md ops C n (fun listed' a' => midB md ops g m n listed' = true ∧ Lq a') l.length listed a
  | [], k, listed, a, _, hk, _, hB, h => by
    have : k = n := by simpa using hk
    subst this
    exact ⟨by simpa [headMB] using hB, h⟩
  | o :: l, k, listed, a, hl, hk, inv, hB, h => by
    have h0 : ops[k]? = some o := by simpa using (hl 0 (by simp)).symm
    simp only [List.length_cons, headMB, Bool.and_eq_true] at hB
    obtain ⟨⟨hr, hf⟩, hB'⟩ := hB
    have hkn : k < n := by simp only [List.length_cons] at hk; omega
    have hr' : k ∈ Region.ready md ops listed := by simpa using hr
    have hst : qOp P ops C k (wpQuiet P ops C Lq l) a := by unfold qOp; simp only [h0]; exact h
    obtain ⟨v, hy, hK⟩ := yieldsIn_of_qOp h0 hst
    exact wpAnyLQ_first' h0 (Region.noSelect_spec hsel) (fun _ inv i hi hu t ht => tail_waits' hs hc inv _ i rfl hi hu t ht) hkn (fun listed' a' hL => midB_ready hm hL.1) l.length listed a inv (Region.free_spec h0 hf) hr' hy
      (wpAnyLQ_mid hm hsel hs hc l (k + 1) _ _ (fun j hj => by have := hl (j + 1) (by simp; omega); simpa [Nat.add_assoc, Nat.add_comm 1 j] using this) (by simp only [List.length_cons] at hk; omega) (inv.set hr' hkn) hB' hK)
/-- The first n quiet (callees may make memory), m one by one, the rest quiet. -/
theorem wp_region_cls_mid {id : Nat} {Q : Exit → Act → World → Prop} {a : Act} {w : World} {l : List Oper} (n m : Nat) (hm : P.follows .mixedOrders = true) (hB : lexMidB .any l.toArray n m = true)
    (h : wpQuiet P l.toArray (fun w' => ∃ x : Wd w, w' = x.val) (fun a' => ∀ x : Wd w, wpList P l.toArray (QMid P l.toArray Q (l.drop (n + m))) ((l.drop n).take m) a' x.val) (l.take n) a) : (Code.region id l.toArray true).wp P Q a w := by
  simp only [lexMidB, Bool.and_eq_true, decide_eq_true_eq] at hB
  obtain ⟨⟨⟨⟨⟨⟨hsel, hn⟩, hm0⟩, hnm⟩, hs⟩, hc⟩, hlex⟩ := hB
  have hn' : n < l.length := by simpa using hn
  have hnm' : n + m ≤ l.length := by simpa using hnm
  have htl : (l.take n).length = n := by simp; omega
  have hml : ((l.drop n).take m).length = m := by simp; omega
  have hdl : (l.drop (n + m)).length = l.toArray.size - (n + m) := by simp
  have inv0 : HeadInv .any l.toArray n (Array.replicate l.toArray.size false) :=
    ⟨by simp, fun j oj _ hl => (by rw [getD_replicate_false] at hl; cases hl), fun t _ ht => getD_in (by simpa using ht) (getD_replicate_false _ _)⟩
  have h' : wpQuiet P l.toArray (fun w' => ∃ x : Wd w, w' = x.val) (fun a' => ∀ w', (∃ x : Wd w, w' = x.val) → wpList P l.toArray (QMid P l.toArray Q (l.drop (n + m))) ((l.drop n).take m) a' w') (l.take n) a := by
    have : (fun a' => ∀ x : Wd w, wpList P l.toArray (QMid P l.toArray Q (l.drop (n + m))) ((l.drop n).take m) a' x.val) = fun a' => ∀ w', (∃ x : Wd w, w' = x.val) → wpList P l.toArray (QMid P l.toArray Q (l.drop (n + m))) ((l.drop n).take m) a' w' := by
      funext a'; simp
    rw [this] at h; exact h
  have H := wpAnyLQ_mid (md := .any) (g := l.toArray.size - (n + m)) (m := m) hm0 hsel hs hc (l.take n) 0 _ a (fun j hj => by
    have hj' : j < n := by rw [htl] at hj; exact hj
    simp [hj']) (by simpa using htl) inv0 (by rw [htl]; exact hlex) h'
  refine wp_region_any hm ?_
  have := wpAny_of_headQ (Q' := Q) (g := m + (l.toArray.size - (n + m))) (fun listed a' w' hw' hL => by
    have := wpAny_of_mid (md := .any) (Q := Q) hsel (l.drop (n + m)) ((l.drop n).take m) n listed a' w' (fun j => by
      have e : (l.drop n).take m ++ l.drop (n + m) = l.drop n := by
        rw [show l.drop (n + m) = (l.drop n).drop m by rw [List.drop_drop], List.take_append_drop]
      rw [e, List.getElem?_drop]; simp) (by rw [hdl, hml]; exact hL.1) (hL.2 w' hw')
    rwa [hdl, hml] at this) _ _ _ _ (cls_drew w) H
  rw [htl, show n + (m + (l.toArray.size - (n + m))) = l.toArray.size by simp; omega] at this
  exact this
end
end Go.Proofs.Ytdaedjmkolcliaa.Kit
