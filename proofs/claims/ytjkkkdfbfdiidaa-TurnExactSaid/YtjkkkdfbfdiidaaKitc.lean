/- A region that draws its order and holds stores into cells that nobody else of the region looks at, between calls that make memory: one walk of the text's order serves every order. What is known of the world is a family over the operations that have been carried out. -/
import Derived.Test.YtjkkkdfbfdiidaaKitb
namespace Go.Proofs.Ytjkkkdfbfdiidaa.Kit
set_option linter.unusedVariables false
set_option linter.unusedSimpArgs false
open Go.RowKit

section
variable {P : Program} {ops : Array Oper} {md : Region.Mode} {CF : Array Bool → World → Prop}

def upF (P : Program) (C' : World → Prop) (v : Value) : Result Next → Prop
  | .ok (.value u) w' => C' w' ∧ u = v
  | .ok .skip w' => C' w' ∧ v = undef
  | .ok (.enter f args) w' => Calls P f args w' (fun e w'' => e = .returned v ∧ C' w'')
  | _ => False

/-- Operation i yields v, in every world of the family, and leaves one of the family, i carried out. -/
def YieldsF (P : Program) (ops : Array Oper) (CF : Array Bool → World → Prop) (o : Oper) (i : Nat) (v : Value) (a : Act) : Prop :=
  (Region.wanted o (yielded ops a.tmps) = true ∧ ∀ d w, d.getD i true = false → CF d w → upF P (CF (d.setIfInBounds i true)) v ((execOp a.eval o).run P w)) ∨
  (Region.wanted o (yielded ops a.tmps) = false ∧ v = undef ∧ ∀ d w, d.getD i true = false → CF d w → CF (d.setIfInBounds i true) w)

def fOp (P : Program) (ops : Array Oper) (CF : Array Bool → World → Prop) (i : Nat) (K : Act → Prop) (a : Act) : Prop :=
  ∃ o, ops[i]? = some o ∧ ∃ v, YieldsF P ops CF o i v a ∧ K (a.put o.dst v)

theorem fOp_mono {i : Nat} {a : Act} {K K' : Act → Prop} (h : ∀ a, K a → K' a) (hh : fOp P ops CF i K a) : fOp P ops CF i K' a :=
  let ⟨o, ho, v, hy, hk⟩ := hh
  ⟨o, ho, v, hy, h _ hk⟩

theorem YieldsF.of_same {o : Oper} {i : Nat} {v : Value} {a a' : Act} (hy : YieldsF P ops CF o i v a) (he : execOp a'.eval o = execOp a.eval o)
    (hw : Region.wanted o (yielded ops a'.tmps) = Region.wanted o (yielded ops a.tmps)) : YieldsF P ops CF o i v a' := by
  unfold YieldsF at *
  rw [he, hw]
  exact hy

theorem wpOp_of_fOp {i : Nat} {a : Act} {K : Act → Prop} {K' : Act → World → Prop} {Q' : Exit → Act → World → Prop} {w : World} {d : Array Bool} (hd : d.getD i true = false) (hC : CF d w)
    (h : ∀ a w', CF (d.setIfInBounds i true) w' → K a → K' a w') (hh : fOp P ops CF i K a) : wpOp P ops Q' i K' a w := by
  obtain ⟨o, ho, v, hy, hk⟩ := hh
  unfold wpOp
  simp only [ho]
  rcases hy with ⟨hw, hv⟩ | ⟨hw, rfl, hv⟩
  · simp only [hw, if_true]
    refine .inl ?_
    have h3 := hv d w hd hC
    unfold Oper.wp
    generalize (execOp a.eval o).run P w = r at *
    cases r with
    | ok n w' =>
      cases n <;> simp only [upF] at h3 <;> simp only [Oper.upon]
      case value u =>
        obtain ⟨e1, e2⟩ := h3
        rw [e2]
        exact h _ _ e1 hk
      case skip =>
        obtain ⟨e1, e2⟩ := h3
        rw [← e2]
        exact h _ _ e1 hk
      case enter f args =>
        exact h3.mono fun e w'' ⟨he, hw''⟩ => by subst he; exact h _ _ hw'' hk
    | halt x w' => simp only [upF] at h3
  · simp only [hw]
    exact h _ _ (hv d w hd hC) hk

def wpAnyF (P : Program) (md : Region.Mode) (ops : Array Oper) (CF : Array Bool → World → Prop) (L : Array Bool → Act → Prop) : Nat → Array Bool → Act → Prop
  | 0, listed, a => L listed a
  | f + 1, listed, a => Region.ready md ops listed ≠ [] ∧ ∀ i ∈ Region.ready md ops listed, fOp P ops CF i (wpAnyF P md ops CF L f (listed.setIfInBounds i true)) a

theorem wpAny_of_F {L : Array Bool → Act → Prop} {Q' : Exit → Act → World → Prop} (hL : ∀ listed a w, CF listed w → L listed a → Region.ready md ops listed = [] ∧ Q' .normal a w) :
    ∀ (f : Nat) (listed : Array Bool) (a : Act) (w : World), CF listed w → wpAnyF P md ops CF L f listed a → wpAny P md ops Q' f listed a w
  | 0, listed, a, w, hw, h => hL _ _ _ hw h
  | f + 1, listed, a, w, hw, h =>
    ⟨fun h0 => absurd h0 h.1, fun i hi => wpOp_of_fOp (mem_ready.1 hi).1 hw (fun a' w' hw' h' => wpAny_of_F hL f _ a' w' hw' h') (h.2 i hi)⟩

theorem fOp_put {i j : Nat} {oi oj : Oper} {v : Value} (hj : ops[j]? = some oj) (hap : oi.apart ops oj = true)
    (hsi : ∀ cs b, oi.op ≠ .select cs b) (hsj : ∀ cs b, oj.op ≠ .select cs b) {K : Act → Prop} {a : Act}
    (hy : YieldsF P ops CF oi i v a) (h : fOp P ops CF j K (a.put oi.dst v)) :
    fOp P ops CF j (fun a' => YieldsF P ops CF oi i v a' ∧ K (a'.put oi.dst v)) a := by
  obtain ⟨h1, h2, h3⟩ := Oper.apart_spec hap
  obtain ⟨o, ho, u, hu, hk⟩ := h
  have : o = oj := Option.some.inj (ho.symm.trans hj)
  subst this
  refine ⟨o, hj, u, ?_, ?_, ?_⟩
  · exact hu.of_same (execOp_put o hsj a oi.dst v h1).symm (wanted_put o a oi.dst v h1).symm
  · exact hy.of_same (execOp_put oi hsi a o.dst u h3) (wanted_put oi a o.dst u h3)
  · rw [← Act.put_comm a v u h2]; exact hk

theorem wpAnyF_first {i : Nat} {oi : Oper} {v : Value} {L : Array Bool → Act → Prop} (hi : ops[i]? = some oi) (hsel : ∀ (j : Nat) (o : Oper) cs b, ops[j]? = some o → o.op ≠ .select cs b)
    (hdone : ∀ listed a, L listed a → Region.ready md ops listed = []) :
    ∀ (f : Nat) (listed : Array Bool) (a : Act),
      (∀ j oj, ops[j]? = some oj → j ≠ i → listed.getD j true = false → (∀ e ∈ oj.after, Region.binds md e = true → e.on ≠ i) → oi.apart ops oj = true) →
      i ∈ Region.ready md ops listed → YieldsF P ops CF oi i v a →
      wpAnyF P md ops CF L f (listed.setIfInBounds i true) (a.put oi.dst v) → wpAnyF P md ops CF L (f + 1) listed a := by
  intro f
  induction f with
  | zero =>
    intro listed a _ hr hy H
    refine ⟨fun h => (by rw [h] at hr; cases hr), fun j hj => ?_⟩
    by_cases hji : j = i
    · subst hji; exact ⟨oi, hi, v, hy, H⟩
    · have := ready_mono hj hji
      rw [hdone _ _ H] at this
      cases this
  | succ f ih =>
    intro listed a hfree hr hy H
    refine ⟨fun h => (by rw [h] at hr; cases hr), fun j hj => ?_⟩
    by_cases hji : j = i
    · subst hji; exact ⟨oi, hi, v, hy, H⟩
    · have h1 := H.2 j (ready_mono hj hji)
      obtain ⟨hjun, oj, hoj, hall⟩ := mem_ready.1 hj
      have hnot : ∀ e ∈ oj.after, Region.binds md e = true → e.on ≠ i := fun e he hb heq => by
        have h1 := hall e he hb
        have h0 := (mem_ready.1 hr).1
        rw [heq] at h1
        rcases Nat.lt_or_ge i listed.size with h' | h'
        · simp [h'] at h0 h1; rw [h0] at h1; cases h1
        · simp [Array.getElem?_eq_none h'] at h1
      have h2 := fOp_put hoj (hfree j oj hoj hji hjun hnot) (fun cs b => hsel i oi cs b hi) (fun cs b => hsel j oj cs b hoj) hy h1
      have hfree' : ∀ k ok, ops[k]? = some ok → k ≠ i → (listed.setIfInBounds j true).getD k true = false →
          (∀ e ∈ ok.after, Region.binds md e = true → e.on ≠ i) → oi.apart ops ok = true := fun k ok hk hki hun hno => by
        refine hfree k ok hk hki ?_ hno
        by_cases hjk : j = k
        · subst hjk; exact hjun
        · rw [getD_set_ne true hjk] at hun; exact hun
      refine fOp_mono (fun a' h3 => ih (listed.setIfInBounds j true) a' hfree' (ready_mono hr (Ne.symm hji)) h3.1 ?_) h2
      rw [Array.setIfInBounds_comm _ _ hji]
      exact h3.2

/-- The text's order, operation k first. -/
def wpFam (P : Program) (ops : Array Oper) (CF : Array Bool → World → Prop) (Q : Act → Prop) : Nat → List Oper → Act → Prop
  | _, [], a => Q a
  | k, o :: rest, a => ∃ v, YieldsF P ops CF o k v a ∧ wpFam P ops CF Q (k + 1) rest (a.put o.dst v)

theorem wpAnyF_lex {Lq : Act → Prop} (hsel : Region.noSelect ops = true) :
    ∀ (l : List Oper) (k : Nat) (listed : Array Bool) (a : Act), (∀ j, l[j]? = ops[k + j]?) → k + l.length = ops.size → listed.size = ops.size → (∀ j, j < k → listed.getD j false = true) →
    Region.lexFrom md ops l.length k listed = true → wpFam P ops CF Lq k l a →
    wpAnyF P md ops CF (fun listed' a' => (listed'.size = ops.size ∧ (∀ j, j < ops.size → listed'.getD j false = true) ∧ Region.ready md ops listed' = []) ∧ Lq a') l.length listed a
  | [], k, listed, a, _, hk, hs, hd, hB, h => by
    refine ⟨⟨hs, fun j hj => hd j (by simpa using (by simp at hk; omega : j < k)), by simpa [Region.lexFrom] using hB⟩, h⟩
  | o :: l, k, listed, a, hl, hk, hs, hd, hB, h => by
    have h0 : ops[k]? = some o := by simpa using (hl 0).symm
    simp only [List.length_cons, Region.lexFrom, Bool.and_eq_true] at hB
    obtain ⟨⟨hr, hf⟩, hB'⟩ := hB
    obtain ⟨v, hy, hK⟩ := h
    refine wpAnyF_first h0 (Region.noSelect_spec hsel) (fun _ _ hL => hL.1.2.2) l.length listed a (Region.free_spec h0 hf) (by simpa using hr) hy
      (wpAnyF_lex hsel l (k + 1) _ _ (fun j => by have := hl (j + 1); simpa [Nat.add_assoc, Nat.add_comm 1 j] using this) (by simp only [List.length_cons] at hk; omega) (by simpa using hs) (fun j hj => ?_) hB' hK)
    by_cases hjk : j = k
    · subst hjk
      have : j < listed.size := by simp only [List.length_cons] at hk; omega
      simp [this]
    · rw [getD_set_ne false (Ne.symm hjk)]; exact hd j (by omega)

theorem wp_region_fam {id : Nat} {Q : Exit → Act → World → Prop} {a : Act} {w : World} {l : List Oper} (hm : P.follows .mixedOrders = true) (hB : Region.lexB .any l.toArray = true)
    (hC : CF (Array.replicate l.toArray.size false) { w with drawn := w.drawn + 1 })
    (h : wpFam P l.toArray CF (fun a' => ∀ d w', (∀ j, j < l.length → d.getD j false = true) → CF d w' → Q .normal a' w') 0 l a) : (Code.region id l.toArray true).wp P Q a w := by
  simp only [Region.lexB, Bool.and_eq_true] at hB
  refine wp_region_any hm ?_
  have H := wpAnyF_lex (md := .any) hB.1 l 0 (Array.replicate l.toArray.size false) a (fun j => by simp) (by simp) (by simp) (fun j hj => by omega) (by simpa using hB.2) h
  have := wpAny_of_F (Q' := Q) (fun listed a' w' hw' hL => ⟨hL.1.2.2, hL.2 listed w' (fun j hj => hL.1.2.1 j (by simpa using hj)) hw'⟩) _ _ _ _ hC H
  simpa using this

/-! ### The family: below W's end all is as W was, but for the blocks bs; each place of St holds its value once its operation is done. -/
structure BelowX (W : World) (bs : List Nat) (w : World) : Prop where
  os : w.os = W.os
  tape : w.tape = W.tape
  output : w.output = W.output
  size : W.heap.size ≤ w.heap.size
  block : ∀ k, k < W.heap.size → k ∉ bs → w.heap[k]? = W.heap[k]?

abbrev Plc := Nat × Addr × Value

structure Wx (W : World) (St : List Plc) where
  val : World
  below : BelowX W (St.map fun s => s.2.1.block) val
  there : ∀ s ∈ St, (val.cell? s.2.1).isSome = true ∧ val.frozen? s.2.1 = false

def Fam (W : World) (St : List Plc) (d : Array Bool) (w : World) : Prop :=
  ∃ x : Wx W St, w = x.val ∧ ∀ s ∈ St, d.getD s.1 false = true → w.cell? s.2.1 = some s.2.2

theorem inj_of_nodup {α β : Type} {f : α → β} : ∀ {l : List α}, (l.map f).Nodup → ∀ {x y : α}, x ∈ l → y ∈ l → f x = f y → x = y
  | z :: l, h, x, y, hx, hy, e => by
    simp only [List.map_cons, List.nodup_cons] at h
    rcases List.mem_cons.1 hx with hx' | hx' <;> rcases List.mem_cons.1 hy with hy' | hy'
    · rw [hx', hy']
    · exact absurd (List.mem_map.2 ⟨y, hy', by rw [← e, hx']⟩) h.1
    · exact absurd (List.mem_map.2 ⟨x, hx', by rw [e, hy']⟩) h.1
    · exact inj_of_nodup h.2 hx' hy' e

variable {W : World} {St : List Plc}
theorem Wx.cell (x : Wx W St) {a : Addr} {v : Value} (h : W.cell? a = some v) (hb : a.block < W.heap.size) (hn : a.block ∉ St.map fun s => s.2.1.block) : x.val.cell? a = some v :=
  (World.cell?_of_block (w := W) (x.below.block a.block hb hn)).trans h

theorem Wx.at_ (x : Wx W St) (s : Plc) (h : s ∈ St) : (∃ u, x.val.cell? s.2.1 = some u) ∧ x.val.frozen? s.2.1 = false := ⟨Option.isSome_iff_exists.1 (x.there s h).1, (x.there s h).2⟩
/-- What is known behind the region. -/
theorem Fam.end_ {B n : Nat} {w0 : World} {d : Array Bool} {w : World} (h : Fam W St d w) (hd0 : ∀ j, j < n → d[j]?.getD false = true) (hn : ∀ s ∈ St, s.1 < n) (hb : Below B w0 W) (hB : B ≤ W.heap.size) (hs : ∀ s ∈ St, B ≤ s.2.1.block) :
    Below B w0 w ∧ (∀ s ∈ St, w.cell? s.2.1 = some s.2.2) ∧ ∃ x : Wx W St, w = x.val := by
  have hd : ∀ j, j < n → d.getD j false = true := fun j hj => by rw [Array.getD_eq_getD_getElem?]; exact hd0 j hj
  obtain ⟨x, rfl, hx⟩ := h
  refine ⟨⟨x.below.os.trans hb.os, x.below.tape.trans hb.tape, x.below.output.trans hb.output, Nat.le_trans hb.size x.below.size, fun k hk => (x.below.block k (by omega) (fun hm => ?_)).trans (hb.block k hk)⟩, fun s hm => hx s hm (hd _ (hn s hm)), x, rfl⟩
  obtain ⟨s, hs', e⟩ := List.mem_map.1 hm
  have := hs s hs'
  omega
/-- A callee that leaves what was there keeps the family. -/
theorem Fam.below {d d' : Array Bool} {w w' : World} (h : Fam W St d w) (hd : ∀ s ∈ St, d'.getD s.1 false = d.getD s.1 false) (hs : ∀ s ∈ St, s.2.1.block < W.heap.size) (hb : Below w.heap.size w w') : Fam W St d' w' := by
  obtain ⟨x, rfl, hx⟩ := h
  have hc : ∀ s ∈ St, w'.cell? s.2.1 = x.val.cell? s.2.1 := fun s hm => hb.cell (Nat.lt_of_lt_of_le (hs s hm) x.below.size)
  refine ⟨⟨w', ⟨hb.os.trans x.below.os, hb.tape.trans x.below.tape, hb.output.trans x.below.output, Nat.le_trans x.below.size hb.size, fun k hk hn => (hb.block k (Nat.lt_of_lt_of_le hk x.below.size)).trans (x.below.block k hk hn)⟩, fun s hm => ?_⟩, rfl, fun s hm h1 => ?_⟩
  · rw [hc s hm, hb.frozen (Nat.lt_of_lt_of_le (hs s hm) x.below.size)]; exact x.there s hm
  · rw [hc s hm]; exact hx s hm (by rw [← hd s hm]; exact h1)

theorem getD_set_store {d : Array Bool} {i : Nat} (hn : ∀ s ∈ St, s.1 ≠ i) : ∀ s ∈ St, (d.setIfInBounds i true).getD s.1 false = d.getD s.1 false := fun s hm => getD_set_ne false (fun e => hn s hm e.symm)

/-- No value of these kinds of operation is a call, and none of them writes. -/
def quietOp : Op → Bool
  | .move _ | .assign _ | .pick .. | .build .. | .load .. | .binOp .. | .unOp .. | .convert .. | .fieldAddr .. | .field .. | .indexAddr .. | .index .. | .lookup .. | .slice .. | .nilCheck .. => true
  | _ => false

theorem value_only {s : Sem Value} {w w' : World} {n : Next} (h : (do pure (Next.value (← s)) : Sem Next).run P w = .ok n w') : ∃ v, n = .value v := by
  simp only [Sem.run_bind] at h
  cases hr : s.run P w with
  | ok v w1 => rw [hr] at h; simp at h; exact ⟨v, h.1.symm⟩
  | halt x w1 => rw [hr] at h; simp at h

theorem andThen_inv {α β : Type} {r : Result α} {g : α → World → Result β} {b : β} {w' : World} (h : r.andThen g = .ok b w') : ∃ x w1, g x w1 = .ok b w' := by
  cases r with
  | ok x w1 => exact ⟨x, w1, h⟩
  | halt x w1 => cases h
theorem quiet_no_enter {ρ : Operand → Value} {o : Oper} (hq : quietOp o.op = true) {w w' : World} {f : FuncId} {args : Array Value} (h : (execOp ρ o).run P w = .ok (.enter f args) w') : False := by
  have key : ∀ s : Sem Value, (do pure (Next.value (← s)) : Sem Next).run P w = .ok (.enter f args) w' → False := fun s hs => by
    obtain ⟨v, hv⟩ := value_only hs; cases hv
  unfold execOp at h
  cases hop : o.op <;> rw [hop] at h hq <;> first | (cases hq; done) | skip
  all_goals first | exact key _ h | skip
  case move x => simp at h
  case assign x => simp at h
  case pick c a b =>
    simp only [Sem.run_bind] at h
    cases hr : (asBool (ρ c)).run P w <;> rw [hr] at h <;> simp at h
  case nilCheck x =>
    dsimp only at h
    split at h
    · simp [runtimePanic] at h
    · simp [runtimePanic] at h
    · simp [runtimePanic] at h
    · split at h
      · simp [runtimePanic] at h
      · simp only [Sem.run_bind] at h
        obtain ⟨_, w1, h⟩ := andThen_inv h
        obtain ⟨b, w2, h⟩ := andThen_inv h
        split at h
        · simp only [Sem.run_bind] at h
          obtain ⟨_, w3, h⟩ := andThen_inv h
          simp at h
        · simp at h
      · simp at h
    · simp at h

theorem fam_start {n : Nat} (h : ∀ s ∈ St, (W.cell? s.2.1).isSome = true ∧ W.frozen? s.2.1 = false) : Fam W St (Array.replicate n false) { W with drawn := W.drawn + 1 } :=
  ⟨⟨{ W with drawn := W.drawn + 1 }, ⟨rfl, rfl, rfl, Nat.le_refl _, fun _ _ _ => rfl⟩, h⟩, rfl, fun s _ h1 => by rw [getD_replicate_false] at h1; cases h1⟩
/-- The goal at a region under a name, so that the walk lets it stand. -/
theorem veil {id : Nat} {Q : Exit → Act → World → Prop} {a : Act} {w : World} {l : Array Oper} (h : ∀ X : Prop, Hid (X = (Code.region id l true).wp P Q a w) → X) : (Code.region id l true).wp P Q a w := h _ rfl

variable {Q : Act → Prop} {o : Oper} {rest : List Oper} {a : Act} {k : Nat}
/-- An operation that only reads. -/
theorem fam_plain (hw : Region.wanted o (yielded ops a.tmps) = true) (hq : quietOp o.op = true) (hn : ∀ s ∈ St, s.1 ≠ k)
    (h : ∀ K : Act → Prop, (∀ a, wpFam P ops (Fam W St) Q (k + 1) rest a → K a) → o.quiet P a (fun w' => ∃ x : Wx W St, w' = x.val) K) : wpFam P ops (Fam W St) Q k (o :: rest) a := by
  obtain ⟨v, h1, h2⟩ := h _ (fun _ h => h)
  refine ⟨v, .inl ⟨hw, fun d w hd hF => ?_⟩, h2⟩
  obtain ⟨x, rfl, hx⟩ := hF
  have h3 := h1 x.val ⟨x, rfl⟩
  unfold Oper.quietAt at h3
  have hF' : Fam W St (d.setIfInBounds k true) x.val := ⟨x, rfl, fun s hm h1 => hx s hm (by rw [← getD_set_store (d := d) hn s hm]; exact h1)⟩
  generalize hr : (execOp a.eval o).run P x.val = r at h3
  cases r with
  | ok n w' =>
    cases n <;> simp only [Oper.quietUpon] at h3
    case value u => obtain ⟨rfl, rfl⟩ := h3; exact ⟨hF', rfl⟩
    case skip => obtain ⟨rfl, rfl⟩ := h3; exact ⟨hF', rfl⟩
    case enter f args => exact (quiet_no_enter hq hr).elim
  | halt y w' => simp only [Oper.quietUpon] at h3
/-- One that is passed over. -/
theorem fam_skip (hw : Region.wanted o (yielded ops a.tmps) = false) (hn : ∀ s ∈ St, s.1 ≠ k) (h : wpFam P ops (Fam W St) Q (k + 1) rest (a.put o.dst undef)) : wpFam P ops (Fam W St) Q k (o :: rest) a :=
  ⟨undef, .inr ⟨hw, rfl, fun d w _ ⟨x, hx0, hx⟩ => ⟨x, hx0, fun s hm h1 => hx s hm (by rw [← getD_set_store (d := d) hn s hm]; exact h1)⟩⟩, h⟩
/-- A call of a function that leaves what was there. -/
theorem fam_call (f : FuncId) (args : Array Value) (v : Value) (hw : Region.wanted o (yielded ops a.tmps) = true) (hn : ∀ s ∈ St, s.1 ≠ k) (hs : ∀ s ∈ St, s.2.1.block < W.heap.size)
    (hc : ∀ x : Wx W St, Calls P f args x.val fun e w'' => e = .returned v ∧ Below x.val.heap.size x.val w'')
    (hrun : ∀ x : Wx W St, (execOp a.eval o).run P x.val = .ok (.enter f args) x.val)
    (h : wpFam P ops (Fam W St) Q (k + 1) rest (a.put o.dst v)) : wpFam P ops (Fam W St) Q k (o :: rest) a := by
  refine ⟨v, .inl ⟨hw, fun d w hd hF => ?_⟩, h⟩
  obtain ⟨x, rfl, hx⟩ := id hF
  rw [hrun x]
  exact (hc x).mono fun e w'' ⟨he, hb⟩ => ⟨he, hF.below (getD_set_store hn) hs hb⟩

def setL (w : World) (l : List (Addr × Value)) : World := l.foldl (fun w p => w.setCell p.1 p.2) w
theorem setL_cons (w : World) (p : Addr × Value) (l : List (Addr × Value)) : setL w (p :: l) = setL (w.setCell p.1 p.2) l := rfl
theorem setL_far : ∀ (l : List (Addr × Value)) (w : World) (q : Addr), (∀ p ∈ l, p.1 ≠ q) → (setL w l).cell? q = w.cell? q
  | [], _, _, _ => rfl
  | p :: l, w, q, h => by
    rw [setL_cons, setL_far l _ q (fun p' hp => h p' (by simp [hp])), cell_set, if_neg (h p (by simp))]
theorem setL_at : ∀ (l : List (Addr × Value)) (w : World) (p : Addr × Value), (l.map (·.1)).Nodup → p ∈ l → (w.cell? p.1).isSome = true → (setL w l).cell? p.1 = some p.2
  | q :: l, w, p, hnd, hp, hi => by
    simp only [List.map_cons, List.nodup_cons] at hnd
    rcases List.mem_cons.1 hp with rfl | hp
    · rw [setL_cons, setL_far l _ _ (fun p' hp' e => hnd.1 (by rw [← e]; exact List.mem_map_of_mem hp'))]
      rw [cell_set, if_pos rfl]
      obtain ⟨u, hu⟩ := Option.isSome_iff_exists.1 hi
      rw [hu]; rfl
    · rw [setL_cons]
      refine setL_at l _ p hnd.2 hp ?_
      rw [cell_set]
      split
      · rw [Option.isSome_map]; exact hi
      · exact hi
theorem setL_frozen : ∀ (l : List (Addr × Value)) (w : World) (q : Addr), (setL w l).frozen? q = w.frozen? q
  | [], _, _ => rfl
  | p :: l, w, q => by rw [setL_cons, setL_frozen l]; exact World.frozen?_setCell _ _ _ _
theorem setL_belowX {W : World} {bs : List Nat} : ∀ (l : List (Addr × Value)) (w : World), BelowX W bs w → (∀ p ∈ l, p.1.block ∈ bs) → BelowX W bs (setL w l)
  | [], _, h, _ => h
  | p :: l, w, h, hb => by
    rw [setL_cons]
    refine setL_belowX l _ ⟨h.os, h.tape, h.output, by simpa [World.setCell] using h.size, fun k hk hn => ?_⟩ (fun p' hp => hb p' (by simp [hp]))
    rw [Below.heap_setCell _ _ _ _ (fun e => hn (by rw [e]; exact hb p (by simp)))]
    exact h.block k hk hn

/-- A store into places of the list. -/
theorem fam_store (hw : Region.wanted o (yielded ops a.tmps) = true) (hnd : (St.map fun s => s.2.1).Nodup) (l : List (Addr × Value)) (hl : (St.filter fun s => s.1 == k).map (·.2) = l)
    (hrun : ∀ x : Wx W St, (execOp a.eval o).run P x.val = .ok .skip (setL x.val l)) (h : wpFam P ops (Fam W St) Q (k + 1) rest (a.put o.dst undef)) : wpFam P ops (Fam W St) Q k (o :: rest) a := by
  refine ⟨undef, .inl ⟨hw, fun d w hd hF => ?_⟩, h⟩
  obtain ⟨x, rfl, hx⟩ := hF
  rw [hrun x]
  subst hl
  have hsub : ∀ p ∈ (St.filter fun s => s.1 == k).map (·.2), ∃ s ∈ St, s.1 = k ∧ s.2 = p := fun p hp => by
    obtain ⟨s, hs, rfl⟩ := List.mem_map.1 hp
    have := List.mem_filter.1 hs
    exact ⟨s, this.1, by simpa using this.2, rfl⟩
  have hnd' : (((St.filter fun s => s.1 == k).map (·.2)).map (·.1)).Nodup := by
    rw [List.map_map]
    exact (List.Sublist.map _ List.filter_sublist).nodup hnd
  refine ⟨⟨⟨setL x.val _, setL_belowX _ _ x.below (fun p hp => ?_), fun s hm => ?_⟩, rfl, fun s hm h1 => ?_⟩, rfl⟩
  · obtain ⟨s, hs, _, rfl⟩ := hsub p hp
    exact List.mem_map.2 ⟨s, hs, rfl⟩
  · rw [setL_frozen]
    refine ⟨?_, (x.there s hm).2⟩
    by_cases hk : s.1 = k
    · rw [setL_at _ _ s.2 hnd' (List.mem_map.2 ⟨s, List.mem_filter.2 ⟨hm, by simpa using hk⟩, rfl⟩) (x.there s hm).1]; rfl
    · rw [setL_far _ _ _ (fun p hp e => ?_)]
      · exact (x.there s hm).1
      · obtain ⟨s', hs', hk', rfl⟩ := hsub p hp
        have : s' = s := inj_of_nodup hnd hs' hm e
        subst this; exact hk hk'
  · by_cases hk : s.1 = k
    · exact setL_at _ _ s.2 hnd' (List.mem_map.2 ⟨s, List.mem_filter.2 ⟨hm, by simpa using hk⟩, rfl⟩) (x.there s hm).1
    · rw [setL_far _ _ _ (fun p hp e => ?_)]
      · exact hx s hm (by rw [← getD_set_ne (listed := d) false (fun e => hk e.symm)]; exact h1)
      · obtain ⟨s', hs', hk', rfl⟩ := hsub p hp
        have : s' = s := inj_of_nodup hnd hs' hm e
        subst this; exact hk hk'
end
end Go.Proofs.Ytjkkkdfbfdiidaa.Kit
