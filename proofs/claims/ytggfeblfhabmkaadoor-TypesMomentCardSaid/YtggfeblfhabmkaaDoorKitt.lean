/- A region that draws its order, by what is known of each operation's value, and of two values together. -/
import Derived.Test.YtggfeblfhabmkaaDoorKit
namespace Go.Proofs.YtggfeblfhabmkaaDoor.Kit
set_option linter.unusedVariables false
set_option linter.unusedSimpArgs false
open Go.RowKit

section
variable {P : Program} {ops : Array Oper} {Q : Exit → Act → World → Prop}

/-- What stands of a region under way: values, and what two of them are to one another. -/
structure RInv2 (ops : Array Oper) (n : Nat) (a0 : Act) (w0 : World) (E : World → World → Prop) (Φ : Nat → Value → World → Prop) (R : Nat → Value → Nat → Value → Prop) (listed : Array Bool) (a : Act) (w : World) : Prop where
  ext : E w0 w
  defs : a.defers = a0.defers
  size : a.tmps.size = a0.tmps.size
  old : ∀ t, (∀ i, i < n → listed.getD i false = true → dstOf ops i ≠ some t) → a.tmps[t]? = a0.tmps[t]?
  new : ∃ vs : Nat → Value, (∀ i, i < n → listed.getD i false = true → Φ i (vs i) w ∧ ∀ t, dstOf ops i = some t → a.tmps[t]? = some (vs i)) ∧ ∀ i j, i < n → j < n → i ≠ j → listed.getD i false = true → listed.getD j false = true → R i (vs i) j (vs j)

/-- What is asked of operation i; B: what is told of its value beside the world ahead of it. -/
def ROp2 (P : Program) (ops : Array Oper) (Q : Exit → Act → World → Prop) (n : Nat) (a0 : Act) (w0 : World) (E : World → World → Prop) (Φ B : Nat → Value → World → Prop) (i : Nat) (o : Oper) : Prop :=
  ∀ a w, E w0 w → a.defers = a0.defers → a.tmps.size = a0.tmps.size → (∀ t, (∀ j, j < n → dstOf ops j ≠ some t) → a.tmps[t]? = a0.tmps[t]?) →
    (∀ e ∈ o.after, Region.binds .any e = true → ∃ v, Φ e.on v w ∧ ∀ t, dstOf ops e.on = some t → a.tmps[t]? = some v) →
    wpOp P ops Q i (fun a' w' => ∃ v, a' = a.put o.dst v ∧ Φ i v w' ∧ E w w' ∧ B i v w) a w

theorem wpAny_of_inv2 {n : Nat} {a0 : Act} {w0 : World} {E : World → World → Prop} {Φ : Nat → Value → World → Prop} {B : Nat → Value → World → Prop} {R : Nat → Value → Nat → Value → Prop} (hR : ∀ i j v u w, i < n → j < n → i ≠ j → E w0 w → Φ j u w → B i v w → R i v j u ∧ R j u i v) (ok : RegOk ops n a0.tmps.size)
    (hE : ∀ {A B C : World}, E A B → E B C → E A C) (hst : ∀ i v A B, E w0 A → E A B → Φ i v A → Φ i v B)
    (hop : ∀ (i : Nat) (o : Oper), i < n → ops[i]? = some o → ROp2 P ops Q n a0 w0 E Φ B i o)
    (hend : ∀ (vs : Nat → Value) w, (∀ i, i < n → Φ i (vs i) w) → (∀ i j, i < n → j < n → i ≠ j → R i (vs i) j (vs j)) → E w0 w → wpList P ops Q (ops.toList.drop n) (putAll ops vs n a0) w) :
    ∀ (f : Nat) (listed : Array Bool) (a : Act) (w : World), listed.size = ops.size → (∀ j oj, ops[j]? = some oj → listed.getD j false = true → ∀ e ∈ oj.after, Region.binds .any e = true → listed.getD e.on false = true) →
      (∀ t, n ≤ t → t < ops.size → listed.getD t true = false) → RInv2 ops n a0 w0 E Φ R listed a w → ((List.range n).countP fun i => !listed.getD i false) = f → wpAny P .any ops Q (f + (ops.size - n)) listed a w := by
  intro f
  induction f with
  | zero =>
    intro listed a w hsz hcl htl inv hf
    have hall : ∀ i, i < n → listed.getD i false = true := fun i hi => by
      have := (List.countP_eq_zero.1 hf) i (List.mem_range.2 hi)
      simpa using this
    have hlist : listed = ((List.range ops.size).map fun i => decide (i < n)).toArray := by
      apply Array.ext
      · simp [hsz]
      · intro i h1 h2
        simp only [List.getElem_toArray, List.getElem_map, List.getElem_range]
        by_cases hi : i < n
        · have := hall i hi
          rw [Array.getD_eq_getD_getElem?, Array.getElem?_eq_getElem h1] at this
          simpa [hi] using this
        · have := htl i (by omega) (by omega)
          rw [Array.getD_eq_getD_getElem?, Array.getElem?_eq_getElem h1] at this
          simpa [hi] using this
    obtain ⟨vs, hvs', hvr⟩ := inv.new
    have hvs : ∀ i, i < n → Φ i (vs i) w ∧ ∀ t, dstOf ops i = some t → a.tmps[t]? = some (vs i) := fun i hi => hvs' i hi (hall i hi)
    have ha : a = putAll ops vs n a0 := by
      have h1 : a.tmps = (putAll ops vs n a0).tmps := by
        apply Array.ext_getElem?
        intro t
        by_cases hd : ∃ i, i < n ∧ dstOf ops i = some t
        · obtain ⟨i, hi, hd⟩ := hd
          rw [(hvs i hi).2 t hd, putAll_new vs t i hd n a0 hi (fun j hj hne => fun h => ok.apart j i t hj hi hne h hd) (ok.inn i t hi hd)]
        · rw [inv.old t (fun i hi _ h => hd ⟨i, hi, h⟩), putAll_old vs t n a0 (fun i hi h => hd ⟨i, hi, h⟩)]
      have h2 : a.defers = (putAll ops vs n a0).defers := by rw [inv.defs, putAll_defers]
      cases a
      cases hp : putAll ops vs n a0
      simp_all
    have hlen : (ops.toList.drop n).length = ops.size - n := by simp
    have := wpAny_of_seq (md := .any) (Q' := Q) (P := P) (ops := ops) (ops.toList.drop n) n listed a w (fun j => by simp) (by rw [hlen, hlist]; exact ok.seq)
      (by rw [ha]; exact hend vs w (fun i hi => (hvs i hi).1) (fun i j hi hj hne => hvr i j hi hj hne (hall i hi) (hall j hj)) inv.ext)
    rw [Nat.zero_add]
    rwa [hlen] at this
  | succ f ih =>
    intro listed a w hsz hcl htl inv hf
    -- the least that is not listed is ready
    have hex : ∃ i, i < n ∧ listed.getD i false = false := by
      apply Classical.byContradiction
      intro hno
      have : ((List.range n).countP fun i => !listed.getD i false) = 0 := List.countP_eq_zero.2 fun i hi => by
        have hin := List.mem_range.1 hi
        cases h : listed.getD i false with
        | true => simp
        | false => exact absurd ⟨i, hin, h⟩ hno
      omega
    have hready : Region.ready .any ops listed ≠ [] := by
      have hmin : ∀ i, i < n → listed.getD i false = false → ∃ j, j ∈ Region.ready .any ops listed := by
        intro i
        induction i using Nat.strongRecOn with
        | ind i ihi =>
          intro hi hl
          have hio : i < ops.size := Nat.lt_of_lt_of_le hi ok.le
          obtain ⟨o, ho⟩ : ∃ o, ops[i]? = some o := ⟨_, Array.getElem?_eq_getElem hio⟩
          by_cases hp : ∀ e ∈ o.after, Region.binds .any e = true → listed.getD e.on false = true
          · exact ⟨i, mem_ready.2 ⟨getD_in (by omega) hl, o, ho, hp⟩⟩
          · obtain ⟨e, he⟩ := Classical.not_forall.1 hp
            obtain ⟨he1, he2⟩ := Classical.not_imp.1 he
            obtain ⟨hb, he3⟩ := Classical.not_imp.1 he2
            have hlt := ok.back i o ho e he1 hb
            exact ihi e.on hlt (by omega) (by simpa using he3)
      obtain ⟨i, hi, hl⟩ := hex
      obtain ⟨j, hj⟩ := hmin i hi hl
      exact fun h => by rw [h] at hj; cases hj
    rw [show f + 1 + (ops.size - n) = (f + (ops.size - n)) + 1 by omega]
    refine ⟨fun h0 => absurd h0 hready, fun i hi => ?_⟩
    obtain ⟨hun, o, ho, hall⟩ := mem_ready.1 hi
    have hio : i < ops.size := (Array.getElem?_eq_some_iff.1 ho).1
    have hin : i < n := by
      rcases Nat.lt_or_ge i n with h | h
      · exact h
      · exfalso
        rcases ok.tail with ht | ⟨ht1, ht2⟩
        · omega
        · obtain ⟨k, hk, hl⟩ := hex
          have hI : HeadInv .any ops n listed := ⟨hsz, hcl, htl⟩
          exact tail_waits ht1 ht2 (by omega) hI _ k rfl hk (getD_in (by omega) hl) i h hi
    have hpre : ∀ e ∈ o.after, Region.binds .any e = true → ∃ v, Φ e.on v w ∧ ∀ t, dstOf ops e.on = some t → a.tmps[t]? = some v := fun e he hb =>
      by
        obtain ⟨vs, h1, _⟩ := inv.new
        exact ⟨vs e.on, h1 e.on (Nat.lt_trans (ok.back i o ho e he hb) hin) (hall e he hb)⟩
    refine wpOp_mono ?_ (hop i o hin ho a w inv.ext inv.defs inv.size (fun t ht => inv.old t (fun j hj _ => ht j hj)) hpre)
    rintro a' w' ⟨v, rfl, hv, hx, hb⟩
    have hdo : dstOf ops i = o.dst := by simp [dstOf, ho]
    refine ih _ _ w' (by simp [hsz]) ?_ ?_ ⟨hE inv.ext hx, by rw [put_defers, inv.defs], by rw [put_size, inv.size], ?_, ?_⟩ ?_
    · intro j oj hj hl e he hb
      by_cases hij : i = j
      · subst hij
        have : oj = o := Option.some.inj (hj.symm.trans ho)
        subst this
        exact getD_set_true (hall e he hb)
      · rw [getD_set_ne false hij] at hl
        exact getD_set_true (hcl j oj hj hl e he hb)
    · intro t h1 h2
      rw [getD_set_ne true (by omega)]
      exact htl t h1 h2
    · intro t ht
      rw [put_get, if_neg]
      · exact inv.old t (fun j hj hl => ht j hj (getD_set_true hl))
      · rw [← hdo]
        exact ht i hin (by simp [Array.getD_eq_getD_getElem?, hsz, hio])
    · obtain ⟨vs, hvs, hvr⟩ := inv.new
      refine ⟨fun k => if k = i then v else vs k, ?_, ?_⟩
      · intro j hj hl
        by_cases hij : j = i
        · subst hij
          dsimp only
          rw [if_pos rfl]
          refine ⟨hv, fun t ht => ?_⟩
          rw [put_get, if_pos (by rw [← hdo]; exact ht), if_pos (by rw [inv.size]; exact ok.inn j t hin ht)]
        · rw [getD_set_ne false (Ne.symm hij)] at hl
          obtain ⟨hu, hut⟩ := hvs j hj hl
          dsimp only
          rw [if_neg hij]
          refine ⟨hst j (vs j) w w' inv.ext hx hu, fun t ht => ?_⟩
          rw [put_get, if_neg (by rw [← hdo]; exact ok.apart j i t hj hin hij ht)]
          exact hut t ht
      · intro j k hj hk hjk hlj hlk
        dsimp only
        by_cases e1 : j = i
        · have e2 : k ≠ i := fun e => hjk (e1.trans e.symm)
          rw [if_pos e1, if_neg e2]
          rw [getD_set_ne false (Ne.symm e2)] at hlk
          rw [e1]
          exact (hR i k v (vs k) w hin hk (Ne.symm e2) inv.ext (hvs k hk hlk).1 hb).1
        · rw [if_neg e1]
          rw [getD_set_ne false (Ne.symm e1)] at hlj
          by_cases e2 : k = i
          · rw [if_pos e2, e2]
            exact (hR i j v (vs j) w hin hj (Ne.symm e1) inv.ext (hvs j hj hlj).1 hb).2
          · rw [if_neg e2]
            rw [getD_set_ne false (Ne.symm e2)] at hlk
            exact hvr j k hj hk hjk hlj hlk
    · have h1 : ∀ (l : List Nat), l.Nodup → i ∈ l → (l.countP fun j => !listed.getD j false) = (l.countP fun j => !(listed.setIfInBounds i true).getD j false) + 1 := by
        intro l
        induction l with
        | nil => intro _ h; cases h
        | cons x l ihl =>
          intro hnd hmem
          obtain ⟨hx1, hx2⟩ := List.nodup_cons.1 hnd
          rw [List.countP_cons, List.countP_cons]
          by_cases hxi : x = i
          · subst hxi
            have e1 : (l.countP fun j => !listed.getD j false) = l.countP fun j => !(listed.setIfInBounds x true).getD j false :=
              List.countP_congr fun j hj => by rw [getD_set_ne false (by rintro rfl; exact hx1 hj)]
            have e2 : (listed.setIfInBounds x true).getD x false = true := by simp [Array.getD_eq_getD_getElem?, hsz, hio]
            rw [e1, e2, getD_both hun]
            simp
          · rw [ihl hx2 (by rcases List.mem_cons.1 hmem with h | h; exact absurd h.symm hxi; exact h), getD_set_ne false (Ne.symm hxi)]
            omega
      have := h1 (List.range n) List.nodup_range (List.mem_range.2 hin)
      omega

theorem wp_region_inv2 {id : Nat} {l : List Oper} {a0 : Act} {w0 : World} (n : Nat) (hm : P.follows .mixedOrders = true) (hB : regB l.toArray n a0.tmps.size = true)
    (E : World → World → Prop) (Φ : Nat → Value → World → Prop) (B : Nat → Value → World → Prop) (R : Nat → Value → Nat → Value → Prop) (hR : ∀ i j v u w, i < n → j < n → i ≠ j → E w0 w → Φ j u w → B i v w → R i v j u ∧ R j u i v)
    (hE : ∀ {A B C : World}, E A B → E B C → E A C) (hE0 : E w0 { w0 with drawn := w0.drawn + 1 }) (hr : E w0 w0) (hst : ∀ i v A B, E w0 A → E A B → Φ i v A → Φ i v B)
    (hop : Steps (ROp2 P l.toArray Q n a0 w0 E Φ B) 0 (l.take n))
    (hend : ∀ (vs : Nat → Value) w, (∀ i, i < n → Φ i (vs i) w) → (∀ i j, i < n → j < n → i ≠ j → R i (vs i) j (vs j)) → E w0 w → wpList P l.toArray Q (l.drop n) (putAll l.toArray vs n a0) w) :
    (Code.region id l.toArray true).wp P Q a0 w0 := by
  have ok := regOk_of hB
  have hnl : n ≤ l.length := by simpa using ok.le
  refine wp_region_any hm ?_
  have h0 : ((List.range n).countP fun i => !(Array.replicate l.toArray.size false).getD i false) = n := by
    have : ((List.range n).countP fun i => !(Array.replicate l.toArray.size false).getD i false) = (List.range n).length := List.countP_eq_length.2 fun i _ => by rw [getD_replicate_false]; rfl
    simpa using this
  have := wpAny_of_inv2 (P := P) (Q := Q) (E := E) (w0 := w0) (Φ := Φ) (B := B) (R := R) hR ok (fun h k => hE h k) hst (fun i o hi ho => by
      have := steps_at _ 0 hop i o (by rw [List.getElem?_take_of_lt hi]; simpa using ho)
      rwa [Nat.zero_add] at this) (by simpa using hend) n (Array.replicate l.toArray.size false) a0 { w0 with drawn := w0.drawn + 1 } (by simp)
      (fun j oj _ hl => by rw [getD_replicate_false] at hl; cases hl) (fun t h1 h2 => getD_in (by simpa using h2) (getD_replicate_false _ _))
      ⟨hE0, rfl, rfl, fun t _ => rfl, ⟨fun _ => undef, fun i _ hl => (by rw [getD_replicate_false] at hl; cases hl), fun i j _ _ _ hl => (by rw [getD_replicate_false] at hl; cases hl)⟩⟩ h0
  rwa [show n + (l.toArray.size - n) = l.toArray.size by have := ok.le; omega] at this

/-- What is asked of operation i; rd: what it reads; g: its guard; run: whether it is carried out. -/
def VOp2 (P : Program) (a0 : Act) (w0 : World) (E : World → World → Prop) (Φ B : Nat → Value → World → Prop) (i : Nat) (o : Oper) (rd : List (Tmp × Option Nat)) (g : Option (Nat × Bool)) (run : Bool) : Prop :=
  (match g with | none => True | some (j, want) => ∀ v w, E w0 w → Φ j v w → ∃ b, v = .bool b ∧ (b == want) = run) ∧
  ∀ ev w, E w0 w → RdP a0 Φ ev w rd → (∀ v, ev (.const v) = v) → (∀ f, ev (.func f) = .func (.func f) #[] #[]) → (∀ g, ev (.global g) = .pointer (some ⟨g, 0, none⟩)) →
    if run then UponV P (fun v w' => Φ i v w' ∧ E w w' ∧ B i v w) ((execOp ev o).run P w) else Φ i undef w ∧ B i undef w

def StepsV2 (P : Program) (a0 : Act) (w0 : World) (E : World → World → Prop) (Φ B : Nat → Value → World → Prop) : Nat → List Oper → List (List (Tmp × Option Nat) × Option (Nat × Bool) × Bool) → Prop
  | _, [], [] => True
  | k, o :: l, (rd, g, run) :: m => VOp2 P a0 w0 E Φ B k o rd g run ∧ StepsV2 P a0 w0 E Φ B (k + 1) l m
  | _, _, _ => False

theorem rop_of_vop2 {Q : Exit → Act → World → Prop} {n i : Nat} {o : Oper} {a0 : Act} {w0 : World} {E : World → World → Prop} {Φ B : Nat → Value → World → Prop} {rd : List (Tmp × Option Nat)} {g : Option (Nat × Bool)} {run : Bool}
    (hr : ∀ w, E w w) (ho : ops[i]? = some o) (hB : rdB ops n i rd = true) (hG : gdB ops i g = true) (hN : g = none → run = true)
    (h : VOp2 P a0 w0 E Φ B i o rd g run) : ROp2 P ops Q n a0 w0 E Φ B i o := by
  intro a w hx hd hs hold hpre
  obtain ⟨h1, h2⟩ := h
  have hrd := rdP_of ho hold hpre rd hB
  have h3 := h2 a.eval w hx hrd (fun _ => rfl) (fun _ => rfl) (fun _ => rfl)
  have hw : Region.wanted o (yielded ops a.tmps) = run := by
    unfold gdB at hG
    rw [ho] at hG
    cases g with
    | none =>
      cases hg : o.guard with
      | none => rw [hN rfl]; simp [Region.wanted, hg]
      | some x => simp [hg] at hG
    | some x =>
      obtain ⟨j, want⟩ := x
      cases hg : o.guard with
      | none => simp [hg] at hG
      | some y =>
        obtain ⟨k, want'⟩ := y
        simp only [hg, Bool.and_eq_true, beq_iff_eq] at hG
        obtain ⟨⟨⟨rfl, rfl⟩, hsome⟩, hany⟩ := hG
        obtain ⟨e, he, hb⟩ := Array.any_eq_true'.1 hany
        simp only [Bool.and_eq_true, beq_iff_eq] at hb
        obtain ⟨v, hv, ht⟩ := hpre e he hb.1
        rw [hb.2] at hv ht
        obtain ⟨b, rfl, hbw⟩ := h1 v w hx hv
        obtain ⟨t, htd⟩ := Option.isSome_iff_exists.1 hsome
        have htt := ht t htd
        have hy : yielded ops a.tmps j = some b := by
          unfold yielded
          have : (ops[j]?).bind (·.dst) = some t := htd
          rw [this]
          simp [htt]
        simp only [Region.wanted, hg, hy]
        rw [← hbw]
        cases b <;> cases want <;> rfl
  unfold wpOp
  simp only [ho, hw]
  cases run with
  | false => 
    simp only [if_false, Bool.false_eq_true] at h3 ⊢
    exact ⟨undef, rfl, h3.1, hr w, h3.2⟩
  | true =>
    simp only [if_true] at h3 ⊢
    left
    unfold Oper.wp
    generalize (execOp a.eval o).run P w = res at h3 ⊢
    unfold UponV at h3
    unfold Oper.upon
    split at h3
    · exact ⟨_, rfl, h3.1, h3.2.1, h3.2.2⟩
    · exact ⟨_, rfl, h3.1, h3.2.1, h3.2.2⟩
    · refine h3.mono ?_
      rintro e w' ⟨v, rfl, h4, h5, h6⟩
      exact ⟨v, rfl, h4, h5, h6⟩
    · exact h3.elim

theorem steps_of_stepsV2 {Q : Exit → Act → World → Prop} {n : Nat} {a0 : Act} {w0 : World} {E : World → World → Prop} {Φ B : Nat → Value → World → Prop} (hr : ∀ w, E w w) :
    ∀ (l : List Oper) (m : List (List (Tmp × Option Nat) × Option (Nat × Bool) × Bool)) (k : Nat), (∀ i, i < l.length → ops[k + i]? = l[i]?) → rdsB ops n k m = true → StepsV2 P a0 w0 E Φ B k l m → Steps (ROp2 P ops Q n a0 w0 E Φ B) k l
  | [], _, _, _, _, _ => trivial
  | o :: l, [], _, _, _, h => h.elim
  | o :: l, (rd, g, run) :: m, k, ho, hB, ⟨h1, h2⟩ => by
    simp only [rdsB, Bool.and_eq_true, Bool.or_eq_true] at hB
    obtain ⟨⟨⟨hb1, hb2⟩, hb3⟩, hb4⟩ := hB
    refine ⟨rop_of_vop2 hr (by have := ho 0 (by simp); simpa using this) hb1 hb2 (fun e => by rw [e] at hb3; simpa using hb3) h1, steps_of_stepsV2 hr l m (k + 1) (fun i hi => by
      have := ho (i + 1) (by simp; omega)
      rw [show k + 1 + i = k + (i + 1) by omega]; simpa using this) hb4 h2⟩

theorem wp_region_vals2 {Q : Exit → Act → World → Prop} {id : Nat} {l : List Oper} {a0 : Act} {w0 : World} (n : Nat) (m : List (List (Tmp × Option Nat) × Option (Nat × Bool) × Bool)) (ds : List (Option Tmp)) (hD : (l.take n).map (·.dst) = ds) (hm : P.follows .mixedOrders = true)
    (hB : (regB l.toArray n a0.tmps.size && rdsB l.toArray n 0 m) = true)
    (E : World → World → Prop) (Φ B : Nat → Value → World → Prop) (R : Nat → Value → Nat → Value → Prop) (hR : ∀ i j v u w, i < n → j < n → i ≠ j → E w0 w → Φ j u w → B i v w → R i v j u ∧ R j u i v)
    (hE : ∀ {A B C : World}, E A B → E B C → E A C) (hE0 : E w0 { w0 with drawn := w0.drawn + 1 }) (hr : ∀ w, E w w) (hst : ∀ i v A B, E w0 A → E A B → Φ i v A → Φ i v B)
    (hop : StepsV2 P a0 w0 E Φ B 0 (l.take n) m)
    (hend : ∀ (vs : Nat → Value) w, (∀ i, i < n → Φ i (vs i) w) → (∀ i j, i < n → j < n → i ≠ j → R i (vs i) j (vs j)) → E w0 w → wpList P l.toArray Q (l.drop n) (putD ds vs n a0) w) :
    (Code.region id l.toArray true).wp P Q a0 w0 := by
  rw [Bool.and_eq_true] at hB
  exact wp_region_inv2 n hm hB.1 E Φ B R hR (fun h k => hE h k) hE0 (hr _) hst (steps_of_stepsV2 hr _ m 0 (fun i hi => by
    have : i < n := by simp at hi; omega
    rw [Nat.zero_add, List.getElem?_take_of_lt this]; simp) hB.2 hop) (fun vs w h1 h2 h3 => by
      rw [putAll_putD (ds := ds) vs n a0 (fun i hi => by subst hD; simp [dstOf, List.getD_eq_getElem?_getD, List.getElem?_map, List.getElem?_take_of_lt hi]; cases l[i]? <;> rfl)]
      exact hend vs w h1 h2 h3)
end
end Go.Proofs.YtggfeblfhabmkaaDoor.Kit
