/- A drawn region by what is known of its operations' values (as Kitf), where an operation whose guard was not carried out is left out itself. -/
import Derived.Test.YtdaedjmkolcliaaKit
namespace Go.Proofs.Ytdaedjmkolcliaa.Kit
set_option linter.unusedVariables false
set_option linter.unusedSimpArgs false
open Go.RowKit

section
variable {P : Program} {ops : Array Oper} {Q : Exit → Act → World → Prop}
/-- What is asked of operation i; rd: what it reads; g: its guard; run: whether it is carried out. (Or its guard's operation was not carried out itself.) -/
def GOp (P : Program) (a0 : Act) (w0 : World) (E : World → World → Prop) (Φ : Nat → Value → World → Prop) (i : Nat) (o : Oper) (rd : List (Tmp × Option Nat)) (g : Option (Nat × Bool)) (run : Bool) : Prop :=
  (match g with | none => True | some (j, want) => ∀ v w, E w0 w → Φ j v w → (∃ b, v = .bool b ∧ (b == want) = run) ∨ (v = undef ∧ run = false)) ∧
  ∀ ev w, E w0 w → RdP a0 Φ ev w rd → (∀ v, ev (.const v) = v) → (∀ f, ev (.func f) = .func (.func f) #[] #[]) → (∀ g, ev (.global g) = .pointer (some ⟨g, 0, none⟩)) →
    if run then UponV P (fun v w' => Φ i v w' ∧ E w w') ((execOp ev o).run P w) else Φ i undef w

def StepsG (P : Program) (a0 : Act) (w0 : World) (E : World → World → Prop) (Φ : Nat → Value → World → Prop) : Nat → List Oper → List (List (Tmp × Option Nat) × Option (Nat × Bool) × Bool) → Prop
  | _, [], [] => True
  | k, o :: l, (rd, g, run) :: m => GOp P a0 w0 E Φ k o rd g run ∧ StepsG P a0 w0 E Φ (k + 1) l m
  | _, _, _ => False

theorem rop_of_gop {Q : Exit → Act → World → Prop} {n i : Nat} {o : Oper} {a0 : Act} {w0 : World} {E : World → World → Prop} {Φ : Nat → Value → World → Prop} {rd : List (Tmp × Option Nat)} {g : Option (Nat × Bool)} {run : Bool}
    (hr : ∀ w, E w w) (ho : ops[i]? = some o) (hB : rdB ops n i rd = true) (hG : gdB ops i g = true) (hN : g = none → run = true)
    (h : GOp P a0 w0 E Φ i o rd g run) : ROp P ops Q n a0 w0 E Φ i o := by
  intro a w hx hd hs hold hpre
  obtain ⟨h1, h2⟩ := h
  have hrd := rdP_of ho hold hpre rd hB
  have h3 := h2 a.eval w hx hrd (fun _ => rfl) (fun _ => rfl) (fun _ => rfl)
  have hw : Region.wanted o (yielded ops a.tmps) = run := by
    unfold gdB at hG
    rw [ho] at hG
    cases g with
    | none =>
      cases hg : o.guard with
      | none => rw [hN rfl]; simp [Region.wanted, hg]
      | some x => simp [hg] at hG
    | some x =>
      obtain ⟨j, want⟩ := x
      cases hg : o.guard with
      | none => simp [hg] at hG
      | some y =>
        obtain ⟨k, want'⟩ := y
        simp only [hg, Bool.and_eq_true, beq_iff_eq] at hG
        obtain ⟨⟨⟨rfl, rfl⟩, hsome⟩, hany⟩ := hG
        obtain ⟨e, he, hb⟩ := Array.any_eq_true'.1 hany
        simp only [Bool.and_eq_true, beq_iff_eq] at hb
        obtain ⟨v, hv, ht⟩ := hpre e he hb.1
        rw [hb.2] at hv ht
        obtain ⟨t, htd⟩ := Option.isSome_iff_exists.1 hsome
        have htt := ht t htd
        have hb2 : (ops[j]?).bind (·.dst) = some t := htd
        rcases h1 v w hx hv with ⟨b, rfl, hbw⟩ | ⟨rfl, hrun⟩
        · have hy : yielded ops a.tmps j = some b := by
            unfold yielded
            rw [hb2]
            simp [htt]
          simp only [Region.wanted, hg, hy]
          rw [← hbw]
          cases b <;> cases want <;> rfl
        · have hy : yielded ops a.tmps j = none := by
            unfold yielded
            rw [hb2]
            simp [htt, undef]
          simp only [Region.wanted, hg, hy]
          rw [hrun]
          cases want <;> rfl
  unfold wpOp
  simp only [ho, hw]
  cases run with
  | false => 
    simp only [if_false, Bool.false_eq_true] at h3 ⊢
    exact ⟨undef, rfl, h3, hr w⟩
  | true =>
    simp only [if_true] at h3 ⊢
    left
    unfold Oper.wp
    generalize (execOp a.eval o).run P w = res at h3 ⊢
    unfold UponV at h3
    unfold Oper.upon
    split at h3
    · exact ⟨_, rfl, h3.1, h3.2⟩
    · exact ⟨_, rfl, h3.1, h3.2⟩
    · refine h3.mono ?_
      rintro e w' ⟨v, rfl, h4, h5⟩
      exact ⟨v, rfl, h4, h5⟩
    · exact h3.elim

theorem steps_of_stepsG {Q : Exit → Act → World → Prop} {n : Nat} {a0 : Act} {w0 : World} {E : World → World → Prop} {Φ : Nat → Value → World → Prop} (hr : ∀ w, E w w) :
    ∀ (l : List Oper) (m : List (List (Tmp × Option Nat) × Option (Nat × Bool) × Bool)) (k : Nat), (∀ i, i < l.length → ops[k + i]? = l[i]?) → rdsB ops n k m = true → StepsG P a0 w0 E Φ k l m → Steps (ROp P ops Q n a0 w0 E Φ) k l
  | [], _, _, _, _, _ => trivial
  | o :: l, [], _, _, _, h => h.elim
  | o :: l, (rd, g, run) :: m, k, ho, hB, ⟨h1, h2⟩ => by
    simp only [rdsB, Bool.and_eq_true, Bool.or_eq_true] at hB
    obtain ⟨⟨⟨hb1, hb2⟩, hb3⟩, hb4⟩ := hB
    refine ⟨rop_of_gop hr (by have := ho 0 (by simp); simpa using this) hb1 hb2 (fun e => by rw [e] at hb3; simpa using hb3) h1, steps_of_stepsG hr l m (k + 1) (fun i hi => by
      have := ho (i + 1) (by simp; omega)
      rw [show k + 1 + i = k + (i + 1) by omega]; simpa using this) hb4 h2⟩

theorem wp_region_valg {Q : Exit → Act → World → Prop} {id : Nat} {l : List Oper} {a0 : Act} {w0 : World} (n : Nat) (m : List (List (Tmp × Option Nat) × Option (Nat × Bool) × Bool)) (ds : List (Option Tmp)) (hD : (l.take n).map (·.dst) = ds) (hm : P.follows .mixedOrders = true)
    (hB : (regB l.toArray n a0.tmps.size && rdsB l.toArray n 0 m) = true)
    (E : World → World → Prop) (Φ : Nat → Value → World → Prop)
    (hE : ∀ {A B C : World}, E A B → E B C → E A C) (hE0 : E w0 { w0 with drawn := w0.drawn + 1 }) (hr : ∀ w, E w w) (hst : ∀ i v A B, E w0 A → E A B → Φ i v A → Φ i v B)
    (hop : StepsG P a0 w0 E Φ 0 (l.take n) m)
    (hend : ∀ (vs : Nat → Value) w, (∀ i, i < n → Φ i (vs i) w) → E w0 w → wpList P l.toArray Q (l.drop n) (putD ds vs n a0) w) :
    (Code.region id l.toArray true).wp P Q a0 w0 := by
  rw [Bool.and_eq_true] at hB
  exact wp_region_inv n hm hB.1 E Φ (fun h k => hE h k) hE0 (hr _) hst (steps_of_stepsG hr _ m 0 (fun i hi => by
    have : i < n := by simp at hi; omega
    rw [Nat.zero_add, List.getElem?_take_of_lt this]; simp) hB.2 hop) (fun vs w h1 h2 => by
      rw [putAll_putD (ds := ds) vs n a0 (fun i hi => by subst hD; simp [dstOf, List.getD_eq_getElem?_getD, List.getElem?_map, List.getElem?_take_of_lt hi]; cases l[i]? <;> rfl)]
      exact hend vs w h1 h2)
end
end Go.Proofs.Ytdaedjmkolcliaa.Kit
