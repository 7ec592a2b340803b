/- Plain facts: the body of Faults' range: the list of faults grows in its box, all else stands. -/
import Derived.Test.YtggfeblfhabmkaaGreatDoorTyF
import Derived.Test.YtggfeblfhabmkaaGreatDoorTyG
namespace Go.Proofs.YtggfeblfhabmkaaGreatDoor
set_option linter.unusedVariables false
set_option linter.unusedSimpArgs false
open Go.RowKit

/-- Between two rounds: s: where rows may begin; B: the result's box; W0: the world where the loop began. -/
def Ty.FI (w : World) (s B : Nat) (W0 : World) (pre : List (Ex.Sg × Ex.Sg)) (Y : Nat → Prop) (W : World) : Prop :=
  ∃ v, Ty.Got s B (pre.flatMap fun p => Ty.fk p.1 p.2) v W ∧ (∀ k, Y k ↔ (k = B ∨ v.ownBlock = some k)) ∧ Kit.Exc (fun k => k = B) W0 W ∧ Below w.heap.size w W
theorem Ty.FI.keep {w : World} {s B : Nat} {W0 : World} {pre : List (Ex.Sg × Ex.Sg)} {Y : Nat → Prop} {A W : World} {S : Nat → Prop} (h : Ty.FI w s B W0 pre Y A) (hx : Kit.Exc S A W) (hS : ∀ k, Y k → ¬ S k) (hw : ∀ k, S k → W0.heap.size ≤ k) (h0 : w.heap.size ≤ W0.heap.size) : Ty.FI w s B W0 pre Y W := by
  obtain ⟨v, h1, h2, h3, h4⟩ := h
  refine ⟨v, h1.keep hx (hS _ ((h2 _).2 (.inl rfl))) (fun g hg => hS _ ((h2 _).2 (.inr hg))), h2, ?_, h4.trans (hx.below h4.size (fun k hk => Nat.le_trans h0 (hw k hk)))⟩
  refine ⟨hx.os.trans h3.os, hx.tape.trans h3.tape, hx.output.trans h3.output, Nat.le_trans h3.size hx.size, fun k hk hn => ?_⟩
  exact (hx.block k (Nat.lt_of_lt_of_le hk h3.size) (fun e => by have := hw k e; omega)).trans (h3.block k hk hn)
theorem Ty.FI.yr {w : World} {s B : Nat} {W0 : World} {pre : List (Ex.Sg × Ex.Sg)} {Y : Nat → Prop} {A : World} (h : Ty.FI w s B W0 pre Y A) {k : Nat} (hk : Y k) : k = B ∨ s ≤ k := by
  obtain ⟨v, h1, h2, _⟩ := h
  rcases (h2 k).1 hk with h | h
  · exact .inl h
  · exact .inr (h1.own.lt k h).1

/-- In a round: W: the world where it began; v: the list's slice then; L: the list now. -/
structure Ty.RB (s B b4 b5 : Nat) (W : World) (v : Value) (e : Ex.Sg × Ex.Sg) (L : List Ty.F3) (X : World) : Prop where
  got : ∃ v', Ty.Got s B L v' X ∧ ∀ k, v'.ownBlock = some k → v.ownBlock = some k ∨ W.heap.size ≤ k
  sa : Ty.SgAt X b4 e.1
  sb : Ty.SgAt X b5 e.2
  exc : Kit.Exc (fun k => k = B ∨ v.ownBlock = some k) W X
  old : b4 < W.heap.size ∧ b5 < W.heap.size ∧ b4 ≠ B ∧ b5 ≠ B ∧ v.ownBlock ≠ some b4 ∧ v.ownBlock ≠ some b5 ∧ B < W.heap.size
namespace Ty.RB
variable {s B b4 b5 : Nat} {W X : World} {v : Value} {e : Ex.Sg × Ex.Sg} {L : List Ty.F3}
theorem start (hg : Ty.Got s B L v W) (ha : Ty.SgAt W b4 e.1) (hb : Ty.SgAt W b5 e.2) (h : b4 ≠ B ∧ b5 ≠ B ∧ v.ownBlock ≠ some b4 ∧ v.ownBlock ≠ some b5) : Ty.RB s B b4 b5 W v e L W :=
  ⟨⟨v, hg, fun _ h => .inl h⟩, ha, hb, Kit.Exc.refl _ _, (Array.getElem?_eq_some_iff.1 ha).1, (Array.getElem?_eq_some_iff.1 hb).1, h.1, h.2.1, h.2.2.1, h.2.2.2, hg.box.lt⟩
theorem below {X' : World} (h : Ty.RB s B b4 b5 W v e L X) (hb : Below X.heap.size X X') : Ty.RB s B b4 b5 W v e L X' := by
  have E : ∀ S : Nat → Prop, Kit.Exc S X X' := fun S => (Kit.Exc.refl S X).then hb
  obtain ⟨⟨v', h1, h2⟩, h3, h4, h5, h6⟩ := h
  exact ⟨⟨v', h1.keep (E (fun _ => False)) (fun h => h) (fun _ _ h => h), h2⟩, (E (fun _ => False)).heap h3 (fun h => h), (E (fun _ => False)).heap h4 (fun h => h), h5.trans (E _), h6⟩
theorem add (h : Ty.RB s B b4 b5 W v e L X) (hl : L.length ≤ 1000000000) (hs : s ≤ W.heap.size) (k : Int) (c : Bool) :
    Calls Tryz.prog 16 #[.int .i64 k, .bool c, .pointer (some ⟨B, 0, none⟩), .pointer (some ⟨b4, 0, none⟩), .pointer (some ⟨b5, 0, none⟩)] X
      fun r X' => r = .returned (.tuple #[]) ∧ Ty.RB s B b4 b5 W v e (L ++ Ty.one k e.1.id e.2.id c) X' := by
  obtain ⟨⟨v', h1, h2⟩, h3, h4, h5, h6⟩ := h
  have hsz := h5.size
  refine (ty_add k c e.1 e.2 s B b4 b5 L v' X h1 h3 h4 hl (by omega)).mono ?_
  rintro r X' ⟨rfl, v2, g1, g2, g3⟩
  have hb : ∀ b, b < W.heap.size → b ≠ B → v.ownBlock ≠ some b → ¬ (b = B ∨ v'.ownBlock = some b) := fun b hb hne hv hc => by
    rcases hc with hc | hc
    · exact hne hc
    · rcases h2 b hc with h | h
      · exact hv h
      · omega
  refine ⟨rfl, ⟨v2, g1, fun k hk => ?_⟩, g2.heap h3 (hb b4 h6.1 h6.2.2.1 h6.2.2.2.2.1), g2.heap h4 (hb b5 h6.2.1 h6.2.2.2.1 h6.2.2.2.2.2.1), ?_, h6⟩
  · rcases g3 k hk with h | h
    · exact h2 k h
    · exact .inr (by omega)
  · refine ⟨g2.os.trans h5.os, g2.tape.trans h5.tape, g2.output.trans h5.output, Nat.le_trans h5.size g2.size, fun k hk hn => ?_⟩
    exact (g2.block k (by omega) (hb k hk (fun e => hn (.inl e)) (fun e => hn (.inr e)))).trans (h5.block k hk hn)
/-- The round's end. -/
theorem fi {w : World} {W0 : World} {pre : List (Ex.Sg × Ex.Sg)} (h : Ty.RB s B b4 b5 W v e ((pre ++ [e]).flatMap fun p => Ty.fk p.1 p.2) X) (hF : Kit.Exc (fun k => k = B) W0 W) (hw : Below w.heap.size w W) (hs : W0.heap.size ≤ s) (hwB : w.heap.size ≤ B) (hw0 : w.heap.size ≤ W0.heap.size) (hv : ∀ k, v.ownBlock = some k → s ≤ k) :
    ∃ Y', Ty.FI w s B W0 (pre ++ [e]) Y' X ∧ (∀ k, Y' k → (k = B ∨ v.ownBlock = some k) ∨ W.heap.size ≤ k) ∧ (∀ k, Y' k → k < X.heap.size) := by
  obtain ⟨⟨v', h1, h2⟩, h3, h4, h5, h6⟩ := h
  refine ⟨fun k => k = B ∨ v'.ownBlock = some k, ⟨v', h1, fun _ => Iff.rfl, ?_, ?_⟩, fun k hk => ?_, fun k hk => ?_⟩
  · refine ⟨h5.os.trans hF.os, h5.tape.trans hF.tape, h5.output.trans hF.output, Nat.le_trans hF.size h5.size, fun k hk hn => ?_⟩
    refine (h5.block k (Nat.lt_of_lt_of_le hk hF.size) (fun e => ?_)).trans (hF.block k hk hn)
    rcases e with e | e
    · exact hn e
    · have := hv k e; omega
  · exact hw.trans (h5.below hw.size (fun k hk => by
      rcases hk with hk | hk
      · omega
      · have := hv k hk; omega))
  · rcases hk with hk | hk
    · exact .inl (.inl hk)
    · rcases h2 k hk with h | h
      · exact .inl (.inr h)
      · exact .inr h
  · rcases hk with hk | hk
    · subst hk; exact h1.box.lt
    · exact (h1.own.lt k hk).2
end Ty.RB
theorem Ty.row1_len (G : List Ex.Sg) (k : Ex.Sg) : (Ty.row1 G k).length ≤ G.length := by
  simp only [Ty.row1, List.length_map]
  exact List.length_filter_le _ _
theorem Ty.prs_len : ∀ (l seen : List Ex.Sg), (Ty.prs seen l).length ≤ (seen.length + l.length) * l.length
  | [], _ => by simp [Ty.prs]
  | k :: l, seen => by
    have h1 := Ty.prs_len l (seen ++ [k])
    have h2 := Ty.row1_len (Ty.grp seen (Ty.key k)) k
    have h3 : (Ty.grp seen (Ty.key k)).length ≤ seen.length := List.length_filter_le _ _
    simp only [Ty.prs, List.length_append, List.length_cons, List.length_nil] at h1 ⊢
    have h4 : seen.length + (l.length + 1) = seen.length + (0 + 1) + l.length := by omega
    rw [h4, Nat.mul_succ]
    omega
theorem Ty.one_len (k a b : Int) (c : Bool) : (Ty.one k a b c).length ≤ 1 := by
  unfold Ty.one
  split <;> simp
theorem Ty.fk_len (a b : Ex.Sg) : (Ty.fk a b).length ≤ 3 := by
  simp only [Ty.fk, Ty.one, List.length_append]
  repeat (split <;> simp)
theorem Ty.flat_len : ∀ (l : List (Ex.Sg × Ex.Sg)), (l.flatMap fun p => Ty.fk p.1 p.2).length ≤ 3 * l.length
  | [] => by simp
  | p :: l => by
    have h1 := Ty.flat_len l
    have h2 := Ty.fk_len p.1 p.2
    simp only [List.flatMap_cons, List.length_append, List.length_cons]
    omega
theorem Ty.pre_len (sg : List Ex.Sg) (pre rest : List (Ex.Sg × Ex.Sg)) (hl : sg.length ≤ 4096) (h : Ty.prs [] sg = pre ++ rest) : (pre.flatMap fun p => Ty.fk p.1 p.2).length ≤ 60000000 := by
  have h1 := Ty.prs_len sg []
  have h2 := Ty.flat_len pre
  have h3 : (Ty.prs [] sg).length = pre.length + rest.length := by rw [h, List.length_append]
  have h4 : sg.length * sg.length ≤ 4096 * 4096 := Nat.mul_le_mul hl hl
  simp at h1
  omega
theorem Ty.flat_snoc (pre : List (Ex.Sg × Ex.Sg)) (e : Ex.Sg × Ex.Sg) : ((pre ++ [e]).flatMap fun p => Ty.fk p.1 p.2) = (((pre.flatMap fun p => Ty.fk p.1 p.2) ++ Ty.one 1 e.1.id e.2.id (Ty.com e.1 e.2)) ++ Ty.one 2 e.1.id e.2.id (Ty.sup e.1 e.2)) ++ Ty.one 4 e.1.id e.2.id (Ty.tow e.1 e.2) := by
  simp [Ty.fk]
end Go.Proofs.YtggfeblfhabmkaaGreatDoor
