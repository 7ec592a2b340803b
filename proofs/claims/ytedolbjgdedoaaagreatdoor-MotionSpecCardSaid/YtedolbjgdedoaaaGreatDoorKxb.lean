/- The law of ranges over functions whose iterator reads blocks that the rounds leave alone. Laws: whole elements of several cells stored into a row of one's own; the builtin clear at elements of several cells. Laws: a map with int keys that the call makes, told by what it holds, whatever the elements. Great structs: a store into a block just made; a load of one; a result that lies in one. Marks: a range over a function within a loop leaves a mark a round; all are taken where the function returns. -/
import Derived.Test.YtedolbjgdedoaaaGreatDoorKit
import Derived.Laws.IdiomCopy
import Derived.Laws.Rows
import Derived.Deep.MidRow
import Derived.Lib.SliceRun
import Derived.Maps.OwnOps
import Derived.Maps.OwnSet
import Derived.Maps.Views
import Derived.OwnWalk
set_option linter.unusedSimpArgs false
set_option linter.unusedVariables false
namespace Go.Proofs.YtedolbjgdedoaaaGreatDoor.Kit
open Go.RowKit
section
variable {F : Fence} {n : Nat} {P : Program} {w : World}
def SeqR {α : Type} (F : Fence) (n : Nat) (P : Program) (gf : Nat) (lb : Array Value) (encs : α → Array Value) (Z Zr : Nat → Prop) (S Sp : List α → Prop) (Ok : List α → α → Prop) (w : World) : Prop :=
 ∀ (l : Nat) (J Jx : List α → (Nat → Prop) → World → Prop) (Y0 : Nat → Prop) (W : World),
  Below w.heap.size w W → w.heap.size ≤ l → l < W.heap.size → (∀ b, Y0 b → b < w.heap.size ∧ ¬ Z b ∧ ¬ Zr b) →
  (∀ pre Y A B, J pre Y A → Exc (fun b => Z b ∨ (W.heap.size ≤ b ∧ ¬ Y b)) A B → J pre Y B) →
  (∀ pre Y A B, Jx pre Y A → Exc (fun b => Z b ∨ (W.heap.size ≤ b ∧ ¬ Y b)) A B → Jx pre Y B) →
  (∀ pre x Y W1, J pre Y W1 → Ok pre x → YieldAt F (n - 1) P l (encs x) W1 fun e W' => ∃ Y', Exc (fun b => Y b ∨ b = l) W1 W' ∧ (∀ b, Y' b → (Y b ∨ W1.heap.size ≤ b) ∧ b < W'.heap.size) ∧
   ((e = .returned (.bool true) ∧ J (pre ++ [x]) Y' W') ∨ (e = .returned (.bool false) ∧ Jx (pre ++ [x]) Y' W'))) →
  J [] Y0 W →
  CallsIn F n P gf (#[.func (.yield l) #[] #[]] ++ lb) W fun e W' => (∃ v, e = .returned v) ∧ ∃ Y, ((∃ xs, S xs ∧ J xs Y W') ∨ (∃ pre, Sp pre ∧ Jx pre Y W'))

theorem wpIn_rangeR {α : Type} {g : Operand} {ps : Array Tmp} {assign body : Code} {Q : Exit → Act → World → Prop} {a : Act}
  (hro : F.round = none) (h1 : F.depth.isSome = true → 1 ≤ n) {gf : Nat} {lb : Array Value} (hg : a.eval g = .func (.func gf) #[] lb) (hFg : F.fn gf) (eg : ∀ args w, (callFunc gf args).run P w = .ok (.enter gf args) w)
  {encs : α → Array Value} {Z Zr : Nat → Prop} {S Sp : List α → Prop} {Ok : List α → α → Prop} (hseq : SeqR F (n - 1) P gf lb encs Z Zr S Sp Ok w) (hps : ∀ x, (encs x).size = ps.size)
  (I : List α → (Nat → Prop) → World → Prop) (Ix : Code → List α → (Nat → Prop) → World → Prop) (Ia : List α → α → Act → (Nat → Prop) → World → Prop) (Y0 : Nat → Prop)
  (hZ : ∀ b, Z b → b < w.heap.size) (hY0 : ∀ b, Y0 b → b < w.heap.size ∧ ¬ Z b ∧ ¬ Zr b)
  (hI : ∀ pre Y A B, I pre Y A → Exc (fun b => Z b ∨ (w.heap.size ≤ b ∧ ¬ Y b)) A B → I pre Y B)
  (hIx : ∀ c pre Y A B, Ix c pre Y A → Exc (fun b => Z b ∨ (w.heap.size ≤ b ∧ ¬ Y b)) A B → Ix c pre Y B)
  (hIa : ∀ pre x a' Y A B, Ia pre x a' Y A → Exc (fun b => w.heap.size ≤ b ∧ b ≤ w.heap.size + 1) A B → Ia pre x a' Y B)
  (h0 : I [] Y0 w)
  (hassign : ∀ (l : Nat) (pre : List α) (x : α) (Y : Nat → Prop) (W : World), I pre Y W → Ok pre x → (∀ b, Y b → b < W.heap.size) → w.heap.size + 2 ≤ W.heap.size →
   assign.wpIn (F.inRound l) (n - 1 - 1) P (Exit.then (fun a' W' => ∃ Y', Exc Y W W' ∧ (∀ b, Y' b → (Y b ∨ W.heap.size ≤ b) ∧ b < W'.heap.size) ∧ Ia pre x a' Y' W') (fun _ _ _ => False)) { tmps := (ps.zip (encs x)).foldl (fun t (p, v) => t.setIfInBounds p v) a.tmps, defers := [] } W)
  (hbody : ∀ (l : Nat) (pre : List α) (x : α) (a' : Act) (Y : Nat → Prop) (W : World), w.heap.size ≤ l → (∃ r, W.heap[l]? = some (.loop r)) → Ia pre x a' Y W → Ok pre x → (∀ b, Y b → b < W.heap.size ∧ b ≠ l) →
   body.wpIn (F.inRound l) (n - 1 - 1) P (RPost I Ix (pre ++ [x]) Y W) a' W)
  (hdone : ∀ (D : Nat) (xs : List α) (Y : Nat → Prop) (W : World), w.heap.size ≤ D → ¬ Y D → S xs → I xs Y W → W.heap[D]? = some (.deferred (some [])) → Q .normal { a with defers := { target := .collected D, args := #[] } :: a.defers } W)
  (hstop : ∀ (D : Nat) (c : Code) (pre : List α) (Y : Nat → Prop) (W : World), w.heap.size ≤ D → ¬ Y D → Sp pre → Ix c pre Y W → W.heap[D]? = some (.deferred (some [])) → c.wpIn F n P Q { a with defers := { target := .collected D, args := #[] } :: a.defers } W) :
  (Code.rangeFunc g ps assign body).wpIn F n P Q a w := by
 refine wpIn_rangeFunc ?_
 intro fn hfn
 rw [hro]
 obtain ⟨rec, hrec⟩ : ∃ rec : LoopState → Option Code → Loop, rec = fun st pe => { state := st, pending := pe, fn, tmps := a.tmps, params := ps, assign, body, defers := w.heap.size } := ⟨_, rfl⟩
 obtain ⟨W1, hW1⟩ : ∃ W1, (w.alloc (.deferred (some []))).alloc (.loop (rec .ready none)) = W1 := ⟨_, rfl⟩
 have hL1 : W1.heap[w.heap.size + 1]? = some (.loop (rec .ready none)) := by
  rw [← hW1]; have := World.alloc_heap_new (w.alloc (.deferred (some []))) (.loop (rec .ready none)); rwa [World.size_alloc] at this
 have hK1 : W1.heap[w.heap.size]? = some (.deferred (some [])) := by
  rw [← hW1]; exact (Below.heap_alloc _ _ _ (by simp)).trans (World.alloc_heap_new w _)
 have hE1 : ∀ S, Exc S w W1 := fun S => by rw [← hW1]; exact ((Exc.refl S w).alloc _).alloc _
 have hz1 : W1.heap.size = w.heap.size + 2 := by rw [← hW1]; simp
 have hI1 : I [] Y0 W1 := hI _ _ _ _ h0 (hE1 _)
 have hb1 : Below w.heap.size w W1 := (hE1 (fun _ => False)).below nlr (fun _ h => h.elim)
 refine ⟨w.heap.size + 1, [{ target := .collected w.heap.size, args := #[] }], W1, { target := .fn (.func gf) lb, args := #[.func (.yield (w.heap.size + 1)) #[] #[]] }, W1, gf,
  #[.func (.yield (w.heap.size + 1)) #[] #[]] ++ lb, W1, ?_, ?_, ?_, ?_, h1, ?_⟩
 ·rw [← hW1, hrec]; exact run_enterLoop_outer _ _ _ _ _
 ·simp only [resolve, hg]
  simp [go_sem]
 ·intro f' hf'; simp [Target.leads] at hf'; subst hf'; exact hFg
 ·simp [invoke, go_sem, eg]
 ·-- the invariant with the facts of book-keeping
  let G (Y : Nat → Prop) (W : World) : Prop := (∀ b, Y b → b < W.heap.size ∧ b ≠ w.heap.size ∧ b ≠ w.heap.size + 1 ∧ ¬ Z b) ∧ W1.heap.size ≤ W.heap.size
  have hG : ∀ {Y A B}, G Y A → ∀ {T}, Exc T A B → G Y B := fun h _ k => ⟨fun b hb => ⟨Nat.lt_of_lt_of_le (h.1 b hb).1 k.size, (h.1 b hb).2⟩, Nat.le_trans h.2 k.size⟩
  have hG' : ∀ {Y Y' : Nat → Prop} {A B : World} {T}, G Y A → Exc T A B → (∀ b, Y' b → (Y b ∨ A.heap.size ≤ b) ∧ b < B.heap.size) → G Y' B := fun {Y Y' A B T} h k hy => by
   refine ⟨fun b hb' => ?_, Nat.le_trans h.2 k.size⟩
   obtain ⟨hyb, hlt⟩ := hy b hb'
   rcases hyb with h1 | h1
   ·exact ⟨hlt, (h.1 b h1).2⟩
   ·have h2 := h.2
    refine ⟨hlt, by omega, by omega, fun hz => ?_⟩
    have := hZ b hz
    omega
  have wk : ∀ (Y : Nat → Prop) (A B : World), Exc (fun b => Z b ∨ (W1.heap.size ≤ b ∧ ¬ Y b)) A B → Exc (fun b => Z b ∨ (w.heap.size ≤ b ∧ ¬ Y b)) A B := fun Y A B h =>
   h.mono (fun b _ hb => hb.imp id (fun hb => ⟨by omega, hb.2⟩))
  have nl : ∀ (Y : Nat → Prop) (b : Nat), b = w.heap.size ∨ b = w.heap.size + 1 → ¬ (Z b ∨ (W1.heap.size ≤ b ∧ ¬ Y b)) := fun Y b hb h => by
   rcases h with h | h
   ·have := hZ b h; omega
   ·omega
  refine (hseq (w.heap.size + 1)
   (fun pre Y W => I pre Y W ∧ W.heap[w.heap.size + 1]? = some (.loop (rec .ready none)) ∧ W.heap[w.heap.size]? = some (.deferred (some [])) ∧ G Y W)
   (fun pre Y W => ∃ c, Ix c pre Y W ∧ W.heap[w.heap.size + 1]? = some (.loop (rec .done (some c))) ∧ W.heap[w.heap.size]? = some (.deferred (some [])) ∧ G Y W)
   Y0 W1 hb1 omg omg hY0
   (fun pre Y A B hs hx => ⟨hI _ _ _ _ hs.1 (wk _ _ _ hx), hx.heap hs.2.1 (nl _ _ (.inr rfl)), hx.heap hs.2.2.1 (nl _ _ (.inl rfl)), hG hs.2.2.2 hx⟩)
   (fun pre Y A B hs hx => by
    obtain ⟨c, hc, hl, hk, hy⟩ := hs
    exact ⟨c, hIx _ _ _ _ _ hc (wk _ _ _ hx), hx.heap hl (nl _ _ (.inr rfl)), hx.heap hk (nl _ _ (.inl rfl)), hG hy hx⟩)
   ?_ ⟨hI1, hL1, hK1, fun b hb => ⟨by have := hY0 b hb; omega, by have := hY0 b hb; omega, by have := hY0 b hb; omega, (hY0 b hb).2.1⟩, Nat.le_refl _⟩).mono ?_
  ·-- one round
   rintro pre x Y W ⟨hi, hl, hk, hg1⟩ hok
   have hy := run_yield (P := P) (args := encs x) hl (by rw [hrec]; exact hps x)
   rw [hrec] at hy
   refine ⟨fn, _, assign, body, hy, roundIn_of_wpIn hfn ?_⟩
   refine wpIn_mono (hassign (w.heap.size + 1) pre x Y W hi hok (fun b hb => (hg1.1 b hb).1) (by have := hg1.2; omega)) ?_
   clear hy
   intro e1 a1 W2 h2
   cases e1 with
   | normal =>
    obtain ⟨Y2, hx2, hy2, hia⟩ := h2
    have hg2 : G Y2 W2 := hG' hg1 hx2 hy2
    have nY : ∀ {Y : Nat → Prop} {A : World}, G Y A → ¬ Y (w.heap.size + 1) ∧ ¬ Y w.heap.size := fun h => ⟨fun k => (h.1 _ k).2.2.1 rfl, fun k => (h.1 _ k).2.1 rfl⟩
    have hl2 := hx2.heap hl (nY hg1).1
    have hk2 := hx2.heap hk (nY hg1).2
    have hlt2 := (Array.getElem?_eq_some_iff.1 hl2).1
    refine ⟨_, run_beginRound hl2 (by rw [hrec]), ?_⟩
    have hp3 : ∀ (T : Nat → Prop), T (w.heap.size + 1) → Exc T W2 (W2.putObj (w.heap.size + 1) (.loop { rec .ready none with state := .busy })) := fun T hT => (Exc.refl T W2).putObj _ _ (.inl hT)
    have hg3 := hG hg2 (hp3 (fun b => b = w.heap.size + 1) rfl)
    have hl3 : (W2.putObj (w.heap.size + 1) (.loop { rec .ready none with state := .busy })).heap[w.heap.size + 1]? = some (.loop { rec .ready none with state := .busy }) := World.putObj_heap_same hlt2
    have hk3 : (W2.putObj (w.heap.size + 1) (.loop { rec .ready none with state := .busy })).heap[w.heap.size]? = some (.deferred (some [])) := (World.putObj_heap_other omg).trans hk2
    refine wpIn_mono (hbody _ pre x a1 Y2 _ omg ⟨_, hl3⟩ (hIa _ _ _ _ _ _ hia (hp3 _ ⟨by omega, Nat.le_refl _⟩)) hok (fun b hb => ⟨(hg3.1 b hb).1, (hg3.1 b hb).2.2.1⟩)) ?_
    have fin : ∀ (jump : Option Code) (Y3 : Nat → Prop) (W3 : World), Exc Y2 (W2.putObj (w.heap.size + 1) (.loop { rec .ready none with state := .busy })) W3 →
      (∀ b, Y3 b → (Y2 b ∨ (W2.putObj (w.heap.size + 1) (.loop { rec .ready none with state := .busy })).heap.size ≤ b) ∧ b < W3.heap.size) →
      (Instr.endRound (w.heap.size + 1) jump).run P W3 = .ok (.bool jump.isNone) (W3.putObj (w.heap.size + 1) (.loop (rec (if jump.isNone then .ready else .done) jump))) ∧
      Exc (fun b => Y b ∨ b = w.heap.size + 1) W (W3.putObj (w.heap.size + 1) (.loop (rec (if jump.isNone then .ready else .done) jump))) ∧
      (∀ b, Y3 b → (Y b ∨ W.heap.size ≤ b) ∧ b < (W3.putObj (w.heap.size + 1) (.loop (rec (if jump.isNone then .ready else .done) jump))).heap.size) ∧
      (∀ T : Nat → Prop, T (w.heap.size + 1) → Exc T W3 (W3.putObj (w.heap.size + 1) (.loop (rec (if jump.isNone then .ready else .done) jump)))) ∧
      (W3.putObj (w.heap.size + 1) (.loop (rec (if jump.isNone then .ready else .done) jump))).heap[w.heap.size + 1]? = some (.loop (rec (if jump.isNone then .ready else .done) jump)) ∧
      (W3.putObj (w.heap.size + 1) (.loop (rec (if jump.isNone then .ready else .done) jump))).heap[w.heap.size]? = some (.deferred (some [])) ∧
      G Y3 (W3.putObj (w.heap.size + 1) (.loop (rec (if jump.isNone then .ready else .done) jump))) := fun jump Y3 W3 hx3 hy3 => by
     have hl4 := hx3.heap hl3 (nY hg3).1
     have hk4 := hx3.heap hk3 (nY hg3).2
     have hrun := run_endRound (P := P) jump hl4
     rw [hrec] at hrun ⊢
     have hpT : ∀ (T : Nat → Prop) (o : Obj), T (w.heap.size + 1) → Exc T W3 (W3.putObj (w.heap.size + 1) o) := fun T o hT => (Exc.refl T W3).putObj _ _ (.inl hT)
     have hs3 := hx3.size
     have hs2 := hx2.size
     simp only [World.putObj_size] at hs3 hy3
     refine ⟨hrun, ?_, ?_, fun T hT => hpT T _ hT, World.putObj_heap_same (Array.getElem?_eq_some_iff.1 hl4).1, (World.putObj_heap_other omg).trans hk4, hG (hG' hg3 hx3 (by simpa using hy3)) (hpT (fun b => b = w.heap.size + 1) _ rfl)⟩
     ·refine ⟨hx3.os.trans hx2.os, hx3.tape.trans hx2.tape, hx3.output.trans hx2.output, by simp; omega, fun k hk hn => ?_⟩
      have n1 : ¬ Y k := fun h => hn (.inl h)
      have n2 : k ≠ w.heap.size + 1 := fun h => hn (.inr h)
      have n3 : ¬ Y2 k := fun h => by
       rcases (hy2 k h).1 with h7 | h7
       ·exact n1 h7
       ·omega
      rw [World.putObj_heap_other n2, hx3.block k (by simp; omega) n3, World.putObj_heap_other n2, hx2.block k hk n1]
     ·intro b hb
      obtain ⟨h5, h6⟩ := hy3 b hb
      refine ⟨?_, by simpa using h6⟩
      rcases h5 with h5 | h5
      ·rcases (hy2 b h5).1 with h7 | h7
       ·exact .inl h7
       ·exact .inr h7
      ·exact .inr omg
    intro e3 a3 W3 hp
    cases e3 with
    | normal =>
     obtain ⟨Y3, hx3, hy3, hi3⟩ := hp
     obtain ⟨hr, h4, h5, h6, h7, h8, h9⟩ := fin none Y3 W3 hx3 hy3
     exact ⟨_, _, hr, Y3, h4, h5, .inl ⟨rfl, hI _ _ _ _ hi3 (h6 _ (.inr ⟨by omega, (nY h9).1⟩)), h7, h8, h9⟩⟩
    | ret =>
     obtain ⟨Y3, hx3, hy3, hi3⟩ := hp
     obtain ⟨hr, h4, h5, h6, h7, h8, h9⟩ := fin (some .ret) Y3 W3 hx3 hy3
     exact ⟨_, _, hr, Y3, h4, h5, .inr ⟨rfl, _, hIx _ _ _ _ _ hi3 (h6 _ (.inr ⟨by omega, (nY h9).1⟩)), h7, h8, h9⟩⟩
    | exit id =>
     obtain ⟨Y3, hx3, hy3, hi3⟩ := hp
     obtain ⟨hr, h4, h5, h6, h7, h8, h9⟩ := fin (some (.exit id)) Y3 W3 hx3 hy3
     exact ⟨_, _, hr, Y3, h4, h5, .inr ⟨rfl, _, hIx _ _ _ _ _ hi3 (h6 _ (.inr ⟨by omega, (nY h9).1⟩)), h7, h8, h9⟩⟩
    | goto t =>
     obtain ⟨Y3, hx3, hy3, hi3⟩ := hp
     obtain ⟨hr, h4, h5, h6, h7, h8, h9⟩ := fin (some (.goto t)) Y3 W3 hx3 hy3
     exact ⟨_, _, hr, Y3, h4, h5, .inr ⟨rfl, _, hIx _ _ _ _ _ hi3 (h6 _ (.inr ⟨by omega, (nY h9).1⟩)), h7, h8, h9⟩⟩
    | panic ch => exact hp.elim
    | outgrown => exact hp.elim
   | _ => exact h2.elim
  ·-- behind the iterator
   rintro e W2 ⟨⟨v, rfl⟩, Y, (⟨xs, hS, hi, hl, hk, hg1⟩ | ⟨pre, hSp, c, hi, hl, hk, hg1⟩)⟩
   ·refine ⟨none, _, by have := run_endLoop (P := P) hl (by rw [hrec]; simp); rw [hrec] at this; exact this, hdone _ xs Y _ nlr (fun h => (hg1.1 _ h).2.1 rfl) hS (hI _ _ _ _ hi ((Exc.refl _ _).putObj _ _ (.inl (.inr ⟨by omega, fun h => (hg1.1 _ h).2.2.1 rfl⟩)))) ((World.putObj_heap_other omg).trans hk)⟩
   ·refine ⟨some c, _, by have := run_endLoop (P := P) hl (by rw [hrec]; simp); rw [hrec] at this; exact this, hstop _ c pre Y _ nlr (fun h => (hg1.1 _ h).2.1 rfl) hSp (hIx _ _ _ _ _ hi ((Exc.refl _ _).putObj _ _ (.inl (.inr ⟨by omega, fun h => (hg1.1 _ h).2.2.1 rfl⟩)))) ((World.putObj_heap_other omg).trans hk)⟩
end

theorem wp_rangeR {P : Program} {w : World} {α : Type} {g : Operand} {ps : Array Tmp} {assign body : Code} {Q : Exit → Act → World → Prop} {a : Act}
  {gf : Nat} {lb : Array Value} (hg : a.eval g = .func (.func gf) #[] lb) (eg : ∀ args w, (callFunc gf args).run P w = .ok (.enter gf args) w)
  {encs : α → Array Value} {Z Zr : Nat → Prop} {S Sp : List α → Prop} {Ok : List α → α → Prop} (hseq : SeqR Fence.wide 2 P gf lb encs Z Zr S Sp Ok w) (hps : ∀ x, (encs x).size = ps.size)
  (I : List α → (Nat → Prop) → World → Prop) (Ix : Code → List α → (Nat → Prop) → World → Prop) (Ia : List α → α → Act → (Nat → Prop) → World → Prop) (Y0 : Nat → Prop)
  (hZ : ∀ b, Z b → b < w.heap.size) (hY0 : ∀ b, Y0 b → b < w.heap.size ∧ ¬ Z b ∧ ¬ Zr b)
  (hI : ∀ pre Y A B, I pre Y A → Exc (fun b => Z b ∨ (w.heap.size ≤ b ∧ ¬ Y b)) A B → I pre Y B)
  (hIx : ∀ c pre Y A B, Ix c pre Y A → Exc (fun b => Z b ∨ (w.heap.size ≤ b ∧ ¬ Y b)) A B → Ix c pre Y B)
  (hIa : ∀ pre x a' Y A B, Ia pre x a' Y A → Exc (fun b => w.heap.size ≤ b ∧ b ≤ w.heap.size + 1) A B → Ia pre x a' Y B)
  (h0 : I [] Y0 w)
  (hassign : ∀ (l : Nat) (pre : List α) (x : α) (Y : Nat → Prop) (W : World), I pre Y W → Ok pre x → (∀ b, Y b → b < W.heap.size) → w.heap.size + 2 ≤ W.heap.size →
   assign.wpIn (Fence.wide.inRound l) 1 P (Exit.then (fun a' W' => ∃ Y', Exc Y W W' ∧ (∀ b, Y' b → (Y b ∨ W.heap.size ≤ b) ∧ b < W'.heap.size) ∧ Ia pre x a' Y' W') (fun _ _ _ => False)) { tmps := (ps.zip (encs x)).foldl (fun t (p, v) => t.setIfInBounds p v) a.tmps, defers := [] } W)
  (hbody : ∀ (l : Nat) (pre : List α) (x : α) (a' : Act) (Y : Nat → Prop) (W : World), w.heap.size ≤ l → (∃ r, W.heap[l]? = some (.loop r)) → Ia pre x a' Y W → Ok pre x → (∀ b, Y b → b < W.heap.size ∧ b ≠ l) →
   body.wpIn (Fence.wide.inRound l) 1 P (RPost I Ix (pre ++ [x]) Y W) a' W)
  (hdone : ∀ (D : Nat) (xs : List α) (Y : Nat → Prop) (W : World), w.heap.size ≤ D → ¬ Y D → S xs → I xs Y W → W.heap[D]? = some (.deferred (some [])) → Q .normal { a with defers := { target := .collected D, args := #[] } :: a.defers } W)
  (hstop : ∀ (D : Nat) (c : Code) (pre : List α) (Y : Nat → Prop) (W : World), w.heap.size ≤ D → ¬ Y D → Sp pre → Ix c pre Y W → W.heap[D]? = some (.deferred (some [])) → c.wp P Q { a with defers := { target := .collected D, args := #[] } :: a.defers } W) :
  (Code.rangeFunc g ps assign body).wp P Q a w :=
 wpIn_wide.1 (wpIn_rangeR (F := Fence.wide) (n := 3) rfl (fun h => by simp [Fence.wide] at h) hg trivial eg hseq hps I Ix Ia Y0 hZ hY0 hI hIx hIa h0 hassign hbody hdone (fun D c pre Y W h1 h2 h3 h4 h5 => wpIn_wide.2 (hstop D c pre Y W h1 h2 h3 h4 h5)))

end Go.Proofs.YtedolbjgdedoaaaGreatDoor.Kit

namespace Go.Proofs.YtedolbjgdedoaaaGreatDoor.Kit

theorem heap_setCells (b : Nat) (t : TypeId) : ∀ (vs : List Value) (o : Nat) (w : World) (cur : Array Value), w.heap[b]? = some (.cells cur t (0, 0)) →
  ∃ cur' : Array Value, (w.setCells b o vs).heap[b]? = some (.cells cur' t (0, 0)) ∧ cur'.size = cur.size ∧ (∀ i, i < o ∨ o + vs.length ≤ i → cur'[i]? = cur[i]?) ∧ (∀ q, q < vs.length → o + q < cur.size → cur'[o + q]? = vs[q]?)
 | [], _, _, cur, h => ⟨cur, h, rfl, fun _ _ => rfl, fun _ hq _ => absurd hq (Nat.not_lt_zero _)⟩
 | v :: r, o, w, cur, h => by
  obtain ⟨c, h1, h2, h3, h4⟩ := heap_setCells b t r (o + 1) _ _ (heap_setCell_same w b o cur t v h)
  refine ⟨c, h1, by simpa using h2, fun i hi => ?_, fun q hq hs => ?_⟩
  ·simp only [List.length_cons] at hi
   rw [h3 i omg, Array.getElem?_setIfInBounds_ne omg]
  ·rcases q with _ | q
   ·rw [h3 _ omg]
    simp at hs
    simp [Array.getElem?_setIfInBounds, hs]
   ·have := h4 q (by simpa using hq) (by simp; omega)
    rw [show o + (q + 1) = o + 1 + q by omega, this]
    rfl
theorem Exc.setCells {S : Nat → Prop} {A : World} {b : Nat} (hb : S b) : ∀ (vs : List Value) (o : Nat) {B : World}, Exc S A B → Exc S A (B.setCells b o vs)
 | [], _, _, h => h
 | v :: r, o, _, h => Exc.setCells hb r (o + 1) (h.setCell (p := ⟨b, o, none⟩) (.inl hb) v)
end Go.Proofs.YtedolbjgdedoaaaGreatDoor.Kit

namespace Go.Proofs.YtedolbjgdedoaaaGreatDoor
open Go.RowKit Go.WideMaps
open Go.Maps (Keyed)
namespace Kit
def vR (v : Value) : Option (DataW Value × List MemPlace) := some (.held v, [])
theorem vR_inv {v u : Value} {ps : List MemPlace} (h : vR v = some (.held u, ps)) : v = u := by
 unfold vR at h
 have := Option.some.inj h
 simp at this
 exact this.1
structure MTypes (P : Program) (t k el : TypeId) (z : Value) : Prop where
 key : P.underlying k = some (.int .i64)
 map : P.underlying t = some (.map k el)
 zero : ∀ w, (zeroValue el).run P w = .ok z w
theorem MTypes.law {P : Program} {t k el : TypeId} {z : Value} (T : MTypes P t k el z) : Keyed P k := Go.Maps.int_keyed T.key
theorem MTypes.of {P : Program} {t k el : TypeId} {z : Value} (T : MTypes P t k el z) {a : Int} (wa : (Lit.int .i64 a).wf = true) : keyOf P k (.int .i64 a) = some (.int .i64 a) := Go.Maps.keyOf_int_mk T.key wa
def IMap (P : Program) (k : TypeId) (w : World) (B n : Nat) (f : Int → Option Value) : Prop :=
 ∃ D : DataW Value, w.ownsMap P k vR B n D ∧ Maps.IsMap D ∧ (∀ x, (Lit.int .i64 x).wf = true → Maps.has D (.int .i64 x) = (f x).isSome ∧ ∀ zd, D.atKey (.int .i64 x) (.held zd) = .held ((f x).getD zd))
theorem IMap.made (P : Program) (k : TypeId) (w : World) : IMap P k (w.alloc (.map #[] 0)) w.heap.size 0 (fun _ => none) :=
 ⟨_, World.ownsMap_made w P k _, Maps.isMap_empty, fun x _ => ⟨Maps.has_false_of_atKey (fun z => by simp [DataW.atKey]), fun zd => by simp [DataW.atKey]⟩⟩
theorem IMap.lt {P : Program} {k : TypeId} {w : World} {B n : Nat} {f : Int → Option Value} (h : IMap P k w B n f) : B < w.heap.size := by
 obtain ⟨D, h1, _⟩ := h
 exact h1.lt
theorem IMap.kept {P : Program} {k : TypeId} {w w' : World} {B n : Nat} {f : Int → Option Value} (h : IMap P k w B n f) (hb : w'.heap[B]? = w.heap[B]?) : IMap P k w' B n f := by
 obtain ⟨D, ⟨es, clock, h1, h2⟩, h3⟩ := h
 exact ⟨D, ⟨es, clock, hb.trans h1, h2⟩, h3⟩
theorem IMap.mono {P : Program} {k : TypeId} {w : World} {B n n' : Nat} {f : Int → Option Value} (h : IMap P k w B n f) (hn : n ≤ n') : IMap P k w B n' f := by
 obtain ⟨D, h1, h3⟩ := h
 exact ⟨D, h1.mono hn, h3⟩
theorem IMap.alloc {P : Program} {k : TypeId} {w : World} {B n : Nat} {f : Int → Option Value} (h : IMap P k w B n f) (o : Obj) : IMap P k (w.alloc o) B n f := by
 obtain ⟨D, h1, h3⟩ := h
 exact ⟨D, h1.alloc o, h3⟩
theorem IMap.below {P : Program} {k : TypeId} {w w' : World} {B n N : Nat} {f : Int → Option Value} (h : IMap P k w B n f) (hb : Below N w w') (hB : B < N) : IMap P k w' B n f := h.kept (hb.block B hB)
def putI (f : Int → Option Value) (x : Int) (v : Value) : Int → Option Value := fun y => if y = x then some v else f y
theorem IMap.look {P : Program} {k t el : TypeId} {z : Value} (T : MTypes P t k el z) {w : World} {B n : Nat} {f : Int → Option Value} (h : IMap P k w B n f) {p : Int} (wp_ : (Lit.int .i64 p).wf = true) :
  (Instr.lookup t (.map (some B)) (.int .i64 p) true).run P w = .ok (.tuple #[(f p).getD z, .bool (f p).isSome]) w := by
 obtain ⟨D, h1, _, h3⟩ := h
 obtain ⟨v, ps, hrun, hv⟩ := h1.look_ok T.law T.map (T.zero w) (rfl : vR z = some (.held z, [])) (T.of wp_)
 rw [(h3 p wp_).2] at hv
 obtain rfl := vR_inv hv
 rw [(h3 p wp_).1] at hrun
 exact hrun
theorem IMap.put {P : Program} {k t el : TypeId} {z : Value} (T : MTypes P t k el z) {w : World} {B n : Nat} {f : Int → Option Value} (h : IMap P k w B n f) (hn : n < maxLen) {p : Int} (wp_ : (Lit.int .i64 p).wf = true) (u : Value) :
  ∃ w', (Instr.mapUpdate t (.map (some B)) (.int .i64 p) u).run P w = .ok () w' ∧ IMap P k w' B (n + 1) (putI f p u) ∧ w.grownBy w' (some B) := by
 obtain ⟨D, h1, h2, h3⟩ := h
 have hkl : WideAt.IsKeyLit (.int .i64 p) := T.law.key (T.of wp_)
 obtain ⟨w', hrun, g1, g2⟩ := h1.update T.law T.map hn (T.of wp_) (rfl : vR u = some (.held u, []))
 refine ⟨w', hrun, ⟨_, g1, h2.put _ _, ?_⟩, g2⟩
 intro y wy
 unfold putI
 by_cases he : y = p
 ·subst he
  rw [if_pos rfl]
  exact ⟨Maps.has_true_of_atKey (fun zd => Maps.atKey_put_same h2 hkl _ zd), fun zd => by rw [Maps.atKey_put_same h2 hkl]; rfl⟩
 ·rw [if_neg he]
  have hne : (Lit.int .i64 y) ≠ Lit.int .i64 p := fun h => he (by injection h)
  refine ⟨?_, fun zd => by rw [Maps.atKey_put_other hne]; exact (h3 y wy).2 zd⟩
  rw [← (h3 y wy).1]
  exact Maps.has_put_other hne _
theorem wpList_put_imap {P : Program} (w : World) {ops : Array Oper} {rest : List Oper} {o : Oper} {a : Act} {Q : Exit → Act → World → Prop}
  (hg : o.guard = none) (m x v : Operand) (t : TypeId) (hop : o.op = Op.mapUpdate t m x v ∨ o.op = Op.insert t m x v) (k el : TypeId) (z : Value) (T : MTypes P t k el z) (B n : Nat) (f : Int → Option Value)
  (hm : a.eval m = .map (some B)) (hown : IMap P k w B n f) (hn : n < maxLen) (p : Int) (hx : a.eval x = .int .i64 p) (u : Value) (hv : a.eval v = u) (wp_ : (Lit.int .i64 p).wf = true)
  (hK : ∀ w', IMap P k w' B (n + 1) (putI f p u) → w.grownBy w' (some B) → wpList P ops Q rest (a.put o.dst undef) w') :
  wpList P ops Q (o :: rest) a w := by
 refine wpList_plain hg fun K' hK' => ?_
 obtain ⟨w', hrun, g1, g2⟩ := hown.put T hn wp_ u
 unfold Oper.wp
 rcases hop with hop | hop
 ·simp [execOp, hop, hm, hx, hv, hrun, Result.andThen]
  exact hK' _ _ (hK w' g1 g2)
 ·simp [execOp, hop, hm, hx, hv, hrun, Result.andThen]
  exact hK' _ _ (hK w' g1 g2)
end Kit
end Go.Proofs.YtedolbjgdedoaaaGreatDoor

namespace Go.Proofs.YtedolbjgdedoaaaGreatDoor.Kit
open Go.RowKit
def written (z : Array Value) : Nat → List Value → Array Value
 | _, [] => z
 | o, v :: r => written (z.setIfInBounds o v) (o + 1) r
theorem written_get : ∀ (cs : List Value) (z : Array Value) (o i : Nat), o + cs.length ≤ z.size → (written z o cs)[i]? = if o ≤ i ∧ i < o + cs.length then cs[i - o]? else z[i]?
 | [], z, o, i, _ => by simp [written]; omega
 | v :: r, z, o, i, h => by
  simp only [List.length_cons] at h ⊢
  rw [written, written_get r _ _ _ (by simp; omega)]
  by_cases h1 : o + 1 ≤ i ∧ i < o + 1 + r.length
  ·rw [if_pos h1, if_pos omg, show i - o = (i - (o + 1)) + 1 by omega, List.getElem?_cons_succ]
  ·rw [if_neg h1]
   by_cases h2 : i = o
   ·subst h2
    rw [if_pos omg, Nat.sub_self, List.getElem?_cons_zero, Array.getElem?_setIfInBounds_self_of_lt omg]
   ·rw [if_neg omg, Array.getElem?_setIfInBounds_ne omg]
theorem alloc_setCells (w : World) (T : TypeId) : ∀ (cs : List Value) (z : Array Value) (o : Nat), (w.alloc (.cells z T)).setCells w.heap.size o cs = w.alloc (.cells (written z o cs) T)
 | [], _, _ => rfl
 | v :: r, z, o => by
  rw [World.setCells, World.setCell_alloc_new, alloc_setCells w T r, written]
theorem alloc_set (w : World) (T : TypeId) (cs z : Array Value) (h : z.size = cs.size) : (w.alloc (.cells z T)).setCells w.heap.size 0 cs.toList = w.alloc (.cells cs T) := by
 rw [alloc_setCells]
 congr 2
 apply Array.ext_getElem?
 intro i
 rw [written_get _ _ _ _ (by simp; omega)]
 by_cases hi : i < cs.size
 ·rw [if_pos (by simpa using hi)]; simp
 ·rw [if_neg (by simpa using hi), Array.getElem?_eq_none omg, Array.getElem?_eq_none omg]
theorem there_alloc (w : World) (T : TypeId) (z : Array Value) : (w.alloc (.cells z T)).there w.heap.size 0 z.size := fun j hj => by
 have h := World.alloc_heap_new w (.cells z T)
 refine ⟨?_, ?_⟩
 ·simp only [World.cell?, h]; simp [hj]
 ·simp only [World.frozen?, h]; rfl
theorem range_alloc (w : World) (cs : Array Value) (t : TypeId) : (w.alloc (.cells cs t)).rangeAt w.heap.size 0 cs.toList := fun j v hj => by
 have h := World.alloc_heap_new w (.cells cs t)
 simp only [World.cell?, h]
 simpa using hj
theorem range_kept {w w' : World} {B o : Nat} {cs : List Value} (h : w.rangeAt B o cs) (hb : Below w.heap.size w w') (hB : B < w.heap.size) : w'.rangeAt B o cs := fun j v hj => (hb.cell (p := ⟨B, o + j, none⟩) hB).trans (h j v hj)
theorem wpList_store_fresh {P : Program} {ops : Array Oper} {rest : List Oper} {op : Oper} {a : Act} {w : World} {Q : Exit → Act → World → Prop} {ty T : TypeId} {x y : Operand} {b : Nat} {z cells : Array Value} (hgd : op.guard = none) (ho : op.op = .store ty x y)
  (hx : a.eval x = .pointer (some ⟨b, 0, none⟩)) (hb : b = w.heap.size) (hy : a.eval y = .agg cells) (hz : z.size = cells.size)
  (hi : (P.info? ty).map (·.size) = some cells.size) (h1 : cells.all (·.oneCell') = true)
  (h : wpList P ops Q rest (a.put op.dst undef) (w.alloc (.cells cells T))) : wpList P ops Q (op :: rest) a (w.alloc (.cells z T)) := by
 subst hb
 refine wpList_store_mid hgd ty x y ho w.heap.size 0 cells hx hy (by rw [← hz]; exact there_alloc w T z) hi h1 ?_
 rw [alloc_set w T cells z hz]
 exact h
theorem ret_row {P : Program} {fn : Func} {R : Ending → World → Prop} {a : Act} {w : World} {s b o : Nat} {ty : TypeId} {cs : Array Value} {d : TypeDesc} (hf : fn.results = #[.cell s ty]) (hs : a.tmps[s]? = some (.pointer (some ⟨b, o, none⟩))) (hd : a.defers = [])
  (hc : w.rangeAt b o cs.toList) (hu : P.underlying ty = some d) (hrow : d.isRow = true) (hi : (P.info? ty).map (·.size) = some cs.size) (hR : R (.returned (.agg cs)) w) : bodyPost P fn R .ret a w := by
 refine bodyPost_ret (v := .agg cs) ?_ hd hR
 have hl := run_loadVar_mid (P := P) w b o ty cs.toList d hc hu hrow (by simpa using hi)
 unfold results
 simp [hf, hs, asAddr]
 simpa using hl
theorem stay {p : Prop} (h : ∀ X : Prop, Hid (X = p) → X) : p := h p rfl
def Marks (n : Nat) (W : World) : List Deferred → Prop
 | [] => True
 | d :: ds => ∃ D, d = { target := .collected D, args := #[] } ∧ n ≤ D ∧ W.heap[D]? = some (.deferred (some [])) ∧ (∀ e ∈ ds, e ≠ d) ∧ Marks n W ds
theorem Marks.of {n : Nat} {W : World} : ∀ {ds : List Deferred}, Marks n W ds → ∀ d ∈ ds, ∃ D, d = { target := .collected D, args := #[] } ∧ n ≤ D ∧ D < W.heap.size ∧ W.heap[D]? = some (.deferred (some []))
 | [], _, d, hd => by cases hd
 | e :: ds, h, d, hd => by
  obtain ⟨D, rfl, h1, h2, _, h3⟩ := h
  rcases List.mem_cons.1 hd with rfl | hd
  ·exact ⟨D, rfl, h1, (Array.getElem?_eq_some_iff.1 h2).1, h2⟩
  ·exact Marks.of h3 d hd
theorem Marks.push {n : Nat} {W W' : World} {ds : List Deferred} {D : Nat} (h : Marks n W ds) (hx : ∀ d ∈ ds, ∀ E : Nat, d = { target := .collected E, args := #[] } → W.heap[E]? = some (.deferred (some [])) → W'.heap[E]? = some (.deferred (some []))) (hD : W'.heap[D]? = some (.deferred (some []))) (hn : n ≤ D) (hz : W.heap.size ≤ D) :
  Marks n W' ({ target := .collected D, args := #[] } :: ds) := by
 refine ⟨D, rfl, hn, hD, fun e he hed => ?_, ?_⟩
 ·obtain ⟨E, e1, _, h2, _⟩ := h.of e he
  rw [e1] at hed
  injection hed with h3
  injection h3 with h3
  omega
 ·clear hD hz
  induction ds with
  | nil => trivial
  | cons d ds ih =>
   obtain ⟨E, rfl, h1, h2, h3, h4⟩ := h
   exact ⟨E, rfl, h1, hx _ (List.mem_cons_self ..) E rfl h2, h3, ih h4 fun d hd => hx d (List.mem_cons_of_mem _ hd)⟩
theorem Marks.kept {n : Nat} {A B : World} : ∀ {ds : List Deferred}, Marks n A ds → (∀ E : Nat, A.heap[E]? = some (Obj.deferred (some [])) → B.heap[E]? = some (Obj.deferred (some []))) → Marks n B ds
 | [], _, _ => trivial
 | _ :: _, ⟨E, e, h1, h2, h3, h4⟩, hx => ⟨E, e, h1, hx E h2, h3, Marks.kept h4 hx⟩
theorem Marks.exc {n : Nat} {A B : World} {ds : List Deferred} {S : Nat → Prop} (h : Marks n A ds) (hx : Exc S A B) (hS : ∀ k, S k → A.heap[k]? ≠ some (.deferred (some []))) : Marks n B ds :=
 h.kept fun E hE => hx.heap hE fun hs => hS E hs hE
end Go.Proofs.YtedolbjgdedoaaaGreatDoor.Kit
