/- The law of ranges over functions whose iterator reads blocks that the rounds leave alone. -/
import Derived.Test.YtggfeblfhabmkaaGreatDoorKit
namespace Go.Proofs.YtggfeblfhabmkaaGreatDoor.Kit
set_option linter.unusedVariables false
set_option linter.unusedSimpArgs false
open Go.RowKit
section
variable {F : Fence} {n : Nat} {P : Program} {w : World}
/-- An iterator's contract. Z: the blocks that it writes, laid before; Zr: those that it reads, which the rounds must leave alone; Y: those that the rounds write. -/
def SeqR {α : Type} (F : Fence) (n : Nat) (P : Program) (gf : Nat) (lb : Array Value) (encs : α → Array Value) (Z Zr : Nat → Prop) (S Sp : List α → Prop) (Ok : List α → α → Prop) (w : World) : Prop :=
  ∀ (l : Nat) (J Jx : List α → (Nat → Prop) → World → Prop) (Y0 : Nat → Prop) (W : World),
    Below w.heap.size w W → w.heap.size ≤ l → l < W.heap.size → (∀ b, Y0 b → b < w.heap.size ∧ ¬ Z b ∧ ¬ Zr b) →
    (∀ pre Y A B, J pre Y A → Exc (fun b => Z b ∨ (W.heap.size ≤ b ∧ ¬ Y b)) A B → J pre Y B) →
    (∀ pre Y A B, Jx pre Y A → Exc (fun b => Z b ∨ (W.heap.size ≤ b ∧ ¬ Y b)) A B → Jx pre Y B) →
    (∀ pre x Y W1, J pre Y W1 → Ok pre x → YieldAt F (n - 1) P l (encs x) W1 fun e W' => ∃ Y', Exc (fun b => Y b ∨ b = l) W1 W' ∧ (∀ b, Y' b → (Y b ∨ W1.heap.size ≤ b) ∧ b < W'.heap.size) ∧
      ((e = .returned (.bool true) ∧ J (pre ++ [x]) Y' W') ∨ (e = .returned (.bool false) ∧ Jx (pre ++ [x]) Y' W'))) →
    J [] Y0 W →
    CallsIn F n P gf (#[.func (.yield l) #[] #[]] ++ lb) W fun e W' => (∃ v, e = .returned v) ∧ ∃ Y, ((∃ xs, S xs ∧ J xs Y W') ∨ (∃ pre, Sp pre ∧ Jx pre Y W'))

theorem wpIn_rangeR {α : Type} {g : Operand} {ps : Array Tmp} {assign body : Code} {Q : Exit → Act → World → Prop} {a : Act}
    (hro : F.round = none) (h1 : F.depth.isSome = true → 1 ≤ n) {gf : Nat} {lb : Array Value} (hg : a.eval g = .func (.func gf) #[] lb) (hFg : F.fn gf) (eg : ∀ args w, (callFunc gf args).run P w = .ok (.enter gf args) w)
    {encs : α → Array Value} {Z Zr : Nat → Prop} {S Sp : List α → Prop} {Ok : List α → α → Prop} (hseq : SeqR F (n - 1) P gf lb encs Z Zr S Sp Ok w) (hps : ∀ x, (encs x).size = ps.size)
    (I : List α → (Nat → Prop) → World → Prop) (Ix : Code → List α → (Nat → Prop) → World → Prop) (Ia : List α → α → Act → (Nat → Prop) → World → Prop) (Y0 : Nat → Prop)
    (hZ : ∀ b, Z b → b < w.heap.size) (hY0 : ∀ b, Y0 b → b < w.heap.size ∧ ¬ Z b ∧ ¬ Zr b)
    (hI : ∀ pre Y A B, I pre Y A → Exc (fun b => Z b ∨ (w.heap.size ≤ b ∧ ¬ Y b)) A B → I pre Y B)
    (hIx : ∀ c pre Y A B, Ix c pre Y A → Exc (fun b => Z b ∨ (w.heap.size ≤ b ∧ ¬ Y b)) A B → Ix c pre Y B)
    (hIa : ∀ pre x a' Y A B, Ia pre x a' Y A → Exc (fun b => w.heap.size ≤ b ∧ b ≤ w.heap.size + 1) A B → Ia pre x a' Y B)
    (h0 : I [] Y0 w)
    (hassign : ∀ (l : Nat) (pre : List α) (x : α) (Y : Nat → Prop) (W : World), I pre Y W → Ok pre x → (∀ b, Y b → b < W.heap.size) → w.heap.size + 2 ≤ W.heap.size →
      assign.wpIn (F.inRound l) (n - 1 - 1) P (Exit.then (fun a' W' => ∃ Y', Exc Y W W' ∧ (∀ b, Y' b → (Y b ∨ W.heap.size ≤ b) ∧ b < W'.heap.size) ∧ Ia pre x a' Y' W') (fun _ _ _ => False)) { tmps := (ps.zip (encs x)).foldl (fun t (p, v) => t.setIfInBounds p v) a.tmps, defers := [] } W)
    (hbody : ∀ (l : Nat) (pre : List α) (x : α) (a' : Act) (Y : Nat → Prop) (W : World), w.heap.size ≤ l → (∃ r, W.heap[l]? = some (.loop r)) → Ia pre x a' Y W → Ok pre x → (∀ b, Y b → b < W.heap.size ∧ b ≠ l) →
      body.wpIn (F.inRound l) (n - 1 - 1) P (RPost I Ix (pre ++ [x]) Y W) a' W)
    (hdone : ∀ (D : Nat) (xs : List α) (Y : Nat → Prop) (W : World), w.heap.size ≤ D → ¬ Y D → S xs → I xs Y W → W.heap[D]? = some (.deferred (some [])) → Q .normal { a with defers := { target := .collected D, args := #[] } :: a.defers } W)
    (hstop : ∀ (D : Nat) (c : Code) (pre : List α) (Y : Nat → Prop) (W : World), w.heap.size ≤ D → ¬ Y D → Sp pre → Ix c pre Y W → W.heap[D]? = some (.deferred (some [])) → c.wpIn F n P Q { a with defers := { target := .collected D, args := #[] } :: a.defers } W) :
    (Code.rangeFunc g ps assign body).wpIn F n P Q a w := by
  refine wpIn_rangeFunc ?_
  intro fn hfn
  rw [hro]
  obtain ⟨rec, hrec⟩ : ∃ rec : LoopState → Option Code → Loop, rec = fun st pe => { state := st, pending := pe, fn, tmps := a.tmps, params := ps, assign, body, defers := w.heap.size } := ⟨_, rfl⟩
  obtain ⟨W1, hW1⟩ : ∃ W1, (w.alloc (.deferred (some []))).alloc (.loop (rec .ready none)) = W1 := ⟨_, rfl⟩
  have hL1 : W1.heap[w.heap.size + 1]? = some (.loop (rec .ready none)) := by
    rw [← hW1]; have := World.alloc_heap_new (w.alloc (.deferred (some []))) (.loop (rec .ready none)); rwa [World.size_alloc] at this
  have hK1 : W1.heap[w.heap.size]? = some (.deferred (some [])) := by
    rw [← hW1]; exact (Below.heap_alloc _ _ _ (by simp)).trans (World.alloc_heap_new w _)
  have hE1 : ∀ S, Exc S w W1 := fun S => by rw [← hW1]; exact ((Exc.refl S w).alloc _).alloc _
  have hz1 : W1.heap.size = w.heap.size + 2 := by rw [← hW1]; simp
  have hI1 : I [] Y0 W1 := hI _ _ _ _ h0 (hE1 _)
  have hb1 : Below w.heap.size w W1 := (hE1 (fun _ => False)).below (Nat.le_refl _) (fun _ h => h.elim)
  refine ⟨w.heap.size + 1, [{ target := .collected w.heap.size, args := #[] }], W1, { target := .fn (.func gf) lb, args := #[.func (.yield (w.heap.size + 1)) #[] #[]] }, W1, gf,
    #[.func (.yield (w.heap.size + 1)) #[] #[]] ++ lb, W1, ?_, ?_, ?_, ?_, h1, ?_⟩
  · rw [← hW1, hrec]; exact run_enterLoop_outer _ _ _ _ _
  · simp only [resolve, hg]
    simp [go_sem]
  · intro f' hf'; simp [Target.leads] at hf'; subst hf'; exact hFg
  · simp [invoke, go_sem, eg]
  · -- the invariant with the facts of book-keeping
    let G (Y : Nat → Prop) (W : World) : Prop := (∀ b, Y b → b < W.heap.size ∧ b ≠ w.heap.size ∧ b ≠ w.heap.size + 1 ∧ ¬ Z b) ∧ W1.heap.size ≤ W.heap.size
    have hG : ∀ {Y A B}, G Y A → ∀ {T}, Exc T A B → G Y B := fun h _ k => ⟨fun b hb => ⟨Nat.lt_of_lt_of_le (h.1 b hb).1 k.size, (h.1 b hb).2⟩, Nat.le_trans h.2 k.size⟩
    have hG' : ∀ {Y Y' : Nat → Prop} {A B : World} {T}, G Y A → Exc T A B → (∀ b, Y' b → (Y b ∨ A.heap.size ≤ b) ∧ b < B.heap.size) → G Y' B := fun {Y Y' A B T} h k hy => by
      refine ⟨fun b hb' => ?_, Nat.le_trans h.2 k.size⟩
      obtain ⟨hyb, hlt⟩ := hy b hb'
      rcases hyb with h1 | h1
      · exact ⟨hlt, (h.1 b h1).2⟩
      · have h2 := h.2
        refine ⟨hlt, by omega, by omega, fun hz => ?_⟩
        have := hZ b hz
        omega
    have wk : ∀ (Y : Nat → Prop) (A B : World), Exc (fun b => Z b ∨ (W1.heap.size ≤ b ∧ ¬ Y b)) A B → Exc (fun b => Z b ∨ (w.heap.size ≤ b ∧ ¬ Y b)) A B := fun Y A B h =>
      h.mono (fun b _ hb => hb.imp id (fun hb => ⟨by omega, hb.2⟩))
    have nl : ∀ (Y : Nat → Prop) (b : Nat), b = w.heap.size ∨ b = w.heap.size + 1 → ¬ (Z b ∨ (W1.heap.size ≤ b ∧ ¬ Y b)) := fun Y b hb h => by
      rcases h with h | h
      · have := hZ b h; omega
      · omega
    refine (hseq (w.heap.size + 1)
      (fun pre Y W => I pre Y W ∧ W.heap[w.heap.size + 1]? = some (.loop (rec .ready none)) ∧ W.heap[w.heap.size]? = some (.deferred (some [])) ∧ G Y W)
      (fun pre Y W => ∃ c, Ix c pre Y W ∧ W.heap[w.heap.size + 1]? = some (.loop (rec .done (some c))) ∧ W.heap[w.heap.size]? = some (.deferred (some [])) ∧ G Y W)
      Y0 W1 hb1 (by omega) (by omega) hY0
      (fun pre Y A B hs hx => ⟨hI _ _ _ _ hs.1 (wk _ _ _ hx), hx.heap hs.2.1 (nl _ _ (.inr rfl)), hx.heap hs.2.2.1 (nl _ _ (.inl rfl)), hG hs.2.2.2 hx⟩)
      (fun pre Y A B hs hx => by
        obtain ⟨c, hc, hl, hk, hy⟩ := hs
        exact ⟨c, hIx _ _ _ _ _ hc (wk _ _ _ hx), hx.heap hl (nl _ _ (.inr rfl)), hx.heap hk (nl _ _ (.inl rfl)), hG hy hx⟩)
      ?_ ⟨hI1, hL1, hK1, fun b hb => ⟨by have := hY0 b hb; omega, by have := hY0 b hb; omega, by have := hY0 b hb; omega, (hY0 b hb).2.1⟩, Nat.le_refl _⟩).mono ?_
    · -- one round
      rintro pre x Y W ⟨hi, hl, hk, hg1⟩ hok
      have hy := run_yield (P := P) (args := encs x) hl (by rw [hrec]; exact hps x)
      rw [hrec] at hy
      refine ⟨fn, _, assign, body, hy, roundIn_of_wpIn hfn ?_⟩
      refine wpIn_mono (hassign (w.heap.size + 1) pre x Y W hi hok (fun b hb => (hg1.1 b hb).1) (by have := hg1.2; omega)) ?_
      clear hy
      intro e1 a1 W2 h2
      cases e1 with
      | normal =>
        obtain ⟨Y2, hx2, hy2, hia⟩ := h2
        have hg2 : G Y2 W2 := hG' hg1 hx2 hy2
        have nY : ∀ {Y : Nat → Prop} {A : World}, G Y A → ¬ Y (w.heap.size + 1) ∧ ¬ Y w.heap.size := fun h => ⟨fun k => (h.1 _ k).2.2.1 rfl, fun k => (h.1 _ k).2.1 rfl⟩
        have hl2 := hx2.heap hl (nY hg1).1
        have hk2 := hx2.heap hk (nY hg1).2
        have hlt2 := (Array.getElem?_eq_some_iff.1 hl2).1
        refine ⟨_, run_beginRound hl2 (by rw [hrec]), ?_⟩
        have hp3 : ∀ (T : Nat → Prop), T (w.heap.size + 1) → Exc T W2 (W2.putObj (w.heap.size + 1) (.loop { rec .ready none with state := .busy })) := fun T hT => (Exc.refl T W2).putObj _ _ (.inl hT)
        have hg3 := hG hg2 (hp3 (fun b => b = w.heap.size + 1) rfl)
        have hl3 : (W2.putObj (w.heap.size + 1) (.loop { rec .ready none with state := .busy })).heap[w.heap.size + 1]? = some (.loop { rec .ready none with state := .busy }) := World.putObj_heap_same hlt2
        have hk3 : (W2.putObj (w.heap.size + 1) (.loop { rec .ready none with state := .busy })).heap[w.heap.size]? = some (.deferred (some [])) := (World.putObj_heap_other (by omega)).trans hk2
        refine wpIn_mono (hbody _ pre x a1 Y2 _ (by omega) ⟨_, hl3⟩ (hIa _ _ _ _ _ _ hia (hp3 _ ⟨by omega, Nat.le_refl _⟩)) hok (fun b hb => ⟨(hg3.1 b hb).1, (hg3.1 b hb).2.2.1⟩)) ?_
        have fin : ∀ (jump : Option Code) (Y3 : Nat → Prop) (W3 : World), Exc Y2 (W2.putObj (w.heap.size + 1) (.loop { rec .ready none with state := .busy })) W3 →
            (∀ b, Y3 b → (Y2 b ∨ (W2.putObj (w.heap.size + 1) (.loop { rec .ready none with state := .busy })).heap.size ≤ b) ∧ b < W3.heap.size) →
            (Instr.endRound (w.heap.size + 1) jump).run P W3 = .ok (.bool jump.isNone) (W3.putObj (w.heap.size + 1) (.loop (rec (if jump.isNone then .ready else .done) jump))) ∧
            Exc (fun b => Y b ∨ b = w.heap.size + 1) W (W3.putObj (w.heap.size + 1) (.loop (rec (if jump.isNone then .ready else .done) jump))) ∧
            (∀ b, Y3 b → (Y b ∨ W.heap.size ≤ b) ∧ b < (W3.putObj (w.heap.size + 1) (.loop (rec (if jump.isNone then .ready else .done) jump))).heap.size) ∧
            (∀ T : Nat → Prop, T (w.heap.size + 1) → Exc T W3 (W3.putObj (w.heap.size + 1) (.loop (rec (if jump.isNone then .ready else .done) jump)))) ∧
            (W3.putObj (w.heap.size + 1) (.loop (rec (if jump.isNone then .ready else .done) jump))).heap[w.heap.size + 1]? = some (.loop (rec (if jump.isNone then .ready else .done) jump)) ∧
            (W3.putObj (w.heap.size + 1) (.loop (rec (if jump.isNone then .ready else .done) jump))).heap[w.heap.size]? = some (.deferred (some [])) ∧
            G Y3 (W3.putObj (w.heap.size + 1) (.loop (rec (if jump.isNone then .ready else .done) jump))) := fun jump Y3 W3 hx3 hy3 => by
          have hl4 := hx3.heap hl3 (nY hg3).1
          have hk4 := hx3.heap hk3 (nY hg3).2
          have hrun := run_endRound (P := P) jump hl4
          rw [hrec] at hrun ⊢
          have hpT : ∀ (T : Nat → Prop) (o : Obj), T (w.heap.size + 1) → Exc T W3 (W3.putObj (w.heap.size + 1) o) := fun T o hT => (Exc.refl T W3).putObj _ _ (.inl hT)
          have hs3 := hx3.size
          have hs2 := hx2.size
          simp only [World.putObj_size] at hs3 hy3
          refine ⟨hrun, ?_, ?_, fun T hT => hpT T _ hT, World.putObj_heap_same (Array.getElem?_eq_some_iff.1 hl4).1, (World.putObj_heap_other (by omega)).trans hk4, hG (hG' hg3 hx3 (by simpa using hy3)) (hpT (fun b => b = w.heap.size + 1) _ rfl)⟩
          · refine ⟨hx3.os.trans hx2.os, hx3.tape.trans hx2.tape, hx3.output.trans hx2.output, by simp; omega, fun k hk hn => ?_⟩
            have n1 : ¬ Y k := fun h => hn (.inl h)
            have n2 : k ≠ w.heap.size + 1 := fun h => hn (.inr h)
            have n3 : ¬ Y2 k := fun h => by
              rcases (hy2 k h).1 with h7 | h7
              · exact n1 h7
              · omega
            rw [World.putObj_heap_other n2, hx3.block k (by simp; omega) n3, World.putObj_heap_other n2, hx2.block k hk n1]
          · intro b hb
            obtain ⟨h5, h6⟩ := hy3 b hb
            refine ⟨?_, by simpa using h6⟩
            rcases h5 with h5 | h5
            · rcases (hy2 b h5).1 with h7 | h7
              · exact .inl h7
              · exact .inr h7
            · exact .inr (by omega)
        intro e3 a3 W3 hp
        cases e3 with
        | normal =>
          obtain ⟨Y3, hx3, hy3, hi3⟩ := hp
          obtain ⟨hr, h4, h5, h6, h7, h8, h9⟩ := fin none Y3 W3 hx3 hy3
          exact ⟨_, _, hr, Y3, h4, h5, .inl ⟨rfl, hI _ _ _ _ hi3 (h6 _ (.inr ⟨by omega, (nY h9).1⟩)), h7, h8, h9⟩⟩
        | ret =>
          obtain ⟨Y3, hx3, hy3, hi3⟩ := hp
          obtain ⟨hr, h4, h5, h6, h7, h8, h9⟩ := fin (some .ret) Y3 W3 hx3 hy3
          exact ⟨_, _, hr, Y3, h4, h5, .inr ⟨rfl, _, hIx _ _ _ _ _ hi3 (h6 _ (.inr ⟨by omega, (nY h9).1⟩)), h7, h8, h9⟩⟩
        | exit id =>
          obtain ⟨Y3, hx3, hy3, hi3⟩ := hp
          obtain ⟨hr, h4, h5, h6, h7, h8, h9⟩ := fin (some (.exit id)) Y3 W3 hx3 hy3
          exact ⟨_, _, hr, Y3, h4, h5, .inr ⟨rfl, _, hIx _ _ _ _ _ hi3 (h6 _ (.inr ⟨by omega, (nY h9).1⟩)), h7, h8, h9⟩⟩
        | goto t =>
          obtain ⟨Y3, hx3, hy3, hi3⟩ := hp
          obtain ⟨hr, h4, h5, h6, h7, h8, h9⟩ := fin (some (.goto t)) Y3 W3 hx3 hy3
          exact ⟨_, _, hr, Y3, h4, h5, .inr ⟨rfl, _, hIx _ _ _ _ _ hi3 (h6 _ (.inr ⟨by omega, (nY h9).1⟩)), h7, h8, h9⟩⟩
        | panic ch => exact hp.elim
        | outgrown => exact hp.elim
      | _ => exact h2.elim
    · -- behind the iterator
      rintro e W2 ⟨⟨v, rfl⟩, Y, (⟨xs, hS, hi, hl, hk, hg1⟩ | ⟨pre, hSp, c, hi, hl, hk, hg1⟩)⟩
      · refine ⟨none, _, by have := run_endLoop (P := P) hl (by rw [hrec]; simp); rw [hrec] at this; exact this, hdone _ xs Y _ (Nat.le_refl _) (fun h => (hg1.1 _ h).2.1 rfl) hS (hI _ _ _ _ hi ((Exc.refl _ _).putObj _ _ (.inl (.inr ⟨by omega, fun h => (hg1.1 _ h).2.2.1 rfl⟩)))) ((World.putObj_heap_other (by omega)).trans hk)⟩
      · refine ⟨some c, _, by have := run_endLoop (P := P) hl (by rw [hrec]; simp); rw [hrec] at this; exact this, hstop _ c pre Y _ (Nat.le_refl _) (fun h => (hg1.1 _ h).2.1 rfl) hSp (hIx _ _ _ _ _ hi ((Exc.refl _ _).putObj _ _ (.inl (.inr ⟨by omega, fun h => (hg1.1 _ h).2.2.1 rfl⟩)))) ((World.putObj_heap_other (by omega)).trans hk)⟩
end

/-- The law, met in a plain walk. -/
theorem wp_rangeR {P : Program} {w : World} {α : Type} {g : Operand} {ps : Array Tmp} {assign body : Code} {Q : Exit → Act → World → Prop} {a : Act}
    {gf : Nat} {lb : Array Value} (hg : a.eval g = .func (.func gf) #[] lb) (eg : ∀ args w, (callFunc gf args).run P w = .ok (.enter gf args) w)
    {encs : α → Array Value} {Z Zr : Nat → Prop} {S Sp : List α → Prop} {Ok : List α → α → Prop} (hseq : SeqR Fence.wide 2 P gf lb encs Z Zr S Sp Ok w) (hps : ∀ x, (encs x).size = ps.size)
    (I : List α → (Nat → Prop) → World → Prop) (Ix : Code → List α → (Nat → Prop) → World → Prop) (Ia : List α → α → Act → (Nat → Prop) → World → Prop) (Y0 : Nat → Prop)
    (hZ : ∀ b, Z b → b < w.heap.size) (hY0 : ∀ b, Y0 b → b < w.heap.size ∧ ¬ Z b ∧ ¬ Zr b)
    (hI : ∀ pre Y A B, I pre Y A → Exc (fun b => Z b ∨ (w.heap.size ≤ b ∧ ¬ Y b)) A B → I pre Y B)
    (hIx : ∀ c pre Y A B, Ix c pre Y A → Exc (fun b => Z b ∨ (w.heap.size ≤ b ∧ ¬ Y b)) A B → Ix c pre Y B)
    (hIa : ∀ pre x a' Y A B, Ia pre x a' Y A → Exc (fun b => w.heap.size ≤ b ∧ b ≤ w.heap.size + 1) A B → Ia pre x a' Y B)
    (h0 : I [] Y0 w)
    (hassign : ∀ (l : Nat) (pre : List α) (x : α) (Y : Nat → Prop) (W : World), I pre Y W → Ok pre x → (∀ b, Y b → b < W.heap.size) → w.heap.size + 2 ≤ W.heap.size →
      assign.wpIn (Fence.wide.inRound l) 1 P (Exit.then (fun a' W' => ∃ Y', Exc Y W W' ∧ (∀ b, Y' b → (Y b ∨ W.heap.size ≤ b) ∧ b < W'.heap.size) ∧ Ia pre x a' Y' W') (fun _ _ _ => False)) { tmps := (ps.zip (encs x)).foldl (fun t (p, v) => t.setIfInBounds p v) a.tmps, defers := [] } W)
    (hbody : ∀ (l : Nat) (pre : List α) (x : α) (a' : Act) (Y : Nat → Prop) (W : World), w.heap.size ≤ l → (∃ r, W.heap[l]? = some (.loop r)) → Ia pre x a' Y W → Ok pre x → (∀ b, Y b → b < W.heap.size ∧ b ≠ l) →
      body.wpIn (Fence.wide.inRound l) 1 P (RPost I Ix (pre ++ [x]) Y W) a' W)
    (hdone : ∀ (D : Nat) (xs : List α) (Y : Nat → Prop) (W : World), w.heap.size ≤ D → ¬ Y D → S xs → I xs Y W → W.heap[D]? = some (.deferred (some [])) → Q .normal { a with defers := { target := .collected D, args := #[] } :: a.defers } W)
    (hstop : ∀ (D : Nat) (c : Code) (pre : List α) (Y : Nat → Prop) (W : World), w.heap.size ≤ D → ¬ Y D → Sp pre → Ix c pre Y W → W.heap[D]? = some (.deferred (some [])) → c.wp P Q { a with defers := { target := .collected D, args := #[] } :: a.defers } W) :
    (Code.rangeFunc g ps assign body).wp P Q a w :=
  wpIn_wide.1 (wpIn_rangeR (F := Fence.wide) (n := 3) rfl (fun h => by simp [Fence.wide] at h) hg trivial eg hseq hps I Ix Ia Y0 hZ hY0 hI hIx hIa h0 hassign hbody hdone (fun D c pre Y W h1 h2 h3 h4 h5 => wpIn_wide.2 (hstop D c pre Y W h1 h2 h3 h4 h5)))

end Go.Proofs.YtggfeblfhabmkaaGreatDoor.Kit
