/- A machine's step never takes a draw back; so a call that returns, told by 'Below', is told exactly: so many draws, these blocks behind. -/
import Derived.Calls
import Derived.StepT
import Derived.Below
import Derived.Sort.Grow
import Derived.Deep.Draws
namespace Go.Proofs.Ytdaedjmkolcliaa.Dr
set_option linter.unusedVariables false
set_option linter.unusedSimpArgs false
open Go

def wof {α : Type} : Result α → World
  | .ok _ w => w
  | .halt _ w => w
theorem ask_le {α : Type} : ∀ (a : Ask α) (w : World), w.drawn ≤ (w.ask a).2.drawn
  | .done a, w => Nat.le_refl _
  | .ask what range k, w => by
    unfold World.ask
    dsimp only
    split
    · exact ask_le _ _
    · exact Nat.le_trans (Nat.le_succ _) (ask_le _ { w with drawn := w.drawn + 1 })
theorem sys_le (w : World) (c : Sys) : w.drawn ≤ (w.sys c).2.drawn := by
  unfold World.sys
  have h := ask_le (Kernel.perform c w.os) w
  split
  · exact Nat.le_refl _
  · rename_i e; rw [e] at h; exact h
theorem far_eq {p : Program} {w w' : World} {a : Addr} {v : Value} {b : Bool} {l : List Addr} (h : w.farStore p a v b = .ok (w', l)) : w.drawn = w'.drawn := by
  unfold World.farStore at h
  split at h
  · split at h
    · rename_i r e
      cases h
      unfold World.viewStore at e
      simp only [bind, Except.bind, pure, Except.pure] at e
      repeat' (split at e <;> try (cases e; done))
      all_goals (cases e; rfl)
    · cases h
  · cases h
theorem run_le {α : Type} (p : Program) : ∀ (s : Sem α) (w : World), w.drawn ≤ (wof (s.run p w)).drawn := by
  intro s
  induction s with
  | pure a => intro w; exact Nat.le_refl _
  | load m a k ih =>
    intro w; unfold Sem.run; split
    · exact ih _ _
    · split
      · exact ih _ _
      · exact Nat.le_refl _
  | store m a v k ih =>
    intro w
    have hc : w.drawn ≤ (wof (match w.cell? a with
      | some _ => if w.frozen? a then .halt (.unsupported (.unsafePointer "a write to bytes that a string shares")) w else k.run p (w.setCell a v)
      | none => match w.farStore p a v (m == .atomic) with
        | .ok (w, _) => k.run p w
        | .error h => .halt h w)).drawn := by
      split
      · split
        · exact Nat.le_refl _
        · exact ih (w.setCell a v)
      · split
        · rename_i e; rw [far_eq e]; exact ih _
        · exact Nat.le_refl _
    cases v <;> first | exact Nat.le_refl _ | exact hc
  | new o k ih => intro w; exact ih _ { w with heap := w.heap.push o }
  | shape r k ih => intro w; exact ih _ _
  | freeze a n k ih => intro w; exact Nat.le_trans (by unfold World.freeze; split <;> exact Nat.le_refl _) (ih (w.freeze a n))
  | frozen a k ih => intro w; exact ih _ _
  | getObj r k ih =>
    intro w; unfold Sem.run; split
    · exact Nat.le_refl _
    · exact ih _ _
    · exact Nat.le_refl _
  | setObj r o k ih =>
    intro w; unfold Sem.run; split
    · exact Nat.le_refl _
    · exact ih { w with heap := w.heap.setIfInBounds r o }
    · exact Nat.le_refl _
  | choose q k ih =>
    intro w; unfold Sem.run; split
    · exact ih _ _
    · exact Nat.le_trans (Nat.le_succ _) (ih _ { w with drawn := w.drawn + 1 })
  | sys c k ih => intro w; exact Nat.le_trans (sys_le w c) (ih _ _)
  | program k ih => intro w; exact ih _ _
  | mark m k ih => intro w; exact ih _
  | halt h => intro w; exact Nat.le_refl _

/-- The world of a goroutine's step is at least so far drawn. -/
def Gd (n : Nat) : GStep → Prop
  | .go _ w _ | .comm _ _ _ _ w _ | .spawn _ _ w _ | .count _ w _ | .timer _ _ w _ | .alone _ _ w _ | .newcoro _ _ _ w _ | .coroswitch _ _ _ w _ | .collect _ w _ | .watch _ w _ => n ≤ w.drawn
  | .ended .. => True
theorem gd_after (n : Nat) (es : Array Event) (s : GStep) : Gd n (GStep.after es s) ↔ Gd n s := by cases s <;> rfl
def Md (n : Nat) : Stepped → Prop
  | .next m => n ≤ m.world.drawn
  | .ended .. => True
theorem run_ok {α : Type} {p : Program} {s : Sem α} {w w' : World} {a : α} (h : s.run p w = .ok a w') : w.drawn ≤ w'.drawn := by
  have := run_le p s w; rw [h] at this; exact this
theorem run_halt {α : Type} {p : Program} {s : Sem α} {w w' : World} {a : Halt} (h : s.run p w = .halt a w') : w.drawn ≤ w'.drawn := by
  have := run_le p s w; rw [h] at this; exact this
theorem doReturn_gd (p : Program) (main : Bool) (fr : Frame) (callers : List Frame) (dying : Option Dying) (v : Value) (w : World) (n : Nat) (h : n ≤ w.drawn) : Gd n (doReturn p main fr callers dying v w) := by
  unfold doReturn
  (repeat' split) <;> first | exact h | trivial

theorem endWith_gd (w : World) (fd : Nat) (text : ByteArray) (o : Outcome) (n : Nat) : Gd n (endWith w fd text o) := by
  unfold endWith
  dsimp only
  (repeat' split) <;> trivial
theorem dieOf_gd (fr : Frame) (ahead : List ByteArray) (m : String) (whole : Bool) (w : World) (n : Nat) (h : n ≤ w.drawn) : Gd n (dieOf fr ahead m whole w) := h
theorem endThrow_gd (fr : Frame) (m : String) (w : World) (n : Nat) (h : n ≤ w.drawn) : Gd n (endThrow fr m w) := h
theorem endPrinting_gd (p : Program) (fr : Frame) (v : Value) (w : World) (n : Nat) (h : n ≤ w.drawn) : Gd n (endPrinting p fr v w) := by
  unfold endPrinting
  dsimp only
  (repeat' split) <;> first | exact h | trivial
theorem endFatal_gd (p : Program) (fr : Frame) (callers : List Frame) (dying : Option Dying) (m : String) (w : World) (n : Nat) (h : n ≤ w.drawn) : Gd n (endFatal p fr callers dying m w) := by
  unfold endFatal
  dsimp only
  split
  · rename_i e; exact Nat.le_trans h (run_ok e)
  · trivial
  · trivial
theorem runT_ok {α : Type} {p : Program} {s : Sem α} {w w' : World} {a : α} {es es' : Array Event} (h : s.runT p w es = (.ok a w', es')) : w.drawn ≤ w'.drawn := by
  rw [Sem.runT_eq] at h; exact run_ok (congrArg Prod.fst h)
theorem runT_halt {α : Type} {p : Program} {s : Sem α} {w w' : World} {a : Halt} {es es' : Array Event} (h : s.runT p w es = (.halt a w', es')) : w.drawn ≤ w'.drawn := by
  rw [Sem.runT_eq] at h; exact run_halt (congrArg Prod.fst h)
theorem runT_ok1 {α : Type} {p : Program} {s : Sem α} {w w' : World} {a : α} {es : Array Event} (h : (s.runT p w es).1 = .ok a w') : w.drawn ≤ w'.drawn := by
  rw [Sem.runT_eq] at h; exact run_ok h
theorem runT_halt1 {α : Type} {p : Program} {s : Sem α} {w w' : World} {a : Halt} {es : Array Event} (h : (s.runT p w es).1 = .halt a w') : w.drawn ≤ w'.drawn := by
  rw [Sem.runT_eq] at h; exact run_halt h
theorem writeOn_gd (p : Program) (fr : Frame) (d : Dying) (f : Fatal) (w : World) (n : Nat) (h : n ≤ w.drawn) : Gd n (writeOn p fr d f w) := by
  unfold writeOn
  dsimp only
  split
  · trivial
  · generalize hs : Sem.runT p _ w #[] = r
    rcases r with ⟨r, es⟩
    cases r with
    | ok a w' => exact Nat.le_trans h (runT_ok hs)
    | halt a w' =>
      have := Nat.le_trans h (runT_halt hs)
      cases a <;> first | trivial | exact this
theorem die_gd (p : Program) (fr : Frame) (d : Dying) (w : World) (n : Nat) (h : n ≤ w.drawn) : Gd n (die p fr d w) := by
  unfold die
  dsimp only
  (repeat' split) <;> first
    | trivial
    | exact h
    | exact endWith_gd _ _ _ _ _
    | (rename_i e; exact Nat.le_trans h (run_ok e))
    | (rename_i e; exact Nat.le_trans h (run_halt e))
    | (rename_i e; exact Nat.le_trans h (runT_ok e))
    | (rename_i e; exact Nat.le_trans h (runT_halt e))
    | (rename_i e; exact Nat.le_trans h (runT_ok1 e))
    | (rename_i e; exact Nat.le_trans h (runT_halt1 e))
    | exact writeOn_gd _ _ _ _ _ _ h
    | (rw [gd_after]; (repeat' split) <;> first
    | trivial
    | exact h
    | exact endWith_gd _ _ _ _ _
    | (rename_i e; exact Nat.le_trans h (run_ok e))
    | (rename_i e; exact Nat.le_trans h (run_halt e))
    | (rename_i e; exact Nat.le_trans h (runT_ok e))
    | (rename_i e; exact Nat.le_trans h (runT_halt e))
    | (rename_i e; exact Nat.le_trans h (runT_ok1 e))
    | (rename_i e; exact Nat.le_trans h (runT_halt1 e))
      | (rename_i e; exact endPrinting_gd _ _ _ _ _ (Nat.le_trans h (runT_halt1 e)))
      | skip)
    | skip
  all_goals trace_state
theorem gd_ite {n : Nat} {c : Prop} [Decidable c] {a b : GStep} (ha : Gd n a) (hb : Gd n b) : Gd n (if c then a else b) := by split; exact ha; exact hb
theorem callDeferred_gd (p : Program) (fr : Frame) (callers : List Frame) (dying : Option Dying) (d : Deferred) (w : World) (n : Nat) (h : n ≤ w.drawn) : Gd n (callDeferred p fr callers dying d w) := by
  unfold callDeferred
  dsimp only
  refine gd_ite trivial ?_
  · rw [gd_after]
    generalize hs : (invoke d.target d.args).runT p w #[] = r
    rcases r with ⟨r, es⟩
    cases r with
    | ok a w' =>
      have h' := Nat.le_trans h (runT_ok hs)
      clear hs
      dsimp only
      (repeat' split) <;> first | trivial | exact h' | (rename_i e; cases e; exact h') | (rename_i e _; cases e; exact h') | (rename_i e _ _; cases e; exact h') | (rename_i e _ _ _; cases e; exact h') | (rename_i e _ _ _ _; cases e; exact h') | (rename_i e _ _ _ _ _; cases e; exact h') | (rename_i e _ _ _ _ _ _; cases e; exact h') | (rename_i e _ _ _ _ _ _ _; cases e; exact h') | (rename_i e _ _ _ _ _ _ _ _; cases e; exact h') | (rename_i e _ _ _ _ _ _ _ _ _; cases e; exact h') | (rename_i e _ _ _ _ _ _ _ _ _ _; cases e; exact h') | (rename_i e _ _ _ _ _ _ _ _ _ _ _; cases e; exact h') | skip
      all_goals trace_state
    | halt a w' =>
      have h' := Nat.le_trans h (runT_halt hs)
      clear hs
      dsimp only
      (repeat' split) <;> first | trivial | exact h' | (rename_i e; cases e; exact h') | (rename_i e _; cases e; exact h') | (rename_i e _ _; cases e; exact h') | (rename_i e _ _ _; cases e; exact h') | (rename_i e _ _ _ _; cases e; exact h') | (rename_i e _ _ _ _ _; cases e; exact h') | (rename_i e _ _ _ _ _ _; cases e; exact h') | (rename_i e _ _ _ _ _ _ _; cases e; exact h') | (rename_i e _ _ _ _ _ _ _ _; cases e; exact h') | (rename_i e _ _ _ _ _ _ _ _ _; cases e; exact h') | (rename_i e _ _ _ _ _ _ _ _ _ _; cases e; exact h') | (rename_i e _ _ _ _ _ _ _ _ _ _ _; cases e; exact h') | (rename_i e; cases e; exact endFatal_gd _ _ _ _ _ _ _ h') | (rename_i e; cases e; exact endThrow_gd _ _ _ _ h') | skip
      all_goals trace_state
theorem unwind_gd (p : Program) (main : Bool) (fr : Frame) (callers : List Frame) (dying : Option Dying) (w : World) (n : Nat) (h : n ≤ w.drawn) : Gd n (unwind p main fr callers dying w) := by
  unfold unwind
  dsimp only
  (repeat' split) <;> first
    | trivial
    | exact h
    | exact endWith_gd _ _ _ _ _
    | (rename_i e; exact Nat.le_trans h (run_ok e))
    | (rename_i e; exact Nat.le_trans h (run_halt e))
    | (rename_i e; exact Nat.le_trans h (runT_ok e))
    | (rename_i e; exact Nat.le_trans h (runT_halt e))
    | (rename_i e; exact Nat.le_trans h (runT_ok1 e))
    | (rename_i e; exact Nat.le_trans h (runT_halt1 e))
    | exact callDeferred_gd _ _ _ _ _ _ _ h
    | exact doReturn_gd _ _ _ _ _ _ _ _ h
    | exact endPrinting_gd _ _ _ _ _ h
    | (rw [gd_after]; (repeat' split) <;> first
    | trivial
    | exact h
    | exact endWith_gd _ _ _ _ _
    | (rename_i e; exact Nat.le_trans h (run_ok e))
    | (rename_i e; exact Nat.le_trans h (run_halt e))
    | (rename_i e; exact Nat.le_trans h (runT_ok e))
    | (rename_i e; exact Nat.le_trans h (runT_halt e))
    | (rename_i e; exact Nat.le_trans h (runT_ok1 e))
    | (rename_i e; exact Nat.le_trans h (runT_halt1 e))
      | (rename_i e; exact doReturn_gd _ _ _ _ _ _ _ _ (Nat.le_trans h (runT_ok1 e)))
      | skip)
    | skip
  all_goals trace_state
theorem early_gd (p : Program) (fr : Frame) (callers : List Frame) (dying : Option Dying) (g : Nat) (w : World) (n : Nat) (h : n ≤ w.drawn) : Gd n (early p fr callers dying g w) := by
  unfold early
  dsimp only
  (repeat' split) <;> first | trivial | exact h | (rename_i e; exact Nat.le_trans h (Nat.le_trans (run_ok e) (Nat.le_refl _))) | (rename_i e _; exact Nat.le_trans h (Nat.le_trans (run_ok e) (Nat.le_refl _))) | (rename_i e _ _; exact Nat.le_trans h (Nat.le_trans (run_ok e) (Nat.le_refl _))) | (rename_i e _ _ _; exact Nat.le_trans h (Nat.le_trans (run_ok e) (Nat.le_refl _))) | (rename_i e _ _ _ _; exact Nat.le_trans h (Nat.le_trans (run_ok e) (Nat.le_refl _))) | (rename_i e _ _ _ _ _; exact Nat.le_trans h (Nat.le_trans (run_ok e) (Nat.le_refl _))) | (rename_i e _ _ _ _ _ _; exact Nat.le_trans h (Nat.le_trans (run_ok e) (Nat.le_refl _)))
theorem apply_gd (p : Program) (fr : Frame) (callers : List Frame) (dying : Option Dying) (s : Sem Next) (w : World) (listen : Bool) (n : Nat) (h : n ≤ w.drawn) : Gd n (stepG.apply p listen fr callers dying s w) := by
  unfold stepG.apply
  dsimp only
  rw [gd_after]
  have hr : ∀ r, (if listen = true then s.runT p w #[] else (s.run p w, #[])).1 = r → n ≤ (wof r).drawn := by
    intro r hr
    have : r = s.run p w := by
      rw [← hr]; split
      · rw [Sem.runT_eq]
      · rfl
    rw [this]; exact Nat.le_trans h (run_le p s w)
  generalize (if listen = true then s.runT p w #[] else (s.run p w, #[])).1 = r at hr ⊢
  have h' := hr r rfl
  clear hr
  cases r with
  | ok a w' =>
    (repeat' split) <;> first | trivial | exact h' | (rename_i e; cases e; exact h') | (rename_i e _; cases e; exact h') | (rename_i e _ _; cases e; exact h') | (rename_i e _ _ _; cases e; exact h') | (rename_i e _ _ _ _; cases e; exact h') | (rename_i e _ _ _ _ _; cases e; exact h') | (rename_i e _ _ _ _ _ _; cases e; exact h') | (rename_i e _ _ _ _ _ _ _; cases e; exact h') | (rename_i e _ _ _ _ _ _ _ _; cases e; exact h') | (rename_i e _ _ _ _ _ _ _ _ _; cases e; exact h') | (rename_i e _ _ _ _ _ _ _ _ _ _; cases e; exact h') | (rename_i e _ _ _ _ _ _ _ _ _ _ _; cases e; exact h') | skip
    all_goals trace_state
  | halt a w' =>
    (repeat' split) <;> first | trivial | exact h' | (rename_i e; cases e; exact h') | (rename_i e _; cases e; exact h') | (rename_i e _ _; cases e; exact h') | (rename_i e _ _ _; cases e; exact h') | (rename_i e _ _ _ _; cases e; exact h') | (rename_i e _ _ _ _ _; cases e; exact h') | (rename_i e _ _ _ _ _ _; cases e; exact h') | (rename_i e _ _ _ _ _ _ _; cases e; exact h') | (rename_i e _ _ _ _ _ _ _ _; cases e; exact h') | (rename_i e _ _ _ _ _ _ _ _ _; cases e; exact h') | (rename_i e _ _ _ _ _ _ _ _ _ _; cases e; exact h') | (rename_i e _ _ _ _ _ _ _ _ _ _ _; cases e; exact h') | (rename_i e; cases e; exact endFatal_gd _ _ _ _ _ _ _ h') | (rename_i e; cases e; exact endThrow_gd _ _ _ _ h') | (rename_i e; cases e; exact early_gd _ _ _ _ _ _ _ h') | skip
    all_goals trace_state

theorem oper_gd (p : Program) (fr : Frame) (callers : List Frame) (dying : Option Dying) (w : World) (listen : Bool) (n : Nat) (h : n ≤ w.drawn) : Gd n (stepG.oper p listen fr callers dying w) := by
  unfold stepG.oper
  split
  · trivial
  · split <;> exact apply_gd _ _ _ _ _ _ _ _ h
theorem leave_gd (p : Program) (main : Bool) (fr : Frame) (callers : List Frame) (dying : Option Dying) (w : World) (n : Nat) (h : n ≤ w.drawn) (jump : Option Code) (b : Bool) (why : String) (g : Goroutine) :
  Gd n (match fr.roundOf with
      | none => if b = true then .go g w else .ended (.stuck why (fr.pos p)) w
      | some l =>
        GStep.after (seen p fr.fn ((Instr.endRound l jump).runT p w #[]).2) <| match ((Instr.endRound l jump).runT p w #[]).1 with
        | .ok v w => doReturn p main fr callers dying v w        
        | .halt _ w => .ended (.stuck "range over a function: no such loop" (fr.pos p)) w) := by
  split
  · exact gd_ite h trivial
  · rw [gd_after]
    split
    · rename_i e; exact doReturn_gd _ _ _ _ _ _ _ _ (Nat.le_trans h (runT_ok1 e))
    · trivial
theorem elim_gd {α : Type} {n : Nat} {o : Option α} {a : GStep} {f : α → GStep} (ha : Gd n a) (hf : ∀ x, Gd n (f x)) : Gd n (o.elim a f) := by cases o; exact ha; exact hf _
theorem exec_gd (p : Program) (main : Bool) (fr : Frame) (callers : List Frame) (dying : Option Dying) (w : World) (listen : Bool) (n : Nat) (h : n ≤ w.drawn) : Gd n (stepG.exec p main listen fr callers dying w) := by
  unfold stepG.exec
  dsimp only
  split
  all_goals first
    | trivial
    | exact h
    | exact apply_gd _ _ _ _ _ _ _ _ h
    | exact leave_gd _ _ _ _ _ _ _ h _ _ _ _
    | exact elim_gd (leave_gd _ _ _ _ _ _ _ h _ _ _ _) (fun _ => h)
    | exact elim_gd trivial (fun _ => apply_gd _ _ _ _ _ _ _ _ h)
    | exact gd_ite h trivial
    | (refine gd_ite (oper_gd _ _ _ _ _ _ _ h) ?_; exact h)
    | (split <;> first | exact h | trivial | (rename_i e; exact Nat.le_trans h (run_ok e)))
    | (refine gd_ite h ?_; (split <;> first | exact h | trivial | (rename_i e; exact Nat.le_trans h (run_ok e))))
    | (rw [gd_after]; split <;> first | trivial | (rename_i e; exact Nat.le_trans h (runT_ok1 e)) | (rename_i e; exact Nat.le_trans h (runT_halt1 e)) | (rename_i e; exact apply_gd _ _ _ _ _ _ _ _ (Nat.le_trans h (runT_ok1 e))))
    | skip
  all_goals trace_state
theorem stepG_gd (p : Program) (main : Bool) (g : Goroutine) (w : World) (listen : Bool) (n : Nat) (h : n ≤ w.drawn) : Gd n (stepG p main g w listen) := by
  unfold stepG
  dsimp only
  split
  · exact die_gd _ _ _ _ _ h
  · exact exec_gd _ _ _ _ _ _ _ _ h
  · exact unwind_gd _ _ _ _ _ _ _ h
theorem communicate_md (p : Program) (rest : Rest) (gs : Array Goroutine) (i : Nat) (g : Goroutine) (cases : Array CommCase) (blocking : Bool)
    (shape : CommShape) (w : World) (n : Nat) (h : n ≤ w.drawn) : Md n (communicate p rest gs i g cases blocking shape w).1 := by
  have hw : ∀ w', waitingAt rest cases w = some w' → w'.drawn = w.drawn := by
    intro w' e
    unfold waitingAt at e
    split at e
    · split at e
      · cases e; rfl
      · cases e
    · cases e; rfl
  unfold communicate
  dsimp only
  split
  · trivial
  · split
    · split
      · split
        · rename_i e; show n ≤ _; rw [hw _ e]; exact h
        · trivial
      · exact h
    · split
      · trivial
      · rename_i e
        have h' := Nat.le_trans h (run_ok e)
        clear e
        (repeat' split) <;> first | trivial | exact h' | (rename_i e; exact Nat.le_trans h' (Nat.le_trans (run_ok e) (Nat.le_refl _))) | (rename_i e; exact Nat.le_trans h' (run_halt e)) | (rename_i e _; exact Nat.le_trans h' (Nat.le_trans (run_ok e) (Nat.le_refl _))) | (rename_i e _; exact Nat.le_trans h' (run_halt e)) | (rename_i e _ _; exact Nat.le_trans h' (Nat.le_trans (run_ok e) (Nat.le_refl _))) | (rename_i e _ _; exact Nat.le_trans h' (run_halt e)) | (rename_i e _ _ _; exact Nat.le_trans h' (Nat.le_trans (run_ok e) (Nat.le_refl _))) | (rename_i e _ _ _; exact Nat.le_trans h' (run_halt e)) | (rename_i e _ _ _ _; exact Nat.le_trans h' (Nat.le_trans (run_ok e) (Nat.le_refl _))) | (rename_i e _ _ _ _; exact Nat.le_trans h' (run_halt e)) | (rename_i e _ _ _ _ _; exact Nat.le_trans h' (Nat.le_trans (run_ok e) (Nat.le_refl _))) | (rename_i e _ _ _ _ _; exact Nat.le_trans h' (run_halt e)) | (rename_i e _ _ _ _ _ _; exact Nat.le_trans h' (Nat.le_trans (run_ok e) (Nat.le_refl _))) | (rename_i e _ _ _ _ _ _; exact Nat.le_trans h' (run_halt e)) | (rename_i e _ _ _ _ _ _ _; exact Nat.le_trans h' (Nat.le_trans (run_ok e) (Nat.le_refl _))) | (rename_i e _ _ _ _ _ _ _; exact Nat.le_trans h' (run_halt e))
theorem look_md (p : Program) (gs : Array Goroutine) (rest : Rest) (w : World) (n : Nat) (h : n ≤ w.drawn) : Md n (look p gs rest w) := by
  unfold look
  dsimp only
  split
  · split
    · trivial
    · split
      · trivial
      · split
        · rename_i e; have h' := Nat.le_trans h (run_ok e); clear e; exact h'
        · trivial
        · trivial
  · trivial
theorem drain_dr (w : World) (c : Nat) : (drain w c).2.drawn = w.drawn := by
  unfold drain; split <;> rfl
theorem retime_dr (m : Machine) (k : Nat) (t : Timer) (a b : Nat) : (retime m k t a b).2.world.drawn = m.world.drawn := by
  unfold retime
  split
  rename_i had world e
  split at e
  · rename_i c _
    have := drain_dr m.world c
    rw [e] at this; exact this
  · cases e; rfl
theorem named_dr (m : Machine) (var : Addr) (f : Nat → Timer → Value × Machine) (N : Nat) (hf : ∀ k t, (f k t).2.world.drawn = N) {v : Value} {m' : Machine} (e : timerOp.named m var f = .ok (v, m')) : m'.world.drawn = N := by
  unfold timerOp.named at e
  split at e
  · rename_i k _
    have h1 := hf k (m.rest.timers.getD k default)
    rw [Except.ok.inj e] at h1
    exact h1
  · cases e
theorem opened_dr (m : Machine) (var : Addr) {m' : Machine} (e : timerOp.opened m var = some m') : m'.world.drawn = m.world.drawn := by
  unfold timerOp.opened at e
  split at e
  · split at e
    · cases e; rfl
    · cases e
  · cases e; rfl
theorem timerOp_dr (m : Machine) (op : TimerOp) {v : Value} {m' : Machine} (e : timerOp m op = .ok (v, m')) : m'.world.drawn = m.world.drawn := by
  unfold timerOp at e
  split at e
  · split at e
    · cases e; rfl
    · split at e
      · split at e
        · cases e
        · cases e; rfl
      · cases e
  · exact named_dr m _ _ _ (fun k t => retime_dr _ _ _ _ _) e
  · split at e
    · rename_i m1 e1
      exact named_dr m _ _ _ (fun k t => (retime_dr _ _ _ _ _).trans (opened_dr m _ e1)) e
    · cases e
  · cases e; rfl
theorem runT_md (p : Program) (m : Machine) (i : Nat) (listen : Bool) (n : Nat) (h : n ≤ m.world.drawn) : Md n (runT p m i listen).1 := by
  unfold runT
  dsimp only
  have hs := stepG_gd p (i == 0) (m.gs.swapAt! i { (default : Goroutine) with status := .finished }).1 m.world listen n h
  generalize stepG p (i == 0) (m.gs.swapAt! i { (default : Goroutine) with status := .finished }).1 m.world listen = s at hs ⊢
  cases s
  all_goals dsimp only
  all_goals first
    | trivial
    | exact hs
    | exact communicate_md _ _ _ _ _ _ _ _ _ _ hs
    | exact look_md _ _ _ _ _ hs
    | (split <;> first | trivial | exact hs)
    | (split
       · rename_i e; have h1 := timerOp_dr _ _ e; exact Nat.le_trans hs (Nat.le_of_eq h1.symm)
       · split <;> first | trivial | (rename_i g' w' es' e; have h1 : Gd n (GStep.go g' w' es') := by rw [← e]; exact endThrow_gd _ _ _ _ hs
                                      exact h1)
       · trivial
       · trivial)
    | (split
       · exact hs
       · split <;> first | trivial | (rename_i g' w' es' e; have h1 : Gd n (GStep.go g' w' es') := by rw [← e]; exact endThrow_gd _ _ _ _ hs
                                      exact h1)
       · trivial)
    | skip
theorem serve_md (p : Program) (m : Machine) (k n : Nat) (h : n ≤ m.world.drawn) : Md n (serve p m k) := by
  unfold serve
  split
  · trivial
  · exact h
  · dsimp only
    split
    · trivial
    · exact h
def Vd (n : Nat) : Move → Prop
  | .goroutine m _ => n ≤ m.world.drawn
  | .machine s _ => Md n s
theorem askOn_vd (p : Program) (m : Machine) (n : Nat) (h : n ≤ m.world.drawn) : Vd n (askOn p m) := by
  have pick : ∀ (w1 : World), n ≤ w1.drawn → ∀ (gs : Array Goroutine) (rest : Rest) (rs : List Nat), Vd n (match (choose (.sched rs.length)).run p w1 with
      | .halt _ w => .machine (.ended (.stuck "sched" "") w)
      | .ok k world =>
        if rs.length ≤ 1 then .goroutine { world, gs, rest } (rs.getD k 0) else        
        match (choose (.extern "sched.slice" 65536)).run p world with
        | .halt _ w => .machine (.ended (.stuck "sched.slice" "") w)
        | .ok n world => .goroutine { world, gs, rest := { rest with slice := if n = 0 then none else some (rs.getD k 0, n) } } (rs.getD k 0)) := by
    intro w1 h gs rest rs
    split
    · trivial
    · rename_i e
      have h1 := Nat.le_trans h (run_ok e)
      clear e
      split
      · exact h1
      · split
        · trivial
        · rename_i e; have h2 := Nat.le_trans h1 (run_ok e); clear e; exact h2
  unfold askOn
  dsimp only
  split
  · trivial
  · rename_i e
    have h1 := Nat.le_trans h (run_ok e)
    clear e
    split
    · exact serve_md _ _ _ _ h1
    · split
      · split
        · exact h1
        · split
          · exact h1
          · split <;> first | trivial | exact h1
      · split
        · exact pick _ h1 _ _ _
        · split
          · trivial
          · rename_i e; have h2 := Nat.le_trans h1 (run_ok e); clear e; exact pick _ h2 _ _ _
          · rename_i e; have h2 := Nat.le_trans h1 (run_ok e); clear e; exact h2
          · rename_i e; have h2 := Nat.le_trans h1 (run_ok e); clear e; exact pick (Machine.world _) h2 _ _ _
theorem ask_vd (p : Program) (m : Machine) (n : Nat) (h : n ≤ m.world.drawn) : Vd n (Go.ask p m) := by
  unfold Go.ask
  split
  · split
    · trivial
    · rename_i e; have h1 := Nat.le_trans h (run_ok e); clear e
      have h2 := look_md p m.gs m.rest _ n h1
      split
      · rename_i e; rw [e] at h2; exact askOn_vd _ _ _ h2
      · exact h2
    · rename_i e; have h1 := Nat.le_trans h (run_ok e); clear e; exact askOn_vd _ _ _ h1
  · exact askOn_vd _ _ _ h
theorem move_vd (p : Program) (m : Machine) (n : Nat) (h : n ≤ m.world.drawn) : Vd n (move p m) := by
  unfold move
  split
  · split
    · exact h
    · trivial
  · split
    · split
      · exact h
      · exact ask_vd _ _ _ h
    · exact ask_vd _ _ _ h
theorem step_md (p : Program) (m : Machine) (n : Nat) (h : n ≤ m.world.drawn) : Md n (step p m) := by
  unfold step stepT
  have h1 := move_vd p m n h
  split
  · rename_i e; rw [e] at h1; exact runT_md _ _ _ _ _ h1
  · rename_i e; rw [e] at h1; exact h1
theorem runN_md (p : Program) (n : Nat) : ∀ (k : Nat) (m : Machine), n ≤ m.world.drawn → Md n (runN p k m)
  | 0, _, h => h
  | k + 1, m, h => by
    unfold runN
    have h1 := step_md p m n h
    split
    · rename_i e; rw [e] at h1; exact runN_md p n k _ h1
    · trivial
theorem steps_le {P : Program} {m m' : Machine} (h : Steps P m m') : m.world.drawn ≤ m'.world.drawn := by
  obtain ⟨k, hk⟩ := h
  have h1 := runN_md P _ k m (Nat.le_refl _)
  rw [hk] at h1
  exact h1
/-- A call that returns has drawn no less than before. -/
theorem calls_le {P : Program} {f : FuncId} {args : Array Value} {w : World} {R : Ending → World → Prop} (hv : ∀ e w', R e w' → ∃ x, e = .returned x) (h : Calls P f args w R) :
    Calls P f args w fun e w' => R e w' ∧ w.drawn ≤ w'.drawn := by
  intro cs
  obtain ⟨e, w', fr, hR, hc, hf, hl⟩ := h cs
  obtain ⟨x, rfl⟩ := hv _ _ hR
  exact ⟨_, w', fr, ⟨hR, steps_le hc⟩, hc, hf, hl⟩
/-- With 'Below' of the whole heap: the world exactly. -/
theorem calls_lays {P : Program} {f : FuncId} {args : Array Value} {w : World} {v : Value} (h : Calls P f args w fun e w' => e = .returned v ∧ RowKit.Below w.heap.size w w') :
    Calls P f args w fun e w' => e = .returned v ∧ ∃ q os, w' = Sort.grow (w.drewN q) os :=
  (calls_le (fun _ _ h => ⟨v, h.1⟩) h).mono fun e w' ⟨⟨he, hb⟩, hd⟩ => ⟨he, w'.drawn - w.drawn, w'.heap.extract w.heap.size w'.heap.size, by
    have h1 : w'.heap = w.heap ++ w'.heap.extract w.heap.size w'.heap.size := by
      apply Array.ext_getElem?
      intro k
      rw [Array.getElem?_append]
      split
      · rename_i hk; exact hb.block k hk
      · rename_i hk
        rw [Array.getElem?_extract]
        have hs := hb.size
        by_cases hk2 : k < w'.heap.size
        · rw [if_pos (by omega)]; congr 1; omega
        · rw [if_neg (by omega)]; simp; omega
    have h2 := hb.os
    have h3 := hb.tape
    have h4 := hb.output
    cases w' with
    | mk hp tp dr o out =>
      simp only at h1 h2 h3 h4 hd
      simp only [Sort.grow, World.drewN]
      rw [← h1, h2, h3, h4]
      congr 1
      omega⟩
end Go.Proofs.Ytdaedjmkolcliaa.Dr
