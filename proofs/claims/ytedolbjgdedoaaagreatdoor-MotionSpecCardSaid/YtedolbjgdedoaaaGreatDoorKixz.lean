/- A drawn region by what is known of its operations' values (as Kitf), where an operation whose guard was not carried out is left out itself. A machine's step never takes a draw back; so a call that returns, told by 'Below', is told exactly: so many draws, these blocks behind. The library's SortFunc at structs, at a row of one's own: told once, whatever the structs; the comparison told by 'Below'. A slice of one's own that grows, while all that was there ahead stands. -/
import Derived.Test.YtedolbjgdedoaaaGreatDoorKit
import Derived.Calls
import Derived.StepT
import Derived.Below
import Derived.Sort.Grow
import Derived.Deep.Draws
import Derived.Shelf.SlSortCmp.NoneTotal
import Derived.Deep.Onto
set_option linter.unusedSimpArgs false
set_option linter.unusedVariables false
set_option maxHeartbeats 1000000
namespace Go.Proofs.YtedolbjgdedoaaaGreatDoor.Kit
open Go.RowKit

section
variable {P : Program} {ops : Array Oper} {Q : Exit → Act → World → Prop}
end
end Go.Proofs.YtedolbjgdedoaaaGreatDoor.Kit

namespace Go.Proofs.YtedolbjgdedoaaaGreatDoor.Dr
open Go

def wof {α : Type} : Result α → World
  | .ok _ w => w
  | .halt _ w => w
theorem ask_le {α : Type} : ∀ (a : Ask α) (w : World), w.drawn ≤ (w.ask a).2.drawn
  | .done a, w => Nat.le_refl _
  | .ask what range k, w => by
    unfold World.ask
    dsimp only
    split
    · exact ask_le _ _
    · exact Nat.le_trans (Nat.le_succ _) (ask_le _ { w with drawn := w.drawn + 1 })
theorem sys_le (w : World) (c : Sys) : w.drawn ≤ (w.sys c).2.drawn := by
  unfold World.sys
  have h := ask_le (Kernel.perform c w.os) w
  split
  · exact Nat.le_refl _
  · rename_i e; rw [e] at h; exact h
theorem far_eq {p : Program} {w w' : World} {a : Addr} {v : Value} {b : Bool} {l : List Addr} (h : w.farStore p a v b = .ok (w', l)) : w.drawn = w'.drawn := by
  unfold World.farStore at h
  split at h
  · split at h
    · rename_i r e
      cases h
      unfold World.viewStore at e
      simp only [bind, Except.bind, pure, Except.pure] at e
      repeat' (split at e <;> try (cases e; done))
      all_goals (cases e; rfl)
    · cases h
  · cases h
theorem run_le {α : Type} (p : Program) : ∀ (s : Sem α) (w : World), w.drawn ≤ (wof (s.run p w)).drawn := by
  intro s
  induction s with
  | pure a => intro w; exact Nat.le_refl _
  | load m a k ih =>
    intro w; unfold Sem.run; split
    · exact ih _ _
    · split
      · exact ih _ _
      · exact Nat.le_refl _
  | store m a v k ih =>
    intro w
    have hc : w.drawn ≤ (wof (match w.cell? a with
      | some _ => if w.frozen? a then .halt (.unsupported (.unsafePointer "a write to bytes that a string shares")) w else k.run p (w.setCell a v)
      | none => match w.farStore p a v (m == .atomic) with
        | .ok (w, _) => k.run p w
        | .error h => .halt h w)).drawn := by
      split
      · split
        · exact Nat.le_refl _
        · exact ih (w.setCell a v)
      · split
        · rename_i e; rw [far_eq e]; exact ih _
        · exact Nat.le_refl _
    cases v <;> first | exact Nat.le_refl _ | exact hc
  | new o k ih => intro w; exact ih _ { w with heap := w.heap.push o }
  | shape r k ih => intro w; exact ih _ _
  | freeze a n k ih => intro w; exact Nat.le_trans (by unfold World.freeze; split <;> exact Nat.le_refl _) (ih (w.freeze a n))
  | frozen a k ih => intro w; exact ih _ _
  | getObj r k ih =>
    intro w; unfold Sem.run; split
    · exact Nat.le_refl _
    · exact ih _ _
    · exact Nat.le_refl _
  | setObj r o k ih =>
    intro w; unfold Sem.run; split
    · exact Nat.le_refl _
    · exact ih { w with heap := w.heap.setIfInBounds r o }
    · exact Nat.le_refl _
  | choose q k ih =>
    intro w; unfold Sem.run; split
    · exact ih _ _
    · exact Nat.le_trans (Nat.le_succ _) (ih _ { w with drawn := w.drawn + 1 })
  | sys c k ih => intro w; exact Nat.le_trans (sys_le w c) (ih _ _)
  | program k ih => intro w; exact ih _ _
  | mark m k ih => intro w; exact ih _
  | halt h => intro w; exact Nat.le_refl _

def Gd (n : Nat) : GStep → Prop
  | .go _ w _ | .comm _ _ _ _ w _ | .spawn _ _ w _ | .count _ w _ | .timer _ _ w _ | .alone _ _ w _ | .newcoro _ _ _ w _ | .coroswitch _ _ _ w _ | .collect _ w _ | .watch _ w _ => n ≤ w.drawn
  | .ended .. => True
theorem gd_after (n : Nat) (es : Array Event) (s : GStep) : Gd n (GStep.after es s) ↔ Gd n s := by cases s <;> rfl
def Md (n : Nat) : Stepped → Prop
  | .next m => n ≤ m.world.drawn
  | .ended .. => True
theorem run_ok {α : Type} {p : Program} {s : Sem α} {w w' : World} {a : α} (h : s.run p w = .ok a w') : w.drawn ≤ w'.drawn := by
  have := run_le p s w; rw [h] at this; exact this
theorem run_halt {α : Type} {p : Program} {s : Sem α} {w w' : World} {a : Halt} (h : s.run p w = .halt a w') : w.drawn ≤ w'.drawn := by
  have := run_le p s w; rw [h] at this; exact this
theorem doReturn_gd (p : Program) (main : Bool) (fr : Frame) (callers : List Frame) (dying : Option Dying) (v : Value) (w : World) (n : Nat) (h : n ≤ w.drawn) : Gd n (doReturn p main fr callers dying v w) := by
  unfold doReturn
  (repeat' split) <;> first | exact h | trivial

theorem endWith_gd (w : World) (fd : Nat) (text : ByteArray) (o : Outcome) (n : Nat) : Gd n (endWith w fd text o) := by
  unfold endWith
  dsimp only
  (repeat' split) <;> trivial
theorem endThrow_gd (fr : Frame) (m : String) (w : World) (n : Nat) (h : n ≤ w.drawn) : Gd n (endThrow fr m w) := h
theorem endPrinting_gd (p : Program) (fr : Frame) (v : Value) (w : World) (n : Nat) (h : n ≤ w.drawn) : Gd n (endPrinting p fr v w) := by
  unfold endPrinting
  dsimp only
  (repeat' split) <;> first | exact h | trivial
theorem endFatal_gd (p : Program) (fr : Frame) (callers : List Frame) (dying : Option Dying) (m : String) (w : World) (n : Nat) (h : n ≤ w.drawn) : Gd n (endFatal p fr callers dying m w) := by
  unfold endFatal
  dsimp only
  split
  · rename_i e; exact Nat.le_trans h (run_ok e)
  · trivial
  · trivial
theorem runT_ok {α : Type} {p : Program} {s : Sem α} {w w' : World} {a : α} {es es' : Array Event} (h : s.runT p w es = (.ok a w', es')) : w.drawn ≤ w'.drawn := by
  rw [Sem.runT_eq] at h; exact run_ok (congrArg Prod.fst h)
theorem runT_halt {α : Type} {p : Program} {s : Sem α} {w w' : World} {a : Halt} {es es' : Array Event} (h : s.runT p w es = (.halt a w', es')) : w.drawn ≤ w'.drawn := by
  rw [Sem.runT_eq] at h; exact run_halt (congrArg Prod.fst h)
theorem runT_ok1 {α : Type} {p : Program} {s : Sem α} {w w' : World} {a : α} {es : Array Event} (h : (s.runT p w es).1 = .ok a w') : w.drawn ≤ w'.drawn := by
  rw [Sem.runT_eq] at h; exact run_ok h
theorem runT_halt1 {α : Type} {p : Program} {s : Sem α} {w w' : World} {a : Halt} {es : Array Event} (h : (s.runT p w es).1 = .halt a w') : w.drawn ≤ w'.drawn := by
  rw [Sem.runT_eq] at h; exact run_halt h
theorem writeOn_gd (p : Program) (fr : Frame) (d : Dying) (f : Fatal) (w : World) (n : Nat) (h : n ≤ w.drawn) : Gd n (writeOn p fr d f w) := by
  unfold writeOn
  dsimp only
  split
  · trivial
  · generalize hs : Sem.runT p _ w #[] = r
    rcases r with ⟨r, es⟩
    cases r with
    | ok a w' => exact Nat.le_trans h (runT_ok hs)
    | halt a w' =>
      have := Nat.le_trans h (runT_halt hs)
      cases a <;> first | trivial | exact this
theorem die_gd (p : Program) (fr : Frame) (d : Dying) (w : World) (n : Nat) (h : n ≤ w.drawn) : Gd n (die p fr d w) := by
  unfold die
  dsimp only
  (repeat' split) <;> first
    | trivial
    | exact h
    | exact endWith_gd _ _ _ _ _
    | (rename_i e; exact Nat.le_trans h (run_ok e))
    | (rename_i e; exact Nat.le_trans h (run_halt e))
    | (rename_i e; exact Nat.le_trans h (runT_ok e))
    | (rename_i e; exact Nat.le_trans h (runT_halt e))
    | (rename_i e; exact Nat.le_trans h (runT_ok1 e))
    | (rename_i e; exact Nat.le_trans h (runT_halt1 e))
    | exact writeOn_gd _ _ _ _ _ _ h
    | (rw [gd_after]; (repeat' split) <;> first
    | trivial
    | exact h
    | exact endWith_gd _ _ _ _ _
    | (rename_i e; exact Nat.le_trans h (run_ok e))
    | (rename_i e; exact Nat.le_trans h (run_halt e))
    | (rename_i e; exact Nat.le_trans h (runT_ok e))
    | (rename_i e; exact Nat.le_trans h (runT_halt e))
    | (rename_i e; exact Nat.le_trans h (runT_ok1 e))
    | (rename_i e; exact Nat.le_trans h (runT_halt1 e))
      | (rename_i e; exact endPrinting_gd _ _ _ _ _ (Nat.le_trans h (runT_halt1 e)))
      | skip)
    | skip
  all_goals trace_state
theorem gd_ite {n : Nat} {c : Prop} [Decidable c] {a b : GStep} (ha : Gd n a) (hb : Gd n b) : Gd n (if c then a else b) := by split; exact ha; exact hb
theorem callDeferred_gd (p : Program) (fr : Frame) (callers : List Frame) (dying : Option Dying) (d : Deferred) (w : World) (n : Nat) (h : n ≤ w.drawn) : Gd n (callDeferred p fr callers dying d w) := by
  unfold callDeferred
  dsimp only
  refine gd_ite trivial ?_
  · rw [gd_after]
    generalize hs : (invoke d.target d.args).runT p w #[] = r
    rcases r with ⟨r, es⟩
    cases r with
    | ok a w' =>
      have h' := Nat.le_trans h (runT_ok hs)
      clear hs
      dsimp only
      (repeat' split) <;> first | trivial | exact h' | (rename_i e; cases e; exact h') | (rename_i e _; cases e; exact h') | (rename_i e _ _; cases e; exact h') | (rename_i e _ _ _; cases e; exact h') | (rename_i e _ _ _ _; cases e; exact h') | (rename_i e _ _ _ _ _; cases e; exact h') | (rename_i e _ _ _ _ _ _; cases e; exact h') | (rename_i e _ _ _ _ _ _ _; cases e; exact h') | (rename_i e _ _ _ _ _ _ _ _; cases e; exact h') | (rename_i e _ _ _ _ _ _ _ _ _; cases e; exact h') | (rename_i e _ _ _ _ _ _ _ _ _ _; cases e; exact h') | (rename_i e _ _ _ _ _ _ _ _ _ _ _; cases e; exact h') | skip
      all_goals trace_state
    | halt a w' =>
      have h' := Nat.le_trans h (runT_halt hs)
      clear hs
      dsimp only
      (repeat' split) <;> first | trivial | exact h' | (rename_i e; cases e; exact h') | (rename_i e _; cases e; exact h') | (rename_i e _ _; cases e; exact h') | (rename_i e _ _ _; cases e; exact h') | (rename_i e _ _ _ _; cases e; exact h') | (rename_i e _ _ _ _ _; cases e; exact h') | (rename_i e _ _ _ _ _ _; cases e; exact h') | (rename_i e _ _ _ _ _ _ _; cases e; exact h') | (rename_i e _ _ _ _ _ _ _ _; cases e; exact h') | (rename_i e _ _ _ _ _ _ _ _ _; cases e; exact h') | (rename_i e _ _ _ _ _ _ _ _ _ _; cases e; exact h') | (rename_i e _ _ _ _ _ _ _ _ _ _ _; cases e; exact h') | (rename_i e; cases e; exact endFatal_gd _ _ _ _ _ _ _ h') | (rename_i e; cases e; exact endThrow_gd _ _ _ _ h') | skip
      all_goals trace_state
theorem unwind_gd (p : Program) (main : Bool) (fr : Frame) (callers : List Frame) (dying : Option Dying) (w : World) (n : Nat) (h : n ≤ w.drawn) : Gd n (unwind p main fr callers dying w) := by
  unfold unwind
  dsimp only
  (repeat' split) <;> first
    | trivial
    | exact h
    | exact endWith_gd _ _ _ _ _
    | (rename_i e; exact Nat.le_trans h (run_ok e))
    | (rename_i e; exact Nat.le_trans h (run_halt e))
    | (rename_i e; exact Nat.le_trans h (runT_ok e))
    | (rename_i e; exact Nat.le_trans h (runT_halt e))
    | (rename_i e; exact Nat.le_trans h (runT_ok1 e))
    | (rename_i e; exact Nat.le_trans h (runT_halt1 e))
    | exact callDeferred_gd _ _ _ _ _ _ _ h
    | exact doReturn_gd _ _ _ _ _ _ _ _ h
    | exact endPrinting_gd _ _ _ _ _ h
    | (rw [gd_after]; (repeat' split) <;> first
    | trivial
    | exact h
    | exact endWith_gd _ _ _ _ _
    | (rename_i e; exact Nat.le_trans h (run_ok e))
    | (rename_i e; exact Nat.le_trans h (run_halt e))
    | (rename_i e; exact Nat.le_trans h (runT_ok e))
    | (rename_i e; exact Nat.le_trans h (runT_halt e))
    | (rename_i e; exact Nat.le_trans h (runT_ok1 e))
    | (rename_i e; exact Nat.le_trans h (runT_halt1 e))
      | (rename_i e; exact doReturn_gd _ _ _ _ _ _ _ _ (Nat.le_trans h (runT_ok1 e)))
      | skip)
    | skip
  all_goals trace_state
theorem early_gd (p : Program) (fr : Frame) (callers : List Frame) (dying : Option Dying) (g : Nat) (w : World) (n : Nat) (h : n ≤ w.drawn) : Gd n (early p fr callers dying g w) := by
  unfold early
  dsimp only
  (repeat' split) <;> first | trivial | exact h | (rename_i e; exact Nat.le_trans h (Nat.le_trans (run_ok e) nlr)) | (rename_i e _; exact Nat.le_trans h (Nat.le_trans (run_ok e) nlr)) | (rename_i e _ _; exact Nat.le_trans h (Nat.le_trans (run_ok e) nlr)) | (rename_i e _ _ _; exact Nat.le_trans h (Nat.le_trans (run_ok e) nlr)) | (rename_i e _ _ _ _; exact Nat.le_trans h (Nat.le_trans (run_ok e) nlr)) | (rename_i e _ _ _ _ _; exact Nat.le_trans h (Nat.le_trans (run_ok e) nlr)) | (rename_i e _ _ _ _ _ _; exact Nat.le_trans h (Nat.le_trans (run_ok e) nlr))
theorem apply_gd (p : Program) (fr : Frame) (callers : List Frame) (dying : Option Dying) (s : Sem Next) (w : World) (listen : Bool) (n : Nat) (h : n ≤ w.drawn) : Gd n (stepG.apply p listen fr callers dying s w) := by
  unfold stepG.apply
  dsimp only
  rw [gd_after]
  have hr : ∀ r, (if listen = true then s.runT p w #[] else (s.run p w, #[])).1 = r → n ≤ (wof r).drawn := by
    intro r hr
    have : r = s.run p w := by
      rw [← hr]; split
      · rw [Sem.runT_eq]
      · rfl
    rw [this]; exact Nat.le_trans h (run_le p s w)
  generalize (if listen = true then s.runT p w #[] else (s.run p w, #[])).1 = r at hr ⊢
  have h' := hr r rfl
  clear hr
  cases r with
  | ok a w' =>
    (repeat' split) <;> first | trivial | exact h' | (rename_i e; cases e; exact h') | (rename_i e _; cases e; exact h') | (rename_i e _ _; cases e; exact h') | (rename_i e _ _ _; cases e; exact h') | (rename_i e _ _ _ _; cases e; exact h') | (rename_i e _ _ _ _ _; cases e; exact h') | (rename_i e _ _ _ _ _ _; cases e; exact h') | (rename_i e _ _ _ _ _ _ _; cases e; exact h') | (rename_i e _ _ _ _ _ _ _ _; cases e; exact h') | (rename_i e _ _ _ _ _ _ _ _ _; cases e; exact h') | (rename_i e _ _ _ _ _ _ _ _ _ _; cases e; exact h') | (rename_i e _ _ _ _ _ _ _ _ _ _ _; cases e; exact h') | skip
    all_goals trace_state
  | halt a w' =>
    (repeat' split) <;> first | trivial | exact h' | (rename_i e; cases e; exact h') | (rename_i e _; cases e; exact h') | (rename_i e _ _; cases e; exact h') | (rename_i e _ _ _; cases e; exact h') | (rename_i e _ _ _ _; cases e; exact h') | (rename_i e _ _ _ _ _; cases e; exact h') | (rename_i e _ _ _ _ _ _; cases e; exact h') | (rename_i e _ _ _ _ _ _ _; cases e; exact h') | (rename_i e _ _ _ _ _ _ _ _; cases e; exact h') | (rename_i e _ _ _ _ _ _ _ _ _; cases e; exact h') | (rename_i e _ _ _ _ _ _ _ _ _ _; cases e; exact h') | (rename_i e _ _ _ _ _ _ _ _ _ _ _; cases e; exact h') | (rename_i e; cases e; exact endFatal_gd _ _ _ _ _ _ _ h') | (rename_i e; cases e; exact endThrow_gd _ _ _ _ h') | (rename_i e; cases e; exact early_gd _ _ _ _ _ _ _ h') | skip
    all_goals trace_state

theorem oper_gd (p : Program) (fr : Frame) (callers : List Frame) (dying : Option Dying) (w : World) (listen : Bool) (n : Nat) (h : n ≤ w.drawn) : Gd n (stepG.oper p listen fr callers dying w) := by
  unfold stepG.oper
  split
  · trivial
  · split <;> exact apply_gd _ _ _ _ _ _ _ _ h
theorem leave_gd (p : Program) (main : Bool) (fr : Frame) (callers : List Frame) (dying : Option Dying) (w : World) (n : Nat) (h : n ≤ w.drawn) (jump : Option Code) (b : Bool) (why : String) (g : Goroutine) :
  Gd n (match fr.roundOf with
      | none => if b = true then .go g w else .ended (.stuck why (fr.pos p)) w
      | some l =>
        GStep.after (seen p fr.fn ((Instr.endRound l jump).runT p w #[]).2) <| match ((Instr.endRound l jump).runT p w #[]).1 with
        | .ok v w => doReturn p main fr callers dying v w        
        | .halt _ w => .ended (.stuck "range over a function: no such loop" (fr.pos p)) w) := by
  split
  · exact gd_ite h trivial
  · rw [gd_after]
    split
    · rename_i e; exact doReturn_gd _ _ _ _ _ _ _ _ (Nat.le_trans h (runT_ok1 e))
    · trivial
theorem elim_gd {α : Type} {n : Nat} {o : Option α} {a : GStep} {f : α → GStep} (ha : Gd n a) (hf : ∀ x, Gd n (f x)) : Gd n (o.elim a f) := by cases o; exact ha; exact hf _
theorem exec_gd (p : Program) (main : Bool) (fr : Frame) (callers : List Frame) (dying : Option Dying) (w : World) (listen : Bool) (n : Nat) (h : n ≤ w.drawn) : Gd n (stepG.exec p main listen fr callers dying w) := by
  unfold stepG.exec
  dsimp only
  split
  all_goals first
    | trivial
    | exact h
    | exact apply_gd _ _ _ _ _ _ _ _ h
    | exact leave_gd _ _ _ _ _ _ _ h _ _ _ _
    | exact elim_gd (leave_gd _ _ _ _ _ _ _ h _ _ _ _) (fun _ => h)
    | exact elim_gd trivial (fun _ => apply_gd _ _ _ _ _ _ _ _ h)
    | exact gd_ite h trivial
    | (refine gd_ite (oper_gd _ _ _ _ _ _ _ h) ?_; exact h)
    | (split <;> first | exact h | trivial | (rename_i e; exact Nat.le_trans h (run_ok e)))
    | (refine gd_ite h ?_; (split <;> first | exact h | trivial | (rename_i e; exact Nat.le_trans h (run_ok e))))
    | (rw [gd_after]; split <;> first | trivial | (rename_i e; exact Nat.le_trans h (runT_ok1 e)) | (rename_i e; exact Nat.le_trans h (runT_halt1 e)) | (rename_i e; exact apply_gd _ _ _ _ _ _ _ _ (Nat.le_trans h (runT_ok1 e))))
    | skip
  all_goals trace_state
theorem stepG_gd (p : Program) (main : Bool) (g : Goroutine) (w : World) (listen : Bool) (n : Nat) (h : n ≤ w.drawn) : Gd n (stepG p main g w listen) := by
  unfold stepG
  dsimp only
  split
  · exact die_gd _ _ _ _ _ h
  · exact exec_gd _ _ _ _ _ _ _ _ h
  · exact unwind_gd _ _ _ _ _ _ _ h
theorem communicate_md (p : Program) (rest : Rest) (gs : Array Goroutine) (i : Nat) (g : Goroutine) (cases : Array CommCase) (blocking : Bool)
    (shape : CommShape) (w : World) (n : Nat) (h : n ≤ w.drawn) : Md n (communicate p rest gs i g cases blocking shape w).1 := by
  have hw : ∀ w', waitingAt rest cases w = some w' → w'.drawn = w.drawn := by
    intro w' e
    unfold waitingAt at e
    split at e
    · split at e
      · cases e; rfl
      · cases e
    · cases e; rfl
  unfold communicate
  dsimp only
  split
  · trivial
  · split
    · split
      · split
        · rename_i e; show n ≤ _; rw [hw _ e]; exact h
        · trivial
      · exact h
    · split
      · trivial
      · rename_i e
        have h' := Nat.le_trans h (run_ok e)
        clear e
        (repeat' split) <;> first | trivial | exact h' | (rename_i e; exact Nat.le_trans h' (Nat.le_trans (run_ok e) nlr)) | (rename_i e; exact Nat.le_trans h' (run_halt e)) | (rename_i e _; exact Nat.le_trans h' (Nat.le_trans (run_ok e) nlr)) | (rename_i e _; exact Nat.le_trans h' (run_halt e)) | (rename_i e _ _; exact Nat.le_trans h' (Nat.le_trans (run_ok e) nlr)) | (rename_i e _ _; exact Nat.le_trans h' (run_halt e)) | (rename_i e _ _ _; exact Nat.le_trans h' (Nat.le_trans (run_ok e) nlr)) | (rename_i e _ _ _; exact Nat.le_trans h' (run_halt e)) | (rename_i e _ _ _ _; exact Nat.le_trans h' (Nat.le_trans (run_ok e) nlr)) | (rename_i e _ _ _ _; exact Nat.le_trans h' (run_halt e)) | (rename_i e _ _ _ _ _; exact Nat.le_trans h' (Nat.le_trans (run_ok e) nlr)) | (rename_i e _ _ _ _ _; exact Nat.le_trans h' (run_halt e)) | (rename_i e _ _ _ _ _ _; exact Nat.le_trans h' (Nat.le_trans (run_ok e) nlr)) | (rename_i e _ _ _ _ _ _; exact Nat.le_trans h' (run_halt e)) | (rename_i e _ _ _ _ _ _ _; exact Nat.le_trans h' (Nat.le_trans (run_ok e) nlr)) | (rename_i e _ _ _ _ _ _ _; exact Nat.le_trans h' (run_halt e))
theorem look_md (p : Program) (gs : Array Goroutine) (rest : Rest) (w : World) (n : Nat) (h : n ≤ w.drawn) : Md n (look p gs rest w) := by
  unfold look
  dsimp only
  split
  · split
    · trivial
    · split
      · trivial
      · split
        · rename_i e; have h' := Nat.le_trans h (run_ok e); clear e; exact h'
        · trivial
        · trivial
  · trivial
theorem drain_dr (w : World) (c : Nat) : (drain w c).2.drawn = w.drawn := by
  unfold drain; split <;> rfl
theorem retime_dr (m : Machine) (k : Nat) (t : Timer) (a b : Nat) : (retime m k t a b).2.world.drawn = m.world.drawn := by
  unfold retime
  split
  rename_i had world e
  split at e
  · rename_i c _
    have := drain_dr m.world c
    rw [e] at this; exact this
  · cases e; rfl
theorem named_dr (m : Machine) (var : Addr) (f : Nat → Timer → Value × Machine) (N : Nat) (hf : ∀ k t, (f k t).2.world.drawn = N) {v : Value} {m' : Machine} (e : timerOp.named m var f = .ok (v, m')) : m'.world.drawn = N := by
  unfold timerOp.named at e
  split at e
  · rename_i k _
    have h1 := hf k (m.rest.timers.getD k default)
    rw [Except.ok.inj e] at h1
    exact h1
  · cases e
theorem opened_dr (m : Machine) (var : Addr) {m' : Machine} (e : timerOp.opened m var = some m') : m'.world.drawn = m.world.drawn := by
  unfold timerOp.opened at e
  split at e
  · split at e
    · cases e; rfl
    · cases e
  · cases e; rfl
theorem timerOp_dr (m : Machine) (op : TimerOp) {v : Value} {m' : Machine} (e : timerOp m op = .ok (v, m')) : m'.world.drawn = m.world.drawn := by
  unfold timerOp at e
  split at e
  · split at e
    · cases e; rfl
    · split at e
      · split at e
        · cases e
        · cases e; rfl
      · cases e
  · exact named_dr m _ _ _ (fun k t => retime_dr _ _ _ _ _) e
  · split at e
    · rename_i m1 e1
      exact named_dr m _ _ _ (fun k t => (retime_dr _ _ _ _ _).trans (opened_dr m _ e1)) e
    · cases e
  · cases e; rfl
theorem runT_md (p : Program) (m : Machine) (i : Nat) (listen : Bool) (n : Nat) (h : n ≤ m.world.drawn) : Md n (runT p m i listen).1 := by
  unfold runT
  dsimp only
  have hs := stepG_gd p (i == 0) (m.gs.swapAt! i { (default : Goroutine) with status := .finished }).1 m.world listen n h
  generalize stepG p (i == 0) (m.gs.swapAt! i { (default : Goroutine) with status := .finished }).1 m.world listen = s at hs ⊢
  cases s
  all_goals dsimp only
  all_goals first
    | trivial
    | exact hs
    | exact communicate_md _ _ _ _ _ _ _ _ _ _ hs
    | exact look_md _ _ _ _ _ hs
    | (split <;> first | trivial | exact hs)
    | (split
       · rename_i e; have h1 := timerOp_dr _ _ e; exact Nat.le_trans hs (Nat.le_of_eq h1.symm)
       · split <;> first | trivial | (rename_i g' w' es' e; have h1 : Gd n (GStep.go g' w' es') := by rw [← e]; exact endThrow_gd _ _ _ _ hs
                                      exact h1)
       · trivial
       · trivial)
    | (split
       · exact hs
       · split <;> first | trivial | (rename_i g' w' es' e; have h1 : Gd n (GStep.go g' w' es') := by rw [← e]; exact endThrow_gd _ _ _ _ hs
                                      exact h1)
       · trivial)
    | skip
theorem serve_md (p : Program) (m : Machine) (k n : Nat) (h : n ≤ m.world.drawn) : Md n (serve p m k) := by
  unfold serve
  split
  · trivial
  · exact h
  · dsimp only
    split
    · trivial
    · exact h
def Vd (n : Nat) : Move → Prop
  | .goroutine m _ => n ≤ m.world.drawn
  | .machine s _ => Md n s
theorem askOn_vd (p : Program) (m : Machine) (n : Nat) (h : n ≤ m.world.drawn) : Vd n (askOn p m) := by
  have pick : ∀ (w1 : World), n ≤ w1.drawn → ∀ (gs : Array Goroutine) (rest : Rest) (rs : List Nat), Vd n (match (choose (.sched rs.length)).run p w1 with
      | .halt _ w => .machine (.ended (.stuck "sched" "") w)
      | .ok k world =>
        if rs.length ≤ 1 then .goroutine { world, gs, rest } (rs.getD k 0) else        
        match (choose (.extern "sched.slice" 65536)).run p world with
        | .halt _ w => .machine (.ended (.stuck "sched.slice" "") w)
        | .ok n world => .goroutine { world, gs, rest := { rest with slice := if n = 0 then none else some (rs.getD k 0, n) } } (rs.getD k 0)) := by
    intro w1 h gs rest rs
    split
    · trivial
    · rename_i e
      have h1 := Nat.le_trans h (run_ok e)
      clear e
      split
      · exact h1
      · split
        · trivial
        · rename_i e; have h2 := Nat.le_trans h1 (run_ok e); clear e; exact h2
  unfold askOn
  dsimp only
  split
  · trivial
  · rename_i e
    have h1 := Nat.le_trans h (run_ok e)
    clear e
    split
    · exact serve_md _ _ _ _ h1
    · split
      · split
        · exact h1
        · split
          · exact h1
          · split <;> first | trivial | exact h1
      · split
        · exact pick _ h1 _ _ _
        · split
          · trivial
          · rename_i e; have h2 := Nat.le_trans h1 (run_ok e); clear e; exact pick _ h2 _ _ _
          · rename_i e; have h2 := Nat.le_trans h1 (run_ok e); clear e; exact h2
          · rename_i e; have h2 := Nat.le_trans h1 (run_ok e); clear e; exact pick (Machine.world _) h2 _ _ _
theorem ask_vd (p : Program) (m : Machine) (n : Nat) (h : n ≤ m.world.drawn) : Vd n (Go.ask p m) := by
  unfold Go.ask
  split
  · split
    · trivial
    · rename_i e; have h1 := Nat.le_trans h (run_ok e); clear e
      have h2 := look_md p m.gs m.rest _ n h1
      split
      · rename_i e; rw [e] at h2; exact askOn_vd _ _ _ h2
      · exact h2
    · rename_i e; have h1 := Nat.le_trans h (run_ok e); clear e; exact askOn_vd _ _ _ h1
  · exact askOn_vd _ _ _ h
theorem move_vd (p : Program) (m : Machine) (n : Nat) (h : n ≤ m.world.drawn) : Vd n (move p m) := by
  unfold move
  split
  · split
    · exact h
    · trivial
  · split
    · split
      · exact h
      · exact ask_vd _ _ _ h
    · exact ask_vd _ _ _ h
theorem step_md (p : Program) (m : Machine) (n : Nat) (h : n ≤ m.world.drawn) : Md n (step p m) := by
  unfold step stepT
  have h1 := move_vd p m n h
  split
  · rename_i e; rw [e] at h1; exact runT_md _ _ _ _ _ h1
  · rename_i e; rw [e] at h1; exact h1
theorem runN_md (p : Program) (n : Nat) : ∀ (k : Nat) (m : Machine), n ≤ m.world.drawn → Md n (runN p k m)
  | 0, _, h => h
  | k + 1, m, h => by
    unfold runN
    have h1 := step_md p m n h
    split
    · rename_i e; rw [e] at h1; exact runN_md p n k _ h1
    · trivial
theorem steps_le {P : Program} {m m' : Machine} (h : Steps P m m') : m.world.drawn ≤ m'.world.drawn := by
  obtain ⟨k, hk⟩ := h
  have h1 := runN_md P _ k m nlr
  rw [hk] at h1
  exact h1
theorem calls_le {P : Program} {f : FuncId} {args : Array Value} {w : World} {R : Ending → World → Prop} (hv : ∀ e w', R e w' → ∃ x, e = .returned x) (h : Calls P f args w R) :
    Calls P f args w fun e w' => R e w' ∧ w.drawn ≤ w'.drawn := by
  intro cs
  obtain ⟨e, w', fr, hR, hc, hf, hl⟩ := h cs
  obtain ⟨x, rfl⟩ := hv _ _ hR
  exact ⟨_, w', fr, ⟨hR, steps_le hc⟩, hc, hf, hl⟩
theorem calls_lays {P : Program} {f : FuncId} {args : Array Value} {w : World} {v : Value} (h : Calls P f args w fun e w' => e = .returned v ∧ RowKit.Below w.heap.size w w') :
    Calls P f args w fun e w' => e = .returned v ∧ ∃ q os, w' = Sort.grow (w.drewN q) os :=
  (calls_le (fun _ _ h => ⟨v, h.1⟩) h).mono fun e w' ⟨⟨he, hb⟩, hd⟩ => ⟨he, w'.drawn - w.drawn, w'.heap.extract w.heap.size w'.heap.size, by
    have h1 : w'.heap = w.heap ++ w'.heap.extract w.heap.size w'.heap.size := by
      apply Array.ext_getElem?
      intro k
      rw [Array.getElem?_append]
      split
      · rename_i hk; exact hb.block k hk
      · rename_i hk
        rw [Array.getElem?_extract]
        have hs := hb.size
        by_cases hk2 : k < w'.heap.size
        · rw [if_pos omg]; congr 1; omega
        · rw [if_neg omg]; simp; omega
    have h2 := hb.os
    have h3 := hb.tape
    have h4 := hb.output
    cases w' with
    | mk hp tp dr o out =>
      simp only at h1 h2 h3 h4 hd
      simp only [Sort.grow, World.drewN]
      rw [← h1, h2, h3, h4]
      congr 1
      omega⟩
end Go.Proofs.YtedolbjgdedoaaaGreatDoor.Dr

namespace Go.Proofs.YtedolbjgdedoaaaGreatDoor.Kit
open Go.RowKit Go.Shelf Go.Lib Go.Sort

section
variable {P : Program} {ρ : Ren} {α : Type}
theorem flat_len (enc : α → List Value) (k : Nat) (hk : ∀ x, (enc x).length = k) (l : List α) : (l.flatMap enc).length = l.length * k := by
  induction l with
  | nil => simp
  | cons s l ih => simp only [List.flatMap_cons, List.length_append, List.length_cons, hk, ih, Nat.add_mul]; omega
variable [Inhabited α]
theorem flat_get (enc : α → List Value) (k : Nat) (hk : ∀ x, (enc x).length = k) : ∀ (l : List α) (i j : Nat), i < l.length → j < k → (l.flatMap enc)[i * k + j]? = (enc (l.getD i default))[j]?
  | s :: l, 0, j, _, hj => by
    rw [List.flatMap_cons, List.getElem?_append_left (by rw [hk]; omega)]
    simp
  | s :: l, i + 1, j, hi, hj => by
    rw [List.flatMap_cons, List.getElem?_append_right (by rw [hk, Nat.add_mul]; omega)]
    have h2 : (i + 1) * k + j - (enc s).length = i * k + j := by rw [hk, Nat.add_mul]; omega
    rw [h2, flat_get enc k hk l i j (by simpa using hi) hj]
    simp
theorem flatK_get' (enc : α → List Value) (k : Nat) (hk : ∀ x, (enc x).length = k) (d : Array α) (t : Nat) (h : t < d.size * k) : some ((flatK enc k d)[t]!) = (d.toList.flatMap enc)[t]? := by
  have hk0 : 0 < k := by
    rcases Nat.eq_zero_or_pos k with e | e
    · rw [e] at h; omega
    · exact e
  have hq : t / k < d.size := Nat.div_lt_of_lt_mul (by rw [Nat.mul_comm]; exact h)
  have hr : t % k < k := Nat.mod_lt _ hk0
  rw [get_flatK _ _ _ _ h]
  have h1 := flat_get enc k hk d.toList (t / k) (t % k) (by simpa using hq) hr
  rw [show t / k * k + t % k = t by rw [Nat.mul_comm]; exact Nat.div_add_mod t k] at h1
  rw [h1]
  have h2 : d.toList.getD (t / k) default = d[t / k]! := by
    simp [List.getD, hq]
  rw [h2]
  have h4 : t % k < (enc d[t / k]!).length := by rw [hk]; exact hr
  rw [List.getElem?_eq_getElem h4, getElem!_pos (enc d[t / k]!) (t % k) h4]
theorem row_sorted (enc : α → List Value) (k : Nat) {w : World} {g n : Nat} {cur : Array Value} {t : TypeId} {d : Array α} {os : Array Obj} (hg : w.heap[g]? = some (.cells cur t (0, 0))) :
    (sortWorldK enc k w g 0 n d os).heap[g]? = some (.cells (putCells id 0 (flatK enc k d) cur) t (0, 0)) := by
  have hlt := (Array.getElem?_eq_some_iff.1 hg).1
  show ((w.heap.modify g (onCells (putCells id 0 (flatK enc k d)))) ++ os)[g]? = _
  rw [Array.getElem?_append_left (by simpa using hlt), Array.getElem?_modify, if_pos rfl, hg]
  rfl
theorem row_exc (enc : α → List Value) (k : Nat) (w : World) (g n : Nat) (d : Array α) (os : Array Obj) : Kit.Exc (fun q => q = g) w (sortWorldK enc k w g 0 n d os) := by
  refine ⟨rfl, rfl, rfl, ?_, fun q hq hn => ?_⟩
  · show w.heap.size ≤ ((w.heap.modify g (onCells (putCells id 0 (flatK enc k d)))) ++ os).size
    simp
  · show ((w.heap.modify g (onCells (putCells id 0 (flatK enc k d)))) ++ os)[q]? = _
    rw [Array.getElem?_append_left (by simpa using hq), Array.getElem?_modify, if_neg (fun e => hn e.symm)]
theorem sorted_pair (lt : α → α → Bool) (d : Array α) (hs : SortedIn lt 0 d.size d) : d.toList.Pairwise fun a b => lt b a = false := by
  rw [List.pairwise_iff_getElem]
  intro i j hi hj hij
  have hi' : i < d.size := by simpa using hi
  have hj' : j < d.size := by simpa using hj
  have h := hs i j (Nat.zero_le _) hij hj'
  rw [getElem!_pos d i hi', getElem!_pos d j hj'] at h
  simpa using h
theorem sort_own (L : Go.Proofs.SlLaysF0.n6 P ρ) (k : Nat) (aE : ∀ w, (isAgg (ρ.t 24)).run P w = .ok true w) (zE : ∀ w, (Go.sizeOf (ρ.t 24)).run P w = .ok k w) (enc : α → List Value) (hk : ∀ x, (enc x).length = k) (h1 : ∀ x, ∀ v ∈ enc x, v.oneCell' = true)
    (cf : α → α → Int) (hO : SWO (ltOf cf)) (g0 : Nat) (eg : ∀ args w, (callFunc g0 args).run P w = .ok (.enter g0 args) w)
    (hcmp : ∀ (x y : α) (W : World), Calls P g0 #[.agg (enc x).toArray, .agg (enc y).toArray] W fun e w' => e = .returned (.int .i64 (cf x y)) ∧ RowKit.Below W.heap.size W w')
    (v : Value) (s : Nat) (T : TypeId) (l : List α) (w : World) (hb : l.length ≤ 1000000000) (hS : w.ownsRow s T k v l.length (l.flatMap enc)) :
    Calls P (ρ.f 6) #[v, .func (.func g0) #[] #[]] w
      fun e w' => e = .returned (.tuple #[]) ∧ ∃ l' : List α, l'.Perm l ∧ (l'.Pairwise fun a b => ltOf cf b a = false) ∧ w'.ownsRow s T k v l'.length (l'.flatMap enc) ∧ Kit.Exc (fun q => v.ownBlock = some q) w w' := by
  rcases hS.2 with ⟨rfl, hl⟩ | ⟨g, cap, cur, rfl, hg, hh, h2, h3, h4, h5⟩
  · obtain rfl := List.eq_nil_of_length_eq_zero hl
    refine (AnyF.slices_SortFunc_none L none 0 _ w).mono ?_
    rintro e w' ⟨rfl, rfl⟩
    exact ⟨rfl, [], List.Perm.refl _, List.Pairwise.nil, hS, Kit.Exc.refl _ _⟩
  · have hlt := (Array.getElem?_eq_some_iff.1 hh).1
    have hfl := flat_len enc k hk l
    have hH : HoldsK enc k w g 0 l.toArray := fun j hj => by
      rw [size_flatK, List.size_toArray] at hj
      refine ⟨?_, frozen_of_row _ _ _ _ _ hh⟩
      have e1 := flatK_get' enc k hk l.toArray j (by simpa using hj)
      simp only [World.cell?, hh, Nat.zero_add]
      rw [show id ((flatK enc k l.toArray)[j]!) = (flatK enc k l.toArray)[j]! from rfl, e1, ← h5, List.getElem?_take_of_lt omg]
      simp
    have hcon := AnyQ.slices_SortFunc L k aE zE enc hk h1 cf hO g0 #[] g 0 cap l.toArray w eg (fun _ _ _ _ x y => Dr.calls_lays (hcmp x y _)) hH hlt (by simp; omega)
    refine hcon.mono ?_
    rintro e w' ⟨rfl, d', n, os, hp, hs, rfl⟩
    have hsz : d'.size = l.length := by simpa using hp.1
    have hex := row_exc enc k w g n d' os
    have hfl' := flat_len enc k hk d'.toList
    refine ⟨rfl, d'.toList, ?_, sorted_pair _ d' (by rw [hsz]; simpa using hs), ⟨hfl', .inr ⟨g, cap, putCells id 0 (flatK enc k d') cur, by simp [hsz], hg, row_sorted enc k hh, by simpa [hsz] using h2, h3, by simp [putCells, h4], ?_⟩⟩, hex.mono (fun q _ e => by simp [Value.ownBlock, e])⟩
    · have := hp.2.2
      have e1 : d'.extract 0 l.toArray.size = d' := by rw [← hp.1]; simp
      have e2 : l.toArray.extract 0 l.toArray.size = l.toArray := by simp
      rw [e1, e2] at this
      simpa using this
    · apply List.ext_getElem?
      intro p
      simp only [Array.length_toList] at hfl'
      have hmul : d'.size * k = l.length * k := by rw [hsz]
      by_cases hpp : p < d'.size * k
      · have e1 := flatK_get' enc k hk d' p hpp
        rw [List.getElem?_take_of_lt (by simpa using hpp), ← e1]
        have e2 : p < cur.size := by have := Nat.mul_le_mul_right k h2; omega
        simp [putCells, e2, hpp]
      · rw [List.getElem?_take_eq_none (by simp; omega), List.getElem?_eq_none (by rw [hfl']; omega)]
end
end Go.Proofs.YtedolbjgdedoaaaGreatDoor.Kit

namespace Go.Proofs.YtedolbjgdedoaaaGreatDoor.Kit
open Go.RowKit

structure Gw (W0 : World) (e : TypeId) (k : Nat) (v : Value) (n : Nat) (xs : List Value) (w : World) : Prop where
  own : w.ownsRow W0.heap.size e k v n xs
  bel : Below W0.heap.size W0 w
namespace Gw
variable {W0 w w' : World} {e : TypeId} {k : Nat} {v : Value} {n : Nat} {xs : List Value}
theorem start (W0 : World) (e : TypeId) (k : Nat) : Gw W0 e k (.slice none 0 0) 0 [] W0 := ⟨World.ownsRow_nil _ _ _ _, Below.refl _ _⟩
theorem alloc (h : Gw W0 e k v n xs w) (o : Obj) : Gw W0 e k v n xs (w.alloc o) := ⟨h.own.alloc o, h.bel.alloc h.bel.size o⟩
theorem thn (h : Gw W0 e k v n xs w) (hb : Below w.heap.size w w') : Gw W0 e k v n xs w' := by
  refine ⟨?_, h.bel.trans (hb.mono h.bel.size)⟩
  obtain ⟨h1, h2⟩ := h.own
  refine ⟨h1, ?_⟩
  rcases h2 with ⟨rfl, rfl⟩ | ⟨g, cap, cur, rfl, hbg, hg, hnc, hcm, hcs, htake⟩
  · exact .inl ⟨rfl, rfl⟩
  · exact .inr ⟨g, cap, cur, rfl, hbg, (hb.block g (Array.getElem?_eq_some_iff.1 hg).1).trans hg, hnc, hcm, hcs, htake⟩
theorem app {v' : Value} {m : Nat} {ys : List Value} (h : Gw W0 e k v n xs w) (ho : w'.ownsRow W0.heap.size e k v' m ys) (hg : w.grownBy w' v.ownBlock) : Gw W0 e k v' m ys w' :=
  ⟨ho, h.bel.grown hg h.bel.size (fun q hq => (h.own.lt q hq).1)⟩
theorem base {W1 : World} (h : Gw W0 e k v n xs w) (h1 : Below W1.heap.size W1 W0) : Gw W1 e k v n xs w := ⟨h.own.mono h1.size, h1.trans (h.bel.mono h1.size)⟩
theorem shape (h : Gw W0 e k v n xs w) : ∃ a c, v = .slice a n c := by
  rcases h.own.2 with ⟨rfl, hn⟩ | ⟨g, cap, cur, rfl, _⟩
  · exact ⟨none, 0, by rw [hn]⟩
  · exact ⟨_, _, rfl⟩
theorem size (h : Gw W0 e k v n xs w) : W0.heap.size ≤ w.heap.size := h.bel.size
end Gw
theorem lit_at (W : World) (l : List Value) (t : TypeId) {b : Nat} (hb : b = W.heap.size) (j : Nat) (u : Value) (h : l[j]? = some u) : (W.alloc (.cells l.toArray t)).cell? ((⟨b, 0, none⟩ : Addr).add j) = some u := by
  subst hb
  have h1 := World.alloc_heap_new W (.cells l.toArray t)
  have e : (⟨W.heap.size, 0, none⟩ : Addr).add j = ⟨W.heap.size, j, none⟩ := by
    unfold Addr.add; split <;> simp_all
  rw [e]
  simp only [World.cell?, h1]
  simpa using h
structure El (P : Program) (t e : TypeId) (z : Value) (size bytes : Nat) : Prop where
  under : P.underlying t = some (.slice e)
  info : (P.info? e).map (fun i => (i.zero, i.size, i.bytes)) = some (some z, size, bytes)
  cells : z.cells.size = size
  pos : 0 < size
  small : bytes ≤ 4096
theorem wpList_app {P : Program} {t e : TypeId} {z : Value} {size bytes : Nat} (E : El P t e z size bytes) {W0 : World} (w : World) {ops : Array Oper} {rest : List Oper} {o : Oper} {a : Act} {Q : Exit → Act → World → Prop} (hgd : o.guard = none) (s x : Operand)
    (ho : o.op = .call { callee := .builtin .append, args := #[s, x], argTypes := #[t, t] }) (v : Value) (n : Nat) (xs : List Value) (h : Gw W0 e size v n xs w) (hs : a.eval s = v) (hn : n ≤ 1000000000)
    (ad : Addr) (c : Nat) (news : List Value) (hx : a.eval x = .slice (some ad) 1 c) (hl : news.length = size) (hnews : ∀ j u, news[j]? = some u → w.cell? (ad.add j) = some u) (h1 : ∀ u ∈ news, u.oneCell' = true)
    (cont : ∀ v' w', Gw W0 e size v' (n + 1) (xs ++ news) w' → w.grownBy w' v.ownBlock → wpList P ops Q rest (a.put o.dst v') w') : wpList P ops Q (o :: rest) a w := by
  obtain ⟨i, hi, hz, hsz, hby⟩ := info_parts E.info
  have hb : (n + 1) * bytes ≤ 140737488355328 := Nat.le_trans (Nat.mul_le_mul (show n + 1 ≤ 1000000001 by omega) E.small) omg
  exact wpList_append_own' w hgd s x t ho W0.heap.size e i z size bytes E.under hi hz hsz hby E.cells E.pos v n xs hs h.own ad 1 c news hx omg hnews h1 (by unfold maxLen; omega) hb h.size
    fun v' w' ho hg _ _ => cont v' w' (h.app ho hg) hg
end Go.Proofs.YtedolbjgdedoaaaGreatDoor.Kit
