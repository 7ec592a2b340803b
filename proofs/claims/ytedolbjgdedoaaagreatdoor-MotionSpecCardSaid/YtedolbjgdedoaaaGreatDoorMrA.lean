/- Walks: the laws of layer 27: mirrored. -/
import Derived.Test.YtedolbjgdedoaaaGreatDoorMpV
import Derived.Test.YtedolbjgdedoaaaGreatDoorMpD
set_option linter.unusedSimpArgs false
set_option linter.unusedVariables false
set_option maxRecDepth 100000
set_option maxHeartbeats 8000000
namespace Go.Proofs.YtedolbjgdedoaaaGreatDoor
open Go.RowKit Go.Shelf
attribute [local go_sem] Oper.semAt_some
namespace Mo
structure MQ (w W : World) (cs cr : Array Value) : Prop where
 bel : Below w.heap.size w W
 sg : Kit.Bk W w.heap.size 60 cs
 re : Kit.Bk W (w.heap.size + 1) 69 cr
 r1 : ∃ c, c.size = 14 ∧ Kit.Bk W (w.heap.size + 2) 60 c
 r2 : ∃ c, c.size = 4 ∧ Kit.Bk W (w.heap.size + 3) 69 c
theorem MQ.exc {S : Nat → Prop} {w A B : World} {cs cr : Array Value} (h : MQ w A cs cr) (hx : Kit.Exc S A B) (hS : ∀ k, S k → w.heap.size + 2 ≤ k) (r1 : ∃ c, c.size = 14 ∧ Kit.Bk B (w.heap.size + 2) 60 c) (r2 : ∃ c, c.size = 4 ∧ Kit.Bk B (w.heap.size + 3) 69 c) : MQ w B cs cr :=
 ⟨h.bel.trans (hx.below h.bel.size (fun k hk => by have := hS k hk; omega)), h.sg.exc hx (fun e => by have := hS _ e; omega), h.re.exc hx (fun e => by have := hS _ e; omega), r1, r2⟩
theorem MQ.start (w : World) (cs cr c1 c2 : Array Value) (h1 : c1.size = 14) (h2 : c2.size = 4) : MQ w ((((w.alloc (.cells cs 60)).alloc (.cells cr 69)).alloc (.cells c1 60)).alloc (.cells c2 69)) cs cr := by
 obtain ⟨⟨q0, q1, q2, q3⟩, hb, _⟩ := Kit.four w cs cr c1 c2 60 69 60 69
 exact ⟨hb, q0, q1, ⟨_, h1, q2⟩, ⟨_, h2, q3⟩⟩
def E6 (w : World) (q : Nat) (A B : World) : Prop := Kit.Exc (fun k => (q = 8 ∧ k = w.heap.size + 2) ∨ (q = 9 ∧ k = w.heap.size + 3)) A B ∧ ∀ cs cr, MQ w A cs cr → MQ w B cs cr
theorem E6.refl (w : World) (q : Nat) (A : World) : E6 w q A A := ⟨Kit.Exc.refl _ _, fun _ _ h => h⟩
end Mo
end Go.Proofs.YtedolbjgdedoaaaGreatDoor
