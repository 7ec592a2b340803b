/- Walks: package pose: Extent. -/
import Derived.Test.YtedolbjgdedoaaaGreatDoorMpS
set_option linter.unusedSimpArgs false
set_option linter.unusedVariables false
set_option maxRecDepth 100000
set_option maxHeartbeats 8000000
namespace Go.Proofs.YtedolbjgdedoaaaGreatDoor
open Go.RowKit Go.Shelf
attribute [local go_sem] Oper.semAt_some
namespace Mo
def bx0 (s : St) (b : Un.Bd) : Bx := ⟨29 * s.x - 841 * b.girth, 29 * s.x + 841 * b.girth, 29 * s.y - 841 * b.girth, 29 * s.y + 841 * b.girth⟩
def addT (a : Bx) (q : Int × Int) : Bx := join a (pt q.1 q.2)
structure EQ (w W : World) (s : St) (b : Un.Bd) (t : Bx) : Prop where
 bel : Below w.heap.size w W
 st : Kit.Bk W w.heap.size 37 (stA s)
 bd : Kit.Bk W (w.heap.size + 1) 48 (Un.bdA b)
 res : Kit.Bk W (w.heap.size + 2) 52 (bxA t)
theorem EQ.then {w W W' : World} {s : St} {b : Un.Bd} {t : Bx} (h : EQ w W s b t) (hb : Below W.heap.size W W') : EQ w W' s b t := ⟨h.bel.trans (hb.mono h.bel.size), h.st.below hb h.st.lt, h.bd.below hb h.bd.lt, h.res.below hb h.res.lt⟩
theorem EQ.start (w : World) (s : St) (b : Un.Bd) : EQ w (((w.alloc (.cells (stA s) 37)).alloc (.cells (Un.bdA b) 48)).alloc (.cells (bxA Bx.zero) 52)) s b Bx.zero := by
 have q0 := Kit.Bk.new w 37 (stA s)
 have q1 := Kit.Bk.new (w.alloc (.cells (stA s) 37)) 48 (Un.bdA b)
 have q2 := Kit.Bk.new ((w.alloc (.cells (stA s) 37)).alloc (.cells (Un.bdA b) 48)) 52 (bxA Bx.zero)
 rw [World.size_alloc] at q1
 rw [World.size_alloc, World.size_alloc] at q2
 exact ⟨(((Below.refl _ _).alloc nlr _).alloc (by simp) _).alloc (by simp; omega) _, (q0.alloc _).alloc _, q1.alloc _, q2⟩
theorem EQ.box {w W W' : World} {s : St} {b : Un.Bd} {t t' : Bx} (h : EQ w W s b t) (hx : Kit.Exc (fun k => k = w.heap.size + 2) W W') (hb : Kit.Bk W' (w.heap.size + 2) 52 (bxA t')) : EQ w W' s b t' :=
 ⟨h.bel.trans (hx.below h.bel.size (fun k hk => by omega)), h.st.exc hx omg, h.bd.exc hx omg, hb⟩
structure ES (w : World) (s : St) (b : Un.Bd) (pre : List (Int × Int)) (Y : Nat → Prop) (W : World) : Prop where
 yy : ∀ k, Y k ↔ k = w.heap.size + 2
 res : Kit.Bk W (w.heap.size + 2) 52 (bxA (pre.foldl addT (bx0 s b)))
 bel : Below w.heap.size w W
theorem ES.keep {w : World} {s : St} {b : Un.Bd} {pre : List (Int × Int)} {Y : Nat → Prop} {A B : World} {S : Nat → Prop} (h : ES w s b pre Y A) (hx : Kit.Exc S A B) (h1 : ¬ S (w.heap.size + 2)) (hw : ∀ k, S k → w.heap.size ≤ k) : ES w s b pre Y B :=
 ⟨h.yy, h.res.exc hx h1, h.bel.trans (hx.below h.bel.size hw)⟩
end Mo
end Go.Proofs.YtedolbjgdedoaaaGreatDoor
