/- Walks: the laws of layer 27: MotionAlone. -/
import Derived.Test.YtedolbjgdedoaaaGreatDoorMpN
import Derived.Test.YtedolbjgdedoaaaGreatDoorMpk
set_option linter.unusedSimpArgs false
set_option linter.unusedVariables false
set_option maxRecDepth 100000
set_option maxHeartbeats 8000000
namespace Go.Proofs.YtedolbjgdedoaaaGreatDoor
open Go.RowKit Go.Shelf
attribute [local go_sem] Oper.semAt_some
namespace Mo
structure AQ (w W : World) (x : Ex.Wk) (p : Ex.Wa) (s : St) (b : Un.Bd) : Prop where
 bel : Below w.heap.size w W
 wk : Kit.Bk W w.heap.size 32 (wkC x p)
 st : Kit.Bk W (w.heap.size + 1) 37 (stA s)
 bd : Kit.Bk W (w.heap.size + 2) 48 (Un.bdA b)
theorem AQ.then {w W W' : World} {x : Ex.Wk} {p : Ex.Wa} {s : St} {b : Un.Bd} (h : AQ w W x p s b) (hb : Below W.heap.size W W') : AQ w W' x p s b :=
 ⟨h.bel.trans (hb.mono h.bel.size), h.wk.below hb h.wk.lt, h.st.below hb h.st.lt, h.bd.below hb h.bd.lt⟩
theorem AQ.exc {S : Nat → Prop} {w W W' : World} {x : Ex.Wk} {p : Ex.Wa} {s : St} {b : Un.Bd} (h : AQ w W x p s b) (hx : Kit.Exc S W W') (hs : ∀ k, S k → w.heap.size + 3 ≤ k) : AQ w W' x p s b :=
 ⟨h.bel.trans (hx.below h.bel.size (fun k hk => by have := hs k hk; omega)), h.wk.exc hx (fun k => by have := hs _ k; omega), h.st.exc hx (fun k => by have := hs _ k; omega), h.bd.exc hx (fun k => by have := hs _ k; omega)⟩
theorem AQ.start (w : World) (x : Ex.Wk) (p : Ex.Wa) (s : St) (b : Un.Bd) : AQ w (((w.alloc (.cells (wkC x p) 32)).alloc (.cells (stA s) 37)).alloc (.cells (Un.bdA b) 48)) x p s b := by
 have q0 := Kit.Bk.new w 32 (wkC x p)
 have q1 := Kit.Bk.new (w.alloc (.cells (wkC x p) 32)) 37 (stA s)
 have q2 := Kit.Bk.new ((w.alloc (.cells (wkC x p) 32)).alloc (.cells (stA s) 37)) 48 (Un.bdA b)
 rw [World.size_alloc] at q1
 rw [World.size_alloc, World.size_alloc] at q2
 exact ⟨(((Below.refl _ _).alloc nlr _).alloc (by simp) _).alloc (by simp; omega) _, (q0.alloc _).alloc _, q1.alloc _, q2⟩
abbrev vC (x : Ex.Wk) (p : Ex.Wa) (v : Value) : Array Value := #[.int .i64 x.wd, .int .i64 x.dp, .int .i64 x.ta, .int .i64 x.tb, .int .i64 x.tc, .slice p.aR x.ro.length p.cR, .int .i64 x.n, .slice p.aT x.ts.length p.cT, .slice p.aP x.ps.length p.cP, .slice p.aS x.ss.length p.cS, v]
structure AlR (w W : World) (x : Ex.Wk) (p : Ex.Wa) (s : St) (b : Un.Bd) (VB n : Nat) (xs : List Value) (v : Value) : Prop where
 q : AQ w W x p s b
 hi : w.heap.size + 3 ≤ VB
 vb : Kit.Bk W VB 32 (vC x p v)
 own : W.ownsRow (VB + 1) 60 14 v n xs
theorem AlR.then {w W W' : World} {x : Ex.Wk} {p : Ex.Wa} {s : St} {b : Un.Bd} {VB n : Nat} {xs : List Value} {v : Value} (h : AlR w W x p s b VB n xs v) (hb : Below W.heap.size W W') : AlR w W' x p s b VB n xs v :=
 ⟨h.q.then hb, h.hi, h.vb.below hb h.vb.lt, Kit.ownsRow_thn h.own hb⟩
theorem AlR.app {w W W5 : World} {x : Ex.Wk} {p : Ex.Wa} {s : St} {b : Un.Bd} {VB n m : Nat} {xs ys : List Value} {v v' : Value} (h : AlR w W x p s b VB n xs v) (ho : W5.ownsRow (VB + 1) 60 14 v' m ys) (hg : W.grownBy W5 v.ownBlock) : AlR w (W5.setCell ⟨VB, 10, none⟩ v') x p s b VB m ys v' := by
 have hx1 : Kit.Exc (fun k => VB < k) W W5 := ⟨hg.os, hg.tape, hg.output, hg.size, fun k hk hn => hg.block k hk (fun e => hn (h.own.lt k e.symm).1)⟩
 have hx2 : Kit.Exc (fun k => k = VB) W5 (W5.setCell ⟨VB, 10, none⟩ v') := (Kit.Exc.refl (fun k => k = VB) W5).setCell (p := ⟨VB, 10, none⟩) (.inl rfl) _
 have hi := h.hi
 refine ⟨(h.q.exc hx1 (fun k hk => by omega)).exc hx2 (fun k hk => by omega), h.hi, ?_, ?_⟩
 ·exact (h.vb.exc hx1 omg).put 10 v' rfl
 ·exact Kit.ownsRow_same ho (fun k hk => by
   have := (ho.lt k hk).1
   exact hx2.block k (ho.lt k hk).2 omg)
end Mo
namespace Kit
end Kit
end Go.Proofs.YtedolbjgdedoaaaGreatDoor
