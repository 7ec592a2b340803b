/- Plain: what lies in the hands of law MotionMirror while it mirrors its copies in place. -/
import Derived.Test.YtedolbjgdedoaaaGreatDoorMpQ
import Derived.Test.YtedolbjgdedoaaaGreatDoorMrD
import Derived.Test.YtedolbjgdedoaaaGreatDoorMpU
set_option linter.unusedSimpArgs false
set_option linter.unusedVariables false
namespace Go.Proofs.YtedolbjgdedoaaaGreatDoor
open Go.RowKit Go.Shelf
namespace Mo
structure AM (w W : World) (x : Ex.Wk) (p : Ex.Wa) (s : St) : Prop where
 bel : Below w.heap.size w W
 wk : Kit.Bk W w.heap.size 32 (wkC x p)
 st : Kit.Bk W (w.heap.size + 1) 37 (stA s)
theorem AM.then {w W W' : World} {x : Ex.Wk} {p : Ex.Wa} {s : St} (h : AM w W x p s) (hb : Below W.heap.size W W') : AM w W' x p s :=
 ⟨h.bel.trans (hb.mono h.bel.size), h.wk.below hb h.wk.lt, h.st.below hb h.st.lt⟩
theorem AM.start (w : World) (x : Ex.Wk) (p : Ex.Wa) (s : St) : AM w ((w.alloc (.cells (wkC x p) 32)).alloc (.cells (stA s) 37)) x p s := by
 have q1 := Kit.Bk.new (w.alloc (.cells (wkC x p) 32)) 37 (stA s)
 rw [World.size_alloc] at q1
 exact ⟨((Below.refl _ _).alloc nlr _).alloc (by simp) _, (Kit.Bk.new _ _ _).alloc _, q1⟩
abbrev re0 : Uo.Re := (0, 0, 0, false)
def RR (x : Ex.Wk) (role bar : Int) (r : List Uo.Re) (i : Nat) (y : Int) (q : Nat) (R : List Uo.Re) : Prop :=
 R.length = r.length ∧ ∀ b, b < r.length → R.getD b re0 = mirR (r.getD b re0) ∨ (R.getD b re0 = r.getD b re0 ∧ (∀ k ∈ x.sg.take i, mine bar role k = true → k.id ≠ (r.getD b re0).1) ∧ (b < q → (r.getD b re0).1 ≠ y))
theorem RR.zero (x : Ex.Wk) (role bar : Int) (r : List Uo.Re) : RR x role bar r 0 0 0 r := ⟨rfl, fun b _ => .inr ⟨rfl, by simp, by omega⟩⟩
theorem RR.next {x : Ex.Wk} {role bar : Int} {r R : List Uo.Re} {i : Nat} {y : Ex.Sg} {c : Int} {q : Nat} (h : RR x role bar r i c q R) (hi : i < x.sg.length) (hy : x.sg.getD i default = y) (hm : mine bar role y = true → c = y.id ∧ q = r.length) : RR x role bar r (i + 1) 0 0 R := by
 have e : x.sg[i] = y := by rw [← hy]; simp [List.getD, hi]
 refine ⟨h.1, fun b hb => (h.2 b hb).imp id fun ⟨e1, f, k⟩ => ⟨e1, fun j hj => ?_, by omega⟩⟩
 rw [List.take_succ_eq_append_getElem hi, e] at hj
 rcases List.mem_append.1 hj with hj | hj
 ·exact f j hj
 ·rw [List.mem_singleton.1 hj]
  intro hm2 he
  obtain ⟨rfl, rfl⟩ := hm hm2
  exact k hb he.symm
theorem mot_has {l : List Ex.Sg} {r : List Uo.Re} (h : mot l r = true) : (∀ k ∈ l, ∃ b, b < r.length ∧ (r.getD b re0).1 = k.id) ∧ ∀ b, b < r.length → ∃ k ∈ l, form k (r.getD b re0) = true := by
 unfold mot at h
 rw [Bool.and_eq_true, List.all_eq_true] at h
 have hl : l.length = r.length := by simpa using h.1
 have hz : ∀ b (hb : b < l.length) (hr : b < r.length), form l[b] r[b] = true := fun b hb hr => h.2 (l[b], r[b]) (by
  rw [List.mem_iff_getElem]
  exact ⟨b, by simp; omega, by simp⟩)
 refine ⟨fun k hk => ?_, fun b hb => ?_⟩
 ·obtain ⟨b, hb, rfl⟩ := List.mem_iff_getElem.1 hk
  refine ⟨b, by omega, ?_⟩
  rw [show r.getD b re0 = r[b]'omg by simp [List.getD, show b < r.length by omega]]
  exact form_id (hz b hb omg)
 ·refine ⟨l[b]'omg, List.getElem_mem _, ?_⟩
  rw [show r.getD b re0 = r[b] by simp [List.getD, hb]]
  exact hz b omg hb
theorem RR.end {x : Ex.Wk} {role bar : Int} {r R : List Uo.Re} {c : Int} {q : Nat} (h : RR x role bar r x.sg.length c q R) (hm : mot (ofI x role bar) r = true) : R = r.map mirR := by
 apply List.ext_getElem?
 intro b
 by_cases hb : b < r.length
 ·have hR : b < R.length := by rw [h.1]; exact hb
  have e : R.getD b re0 = mirR (r.getD b re0) := by
   rcases h.2 b hb with e | ⟨_, f, _⟩
   ·exact e
   ·obtain ⟨k, hk, hf⟩ := (mot_has hm).2 b hb
    rw [List.take_length] at f
    obtain ⟨k1, k2⟩ := List.mem_filter.1 hk
    exact absurd (form_id hf).symm (f k k1 k2)
  simp only [List.getD_eq_getElem?_getD, List.getElem?_eq_getElem hR, List.getElem?_eq_getElem hb, Option.getD_some] at e
  rw [List.getElem?_eq_getElem hR, List.getElem?_map, List.getElem?_eq_getElem hb, e]
  rfl
 ·rw [List.getElem?_eq_none (by rw [h.1]; omega), List.getElem?_eq_none (by simp; omega)]
def Rz (W : World) (lo hi : Nat) (a : Option Addr) (t : TypeId) (k n : Nat) (f : Nat → Nat → Value) : Prop := n = 0 ∨ ∃ g, a = some ⟨g, 0, none⟩ ∧ lo ≤ g ∧ g < hi ∧ Kit.Rw W g t k n f
theorem Rz.of {W : World} {base : Nat} {t : TypeId} {k n c : Nat} {a : Option Addr} {xs : List Value} {f : Nat → Nat → Value} (h : W.ownsRow base t k (.slice a n c) n xs) (hl : xs.length = n * k) (hf : ∀ i j, i < n → j < k → xs[i * k + j]? = some (f i j)) : Rz W base W.heap.size a t k n f := by
 by_cases h0 : n = 0
 ·exact .inl h0
 ·obtain ⟨g, c2, e, h1, h2⟩ := Kit.Rw.of_own h omg hl hf
  injection e with e1 _ _
  exact .inr ⟨g, e1, h1, h2.lt, h2⟩
theorem Rz.exc {S : Nat → Prop} {A B : World} {lo hi : Nat} {a : Option Addr} {t : TypeId} {k n : Nat} {f : Nat → Nat → Value} (h : Rz A lo hi a t k n f) (hx : Kit.Exc S A B) (hS : ∀ g, S g → lo ≤ g → g < hi → False) : Rz B lo hi a t k n f :=
 h.imp id fun ⟨g, e, h1, h2, h3⟩ => ⟨g, e, h1, h2, h3.exc hx (fun k => hS g k h1 h2)⟩
structure MP (w : World) (k2 k3 VB B1 B2 B3 : Nat) : Prop where
 p0 : w.heap.size + 2 ≤ VB
 p1 : k2 < VB
 p2 : k3 < VB
 p3 : VB < B1
 p4 : B1 ≤ B2
 p5 : B2 ≤ B3
structure MX (w W : World) (x : Ex.Wk) (p : Ex.Wa) (s S2 T2 : St) (k2 k3 VB B1 B2 B3 : Nat) (a5 a6 : Option Addr) (c5 : Nat) (L : List Ex.Sg) (R : List Uo.Re) (n m : Nat) : Prop where
 am : AM w W x p s
 s2 : Kit.Bk W k2 37 (stA S2)
 t2 : Kit.Bk W k3 37 (stA T2)
 vb : Kit.Bk W VB 32 (vC x p (.slice a5 n c5))
 sg : Rz W B1 B2 a5 60 14 n (Ex.sgc L)
 re : Rz W B2 B3 a6 69 4 m (rcs R)
 lt : B3 ≤ W.heap.size
theorem MX.exc {S : Nat → Prop} {w A B : World} {x : Ex.Wk} {p : Ex.Wa} {s S2 T2 : St} {k2 k3 VB B1 B2 B3 : Nat} {a5 a6 : Option Addr} {c5 : Nat} {L : List Ex.Sg} {R : List Uo.Re} {n m : Nat} (h : MX w A x p s S2 T2 k2 k3 VB B1 B2 B3 a5 a6 c5 L R n m) (hp : MP w k2 k3 VB B1 B2 B3) (hx : Kit.Exc S A B) (hS : ∀ g, S g → B3 ≤ g) : MX w B x p s S2 T2 k2 k3 VB B1 B2 B3 a5 a6 c5 L R n m := by
 obtain ⟨p0, p1, p2, p3, p4, p5⟩ := hp
 exact ⟨⟨h.am.bel.trans (hx.below h.am.bel.size (fun k hk => by have := hS k hk; omega)), h.am.wk.exc hx (fun e => by have := hS _ e; omega), h.am.st.exc hx (fun e => by have := hS _ e; omega)⟩, h.s2.exc hx (fun e => by have := hS _ e; omega), h.t2.exc hx (fun e => by have := hS _ e; omega), h.vb.exc hx (fun e => by have := hS _ e; omega),
  h.sg.exc hx (fun g k _ h2 => by have := hS g k; omega), h.re.exc hx (fun g k _ h2 => by have := hS g k; omega), Nat.le_trans h.lt hx.size⟩
theorem MX.then {w A B : World} {x : Ex.Wk} {p : Ex.Wa} {s S2 T2 : St} {k2 k3 VB B1 B2 B3 : Nat} {a5 a6 : Option Addr} {c5 : Nat} {L : List Ex.Sg} {R : List Uo.Re} {n m : Nat} (h : MX w A x p s S2 T2 k2 k3 VB B1 B2 B3 a5 a6 c5 L R n m) (hp : MP w k2 k3 VB B1 B2 B3) (hb : Below A.heap.size A B) : MX w B x p s S2 T2 k2 k3 VB B1 B2 B3 a5 a6 c5 L R n m :=
 h.exc hp ((Kit.Exc.refl (fun _ => False) A).then hb) (fun _ h => h.elim)
structure MM (w W : World) (x : Ex.Wk) (p : Ex.Wa) (s S2 T2 : St) (k2 k3 VB B3 g1 g2 : Nat) (c5 : Nat) (L : List Ex.Sg) (R : List Uo.Re) (n m i q YB ZB : Nat) (SA RA : Array Value) : Prop where
 am : AM w W x p s
 s2 : Kit.Bk W k2 37 (stA S2)
 t2 : Kit.Bk W k3 37 (stA T2)
 vb : Kit.Bk W VB 32 (vC x p (.slice (some ⟨g1, 0, none⟩) n c5))
 yb : Kit.Bk W YB 60 SA
 zb : Kit.Bk W ZB 69 RA
 sg : ∃ f, Kit.Rw W g1 60 14 n f ∧ ∀ a j, a < n → a ≠ i → j < 14 → f a j = Ex.sgc L a j
 re : ∃ f, Kit.Rw W g2 69 4 m f ∧ ∀ a j, a < m → a ≠ q → j < 4 → f a j = rcs R a j
 lt : B3 ≤ W.heap.size
def E8 (g1 g2 o : Nat) (A B : World) : Prop := Kit.Exc (fun k => (o = 13 ∧ k = g1) ∨ (o = 15 ∧ k = g2) ∨ A.heap.size ≤ k) A B
theorem E8.refl (g1 g2 o : Nat) (A : World) : E8 g1 g2 o A A := Kit.Exc.refl _ _
theorem Rw.off {S : Nat → Prop} {A B : World} {g : Nat} {t : TypeId} {k n : Nat} {F : Nat → Nat → Value} {i : Nat} (h : ∃ f, Kit.Rw A g t k n f ∧ ∀ a j, a < n → a ≠ i → j < k → f a j = F a j) (hx : Kit.Exc S A B) (hS : ¬ S g) : ∃ f, Kit.Rw B g t k n f ∧ ∀ a j, a < n → a ≠ i → j < k → f a j = F a j := by
 obtain ⟨f, h1, h2⟩ := h
 exact ⟨f, h1.exc hx hS, h2⟩
theorem MM.exc {S : Nat → Prop} {w A B : World} {x : Ex.Wk} {p : Ex.Wa} {s S2 T2 : St} {k2 k3 VB B3 g1 g2 : Nat} {c5 : Nat} {L : List Ex.Sg} {R : List Uo.Re} {n m i q YB ZB : Nat} {SA RA : Array Value} (h : MM w A x p s S2 T2 k2 k3 VB B3 g1 g2 c5 L R n m i q YB ZB SA RA) (hx : Kit.Exc S A B) (hS : ∀ g, S g → g = g1 ∨ g = g2 ∨ A.heap.size ≤ g) (v : VB < g1 ∧ VB < g2 ∧ w.heap.size + 2 ≤ VB ∧ k2 < VB ∧ k3 < VB) (hy : g1 ≠ YB ∧ g1 ≠ ZB ∧ g2 ≠ YB ∧ g2 ≠ ZB)
  (h1 : ∃ f, Kit.Rw B g1 60 14 n f ∧ ∀ a j, a < n → a ≠ i → j < 14 → f a j = Ex.sgc L a j) (h2 : ∃ f, Kit.Rw B g2 69 4 m f ∧ ∀ a j, a < m → a ≠ q → j < 4 → f a j = rcs R a j) : MM w B x p s S2 T2 k2 k3 VB B3 g1 g2 c5 L R n m i q YB ZB SA RA := by
 obtain ⟨v1, v2, v3, v4, v5⟩ := v
 have hl := h.vb.lt
 have hyl := h.yb.lt
 have hzl := h.zb.lt
 have K : ∀ g, g ≤ VB → ¬ S g := fun g hg k => by rcases hS g k with e | e | e <;> omega
 have KY : ¬ S YB := fun k => by rcases hS _ k with e | e | e <;> omega
 have KZ : ¬ S ZB := fun k => by rcases hS _ k with e | e | e <;> omega
 exact ⟨⟨h.am.bel.trans (hx.below h.am.bel.size (fun k hk => by rcases hS k hk with e | e | e <;> omega)), h.am.wk.exc hx (K _ omg), h.am.st.exc hx (K _ omg)⟩, h.s2.exc hx (K _ omg), h.t2.exc hx (K _ omg), h.vb.exc hx (K _ omg), h.yb.exc hx KY, h.zb.exc hx KZ, h1, h2, Nat.le_trans h.lt hx.size⟩
end Mo
end Go.Proofs.YtedolbjgdedoaaaGreatDoor
