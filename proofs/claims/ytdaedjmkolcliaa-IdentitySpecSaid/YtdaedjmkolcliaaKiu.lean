/- A slice of one's own that grows, while all that was there ahead stands. -/
import Derived.Test.YtdaedjmkolcliaaKit
import Derived.Test.YtdaedjmkolcliaaKit
import Derived.Deep.Onto
namespace Go.Proofs.Ytdaedjmkolcliaa.Kit
set_option linter.unusedVariables false
set_option linter.unusedSimpArgs false
open Go.RowKit

structure Gw (W0 : World) (e : TypeId) (k : Nat) (v : Value) (n : Nat) (xs : List Value) (w : World) : Prop where
  own : w.ownsRow W0.heap.size e k v n xs
  bel : Below W0.heap.size W0 w
namespace Gw
variable {W0 w w' : World} {e : TypeId} {k : Nat} {v : Value} {n : Nat} {xs : List Value}
theorem start (W0 : World) (e : TypeId) (k : Nat) : Gw W0 e k (.slice none 0 0) 0 [] W0 := ⟨World.ownsRow_nil _ _ _ _, Below.refl _ _⟩
theorem alloc (h : Gw W0 e k v n xs w) (o : Obj) : Gw W0 e k v n xs (w.alloc o) := ⟨h.own.alloc o, h.bel.alloc h.bel.size o⟩
theorem thn (h : Gw W0 e k v n xs w) (hb : Below w.heap.size w w') : Gw W0 e k v n xs w' := by
  refine ⟨?_, h.bel.trans (hb.mono h.bel.size)⟩
  obtain ⟨h1, h2⟩ := h.own
  refine ⟨h1, ?_⟩
  rcases h2 with ⟨rfl, rfl⟩ | ⟨g, cap, cur, rfl, hbg, hg, hnc, hcm, hcs, htake⟩
  · exact .inl ⟨rfl, rfl⟩
  · exact .inr ⟨g, cap, cur, rfl, hbg, (hb.block g (Array.getElem?_eq_some_iff.1 hg).1).trans hg, hnc, hcm, hcs, htake⟩
theorem app {v' : Value} {m : Nat} {ys : List Value} (h : Gw W0 e k v n xs w) (ho : w'.ownsRow W0.heap.size e k v' m ys) (hg : w.grownBy w' v.ownBlock) : Gw W0 e k v' m ys w' :=
  ⟨ho, h.bel.grown hg h.bel.size (fun q hq => (h.own.lt q hq).1)⟩
theorem base {W1 : World} (h : Gw W0 e k v n xs w) (h1 : Below W1.heap.size W1 W0) : Gw W1 e k v n xs w := ⟨h.own.mono h1.size, h1.trans (h.bel.mono h1.size)⟩
theorem shape (h : Gw W0 e k v n xs w) : ∃ a c, v = .slice a n c := by
  rcases h.own.2 with ⟨rfl, hn⟩ | ⟨g, cap, cur, rfl, _⟩
  · exact ⟨none, 0, by rw [hn]⟩
  · exact ⟨_, _, rfl⟩
theorem size (h : Gw W0 e k v n xs w) : W0.heap.size ≤ w.heap.size := h.bel.size
end Gw
/-- The cells of a literal that was just laid. -/
theorem lit_at (W : World) (l : List Value) (t : TypeId) {b : Nat} (hb : b = W.heap.size) (j : Nat) (u : Value) (h : l[j]? = some u) : (W.alloc (.cells l.toArray t)).cell? ((⟨b, 0, none⟩ : Addr).add j) = some u := by
  subst hb
  have h1 := World.alloc_heap_new W (.cells l.toArray t)
  have e : (⟨W.heap.size, 0, none⟩ : Addr).add j = ⟨W.heap.size, j, none⟩ := by
    unfold Addr.add; split <;> simp_all
  rw [e]
  simp only [World.cell?, h1]
  simpa using h
/-- The elements of a type of slices. -/
structure El (P : Program) (t e : TypeId) (z : Value) (size bytes : Nat) : Prop where
  under : P.underlying t = some (.slice e)
  info : (P.info? e).map (fun i => (i.zero, i.size, i.bytes)) = some (some z, size, bytes)
  cells : z.cells.size = size
  pos : 0 < size
  small : bytes ≤ 4096
/-- The append of one element, just laid, to a slice of one's own. -/
theorem wpList_app {P : Program} {t e : TypeId} {z : Value} {size bytes : Nat} (E : El P t e z size bytes) {W0 : World} (w : World) {ops : Array Oper} {rest : List Oper} {o : Oper} {a : Act} {Q : Exit → Act → World → Prop} (hgd : o.guard = none) (s x : Operand)
    (ho : o.op = .call { callee := .builtin .append, args := #[s, x], argTypes := #[t, t] }) (v : Value) (n : Nat) (xs : List Value) (h : Gw W0 e size v n xs w) (hs : a.eval s = v) (hn : n ≤ 1000000000)
    (ad : Addr) (c : Nat) (news : List Value) (hx : a.eval x = .slice (some ad) 1 c) (hl : news.length = size) (hnews : ∀ j u, news[j]? = some u → w.cell? (ad.add j) = some u) (h1 : ∀ u ∈ news, u.oneCell' = true)
    (cont : ∀ v' w', Gw W0 e size v' (n + 1) (xs ++ news) w' → w.grownBy w' v.ownBlock → wpList P ops Q rest (a.put o.dst v') w') : wpList P ops Q (o :: rest) a w := by
  obtain ⟨i, hi, hz, hsz, hby⟩ := info_parts E.info
  have hb : (n + 1) * bytes ≤ 140737488355328 := Nat.le_trans (Nat.mul_le_mul (show n + 1 ≤ 1000000001 by omega) E.small) (by omega)
  exact wpList_append_own' w hgd s x t ho W0.heap.size e i z size bytes E.under hi hz hsz hby E.cells E.pos v n xs hs h.own ad 1 c news hx (by omega) hnews h1 (by unfold maxLen; omega) hb h.size
    fun v' w' ho hg _ _ => cont v' w' (h.app ho hg) hg
end Go.Proofs.Ytdaedjmkolcliaa.Kit
