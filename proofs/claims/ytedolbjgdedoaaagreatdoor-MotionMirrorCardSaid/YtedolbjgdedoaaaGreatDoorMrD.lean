/- Rows of structs in a block of one's own, written in place. -/
import Derived.Test.YtedolbjgdedoaaaGreatDoorMrC
set_option linter.unusedSimpArgs false
set_option linter.unusedVariables false
namespace Go.Proofs.YtedolbjgdedoaaaGreatDoor
open Go.RowKit Go.Shelf
namespace Kit
theorem put_row {cs vs : Array Value} {o : Nat} (hle : o + vs.size ≤ cs.size) : ∃ cs' : Array Value, cs'.size = cs.size ∧ (∀ i, i < o ∨ o + vs.size ≤ i → cs'[i]? = cs[i]?) ∧ ∀ j, j < vs.size → cs'[o + j]? = vs[j]? := by
 obtain ⟨l⟩ := cs
 obtain ⟨v⟩ := vs
 simp only [List.size_toArray] at hle
 refine ⟨(l.take o ++ v ++ l.drop (o + v.length)).toArray, ?_, fun i hi => ?_, fun j hj => ?_⟩
 ·simp
  omega
 ·simp only [List.size_toArray] at hi
  simp only [List.getElem?_toArray]
  rcases hi with hi | hi
  ·rw [List.append_assoc, List.getElem?_append_left (by simp; omega), List.getElem?_take_of_lt hi]
  ·rw [List.getElem?_append_right (by simp; omega)]
   simp only [List.length_append, List.length_take, List.getElem?_drop]
   congr 1
   omega
 ·simp only [List.size_toArray] at hj
  simp only [List.getElem?_toArray]
  rw [List.append_assoc, List.getElem?_append_right (by simp; omega)]
  simp only [List.length_take]
  rw [show o + j - min o l.length = j by omega, List.getElem?_append_left hj]
def Rw (W : World) (g : Nat) (t : TypeId) (k n : Nat) (f : Nat → Nat → Value) : Prop := ∃ cur : Array Value, Bk W g t cur ∧ n * k ≤ cur.size ∧ ∀ i j, i < n → j < k → cur[i * k + j]? = some (f i j)
theorem Rw.exc {S : Nat → Prop} {A B : World} {g : Nat} {t : TypeId} {k n : Nat} {f : Nat → Nat → Value} (h : Rw A g t k n f) (hx : Exc S A B) (hS : ¬ S g) : Rw B g t k n f := by
 obtain ⟨cur, h1, h2, h3⟩ := h
 exact ⟨cur, h1.exc hx hS, h2, h3⟩
theorem Rw.below {A B : World} {g N : Nat} {t : TypeId} {k n : Nat} {f : Nat → Nat → Value} (h : Rw A g t k n f) (hx : Below N A B) (hg : g < N) : Rw B g t k n f := by
 obtain ⟨cur, h1, h2, h3⟩ := h
 exact ⟨cur, h1.below hx hg, h2, h3⟩
theorem Rw.lt {A : World} {g : Nat} {t : TypeId} {k n : Nat} {f : Nat → Nat → Value} (h : Rw A g t k n f) : g < A.heap.size := by
 obtain ⟨cur, h1, _⟩ := h
 exact h1.lt
theorem Rw.sl {A : World} {g : Nat} {t : TypeId} {k n : Nat} {f : Nat → Nat → Value} (h : Rw A g t k n f) : Tp.Sl A (some ⟨g, 0, none⟩) n k f := by
 obtain ⟨cur, h1, _, h3⟩ := h
 refine .inr ⟨_, rfl, h1.lt, fun i j hi hj => ?_⟩
 rw [Addr.add_lit, Nat.zero_add]
 exact (h1.cell _).trans (h3 i j hi hj)
theorem Rw.of_own {w : World} {base : Nat} {t : TypeId} {k n : Nat} {v : Value} {xs : List Value} {f : Nat → Nat → Value} (h : w.ownsRow base t k v n xs) (hn : 0 < n) (hl : xs.length = n * k) (hf : ∀ i j, i < n → j < k → xs[i * k + j]? = some (f i j)) :
  ∃ g c, v = .slice (some ⟨g, 0, none⟩) n c ∧ base ≤ g ∧ Rw w g t k n f := by
 rcases h.2 with ⟨_, h0⟩ | ⟨g, cap, cur, e, hb, hg, hnc, hcm, hcs, htake⟩
 ·omega
 ·refine ⟨g, cap, e, hb, cur, hg, ?_, fun i j hi hj => ?_⟩
  ·have h1 := congrArg List.length htake
   simp at h1
   omega
  ·have h2 := hf i j hi hj
   have h3 : i * k + j < n * k := by
    have := Nat.mul_le_mul_right k (show i + 1 ≤ n by omega)
    rw [Nat.add_mul] at this
    omega
   rw [← htake] at h2
   rw [List.getElem?_take_of_lt (by first | omega | (simp; omega))] at h2
   simpa using h2
theorem Rw.put {W : World} {g : Nat} {t : TypeId} {k n i : Nat} {f : Nat → Nat → Value} {cs cs' vs : Array Value} (hc : n * k ≤ cs.size) (hf : ∀ i j, i < n → j < k → cs[i * k + j]? = some (f i j)) (hi : i < n) (hv : vs.size = k) (hb : Bk W g t cs') (hsz : cs'.size = cs.size)
  (hlo : ∀ q, q < i * k ∨ i * k + vs.size ≤ q → cs'[q]? = cs[q]?) (hin : ∀ j, j < vs.size → cs'[i * k + j]? = vs[j]?) (f' : Nat → Nat → Value) (hs : ∀ j, j < k → vs[j]? = some (f' i j)) (ho : ∀ a j, a < n → a ≠ i → j < k → f' a j = f a j) : Rw W g t k n f' := by
 refine ⟨cs', hb, by omega, fun a j ha hj => ?_⟩
 by_cases e : a = i
 ·subst e
  rw [hin j omg, hs j hj]
 ·rw [hlo _ ?_, hf a j ha hj, ho a j ha e hj]
  rcases Nat.lt_or_gt_of_ne e with h | h
  ·left
   have := Nat.mul_le_mul_right k (show a + 1 ≤ i by omega)
   rw [Nat.add_mul] at this
   omega
  ·right
   have := Nat.mul_le_mul_right k (show i + 1 ≤ a by omega)
   rw [Nat.add_mul] at this
   omega
theorem upon_store_rw {P : Program} {ev : Operand → Value} {o : Oper} {w : World} (ty : TypeId) (x y : Operand) (ho : o.op = .store ty x y) (g i : Nat) (k n : Nat) (hx : ev x = .pointer (some ⟨g, i * k, none⟩)) (vs : Array Value) (hy : ev y = .agg vs) {t : TypeId} {f : Nat → Nat → Value} (hb : Rw w g t k n f) (hin : i < n) (hv : vs.size = k)
  (hi : (P.info? ty).map (·.size) = some vs.size) (h1 : vs.all (·.oneCell') = true) (f' : Nat → Nat → Value) (hs : ∀ j, j < k → vs[j]? = some (f' i j)) (hoth : ∀ a j, a < n → a ≠ i → j < k → f' a j = f a j) {K : Value → World → Prop}
  (h : ∀ W, Rw W g t k n f' → Exc (fun j => j = g) w W → K undef W) : UponV P K ((execOp ev o).run P w) := by
 obtain ⟨cs, hbk, hle, hf⟩ := hb
 have hfit : i * k + vs.size ≤ cs.size := by
  have := Nat.mul_le_mul_right k (show i + 1 ≤ n by omega)
  rw [Nat.add_mul] at this
  omega
 have ht : w.there g (i * k) vs.size := fun j hj => by
  rw [hbk.cell, hbk.frozen]
  exact ⟨by rw [Array.getElem?_eq_getElem omg]; rfl, rfl⟩
 have hrun := run_storeAt_mid (P := P) w g (i * k) ty vs ht hi h1
 obtain ⟨c, h2, h3, h4, h5⟩ := heap_setCells g t vs.toList (i * k) w cs hbk
 have e : (execOp ev o).run P w = .ok .skip (w.setCells g (i * k) vs.toList) := by
  simp only [execOp, ho, hx, hy]
  simp [hrun]
 rw [e]
 refine h _ ?_ (Exc.setCells (S := fun j => j = g) rfl _ _ (Exc.refl _ w))
 refine Rw.put (cs := cs) (cs' := c) (vs := vs) hle hf hin hv h2 h3 (fun q hq => h4 q (by simpa using hq)) (fun j hj => ?_) f' hs hoth
 have := h5 j (by simpa using hj) omg
 rw [this]
 simp
theorem lit_rowM (W : World) (l : List Value) (t : TypeId) (b base k n : Nat) (hb : b = W.heap.size) (hbase : base ≤ b) (hl : l.length = n * k) (hn : n ≤ maxLen) : (W.alloc (.cells l.toArray t)).ownsRow base t k (.slice (some ⟨b, 0, none⟩) n n) n l := by
 subst hb
 exact ⟨hl, .inr ⟨W.heap.size, n, l.toArray, rfl, hbase, World.alloc_heap_new W _, Nat.le_refl _, hn, by simpa using hl, by rw [← hl]; simp⟩⟩
theorem sl_cells {w : World} {a : Option Addr} {n k : Nat} {f : Nat → Nat → Value} {xs : List Value} (h : Tp.Sl w a n k f) (hk : 0 < k) (hl : xs.length = n * k) (hx : ∀ i j, i < n → j < k → xs[i * k + j]? = some (f i j)) : n ≠ 0 → ∃ ad, a = some ad ∧ ∀ j u, xs[j]? = some u → w.cell? (ad.add j) = some u := by
 intro h0
 rcases h with h | ⟨ad, h1, h2, h3⟩
 ·exact absurd h h0
 refine ⟨ad, h1, fun j u hu => ?_⟩
 have hj : j < n * k := by rw [← hl]; exact (List.getElem?_eq_some_iff.1 hu).1
 have hd : j / k < n := Nat.div_lt_of_lt_mul (by rwa [Nat.mul_comm])
 have hm : j % k < k := Nat.mod_lt _ hk
 have e : j / k * k + j % k = j := by rw [Nat.mul_comm]; exact Nat.div_add_mod j k
 have h4 := h3 (j / k) (j % k) hd hm
 have h5 := hx (j / k) (j % k) hd hm
 rw [e] at h4 h5
 rw [h4, ← h5, hu]
end Kit
end Go.Proofs.YtedolbjgdedoaaaGreatDoor
