/- Rows of structs in a block of one's own, written in place. -/
import Derived.Test.YtedolbjgdedoaaaGreatDoorMrC
set_option linter.unusedSimpArgs false
set_option linter.unusedVariables false
namespace Go.Proofs.YtedolbjgdedoaaaGreatDoor
open Go.RowKit Go.Shelf
namespace Kit
def Rw (W : World) (g : Nat) (t : TypeId) (k n : Nat) (f : Nat → Nat → Value) : Prop := ∃ cur : Array Value, Bk W g t cur ∧ n * k ≤ cur.size ∧ ∀ i j, i < n → j < k → cur[i * k + j]? = some (f i j)
theorem Rw.exc {S : Nat → Prop} {A B : World} {g : Nat} {t : TypeId} {k n : Nat} {f : Nat → Nat → Value} (h : Rw A g t k n f) (hx : Exc S A B) (hS : ¬ S g) : Rw B g t k n f := by
 obtain ⟨cur, h1, h2, h3⟩ := h
 exact ⟨cur, h1.exc hx hS, h2, h3⟩
theorem Rw.below {A B : World} {g N : Nat} {t : TypeId} {k n : Nat} {f : Nat → Nat → Value} (h : Rw A g t k n f) (hx : Below N A B) (hg : g < N) : Rw B g t k n f := by
 obtain ⟨cur, h1, h2, h3⟩ := h
 exact ⟨cur, h1.below hx hg, h2, h3⟩
theorem Rw.lt {A : World} {g : Nat} {t : TypeId} {k n : Nat} {f : Nat → Nat → Value} (h : Rw A g t k n f) : g < A.heap.size := by
 obtain ⟨cur, h1, _⟩ := h
 exact h1.lt
theorem Rw.of_own {w : World} {base : Nat} {t : TypeId} {k n : Nat} {v : Value} {xs : List Value} {f : Nat → Nat → Value} (h : w.ownsRow base t k v n xs) (hn : 0 < n) (hl : xs.length = n * k) (hf : ∀ i j, i < n → j < k → xs[i * k + j]? = some (f i j)) :
  ∃ g c, v = .slice (some ⟨g, 0, none⟩) n c ∧ base ≤ g ∧ Rw w g t k n f := by
 rcases h.2 with ⟨_, h0⟩ | ⟨g, cap, cur, e, hb, hg, hnc, hcm, hcs, htake⟩
 ·omega
 ·refine ⟨g, cap, e, hb, cur, hg, ?_, fun i j hi hj => ?_⟩
  ·have h1 := congrArg List.length htake
   simp at h1
   omega
  ·have h2 := hf i j hi hj
   have h3 : i * k + j < n * k := by
    have := Nat.mul_le_mul_right k (show i + 1 ≤ n by omega)
    rw [Nat.add_mul] at this
    omega
   rw [← htake] at h2
   rw [List.getElem?_take_of_lt (by first | omega | (simp; omega))] at h2
   simpa using h2
theorem Rw.put {W : World} {g : Nat} {t : TypeId} {k n i : Nat} {f : Nat → Nat → Value} {cs cs' vs : Array Value} (hc : n * k ≤ cs.size) (hf : ∀ i j, i < n → j < k → cs[i * k + j]? = some (f i j)) (hi : i < n) (hv : vs.size = k) (hb : Bk W g t cs') (hsz : cs'.size = cs.size)
  (hlo : ∀ q, q < i * k ∨ i * k + vs.size ≤ q → cs'[q]? = cs[q]?) (hin : ∀ j, j < vs.size → cs'[i * k + j]? = vs[j]?) (f' : Nat → Nat → Value) (hs : ∀ j, j < k → vs[j]? = some (f' i j)) (ho : ∀ a j, a < n → a ≠ i → j < k → f' a j = f a j) : Rw W g t k n f' := by
 refine ⟨cs', hb, by omega, fun a j ha hj => ?_⟩
 by_cases e : a = i
 ·subst e
  rw [hin j omg, hs j hj]
 ·rw [hlo _ ?_, hf a j ha hj, ho a j ha e hj]
  rcases Nat.lt_or_gt_of_ne e with h | h
  ·left
   have := Nat.mul_le_mul_right k (show a + 1 ≤ i by omega)
   rw [Nat.add_mul] at this
   omega
  ·right
   have := Nat.mul_le_mul_right k (show i + 1 ≤ a by omega)
   rw [Nat.add_mul] at this
   omega
theorem lit_rowM (W : World) (l : List Value) (t : TypeId) (b base k n : Nat) (hb : b = W.heap.size) (hbase : base ≤ b) (hl : l.length = n * k) (hn : n ≤ maxLen) : (W.alloc (.cells l.toArray t)).ownsRow base t k (.slice (some ⟨b, 0, none⟩) n n) n l := by
 subst hb
 exact ⟨hl, .inr ⟨W.heap.size, n, l.toArray, rfl, hbase, World.alloc_heap_new W _, Nat.le_refl _, hn, by simpa using hl, by rw [← hl]; simp⟩⟩
theorem sl_cells {w : World} {a : Option Addr} {n k : Nat} {f : Nat → Nat → Value} {xs : List Value} (h : Tp.Sl w a n k f) (hk : 0 < k) (hl : xs.length = n * k) (hx : ∀ i j, i < n → j < k → xs[i * k + j]? = some (f i j)) : n ≠ 0 → ∃ ad, a = some ad ∧ ∀ j u, xs[j]? = some u → w.cell? (ad.add j) = some u := by
 intro h0
 rcases h with h | ⟨ad, h1, h2, h3⟩
 ·exact absurd h h0
 refine ⟨ad, h1, fun j u hu => ?_⟩
 have hj : j < n * k := by rw [← hl]; exact (List.getElem?_eq_some_iff.1 hu).1
 have hd : j / k < n := Nat.div_lt_of_lt_mul (by rwa [Nat.mul_comm])
 have hm : j % k < k := Nat.mod_lt _ hk
 have e : j / k * k + j % k = j := by rw [Nat.mul_comm]; exact Nat.div_add_mod j k
 have h4 := h3 (j / k) (j % k) hd hm
 have h5 := hx (j / k) (j % k) hd hm
 rw [e] at h4 h5
 rw [h4, ← h5, hu]
end Kit
end Go.Proofs.YtedolbjgdedoaaaGreatDoor
