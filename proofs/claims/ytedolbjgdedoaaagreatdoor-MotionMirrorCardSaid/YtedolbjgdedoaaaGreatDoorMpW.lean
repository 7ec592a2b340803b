/- Plain: the state in the middle between two of the way, and the steps of the way (law MotionInside). -/
import Derived.Test.YtedolbjgdedoaaaGreatDoorMpV
set_option linter.unusedSimpArgs false
set_option linter.unusedVariables false
namespace Go.Proofs.YtedolbjgdedoaaaGreatDoor
open Go.RowKit Go.Shelf
namespace Mo
theorem last_snoc (r : List Uo.Re) : ∀ (l : List Ex.Sg) (k : Ex.Sg) (s : St), last r (l ++ [k]) s = act (last r l s) k (real r k.id)
 | [], _, _ => rfl
 | a :: l, k, s => by
  show last r (l ++ [k]) (act s a (real r a.id)) = act (last r l (act s a (real r a.id))) k (real r k.id)
  exact last_snoc r l k _
theorem way_at (r : List Uo.Re) : ∀ (l : List Ex.Sg) (s : St) (i : Nat), ok s = true → fine r l s = true → i ≤ l.length → last r (l.take i) s ∈ way r l s ∧ ok (last r (l.take i) s) = true
 | [], s, i, hs, _, _ => by
  rw [List.take_nil]
  exact ⟨by simp [way, last], hs⟩
 | k :: l, s, 0, hs, _, _ => ⟨by simp [way, last], hs⟩
 | k :: l, s, i + 1, hs, hf, hi => by
  unfold fine at hf
  rw [Bool.and_eq_true] at hf
  obtain ⟨h1, h2⟩ := way_at r l (act s k (real r k.id)) i hf.1 hf.2 (by simpa using hi)
  rw [List.take_succ_cons]
  refine ⟨?_, h2⟩
  unfold way
  rw [if_pos hf.1]
  exact List.mem_cons_of_mem _ h1
def midS (u v : St) (m : Nat → Bool) (D L : Int) : Nat → St
 | 0 => { v with x := u.x + (v.x - u.x).tdiv 2, y := u.y + (v.y - u.y).tdiv 2 }
 | j + 1 => if m j = true then put (midS u v m D L j) j D L else midS u v m D L j
theorem tdiv2 (z : Int) : (0 ≤ z → 0 ≤ z.tdiv 2 ∧ z.tdiv 2 ≤ z) ∧ (z ≤ 0 → z ≤ z.tdiv 2 ∧ z.tdiv 2 ≤ 0) := by
 constructor
 ·intro h
  exact ⟨Int.tdiv_nonneg h omg, Int.tdiv_le_self 2 h⟩
 ·intro h
  obtain ⟨y, rfl⟩ : ∃ y, z = -y := ⟨-z, by omega⟩
  have h0 : 0 ≤ y := by omega
  have h1 := Int.tdiv_nonneg h0 (show (0 : Int) ≤ 2 by omega)
  have h2 := Int.tdiv_le_self 2 h0
  rw [Int.neg_tdiv]
  omega
theorem put_xyf (s : St) (i : Nat) (d v : Int) : (put s i d v).x = s.x ∧ (put s i d v).y = s.y ∧ (put s i d v).f = s.f := by
 unfold put
 split <;> exact ⟨rfl, rfl, rfl⟩
theorem lim_put5 (s : St) (d v : Int) (i j : Nat) (hi : i < 5) (hj : j < 5) : lim (put s i d v) j = if j = i then (d, v) else lim s j := by
 obtain rfl | rfl | rfl | rfl | rfl : i = 0 ∨ i = 1 ∨ i = 2 ∨ i = 3 ∨ i = 4 := by omega
 all_goals
  obtain rfl | rfl | rfl | rfl | rfl : j = 0 ∨ j = 1 ∨ j = 2 ∨ j = 3 ∨ j = 4 := by omega
  all_goals rfl
theorem midS_xyf (u v : St) (m : Nat → Bool) (D L : Int) : ∀ j, (midS u v m D L j).x = u.x + (v.x - u.x).tdiv 2 ∧ (midS u v m D L j).y = u.y + (v.y - u.y).tdiv 2 ∧ (midS u v m D L j).f = v.f
 | 0 => ⟨rfl, rfl, rfl⟩
 | j + 1 => by
  have ih := midS_xyf u v m D L j
  unfold midS
  split
  ·obtain ⟨h1, h2, h3⟩ := put_xyf (midS u v m D L j) j D L
   rw [h1, h2, h3]
   exact ih
  ·exact ih
theorem midS_lim (u v : St) (m : Nat → Bool) (D L : Int) (i : Nat) (hi : i < 5) : ∀ j, j ≤ 5 → lim (midS u v m D L j) i = if i < j ∧ m i = true then (D, L) else lim v i
 | 0, _ => by
  rw [if_neg omg]
  obtain rfl | rfl | rfl | rfl | rfl : i = 0 ∨ i = 1 ∨ i = 2 ∨ i = 3 ∨ i = 4 := by omega
  all_goals rfl
 | j + 1, hj => by
  have ih := midS_lim u v m D L i hi j omg
  unfold midS
  split
  ·rename_i hm
   rw [lim_put5 _ _ _ _ _ omg hi]
   by_cases e : i = j
   ·subst e
    rw [if_pos rfl, if_pos ⟨by omega, hm⟩]
   ·rw [if_neg e, ih]
    by_cases h : i < j ∧ m i = true
    ·rw [if_pos h, if_pos ⟨by omega, h.2⟩]
    ·rw [if_neg h, if_neg (fun h2 => h ⟨by omega, h2.2⟩)]
  ·rename_i hm
   rw [ih]
   by_cases h : i < j ∧ m i = true
   ·rw [if_pos h, if_pos ⟨by omega, h.2⟩]
   ·rw [if_neg h, if_neg (fun h2 => h ⟨by
     rcases Nat.lt_succ_iff_lt_or_eq.1 h2.1 with h3 | h3
     ·exact h3
     ·subst h3; exact absurd h2.2 hm, h2.2⟩)]
theorem okL_all {s : St} (h : okF s = true) (i : Nat) (hi : i < 5) : okL (lim s i).1 (lim s i).2 = true := by
 unfold okF at h
 simp only [Bool.and_eq_true] at h
 obtain ⟨⟨⟨⟨⟨_, h0⟩, h1⟩, h2⟩, h3⟩, h4⟩ := h
 obtain rfl | rfl | rfl | rfl | rfl : i = 0 ∨ i = 1 ∨ i = 2 ∨ i = 3 ∨ i = 4 := by omega
 all_goals assumption
theorem okF_mk {s : St} (hf : 0 ≤ s.f ∧ s.f ≤ 7) (h : ∀ i, i < 5 → okL (lim s i).1 (lim s i).2 = true) : okF s = true := by
 unfold okF Tp.inb
 have h0 := h 0 omg
 have h1 := h 1 omg
 have h2 := h 2 omg
 have h3 := h 3 omg
 have h4 := h 4 omg
 simp only [lim] at h0 h1 h2 h3 h4
 simp [h0, h1, h2, h3, h4, hf]
theorem ok_midS {u v : St} (hu : ok u = true) (hv : ok v = true) (m : Nat → Bool) {D L : Int} (hD : 0 ≤ D ∧ D ≤ 8) (hL : 1 ≤ L ∧ L ≤ 3) : ok (midS u v m D L 5) = true := by
 obtain ⟨hx, hy, hf⟩ := midS_xyf u v m D L 5
 have hF : okF (midS u v m D L 5) = true := okF_mk (by rw [hf]; exact face_ok hv) (fun i hi => by
  rw [midS_lim u v m D L i hi 5 nlr]
  split
  ·unfold okL Tp.inb
   simp
   omega
  ·exact okL_all (okF_of hv) i hi)
 rw [ok_iff hF, hx, hy]
 have h1 := (ok_iff (okF_of hu)).1 hu
 have h2 := (ok_iff (okF_of hv)).1 hv
 have h3 := tdiv2 (v.x - u.x)
 have h4 := tdiv2 (v.y - u.y)
 generalize (v.x - u.x).tdiv 2 = a at *
 generalize (v.y - u.y).tdiv 2 = c at *
 rcases Int.le_total 0 (v.x - u.x) with h5 | h5
 ·have h6 := h3.1 h5
  rcases Int.le_total 0 (v.y - u.y) with h7 | h7
  ·have h8 := h4.1 h7; omega
  ·have h8 := h4.2 h7; omega
 ·have h6 := h3.2 h5
  rcases Int.le_total 0 (v.y - u.y) with h7 | h7
  ·have h8 := h4.1 h7; omega
  ·have h8 := h4.2 h7; omega
theorem inside_midS {r : List Uo.Re} {l : List Ex.Sg} {s u v : St} {b : Un.Bd} (hb : Un.bok b = true) (hk : ∀ k ∈ l, Fit k) (hu : u ∈ way r l s) (hv : v ∈ way r l s) (D L : Int) : Ins (extent (midS u v (movedB r l) D L 5) b) (sweep r l s b) := by
 obtain ⟨hx, hy, hf⟩ := midS_xyf u v (movedB r l) D L 5
 have h3 := tdiv2 (v.x - u.x)
 have h4 := tdiv2 (v.y - u.y)
 refine inside_mid r l s u v _ b (fun i => by have := reach_bd hb i; omega) hk hu hv (fun i hi => ?_) hf ?_ ?_
 ·rw [midS_lim u v _ D L i hi 5 nlr]
  by_cases h : movedB r l i = true
  ·exact .inl h
  ·exact .inr (by rw [if_neg (fun h2 => h h2.2)])
 ·rw [hx]
  rcases Int.le_total 0 (v.x - u.x) with h5 | h5
  ·have h6 := h3.1 h5; omega
  ·have h6 := h3.2 h5; omega
 ·rw [hy]
  rcases Int.le_total 0 (v.y - u.y) with h5 | h5
  ·have h6 := h4.1 h5; omega
  ·have h6 := h4.2 h5; omega
end Mo
end Go.Proofs.YtedolbjgdedoaaaGreatDoor
