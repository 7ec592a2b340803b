/- A region that reads quietly, makes two variables and stores into them, in whatever order its edges allow. -/
import Derived.Test.YtggfeblfhabmkaaDoorKit
import Derived.Test.YtggfeblfhabmkaaDoorKitq
import Derived.OrdersHeld
namespace Go.Proofs.YtggfeblfhabmkaaDoor.Kit
set_option linter.unusedVariables false
set_option linter.unusedSimpArgs false
open Go.RowKit
section
variable {P : Program} {ops : Array Oper} {Q : Exit → Act → World → Prop} {S : World → Prop}

/-- Operations that yield their values in every world of S, one behind another. -/
def wpIf (P : Program) (ops : Array Oper) (S : World → Prop) (K : Act → Prop) : List Oper → Act → Prop
  | [], a => K a
  | o :: r, a => ∃ v, YieldsIf P ops S o v a ∧ wpIf P ops S K r (a.put o.dst v)
def headI (ops : Array Oper) : Nat → Nat → Array Bool → Bool
  | 0, _, _ => true
  | f + 1, k, listed => (Region.ready .any ops listed).contains k && Region.free .any ops listed k && headI ops f (k + 1) (listed.setIfInBounds k true)
def setFrom : Nat → Nat → Array Bool → Array Bool
  | 0, _, listed => listed
  | f + 1, k, listed => setFrom f (k + 1) (listed.setIfInBounds k true)
theorem wpAnyH_head {f : Nat} (hsel : Region.noSelect ops = true) (hQ : ∀ c a d v w, Q (.panic c) (a.put d v) w → Q (.panic c) a w) : ∀ (l : List Oper) (k : Nat) (listed : Array Bool) (a : Act) (w : World), (∀ j, j < l.length → l[j]? = ops[k + j]?) →
    headI ops l.length k listed = true → S w → wpIf P ops S (fun a' => wpAnyH P .any ops Q S f (setFrom l.length k listed) a' w) l a → wpAnyH P .any ops Q S (l.length + f) listed a w
  | [], _, _, _, _, _, _, _, h => by simpa [wpIf, setFrom] using h
  | o :: l, k, listed, a, w, hl, hB, hS, ⟨v, hy, h⟩ => by
    have h0 : ops[k]? = some o := by simpa using (hl 0 (by simp)).symm
    simp only [List.length_cons, headI, Bool.and_eq_true] at hB
    rw [show (o :: l).length + f = (l.length + f) + 1 by simp; omega]
    exact wpAnyH_take h0 hsel hB.1.2 hB.1.1 (fun c a' w' => hQ c a' o.dst v w') hy hS (wpAnyH_head hsel hQ l (k + 1) _ _ w (fun j hj => by have := hl (j + 1) (by simp; omega); simpa [Nat.add_assoc, Nat.add_comm 1 j] using this) hB.2 hS h)
theorem wpOp_value {i : Nat} {o : Oper} {K : Act → World → Prop} {a : Act} {w w' : World} {v : Value} (ho : ops[i]? = some o) (hg : o.guard = none) (hr : (execOp a.eval o).run P w = .ok (.value v) w') (h : K (a.put o.dst v) w') : wpOp P ops Q i K a w := by
  have hw : Region.wanted o (yielded ops a.tmps) = true := by simp [Region.wanted, hg]
  unfold wpOp
  simp only [ho, hw, if_true]
  left
  unfold Oper.wp
  rw [hr]
  exact h
theorem wpOp_store {i : Nat} {o : Oper} {K : Act → World → Prop} {a : Act} {w : World} {ty : TypeId} {x y : Operand} {b : Nat} {cells : Array Value} (hi : ops[i]? = some o) (hg : o.guard = none) (ho : o.op = .store ty x y)
    (hx : a.eval x = .pointer (some ⟨b, 0, none⟩)) (hy : a.eval y = .agg cells) (ht : w.there b 0 cells.size) (hz : (P.info? ty).map (·.size) = some cells.size) (h1 : cells.all (·.oneCell') = true)
    (h : K (a.put o.dst undef) (w.setCells b 0 cells.toList)) : wpOp P ops Q i K a w := by
  have hw : Region.wanted o (yielded ops a.tmps) = true := by simp [Region.wanted, hg]
  unfold wpOp
  simp only [hi, hw, if_true]
  left
  exact wp_store_mid ty x y ho b 0 cells hx hy ht hz h1 h
theorem there_cells {w : World} {b : Nat} {c : Array Value} {ty : TypeId} {n : Nat} (h : w.heap[b]? = some (.cells c ty (0, 0))) (hn : n = c.size) : w.there b 0 n := fun q hq => by
  subst hn
  refine ⟨?_, by simp [World.frozen?, h]⟩
  simp only [World.cell?, h, Nat.zero_add]
  rw [Array.getElem?_eq_getElem hq]
  rfl
/-- The whole of a block stored. -/
theorem heap_setAll {w : World} {b : Nat} {c cells : Array Value} {ty : TypeId} (h : w.heap[b]? = some (.cells c ty (0, 0))) (hn : cells.size = c.size) : (w.setCells b 0 cells.toList).heap[b]? = some (.cells cells ty (0, 0)) := by
  obtain ⟨c', h1, h2, h3, h4⟩ := heap_setCells b ty cells.toList 0 w c h
  rw [h1]
  have : c' = cells := by
    apply Array.ext_getElem?
    intro i
    by_cases hi : i < cells.size
    · have := h4 i (by simpa using hi) (by omega)
      rw [Nat.zero_add] at this
      rw [this]; simp
    · rw [Array.getElem?_eq_none (by omega), Array.getElem?_eq_none (by omega)]
  rw [this]
theorem heap_setOff {w : World} {b b' : Nat} (cells : List Value) (h : b' ≠ b) : (w.setCells b 0 cells).heap[b']? = w.heap[b']? := by
  by_cases hb : b' < w.heap.size
  · exact (Exc.setCells (S := fun k => k = b) rfl cells 0 (Exc.refl _ w)).block b' hb h
  · have hs : ∀ (vs : List Value) (o : Nat) (w : World), (w.setCells b o vs).heap.size = w.heap.size := by
      intro vs
      induction vs with
      | nil => intro o w; rfl
      | cons v r ih => intro o w; simp only [World.setCells]; rw [ih]; simp
    have h1 := hs cells 0 w
    rw [Array.getElem?_eq_none (show (w.setCells b 0 cells).heap.size ≤ b' by omega), Array.getElem?_eq_none (by omega)]
/-- Two variables of one type, made in whatever order, then stored into. -/
theorem wpAnyH_two {n t1 t2 N : Nat} {o1 o2 o3 o4 : Oper} {ty : TypeId} {x1 x2 : Operand} {zc c1 c2 : Array Value} {w0 w : World} {L : Array Bool} {a : Act}
    (h1 : ops[n]? = some o1) (h2 : ops[n + 1]? = some o2) (h3 : ops[n + 2]? = some o3) (h4 : ops[n + 3]? = some o4)
    (g1 : o1.guard = none) (g2 : o2.guard = none) (g3 : o3.guard = none) (g4 : o4.guard = none)
    (d1 : o1.dst = some t1) (d2 : o2.dst = some t2) (d3 : o3.dst = none) (d4 : o4.dst = none)
    (q3 : o3.op = .store ty (.tmp t1) x1) (q4 : o4.op = .store ty (.tmp t2) x2)
    (z1 : ∀ ρ w, (execOp ρ o1).run P w = .ok (.value (.pointer (some ⟨w.heap.size, 0, none⟩))) (w.alloc (.cells zc ty (0, 0))))
    (z2 : ∀ ρ w, (execOp ρ o2).run P w = .ok (.value (.pointer (some ⟨w.heap.size, 0, none⟩))) (w.alloc (.cells zc ty (0, 0))))
    (ht : t1 ≠ t2) (s1 : t1 < a.tmps.size) (s2 : t2 < a.tmps.size)
    (e1 : ∀ u v, ((a.put (some t1) u).put (some t2) v).eval x1 = .agg c1) (e2 : ∀ u v, ((a.put (some t1) u).put (some t2) v).eval x2 = .agg c2)
    (hz : (P.info? ty).map (·.size) = some zc.size) (n1 : c1.size = zc.size) (n2 : c2.size = zc.size) (k1 : c1.all (·.oneCell') = true) (k2 : c2.all (·.oneCell') = true)
    (r0 : Region.ready .any ops L = [n, n + 1]) (r1 : Region.ready .any ops (L.setIfInBounds n true) = [n + 1]) (r2 : Region.ready .any ops (L.setIfInBounds (n + 1) true) = [n])
    (r3 : Region.ready .any ops ((L.setIfInBounds n true).setIfInBounds (n + 1) true) = [n + 2]) (r4 : Region.ready .any ops (((L.setIfInBounds n true).setIfInBounds (n + 1) true).setIfInBounds (n + 2) true) = [n + 3])
    (r5 : Region.ready .any ops ((((L.setIfInBounds n true).setIfInBounds (n + 1) true).setIfInBounds (n + 2) true).setIfInBounds (n + 3) true) = [])
    (hN : N ≤ w.heap.size) (hb : Below N w0 w)
    (hend : ∀ b1 b2 w', b1 ≠ b2 → N ≤ b1 → N ≤ b2 → Below N w0 w' → w'.heap[b1]? = some (.cells c1 ty (0, 0)) → w'.heap[b2]? = some (.cells c2 ty (0, 0)) →
      Q .normal ((a.put (some t1) (.pointer (some ⟨b1, 0, none⟩))).put (some t2) (.pointer (some ⟨b2, 0, none⟩))) w') :
    wpAnyH P .any ops Q (Below N w0) 4 L a w := by
  have tail : ∀ b1 b2 w2, b1 ≠ b2 → N ≤ b1 → N ≤ b2 → Below N w0 w2 → w2.heap[b1]? = some (.cells zc ty (0, 0)) → w2.heap[b2]? = some (.cells zc ty (0, 0)) →
      wpAnyH P .any ops Q (Below N w0) 2 ((L.setIfInBounds n true).setIfInBounds (n + 1) true) ((a.put (some t1) (.pointer (some ⟨b1, 0, none⟩))).put (some t2) (.pointer (some ⟨b2, 0, none⟩))) w2 := by
    intro b1 b2 w2 hne hb1 hb2 hbl hh1 hh2
    have ev1 : ((a.put (some t1) (.pointer (some ⟨b1, 0, none⟩))).put (some t2) (.pointer (some ⟨b2, 0, none⟩))).eval (.tmp t1) = .pointer (some ⟨b1, 0, none⟩) := by
      simp only [Act.eval, Act.put, Array.getD_eq_getD_getElem?]
      rw [Array.getElem?_setIfInBounds_ne (Ne.symm ht), Array.getElem?_setIfInBounds_self_of_lt s1]; rfl
    have ev2 : ((a.put (some t1) (.pointer (some ⟨b1, 0, none⟩))).put (some t2) (.pointer (some ⟨b2, 0, none⟩))).eval (.tmp t2) = .pointer (some ⟨b2, 0, none⟩) := by
      simp [Act.eval, Act.put, Array.getD_eq_getD_getElem?, s2]
    refine wpAnyH_all r3 (by simp) fun i hi => ?_
    obtain rfl : i = n + 2 := by simpa using hi
    refine wpOp_store h3 g3 q3 ev1 (e1 _ _) (there_cells hh1 n1) (by rw [hz, n1]) k1 ?_
    have hb3 : Below N w0 (w2.setCells b1 0 c1.toList) := hbl.trans ((Exc.setCells (S := fun k => k = b1) rfl c1.toList 0 (Exc.refl _ w2)).below (Nat.le_of_lt (Nat.lt_of_le_of_lt hb1 (Array.getElem?_eq_some_iff.1 hh1).1)) (fun b e => by omega))
    have hh1' := heap_setAll (cells := c1) hh1 n1
    have hh2' := (heap_setOff (w := w2) (b := b1) c1.toList (Ne.symm hne)).trans hh2
    refine ⟨hb3, ?_⟩
    rw [d3]
    refine wpAnyH_all r4 (by simp) fun i hi => ?_
    obtain rfl : i = n + 3 := by simpa using hi
    refine wpOp_store h4 g4 q4 ev2 (e2 _ _) (there_cells hh2' n2) (by rw [hz, n2]) k2 ?_
    rw [d4]
    have hb4 : Below N w0 ((w2.setCells b1 0 c1.toList).setCells b2 0 c2.toList) := hb3.trans ((Exc.setCells (S := fun k => k = b2) rfl c2.toList 0 (Exc.refl _ _)).below (Nat.le_of_lt (Nat.lt_of_le_of_lt hb2 (Array.getElem?_eq_some_iff.1 hh2').1)) (fun b e => by omega))
    exact ⟨hb4, wpAnyH_done r5 (hend b1 b2 _ hne hb1 hb2 hb4 ((heap_setOff (b := b2) c2.toList hne).trans hh1') (heap_setAll (cells := c2) hh2' n2)) 0⟩
  refine wpAnyH_all r0 (by simp) fun i hi => ?_
  rcases (show i = n ∨ i = n + 1 by simpa using hi) with rfl | rfl
  · refine wpOp_value h1 g1 (z1 _ _) ⟨hb.alloc hN _, ?_⟩
    rw [d1]
    refine wpAnyH_all r1 (by simp) fun j hj => ?_
    obtain rfl : j = i + 1 := by simpa using hj
    refine wpOp_value h2 g2 (z2 _ _) ⟨(hb.alloc hN _).alloc (by simp; omega) _, ?_⟩
    rw [d2]
    exact tail _ _ _ (by simp) hN (by simp; omega) ((hb.alloc hN _).alloc (by simp; omega) _) ((Below.heap_alloc _ _ _ (by simp)).trans (World.alloc_heap_new _ _)) (World.alloc_heap_new _ _)
  · refine wpOp_value h2 g2 (z2 _ _) ⟨hb.alloc hN _, ?_⟩
    rw [d2]
    refine wpAnyH_all r2 (by simp) fun j hj => ?_
    obtain rfl : j = n := by simpa using hj
    refine wpOp_value h1 g1 (z1 _ _) ⟨(hb.alloc hN _).alloc (by simp; omega) _, ?_⟩
    rw [d1, Act.put_comm _ _ _ (by simpa using ht), Array.setIfInBounds_comm _ _ (by omega)]
    exact tail _ _ _ (by simp) (by simp; omega) hN ((hb.alloc hN _).alloc (by simp; omega) _) (World.alloc_heap_new _ _) ((Below.heap_alloc _ _ _ (by simp)).trans (World.alloc_heap_new _ _))
/-- The two stores at a region's end. -/
theorem wpList_two {t1 t2 N b1 b2 : Nat} {o3 o4 : Oper} {ty : TypeId} {x1 x2 : Operand} {zc c1 c2 : Array Value} {w0 w2 : World} {a : Act}
    (hg : (o3.guard, o4.guard) = (none, none)) (hd : (o3.dst, o4.dst) = (none, none)) (q3 : o3.op = .store ty (.tmp t1) x1) (q4 : o4.op = .store ty (.tmp t2) x2)
    (ev1 : a.eval (.tmp t1) = .pointer (some ⟨b1, 0, none⟩)) (ev2 : a.eval (.tmp t2) = .pointer (some ⟨b2, 0, none⟩)) (e1 : a.eval x1 = .agg c1) (e2 : a.eval x2 = .agg c2)
    (hz : (P.info? ty).map (·.size) = some zc.size) (n1 : c1.size = zc.size) (n2 : c2.size = zc.size) (k1 : c1.all (·.oneCell') = true) (k2 : c2.all (·.oneCell') = true)
    (hne : b1 ≠ b2) (hb1 : N ≤ b1) (hb2 : N ≤ b2) (hbl : Below N w0 w2) (hh1 : w2.heap[b1]? = some (.cells zc ty (0, 0))) (hh2 : w2.heap[b2]? = some (.cells zc ty (0, 0)))
    (hend : ∀ w', Below N w0 w' → w'.heap[b1]? = some (.cells c1 ty (0, 0)) → w'.heap[b2]? = some (.cells c2 ty (0, 0)) → Q .normal a w') : wpList P ops Q [o3, o4] a w2 := by
  simp only [Prod.mk.injEq] at hg hd
  refine wpList_store_mid hg.1 ty _ _ q3 b1 0 c1 ev1 e1 (there_cells hh1 n1) (by rw [hz, n1]) k1 ?_
  have hb3 : Below N w0 (w2.setCells b1 0 c1.toList) := hbl.trans ((Exc.setCells (S := fun k => k = b1) rfl c1.toList 0 (Exc.refl _ w2)).below (Nat.le_of_lt (Nat.lt_of_le_of_lt hb1 (Array.getElem?_eq_some_iff.1 hh1).1)) (fun b e => by omega))
  have hh1' := heap_setAll (cells := c1) hh1 n1
  have hh2' := (heap_setOff (w := w2) (b := b1) c1.toList (Ne.symm hne)).trans hh2
  rw [hd.1]
  refine wpList_store_mid hg.2 ty _ _ q4 b2 0 c2 ev2 e2 (there_cells hh2' n2) (by rw [hz, n2]) k2 ?_
  rw [hd.2]
  have hb4 : Below N w0 ((w2.setCells b1 0 c1.toList).setCells b2 0 c2.toList) := hb3.trans ((Exc.setCells (S := fun k => k = b2) rfl c2.toList 0 (Exc.refl _ _)).below (Nat.le_of_lt (Nat.lt_of_le_of_lt hb2 (Array.getElem?_eq_some_iff.1 hh2').1)) (fun b e => by omega))
  exact hend _ hb4 ((heap_setOff (b := b2) c2.toList hne).trans hh1') (heap_setAll (cells := c2) hh2' n2)
def bothB (ops : Array Oper) (n : Nat) : Bool :=
  let L := setFrom n 0 (Array.replicate ops.size false)
  Region.noSelect ops && headI ops n 0 (Array.replicate ops.size false) && decide (Region.ready .any ops L = [n, n + 1]) && decide (Region.ready .any ops (L.setIfInBounds n true) = [n + 1]) && decide (Region.ready .any ops (L.setIfInBounds (n + 1) true) = [n]) &&
  decide (Region.ready .any ops ((L.setIfInBounds n true).setIfInBounds (n + 1) true) = [n + 2]) && decide (Region.ready .any ops (((L.setIfInBounds n true).setIfInBounds (n + 1) true).setIfInBounds (n + 2) true) = [n + 3]) &&
  decide (Region.ready .any ops ((((L.setIfInBounds n true).setIfInBounds (n + 1) true).setIfInBounds (n + 2) true).setIfInBounds (n + 3) true) = []) && decide (ops.size = n + 4)
/-- A region: n quiet reads, two variables of one type made, two stores. -/
theorem wp_region_two {id : Nat} {l : List Oper} {a : Act} {w : World} (n t1 t2 : Nat) (ty : TypeId) (x1 x2 : Operand) (zc : Array Value) (hm : P.follows .mixedOrders = true) (hB : bothB l.toArray n = true)
    (hQ : ∀ c a d v w, Q (.panic c) (a.put d v) w → Q (.panic c) a w)
    {o1 o2 o3 o4 : Oper} (hl : l.drop n = [o1, o2, o3, o4])
    (hg : (o1.guard, o2.guard, o3.guard, o4.guard) = (none, none, none, none)) (hd : (o1.dst, o2.dst, o3.dst, o4.dst) = (some t1, some t2, none, none))
    (q3 : o3.op = .store ty (.tmp t1) x1) (q4 : o4.op = .store ty (.tmp t2) x2)
    (z1 : ∀ ρ w, (execOp ρ o1).run P w = .ok (.value (.pointer (some ⟨w.heap.size, 0, none⟩))) (w.alloc (.cells zc ty (0, 0))))
    (z2 : ∀ ρ w, (execOp ρ o2).run P w = .ok (.value (.pointer (some ⟨w.heap.size, 0, none⟩))) (w.alloc (.cells zc ty (0, 0))))
    (ht : t1 ≠ t2) (hz : (P.info? ty).map (·.size) = some zc.size)
    (h : wpIf P l.toArray (Below w.heap.size w) (fun a' => t1 < a'.tmps.size ∧ t2 < a'.tmps.size ∧ ∃ c1 c2, (∀ u v, ((a'.put (some t1) u).put (some t2) v).eval x1 = .agg c1) ∧ (∀ u v, ((a'.put (some t1) u).put (some t2) v).eval x2 = .agg c2) ∧
      c1.size = zc.size ∧ c2.size = zc.size ∧ c1.all (·.oneCell') = true ∧ c2.all (·.oneCell') = true ∧
      ∀ b1 b2 w', b1 ≠ b2 → w.heap.size ≤ b1 → w.heap.size ≤ b2 → Below w.heap.size w w' → w'.heap[b1]? = some (.cells c1 ty (0, 0)) → w'.heap[b2]? = some (.cells c2 ty (0, 0)) →
        Q .normal ((a'.put (some t1) (.pointer (some ⟨b1, 0, none⟩))).put (some t2) (.pointer (some ⟨b2, 0, none⟩))) w') (l.take n) a) :
    (Code.region id l.toArray true).wp P Q a w := by
  simp only [bothB, Bool.and_eq_true, decide_eq_true_eq] at hB
  obtain ⟨⟨⟨⟨⟨⟨⟨⟨hsel, hhd⟩, r0⟩, r1⟩, r2⟩, r3⟩, r4⟩, r5⟩, hsz⟩ := hB
  have hln : l.length = n + 4 := by simpa using hsz
  have htl : (l.take n).length = n := by simp; omega
  have at_ : ∀ j, l.toArray[n + j]? = [o1, o2, o3, o4][j]? := fun j => by rw [← hl, List.getElem?_drop]; simp
  simp only [Prod.mk.injEq] at hg hd
  refine wp_region_held (S := Below w.heap.size w) hm ?_
  have := wpAnyH_head (P := P) (Q := Q) (S := Below w.heap.size w) (f := 4) hsel hQ (l.take n) 0 (Array.replicate l.toArray.size false) a w.drew (fun j hj => by
    have hj' : j < n := by rw [htl] at hj; exact hj
    simp [hj']) (by rw [htl]; exact hhd) (Below.drew (Below.refl _ _)) (by
      have mono : ∀ (K K' : Act → Prop) (hK : ∀ a, K a → K' a) (l' : List Oper) (a : Act), wpIf P l.toArray (Below w.heap.size w) K l' a → wpIf P l.toArray (Below w.heap.size w) K' l' a := by
        intro K K' hK l'
        induction l' with
        | nil => intro a h; exact hK _ h
        | cons o r ih => intro a ⟨v, hy, h⟩; exact ⟨v, hy, ih _ h⟩
      refine mono _ _ ?_ _ _ h
      rintro a' ⟨s1, s2, c1, c2, e1, e2, n1, n2, k1, k2, hend⟩
      rw [htl]
      exact wpAnyH_two (at_ 0) (at_ 1) (at_ 2) (at_ 3) hg.1 hg.2.1 hg.2.2.1 hg.2.2.2 hd.1 hd.2.1 hd.2.2.1 hd.2.2.2 q3 q4 z1 z2 ht s1 s2 e1 e2 hz n1 n2 k1 k2 r0 r1 r2 r3 r4 r5 (Nat.le_refl _) (Below.drew (Below.refl _ _)) hend)
  rw [htl] at this
  rwa [show l.toArray.size = n + 4 from hsz] at this ⊢
end
end Go.Proofs.YtggfeblfhabmkaaDoor.Kit
