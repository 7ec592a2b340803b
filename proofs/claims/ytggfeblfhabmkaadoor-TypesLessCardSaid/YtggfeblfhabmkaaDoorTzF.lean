/- What lies in the hands of the law TypesMirrored: two works with slices of their own, a map of IDs. -/
import Derived.Test.YtggfeblfhabmkaaDoorTzA
import Derived.Test.YtggfeblfhabmkaaDoorTyV
import Derived.Test.YtggfeblfhabmkaaDoorKitv
import Derived.Test.YtggfeblfhabmkaaDoorKitu
namespace Go.Proofs.YtggfeblfhabmkaaDoor
set_option linter.unusedVariables false
set_option linter.unusedSimpArgs false
open Go.RowKit Go.Shelf

abbrev Ty.wc (x : Ex.Wk) (p : Ex.Wa) (v : Value) : Array Value := #[.int .i64 x.wd, .int .i64 x.dp, .int .i64 x.ta, .int .i64 x.tb, .int .i64 x.tc, .slice p.aR x.ro.length p.cR, .int .i64 x.n, .slice p.aT x.ts.length p.cT, .slice p.aP x.ps.length p.cP, .slice p.aS x.ss.length p.cS, v]
structure Ty.MI (x : Ex.Wk) (p : Ex.Wa) (s b1 b2 M : Nat) (Lx Ly : List Ex.Sg) (vx vy : Value) (n : Nat) (f : Int → Value) (W : World) : Prop where
  h1 : W.heap[b1]? = some (.cells (Ty.wc x p vx) 32 (0, 0))
  h2 : W.heap[b2]? = some (.cells (Ty.wc x p vy) 32 (0, 0))
  rx : W.ownsRow s 41 14 vx Lx.length (Ty.flatS Lx)
  ry : W.ownsRow s 41 14 vy Ly.length (Ty.flatS Ly)
  m : Kit.IMap Tryd.prog 3 (.bool false) W M n f
  ap : ∀ g, vx.ownBlock = some g → vy.ownBlock ≠ some g
  low : b1 < s ∧ b2 < s ∧ M < s
  ne : b1 ≠ b2 ∧ b1 ≠ M ∧ b2 ≠ M
namespace Ty.MI
variable {x : Ex.Wk} {p : Ex.Wa} {s b1 b2 M : Nat} {Lx Ly : List Ex.Sg} {vx vy : Value} {n : Nat} {f : Int → Value} {A W : World}
theorem z1 (h : Ty.MI x p s b1 b2 M Lx Ly vx vy n f A) : b1 < A.heap.size := (Array.getElem?_eq_some_iff.1 h.h1).1
theorem z2 (h : Ty.MI x p s b1 b2 M Lx Ly vx vy n f A) : b2 < A.heap.size := (Array.getElem?_eq_some_iff.1 h.h2).1
theorem exc (h : Ty.MI x p s b1 b2 M Lx Ly vx vy n f A) {S : Nat → Prop} (hx : Kit.Exc S A W) (s1 : ¬ S b1) (s2 : ¬ S b2) (s3 : ¬ S M) (sx : ∀ g, vx.ownBlock = some g → ¬ S g) (sy : ∀ g, vy.ownBlock = some g → ¬ S g) : Ty.MI x p s b1 b2 M Lx Ly vx vy n f W :=
  ⟨hx.heap h.h1 s1, hx.heap h.h2 s2, Ty.own_keep h.rx (fun g hg => hx.block g (h.rx.lt g hg).2 (sx g hg)), Ty.own_keep h.ry (fun g hg => hx.block g (h.ry.lt g hg).2 (sy g hg)), h.m.kept (hx.block M h.m.lt s3), h.ap, h.low, h.ne⟩
theorem below (h : Ty.MI x p s b1 b2 M Lx Ly vx vy n f A) (hb : Below A.heap.size A W) : Ty.MI x p s b1 b2 M Lx Ly vx vy n f W :=
  h.exc (S := fun _ => False) ((Kit.Exc.refl _ A).then hb) id id id (fun _ _ h => h) (fun _ _ h => h)
theorem own (h : Ty.MI x p s b1 b2 M Lx Ly vx vy n f A) {n' : Nat} {f' : Int → Value} (hg : A.grownBy W (some M)) (hm : Kit.IMap Tryd.prog 3 (.bool false) W M n' f') : Ty.MI x p s b1 b2 M Lx Ly vx vy n' f' W := by
  have hlow := h.low
  have hne := h.ne
  have key : ∀ b, b < A.heap.size → b ≠ M → W.heap[b]? = A.heap[b]? := fun b hb hn => hg.block b hb (fun e => hn (Option.some.inj e))
  exact ⟨(key b1 h.z1 hne.2.1).trans h.h1, (key b2 h.z2 hne.2.2).trans h.h2, Ty.own_keep h.rx (fun g hg' => key g (h.rx.lt g hg').2 (by have := (h.rx.lt g hg').1; omega)), Ty.own_keep h.ry (fun g hg' => key g (h.ry.lt g hg').2 (by have := (h.ry.lt g hg').1; omega)), hm, h.ap, h.low, h.ne⟩
theorem still_x (h : Ty.MI x p s b1 b2 M Lx Ly vx vy n f A) (hg : A.grownBy W vx.ownBlock) : W.cell? ⟨b1, 10, none⟩ = some vx ∧ W.frozen? ⟨b1, 10, none⟩ = false := by
  have hlow := h.low
  have hb1 := (hg.block b1 h.z1 (fun e => by have := (h.rx.lt b1 e.symm).1; omega)).trans h.h1
  simp [World.cell?, World.frozen?, hb1]
theorem still_y (h : Ty.MI x p s b1 b2 M Lx Ly vx vy n f A) (hg : A.grownBy W vy.ownBlock) : W.cell? ⟨b2, 10, none⟩ = some vy ∧ W.frozen? ⟨b2, 10, none⟩ = false := by
  have hlow := h.low
  have hb1 := (hg.block b2 h.z2 (fun e => by have := (h.ry.lt b2 e.symm).1; omega)).trans h.h2
  simp [World.cell?, World.frozen?, hb1]
theorem addX (h : Ty.MI x p s b1 b2 M Lx Ly vx vy n f A) {e : Ex.Sg} {v' : Value} (hg : A.grownBy W vx.ownBlock) (ho : W.ownsRow s 41 14 v' (Lx.length + 1) (Ty.flatS Lx ++ Ty.sc e))
    (hw : ∀ k, v'.ownBlock = some k → vx.ownBlock = some k ∨ A.heap.size ≤ k) : Ty.MI x p s b1 b2 M (Lx ++ [e]) Ly v' vy n f (W.setCell ⟨b1, 10, none⟩ v') := by
  have hlow := h.low
  have hne := h.ne
  have old : ∀ b, b < A.heap.size → vx.ownBlock ≠ some b → b ≠ b1 → (W.setCell ⟨b1, 10, none⟩ v').heap[b]? = A.heap[b]? := fun b hb hn hb1 => (Below.heap_setCell _ _ _ _ hb1).trans (hg.block b hb (fun e => hn e.symm))
  have hv : ∀ b, b < s → vx.ownBlock ≠ some b := fun b hb e => by have := (h.rx.lt b e).1; omega
  have k1 : W.heap[b1]? = some (.cells (Ty.wc x p vx) 32 (0, 0)) := (hg.block b1 h.z1 (fun e => hv b1 hlow.1 e.symm)).trans h.h1
  refine ⟨?_, (old b2 h.z2 (hv b2 hlow.2.1) hne.1.symm).trans h.h2, ?_, Ty.own_keep h.ry (fun g hg' => old g (h.ry.lt g hg').2 (fun e => h.ap g e hg') (by have := (h.ry.lt g hg').1; omega)), h.m.kept (old M h.m.lt (hv M hlow.2.2) hne.2.1.symm), ?_, hlow, hne⟩
  · rw [heap_setCell_same _ _ _ _ _ _ k1]; simp
  · rw [List.length_append, Ty.flatS_snoc]
    exact Ty.own_keep ho (fun g hg' => Below.heap_setCell _ _ _ _ (by have := (ho.lt g hg').1; show g ≠ b1; omega))
  · intro g h1 h2
    rcases hw g h1 with h3 | h3
    · exact h.ap g h3 h2
    · have := (h.ry.lt g h2).2; omega
theorem addY (h : Ty.MI x p s b1 b2 M Lx Ly vx vy n f A) {e : Ex.Sg} {v' : Value} (hg : A.grownBy W vy.ownBlock) (ho : W.ownsRow s 41 14 v' (Ly.length + 1) (Ty.flatS Ly ++ Ty.sc e))
    (hw : ∀ k, v'.ownBlock = some k → vy.ownBlock = some k ∨ A.heap.size ≤ k) : Ty.MI x p s b1 b2 M Lx (Ly ++ [e]) vx v' n f (W.setCell ⟨b2, 10, none⟩ v') := by
  have hlow := h.low
  have hne := h.ne
  have old : ∀ b, b < A.heap.size → vy.ownBlock ≠ some b → b ≠ b2 → (W.setCell ⟨b2, 10, none⟩ v').heap[b]? = A.heap[b]? := fun b hb hn hb1 => (Below.heap_setCell _ _ _ _ hb1).trans (hg.block b hb (fun e => hn e.symm))
  have hv : ∀ b, b < s → vy.ownBlock ≠ some b := fun b hb e => by have := (h.ry.lt b e).1; omega
  have k1 : W.heap[b2]? = some (.cells (Ty.wc x p vy) 32 (0, 0)) := (hg.block b2 h.z2 (fun e => hv b2 hlow.2.1 e.symm)).trans h.h2
  refine ⟨(old b1 h.z1 (hv b1 hlow.1) hne.1).trans h.h1, ?_, Ty.own_keep h.rx (fun g hg' => old g (h.rx.lt g hg').2 (fun e => h.ap g hg' e) (by have := (h.rx.lt g hg').1; omega)), ?_, h.m.kept (old M h.m.lt (hv M hlow.2.2) hne.2.2.symm), ?_, hlow, hne⟩
  · rw [heap_setCell_same _ _ _ _ _ _ k1]; simp
  · rw [List.length_append, Ty.flatS_snoc]
    exact Ty.own_keep ho (fun g hg' => Below.heap_setCell _ _ _ _ (by have := (ho.lt g hg').1; show g ≠ b2; omega))
  · intro g h1 h2
    rcases hw g h2 with h3 | h3
    · exact h.ap g h1 h3
    · have := (h.rx.lt g h1).2; omega
end Ty.MI
theorem Ty.Cs.of_blk {w : World} {b : Nat} {l : List Value} {t : TypeId} {f : Nat × Nat} (h : w.heap[b]? = some (.cells l.toArray t f)) : Ty.Cs w b l := by
  refine ⟨(Array.getElem?_eq_some_iff.1 h).1, fun j v hv => ?_⟩
  simp only [World.cell?, h]
  simpa using hv
theorem Ty.lit_cell' (W : World) (l : List Value) (t : TypeId) {b : Nat} (hb : b = W.heap.size) (j : Nat) (u : Value) (h : l[j]? = some u) : (W.alloc (.cells l.toArray t)).cell? ((⟨b, 0, none⟩ : Addr).add j) = some u := by
  subst hb
  have h1 := World.alloc_heap_new W (.cells l.toArray t)
  have e : (⟨W.heap.size, 0, none⟩ : Addr).add j = ⟨W.heap.size, j, none⟩ := by
    unfold Addr.add; split <;> simp_all
  rw [e]
  simp only [World.cell?, h1]
  simpa using h
theorem Ty.ref_id {l : List Ex.Sg} (h : Ty.Inc l) {x : Ty.F3} (hx : x ∈ Ty.refL l) : ∃ t ∈ l, x.2.1 = t.id := by
  simp only [Ty.refL, List.mem_append, Ty.mem_rK] at hx
  have one : ∀ {k : Int}, ((k = 3 ∧ ∃ a ∈ l, Ty.alone l a = true ∧ x = (3, a.id, a.id)) ∨ ∃ a b, Ty.Bf a b l ∧ Ty.pairK k a b = true ∧ x = (k, a.id, b.id)) → ∃ t ∈ l, x.2.1 = t.id := by
    rintro k (⟨_, a, ha, _, rfl⟩ | ⟨a, b, hab, _, rfl⟩)
    · exact ⟨a, ha, rfl⟩
    · exact ⟨a, (Ty.bf_mem hab).1, rfl⟩
  rcases hx with h1 | h1 | h1 | h1
  · exact one (k := 1) (by simpa using h1)
  · exact one (k := 2) (by simpa using h1)
  · exact one (k := 3) (by simpa using h1)
  · exact one (k := 4) (by simpa using h1)
/-- A work's cells. -/
theorem Ty.wc_cells {W : World} {b : Nat} {x : Ex.Wk} {p : Ex.Wa} {v : Value} (h : W.heap[b]? = some (.cells (Ty.wc x p v) 32 (0, 0))) : (∀ q, q < 11 → W.cell? ⟨b, q, none⟩ = some ((Ty.wc x p v)[q]!)) ∧ ∀ q, W.frozen? ⟨b, q, none⟩ = false := by
  refine ⟨fun q hq => ?_, fun q => by simp [World.frozen?, h]⟩
  simp only [World.cell?, h]
  rcases q with _ | _ | _ | _ | _ | _ | _ | _ | _ | _ | _ | q <;> first | rfl | omega
/-- A work with signs of one's own. -/
theorem Ty.at_own {W : World} {s : Nat} {x : Ex.Wk} {p : Ex.Wa} {v : Value} {L : List Ex.Sg} (ha : Ex.At W x p) (ho : W.ownsRow s 41 14 v L.length (Ty.flatS L)) (hL : L.length ≤ 4096) :
    ∃ a c, v = .slice a L.length c ∧ Ex.At W { x with sg := L } { p with aG := a, cG := c } := by
  rcases Ty.row_sl ho with ⟨e1, e2⟩ | ⟨g, c, e1, _, _, e4⟩
  · exact ⟨none, 0, by rw [e1]; exact e2, ⟨ha.ro, ha.ts, ha.ps, ha.ss, .inl (by rw [e1]; rfl), ha.lro, ha.lts, ha.lps, ha.lss, by show L.length ≤ _; omega⟩⟩
  · exact ⟨_, _, e1, ⟨ha.ro, ha.ts, ha.ps, ha.ss, e4, ha.lro, ha.lts, ha.lps, ha.lss, by show L.length ≤ _; omega⟩⟩
/-- Faults of a right work. -/
theorem Ty.faults_at {x : Ex.Wk} {p : Ex.Wa} {W : World} (ha : Ex.At W x p) (hl : Ex.Laid W) (h0 : Ex.chk x = 0) :
    Calls Tryd.prog 14 #[Ex.workV x p] W fun e w' => ∃ a c, e = .returned (.tuple #[.slice a (Ty.refL x.sg).length c, .int .i64 0]) ∧ Tp.Sl w' a (Ty.refL x.sg).length 3 (Ty.f3c (Ty.refL x.sg)) ∧ Below W.heap.size W w' := by
  refine (ty_faults x p W ha hl).mono ?_
  rintro e w' ⟨v, rfl, ho, hb⟩
  have e1 : Ty.lst x = Ty.refL x.sg := by rw [Ty.lst, if_pos h0]
  rw [e1] at ho
  obtain ⟨a, c, rfl, hs⟩ := Ty.own_fl ho
  exact ⟨a, c, by rw [h0], hs, hb⟩
/-- Bounds. -/
structure Ty.Bd (s : Ex.Sg) : Prop where
  id : 0 ≤ s.id ∧ s.id ≤ 1048576
  side : 0 ≤ s.side ∧ s.side ≤ 2
  dir : 0 ≤ s.dir ∧ s.dir ≤ 8
  size : 0 ≤ s.size ∧ s.size ≤ 16
theorem Ty.bd_ok {s : Ex.Sg} {roles bars : Int} (h : Ex.okSign s roles bars = true) : (0 ≤ s.side ∧ s.side ≤ 2) ∧ (0 ≤ s.dir ∧ s.dir ≤ 8) ∧ (0 ≤ s.size ∧ s.size ≤ 16) := by
  unfold Ex.okSign at h
  simp only [Bool.and_eq_true] at h
  obtain ⟨⟨⟨⟨h1, h2⟩, _⟩, _⟩, _⟩ := h
  have hk : 1 ≤ s.kind ∧ s.kind ≤ 9 := by
    simp only [Ex.ok1, Bool.and_eq_true, Tp.inb_iff] at h1
    exact h1.1.1.1
  clear h1
  obtain ⟨id, role, bar, mark, kind, side, dir, level, size, wth, fn, fd, tn, td⟩ := s
  have h : kind = 1 ∨ kind = 2 ∨ kind = 3 ∨ kind = 4 ∨ kind = 5 ∨ kind = 6 ∨ kind = 7 ∨ kind = 8 ∨ kind = 9 := by dsimp only at hk; omega
  clear hk
  rcases h with rfl | rfl | rfl | rfl | rfl | rfl | rfl | rfl | rfl <;>
  · simp only [Ex.ok2, Ex.rule, Bool.and_eq_true, Ty.fld_iff, Int.reduceToNat] at h2
    simp at h2 ⊢
    omega
theorem Ty.bd_vG {roles n : Int} : ∀ {l : List Ex.Sg} {last : Int}, -1 ≤ last → Ex.vG roles n last l = true → ∀ s ∈ l, Ty.Bd s
  | [], _, _, _, _, hs => by cases hs
  | t :: l, last, hl, h, s, hs => by
    simp only [Ex.vG, Ex.okG1, Bool.and_eq_true, decide_eq_true_eq] at h
    obtain ⟨⟨⟨h1, h2⟩, h3⟩, h4⟩ := h
    rcases List.mem_cons.1 hs with rfl | hs
    · obtain ⟨b1, b2, b3⟩ := Ty.bd_ok h3
      exact ⟨by omega, b1, b2, b3⟩
    · exact Ty.bd_vG (by omega) h4 s hs
theorem Ty.bd_of {x : Ex.Wk} (h : Ex.chk x = 0) : ∀ s ∈ x.sg, Ty.Bd s := by
  unfold Ex.chk at h
  split at h
  · omega
  split at h
  · omega
  split at h
  · rename_i h3
    simp only [Ex.okW, Bool.and_eq_true] at h3
    exact Ty.bd_vG (by omega) h3.2
  · omega
theorem Ty.wf_big {a : Int} (h : 0 ≤ a ∧ a ≤ 1048576) : Kit.wfI a := by
  simp only [Kit.wfI, Lit.wf, Bool.and_eq_true, decide_eq_true_eq]
  have h1 : IntKind.min .i64 = -9223372036854775808 := by decide
  have h2 : IntKind.max .i64 = 9223372036854775807 := by decide
  omega
end Go.Proofs.YtggfeblfhabmkaaDoor
