/- Plain facts: lifts and rides without a partner, as the program looks for them; what lies in its hands behind the range. -/
import Derived.Test.YtggfeblfhabmkaaGreatDoorTyM
import Derived.Test.YtggfeblfhabmkaaGreatDoorTyI
namespace Go.Proofs.YtggfeblfhabmkaaGreatDoor
set_option linter.unusedVariables false
set_option linter.unusedSimpArgs false
open Go.RowKit
namespace Ty
def mL (l : List Ex.Sg) (xs : List Int) : Bool := l.any fun s => (s.kind == 7) && ck s == xs
def mR (l : List Ex.Sg) (xs : List Int) : Bool := l.any fun s => !(s.kind == 7) && ck s == xs
theorem mL_put (l : List Ex.Sg) (s : Ex.Sg) (h : (s.kind == 7) = true) : (fun ys => if ys = ck s then Value.bool true else .bool (mL l ys)) = fun ys => .bool (mL (l ++ [s]) ys) := by
  funext ys
  by_cases e : ys = ck s
  · rw [if_pos e]; subst e; simp [mL, h]
  · rw [if_neg e]
    have : (ck s == ys) = false := by simpa using fun h => e h.symm
    simp [mL, this]
theorem mR_put (l : List Ex.Sg) (s : Ex.Sg) (h : (s.kind == 7) = false) : (fun ys => if ys = ck s then Value.bool true else .bool (mR l ys)) = fun ys => .bool (mR (l ++ [s]) ys) := by
  funext ys
  by_cases e : ys = ck s
  · rw [if_pos e]; subst e; simp [mR, h]
  · rw [if_neg e]
    have : (ck s == ys) = false := by simpa using fun h => e h.symm
    simp [mR, this]
theorem mL_skip (l : List Ex.Sg) (s : Ex.Sg) (h : (s.kind == 7) = false) : mL (l ++ [s]) = mL l := by
  funext ys; simp [mL, h]
theorem mR_skip (l : List Ex.Sg) (s : Ex.Sg) (h : (s.kind == 7) = true) : mR (l ++ [s]) = mR l := by
  funext ys; simp [mR, h]
/-- Is the sign without a partner, as the program asks? H: all lifts and rides. -/
def oth (H : List Ex.Sg) (s : Ex.Sg) : Bool := if (s.kind == 7) = true then mR H (ck s) else mL H (ck s)
def ona (H : List Ex.Sg) (s : Ex.Sg) : Bool := !oth H s || (s.wth == s.role + 1)
def lifQ (H l : List Ex.Sg) : List F3 := (l.filter (ona H)).map fun s => (3, s.id, s.id)
theorem ona_eq (all : List Ex.Sg) (s : Ex.Sg) (h : held s = true) : ona (all.filter held) s = alone all s := by
  have key : oth (all.filter held) s = all.any fun t => fits s t || fits t s := by
    unfold oth mR mL
    rcases d : (s.kind == 7) with _ | _
    · have hk : s.kind = 8 := by
        simp only [held, Bool.or_eq_true, d, beq_iff_eq] at h
        rcases h with h | h
        · cases h
        · exact h
      rw [if_neg (by simp), List.any_filter]
      refine congrArg (fun f => all.any f) (funext fun t => ?_)
      rw [Bool.eq_iff_iff]
      by_cases ht : t.kind = 7
      · simp [held, fits, ck, d, hk, ht]
        omega
      · simp [held, fits, ck, d, hk, ht]
    · have hk : s.kind = 7 := by simpa using d
      rw [if_pos rfl, List.any_filter]
      refine congrArg (fun f => all.any f) (funext fun t => ?_)
      rw [Bool.eq_iff_iff]
      by_cases ht : t.kind = 7
      · simp [held, fits, ck, d, hk, ht]
      · simp [held, fits, ck, d, hk, ht]
        omega
  unfold ona alone
  rw [key, h]
  simp only [Bool.true_and]
  cases (s.wth == s.role + 1) <;> simp
theorem lifP_eq (all : List Ex.Sg) : lifP all = lifQ (all.filter held) (all.filter held) := by
  unfold lifP lifQ
  rw [List.filter_filter]
  refine congrArg (List.map _) (List.filter_congr fun s _ => ?_)
  rcases h : held s with _ | _
  · simp [alone, h]
  · rw [ona_eq all s h]; simp
theorem lifQ_snoc (H l : List Ex.Sg) (s : Ex.Sg) : lifQ H (l ++ [s]) = lifQ H l ++ (if ona H s = true then [(3, s.id, s.id)] else []) := by
  unfold lifQ
  rw [List.filter_append, List.map_append]
  rcases h : ona H s with _ | _ <;> simp [List.filter, h]
end Ty

abbrev Ty.VM (X : World) (M n : Nat) (f : List Int → Bool) : Prop := Kit.VMap Tryz.prog 61 7 (.bool false) X M n (fun xs => .bool (f xs))
/-- What lies in Faults' hands behind the range: the list in its box B, the held signs, the two maps in their boxes. -/
structure Ty.PB (w : World) (s B B9 B10 M1 M2 D : Nat) (v vh : Value) (L : List Ty.F3) (H : List Ex.Sg) (n : Nat) (fl fr : List Int → Bool) (X : World) : Prop where
  got : Ty.Got s B L v X
  held : X.ownsRow s 44 14 vh H.length (Ty.flatS H)
  b9 : Boxed X B9 59 (.map (some M1))
  b10 : Boxed X B10 59 (.map (some M2))
  m1 : Ty.VM X M1 n fl
  m2 : Ty.VM X M2 n fr
  dfr : X.heap[D]? = some (.deferred (some []))
  ne : M1 ≠ M2
  low : w.heap.size ≤ s ∧ w.heap.size ≤ B ∧ w.heap.size ≤ M1 ∧ w.heap.size ≤ M2
  below : Below w.heap.size w X
namespace Ty.PB
variable {w X : World} {s B B9 B10 M1 M2 D n : Nat} {v vh : Value} {L : List Ty.F3} {H : List Ex.Sg} {fl fr : List Int → Bool}
theorem ne_obj {X : World} {a b : Nat} {x y : Obj} (ha : X.heap[a]? = some x) (hb : X.heap[b]? = some y) (h : x ≠ y) : a ≠ b := by
  rintro rfl
  rw [ha] at hb
  exact h (Option.some.inj hb)
theorem own_obj {X : World} {e k n s : Nat} {v : Value} {xs : List Value} (h : X.ownsRow s e k v n xs) {g : Nat} (hg : v.ownBlock = some g) : ∃ cur, X.heap[g]? = some (.cells cur e (0, 0)) := by
  rcases h.2 with ⟨rfl, _⟩ | ⟨g', cap, cur, rfl, _, hh, _⟩
  · cases hg
  · cases hg; exact ⟨cur, hh⟩
/-- Behind what leaves all of it alone. -/
theorem keep {S : Nat → Prop} {X' : World} (h : Ty.PB w s B B9 B10 M1 M2 D v vh L H n fl fr X) (hx : Kit.Exc S X X') (h1 : ¬ S B) (h2 : ∀ g, v.ownBlock = some g → ¬ S g) (h3 : ∀ g, vh.ownBlock = some g → ¬ S g) (h4 : ¬ S B9) (h5 : ¬ S B10) (h6 : ¬ S M1) (h7 : ¬ S M2) (h8 : ¬ S D) (h9 : ∀ k, S k → w.heap.size ≤ k) :
    Ty.PB w s B B9 B10 M1 M2 D v vh L H n fl fr X' :=
  ⟨h.got.keep hx h1 h2, Ty.own_keep h.held (fun g hg => hx.block g (h.held.lt g hg).2 (h3 g hg)), hx.boxed h.b9 h4, hx.boxed h.b10 h5, h.m1.kept (hx.block M1 h.m1.lt h6), h.m2.kept (hx.block M2 h.m2.lt h7), hx.heap h.dfr h8, h.ne, h.low, h.below.trans (hx.below h.below.size h9)⟩
theorem new {X' : World} (h : Ty.PB w s B B9 B10 M1 M2 D v vh L H n fl fr X) (hx : Kit.Exc (fun _ => False) X X') : Ty.PB w s B B9 B10 M1 M2 D v vh L H n fl fr X' :=
  h.keep hx (fun h => h) (fun _ _ h => h) (fun _ _ h => h) (fun h => h) (fun h => h) (fun h => h) (fun h => h) (fun h => h) (fun _ h => h.elim)
theorem below' {X' : World} (h : Ty.PB w s B B9 B10 M1 M2 D v vh L H n fl fr X) (hb : Below X.heap.size X X') : Ty.PB w s B B9 B10 M1 M2 D v vh L H n fl fr X' :=
  h.new ((Kit.Exc.refl _ X).then hb)
theorem apart (h : Ty.PB w s B B9 B10 M1 M2 D v vh L H n fl fr X) {M : Nat} {es : Array MapEntry} {c : Nat} (hM : X.heap[M]? = some (.map es c)) : M ≠ B ∧ (∀ g, v.ownBlock = some g → g ≠ M) ∧ (∀ g, vh.ownBlock = some g → g ≠ M) ∧ M ≠ B9 ∧ M ≠ B10 ∧ M ≠ D :=
  ⟨ne_obj hM h.got.box (by simp), fun g hg => by obtain ⟨cur, hc⟩ := own_obj h.got.own hg; exact ne_obj hc hM (by simp), fun g hg => by obtain ⟨cur, hc⟩ := own_obj h.held hg; exact ne_obj hc hM (by simp), ne_obj hM h.b9 (by simp), ne_obj hM h.b10 (by simp), ne_obj hM h.dfr (by simp)⟩
theorem put1 {X' : World} {f' : List Int → Value} {fl' : List Int → Bool} (h : Ty.PB w s B B9 B10 M1 M2 D v vh L H n fl fr X) (hm : Kit.VMap Tryz.prog 61 7 (.bool false) X' M1 (n + 1) f') (hf : f' = fun ys => .bool (fl' ys)) (hg : X.grownBy X' (some M1)) :
    Ty.PB w s B B9 B10 M1 M2 D v vh L H (n + 1) fl' fr X' := by
  obtain ⟨es, c, hM⟩ := h.m1.row
  have ha := h.apart hM
  have hx : Kit.Exc (fun k => k = M1) X X' := (Kit.Exc.refl _ X).grown hg (fun k hk => .inl (Option.some.inj hk).symm)
  subst hf
  exact ⟨h.got.keep hx (fun e => ha.1 e.symm) (fun g hg e => ha.2.1 g hg e), Ty.own_keep h.held (fun g hg => hx.block g (h.held.lt g hg).2 (fun e => ha.2.2.1 g hg e)), hx.boxed h.b9 (fun e => ha.2.2.2.1 e.symm), hx.boxed h.b10 (fun e => ha.2.2.2.2.1 e.symm), hm, (h.m2.kept (hx.block M2 h.m2.lt (fun e => h.ne e.symm))).mono (by omega), hx.heap h.dfr (fun e => ha.2.2.2.2.2 e.symm), h.ne, h.low, h.below.trans (hx.below h.below.size (fun k e => e ▸ h.low.2.2.1))⟩
theorem put2 {X' : World} {f' : List Int → Value} {fr' : List Int → Bool} (h : Ty.PB w s B B9 B10 M1 M2 D v vh L H n fl fr X) (hm : Kit.VMap Tryz.prog 61 7 (.bool false) X' M2 (n + 1) f') (hf : f' = fun ys => .bool (fr' ys)) (hg : X.grownBy X' (some M2)) :
    Ty.PB w s B B9 B10 M1 M2 D v vh L H (n + 1) fl fr' X' := by
  obtain ⟨es, c, hM⟩ := h.m2.row
  have ha := h.apart hM
  have hx : Kit.Exc (fun k => k = M2) X X' := (Kit.Exc.refl _ X).grown hg (fun k hk => .inl (Option.some.inj hk).symm)
  subst hf
  exact ⟨h.got.keep hx (fun e => ha.1 e.symm) (fun g hg e => ha.2.1 g hg e), Ty.own_keep h.held (fun g hg => hx.block g (h.held.lt g hg).2 (fun e => ha.2.2.1 g hg e)), hx.boxed h.b9 (fun e => ha.2.2.2.1 e.symm), hx.boxed h.b10 (fun e => ha.2.2.2.2.1 e.symm), (h.m1.kept (hx.block M1 h.m1.lt (fun e => h.ne e))).mono (by omega), hm, hx.heap h.dfr (fun e => ha.2.2.2.2.2 e.symm), h.ne, h.low, h.below.trans (hx.below h.below.size (fun k e => e ▸ h.low.2.2.2))⟩
/-- The list of faults has grown, or has been put in order. -/
theorem app {X' : World} {L' : List Ty.F3} {v' : Value} (h : Ty.PB w s B B9 B10 M1 M2 D v vh L H n fl fr X) (hg : Ty.Got s B L' v' X') (hx : Kit.Exc (fun k => k = B ∨ v.ownBlock = some k) X X') :
    Ty.PB w s B B9 B10 M1 M2 D v' vh L' H n fl fr X' := by
  obtain ⟨es1, c1, hM1⟩ := h.m1.row
  obtain ⟨es2, c2, hM2⟩ := h.m2.row
  have a1 := h.apart hM1
  have a2 := h.apart hM2
  have hv : ∀ g, v.ownBlock = some g → (∀ k, vh.ownBlock = some k → k ≠ g) ∧ B9 ≠ g ∧ B10 ≠ g ∧ D ≠ g := fun g hg => by
    obtain ⟨cur, hc⟩ := own_obj h.got.own hg
    exact ⟨fun k hk => by obtain ⟨c', hc'⟩ := own_obj h.held hk; exact ne_obj hc' hc (by simp), ne_obj h.b9 hc (by simp), ne_obj h.b10 hc (by simp), ne_obj h.dfr hc (by simp)⟩
  refine ⟨hg, Ty.own_keep h.held (fun g hg => hx.block g (h.held.lt g hg).2 (fun e => ?_)), hx.boxed h.b9 (fun e => ?_), hx.boxed h.b10 (fun e => ?_), h.m1.kept (hx.block M1 h.m1.lt (fun e => ?_)), h.m2.kept (hx.block M2 h.m2.lt (fun e => ?_)), hx.heap h.dfr (fun e => ?_), h.ne, h.low, h.below.trans (hx.below h.below.size (fun k e => ?_))⟩
  · rcases e with e | e
    · obtain ⟨c', hc'⟩ := own_obj h.held hg
      exact ne_obj hc' h.got.box (by simp) e
    · exact (hv g e).1 g hg rfl
  · rcases e with e | e
    · exact ne_obj h.b9 h.got.box (by simp) e
    · exact (hv _ e).2.1 rfl
  · rcases e with e | e
    · exact ne_obj h.b10 h.got.box (by simp) e
    · exact (hv _ e).2.2.1 rfl
  · rcases e with e | e
    · exact a1.1 e
    · exact a1.2.1 _ e rfl
  · rcases e with e | e
    · exact a2.1 e
    · exact a2.2.1 _ e rfl
  · rcases e with e | e
    · exact ne_obj h.dfr h.got.box (by simp) e
    · exact (hv _ e).2.2.2 rfl
  · rcases e with e | e
    · exact e ▸ h.low.2.1
    · exact Nat.le_trans h.low.1 (h.got.own.lt k e).1
end Ty.PB
theorem Ty.lookup_at {P : Program} (w : World) {ops : Array Oper} {rest : List Oper} {o : Oper} {a : Act} {Q : Exit → Act → World → Prop}
    (hg : o.guard = none) (m x : Operand) (t : TypeId) (hop : o.op = Op.lookup t m x false) (k e : TypeId) (N : Nat) (K : Kit.KeyI P k N) (ht : P.underlying t = some (.map k e)) (z : Value) (hz : (zeroValue e).run P w = .ok z w) (B n : Nat) (f : List Int → Value)
    (hm : a.eval m = .map (some B)) (hown : Kit.VMap P k N z w B n f) (xs : List Int) (hx : a.eval x = .agg (xs.map (Value.int .i64)).toArray) (hl : xs.length = N) (hw : ∀ x ∈ xs, Kit.wfI x) (r : Value) (hr : f xs = r)
    (hK : wpList P ops Q rest (a.put o.dst r) w) : wpList P ops Q (o :: rest) a w := by
  subst hr
  exact Kit.wpList_lookup_vmap w hg m x t hop k e N K ht z hz B n f hm hown xs hx hl hw hK
end Go.Proofs.YtggfeblfhabmkaaGreatDoor
