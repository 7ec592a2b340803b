/- The hands of the law TypesLess: a list less one element, the set of faults. -/
import Derived.Test.YtggfeblfhabmkaaDoorTzF
import Derived.Test.YtggfeblfhabmkaaDoorTzB
import Derived.Test.YtggfeblfhabmkaaDoorKitw
import Derived.Test.YtggfeblfhabmkaaDoorKitm
import Derived.Test.YtggfeblfhabmkaaDoorTyI
namespace Go.Proofs.YtggfeblfhabmkaaDoor
set_option linter.unusedVariables false
set_option linter.unusedSimpArgs false
open Go.RowKit Go.Shelf Go.WideMaps

theorem Ty.sl_flat {w : World} {a : Addr} {l : List Ex.Sg} (s : Tp.Sl w (some a) l.length 14 (Ex.sgc l)) (j : Nat) (u : Value) (h : (Ty.flatS l)[j]? = some u) : w.cell? (a.add j) = some u := by
  have hj : j < l.length * 14 := by have := (List.getElem?_eq_some_iff.1 h).1; rwa [Ty.flatS_len] at this
  rcases s with s | ⟨ad, e, _, s⟩
  · omega
  cases e
  have e : j / 14 * 14 + j % 14 = j := by omega
  have h1 := Ty.flatS_get l (j / 14) (j % 14) (by omega) (by omega)
  rw [e, h] at h1
  have h2 := s (j / 14) (j % 14) (by omega) (by omega)
  rw [e, ← Option.some.inj h1] at h2
  exact h2
theorem Ty.flat_split (l : List Ex.Sg) (k : Nat) : Ty.flatS l = Ty.flatS (l.take k) ++ Ty.flatS (l.drop k) := by
  unfold Ty.flatS
  rw [← List.flatMap_append, List.take_append_drop]
theorem Ty.sl_take {w : World} {a : Addr} {l : List Ex.Sg} (s : Tp.Sl w (some a) l.length 14 (Ex.sgc l)) (k : Nat) (j : Nat) (u : Value) (h : (Ty.flatS (l.take k))[j]? = some u) : w.cell? (a.add j) = some u := by
  refine Ty.sl_flat s j u ?_
  rw [Ty.flat_split l k, List.getElem?_append_left (List.getElem?_eq_some_iff.1 h).1]
  exact h
theorem Ty.sl_drop {w : World} {a : Addr} {l : List Ex.Sg} (s : Tp.Sl w (some a) l.length 14 (Ex.sgc l)) (k : Nat) (hk : k ≤ l.length) (j : Nat) (u : Value) (h : (Ty.flatS (l.drop k))[j]? = some u) : w.cell? ((a.add (k * 14)).add j) = some u := by
  rw [Addr.add_add]
  refine Ty.sl_flat s _ u ?_
  have e : (Ty.flatS (l.take k)).length = k * 14 := by rw [Ty.flatS_len, List.length_take, Nat.min_eq_left hk]
  rw [Ty.flat_split l k, List.getElem?_append_right (by omega), e, Nat.add_sub_cancel_left]
  exact h
theorem Ty.flat_erase (l : List Ex.Sg) (k : Nat) : Ty.flatS (l.take k) ++ Ty.flatS (l.drop (k + 1)) = Ty.flatS (l.eraseIdx k) := by
  rw [List.eraseIdx_eq_take_drop_succ]
  simp [Ty.flatS]
/-- 'append' at an operation, whichever comes up. -/
theorem Kit.wpOp_append_sl {P : Program} {ops : Array Oper} {Q : Exit → Act → World → Prop} {ii : Nat} {o : Oper} {Kc : Act → World → Prop} {a : Act} (w : World) (ds : Option Tmp) (hoo : ops[ii]? = some o) (hd : o.dst = ds) (hgd : o.guard = none) (s x : Operand) (t : TypeId)
    (ho : o.op = .call { callee := .builtin .append, args := #[s, x], argTypes := #[t, t] })
    (base : Nat) (e : TypeId) (i : TypeInfo) (z : Value) (size bytes : Nat) (ht : P.underlying t = some (.slice e)) (hi : P.info? e = some i) (hz : i.zero = some z)
    (hsize : i.size = size) (hby : i.bytes = bytes) (hzs : z.cells.size = size) (hsz : 0 < size)
    (v : Value) (n : Nat) (xs : List Value) (hs : a.eval s = v) (hown : w.ownsRow base e size v n xs)
    (ad : Option Addr) (m c : Nat) (news : List Value) (hx : a.eval x = .slice ad m c) (hl : news.length = m * size) (hnews : ∀ a, ad = some a → ∀ j u, news[j]? = some u → w.cell? (a.add j) = some u) (hnil : ad = none → m = 0) (h1 : ∀ u ∈ news, u.oneCell' = true)
    (h63 : n + m ≤ maxLen) (hbytes : (n + m) * bytes ≤ 140737488355328) (hbase : base ≤ w.heap.size)
    (h : ∀ v' w', w'.ownsRow base e size v' (n + m) (xs ++ news) → w.grownBy w' v.ownBlock → (∀ k, v'.ownBlock = some k → v.ownBlock = some k ∨ w.heap.size ≤ k) → Kc (a.put ds v') w') : wpOp P ops Q ii Kc a w := by
  obtain ⟨v', w', hr, h2, h3, h5⟩ := Kit.run_append_sl (P := P) w base t o.type e i z size bytes ht hi hz hsize hby hzs hsz v n xs hown ad m c news hl hnews hnil h1 h63 hbytes hbase
  refine Kit.wpOp_value2 ds hoo hd hgd ?_ (h v' w' h2 h3 h5)
  unfold execOp
  simp only [ho, resolve, invoke, builtin, Sem.run_bind, Sem.run_pure, Result.andThen_ok, List.map_toArray, List.map_cons, List.map_nil, hs, hx, hr]
theorem Ty.own_empty {w : World} {N : Nat} {e : TypeId} {size : Nat} (h : w.heap[N]? = some (.cells #[] e (0, 0))) : w.ownsRow N e size (.slice (some ⟨N, 0, none⟩) 0 0) 0 [] :=
  ⟨by simp, .inr ⟨N, 0, #[], rfl, Nat.le_refl _, h, by simp⟩⟩
set_option maxRecDepth 100000 in
theorem Ty.keyF : Kit.KeyI Tryd.prog 56 3 := by
  refine ⟨deep_law (m := 3) (by decide) (by kernel_rfl) (by kernel_rfl) (by kernel_rfl), fun xs hl hw => ?_⟩
  match xs, hl with
  | [a, b, c], _ =>
    have wa := hw a (by simp)
    have wb := hw b (by simp)
    have wc := hw c (by simp)
    refine Ty.key_of Tryd.underlying56 (by kernel_rfl) ⟨Tryd.prog.types.size - 3, by kernel_rfl⟩ _ (by kernel_rfl) fun m => ?_
    refine (Ty.lits_struct Tryd.underlying56 (m + 3) _ (by kernel_rfl) (by kernel_rfl) [[.int .i64 a], [.int .i64 b], [.int .i64 c]] ?_).trans rfl
    have l : ∀ a, Kit.wfI a → Tryd.prog.keyLits (m + 3) 3 [.int .i64 a] = some [.int .i64 a] := fun a w => Ty.lits_int Tryd.underlying3 (m + 2) a w
    simp [List.mapM_cons, Ty.cI, l a wa, l b wb, l c wc]
theorem Ty.slice_of2 {W : World} {s : Nat} {v : Value} {G : List Ex.Sg} (h : W.ownsRow s 41 14 v G.length (Ty.flatS G)) : ∃ a c, v = .slice a G.length c ∧ Tp.Sl W a G.length 14 (Ex.sgc G) := by
  rcases Ty.row_sl h with ⟨e1, e2⟩ | ⟨g, c, e1, _, _, e4⟩
  · exact ⟨none, 0, by rw [e1]; exact e2, .inl (by rw [e1]; rfl)⟩
  · exact ⟨_, _, e1, e4⟩
/-- A fault as a key. -/
def Ty.ek (x : Ty.F3) : List Int := [x.1, x.2.1, x.2.2]
theorem Ty.ek_inj {x y : Ty.F3} (h : Ty.ek x = Ty.ek y) : x = y := by
  simp only [Ty.ek, List.cons.injEq, and_true] at h
  exact Prod.ext h.1 (Prod.ext h.2.1 h.2.2)
theorem Ty.ek_mem {x : Ty.F3} {l : List Ty.F3} : Ty.ek x ∈ l.map Ty.ek ↔ x ∈ l := by
  rw [List.mem_map]
  exact ⟨fun ⟨y, hy, e⟩ => Ty.ek_inj e ▸ hy, fun h => ⟨x, h, rfl⟩⟩
/-- The faults of a and of which sign: those that the second loop takes out. -/
def Ty.out2 (l : List Ty.F3) (g : Int) (y : Ty.F3) : Bool := l.any fun z => z == y && !(z.2.1 == g || z.2.2 == g)
def Ty.out3 (l : List Ex.Sg) (g : Ex.Sg) (y : Ty.F3) : Bool := l.any fun s => Ty.nms g s && (3, s.id, s.id) == y
def Ty.S2 (lb : List Ty.F3) (l : List Ty.F3) (g : Int) : List Ty.F3 := lb.filter fun y => !Ty.out2 l g y
def Ty.S3 (lb : List Ty.F3) (l : List Ty.F3) (se : List Ex.Sg) (g : Ex.Sg) : List Ty.F3 := lb.filter fun y => !Ty.out2 l g.id y && !Ty.out3 se g y
theorem Ty.S2_skip (lb l : List Ty.F3) (g : Int) (x : Ty.F3) (h : (x.2.1 == g || x.2.2 == g) = true) : Ty.S2 lb (l ++ [x]) g = Ty.S2 lb l g := by
  unfold Ty.S2
  apply List.filter_congr
  intro y _
  simp [Ty.out2, h]
theorem Ty.S2_take (lb l : List Ty.F3) (g : Int) (x : Ty.F3) (h : (x.2.1 == g || x.2.2 == g) = false) : ((Ty.S2 lb l g).map Ty.ek).filter (fun ys => ys != Ty.ek x) = (Ty.S2 lb (l ++ [x]) g).map Ty.ek := by
  unfold Ty.S2
  rw [List.filter_map, List.filter_filter]
  congr 1
  apply List.filter_congr
  intro y _
  rw [Bool.or_eq_false_iff] at h
  simp only [Function.comp, Ty.out2, List.any_append, List.any_cons, List.any_nil, h.1, h.2, Bool.or_self, Bool.not_false, Bool.and_true, Bool.or_false, Bool.not_or]
  rw [Bool.eq_iff_iff]
  simp only [Bool.and_eq_true, bne_iff_ne, ne_eq, Bool.not_eq_true', beq_eq_false_iff_ne]
  constructor
  · rintro ⟨h1, h2⟩; exact ⟨h2, fun e => h1 (by rw [e])⟩
  · rintro ⟨h1, h2⟩; exact ⟨fun e => h2 (Ty.ek_inj e).symm, h1⟩
theorem Ty.S2_in {l : List Ex.Sg} (h : Ty.Inc l) {k : Nat} {g : Ex.Sg} (hg : l[k]? = some g) {i : Nat} {x : Ty.F3} (hx : (Ty.refL l)[i]? = some x) (hn : (x.2.1 == g.id || x.2.2 == g.id) = false) : x ∈ Ty.S2 (Ty.refL (l.eraseIdx k)) ((Ty.refL l).take i) g.id := by
  simp only [Bool.or_eq_false_iff, beq_eq_false_iff_ne] at hn
  refine List.mem_filter.2 ⟨Ty.less_stay h hg (List.mem_of_getElem? hx) hn.1 hn.2, ?_⟩
  rcases ho : Ty.out2 ((Ty.refL l).take i) g.id x with _ | _
  · rfl
  · simp only [Ty.out2, List.any_eq_true, Bool.and_eq_true, beq_iff_eq] at ho
    obtain ⟨z, hz, rfl, _⟩ := ho
    have hnd := Ty.ref_nodup h
    obtain ⟨j, hj, e⟩ := List.mem_iff_getElem.1 hz
    rw [List.getElem_take] at e
    have hj' : j < i := by simp at hj; omega
    obtain ⟨hi, e2⟩ := List.getElem?_eq_some_iff.1 hx
    have hjl : j < (Ty.refL l).length := by omega
    exact (List.pairwise_iff_getElem.1 hnd j i hjl hi hj' (e.trans e2.symm)).elim
theorem Ty.S3_start (lb l : List Ty.F3) (g : Ex.Sg) : Ty.S3 lb l [] g = Ty.S2 lb l g.id := by simp [Ty.S3, Ty.S2, Ty.out3]
theorem Ty.S3_skip (lb l : List Ty.F3) (se : List Ex.Sg) (g s : Ex.Sg) (h : Ty.nms g s = false ∨ (3, s.id, s.id) ∉ Ty.S3 lb l se g) : Ty.S3 lb l (se ++ [s]) g = Ty.S3 lb l se g := by
  unfold Ty.S3 at h ⊢
  apply List.filter_congr
  intro y hy
  rcases h with h | h
  · simp [Ty.out3, h]
  · rw [List.mem_filter] at h
    simp only [Ty.out3, List.any_append, List.any_cons, List.any_nil, Bool.or_false]
    by_cases e : (3, s.id, s.id) = y
    · subst e
      have h2 : ((!Ty.out2 l g.id (3, s.id, s.id) && !Ty.out3 se g (3, s.id, s.id)) : Bool) = false := by
        rcases hc : ((!Ty.out2 l g.id (3, s.id, s.id) && !Ty.out3 se g (3, s.id, s.id)) : Bool) with _ | _
        · rfl
        · exact absurd ⟨hy, hc⟩ h
      unfold Ty.out3 at h2
      rw [h2]
      rw [Bool.and_eq_false_iff] at h2
      rcases h2 with h2 | h2
      · rw [h2, Bool.false_and]
      · rw [Bool.not_or, h2, Bool.false_and, Bool.and_false]
    · have : ((3, s.id, s.id) == y) = false := by simpa using e
      rw [this, Bool.and_false, Bool.or_false]
theorem Ty.S3_take (lb l : List Ty.F3) (se : List Ex.Sg) (g s : Ex.Sg) (h : Ty.nms g s = true) : ((Ty.S3 lb l se g).map Ty.ek).filter (fun ys => ys != Ty.ek (3, s.id, s.id)) = (Ty.S3 lb l (se ++ [s]) g).map Ty.ek := by
  unfold Ty.S3
  rw [List.filter_map, List.filter_filter]
  congr 1
  apply List.filter_congr
  intro y _
  simp only [Function.comp, Ty.out3, List.any_append, List.any_cons, List.any_nil, h, Bool.true_and, Bool.or_false, Bool.not_or]
  rw [Bool.eq_iff_iff]
  simp only [Bool.and_eq_true, bne_iff_ne, ne_eq, Bool.not_eq_true', beq_eq_false_iff_ne]
  constructor
  · rintro ⟨h1, h2, h3⟩; exact ⟨h2, h3, fun e => h1 (by rw [e])⟩
  · rintro ⟨h1, h2, h3⟩; exact ⟨fun e => h3 (Ty.ek_inj e).symm, h1, h2⟩
theorem Ty.S3_end {l : List Ex.Sg} (h : Ty.Inc l) {k : Nat} {g : Ex.Sg} (hg : l[k]? = some g) : Ty.S3 (Ty.refL (l.eraseIdx k)) (Ty.refL l) (l.eraseIdx k) g = [] := by
  unfold Ty.S3
  rw [List.filter_eq_nil_iff]
  intro y hy
  simp only [Bool.and_eq_true, Bool.not_eq_true', not_and, Bool.not_eq_false]
  intro h2
  rcases Ty.less_new h hg hy with ⟨h3, h4, h5⟩ | ⟨s, hs, hn, rfl⟩
  · exfalso
    have : Ty.out2 (Ty.refL l) g.id y = true := by
      simp only [Ty.out2, List.any_eq_true]
      exact ⟨y, h3, by simp [h4, h5]⟩
    rw [this] at h2; cases h2
  · simp only [Ty.out3, List.any_eq_true]
    exact ⟨s, hs, by simp [hn]⟩
/-- Faults' IDs are small. -/
theorem Ty.ref_wf {l : List Ex.Sg} (h : Ty.Inc l) (hb : ∀ s ∈ l, Ty.Bd s) {x : Ty.F3} (hx : x ∈ Ty.refL l) : ∀ a ∈ Ty.ek x, Kit.wfI a := by
  have key : ∀ a : Int, 0 ≤ a → a ≤ 1048576 → Kit.wfI a := fun a h1 h2 => Ty.wf_big ⟨h1, h2⟩
  have e : 0 ≤ x.1 ∧ x.1 ≤ 4 ∧ (0 ≤ x.2.1 ∧ x.2.1 ≤ 1048576) ∧ (0 ≤ x.2.2 ∧ x.2.2 ≤ 1048576) := by
    rcases (Ty.mem_ref h x).1 hx with ⟨c, hc, _, rfl⟩ | ⟨k, c, d, hk, hc, hd, _, _, rfl⟩
    · have := (hb c hc).id; dsimp only; omega
    · have := (hb c hc).id; have := (hb d hd).id; dsimp only; omega
  intro a ha
  simp only [Ty.ek, List.mem_cons, List.not_mem_nil, or_false] at ha
  rcases ha with rfl | rfl | rfl
  · exact key _ e.1 (by omega)
  · exact key _ e.2.2.1.1 e.2.2.1.2
  · exact key _ e.2.2.2.1 e.2.2.2.2
end Go.Proofs.YtggfeblfhabmkaaDoor
