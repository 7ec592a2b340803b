/- Walks: package collate: least (the closure of Pair that calls itself, with what it knows in a map). -/
import Derived.Test.YtdaedjmkolcliaaIdF
import Derived.Test.YtdaedjmkolcliaaIdq
import Derived.Test.YtdaedjmkolcliaaKit
import Derived.Maps.OwnSet
import Derived.Maps.Views
import Derived.WideKeyPair
namespace Go.Proofs.Ytdaedjmkolcliaa
set_option linter.unusedVariables false
set_option linter.unusedSimpArgs false
open Go.RowKit Go.Shelf Go.WideMaps
open Go.Maps (Keyed)

theorem Kit.hold {P : Prop} (h : ∀ X : Prop, Hid (X = P) → X) : P := h P rfl
namespace Id
theorem arrK : ArrKey Try.prog 92 3 2 := ⟨by kernel_rfl, by kernel_rfl, by kernel_rfl, by kernel_rfl⟩
theorem lawK : Keyed Try.prog 92 := Keyed.of_law arrK.law
theorem keyK {x y : Int} (hx : Kit.wfI x) (hy : Kit.wfI y) : keyOf Try.prog 92 (.agg #[.int .i64 x, .int .i64 y]) = some (Kit.pkey x y) := keyOf_pair arrK (by kernel_rfl) ⟨(Try.prog.types.size - 1), by kernel_rfl⟩ hx hy
theorem wfS {k : Nat} (h : k ≤ 64) : Kit.wfI k := by
  simp only [Kit.wfI, Lit.wf, Bool.and_eq_true, decide_eq_true_eq]
  have h1 : IntKind.min .i64 = -9223372036854775808 := by decide
  have h2 : IntKind.max .i64 = 9223372036854775807 := by decide
  omega
theorem injK {x y x' y' : Nat} (hx : x ≤ 64) (hy : y ≤ 64) (hx' : x' ≤ 64) (hy' : y' ≤ 64) (h : Kit.pkey (x : Int) y = Kit.pkey (x' : Int) y') : x = x' ∧ y = y' := by
  have h1 := keyK (wfS hx) (wfS hy)
  rw [h] at h1
  have := lawK.inj h1 (keyK (wfS hx') (wfS hy'))
  simp at this
  omega
def grid : List (Nat × Nat) := (List.range 64).flatMap fun i => (List.range 64).map fun k => (i, k)
theorem grid_mem {i k : Nat} (hi : i < 64) (hk : k < 64) : (i, k) ∈ grid := by simp [grid, hi, hk]
theorem grid_len : grid.length = 4096 := by decide +kernel
/-- How many pairs are not known yet. -/
def miss (D : DataW Unit) : Nat := (grid.filter fun q => !Maps.has D (Kit.pkey (q.1 : Int) q.2)).length
/-- Block B is a map of costs that are right. -/
def Memo (a b : List Int) (w : World) (B : Nat) : Prop :=
  ∃ D : DataW Unit, w.ownsMap Try.prog 92 (plainElem Try.prog 3) B (Maps.size D) D ∧ Maps.Tidy D ∧ Maps.size D + miss D ≤ 4096 ∧
    ∀ i k : Nat, i ≤ 64 → k ≤ 64 → Maps.has D (Kit.pkey (i : Int) k) = true → D.atKey (Kit.pkey (i : Int) k) (.lit (.int .i64 0)) = .lit (.int .i64 (cst (a.drop i) (b.drop k)))
theorem Memo.made (a b : List Int) (w : World) : Memo a b (w.alloc (.map #[] 0)) w.heap.size :=
  ⟨.map [], World.ownsMap_made w _ _ _, ⟨[], rfl, List.Pairwise.nil⟩, by
    have h1 : miss (.map []) ≤ grid.length := List.length_filter_le _ _
    rw [grid_len] at h1
    simpa [Maps.size] using h1, fun i k _ _ h => by simp [Maps.has] at h⟩
theorem Memo.lt {a b : List Int} {w : World} {B : Nat} (h : Memo a b w B) : B < w.heap.size := by
  obtain ⟨D, h1, _⟩ := h
  exact h1.lt
theorem Memo.row {a b : List Int} {w : World} {B : Nat} (h : Memo a b w B) : ∃ es clock, w.heap[B]? = some (.map es clock) := by
  obtain ⟨D, ⟨es, clock, h1, _⟩, _⟩ := h
  exact ⟨es, clock, h1⟩
theorem Memo.kept {a b : List Int} {w w' : World} {B : Nat} (h : Memo a b w B) (hb : w'.heap[B]? = w.heap[B]?) : Memo a b w' B := by
  obtain ⟨D, ⟨es, clock, h1, h2⟩, h3⟩ := h
  exact ⟨D, ⟨es, clock, hb.trans h1, h2⟩, h3⟩
theorem Memo.put {a b : List Int} {w' : World} {B i k : Nat} {D : DataW Unit} (ht : Maps.Tidy D) (hm : Maps.size D + miss D ≤ 4096) (hi : i < 64) (hk : k < 64)
    (hv : ∀ i k : Nat, i ≤ 64 → k ≤ 64 → Maps.has D (Kit.pkey (i : Int) k) = true → D.atKey (Kit.pkey (i : Int) k) (.lit (.int .i64 0)) = .lit (.int .i64 (cst (a.drop i) (b.drop k))))
    (h : w'.ownsMap Try.prog 92 (plainElem Try.prog 3) B (Maps.size D + 1) (D.put (Kit.pkey (i : Int) k) (.lit (.int .i64 (cst (a.drop i) (b.drop k)))))) : Memo a b w' B := by
  have hkl : WideAt.IsKeyLit (Kit.pkey (i : Int) k) := by first | trivial | exact ⟨_, rfl⟩ | (simp [WideAt.IsKeyLit])
  have hhas : ∀ x y : Nat, x ≤ 64 → y ≤ 64 → Maps.has (D.put (Kit.pkey (i : Int) k) (.lit (.int .i64 (cst (a.drop i) (b.drop k))))) (Kit.pkey (x : Int) y) = true → (x = i ∧ y = k) ∨ Maps.has D (Kit.pkey (x : Int) y) = true := by
    intro x y hx hy hh
    by_cases e : Kit.pkey (x : Int) y = Kit.pkey (i : Int) k
    · exact .inl (injK hx hy (by omega) (by omega) e)
    · rw [Maps.has_put_other e] at hh
      exact .inr hh
  refine ⟨D.put (Kit.pkey (i : Int) k) (.lit (.int .i64 (cst (a.drop i) (b.drop k)))), ?_, ?_, ?_, fun x y hx hy hh => ?_⟩
  · obtain ⟨es, clock, h1, F, hs, hD⟩ := h
    refine ⟨es, clock, h1, F, ?_, hD⟩
    rw [hD, Maps.size_eq, length_sorted]
    simp
  · exact ht.put hkl _
  · rw [Maps.size_put ht]
    have hle : miss (D.put (Kit.pkey (i : Int) k) (.lit (.int .i64 (cst (a.drop i) (b.drop k))))) ≤ miss D := by
      unfold miss
      have gen : ∀ l : List (Nat × Nat), (l.filter fun q => !Maps.has (D.put (Kit.pkey (i : Int) k) (.lit (.int .i64 (cst (a.drop i) (b.drop k))))) (Kit.pkey (q.1 : Int) q.2)).length ≤ (l.filter fun q => !Maps.has D (Kit.pkey (q.1 : Int) q.2)).length := by
        intro l
        induction l with
        | nil => simp
        | cons q l ih =>
          have hq : Maps.has D (Kit.pkey (q.1 : Int) q.2) = true → Maps.has (D.put (Kit.pkey (i : Int) k) (.lit (.int .i64 (cst (a.drop i) (b.drop k))))) (Kit.pkey (q.1 : Int) q.2) = true := by
            intro hh
            by_cases e : Kit.pkey (q.1 : Int) q.2 = Kit.pkey (i : Int) k
            · rw [e]; exact Maps.has_put_same ht.isMap hkl _
            · rw [Maps.has_put_other e]; exact hh
          rcases e1 : Maps.has D (Kit.pkey (q.1 : Int) q.2) with _ | _
          · rcases e2 : Maps.has (D.put (Kit.pkey (i : Int) k) (.lit (.int .i64 (cst (a.drop i) (b.drop k))))) (Kit.pkey (q.1 : Int) q.2) with _ | _ <;> simp [List.filter_cons, e1, e2] <;> omega
          · simp [List.filter_cons, e1, hq e1]; omega
      exact gen grid
    rcases e : Maps.has D (Kit.pkey (i : Int) k) with _ | _
    · have hlt : miss (D.put (Kit.pkey (i : Int) k) (.lit (.int .i64 (cst (a.drop i) (b.drop k))))) + 1 ≤ miss D := by
        unfold miss
        refine Id.filt_lt (fun q _ hq => ?_) ⟨(i, k), grid_mem hi hk, by simp [e], by simp [Maps.has_put_same ht.isMap hkl]⟩
        rcases e1 : Maps.has D (Kit.pkey (q.1 : Int) q.2) with _ | _
        · rfl
        · exfalso
          by_cases e2 : Kit.pkey (q.1 : Int) q.2 = Kit.pkey (i : Int) k
          · rw [e2, Maps.has_put_same ht.isMap hkl] at hq; simp at hq
          · rw [Maps.has_put_other e2, e1] at hq; simp at hq
      rw [if_neg (by simp)]
      omega
    · rw [if_pos rfl]
      omega
  · by_cases e : Kit.pkey (x : Int) y = Kit.pkey (i : Int) k
    · obtain ⟨rfl, rfl⟩ := injK hx hy (by omega) (by omega) e
      rw [Maps.atKey_put_same ht.isMap hkl]
    · rw [Maps.atKey_put_other e]
      rcases hhas x y hx hy hh with ⟨rfl, rfl⟩ | h2
      · exact absurd rfl e
      · exact hv x y hx hy h2
/-- What the closure may do to the world. -/
def LE (a b : List Int) (B : Nat) (A C : World) : Prop := Kit.Exc (fun k => k = B) A C ∧ (Memo a b A B → Memo a b C B)
theorem LE.refl (a b : List Int) (B : Nat) (A : World) : LE a b B A A := ⟨Kit.Exc.refl _ _, fun h => h⟩
theorem LE.trans {a b : List Int} {B : Nat} {A C D : World} (h : LE a b B A C) (k : LE a b B C D) : LE a b B A D := ⟨h.1.trans k.1, fun x => k.2 (h.2 x)⟩
def ic (l : List Int) (i _j : Nat) : Value := .int .i64 (l.getD i 0)
abbrev lstV (Ba Bb Bk Bl : Nat) : Value := .func (.func 52) #[] #[.pointer (some ⟨Ba, 0, none⟩), .pointer (some ⟨Bb, 0, none⟩), .pointer (some ⟨Bk, 0, none⟩), .pointer (some ⟨Bl, 0, none⟩)]
/-- What the closure finds in its variables. -/
structure PSt (a b : List Int) (Ba Bb Bk Bl B : Nat) (aA : Option Addr) (cA : Nat) (aB : Option Addr) (cB : Nat) (w : World) : Prop where
  ca : w.cell? ⟨Ba, 0, none⟩ = some (.slice aA a.length cA)
  cb : w.cell? ⟨Bb, 0, none⟩ = some (.slice aB b.length cB)
  ck : w.cell? ⟨Bk, 0, none⟩ = some (.map (some B))
  cl : w.cell? ⟨Bl, 0, none⟩ = some (lstV Ba Bb Bk Bl)
  la : Ba < w.heap.size ∧ Bb < w.heap.size ∧ Bk < w.heap.size ∧ Bl < w.heap.size
  na : Ba ≠ B ∧ Bb ≠ B ∧ Bk ≠ B ∧ Bl ≠ B
  sa : Tp.Sl w aA a.length 1 (ic a)
  sb : Tp.Sl w aB b.length 1 (ic b)
  ma : ∀ ad, aA = some ad → a.length = 0 ∨ ad.block ≠ B
  mb : ∀ ad, aB = some ad → b.length = 0 ∨ ad.block ≠ B
  memo : Memo a b w B
theorem sl_exc {w w' : World} {S : Nat → Prop} {a : Option Addr} {n k : Nat} {f : Nat → Nat → Value} (h : Tp.Sl w a n k f) (hx : Kit.Exc S w w') (hs : ∀ ad, a = some ad → n = 0 ∨ ¬ S ad.block) : Tp.Sl w' a n k f := by
  rcases h with h | ⟨ad, h1, h2, h3⟩
  · exact .inl h
  rcases hs ad h1 with h4 | h4
  · exact .inl h4
  · exact .inr ⟨ad, h1, Nat.lt_of_lt_of_le h2 hx.size, fun i j hi hj => hx.cell (h3 i j hi hj) (by rw [Tp.add_block]; exact h4) (by rw [Tp.add_block]; exact h2)⟩
theorem PSt.step {a b : List Int} {Ba Bb Bk Bl B : Nat} {aA : Option Addr} {cA : Nat} {aB : Option Addr} {cB : Nat} {w w' : World} (h : PSt a b Ba Bb Bk Bl B aA cA aB cB w) (hx : LE a b B w w') : PSt a b Ba Bb Bk Bl B aA cA aB cB w' where
  ca := hx.1.cell h.ca h.na.1 h.la.1
  cb := hx.1.cell h.cb h.na.2.1 h.la.2.1
  ck := hx.1.cell h.ck h.na.2.2.1 h.la.2.2.1
  cl := hx.1.cell h.cl h.na.2.2.2 h.la.2.2.2
  la := ⟨Nat.lt_of_lt_of_le h.la.1 hx.1.size, Nat.lt_of_lt_of_le h.la.2.1 hx.1.size, Nat.lt_of_lt_of_le h.la.2.2.1 hx.1.size, Nat.lt_of_lt_of_le h.la.2.2.2 hx.1.size⟩
  na := h.na
  sa := sl_exc h.sa hx.1 h.ma
  sb := sl_exc h.sb hx.1 h.mb
  ma := h.ma
  mb := h.mb
  memo := hx.2 h.memo
theorem PSt.exc {a b : List Int} {Ba Bb Bk Bl B : Nat} {aA : Option Addr} {cA : Nat} {aB : Option Addr} {cB : Nat} {w0 w w' : World} {S : Nat → Prop} (h0 : PSt a b Ba Bb Bk Bl B aA cA aB cB w0) (h : PSt a b Ba Bb Bk Bl B aA cA aB cB w) (hx : Kit.Exc S w w') (hS : ∀ q, S q → w0.heap.size ≤ q) : PSt a b Ba Bb Bk Bl B aA cA aB cB w' := by
  have n : ∀ q, q < w0.heap.size → ¬ S q := fun q hq hs => by have := hS q hs; omega
  have nA : ∀ {x : Option Addr} {m : Nat} {l : List Int}, Tp.Sl w0 x m 1 (ic l) → ∀ ad, x = some ad → m = 0 ∨ ¬ S ad.block := by
    intro x m l hs ad hx
    rcases hs with h | ⟨ad', h1, h2, _⟩
    · exact .inl h
    · rw [h1] at hx; cases hx; exact .inr (n _ h2)
  exact ⟨hx.cell h.ca (n _ h0.la.1) h.la.1, hx.cell h.cb (n _ h0.la.2.1) h.la.2.1, hx.cell h.ck (n _ h0.la.2.2.1) h.la.2.2.1, hx.cell h.cl (n _ h0.la.2.2.2) h.la.2.2.2,
    ⟨Nat.lt_of_lt_of_le h.la.1 hx.size, Nat.lt_of_lt_of_le h.la.2.1 hx.size, Nat.lt_of_lt_of_le h.la.2.2.1 hx.size, Nat.lt_of_lt_of_le h.la.2.2.2 hx.size⟩, h.na,
    sl_exc h.sa hx (nA h0.sa), sl_exc h.sb hx (nA h0.sb), h.ma, h.mb, h.memo.kept (hx.block B h.memo.lt (n _ h0.memo.lt))⟩
theorem PSt.made {a b : List Int} {Ba Bb : Nat} {aA : Option Addr} {cA : Nat} {aB : Option Addr} {cB : Nat} {W : World} {tM tF : TypeId} (ca : W.cell? ⟨Ba, 0, none⟩ = some (.slice aA a.length cA)) (cb : W.cell? ⟨Bb, 0, none⟩ = some (.slice aB b.length cB)) (la : Ba < W.heap.size) (lb : Bb < W.heap.size)
    (sa : Tp.Sl W aA a.length 1 (ic a)) (sb : Tp.Sl W aB b.length 1 (ic b)) :
    PSt a b Ba Bb (W.heap.size + 1) (W.heap.size + 1 + 1) W.heap.size aA cA aB cB (((W.alloc (.map #[] 0)).alloc (.cells #[.map (some W.heap.size)] tM)).alloc (.cells #[lstV Ba Bb (W.heap.size + 1) (W.heap.size + 1 + 1)] tF)) := by
  have x1 : Kit.Exc (fun _ => False) W (((W.alloc (.map #[] 0)).alloc (.cells #[.map (some W.heap.size)] tM)).alloc (.cells #[lstV Ba Bb (W.heap.size + 1) (W.heap.size + 1 + 1)] tF)) :=
    (((Kit.Exc.refl _ W).alloc _).alloc _).alloc _
  have nA : ∀ {x : Option Addr} {m : Nat} {l : List Int}, Tp.Sl W x m 1 (ic l) → ∀ ad, x = some ad → m = 0 ∨ ad.block ≠ W.heap.size := by
    intro x m l hs ad hx
    rcases hs with h | ⟨ad', h1, h2, _⟩
    · exact .inl h
    · rw [h1] at hx; cases hx; exact .inr (by omega)
  have hm : ((((W.alloc (.map #[] 0)).alloc (.cells #[.map (some W.heap.size)] tM)).alloc (.cells #[lstV Ba Bb (W.heap.size + 1) (W.heap.size + 1 + 1)] tF)).heap[W.heap.size]?) = (W.alloc (.map #[] 0)).heap[W.heap.size]? := by
    have h1 := World.alloc_heap_new W (.map #[] 0)
    exact (Kit.Exc.heap (((Kit.Exc.refl (fun _ => False) (W.alloc (.map #[] 0))).alloc _).alloc _) h1 (fun h => h)).trans h1.symm
  refine ⟨x1.cell ca (fun h => h) la, x1.cell cb (fun h => h) lb, ?_, ?_, ⟨by first | (simp; done) | (simp; omega), by first | (simp; done) | (simp; omega), by first | (simp; done) | (simp; omega), by first | (simp; done) | (simp; omega)⟩, ⟨by omega, by omega, by omega, by omega⟩, sl_exc sa x1 (fun _ _ => .inr fun h => h), sl_exc sb x1 (fun _ _ => .inr fun h => h), nA sa, nA sb, (Memo.made a b W).kept hm⟩
  · simp [go_sem]
  · simp [go_sem]
theorem own_kept {w w' : World} {s e k n : Nat} {v : Value} {xs : List Value} (h : w.ownsRow s e k v n xs) (hb : ∀ g, v.ownBlock = some g → w'.heap[g]? = w.heap[g]?) : w'.ownsRow s e k v n xs := by
  obtain ⟨h1, h2⟩ := h
  refine ⟨h1, ?_⟩
  rcases h2 with ⟨rfl, rfl⟩ | ⟨g, cap, cur, rfl, hbg, hg, hnc, hcm, hcs, htake⟩
  · exact .inl ⟨rfl, rfl⟩
  · exact .inr ⟨g, cap, cur, rfl, hbg, (hb g rfl).trans hg, hnc, hcm, hcs, htake⟩
theorem lit_cell (W : World) (l : List Value) (t : TypeId) {b : Nat} (hb : b = W.heap.size) (j : Nat) (u : Value) (h : l[j]? = some u) : (W.alloc (.cells l.toArray t)).cell? ((⟨b, 0, none⟩ : Addr).add j) = some u := by
  subst hb
  have h1 := World.alloc_heap_new W (.cells l.toArray t)
  have e : (⟨W.heap.size, 0, none⟩ : Addr).add j = ⟨W.heap.size, j, none⟩ := by
    unfold Addr.add; split <;> simp_all
  rw [e]
  simp only [World.cell?, h1]
  simpa using h
def Lst (a b : List Int) (Ba Bb Bk Bl B i k : Nat) (w : World) : Prop :=
  Calls Try.prog 52 #[.int .i64 i, .int .i64 k, .pointer (some ⟨Ba, 0, none⟩), .pointer (some ⟨Bb, 0, none⟩), .pointer (some ⟨Bk, 0, none⟩), .pointer (some ⟨Bl, 0, none⟩)] w fun e w' => e = .returned (.int .i64 (cst (a.drop i) (b.drop k))) ∧ LE a b B w w'
end Id
set_option maxRecDepth 100000 in
set_option maxHeartbeats 1000000 in
theorem co_least_a (a b : List Int) (Ba Bb Bk Bl B k : Nat) (aA : Option Addr) (cA : Nat) (aB : Option Addr) (cB : Nat) (w : World) (h : Id.PSt a b Ba Bb Bk Bl B aA cA aB cB w) (la : a.length ≤ 64) (lb : b.length ≤ 64) (hk : k ≤ b.length) : Id.Lst a b Ba Bb Bk Bl B a.length k w := by
  unfold Id.Lst
  have ca := h.ca
  have cb := h.cb
  have hv := Lib.hid (show Id.cst (a.drop a.length) (b.drop k) = 2 * ((b.length : Int) - k) by rw [List.drop_length, Id.cst_nil, List.length_drop]; omega)
  clear h
  go_enter Try.func52, Try.ntmps52
  go_wp2
  go_ret
  exact ⟨by rw [hv.out]; rfl, Id.LE.refl _ _ _ _⟩
set_option maxRecDepth 100000 in
set_option maxHeartbeats 1000000 in
theorem co_least_b (a b : List Int) (Ba Bb Bk Bl B i : Nat) (aA : Option Addr) (cA : Nat) (aB : Option Addr) (cB : Nat) (w : World) (h : Id.PSt a b Ba Bb Bk Bl B aA cA aB cB w) (la : a.length ≤ 64) (lb : b.length ≤ 64) (hi : i < a.length) : Id.Lst a b Ba Bb Bk Bl B i b.length w := by
  unfold Id.Lst
  have ca := h.ca
  have cb := h.cb
  have hv := Lib.hid (show Id.cst (a.drop i) (b.drop b.length) = 2 * ((a.length : Int) - i) by rw [List.drop_length, Id.cst_nil', List.length_drop]; omega)
  have d1 : ((i : Int) == (a.length : Int)) = false := by simp; omega
  clear h
  go_enter Try.func52, Try.ntmps52
  go_wp2
  go_ret
  exact ⟨by rw [hv.out]; rfl, Id.LE.refl _ _ _ _⟩
set_option maxRecDepth 100000 in
set_option maxHeartbeats 2000000 in
theorem co_least_c (a b : List Int) (Ba Bb Bk Bl B i k : Nat) (aA : Option Addr) (cA : Nat) (aB : Option Addr) (cB : Nat) (w : World) (h : Id.PSt a b Ba Bb Bk Bl B aA cA aB cB w) (la : a.length ≤ 64) (lb : b.length ≤ 64) (hi : i < a.length) (hk : k < b.length)
    (ih : ∀ i' k' w', i' ≤ a.length → k' ≤ b.length → i + k < i' + k' → Id.PSt a b Ba Bb Bk Bl B aA cA aB cB w' → Id.Lst a b Ba Bb Bk Bl B i' k' w') : Id.Lst a b Ba Bb Bk Bl B i k w := by
  unfold Id.Lst
  have ca := h.ca
  have cb := h.cb
  have ck := h.ck
  obtain ⟨D, hD, ht, hm, hv⟩ := h.memo
  have d1 : ((i : Int) == (a.length : Int)) = false := by simp; omega
  have d2 : ((k : Int) == (b.length : Int)) = false := by simp; omega
  have H := Lib.hid h
  have IH := Lib.hid ih
  have HV := Lib.hid hv
  have HT := Lib.hid ht
  have HM := Lib.hid hm
  clear h ih hv ht hm
  obtain ⟨ada, rfl, hada, _⟩ := H.out.sa.at hi
  obtain ⟨adb, rfl, hadb, _⟩ := H.out.sb.at hk
  rcases e : Maps.has D (Kit.pkey (i : Int) k) with _ | _
  · go_enter Try.func52, Try.ntmps52
    go_wp2_with (at_lookup; refine wpList_lookup_own_ok_int _ rfl _ _ 89 rfl 92 3 .i64 Id.lawK Try.underlying89 Try.underlying3 (by kernel_rfl) B _ D rfl hD _ _ rfl (Id.keyK (Id.wfS (by omega)) (Id.wfS (by omega))) ?_; intro c hat hwc; rw [e])
    clear hat hwc hD HV HT HM ca cb ck
    obtain ⟨x, hx⟩ : ∃ x, a.getD i 0 = x := ⟨_, rfl⟩
    obtain ⟨y, hy⟩ : ∃ y, b.getD k 0 = y := ⟨_, rfl⟩
    obtain ⟨C1, hC1⟩ : ∃ C1, Id.cst (a.drop (i + 1)) (b.drop (k + 1)) = C1 := ⟨_, rfl⟩
    obtain ⟨C2, hC2⟩ : ∃ C2, Id.cst (a.drop (i + 1)) (b.drop k) = C2 := ⟨_, rfl⟩
    obtain ⟨C3, hC3⟩ : ∃ C3, Id.cst (a.drop i) (b.drop (k + 1)) = C3 := ⟨_, rfl⟩
    obtain ⟨R, hR0⟩ : ∃ R, Id.cst (a.drop i) (b.drop k) = R := ⟨_, rfl⟩
    have hR : R = Id.mn (Id.bes x y + C1) (2 + C2) (2 + C3) := by
      have h1 := Tp.drop_cons a 0 i hi
      have h2 := Tp.drop_cons b 0 k hk
      rw [← hR0, ← hC1, ← hC2, ← hC3, h1, h2, Id.cst_cons, hx, hy]
    have hbx := Id.bes_bd x y
    have b1 : 0 ≤ C1 ∧ C1 ≤ 256 := by
      have h1 := Id.cst_nonneg (a.drop (i + 1)) (b.drop (k + 1)); have h2 := Id.cst_le (a.drop (i + 1)) (b.drop (k + 1))
      rw [hC1] at h1 h2; simp only [List.length_drop] at h2; omega
    have b2 : 0 ≤ C2 ∧ C2 ≤ 256 := by
      have h1 := Id.cst_nonneg (a.drop (i + 1)) (b.drop k); have h2 := Id.cst_le (a.drop (i + 1)) (b.drop k)
      rw [hC2] at h1 h2; simp only [List.length_drop] at h2; omega
    have b3 : 0 ≤ C3 ∧ C3 ≤ 256 := by
      have h1 := Id.cst_nonneg (a.drop i) (b.drop (k + 1)); have h2 := Id.cst_le (a.drop i) (b.drop (k + 1))
      rw [hC3] at h1 h2; simp only [List.length_drop] at h2; omega
    unfold Id.Lst at IH
    have e1 : (((i + 1 : Nat)) : Int) = (i : Int) + 1 := by simp
    have e2 : (((k + 1 : Nat)) : Int) = (k : Int) + 1 := by simp
    obtain ⟨w0, hw0⟩ : ∃ w0, w0 = w := ⟨_, rfl⟩
    refine Kit.wp_region_vals 30 [([(2, none)], none, true), ([(0, none)], none, true), ([(41, some 0), (42, some 1)], none, true), ([(43, some 2)], none, true), ([(3, none)], none, true), ([(1, none)], none, true), ([(45, some 4), (46, some 5)], none, true), ([(47, some 6)], none, true), ([(44, some 3), (48, some 7)], none, true), ([(5, none)], none, true), ([(0, none)], none, true), ([(51, some 10)], none, true), ([(1, none)], none, true), ([(53, some 12)], none, true), ([(50, some 9), (52, some 11), (54, some 13)], none, true), ([(49, some 8), (55, some 14)], none, true), ([(5, none)], none, true), ([(0, none)], none, true), ([(58, some 17)], none, true), ([(1, none)], none, true), ([(57, some 16), (59, some 18), (60, some 19)], none, true), ([(61, some 20)], none, true), ([(5, none)], none, true), ([(0, none)], none, true), ([(1, none)], none, true), ([(65, some 24)], none, true), ([(63, some 22), (64, some 23), (66, some 25)], none, true), ([(67, some 26)], none, true), ([(56, some 15), (62, some 21), (68, some 27)], none, true), ([(69, some 28)], none, true)]
      [some 41, some 42, some 43, some 44, some 45, some 46, some 47, some 48, some 49, some 50, some 51, some 52, some 53, some 54, some 55, some 56, some 57, some 58, some 59, some 60, some 61, some 62, some 63, some 64, some 65, some 66, some 67, some 68, some 69, some 9] rfl (by kernel_rfl) (by kernel_rfl) (Id.LE a b B) (fun i' v w' => match i' with
      | 0 => v = .slice (some ada) a.length cA
      | 1 => v = .int .i64 i
      | 2 => v = .pointer (some (ada.add i))
      | 3 => v = .int .i64 x
      | 4 => v = .slice (some adb) b.length cB
      | 5 => v = .int .i64 k
      | 6 => v = .pointer (some (adb.add k))
      | 7 => v = .int .i64 y
      | 8 => v = .int .i64 (Id.bes x y)
      | 9 => v = Id.lstV Ba Bb Bk Bl
      | 10 => v = .int .i64 i
      | 11 => v = .int .i64 ((i : Int) + 1)
      | 12 => v = .int .i64 k
      | 13 => v = .int .i64 ((k : Int) + 1)
      | 14 => v = .int .i64 C1
      | 15 => v = .int .i64 (Id.bes x y + C1)
      | 16 => v = Id.lstV Ba Bb Bk Bl
      | 17 => v = .int .i64 i
      | 18 => v = .int .i64 ((i : Int) + 1)
      | 19 => v = .int .i64 k
      | 20 => v = .int .i64 C2
      | 21 => v = .int .i64 (2 + C2)
      | 22 => v = Id.lstV Ba Bb Bk Bl
      | 23 => v = .int .i64 i
      | 24 => v = .int .i64 k
      | 25 => v = .int .i64 ((k : Int) + 1)
      | 26 => v = .int .i64 C3
      | 27 => v = .int .i64 (2 + C3)
      | 28 => v = .int .i64 R
      | _ => v = .int .i64 R)
      (fun h k => h.trans k) ⟨(Kit.Exc.refl _ _).drew, fun h => h.kept rfl⟩ (fun _ => Id.LE.refl _ _ _ _) ?_ ?_ ?_
    · intro i' v A B h1 h2 h3
      split at h3 <;> exact h3
    · simp only [List.take_succ_cons, List.take_zero, Kit.StepsV, Kit.VOp, Kit.RdP, true_and, if_true, and_true]
      refine ⟨?_, ?_, ?_, ?_, ?_, ?_, ?_, ?_, ?_, ?_, ?_, ?_, ?_, ?_, ?_, ?_, ?_, ?_, ?_, ?_, ?_, ?_, ?_, ?_, ?_, ?_, ?_, ?_, ?_, ?_⟩
      all_goals intro ev w1 hx1 hv hc hf hg'
      all_goals have P := H.out.step hx1
      all_goals (have s1 := P.ca; have s2 := P.cb; have s3 := P.cl)
      all_goals have fa : w1.cell? (ada.add i) = some (.int .i64 x) := by have h := P.sa.head hi (by omega); rw [Nat.mul_one] at h; rw [h, ← hx]; rfl
      all_goals have fb : w1.cell? (adb.add k) = some (.int .i64 y) := by have h := P.sb.head hk (by omega); rw [Nat.mul_one] at h; rw [h, ← hy]; rfl
      · simp at hv; simp [execOp, hv, go_sem, Kit.UponV, Id.LE.refl, s1]
      · simp at hv; simp [execOp, hv, go_sem, Kit.UponV, Id.LE.refl]
      · simp [execOp, hv, hc, go_sem, Kit.UponV, Id.LE.refl, hi, hk]
      · simp [execOp, hv, hc, go_sem, Kit.UponV, Id.LE.refl, fa]
      · simp at hv; simp [execOp, hv, go_sem, Kit.UponV, Id.LE.refl, s2]
      · simp at hv; simp [execOp, hv, go_sem, Kit.UponV, Id.LE.refl]
      · simp [execOp, hv, hc, go_sem, Kit.UponV, Id.LE.refl, hi, hk]
      · simp [execOp, hv, hc, go_sem, Kit.UponV, Id.LE.refl, fb]
      · simp [execOp, hv, hc, hf, go_sem, Kit.UponV]
        refine (co_beside x y w1).mono ?_
        rintro e w' ⟨rfl, rfl⟩
        exact ⟨_, rfl, rfl, Id.LE.refl _ _ _ _⟩
      · simp at hv; simp [execOp, hv, go_sem, Kit.UponV, Id.LE.refl, s3]
      · simp at hv; simp [execOp, hv, go_sem, Kit.UponV, Id.LE.refl]
      · simp [execOp, hv, hc, go_sem, Kit.UponV, Id.LE.refl, IntKind.wrap_i64] <;> omega
      · simp at hv; simp [execOp, hv, go_sem, Kit.UponV, Id.LE.refl]
      · simp [execOp, hv, hc, go_sem, Kit.UponV, Id.LE.refl, IntKind.wrap_i64] <;> omega
      · simp [execOp, hv, hc, hf, go_sem, Kit.UponV]
        rw [← e1, ← e2]
        refine (IH.out (i + 1) (k + 1) w1 (by omega) (by omega) (by omega) P).mono ?_
        rintro e w' ⟨rfl, h⟩
        exact ⟨_, rfl, by rw [hC1], h⟩
      · simp [execOp, hv, hc, go_sem, Kit.UponV, Id.LE.refl, IntKind.wrap_i64] <;> omega
      · simp at hv; simp [execOp, hv, go_sem, Kit.UponV, Id.LE.refl, s3]
      · simp at hv; simp [execOp, hv, go_sem, Kit.UponV, Id.LE.refl]
      · simp [execOp, hv, hc, go_sem, Kit.UponV, Id.LE.refl, IntKind.wrap_i64] <;> omega
      · simp at hv; simp [execOp, hv, go_sem, Kit.UponV, Id.LE.refl]
      · simp [execOp, hv, hc, hf, go_sem, Kit.UponV]
        rw [← e1]
        refine (IH.out (i + 1) (k) w1 (by omega) (by omega) (by omega) P).mono ?_
        rintro e w' ⟨rfl, h⟩
        exact ⟨_, rfl, by rw [hC2], h⟩
      · simp [execOp, hv, hc, go_sem, Kit.UponV, Id.LE.refl, IntKind.wrap_i64] <;> omega
      · simp at hv; simp [execOp, hv, go_sem, Kit.UponV, Id.LE.refl, s3]
      · simp at hv; simp [execOp, hv, go_sem, Kit.UponV, Id.LE.refl]
      · simp at hv; simp [execOp, hv, go_sem, Kit.UponV, Id.LE.refl]
      · simp [execOp, hv, hc, go_sem, Kit.UponV, Id.LE.refl, IntKind.wrap_i64] <;> omega
      · simp [execOp, hv, hc, hf, go_sem, Kit.UponV]
        rw [← e2]
        refine (IH.out (i) (k + 1) w1 (by omega) (by omega) (by omega) P).mono ?_
        rintro e w' ⟨rfl, h⟩
        exact ⟨_, rfl, by rw [hC3], h⟩
      · simp [execOp, hv, hc, go_sem, Kit.UponV, Id.LE.refl, IntKind.wrap_i64] <;> omega
      · simp [execOp, hv, hc, hf, go_sem, Kit.UponV, Id.LE.refl]
        rw [hR, Id.mn]
        (repeat' split) <;> omega
      · simp [execOp, hv, hc, go_sem, Kit.UponV, Id.LE.refl]
    · intro vs w1 hv hx1
      have HRR := Lib.hid hR
      have HR2 := Lib.hid hR0
      clear hR hR0 hC1 hC2 hC3
      have v0 : vs 0 = _ := hv 0 (by omega)
      have v1 : vs 1 = _ := hv 1 (by omega)
      have v2 : vs 2 = _ := hv 2 (by omega)
      have v3 : vs 3 = _ := hv 3 (by omega)
      have v4 : vs 4 = _ := hv 4 (by omega)
      have v5 : vs 5 = _ := hv 5 (by omega)
      have v6 : vs 6 = _ := hv 6 (by omega)
      have v7 : vs 7 = _ := hv 7 (by omega)
      have v8 : vs 8 = _ := hv 8 (by omega)
      have v9 : vs 9 = _ := hv 9 (by omega)
      have v10 : vs 10 = _ := hv 10 (by omega)
      have v11 : vs 11 = _ := hv 11 (by omega)
      have v12 : vs 12 = _ := hv 12 (by omega)
      have v13 : vs 13 = _ := hv 13 (by omega)
      have v14 : vs 14 = _ := hv 14 (by omega)
      have v15 : vs 15 = _ := hv 15 (by omega)
      have v16 : vs 16 = _ := hv 16 (by omega)
      have v17 : vs 17 = _ := hv 17 (by omega)
      have v18 : vs 18 = _ := hv 18 (by omega)
      have v19 : vs 19 = _ := hv 19 (by omega)
      have v20 : vs 20 = _ := hv 20 (by omega)
      have v21 : vs 21 = _ := hv 21 (by omega)
      have v22 : vs 22 = _ := hv 22 (by omega)
      have v23 : vs 23 = _ := hv 23 (by omega)
      have v24 : vs 24 = _ := hv 24 (by omega)
      have v25 : vs 25 = _ := hv 25 (by omega)
      have v26 : vs 26 = _ := hv 26 (by omega)
      have v27 : vs 27 = _ := hv 27 (by omega)
      have v28 : vs 28 = _ := hv 28 (by omega)
      have v29 : vs 29 = _ := hv 29 (by omega)
      clear hv
      simp only [Kit.putD, List.getD_cons_zero, List.getD_cons_succ, Act.put, v0, v1, v2, v3, v4, v5, v6, v7, v8, v9, v10, v11, v12, v13, v14, v15, v16, v17, v18, v19, v20, v21, v22, v23, v24, v25, v26, v27, v28, v29, List.drop_succ_cons, List.drop_zero]
      go_simp
      have P := H.out.step hx1
      have ck := P.ck
      obtain ⟨D1, hD1, ht1, hm1, hv1⟩ := P.memo
      have HX := Lib.hid hx1
      have HV1 := Lib.hid hv1
      have HT1 := Lib.hid ht1
      have HM1 := Lib.hid hm1
      have hsz : Maps.size D1 < maxLen := by unfold maxLen; omega
      have hRw : Kit.wfI R := by
        simp only [Kit.wfI, Lit.wf, Bool.and_eq_true, decide_eq_true_eq]
        have h1 : IntKind.min .i64 = -9223372036854775808 := by decide
        have h2 : IntKind.max .i64 = 9223372036854775807 := by decide
        have hR := HRR.out
        unfold Id.mn at hR
        omega
      clear hx1 hv1 ht1 hm1 P v0 v1 v2 v3 v4 v5 v6 v7 v8 v9 v10 v11 v12 v13 v14 v15 v16 v17 v18 v19 v20 v21 v22 v23 v24 v25 v26 v27 v28 v29
      go_wp2_with (at_mapUpdate; refine Kit.hold ?_; intro X HX)
      rw [HX.out]; clear HX X
      refine wpList_mapUpdate_own _ rfl _ _ _ 89 rfl 92 3 Id.lawK Try.underlying89 (plainElem Try.prog 3) B _ D1 rfl hD1 hsz _ _ _ rfl rfl (Id.keyK (Id.wfS (by omega)) (Id.wfS (by omega))) (.lit (.int .i64 R)) [] (plainElem_int Try.underlying3 hRw) ?_
      intro w2 hown2 hgrow2
      have HO2 := Lib.hid hown2
      have HG2 := Lib.hid hgrow2
      clear hown2 hgrow2
      go_wp2
      go_ret
      exact ⟨by rw [HR2.out]; rfl, HX.out.1.grown HG2.out (fun q hq => .inl (by simpa using hq.symm)), fun _ => Id.Memo.put (i := i) (k := k) HT1.out HM1.out (by omega) (by omega) HV1.out (by rw [HR2.out]; exact HO2.out)⟩
  · have hcv := HV.out i k (by omega) (by omega) e
    go_enter Try.func52, Try.ntmps52
    go_wp2_with (at_lookup; refine wpList_lookup_own_ok_int _ rfl _ _ 89 rfl 92 3 .i64 Id.lawK Try.underlying89 Try.underlying3 (by kernel_rfl) B _ D rfl hD _ _ rfl (Id.keyK (Id.wfS (by omega)) (Id.wfS (by omega))) ?_; intro c hat hwc; rw [e])
    go_ret
    refine ⟨?_, Id.LE.refl _ _ _ _⟩
    rw [hcv] at hat
    simp at hat
    rw [hat]
    rfl
theorem co_least (a b : List Int) (Ba Bb Bk Bl B : Nat) (aA : Option Addr) (cA : Nat) (aB : Option Addr) (cB : Nat) (la : a.length ≤ 64) (lb : b.length ≤ 64) : ∀ (m i k : Nat) (w : World), i ≤ a.length → k ≤ b.length → (a.length - i) + (b.length - k) ≤ m → Id.PSt a b Ba Bb Bk Bl B aA cA aB cB w → Id.Lst a b Ba Bb Bk Bl B i k w := by
  intro m
  induction m with
  | zero =>
    intro i k w hi hk hm h
    obtain rfl : i = a.length := by omega
    exact co_least_a a b Ba Bb Bk Bl B k aA cA aB cB w h la lb hk
  | succ m ih =>
    intro i k w hi hk hm h
    rcases Nat.eq_or_lt_of_le hi with rfl | hi'
    · exact co_least_a a b Ba Bb Bk Bl B k aA cA aB cB w h la lb hk
    rcases Nat.eq_or_lt_of_le hk with rfl | hk'
    · exact co_least_b a b Ba Bb Bk Bl B i aA cA aB cB w h la lb hi'
    exact co_least_c a b Ba Bb Bk Bl B i k aA cA aB cB w h la lb hi' hk' fun i' k' w' h1 h2 h3 h4 => ih i' k' w' h1 h2 (by omega) h4
end Go.Proofs.Ytdaedjmkolcliaa
