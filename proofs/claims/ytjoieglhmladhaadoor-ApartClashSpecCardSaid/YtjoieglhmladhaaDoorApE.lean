/- Walks: package apart: Path. -/
import Derived.Test.YtjoieglhmladhaaDoorApD
import Derived.Maps.AppendAt
import Derived.Test.YtjoieglhmladhaaDoorKit
namespace Go.Proofs.YtjoieglhmladhaaDoor
set_option linter.unusedVariables false
set_option linter.unusedSimpArgs false
open Go.RowKit Go.Shelf
attribute [local go_sem] Oper.semAt_some

theorem Ap.info25 : (Tryd.prog.info? 25).map (fun i => (i.zero, i.size, i.bytes)) = some (some (.agg #[.int .i64 0, .int .i64 0, .int .i64 0, .int .i64 0]), 4, 32) := by kernel_rfl
abbrev Ap.cs (x : Sp.BE) : List Value := [.int .i64 x.1, .int .i64 x.2.1, .int .i64 x.2.2.1, .int .i64 x.2.2.2.1]
def Ap.flat (l : List Sp.BE) : List Value := l.flatMap Ap.cs
theorem Ap.flat_snoc (l : List Sp.BE) (x : Sp.BE) : Ap.flat (l ++ [x]) = Ap.flat l ++ Ap.cs x := by simp [Ap.flat]

/-- The results' boxes. -/
structure Ap.Res (W : World) (B4 B5 : Nat) (e : Int) : Prop where
  c0 : W.cell? ⟨B4, 0, none⟩ = some (.int .i64 0)
  c1 : W.cell? ⟨B4, 1, none⟩ = some (.int .i64 0)
  c2 : W.cell? ⟨B4, 2, none⟩ = some (.int .i64 0)
  c3 : W.cell? ⟨B4, 3, none⟩ = some (.int .i64 0)
  f0 : W.frozen? ⟨B4, 0, none⟩ = false
  f1 : W.frozen? ⟨B4, 1, none⟩ = false
  f2 : W.frozen? ⟨B4, 2, none⟩ = false
  f3 : W.frozen? ⟨B4, 3, none⟩ = false
  d : W.cell? ⟨B5, 0, none⟩ = some (.int .i64 e)
  fd : W.frozen? ⟨B5, 0, none⟩ = false
  l4 : B4 < W.heap.size
  l5 : B5 < W.heap.size
theorem Ap.Res.exc {A B : World} {B4 B5 : Nat} {e : Int} {S : Nat → Prop} (h : Ap.Res A B4 B5 e) (hx : Kit.Exc S A B) (h4 : ¬ S B4) (h5 : ¬ S B5) : Ap.Res B B4 B5 e :=
  ⟨hx.cell h.c0 h4 h.l4, hx.cell h.c1 h4 h.l4, hx.cell h.c2 h4 h.l4, hx.cell h.c3 h4 h.l4, hx.frozen h.f0 h4 h.l4, hx.frozen h.f1 h4 h.l4, hx.frozen h.f2 h4 h.l4, hx.frozen h.f3 h4 h.l4, hx.cell h.d h5 h.l5, hx.frozen h.fd h5 h.l5,
    Nat.lt_of_lt_of_le h.l4 hx.size, Nat.lt_of_lt_of_le h.l5 hx.size⟩
theorem Ap.Res.stored {W : World} {B4 B5 : Nat} {x e : Int} (h : Ap.Res W B4 B5 x) (hne : B4 ≠ B5) :
    Ap.Res (((((W.setCell ⟨B4, 0, none⟩ (.int .i64 0)).setCell ⟨B4, 1, none⟩ (.int .i64 0)).setCell ⟨B4, 2, none⟩ (.int .i64 0)).setCell ⟨B4, 3, none⟩ (.int .i64 0)).setCell ⟨B5, 0, none⟩ (.int .i64 e)) B4 B5 e := by
  obtain ⟨c0, c1, c2, c3, f0, f1, f2, f3, d, fd, l4, l5⟩ := h
  have hne' : B5 ≠ B4 := Ne.symm hne
  refine ⟨?_, ?_, ?_, ?_, ?_, ?_, ?_, ?_, ?_, ?_, ?_, ?_⟩
  · simp [Kit.cell_set, c0, hne, hne']
  · simp [Kit.cell_set, c1, hne, hne']
  · simp [Kit.cell_set, c2, hne, hne']
  · simp [Kit.cell_set, c3, hne, hne']
  · simp [World.frozen?_setCell, f0]
  · simp [World.frozen?_setCell, f1]
  · simp [World.frozen?_setCell, f2]
  · simp [World.frozen?_setCell, f3]
  · simp [Kit.cell_set, d, hne, hne']
  · simp [World.frozen?_setCell, fd]
  · simpa [World.setCell] using l4
  · simpa [World.setCell] using l5
/-- Between two rounds: s: where the loop began; B4, B5: the results' boxes; B6: the slice's. -/
def Ap.I (w : World) (s B4 B5 B6 : Nat) (pre : List Sp.BE) (Y : Nat → Prop) (W : World) : Prop :=
  ∃ v, Boxed W B6 57 v ∧ W.ownsRow (s + 2) 25 4 v pre.length (Ap.flat pre) ∧ (∀ k, Y k ↔ (k = B4 ∨ k = B5 ∨ k = B6 ∨ v.ownBlock = some k)) ∧
    Ap.Res W B4 B5 0 ∧ (∀ x ∈ pre, x.2.2.2.2 = 0) ∧ Below w.heap.size w W
/-- Where a round has returned. -/
def Ap.Ix (w : World) (s B4 B5 B6 : Nat) (c : Code) (pre : List Sp.BE) (Y : Nat → Prop) (W : World) : Prop :=
  c = .ret ∧ Ap.Res W B4 B5 2 ∧ Y B4 ∧ Y B5 ∧ (∀ k, Y k → k = B4 ∨ k = B5 ∨ k = B6 ∨ s + 2 ≤ k) ∧ (∃ x ∈ pre, x.2.2.2.2 ≠ 0) ∧ Below w.heap.size w W
theorem Ap.I.keep {w : World} {s B4 B5 B6 : Nat} {pre : List Sp.BE} {Y : Nat → Prop} {A B : World} {S : Nat → Prop} (h : Ap.I w s B4 B5 B6 pre Y A) (hx : Kit.Exc S A B) (hS : ∀ k, Y k → ¬ S k) (hw : ∀ k, S k → w.heap.size ≤ k) : Ap.I w s B4 B5 B6 pre Y B := by
  obtain ⟨v, h1, h2, h3, h4, h5, h6⟩ := h
  refine ⟨v, hx.boxed h1 (hS _ ((h3 _).2 (.inr (.inr (.inl rfl))))), ?_, h3, h4.exc hx (hS _ ((h3 _).2 (.inl rfl))) (hS _ ((h3 _).2 (.inr (.inl rfl)))), h5, h6.trans (hx.below h6.size hw)⟩
  obtain ⟨hlen, hv⟩ := h2
  refine ⟨hlen, ?_⟩
  rcases hv with hv | ⟨g, cap, cur, rfl, hg, hh, r⟩
  · exact .inl hv
  · exact .inr ⟨g, cap, cur, rfl, hg, (hx.block g (Array.getElem?_eq_some_iff.1 hh).1 (hS _ ((h3 _).2 (.inr (.inr (.inr rfl)))))).trans hh, r⟩
theorem Ap.Ix.keep {w : World} {s B4 B5 B6 : Nat} {c : Code} {pre : List Sp.BE} {Y : Nat → Prop} {A B : World} {S : Nat → Prop} (h : Ap.Ix w s B4 B5 B6 c pre Y A) (hx : Kit.Exc S A B) (hS : ∀ k, Y k → ¬ S k) (hw : ∀ k, S k → w.heap.size ≤ k) : Ap.Ix w s B4 B5 B6 c pre Y B := by
  obtain ⟨h1, h2, h3, h4, h7, h5, h6⟩ := h
  exact ⟨h1, h2.exc hx (hS _ h3) (hS _ h4), h3, h4, h7, h5, h6.trans (hx.below h6.size hw)⟩
theorem Ap.I.yr {w : World} {s B4 B5 B6 : Nat} {pre : List Sp.BE} {Y : Nat → Prop} {A : World} (h : Ap.I w s B4 B5 B6 pre Y A) {k : Nat} (hk : Y k) : k = B4 ∨ k = B5 ∨ k = B6 ∨ s + 2 ≤ k := by
  obtain ⟨v, h1, h2, h3, _⟩ := h
  rcases (h3 k).1 hk with h | h | h | h
  · exact .inl h
  · exact .inr (.inl h)
  · exact .inr (.inr (.inl h))
  · exact .inr (.inr (.inr (h2.lt k h).1))

set_option maxRecDepth 100000 in
set_option maxHeartbeats 2000000 in
theorem ap_path_3 (g : Ap.Wg) (bar : Int) (w : World) (h : Ap.okW g = true) (h2 : Tp.inb bar 0 4095 = true) (r : Sp.BE) (hr : Hid (r = Ap.pathR g bar)) : Ap.Path g bar w r := by
  unfold Ap.Path
  obtain ⟨G, hG⟩ : ∃ G : Ap.Wg, G = g := ⟨_, rfl⟩
  obtain ⟨a, b, c, d, f, l, x, y⟩ := g
  unfold Ap.okW at h
  simp only [Bool.and_eq_true] at h
  obtain ⟨⟨⟨⟨c1, c2⟩, c3⟩, c4⟩, c5⟩ := h
  have H := Lib.hid c1
  have c3' : decide (4096 ≤ l) = false := by simp at c3 ⊢; omega
  have rb := (Tp.inb_iff _ _ _).1 h2
  have rf := (Tp.inb_iff _ _ _).1 c2
  have rx := (Tp.inb_iff _ _ _).1 c4
  have ry := (Tp.inb_iff _ _ _).1 c5
  have rl : l < 4096 := by simpa using c3
  have HGG := Lib.hid hG
  clear c1 c3 hG
  refine Kit.calls_of_wp_marks Tryd.func12 rfl ?_
  simp only [Tryd.ntmps12, List.size_toArray, List.length_cons, List.length_nil, Nat.reduceAdd, Nat.reduceSub, Array.replicate_succ, Array.replicate_zero, List.push_toArray, List.append_toArray, List.nil_append, List.cons_append]
  · skip
    (go_wp2_with (fail); refine (ap_valid a b c d _).mono ?_; rintro e w1_ ⟨rfl, hb1_⟩; have hp1_ : Below w.heap.size w w1_ := Below.trans (by (repeat' first | (with_reducible first | exact Below.refl _ _ | assumption | refine Kit.below_drewN ?_ _ | refine Below.drew ?_ | refine Below.alloc ?_ ?_ _ | refine Below.setCell ?_ ?_ _ | exact Nat.le_refl _) | omega | (simp; omega) | (simp; done) | (apply Below.size; assumption))) (hb1_.mono (by first | assumption | (simp; done) | (simp; omega) | omega)); have hw1_ : Below w.heap.size w w1_ := hp1_; obtain ⟨hc1_, hf1_⟩ := Kit.bcell hb1_; have z1_w : w.heap.size < w1_.heap.size := (by have := hb1_.size; first | omega | (simp at this; omega)); obtain ⟨g1_w_0, g1_w_1, g1_w_2, g1_w_3, g1_w_4, g1_w_5, g1_w_6, g1_w_7⟩ : w1_.cell? ⟨w.heap.size, 0, none⟩ = some (.int .i64 a) ∧ w1_.cell? ⟨w.heap.size, 1, none⟩ = some (.int .i64 b) ∧ w1_.cell? ⟨w.heap.size, 2, none⟩ = some (.int .i64 c) ∧ w1_.cell? ⟨w.heap.size, 3, none⟩ = some (.int .i64 d) ∧ w1_.cell? ⟨w.heap.size, 4, none⟩ = some (.int .i64 f) ∧ w1_.cell? ⟨w.heap.size, 5, none⟩ = some (.int .i64 l) ∧ w1_.cell? ⟨w.heap.size, 6, none⟩ = some (.int .i64 x) ∧ w1_.cell? ⟨w.heap.size, 7, none⟩ = some (.int .i64 y) := (by refine ⟨?_, ?_, ?_, ?_, ?_, ?_, ?_, ?_⟩ <;> (rw [hc1_ _ _ (by first | assumption | (simp; done) | (simp; omega) | omega)]; first | assumption | (simp [go_sem]; done) | (simp [go_sem, *]; done))); have z1_w_1 : w.heap.size + 1 < w1_.heap.size := (by have := hb1_.size; first | omega | (simp at this; omega)); obtain ⟨g1_w_1_0, g1_w_1_1, g1_w_1_2, g1_w_1_3⟩ : w1_.cell? ⟨w.heap.size + 1, 0, none⟩ = some (.int .i64 0) ∧ w1_.cell? ⟨w.heap.size + 1, 1, none⟩ = some (.int .i64 0) ∧ w1_.cell? ⟨w.heap.size + 1, 2, none⟩ = some (.int .i64 0) ∧ w1_.cell? ⟨w.heap.size + 1, 3, none⟩ = some (.int .i64 0) := (by refine ⟨?_, ?_, ?_, ?_⟩ <;> (rw [hc1_ _ _ (by first | assumption | (simp; done) | (simp; omega) | omega)]; first | assumption | (simp [go_sem]; done) | (simp [go_sem, *]; done))); have f1_w_1_0 : w1_.frozen? ⟨w.heap.size + 1, 0, none⟩ = false := (by rw [hf1_ _ _ (by first | assumption | (simp; done) | (simp; omega) | omega)]; first | assumption | (simp [go_sem]; done) | (simp [go_sem, *]; done)); have f1_w_1_1 : w1_.frozen? ⟨w.heap.size + 1, 1, none⟩ = false := (by rw [hf1_ _ _ (by first | assumption | (simp; done) | (simp; omega) | omega)]; first | assumption | (simp [go_sem]; done) | (simp [go_sem, *]; done)); have f1_w_1_2 : w1_.frozen? ⟨w.heap.size + 1, 2, none⟩ = false := (by rw [hf1_ _ _ (by first | assumption | (simp; done) | (simp; omega) | omega)]; first | assumption | (simp [go_sem]; done) | (simp [go_sem, *]; done)); have f1_w_1_3 : w1_.frozen? ⟨w.heap.size + 1, 3, none⟩ = false := (by rw [hf1_ _ _ (by first | assumption | (simp; done) | (simp; omega) | omega)]; first | assumption | (simp [go_sem]; done) | (simp [go_sem, *]; done)); have z1_w_1_1 : w.heap.size + 1 + 1 < w1_.heap.size := (by have := hb1_.size; first | omega | (simp at this; omega)); have g1_w_1_1_0 : w1_.cell? ⟨w.heap.size + 1 + 1, 0, none⟩ = some (.int .i64 0) := (by rw [hc1_ _ _ (by first | assumption | (simp; done) | (simp; omega) | omega)]; first | assumption | (simp [go_sem]; done) | (simp [go_sem, *]; done)); have f1_w_1_1_0 : w1_.frozen? ⟨w.heap.size + 1 + 1, 0, none⟩ = false := (by rw [hf1_ _ _ (by first | assumption | (simp; done) | (simp; omega) | omega)]; first | assumption | (simp [go_sem]; done) | (simp [go_sem, *]; done)); clear hc1_ hf1_; clear hb1_ hp1_)
    rw [H.out]
    go_wp2_with (first | (go_at_call 36; refine (ap_in _ _ _ _).mono ?_; rintro e w' ⟨rfl, rfl⟩) | (go_at_call 37; refine (ap_places ⟨a, b, c, d, f, l, x, y⟩ bar _).mono ?_; rintro e w' ⟨rfl, rfl⟩))
    obtain ⟨W0, hW0⟩ : ∃ W0, W0 = ((w1_.alloc (Obj.cells #[Value.slice none 0 0] 57)).alloc (Obj.cells #[.int .i64 a, .int .i64 b, .int .i64 c, .int .i64 d, .int .i64 f, .int .i64 l, .int .i64 x, .int .i64 y] 27)).alloc (Obj.cells #[Value.int IntKind.i64 bar] 3) := ⟨_, rfl⟩
    rw [← hW0]
    have s0 : W0.heap.size = w1_.heap.size + 3 := by rw [hW0]; simp
    have E0 : Kit.Exc (fun _ => False) w1_ W0 := by rw [hW0]; exact (((Kit.Exc.refl _ _).alloc _).alloc _).alloc _
    have b0 : Below w.heap.size w W0 := by rw [hW0]; (repeat' first | (with_reducible first | exact Below.refl _ _ | assumption | refine Kit.below_drewN ?_ _ | refine Below.drew ?_ | refine Below.alloc ?_ ?_ _ | refine Below.setCell ?_ ?_ _ | exact Nat.le_refl _) | omega | (simp; omega) | (simp; done) | (apply Below.size; assumption))
    have b6 : Boxed W0 w1_.heap.size 57 (.slice none 0 0) := by rw [hW0]; exact ((Boxed.new w1_ _ _).alloc _).alloc _
    have bg : W0.heap[w1_.heap.size + 1]? = some (.cells #[.int .i64 a, .int .i64 b, .int .i64 c, .int .i64 d, .int .i64 f, .int .i64 l, .int .i64 x, .int .i64 y] 27 (0, 0)) := by
      rw [hW0]
      have := World.alloc_heap_new (w1_.alloc (Obj.cells #[Value.slice none 0 0] 57)) (Obj.cells #[.int .i64 a, .int .i64 b, .int .i64 c, .int .i64 d, .int .i64 f, .int .i64 l, .int .i64 x, .int .i64 y] 27)
      rw [World.size_alloc] at this
      rw [Below.heap_alloc _ _ _ (by simp)]
      exact this
    have bb : Boxed W0 (w1_.heap.size + 1 + 1) 3 (.int .i64 bar) := by
      rw [hW0]; have := Boxed.new ((w1_.alloc (Obj.cells #[Value.slice none 0 0] 57)).alloc (Obj.cells #[.int .i64 a, .int .i64 b, .int .i64 c, .int .i64 d, .int .i64 f, .int .i64 l, .int .i64 x, .int .i64 y] 27)) 3 (.int .i64 bar); simpa using this
    have res : Ap.Res W0 (w.heap.size + 1) (w.heap.size + 1 + 1) 0 :=
      Ap.Res.exc (A := w1_) ⟨g1_w_1_0, g1_w_1_1, g1_w_1_2, g1_w_1_3, f1_w_1_0, f1_w_1_1, f1_w_1_2, f1_w_1_3, g1_w_1_1_0, f1_w_1_1_0, z1_w_1, z1_w_1_1⟩ E0 (by simp) (by simp)
    have zw : w.heap.size + 1 + 1 < w1_.heap.size := z1_w_1_1
    clear hW0 E0 g1_w_1_0 g1_w_1_1 g1_w_1_2 g1_w_1_3 f1_w_1_0 f1_w_1_1 f1_w_1_2 f1_w_1_3 g1_w_1_1_0 f1_w_1_1_0
    refine Kit.wp_range' rfl (enters_of Tryd.func65 (by kernel_rfl) rfl)
      (ap_iter 2 (by omega) (w1_.heap.size + 1 + 1) (w1_.heap.size + 1) ⟨a, b, c, d, f, l, x, y⟩ bar rf.1 rf.2 rl rx.1 rx.2 ry.1 ry.2 rb.1 rb.2 W0 bb bg) (fun _ => rfl)
      (Ap.I w W0.heap.size (w.heap.size + 1) (w.heap.size + 1 + 1) w1_.heap.size) (Ap.Ix w W0.heap.size (w.heap.size + 1) (w.heap.size + 1 + 1) w1_.heap.size)
      (fun pre e a' Y W => Ap.I w W0.heap.size (w.heap.size + 1) (w.heap.size + 1 + 1) w1_.heap.size pre Y W ∧ ∃ b7, W0.heap.size + 2 ≤ b7 ∧ W.heap[b7]? = some (.cells #[.int .i64 e.1, .int .i64 e.2.1, .int .i64 e.2.2.1, .int .i64 e.2.2.2.1] 25 (0, 0)) ∧ ¬ Y b7 ∧
        a' = { tmps := #[Ap.wgV { a := a, b := b, c := c, d := d, f := f, l := l, x := x, y := y }, .int .i64 bar, .pointer (some ⟨w.heap.size, 0, none⟩), undef, .pointer (some ⟨w.heap.size + 1, 0, none⟩), .pointer (some ⟨w.heap.size + 1 + 1, 0, none⟩), .pointer (some ⟨w1_.heap.size, 0, none⟩), .pointer (some ⟨b7, 0, none⟩), .int .i64 e.2.2.2.2, .pointer (some ⟨w.heap.size, 0, none⟩), .agg #[.int .i64 a, .int .i64 b, .int .i64 c, .int .i64 d], .bool true, .bool false, .bool false, .pointer (some ⟨w.heap.size, 4, none⟩), .int .i64 f, .pointer (some ⟨w.heap.size, 5, none⟩), .int .i64 l, .bool true, .bool false, .bool false, .bool false, .pointer (some ⟨w.heap.size, 5, none⟩), .int .i64 l, .bool false, .bool false, .bool false, .pointer (some ⟨w.heap.size, 6, none⟩), .int .i64 x, .bool true, .bool false, .bool false, .bool false, .pointer (some ⟨w.heap.size, 7, none⟩), .int .i64 y, .bool true, .bool false, .bool false, undef, .int .i64 bar, .bool true, .bool false, undef, .agg #[.int .i64 a, .int .i64 b, .int .i64 c, .int .i64 d, .int .i64 f, .int .i64 l, .int .i64 x, .int .i64 y], .int .i64 bar, .func (.func 65) #[] #[.pointer (some ⟨w1_.heap.size + 1 + 1, 0, none⟩), .pointer (some ⟨w1_.heap.size + 1, 0, none⟩)], Sp.boxV e.1 e.2.1 e.2.2.1 e.2.2.2.1, .int .i64 e.2.2.2.2, undef, undef, undef, undef, undef, undef, undef, undef, undef, undef, undef, undef, undef, undef, undef, undef], defers := [] })
      (fun k => k = w.heap.size + 1 ∨ k = w.heap.size + 1 + 1 ∨ k = w1_.heap.size)
      (fun k hk => by rcases hk with rfl | rfl <;> omega) (fun k hk => by omega)
      (fun pre Y A B h hx => h.keep hx (fun k hk hS => by
        have := h.yr hk
        rcases hS with hS | hS
        · omega
        · exact hS.2 hk) (fun k hk => by omega))
      (fun cc pre Y A B h hx => h.keep hx (fun k hk hS => by
        have := h.2.2.2.2.1 k hk
        rcases hS with hS | hS
        · omega
        · exact hS.2 hk) (fun k hk => by omega))
      (fun pre e a' Y A B h hx => ⟨h.1.keep hx (fun k hk hS => by have := h.1.yr hk; omega) (fun k hk => by omega), by
        obtain ⟨b7, h7, hh, hn, e7⟩ := h.2
        exact ⟨b7, h7, hx.heap hh (by omega), hn, e7⟩⟩)
      ⟨.slice none 0 0, b6, World.ownsRow_nil _ _ _ _, fun k => by simp [Value.ownBlock], res, by simp, b0⟩ ?assign ?body ?done ?stop
    case assign =>
      intro l' pre e Y W hI hok hY hs
      have HI := Lib.hid hI
      have HY := Lib.hid hY
      clear hI hY hok
      gi_wp2
      exact ⟨Y, (Kit.Exc.refl _ _).alloc _, fun k hk => ⟨.inl hk, by have := HY.out k hk; simp; omega⟩, HI.out.keep ((Kit.Exc.refl (fun _ => False) W).alloc _) (fun _ _ h => h) (fun _ h => h.elim),
        W.heap.size, hs, World.alloc_heap_new W _, fun h => by have := HY.out _ h; omega, rfl⟩
    case body =>
      rintro l' pre e a' Y W hl' hrec ⟨hI, b7, hb7, hc7, hn7, rfl⟩ hok hY
      obtain ⟨v, h1, h2', h3, h4, h5, h6⟩ := hI
      have HOK := Lib.hid hok
      have H1 := Lib.hid h1
      have H2 := Lib.hid h2'
      have H3 := Lib.hid h3
      have H5 := Lib.hid h5
      have H6 := Lib.hid h6
      have HY := Lib.hid hY
      have H7 := Lib.hid hc7
      have H8 := Lib.hid hn7
      have v0 := h1.cell
      have vf := h1.frozen
      have e0 : W.cell? ⟨b7, 0, none⟩ = some (.int .i64 e.1) := by simp [World.cell?, hc7]
      have e1 : W.cell? ⟨b7, 1, none⟩ = some (.int .i64 e.2.1) := by simp [World.cell?, hc7]
      have e2 : W.cell? ⟨b7, 2, none⟩ = some (.int .i64 e.2.2.1) := by simp [World.cell?, hc7]
      have e3 : W.cell? ⟨b7, 3, none⟩ = some (.int .i64 e.2.2.2.1) := by simp [World.cell?, hc7]
      have RES := Lib.hid h4
      obtain ⟨y0, y1, y2, y3, p0, p1, p2, p3, yd, pd, l4, l5⟩ := h4
      clear h1 h2' h3 h5 h6 hY hc7 hn7 hok
      have hcell : ∀ j u, (Ap.cs e)[j]? = some u → (W.alloc (.cells #[.int .i64 e.1, .int .i64 e.2.1, .int .i64 e.2.2.1, .int .i64 e.2.2.2.1] 25)).cell? ((⟨W.heap.size, 0, none⟩ : Addr).add j) = some u := by
        intro j u hu
        rcases j with _ | _ | _ | _ | j <;> simp [Ap.cs] at hu <;> subst hu <;> simp [Addr.add, go_sem]
      have HCELL := Lib.hid hcell; clear hcell
      have hsz7 : W0.heap.size + 2 ≤ W.heap.size := by have := (Array.getElem?_eq_some_iff.1 H7.out).1; omega
      have hplen : pre.length < 2 := HOK.out.1
      have S0 := Lib.hid s0; clear s0
      obtain ⟨i0, hi, hz0, hz1, hz2⟩ := info_parts Ap.info25
      rcases d0 : (e.2.2.2.2 != 0) with _ | _
      · gi_wp2_with (gi_at_builtin; refine Kit.wpListIn_append_own' _ rfl _ _ 57 rfl (W0.heap.size + 2) 25 i0 (.agg #[.int .i64 0, .int .i64 0, .int .i64 0, .int .i64 0]) 4 32 Tryd.underlying57 hi hz0 hz1 hz2 rfl (by decide) v _ _ rfl (H2.out.alloc _) ⟨W.heap.size, 0, none⟩ 1 1 (Ap.cs e) rfl rfl HCELL.out (by simp [Value.oneCell']) (by unfold maxLen; omega) (by omega) (by simp; omega) ?_; intro v' w1 hown' hgrow _ hwhere; obtain ⟨g', cap', rfl⟩ := ownsRow_succ hown'; have hv1 := (H1.out.alloc _).kept hgrow (H1.out.not_row (by decide) H2.out); have hc1 := hv1.cell; have hf1 := hv1.frozen; have HV1 := Lib.hid hv1; have HGROW := Lib.hid hgrow; have HWH := Lib.hid hwhere; have HOWN := Lib.hid hown'; clear hv1 hgrow hwhere hown')
        have e0' : e.2.2.2.2 = 0 := by simpa using d0
        have hz6 : w1_.heap.size < W0.heap.size := by rw [S0.out]; omega
        have X1 : Kit.Exc Y W (w1.setCell ⟨w1_.heap.size, 0, none⟩ (.slice (some ⟨g', 0, none⟩) (pre.length + 1) cap')) :=
          ((((Kit.Exc.refl Y W).alloc _).grown HGROW.out (fun k hk => .inl ((H3.out k).2 (.inr (.inr (.inr hk)))))).setCell (p := ⟨w1_.heap.size, 0, none⟩) (.inl ((H3.out _).2 (.inr (.inr (.inl rfl))))) _)
        have X2 := Lib.hid (show Kit.Exc (fun k => k = w1_.heap.size ∨ v.ownBlock = some k) W (w1.setCell ⟨w1_.heap.size, 0, none⟩ (.slice (some ⟨g', 0, none⟩) (pre.length + 1) cap')) from
          ((((Kit.Exc.refl _ W).alloc _).grown HGROW.out (fun k hk => .inl (.inr hk))).setCell (p := ⟨w1_.heap.size, 0, none⟩) (.inl (.inl rfl)) _))
        have hown2 := HOWN.out.kept (grownBy_setCell' w1 w1_.heap.size (.slice (some ⟨g', 0, none⟩) (pre.length + 1) cap')) (.inr (HV1.out.not_row (by decide) HOWN.out).symm)
        have hg' : W0.heap.size + 2 ≤ g' ∧ g' < w1.heap.size := HOWN.out.lt g' rfl
        refine ⟨fun k => k = w.heap.size + 1 ∨ k = w.heap.size + 1 + 1 ∨ k = w1_.heap.size ∨ k = g', X1, fun k hk => ?_, .slice (some ⟨g', 0, none⟩) (pre.length + 1) cap', HV1.out.set _, ?_, fun k => ?_, ?_, ?_, ?_⟩
        · have hsz1 : W.heap.size ≤ w1.heap.size := by have := HGROW.out.size; simp at this; omega
          have hsz2 : (w1.setCell ⟨w1_.heap.size, 0, none⟩ (.slice (some ⟨g', 0, none⟩) (pre.length + 1) cap')).heap.size = w1.heap.size := by simp [World.setCell]
          rw [hsz2]
          rcases hk with rfl | rfl | rfl | rfl
          · exact ⟨.inl ((H3.out _).2 (.inl rfl)), by omega⟩
          · exact ⟨.inl ((H3.out _).2 (.inr (.inl rfl))), by omega⟩
          · exact ⟨.inl ((H3.out _).2 (.inr (.inr (.inl rfl)))), by omega⟩
          · refine ⟨?_, hg'.2⟩
            rcases HWH.out k rfl with h | h
            · exact .inl ((H3.out _).2 (.inr (.inr (.inr h))))
            · exact .inr (by simp at h; omega)
        · rw [Ap.flat_snoc, List.length_append]; exact hown2
        · simp [Value.ownBlock, eq_comm]
        · exact RES.out.exc X2.out (fun h => h.elim (fun h => by omega) (fun h => by have := (H2.out.lt _ h).1; omega)) (fun h => h.elim (fun h => by omega) (fun h => by have := (H2.out.lt _ h).1; omega))
        · intro z hz
          rcases List.mem_append.1 hz with h | h
          · exact H5.out z h
          · simp at h; subst h; exact e0'
        · exact H6.out.trans (X2.out.below H6.out.size (fun k hk => hk.elim (fun h => by omega) (fun h => by have := (H2.out.lt _ h).1; have := b0.size; omega)))
      · have ne : e.2.2.2.2 ≠ 0 := by simpa using d0
        have NE := Lib.hid ne
        clear ne e0 e1 e2 e3
        gi_wp2
        have XE : ∀ S : Nat → Prop, S (w.heap.size + 1) → S (w.heap.size + 1 + 1) → Kit.Exc S W (((((W.setCell ⟨w.heap.size + 1, 0, none⟩ (.int .i64 0)).setCell ⟨w.heap.size + 1, 1, none⟩ (.int .i64 0)).setCell ⟨w.heap.size + 1, 2, none⟩ (.int .i64 0)).setCell ⟨w.heap.size + 1, 3, none⟩ (.int .i64 0)).setCell ⟨w.heap.size + 1 + 1, 0, none⟩ (.int .i64 2)) := fun S h4 h5 =>
          (((((Kit.Exc.refl S W).setCell (p := ⟨w.heap.size + 1, 0, none⟩) (.inl h4) _).setCell (p := ⟨w.heap.size + 1, 1, none⟩) (.inl h4) _).setCell (p := ⟨w.heap.size + 1, 2, none⟩) (.inl h4) _).setCell (p := ⟨w.heap.size + 1, 3, none⟩) (.inl h4) _).setCell (p := ⟨w.heap.size + 1 + 1, 0, none⟩) (.inl h5) _
        have hy4 : Y (w.heap.size + 1) := (H3.out _).2 (.inl rfl)
        have hy5 : Y (w.heap.size + 1 + 1) := (H3.out _).2 (.inr (.inl rfl))
        refine ⟨Y, XE Y hy4 hy5, fun k hk => ⟨.inl hk, Nat.lt_of_lt_of_le (HY.out k hk).1 (XE Y hy4 hy5).size⟩, rfl, RES.out.stored (by omega), hy4, hy5, fun k hk => ?_, ⟨e, by simp, NE.out⟩, ?_⟩
        · rcases (H3.out k).1 hk with h | h | h | h
          · exact .inl h
          · exact .inr (.inl h)
          · exact .inr (.inr (.inl h))
          · exact .inr (.inr (.inr (H2.out.lt k h).1))
        · exact H6.out.trans ((XE (fun k => k = w.heap.size + 1 ∨ k = w.heap.size + 1 + 1) (.inl rfl) (.inr rfl)).below H6.out.size (fun k hk => by omega))
    case stop =>
      rintro D cc pre Y W hD hYD hSp ⟨rfl, RES, hy4, hy5, hyr, hex, hB⟩ hK
      have hrr : r = (0, 0, 0, 0, 2) := by
        rw [hr.out]
        unfold Ap.pathR
        rw [if_pos (by rw [Ap.okW]; simp [H.out, c2, c4, c5, rl]), if_pos h2, if_neg]
        rintro ⟨z1, z2⟩
        obtain ⟨z, hz, hz2⟩ := hex
        rcases hSp with rfl | rfl
        · simp at hz; subst hz; exact hz2 z1
        · simp at hz; rcases hz with rfl | rfl
          · exact hz2 z1
          · exact hz2 z2
      have d4 : D ≠ w.heap.size + 1 := fun h => hYD (h ▸ hy4)
      have d5 : D ≠ w.heap.size + 1 + 1 := fun h => hYD (h ▸ hy5)
      have XP : Kit.Exc (fun k => k = D) W (W.putObj D (.deferred none)) := (Kit.Exc.refl _ W).putObj _ _ (.inl rfl)
      have RP := RES.exc XP (Ne.symm d4) (Ne.symm d5)
      go_wp2
      exact Kit.post_mark hK (by simp [results, Tryd.results12, go_sem, RP.c0, RP.c1, RP.c2, RP.c3, RP.d]; try rfl) ⟨by rw [hrr], Kit.below_putObj hB _ _ (by have := b0.size; omega)⟩
    case done =>
      rintro D xs Y W hD hYD rfl ⟨v, h1, h2', h3, RES, h5, hB⟩ hK
      have hP0 := h5 _ (List.mem_cons_self ..)
      have hP1 := h5 _ (List.mem_cons_of_mem _ (List.mem_cons_self ..))
      have hrr : r = Sp.joR (Ap.at_ ⟨a, b, c, d, f, l, x, y⟩ bar).1 (Ap.at_ ⟨a, b, c, d, f, l, x, y⟩ bar).2.1 (Ap.at_ ⟨a, b, c, d, f, l, x, y⟩ bar).2.2.1 (Ap.at_ ⟨a, b, c, d, f, l, x, y⟩ bar).2.2.2.1 (Ap.at_ ⟨a, b, c, d, f, l, x, y⟩ (bar + 1)).1 (Ap.at_ ⟨a, b, c, d, f, l, x, y⟩ (bar + 1)).2.1 (Ap.at_ ⟨a, b, c, d, f, l, x, y⟩ (bar + 1)).2.2.1 (Ap.at_ ⟨a, b, c, d, f, l, x, y⟩ (bar + 1)).2.2.2.1 := by
        rw [hr.out]
        unfold Ap.pathR
        rw [if_pos (by rw [Ap.okW]; simp [H.out, c2, c4, c5, rl]), if_pos h2, if_pos ⟨hP0, hP1⟩]
      have hJ := fun W => sp_join (Ap.at_ ⟨a, b, c, d, f, l, x, y⟩ bar).1 (Ap.at_ ⟨a, b, c, d, f, l, x, y⟩ bar).2.1 (Ap.at_ ⟨a, b, c, d, f, l, x, y⟩ bar).2.2.1 (Ap.at_ ⟨a, b, c, d, f, l, x, y⟩ bar).2.2.2.1 (Ap.at_ ⟨a, b, c, d, f, l, x, y⟩ (bar + 1)).1 (Ap.at_ ⟨a, b, c, d, f, l, x, y⟩ (bar + 1)).2.1 (Ap.at_ ⟨a, b, c, d, f, l, x, y⟩ (bar + 1)).2.2.1 (Ap.at_ ⟨a, b, c, d, f, l, x, y⟩ (bar + 1)).2.2.2.1 W
      rw [← hrr] at hJ
      clear hrr hr hP0 hP1 h5
      generalize Ap.at_ ⟨a, b, c, d, f, l, x, y⟩ bar = P0 at *
      generalize Ap.at_ ⟨a, b, c, d, f, l, x, y⟩ (bar + 1) = P1 at *
      obtain ⟨p1, p2, p3, p4, p5⟩ := P0
      obtain ⟨q1, q2, q3, q4, q5⟩ := P1
      obtain ⟨r1, r2, r3, r4, r5⟩ := r
      dsimp only at hJ
      have HJ := Lib.hid hJ
      simp only [Ap.flat, Ap.cs, List.flatMap_cons, List.flatMap_nil, List.length_cons, List.length_nil, Nat.zero_add, List.append_nil, List.cons_append, List.nil_append] at h2'
      obtain ⟨g', cap', rfl⟩ := ownsRow_succ (k := 1) h2'
      have hgl := h2'.lt g' rfl
      have kx6 : ∀ z : Kit.Wd W, z.val.cell? ⟨w1_.heap.size, 0, none⟩ = some (.slice (some ⟨g', 0, none⟩) 2 cap') := fun z => z.cell h1.cell h1.lt
      have kg : ∀ (z : Kit.Wd W) (j : Nat) (u : Value), j < 8 → [Value.int .i64 p1, .int .i64 p2, .int .i64 p3, .int .i64 p4, .int .i64 q1, .int .i64 q2, .int .i64 q3, .int .i64 q4][j]? = some u → z.val.cell? ⟨g', j, none⟩ = some u := fun z j u hj hu =>
        z.cell ((h2'.cellAt j (by omega)).trans hu) hgl.2
      have kg0 := fun z => kg z 0 _ (by omega) rfl
      have kg1 := fun z => kg z 1 _ (by omega) rfl
      have kg2 := fun z => kg z 2 _ (by omega) rfl
      have kg3 := fun z => kg z 3 _ (by omega) rfl
      have kg4 := fun z => kg z 4 _ (by omega) rfl
      have kg5 := fun z => kg z 5 _ (by omega) rfl
      have kg6 := fun z => kg z 6 _ (by omega) rfl
      have kg7 := fun z => kg z 7 _ (by omega) rfl
      have RESX := Lib.hid RES
      have HB := Lib.hid hB
      have HK := Lib.hid hK
      have H3 := Lib.hid h3
      clear kg h1 h2' h3 RES hB hK hJ
      go_wp2
      (refine Kit.wp_region_cls_tail 9 (by kernel_rfl) (by kernel_rfl) ?_; simp only [List.take_succ_cons, List.take_zero, List.drop_succ_cons, List.drop_zero]; (repeat (go_big_quiet_step (exact Kit.calls_cls _ (HJ.out _ : Sp.JoinIs _ _ _ _ _ _ _ _ _ _ _ _ _ _)))); refine wpQuiet_nil ?_; intro z)
      have RZ := RESX.out.exc (Kit.Exc.of_below (S := fun k => W.heap.size ≤ k) z.below (fun k h _ => h)) (by have := RESX.out.l4; omega) (by have := RESX.out.l5; omega)
      have zD : D < W.heap.size := (Array.getElem?_eq_some_iff.1 HK.out).1
      have hKz : z.val.heap[D]? = some (.deferred (some [])) := (z.below.block D zD).trans HK.out
      have hBz : Below w.heap.size w z.val := HB.out.trans (z.below.mono HB.out.size)
      have d4 : D ≠ w.heap.size + 1 := fun h => hYD ((H3.out _).2 (.inl h))
      have d5 : D ≠ w.heap.size + 1 + 1 := fun h => hYD ((H3.out _).2 (.inr (.inl h)))
      obtain ⟨y0, y1, y2, y3, p0, p1', p2', p3', yd, pd, l4, l5⟩ := RZ
      generalize z.val = Z at *
      have HKZ := Lib.hid hKz
      have HBZ := Lib.hid hBz
      clear hKz hBz kx6 kg0 kg1 kg2 kg3 kg4 kg5 kg6 kg7
      go_wp2
      have hf : ∃ Wf, Wf = (((((Z.setCell ⟨w.heap.size + 1, 0, none⟩ (.int .i64 r1)).setCell ⟨w.heap.size + 1, 1, none⟩ (.int .i64 r2)).setCell ⟨w.heap.size + 1, 2, none⟩ (.int .i64 r3)).setCell ⟨w.heap.size + 1, 3, none⟩ (.int .i64 r4)).setCell ⟨w.heap.size + 1 + 1, 0, none⟩ (.int .i64 r5)) := ⟨_, rfl⟩
      obtain ⟨Wf, hWf⟩ := hf
      rw [← hWf]
      have f0 : Wf.cell? ⟨w.heap.size + 1, 0, none⟩ = some (.int .i64 r1) := by rw [hWf]; simp [Kit.cell_set, y0]
      have f1 : Wf.cell? ⟨w.heap.size + 1, 1, none⟩ = some (.int .i64 r2) := by rw [hWf]; simp [Kit.cell_set, y1]
      have f2 : Wf.cell? ⟨w.heap.size + 1, 2, none⟩ = some (.int .i64 r3) := by rw [hWf]; simp [Kit.cell_set, y2]
      have f3 : Wf.cell? ⟨w.heap.size + 1, 3, none⟩ = some (.int .i64 r4) := by rw [hWf]; simp [Kit.cell_set, y3]
      have f4 : Wf.cell? ⟨w.heap.size + 1 + 1, 0, none⟩ = some (.int .i64 r5) := by rw [hWf]; simp [Kit.cell_set, yd]
      have hKf : Wf.heap[D]? = some (.deferred (some [])) := by
        rw [hWf]
        exact Kit.mark_other (Kit.mark_other (Kit.mark_other (Kit.mark_other (Kit.mark_other HKZ.out _ _ (Ne.symm d4)) _ _ (Ne.symm d4)) _ _ (Ne.symm d4)) _ _ (Ne.symm d4)) _ _ (Ne.symm d5)
      have hBf : Below w.heap.size w Wf := by
        rw [hWf]
        exact ((((HBZ.out.setCell (by simp) _).setCell (by simp) _).setCell (by simp) _).setCell (by simp) _).setCell (by simp; omega) _
      have hlf : w.heap.size + 1 + 1 < Wf.heap.size := by rw [hWf]; simpa [World.setCell] using l5
      have XP : Kit.Exc (fun k => k = D) Wf (Wf.putObj D (.deferred none)) := (Kit.Exc.refl _ Wf).putObj _ _ (.inl rfl)
      have e0 := XP.cell f0 (fun h => d4 h.symm) (by simp; omega)
      have e1 := XP.cell f1 (fun h => d4 h.symm) (by simp; omega)
      have e2 := XP.cell f2 (fun h => d4 h.symm) (by simp; omega)
      have e3 := XP.cell f3 (fun h => d4 h.symm) (by simp; omega)
      have e4 := XP.cell f4 (fun h => d5 h.symm) (by simp; omega)
      exact Kit.post_mark hKf (by simp [results, Tryd.results12, go_sem, e0, e1, e2, e3, e4]; try rfl) ⟨rfl, Kit.below_putObj hBf _ _ (by have := b0.size; omega)⟩

theorem ap_path (g : Ap.Wg) (bar : Int) (w : World) : Ap.Path g bar w (Ap.pathR g bar) := by
  rcases h : Ap.okW g with _ | _
  · have e : Ap.pathR g bar = (0, 0, 0, 0, 290) := by unfold Ap.pathR; rw [if_neg (by simp [h])]
    rw [e]; exact ap_path_1 g bar w h
  · rcases h2 : Tp.inb bar 0 4095 with _ | _
    · have e : Ap.pathR g bar = (0, 0, 0, 0, 1) := by unfold Ap.pathR; rw [if_pos h, if_neg (by simp [h2])]
      rw [e]; exact ap_path_2 g bar w h h2
    · exact ap_path_3 g bar w h h2 _ rfl
end Go.Proofs.YtjoieglhmladhaaDoor
