/- Walks: package types: pairs; Faults, the ways ahead of its ranges. -/
import Derived.Test.YtggfeblfhabmkaaGreatDoorTyJ
import Derived.Test.YtggfeblfhabmkaaGreatDoorTyO
import Derived.Sort.CutIn
namespace Go.Proofs.YtggfeblfhabmkaaGreatDoor
set_option linter.unusedVariables false
set_option linter.unusedSimpArgs false
open Go.RowKit Go.Shelf
attribute [local go_sem] Oper.semAt_some

abbrev Ty.itV (B : Nat) : Value := .func (.func 37) #[] #[.pointer (some ⟨B, 0, none⟩)]
theorem ty_pairs (a : Option Addr) (n c : Nat) (w : World) :
    Calls Tryz.prog 15 #[.slice a n c] w fun e w' => e = .returned (Ty.itV w.heap.size) ∧ w' = w.alloc (.cells #[.slice a n c] 30) := by
  go_enter Tryz.func15, Tryz.ntmps15
  go_wp2
  go_ret
  exact ⟨rfl, rfl⟩

set_option maxRecDepth 100000 in
set_option maxHeartbeats 1000000 in
theorem ty_faults_1a (wd dp ta tb tc : Int) (aR : Option Addr) (nR cR : Nat) (n : Int) (aT : Option Addr) (nT cT : Nat) (aP : Option Addr) (nP cP : Nat) (aS : Option Addr) (nS cS : Nat) (aG : Option Addr) (nG cG : Nat) (w : World)
    (r : Int) (hr : (r != 0) = true) (hc : ∀ W, Below w.heap.size w W → Calls Tryz.prog 14 #[Ex.wv wd dp ta tb tc aR nR cR n aT nT cT aP nP cP aS nS cS aG nG cG] W fun e w' => e = .returned (.int .i64 r) ∧ Below W.heap.size W w') :
    Calls Tryz.prog 6 #[Ex.wv wd dp ta tb tc aR nR cR n aT nT cT aP nP cP aS nS cS aG nG cG] w fun e w' => e = .returned (.tuple #[.slice none 0 0, .int .i64 r]) ∧ Below w.heap.size w w' := by
  have HC := Lib.hid hc; clear hc
  go_enter Tryz.func6, Tryz.ntmps6
  skip
  (go_wp2_with (fail); refine (HC.out _ (by (repeat' first | (with_reducible first | exact Below.refl _ _ | assumption | refine Kit.below_drewN ?_ _ | refine Below.drew ?_ | refine Below.alloc ?_ ?_ _ | refine Below.setCell ?_ ?_ _ | exact Nat.le_refl _) | omega | (simp; omega) | (simp; done) | (apply Below.size; assumption)))).mono ?_; rintro e w1_ ⟨rfl, hb1_⟩; have hp1_ : Below w.heap.size w w1_ := Below.trans (by (repeat' first | (with_reducible first | exact Below.refl _ _ | assumption | refine Kit.below_drewN ?_ _ | refine Below.drew ?_ | refine Below.alloc ?_ ?_ _ | refine Below.setCell ?_ ?_ _ | exact Nat.le_refl _) | omega | (simp; omega) | (simp; done) | (apply Below.size; assumption))) (hb1_.mono (by first | assumption | (simp; done) | (simp; omega) | omega)); have hw1_ : Below w.heap.size w w1_ := hp1_; obtain ⟨hc1_, hf1_⟩ := Kit.bcell hb1_; have z1_w : w.heap.size < w1_.heap.size := (by have := hb1_.size; first | omega | (simp at this; omega)); obtain ⟨g1_w_0, g1_w_1, g1_w_2, g1_w_3, g1_w_4, g1_w_5, g1_w_6, g1_w_7, g1_w_8, g1_w_9, g1_w_10⟩ : w1_.cell? ⟨w.heap.size, 0, none⟩ = some (.int .i64 wd) ∧ w1_.cell? ⟨w.heap.size, 1, none⟩ = some (.int .i64 dp) ∧ w1_.cell? ⟨w.heap.size, 2, none⟩ = some (.int .i64 ta) ∧ w1_.cell? ⟨w.heap.size, 3, none⟩ = some (.int .i64 tb) ∧ w1_.cell? ⟨w.heap.size, 4, none⟩ = some (.int .i64 tc) ∧ w1_.cell? ⟨w.heap.size, 5, none⟩ = some (.slice aR nR cR) ∧ w1_.cell? ⟨w.heap.size, 6, none⟩ = some (.int .i64 n) ∧ w1_.cell? ⟨w.heap.size, 7, none⟩ = some (.slice aT nT cT) ∧ w1_.cell? ⟨w.heap.size, 8, none⟩ = some (.slice aP nP cP) ∧ w1_.cell? ⟨w.heap.size, 9, none⟩ = some (.slice aS nS cS) ∧ w1_.cell? ⟨w.heap.size, 10, none⟩ = some (.slice aG nG cG) := (by refine ⟨?_, ?_, ?_, ?_, ?_, ?_, ?_, ?_, ?_, ?_, ?_⟩ <;> (rw [hc1_ _ _ (by first | assumption | (simp; done) | (simp; omega) | omega)]; first | assumption | (simp [go_sem]; done) | (simp [go_sem, *]; done))); have z1_w_1 : w.heap.size + 1 < w1_.heap.size := (by have := hb1_.size; first | omega | (simp at this; omega)); have g1_w_1_0 : w1_.cell? ⟨w.heap.size + 1, 0, none⟩ = some (.slice none 0 0) := (by rw [hc1_ _ _ (by first | assumption | (simp; done) | (simp; omega) | omega)]; first | assumption | (simp [go_sem]; done) | (simp [go_sem, *]; done)); have f1_w_1_0 : w1_.frozen? ⟨w.heap.size + 1, 0, none⟩ = false := (by rw [hf1_ _ _ (by first | assumption | (simp; done) | (simp; omega) | omega)]; first | assumption | (simp [go_sem]; done) | (simp [go_sem, *]; done)); clear hc1_ hf1_; clear hb1_ hp1_)
  go_wp2
  (refine bodyPost_ret (by simp [results, Tryz.results6, go_sem, Kit.cell_set, *]; try rfl) rfl ?_)
  exact ⟨rfl, by (repeat' first | (with_reducible first | exact Below.refl _ _ | assumption | refine Kit.below_drewN ?_ _ | refine Below.drew ?_ | refine Below.alloc ?_ ?_ _ | refine Below.setCell ?_ ?_ _ | exact Nat.le_refl _) | omega | (simp; omega) | (simp; done) | (apply Below.size; assumption))⟩

theorem Ty.Rt.wf {s : Ex.Sg} {nR : Nat} {n : Int} (h : Ty.Rt s nR n) (lR : nR ≤ 64) (ln : n ≤ 4096) (hh : Ty.held s = true) : (0 ≤ s.wth ∧ s.wth ≤ 1000000) ∧ ∀ y ∈ Ty.ck s, Kit.wfI y := by
  have h1 := h.role
  have h2 := h.bar
  have h3 := h.wth (by simpa [Ty.held] using hh)
  have h4 := (Ra.ok_iff _ _).1 h.fok
  have h5 := (Ra.ok_iff _ _).1 h.tok
  refine ⟨by omega, fun y hy => WalkArith.wf_i64 ?_⟩
  unfold Ty.ck at hy
  split at hy <;> simp only [List.mem_cons, List.not_mem_nil, or_false] at hy <;> omega
set_option maxRecDepth 100000 in
set_option maxHeartbeats 2000000 in
theorem ty_faults_2a (wd dp ta tb tc : Int) (aR : Option Addr) (nR cR : Nat) (n : Int) (aT : Option Addr) (nT cT : Nat) (aP : Option Addr) (nP cP : Nat) (aS : Option Addr) (nS cS : Nat) (aG : Option Addr) (sg : List Ex.Sg) (cG : Nat) (w : World)
    (hinc : Ty.Inc sg) (hR : ∀ s ∈ sg, Ty.Rt s nR n) (lR : nR ≤ 64) (lG : sg.length ≤ 4096) (ln : n ≤ 4096) (hG : Tp.Sl w aG sg.length 14 (Ex.sgc sg))
    (hc : ∀ W, Below w.heap.size w W → Calls Tryz.prog 14 #[Ex.wv wd dp ta tb tc aR nR cR n aT nT cT aP nP cP aS nS cS aG sg.length cG] W fun e w' => e = .returned (.int .i64 0) ∧ Below W.heap.size W w') :
    Calls Tryz.prog 6 #[Ex.wv wd dp ta tb tc aR nR cR n aT nT cT aP nP cP aS nS cS aG sg.length cG] w fun e w' => ∃ v, e = .returned (.tuple #[v, .int .i64 0]) ∧ w'.ownsRow w.heap.size 48 3 v (Ty.refL sg).length (Ty.flatF (Ty.refL sg)) ∧ Below w.heap.size w w' := by
  have HC := Lib.hid hc; clear hc
  refine Kit.calls_of_wp_marks Tryz.func6 rfl ?_
  simp only [Tryz.ntmps6, List.size_toArray, List.length_cons, List.length_nil, Nat.reduceAdd, Nat.reduceSub, Array.replicate_succ, Array.replicate_zero, List.push_toArray, List.append_toArray, List.nil_append, List.cons_append]
  skip
  (go_wp2_with (fail); refine (HC.out _ (by (repeat' first | (with_reducible first | exact Below.refl _ _ | assumption | refine Kit.below_drewN ?_ _ | refine Below.drew ?_ | refine Below.alloc ?_ ?_ _ | refine Below.setCell ?_ ?_ _ | exact Nat.le_refl _) | omega | (simp; omega) | (simp; done) | (apply Below.size; assumption)))).mono ?_; rintro e w1_ ⟨rfl, hb1_⟩; have hp1_ : Below w.heap.size w w1_ := Below.trans (by (repeat' first | (with_reducible first | exact Below.refl _ _ | assumption | refine Kit.below_drewN ?_ _ | refine Below.drew ?_ | refine Below.alloc ?_ ?_ _ | refine Below.setCell ?_ ?_ _ | exact Nat.le_refl _) | omega | (simp; omega) | (simp; done) | (apply Below.size; assumption))) (hb1_.mono (by first | assumption | (simp; done) | (simp; omega) | omega)); have hw1_ : Below w.heap.size w w1_ := hp1_; obtain ⟨hc1_, hf1_⟩ := Kit.bcell hb1_; have z1_w : w.heap.size < w1_.heap.size := (by have := hb1_.size; first | omega | (simp at this; omega)); obtain ⟨g1_w_0, g1_w_1, g1_w_2, g1_w_3, g1_w_4, g1_w_5, g1_w_6, g1_w_7, g1_w_8, g1_w_9, g1_w_10⟩ : w1_.cell? ⟨w.heap.size, 0, none⟩ = some (.int .i64 wd) ∧ w1_.cell? ⟨w.heap.size, 1, none⟩ = some (.int .i64 dp) ∧ w1_.cell? ⟨w.heap.size, 2, none⟩ = some (.int .i64 ta) ∧ w1_.cell? ⟨w.heap.size, 3, none⟩ = some (.int .i64 tb) ∧ w1_.cell? ⟨w.heap.size, 4, none⟩ = some (.int .i64 tc) ∧ w1_.cell? ⟨w.heap.size, 5, none⟩ = some (.slice aR nR cR) ∧ w1_.cell? ⟨w.heap.size, 6, none⟩ = some (.int .i64 n) ∧ w1_.cell? ⟨w.heap.size, 7, none⟩ = some (.slice aT nT cT) ∧ w1_.cell? ⟨w.heap.size, 8, none⟩ = some (.slice aP nP cP) ∧ w1_.cell? ⟨w.heap.size, 9, none⟩ = some (.slice aS nS cS) ∧ w1_.cell? ⟨w.heap.size, 10, none⟩ = some (.slice aG sg.length cG) := (by refine ⟨?_, ?_, ?_, ?_, ?_, ?_, ?_, ?_, ?_, ?_, ?_⟩ <;> (rw [hc1_ _ _ (by first | assumption | (simp; done) | (simp; omega) | omega)]; first | assumption | (simp [go_sem]; done) | (simp [go_sem, *]; done))); have z1_w_1 : w.heap.size + 1 < w1_.heap.size := (by have := hb1_.size; first | omega | (simp at this; omega)); have g1_w_1_0 : w1_.cell? ⟨w.heap.size + 1, 0, none⟩ = some (.slice none 0 0) := (by rw [hc1_ _ _ (by first | assumption | (simp; done) | (simp; omega) | omega)]; first | assumption | (simp [go_sem]; done) | (simp [go_sem, *]; done)); clear hc1_ hf1_; have bx2 : Boxed w1_ (w.heap.size + 1) 35 (.slice none 0 0) := (hb1_.block _ (by simp)).trans (by have := World.alloc_heap_new (w.alloc (Obj.cells #[.int .i64 wd, .int .i64 dp, .int .i64 ta, .int .i64 tb, .int .i64 tc, .slice aR nR cR, .int .i64 n, .slice aT nT cT, .slice aP nP cP, .slice aS nS cS, .slice aG sg.length cG] 32)) (Obj.cells #[.slice none 0 0] 35); rwa [World.size_alloc] at this); clear hb1_ hp1_)
  go_wp2_with (go_at_call 15; refine (ty_pairs _ _ _ _).mono ?_; rintro e w' ⟨rfl, rfl⟩)
  obtain ⟨W0, hW0⟩ : ∃ W0, W0 = w1_.alloc (Obj.cells #[Value.slice aG sg.length cG] 30) := ⟨_, rfl⟩
  rw [← hW0]
  have s0 : W0.heap.size = w1_.heap.size + 1 := by rw [hW0]; simp
  have E0 : ∀ S, Kit.Exc S w1_ W0 := fun S => by rw [hW0]; exact (Kit.Exc.refl S _).alloc _
  have b0 : Below w.heap.size w W0 := hw1_.trans ((E0 (fun _ => False)).below hw1_.size (fun _ h => h.elim))
  have bB : Boxed W0 w1_.heap.size 30 (.slice aG sg.length cG) := by rw [hW0]; exact Boxed.new _ _ _
  have bx := (E0 (fun _ => False)).boxed bx2 (fun h => h)
  have hG0 := hG.kept b0 (Nat.le_refl _)
  have hgw : sg ≠ [] → ∀ ad, aG = some ad → ad.block < w.heap.size := fun hn ad e => by
    rcases hG with h | ⟨ad', h1, h2, _⟩
    · exact absurd (List.eq_nil_of_length_eq_zero h) hn
    · rw [h1] at e; cases e; exact h2
  have hgb : sg ≠ [] → ∀ ad, aG = some ad → ad.block < W0.heap.size := fun hn ad e => Nat.lt_of_lt_of_le (hgw hn ad e) b0.size
  refine Kit.wp_rangeR rfl (enters_of Tryz.func37 (by kernel_rfl) rfl)
    (ty_pairs_iter 2 (by omega) w1_.heap.size aG cG sg W0 lG (fun s hs => by have h := hR s hs; have h1 := h.role; have h2 := h.bar; exact ⟨WalkArith.wf_i64 (by omega), WalkArith.wf_i64 (by omega)⟩) bB hG0 hgb) (fun _ => rfl)
    (Ty.FI w (W0.heap.size + 2) (w.heap.size + 1) W0) (fun _ _ _ _ => False)
    (fun pre e a' Y W => Ty.FI w (W0.heap.size + 2) (w.heap.size + 1) W0 pre Y W ∧ ∃ b4 b5, W0.heap.size + 2 ≤ b4 ∧ W0.heap.size + 2 ≤ b5 ∧ Ty.SgAt W b4 e.1 ∧ Ty.SgAt W b5 e.2 ∧ ¬ Y b4 ∧ ¬ Y b5 ∧
      a' = { tmps := #[Ex.wv wd dp ta tb tc aR nR cR n aT nT cT aP nP cP aS nS cS aG sg.length cG, .pointer (some ⟨w.heap.size, 0, none⟩), .pointer (some ⟨w.heap.size + 1, 0, none⟩), .int .i64 0, .pointer (some ⟨b4, 0, none⟩), .pointer (some ⟨b5, 0, none⟩), undef, undef, undef, undef, undef, undef, undef, undef, undef, undef, undef, undef, undef, undef, undef, undef, undef, .agg #[.int .i64 wd, .int .i64 dp, .int .i64 ta, .int .i64 tb, .int .i64 tc, .slice aR nR cR, .int .i64 n, .slice aT nT cT, .slice aP nP cP, .slice aS nS cS, .slice aG sg.length cG], .int .i64 0, .int .i64 0, .bool false, undef, .pointer (some ⟨w.heap.size, 10, none⟩), .slice aG sg.length cG, Ty.itV w1_.heap.size, Ex.sgV e.1, Ex.sgV e.2, undef, undef, undef, undef, undef, undef, undef, undef, undef, undef, undef, undef, undef, undef, undef, undef, undef, undef, undef, undef, undef, undef, undef, undef, undef, undef, undef, undef, undef, undef, undef, undef, undef, undef, undef, undef, undef, undef, undef, undef, undef, undef, undef, undef, undef, undef, undef, undef, undef, undef, undef, undef, undef, undef, undef, undef, undef, undef, undef, undef, undef, undef, undef, undef, undef, undef, undef, undef, undef, undef, undef, undef, undef, undef, undef, undef, undef, undef, undef, undef, undef, undef, undef, undef, undef, undef, undef, undef, undef, undef, undef, undef, undef, undef, undef, undef, undef, undef, undef, undef, undef, undef], defers := [] })
    (fun k => k = w.heap.size + 1) (fun _ h => h.elim) (fun k hk => ?_) (fun pre Y A B h hx => ?_) (fun _ _ _ _ _ h _ => h.elim) (fun pre e a' Y A B h hx => ?_) ?h0 ?assign ?body ?done ?stop
  · subst hk
    refine ⟨by omega, fun h => h, ?_⟩
    rintro (h | ⟨hn, ad, e, h⟩)
    · omega
    · have := hgw hn ad e; omega
  · refine h.keep hx (fun k hk hS => ?_) (fun k hk => ?_) b0.size
    · rcases hS with hS | hS
      · exact hS
      · exact hS.2 hk
    · rcases hk with hk | hk
      · exact hk.elim
      · exact hk.1
  · obtain ⟨h1, b4, b5, h4, h5, h6, h7, h8, h9, rfl⟩ := h
    refine ⟨h1.keep hx (fun k hk hS => ?_) (fun k hk => hk.1) b0.size, b4, b5, h4, h5, hx.heap h6 (by omega), hx.heap h7 (by omega), h8, h9, rfl⟩
    have := h1.yr hk
    omega
  case h0 => exact ⟨.slice none 0 0, ⟨bx, World.ownsRow_nil _ _ _ _⟩, fun k => by simp [Value.ownBlock], Kit.Exc.refl _ _, b0⟩
  case assign =>
    intro l' pre e Y W hI hok hY hs
    have HI := Lib.hid hI
    have HY := Lib.hid hY
    clear hI hY hok
    gi_wp2
    refine ⟨Y, ((Kit.Exc.refl _ _).alloc _).alloc _, fun k hk => ⟨.inl hk, by have := HY.out k hk; simp; omega⟩, HI.out.keep (((Kit.Exc.refl (fun _ => False) W).alloc _).alloc _) (fun _ _ h => h) (fun _ h => h.elim) b0.size,
        W.heap.size, W.heap.size + 1, hs, by omega, ?_, ?_, fun h => by have := HY.out _ h; omega, fun h => by have := HY.out _ h; omega, rfl⟩
    · exact (Below.heap_alloc _ _ _ (by simp)).trans (World.alloc_heap_new W _)
    · have := World.alloc_heap_new (W.alloc (Obj.cells #[.int .i64 e.1.id, .int .i64 e.1.role, .int .i64 e.1.bar, .int .i64 e.1.mark, .int .i64 e.1.kind, .int .i64 e.1.side, .int .i64 e.1.dir, .int .i64 e.1.level, .int .i64 e.1.size, .int .i64 e.1.wth, .int .i64 e.1.fn, .int .i64 e.1.fd, .int .i64 e.1.tn, .int .i64 e.1.td] 44)) (Obj.cells #[.int .i64 e.2.id, .int .i64 e.2.role, .int .i64 e.2.bar, .int .i64 e.2.mark, .int .i64 e.2.kind, .int .i64 e.2.side, .int .i64 e.2.dir, .int .i64 e.2.level, .int .i64 e.2.size, .int .i64 e.2.wth, .int .i64 e.2.fn, .int .i64 e.2.fd, .int .i64 e.2.tn, .int .i64 e.2.td] 44)
      rwa [World.size_alloc] at this
  case body =>
    rintro l' pre e a' Y W hl' hrec ⟨hI, b4, b5, h4, h5, h6, h7, h8, h9, rfl⟩ hok hY
    have hp : e.1 ∈ sg ∧ e.2 ∈ sg := by
      obtain ⟨rest, hr⟩ := hok
      exact Ty.prs_mem sg [] e (by rw [hr]; simp)
    have hra := hR e.1 hp.1
    have hrb := hR e.2 hp.2
    have ta := Ty.rt_rt hra
    have tb := Ty.rt_rt hrb
    obtain ⟨Ka, hKa⟩ : ∃ K, e.1.kind.toNat = K := ⟨_, rfl⟩
    obtain ⟨Kb, hKb⟩ : ∃ K, e.2.kind.toNat = K := ⟨_, rfl⟩
    rw [hKa] at ta
    rw [hKb] at tb
    have ia := ty_index e.1 Ka ta
    have ib := ty_index e.2 Kb tb
    have na := ty_enters Ka ⟨ta.2.1, ta.2.2.1⟩
    have nb := ty_enters Kb ⟨tb.2.1, tb.2.2.1⟩
    obtain ⟨y0, y1, y2, y3, y4, y5, y6, y7, y8, y9, y10, y11, y12, y13⟩ := h6.all
    obtain ⟨x0, x1, x2, x3, x4, x5, x6, x7, x8, x9, x10, x11, x12, x13⟩ := h7.all
    have TA := Lib.hid ta
    have TB := Lib.hid tb
    have HI := Lib.hid hI
    have HOK := Lib.hid hok
    have HY := Lib.hid hY
    have H6 := Lib.hid h6
    have H7 := Lib.hid h7
    clear hI hok hY h6 h7 ta tb hra hrb hp g1_w_0 g1_w_1 g1_w_2 g1_w_3 g1_w_4 g1_w_5 g1_w_6 g1_w_7 g1_w_8 g1_w_9 g1_w_10
    gi_wp2
    refine Kit.wpIn_region_tail 15 (by rintro ⟨_, _, h⟩; exact h) (by kernel_rfl) (by kernel_rfl) (by kernel_rfl) ?_
    simp only [List.take_succ_cons, List.take_zero, List.drop_succ_cons, List.drop_zero]
    (repeat (go_big_quiet_step (first | exact Kit.calls_cls _ (ty_columns _) | exact Kit.calls_cls _ (ty_col _ _ TA.out _ : Ty.Col _ _ _) | exact Kit.calls_cls _ (ty_col _ _ TB.out _ : Ty.Col _ _ _))))
    refine wpQuiet_nil ?_
    intro z
    obtain ⟨v, hg, hyv, hex, hbw⟩ := HI.out
    obtain ⟨rest, hrest⟩ := HOK.out
    have hlen := Ty.pre_len sg pre (e :: rest) lG hrest
    have o1 := Ty.one_len 1 e.1.id e.2.id (Ty.com e.1 e.2)
    have o2 := Ty.one_len 2 e.1.id e.2.id (Ty.sup e.1 e.2)
    have hsz : W0.heap.size + 2 ≤ W.heap.size := by have := (Array.getElem?_eq_some_iff.1 H7.out).1; omega
    have HR0 := Lib.hid ((Ty.RB.start (e := e) hg H6.out H7.out ⟨by omega, by omega, fun h => h8 ((hyv _).2 (.inr h)), fun h => h9 ((hyv _).2 (.inr h))⟩).below z.below)
    have HOW := Lib.hid (fun k hk => (hg.own.lt k hk).1)
    have HHB := Lib.hid (And.intro hyv (And.intro hex hbw))
    clear hg hyv hex hbw ia ib na nb y0 y1 y2 y3 y4 y5 y6 y7 y8 y9 y10 y11 y12 y13 x0 x1 x2 x3 x4 x5 x6 x7 x8 x9 x10 x11 x12 x13
    go_wp2_with fail
    refine (HR0.out.add (by omega) hsz 1 _).mono ?_
    rintro _ w1 ⟨rfl, hr1⟩
    rw [Ty.com_bits] at hr1
    have HR1 := Lib.hid hr1
    clear hr1 HR0
    go_wp2_with fail
    gi_upto_region 11 with fail
    gi_cut [] from 132 (fun wx => Hid (Ty.RB (W0.heap.size + 2) (w.heap.size + 1) b4 b5 W v e ((pre.flatMap fun p => Ty.fk p.1 p.2) ++ Ty.one 1 e.1.id e.2.id (Ty.com e.1 e.2) ++ Ty.one 2 e.1.id e.2.id (Ty.sup e.1 e.2)) wx))
    case first =>
      refine Kit.wpIn_region_plain (by rintro ⟨_, _, h⟩; exact h) (by kernel_rfl) ?_
      obtain ⟨y0, y1, y2, y3, y4, y5, y6, y7, y8, y9, y10, y11, y12, y13⟩ := HR1.out.sa.cells
      obtain ⟨x0, x1, x2, x3, x4, x5, x6, x7, x8, x9, x10, x11, x12, x13⟩ := HR1.out.sb.cells
      go_wp2_with fail
      refine (ty_leg e.1 w1).mono ?_
      rintro _ w2 ⟨rfl, hb2⟩
      have HR2 := Lib.hid (HR1.out.below hb2)
      clear hb2 y0 y1 y2 y3 y4 y5 y6 y7 y8 y9 y10 y11 y12 y13 x0 x1 x2 x3 x4 x5 x6 x7 x8 x9 x10 x11 x12 x13
      obtain ⟨y0, y1, y2, y3, y4, y5, y6, y7, y8, y9, y10, y11, y12, y13⟩ := HR2.out.sa.cells
      obtain ⟨x0, x1, x2, x3, x4, x5, x6, x7, x8, x9, x10, x11, x12, x13⟩ := HR2.out.sb.cells
      rcases d1 : Ty.leg e.1 with _ | _
      · have hs : Ty.sup e.1 e.2 = Ty.are e.1 e.2 7 2 := by simp [Ty.sup, d1]
        go_wp2_with fail
        refine (ty_are e.1 e.2 7 2 b4 b5 w2 HR2.out.sa HR2.out.sb).mono ?_
        rintro _ wq ⟨rfl, hq⟩
        rw [hq]
        clear hq
        go_wp2_with fail
        refine (HR2.out.add (by simp only [List.length_append]; omega) hsz 2 _).mono ?_
        rintro _ w9 ⟨rfl, hr9⟩
        rw [← hs] at hr9
        have HR9 := Lib.hid hr9
        clear hr9 y0 y1 y2 y3 y4 y5 y6 y7 y8 y9 y10 y11 y12 y13 x0 x1 x2 x3 x4 x5 x6 x7 x8 x9 x10 x11 x12 x13
        go_wp2_with fail
        gi_meet
        case rel => exact HR9
      go_wp2_with fail
      refine (ty_leg e.2 w2).mono ?_
      rintro _ w3 ⟨rfl, hb3⟩
      have HR3 := Lib.hid (HR2.out.below hb3)
      clear hb3 y0 y1 y2 y3 y4 y5 y6 y7 y8 y9 y10 y11 y12 y13 x0 x1 x2 x3 x4 x5 x6 x7 x8 x9 x10 x11 x12 x13
      obtain ⟨y0, y1, y2, y3, y4, y5, y6, y7, y8, y9, y10, y11, y12, y13⟩ := HR3.out.sa.cells
      obtain ⟨x0, x1, x2, x3, x4, x5, x6, x7, x8, x9, x10, x11, x12, x13⟩ := HR3.out.sb.cells
      rcases d2 : Ty.leg e.2 with _ | _
      · have hs : Ty.sup e.1 e.2 = Ty.are e.1 e.2 7 2 := by simp [Ty.sup, d2]
        go_wp2_with fail
        refine (ty_are e.1 e.2 7 2 b4 b5 w3 HR3.out.sa HR3.out.sb).mono ?_
        rintro _ wq ⟨rfl, hq⟩
        rw [hq]
        clear hq
        go_wp2_with fail
        refine (HR3.out.add (by simp only [List.length_append]; omega) hsz 2 _).mono ?_
        rintro _ w9 ⟨rfl, hr9⟩
        rw [← hs] at hr9
        have HR9 := Lib.hid hr9
        clear hr9 y0 y1 y2 y3 y4 y5 y6 y7 y8 y9 y10 y11 y12 y13 x0 x1 x2 x3 x4 x5 x6 x7 x8 x9 x10 x11 x12 x13
        go_wp2_with fail
        gi_meet
        case rel => exact HR9
      rcases d3 : (e.1.side != e.2.side) with _ | _
      · have hs : Ty.sup e.1 e.2 = Ty.are e.1 e.2 7 2 := by simp [Ty.sup, d3]
        go_wp2_with fail
        refine (ty_are e.1 e.2 7 2 b4 b5 w3 HR3.out.sa HR3.out.sb).mono ?_
        rintro _ wq ⟨rfl, hq⟩
        rw [hq]
        clear hq
        go_wp2_with fail
        refine (HR3.out.add (by simp only [List.length_append]; omega) hsz 2 _).mono ?_
        rintro _ w9 ⟨rfl, hr9⟩
        rw [← hs] at hr9
        have HR9 := Lib.hid hr9
        clear hr9 y0 y1 y2 y3 y4 y5 y6 y7 y8 y9 y10 y11 y12 y13 x0 x1 x2 x3 x4 x5 x6 x7 x8 x9 x10 x11 x12 x13
        go_wp2_with fail
        gi_meet
        case rel => exact HR9
      · have hs : Ty.sup e.1 e.2 = true := by simp only [Ty.sup, d1, d2, d3]; rfl
        go_wp2_with fail
        refine (HR3.out.add (by simp only [List.length_append]; omega) hsz 2 _).mono ?_
        rintro _ w9 ⟨rfl, hr9⟩
        rw [← hs] at hr9
        have HR9 := Lib.hid hr9
        clear hr9 y0 y1 y2 y3 y4 y5 y6 y7 y8 y9 y10 y11 y12 y13 x0 x1 x2 x3 x4 x5 x6 x7 x8 x9 x10 x11 x12 x13
        go_wp2_with fail
        gi_meet
        case rel => exact HR9
    case rest =>
      have HR5 := hcut
      clear hcut HR1
      gi_upto_region 12 with fail
      refine Kit.wpIn_region_plain (by rintro ⟨_, _, h⟩; exact h) (by kernel_rfl) ?_
      go_wp2_with fail
      refine (ty_are e.1 e.2 7 8 b4 b5 wc HR5.out.sa HR5.out.sb).mono ?_
      rintro _ wq ⟨rfl, hq⟩
      rw [hq]
      clear hq
      go_wp2_with fail
      refine (HR5.out.add (by simp only [List.length_append]; omega) hsz 4 _).mono ?_
      rintro _ w9 ⟨rfl, hr9⟩
      have HR9 := Lib.hid hr9
      clear hr9
      go_wp2_with fail
      obtain ⟨hyv, hex, hbw⟩ := HHB.out
      have hr := HR9.out
      rw [show Ty.are e.1 e.2 7 8 = Ty.tow e.1 e.2 from rfl, ← Ty.flat_snoc] at hr
      obtain ⟨Y', f1, f2, f3⟩ := hr.fi hex hbw (Nat.le_add_right _ _) (Nat.le_add_right _ _) b0.size HOW.out
      exact ⟨Y', hr.exc.mono (fun b _ h => (hyv b).2 h), fun b hb => ⟨(f2 b hb).imp (hyv b).2 id, f3 b hb⟩, f1⟩
  case stop => intro D c pre Y W _ _ _ h; exact h.elim
  case done =>
    rintro D xs Y W hD hYD rfl ⟨v, hg, hyv, hex, hbw⟩ hK
    have hL := Ty.pre_len sg (Ty.prs [] sg) [] lG (by simp)
    simp only [Exit.inBlock, Exit.then]
    apply_assumption
    refine ty_tail Tryz.f6 rfl _ _ _ _ rfl aG sg cG w W (W0.heap.size + 2) D v _ _ _ _ _ _ _ _ _ _ hg hbw hK (by have := b0.size; omega) (by have := b0.size; omega) hG
      (hex.cell ((E0 (fun _ => False)).cell g1_w_10 (fun h => h) z1_w) (by simp) (by show w.heap.size < W0.heap.size; omega)) (by omega) lG (fun x hx hh => (hR x hx).wf lR ln hh) _ (fun l' v' w' hp hs ho hb => ?_)
    have hl : (Ty.prs [] sg).flatMap (fun p => Ty.fk p.1 p.2) = Ty.prP [] sg := (Ty.prP_prs sg [] (by simp) hR).symm
    rw [hl] at hp
    have := Ty.sorted_eq hinc hp hs
    subst this
    exact ⟨v', rfl, ho, hb⟩
end Go.Proofs.YtggfeblfhabmkaaGreatDoor
