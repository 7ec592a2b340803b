/- Walks: package options: falling (those with greater numbers first). -/
import Derived.Test.YtbhgogiaaljclaaGreatDoorUoW
import Derived.Test.YtbhgogiaaljclaaGreatDoorStp
import Derived.Test.YtbhgogiaaljclaaGreatDoorKixz
set_option linter.unusedSimpArgs false
set_option linter.unusedVariables false
set_option maxRecDepth 100000
set_option maxHeartbeats 8000000
namespace Go.Proofs.YtbhgogiaaljclaaGreatDoor
open Go.RowKit Go.Shelf
attribute [local go_sem] Oper.semAt_some
namespace Uo
theorem own_sl {w : World} {base : Nat} {t : TypeId} {a : Option Addr} {c m k n : Nat} {xs : List Value} {f : Nat → Nat → Value} (h : w.ownsRow base t k (.slice a m c) n xs) (hf : ∀ i j, i < n → j < k → xs[i * k + j]? = some (f i j)) :
  Tp.Sl w a n k f ∧ m = n ∧ ∀ b, a = some b → base ≤ b.block := by
 have hc := h
 rcases h.2 with ⟨e, hn⟩ | ⟨g, cap, cur, e, hb, hg, _⟩
 ·cases e
  exact ⟨.inl hn, hn.symm, fun _ h => by cases h⟩
 ·cases e
  refine ⟨.inr ⟨⟨g, 0, none⟩, rfl, (hc.lt g rfl).2, fun i j hi hj => ?_⟩, rfl, fun b h => by cases h; exact hb⟩
  have h1 := hf i j hi hj
  have hik : i * k + j < m * k := by
   have h4 : (i + 1) * k ≤ m * k := Nat.mul_le_mul_right k hi
   rw [Nat.succ_mul] at h4
   omega
  have h3 := (hc.cellAt (i * k + j) hik).trans h1
  have e : ∀ m : Nat, (⟨g, 0, none⟩ : Addr).add m = ⟨g, m, none⟩ := fun m => by simp [Addr.add]; exact fun h => h.symm
  rw [e]; exact h3
instance : Inhabited (Re × Int) := ⟨((0, 0, 0, false), 0)⟩
theorem cs_len (x : Re × Int) : (cs x).length = 5 := rfl
theorem cs_one (x : Re × Int) : ∀ v ∈ cs x, v.oneCell' = true := by simp [cs, Value.oneCell']
def pf (l : List (Re × Int)) (i j : Nat) : Value := (cs (l.getD i default)).getD j undef
theorem pf_at (l : List (Re × Int)) (i j : Nat) (hi : i < l.length) (hj : j < 5) : (l.flatMap cs)[i * 5 + j]? = some (pf l i j) := by
 rw [Kit.flat_get cs 5 cs_len l i j hi hj]
 rcases (by omega : j = 0 ∨ j = 1 ∨ j = 2 ∨ j = 3 ∨ j = 4) with rfl | rfl | rfl | rfl | rfl <;> rfl
theorem gtr_cmp : Kst.Cmp (fun x y : Re × Int => Ra.sg y.2 x.2) := by
 constructor
 all_goals
  intros
  unfold Ra.sg at *
  repeat' split at *
  all_goals omega
theorem pinfo : (Tryz.prog.info? 266).map (fun i => (i.zero, i.size, i.bytes)) = some (some (.agg #[.int .i64 0, .int .i64 0, .int .i64 0, .bool false, .int .i64 0]), 5, 40) := by kernel_rfl
theorem elR : Kit.El Tryz.prog 53 61 (.agg #[.int .i64 0, .int .i64 0, .int .i64 0, .bool false]) 4 32 := ⟨Tryz.underlying53, by kernel_rfl, rfl, by omega, by omega⟩
theorem take_rc (l : List (Re × Int)) (i : Nat) (h : i < l.length) : (l.take (i + 1)).flatMap (fun x => rc x.1) = (l.take i).flatMap (fun x => rc x.1) ++ rc (l.getD i default).1 := by
 rw [List.take_add_one, List.flatMap_append, List.getD_eq_getElem?_getD, List.getElem?_eq_getElem h]
 simp
def FI (w : World) (s B3 : Nat) (pre : List (Re × Int)) (Y : Nat → Prop) (W : World) : Prop :=
 ∃ v, Boxed W B3 264 v ∧ W.ownsRow (s + 2) 266 5 v pre.length (pre.flatMap cs) ∧ (∀ k, Y k ↔ (k = B3 ∨ v.ownBlock = some k)) ∧ Below w.heap.size w W
theorem FI.keep {w : World} {s B3 : Nat} {pre : List (Re × Int)} {Y : Nat → Prop} {A B : World} {S : Nat → Prop} (h : FI w s B3 pre Y A) (hx : Kit.Exc S A B) (hS : ∀ k, Y k → ¬ S k) (hw : ∀ k, S k → w.heap.size ≤ k) : FI w s B3 pre Y B := by
 obtain ⟨v, h1, h2, h3, h6⟩ := h
 refine ⟨v, hx.boxed h1 (hS _ ((h3 _).2 (.inl rfl))), ?_, h3, h6.trans (hx.below h6.size hw)⟩
 obtain ⟨hlen, hv⟩ := h2
 refine ⟨hlen, ?_⟩
 rcases hv with hv | ⟨g, cap, cur, rfl, hg, hh, r⟩
 ·exact .inl hv
 ·exact .inr ⟨g, cap, cur, rfl, hg, (hx.block g (Array.getElem?_eq_some_iff.1 hh).1 (hS _ ((h3 _).2 (.inr rfl)))).trans hh, r⟩
theorem FI.yr {w : World} {s B3 : Nat} {pre : List (Re × Int)} {Y : Nat → Prop} {A : World} (h : FI w s B3 pre Y A) {k : Nat} (hk : Y k) : k = B3 ∨ s + 2 ≤ k := by
 obtain ⟨v, h1, h2, h3, _⟩ := h
 rcases (h3 k).1 hk with h | h
 ·exact .inl h
 ·exact .inr (h2.lt k h).1
end Uo
theorem uo_gtr (x y : Uo.Re × Int) (w : World) : Calls Tryz.prog 195 #[.agg (Uo.cs x).toArray, .agg (Uo.cs y).toArray] w fun e w' => e = .returned (.int .i64 (Ra.sg y.2 x.2)) ∧ Below w.heap.size w w' := by
 obtain ⟨⟨a, b, c, d⟩, e⟩ := x
 obtain ⟨⟨a', b', c', d'⟩, e'⟩ := y
 show Calls Tryz.prog 195 #[.agg #[.int .i64 a, .int .i64 b, .int .i64 c, .bool d, .int .i64 e], .agg #[.int .i64 a', .int .i64 b', .int .i64 c', .bool d', .int .i64 e']] w fun E w' => E = .returned (.int .i64 (Ra.sg e' e)) ∧ Below w.heap.size w w'
 have HC := qh (fun W => cm_cmp_b e' e W)
 go_enter Tryz.func195, Tryz.ntmps195
 go_wp2_with (refine (HC.out _).mono ?_; rintro _ w' ⟨rfl, hb⟩)
 go_ret
 exact ⟨rfl, Below.trans (B := w.heap.size) (by exact Kit.gr) (hb.mono (by simp; omega))⟩
theorem uo_fall (BT BK BU : Nat) (A C : Int) (s : Ex.Sg) (a b m : Nat) (hd : s.dir = a) (hl : s.level = b) (ha : a < 9) (hb : 0 < b) (hb3 : b < 4) (hm : m < 4) (hA : 0 ≤ A) (hA2 : A ≤ 32768) (hC : 0 ≤ C) (hC2 : C ≤ 32768) (w : World)
  (hF : Uo.Flat w) (bT : w.cell? ⟨BT, 0, none⟩ = some (.int .i64 m)) (zT : BT < w.heap.size) (zK : BK < w.heap.size) (zU : BU < w.heap.size)
  (k0 : w.cell? ⟨BK, 0, none⟩ = some (.int .i64 s.id)) (k6 : w.cell? ⟨BK, 6, none⟩ = some (.int .i64 s.dir)) (k7 : w.cell? ⟨BK, 7, none⟩ = some (.int .i64 s.level))
  (u0 : w.cell? ⟨BU, 0, none⟩ = some (.int .i64 A)) (u2 : w.cell? ⟨BU, 2, none⟩ = some (.int .i64 C)) :
  Calls Tryz.prog 149 #[.func (.func 196) #[] #[.pointer (some ⟨BT, 0, none⟩), .pointer (some ⟨BK, 0, none⟩), .pointer (some ⟨BU, 0, none⟩)]] w fun e w' =>
   (∃ v, e = .returned v ∧ w'.ownsRow w.heap.size 61 4 v (Uo.prs A C s.id a b m).length ((Uo.fall (Uo.prs A C s.id a b m)).flatMap fun x => Uo.rc x.1)) ∧ Below w.heap.size w w' := by
 have HIT := qh (fun W (hW : Below w.heap.size w W) => uo_iter 2 omg BT BK BU A 0 C s a b m hd hl ha hb hb3 hm hA hA2 hC hC2 W (hF.kept hW nlr) ((hW.cell (p := ⟨BT, 0, none⟩) zT).trans bT) (Nat.lt_of_lt_of_le zT hW.size) (Nat.lt_of_lt_of_le zK hW.size) (Nat.lt_of_lt_of_le zU hW.size)
  ((hW.cell (p := ⟨BK, 0, none⟩) zK).trans k0) ((hW.cell (p := ⟨BK, 6, none⟩) zK).trans k6) ((hW.cell (p := ⟨BK, 7, none⟩) zK).trans k7) ((hW.cell (p := ⟨BU, 0, none⟩) zU).trans u0) ((hW.cell (p := ⟨BU, 2, none⟩) zU).trans u2))
 have HZ := qh (show ∀ k, Uo.Zb BT BK BU k → k < w.heap.size from fun k hk => by
  have := hF.1
  rcases hk with rfl | rfl | rfl | rfl <;> assumption)
 clear hF bT k0 k6 k7 u0 u2 hd hl hA hA2 hC hC2
 have hLn : (Uo.prs A C s.id a b m).length ≤ 100 := by
  have h1 := Uo.pre_len A C s.id a b m 9
  have h3 : 9 * m ≤ 9 * 3 := Nat.mul_le_mul omg omg
  unfold Uo.prs
  omega
 generalize Uo.prs A C s.id a b m = L at *
 refine Kit.calls_of_wp_marks Tryz.func149 rfl ?_
 simp only [Tryz.ntmps149, List.size_toArray, List.length_cons, List.length_nil, Nat.reduceAdd, Nat.reduceSub, Array.replicate_succ, Array.replicate_zero, List.push_toArray, List.append_toArray, List.nil_append, List.cons_append]
 go_wp2_with fail
 have b0 : Below w.heap.size w (w.alloc (Obj.cells #[Value.slice none 0 0] 264)) := (Below.refl _ _).alloc nlr _
 have b3 : Boxed (w.alloc (Obj.cells #[Value.slice none 0 0] 264)) w.heap.size 264 (.slice none 0 0) := Boxed.new w _ _
 have s0 : (w.alloc (Obj.cells #[Value.slice none 0 0] 264)).heap.size = w.heap.size + 1 := by simp
 generalize w.alloc (Obj.cells #[Value.slice none 0 0] 264) = W0 at b0 b3 s0 ⊢
 refine Kit.wp_rangeR rfl (enters_of Tryz.func196 (by kernel_rfl) rfl) (HIT.out W0 b0) (fun _ => rfl)
  (Uo.FI w W0.heap.size w.heap.size) (fun _ _ _ _ => False)
  (fun pre e a' Y W => Uo.FI w W0.heap.size w.heap.size pre Y W ∧ ∃ b4, W0.heap.size + 2 ≤ b4 ∧ W.heap[b4]? = some (.cells #[.int .i64 e.1.1, .int .i64 e.1.2.1, .int .i64 e.1.2.2.1, .bool e.1.2.2.2] 61 (0, 0)) ∧ ¬ Y b4 ∧
   a' = { tmps := #[.func (.func 196) #[] #[.pointer (some ⟨BT, 0, none⟩), .pointer (some ⟨BK, 0, none⟩), .pointer (some ⟨BU, 0, none⟩)], undef, .slice none 0 0, .pointer (some ⟨w.heap.size, 0, none⟩), .pointer (some ⟨b4, 0, none⟩), .int .i64 e.2, undef, undef, undef, .func (.func 196) #[] #[.pointer (some ⟨BT, 0, none⟩), .pointer (some ⟨BK, 0, none⟩), .pointer (some ⟨BU, 0, none⟩)],
    .agg #[.int .i64 e.1.1, .int .i64 e.1.2.1, .int .i64 e.1.2.2.1, .bool e.1.2.2.2], .int .i64 e.2, undef, undef, undef, undef, undef, undef, undef, undef, undef, undef, undef, undef, undef, undef, undef, undef, undef, undef, undef, undef, undef], defers := [] })
  (fun k => k = w.heap.size)
  (fun _ h => h.elim) (fun k hk => ⟨by omega, fun h => h.elim, fun h => by have := HZ.out k h; omega⟩)
  (fun pre Y A B h hx => h.keep hx (fun k hk hS => hS.elim False.elim (fun h => h.2 hk)) (fun k hk => hk.elim False.elim (fun h => by omega)))
  (fun cc pre Y A B h hx => h)
  (fun pre e a' Y A B h hx => ⟨h.1.keep hx (fun k hk hS => by have := h.1.yr hk; omega) (fun k hk => by omega), by
   obtain ⟨b4, h7, hh, hn, e7⟩ := h.2
   exact ⟨b4, h7, hx.heap hh omg, hn, e7⟩⟩)
  ⟨.slice none 0 0, b3, World.ownsRow_nil _ _ _ _, fun k => by simp [Value.ownBlock], b0⟩ ?assign ?body ?done ?stop
 case assign =>
  intro l' pre e Y W hI hok hY hs
  have HI := qh hI
  have HY := qh hY
  clear hI hY hok
  gi_wp2
  exact ⟨Y, (Kit.Exc.refl _ _).alloc _, fun k hk => ⟨.inl hk, by have := HY.out k hk; simp; omega⟩, HI.out.keep ((Kit.Exc.refl (fun _ => False) W).alloc _) (fun _ _ h => h) (fun _ h => h.elim),
   W.heap.size, hs, World.alloc_heap_new W _, fun h => by have := HY.out _ h; omega, rfl⟩
 case stop =>
  intro D cc pre Y W hD hYD hSp h
  exact h.elim
 case body =>
  rintro l' pre e a' Y W hl' hrec ⟨hI, b4, hb4, hc4, hn4, rfl⟩ hok hY
  obtain ⟨v, h1, h2', h3, h6⟩ := hI
  have HOK := qh hok.1
  have H1 := qh h1
  have H2 := qh h2'
  have H3 := qh h3
  have H6 := qh h6
  have HY := qh hY
  have v0 := h1.cell
  have vf := h1.frozen
  obtain ⟨⟨x0, x1, x2, x3⟩, x4⟩ := e
  dsimp only at hc4
  have e0 : W.cell? ⟨b4, 0, none⟩ = some (.int .i64 x0) := by simp [World.cell?, hc4]
  have e1 : W.cell? ⟨b4, 1, none⟩ = some (.int .i64 x1) := by simp [World.cell?, hc4]
  have e2 : W.cell? ⟨b4, 2, none⟩ = some (.int .i64 x2) := by simp [World.cell?, hc4]
  have e3 : W.cell? ⟨b4, 3, none⟩ = some (.bool x3) := by simp [World.cell?, hc4]
  have hsz7 : W0.heap.size + 2 ≤ W.heap.size := by have := (Array.getElem?_eq_some_iff.1 hc4).1; omega
  have z4 := (Array.getElem?_eq_some_iff.1 hc4).1
  clear h1 h2' h3 h6 hY hc4 hok
  have hcell : ∀ j u, (Uo.cs ((x0, x1, x2, x3), x4))[j]? = some u → (W.alloc (.cells #[.int .i64 x0, .int .i64 x1, .int .i64 x2, .bool x3, .int .i64 x4] 266)).cell? ((⟨W.heap.size, 0, none⟩ : Addr).add j) = some u := by
   intro j u hu
   rcases j with _ | _ | _ | _ | _ | j <;> simp [Uo.cs] at hu <;> subst hu <;> simp [Addr.add, go_sem]
  have HCELL := qh hcell; clear hcell
  have hplen := HOK.out
  have S0 := qh s0; clear s0
  obtain ⟨i0, hi, hz0, hz1, hz2⟩ := info_parts Uo.pinfo
  dsimp only
  gi_wp2_with (gi_at_builtin; refine Kit.wpListIn_append_own' _ rfl _ _ 264 rfl (W0.heap.size + 2) 266 i0 (.agg #[.int .i64 0, .int .i64 0, .int .i64 0, .bool false, .int .i64 0]) 5 40 Tryz.underlying264 hi hz0 hz1 hz2 rfl (by decide) v _ _ rfl (H2.out.alloc _) ⟨W.heap.size, 0, none⟩ 1 1 (Uo.cs ((x0, x1, x2, x3), x4)) rfl rfl HCELL.out (by simp [Uo.cs, Value.oneCell']) (by unfold maxLen; omega) omg (by simp; omega) ?_; intro v' w1 hown' hgrow _ hwhere; obtain ⟨g', cap', rfl⟩ := ownsRow_succ hown'; have hv1 := (H1.out.alloc _).kept hgrow (H1.out.not_row (by decide) H2.out); have hc1 := hv1.cell; have hf1 := hv1.frozen; have HV1 := qh hv1; have HGROW := qh hgrow; have HWH := qh hwhere; have HOWN := qh hown'; clear hv1 hgrow hwhere hown')
  have hB6 : w.heap.size < W0.heap.size := by rw [S0.out]; omega
  have X1 : Kit.Exc Y W (w1.setCell ⟨w.heap.size, 0, none⟩ (.slice (some ⟨g', 0, none⟩) (pre.length + 1) cap')) :=
   ((((Kit.Exc.refl Y W).alloc _).grown HGROW.out (fun k hk => .inl ((H3.out k).2 (.inr hk)))).setCell (p := ⟨w.heap.size, 0, none⟩) (.inl ((H3.out _).2 (.inl rfl))) _)
  have X2 := qh (show Kit.Exc (fun k => k = w.heap.size ∨ v.ownBlock = some k) W (w1.setCell ⟨w.heap.size, 0, none⟩ (.slice (some ⟨g', 0, none⟩) (pre.length + 1) cap')) from
   ((((Kit.Exc.refl _ W).alloc _).grown HGROW.out (fun k hk => .inl (.inr hk))).setCell (p := ⟨w.heap.size, 0, none⟩) (.inl (.inl rfl)) _))
  have hown2 := HOWN.out.kept (grownBy_setCell' w1 w.heap.size (.slice (some ⟨g', 0, none⟩) (pre.length + 1) cap')) (.inr (HV1.out.not_row (by decide) HOWN.out).symm)
  have hg' := HOWN.out.lt g' rfl
  refine ⟨fun k => k = w.heap.size ∨ k = g', X1, fun k hk => ?_, .slice (some ⟨g', 0, none⟩) (pre.length + 1) cap', HV1.out.set _, ?_, fun k => ?_, ?_⟩
  ·have hsz1 : W.heap.size ≤ w1.heap.size := by have := HGROW.out.size; simp at this; omega
   have hsz2 : (w1.setCell ⟨w.heap.size, 0, none⟩ (.slice (some ⟨g', 0, none⟩) (pre.length + 1) cap')).heap.size = w1.heap.size := by simp [World.setCell]
   rw [hsz2]
   rcases hk with rfl | rfl
   ·exact ⟨.inl ((H3.out _).2 (.inl rfl)), by omega⟩
   ·refine ⟨?_, hg'.2⟩
    rcases HWH.out k rfl with h | h
    ·exact .inl ((H3.out _).2 (.inr h))
    ·exact .inr (by simp at h; omega)
  ·rw [List.flatMap_append, List.length_append, List.flatMap_cons, List.flatMap_nil, List.append_nil]; exact hown2
  ·simp [Value.ownBlock, eq_comm]
  ·exact H6.out.trans (X2.out.below H6.out.size (fun k hk => hk.elim (fun h => by omega) (fun h => by have := (H2.out.lt _ h).1; omega)))
 case done =>
  rintro D xs Y W hD hYD hxs ⟨v, h1, h2', h3, hB⟩ hK
  subst hxs
  obtain ⟨a0, c0, rfl⟩ : ∃ a0 c0, v = .slice a0 xs.length c0 := by
   rcases h2'.2 with ⟨rfl, hn⟩ | ⟨g, cap, cur, rfl, _⟩
   ·exact ⟨none, 0, by rw [hn]⟩
   ·exact ⟨_, _, rfl⟩
  have v0 := h1.cell
  have HS := qh (Stp.sort_own Stp.laid Stp.laidS Stp.ren Stp.laid20 rfl rfl Uo.cs Uo.cs_len Uo.cs_one _ Uo.gtr_cmp 195 #[] (enters_of Tryz.func195 (by kernel_rfl) rfl) (fun x y W => by simpa only [Array.append_empty] using uo_gtr x y W) (.slice a0 xs.length c0) (W0.heap.size + 2) 266 xs W omg h2')
  have HH := qh (show (Value.slice a0 xs.length c0).ownBlock ≠ some D ∧ (Value.slice a0 xs.length c0).ownBlock ≠ some w.heap.size from ⟨fun h => hYD ((h3 _).2 (.inr h)), fun h => by have := (h2'.lt _ h).1; omega⟩)
  have HX1 := qh h1
  have HKD := qh hK
  have HB := qh hB
  have HLT := qh (fun k (h : (Value.slice a0 xs.length c0).ownBlock = some k) => h2'.lt k h)
  have zD := (Array.getElem?_eq_some_iff.1 hK).1
  have z3 := h1.lt
  clear h1 h2' h3 hB hK hYD
  go_wp2_with (refine HS.out.mono ?_; rintro _ w3 ⟨rfl, hown, hex⟩; have v03 := (hex.boxed HX1.out HH.out.2).cell; have HOW := qh hown; have HEX := qh hex; clear hown hex)
  have HSL := qh ((Uo.own_sl HOW.out (f := Uo.pf (Uo.fall xs)) (fun i j hi hj => Uo.pf_at _ i j (Nat.lt_of_lt_of_eq hi (Uo.fall_len xs).symm) hj)).1)
  have HK3 := qh (HEX.out.heap HKD.out HH.out.1)
  have HB3 := qh (show Below w.heap.size w w3 from HB.out.trans (HEX.out.below HB.out.size (fun k hk => by have := HLT.out k hk; omega)))
  have hz3 : W.heap.size ≤ w3.heap.size := HEX.out.size
  have hfl : (Uo.fall xs).length = xs.length := Uo.fall_len xs
  clear HOW HEX HS HX1 v0 HKD HIT
  go_loopg [6, 22] xs.length (fun kx v6 v22 wr => ∃ i : Nat, v22 = .int .i64 i ∧ i ≤ xs.length ∧ xs.length - i ≤ kx ∧ Hid (Kit.Gw w3 61 4 v6 i (((Uo.fall xs).take i).flatMap fun x => Uo.rc x.1) wr))
  case atStart => exact ⟨0, rfl, Nat.zero_le _, by omega, qh (by rw [List.take_zero, List.flatMap_nil]; exact Kit.Gw.start w3 _ _)⟩
  case round =>
   obtain ⟨i, rfl, hi, hk, HG⟩ := hrel
   by_cases hlt : i < xs.length
   ·obtain ⟨ad, rfl, had, _⟩ := HSL.out.at hlt
    have h := HSL.out.kept HG.out.bel nlr
    have e0 := h.head hlt omg
    have e1 := h.field hlt (j := 1) omg omg
    have e2 := h.field hlt (j := 2) omg omg
    have e3 := h.field hlt (j := 3) omg omg
    have e4 := h.field hlt (j := 4) omg omg
    have htk := Uo.take_rc (Uo.fall xs) i omg
    unfold Uo.pf at e0 e1 e2 e3 e4
    generalize (Uo.fall xs).getD i default = x at e0 e1 e2 e3 e4 htk
    obtain ⟨⟨x0, x1, x2, x3⟩, x4⟩ := x
    replace e0 : _ = some (Value.int .i64 x0) := e0
    replace e1 : _ = some (Value.int .i64 x1) := e1
    replace e2 : _ = some (Value.int .i64 x2) := e2
    replace e3 : _ = some (Value.bool x3) := e3
    replace e4 : _ = some (Value.int .i64 x4) := e4
    have HT := qh htk
    clear htk h
    go_wp2_with (at_builtin; refine Kit.wpList_app Uo.elR _ rfl _ _ rfl _ _ _ ((HG.out.alloc _).alloc _) rfl omg ⟨wr.heap.size + 1, 0, none⟩ 1 (Uo.rc (x0, x1, x2, x3)) rfl rfl (fun j u hu => Kit.lit_at _ (Uo.rc (x0, x1, x2, x3)) _ (by simp) j u hu) (by simp [Uo.rc, Value.oneCell']) ?_; intro v' w5 ho hg; have HG2 := qh ho; clear ho hg)
    go_roundg (xs.length - (i + 1))
    case measure => omega
    case rel => exact ⟨i + 1, by go_num, by omega, Nat.le_refl _, qh (by rw [HT.out]; exact HG2.out)⟩
   ·obtain rfl : i = xs.length := by omega
    have HG1 := qh (show Kit.Gw w3 61 4 u6 xs.length ((Uo.fall xs).flatMap fun x => Uo.rc x.1) wr by
     have := HG.out
     rwa [← hfl, List.take_length, hfl] at this)
    clear HG
    have hKr : wr.heap[D]? = some (.deferred (some [])) := (HG1.out.bel.block D omg).trans HK3.out
    have hbr : Below w.heap.size w wr := HB3.out.trans (HG1.out.bel.mono HB3.out.size)
    have hr : (wr.putObj D (.deferred none)).ownsRow w.heap.size 61 4 u6 xs.length ((Uo.fall xs).flatMap fun x => Uo.rc x.1) :=
     (HG1.out.own.kept (grownBy_putObj' wr D _) (.inr (fun h => by have := HG1.out.own.lt D h; omega))).mono omg
    have HR := qh hr
    clear hr
    go_wp2
    exact Kit.post_mark hKr (by simp [results, Tryz.results149, go_sem]) ⟨⟨u6, rfl, HR.out⟩, Kit.below_putObj hbr _ _ omg⟩
end Go.Proofs.YtbhgogiaaljclaaGreatDoor
