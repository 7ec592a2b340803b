/- Walks: package understudy: heavy (the first remaining lift that is too heavy). Walks: package understudy: Lifts. Walks: package understudy: Able, of whatever arguments; kinespherelaw48.strong. -/
import Derived.Test.YtbhgogiaaljclaaGreatDoorUux
import Derived.Test.YtbhgogiaaljclaaGreatDoorUuE
import Derived.Test.YtbhgogiaaljclaaGreatDoorKxc
import Derived.Laws.EntriesVeiled
import Derived.WalkMore
import Derived.Sort.CutIn
set_option linter.unusedSimpArgs false
set_option linter.unusedVariables false
set_option maxRecDepth 100000
set_option maxHeartbeats 8000000
namespace Go.Proofs.YtbhgogiaaljclaaGreatDoor
open Go.RowKit Go.Shelf
attribute [local go_sem] Oper.semAt_some
namespace Un
theorem lift_fit {s : Ex.Sg} {r n : Int} (h : Ex.okSign s r n = true) (hk : s.kind = 7) : (0 ≤ s.role ∧ s.role < r) ∧ (1 ≤ s.wth ∧ s.wth ≤ r) := by
 unfold Ex.okSign Ex.ok1 Ex.ok2 at h
 simp only [Bool.and_eq_true] at h
 obtain ⟨⟨⟨⟨⟨⟨⟨_, h2⟩, _⟩, _⟩, ⟨_, h7⟩⟩, _⟩, _⟩, _⟩ := h
 rw [hk] at h7
 have a := (Tp.inb_iff _ _ _).1 h2
 have b := (Tp.inb_iff _ _ _).1 (show Tp.inb s.wth 1 r = true from h7)
 omega
def HY (w : World) (k : Nat) : Prop := k = w.heap.size + 1 + 1 + 1 + 1 ∨ k = w.heap.size + 1 + 1 + 1 + 1 + 1
def HI (_w w4 : World) (bs : List Bd) (B : Bd) (role : Int) (pre : List Ex.Sg) (Y : Nat → Prop) (W : World) : Prop :=
 Kit.Exc (fun _ => False) w4 W ∧ (∀ k, Y k ↔ HY _w k) ∧ ∀ s ∈ pre, heavy bs B role s = false
def HX (w w4 : World) (x : Ex.Wk) (bs : List Bd) (B : Bd) (role : Int) (F : Ex.Sg → Bool) (c : Code) (_pre : List Ex.Sg) (Y : Nat → Prop) (W : World) : Prop :=
 c = .exit 0 ∧ Kit.Exc (HY w) w4 W ∧ (∀ k, Y k ↔ HY w k) ∧ ∃ i s, (i < x.sg.length ∧ x.sg.getD i default = s ∧ F s = true) ∧ (∀ t ∈ (x.sg.take i).filter F, heavy bs B role t = false) ∧ heavy bs B role s = true ∧
  (W.cell? ⟨w.heap.size + 1 + 1 + 1 + 1, 0, none⟩ = some (.int .i64 s.id) ∧ W.cell? ⟨w.heap.size + 1 + 1 + 1 + 1 + 1, 0, none⟩ = some (.bool true)) ∧
  (W.frozen? ⟨w.heap.size + 1 + 1 + 1 + 1, 0, none⟩ = false ∧ W.frozen? ⟨w.heap.size + 1 + 1 + 1 + 1 + 1, 0, none⟩ = false)
theorem set2 {W : World} (b : Nat) (v1 v2 a8 a9 : Value) (k8 : W.cell? ⟨b, 0, none⟩ = some a8) (k9 : W.cell? ⟨b + 1, 0, none⟩ = some a9) (f8 : W.frozen? ⟨b, 0, none⟩ = false) (f9 : W.frozen? ⟨b + 1, 0, none⟩ = false) (W5 : World)
  (h5 : (W.setCell ⟨b, 0, none⟩ v1).setCell ⟨b + 1, 0, none⟩ v2 = W5) :
  (W5.cell? ⟨b, 0, none⟩ = some v1 ∧ W5.cell? ⟨b + 1, 0, none⟩ = some v2) ∧ (W5.frozen? ⟨b, 0, none⟩ = false ∧ W5.frozen? ⟨b + 1, 0, none⟩ = false) ∧ Kit.Exc (fun k => k = b ∨ k = b + 1) W W5 := by
 subst h5
 refine ⟨⟨by simp [Kit.cell_set, k8], by simp [Kit.cell_set, k9]⟩, ⟨by rw [World.frozen?_setCell, World.frozen?_setCell]; exact f8, by rw [World.frozen?_setCell, World.frozen?_setCell]; exact f9⟩, ?_⟩
 exact ((Kit.Exc.refl _ W).setCell (p := ⟨b, 0, none⟩) (.inl (.inl rfl)) v1).setCell (p := ⟨b + 1, 0, none⟩) (.inl (.inr rfl)) v2
theorem set2d {W : World} (b : Nat) (v1 v2 a8 a9 : Value) (k8 : W.cell? ⟨b, 0, none⟩ = some a8) (k9 : W.cell? ⟨b + 1, 0, none⟩ = some a9) (f8 : W.frozen? ⟨b, 0, none⟩ = false) (f9 : W.frozen? ⟨b + 1, 0, none⟩ = false) (W5 : World)
  (h5 : ((W.setCell ⟨b, 0, none⟩ v1).setCell ⟨b + 1, 0, none⟩ v2).drew = W5) :
  (W5.cell? ⟨b, 0, none⟩ = some v1 ∧ W5.cell? ⟨b + 1, 0, none⟩ = some v2) ∧ Kit.Exc (fun k => k = b ∨ k = b + 1) W W5 := by
 obtain ⟨h1, _, h2⟩ := set2 b v1 v2 a8 a9 k8 k9 f8 f9 _ rfl
 subst h5
 exact ⟨h1, h2.drew⟩
theorem HI.keep {w w4 : World} {bs : List Bd} {B : Bd} {role : Int} {pre : List Ex.Sg} {Y : Nat → Prop} {A C : World} {S : Nat → Prop} (h : HI w w4 bs B role pre Y A) (hx : Kit.Exc S A C) (_hS : ∀ k, Y k → ¬ S k) (hw : ∀ k, S k → w4.heap.size ≤ k) : HI w w4 bs B role pre Y C :=
 ⟨exc_on h.1 hx (fun b hb _ hs => by have := hw b hs; omega), h.2.1, h.2.2⟩
theorem HX.keep {w w4 : World} {x : Ex.Wk} {bs : List Bd} {B : Bd} {role : Int} {F : Ex.Sg → Bool} {c : Code} {pre : List Ex.Sg} {Y : Nat → Prop} {A C : World} {S : Nat → Prop} (h : HX w w4 x bs B role F c pre Y A) (hx : Kit.Exc S A C) (hS : ∀ k, Y k → ¬ S k) (hw : ∀ k, S k → w4.heap.size ≤ k) : HX w w4 x bs B role F c pre Y C := by
 obtain ⟨h1, h2, h3, i, s, h4, h5, h6, ⟨c8, c9⟩, f8, f9⟩ := h
 have hlt : ∀ k v, A.cell? ⟨k, 0, none⟩ = some v → k < A.heap.size := fun k v hc => by
  unfold World.cell? at hc
  rcases hq : A.heap[k]? with _ | o
  ·simp [hq] at hc
  ·exact (Array.getElem?_eq_some_iff.1 hq).1
 have hb : ∀ k v, A.cell? ⟨k, 0, none⟩ = some v → Y k → C.heap[k]? = A.heap[k]? := fun k v hc hk => hx.block k (hlt k v hc) (hS k hk)
 have y8 := (h3 _).2 (.inl rfl)
 have y9 := (h3 _).2 (.inr rfl)
 exact ⟨h1, exc_on h2 hx (fun b hb _ hs => by have := hw b hs; omega), h3, i, s, h4, h5, h6, ⟨(World.cell?_of_block (hb _ _ c8 y8)).trans c8, (World.cell?_of_block (hb _ _ c9 y9)).trans c9⟩,
  (World.frozen?_of_block (hb _ _ c8 y8)).trans f8, (World.frozen?_of_block (hb _ _ c9 y9)).trans f9⟩
end Un
theorem un_heavy (x : Ex.Wk) (p : Ex.Wa) (w : World) (ha : Ex.At w x p) (hg : Ex.Good x) (bs : List Un.Bd) (a : Option Addr) (c : Nat) (hS : Tp.Sl w a bs.length 17 (Un.bdF bs)) (hln : bs.length = x.ro.length) (B : Un.Bd) (role bar : Int) :
  Calls Tryz.prog 38 #[Ex.workV x p, .slice a bs.length c, .agg (Un.bdA B), .int .i64 role, .int .i64 bar] w fun e w' => e = .returned (.tuple #[.int .i64 (Un.heavyR x bs B role bar).1, .bool (Un.heavyR x bs B role bar).2]) ∧ Below w.heap.size w w' := by
 obtain ⟨R, hR⟩ : ∃ R, Un.heavyR x bs B role bar = R := ⟨_, rfl⟩
 rw [hR]
 have HRR := qh hR
 have hl64 := hg.roles
 have HFIT := qh (show ∀ k ∈ x.sg, k.kind = 7 → (0 ≤ k.role ∧ k.role < bs.length) ∧ (1 ≤ k.wth ∧ k.wth ≤ bs.length) from fun k hk h7 => by rw [hln]; exact Un.lift_fit (hg.oks k hk) h7)
 have hl4 := hg.len
 have HA := qh ha
 have HS := qh hS
 have HI := qh (show (Tryz.prog.info? 36).map (·.size) = some (Un.bdA B).toList.length by kernel_rfl)
 have HLN := qh hln
 have hlb : bs.length ≤ 64 := by omega
 clear hR ha hS hg hln
 have hfold : Array.foldl (fun cs x => cs.setIfInBounds x.snd x.fst) Un.bdZ (Un.bdA B).zipIdx 0 17 = Un.bdA B := by kernel_rfl
 unfold Un.bdZ at hfold
 have hs17 : (Un.bdA B).size = 17 := rfl
 refine Kit.calls_of_wp_marks Tryz.func38 rfl ?_
 simp only [Tryz.ntmps38, List.size_toArray, List.length_cons, List.length_nil, Nat.reduceAdd, Nat.reduceSub, Array.replicate_succ, Array.replicate_zero, List.push_toArray, List.append_toArray, List.nil_append, List.cons_append]
 go_upto_region 2 with fail
 refine Kit.wp_name ?_
 intro W1 hW1
 have HB1 := qh (show Below w.heap.size w W1 by rw [hW1]; exact Kit.gr)
 have hz1 : W1.heap.size = w.heap.size + 6 := by rw [hW1]; simp
 have W1F := qh (show W1.cell? ⟨w.heap.size + 1, 0, none⟩ = some (.slice a bs.length c) ∧ W1.cell? ⟨w.heap.size + 1 + 1 + 1, 0, none⟩ = some (.int .i64 role) ∧ W1.cell? ⟨w.heap.size + 1 + 1 + 1 + 1, 0, none⟩ = some (.int .i64 0) ∧ W1.cell? ⟨w.heap.size + 1 + 1 + 1 + 1 + 1, 0, none⟩ = some (.bool false) ∧ W1.frozen? ⟨w.heap.size + 1 + 1 + 1 + 1, 0, none⟩ = false ∧ W1.frozen? ⟨w.heap.size + 1 + 1 + 1 + 1 + 1, 0, none⟩ = false by
  rw [hW1]; simp [go_sem])
 have R1 := qh (show W1.rangeAt (w.heap.size + 1 + 1) 0 (Un.bdA B).toList by
  have h := Kit.range_alloc ((w.alloc (.cells (Un.wkC x p) 32)).alloc (.cells #[.slice a bs.length c] 33)) (Un.bdA B) 36
  rw [World.size_alloc, World.size_alloc] at h
  rw [hW1]
  exact Kit.range_kept h ((((Below.refl _ _).alloc nlr _).alloc (by simp) _).alloc (by simp) _) (by simp))
 have WK1 : ∀ j, W1.cell? ⟨w.heap.size, j, none⟩ = (Un.wkC x p)[j]? := fun j => by rw [hW1]; simp [go_sem]
 clear hW1 hfold hs17
 have HZ1 := qh hz1
 have hzw : w.heap.size < W1.heap.size := by omega
 clear hz1
 go_step3
 go_wp2_with fail
 go_step3
 go_wp2_with fail
 refine (un_rem x p bar 79 #[] _).mono ?_
 rintro _ w4 ⟨rfl, hw4⟩
 have HX4 := qh (show Below W1.heap.size W1 w4 by rw [hw4]; exact Kit.gr)
 have hz4 : w4.heap.size = W1.heap.size + 4 := by rw [hw4]; simp
 have D4 := qh (show w4.cell? ⟨W1.heap.size, 0, none⟩ = some (.func (.func 78) #[] #[.pointer (some ⟨w.heap.size + 1 + 1 + 1, 0, none⟩), .pointer (some ⟨w.heap.size + 1 + 1, 0, none⟩), .pointer (some ⟨w.heap.size + 1, 0, none⟩)]) ∧ w4.cell? ⟨W1.heap.size + 1, 10, none⟩ = some (.slice p.aG x.sg.length p.cG) ∧ w4.cell? ⟨W1.heap.size + 1 + 1, 0, none⟩ = some (.int .i64 bar) ∧ w4.cell? ⟨W1.heap.size + 1 + 1 + 1, 0, none⟩ = some (.func (.func 79) #[] #[]) by rw [hw4]; simp [go_sem])
 clear hw4 WK1
 have HB4 := qh (HB1.out.trans (HX4.out.mono HB1.out.size))
 have HZ4 := qh hz4
 clear hz4
 have HSB := qh (show ∀ ad, p.aG = some ad → x.sg.length ≠ 0 → ad.block < w.heap.size from fun ad e hne => by
  rcases HA.out.sg with h | ⟨ad', e', h, _⟩
  ·exact absurd h hne
  ·rw [e] at e'; cases e'; exact h)
 have hlt4 : ∀ q, q < 4 → W1.heap.size + q < w4.heap.size := fun q hq => by rw [HZ4.out]; omega
 have HIT := un_iter 2 omg (W1.heap.size + 1) (W1.heap.size + 1 + 1) (W1.heap.size + 1 + 1 + 1) x.sg p.aG p.cG bar 79 #[] (fun k => k.kind == 7) (fun k => x.sg.length ≠ 0 ∧ ∃ ad, p.aG = some ad ∧ k = ad.block) w4 D4.out.2.1 D4.out.2.2.1 D4.out.2.2.2 (hlt4 1 omg) (hlt4 2 omg) (hlt4 3 omg) (HA.out.sg.kept HB4.out nlr) hl4 (enters_of Tryz.func79 (by kernel_rfl) rfl)
  (fun k ⟨hne, ad, e, hk⟩ => by rw [hk]; exact Nat.lt_of_lt_of_le (HSB.out ad e hne) HB4.out.size) (fun ad e hne => ⟨hne, ad, e, rfl⟩) (fun k W' _ => by simpa only [Array.append_empty] using un_lift1 k W')
 clear hlt4
 go_wp2_with fail
 refine Kit.wp_rangeR rfl (enters_of Tryz.func70 (by kernel_rfl) rfl) HIT (fun _ => rfl)
  (Un.HI w w4 bs B role) (Un.HX w w4 x bs B role (Un.keep bar fun k => k.kind == 7)) (fun pre e a' Y W => Un.HI w w4 bs B role pre Y W ∧ ∃ b13, w4.heap.size + 2 ≤ b13 ∧ W.heap[b13]? = some (.cells #[.int .i64 e.id, .int .i64 e.role, .int .i64 e.bar, .int .i64 e.mark, .int .i64 e.kind, .int .i64 e.side, .int .i64 e.dir, .int .i64 e.level, .int .i64 e.size, .int .i64 e.wth, .int .i64 e.fn, .int .i64 e.fd, .int .i64 e.tn, .int .i64 e.td] 52 (0, 0)) ∧ ¬ Y b13 ∧ a' = { tmps := #[Ex.workV x p, .slice a bs.length c, .agg (Un.bdA B), .int .i64 role, .int .i64 bar, .pointer (some ⟨w.heap.size, 0, none⟩), .pointer (some ⟨w.heap.size + 1, 0, none⟩), .pointer (some ⟨w.heap.size + 1 + 1, 0, none⟩), .pointer (some ⟨w.heap.size + 1 + 1 + 1, 0, none⟩), undef, .pointer (some ⟨w.heap.size + 1 + 1 + 1 + 1, 0, none⟩), .pointer (some ⟨w.heap.size + 1 + 1 + 1 + 1 + 1, 0, none⟩), .pointer (some ⟨W1.heap.size, 0, none⟩), .pointer (some ⟨b13, 0, none⟩), undef, undef, .func (.func 78) #[] #[.pointer (some ⟨w.heap.size + 1 + 1 + 1, 0, none⟩), .pointer (some ⟨w.heap.size + 1 + 1, 0, none⟩), .pointer (some ⟨w.heap.size + 1, 0, none⟩)], .agg (Un.wkC x p), .int .i64 bar, .func (.func 70) #[] #[.pointer (some ⟨W1.heap.size + 1, 0, none⟩), .pointer (some ⟨W1.heap.size + 1 + 1, 0, none⟩), .pointer (some ⟨W1.heap.size + 1 + 1 + 1, 0, none⟩)], Ex.sgV e, undef, undef, undef, undef, undef, undef, undef, undef, undef, undef, undef, undef, undef, undef, undef, undef, undef, undef, undef, undef, undef, undef, undef, undef, undef, undef, undef, undef, undef, undef, undef, undef, undef], defers := [] })
  (Un.HY w) (fun _ h => h.elim) (fun k hk => ⟨by have h1 := HZ1.out; have h2 := HZ4.out; rcases hk with rfl | rfl <;> omega, fun h => h.elim, fun h => by
   have h1 := HZ1.out
   have hk3 : w.heap.size ≤ k ∧ k < W1.heap.size := by rcases hk with rfl | rfl <;> omega
   rcases h with rfl | rfl | rfl | ⟨hne, ad, e, rfl⟩
   ·omega
   ·omega
   ·omega
   ·have := HSB.out ad e hne; omega⟩)
  (fun pre Y A C h hx => h.keep hx (fun k hk hS => hS.elim False.elim (fun h => h.2 hk)) (fun k hk => hk.elim False.elim (fun h => h.1)))
  (fun cc pre Y A C h hx => h.keep hx (fun k hk hS => hS.elim False.elim (fun h => h.2 hk)) (fun k hk => hk.elim False.elim (fun h => h.1)))
  (fun pre e a' Y A C h hx => ⟨h.1.keep hx (fun k hk hS => by have h1 := HZ1.out; have h2 := HZ4.out; have := (h.1.2.1 k).1 hk; rcases this with rfl | rfl <;> omega) (fun k hk => hk.1), by
   obtain ⟨b13, h7, hh, hn, e7⟩ := h.2
   exact ⟨b13, h7, hx.heap hh omg, hn, e7⟩⟩)
  ⟨Kit.Exc.refl _ _, fun k => Iff.rfl, fun s hs => by cases hs⟩ ?assign ?body ?done ?stop
 case assign =>
  intro l' pre e Y W hI hok hY hs
  have HI := qh hI
  have HY := qh hY
  clear hI hY hok
  gi_wp2
  exact ⟨Y, (Kit.Exc.refl _ _).alloc _, fun k hk => ⟨.inl hk, by have := HY.out k hk; simp; omega⟩, HI.out.keep ((Kit.Exc.refl (fun _ => False) W).alloc _) (fun _ _ h => h) (fun _ h => h.elim),
   W.heap.size, hs, World.alloc_heap_new W _, fun h => by have := HY.out _ h; omega, rfl⟩
 case body =>
  rintro l' pre e a' Y W hl' hrec ⟨⟨hE, hYY, hall⟩, b13, hb13, hc13, hn13, rfl⟩ hok hY
  obtain ⟨i, hi, hpre, hie, hke⟩ := hok
  have hmem : e ∈ x.sg := by rw [← hie, List.getD_eq_getElem?_getD, List.getElem?_eq_getElem hi]; exact List.getElem_mem hi
  have hk7 : e.kind = 7 := by
   unfold Un.keep at hke
   rw [Bool.and_eq_true] at hke
   simpa using hke.2
  have hfit := HFIT.out e hmem hk7
  have hB4W : Below w4.heap.size w4 W := hE.below nlr (fun _ h => h.elim)
  have hB1W : Below W1.heap.size W1 W := HX4.out.trans (hB4W.mono HX4.out.size)
  have hz1 := HZ1.out
  have hz4 := HZ4.out
  have hzW := hB4W.size
  have FX := qh (show ∀ X, Below W.heap.size W X → X.cell? ⟨w.heap.size + 1 + 1 + 1, 0, none⟩ = some (.int .i64 role) ∧ X.cell? ⟨W1.heap.size, 0, none⟩ = some (.func (.func 78) #[] #[.pointer (some ⟨w.heap.size + 1 + 1 + 1, 0, none⟩), .pointer (some ⟨w.heap.size + 1 + 1, 0, none⟩), .pointer (some ⟨w.heap.size + 1, 0, none⟩)]) ∧ X.cell? ⟨b13, 1, none⟩ = some (.int .i64 e.role) ∧ X.cell? ⟨b13, 9, none⟩ = some (.int .i64 e.wth) from fun X hX => by
   have h13 := (Array.getElem?_eq_some_iff.1 hc13).1
   refine ⟨(hX.cell (by simp; omega)).trans ((hB1W.cell (by simp; omega)).trans W1F.out.2.1), (hX.cell (by simp; omega)).trans ((hB4W.cell (by simp; omega)).trans D4.out.1), (hX.cell (by simp; omega)).trans (by simp [World.cell?, hc13]), (hX.cell (by simp; omega)).trans (by simp [World.cell?, hc13])⟩)
  have HWHO := qh (show ∀ X, Below W.heap.size W X → ∀ r, (r = role ∨ (0 ≤ r ∧ r < bs.length)) → Calls Tryz.prog 78 #[.int .i64 r, .pointer (some ⟨w.heap.size + 1 + 1 + 1, 0, none⟩), .pointer (some ⟨w.heap.size + 1 + 1, 0, none⟩), .pointer (some ⟨w.heap.size + 1, 0, none⟩)] X fun E w' => E = .returned (.agg (Un.bdA (Un.who bs B role r))) ∧ Below X.heap.size X w' from fun X hX r hr => by
   have hBX : Below W1.heap.size W1 X := hB1W.trans (hX.mono hB1W.size)
   have hs := hBX.size
   exact un_who bs B role r _ _ _ a c X ((hBX.cell (by simp; omega)).trans W1F.out.2.1) (Kit.range_kept R1.out hBX omg) ((hBX.cell (by simp; omega)).trans W1F.out.1) (HS.out.kept (HB1.out.trans (hBX.mono HB1.out.size)) nlr) omg omg omg omg hr)
  have f1 : W.cell? ⟨b13, 1, none⟩ = some (.int .i64 e.role) := by simp [World.cell?, hc13]
  have f9 : W.cell? ⟨b13, 9, none⟩ = some (.int .i64 e.wth) := by simp [World.cell?, hc13]
  have f0 : W.cell? ⟨b13, 0, none⟩ = some (.int .i64 e.id) := by simp [World.cell?, hc13]
  have z13 := (Array.getElem?_eq_some_iff.1 hc13).1
  have r8 : W.cell? ⟨w.heap.size + 1 + 1 + 1 + 1, 0, none⟩ = some (.int .i64 0) := (hB1W.cell (by simp; omega)).trans W1F.out.2.2.1
  have r9 : W.cell? ⟨w.heap.size + 1 + 1 + 1 + 1 + 1, 0, none⟩ = some (.bool false) := (hB1W.cell (by simp; omega)).trans W1F.out.2.2.2.1
  have g8 : W.frozen? ⟨w.heap.size + 1 + 1 + 1 + 1, 0, none⟩ = false := (World.frozen?_of_block (hB1W.block _ (by show w.heap.size + 1 + 1 + 1 + 1 < _; omega))).trans W1F.out.2.2.2.2.1
  have g9 : W.frozen? ⟨w.heap.size + 1 + 1 + 1 + 1 + 1, 0, none⟩ = false := (World.frozen?_of_block (hB1W.block _ (by show w.heap.size + 1 + 1 + 1 + 1 + 1 < _; omega))).trans W1F.out.2.2.2.2.2
  have HEX := qh hE
  have HYY := qh hYY
  have HAL := qh hall
  have HPR := qh hpre
  have HIE := qh hie
  have HKE := qh hke
  have HYL := qh hY
  have HZW := qh (And.intro hz1 (And.intro hz4 hzW))
  have HF2 := qh hfit
  have HR8 := qh (And.intro r8 (And.intro r9 (And.intro g8 g9)))
  have hwz : ∀ y : Int, IntKind.i64.wrap (e.wth - 1) = e.wth - 1 := fun _ => by rw [IntKind.wrap_i64] <;> omega
  have hwb : 1 ≤ e.wth ∧ e.wth ≤ 64 := by omega
  clear hE hYY hall hpre hie hke hY hB4W hB1W hc13 hmem hk7 hfit hz1 hz4 hzW r8 r9 g8 g9 hwz
  dsimp only
  obtain ⟨C1, hC1⟩ : ∃ C, Un.who bs B role e.role = C := ⟨_, rfl⟩
  obtain ⟨C2, hC2⟩ : ∃ C, Un.who bs B role (e.wth - 1) = C := ⟨_, rfl⟩
  have HW1 := qh (show ∀ X, Below W.heap.size W X → Calls Tryz.prog 78 #[.int .i64 e.role, .pointer (some ⟨w.heap.size + 1 + 1 + 1, 0, none⟩), .pointer (some ⟨w.heap.size + 1 + 1, 0, none⟩), .pointer (some ⟨w.heap.size + 1, 0, none⟩)] X fun E w' => E = .returned (.agg #[.string C1.name, .int .i64 C1.weight, .int .i64 C1.lift, .int .i64 C1.girth, .int .i64 C1.step, .int .i64 C1.jump, .int .i64 C1.r0, .int .i64 C1.r1, .int .i64 C1.r2, .int .i64 C1.s0, .int .i64 C1.s1, .int .i64 C1.s2, .int .i64 C1.t0, .int .i64 C1.t1, .int .i64 C1.t2, .int .i64 C1.effort, .int .i64 C1.recover]) ∧ Below X.heap.size X w' from fun X hX => by
   have h := HWHO.out X hX e.role (.inr HF2.out.1)
   rw [hC1] at h
   exact h)
  have HW2 := qh (show ∀ X, Below W.heap.size W X → Calls Tryz.prog 78 #[.int .i64 (e.wth - 1), .pointer (some ⟨w.heap.size + 1 + 1 + 1, 0, none⟩), .pointer (some ⟨w.heap.size + 1 + 1, 0, none⟩), .pointer (some ⟨w.heap.size + 1, 0, none⟩)] X fun E w' => E = .returned (.agg #[.string C2.name, .int .i64 C2.weight, .int .i64 C2.lift, .int .i64 C2.girth, .int .i64 C2.step, .int .i64 C2.jump, .int .i64 C2.r0, .int .i64 C2.r1, .int .i64 C2.r2, .int .i64 C2.s0, .int .i64 C2.s1, .int .i64 C2.s2, .int .i64 C2.t0, .int .i64 C2.t1, .int .i64 C2.t2, .int .i64 C2.effort, .int .i64 C2.recover]) ∧ Below X.heap.size X w' from fun X hX => by
   have h := HWHO.out X hX (e.wth - 1) (.inr ⟨by omega, by have := HF2.out.2.2; omega⟩)
   rw [hC2] at h
   exact h)
  have fd2 : ∀ w, (Instr.field 36 (.agg #[.string C2.name, .int .i64 C2.weight, .int .i64 C2.lift, .int .i64 C2.girth, .int .i64 C2.step, .int .i64 C2.jump, .int .i64 C2.r0, .int .i64 C2.r1, .int .i64 C2.r2, .int .i64 C2.s0, .int .i64 C2.s1, .int .i64 C2.s2, .int .i64 C2.t0, .int .i64 C2.t1, .int .i64 C2.t2, .int .i64 C2.effort, .int .i64 C2.recover]) 1).run Tryz.prog w = .ok (.int .i64 C2.weight) w := fun _ => by kernel_rfl
  have fd1 : ∀ w, (Instr.field 36 (.agg #[.string C1.name, .int .i64 C1.weight, .int .i64 C1.lift, .int .i64 C1.girth, .int .i64 C1.step, .int .i64 C1.jump, .int .i64 C1.r0, .int .i64 C1.r1, .int .i64 C1.r2, .int .i64 C1.s0, .int .i64 C1.s1, .int .i64 C1.s2, .int .i64 C1.t0, .int .i64 C1.t1, .int .i64 C1.t2, .int .i64 C1.effort, .int .i64 C1.recover]) 2).run Tryz.prog w = .ok (.int .i64 C1.lift) w := fun _ => by kernel_rfl
  obtain ⟨hv, hhv⟩ : ∃ b, decide (C1.lift < C2.weight) = b := ⟨_, rfl⟩
  have HEV := qh (show Un.heavy bs B role e = ((e.role == role || e.wth - 1 == role) && hv) by unfold Un.heavy; rw [hC1, hC2, hhv])
  clear hC1 hC2 HWHO
  gi_wp2
  refine Kit.wpIn_name ?_
  intro WL hWL
  have HBWL := qh (show Below W.heap.size W WL by rw [hWL]; exact (Below.refl _ _).alloc nlr _)
  have s0 : WL.cell? ⟨W.heap.size, 0, none⟩ = some (.int .i64 e.role) := by rw [hWL]; simp [go_sem]
  have s1 : WL.cell? ⟨W.heap.size, 1, none⟩ = some (.int .i64 (e.wth - 1)) := by rw [hWL]; simp [go_sem]
  have hwl : W.heap.size < WL.heap.size := by rw [hWL]; simp
  clear hWL f1 f9
  gi_loopw [28] (fun v28 wr => ∃ j : Nat, v28 = .int .i64 j ∧ j ≤ 2 ∧ Hid (Below WL.heap.size WL wr) ∧ Hid ((1 ≤ j → ((e.role == role) && hv) = false) ∧ (2 ≤ j → ((e.wth - 1 == role) && hv) = false)))
   (fun v28 _ => 2 - (intOf v28).toNat)
  case atStart => exact ⟨0, rfl, by omega, qh (Below.refl _ _), qh ⟨fun h => by omega, fun h => by omega⟩⟩
  case round =>
   obtain ⟨j, rfl, hj, HBR, HJ⟩ := hrel
   rcases (by omega : j = 0 ∨ j = 1 ∨ j = 2) with rfl | rfl | rfl
   ·have e0 : wr.cell? ⟨W.heap.size, 0, none⟩ = some (.int .i64 (e.role)) := (HBR.out.cell (by simp; omega)).trans s0
    have KZ : ∀ z : Kit.Wd wr, z.val.cell? ⟨w.heap.size + 1 + 1 + 1, 0, none⟩ = some (.int .i64 role) ∧ z.val.cell? ⟨W1.heap.size, 0, none⟩ = some (.func (.func 78) #[] #[.pointer (some ⟨w.heap.size + 1 + 1 + 1, 0, none⟩), .pointer (some ⟨w.heap.size + 1 + 1, 0, none⟩), .pointer (some ⟨w.heap.size + 1, 0, none⟩)]) ∧ z.val.cell? ⟨b13, 1, none⟩ = some (.int .i64 e.role) ∧ z.val.cell? ⟨b13, 9, none⟩ = some (.int .i64 e.wth) := fun z => FX.out z.val (HBWL.out.trans ((HBR.out.trans (z.below.mono HBR.out.size)).mono HBWL.out.size))
    have q1 := fun z => (KZ z).1
    have q2 := fun z => (KZ z).2.1
    have q3 := fun z => (KZ z).2.2.1
    have q4 := fun z => (KZ z).2.2.2
    gi_upto_region 7 with fail
    rcases g0 : ((e.role) == role) with _ | _
    ·refine Kit.wpIn_region_reads (by rintro ⟨_, _, h⟩; exact h) (by kernel_rfl) (by kernel_rfl) (by kernel_rfl) ?_
     (repeat (go_big_quiet_step (fail)))
     refine wpQuiet_nil ?_
     intro z
     have HBZ := qh (HBR.out.trans (z.below.mono HBR.out.size))
     clear KZ q1 q2 q3 q4 e0
     gi_wp2
     go_roundw
     case rel => exact ⟨1, by go_num, by omega, HBZ, qh ⟨fun _ => by rw [g0]; rfl, fun h => by omega⟩⟩
     case measure => simp [intOf]
    ·have A1 := qh (fun z : Kit.Wd wr => HW1.out z.val (HBWL.out.trans ((HBR.out.trans (z.below.mono HBR.out.size)).mono HBWL.out.size)))
     have A2 := qh (fun z : Kit.Wd wr => HW2.out z.val (HBWL.out.trans ((HBR.out.trans (z.below.mono HBR.out.size)).mono HBWL.out.size)))
     refine Kit.wpIn_region_reads (by rintro ⟨_, _, h⟩; exact h) (by kernel_rfl) (by kernel_rfl) (by kernel_rfl) ?_
     (repeat (go_big_quiet_step (first | (with_reducible exact Kit.calls_cls _ (A1.out _)) | (with_reducible exact Kit.calls_cls _ (A2.out _)))))
     refine wpQuiet_nil ?_
     intro z
     have HBZ := qh (HBR.out.trans (z.below.mono HBR.out.size))
     clear KZ q1 q2 q3 q4 e0 A1 A2
     rcases hv with _ | _
     ·gi_wp2
      go_roundw
      case rel => exact ⟨1, by go_num, by omega, HBZ, qh ⟨fun _ => by simp, fun h => by omega⟩⟩
      case measure => simp [intOf]
     ·have HHV := qh (show Un.heavy bs B role e = true by rw [HEV.out, g0]; simp)
      have HBZW := qh (HBWL.out.trans (HBZ.out.mono HBWL.out.size))
      generalize z.val = Z at *
      have r8 : Z.cell? ⟨w.heap.size + 1 + 1 + 1 + 1, 0, none⟩ = some (.int .i64 0) := (HBZW.out.cell (by have := HZW.out; simp; omega)).trans HR8.out.1
      have r9 : Z.cell? ⟨w.heap.size + 1 + 1 + 1 + 1 + 1, 0, none⟩ = some (.bool false) := (HBZW.out.cell (by have := HZW.out; simp; omega)).trans HR8.out.2.1
      have g8 : Z.frozen? ⟨w.heap.size + 1 + 1 + 1 + 1, 0, none⟩ = false := (World.frozen?_of_block (HBZW.out.block _ (by have := HZW.out; show w.heap.size + 1 + 1 + 1 + 1 < _; omega))).trans HR8.out.2.2.1
      have g9 : Z.frozen? ⟨w.heap.size + 1 + 1 + 1 + 1 + 1, 0, none⟩ = false := (World.frozen?_of_block (HBZW.out.block _ (by have := HZW.out; show w.heap.size + 1 + 1 + 1 + 1 + 1 < _; omega))).trans HR8.out.2.2.2
      have f0z : Z.cell? ⟨b13, 0, none⟩ = some (.int .i64 e.id) := (HBZW.out.cell (by exact z13)).trans f0
      clear HBZ
      gi_wp2
      obtain ⟨W5, hW5⟩ : ∃ W5, (Z.setCell ⟨w.heap.size + 1 + 1 + 1 + 1, 0, none⟩ (.int .i64 e.id)).setCell ⟨w.heap.size + 1 + 1 + 1 + 1 + 1, 0, none⟩ (.bool true) = W5 := ⟨_, rfl⟩
      obtain ⟨q8, q9, hx5⟩ := Un.set2 (w.heap.size + 1 + 1 + 1 + 1) _ _ _ _ r8 r9 g8 g9 W5 hW5
      rw [hW5]
      exact ⟨Y, ((Kit.Exc.refl Y W).then HBZW.out).trans (hx5.mono fun k _ hk => (HYY.out k).2 hk), fun k hk => ⟨.inl hk, by have h1 := HYL.out k hk; have h2 := hx5.size; have h3 := HBZW.out.size; omega⟩,
       rfl, Un.exc_on (S := Un.HY w) ((Un.exc_on HEX.out ((Kit.Exc.refl (fun _ => False) W).then HBZW.out) (fun _ _ _ h => h)).mono (fun _ _ h => h.elim)) hx5 (fun _ _ h1 h2 => h1 h2), HYY.out, i, e, ⟨hi, HIE.out, HKE.out⟩, (by rw [← HPR.out]; exact HAL.out), HHV.out, q8, q9⟩
   ·have e0 : wr.cell? ⟨W.heap.size, 1, none⟩ = some (.int .i64 (e.wth - 1)) := (HBR.out.cell (by simp; omega)).trans s1
    have KZ : ∀ z : Kit.Wd wr, z.val.cell? ⟨w.heap.size + 1 + 1 + 1, 0, none⟩ = some (.int .i64 role) ∧ z.val.cell? ⟨W1.heap.size, 0, none⟩ = some (.func (.func 78) #[] #[.pointer (some ⟨w.heap.size + 1 + 1 + 1, 0, none⟩), .pointer (some ⟨w.heap.size + 1 + 1, 0, none⟩), .pointer (some ⟨w.heap.size + 1, 0, none⟩)]) ∧ z.val.cell? ⟨b13, 1, none⟩ = some (.int .i64 e.role) ∧ z.val.cell? ⟨b13, 9, none⟩ = some (.int .i64 e.wth) := fun z => FX.out z.val (HBWL.out.trans ((HBR.out.trans (z.below.mono HBR.out.size)).mono HBWL.out.size))
    have q1 := fun z => (KZ z).1
    have q2 := fun z => (KZ z).2.1
    have q3 := fun z => (KZ z).2.2.1
    have q4 := fun z => (KZ z).2.2.2
    gi_upto_region 7 with fail
    rcases g0 : ((e.wth - 1) == role) with _ | _
    ·refine Kit.wpIn_region_reads (by rintro ⟨_, _, h⟩; exact h) (by kernel_rfl) (by kernel_rfl) (by kernel_rfl) ?_
     (repeat (go_big_quiet_step (fail)))
     refine wpQuiet_nil ?_
     intro z
     have HBZ := qh (HBR.out.trans (z.below.mono HBR.out.size))
     clear KZ q1 q2 q3 q4 e0
     gi_wp2
     go_roundw
     case rel => exact ⟨2, by go_num, by omega, HBZ, qh ⟨fun _ => HJ.out.1 omg, fun _ => by rw [g0]; rfl⟩⟩
     case measure => simp [intOf]
    ·have A1 := qh (fun z : Kit.Wd wr => HW1.out z.val (HBWL.out.trans ((HBR.out.trans (z.below.mono HBR.out.size)).mono HBWL.out.size)))
     have A2 := qh (fun z : Kit.Wd wr => HW2.out z.val (HBWL.out.trans ((HBR.out.trans (z.below.mono HBR.out.size)).mono HBWL.out.size)))
     refine Kit.wpIn_region_reads (by rintro ⟨_, _, h⟩; exact h) (by kernel_rfl) (by kernel_rfl) (by kernel_rfl) ?_
     (repeat (go_big_quiet_step (first | (with_reducible exact Kit.calls_cls _ (A1.out _)) | (with_reducible exact Kit.calls_cls _ (A2.out _)))))
     refine wpQuiet_nil ?_
     intro z
     have HBZ := qh (HBR.out.trans (z.below.mono HBR.out.size))
     clear KZ q1 q2 q3 q4 e0 A1 A2
     rcases hv with _ | _
     ·gi_wp2
      go_roundw
      case rel => exact ⟨2, by go_num, by omega, HBZ, qh ⟨fun _ => HJ.out.1 omg, fun _ => by simp⟩⟩
      case measure => simp [intOf]
     ·have HHV := qh (show Un.heavy bs B role e = true by rw [HEV.out, g0]; simp)
      have HBZW := qh (HBWL.out.trans (HBZ.out.mono HBWL.out.size))
      generalize z.val = Z at *
      have r8 : Z.cell? ⟨w.heap.size + 1 + 1 + 1 + 1, 0, none⟩ = some (.int .i64 0) := (HBZW.out.cell (by have := HZW.out; simp; omega)).trans HR8.out.1
      have r9 : Z.cell? ⟨w.heap.size + 1 + 1 + 1 + 1 + 1, 0, none⟩ = some (.bool false) := (HBZW.out.cell (by have := HZW.out; simp; omega)).trans HR8.out.2.1
      have g8 : Z.frozen? ⟨w.heap.size + 1 + 1 + 1 + 1, 0, none⟩ = false := (World.frozen?_of_block (HBZW.out.block _ (by have := HZW.out; show w.heap.size + 1 + 1 + 1 + 1 < _; omega))).trans HR8.out.2.2.1
      have g9 : Z.frozen? ⟨w.heap.size + 1 + 1 + 1 + 1 + 1, 0, none⟩ = false := (World.frozen?_of_block (HBZW.out.block _ (by have := HZW.out; show w.heap.size + 1 + 1 + 1 + 1 + 1 < _; omega))).trans HR8.out.2.2.2
      have f0z : Z.cell? ⟨b13, 0, none⟩ = some (.int .i64 e.id) := (HBZW.out.cell (by exact z13)).trans f0
      clear HBZ
      gi_wp2
      obtain ⟨W5, hW5⟩ : ∃ W5, (Z.setCell ⟨w.heap.size + 1 + 1 + 1 + 1, 0, none⟩ (.int .i64 e.id)).setCell ⟨w.heap.size + 1 + 1 + 1 + 1 + 1, 0, none⟩ (.bool true) = W5 := ⟨_, rfl⟩
      obtain ⟨q8, q9, hx5⟩ := Un.set2 (w.heap.size + 1 + 1 + 1 + 1) _ _ _ _ r8 r9 g8 g9 W5 hW5
      rw [hW5]
      exact ⟨Y, ((Kit.Exc.refl Y W).then HBZW.out).trans (hx5.mono fun k _ hk => (HYY.out k).2 hk), fun k hk => ⟨.inl hk, by have h1 := HYL.out k hk; have h2 := hx5.size; have h3 := HBZW.out.size; omega⟩,
       rfl, Un.exc_on (S := Un.HY w) ((Un.exc_on HEX.out ((Kit.Exc.refl (fun _ => False) W).then HBZW.out) (fun _ _ _ h => h)).mono (fun _ _ h => h.elim)) hx5 (fun _ _ h1 h2 => h1 h2), HYY.out, i, e, ⟨hi, HIE.out, HKE.out⟩, (by rw [← HPR.out]; exact HAL.out), HHV.out, q8, q9⟩
   ·have HNV := qh (show Un.heavy bs B role e = false by
     rw [HEV.out]
     have h1 := HJ.out.1 omg
     have h2 := HJ.out.2 omg
     cases hv <;> simp_all)
    have HBRW := qh (HBWL.out.trans (HBR.out.mono HBWL.out.size))
    gi_wp2
    exact ⟨Y, (Kit.Exc.refl Y W).then HBRW.out, fun k hk => ⟨.inl hk, by have h1 := HYL.out k hk; have h2 := HBRW.out.size; omega⟩, Un.exc_on HEX.out ((Kit.Exc.refl (fun _ => False) W).then HBRW.out) (fun _ _ _ h => h), HYY.out, fun s hs => by
     rcases List.mem_append.1 hs with h | h
     ·exact HAL.out s h
     ·simp at h; rw [h]; exact HNV.out⟩
 case stop =>
  rintro D cc pre Y W hD hYD hSp ⟨rfl, hE, hYY, i, s, ⟨hi, his, hks⟩, hal, hno, ⟨c8, c9⟩, f8, f9⟩ hK
  have hf := Un.find_of (Un.keep bar fun k => k.kind == 7) (Un.heavy bs B role) x.sg i hi s his hks hal hno
  have hRR : R = (s.id, true) := by
   rw [← HRR.out]
   unfold Un.heavyR
   rw [show (Un.lift bar) = (Un.keep bar fun k => k.kind == 7) from rfl, hf]
  have nD : ∀ k, (k = w.heap.size + 1 + 1 + 1 + 1 ∨ k = w.heap.size + 1 + 1 + 1 + 1 + 1) → k ≠ D := fun k hk e => hYD ((hYY D).2 (e ▸ hk))
  have HK := qh hK
  have HRX := qh hRR
  have HND := qh nD
  have HBW := qh (HB4.out.trans (hE.below (n := w.heap.size) HB4.out.size (fun b hb => by rcases hb with rfl | rfl <;> omega)))
  have HZW := qh (show w.heap.size + 1 + 1 + 1 + 1 + 1 < W.heap.size by have h1 := HZ1.out; have h2 := HZ4.out; have h3 := hE.size; omega)
  clear hE hYY hal hno hf hRR hK nD his hks HIT
  go_wp2_with fail
  go_region
  all_goals
   generalize hW5 : ((W.setCell ⟨w.heap.size + 1 + 1 + 1 + 1, 0, none⟩ (.int .i64 s.id)).setCell ⟨w.heap.size + 1 + 1 + 1 + 1 + 1, 0, none⟩ (.bool true)).drew = W5
   obtain ⟨⟨q8, q9⟩, hx5⟩ := Un.set2d (w.heap.size + 1 + 1 + 1 + 1) _ _ _ _ c8 c9 f8 f9 W5 hW5
   have hK5 : W5.heap[D]? = some (.deferred (some [])) := hx5.heap HK.out (fun h => HND.out D h rfl)
   have hs5 := hx5.size
   have XP : Kit.Exc (fun k => k = D) W5 (W5.putObj D (.deferred none)) := (Kit.Exc.refl _ W5).putObj _ _ (.inl rfl)
   have e8 := XP.cell q8 (HND.out _ (.inl rfl)) (by have := HZW.out; show w.heap.size + 1 + 1 + 1 + 1 < _; omega)
   have e9 := XP.cell q9 (HND.out _ (.inr rfl)) (by have := HZW.out; show w.heap.size + 1 + 1 + 1 + 1 + 1 < _; omega)
   have HB5 := qh (show Below w.heap.size w W5 from HBW.out.trans (hx5.below (n := w.heap.size) HBW.out.size (fun b hb => by rcases hb with rfl | rfl <;> omega)))
   have hDw : w.heap.size ≤ D := by have := HB4.out.size; omega
   clear hW5 c8 c9 f8 f9 hx5 XP
   go_wp2_with fail
   rw [Exit.noGoto_ret]
   exact Kit.post_mark hK5 (by simp [results, Tryz.results38, go_sem, e8, e9]; try rfl) ⟨by rw [HRX.out], Kit.below_putObj HB5.out _ _ hDw⟩
 case done =>
  rintro D xs Y W hD hYD hxs ⟨hE, hYY, hall⟩ hK
  subst hxs
  have hRR : R = (0, false) := by
   rw [← HRR.out]
   unfold Un.heavyR
   rw [show (Un.lift bar) = (Un.keep bar fun k => k.kind == 7) from rfl, List.find?_eq_none.2 (fun t ht => by rw [hall t ht]; simp)]
  have nD : ∀ k, (k = w.heap.size + 1 + 1 + 1 + 1 ∨ k = w.heap.size + 1 + 1 + 1 + 1 + 1) → k ≠ D := fun k hk e => hYD ((hYY D).2 (e ▸ hk))
  have hB1W : Below W1.heap.size W1 W := HX4.out.trans ((hE.below (n := w4.heap.size) nlr (fun _ h => h.elim)).mono HX4.out.size)
  have hz1 := HZ1.out
  have c8 : W.cell? ⟨w.heap.size + 1 + 1 + 1 + 1, 0, none⟩ = some (.int .i64 0) := (hB1W.cell (by simp; omega)).trans W1F.out.2.2.1
  have c9 : W.cell? ⟨w.heap.size + 1 + 1 + 1 + 1 + 1, 0, none⟩ = some (.bool false) := (hB1W.cell (by simp; omega)).trans W1F.out.2.2.2.1
  have f8 : W.frozen? ⟨w.heap.size + 1 + 1 + 1 + 1, 0, none⟩ = false := (World.frozen?_of_block (hB1W.block _ (by show w.heap.size + 1 + 1 + 1 + 1 < _; omega))).trans W1F.out.2.2.2.2.1
  have f9 : W.frozen? ⟨w.heap.size + 1 + 1 + 1 + 1 + 1, 0, none⟩ = false := (World.frozen?_of_block (hB1W.block _ (by show w.heap.size + 1 + 1 + 1 + 1 + 1 < _; omega))).trans W1F.out.2.2.2.2.2
  have HK := qh hK
  have HRX := qh hRR
  have HND := qh nD
  have HBW := qh (HB1.out.trans (hB1W.mono HB1.out.size))
  have HZW := qh (show w.heap.size + 1 + 1 + 1 + 1 + 1 < W.heap.size by have h3 := hB1W.size; omega)
  clear hE hYY hall hRR hK nD hB1W hz1 HIT
  go_wp2_with fail
  go_region
  all_goals
   generalize hW5 : ((W.setCell ⟨w.heap.size + 1 + 1 + 1 + 1, 0, none⟩ (.int .i64 0)).setCell ⟨w.heap.size + 1 + 1 + 1 + 1 + 1, 0, none⟩ (.bool false)).drew = W5
   obtain ⟨⟨q8, q9⟩, hx5⟩ := Un.set2d (w.heap.size + 1 + 1 + 1 + 1) _ _ _ _ c8 c9 f8 f9 W5 hW5
   have hK5 : W5.heap[D]? = some (.deferred (some [])) := hx5.heap HK.out (fun h => HND.out D h rfl)
   have hs5 := hx5.size
   have XP : Kit.Exc (fun k => k = D) W5 (W5.putObj D (.deferred none)) := (Kit.Exc.refl _ W5).putObj _ _ (.inl rfl)
   have e8 := XP.cell q8 (HND.out _ (.inl rfl)) (by have := HZW.out; show w.heap.size + 1 + 1 + 1 + 1 < _; omega)
   have e9 := XP.cell q9 (HND.out _ (.inr rfl)) (by have := HZW.out; show w.heap.size + 1 + 1 + 1 + 1 + 1 < _; omega)
   have HB5 := qh (show Below w.heap.size w W5 from HBW.out.trans (hx5.below (n := w.heap.size) HBW.out.size (fun b hb => by rcases hb with rfl | rfl <;> omega)))
   have hDw : w.heap.size ≤ D := by have := HB4.out.size; omega
   clear hW5 c8 c9 f8 f9 hx5 XP
   go_wp2_with fail
   rw [Exit.noGoto_ret]
   exact Kit.post_mark hK5 (by simp [results, Tryz.results38, go_sem, e8, e9]; try rfl) ⟨by rw [HRX.out], Kit.below_putObj HB5.out _ _ hDw⟩
end Go.Proofs.YtbhgogiaaljclaaGreatDoor

namespace Go.Proofs.YtbhgogiaaljclaaGreatDoor
open Go.RowKit
namespace Un
def liftsE (x : Ex.Wk) (bs : List Bd) (B : Bd) (role bar : Int) : Int :=
 if Ex.chk x ≠ 0 then Ex.chk x else if bs.length ≠ x.ro.length then 480 else firstE [chkB bs, chkB [B], if within x role bar = true then 0 else 1]
def liftsA (x : Ex.Wk) (bs : List Bd) (B : Bd) (role bar : Int) : Int × Bool × Int := if liftsE x bs B role bar = 0 then ((heavyR x bs B role bar).1, !(heavyR x bs B role bar).2, 0) else (0, false, liftsE x bs B role bar)
end Un
theorem un_lifts (x : Ex.Wk) (p : Ex.Wa) (w : World) (hL : Ex.Laid w) (ha : Ex.At w x p) (bs : List Un.Bd) (a : Option Addr) (c : Nat) (hS : Tp.Sl w a bs.length 17 (Un.bdF bs)) (hl : bs.length ≤ 4611686018427387904) (hns : ∀ b ∈ bs, b.name.size ≤ 9223372036854775807) (B : Un.Bd) (hn : B.name.size ≤ 9223372036854775807) (role bar : Int) :
  Calls Tryz.prog 14 #[Ex.workV x p, .slice a bs.length c, .agg (Un.bdA B), .int .i64 role, .int .i64 bar] w fun e w' => e = .returned (.tuple #[.int .i64 (Un.liftsA x bs B role bar).1, .bool (Un.liftsA x bs B role bar).2.1, .int .i64 (Un.liftsA x bs B role bar).2.2]) ∧ Below w.heap.size w w' := by
 obtain ⟨R, hR⟩ : ∃ R, Un.liftsA x bs B role bar = R := ⟨_, rfl⟩
 rw [hR]
 obtain ⟨c0, hc0⟩ : ∃ c0, Ex.chk x = c0 := ⟨_, rfl⟩
 obtain ⟨d0, hd0⟩ : ∃ c, Un.chkB bs = c := ⟨_, rfl⟩
 obtain ⟨d1, hd1⟩ : ∃ c, Un.chkB [B] = c := ⟨_, rfl⟩
 obtain ⟨d2, hd2⟩ : ∃ c, (if Un.within x role bar = true then (0 : Int) else 1) = c := ⟨_, rfl⟩
 obtain ⟨er, her⟩ : ∃ er, Un.firstE [d0, d1, d2] = er := ⟨_, rfl⟩
 have hE : Un.liftsE x bs B role bar = if c0 ≠ 0 then c0 else if bs.length ≠ x.ro.length then 480 else er := by unfold Un.liftsE; rw [hc0, hd0, hd1, hd2, her]
 have H0 := qh (fun W (hW : Below w.heap.size w W) => (by have h := ex_check x p W (ha.kept hW nlr) (hL.kept hW nlr); rwa [hc0] at h : Ex.Chk x p W c0))
 have HHV := qh (fun W (hW : Below w.heap.size w W) (hg : Ex.Good x) (hln : bs.length = x.ro.length) => un_heavy x p W (ha.kept hW nlr) hg bs a c (hS.kept hW nlr) hln B role bar)
 have HGD := qh (show c0 = 0 → Ex.Good x from fun h => Ex.good_of (hc0.trans h))
 have H1 := qh (fun W (hW : Below w.heap.size w W) => (by have h := un_checked bs a c W (hS.kept hW nlr) hl hns; rwa [hd0] at h : Calls Tryz.prog 31 #[.slice a bs.length c] W fun e w' => e = .returned (.int .i64 d0) ∧ Below W.heap.size W w'))
 have H2 := qh (fun W b (hb : W.heap[b]? = some (.cells (Un.bdA B) 36 (0, 0))) => (by have h := un_checked [B] (some ⟨b, 0, none⟩) 1 W (Un.sl_one hb) (by simp) (fun y hy => by simp at hy; rw [hy]; exact hn); rwa [hd1] at h : Calls Tryz.prog 31 #[.slice (some ⟨b, 0, none⟩) 1 1] W fun e w' => e = .returned (.int .i64 d1) ∧ Below W.heap.size W w'))
 have H4 := qh (fun W => (by have h := un_within x p role bar W ha.lro; rwa [hd2] at h : Calls Tryz.prog 30 #[Ex.workV x p, .int .i64 role, .int .i64 bar] W fun e w' => e = .returned (.int .i64 d2) ∧ Below W.heap.size W w'))
 have H3 := qh (fun W b (hx : W.heap[b]? = some (.cells #[.int .i64 d0, .int .i64 d1, .int .i64 d2] 39 (0, 0))) => (by
  have h := un_or b 3 [d0, d1, d2] W (by simp) (fun i hi => by
   rcases (by have : i < 3 := hi; omega : i = 0 ∨ i = 1 ∨ i = 2) with rfl | rfl | rfl <;> simp [World.cell?, hx])
  rwa [her] at h : Calls Tryz.prog 28 #[.slice (some ⟨b, 0, none⟩) 3 3] W fun e w' => e = .returned (.int .i64 er) ∧ w' = W))
 have HI := qh (show (Tryz.prog.info? 36).map (·.size) = some (Un.bdA B).toList.length by kernel_rfl)
 have HR := qh hR
 have HE := qh hE
 have hlro := ha.lro
 clear hL ha hS hns hn hc0 hd0 hd1 hd2 her hR hE
 dsimp only [Ex.Chk, Ex.workV, Ex.wv] at H0 H4
 have hfold : Array.foldl (fun cs x => cs.setIfInBounds x.snd x.fst) Un.bdZ (Un.bdA B).zipIdx 0 17 = Un.bdA B := by kernel_rfl
 unfold Un.bdZ at hfold
 have hs17 : (Un.bdA B).size = 17 := rfl
 go_enter Tryz.func14, Tryz.ntmps14
 go_wp2_with fail
 refine (H0.out _ (by exact Kit.gr)).mono ?_
 rintro _ w1 ⟨rfl, hb1⟩
 have HB1 := qh (show Below w.heap.size w w1 from Below.trans (B := w.heap.size) (by exact Kit.gr) (hb1.mono (by simp; omega)))
 have WK1 := qh (show ∀ j, w1.cell? ⟨w.heap.size, j, none⟩ = (Un.wkC x p)[j]? from fun j => by
  rw [World.cell?_of_block (hb1.block w.heap.size (by simp; omega))]
  simp [go_sem])
 have RB1 := qh (show w1.rangeAt (w.heap.size + 1) 0 (Un.bdA B).toList by
  have h := Kit.range_alloc (w.alloc (.cells (Un.wkC x p) 32)) (Un.bdA B) 36
  rw [World.size_alloc] at h
  exact Kit.range_kept h hb1 (by simp))
 have hz1 : w.heap.size + 1 < w1.heap.size := by have := hb1.size; simp at this; omega
 clear hb1
 by_cases h0 : c0 = 0
 ·have h0n : (c0 != 0) = false := by simp [h0]
  have HG := qh (HGD.out h0)
  have s5 := WK1.out 5
  simp at s5
  by_cases hln : bs.length = x.ro.length
  ·have HE2 := qh (show Un.liftsE x bs B role bar = er by rw [HE.out, if_neg (by simp [h0]), if_neg (by simp [hln])])
   have hlb : ((bs.length : Int) != (x.ro.length : Int)) = false := by simp [hln]
   have HLN := qh hln
   clear hln
   go_wp2_with fail
   refine Kit.wp_region_vals 12 [([(1, none)], none, true), ([(25, some 0)], none, true), ([(7, none)], none, true), ([(27, some 2)], none, true), ([(28, some 3)], none, true), ([(5, none)], none, true), ([(3, none)], none, true), ([(4, none)], none, true), ([(30, some 5), (31, some 6), (32, some 7)], none, true), ([(26, some 1), (29, some 4), (33, some 8)], none, true), ([(34, some 9)], none, true), ([(35, some 10)], none, true)]
    [some 25, some 26, some 27, some 28, some 29, some 30, some 31, some 32, some 33, some 34, some 35, some 12] rfl (by kernel_rfl) (by kernel_rfl) (fun A B => Below A.heap.size A B) (fun q v w' => match q with
    | 0 => v = .slice a bs.length c
    | 1 => v = .int .i64 d0
    | 2 => v = .agg (Un.bdA B)
    | 3 => ∃ b, v = .slice (some ⟨b, 0, none⟩) 1 1 ∧ w'.heap[b]? = some (.cells (Un.bdA B) 36 (0, 0))
    | 4 => v = .int .i64 d1
    | 5 => v = .agg (Un.wkC x p)
    | 6 => v = .int .i64 role
    | 7 => v = .int .i64 bar
    | 8 => v = .int .i64 d2
    | 9 => ∃ b, v = .slice (some ⟨b, 0, none⟩) 3 3 ∧ w'.heap[b]? = some (.cells #[.int .i64 d0, .int .i64 d1, .int .i64 d2] 39 (0, 0))
    | 10 => v = .int .i64 er
    | _ => v = .int .i64 er)
    (fun h k => h.trans (k.mono h.size)) (Below.drew (Below.refl _ _)) (fun _ => Below.refl _ _) ?_ ?_ ?_
   ·intro q v A C h1 h2 h3
    split at h3 <;> try exact h3
    ·obtain ⟨b, e, hb⟩ := h3
     exact ⟨b, e, (h2.block b (Array.getElem?_eq_some_iff.1 hb).1).trans hb⟩
    ·obtain ⟨b, e, hb⟩ := h3
     exact ⟨b, e, (h2.block b (Array.getElem?_eq_some_iff.1 hb).1).trans hb⟩
   ·simp only [List.take_succ_cons, List.take_zero, Kit.StepsV, Kit.VOp, Kit.RdP, true_and, if_true, and_true]
    refine ⟨?_, ?_, ?_, ?_, ?_, ?_, ?_, ?_, ?_, ?_, ?_, ?_⟩
    all_goals intro ev w' hx hv hc hf hg
    ·simp at hv; simp [execOp, hv, hc, go_sem, Kit.UponV, Below.refl]
    ·simp [execOp, hv, hc, hf, go_sem, Kit.UponV]
     refine (H1.out w' (HB1.out.trans (hx.mono HB1.out.size))).mono ?_
     rintro e w3 ⟨rfl, hb⟩
     exact ⟨_, rfl, rfl, hb⟩
    ·simp at hv
     simp only [execOp, hv, Instr.loadAt, Instr.sureAddr, Sem.run_bind, Sem.run_pure, Result.andThen_ok, run_loadVar_mid w' (w.heap.size + 1) 0 36 (Un.bdA B).toList _ (Kit.range_kept RB1.out hx omg) Tryz.underlying36 rfl HI.out]
     simp [Kit.UponV, Below.refl]
    ·simp [execOp, hv, hc, hfold, hs17, go_sem, Kit.UponV]
     exact ⟨(Array.getElem?_eq_some_iff.1 (World.alloc_heap_new w' (.cells (Un.bdA B) 36))).2, (Below.refl _ _).alloc nlr _⟩
    ·obtain ⟨b, e, hb⟩ := hv
     simp [execOp, e, hc, hf, go_sem, Kit.UponV]
     refine (H2.out w' b hb).mono ?_
     rintro e w3 ⟨rfl, hb⟩
     exact ⟨_, rfl, rfl, hb⟩
    ·have so : ∀ j, w'.cell? ⟨w.heap.size, j, none⟩ = (Un.wkC x p)[j]? := fun j => (World.cell?_of_block (hx.block w.heap.size omg)).trans (WK1.out j)
     simp at hv
     simp [execOp, hv, hc, so, go_sem, Kit.UponV, Below.refl]
    ·simp at hv; simp [execOp, hv, hc, go_sem, Kit.UponV, Below.refl]
    ·simp at hv; simp [execOp, hv, hc, go_sem, Kit.UponV, Below.refl]
    ·obtain ⟨hv1, hv2, hv3⟩ := hv
     simp [execOp, hv1, hv2, hv3, hc, hf, go_sem, Kit.UponV]
     refine (H4.out w').mono ?_
     rintro e w3 ⟨rfl, hb⟩
     exact ⟨_, rfl, rfl, hb⟩
    ·obtain ⟨hv1, hv2, hv3⟩ := hv
     simp [execOp, hv1, hv2, hv3, hc, go_sem, Kit.UponV]
     exact ⟨(Array.getElem?_eq_some_iff.1 (World.alloc_heap_new w' (.cells #[.int .i64 d0, .int .i64 d1, .int .i64 d2] 39))).2, (Below.refl _ _).alloc nlr _⟩
    ·obtain ⟨b, e, hb⟩ := hv
     simp [execOp, e, hc, hf, go_sem, Kit.UponV]
     refine (H3.out w' b hb).mono ?_
     rintro e w3 ⟨rfl, rfl⟩
     exact ⟨_, rfl, rfl, Below.refl _ _⟩
    ·simp [execOp, hv, hc, go_sem, Kit.UponV, Below.refl]
   ·intro vs w2 hv hx
    have v11 : vs 11 = .int .i64 er := hv 11 omg
    clear hv
    have wk2 : ∀ j, w2.cell? ⟨w.heap.size, j, none⟩ = (Un.wkC x p)[j]? := fun j => (World.cell?_of_block (hx.block w.heap.size omg)).trans (WK1.out j)
    have RB2 := qh (Kit.range_kept RB1.out hx omg)
    have HB2 := qh (HB1.out.trans (hx.mono HB1.out.size))
    clear hx s5
    simp only [Kit.putD, List.getD_cons_zero, List.getD_cons_succ, Act.put, v11, List.drop_succ_cons, List.drop_zero]
    generalize vs 0 = y0 at *
    generalize vs 1 = y1 at *
    generalize vs 2 = y2 at *
    generalize vs 3 = y3 at *
    generalize vs 4 = y4 at *
    generalize vs 5 = y5 at *
    generalize vs 6 = y6 at *
    generalize vs 7 = y7 at *
    generalize vs 8 = y8 at *
    generalize vs 9 = y9 at *
    generalize vs 10 = y10 at *
    clear v11 hfold hs17
    go_simp
    by_cases hr0 : er = 0
    ·have HRR := qh (show R = ((Un.heavyR x bs B role bar).1, !(Un.heavyR x bs B role bar).2, 0) by rw [← HR.out]; unfold Un.liftsA; rw [if_pos (by rw [HE2.out]; exact hr0)])
     have hrn : (er != 0) = false := by simp [hr0]
     have HCL := qh (HHV.out w2 HB2.out HG.out HLN.out)
     clear hr0
     go_wp2_with ((with_reducible refine wpList_load_mid ?_ 36 (.tmp 7) ?_ (w.heap.size + 1) 0 ?_ (Un.bdA B).toList _ RB2.out Tryz.underlying36 rfl HI.out ?_); rfl; rfl; rfl)
     refine HCL.out.mono ?_
     rintro _ w3 ⟨rfl, hb3⟩
     have HB3 := qh (HB2.out.trans (hb3.mono HB2.out.size))
     clear hb3 wk2
     go_wp2_with fail
     go_ret3
     exact ⟨by rw [HRR.out]; rfl, HB3.out⟩
    ·have HRR := qh (show R = (0, false, er) by rw [← HR.out]; unfold Un.liftsA; rw [if_neg (by rw [HE2.out]; exact hr0), HE2.out])
     have hrn : (er != 0) = true := by simp [hr0]
     clear hr0 wk2
     go_wp2_with fail
     go_ret3
     exact ⟨by rw [HRR.out]; rfl, HB2.out⟩
  ·have HE2 := qh (show Un.liftsE x bs B role bar = 480 by rw [HE.out, if_neg (by simp [h0]), if_pos hln])
   have HRR := qh (show R = (0, false, 480) by rw [← HR.out]; unfold Un.liftsA; rw [HE2.out]; rfl)
   have hlb : ((bs.length : Int) != (x.ro.length : Int)) = true := by simp; omega
   clear h0 hln
   go_wp2_with fail
   go_ret3
   exact ⟨by rw [HRR.out]; rfl, HB1.out⟩
 ·have HE2 := qh (show Un.liftsE x bs B role bar = c0 by rw [HE.out, if_pos h0])
  have HRR := qh (show R = (0, false, c0) by rw [← HR.out]; unfold Un.liftsA; rw [if_neg (by rw [HE2.out]; exact h0), HE2.out])
  have h0n : (c0 != 0) = true := by simp [h0]
  clear h0
  go_wp2_with fail
  go_ret3
  exact ⟨by rw [HRR.out]; rfl, HB1.out⟩
end Go.Proofs.YtbhgogiaaljclaaGreatDoor

namespace Go.Proofs.YtbhgogiaaljclaaGreatDoor
open Go.RowKit
theorem un_able (x : Ex.Wk) (p : Ex.Wa) (w : World) (hL : Ex.Laid w) (hF : Uo.Flat w) (ha : Ex.At w x p) (B : Un.Bd) (hn : B.name.size ≤ 9223372036854775807) (role bar : Int) : Un.Able x p B role bar w (Un.ableA x B role bar) := by
 by_cases h : Un.ableE x B role bar = 0
 ·exact un_able_0 x p w hL hF ha B hn role bar h
 ·exact un_able_e x p w hL hF ha B hn role bar h
def Un.strongB : Un.Bd := ⟨⟨#[98]⟩, 50, 60, 1, 3, 2, 1, 1, 1, 90, 90, 90, 3, 3, 3, 100, 30⟩
theorem lw_strong (w : World) : Calls Tryz.prog 26 #[] w fun e w' => e = .returned (.agg (Un.bdA Un.strongB)) ∧ Below w.heap.size w w' := by
 go_enter Tryz.func26, Tryz.ntmps26
 have HRG := qh (Kit.range_alloc w (Un.bdA Un.strongB) 36)
 have HIA := qh (show (Tryz.prog.info? 36).map (·.size) = some (Un.bdA Un.strongB).size by kernel_rfl)
 go_wp2
 refine Kit.ret_row (s := 0) rfl rfl rfl HRG.out Tryz.underlying36 rfl HIA.out ?_
 exact ⟨rfl, (Below.refl _ _).alloc nlr _⟩
end Go.Proofs.YtbhgogiaaljclaaGreatDoor
