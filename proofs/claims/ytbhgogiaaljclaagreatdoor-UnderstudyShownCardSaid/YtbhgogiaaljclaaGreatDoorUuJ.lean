/- Walks: package understudy: heavy (the first remaining lift that is too heavy). -/
import Derived.Test.YtbhgogiaaljclaaGreatDoorUux
import Derived.Test.YtbhgogiaaljclaaGreatDoorUuE
import Derived.Test.YtbhgogiaaljclaaGreatDoorKxc
import Derived.Laws.EntriesVeiled
import Derived.WalkMore
import Derived.Sort.CutIn
set_option linter.unusedSimpArgs false
set_option linter.unusedVariables false
namespace Go.Proofs.YtbhgogiaaljclaaGreatDoor
open Go.RowKit Go.Shelf
attribute [local go_sem] Oper.semAt_some
namespace Un
theorem lift_fit {s : Ex.Sg} {r n : Int} (h : Ex.okSign s r n = true) (hk : s.kind = 7) : (0 ≤ s.role ∧ s.role < r) ∧ (1 ≤ s.wth ∧ s.wth ≤ r) := by
 unfold Ex.okSign Ex.ok1 Ex.ok2 at h
 simp only [Bool.and_eq_true] at h
 obtain ⟨⟨⟨⟨⟨⟨⟨_, h2⟩, _⟩, _⟩, ⟨_, h7⟩⟩, _⟩, _⟩, _⟩ := h
 rw [hk] at h7
 have a := (Tp.inb_iff _ _ _).1 h2
 have b := (Tp.inb_iff _ _ _).1 (show Tp.inb s.wth 1 r = true from h7)
 omega
def HY (w : World) (k : Nat) : Prop := k = w.heap.size + 1 + 1 + 1 + 1 ∨ k = w.heap.size + 1 + 1 + 1 + 1 + 1
def HI (_w w4 : World) (bs : List Bd) (B : Bd) (role : Int) (pre : List Ex.Sg) (Y : Nat → Prop) (W : World) : Prop :=
 Kit.Exc (fun _ => False) w4 W ∧ (∀ k, Y k ↔ HY _w k) ∧ ∀ s ∈ pre, heavy bs B role s = false
def HX (w w4 : World) (x : Ex.Wk) (bs : List Bd) (B : Bd) (role : Int) (F : Ex.Sg → Bool) (c : Code) (_pre : List Ex.Sg) (Y : Nat → Prop) (W : World) : Prop :=
 c = .exit 0 ∧ Kit.Exc (HY w) w4 W ∧ (∀ k, Y k ↔ HY w k) ∧ ∃ i s, (i < x.sg.length ∧ x.sg.getD i default = s ∧ F s = true) ∧ (∀ t ∈ (x.sg.take i).filter F, heavy bs B role t = false) ∧ heavy bs B role s = true ∧
  (W.cell? ⟨w.heap.size + 1 + 1 + 1 + 1, 0, none⟩ = some (.int .i64 s.id) ∧ W.cell? ⟨w.heap.size + 1 + 1 + 1 + 1 + 1, 0, none⟩ = some (.bool true)) ∧
  (W.frozen? ⟨w.heap.size + 1 + 1 + 1 + 1, 0, none⟩ = false ∧ W.frozen? ⟨w.heap.size + 1 + 1 + 1 + 1 + 1, 0, none⟩ = false)
theorem set2 {W : World} (b : Nat) (v1 v2 a8 a9 : Value) (k8 : W.cell? ⟨b, 0, none⟩ = some a8) (k9 : W.cell? ⟨b + 1, 0, none⟩ = some a9) (f8 : W.frozen? ⟨b, 0, none⟩ = false) (f9 : W.frozen? ⟨b + 1, 0, none⟩ = false) (W5 : World)
  (h5 : (W.setCell ⟨b, 0, none⟩ v1).setCell ⟨b + 1, 0, none⟩ v2 = W5) :
  (W5.cell? ⟨b, 0, none⟩ = some v1 ∧ W5.cell? ⟨b + 1, 0, none⟩ = some v2) ∧ (W5.frozen? ⟨b, 0, none⟩ = false ∧ W5.frozen? ⟨b + 1, 0, none⟩ = false) ∧ Kit.Exc (fun k => k = b ∨ k = b + 1) W W5 := by
 subst h5
 refine ⟨⟨by simp [Kit.cell_set, k8], by simp [Kit.cell_set, k9]⟩, ⟨by rw [World.frozen?_setCell, World.frozen?_setCell]; exact f8, by rw [World.frozen?_setCell, World.frozen?_setCell]; exact f9⟩, ?_⟩
 exact ((Kit.Exc.refl _ W).setCell (p := ⟨b, 0, none⟩) (.inl (.inl rfl)) v1).setCell (p := ⟨b + 1, 0, none⟩) (.inl (.inr rfl)) v2
theorem set2d {W : World} (b : Nat) (v1 v2 a8 a9 : Value) (k8 : W.cell? ⟨b, 0, none⟩ = some a8) (k9 : W.cell? ⟨b + 1, 0, none⟩ = some a9) (f8 : W.frozen? ⟨b, 0, none⟩ = false) (f9 : W.frozen? ⟨b + 1, 0, none⟩ = false) (W5 : World)
  (h5 : ((W.setCell ⟨b, 0, none⟩ v1).setCell ⟨b + 1, 0, none⟩ v2).drew = W5) :
  (W5.cell? ⟨b, 0, none⟩ = some v1 ∧ W5.cell? ⟨b + 1, 0, none⟩ = some v2) ∧ Kit.Exc (fun k => k = b ∨ k = b + 1) W W5 := by
 obtain ⟨h1, _, h2⟩ := set2 b v1 v2 a8 a9 k8 k9 f8 f9 _ rfl
 subst h5
 exact ⟨h1, h2.drew⟩
theorem HI.keep {w w4 : World} {bs : List Bd} {B : Bd} {role : Int} {pre : List Ex.Sg} {Y : Nat → Prop} {A C : World} {S : Nat → Prop} (h : HI w w4 bs B role pre Y A) (hx : Kit.Exc S A C) (_hS : ∀ k, Y k → ¬ S k) (hw : ∀ k, S k → w4.heap.size ≤ k) : HI w w4 bs B role pre Y C :=
 ⟨exc_on h.1 hx (fun b hb _ hs => by have := hw b hs; omega), h.2.1, h.2.2⟩
theorem HX.keep {w w4 : World} {x : Ex.Wk} {bs : List Bd} {B : Bd} {role : Int} {F : Ex.Sg → Bool} {c : Code} {pre : List Ex.Sg} {Y : Nat → Prop} {A C : World} {S : Nat → Prop} (h : HX w w4 x bs B role F c pre Y A) (hx : Kit.Exc S A C) (hS : ∀ k, Y k → ¬ S k) (hw : ∀ k, S k → w4.heap.size ≤ k) : HX w w4 x bs B role F c pre Y C := by
 obtain ⟨h1, h2, h3, i, s, h4, h5, h6, ⟨c8, c9⟩, f8, f9⟩ := h
 have hlt : ∀ k v, A.cell? ⟨k, 0, none⟩ = some v → k < A.heap.size := fun k v hc => by
  unfold World.cell? at hc
  rcases hq : A.heap[k]? with _ | o
  ·simp [hq] at hc
  ·exact (Array.getElem?_eq_some_iff.1 hq).1
 have hb : ∀ k v, A.cell? ⟨k, 0, none⟩ = some v → Y k → C.heap[k]? = A.heap[k]? := fun k v hc hk => hx.block k (hlt k v hc) (hS k hk)
 have y8 := (h3 _).2 (.inl rfl)
 have y9 := (h3 _).2 (.inr rfl)
 exact ⟨h1, exc_on h2 hx (fun b hb _ hs => by have := hw b hs; omega), h3, i, s, h4, h5, h6, ⟨(World.cell?_of_block (hb _ _ c8 y8)).trans c8, (World.cell?_of_block (hb _ _ c9 y9)).trans c9⟩,
  (World.frozen?_of_block (hb _ _ c8 y8)).trans f8, (World.frozen?_of_block (hb _ _ c9 y9)).trans f9⟩
end Un
set_option maxRecDepth 100000 in
set_option maxHeartbeats 8000000 in
theorem un_heavy (x : Ex.Wk) (p : Ex.Wa) (w : World) (ha : Ex.At w x p) (hg : Ex.Good x) (bs : List Un.Bd) (a : Option Addr) (c : Nat) (hS : Tp.Sl w a bs.length 17 (Un.bdF bs)) (hln : bs.length = x.ro.length) (B : Un.Bd) (role bar : Int) :
  Calls Tryz.prog 38 #[Ex.workV x p, .slice a bs.length c, .agg (Un.bdA B), .int .i64 role, .int .i64 bar] w fun e w' => e = .returned (.tuple #[.int .i64 (Un.heavyR x bs B role bar).1, .bool (Un.heavyR x bs B role bar).2]) ∧ Below w.heap.size w w' := by
 obtain ⟨R, hR⟩ : ∃ R, Un.heavyR x bs B role bar = R := ⟨_, rfl⟩
 rw [hR]
 have HRR := Lib.hid hR
 have hl64 := hg.roles
 have HFIT := Lib.hid (show ∀ k ∈ x.sg, k.kind = 7 → (0 ≤ k.role ∧ k.role < bs.length) ∧ (1 ≤ k.wth ∧ k.wth ≤ bs.length) from fun k hk h7 => by rw [hln]; exact Un.lift_fit (hg.oks k hk) h7)
 have hl4 := hg.len
 have HA := Lib.hid ha
 have HS := Lib.hid hS
 have HI := Lib.hid (show (Tryz.prog.info? 36).map (·.size) = some (Un.bdA B).toList.length by kernel_rfl)
 have HLN := Lib.hid hln
 have hlb : bs.length ≤ 64 := by omega
 clear hR ha hS hg hln
 have hfold : Array.foldl (fun cs x => cs.setIfInBounds x.snd x.fst) Un.bdZ (Un.bdA B).zipIdx 0 17 = Un.bdA B := by kernel_rfl
 unfold Un.bdZ at hfold
 have hs17 : (Un.bdA B).size = 17 := rfl
 refine Kit.calls_of_wp_marks Tryz.func38 rfl ?_
 simp only [Tryz.ntmps38, List.size_toArray, List.length_cons, List.length_nil, Nat.reduceAdd, Nat.reduceSub, Array.replicate_succ, Array.replicate_zero, List.push_toArray, List.append_toArray, List.nil_append, List.cons_append]
 go_upto_region 2 with fail
 refine Kit.wp_name ?_
 intro W1 hW1
 have HB1 := Lib.hid (show Below w.heap.size w W1 by rw [hW1]; exact Kit.gr)
 have hz1 : W1.heap.size = w.heap.size + 6 := by rw [hW1]; simp
 have W1F := Lib.hid (show W1.cell? ⟨w.heap.size + 1, 0, none⟩ = some (.slice a bs.length c) ∧ W1.cell? ⟨w.heap.size + 1 + 1 + 1, 0, none⟩ = some (.int .i64 role) ∧ W1.cell? ⟨w.heap.size + 1 + 1 + 1 + 1, 0, none⟩ = some (.int .i64 0) ∧ W1.cell? ⟨w.heap.size + 1 + 1 + 1 + 1 + 1, 0, none⟩ = some (.bool false) ∧ W1.frozen? ⟨w.heap.size + 1 + 1 + 1 + 1, 0, none⟩ = false ∧ W1.frozen? ⟨w.heap.size + 1 + 1 + 1 + 1 + 1, 0, none⟩ = false by
  rw [hW1]; simp [go_sem])
 have R1 := Lib.hid (show W1.rangeAt (w.heap.size + 1 + 1) 0 (Un.bdA B).toList by
  have h := Kit.range_alloc ((w.alloc (.cells (Un.wkC x p) 32)).alloc (.cells #[.slice a bs.length c] 33)) (Un.bdA B) 36
  rw [World.size_alloc, World.size_alloc] at h
  rw [hW1]
  exact Kit.range_kept h ((((Below.refl _ _).alloc (Nat.le_refl _) _).alloc (by simp) _).alloc (by simp) _) (by simp))
 have WK1 : ∀ j, W1.cell? ⟨w.heap.size, j, none⟩ = (Un.wkC x p)[j]? := fun j => by rw [hW1]; simp [go_sem]
 clear hW1 hfold hs17
 have HZ1 := Lib.hid hz1
 have hzw : w.heap.size < W1.heap.size := by omega
 clear hz1
 go_step3
 go_wp2_with fail
 go_step3
 go_wp2_with fail
 refine (un_rem x p bar 79 #[] _).mono ?_
 rintro _ w4 ⟨rfl, hw4⟩
 have HX4 := Lib.hid (show Below W1.heap.size W1 w4 by rw [hw4]; exact Kit.gr)
 have hz4 : w4.heap.size = W1.heap.size + 4 := by rw [hw4]; simp
 have D4 := Lib.hid (show w4.cell? ⟨W1.heap.size, 0, none⟩ = some (.func (.func 78) #[] #[.pointer (some ⟨w.heap.size + 1 + 1 + 1, 0, none⟩), .pointer (some ⟨w.heap.size + 1 + 1, 0, none⟩), .pointer (some ⟨w.heap.size + 1, 0, none⟩)]) ∧ w4.cell? ⟨W1.heap.size + 1, 10, none⟩ = some (.slice p.aG x.sg.length p.cG) ∧ w4.cell? ⟨W1.heap.size + 1 + 1, 0, none⟩ = some (.int .i64 bar) ∧ w4.cell? ⟨W1.heap.size + 1 + 1 + 1, 0, none⟩ = some (.func (.func 79) #[] #[]) by rw [hw4]; simp [go_sem])
 clear hw4 WK1
 have HB4 := Lib.hid (HB1.out.trans (HX4.out.mono HB1.out.size))
 have HZ4 := Lib.hid hz4
 clear hz4
 have HSB := Lib.hid (show ∀ ad, p.aG = some ad → x.sg.length ≠ 0 → ad.block < w.heap.size from fun ad e hne => by
  rcases HA.out.sg with h | ⟨ad', e', h, _⟩
  ·exact absurd h hne
  ·rw [e] at e'; cases e'; exact h)
 have hlt4 : ∀ q, q < 4 → W1.heap.size + q < w4.heap.size := fun q hq => by rw [HZ4.out]; omega
 have HIT := un_iter 2 (by omega) (W1.heap.size + 1) (W1.heap.size + 1 + 1) (W1.heap.size + 1 + 1 + 1) x.sg p.aG p.cG bar 79 #[] (fun k => k.kind == 7) (fun k => x.sg.length ≠ 0 ∧ ∃ ad, p.aG = some ad ∧ k = ad.block) w4 D4.out.2.1 D4.out.2.2.1 D4.out.2.2.2 (hlt4 1 (by omega)) (hlt4 2 (by omega)) (hlt4 3 (by omega)) (HA.out.sg.kept HB4.out (Nat.le_refl _)) hl4 (enters_of Tryz.func79 (by kernel_rfl) rfl)
  (fun k ⟨hne, ad, e, hk⟩ => by rw [hk]; exact Nat.lt_of_lt_of_le (HSB.out ad e hne) HB4.out.size) (fun ad e hne => ⟨hne, ad, e, rfl⟩) (fun k W' _ => by simpa only [Array.append_empty] using un_lift1 k W')
 clear hlt4
 go_wp2_with fail
 refine Kit.wp_rangeR rfl (enters_of Tryz.func70 (by kernel_rfl) rfl) HIT (fun _ => rfl)
  (Un.HI w w4 bs B role) (Un.HX w w4 x bs B role (Un.keep bar fun k => k.kind == 7)) (fun pre e a' Y W => Un.HI w w4 bs B role pre Y W ∧ ∃ b13, w4.heap.size + 2 ≤ b13 ∧ W.heap[b13]? = some (.cells #[.int .i64 e.id, .int .i64 e.role, .int .i64 e.bar, .int .i64 e.mark, .int .i64 e.kind, .int .i64 e.side, .int .i64 e.dir, .int .i64 e.level, .int .i64 e.size, .int .i64 e.wth, .int .i64 e.fn, .int .i64 e.fd, .int .i64 e.tn, .int .i64 e.td] 52 (0, 0)) ∧ ¬ Y b13 ∧ a' = { tmps := #[Ex.workV x p, .slice a bs.length c, .agg (Un.bdA B), .int .i64 role, .int .i64 bar, .pointer (some ⟨w.heap.size, 0, none⟩), .pointer (some ⟨w.heap.size + 1, 0, none⟩), .pointer (some ⟨w.heap.size + 1 + 1, 0, none⟩), .pointer (some ⟨w.heap.size + 1 + 1 + 1, 0, none⟩), undef, .pointer (some ⟨w.heap.size + 1 + 1 + 1 + 1, 0, none⟩), .pointer (some ⟨w.heap.size + 1 + 1 + 1 + 1 + 1, 0, none⟩), .pointer (some ⟨W1.heap.size, 0, none⟩), .pointer (some ⟨b13, 0, none⟩), undef, undef, .func (.func 78) #[] #[.pointer (some ⟨w.heap.size + 1 + 1 + 1, 0, none⟩), .pointer (some ⟨w.heap.size + 1 + 1, 0, none⟩), .pointer (some ⟨w.heap.size + 1, 0, none⟩)], .agg (Un.wkC x p), .int .i64 bar, .func (.func 70) #[] #[.pointer (some ⟨W1.heap.size + 1, 0, none⟩), .pointer (some ⟨W1.heap.size + 1 + 1, 0, none⟩), .pointer (some ⟨W1.heap.size + 1 + 1 + 1, 0, none⟩)], Ex.sgV e, undef, undef, undef, undef, undef, undef, undef, undef, undef, undef, undef, undef, undef, undef, undef, undef, undef, undef, undef, undef, undef, undef, undef, undef, undef, undef, undef, undef, undef, undef, undef, undef, undef], defers := [] })
  (Un.HY w) (fun _ h => h.elim) (fun k hk => ⟨by have h1 := HZ1.out; have h2 := HZ4.out; rcases hk with rfl | rfl <;> omega, fun h => h.elim, fun h => by
   have h1 := HZ1.out
   have hk3 : w.heap.size ≤ k ∧ k < W1.heap.size := by rcases hk with rfl | rfl <;> omega
   rcases h with rfl | rfl | rfl | ⟨hne, ad, e, rfl⟩
   ·omega
   ·omega
   ·omega
   ·have := HSB.out ad e hne; omega⟩)
  (fun pre Y A C h hx => h.keep hx (fun k hk hS => hS.elim False.elim (fun h => h.2 hk)) (fun k hk => hk.elim False.elim (fun h => h.1)))
  (fun cc pre Y A C h hx => h.keep hx (fun k hk hS => hS.elim False.elim (fun h => h.2 hk)) (fun k hk => hk.elim False.elim (fun h => h.1)))
  (fun pre e a' Y A C h hx => ⟨h.1.keep hx (fun k hk hS => by have h1 := HZ1.out; have h2 := HZ4.out; have := (h.1.2.1 k).1 hk; rcases this with rfl | rfl <;> omega) (fun k hk => hk.1), by
   obtain ⟨b13, h7, hh, hn, e7⟩ := h.2
   exact ⟨b13, h7, hx.heap hh (by omega), hn, e7⟩⟩)
  ⟨Kit.Exc.refl _ _, fun k => Iff.rfl, fun s hs => by cases hs⟩ ?assign ?body ?done ?stop
 case assign =>
  intro l' pre e Y W hI hok hY hs
  have HI := Lib.hid hI
  have HY := Lib.hid hY
  clear hI hY hok
  gi_wp2
  exact ⟨Y, (Kit.Exc.refl _ _).alloc _, fun k hk => ⟨.inl hk, by have := HY.out k hk; simp; omega⟩, HI.out.keep ((Kit.Exc.refl (fun _ => False) W).alloc _) (fun _ _ h => h) (fun _ h => h.elim),
   W.heap.size, hs, World.alloc_heap_new W _, fun h => by have := HY.out _ h; omega, rfl⟩
 case body =>
  rintro l' pre e a' Y W hl' hrec ⟨⟨hE, hYY, hall⟩, b13, hb13, hc13, hn13, rfl⟩ hok hY
  obtain ⟨i, hi, hpre, hie, hke⟩ := hok
  have hmem : e ∈ x.sg := by rw [← hie, List.getD_eq_getElem?_getD, List.getElem?_eq_getElem hi]; exact List.getElem_mem hi
  have hk7 : e.kind = 7 := by
   unfold Un.keep at hke
   rw [Bool.and_eq_true] at hke
   simpa using hke.2
  have hfit := HFIT.out e hmem hk7
  have hB4W : Below w4.heap.size w4 W := hE.below (Nat.le_refl _) (fun _ h => h.elim)
  have hB1W : Below W1.heap.size W1 W := HX4.out.trans (hB4W.mono HX4.out.size)
  have hz1 := HZ1.out
  have hz4 := HZ4.out
  have hzW := hB4W.size
  have FX := Lib.hid (show ∀ X, Below W.heap.size W X → X.cell? ⟨w.heap.size + 1 + 1 + 1, 0, none⟩ = some (.int .i64 role) ∧ X.cell? ⟨W1.heap.size, 0, none⟩ = some (.func (.func 78) #[] #[.pointer (some ⟨w.heap.size + 1 + 1 + 1, 0, none⟩), .pointer (some ⟨w.heap.size + 1 + 1, 0, none⟩), .pointer (some ⟨w.heap.size + 1, 0, none⟩)]) ∧ X.cell? ⟨b13, 1, none⟩ = some (.int .i64 e.role) ∧ X.cell? ⟨b13, 9, none⟩ = some (.int .i64 e.wth) from fun X hX => by
   have h13 := (Array.getElem?_eq_some_iff.1 hc13).1
   refine ⟨(hX.cell (by simp; omega)).trans ((hB1W.cell (by simp; omega)).trans W1F.out.2.1), (hX.cell (by simp; omega)).trans ((hB4W.cell (by simp; omega)).trans D4.out.1), (hX.cell (by simp; omega)).trans (by simp [World.cell?, hc13]), (hX.cell (by simp; omega)).trans (by simp [World.cell?, hc13])⟩)
  have HWHO := Lib.hid (show ∀ X, Below W.heap.size W X → ∀ r, (r = role ∨ (0 ≤ r ∧ r < bs.length)) → Calls Tryz.prog 78 #[.int .i64 r, .pointer (some ⟨w.heap.size + 1 + 1 + 1, 0, none⟩), .pointer (some ⟨w.heap.size + 1 + 1, 0, none⟩), .pointer (some ⟨w.heap.size + 1, 0, none⟩)] X fun E w' => E = .returned (.agg (Un.bdA (Un.who bs B role r))) ∧ Below X.heap.size X w' from fun X hX r hr => by
   have hBX : Below W1.heap.size W1 X := hB1W.trans (hX.mono hB1W.size)
   have hs := hBX.size
   exact un_who bs B role r _ _ _ a c X ((hBX.cell (by simp; omega)).trans W1F.out.2.1) (Kit.range_kept R1.out hBX (by omega)) ((hBX.cell (by simp; omega)).trans W1F.out.1) (HS.out.kept (HB1.out.trans (hBX.mono HB1.out.size)) (Nat.le_refl _)) (by omega) (by omega) (by omega) (by omega) hr)
  have f1 : W.cell? ⟨b13, 1, none⟩ = some (.int .i64 e.role) := by simp [World.cell?, hc13]
  have f9 : W.cell? ⟨b13, 9, none⟩ = some (.int .i64 e.wth) := by simp [World.cell?, hc13]
  have f0 : W.cell? ⟨b13, 0, none⟩ = some (.int .i64 e.id) := by simp [World.cell?, hc13]
  have z13 := (Array.getElem?_eq_some_iff.1 hc13).1
  have r8 : W.cell? ⟨w.heap.size + 1 + 1 + 1 + 1, 0, none⟩ = some (.int .i64 0) := (hB1W.cell (by simp; omega)).trans W1F.out.2.2.1
  have r9 : W.cell? ⟨w.heap.size + 1 + 1 + 1 + 1 + 1, 0, none⟩ = some (.bool false) := (hB1W.cell (by simp; omega)).trans W1F.out.2.2.2.1
  have g8 : W.frozen? ⟨w.heap.size + 1 + 1 + 1 + 1, 0, none⟩ = false := (World.frozen?_of_block (hB1W.block _ (by show w.heap.size + 1 + 1 + 1 + 1 < _; omega))).trans W1F.out.2.2.2.2.1
  have g9 : W.frozen? ⟨w.heap.size + 1 + 1 + 1 + 1 + 1, 0, none⟩ = false := (World.frozen?_of_block (hB1W.block _ (by show w.heap.size + 1 + 1 + 1 + 1 + 1 < _; omega))).trans W1F.out.2.2.2.2.2
  have HEX := Lib.hid hE
  have HYY := Lib.hid hYY
  have HAL := Lib.hid hall
  have HPR := Lib.hid hpre
  have HIE := Lib.hid hie
  have HKE := Lib.hid hke
  have HYL := Lib.hid hY
  have HZW := Lib.hid (And.intro hz1 (And.intro hz4 hzW))
  have HF2 := Lib.hid hfit
  have HR8 := Lib.hid (And.intro r8 (And.intro r9 (And.intro g8 g9)))
  have hwz : ∀ y : Int, IntKind.i64.wrap (e.wth - 1) = e.wth - 1 := fun _ => by rw [IntKind.wrap_i64] <;> omega
  have hwb : 1 ≤ e.wth ∧ e.wth ≤ 64 := by omega
  clear hE hYY hall hpre hie hke hY hB4W hB1W hc13 hmem hk7 hfit hz1 hz4 hzW r8 r9 g8 g9 hwz
  dsimp only
  obtain ⟨C1, hC1⟩ : ∃ C, Un.who bs B role e.role = C := ⟨_, rfl⟩
  obtain ⟨C2, hC2⟩ : ∃ C, Un.who bs B role (e.wth - 1) = C := ⟨_, rfl⟩
  have HW1 := Lib.hid (show ∀ X, Below W.heap.size W X → Calls Tryz.prog 78 #[.int .i64 e.role, .pointer (some ⟨w.heap.size + 1 + 1 + 1, 0, none⟩), .pointer (some ⟨w.heap.size + 1 + 1, 0, none⟩), .pointer (some ⟨w.heap.size + 1, 0, none⟩)] X fun E w' => E = .returned (.agg #[.string C1.name, .int .i64 C1.weight, .int .i64 C1.lift, .int .i64 C1.girth, .int .i64 C1.step, .int .i64 C1.jump, .int .i64 C1.r0, .int .i64 C1.r1, .int .i64 C1.r2, .int .i64 C1.s0, .int .i64 C1.s1, .int .i64 C1.s2, .int .i64 C1.t0, .int .i64 C1.t1, .int .i64 C1.t2, .int .i64 C1.effort, .int .i64 C1.recover]) ∧ Below X.heap.size X w' from fun X hX => by
   have h := HWHO.out X hX e.role (.inr HF2.out.1)
   rw [hC1] at h
   exact h)
  have HW2 := Lib.hid (show ∀ X, Below W.heap.size W X → Calls Tryz.prog 78 #[.int .i64 (e.wth - 1), .pointer (some ⟨w.heap.size + 1 + 1 + 1, 0, none⟩), .pointer (some ⟨w.heap.size + 1 + 1, 0, none⟩), .pointer (some ⟨w.heap.size + 1, 0, none⟩)] X fun E w' => E = .returned (.agg #[.string C2.name, .int .i64 C2.weight, .int .i64 C2.lift, .int .i64 C2.girth, .int .i64 C2.step, .int .i64 C2.jump, .int .i64 C2.r0, .int .i64 C2.r1, .int .i64 C2.r2, .int .i64 C2.s0, .int .i64 C2.s1, .int .i64 C2.s2, .int .i64 C2.t0, .int .i64 C2.t1, .int .i64 C2.t2, .int .i64 C2.effort, .int .i64 C2.recover]) ∧ Below X.heap.size X w' from fun X hX => by
   have h := HWHO.out X hX (e.wth - 1) (.inr ⟨by omega, by have := HF2.out.2.2; omega⟩)
   rw [hC2] at h
   exact h)
  have fd2 : ∀ w, (Instr.field 36 (.agg #[.string C2.name, .int .i64 C2.weight, .int .i64 C2.lift, .int .i64 C2.girth, .int .i64 C2.step, .int .i64 C2.jump, .int .i64 C2.r0, .int .i64 C2.r1, .int .i64 C2.r2, .int .i64 C2.s0, .int .i64 C2.s1, .int .i64 C2.s2, .int .i64 C2.t0, .int .i64 C2.t1, .int .i64 C2.t2, .int .i64 C2.effort, .int .i64 C2.recover]) 1).run Tryz.prog w = .ok (.int .i64 C2.weight) w := fun _ => by kernel_rfl
  have fd1 : ∀ w, (Instr.field 36 (.agg #[.string C1.name, .int .i64 C1.weight, .int .i64 C1.lift, .int .i64 C1.girth, .int .i64 C1.step, .int .i64 C1.jump, .int .i64 C1.r0, .int .i64 C1.r1, .int .i64 C1.r2, .int .i64 C1.s0, .int .i64 C1.s1, .int .i64 C1.s2, .int .i64 C1.t0, .int .i64 C1.t1, .int .i64 C1.t2, .int .i64 C1.effort, .int .i64 C1.recover]) 2).run Tryz.prog w = .ok (.int .i64 C1.lift) w := fun _ => by kernel_rfl
  obtain ⟨hv, hhv⟩ : ∃ b, decide (C1.lift < C2.weight) = b := ⟨_, rfl⟩
  have HEV := Lib.hid (show Un.heavy bs B role e = ((e.role == role || e.wth - 1 == role) && hv) by unfold Un.heavy; rw [hC1, hC2, hhv])
  clear hC1 hC2 HWHO
  gi_wp2
  refine Kit.wpIn_name ?_
  intro WL hWL
  have HBWL := Lib.hid (show Below W.heap.size W WL by rw [hWL]; exact (Below.refl _ _).alloc (Nat.le_refl _) _)
  have s0 : WL.cell? ⟨W.heap.size, 0, none⟩ = some (.int .i64 e.role) := by rw [hWL]; simp [go_sem]
  have s1 : WL.cell? ⟨W.heap.size, 1, none⟩ = some (.int .i64 (e.wth - 1)) := by rw [hWL]; simp [go_sem]
  have hwl : W.heap.size < WL.heap.size := by rw [hWL]; simp
  clear hWL f1 f9
  gi_loopw [28] (fun v28 wr => ∃ j : Nat, v28 = .int .i64 j ∧ j ≤ 2 ∧ Hid (Below WL.heap.size WL wr) ∧ Hid ((1 ≤ j → ((e.role == role) && hv) = false) ∧ (2 ≤ j → ((e.wth - 1 == role) && hv) = false)))
   (fun v28 _ => 2 - (intOf v28).toNat)
  case atStart => exact ⟨0, rfl, by omega, Lib.hid (Below.refl _ _), Lib.hid ⟨fun h => by omega, fun h => by omega⟩⟩
  case round =>
   obtain ⟨j, rfl, hj, HBR, HJ⟩ := hrel
   rcases (by omega : j = 0 ∨ j = 1 ∨ j = 2) with rfl | rfl | rfl
   ·have e0 : wr.cell? ⟨W.heap.size, 0, none⟩ = some (.int .i64 (e.role)) := (HBR.out.cell (by simp; omega)).trans s0
    have KZ : ∀ z : Kit.Wd wr, z.val.cell? ⟨w.heap.size + 1 + 1 + 1, 0, none⟩ = some (.int .i64 role) ∧ z.val.cell? ⟨W1.heap.size, 0, none⟩ = some (.func (.func 78) #[] #[.pointer (some ⟨w.heap.size + 1 + 1 + 1, 0, none⟩), .pointer (some ⟨w.heap.size + 1 + 1, 0, none⟩), .pointer (some ⟨w.heap.size + 1, 0, none⟩)]) ∧ z.val.cell? ⟨b13, 1, none⟩ = some (.int .i64 e.role) ∧ z.val.cell? ⟨b13, 9, none⟩ = some (.int .i64 e.wth) := fun z => FX.out z.val (HBWL.out.trans ((HBR.out.trans (z.below.mono HBR.out.size)).mono HBWL.out.size))
    have q1 := fun z => (KZ z).1
    have q2 := fun z => (KZ z).2.1
    have q3 := fun z => (KZ z).2.2.1
    have q4 := fun z => (KZ z).2.2.2
    gi_upto_region 7 with fail
    rcases g0 : ((e.role) == role) with _ | _
    ·refine Kit.wpIn_region_reads (by rintro ⟨_, _, h⟩; exact h) (by kernel_rfl) (by kernel_rfl) (by kernel_rfl) ?_
     (repeat (go_big_quiet_step (fail)))
     refine wpQuiet_nil ?_
     intro z
     have HBZ := Lib.hid (HBR.out.trans (z.below.mono HBR.out.size))
     clear KZ q1 q2 q3 q4 e0
     gi_wp2
     go_roundw
     case rel => exact ⟨1, by go_num, by omega, HBZ, Lib.hid ⟨fun _ => by rw [g0]; rfl, fun h => by omega⟩⟩
     case measure => simp [intOf]
    ·have A1 := Lib.hid (fun z : Kit.Wd wr => HW1.out z.val (HBWL.out.trans ((HBR.out.trans (z.below.mono HBR.out.size)).mono HBWL.out.size)))
     have A2 := Lib.hid (fun z : Kit.Wd wr => HW2.out z.val (HBWL.out.trans ((HBR.out.trans (z.below.mono HBR.out.size)).mono HBWL.out.size)))
     refine Kit.wpIn_region_reads (by rintro ⟨_, _, h⟩; exact h) (by kernel_rfl) (by kernel_rfl) (by kernel_rfl) ?_
     (repeat (go_big_quiet_step (first | (with_reducible exact Kit.calls_cls _ (A1.out _)) | (with_reducible exact Kit.calls_cls _ (A2.out _)))))
     refine wpQuiet_nil ?_
     intro z
     have HBZ := Lib.hid (HBR.out.trans (z.below.mono HBR.out.size))
     clear KZ q1 q2 q3 q4 e0 A1 A2
     rcases hv with _ | _
     ·gi_wp2
      go_roundw
      case rel => exact ⟨1, by go_num, by omega, HBZ, Lib.hid ⟨fun _ => by simp, fun h => by omega⟩⟩
      case measure => simp [intOf]
     ·have HHV := Lib.hid (show Un.heavy bs B role e = true by rw [HEV.out, g0]; simp)
      have HBZW := Lib.hid (HBWL.out.trans (HBZ.out.mono HBWL.out.size))
      generalize z.val = Z at *
      have r8 : Z.cell? ⟨w.heap.size + 1 + 1 + 1 + 1, 0, none⟩ = some (.int .i64 0) := (HBZW.out.cell (by have := HZW.out; simp; omega)).trans HR8.out.1
      have r9 : Z.cell? ⟨w.heap.size + 1 + 1 + 1 + 1 + 1, 0, none⟩ = some (.bool false) := (HBZW.out.cell (by have := HZW.out; simp; omega)).trans HR8.out.2.1
      have g8 : Z.frozen? ⟨w.heap.size + 1 + 1 + 1 + 1, 0, none⟩ = false := (World.frozen?_of_block (HBZW.out.block _ (by have := HZW.out; show w.heap.size + 1 + 1 + 1 + 1 < _; omega))).trans HR8.out.2.2.1
      have g9 : Z.frozen? ⟨w.heap.size + 1 + 1 + 1 + 1 + 1, 0, none⟩ = false := (World.frozen?_of_block (HBZW.out.block _ (by have := HZW.out; show w.heap.size + 1 + 1 + 1 + 1 + 1 < _; omega))).trans HR8.out.2.2.2
      have f0z : Z.cell? ⟨b13, 0, none⟩ = some (.int .i64 e.id) := (HBZW.out.cell (by exact z13)).trans f0
      clear HBZ
      gi_wp2
      obtain ⟨W5, hW5⟩ : ∃ W5, (Z.setCell ⟨w.heap.size + 1 + 1 + 1 + 1, 0, none⟩ (.int .i64 e.id)).setCell ⟨w.heap.size + 1 + 1 + 1 + 1 + 1, 0, none⟩ (.bool true) = W5 := ⟨_, rfl⟩
      obtain ⟨q8, q9, hx5⟩ := Un.set2 (w.heap.size + 1 + 1 + 1 + 1) _ _ _ _ r8 r9 g8 g9 W5 hW5
      rw [hW5]
      exact ⟨Y, ((Kit.Exc.refl Y W).then HBZW.out).trans (hx5.mono fun k _ hk => (HYY.out k).2 hk), fun k hk => ⟨.inl hk, by have h1 := HYL.out k hk; have h2 := hx5.size; have h3 := HBZW.out.size; omega⟩,
       rfl, Un.exc_on (S := Un.HY w) ((Un.exc_on HEX.out ((Kit.Exc.refl (fun _ => False) W).then HBZW.out) (fun _ _ _ h => h)).mono (fun _ _ h => h.elim)) hx5 (fun _ _ h1 h2 => h1 h2), HYY.out, i, e, ⟨hi, HIE.out, HKE.out⟩, (by rw [← HPR.out]; exact HAL.out), HHV.out, q8, q9⟩
   ·have e0 : wr.cell? ⟨W.heap.size, 1, none⟩ = some (.int .i64 (e.wth - 1)) := (HBR.out.cell (by simp; omega)).trans s1
    have KZ : ∀ z : Kit.Wd wr, z.val.cell? ⟨w.heap.size + 1 + 1 + 1, 0, none⟩ = some (.int .i64 role) ∧ z.val.cell? ⟨W1.heap.size, 0, none⟩ = some (.func (.func 78) #[] #[.pointer (some ⟨w.heap.size + 1 + 1 + 1, 0, none⟩), .pointer (some ⟨w.heap.size + 1 + 1, 0, none⟩), .pointer (some ⟨w.heap.size + 1, 0, none⟩)]) ∧ z.val.cell? ⟨b13, 1, none⟩ = some (.int .i64 e.role) ∧ z.val.cell? ⟨b13, 9, none⟩ = some (.int .i64 e.wth) := fun z => FX.out z.val (HBWL.out.trans ((HBR.out.trans (z.below.mono HBR.out.size)).mono HBWL.out.size))
    have q1 := fun z => (KZ z).1
    have q2 := fun z => (KZ z).2.1
    have q3 := fun z => (KZ z).2.2.1
    have q4 := fun z => (KZ z).2.2.2
    gi_upto_region 7 with fail
    rcases g0 : ((e.wth - 1) == role) with _ | _
    ·refine Kit.wpIn_region_reads (by rintro ⟨_, _, h⟩; exact h) (by kernel_rfl) (by kernel_rfl) (by kernel_rfl) ?_
     (repeat (go_big_quiet_step (fail)))
     refine wpQuiet_nil ?_
     intro z
     have HBZ := Lib.hid (HBR.out.trans (z.below.mono HBR.out.size))
     clear KZ q1 q2 q3 q4 e0
     gi_wp2
     go_roundw
     case rel => exact ⟨2, by go_num, by omega, HBZ, Lib.hid ⟨fun _ => HJ.out.1 (by omega), fun _ => by rw [g0]; rfl⟩⟩
     case measure => simp [intOf]
    ·have A1 := Lib.hid (fun z : Kit.Wd wr => HW1.out z.val (HBWL.out.trans ((HBR.out.trans (z.below.mono HBR.out.size)).mono HBWL.out.size)))
     have A2 := Lib.hid (fun z : Kit.Wd wr => HW2.out z.val (HBWL.out.trans ((HBR.out.trans (z.below.mono HBR.out.size)).mono HBWL.out.size)))
     refine Kit.wpIn_region_reads (by rintro ⟨_, _, h⟩; exact h) (by kernel_rfl) (by kernel_rfl) (by kernel_rfl) ?_
     (repeat (go_big_quiet_step (first | (with_reducible exact Kit.calls_cls _ (A1.out _)) | (with_reducible exact Kit.calls_cls _ (A2.out _)))))
     refine wpQuiet_nil ?_
     intro z
     have HBZ := Lib.hid (HBR.out.trans (z.below.mono HBR.out.size))
     clear KZ q1 q2 q3 q4 e0 A1 A2
     rcases hv with _ | _
     ·gi_wp2
      go_roundw
      case rel => exact ⟨2, by go_num, by omega, HBZ, Lib.hid ⟨fun _ => HJ.out.1 (by omega), fun _ => by simp⟩⟩
      case measure => simp [intOf]
     ·have HHV := Lib.hid (show Un.heavy bs B role e = true by rw [HEV.out, g0]; simp)
      have HBZW := Lib.hid (HBWL.out.trans (HBZ.out.mono HBWL.out.size))
      generalize z.val = Z at *
      have r8 : Z.cell? ⟨w.heap.size + 1 + 1 + 1 + 1, 0, none⟩ = some (.int .i64 0) := (HBZW.out.cell (by have := HZW.out; simp; omega)).trans HR8.out.1
      have r9 : Z.cell? ⟨w.heap.size + 1 + 1 + 1 + 1 + 1, 0, none⟩ = some (.bool false) := (HBZW.out.cell (by have := HZW.out; simp; omega)).trans HR8.out.2.1
      have g8 : Z.frozen? ⟨w.heap.size + 1 + 1 + 1 + 1, 0, none⟩ = false := (World.frozen?_of_block (HBZW.out.block _ (by have := HZW.out; show w.heap.size + 1 + 1 + 1 + 1 < _; omega))).trans HR8.out.2.2.1
      have g9 : Z.frozen? ⟨w.heap.size + 1 + 1 + 1 + 1 + 1, 0, none⟩ = false := (World.frozen?_of_block (HBZW.out.block _ (by have := HZW.out; show w.heap.size + 1 + 1 + 1 + 1 + 1 < _; omega))).trans HR8.out.2.2.2
      have f0z : Z.cell? ⟨b13, 0, none⟩ = some (.int .i64 e.id) := (HBZW.out.cell (by exact z13)).trans f0
      clear HBZ
      gi_wp2
      obtain ⟨W5, hW5⟩ : ∃ W5, (Z.setCell ⟨w.heap.size + 1 + 1 + 1 + 1, 0, none⟩ (.int .i64 e.id)).setCell ⟨w.heap.size + 1 + 1 + 1 + 1 + 1, 0, none⟩ (.bool true) = W5 := ⟨_, rfl⟩
      obtain ⟨q8, q9, hx5⟩ := Un.set2 (w.heap.size + 1 + 1 + 1 + 1) _ _ _ _ r8 r9 g8 g9 W5 hW5
      rw [hW5]
      exact ⟨Y, ((Kit.Exc.refl Y W).then HBZW.out).trans (hx5.mono fun k _ hk => (HYY.out k).2 hk), fun k hk => ⟨.inl hk, by have h1 := HYL.out k hk; have h2 := hx5.size; have h3 := HBZW.out.size; omega⟩,
       rfl, Un.exc_on (S := Un.HY w) ((Un.exc_on HEX.out ((Kit.Exc.refl (fun _ => False) W).then HBZW.out) (fun _ _ _ h => h)).mono (fun _ _ h => h.elim)) hx5 (fun _ _ h1 h2 => h1 h2), HYY.out, i, e, ⟨hi, HIE.out, HKE.out⟩, (by rw [← HPR.out]; exact HAL.out), HHV.out, q8, q9⟩
   ·have HNV := Lib.hid (show Un.heavy bs B role e = false by
     rw [HEV.out]
     have h1 := HJ.out.1 (by omega)
     have h2 := HJ.out.2 (by omega)
     cases hv <;> simp_all)
    have HBRW := Lib.hid (HBWL.out.trans (HBR.out.mono HBWL.out.size))
    gi_wp2
    exact ⟨Y, (Kit.Exc.refl Y W).then HBRW.out, fun k hk => ⟨.inl hk, by have h1 := HYL.out k hk; have h2 := HBRW.out.size; omega⟩, Un.exc_on HEX.out ((Kit.Exc.refl (fun _ => False) W).then HBRW.out) (fun _ _ _ h => h), HYY.out, fun s hs => by
     rcases List.mem_append.1 hs with h | h
     ·exact HAL.out s h
     ·simp at h; rw [h]; exact HNV.out⟩
 case stop =>
  rintro D cc pre Y W hD hYD hSp ⟨rfl, hE, hYY, i, s, ⟨hi, his, hks⟩, hal, hno, ⟨c8, c9⟩, f8, f9⟩ hK
  have hf := Un.find_of (Un.keep bar fun k => k.kind == 7) (Un.heavy bs B role) x.sg i hi s his hks hal hno
  have hRR : R = (s.id, true) := by
   rw [← HRR.out]
   unfold Un.heavyR
   rw [show (Un.lift bar) = (Un.keep bar fun k => k.kind == 7) from rfl, hf]
  have nD : ∀ k, (k = w.heap.size + 1 + 1 + 1 + 1 ∨ k = w.heap.size + 1 + 1 + 1 + 1 + 1) → k ≠ D := fun k hk e => hYD ((hYY D).2 (e ▸ hk))
  have HK := Lib.hid hK
  have HRX := Lib.hid hRR
  have HND := Lib.hid nD
  have HBW := Lib.hid (HB4.out.trans (hE.below (n := w.heap.size) HB4.out.size (fun b hb => by rcases hb with rfl | rfl <;> omega)))
  have HZW := Lib.hid (show w.heap.size + 1 + 1 + 1 + 1 + 1 < W.heap.size by have h1 := HZ1.out; have h2 := HZ4.out; have h3 := hE.size; omega)
  clear hE hYY hal hno hf hRR hK nD his hks HIT
  go_wp2_with fail
  go_region
  all_goals
   generalize hW5 : ((W.setCell ⟨w.heap.size + 1 + 1 + 1 + 1, 0, none⟩ (.int .i64 s.id)).setCell ⟨w.heap.size + 1 + 1 + 1 + 1 + 1, 0, none⟩ (.bool true)).drew = W5
   obtain ⟨⟨q8, q9⟩, hx5⟩ := Un.set2d (w.heap.size + 1 + 1 + 1 + 1) _ _ _ _ c8 c9 f8 f9 W5 hW5
   have hK5 : W5.heap[D]? = some (.deferred (some [])) := hx5.heap HK.out (fun h => HND.out D h rfl)
   have hs5 := hx5.size
   have XP : Kit.Exc (fun k => k = D) W5 (W5.putObj D (.deferred none)) := (Kit.Exc.refl _ W5).putObj _ _ (.inl rfl)
   have e8 := XP.cell q8 (HND.out _ (.inl rfl)) (by have := HZW.out; show w.heap.size + 1 + 1 + 1 + 1 < _; omega)
   have e9 := XP.cell q9 (HND.out _ (.inr rfl)) (by have := HZW.out; show w.heap.size + 1 + 1 + 1 + 1 + 1 < _; omega)
   have HB5 := Lib.hid (show Below w.heap.size w W5 from HBW.out.trans (hx5.below (n := w.heap.size) HBW.out.size (fun b hb => by rcases hb with rfl | rfl <;> omega)))
   have hDw : w.heap.size ≤ D := by have := HB4.out.size; omega
   clear hW5 c8 c9 f8 f9 hx5 XP
   go_wp2_with fail
   rw [Exit.noGoto_ret]
   exact Kit.post_mark hK5 (by simp [results, Tryz.results38, go_sem, e8, e9]; try rfl) ⟨by rw [HRX.out], Kit.below_putObj HB5.out _ _ hDw⟩
 case done =>
  rintro D xs Y W hD hYD hxs ⟨hE, hYY, hall⟩ hK
  subst hxs
  have hRR : R = (0, false) := by
   rw [← HRR.out]
   unfold Un.heavyR
   rw [show (Un.lift bar) = (Un.keep bar fun k => k.kind == 7) from rfl, List.find?_eq_none.2 (fun t ht => by rw [hall t ht]; simp)]
  have nD : ∀ k, (k = w.heap.size + 1 + 1 + 1 + 1 ∨ k = w.heap.size + 1 + 1 + 1 + 1 + 1) → k ≠ D := fun k hk e => hYD ((hYY D).2 (e ▸ hk))
  have hB1W : Below W1.heap.size W1 W := HX4.out.trans ((hE.below (n := w4.heap.size) (Nat.le_refl _) (fun _ h => h.elim)).mono HX4.out.size)
  have hz1 := HZ1.out
  have c8 : W.cell? ⟨w.heap.size + 1 + 1 + 1 + 1, 0, none⟩ = some (.int .i64 0) := (hB1W.cell (by simp; omega)).trans W1F.out.2.2.1
  have c9 : W.cell? ⟨w.heap.size + 1 + 1 + 1 + 1 + 1, 0, none⟩ = some (.bool false) := (hB1W.cell (by simp; omega)).trans W1F.out.2.2.2.1
  have f8 : W.frozen? ⟨w.heap.size + 1 + 1 + 1 + 1, 0, none⟩ = false := (World.frozen?_of_block (hB1W.block _ (by show w.heap.size + 1 + 1 + 1 + 1 < _; omega))).trans W1F.out.2.2.2.2.1
  have f9 : W.frozen? ⟨w.heap.size + 1 + 1 + 1 + 1 + 1, 0, none⟩ = false := (World.frozen?_of_block (hB1W.block _ (by show w.heap.size + 1 + 1 + 1 + 1 + 1 < _; omega))).trans W1F.out.2.2.2.2.2
  have HK := Lib.hid hK
  have HRX := Lib.hid hRR
  have HND := Lib.hid nD
  have HBW := Lib.hid (HB1.out.trans (hB1W.mono HB1.out.size))
  have HZW := Lib.hid (show w.heap.size + 1 + 1 + 1 + 1 + 1 < W.heap.size by have h3 := hB1W.size; omega)
  clear hE hYY hall hRR hK nD hB1W hz1 HIT
  go_wp2_with fail
  go_region
  all_goals
   generalize hW5 : ((W.setCell ⟨w.heap.size + 1 + 1 + 1 + 1, 0, none⟩ (.int .i64 0)).setCell ⟨w.heap.size + 1 + 1 + 1 + 1 + 1, 0, none⟩ (.bool false)).drew = W5
   obtain ⟨⟨q8, q9⟩, hx5⟩ := Un.set2d (w.heap.size + 1 + 1 + 1 + 1) _ _ _ _ c8 c9 f8 f9 W5 hW5
   have hK5 : W5.heap[D]? = some (.deferred (some [])) := hx5.heap HK.out (fun h => HND.out D h rfl)
   have hs5 := hx5.size
   have XP : Kit.Exc (fun k => k = D) W5 (W5.putObj D (.deferred none)) := (Kit.Exc.refl _ W5).putObj _ _ (.inl rfl)
   have e8 := XP.cell q8 (HND.out _ (.inl rfl)) (by have := HZW.out; show w.heap.size + 1 + 1 + 1 + 1 < _; omega)
   have e9 := XP.cell q9 (HND.out _ (.inr rfl)) (by have := HZW.out; show w.heap.size + 1 + 1 + 1 + 1 + 1 < _; omega)
   have HB5 := Lib.hid (show Below w.heap.size w W5 from HBW.out.trans (hx5.below (n := w.heap.size) HBW.out.size (fun b hb => by rcases hb with rfl | rfl <;> omega)))
   have hDw : w.heap.size ≤ D := by have := HB4.out.size; omega
   clear hW5 c8 c9 f8 f9 hx5 XP
   go_wp2_with fail
   rw [Exit.noGoto_ret]
   exact Kit.post_mark hK5 (by simp [results, Tryz.results38, go_sem, e8, e9]; try rfl) ⟨by rw [HRX.out], Kit.below_putObj HB5.out _ _ hDw⟩
end Go.Proofs.YtbhgogiaaljclaaGreatDoor
