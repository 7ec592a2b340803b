/- Walks: package space: numbers within a bound, valid boxes. Walks: package space: Join. Walks: package space: Shift. Walks: package space: Inside. -/
import Derived.Test.YtedolbjgdedoaaaGreatDoorProg
import Derived.Test.YtedolbjgdedoaaaGreatDoorKit
import Derived.WalkKit
import Derived.WalkSpells
import Derived.WalkLawsBesides
import Derived.Lib.Hide
import Derived.IntWalk
set_option linter.unusedSimpArgs false
set_option linter.unusedVariables false
set_option maxHeartbeats 1000000
namespace Go.Proofs.YtedolbjgdedoaaaGreatDoor
open Go.RowKit

namespace Sp
def inB (m n : Int) : Bool := decide (-m ≤ n) && decide (n ≤ m)
theorem inB_iff (m n : Int) : inB m n = true ↔ -m ≤ n ∧ n ≤ m := by simp [inB]
theorem all_take (f : Int → Bool) (xs : List Int) (k : Nat) (hk : k < xs.length) : (xs.take (k + 1)).all f = ((xs.take k).all f && f (xs.getD k 0)) := by
 rw [List.take_succ_eq_append_getElem hk, List.all_append]
 simp [List.getD_eq_getElem?_getD, List.getElem?_eq_getElem hk]
theorem all_false (f : Int → Bool) (xs : List Int) (k : Nat) (hk : k < xs.length) (h : f (xs.getD k 0) = false) : xs.all f = false := by
 rw [List.all_eq_false]
 refine ⟨xs[k], List.getElem_mem hk, ?_⟩
 simp only [List.getD_eq_getElem?_getD, List.getElem?_eq_getElem hk, Option.getD_some] at h
 simp [h]
def okBox (a b c d : Int) : Bool := [a, b, c, d].all (inB 1099511627776) && decide (a ≤ b) && decide (c ≤ d)
end Sp

theorem sp_within (m : Int) (ad : Addr) (cap : Nat) (xs : List Int) (w : World) (hm : 0 ≤ m) (hm' : m ≤ 4611686018427387904) (hl : xs.length ≤ 1000)
  (hc : ∀ k, k < xs.length → w.cell? (ad.add k) = some (.int .i64 (xs.getD k 0))) :
  Calls Tryz.prog 83 #[.int .i64 m, .slice (some ad) xs.length cap] w fun e w' => e = .returned (.bool (xs.all (Sp.inB m))) ∧ w' = w := by
 replace hc := qh hc
 go_enter Tryz.func83, Tryz.ntmps83
 go_wp2
 go_loop [4, 6, 9] (fun _ _ v9 => ∃ k : Nat, k ≤ xs.length ∧ v9 = .int .i64 k ∧ Hid ((xs.take k).all (Sp.inB m) = true)) (fun _ _ v9 => xs.length - (intOf v9).toNat)
 case atStart => exact ⟨0, Nat.zero_le _, rfl, by show _ = _; simp⟩
 case round =>
  obtain ⟨k, hk, rfl, HA⟩ := hrel
  by_cases hlt : k < xs.length
  ·have hcell := hc.out k hlt
   have ht := Sp.all_take (Sp.inB m) xs k hlt
   have HT := qh ht; clear ht
   generalize hx : xs.getD k 0 = x at *
   replace hx := qh hx
   by_cases h1 : x < -m
   ·have d1 : decide (x < -m) = true := by simpa using h1
    go_wp2
    go_ret
    refine ⟨?_, rfl⟩
    rw [Sp.all_false _ xs k hlt (by rw [hx.out]; simp [Sp.inB]; omega)]; rfl
   by_cases h2 : m < x
   ·go_wp2
    go_ret
    refine ⟨?_, rfl⟩
    rw [Sp.all_false _ xs k hlt (by rw [hx.out]; simp [Sp.inB]; omega)]; rfl
   ·go_wp2
    refine ⟨⟨k + 1, by omega, by simp, qh ?_⟩, ?_⟩
    ·rw [HT.out, HA.out, Bool.true_and, Sp.inB_iff]; omega
    ·simp only [intOf]; omega
  ·go_wp2
   go_ret
   refine ⟨?_, rfl⟩
   have hA := HA.out
   rw [List.take_of_length_le omg] at hA
   rw [hA]; rfl

abbrev Sp.boxV (a b c d : Int) : Value := .agg #[.int .i64 a, .int .i64 b, .int .i64 c, .int .i64 d]

theorem sp_valid (a b c d : Int) (w : World) :
  Calls Tryz.prog 55 #[Sp.boxV a b c d] w fun e w' => e = .returned (.bool (Sp.okBox a b c d)) ∧ Below w.heap.size w w' := by
 generalize hr : Sp.okBox a b c d = r
 unfold Sp.okBox at hr
 replace hr := qh hr
 go_enter Tryz.func55, Tryz.ntmps55
 go_wp2_with fail
 refine (sp_within 1099511627776 ⟨w.heap.size + 1, 0, none⟩ 4 [a, b, c, d] _ (by decide) (by decide) (by simp) ?_).mono ?_
 ·intro k hk
  match k, hk with
  | 0, _ => simp [Addr.add, go_sem]
  | 1, _ => simp [Addr.add, go_sem]
  | 2, _ => simp [Addr.add, go_sem]
  | 3, _ => simp [Addr.add, go_sem]
 ·rintro e w' ⟨rfl, rfl⟩
  cases HA : [a, b, c, d].all (Sp.inB 1099511627776)
  ·go_wp2
   go_ret
   exact ⟨by rw [← hr.out, HA]; rfl, by exact Kit.gr⟩
  ·replace HA := qh HA
   by_cases h1 : a ≤ b
   ·by_cases h2 : c ≤ d
    ·go_wp2
     go_ret
     exact ⟨by rw [← hr.out, HA.out]; simp [h1, h2], by exact Kit.gr⟩
    ·go_wp2
     go_ret
     exact ⟨by rw [← hr.out, HA.out]; simp [h1, h2], by exact Kit.gr⟩
   ·go_wp2
    go_ret
    exact ⟨by rw [← hr.out, HA.out, show decide (a ≤ b) = false by (simp; omega)]; rfl, by exact Kit.gr⟩
end Go.Proofs.YtedolbjgdedoaaaGreatDoor

namespace Go.Proofs.YtedolbjgdedoaaaGreatDoor
open Go.RowKit

def Sp.JoinIs (a b c d a' b' c' d' : Int) (w : World) (x y z u e : Int) : Prop :=
 Calls Tryz.prog 81 #[Sp.boxV a b c d, Sp.boxV a' b' c' d'] w fun r w' =>
  r = .returned (.tuple #[Sp.boxV x y z u, .int .i64 e]) ∧ Below w.heap.size w w'

theorem sp_join_3 (a b c d a' b' c' d' : Int) (w : World) (h : Sp.okBox a b c d = true) (h' : Sp.okBox a' b' c' d' = true) :
  Sp.JoinIs a b c d a' b' c' d' w (Kit.mn2 a a') (Kit.mx2 b b') (Kit.mn2 c c') (Kit.mx2 d d') 0 := by
 unfold Sp.JoinIs
 have H := qh h; clear h
 have H' := qh h'; clear h'
 have m1 : (if a' < a then a' else a) = Kit.mn2 a a' := rfl
 have m2 : (if b < b' then b' else b) = Kit.mx2 b b' := rfl
 have m3 : (if c' < c then c' else c) = Kit.mn2 c c' := rfl
 have m4 : (if d < d' then d' else d) = Kit.mx2 d d' := rfl
 go_enter Tryz.func81, Tryz.ntmps81
 skip
 (go_wp2_with (fail); refine (sp_valid a b c d _).mono ?_; rintro e w1_ ⟨rfl, hb1_⟩; have hp1_ : Below w.heap.size w w1_ := Below.trans (by exact Kit.gr) (hb1_.mono (by first | assumption | (simp; done) | (simp; omega) | omega)); have hw1_ : Below w.heap.size w w1_ := hp1_; obtain ⟨hc1_, hf1_⟩ := Kit.bcell hb1_; have z1_w : w.heap.size < w1_.heap.size := (by have := hb1_.size; first | omega | (simp at this; omega)); obtain ⟨g1_w_0, g1_w_1, g1_w_2, g1_w_3⟩ : w1_.cell? ⟨w.heap.size, 0, none⟩ = some (.int .i64 a) ∧ w1_.cell? ⟨w.heap.size, 1, none⟩ = some (.int .i64 b) ∧ w1_.cell? ⟨w.heap.size, 2, none⟩ = some (.int .i64 c) ∧ w1_.cell? ⟨w.heap.size, 3, none⟩ = some (.int .i64 d) := (by refine ⟨?_, ?_, ?_, ?_⟩ <;> (rw [hc1_ _ _ (by first | assumption | (simp; done) | (simp; omega) | omega)]; first | assumption | (simp [go_sem]; done) | (simp [go_sem, *]; done))); have z1_w_1 : w.heap.size + 1 < w1_.heap.size := (by have := hb1_.size; first | omega | (simp at this; omega)); obtain ⟨g1_w_1_0, g1_w_1_1, g1_w_1_2, g1_w_1_3⟩ : w1_.cell? ⟨w.heap.size + 1, 0, none⟩ = some (.int .i64 a') ∧ w1_.cell? ⟨w.heap.size + 1, 1, none⟩ = some (.int .i64 b') ∧ w1_.cell? ⟨w.heap.size + 1, 2, none⟩ = some (.int .i64 c') ∧ w1_.cell? ⟨w.heap.size + 1, 3, none⟩ = some (.int .i64 d') := (by refine ⟨?_, ?_, ?_, ?_⟩ <;> (rw [hc1_ _ _ (by first | assumption | (simp; done) | (simp; omega) | omega)]; first | assumption | (simp [go_sem]; done) | (simp [go_sem, *]; done))); have z1_w_1_1 : w.heap.size + 1 + 1 < w1_.heap.size := (by have := hb1_.size; first | omega | (simp at this; omega)); obtain ⟨g1_w_1_1_0, g1_w_1_1_1, g1_w_1_1_2, g1_w_1_1_3⟩ : w1_.cell? ⟨w.heap.size + 1 + 1, 0, none⟩ = some (.int .i64 0) ∧ w1_.cell? ⟨w.heap.size + 1 + 1, 1, none⟩ = some (.int .i64 0) ∧ w1_.cell? ⟨w.heap.size + 1 + 1, 2, none⟩ = some (.int .i64 0) ∧ w1_.cell? ⟨w.heap.size + 1 + 1, 3, none⟩ = some (.int .i64 0) := (by refine ⟨?_, ?_, ?_, ?_⟩ <;> (rw [hc1_ _ _ (by first | assumption | (simp; done) | (simp; omega) | omega)]; first | assumption | (simp [go_sem]; done) | (simp [go_sem, *]; done))); have f1_w_1_1_0 : w1_.frozen? ⟨w.heap.size + 1 + 1, 0, none⟩ = false := (by rw [hf1_ _ _ (by first | assumption | (simp; done) | (simp; omega) | omega)]; first | assumption | (simp [go_sem]; done) | (simp [go_sem, *]; done)); have f1_w_1_1_1 : w1_.frozen? ⟨w.heap.size + 1 + 1, 1, none⟩ = false := (by rw [hf1_ _ _ (by first | assumption | (simp; done) | (simp; omega) | omega)]; first | assumption | (simp [go_sem]; done) | (simp [go_sem, *]; done)); have f1_w_1_1_2 : w1_.frozen? ⟨w.heap.size + 1 + 1, 2, none⟩ = false := (by rw [hf1_ _ _ (by first | assumption | (simp; done) | (simp; omega) | omega)]; first | assumption | (simp [go_sem]; done) | (simp [go_sem, *]; done)); have f1_w_1_1_3 : w1_.frozen? ⟨w.heap.size + 1 + 1, 3, none⟩ = false := (by rw [hf1_ _ _ (by first | assumption | (simp; done) | (simp; omega) | omega)]; first | assumption | (simp [go_sem]; done) | (simp [go_sem, *]; done)); clear hc1_ hf1_; clear hb1_ hp1_)
 rw [H.out]
 (go_wp2_with (fail); refine (sp_valid a' b' c' d' _).mono ?_; rintro e w2_ ⟨rfl, hb2_⟩; have hp2_ : Below w1_.heap.size w1_ w2_ := Below.trans (by exact Kit.gr) (hb2_.mono (by first | assumption | (simp; done) | (simp; omega) | omega)); have hw2_ : Below w.heap.size w w2_ := hw1_.trans (hp2_.mono hw1_.size); have z2_w : w.heap.size < w2_.heap.size := Nat.lt_of_lt_of_le z1_w hp2_.size; have g2_w_0 := Kit.ck hp2_ g1_w_0 z1_w; have g2_w_1 := Kit.ck hp2_ g1_w_1 z1_w; have g2_w_2 := Kit.ck hp2_ g1_w_2 z1_w; have g2_w_3 := Kit.ck hp2_ g1_w_3 z1_w; have z2_w_1 : w.heap.size + 1 < w2_.heap.size := Nat.lt_of_lt_of_le z1_w_1 hp2_.size; have g2_w_1_0 := Kit.ck hp2_ g1_w_1_0 z1_w_1; have g2_w_1_1 := Kit.ck hp2_ g1_w_1_1 z1_w_1; have g2_w_1_2 := Kit.ck hp2_ g1_w_1_2 z1_w_1; have g2_w_1_3 := Kit.ck hp2_ g1_w_1_3 z1_w_1; have z2_w_1_1 : w.heap.size + 1 + 1 < w2_.heap.size := Nat.lt_of_lt_of_le z1_w_1_1 hp2_.size; have g2_w_1_1_0 := Kit.ck hp2_ g1_w_1_1_0 z1_w_1_1; have f2_w_1_1_0 := Kit.fk hp2_ f1_w_1_1_0 z1_w_1_1; have g2_w_1_1_1 := Kit.ck hp2_ g1_w_1_1_1 z1_w_1_1; have f2_w_1_1_1 := Kit.fk hp2_ f1_w_1_1_1 z1_w_1_1; have g2_w_1_1_2 := Kit.ck hp2_ g1_w_1_1_2 z1_w_1_1; have f2_w_1_1_2 := Kit.fk hp2_ f1_w_1_1_2 z1_w_1_1; have g2_w_1_1_3 := Kit.ck hp2_ g1_w_1_1_3 z1_w_1_1; have f2_w_1_1_3 := Kit.fk hp2_ f1_w_1_1_3 z1_w_1_1; clear z1_w g1_w_0 g1_w_1 g1_w_2 g1_w_3 z1_w_1 g1_w_1_0 g1_w_1_1 g1_w_1_2 g1_w_1_3 z1_w_1_1 g1_w_1_1_0 f1_w_1_1_0 g1_w_1_1_1 f1_w_1_1_1 g1_w_1_1_2 f1_w_1_1_2 g1_w_1_1_3 f1_w_1_1_3 hw1_ hb2_ hp2_)
 rw [H'.out]
 go_wp2
 (refine bodyPost_ret (by simp [results, Tryz.results81, go_sem, Kit.cell_set, g2_w_1_1_0, g2_w_1_1_1, g2_w_1_1_2, g2_w_1_1_3]; try rfl) rfl ?_)
 exact ⟨rfl, by exact Kit.gr⟩

theorem sp_within2 (m x y : Int) (b : Nat) (w : World) (hm : 0 ≤ m) (hm' : m ≤ 4611686018427387904) (h0 : w.cell? ⟨b, 0, none⟩ = some (.int .i64 x)) (h1 : w.cell? ⟨b, 1, none⟩ = some (.int .i64 y)) :
  Calls Tryz.prog 83 #[.int .i64 m, .slice (some ⟨b, 0, none⟩) 2 2] w fun e w' => e = .returned (.bool ([x, y].all (Sp.inB m))) ∧ Below w.heap.size w w' := by
 refine (sp_within m ⟨b, 0, none⟩ 2 [x, y] w hm hm' (by simp) ?_).mono ?_
 ·intro k hk
  match k, hk with
  | 0, _ => simpa [Addr.add] using h0
  | 1, _ => simpa [Addr.add] using h1
 ·rintro e w' ⟨rfl, rfl⟩; exact ⟨rfl, Below.refl _ _⟩

def Sp.ShiftIs (a b c d p q : Int) (w : World) (x y z u e : Int) : Prop :=
 Calls Tryz.prog 43 #[Sp.boxV a b c d, .int .i64 p, .int .i64 q] w fun r w' =>
  r = .returned (.tuple #[Sp.boxV x y z u, .int .i64 e]) ∧ Below w.heap.size w w'

theorem sp_shift_4 (a b c d p q : Int) (w : World) (h : Sp.okBox a b c d = true) (h2 : [p, q].all (Sp.inB 2199023255552) = true) (h3 : Sp.okBox (a + p) (b + p) (c + q) (d + q) = true)
  (r : -1099511627776 ≤ a ∧ a ≤ 1099511627776 ∧ -1099511627776 ≤ b ∧ b ≤ 1099511627776 ∧ -1099511627776 ≤ c ∧ c ≤ 1099511627776 ∧ -1099511627776 ≤ d ∧ d ≤ 1099511627776 ∧ -2199023255552 ≤ p ∧ p ≤ 2199023255552 ∧ -2199023255552 ≤ q ∧ q ≤ 2199023255552) :
  Sp.ShiftIs a b c d p q w (a + p) (b + p) (c + q) (d + q) 0 := by
 unfold Sp.ShiftIs
 have H := qh h; clear h
 have H2 := qh h2; clear h2
 have H3 := qh h3; clear h3
 obtain ⟨r1, r2, r3, r4, r5, r6, r7, r8, r9, r10, r11, r12⟩ := r
 go_enter Tryz.func43, Tryz.ntmps43
 skip
 (go_wp2_with (fail); refine (sp_valid a b c d _).mono ?_; rintro e w1_ ⟨rfl, hb1_⟩; have hp1_ : Below w.heap.size w w1_ := Below.trans (by exact Kit.gr) (hb1_.mono (by first | assumption | (simp; done) | (simp; omega) | omega)); have hw1_ : Below w.heap.size w w1_ := hp1_; obtain ⟨hc1_, hf1_⟩ := Kit.bcell hb1_; have z1_w : w.heap.size < w1_.heap.size := (by have := hb1_.size; first | omega | (simp at this; omega)); obtain ⟨g1_w_0, g1_w_1, g1_w_2, g1_w_3⟩ : w1_.cell? ⟨w.heap.size, 0, none⟩ = some (.int .i64 a) ∧ w1_.cell? ⟨w.heap.size, 1, none⟩ = some (.int .i64 b) ∧ w1_.cell? ⟨w.heap.size, 2, none⟩ = some (.int .i64 c) ∧ w1_.cell? ⟨w.heap.size, 3, none⟩ = some (.int .i64 d) := (by refine ⟨?_, ?_, ?_, ?_⟩ <;> (rw [hc1_ _ _ (by first | assumption | (simp; done) | (simp; omega) | omega)]; first | assumption | (simp [go_sem]; done) | (simp [go_sem, *]; done))); have z1_w_1 : w.heap.size + 1 < w1_.heap.size := (by have := hb1_.size; first | omega | (simp at this; omega)); obtain ⟨g1_w_1_0, g1_w_1_1, g1_w_1_2, g1_w_1_3⟩ : w1_.cell? ⟨w.heap.size + 1, 0, none⟩ = some (.int .i64 0) ∧ w1_.cell? ⟨w.heap.size + 1, 1, none⟩ = some (.int .i64 0) ∧ w1_.cell? ⟨w.heap.size + 1, 2, none⟩ = some (.int .i64 0) ∧ w1_.cell? ⟨w.heap.size + 1, 3, none⟩ = some (.int .i64 0) := (by refine ⟨?_, ?_, ?_, ?_⟩ <;> (rw [hc1_ _ _ (by first | assumption | (simp; done) | (simp; omega) | omega)]; first | assumption | (simp [go_sem]; done) | (simp [go_sem, *]; done))); have f1_w_1_0 : w1_.frozen? ⟨w.heap.size + 1, 0, none⟩ = false := (by rw [hf1_ _ _ (by first | assumption | (simp; done) | (simp; omega) | omega)]; first | assumption | (simp [go_sem]; done) | (simp [go_sem, *]; done)); have f1_w_1_1 : w1_.frozen? ⟨w.heap.size + 1, 1, none⟩ = false := (by rw [hf1_ _ _ (by first | assumption | (simp; done) | (simp; omega) | omega)]; first | assumption | (simp [go_sem]; done) | (simp [go_sem, *]; done)); have f1_w_1_2 : w1_.frozen? ⟨w.heap.size + 1, 2, none⟩ = false := (by rw [hf1_ _ _ (by first | assumption | (simp; done) | (simp; omega) | omega)]; first | assumption | (simp [go_sem]; done) | (simp [go_sem, *]; done)); have f1_w_1_3 : w1_.frozen? ⟨w.heap.size + 1, 3, none⟩ = false := (by rw [hf1_ _ _ (by first | assumption | (simp; done) | (simp; omega) | omega)]; first | assumption | (simp [go_sem]; done) | (simp [go_sem, *]; done)); clear hc1_ hf1_; clear hb1_ hp1_)
 rw [H.out]
 (go_wp2_with (fail); refine (sp_within2 2199023255552 p q _ _ (by decide) (by decide) (by simp [go_sem]) (by simp [go_sem])).mono ?_; rintro e w2_ ⟨rfl, hb2_⟩; have hp2_ : Below w1_.heap.size w1_ w2_ := Below.trans (by exact Kit.gr) (hb2_.mono (by first | assumption | (simp; done) | (simp; omega) | omega)); have hw2_ : Below w.heap.size w w2_ := hw1_.trans (hp2_.mono hw1_.size); have z2_w : w.heap.size < w2_.heap.size := Nat.lt_of_lt_of_le z1_w hp2_.size; have g2_w_0 := Kit.ck hp2_ g1_w_0 z1_w; have g2_w_1 := Kit.ck hp2_ g1_w_1 z1_w; have g2_w_2 := Kit.ck hp2_ g1_w_2 z1_w; have g2_w_3 := Kit.ck hp2_ g1_w_3 z1_w; have z2_w_1 : w.heap.size + 1 < w2_.heap.size := Nat.lt_of_lt_of_le z1_w_1 hp2_.size; have g2_w_1_0 := Kit.ck hp2_ g1_w_1_0 z1_w_1; have f2_w_1_0 := Kit.fk hp2_ f1_w_1_0 z1_w_1; have g2_w_1_1 := Kit.ck hp2_ g1_w_1_1 z1_w_1; have f2_w_1_1 := Kit.fk hp2_ f1_w_1_1 z1_w_1; have g2_w_1_2 := Kit.ck hp2_ g1_w_1_2 z1_w_1; have f2_w_1_2 := Kit.fk hp2_ f1_w_1_2 z1_w_1; have g2_w_1_3 := Kit.ck hp2_ g1_w_1_3 z1_w_1; have f2_w_1_3 := Kit.fk hp2_ f1_w_1_3 z1_w_1; clear z1_w g1_w_0 g1_w_1 g1_w_2 g1_w_3 z1_w_1 g1_w_1_0 f1_w_1_0 g1_w_1_1 f1_w_1_1 g1_w_1_2 f1_w_1_2 g1_w_1_3 f1_w_1_3 hw1_ hb2_ hp2_)
 rw [H2.out]
 go_wp2_with fail
 refine (sp_valid (a + p) (b + p) (c + q) (d + q) _).mono ?_
 rintro e w3 ⟨rfl, hb3⟩
 rw [H3.out]
 have hw3 : Below w.heap.size w w3 := Below.trans (by exact Kit.gr) (hb3.mono (by simp; omega))
 obtain ⟨hc3, hf3⟩ := Kit.bcell hb3
 have z3 : w.heap.size + 1 < w3.heap.size := by have := hb3.size; simp at this; omega
 have gA : w3.cell? ⟨w.heap.size + 1, 0, none⟩ = some (.int .i64 (a + p)) := by rw [hc3 _ _ (by simp; omega)]; simp [go_sem, *]
 have gB : w3.cell? ⟨w.heap.size + 1, 1, none⟩ = some (.int .i64 (b + p)) := by rw [hc3 _ _ (by simp; omega)]; simp [go_sem, *]
 have gC : w3.cell? ⟨w.heap.size + 1, 2, none⟩ = some (.int .i64 (c + q)) := by rw [hc3 _ _ (by simp; omega)]; simp [go_sem, *]
 have gD : w3.cell? ⟨w.heap.size + 1, 3, none⟩ = some (.int .i64 (d + q)) := by rw [hc3 _ _ (by simp; omega)]; simp [go_sem, *]
 have fA : w3.frozen? ⟨w.heap.size + 1, 0, none⟩ = false := by rw [hf3 _ _ (by simp; omega)]; simp [go_sem, *]
 have fB : w3.frozen? ⟨w.heap.size + 1, 1, none⟩ = false := by rw [hf3 _ _ (by simp; omega)]; simp [go_sem, *]
 have fC : w3.frozen? ⟨w.heap.size + 1, 2, none⟩ = false := by rw [hf3 _ _ (by simp; omega)]; simp [go_sem, *]
 have fD : w3.frozen? ⟨w.heap.size + 1, 3, none⟩ = false := by rw [hf3 _ _ (by simp; omega)]; simp [go_sem, *]
 clear hc3 hf3 hb3
 go_wp2
 (refine bodyPost_ret (by simp [results, Tryz.results43, go_sem, Kit.cell_set, gA, gB, gC, gD]; try rfl) rfl ?_)
 exact ⟨rfl, by exact Kit.gr⟩

def Sp.inside (a b c d a' b' c' d' : Int) : Bool := (decide (a' ≤ a) && decide (b ≤ b')) && (decide (c' ≤ c) && decide (d ≤ d'))

end Go.Proofs.YtedolbjgdedoaaaGreatDoor
