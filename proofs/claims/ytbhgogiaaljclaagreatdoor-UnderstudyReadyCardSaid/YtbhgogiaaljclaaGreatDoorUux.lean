/- Walks: package understudy: Able whole; who dances (heavy's first closure). Walks: slices.Index, Contains at ints; package understudy: the comparison of Ready. Walks: package understudy: by (a comparison by several numbers), as Ready uses it. -/
import Derived.Test.YtbhgogiaaljclaaGreatDoorUuab
import Derived.Test.YtbhgogiaaljclaaGreatDoorKxb
import Derived.Deep.LoopGhost
set_option linter.unusedSimpArgs false
set_option linter.unusedVariables false
set_option maxRecDepth 100000
set_option maxHeartbeats 2000000
namespace Go.Proofs.YtbhgogiaaljclaaGreatDoor
open Go.RowKit
theorem un_who (bs : List Un.Bd) (B : Un.Bd) (role r : Int) (b8 b7 b6 : Nat) (a : Option Addr) (c : Nat) (w : World) (c8 : w.cell? ⟨b8, 0, none⟩ = some (.int .i64 role)) (r7 : w.rangeAt b7 0 (Un.bdA B).toList) (c6 : w.cell? ⟨b6, 0, none⟩ = some (.slice a bs.length c))
  (hS : Tp.Sl w a bs.length 17 (Un.bdF bs)) (hl : bs.length ≤ 4611686018427387904) (z8 : b8 < w.heap.size) (z7 : b7 < w.heap.size) (z6 : b6 < w.heap.size) (hr : r = role ∨ (0 ≤ r ∧ r < bs.length)) :
  Calls Tryz.prog 78 #[.int .i64 r, .pointer (some ⟨b8, 0, none⟩), .pointer (some ⟨b7, 0, none⟩), .pointer (some ⟨b6, 0, none⟩)] w fun e w' => e = .returned (.agg (Un.bdA (Un.who bs B role r))) ∧ Below w.heap.size w w' := by
 have HI := qh (show (Tryz.prog.info? 36).map (·.size) = some (Un.bdA B).toList.length by kernel_rfl)
 have HIA := qh (show (Tryz.prog.info? 36).map (·.size) = some (Un.bdA B).size by kernel_rfl)
 by_cases h : r = role
 ·have hw : Un.who bs B role r = B := by unfold Un.who; rw [if_pos h]
  rw [hw]
  have hb : (r == role) = true := by simp [h]
  have HR := qh r7
  have HRG := qh (Kit.range_alloc w (Un.bdA B) 36)
  clear r7 h hr hw hS c6
  go_enter Tryz.func78, Tryz.ntmps78
  go_wp2_with (first
   | ((with_reducible refine wpList_load_mid ?_ 36 (.tmp 2) ?_ b7 0 ?_ (Un.bdA B).toList _ (Kit.range_kept HR.out ((Below.refl _ _).alloc nlr _) z7) Tryz.underlying36 rfl HI.out ?_); rfl; rfl; rfl)
   | ((with_reducible refine Kit.wpList_store_fresh (x := .tmp 5) (y := .tmp 9) (b := w.heap.size) (cells := Un.bdA B) ?_ ?_ ?_ ?_ ?_ ?_ HIA.out (Un.bdA_one B) ?_); rfl; rfl; rfl; rfl; rfl; rfl))
  refine Kit.ret_row (s := 5) rfl rfl rfl HRG.out Tryz.underlying36 rfl HIA.out ?_
  exact ⟨rfl, (Below.refl _ _).alloc nlr _⟩
 ·have hr2 : 0 ≤ r ∧ r < bs.length := hr.resolve_left h
  obtain ⟨i, rfl⟩ := Int.eq_ofNat_of_zero_le hr2.1
  have hi : i < bs.length := by omega
  have hiz : (i : Int) < (bs.length : Int) := by omega
  obtain ⟨C, hC⟩ : ∃ C, bs.getD i default = C := ⟨_, rfl⟩
  have hw : Un.who bs B role i = C := by unfold Un.who; rw [if_neg h, Int.toNat_natCast, hC]
  rw [hw]
  have hb : ((i : Int) == role) = false := by simp [h]
  obtain ⟨ad, rfl, had, _⟩ := hS.at hi
  have hSz := hS.kept ((Below.refl w.heap.size w).alloc nlr (.cells Un.bdZ 36)) nlr
  have HRUN := qh (Kit.run_load_sl (P := Tryz.prog) hSz hi 36 (Un.bdA C).toList _ rfl (Un.bdF_at bs i C hC) Tryz.underlying36 rfl HI.out)
  have HRG := qh (Kit.range_alloc w (Un.bdA C) 36)
  clear r7 h hr hw hS hSz
  unfold Un.bdZ at HRUN
  go_enter Tryz.func78, Tryz.ntmps78
  go_wp2_with (first
   | ((with_reducible refine Kit.wpList_load_sl ?_ 36 (.tmp 12) ?_ (ad := ad) (k := 17) i ?_ (Un.bdA C).toList HRUN.out ?_); rfl; rfl; rfl)
   | ((with_reducible refine Kit.wpList_store_fresh (x := .tmp 5) (y := .tmp 13) (b := w.heap.size) (cells := Un.bdA C) ?_ ?_ ?_ ?_ ?_ ?_ HIA.out (Un.bdA_one C) ?_); rfl; rfl; rfl; rfl; rfl; rfl))
  refine Kit.ret_row (s := 5) rfl rfl rfl HRG.out Tryz.underlying36 rfl HIA.out ?_
  exact ⟨rfl, (Below.refl _ _).alloc nlr _⟩
def Un.ic (l : List Int) (i _j : Nat) : Value := .int .i64 (l.getD i 0)
theorem un_index (l : List Int) (a : Option Addr) (c : Nat) (x : Int) (w : World) (hS : Tp.Sl w a l.length 1 (Un.ic l)) (hl : l.length ≤ 4611686018427387904) :
  Calls Tryz.prog 80 #[.slice a l.length c, .int .i64 x] w fun e w' => (∃ r, e = .returned (.int .i64 r) ∧ (decide (0 ≤ r) = l.contains x)) ∧ w' = w := by
 have HS := qh hS
 clear hS
 have HC := qh (show ∀ r : Bool, (r = true ↔ x ∈ l) → r = l.contains x from fun r h => by
  rw [Bool.eq_iff_iff, h, List.contains_iff_mem])
 go_enter Tryz.func80, Tryz.ntmps80
 go_wp2_with fail
 go_loopg [8] l.length (fun kx s8 wr => ∃ i : Nat, s8 = .int .i64 i ∧ i ≤ l.length ∧ l.length - i ≤ kx ∧ wr = w ∧ Hid (∀ j, j < i → l.getD j 0 ≠ x))
 case atStart => exact ⟨0, rfl, by omega, by omega, rfl, qh (fun j h => absurd h (Nat.not_lt_zero _))⟩
 case round =>
  obtain ⟨i, rfl, hi, hk, rfl, HA⟩ := hrel
  by_cases hlt : i < l.length
  ·have hltz : (i : Int) < (l.length : Int) := by omega
   obtain ⟨ad, rfl, had, _⟩ := HS.out.at hlt
   have e0 := HS.out.head hlt omg
   unfold Un.ic at e0
   rw [Nat.mul_one] at e0
   have hg : l.getD i 0 = l[i] := by rw [List.getD_eq_getElem?_getD, List.getElem?_eq_getElem hlt]; rfl
   have hm : l.getD i 0 ∈ l := by rw [hg]; exact List.getElem_mem hlt
   obtain ⟨y, hy⟩ : ∃ y, l.getD i 0 = y := ⟨_, rfl⟩
   rw [hy] at e0 hm
   have HY := qh hy
   clear hy hg
   by_cases h : x = y
   ·have hb : (x == y) = true := by simp [h]
    have HR := qh (HC.out true (by simp [h, hm]))
    clear h hm
    go_wp2
    go_ret
    exact ⟨⟨_, rfl, by rw [← HR.out]; simp⟩, rfl⟩
   ·have hb : (x == y) = false := by simp [h]
    have HN := qh (show ∀ j, j < i + 1 → l.getD j 0 ≠ x from fun j hj => by
     rcases Nat.lt_or_ge j i with h1 | h1
     ·exact HA.out j h1
     ·obtain rfl : j = i := by omega
      rw [HY.out]; exact fun h2 => h h2.symm)
    clear h hm
    go_wp2
    go_roundg (l.length - (i + 1))
    case measure => omega
    case rel => exact ⟨i + 1, by first | rfl | go_num | simp, by omega, Nat.le_refl _, rfl, HN⟩
  ·obtain rfl : i = l.length := by omega
   have HR := qh (HC.out false (by
    simp only [Bool.false_eq_true, false_iff]
    intro hm
    obtain ⟨j, hj, rfl⟩ := List.getElem_of_mem hm
    exact HA.out j hj (by rw [List.getD_eq_getElem?_getD, List.getElem?_eq_getElem hj]; rfl)))
   go_wp2
   go_ret
   exact ⟨⟨_, rfl, by rw [← HR.out]; rfl⟩, rfl⟩
theorem un_contains (l : List Int) (a : Option Addr) (c : Nat) (x : Int) (w : World) (hS : Tp.Sl w a l.length 1 (Un.ic l)) (hl : l.length ≤ 4611686018427387904) :
  Calls Tryz.prog 42 #[.slice a l.length c, .int .i64 x] w fun e w' => e = .returned (.bool (l.contains x)) ∧ w' = w := by
 have HC := qh (un_index l a c x w hS hl)
 clear hS
 go_enter Tryz.func42, Tryz.ntmps42
 go_wp2_with (refine HC.out.mono ?_; rintro _ w' ⟨⟨r, rfl, hr⟩, rfl⟩; have HR := qh hr; clear hr)
 go_ret
 exact ⟨by rw [← HR.out]; rfl, rfl⟩
theorem un_key1 (pr : List Int) (a : Option Addr) (c p b : Nat) (w : World) (hp : p < pr.length) (hl : pr.length ≤ 4611686018427387904) (hb : w.cell? ⟨b, 0, none⟩ = some (.slice a pr.length c)) (hS : Tp.Sl w a pr.length 1 (Un.ic pr)) :
  Calls Tryz.prog 45 #[.int .i64 p, .pointer (some ⟨b, 0, none⟩)] w fun e w' => e = .returned (.int .i64 (pr.getD p 0)) ∧ w' = w := by
 obtain ⟨ad, rfl, had, _⟩ := hS.at hp
 have e0 := hS.head hp omg
 unfold Un.ic at e0
 rw [Nat.mul_one] at e0
 have hpz : (p : Int) < (pr.length : Int) := by omega
 generalize pr.getD p 0 = y at e0 ⊢
 clear hS
 go_enter Tryz.func45, Tryz.ntmps45
 go_wp2
 go_ret
 exact ⟨rfl, rfl⟩
theorem un_key2 (p : Int) (w : World) : Calls Tryz.prog 46 #[.int .i64 p] w fun e w' => e = .returned (.int .i64 p) ∧ w' = w := by
 go_enter Tryz.func46, Tryz.ntmps46
 go_wp2
 go_ret
 exact ⟨rfl, rfl⟩
def Un.byC (pr : List Int) (p q : Nat) : Int := if Ra.sg (pr.getD p 0) (pr.getD q 0) = 0 then Ra.sg p q else Ra.sg (pr.getD p 0) (pr.getD q 0)
theorem un_by (pr : List Int) (a : Option Addr) (c p q b bb bl k : Nat) (w : World) (hp : p < pr.length) (hq : q < pr.length) (hl : pr.length ≤ 4611686018427387904) (hb : w.cell? ⟨b, 0, none⟩ = some (.slice a pr.length c)) (hS : Tp.Sl w a pr.length 1 (Un.ic pr))
  (hbb : w.cell? ⟨bb, 0, none⟩ = some (.slice (some ⟨bl, 0, none⟩) 2 k)) (h0 : w.cell? ⟨bl, 0, none⟩ = some (.func (.func 45) #[] #[.pointer (some ⟨b, 0, none⟩)])) (h1 : w.cell? ⟨bl, 1, none⟩ = some (.func (.func 46) #[] #[])) :
  Calls Tryz.prog 83 #[.int .i64 p, .int .i64 q, .pointer (some ⟨bb, 0, none⟩)] w fun e w' => e = .returned (.int .i64 (Un.byC pr p q)) ∧ w' = w := by
 obtain ⟨R, hR⟩ : ∃ R, Un.byC pr p q = R := ⟨_, rfl⟩
 rw [hR]
 unfold Un.byC at hR
 have HP := qh (un_key1 pr a c p b w hp hl hb hS)
 have HQ := qh (un_key1 pr a c q b w hq hl hb hS)
 generalize pr.getD p 0 = y at *
 generalize pr.getD q 0 = z at *
 have HC1 := qh (cm_cmp y z w)
 have HC2 := qh (cm_cmp p q w)
 have HK1 := qh (un_key2 p w)
 have HK2 := qh (un_key2 q w)
 generalize Ra.sg y z = C1 at *
 generalize Ra.sg p q = C2 at *
 have HR := qh hR
 clear hS hb hR hp hq
 go_enter Tryz.func83, Tryz.ntmps83
 go_wp2_with fail
 go_loopg [11] 2 (fun kx s11 wr => ∃ j : Nat, s11 = .int .i64 j ∧ j ≤ 2 ∧ 2 - j ≤ kx ∧ wr = w ∧ Hid ((1 ≤ j → C1 = 0) ∧ (2 ≤ j → C2 = 0)))
 case atStart => exact ⟨0, rfl, by omega, by omega, rfl, qh ⟨fun h => by omega, fun h => by omega⟩⟩
 case round =>
  obtain ⟨j, rfl, hj, hk, rfl, HA⟩ := hrel
  rcases (by omega : j = 0 ∨ j = 1 ∨ j = 2) with rfl | rfl | rfl
  ·by_cases hc : C1 = 0
   ·have hcz : (C1 != 0) = false := by simp [hc]
    have HZ := qh hc
    clear hc
    go_wp2_with (first
     | (with_reducible refine HP.out.mono ?_; rintro _ w' ⟨rfl, hw⟩; subst w')
     | (with_reducible refine HQ.out.mono ?_; rintro _ w' ⟨rfl, hw⟩; subst w')
     | (with_reducible refine HC1.out.mono ?_; rintro _ w' ⟨rfl, hw⟩; subst w'))
    go_roundg 1
    case measure => omega
    case rel => exact ⟨1, by first | rfl | go_num | simp, by omega, by omega, rfl, qh ⟨fun _ => HZ.out, fun h => by omega⟩⟩
   ·have hcz : (C1 != 0) = true := by simp [hc]
    have HZ := qh (show C1 = R from by rw [← HR.out, if_neg hc])
    clear hc
    go_wp2_with (first
     | (with_reducible refine HP.out.mono ?_; rintro _ w' ⟨rfl, hw⟩; subst w')
     | (with_reducible refine HQ.out.mono ?_; rintro _ w' ⟨rfl, hw⟩; subst w')
     | (with_reducible refine HC1.out.mono ?_; rintro _ w' ⟨rfl, hw⟩; subst w'))
    go_ret
    exact ⟨by rw [← HZ.out]; rfl, rfl⟩
  ·have hc1 := HA.out.1 omg
   by_cases hc : C2 = 0
   ·have hcz : (C2 != 0) = false := by simp [hc]
    have HZ := qh (And.intro hc1 hc)
    clear hc hc1
    go_wp2_with (first
     | (with_reducible refine HK1.out.mono ?_; rintro _ w' ⟨rfl, hw⟩; subst w')
     | (with_reducible refine HK2.out.mono ?_; rintro _ w' ⟨rfl, hw⟩; subst w')
     | (with_reducible refine HC2.out.mono ?_; rintro _ w' ⟨rfl, hw⟩; subst w'))
    go_roundg 0
    case measure => omega
    case rel => exact ⟨2, by first | rfl | go_num | simp, by omega, by omega, rfl, qh ⟨fun _ => HZ.out.1, fun _ => HZ.out.2⟩⟩
   ·have hcz : (C2 != 0) = true := by simp [hc]
    have HZ := qh (show C2 = R from by rw [← HR.out, if_pos hc1])
    clear hc hc1
    go_wp2_with (first
     | (with_reducible refine HK1.out.mono ?_; rintro _ w' ⟨rfl, hw⟩; subst w')
     | (with_reducible refine HK2.out.mono ?_; rintro _ w' ⟨rfl, hw⟩; subst w')
     | (with_reducible refine HC2.out.mono ?_; rintro _ w' ⟨rfl, hw⟩; subst w'))
    go_ret
    exact ⟨by rw [← HZ.out]; rfl, rfl⟩
  ·have HZ := qh (show (0 : Int) = R from by rw [← HR.out, if_pos (HA.out.1 omg), HA.out.2 omg])
   go_wp2_with fail
   go_ret
   exact ⟨by rw [← HZ.out]; rfl, rfl⟩
end Go.Proofs.YtbhgogiaaljclaaGreatDoor
