/- Walks: the laws of layer 27: inside, limbs. -/
import Derived.Test.YtedolbjgdedoaaaGreatDoorMpT
import Derived.Test.YtedolbjgdedoaaaGreatDoorMpN
set_option linter.unusedSimpArgs false
set_option linter.unusedVariables false
set_option maxRecDepth 100000
set_option maxHeartbeats 4000000
namespace Go.Proofs.YtedolbjgdedoaaaGreatDoor
open Go.RowKit Go.Shelf
attribute [local go_sem] Oper.semAt_some
namespace Mo
def limK (k : Ex.Sg) : List Nat :=
 if k.kind = 1 ∨ k.kind = 3 then [(k.side - 1).toNat] else if k.kind = 4 ∨ k.kind = 9 then [(k.side + 1).toNat] else if k.kind = 2 ∨ k.kind = 8 then [0, 1] else if k.kind = 7 then [2, 3] else if k.kind = 5 then [4] else []
theorem moves_lim (k : Ex.Sg) (i : Nat) : moves k i = (limK k).any (· == i) := by
 unfold moves limK
 split
 ·simp
 split
 ·simp
 split
 ·have h : ∀ i : Nat, (i == 0 || i == 1) = ([0, 1].any (· == i)) := fun i => by
   rcases i with _ | _ | i <;> simp
  exact h i
 split
 ·have h : ∀ i : Nat, (i == 2 || i == 3) = ([2, 3].any (· == i)) := fun i => by
   rcases i with _ | _ | _ | _ | i <;> simp
  exact h i
 split
 ·have h : ∀ i : Nat, (i == 4) = ([4].any (· == i)) := fun i => by
   rcases i with _ | _ | _ | _ | _ | i <;> simp
  exact h i
 ·rfl
theorem okX_ext {t : St} {b : Un.Bd} (ht : ok t = true) (hb : Un.bok b = true) : okX (extent t b) := okX_here (sm_ext0 hb t) ht
theorem ln_new {w : World} {cs : Array Value} {t : TypeId} {l : List Nat} (h : ∀ j, j < l.length → cs[j]? = some (.int .i64 (l.getD j 0 : Nat))) : LsN (w.alloc (.cells cs t)) (some ⟨w.heap.size, 0, none⟩) l := by
 refine .inr ⟨_, rfl, by simp, fun j hj => ?_⟩
 rw [Addr.add_lit, Nat.zero_add]
 exact ((Kit.Bk.new w t cs).cell j).trans (h j hj)
end Mo
theorem lw_inside (t : Mo.St) (b : Un.Bd) (hnm : b.name.size ≤ 9223372036854775807) (X : Mo.Bx) (w : World) (hF : Uo.Flat w) (ht : Mo.ok t = true) (hb : Un.bok b = true) (hX : Mo.okX X) (hi : Mo.Ins (Mo.extent t b) X) :
  Calls Tryz.prog 27 #[.agg (Mo.stA t), .agg (Un.bdA b), .agg (Mo.bxA X)] w fun e w' => e = .returned (.bool true) ∧ Below w.heap.size w w' := by
 have HEX := qh (fun W (hb : Below w.heap.size w W) => po_extent t b hnm W (hF.kept hb nlr))
 have hy := Mo.okX_ext ht hb
 have HER := qh (fun (u : Mo.Bx) (e : Int) (h : Mo.ExtR t b u e) => (by
  unfold Mo.ExtR at h
  rw [if_neg (by rw [ht]; decide), if_neg (by rw [hb]; decide)] at h
  exact h : u = Mo.extent t b ∧ e = 0))
 obtain ⟨Y, hY⟩ : ∃ y, Mo.extent t b = y := ⟨_, rfl⟩
 rw [hY] at hi hy HER
 have HIN := qh (fun W => (by
  have h := sp_inside_3 Y.xl Y.xh Y.yl Y.yh X.xl X.xh X.yl X.yh W hy hX
  have ht : Sp.inside Y.xl Y.xh Y.yl Y.yh X.xl X.xh X.yl X.yh = true := by
   unfold Mo.Ins at hi
   unfold Sp.inside
   simp [hi]
  rw [ht] at h
  exact h : Calls Tryz.prog 20 #[.agg (Mo.bxA Y), .agg (Mo.bxA X)] W fun e w' => e = .returned (.tuple #[.bool true, .int .i64 0]) ∧ Below W.heap.size W w'))
 clear hF ht hb hX hi hnm hy hY
 go_enter Tryz.func27, Tryz.ntmps27
 go_upto_region 1 with fail
 refine Kit.wp_name ?_
 intro W1 hW1
 have HB1 := qh (show Below w.heap.size w W1 by rw [hW1]; exact (((Below.refl _ _).alloc nlr _).alloc (by simp) _).alloc (by simp; omega) _)
 have HQ0 := qh (show Kit.Bk W1 w.heap.size 37 (Mo.stA t) by rw [hW1]; exact ((Kit.Bk.new _ _ _).alloc _).alloc _)
 have HQ1 := qh (show Kit.Bk W1 (w.heap.size + 1) 48 (Un.bdA b) by
  rw [hW1]
  have h := Kit.Bk.new (w.alloc (.cells (Mo.stA t) 37)) 48 (Un.bdA b)
  rw [World.size_alloc] at h
  exact h.alloc _)
 have HQ2 := qh (show Kit.Bk W1 (w.heap.size + 2) 52 (Mo.bxA X) by
  rw [hW1]
  have h := Kit.Bk.new ((w.alloc (.cells (Mo.stA t) 37)).alloc (.cells (Un.bdA b) 48)) 52 (Mo.bxA X)
  rw [World.size_alloc, World.size_alloc] at h
  exact h)
 clear hW1
 refine wp_region_lit ?_
 refine Kit.load_bk0 rfl 37 (.tmp 3) rfl w.heap.size rfl HQ0.out Tryz.underlying37 rfl (Mo.szS t) ?_
 refine Kit.load_bk0 rfl 48 (.tmp 4) rfl (w.heap.size + 1) rfl HQ1.out Tryz.underlying48 rfl (Mo.szBe b) ?_
 simp only [Act.put]
 go_simp
 go_wp2_with fail
 refine (HEX.out _ HB1.out).mono ?_
 rintro _ W2 ⟨⟨u, er, rfl, hu⟩, hb2⟩
 obtain ⟨rfl, rfl⟩ := HER.out u er hu
 have HB2 := qh (HB1.out.trans (hb2.mono HB1.out.size))
 have HQ3 := qh (HQ2.out.below hb2 HQ2.out.lt)
 clear hu hb2 HEX HER HB1 HQ0 HQ1 HQ2
 go_upto_region 2 with fail
 refine Kit.wp_name ?_
 intro W3 hW3
 have HB3 := qh (show Below w.heap.size w W3 by rw [hW3]; exact HB2.out.alloc HB2.out.size _)
 have HQ4 := qh (show Kit.Bk W3 (w.heap.size + 2) 52 (Mo.bxA X) by rw [hW3]; exact HQ3.out.alloc _)
 have HQ5 := qh (show Kit.Bk W3 W2.heap.size 52 (Mo.bxA u) by rw [hW3]; exact Kit.Bk.new _ _ _)
 obtain ⟨B, hB⟩ : ∃ b, W2.heap.size = b := ⟨_, rfl⟩
 rw [hB] at HQ5 ⊢
 clear hW3 hB HB2 HQ3
 refine wp_region_lit ?_
 refine Kit.load_bk0 rfl 52 (.tmp 7) rfl B rfl HQ5.out Tryz.underlying52 rfl (Mo.szB _) ?_
 refine Kit.load_bk0 rfl 52 (.tmp 5) rfl (w.heap.size + 2) rfl HQ4.out Tryz.underlying52 rfl (Mo.szB _) ?_
 simp only [Act.put]
 go_simp
 go_wp2_with fail
 refine (HIN.out _).mono ?_
 rintro _ W4 ⟨rfl, hb4⟩
 have HB4 := qh (HB3.out.trans (hb4.mono HB3.out.size))
 clear hb4 HIN HB3 HQ4 HQ5
 go_wp2_with fail
 go_ret
 exact ⟨rfl, HB4.out⟩
theorem lw_limbs (k : Ex.Sg) (hk : Mo.Fit k) (w : World) : Calls Tryz.prog 29 #[.agg (Mo.sgC k).toArray] w fun e w' => (∃ a c, e = .returned (.slice a (Mo.limK k).length c) ∧ Mo.LsN w' a (Mo.limK k) ∧ ∀ ad, a = some ad → w.heap.size ≤ ad.block) ∧ Below w.heap.size w w' := by
 have c9 : k.kind = 1 ∨ k.kind = 2 ∨ k.kind = 3 ∨ k.kind = 4 ∨ k.kind = 5 ∨ k.kind = 6 ∨ k.kind = 7 ∨ k.kind = 8 ∨ k.kind = 9 := by have := hk.kind; omega
 have hsd := hk.side
 clear hk
 obtain ⟨id, role, bar, mark, kind, side, dir, level, size, wth, fn, fd, tn, td⟩ := k
 dsimp only at c9 hsd

 rcases c9 with rfl | rfl | rfl | rfl | rfl | rfl | rfl | rfl | rfl
 ·simp at hsd
  rcases (by omega : side = 1 ∨ side = 2) with rfl | rfl
  ·have hl : Mo.limK ⟨id, role, bar, mark, 1, 1, dir, level, size, wth, fn, fd, tn, td⟩ = [0] := rfl
   rw [hl]
   clear hl hsd
   refine (show Calls Tryz.prog 29 #[.agg #[.int .i64 id, .int .i64 role, .int .i64 bar, .int .i64 mark, .int .i64 1, .int .i64 1, .int .i64 dir, .int .i64 level, .int .i64 size, .int .i64 wth, .int .i64 fn, .int .i64 fd, .int .i64 tn, .int .i64 td]] w _ from ?_)
   go_enter Tryz.func29, Tryz.ntmps29
   go_wp2_with fail
   go_ret
   exact ⟨⟨some ⟨w.heap.size + 1, 0, none⟩, 1, rfl, by
    have h := Mo.ln_new (w := w.alloc (.cells (Mo.sgC ⟨id, role, bar, mark, 1, 1, dir, level, size, wth, fn, fd, tn, td⟩).toArray 60)) (cs := #[.int .i64 0]) (t := 3) (l := [0]) (fun j hj => by
     rcases (by have : j < 1 := hj; omega : j = 0) with rfl <;> rfl)
    rw [World.size_alloc] at h
    exact h, fun ad e => by cases e; simp⟩, ((Below.refl _ _).alloc nlr _).alloc (by simp) _⟩
  ·have hl : Mo.limK ⟨id, role, bar, mark, 1, 2, dir, level, size, wth, fn, fd, tn, td⟩ = [1] := rfl
   rw [hl]
   clear hl hsd
   refine (show Calls Tryz.prog 29 #[.agg #[.int .i64 id, .int .i64 role, .int .i64 bar, .int .i64 mark, .int .i64 1, .int .i64 2, .int .i64 dir, .int .i64 level, .int .i64 size, .int .i64 wth, .int .i64 fn, .int .i64 fd, .int .i64 tn, .int .i64 td]] w _ from ?_)
   go_enter Tryz.func29, Tryz.ntmps29
   go_wp2_with fail
   go_ret
   exact ⟨⟨some ⟨w.heap.size + 1, 0, none⟩, 1, rfl, by
    have h := Mo.ln_new (w := w.alloc (.cells (Mo.sgC ⟨id, role, bar, mark, 1, 2, dir, level, size, wth, fn, fd, tn, td⟩).toArray 60)) (cs := #[.int .i64 1]) (t := 3) (l := [1]) (fun j hj => by
     rcases (by have : j < 1 := hj; omega : j = 0) with rfl <;> rfl)
    rw [World.size_alloc] at h
    exact h, fun ad e => by cases e; simp⟩, ((Below.refl _ _).alloc nlr _).alloc (by simp) _⟩
 ·have hl : Mo.limK ⟨id, role, bar, mark, 2, side, dir, level, size, wth, fn, fd, tn, td⟩ = [0, 1] := rfl
  rw [hl]
  clear hl hsd
  refine (show Calls Tryz.prog 29 #[.agg #[.int .i64 id, .int .i64 role, .int .i64 bar, .int .i64 mark, .int .i64 2, .int .i64 side, .int .i64 dir, .int .i64 level, .int .i64 size, .int .i64 wth, .int .i64 fn, .int .i64 fd, .int .i64 tn, .int .i64 td]] w _ from ?_)
  go_enter Tryz.func29, Tryz.ntmps29
  go_wp2_with fail
  go_ret
  exact ⟨⟨some ⟨w.heap.size + 1, 0, none⟩, 2, rfl, by
   have h := Mo.ln_new (w := w.alloc (.cells (Mo.sgC ⟨id, role, bar, mark, 2, side, dir, level, size, wth, fn, fd, tn, td⟩).toArray 60)) (cs := #[.int .i64 0, .int .i64 1]) (t := 3) (l := [0, 1]) (fun j hj => by
    rcases (by have : j < 2 := hj; omega : j = 0 ∨ j = 1) with rfl | rfl <;> rfl)
   rw [World.size_alloc] at h
   exact h, fun ad e => by cases e; simp⟩, ((Below.refl _ _).alloc nlr _).alloc (by simp) _⟩
 ·simp at hsd
  rcases (by omega : side = 1 ∨ side = 2) with rfl | rfl
  ·have hl : Mo.limK ⟨id, role, bar, mark, 3, 1, dir, level, size, wth, fn, fd, tn, td⟩ = [0] := rfl
   rw [hl]
   clear hl hsd
   refine (show Calls Tryz.prog 29 #[.agg #[.int .i64 id, .int .i64 role, .int .i64 bar, .int .i64 mark, .int .i64 3, .int .i64 1, .int .i64 dir, .int .i64 level, .int .i64 size, .int .i64 wth, .int .i64 fn, .int .i64 fd, .int .i64 tn, .int .i64 td]] w _ from ?_)
   go_enter Tryz.func29, Tryz.ntmps29
   go_wp2_with fail
   go_ret
   exact ⟨⟨some ⟨w.heap.size + 1, 0, none⟩, 1, rfl, by
    have h := Mo.ln_new (w := w.alloc (.cells (Mo.sgC ⟨id, role, bar, mark, 3, 1, dir, level, size, wth, fn, fd, tn, td⟩).toArray 60)) (cs := #[.int .i64 0]) (t := 3) (l := [0]) (fun j hj => by
     rcases (by have : j < 1 := hj; omega : j = 0) with rfl <;> rfl)
    rw [World.size_alloc] at h
    exact h, fun ad e => by cases e; simp⟩, ((Below.refl _ _).alloc nlr _).alloc (by simp) _⟩
  ·have hl : Mo.limK ⟨id, role, bar, mark, 3, 2, dir, level, size, wth, fn, fd, tn, td⟩ = [1] := rfl
   rw [hl]
   clear hl hsd
   refine (show Calls Tryz.prog 29 #[.agg #[.int .i64 id, .int .i64 role, .int .i64 bar, .int .i64 mark, .int .i64 3, .int .i64 2, .int .i64 dir, .int .i64 level, .int .i64 size, .int .i64 wth, .int .i64 fn, .int .i64 fd, .int .i64 tn, .int .i64 td]] w _ from ?_)
   go_enter Tryz.func29, Tryz.ntmps29
   go_wp2_with fail
   go_ret
   exact ⟨⟨some ⟨w.heap.size + 1, 0, none⟩, 1, rfl, by
    have h := Mo.ln_new (w := w.alloc (.cells (Mo.sgC ⟨id, role, bar, mark, 3, 2, dir, level, size, wth, fn, fd, tn, td⟩).toArray 60)) (cs := #[.int .i64 1]) (t := 3) (l := [1]) (fun j hj => by
     rcases (by have : j < 1 := hj; omega : j = 0) with rfl <;> rfl)
    rw [World.size_alloc] at h
    exact h, fun ad e => by cases e; simp⟩, ((Below.refl _ _).alloc nlr _).alloc (by simp) _⟩
 ·simp at hsd
  rcases (by omega : side = 1 ∨ side = 2) with rfl | rfl
  ·have hl : Mo.limK ⟨id, role, bar, mark, 4, 1, dir, level, size, wth, fn, fd, tn, td⟩ = [2] := rfl
   rw [hl]
   clear hl hsd
   refine (show Calls Tryz.prog 29 #[.agg #[.int .i64 id, .int .i64 role, .int .i64 bar, .int .i64 mark, .int .i64 4, .int .i64 1, .int .i64 dir, .int .i64 level, .int .i64 size, .int .i64 wth, .int .i64 fn, .int .i64 fd, .int .i64 tn, .int .i64 td]] w _ from ?_)
   go_enter Tryz.func29, Tryz.ntmps29
   go_wp2_with fail
   go_ret
   exact ⟨⟨some ⟨w.heap.size + 1, 0, none⟩, 1, rfl, by
    have h := Mo.ln_new (w := w.alloc (.cells (Mo.sgC ⟨id, role, bar, mark, 4, 1, dir, level, size, wth, fn, fd, tn, td⟩).toArray 60)) (cs := #[.int .i64 2]) (t := 3) (l := [2]) (fun j hj => by
     rcases (by have : j < 1 := hj; omega : j = 0) with rfl <;> rfl)
    rw [World.size_alloc] at h
    exact h, fun ad e => by cases e; simp⟩, ((Below.refl _ _).alloc nlr _).alloc (by simp) _⟩
  ·have hl : Mo.limK ⟨id, role, bar, mark, 4, 2, dir, level, size, wth, fn, fd, tn, td⟩ = [3] := rfl
   rw [hl]
   clear hl hsd
   refine (show Calls Tryz.prog 29 #[.agg #[.int .i64 id, .int .i64 role, .int .i64 bar, .int .i64 mark, .int .i64 4, .int .i64 2, .int .i64 dir, .int .i64 level, .int .i64 size, .int .i64 wth, .int .i64 fn, .int .i64 fd, .int .i64 tn, .int .i64 td]] w _ from ?_)
   go_enter Tryz.func29, Tryz.ntmps29
   go_wp2_with fail
   go_ret
   exact ⟨⟨some ⟨w.heap.size + 1, 0, none⟩, 1, rfl, by
    have h := Mo.ln_new (w := w.alloc (.cells (Mo.sgC ⟨id, role, bar, mark, 4, 2, dir, level, size, wth, fn, fd, tn, td⟩).toArray 60)) (cs := #[.int .i64 3]) (t := 3) (l := [3]) (fun j hj => by
     rcases (by have : j < 1 := hj; omega : j = 0) with rfl <;> rfl)
    rw [World.size_alloc] at h
    exact h, fun ad e => by cases e; simp⟩, ((Below.refl _ _).alloc nlr _).alloc (by simp) _⟩
 ·have hl : Mo.limK ⟨id, role, bar, mark, 5, side, dir, level, size, wth, fn, fd, tn, td⟩ = [4] := rfl
  rw [hl]
  clear hl hsd
  refine (show Calls Tryz.prog 29 #[.agg #[.int .i64 id, .int .i64 role, .int .i64 bar, .int .i64 mark, .int .i64 5, .int .i64 side, .int .i64 dir, .int .i64 level, .int .i64 size, .int .i64 wth, .int .i64 fn, .int .i64 fd, .int .i64 tn, .int .i64 td]] w _ from ?_)
  go_enter Tryz.func29, Tryz.ntmps29
  go_wp2_with fail
  go_ret
  exact ⟨⟨some ⟨w.heap.size + 1, 0, none⟩, 1, rfl, by
   have h := Mo.ln_new (w := w.alloc (.cells (Mo.sgC ⟨id, role, bar, mark, 5, side, dir, level, size, wth, fn, fd, tn, td⟩).toArray 60)) (cs := #[.int .i64 4]) (t := 3) (l := [4]) (fun j hj => by
    rcases (by have : j < 1 := hj; omega : j = 0) with rfl <;> rfl)
   rw [World.size_alloc] at h
   exact h, fun ad e => by cases e; simp⟩, ((Below.refl _ _).alloc nlr _).alloc (by simp) _⟩
 ·have hl : Mo.limK ⟨id, role, bar, mark, 6, side, dir, level, size, wth, fn, fd, tn, td⟩ = [] := rfl
  rw [hl]
  clear hl hsd
  refine (show Calls Tryz.prog 29 #[.agg #[.int .i64 id, .int .i64 role, .int .i64 bar, .int .i64 mark, .int .i64 6, .int .i64 side, .int .i64 dir, .int .i64 level, .int .i64 size, .int .i64 wth, .int .i64 fn, .int .i64 fd, .int .i64 tn, .int .i64 td]] w _ from ?_)
  go_enter Tryz.func29, Tryz.ntmps29
  go_wp2_with fail
  go_ret
  exact ⟨⟨none, 0, rfl, .inl rfl, fun ad e => by cases e⟩, (Below.refl _ _).alloc nlr _⟩
 ·have hl : Mo.limK ⟨id, role, bar, mark, 7, side, dir, level, size, wth, fn, fd, tn, td⟩ = [2, 3] := rfl
  rw [hl]
  clear hl hsd
  refine (show Calls Tryz.prog 29 #[.agg #[.int .i64 id, .int .i64 role, .int .i64 bar, .int .i64 mark, .int .i64 7, .int .i64 side, .int .i64 dir, .int .i64 level, .int .i64 size, .int .i64 wth, .int .i64 fn, .int .i64 fd, .int .i64 tn, .int .i64 td]] w _ from ?_)
  go_enter Tryz.func29, Tryz.ntmps29
  go_wp2_with fail
  go_ret
  exact ⟨⟨some ⟨w.heap.size + 1, 0, none⟩, 2, rfl, by
   have h := Mo.ln_new (w := w.alloc (.cells (Mo.sgC ⟨id, role, bar, mark, 7, side, dir, level, size, wth, fn, fd, tn, td⟩).toArray 60)) (cs := #[.int .i64 2, .int .i64 3]) (t := 3) (l := [2, 3]) (fun j hj => by
    rcases (by have : j < 2 := hj; omega : j = 0 ∨ j = 1) with rfl | rfl <;> rfl)
   rw [World.size_alloc] at h
   exact h, fun ad e => by cases e; simp⟩, ((Below.refl _ _).alloc nlr _).alloc (by simp) _⟩
 ·have hl : Mo.limK ⟨id, role, bar, mark, 8, side, dir, level, size, wth, fn, fd, tn, td⟩ = [0, 1] := rfl
  rw [hl]
  clear hl hsd
  refine (show Calls Tryz.prog 29 #[.agg #[.int .i64 id, .int .i64 role, .int .i64 bar, .int .i64 mark, .int .i64 8, .int .i64 side, .int .i64 dir, .int .i64 level, .int .i64 size, .int .i64 wth, .int .i64 fn, .int .i64 fd, .int .i64 tn, .int .i64 td]] w _ from ?_)
  go_enter Tryz.func29, Tryz.ntmps29
  go_wp2_with fail
  go_ret
  exact ⟨⟨some ⟨w.heap.size + 1, 0, none⟩, 2, rfl, by
   have h := Mo.ln_new (w := w.alloc (.cells (Mo.sgC ⟨id, role, bar, mark, 8, side, dir, level, size, wth, fn, fd, tn, td⟩).toArray 60)) (cs := #[.int .i64 0, .int .i64 1]) (t := 3) (l := [0, 1]) (fun j hj => by
    rcases (by have : j < 2 := hj; omega : j = 0 ∨ j = 1) with rfl | rfl <;> rfl)
   rw [World.size_alloc] at h
   exact h, fun ad e => by cases e; simp⟩, ((Below.refl _ _).alloc nlr _).alloc (by simp) _⟩
 ·simp at hsd
  rcases (by omega : side = 1 ∨ side = 2) with rfl | rfl
  ·have hl : Mo.limK ⟨id, role, bar, mark, 9, 1, dir, level, size, wth, fn, fd, tn, td⟩ = [2] := rfl
   rw [hl]
   clear hl hsd
   refine (show Calls Tryz.prog 29 #[.agg #[.int .i64 id, .int .i64 role, .int .i64 bar, .int .i64 mark, .int .i64 9, .int .i64 1, .int .i64 dir, .int .i64 level, .int .i64 size, .int .i64 wth, .int .i64 fn, .int .i64 fd, .int .i64 tn, .int .i64 td]] w _ from ?_)
   go_enter Tryz.func29, Tryz.ntmps29
   go_wp2_with fail
   go_ret
   exact ⟨⟨some ⟨w.heap.size + 1, 0, none⟩, 1, rfl, by
    have h := Mo.ln_new (w := w.alloc (.cells (Mo.sgC ⟨id, role, bar, mark, 9, 1, dir, level, size, wth, fn, fd, tn, td⟩).toArray 60)) (cs := #[.int .i64 2]) (t := 3) (l := [2]) (fun j hj => by
     rcases (by have : j < 1 := hj; omega : j = 0) with rfl <;> rfl)
    rw [World.size_alloc] at h
    exact h, fun ad e => by cases e; simp⟩, ((Below.refl _ _).alloc nlr _).alloc (by simp) _⟩
  ·have hl : Mo.limK ⟨id, role, bar, mark, 9, 2, dir, level, size, wth, fn, fd, tn, td⟩ = [3] := rfl
   rw [hl]
   clear hl hsd
   refine (show Calls Tryz.prog 29 #[.agg #[.int .i64 id, .int .i64 role, .int .i64 bar, .int .i64 mark, .int .i64 9, .int .i64 2, .int .i64 dir, .int .i64 level, .int .i64 size, .int .i64 wth, .int .i64 fn, .int .i64 fd, .int .i64 tn, .int .i64 td]] w _ from ?_)
   go_enter Tryz.func29, Tryz.ntmps29
   go_wp2_with fail
   go_ret
   exact ⟨⟨some ⟨w.heap.size + 1, 0, none⟩, 1, rfl, by
    have h := Mo.ln_new (w := w.alloc (.cells (Mo.sgC ⟨id, role, bar, mark, 9, 2, dir, level, size, wth, fn, fd, tn, td⟩).toArray 60)) (cs := #[.int .i64 3]) (t := 3) (l := [3]) (fun j hj => by
     rcases (by have : j < 1 := hj; omega : j = 0) with rfl <;> rfl)
    rw [World.size_alloc] at h
    exact h, fun ad e => by cases e; simp⟩, ((Below.refl _ _).alloc nlr _).alloc (by simp) _⟩
end Go.Proofs.YtedolbjgdedoaaaGreatDoor
