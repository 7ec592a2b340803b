/- Walks: the reference of layer 30: Of, Price. Walks: the references of layers 3 (Name) and 25 (Check). -/
import Derived.Test.YtbhgogiaaljclaaGreatDoorUqx
import Derived.Test.YtbhgogiaaljclaaGreatDoorUoO
import Derived.Test.YtbhgogiaaljclaaGreatDoorUna
set_option linter.unusedSimpArgs false
set_option linter.unusedVariables false
set_option maxRecDepth 100000
set_option maxHeartbeats 8000000
namespace Go.Proofs.YtbhgogiaaljclaaGreatDoor
open Go.RowKit
namespace Uo
structure OfW (w : World) (A BB C : Int) (s : Ex.Sg) (B : Un.Bd) (W : World) : Prop where
 bel : Below w.heap.size w W
 t0 : W.cell? ⟨w.heap.size, 0, none⟩ = some (.int .i64 A)
 t1 : W.cell? ⟨w.heap.size, 1, none⟩ = some (.int .i64 BB)
 t2 : W.cell? ⟨w.heap.size, 2, none⟩ = some (.int .i64 C)
 sg : ∀ j, W.cell? ⟨w.heap.size + 1, j, none⟩ = #[Value.int .i64 s.id, .int .i64 s.role, .int .i64 s.bar, .int .i64 s.mark, .int .i64 s.kind, .int .i64 s.side, .int .i64 s.dir, .int .i64 s.level, .int .i64 s.size, .int .i64 s.wth, .int .i64 s.fn, .int .i64 s.fd, .int .i64 s.tn, .int .i64 s.td][j]?
 row : W.rangeAt (w.heap.size + 1 + 1) 0 (Un.bdA B).toList
 z : w.heap.size + 1 + 1 + 1 < W.heap.size
theorem OfW.then {w W W' : World} {A BB C : Int} {s : Ex.Sg} {B : Un.Bd} (h : OfW w A BB C s B W) (hb : Below W.heap.size W W') : OfW w A BB C s B W' := by
 have hz := h.z
 exact ⟨h.bel.trans (hb.mono h.bel.size), (hb.cell (p := ⟨w.heap.size, 0, none⟩) (by simp; omega)).trans h.t0, (hb.cell (p := ⟨w.heap.size, 1, none⟩) (by simp; omega)).trans h.t1, (hb.cell (p := ⟨w.heap.size, 2, none⟩) (by simp; omega)).trans h.t2, fun j => (World.cell?_of_block (hb.block (w.heap.size + 1) omg)).trans (h.sg j), Kit.range_kept h.row hb omg, Nat.lt_of_lt_of_le hz hb.size⟩
theorem gw_of {w W : World} {e : TypeId} {k n : Nat} {v : Value} {xs : List Value} {N : Nat} (hN : w.heap.size ≤ N) (ho : W.ownsRow N e k v n xs) (hb : Below w.heap.size w W) : Kit.Gw w e k v n xs W := ⟨ho.mono hN, hb⟩
end Uo
theorem rv_of (A BB C : Int) (s : Ex.Sg) (B : Un.Bd) (w : World) (hfit : Ex.Fit s) (hB : Un.bok B = true) (hA : 0 ≤ A) (hA2 : A ≤ 32768) (hC : 0 ≤ C) (hC2 : C ≤ 32768) :
  Calls Tryz.prog 77 #[.agg #[.int .i64 A, .int .i64 BB, .int .i64 C], Ex.sgV s, .agg (Un.bdA B)] w (Uo.Post (Uo.opts A C s B) w) := by
 obtain ⟨bs, hbs⟩ : ∃ bs, Uo.base A C s B = bs := ⟨_, rfl⟩
 have hop : Uo.opts A C s B = bs ++ (if s.mark = 1 then [] else [(s.id, 0, 0, true)]) := by unfold Uo.opts; rw [hbs]
 have hn1 : bs.length ≤ 100 := by rw [← hbs]; exact Uo.base_len _ _ _ hB
 have hk9 := hfit.kind
 have hLI := qh (fun (a b m : Nat) (ha : s.dir = a) (hb : s.level = b) h1 h2 h3 h4 W => rv_limbs A BB C s a b m ha hb W h1 h2 h3 h4 hA hA2 hC hC2)
 have hd := hfit.dir
 have hl := hfit.level
 have t12 := Un.tops hB 0 omg
 have t13 := Un.tops hB 1 omg
 have t14 := Un.tops hB 2 omg
 have HD := qh hd
 have HLV := qh hl
 have HT12 : Hid (1 ≤ B.t0 ∧ B.t0 ≤ 3) := qh t12
 have HT13 : Hid (1 ≤ B.t1 ∧ B.t1 ≤ 3) := qh t13
 have HT14 : Hid (1 ≤ B.t2 ∧ B.t2 ≤ 3) := qh t14
 have HOP := qh hop
 have HBS := qh hbs
 clear hop hbs hd hl t12 t13 t14 hfit
 have hfold : Array.foldl (fun cs x => cs.setIfInBounds x.snd x.fst) Un.bdZ (Un.bdA B).zipIdx 0 17 = Un.bdA B := by kernel_rfl
 unfold Un.bdZ at hfold
 have hs17 : (Un.bdA B).size = 17 := rfl
 go_enter Tryz.func77, Tryz.ntmps77
 go_upto_region 3 with fail
 clear hfold hs17
 refine Kit.wp_name ?_
 intro W1 hW1
 have HW1 := qh (show Uo.OfW w A BB C s B W1 by
  rw [hW1]
  refine ⟨by exact Kit.gr, by simp [go_sem], by simp [go_sem], by simp [go_sem], fun j => by simp [go_sem], ?_, by simp⟩
  have h := Kit.range_alloc ((w.alloc (.cells #[.int .i64 A, .int .i64 BB, .int .i64 C] 23)).alloc (.cells #[.int .i64 s.id, .int .i64 s.role, .int .i64 s.bar, .int .i64 s.mark, .int .i64 s.kind, .int .i64 s.side, .int .i64 s.dir, .int .i64 s.level, .int .i64 s.size, .int .i64 s.wth, .int .i64 s.fn, .int .i64 s.fd, .int .i64 s.tn, .int .i64 s.td] 52)) (Un.bdA B) 36
  rw [World.size_alloc, World.size_alloc] at h
  exact Kit.range_kept h ((Below.refl _ _).alloc nlr _) (by simp))
 have HO1 := qh (show Kit.Gw w 61 4 (.slice (some ⟨w.heap.size + 1 + 1 + 1, 0, none⟩) 1 1) 1 (Uo.rc (s.id, 0, 0, false)) W1 by
  refine ⟨?_, HW1.out.bel⟩
  rw [hW1]
  exact Uo.lit_row _ (Uo.rc (s.id, 0, 0, false)) _ _ _ 4 1 (by simp) omg rfl (by unfold maxLen; omega))
 clear hW1
 have sg := HW1.out.sg
 have hz1 := HW1.out.z
 have k4 : W1.cell? ⟨w.heap.size + 1 + 1, 4, none⟩ = some (.int .i64 B.step) := Un.bd_cell HW1.out.row 4 omg omg
 have k5 : W1.cell? ⟨w.heap.size + 1 + 1, 5, none⟩ = some (.int .i64 B.jump) := Un.bd_cell HW1.out.row 5 omg omg
 have k12 : W1.cell? ⟨w.heap.size + 1 + 1, 12, none⟩ = some (.int .i64 B.t0) := Un.bd_cell HW1.out.row 12 omg omg
 have k13 : W1.cell? ⟨w.heap.size + 1 + 1, 13, none⟩ = some (.int .i64 B.t1) := Un.bd_cell HW1.out.row 13 omg omg
 have k14 : W1.cell? ⟨w.heap.size + 1 + 1, 14, none⟩ = some (.int .i64 B.t2) := Un.bd_cell HW1.out.row 14 omg omg
 have mm : ∀ x y : Int, Uo.mnI x y = if y < x then y else x := fun _ _ => rfl
 have HMM := qh mm
 clear mm
 rcases (by omega : s.kind = 1 ∨ s.kind = 2 ∨ s.kind = 3 ∨ s.kind = 4 ∨ s.kind = 5 ∨ s.kind = 6 ∨ s.kind = 7 ∨ s.kind = 8 ∨ s.kind = 9) with hk | hk | hk | hk | hk | hk | hk | hk | hk
 ·rw [hk] at sg
  have HK := qh hk
  clear hk hk9
  rcases dt : decide (B.step < s.size) with _ | _
  ·have hbe : bs = [(s.id, 0, 0, false)] := by rw [← HBS.out]; unfold Uo.base; rw [if_pos HK.out, if_neg (by simpa using dt)]
   have HO2 := qh (show Kit.Gw w 61 4 _ bs.length (bs.flatMap Uo.rc) W1 by rw [hbe]; exact HO1.out)
   clear hbe
   rcases dm : (s.mark != 1) with _ | _
   ·have hmk : s.mark = 1 := by simpa using dm
    have HE := qh (show Uo.opts A C s B = bs by rw [HOP.out, if_pos hmk, List.append_nil])
    clear hmk
    go_wp2_with fail
    go_ret
    exact ⟨⟨_, rfl, by rw [HE.out]; exact HO2.out.own⟩, HO2.out.bel⟩
   ·have hmk : ¬ s.mark = 1 := by simpa using dm
    have HE := qh (show Uo.opts A C s B = bs ++ [(s.id, 0, 0, true)] by rw [HOP.out, if_neg hmk])
    clear hmk
    go_wp2_with (at_builtin; refine Kit.wpList_app Uo.elR _ rfl _ _ rfl _ _ _ (HO2.out.alloc _) rfl omg ⟨W1.heap.size, 0, none⟩ 1 (Uo.rc (s.id, 0, 0, true)) rfl rfl (fun j_ u hu => Kit.lit_at _ (Uo.rc (s.id, 0, 0, true)) _ (by simp) j_ u hu) (by simp [Uo.rc, Value.oneCell']) ?_; intro v' w3 ho hg; have HO2 := qh ho; clear ho hg)
    go_ret
    exact ⟨⟨_, rfl, by rw [HE.out, List.length_append, List.flatMap_append]; simpa using HO2.out.own⟩, HO2.out.bel⟩
  ·have hbe : bs = [] := by rw [← HBS.out]; unfold Uo.base; rw [if_pos HK.out, if_pos (by simpa using dt)]
   have HO2 := qh (show Kit.Gw w 61 4 (.slice none 0 0) bs.length (bs.flatMap Uo.rc) W1 by rw [hbe]; exact ⟨Uo.nil_row _ _ _ _, HW1.out.bel⟩)
   clear hbe
   go_upto_region 18 with fail
   generalize hv0 : Value.slice none 0 0 = v0 at HO2 ⊢
   clear hv0
   rcases dm : (s.mark != 1) with _ | _
   ·have hmk : s.mark = 1 := by simpa using dm
    have HE := qh (show Uo.opts A C s B = bs by rw [HOP.out, if_pos hmk, List.append_nil])
    clear hmk
    go_wp2_with fail
    go_ret
    exact ⟨⟨_, rfl, by rw [HE.out]; exact HO2.out.own⟩, HO2.out.bel⟩
   ·have hmk : ¬ s.mark = 1 := by simpa using dm
    have HE := qh (show Uo.opts A C s B = bs ++ [(s.id, 0, 0, true)] by rw [HOP.out, if_neg hmk])
    clear hmk
    go_wp2_with (at_builtin; refine Kit.wpList_app Uo.elR _ rfl _ _ rfl _ _ _ (HO2.out.alloc _) rfl omg ⟨W1.heap.size, 0, none⟩ 1 (Uo.rc (s.id, 0, 0, true)) rfl rfl (fun j_ u hu => Kit.lit_at _ (Uo.rc (s.id, 0, 0, true)) _ (by simp) j_ u hu) (by simp [Uo.rc, Value.oneCell']) ?_; intro v' w3 ho hg; have HO2 := qh ho; clear ho hg)
    go_ret
    exact ⟨⟨_, rfl, by rw [HE.out, List.length_append, List.flatMap_append]; simpa using HO2.out.own⟩, HO2.out.bel⟩
 ·rw [hk] at sg
  have HK := qh hk
  clear hk hk9
  rcases dt : decide (B.jump < s.size) with _ | _
  ·have hbe : bs = [(s.id, 0, 0, false)] := by rw [← HBS.out]; unfold Uo.base; rw [if_neg (by rw [HK.out]; decide), if_pos HK.out, if_neg (by simpa using dt)]
   have HO2 := qh (show Kit.Gw w 61 4 _ bs.length (bs.flatMap Uo.rc) W1 by rw [hbe]; exact HO1.out)
   clear hbe
   rcases dm : (s.mark != 1) with _ | _
   ·have hmk : s.mark = 1 := by simpa using dm
    have HE := qh (show Uo.opts A C s B = bs by rw [HOP.out, if_pos hmk, List.append_nil])
    clear hmk
    go_wp2_with fail
    go_ret
    exact ⟨⟨_, rfl, by rw [HE.out]; exact HO2.out.own⟩, HO2.out.bel⟩
   ·have hmk : ¬ s.mark = 1 := by simpa using dm
    have HE := qh (show Uo.opts A C s B = bs ++ [(s.id, 0, 0, true)] by rw [HOP.out, if_neg hmk])
    clear hmk
    go_wp2_with (at_builtin; refine Kit.wpList_app Uo.elR _ rfl _ _ rfl _ _ _ (HO2.out.alloc _) rfl omg ⟨W1.heap.size, 0, none⟩ 1 (Uo.rc (s.id, 0, 0, true)) rfl rfl (fun j_ u hu => Kit.lit_at _ (Uo.rc (s.id, 0, 0, true)) _ (by simp) j_ u hu) (by simp [Uo.rc, Value.oneCell']) ?_; intro v' w3 ho hg; have HO2 := qh ho; clear ho hg)
    go_ret
    exact ⟨⟨_, rfl, by rw [HE.out, List.length_append, List.flatMap_append]; simpa using HO2.out.own⟩, HO2.out.bel⟩
  ·have hbe : bs = [] := by rw [← HBS.out]; unfold Uo.base; rw [if_neg (by rw [HK.out]; decide), if_pos HK.out, if_pos (by simpa using dt)]
   have HO2 := qh (show Kit.Gw w 61 4 (.slice none 0 0) bs.length (bs.flatMap Uo.rc) W1 by rw [hbe]; exact ⟨Uo.nil_row _ _ _ _, HW1.out.bel⟩)
   clear hbe
   go_upto_region 18 with fail
   generalize hv0 : Value.slice none 0 0 = v0 at HO2 ⊢
   clear hv0
   rcases dm : (s.mark != 1) with _ | _
   ·have hmk : s.mark = 1 := by simpa using dm
    have HE := qh (show Uo.opts A C s B = bs by rw [HOP.out, if_pos hmk, List.append_nil])
    clear hmk
    go_wp2_with fail
    go_ret
    exact ⟨⟨_, rfl, by rw [HE.out]; exact HO2.out.own⟩, HO2.out.bel⟩
   ·have hmk : ¬ s.mark = 1 := by simpa using dm
    have HE := qh (show Uo.opts A C s B = bs ++ [(s.id, 0, 0, true)] by rw [HOP.out, if_neg hmk])
    clear hmk
    go_wp2_with (at_builtin; refine Kit.wpList_app Uo.elR _ rfl _ _ rfl _ _ _ (HO2.out.alloc _) rfl omg ⟨W1.heap.size, 0, none⟩ 1 (Uo.rc (s.id, 0, 0, true)) rfl rfl (fun j_ u hu => Kit.lit_at _ (Uo.rc (s.id, 0, 0, true)) _ (by simp) j_ u hu) (by simp [Uo.rc, Value.oneCell']) ?_; intro v' w3 ho hg; have HO2 := qh ho; clear ho hg)
    go_ret
    exact ⟨⟨_, rfl, by rw [HE.out, List.length_append, List.flatMap_append]; simpa using HO2.out.own⟩, HO2.out.bel⟩
 ·rw [hk] at sg
  have HK := qh hk
  clear hk hk9
  obtain ⟨m, hm⟩ : ∃ m : Nat, B.t0 = m := ⟨B.t0.toNat, by have := HT12.out; omega⟩
  obtain ⟨a, ha⟩ : ∃ a : Nat, s.dir = a := ⟨s.dir.toNat, by have := HD.out (by rw [HK.out]; decide); omega⟩
  obtain ⟨b, hb⟩ : ∃ b : Nat, s.level = b := ⟨s.level.toNat, by have := HLV.out (by rw [HK.out]; decide); omega⟩
  have hab := HD.out (by rw [HK.out]; decide)
  have hlb := HLV.out (by rw [HK.out]; decide)
  have hmb := HT12.out
  have hbe : bs = (Uo.fall (Uo.prs A C s.id a b m)).map (·.1) := by rw [← HBS.out]; unfold Uo.base; rw [if_neg (by rw [HK.out]; decide), if_neg (by rw [HK.out]; decide), if_pos HK.out]; unfold Uo.limbs; rw [hm, ha, hb]; rfl
  have HLC := qh (fun W => (by have h := hLI.out a b m ha hb omg omg omg omg W; rw [← hbe] at h; dsimp only [Ex.sgV] at h; rw [HK.out] at h; exact h : Calls Tryz.prog 129 #[.agg #[.int .i64 A, .int .i64 BB, .int .i64 C], .agg #[.int .i64 s.id, .int .i64 s.role, .int .i64 s.bar, .int .i64 s.mark, .int .i64 3, .int .i64 s.side, .int .i64 s.dir, .int .i64 s.level, .int .i64 s.size, .int .i64 s.wth, .int .i64 s.fn, .int .i64 s.fd, .int .i64 s.tn, .int .i64 s.td], .int .i64 m] W (Uo.Post bs W)))
  rw [hm] at k12
  clear hm ha hb hab hlb hmb hbe
  have c0 := HW1.out.t0
  have c1 := HW1.out.t1
  have c2 := HW1.out.t2
  go_wp2_with fail
  refine (HLC.out _).mono ?_
  rintro _ w2 ⟨⟨v2, rfl, ho2⟩, hb2⟩
  have HW2 := qh (HW1.out.then hb2)
  have HO2 := qh (Uo.gw_of HW1.out.bel.size ho2 HW2.out.bel)
  clear sg k4 k5 k12 k13 k14 c0 c1 c2 hb2 ho2 hz1
  have sg := HW2.out.sg
  have hz1 := HW2.out.z
  rcases dm : (s.mark != 1) with _ | _
  ·have hmk : s.mark = 1 := by simpa using dm
   have HE := qh (show Uo.opts A C s B = bs by rw [HOP.out, if_pos hmk, List.append_nil])
   clear hmk
   go_wp2_with fail
   go_ret
   exact ⟨⟨_, rfl, by rw [HE.out]; exact HO2.out.own⟩, HO2.out.bel⟩
  ·have hmk : ¬ s.mark = 1 := by simpa using dm
   have HE := qh (show Uo.opts A C s B = bs ++ [(s.id, 0, 0, true)] by rw [HOP.out, if_neg hmk])
   clear hmk
   go_wp2_with (at_builtin; refine Kit.wpList_app Uo.elR _ rfl _ _ rfl _ _ _ (HO2.out.alloc _) rfl omg ⟨w2.heap.size, 0, none⟩ 1 (Uo.rc (s.id, 0, 0, true)) rfl rfl (fun j_ u hu => Kit.lit_at _ (Uo.rc (s.id, 0, 0, true)) _ (by simp) j_ u hu) (by simp [Uo.rc, Value.oneCell']) ?_; intro v' w3 ho hg; have HO2 := qh ho; clear ho hg)
   go_ret
   exact ⟨⟨_, rfl, by rw [HE.out, List.length_append, List.flatMap_append]; simpa using HO2.out.own⟩, HO2.out.bel⟩
 ·rw [hk] at sg
  have HK := qh hk
  clear hk hk9
  obtain ⟨m, hm⟩ : ∃ m : Nat, B.t1 = m := ⟨B.t1.toNat, by have := HT13.out; omega⟩
  obtain ⟨a, ha⟩ : ∃ a : Nat, s.dir = a := ⟨s.dir.toNat, by have := HD.out (by rw [HK.out]; decide); omega⟩
  obtain ⟨b, hb⟩ : ∃ b : Nat, s.level = b := ⟨s.level.toNat, by have := HLV.out (by rw [HK.out]; decide); omega⟩
  have hab := HD.out (by rw [HK.out]; decide)
  have hlb := HLV.out (by rw [HK.out]; decide)
  have hmb := HT13.out
  have hbe : bs = (Uo.fall (Uo.prs A C s.id a b m)).map (·.1) := by rw [← HBS.out]; unfold Uo.base; rw [if_neg (by rw [HK.out]; decide), if_neg (by rw [HK.out]; decide), if_neg (by rw [HK.out]; decide), if_pos HK.out]; unfold Uo.limbs; rw [hm, ha, hb]; rfl
  have HLC := qh (fun W => (by have h := hLI.out a b m ha hb omg omg omg omg W; rw [← hbe] at h; dsimp only [Ex.sgV] at h; rw [HK.out] at h; exact h : Calls Tryz.prog 129 #[.agg #[.int .i64 A, .int .i64 BB, .int .i64 C], .agg #[.int .i64 s.id, .int .i64 s.role, .int .i64 s.bar, .int .i64 s.mark, .int .i64 4, .int .i64 s.side, .int .i64 s.dir, .int .i64 s.level, .int .i64 s.size, .int .i64 s.wth, .int .i64 s.fn, .int .i64 s.fd, .int .i64 s.tn, .int .i64 s.td], .int .i64 m] W (Uo.Post bs W)))
  rw [hm] at k13
  clear hm ha hb hab hlb hmb hbe
  have c0 := HW1.out.t0
  have c1 := HW1.out.t1
  have c2 := HW1.out.t2
  go_wp2_with fail
  refine (HLC.out _).mono ?_
  rintro _ w2 ⟨⟨v2, rfl, ho2⟩, hb2⟩
  have HW2 := qh (HW1.out.then hb2)
  have HO2 := qh (Uo.gw_of HW1.out.bel.size ho2 HW2.out.bel)
  clear sg k4 k5 k12 k13 k14 c0 c1 c2 hb2 ho2 hz1
  have sg := HW2.out.sg
  have hz1 := HW2.out.z
  rcases dm : (s.mark != 1) with _ | _
  ·have hmk : s.mark = 1 := by simpa using dm
   have HE := qh (show Uo.opts A C s B = bs by rw [HOP.out, if_pos hmk, List.append_nil])
   clear hmk
   go_wp2_with fail
   go_ret
   exact ⟨⟨_, rfl, by rw [HE.out]; exact HO2.out.own⟩, HO2.out.bel⟩
  ·have hmk : ¬ s.mark = 1 := by simpa using dm
   have HE := qh (show Uo.opts A C s B = bs ++ [(s.id, 0, 0, true)] by rw [HOP.out, if_neg hmk])
   clear hmk
   go_wp2_with (at_builtin; refine Kit.wpList_app Uo.elR _ rfl _ _ rfl _ _ _ (HO2.out.alloc _) rfl omg ⟨w2.heap.size, 0, none⟩ 1 (Uo.rc (s.id, 0, 0, true)) rfl rfl (fun j_ u hu => Kit.lit_at _ (Uo.rc (s.id, 0, 0, true)) _ (by simp) j_ u hu) (by simp [Uo.rc, Value.oneCell']) ?_; intro v' w3 ho hg; have HO2 := qh ho; clear ho hg)
   go_ret
   exact ⟨⟨_, rfl, by rw [HE.out, List.length_append, List.flatMap_append]; simpa using HO2.out.own⟩, HO2.out.bel⟩
 ·rw [hk] at sg
  have HK := qh hk
  clear hk hk9
  obtain ⟨m, hm⟩ : ∃ m : Nat, B.t2 = m := ⟨B.t2.toNat, by have := HT14.out; omega⟩
  obtain ⟨a, ha⟩ : ∃ a : Nat, s.dir = a := ⟨s.dir.toNat, by have := HD.out (by rw [HK.out]; decide); omega⟩
  obtain ⟨b, hb⟩ : ∃ b : Nat, s.level = b := ⟨s.level.toNat, by have := HLV.out (by rw [HK.out]; decide); omega⟩
  have hab := HD.out (by rw [HK.out]; decide)
  have hlb := HLV.out (by rw [HK.out]; decide)
  have hmb := HT14.out
  have hbe : bs = (Uo.fall (Uo.prs A C s.id a b m)).map (·.1) := by rw [← HBS.out]; unfold Uo.base; rw [if_neg (by rw [HK.out]; decide), if_neg (by rw [HK.out]; decide), if_neg (by rw [HK.out]; decide), if_neg (by rw [HK.out]; decide), if_pos HK.out]; unfold Uo.limbs; rw [hm, ha, hb]; rfl
  have HLC := qh (fun W => (by have h := hLI.out a b m ha hb omg omg omg omg W; rw [← hbe] at h; dsimp only [Ex.sgV] at h; rw [HK.out] at h; exact h : Calls Tryz.prog 129 #[.agg #[.int .i64 A, .int .i64 BB, .int .i64 C], .agg #[.int .i64 s.id, .int .i64 s.role, .int .i64 s.bar, .int .i64 s.mark, .int .i64 5, .int .i64 s.side, .int .i64 s.dir, .int .i64 s.level, .int .i64 s.size, .int .i64 s.wth, .int .i64 s.fn, .int .i64 s.fd, .int .i64 s.tn, .int .i64 s.td], .int .i64 m] W (Uo.Post bs W)))
  rw [hm] at k14
  clear hm ha hb hab hlb hmb hbe
  have c0 := HW1.out.t0
  have c1 := HW1.out.t1
  have c2 := HW1.out.t2
  go_wp2_with fail
  refine (HLC.out _).mono ?_
  rintro _ w2 ⟨⟨v2, rfl, ho2⟩, hb2⟩
  have HW2 := qh (HW1.out.then hb2)
  have HO2 := qh (Uo.gw_of HW1.out.bel.size ho2 HW2.out.bel)
  clear sg k4 k5 k12 k13 k14 c0 c1 c2 hb2 ho2 hz1
  have sg := HW2.out.sg
  have hz1 := HW2.out.z
  rcases dm : (s.mark != 1) with _ | _
  ·have hmk : s.mark = 1 := by simpa using dm
   have HE := qh (show Uo.opts A C s B = bs by rw [HOP.out, if_pos hmk, List.append_nil])
   clear hmk
   go_wp2_with fail
   go_ret
   exact ⟨⟨_, rfl, by rw [HE.out]; exact HO2.out.own⟩, HO2.out.bel⟩
  ·have hmk : ¬ s.mark = 1 := by simpa using dm
   have HE := qh (show Uo.opts A C s B = bs ++ [(s.id, 0, 0, true)] by rw [HOP.out, if_neg hmk])
   clear hmk
   go_wp2_with (at_builtin; refine Kit.wpList_app Uo.elR _ rfl _ _ rfl _ _ _ (HO2.out.alloc _) rfl omg ⟨w2.heap.size, 0, none⟩ 1 (Uo.rc (s.id, 0, 0, true)) rfl rfl (fun j_ u hu => Kit.lit_at _ (Uo.rc (s.id, 0, 0, true)) _ (by simp) j_ u hu) (by simp [Uo.rc, Value.oneCell']) ?_; intro v' w3 ho hg; have HO2 := qh ho; clear ho hg)
   go_ret
   exact ⟨⟨_, rfl, by rw [HE.out, List.length_append, List.flatMap_append]; simpa using HO2.out.own⟩, HO2.out.bel⟩
 ·rw [hk] at sg
  have HK := qh hk
  clear hk hk9
  have hbe : bs = [(s.id, 0, 0, false)] := by rw [← HBS.out]; unfold Uo.base; rw [if_neg (by rw [HK.out]; decide), if_neg (by rw [HK.out]; decide), if_neg (by rw [HK.out]; decide), if_neg (by rw [HK.out]; decide), if_neg (by rw [HK.out]; decide), if_neg (by rw [HK.out]; decide)]
  have HO2 := qh (show Kit.Gw w 61 4 _ bs.length (bs.flatMap Uo.rc) W1 by rw [hbe]; exact HO1.out)
  clear hbe
  rcases dm : (s.mark != 1) with _ | _
  ·have hmk : s.mark = 1 := by simpa using dm
   have HE := qh (show Uo.opts A C s B = bs by rw [HOP.out, if_pos hmk, List.append_nil])
   clear hmk
   go_wp2_with fail
   go_ret
   exact ⟨⟨_, rfl, by rw [HE.out]; exact HO2.out.own⟩, HO2.out.bel⟩
  ·have hmk : ¬ s.mark = 1 := by simpa using dm
   have HE := qh (show Uo.opts A C s B = bs ++ [(s.id, 0, 0, true)] by rw [HOP.out, if_neg hmk])
   clear hmk
   go_wp2_with (at_builtin; refine Kit.wpList_app Uo.elR _ rfl _ _ rfl _ _ _ (HO2.out.alloc _) rfl omg ⟨W1.heap.size, 0, none⟩ 1 (Uo.rc (s.id, 0, 0, true)) rfl rfl (fun j_ u hu => Kit.lit_at _ (Uo.rc (s.id, 0, 0, true)) _ (by simp) j_ u hu) (by simp [Uo.rc, Value.oneCell']) ?_; intro v' w3 ho hg; have HO2 := qh ho; clear ho hg)
   go_ret
   exact ⟨⟨_, rfl, by rw [HE.out, List.length_append, List.flatMap_append]; simpa using HO2.out.own⟩, HO2.out.bel⟩
 ·rw [hk] at sg
  have HK := qh hk
  clear hk hk9
  have hbe : bs = [(s.id, 0, 0, false)] := by rw [← HBS.out]; unfold Uo.base; rw [if_neg (by rw [HK.out]; decide), if_neg (by rw [HK.out]; decide), if_neg (by rw [HK.out]; decide), if_neg (by rw [HK.out]; decide), if_neg (by rw [HK.out]; decide), if_neg (by rw [HK.out]; decide)]
  have HO2 := qh (show Kit.Gw w 61 4 _ bs.length (bs.flatMap Uo.rc) W1 by rw [hbe]; exact HO1.out)
  clear hbe
  rcases dm : (s.mark != 1) with _ | _
  ·have hmk : s.mark = 1 := by simpa using dm
   have HE := qh (show Uo.opts A C s B = bs by rw [HOP.out, if_pos hmk, List.append_nil])
   clear hmk
   go_wp2_with fail
   go_ret
   exact ⟨⟨_, rfl, by rw [HE.out]; exact HO2.out.own⟩, HO2.out.bel⟩
  ·have hmk : ¬ s.mark = 1 := by simpa using dm
   have HE := qh (show Uo.opts A C s B = bs ++ [(s.id, 0, 0, true)] by rw [HOP.out, if_neg hmk])
   clear hmk
   go_wp2_with (at_builtin; refine Kit.wpList_app Uo.elR _ rfl _ _ rfl _ _ _ (HO2.out.alloc _) rfl omg ⟨W1.heap.size, 0, none⟩ 1 (Uo.rc (s.id, 0, 0, true)) rfl rfl (fun j_ u hu => Kit.lit_at _ (Uo.rc (s.id, 0, 0, true)) _ (by simp) j_ u hu) (by simp [Uo.rc, Value.oneCell']) ?_; intro v' w3 ho hg; have HO2 := qh ho; clear ho hg)
   go_ret
   exact ⟨⟨_, rfl, by rw [HE.out, List.length_append, List.flatMap_append]; simpa using HO2.out.own⟩, HO2.out.bel⟩
 ·rw [hk] at sg
  have HK := qh hk
  clear hk hk9
  have hbe : bs = [(s.id, 0, 0, false)] := by rw [← HBS.out]; unfold Uo.base; rw [if_neg (by rw [HK.out]; decide), if_neg (by rw [HK.out]; decide), if_neg (by rw [HK.out]; decide), if_neg (by rw [HK.out]; decide), if_neg (by rw [HK.out]; decide), if_neg (by rw [HK.out]; decide)]
  have HO2 := qh (show Kit.Gw w 61 4 _ bs.length (bs.flatMap Uo.rc) W1 by rw [hbe]; exact HO1.out)
  clear hbe
  rcases dm : (s.mark != 1) with _ | _
  ·have hmk : s.mark = 1 := by simpa using dm
   have HE := qh (show Uo.opts A C s B = bs by rw [HOP.out, if_pos hmk, List.append_nil])
   clear hmk
   go_wp2_with fail
   go_ret
   exact ⟨⟨_, rfl, by rw [HE.out]; exact HO2.out.own⟩, HO2.out.bel⟩
  ·have hmk : ¬ s.mark = 1 := by simpa using dm
   have HE := qh (show Uo.opts A C s B = bs ++ [(s.id, 0, 0, true)] by rw [HOP.out, if_neg hmk])
   clear hmk
   go_wp2_with (at_builtin; refine Kit.wpList_app Uo.elR _ rfl _ _ rfl _ _ _ (HO2.out.alloc _) rfl omg ⟨W1.heap.size, 0, none⟩ 1 (Uo.rc (s.id, 0, 0, true)) rfl rfl (fun j_ u hu => Kit.lit_at _ (Uo.rc (s.id, 0, 0, true)) _ (by simp) j_ u hu) (by simp [Uo.rc, Value.oneCell']) ?_; intro v' w3 ho hg; have HO2 := qh ho; clear ho hg)
   go_ret
   exact ⟨⟨_, rfl, by rw [HE.out, List.length_append, List.flatMap_append]; simpa using HO2.out.own⟩, HO2.out.bel⟩
 ·rw [hk] at sg
  have HK := qh hk
  clear hk hk9
  have hbe : bs = [(s.id, 0, Uo.mnI s.level B.t1, false)] := by rw [← HBS.out]; unfold Uo.base; rw [if_neg (by rw [HK.out]; decide), if_neg (by rw [HK.out]; decide), if_neg (by rw [HK.out]; decide), if_neg (by rw [HK.out]; decide), if_neg (by rw [HK.out]; decide), if_pos HK.out]
  have hmm : (if B.t1 < s.level then B.t1 else s.level) = Uo.mnI s.level B.t1 := rfl
  generalize Uo.mnI s.level B.t1 = M at hmm hbe
  have hmm2 : min s.level B.t1 = M := by rw [← hmm]; split <;> omega
  go_upto_region 18 with fail
  refine Kit.wp_name ?_
  intro w2 hw2
  have hb2 : Below W1.heap.size W1 w2 := by rw [hw2]; exact (Below.refl _ _).alloc nlr _
  have HO2 := qh (show Kit.Gw w 61 4 (.slice (some ⟨W1.heap.size, 0, none⟩) 1 1) bs.length (bs.flatMap Uo.rc) w2 by rw [hbe]; refine ⟨?_, HW1.out.bel.trans (hb2.mono HW1.out.bel.size)⟩; rw [hw2]; exact Uo.lit_row _ (Uo.rc (s.id, 0, M, false)) _ _ _ 4 1 rfl HW1.out.bel.size rfl (by unfold maxLen; omega))
  have HW2 := qh (HW1.out.then hb2)
  clear hbe hmm hmm2 hw2 hb2 sg hz1 k4 k5 k12 k13 k14
  have sg := HW2.out.sg
  have hz1 := HW2.out.z
  rcases dm : (s.mark != 1) with _ | _
  ·have hmk : s.mark = 1 := by simpa using dm
   have HE := qh (show Uo.opts A C s B = bs by rw [HOP.out, if_pos hmk, List.append_nil])
   clear hmk
   go_wp2_with fail
   go_ret
   exact ⟨⟨_, rfl, by rw [HE.out]; exact HO2.out.own⟩, HO2.out.bel⟩
  ·have hmk : ¬ s.mark = 1 := by simpa using dm
   have HE := qh (show Uo.opts A C s B = bs ++ [(s.id, 0, 0, true)] by rw [HOP.out, if_neg hmk])
   clear hmk
   go_wp2_with (at_builtin; refine Kit.wpList_app Uo.elR _ rfl _ _ rfl _ _ _ (HO2.out.alloc _) rfl omg ⟨w2.heap.size, 0, none⟩ 1 (Uo.rc (s.id, 0, 0, true)) rfl rfl (fun j_ u hu => Kit.lit_at _ (Uo.rc (s.id, 0, 0, true)) _ (by simp) j_ u hu) (by simp [Uo.rc, Value.oneCell']) ?_; intro v' w3 ho hg; have HO2 := qh ho; clear ho hg)
   go_ret
   exact ⟨⟨_, rfl, by rw [HE.out, List.length_append, List.flatMap_append]; simpa using HO2.out.own⟩, HO2.out.bel⟩
end Go.Proofs.YtbhgogiaaljclaaGreatDoor

namespace Go.Proofs.YtbhgogiaaljclaaGreatDoor
open Go.Shelf Go.RowKit Go.Lib
namespace Un
def letB (c : Int) : Bool := (decide (97 ≤ c) && decide (c ≤ 122)) || (decide (65 ≤ c) && decide (c ≤ 90))
def figB (c : Int) : Bool := decide (48 ≤ c) && decide (c ≤ 57)
theorem cls_two (c : Int) : letB c = decide (cls c = 2) := by
 unfold letB cls
 rw [Bool.eq_iff_iff]
 simp only [Bool.or_eq_true, Bool.and_eq_true, decide_eq_true_eq]
 constructor
 ·intro h
  rw [if_pos omg]
 ·intro h
  split at h
  ·omega
  ·repeat' split at h
   all_goals omega
theorem nameC_eq (c : Int) : nameC c = (letB c || figB c || c == 95) := by
 unfold nameC
 rw [← cls_two]
 unfold letB figB cls
 rw [Bool.eq_iff_iff]
 simp only [Bool.or_eq_true, Bool.and_eq_true, decide_eq_true_eq, beq_iff_eq]
 constructor
 ·rintro ((h | h) | h)
  ·exact .inl (.inl h)
  ·repeat' split at h
   all_goals omega
  ·repeat' split at h
   all_goals omega
 ·rintro ((h | h) | h)
  ·exact .inl (.inl h)
  ·by_cases h1 : (97 ≤ c ∧ c ≤ 122) ∨ (65 ≤ c ∧ c ≤ 90)
   ·exact .inl (.inl omg)
   ·refine .inl (.inr ?_)
    rw [if_neg h1, if_pos h]
  ·refine .inr ?_
   rw [if_neg omg, if_neg omg, if_pos h]
theorem nm_of (s : ByteArray) (b : Bool) (hb : b = true ↔ 0 < s.size ∧ s.size ≤ 32 ∧ (∀ h : 0 < s.size, Un.cls ((s[0]'h).toNat : Int) = 2) ∧ ∀ j (h : j < s.size), Un.nameC ((s[j]'h).toNat : Int) = true) : b = Un.nm s := by
 apply Bool.eq_iff_iff.2
 rw [hb]
 unfold Un.nm
 simp only [Bool.and_eq_true, decide_eq_true_eq, List.all_eq_true, and_assoc]
 refine and_congr_right fun h1 => and_congr_right fun h2 => and_congr ?_ ?_
 ·have e : s.data.toList.headD 0 = s[0]'h1 := by
   have : 0 < s.data.toList.length := by simpa using h1
   cases hl : s.data.toList with
   | nil => rw [hl] at this; simp at this
   | cons x t => show x = s.data[0]; rw [← Array.getElem_toList]; simp [hl]
  rw [e]
  exact ⟨fun h => h h1, fun h _ => h⟩
 ·constructor
  ·intro h x hx
   obtain ⟨j, hj, rfl⟩ := List.getElem_of_mem hx
   exact h j (by simpa using hj)
  ·intro h j hj
   exact h _ (by show s.data[j] ∈ s.data.toList; simp)
theorem bok_eq (B : Bd) : bok B = (nm B.name && Tp.inb B.weight 1 500 && Tp.inb B.lift 0 500 && Tp.inb B.girth 1 4 && Tp.inb B.step 1 16 && Tp.inb B.jump 0 16 && (Tp.inb B.r0 1 8 && Tp.inb B.r1 1 8 && Tp.inb B.r2 1 8) && (Tp.inb B.s0 1 1048576 && Tp.inb B.s1 1 1048576 && Tp.inb B.s2 1 1048576) && (Tp.inb B.t0 1 3 && Tp.inb B.t1 1 3 && Tp.inb B.t2 1 3) && Tp.inb B.effort 0 1048576 && Tp.inb B.recover 0 1048576) := by
 have e : ruok B = ((Tp.inb B.t0 1 3 && (Tp.inb B.t1 1 3 && Tp.inb B.t2 1 3)) && ((Tp.inb B.s0 1 1048576 && (Tp.inb B.s1 1 1048576 && Tp.inb B.s2 1 1048576)) && (Tp.inb B.step 1 16 && (Tp.inb B.jump 0 16 && (Tp.inb B.lift 0 500 && Tp.inb B.effort 0 1048576))))) := by
  unfold ruok okAt
  simp [List.range_succ, rM, rB, rLo, rUp, bdN, Bool.and_assoc]
 unfold bok
 rw [e]
 ac_rfl
end Un
theorem rl_letter (c : Int) (w : World) (h0 : 0 ≤ c) (h1 : c < 256) : Calls Tryz.prog 127 #[.int .u8 c] w fun e w' => e = .returned (.bool (Un.letB c)) ∧ w' = w := by
 unfold Un.letB
 rcases d1 : decide (97 ≤ c) with _ | _ <;> rcases d2 : decide (c ≤ 122) with _ | _ <;> rcases d3 : decide (65 ≤ c) with _ | _ <;> rcases d4 : decide (c ≤ 90) with _ | _
 all_goals
  go_enter Tryz.func127, Tryz.ntmps127
  go_wp2
  go_ret
  exact ⟨rfl, rfl⟩
theorem rl_figure (c : Int) (w : World) (h0 : 0 ≤ c) (h1 : c < 256) : Calls Tryz.prog 185 #[.int .u8 c] w fun e w' => e = .returned (.bool (Un.figB c)) ∧ w' = w := by
 unfold Un.figB
 rcases d1 : decide (48 ≤ c) with _ | _ <;> rcases d2 : decide (c ≤ 57) with _ | _
 all_goals
  go_enter Tryz.func185, Tryz.ntmps185
  go_wp2
  go_ret
  exact ⟨rfl, rfl⟩
theorem rl_part (c : Int) (w : World) (h0 : 0 ≤ c) (h1 : c < 256) : Calls Tryz.prog 128 #[.int .u8 c] w fun e w' => e = .returned (.bool (Un.nameC c)) ∧ w' = w := by
 rw [Un.nameC_eq]
 have HL := qh (fun W => rl_letter c W h0 h1)
 have HF := qh (fun W => rl_figure c W h0 h1)
 generalize Un.letB c = L at *
 generalize Un.figB c = F at *
 rcases d3 : (c == 95) with _ | _ <;> rcases L with _ | _ <;> rcases F with _ | _
 all_goals
  go_enter Tryz.func128, Tryz.ntmps128
  go_wp2_with (first | (go_at_call 127; refine (HL.out _).mono ?_; rintro e w' ⟨rfl, rfl⟩) | (go_at_call 185; refine (HF.out _).mono ?_; rintro e w' ⟨rfl, rfl⟩))
  go_ret
  exact ⟨rfl, rfl⟩
theorem rl_name (s : ByteArray) (w : World) (hs : s.size ≤ 9223372036854775807) : Calls Tryz.prog 74 #[.string s] w fun e w' => e = .returned (.bool (Un.nm s)) ∧ w' = w := by
 have HN := qh (fun b => Un.nm_of s b)
 have HB := qh (show ∀ j (h : j < s.size), (0 : Int) ≤ ((s[j]'h).toNat : Int) ∧ ((s[j]'h).toNat : Int) < 256 from fun j h => by have := (s[j]'h).toNat_lt; omega)
 by_cases h0 : s.size = 0
 ·have hse : s = ⟨#[]⟩ := by
   cases s with
   | mk d => congr 1; exact Array.eq_empty_of_size_eq_zero h0
  subst hse
  go_enter Tryz.func74, Tryz.ntmps74
  go_wp2
  go_ret
  exact ⟨congrArg (fun x => Ending.returned (Value.bool x)) (HN.out false (by simp; decide)), rfl⟩
 ·have hpos : 0 < s.size := by omega
  have hz0 : decide ((s.size : Int) < 1) = false := decide_eq_false omg
  have hz1 : decide (s.size < 1) = false := decide_eq_false omg
  have hz3 : (s.size == 0) = false := beq_false_of_ne h0
  by_cases h32 : s.size ≤ 32
  ·have hz : decide ((32 : Int) < (s.size : Int)) = false := by simp; omega
   have hz2 : decide (32 < s.size) = false := by simp; omega
   have HC0 := qh (fun W => rl_letter ((s[0]'hpos).toNat : Int) W (HB.out 0 hpos).1 (HB.out 0 hpos).2)
   have hlc := Un.cls_two ((s[0]'hpos).toNat : Int)
   generalize hL : Un.letB ((s[0]'hpos).toNat : Int) = L at *
   have HLC := qh hlc
   clear hlc hL
   go_enter Tryz.func74, Tryz.ntmps74
   rcases L with _ | _
   ·go_wp2_with (go_at_call 127; refine (HC0.out _).mono ?_; rintro e w' ⟨rfl, rfl⟩)
    go_ret
    exact ⟨congrArg (fun x => Ending.returned (Value.bool x)) (HN.out false ⟨fun h => (by cases h), fun h => (by have := h.2.2.1 hpos; have h2 := HLC.out; rw [this] at h2; cases h2)⟩), rfl⟩
   ·go_wp2_with (go_at_call 127; refine (HC0.out _).mono ?_; rintro e w ⟨rfl, rfl⟩)
    go_loopg [3] s.size (fun kx s3 wr => ∃ i : Nat, s3 = .int .i64 i ∧ i ≤ s.size ∧ s.size - i ≤ kx ∧ wr = w ∧ Hid (∀ j (h : j < s.size), j < i → Un.nameC ((s[j]'h).toNat : Int) = true))
    case atStart => exact ⟨0, rfl, by omega, by omega, rfl, fun j _ h => absurd h (Nat.not_lt_zero _)⟩
    case round =>
     obtain ⟨i, rfl, hi, hk, rfl, HA⟩ := hrel
     by_cases hlt : i < s.size
     ·have hltz : (i : Int) < (s.size : Int) := by omega
      have HCi := qh (fun W => rl_part ((s[i]'hlt).toNat : Int) W (HB.out i hlt).1 (HB.out i hlt).2)
      obtain ⟨p, hp⟩ : ∃ p, Un.nameC ((s[i]'hlt).toNat : Int) = p := ⟨_, rfl⟩
      rw [hp] at HCi
      have HP := qh hp
      clear hp
      rcases p with _ | _
      ·go_wp2_with (go_at_call 128; refine (HCi.out _).mono ?_; rintro e w' ⟨rfl, rfl⟩)
       go_ret
       exact ⟨congrArg (fun x => Ending.returned (Value.bool x)) (HN.out false ⟨fun h => (by cases h), fun h => (by have := h.2.2.2 i hlt; rw [HP.out] at this; cases this)⟩), rfl⟩
      ·go_wp2_with (go_at_call 128; refine (HCi.out _).mono ?_; rintro e w ⟨rfl, rfl⟩)
       go_roundg (s.size - (i + 1))
       case measure => omega
       case rel => exact ⟨i + 1, by first | rfl | go_num | simp, by omega, Nat.le_refl _, rfl, fun j h hj => (by
        rcases Nat.lt_or_ge j i with h' | h'
        ·exact HA.out j h h'
        ·obtain rfl : j = i := by omega
         exact HP.out)⟩
     ·obtain rfl : i = s.size := by omega
      go_wp2
      go_ret
      exact ⟨congrArg (fun x => Ending.returned (Value.bool x)) (HN.out true ⟨fun _ => ⟨hpos, h32, fun _ => by have := HLC.out; simpa using this.symm, fun j h => HA.out j h h⟩, fun _ => rfl⟩), rfl⟩
  ·have hz : decide ((32 : Int) < (s.size : Int)) = true := by simp; omega
   have hz2 : decide (32 < s.size) = true := by simp; omega
   go_enter Tryz.func74, Tryz.ntmps74
   go_wp2
   go_ret
   exact ⟨congrArg (fun x => Ending.returned (Value.bool x)) (HN.out false ⟨fun h => (by cases h), fun h => absurd h.2.1 h32⟩), rfl⟩
theorem rb_in (n lo hi : Int) (w : World) : Calls Tryz.prog 75 #[.int .i64 n, .int .i64 lo, .int .i64 hi] w fun e w' => e = .returned (.bool (Tp.inb n lo hi)) ∧ w' = w := by
 unfold Tp.inb
 rcases d1 : decide (lo ≤ n) with _ | _ <;> rcases d2 : decide (n ≤ hi) with _ | _
 all_goals
  go_enter Tryz.func75, Tryz.ntmps75
  go_wp2
  go_ret
  exact ⟨rfl, rfl⟩
theorem rb_three (a b c hi : Int) (w : World) : Calls Tryz.prog 76 #[.agg #[.int .i64 a, .int .i64 b, .int .i64 c], .int .i64 hi] w fun e w' => e = .returned (.bool (Tp.inb a 1 hi && Tp.inb b 1 hi && Tp.inb c 1 hi)) ∧ Below w.heap.size w w' := by
 have Ha := qh (fun W => rb_in a 1 hi W)
 have Hb := qh (fun W => rb_in b 1 hi W)
 have Hc := qh (fun W => rb_in c 1 hi W)
 generalize Tp.inb a 1 hi = x at *
 generalize Tp.inb b 1 hi = y at *
 generalize Tp.inb c 1 hi = z at *
 go_enter Tryz.func76, Tryz.ntmps76
 go_wp2_with fail
 refine (Ha.out _).mono ?_
 rintro _ w1 ⟨rfl, hw1⟩
 subst w1
 rcases x with _ | _
 ·go_wp2_with fail
  go_ret
  exact ⟨rfl, by exact Kit.gr⟩
 go_wp2_with fail
 refine (Hb.out _).mono ?_
 rintro _ w1 ⟨rfl, hw1⟩
 subst w1
 rcases y with _ | _
 ·go_wp2_with fail
  go_ret
  exact ⟨rfl, by exact Kit.gr⟩
 go_wp2_with fail
 refine (Hc.out _).mono ?_
 rintro _ w1 ⟨rfl, hw1⟩
 subst w1
 go_wp2_with fail
 go_ret
 exact ⟨by simp, by exact Kit.gr⟩
theorem rb_check (B : Un.Bd) (w : World) (hs : B.name.size ≤ 9223372036854775807) : Calls Tryz.prog 36 #[.agg (Un.bdA B)] w fun e w' => e = .returned (.int .i64 (if Un.bok B = true then 0 else 250)) ∧ Below w.heap.size w w' := by
 obtain ⟨r, hr⟩ : ∃ r, (if Un.bok B = true then (0 : Int) else 250) = r := ⟨_, rfl⟩
 rw [hr]
 rw [Un.bok_eq] at hr
 have KN := qh (fun W => rl_name B.name W hs)
 generalize Un.nm B.name = bN at *
 have K1 := qh (fun W => rb_in B.weight 1 500 W)
 generalize Tp.inb B.weight 1 500 = b1 at *
 have K2 := qh (fun W => rb_in B.lift 0 500 W)
 generalize Tp.inb B.lift 0 500 = b2 at *
 have K3 := qh (fun W => rb_in B.girth 1 4 W)
 generalize Tp.inb B.girth 1 4 = b3 at *
 have K4 := qh (fun W => rb_in B.step 1 16 W)
 generalize Tp.inb B.step 1 16 = b4 at *
 have K5 := qh (fun W => rb_in B.jump 0 16 W)
 generalize Tp.inb B.jump 0 16 = b5 at *
 have K15 := qh (fun W => rb_in B.effort 0 1048576 W)
 generalize Tp.inb B.effort 0 1048576 = b15 at *
 have K16 := qh (fun W => rb_in B.recover 0 1048576 W)
 generalize Tp.inb B.recover 0 1048576 = b16 at *
 have K6 := qh (fun W => rb_three B.r0 B.r1 B.r2 8 W)
 generalize (Tp.inb B.r0 1 8 && Tp.inb B.r1 1 8 && Tp.inb B.r2 1 8) = b6 at *
 have K9 := qh (fun W => rb_three B.s0 B.s1 B.s2 1048576 W)
 generalize (Tp.inb B.s0 1 1048576 && Tp.inb B.s1 1 1048576 && Tp.inb B.s2 1 1048576) = b9 at *
 have K12 := qh (fun W => rb_three B.t0 B.t1 B.t2 3 W)
 generalize (Tp.inb B.t0 1 3 && Tp.inb B.t1 1 3 && Tp.inb B.t2 1 3) = b12 at *
 have HRR := qh hr
 clear hr
 have HA := qh (Kit.range_alloc w (Un.bdA B) 36)
 go_enter Tryz.func36, Tryz.ntmps36
 go_upto_region 1 with fail
 refine Kit.wp_name ?_
 intro W hW
 have hrw : W.rangeAt w.heap.size 0 (Un.bdA B).toList := by rw [hW]; exact HA.out
 have HR := qh hrw
 have hzw : w.heap.size < W.heap.size := by rw [hW]; simp
 have HB := qh (show Below w.heap.size w W by rw [hW]; exact (Below.refl _ _).alloc nlr _)
 clear hW hrw HA
 have g0 : W.cell? ⟨w.heap.size, 0, none⟩ = some (.string B.name) := HR.out 0 _ rfl
 have g1 : W.cell? ⟨w.heap.size, 1, none⟩ = some (.int .i64 B.weight) := Un.bd_cell HR.out 1 omg omg
 have g2 : W.cell? ⟨w.heap.size, 2, none⟩ = some (.int .i64 B.lift) := Un.bd_cell HR.out 2 omg omg
 have g3 : W.cell? ⟨w.heap.size, 3, none⟩ = some (.int .i64 B.girth) := Un.bd_cell HR.out 3 omg omg
 have g4 : W.cell? ⟨w.heap.size, 4, none⟩ = some (.int .i64 B.step) := Un.bd_cell HR.out 4 omg omg
 have g5 : W.cell? ⟨w.heap.size, 5, none⟩ = some (.int .i64 B.jump) := Un.bd_cell HR.out 5 omg omg
 go_wp2_with fail
 refine (KN.out _).mono ?_
 rintro _ w' ⟨rfl, hww⟩
 subst w'
 rcases bN with _ | _
 ·have HF := qh (show r = 250 by rw [← HRR.out]; simp)
  go_wp2_with fail
  go_ret
  exact ⟨by rw [HF.out]; rfl, HB.out⟩
 go_wp2_with fail
 refine (K1.out _).mono ?_
 rintro _ w' ⟨rfl, hww⟩
 subst w'
 rcases b1 with _ | _
 ·have HF := qh (show r = 250 by rw [← HRR.out]; simp)
  go_wp2_with fail
  go_ret
  exact ⟨by rw [HF.out]; rfl, HB.out⟩
 go_wp2_with fail
 refine (K2.out _).mono ?_
 rintro _ w' ⟨rfl, hww⟩
 subst w'
 rcases b2 with _ | _
 ·have HF := qh (show r = 250 by rw [← HRR.out]; simp)
  go_wp2_with fail
  go_ret
  exact ⟨by rw [HF.out]; rfl, HB.out⟩
 go_wp2_with fail
 refine (K3.out _).mono ?_
 rintro _ w' ⟨rfl, hww⟩
 subst w'
 rcases b3 with _ | _
 ·have HF := qh (show r = 250 by rw [← HRR.out]; simp)
  go_wp2_with fail
  go_ret
  exact ⟨by rw [HF.out]; rfl, HB.out⟩
 go_wp2_with fail
 refine (K4.out _).mono ?_
 rintro _ w' ⟨rfl, hww⟩
 subst w'
 rcases b4 with _ | _
 ·have HF := qh (show r = 250 by rw [← HRR.out]; simp)
  go_wp2_with fail
  go_ret
  exact ⟨by rw [HF.out]; rfl, HB.out⟩
 go_wp2_with fail
 refine (K5.out _).mono ?_
 rintro _ w' ⟨rfl, hww⟩
 subst w'
 rcases b5 with _ | _
 ·have HF := qh (show r = 250 by rw [← HRR.out]; simp)
  go_wp2_with fail
  go_ret
  exact ⟨by rw [HF.out]; rfl, HB.out⟩
 clear g0 g1 g2 g3 g4 g5
 have g0 : W.cell? ⟨w.heap.size, 6, none⟩ = some (.int .i64 B.r0) := Un.bd_cell HR.out 6 omg omg
 have g1 : W.cell? ⟨w.heap.size, 7, none⟩ = some (.int .i64 B.r1) := Un.bd_cell HR.out 7 omg omg
 have g2 : W.cell? ⟨w.heap.size, 8, none⟩ = some (.int .i64 B.r2) := Un.bd_cell HR.out 8 omg omg
 go_wp2_with fail
 refine (K6.out _).mono ?_
 rintro _ W2 ⟨rfl, hb2⟩
 have HR2 := qh (Kit.range_kept HR.out hb2 hzw)
 have HB2 := qh (HB.out.trans (hb2.mono HB.out.size))
 have hzw2 : w.heap.size < W2.heap.size := Nat.lt_of_lt_of_le hzw hb2.size
 clear HR HB hzw hb2 g0 g1 g2
 obtain ⟨W, hW⟩ : ∃ W, W = W2 := ⟨_, rfl⟩
 subst hW
 have HR := HR2
 have HB := HB2
 have hzw := hzw2
 clear HR2 HB2 hzw2
 rcases b6 with _ | _
 ·have HF := qh (show r = 250 by rw [← HRR.out]; simp)
  go_wp2_with fail
  go_ret
  exact ⟨by rw [HF.out]; rfl, HB.out⟩
 have g0 : W.cell? ⟨w.heap.size, 9, none⟩ = some (.int .i64 B.s0) := Un.bd_cell HR.out 9 omg omg
 have g1 : W.cell? ⟨w.heap.size, 10, none⟩ = some (.int .i64 B.s1) := Un.bd_cell HR.out 10 omg omg
 have g2 : W.cell? ⟨w.heap.size, 11, none⟩ = some (.int .i64 B.s2) := Un.bd_cell HR.out 11 omg omg
 go_wp2_with fail
 refine (K9.out _).mono ?_
 rintro _ W2 ⟨rfl, hb2⟩
 have HR2 := qh (Kit.range_kept HR.out hb2 hzw)
 have HB2 := qh (HB.out.trans (hb2.mono HB.out.size))
 have hzw2 : w.heap.size < W2.heap.size := Nat.lt_of_lt_of_le hzw hb2.size
 clear HR HB hzw hb2 g0 g1 g2
 obtain ⟨W, hW⟩ : ∃ W, W = W2 := ⟨_, rfl⟩
 subst hW
 have HR := HR2
 have HB := HB2
 have hzw := hzw2
 clear HR2 HB2 hzw2
 rcases b9 with _ | _
 ·have HF := qh (show r = 250 by rw [← HRR.out]; simp)
  go_wp2_with fail
  go_ret
  exact ⟨by rw [HF.out]; rfl, HB.out⟩
 have g0 : W.cell? ⟨w.heap.size, 12, none⟩ = some (.int .i64 B.t0) := Un.bd_cell HR.out 12 omg omg
 have g1 : W.cell? ⟨w.heap.size, 13, none⟩ = some (.int .i64 B.t1) := Un.bd_cell HR.out 13 omg omg
 have g2 : W.cell? ⟨w.heap.size, 14, none⟩ = some (.int .i64 B.t2) := Un.bd_cell HR.out 14 omg omg
 go_wp2_with fail
 refine (K12.out _).mono ?_
 rintro _ W2 ⟨rfl, hb2⟩
 have HR2 := qh (Kit.range_kept HR.out hb2 hzw)
 have HB2 := qh (HB.out.trans (hb2.mono HB.out.size))
 have hzw2 : w.heap.size < W2.heap.size := Nat.lt_of_lt_of_le hzw hb2.size
 clear HR HB hzw hb2 g0 g1 g2
 obtain ⟨W, hW⟩ : ∃ W, W = W2 := ⟨_, rfl⟩
 subst hW
 have HR := HR2
 have HB := HB2
 have hzw := hzw2
 clear HR2 HB2 hzw2
 rcases b12 with _ | _
 ·have HF := qh (show r = 250 by rw [← HRR.out]; simp)
  go_wp2_with fail
  go_ret
  exact ⟨by rw [HF.out]; rfl, HB.out⟩
 have g0 : W.cell? ⟨w.heap.size, 15, none⟩ = some (.int .i64 B.effort) := Un.bd_cell HR.out 15 omg omg
 have g1 : W.cell? ⟨w.heap.size, 16, none⟩ = some (.int .i64 B.recover) := Un.bd_cell HR.out 16 omg omg
 go_wp2_with fail
 refine (K15.out _).mono ?_
 rintro _ w' ⟨rfl, hww⟩
 subst w'
 rcases b15 with _ | _
 ·have HF := qh (show r = 250 by rw [← HRR.out]; simp)
  go_wp2_with fail
  go_ret
  exact ⟨by rw [HF.out]; rfl, HB.out⟩
 go_wp2_with fail
 refine (K16.out _).mono ?_
 rintro _ w' ⟨rfl, hww⟩
 subst w'
 rcases b16 with _ | _
 ·have HF := qh (show r = 250 by rw [← HRR.out]; simp)
  go_wp2_with fail
  go_ret
  exact ⟨by rw [HF.out]; rfl, HB.out⟩
 have HF := qh (show r = 0 by rw [← HRR.out]; simp)
 go_wp2_with fail
 go_ret
 exact ⟨by rw [HF.out]; rfl, HB.out⟩
end Go.Proofs.YtbhgogiaaljclaaGreatDoor
