/- Walks: the reference of layer 48: has, cast, Price. Walks: the reference of layer 48: Ready, where it errs. -/
import Derived.Test.YtbhgogiaaljclaaGreatDoorUqw
import Derived.Test.YtbhgogiaaljclaaGreatDoorUrx
set_option linter.unusedSimpArgs false
set_option linter.unusedVariables false
set_option maxRecDepth 100000
set_option maxHeartbeats 8000000
namespace Go.Proofs.YtbhgogiaaljclaaGreatDoor
open Go.RowKit Go.Shelf
theorem rv_price (s : Ex.Sg) (r : Uo.Re) (w : World) : Calls Tryz.prog 84 #[Ex.sgV s, .agg #[.int .i64 r.1, .int .i64 r.2.1, .int .i64 r.2.2.1, .bool r.2.2.2]] w fun e w' => e = .returned (.int .i64 (Un.cost s r)) ∧ Below w.heap.size w w' := by
 obtain ⟨r0, r1, r2, r3⟩ := r
 obtain ⟨c, hc⟩ : ∃ c, Un.cost s (r0, r1, r2, r3) = c := ⟨_, rfl⟩
 rw [hc]
 unfold Un.cost at hc
 dsimp only at hc ⊢
 rcases r3 with _ | _
 ·rw [if_neg (by decide)] at hc
  rcases d3 : (s.kind == 3) with _ | _ <;> rcases d4 : (s.kind == 4) with _ | _ <;> rcases d5 : (s.kind == 5) with _ | _ <;> rcases dd : (r1 != s.dir) with _ | _ <;> rcases dl : (r2 != s.level) with _ | _
  all_goals
   have HC := qh hc
   clear hc
   go_enter Tryz.func84, Tryz.ntmps84
   go_wp2_with fail
   go_ret
   refine ⟨?_, by exact Kit.gr⟩
   rw [← HC.out]
   simp at d3 d4 d5 dd dl
   first
    | (rw [if_neg omg]; rfl)
    | (rw [if_pos omg]; rfl)
 ·rw [if_pos rfl] at hc
  rcases d3 : (s.mark == 3) with _ | _ <;> rcases d2 : (s.mark == 2) with _ | _
  all_goals
   have HC := qh hc
   clear hc
   go_enter Tryz.func84, Tryz.ntmps84
   go_wp2_with fail
   go_ret
   refine ⟨?_, by exact Kit.gr⟩
   rw [← HC.out]
   simp at d3 d2
   first
    | (rw [if_neg omg, if_neg omg]; rfl)
    | (rw [if_neg omg, if_pos omg]; rfl)
    | (rw [if_pos omg]; rfl)
theorem ru_has (l : List Int) (a : Option Addr) (c : Nat) (n : Int) (w : World) (hS : Tp.Sl w a l.length 1 (Un.ic l)) (hl : l.length ≤ 1000000000) :
  Calls Tryz.prog 48 #[.slice a l.length c, .int .i64 n] w fun e w' => e = .returned (.bool (l.contains n)) ∧ w = w' := by
 have HS := qh hS
 obtain ⟨r, hr⟩ : ∃ r, l.contains n = r := ⟨_, rfl⟩
 rw [hr]
 have HR := qh hr
 clear hS hr
 go_enter Tryz.func48, Tryz.ntmps48
 go_wp2_with fail
 go_loopg [5] l.length (fun kx v5 wr => ∃ i : Nat, v5 = .int .i64 i ∧ i ≤ l.length ∧ l.length - i ≤ kx ∧ Hid ((l.take i).contains n = false) ∧ wr = w)
 case atStart => exact ⟨0, rfl, by omega, by omega, qh rfl, rfl⟩
 case round =>
  obtain ⟨i, rfl, hi, hk, HA, rfl⟩ := hrel
  by_cases hlt : i < l.length
  ·have hltz : (i : Int) < (l.length : Int) := by omega
   obtain ⟨ad, rfl, had, _⟩ := HS.out.at hlt
   have e0 := HS.out.head hlt omg
   obtain ⟨x, hx⟩ : ∃ x, l.getD i 0 = x := ⟨_, rfl⟩
   rw [Nat.mul_one] at e0
   unfold Un.ic at e0
   rw [hx] at e0
   have HX := qh hx
   clear hx
   rcases d : (x == n) with _ | _
   ·have HE := qh (show (l.take (i + 1)).contains n = false by
     rw [List.take_succ_eq_append_getElem hlt, List.contains_append, HA.out]
     have e : l.getD i 0 = l[i] := by simp [List.getD, hlt]
     rw [← e, HX.out]
     simp at d ⊢
     exact fun h => d h.symm)
    go_wp2_with fail
    go_roundg (l.length - (i + 1))
    case measure => omega
    case rel => exact ⟨i + 1, by go_num, by omega, Nat.le_refl _, HE, rfl⟩
   ·have HE := qh (show r = true by
     rw [← HR.out, List.contains_iff_mem]
     have e : l.getD i 0 = l[i] := by simp [List.getD, hlt]
     have : n = l[i] := by rw [← e, HX.out]; simp at d; exact d.symm
     rw [this]; exact List.getElem_mem hlt)
    go_wp2_with fail
    go_ret
    exact ⟨by rw [HE.out]; rfl, rfl⟩
  ·obtain rfl : i = l.length := by omega
   have HE := qh (show r = false by
    have h := HA.out
    rw [List.take_length] at h
    rw [← HR.out, h])
   go_wp2_with fail
   go_ret
   exact ⟨by rw [HE.out]; rfl, rfl⟩
namespace Un
theorem okCast_cons (n : Nat) (pre : List Int) (p : Int) (l : List Int) : okCast n pre (p :: l) = (decide (0 ≤ p) && decide (p < n) && !(pre.contains p) && okCast n (pre ++ [p]) l) := rfl
theorem okCast_step (n : Nat) (l : List Int) (i : Nat) (h : i < l.length) (x : Int) (hx : l.getD i 0 = x) : okCast n (l.take i) (l.drop i) = (decide (0 ≤ x) && decide (x < n) && !((l.take i).contains x) && okCast n (l.take (i + 1)) (l.drop (i + 1))) := by
 have e : l.getD i 0 = l[i] := by simp [List.getD, h]
 rw [List.drop_eq_getElem_cons h, okCast_cons, ← e, hx, List.take_succ_eq_append_getElem h, ← e, hx]
theorem ic_take {w : World} {a : Option Addr} {l : List Int} (h : Tp.Sl w a l.length 1 (ic l)) (i : Nat) (hi : i ≤ l.length) : Tp.Sl w a (l.take i).length 1 (ic (l.take i)) := by
 rw [List.length_take, Nat.min_eq_left hi]
 rcases h with h | ⟨ad, e, h1, h2⟩
 ·exact .inl omg
 ·refine .inr ⟨ad, e, h1, fun j t hj ht => ?_⟩
  rw [h2 j t omg ht]
  unfold ic
  simp [List.getD, List.getElem?_take, hj]
end Un
theorem ru_cast (roles people : Nat) (l : List Int) (a : Option Addr) (c : Nat) (w : World) (hS : Tp.Sl w a l.length 1 (Un.ic l)) (hl : l.length ≤ 1000000000) (hr : roles ≤ 1000000000) (hp : people ≤ 1000000000) (hc : l.length ≤ c) :
  Calls Tryz.prog 47 #[.int .i64 roles, .int .i64 people, .slice a l.length c] w fun e w' => e = .returned (.bool (decide (l.length = roles) && Un.okCast people [] l)) ∧ Below w.heap.size w w' := by
 by_cases hlr : l.length = roles
 case neg =>
  have d1 : ((l.length : Int) != (roles : Int)) = true := by simp; omega
  have d2 : (l.length != roles) = true := by simpa using hlr
  have HE := qh (show (decide (l.length = roles) && Un.okCast people [] l) = false by rw [decide_eq_false hlr]; rfl)
  clear hlr hS
  go_enter Tryz.func47, Tryz.ntmps47
  go_wp2_with fail
  go_ret
  exact ⟨by rw [HE.out]; rfl, Below.refl _ _⟩
 obtain ⟨r, hr2⟩ : ∃ r, Un.okCast people [] l = r := ⟨_, rfl⟩
 rw [decide_eq_true hlr, Bool.true_and, hr2]
 have d1 : ((l.length : Int) != (roles : Int)) = false := by simp; omega
 have d2 : (l.length != roles) = false := by simpa using hlr
 have HS := qh hS
 have HR := qh hr2
 clear hS hr2 hlr
 go_enter Tryz.func47, Tryz.ntmps47
 go_wp2_with fail
 go_loopg [7] l.length (fun kx v7 wr => ∃ i : Nat, v7 = .int .i64 i ∧ i ≤ l.length ∧ l.length - i ≤ kx ∧ Hid (Un.okCast people [] l = Un.okCast people (l.take i) (l.drop i)) ∧ Hid (Below w.heap.size w wr))
 case atStart => exact ⟨0, rfl, by omega, by omega, qh rfl, qh (Below.refl _ _)⟩
 case round =>
  obtain ⟨i, rfl, hi, hk, HA, HB⟩ := hrel
  by_cases hlt : i < l.length
  ·have hltz : (i : Int) < (l.length : Int) := by omega
   obtain ⟨ad, rfl, had, _⟩ := HS.out.at hlt
   have hsl := HS.out.kept HB.out nlr
   have e0 := hsl.head hlt omg
   obtain ⟨x, hx⟩ : ∃ x, l.getD i 0 = x := ⟨_, rfl⟩
   rw [Nat.mul_one] at e0
   unfold Un.ic at e0
   rw [hx] at e0
   have HST := qh (Un.okCast_step people l i hlt x hx)
   have hzw := HB.out.size
   have HT := qh (fun W (hb : Below w.heap.size w W) => (by have h := ru_has (l.take i) (some ad) c x W (Un.ic_take (HS.out.kept hb nlr) i hi) (by rw [List.length_take]; omega); rw [List.length_take, Nat.min_eq_left hi] at h; exact h.mono (fun e w' h => ⟨h.1, h.2.symm⟩) : Calls Tryz.prog 48 #[.slice (some ad) i c, .int .i64 x] W fun e w' => e = .returned (.bool ((l.take i).contains x)) ∧ w' = W))
   generalize (l.take i).contains x = h at *
   clear hx hsl
   have hi0 : (0 : Int) ≤ i := by omega
   have hic : (i : Int) ≤ c := by omega
   have hicn : i ≤ c := by omega
   rcases dx : decide (x < 0) with _ | _
   case true =>
    have HE := qh (show r = false by
     rw [← HR.out, HA.out, HST.out, show decide (0 ≤ x) = false by simp at dx ⊢; omega]; rfl)
    go_upto_region 6 with fail
    go_quiet (fail)
    go_wp2_with fail
    go_ret
    exact ⟨by rw [HE.out]; rfl, Kit.below_drewN HB.out _⟩
   rcases dy : decide ((people : Int) ≤ x) with _ | _
   case true =>
    have HE := qh (show r = false by
     rw [← HR.out, HA.out, HST.out, show decide (x < (people : Int)) = false by simp at dy ⊢; omega, Bool.and_false]; rfl)
    go_upto_region 6 with fail
    go_quiet (fail)
    go_wp2_with fail
    go_ret
    exact ⟨by rw [HE.out]; rfl, Kit.below_drewN HB.out _⟩
   have HST2 := qh (show Un.okCast people (l.take i) (l.drop i) = (!h && Un.okCast people (l.take (i + 1)) (l.drop (i + 1))) by
    rw [HST.out, show decide (0 ≤ x) = true by simp at dx ⊢; omega, show decide (x < (people : Int)) = true by simp at dy ⊢; omega]; rfl)
   clear HST
   go_upto_region 6 with fail
   go_quiet ((go_at_call 48; exact Calls.quiet_of_same (HT.out _ (Kit.below_drewN HB.out _))))
   have HBQ := qh (Kit.below_drewN HB.out nq)
   generalize wr.drewN nq = W3 at *
   rcases h with _ | _
   ·have HE := qh (HA.out.trans HST2.out)
    go_wp2_with fail
    go_roundg (l.length - (i + 1))
    case measure => omega
    case rel => exact ⟨i + 1, by go_num, by omega, Nat.le_refl _, HE, HBQ⟩
   ·have HE := qh (show r = false by rw [← HR.out, HA.out, HST2.out]; rfl)
    go_wp2_with fail
    go_ret
    exact ⟨by rw [HE.out]; rfl, HBQ.out⟩
  ·obtain rfl : i = l.length := by omega
   have HE := qh (show r = true by
    have h := HA.out
    rw [List.drop_length] at h
    rw [← HR.out, h]; rfl)
   go_wp2_with fail
   go_ret
   exact ⟨by rw [HE.out]; rfl, HB.out⟩
namespace Un
def pcost (x : Ex.Wk) (b : Bd) (k : Ex.Sg) : Int := cost k ((Uo.opts x.ta x.tc k b).headD (0, 0, 0, false))
def priceT (x : Ex.Wk) (b : Bd) (role bar : Int) (i : Nat) : Int := (((x.sg.take i).filter (mine bar role)).map (pcost x b)).sum
theorem cost_bd2 (k : Ex.Sg) (r : Uo.Re) : 0 ≤ cost k r ∧ cost k r ≤ 64 := by
 unfold cost
 split
 ·split
  ·omega
  ·split <;> omega
 ·split <;> omega
theorem priceT_step (x : Ex.Wk) (b : Bd) (role bar : Int) (i : Nat) (h : i < x.sg.length) (k : Ex.Sg) (hk : x.sg.getD i default = k) : priceT x b role bar (i + 1) = priceT x b role bar i + (if mine bar role k = true then pcost x b k else 0) := by
 unfold priceT
 have e : x.sg.getD i default = x.sg[i] := by simp [List.getD, h]
 rw [List.take_succ_eq_append_getElem h, ← e, hk, List.filter_append, List.map_append, List.sum_append]
 congr 1
 by_cases hm : mine bar role k = true
 ·rw [List.filter_cons_of_pos hm, if_pos hm]; simp
 ·rw [List.filter_cons_of_neg hm, if_neg hm]; simp
theorem priceT_bd (x : Ex.Wk) (b : Bd) (role bar : Int) : ∀ i, i ≤ x.sg.length → 0 ≤ priceT x b role bar i ∧ priceT x b role bar i ≤ 64 * i
 | 0, _ => by simp [priceT]
 | i + 1, h => by
  have ih := priceT_bd x b role bar i omg
  rw [priceT_step x b role bar i omg _ rfl]
  have h2 := cost_bd2 (x.sg.getD i default) ((Uo.opts x.ta x.tc (x.sg.getD i default) b).headD (0, 0, 0, false))
  unfold pcost
  split <;> omega
theorem priceT_end (x : Ex.Wk) (b : Bd) (role bar : Int) : priceT x b role bar x.sg.length = price x b role bar := by unfold priceT price; rw [List.take_length]; rfl
end Un
theorem ru_price (x : Ex.Wk) (p : Ex.Wa) (B : Un.Bd) (role bar : Int) (w : World) (ha : Ex.At w x p) (hg : Ex.Good x) (hB : Un.bok B = true) (hA : 0 ≤ x.ta) (hA2 : x.ta ≤ 32768) (hC : 0 ≤ x.tc) (hC2 : x.tc ≤ 32768) (hab : (Un.ableR x B role bar).2 = true) :
  Calls Tryz.prog 49 #[Ex.workV x p, .agg (Un.bdA B), .int .i64 role, .int .i64 bar] w fun e w' => e = .returned (.int .i64 (Un.price x B role bar)) ∧ Below w.heap.size w w' := by
 obtain ⟨aR, cR, aT, cT, aP, cP, aS, cS, aG, cG⟩ := p
 have hsl := ha.sg
 replace hsl : Tp.Sl w aG x.sg.length 14 (Ex.sgc x.sg) := hsl
 have HSL := qh hsl
 have hlen := hg.len
 have HOF := qh (fun k (hk : k ∈ x.sg) W => rv_of x.ta x.tb x.tc k B W (Ex.fit_of (hg.oks k hk)) hB hA hA2 hC hC2)
 have HAB := qh (show ∀ k ∈ x.sg, Un.mine bar role k = true → Un.none? x B k = false from Un.able_iff x B role bar |>.1 hab)
 have HI := qh (show (Tryz.prog.info? 36).map (·.size) = some (Un.bdA B).toList.length by kernel_rfl)
 obtain ⟨r, hr⟩ : ∃ r, Un.price x B role bar = r := ⟨_, rfl⟩
 rw [hr]
 have HR := qh hr
 clear ha hg hB hsl hr hab
 go_enter Tryz.func49, Tryz.ntmps49
 go_upto_region 1 with fail
 refine Kit.wp_name ?_
 intro W1 hW1
 have HW1 := qh (show Un.WG w x ⟨aR, cR, aT, cT, aP, cP, aS, cS, aG, cG⟩ B W1 by
  rw [hW1]
  exact ⟨by exact Kit.gr, fun j => by simp [go_sem], Un.range_alloc2 w (.cells (Un.wkC x ⟨aR, cR, aT, cT, aP, cP, aS, cS, aG, cG⟩) 32) (Un.bdA B) 36, by simp⟩)
 clear hW1
 go_wp2_with fail
 go_loopg [9, 10] x.sg.length (fun kx v9 v10 wr => ∃ i : Nat, v10 = .int .i64 i ∧ i ≤ x.sg.length ∧ x.sg.length - i ≤ kx ∧ v9 = .int .i64 (Un.priceT x B role bar i) ∧ Hid (Un.WG w x ⟨aR, cR, aT, cT, aP, cP, aS, cS, aG, cG⟩ B wr))
 case atStart => exact ⟨0, rfl, by omega, by omega, by first | rfl | (unfold Un.priceT; simp), HW1⟩
 case round =>
  obtain ⟨i, rfl, hi, hk, rfl, HW⟩ := hrel
  have wk := HW.out.wk
  have hzb := HW.out.z
  by_cases hlt : i < x.sg.length
  ·have hltz : (i : Int) < (x.sg.length : Int) := by omega
   have hsl := HSL.out.kept HW.out.bel nlr
   obtain ⟨ad, rfl, hadb, _⟩ := HSL.out.at hlt
   (have e0 := hsl.head hlt omg; have e1 := hsl.field hlt (j := 1) omg omg; have e2 := hsl.field hlt (j := 2) omg omg; have e3 := hsl.field hlt (j := 3) omg omg; have e4 := hsl.field hlt (j := 4) omg omg; have e5 := hsl.field hlt (j := 5) omg omg; have e6 := hsl.field hlt (j := 6) omg omg; have e7 := hsl.field hlt (j := 7) omg omg; have e8 := hsl.field hlt (j := 8) omg omg; have e9 := hsl.field hlt (j := 9) omg omg; have e10 := hsl.field hlt (j := 10) omg omg; have e11 := hsl.field hlt (j := 11) omg omg; have e12 := hsl.field hlt (j := 12) omg omg; have e13 := hsl.field hlt (j := 13) omg omg; obtain ⟨y, hy_⟩ : ∃ y, x.sg.getD i default = y := ⟨_, rfl⟩; simp only [Ex.sgc, hy_] at e0 e1 e2 e3 e4 e5 e6 e7 e8 e9 e10 e11 e12 e13)
   have hmem : y ∈ x.sg := by rw [← hy_, List.getD_eq_getElem?_getD, List.getElem?_eq_getElem hlt]; exact List.getElem_mem hlt
   have hst := Un.priceT_step x B role bar i hlt y hy_
   have hpb := Un.priceT_bd x B role bar i omg
   have HOY := qh (HOF.out y hmem)
   have HAY := qh (HAB.out y hmem)
   obtain ⟨S, hS⟩ : ∃ S, Un.priceT x B role bar i = S := ⟨_, rfl⟩
   rw [hS] at hst hpb ⊢
   have HST := qh hst
   clear hy_ hsl hmem hst hS
   rcases d1 : (y.role == role) with _ | _
   ·have HE := qh (show Un.priceT x B role bar (i + 1) = S by rw [HST.out, if_neg (by unfold Un.mine; rw [d1]; simp)]; omega)
    go_wp2_with fail
    go_roundg (x.sg.length - (i + 1))
    case measure => omega
    case rel => exact ⟨i + 1, by go_num, by omega, Nat.le_refl _, by rw [HE.out], qh (HW.out.then ((Below.refl _ _).alloc nlr _))⟩
   rcases d2 : decide (bar ≤ y.bar) with _ | _
   ·have HE := qh (show Un.priceT x B role bar (i + 1) = S by rw [HST.out, if_neg (by unfold Un.mine; rw [d2]; simp)]; omega)
    go_wp2_with fail
    go_roundg (x.sg.length - (i + 1))
    case measure => omega
    case rel => exact ⟨i + 1, by go_num, by omega, Nat.le_refl _, by rw [HE.out], qh (HW.out.then ((Below.refl _ _).alloc nlr _))⟩
   have hm : Un.mine bar role y = true := by unfold Un.mine; rw [d1, d2]; rfl
   have hne := HAY.out hm
   have hst2 := HST.out
   rw [if_pos hm] at hst2
   unfold Un.none? at hne
   unfold Un.pcost at hst2
   obtain ⟨rr, rs, hrr⟩ : ∃ rr rs, Uo.opts x.ta x.tc y B = rr :: rs := by
    cases h : Uo.opts x.ta x.tc y B with
    | nil => rw [h] at hne; cases hne
    | cons a b => exact ⟨a, b, rfl⟩
   rw [hrr] at hst2
   dsimp only [List.headD] at hst2
   have hcb := Un.cost_bd2 y rr
   have HPC := qh (fun W => rv_price y rr W)
   obtain ⟨m, hm0⟩ : ∃ m, (rr :: rs).length = m := ⟨_, rfl⟩
   have hmp : 0 < m := by rw [← hm0]; simp
   have HRR := qh (show ∀ (W : World) (B0 : Nat) (v : Value), W.ownsRow B0 61 4 v (Uo.opts x.ta x.tc y B).length ((Uo.opts x.ta x.tc y B).flatMap Uo.rc) → ∃ g cv, v = .slice (some ⟨g, 0, none⟩) m cv ∧ g < W.heap.size ∧ W.rangeAt g 0 (Uo.rc rr) from fun W B0 v h => by
    rw [hrr, hm0] at h
    rcases h.2 with ⟨rfl, h0⟩ | ⟨g, cap, cur, rfl, _, hg, _, _, _, htk⟩
    ·omega
    ·refine ⟨g, cap, rfl, (Array.getElem?_eq_some_iff.1 hg).1, fun j u hu => ?_⟩
     simp only [World.cell?, hg, Nat.zero_add]
     have hj : j < (Uo.rc rr).length := (List.getElem?_eq_some_iff.1 hu).1
     have h1 : (cur.toList.take (m * 4))[j]? = some u := by
      rw [htk, List.flatMap_cons, List.getElem?_append_left hj]; exact hu
     rw [List.getElem?_take] at h1
     split at h1
     ·simpa using h1
     ·cases h1)
   have HST2 := qh hst2
   generalize Un.cost y rr = cc at *
   have hsum : IntKind.i64.wrap (S + cc) = S + cc := by rw [IntKind.wrap_i64] <;> omega
   clear hst2 hrr hm0 hm hne HST HAY
   obtain ⟨r0, r1, r2, r3⟩ := rr
   dsimp only at HPC
   unfold Ex.sgV at HPC
   go_upto_region 6 with fail
   refine Kit.wp_name ?_
   intro W2 hW2
   have hb2 : Below wr.heap.size wr W2 := by rw [hW2]; exact Kit.gr
   have ys : ∀ j, W2.cell? ⟨wr.heap.size, j, none⟩ = #[Value.int .i64 y.id, .int .i64 y.role, .int .i64 y.bar, .int .i64 y.mark, .int .i64 y.kind, .int .i64 y.side, .int .i64 y.dir, .int .i64 y.level, .int .i64 y.size, .int .i64 y.wth, .int .i64 y.fn, .int .i64 y.fd, .int .i64 y.tn, .int .i64 y.td][j]? := fun j => by rw [hW2]; simp [go_sem]
   have y1 := ys 1
   have y2 := ys 2
   simp at y1 y2
   have hz2 : wr.heap.size < W2.heap.size := by rw [hW2]; simp
   have HW2 := qh (HW.out.then hb2)
   have wk2 := HW2.out.wk
   clear hW2 wk e0 e1 e2 e3 e4 e5 e6 e7 e8 e9 e10 e11 e12 e13 hb2 HW
   go_wp2_with ((with_reducible refine wpList_load_mid ?_ 36 (.tmp 5) ?_ (w.heap.size + 1) 0 ?_ (Un.bdA B).toList _ HW2.out.row Tryz.underlying36 rfl HI.out ?_); rfl; rfl; rfl)
   refine (HOY.out _).mono ?_
   rintro _ W3 ⟨⟨v, rfl, ho⟩, hb3⟩
   obtain ⟨g, cv, rfl, hgz, hrg⟩ := HRR.out W3 _ v ho
   have HW3 := qh (HW2.out.then hb3)
   have ys3 : ∀ j, W3.cell? ⟨wr.heap.size, j, none⟩ = #[Value.int .i64 y.id, .int .i64 y.role, .int .i64 y.bar, .int .i64 y.mark, .int .i64 y.kind, .int .i64 y.side, .int .i64 y.dir, .int .i64 y.level, .int .i64 y.size, .int .i64 y.wth, .int .i64 y.fn, .int .i64 y.fd, .int .i64 y.tn, .int .i64 y.td][j]? := fun j => (World.cell?_of_block (hb3.block wr.heap.size hz2)).trans (ys j)
   have hz3 : wr.heap.size < W3.heap.size := Nat.lt_of_lt_of_le hz2 hb3.size
   clear ho hb3 ys wk2 y1 y2
   have kY : ∀ (z : Kit.Wd W3) (j : Nat), z.val.cell? ⟨wr.heap.size, j, none⟩ = #[Value.int .i64 y.id, .int .i64 y.role, .int .i64 y.bar, .int .i64 y.mark, .int .i64 y.kind, .int .i64 y.side, .int .i64 y.dir, .int .i64 y.level, .int .i64 y.size, .int .i64 y.wth, .int .i64 y.fn, .int .i64 y.fd, .int .i64 y.tn, .int .i64 y.td][j]? := fun z j => (World.cell?_of_block (z.below.block wr.heap.size hz3)).trans (ys3 j)
   have kR : ∀ (z : Kit.Wd W3) (j : Nat), z.val.cell? ⟨g, j, none⟩ = if j < 4 then #[Value.int .i64 r0, .int .i64 r1, .int .i64 r2, .bool r3][j]? else z.val.cell? ⟨g, j, none⟩ := fun z j => by
    split
    ·rename_i hj
     rw [World.cell?_of_block (z.below.block g hgz)]
     obtain rfl | rfl | rfl | rfl : j = 0 ∨ j = 1 ∨ j = 2 ∨ j = 3 := by omega
     ·exact hrg 0 (.int .i64 r0) rfl
     ·exact hrg 1 (.int .i64 r1) rfl
     ·exact hrg 2 (.int .i64 r2) rfl
     ·exact hrg 3 (.bool r3) rfl
    ·rfl
   have k0 := fun z => (kR z 0).trans (if_pos (by decide))
   have k1 := fun z => (kR z 1).trans (if_pos (by decide))
   have k2 := fun z => (kR z 2).trans (if_pos (by decide))
   have k3 := fun z => (kR z 3).trans (if_pos (by decide))
   simp at k0 k1 k2 k3
   have hmz : (0 : Int) < m := by omega
   clear ys3 hrg kR
   go_upto_region 8 with fail
   (refine Kit.wp_region_cls (by kernel_rfl) (by kernel_rfl) ?_; (repeat (go_big_quiet_step (with_reducible exact Kit.calls_cls _ (HPC.out _)))); refine wpQuiet_nil ?_; intro z)
   have HWZ := qh (HW3.out.then z.below)
   generalize z.val = Z at *
   have HE := qh (show Un.priceT x B role bar (i + 1) = S + cc from HST2.out)
   clear kY k0 k1 k2 k3
   go_wp2_with fail
   go_roundg (x.sg.length - (i + 1))
   case measure => omega
   case rel => exact ⟨i + 1, by go_num, by omega, Nat.le_refl _, by rw [HE.out], HWZ⟩
  ·obtain rfl : i = x.sg.length := by omega
   have HE := qh (show Un.priceT x B role bar x.sg.length = r by rw [Un.priceT_end]; exact HR.out)
   go_wp2_with fail
   go_ret
   exact ⟨by rw [← HE.out]; rfl, HW.out.bel⟩
end Go.Proofs.YtbhgogiaaljclaaGreatDoor

namespace Go.Proofs.YtbhgogiaaljclaaGreatDoor
open Go.RowKit Go.Shelf
namespace Un
structure WH (w : World) (x : Ex.Wk) (p : Ex.Wa) (W : World) : Prop where
 bel : Below w.heap.size w W
 wk : ∀ j, W.cell? ⟨w.heap.size, j, none⟩ = (wkC x p)[j]?
 z : w.heap.size < W.heap.size
theorem WH.then {w W W' : World} {x : Ex.Wk} {p : Ex.Wa} (h : WH w x p W) (hb : Below W.heap.size W W') : WH w x p W' := by
 have hz := h.z
 exact ⟨h.bel.trans (hb.mono h.bel.size), fun j => (World.cell?_of_block (hb.block w.heap.size omg)).trans (h.wk j), Nat.lt_of_lt_of_le hz hb.size⟩
end Un
theorem ru_Ready_e (x : Ex.Wk) (p : Ex.Wa) (w : World) (ha : Ex.At w x p) (bs : List Un.Bd) (a : Option Addr) (c : Nat) (hS : Tp.Sl w a bs.length 17 (Un.bdF bs)) (hl : bs.length ≤ 4611686018427387904) (hns : ∀ b ∈ bs, b.name.size ≤ 9223372036854775807)
  (cast : List Int) (ac : Option Addr) (cc : Nat) (hC : Tp.Sl w ac cast.length 1 (Un.ic cast)) (hcl : cast.length ≤ 1000000000) (hcc : cast.length ≤ cc) (role bar : Int) (hE : Un.readyE x bs cast role bar ≠ 0) :
  Calls Tryz.prog 17 #[Ex.workV x p, .slice a bs.length c, .slice ac cast.length cc, .int .i64 role, .int .i64 bar] w fun e w' => e = .returned (.tuple #[.slice none 0 0, .int .i64 (Un.readyE x bs cast role bar)]) ∧ Below w.heap.size w w' := by
 have HCK := qh (fun W (hb : Below w.heap.size w W) => rq_check19 x p W (ha.kept hb nlr))
 have HWI := qh (fun W => ru_within x p role bar W ha.lro)
 have HBD := qh (fun W (hb : Below w.heap.size w W) => ru_bad bs a c W (hS.kept hb nlr) hl hns)
 have HCA := qh (fun W (hb : Below w.heap.size w W) (h1 : x.ro.length ≤ 1000000000) (h2 : bs.length ≤ 1000000000) => ru_cast x.ro.length bs.length cast ac cc W (hC.kept hb nlr) hcl h1 h2 hcc)
 dsimp only [Ex.workV, Ex.wv] at HCK HWI
 obtain ⟨r, hr⟩ : ∃ r, Un.readyE x bs cast role bar = r := ⟨_, rfl⟩
 rw [hr] at hE ⊢
 have HR := qh hr
 have HGD := qh (show Ex.chk x = 0 → Ex.Good x from Ex.good_of)
 obtain ⟨k0, hk0⟩ : ∃ c, Ex.chk x = c := ⟨_, rfl⟩
 obtain ⟨k1, hk1⟩ : ∃ c, Un.chkB bs = c := ⟨_, rfl⟩
 obtain ⟨k2, hk2⟩ : ∃ c, (decide (cast.length = x.ro.length) && Un.okCast bs.length [] cast) = c := ⟨_, rfl⟩
 obtain ⟨k3, hk3⟩ : ∃ c, Un.within x role bar = c := ⟨_, rfl⟩
 have HRE := qh (show r = if k0 ≠ 0 then k0 else if 16 < bs.length then 2 else if k1 ≠ 0 then k1 else if k2 = false then 480 else if k3 = false then 1 else 0 by
  rw [← hr, ← hk0, ← hk1, ← hk2, ← hk3]
  unfold Un.readyE Un.chkB
  by_cases h0 : Ex.chk x ≠ 0
  ·rw [if_pos h0, if_pos h0]
  ·rw [if_neg h0, if_neg h0]
   by_cases h1 : 16 < bs.length
   ·rw [if_pos h1, if_pos h1]
   ·rw [if_neg h1, if_neg h1]
    cases h2 : bs.all Un.bok
    ·simp
    ·cases h3 : Un.okCast bs.length [] cast
     ·simp
     ·by_cases h4 : cast.length = x.ro.length <;> simp [h4])
 rw [hk0] at HCK HGD
 rw [hk1] at HBD
 rw [hk2] at HCA
 rw [hk3] at HWI
 clear hr hk0 hk1 hk2 hk3 ha hS hC hns
 go_enter Tryz.func17, Tryz.ntmps17
 go_upto_region 1 with fail
 refine Kit.wp_name ?_
 intro W1 hW1
 have HW1 := qh (show Un.WH w x p W1 by
  rw [hW1]
  exact ⟨by exact Kit.gr, fun j => by simp [go_sem], by simp⟩)
 clear hW1
 have wk1 := HW1.out.wk
 go_wp2_with fail
 refine (HCK.out _ HW1.out.bel).mono ?_
 rintro _ W2 ⟨rfl, hb⟩
 have HW2 := qh (HW1.out.then hb)
 clear hb HW1 wk1
 by_cases h0 : k0 = 0
 case neg =>
  have c1 : (k0 != 0) = true := by simpa using h0
  have HE := qh (show r = k0 by rw [HRE.out, if_pos h0])
  clear h0
  go_wp2_with fail
  go_ret2
  exact ⟨by rw [HE.out]; rfl, HW2.out.bel⟩
 subst h0
 have hg := HGD.out rfl
 have hro := hg.roles
 clear hg
 by_cases h16 : 16 < bs.length
 case pos =>
  have d1 : decide ((16 : Int) < (bs.length : Int)) = true := by simp; omega
  have d2 : decide (16 < bs.length) = true := by simpa using h16
  have HE := qh (show r = 2 by rw [HRE.out, if_neg (by simp), if_pos h16])
  clear h16
  go_wp2_with fail
  go_ret2
  exact ⟨by rw [HE.out]; rfl, HW2.out.bel⟩
 have d1 : decide ((16 : Int) < (bs.length : Int)) = false := by simp; omega
 have d2 : decide (16 < bs.length) = false := by simpa using h16
 go_wp2_with fail
 refine (HBD.out _ HW2.out.bel).mono ?_
 rintro _ W3 ⟨rfl, hb⟩
 have HW3 := qh (HW2.out.then hb)
 clear hb HW2
 by_cases h1 : k1 = 0
 case neg =>
  have c1 : (k1 != 0) = true := by simpa using h1
  have HE := qh (show r = k1 by rw [HRE.out, if_neg (by simp), if_neg h16, if_pos h1])
  clear h1
  go_wp2_with fail
  go_ret2
  exact ⟨by rw [HE.out]; rfl, HW3.out.bel⟩
 subst h1
 have wk3 := HW3.out.wk
 go_wp2_with fail
 refine (HCA.out _ HW3.out.bel omg omg).mono ?_
 rintro _ W4 ⟨rfl, hb⟩
 have HW4 := qh (HW3.out.then hb)
 clear hb HW3 wk3
 rcases k2 with _ | _
 ·have HE := qh (show r = 480 by rw [HRE.out, if_neg (by simp), if_neg h16, if_neg (by simp), if_pos rfl])
  go_wp2_with fail
  go_ret2
  exact ⟨by rw [HE.out]; rfl, HW4.out.bel⟩
 have wk4 := HW4.out.wk
 go_wp2_with fail
 refine (HWI.out _).mono ?_
 rintro _ W5 ⟨rfl, hb⟩
 have HW5 := qh (HW4.out.then hb)
 clear hb HW4 wk4
 rcases k3 with _ | _
 ·have HE := qh (show r = 1 by rw [HRE.out, if_neg (by simp), if_neg h16, if_neg (by simp), if_neg (by simp), if_pos rfl])
  go_wp2_with fail
  go_ret2
  exact ⟨by rw [HE.out]; rfl, HW5.out.bel⟩
 exact absurd (show r = 0 by rw [HRE.out, if_neg (by simp), if_neg h16, if_neg (by simp), if_neg (by simp), if_neg (by simp)]) hE
end Go.Proofs.YtbhgogiaaljclaaGreatDoor
