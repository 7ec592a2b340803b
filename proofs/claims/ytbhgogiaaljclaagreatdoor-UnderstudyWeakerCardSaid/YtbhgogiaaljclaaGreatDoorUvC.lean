/- Walks: package body: All (whatever caps), Meet. -/
import Derived.Test.YtbhgogiaaljclaaGreatDoorUvB
import Derived.Test.YtbhgogiaaljclaaGreatDoorUuA
namespace Go.Proofs.YtbhgogiaaljclaaGreatDoor
set_option linter.unusedVariables false
set_option linter.unusedSimpArgs false
open Go.RowKit
namespace Un
/-- A cap: kind, limb, number. -/
abbrev Cp := Int × Int × Int
def cpN (c : Cp) : Nat → Int
  | 0 => c.1
  | 1 => c.2.1
  | _ => c.2.2
def cpF (l : List Cp) (i j : Nat) : Value := .int .i64 (cpN (l.getD i (0, 0, 0)) j)
def vldC (c : Cp) : Bool := vld c.1 c.2.1 c.2.2
def lowC (b : Bd) (c : Cp) : Bd := low b c.1 c.2.1 c.2.2
def zB : Bd := ⟨⟨#[]⟩, 0, 0, 0, 0, 0, 0, 0, 0, 0, 0, 0, 0, 0, 0, 0, 0⟩
def allE (b : Bd) (l : List Cp) : Int := if bok b = false then 250 else if 64 < l.length then 2 else if l.all vldC = false then 1 else 0
def allB (b : Bd) (l : List Cp) : Bd := if allE b l = 0 then l.foldl lowC b else zB
theorem ret_row2 {P : Program} {fn : Func} {R : Ending → World → Prop} {a : Act} {w : World} {s s2 b o : Nat} {ty : TypeId} {cs : Array Value} {d : TypeDesc} {v2 : Value} (hf : fn.results = #[.cell s ty, .tmp s2]) (hs : a.tmps[s]? = some (.pointer (some ⟨b, o, none⟩))) (hd : a.defers = [])
    (hc : w.rangeAt b o cs.toList) (hu : P.underlying ty = some d) (hrow : d.isRow = true) (hi : (P.info? ty).map (·.size) = some cs.size) (h2 : a.tmps.getD s2 undef = v2) (hR : R (.returned (.tuple #[.agg cs, v2])) w) : bodyPost P fn R .ret a w := by
  refine bodyPost_ret (v := .tuple #[.agg cs, v2]) ?_ hd hR
  have hl := run_loadVar_mid (P := P) w b o ty cs.toList d hc hu hrow (by simpa using hi)
  have h2' : a.tmps[s2]?.getD undef = v2 := by simpa [Array.getD_eq_getD_getElem?] using h2
  have hl' : (loadVar ty ⟨b, o, none⟩).run P w = .ok (.agg cs) w := by simpa using hl
  unfold results
  simp [hf, hs, asAddr, h2', hl']
theorem fd0 (i : Nat) (h : i < 6) : ∀ W, (Instr.field 157 (.agg (ruL i).toArray) 0).run Tryz.prog W = .ok (.func (.func (rF i)) #[] #[]) W := fun W => by
  rcases six h with rfl | rfl | rfl | rfl | rfl | rfl <;> kernel_rfl
theorem rl_all (b : Bd) (i j : Nat) (v : Value) : (bdA b).toList[j]? = some v → j < 17 := fun h => (List.getElem?_eq_some_iff.1 h).1
theorem take_all {l : List Cp} {i : Nat} (h : i < l.length) (hp : (l.take i).all vldC = true) (hv : vldC (l.getD i (0, 0, 0)) = true) : (l.take (i + 1)).all vldC = true := by
  rw [List.take_succ_eq_append_getElem h, List.all_append, hp]
  have : l.getD i (0, 0, 0) = l[i] := by simp [List.getD, h]
  rw [this] at hv
  simp [hv]
theorem take_fold {l : List Cp} {i : Nat} (h : i < l.length) (b : Bd) : (l.take (i + 1)).foldl lowC b = lowC ((l.take i).foldl lowC b) (l.getD i (0, 0, 0)) := by
  rw [List.take_succ_eq_append_getElem h, List.foldl_append]
  have : l.getD i (0, 0, 0) = l[i] := by simp [List.getD, h]
  rw [this]; rfl
theorem not_all {l : List Cp} {i : Nat} (h : i < l.length) (hv : vldC (l.getD i (0, 0, 0)) = false) : l.all vldC = false := by
  rw [← Bool.not_eq_true, List.all_eq_true]
  intro hh
  have e : l.getD i (0, 0, 0) = l[i] := by simp [List.getD, h]
  rw [e, hh _ (List.getElem_mem h)] at hv
  cases hv
theorem set_row {w : World} {b : Nat} {B : Bd} (h : w.rangeAt b 0 (bdA B).toList) (ht : w.there b 0 17) (p : Nat) (v : Int) (h0 : 0 < p) (hp : p < 17) : (w.setCell ⟨b, p, none⟩ (.int .i64 v)).rangeAt b 0 (bdA (setB B p v)).toList := fun j u hj => by
  rw [← setB_cells B p v h0 hp] at hj
  have h17 : (bdA B).size = 17 := rfl
  have hj17 : j < 17 := by have := (List.getElem?_eq_some_iff.1 hj).1; simpa [h17] using this
  rw [Nat.zero_add]
  rw [Kit.cell_set]
  by_cases e : j = p
  · subst e
    obtain ⟨h1, h2⟩ := ht j hj17
    rw [Nat.zero_add] at h1 h2
    rw [if_pos rfl]
    obtain ⟨u', hu'⟩ := Option.isSome_iff_exists.1 h1
    rw [hu', Option.map_some]
    rw [Array.toList_setIfInBounds, List.getElem?_set_self (by simpa [h17] using hj17)] at hj
    exact hj
  · rw [if_neg (by intro h; injection h with h1 h2; omega)]
    rw [Array.toList_setIfInBounds, List.getElem?_set_ne (Ne.symm e)] at hj
    have := h j u hj
    rwa [Nat.zero_add] at this
theorem set_there {w : World} {b b' o n : Nat} (h : w.there b o n) (p : Nat) (v : Value) : (w.setCell ⟨b', p, none⟩ v).there b o n := by
  exact World.there_setCells (vs := [v]) h b' p
end Un
set_option maxRecDepth 100000 in
set_option maxHeartbeats 8000000 in
theorem bd_all (B : Un.Bd) (l : List Un.Cp) (a : Option Addr) (c : Nat) (w : World) (hS : Tp.Sl w a l.length 3 (Un.cpF l)) (hn : B.name.size ≤ 9223372036854775807) (hl : l.length ≤ 4611686018427387904) :
    Calls Tryz.prog 53 #[.agg (Un.bdA B), .slice a l.length c] w fun e w' => e = .returned (.tuple #[.agg (Un.bdA (Un.allB B l)), .int .i64 (Un.allE B l)]) ∧ Below w.heap.size w w' := by
  have HI := Lib.hid (show (Tryz.prog.info? 36).map (·.size) = some (Un.bdA B).toList.length by kernel_rfl)
  have HI2 := Lib.hid (show (Tryz.prog.info? 36).map (·.size) = some (Un.bdA B).size by kernel_rfl)
  have HIz := Lib.hid (show (Tryz.prog.info? 36).map (·.size) = some (Un.bdA Un.zB).toList.length by kernel_rfl)
  have HIz2 := Lib.hid (show (Tryz.prog.info? 36).map (·.size) = some (Un.bdA Un.zB).size by kernel_rfl)
  have HIc := Lib.hid (show (Tryz.prog.info? 153).map (·.size) = some (Un.bdA B).size by kernel_rfl)
  have HS := Lib.hid hS
  clear hS
  obtain ⟨e, he_⟩ : ∃ e, Un.allE B l = e := ⟨_, rfl⟩
  obtain ⟨D, hD_⟩ : ∃ D, Un.allB B l = D := ⟨_, rfl⟩
  rw [he_, hD_]
  have HE_ := Lib.hid he_
  have HD_ := Lib.hid hD_
  clear he_ hD_
  go_enter Tryz.func53, Tryz.ntmps53
  go_upto_region 1 with fail
  refine Kit.wp_name ?_
  intro W1 hW1
  have hb1 : Below w.heap.size w W1 := by rw [hW1]; exact ((Below.refl _ _).alloc (Nat.le_refl _) _).alloc (by simp) _
  have hz1 : w.heap.size + 1 < W1.heap.size := by rw [hW1]; simp
  have hP : W1.rangeAt w.heap.size 0 (Un.bdA B).toList := by
    rw [hW1]; exact Kit.range_kept (Kit.range_alloc w _ _) ((Below.refl _ _).alloc (Nat.le_refl _) _) (by simp)
  have hQ : W1.rangeAt (w.heap.size + 1) 0 (Un.bdA Un.zB).toList := by
    have := Kit.range_alloc (w.alloc (.cells (Un.bdA B) 36)) (Un.bdA Un.zB) 36
    rw [World.size_alloc] at this
    rw [hW1]; exact this
  have hT : W1.there (w.heap.size + 1) 0 (Un.bdA Un.zB).size := by
    have := Kit.there_alloc (w.alloc (.cells (Un.bdA B) 36)) 36 (Un.bdA Un.zB)
    rw [World.size_alloc] at this
    rw [hW1]; exact this
  have HP := Lib.hid hP
  clear hW1 hP
  go_wp2_with ((with_reducible refine wpList_load_mid ?_ 36 (.tmp 2) ?_ (w.heap.size) 0 ?_ (Un.bdA B).toList _ HP.out Tryz.underlying36 rfl HI.out ?_); rfl; rfl; rfl)
  refine (bd_check B _ hn).mono ?_
  rintro _ w2 ⟨rfl, hb2⟩
  have HB2 := Lib.hid (hb1.trans (hb2.mono hb1.size))
  have HP2 := Lib.hid (Kit.range_kept HP.out hb2 (by omega))
  have HQ2 := Lib.hid (Kit.range_kept hQ hb2 (by omega))
  have HT2 := Lib.hid (Un.there_kept hT hb2 (by omega))
  have hz2 : w.heap.size + 1 < w2.heap.size := Nat.lt_of_lt_of_le hz1 hb2.size
  clear hb1 hb2 hQ hT HP hz1
  rcases hbk : Un.bok B with _ | _
  · have HE := Lib.hid (show e = 250 ∧ D = Un.zB by
      have h : e = 250 := by rw [← HE_.out]; unfold Un.allE; rw [if_pos hbk]
      refine ⟨h, ?_⟩
      rw [← HD_.out]; unfold Un.allB
      rw [if_neg (by rw [HE_.out, h]; decide)])
    clear hbk
    go_wp2_with (first | ((with_reducible refine wpList_load_mid ?_ 36 (.tmp 4) ?_ (w.heap.size + 1) 0 ?_ (Un.bdA Un.zB).toList _ HQ2.out Tryz.underlying36 rfl HIz.out ?_); rfl; rfl; rfl) | ((with_reducible refine Kit.wpList_store_at (ty := 36) (x := .tmp 4) (y := .tmp 14) (p := ⟨w.heap.size + 1, 0, none⟩) (b := w.heap.size + 1) (o := 0) (cells := Un.bdA Un.zB) ?_ ?_ ?_ rfl ?_ HT2.out HIz2.out (Un.bdA_one _) ?_); rfl; rfl; rfl; rfl; refine Un.wpList_name ?_; intro X hX; have HX := Lib.hid hX; clear hX))
    refine Un.ret_row2 (s := 4) (s2 := 5) (b := w.heap.size + 1) (o := 0) (cs := Un.bdA Un.zB) rfl rfl rfl (by rw [HX.out]; exact World.rangeAt_setCells_same _ _ _ _ HT2.out) Tryz.underlying36 rfl HIz2.out rfl ?_
    exact ⟨by rw [HE.out.1, HE.out.2]; rfl, by rw [HX.out]; exact Un.below_setCells (by omega) _ _ HB2.out⟩
  have hbk2 : (if true = true then (0 : Int) else 250) = 0 := rfl
  rw [hbk2]
  clear hbk2
  have HBK := Lib.hid hbk
  clear hbk
  by_cases h64 : 64 < l.length
  · have d64 : decide ((64 : Int) < (l.length : Int)) = true := by simp; omega
    have HE := Lib.hid (show e = 2 ∧ D = Un.zB by
      have h : e = 2 := by rw [← HE_.out]; unfold Un.allE; rw [if_neg (by rw [HBK.out]; decide), if_pos h64]
      refine ⟨h, ?_⟩
      rw [← HD_.out]; unfold Un.allB
      rw [if_neg (by rw [HE_.out, h]; decide)])
    clear h64
    go_wp2_with (first | ((with_reducible refine wpList_load_mid ?_ 36 (.tmp 4) ?_ (w.heap.size + 1) 0 ?_ (Un.bdA Un.zB).toList _ HQ2.out Tryz.underlying36 rfl HIz.out ?_); rfl; rfl; rfl) | ((with_reducible refine Kit.wpList_store_at (ty := 36) (x := .tmp 4) (y := .tmp 19) (p := ⟨w.heap.size + 1, 0, none⟩) (b := w.heap.size + 1) (o := 0) (cells := Un.bdA Un.zB) ?_ ?_ ?_ rfl ?_ HT2.out HIz2.out (Un.bdA_one _) ?_); rfl; rfl; rfl; rfl; refine Un.wpList_name ?_; intro X hX; have HX := Lib.hid hX; clear hX))
    refine Un.ret_row2 (s := 4) (s2 := 5) (b := w.heap.size + 1) (o := 0) (cs := Un.bdA Un.zB) rfl rfl rfl (by rw [HX.out]; exact World.rangeAt_setCells_same _ _ _ _ HT2.out) Tryz.underlying36 rfl HIz2.out rfl ?_
    exact ⟨by rw [HE.out.1, HE.out.2]; rfl, by rw [HX.out]; exact Un.below_setCells (by omega) _ _ HB2.out⟩
  have d64 : decide ((64 : Int) < (l.length : Int)) = false := by simp; omega
  have HEV := Lib.hid (show l.all Un.vldC = false → e = 1 ∧ D = Un.zB from fun hv => by
    have h : e = 1 := by rw [← HE_.out]; unfold Un.allE; rw [if_neg (by rw [HBK.out]; decide), if_neg h64, if_pos hv]
    refine ⟨h, ?_⟩
    rw [← HD_.out]; unfold Un.allB
    rw [if_neg (by rw [HE_.out, h]; decide)])
  have HEG := Lib.hid (show l.all Un.vldC = true → e = 0 ∧ D = l.foldl Un.lowC B from fun hv => by
    have h : e = 0 := by rw [← HE_.out]; unfold Un.allE; rw [if_neg (by rw [HBK.out]; decide), if_neg h64, if_neg (by rw [hv]; decide)]
    refine ⟨h, ?_⟩
    rw [← HD_.out]; unfold Un.allB
    rw [if_pos (by rw [HE_.out, h])])
  clear HE_ HD_ HBK
  have hfold : Array.foldl (fun cs x => cs.setIfInBounds x.snd x.fst) Un.bdZ (Un.bdA B).zipIdx 0 17 = Un.bdA B := by kernel_rfl
  unfold Un.bdZ at hfold
  have hs17 : (Un.bdA B).size = 17 := rfl
  go_upto_region 7 with (first | ((with_reducible refine wpList_load_mid ?_ 36 (.tmp 2) ?_ (w.heap.size) 0 ?_ (Un.bdA B).toList _ HP2.out Tryz.underlying36 rfl HI.out ?_); rfl; rfl; rfl) | ((with_reducible refine Kit.wpList_store_fresh (x := .tmp 6) (y := .tmp 21) (b := w2.heap.size) (cells := Un.bdA B) ?_ ?_ ?_ ?_ ?_ ?_ HIc.out (Un.bdA_one B) ?_); rfl; rfl; rfl; rfl; rfl; rfl))
  refine Kit.wp_name ?_
  intro W3 hW3
  have hb3 : Below w2.heap.size w2 W3 := by rw [hW3]; exact (Below.refl _ _).alloc (Nat.le_refl _) _
  have hrL : W3.rangeAt w2.heap.size 0 (Un.bdA B).toList := by rw [hW3]; exact Kit.range_alloc w2 _ _
  have htL : W3.there w2.heap.size 0 17 := by
    have := Kit.there_alloc w2 153 (Un.bdA B)
    rw [hW3]; exact this
  have hz3 : w2.heap.size < W3.heap.size := by rw [hW3]; simp
  have HQ3 := Lib.hid (Kit.range_kept HQ2.out hb3 (by omega))
  have HT3 := Lib.hid (Un.there_kept HT2.out hb3 (by omega))
  have HB3 := Lib.hid (HB2.out.trans (hb3.mono HB2.out.size))
  obtain ⟨L, hL⟩ : ∃ L, L = w2.heap.size := ⟨_, rfl⟩
  rw [← hL] at hrL htL hz3 ⊢
  have HzL := Lib.hid (show w.heap.size + 1 < L ∧ L < W3.heap.size by omega)
  have HrL := Lib.hid hrL
  have HtL := Lib.hid htL
  clear hW3 hb3 hrL htL hz3 hz2 hL HQ2 HT2 HB2 HP2 hfold hs17
  go_wp2_with fail
  go_loopg [24] l.length (fun kx v24 wr => ∃ i : Nat, v24 = .int .i64 i ∧ i ≤ l.length ∧ l.length - i ≤ kx ∧ Hid ((l.take i).all Un.vldC = true) ∧ Hid (wr.rangeAt L 0 (Un.bdA ((l.take i).foldl Un.lowC B)).toList) ∧ Hid (wr.there L 0 17) ∧ Hid (wr.rangeAt (w.heap.size + 1) 0 (Un.bdA Un.zB).toList) ∧ Hid (wr.there (w.heap.size + 1) 0 (Un.bdA Un.zB).size) ∧ Hid (Below w.heap.size w wr) ∧ Hid (L < wr.heap.size))
  case atStart => exact ⟨0, rfl, by omega, by omega, Lib.hid rfl, HrL, HtL, HQ3, HT3, HB3, Lib.hid HzL.out.2⟩
  case round =>
    obtain ⟨i, rfl, hi, hk, HV, HR, HT, HQ, HTQ, HB, HZ⟩ := hrel
    by_cases hlt : i < l.length
    · have hltz : (i : Int) < (l.length : Int) := by omega
      obtain ⟨ad, rfl, had, _⟩ := HS.out.at hlt
      have e0 := (HS.out.kept HB.out (Nat.le_refl _)).head hlt (by omega)
      have e1 := (HS.out.kept HB.out (Nat.le_refl _)).field hlt (j := 1) (by omega) (by omega)
      have e2 := (HS.out.kept HB.out (Nat.le_refl _)).field hlt (j := 2) (by omega) (by omega)
      unfold Un.cpF at e0 e1 e2
      obtain ⟨cp, hcp⟩ : ∃ cp, l.getD i (0, 0, 0) = cp := ⟨_, rfl⟩
      rw [hcp] at e0 e1 e2
      obtain ⟨k, lb, n⟩ := cp
      replace e0 : _ = some (Value.int .i64 k) := e0
      replace e1 : _ = some (Value.int .i64 lb) := e1
      replace e2 : _ = some (Value.int .i64 n) := e2
      have HCP := Lib.hid hcp
      clear hcp
      obtain ⟨bv, hbv⟩ : ∃ bv, Un.vld k lb n = bv := ⟨_, rfl⟩
      have HVC := Lib.hid (fun W => (hbv ▸ bd_valid k lb n W : Calls Tryz.prog 95 #[.agg #[.int .i64 k, .int .i64 lb, .int .i64 n]] W fun e w' => e = .returned (.bool bv) ∧ Below W.heap.size W w'))
      have HBV := Lib.hid hbv
      clear hbv
      have hzb := HB.out.size
      have hzl := HZ.out
      go_wp2_with fail
      refine (HVC.out _).mono ?_
      rintro _ W4 ⟨rfl, hb4⟩
      have k0 : W4.cell? ⟨wr.heap.size, 0, none⟩ = some (.int .i64 k) := (hb4.cell (by simp)).trans (by simp [go_sem])
      have k1 : W4.cell? ⟨wr.heap.size, 1, none⟩ = some (.int .i64 lb) := (hb4.cell (by simp)).trans (by simp [go_sem])
      have k2 : W4.cell? ⟨wr.heap.size, 2, none⟩ = some (.int .i64 n) := (hb4.cell (by simp)).trans (by simp [go_sem])
      have hc4 : wr.heap.size < W4.heap.size := by have := hb4.size; simp at this; omega
      have hb4' : Below wr.heap.size wr W4 := Below.trans (B := wr.heap.size) (by (repeat' first | (with_reducible first | exact Below.refl _ _ | assumption | refine Kit.below_drewN ?_ _ | refine Below.drew ?_ | refine Below.alloc ?_ ?_ _ | refine Below.setCell ?_ ?_ _ | exact Nat.le_refl _) | omega | (simp; omega) | (simp; done) | (apply Below.size; assumption))) (hb4.mono (by simp))
      clear hb4 e0 e1 e2
      have HR4 := Lib.hid (Kit.range_kept HR.out hb4' hzl)
      have HT4 := Lib.hid (Un.there_kept HT.out hb4' hzl)
      have HQ4 := Lib.hid (Kit.range_kept HQ.out hb4' (by have := HzL.out.1; omega))
      have HTQ4 := Lib.hid (Un.there_kept HTQ.out hb4' (by have := HzL.out.1; omega))
      have HB4 := Lib.hid (HB.out.trans (hb4'.mono HB.out.size))
      have HZ4 := Lib.hid (Nat.lt_of_lt_of_le hzl hb4'.size)
      clear hb4' hzl HR HT HQ HTQ HZ HB HVC
      rcases bv with _ | _
      · have HE := Lib.hid (HEV.out (Un.not_all hlt (by rw [HCP.out]; exact HBV.out)))
        go_wp2_with (first | ((with_reducible refine wpList_load_mid ?_ 36 (.tmp 4) ?_ (w.heap.size + 1) 0 ?_ (Un.bdA Un.zB).toList _ HQ4.out Tryz.underlying36 rfl HIz.out ?_); rfl; rfl; rfl) | ((with_reducible refine Kit.wpList_store_at (ty := 36) (x := .tmp 4) (y := .tmp 31) (p := ⟨w.heap.size + 1, 0, none⟩) (b := w.heap.size + 1) (o := 0) (cells := Un.bdA Un.zB) ?_ ?_ ?_ rfl ?_ HTQ4.out HIz2.out (Un.bdA_one _) ?_); rfl; rfl; rfl; rfl; refine Un.wpList_name ?_; intro X hX; have HX := Lib.hid hX; clear hX))
        refine Un.ret_row2 (s := 4) (s2 := 5) (b := w.heap.size + 1) (o := 0) (cs := Un.bdA Un.zB) rfl rfl rfl (by rw [HX.out]; exact World.rangeAt_setCells_same _ _ _ _ HTQ4.out) Tryz.underlying36 rfl HIz2.out rfl ?_
        exact ⟨by rw [HE.out.1, HE.out.2]; rfl, by rw [HX.out]; exact Un.below_setCells (by omega) _ _ HB4.out⟩
      have hvl := HBV.out
      obtain ⟨ii, jj, rfl, rfl, hii, hjj, _, _, hfl⟩ := Un.vld_cases hvl
      have hpos := Un.rule_pos ii jj hii hjj
      obtain ⟨pf, hpf⟩ : ∃ pf, pf = Un.rB ii + jj := ⟨_, rfl⟩
      rw [← hpf] at hpos hfl
      have HC := Lib.hid (fun W => (hpf ▸ Un.rule_calls ii jj L hii hjj W : Calls Tryz.prog (Un.rF ii) #[.pointer (some ⟨L, 0, none⟩), .int .i64 jj] W fun e w' => e = .returned (.pointer (some ⟨L, pf, none⟩)) ∧ w' = W))
      have HX := Lib.hid (Un.nix ii hii)
      have eF := Un.rule_enters ii hii
      have HFL := Lib.hid hfl
      have hp0 := hpos.1
      have hp17 := hpos.2.1
      clear hpf hfl hvl hpos
      obtain ⟨cur, hcur⟩ : ∃ cur, cur = (l.take i).foldl Un.lowC B := ⟨_, rfl⟩
      rw [← hcur] at HR4
      have HCU := Lib.hid hcur
      clear hcur
      go_wp2_with fail
      refine Kit.wp_region_vals 8 [([], none, true), ([(8, none)], none, true), ([(33, some 1)], none, true), ([(32, some 0), (34, some 2)], none, true), ([(35, some 3)], none, true), ([(8, none)], none, true), ([(37, some 5)], none, true), ([(36, some 4), (6, none), (38, some 6)], none, true)]
        [some 32, some 33, some 34, some 35, some 36, some 37, some 38, some 39] rfl (by kernel_rfl) (by kernel_rfl) (fun A B => Below A.heap.size A B) (fun q v w' => match q with
        | 0 => v = .agg Un.ruA
        | 1 => v = .pointer (some ⟨wr.heap.size, 0, none⟩)
        | 2 => v = .int .i64 ((ii : Int) + 1)
        | 3 => v = .agg (Un.ruL ii).toArray
        | 4 => v = .func (.func (Un.rF ii)) #[] #[]
        | 5 => v = .pointer (some ⟨wr.heap.size, 1, none⟩)
        | 6 => v = .int .i64 jj
        | _ => v = .pointer (some ⟨L, pf, none⟩)) (fun h k => h.trans (k.mono h.size)) (Below.drew (Below.refl _ _)) (fun _ => Below.refl _ _) (fun q v A B h1 h2 h3 => h3) ?_ ?_
      · simp only [List.take_succ_cons, List.take_zero, Kit.StepsV, Kit.VOp, Kit.RdP, true_and, if_true, and_true]
        refine ⟨?_, ?_, ?_, ?_, ?_, ?_, ?_, ?_⟩
        all_goals intro ev w1 hx hv hc hf hg
        · simp [execOp, hc, hf, go_sem, Kit.UponV]
          refine (bd_rules w1).mono ?_
          rintro e w' ⟨rfl, hb⟩
          exact ⟨_, rfl, rfl, hb⟩
        · simp at hv; simp [execOp, hv, hc, go_sem, Kit.UponV, Below.refl]
        · have so := (hx.cell (p := ⟨wr.heap.size, 0, none⟩) hc4).trans k0
          simp [execOp, hv, hc, so, go_sem, Kit.UponV, Below.refl]
        · obtain ⟨hv1, hv2⟩ := hv
          have hi2 := HX.out w1
          simp [execOp, hv1, hv2, hc, hi2, Kit.UponV, Below.refl]
        · have hi2 := Un.fd0 ii hii w1
          simp [execOp, hv, hc, hi2, Kit.UponV, Below.refl]
        · simp at hv; simp [execOp, hv, hc, go_sem, Kit.UponV, Below.refl]
        · have so := (hx.cell (p := ⟨wr.heap.size, 1, none⟩) hc4).trans k1
          simp [execOp, hv, hc, so, go_sem, Kit.UponV, Below.refl]
        · obtain ⟨hv1, hv2, hv3⟩ := hv
          simp at hv2
          simp [execOp, hv1, hv2, hv3, hc, eF, go_sem, Kit.UponV]
          refine (HC.out w1).mono ?_
          rintro e w' ⟨rfl, rfl⟩
          exact ⟨_, rfl, rfl, Below.refl _ _⟩
      intro vs w5 hv hx
      have v7 : vs 7 = .pointer (some ⟨L, pf, none⟩) := hv 7 (by omega)
      clear hv
      simp only [Kit.putD, List.getD_cons_zero, List.getD_cons_succ, Act.put, v7, List.drop_succ_cons, List.drop_zero]
      have kL : w5.cell? ⟨L, pf, none⟩ = some (.int .i64 (Un.bdN cur pf)) := (hx.cell (p := ⟨L, pf, none⟩) HZ4.out).trans (Un.bd_cell HR4.out pf hp0 hp17)
      have k2' : w5.cell? ⟨wr.heap.size, 2, none⟩ = some (.int .i64 n) := (hx.cell (p := ⟨wr.heap.size, 2, none⟩) hc4).trans k2
      have HR5 := Lib.hid (Kit.range_kept HR4.out hx HZ4.out)
      have HT5 := Lib.hid (Un.there_kept HT4.out hx HZ4.out)
      have HQ5 := Lib.hid (Kit.range_kept HQ4.out hx (by have := HzL.out.1; have := HZ4.out; omega))
      have HTQ5 := Lib.hid (Un.there_kept HTQ4.out hx (by have := HzL.out.1; have := HZ4.out; omega))
      have HB5 := Lib.hid (HB4.out.trans (hx.mono HB4.out.size))
      have HZ5 := Lib.hid (Nat.lt_of_lt_of_le HZ4.out hx.size)
      have hc5 : wr.heap.size < w5.heap.size := Nat.lt_of_lt_of_le hc4 hx.size
      have fL : w5.frozen? ⟨L, pf, none⟩ = false := by have := (HT5.out pf hp17).2; rwa [Nat.zero_add] at this
      clear hx k0 k1 k2 HR4 HT4 HQ4 HTQ4 HB4 HZ4 hc4 HC HX eF v7
      generalize hxx : Un.bdN cur pf = xx at *
      have HXX := Lib.hid hxx
      clear hxx
      have hmn : (if n < xx then n else xx) = Un.mn xx n := rfl
      have HMN := Lib.hid hmn
      clear hmn
      have hzL5 := HZ5.out
      go_upto_region 13 with fail
      (refine Kit.wp_region_drew_tail 8 (by kernel_rfl) (by kernel_rfl) ?_; simp only [List.take_succ_cons, List.take_zero, List.drop_succ_cons, List.drop_zero]; (repeat (go_big_quiet_step (fail))); refine wpQuiet_nil ?_; intro _ hw'; obtain ⟨nq, hw''⟩ := hw'; subst hw'')
      have hb6 : Below w5.heap.size w5 (w5.drewN nq) := Kit.below_drewN (Below.refl _ _) nq
      have hz6 : (w5.drewN nq).heap.size = w5.heap.size := rfl
      have kL6 := (hb6.cell (p := ⟨L, pf, none⟩) HZ5.out).trans kL
      have fL6 := (hb6.frozen (p := ⟨L, pf, none⟩) HZ5.out).trans fL
      have HR6 := Lib.hid (Kit.range_kept HR5.out hb6 HZ5.out)
      have HT6 := Lib.hid (Un.there_kept HT5.out hb6 HZ5.out)
      have HQ6 := Lib.hid (Kit.range_kept HQ5.out hb6 (by have := HzL.out.1; have := HZ5.out; omega))
      have HTQ6 := Lib.hid (Un.there_kept HTQ5.out hb6 (by have := HzL.out.1; have := HZ5.out; omega))
      have HB6 := Lib.hid (HB5.out.trans (hb6.mono HB5.out.size))
      have HZ6 := Lib.hid (Nat.lt_of_lt_of_le HZ5.out hb6.size)
      clear hb6 hz6 kL k2' fL HR5 HT5 HQ5 HTQ5 HB5 HZ5 hzL5 hc5
      generalize w5.drewN nq = w6 at *
      have hmn : min xx n = Un.mn xx n := by unfold Un.mn; omega
      rw [hmn]
      clear hmn HMN
      have HRR := Lib.hid (Un.set_row HR6.out HT6.out pf (Un.mn xx n) hp0 hp17)
      have HNX := Lib.hid (show Un.setB cur pf (Un.mn xx n) = (l.take (i + 1)).foldl Un.lowC B by
        rw [Un.take_fold hlt, HCP.out, ← HCU.out]
        show _ = Un.low cur _ _ n
        unfold Un.low
        rw [HFL.out, HXX.out])
      generalize Un.mn xx n = mm at *
      have hzL6 := HZ6.out
      go_wp2_with fail
      go_roundg (l.length - (i + 1))
      case measure => omega
      case rel => exact ⟨i + 1, by go_num, by omega, Nat.le_refl _, Lib.hid (Un.take_all hlt HV.out (by rw [HCP.out]; exact HBV.out)), Lib.hid (by rw [← HNX.out]; exact HRR.out), Lib.hid (Un.set_there HT6.out _ _), Lib.hid (World.rangeAt_setCells_apart HQ6.out L pf [_] (.inl (by have := HzL.out.1; omega))), Lib.hid (Un.set_there HTQ6.out _ _), Lib.hid (HB6.out.setCell (by have := HzL.out.1; simp; omega) _), Lib.hid (by simpa using HZ6.out)⟩
    · obtain rfl : i = l.length := by omega
      have hv := HV.out
      have hr := HR.out
      rw [List.take_length] at hv hr
      have HE := Lib.hid (HEG.out hv)
      rw [← HE.out.2] at hr
      have HR2 := Lib.hid hr
      clear hv hr HR HV HEV HEG
      have hID := (show (Tryz.prog.info? 36).map (·.size) = some (Un.bdA D).toList.length by kernel_rfl)
      have HID := Lib.hid hID
      have HID2 := Lib.hid (show (Tryz.prog.info? 36).map (·.size) = some (Un.bdA D).size by kernel_rfl)
      have HTQ2 := Lib.hid (show wr.there (w.heap.size + 1) 0 (Un.bdA D).size from HTQ.out)
      clear hID
      go_wp2_with (first | ((with_reducible refine wpList_load_mid ?_ 36 (.tmp 49) ?_ (L) 0 ?_ (Un.bdA D).toList _ HR2.out Tryz.underlying36 rfl HID.out ?_); rfl; rfl; rfl) | ((with_reducible refine Kit.wpList_store_at (ty := 36) (x := .tmp 4) (y := .tmp 50) (p := ⟨w.heap.size + 1, 0, none⟩) (b := w.heap.size + 1) (o := 0) (cells := Un.bdA D) ?_ ?_ ?_ rfl ?_ HTQ2.out HID2.out (Un.bdA_one _) ?_); rfl; rfl; rfl; rfl; refine Un.wpList_name ?_; intro X hX; have HX := Lib.hid hX; clear hX))
      refine Un.ret_row2 (s := 4) (s2 := 5) (b := w.heap.size + 1) (o := 0) (cs := Un.bdA D) rfl rfl rfl (by rw [HX.out]; exact World.rangeAt_setCells_same _ _ _ _ HTQ2.out) Tryz.underlying36 rfl HID2.out rfl ?_
      exact ⟨by rw [HE.out.1]; rfl, by rw [HX.out]; exact Un.below_setCells (by omega) _ _ HB.out⟩
set_option maxRecDepth 100000 in
set_option maxHeartbeats 4000000 in
theorem bd_meet (B : Un.Bd) (k lb n : Int) (w : World) (hn : B.name.size ≤ 9223372036854775807) :
    Calls Tryz.prog 21 #[.agg (Un.bdA B), .agg #[.int .i64 k, .int .i64 lb, .int .i64 n]] w fun e w' => e = .returned (.tuple #[.agg (Un.bdA (Un.allB B [(k, lb, n)])), .int .i64 (Un.allE B [(k, lb, n)])]) ∧ Below w.heap.size w w' := by
  have HA := Lib.hid (fun W b (h : Tp.Sl W (some ⟨b, 0, none⟩) 1 3 (Un.cpF [(k, lb, n)])) => bd_all B [(k, lb, n)] (some ⟨b, 0, none⟩) 1 W h hn (by simp))
  generalize Un.allB B [(k, lb, n)] = D at *
  generalize Un.allE B [(k, lb, n)] = e at *
  have HI := Lib.hid (show (Tryz.prog.info? 36).map (·.size) = some (Un.bdA B).toList.length by kernel_rfl)
  have HID := Lib.hid (show (Tryz.prog.info? 36).map (·.size) = some (Un.bdA D).toList.length by kernel_rfl)
  have HID2 := Lib.hid (show (Tryz.prog.info? 36).map (·.size) = some (Un.bdA D).size by kernel_rfl)
  go_enter Tryz.func21, Tryz.ntmps21
  go_upto_region 1 with fail
  refine Kit.wp_name ?_
  intro W1 hW1
  have hb1 : Below w.heap.size w W1 := by rw [hW1]; (repeat' first | (with_reducible first | exact Below.refl _ _ | assumption | refine Kit.below_drewN ?_ _ | refine Below.drew ?_ | refine Below.alloc ?_ ?_ _ | refine Below.setCell ?_ ?_ _ | exact Nat.le_refl _) | omega | (simp; omega) | (simp; done) | (apply Below.size; assumption))
  have hz1 : w.heap.size + 2 < W1.heap.size := by rw [hW1]; simp
  have hP : W1.rangeAt w.heap.size 0 (Un.bdA B).toList := by
    rw [hW1]; exact Kit.range_kept (Kit.range_alloc w _ _) (((Below.refl _ _).alloc (Nat.le_refl _) _).alloc (by simp) _) (by simp)
  have hT : W1.there (w.heap.size + 1 + 1) 0 (Un.bdA D).size := by
    have := Kit.there_alloc ((w.alloc (.cells (Un.bdA B) 36)).alloc (.cells #[.int .i64 k, .int .i64 lb, .int .i64 n] 64)) 36 (Un.bdA Un.zB)
    rw [World.size_alloc, World.size_alloc] at this
    rw [hW1]; exact this
  have k0 : W1.cell? ⟨w.heap.size + 1, 0, none⟩ = some (.int .i64 k) := by rw [hW1]; simp [go_sem]
  have k1 : W1.cell? ⟨w.heap.size + 1, 1, none⟩ = some (.int .i64 lb) := by rw [hW1]; simp [go_sem]
  have k2 : W1.cell? ⟨w.heap.size + 1, 2, none⟩ = some (.int .i64 n) := by rw [hW1]; simp [go_sem]
  have HP := Lib.hid hP
  have HT := Lib.hid hT
  have HB := Lib.hid hb1
  clear hW1 hP hT hb1
  go_wp2_with ((with_reducible refine wpList_load_mid ?_ 36 (.tmp 2) ?_ (w.heap.size) 0 ?_ (Un.bdA B).toList _ HP.out Tryz.underlying36 rfl HI.out ?_); rfl; rfl; rfl)
  refine (HA.out _ _ ?sl).mono ?_
  case sl =>
    refine .inr ⟨_, rfl, by simp, fun i j hi hj => ?_⟩
    obtain rfl : i = 0 := by omega
    rcases (by omega : j = 0 ∨ j = 1 ∨ j = 2) with rfl | rfl | rfl <;> simp [go_sem, Un.cpF, Un.cpN]
  rintro _ W2 ⟨rfl, hb2⟩
  have hb2' : Below W1.heap.size W1 W2 := Below.trans (B := W1.heap.size) (by (repeat' first | (with_reducible first | exact Below.refl _ _ | assumption | refine Kit.below_drewN ?_ _ | refine Below.drew ?_ | refine Below.alloc ?_ ?_ _ | refine Below.setCell ?_ ?_ _ | exact Nat.le_refl _) | omega | (simp; omega) | (simp; done) | (apply Below.size; assumption))) (hb2.mono (by simp))
  have HT2 := Lib.hid (Un.there_kept HT.out hb2' (by omega))
  have HB2 := Lib.hid (HB.out.trans (hb2'.mono HB.out.size))
  clear hb2 hb2' k0 k1 k2 hz1 HP HT HB HA
  go_wp2_with ((with_reducible refine Kit.wpList_store_at (ty := 36) (x := .tmp 4) (y := .tmp 10) (p := ⟨w.heap.size + 1 + 1, 0, none⟩) (b := w.heap.size + 1 + 1) (o := 0) (cells := Un.bdA D) ?_ ?_ ?_ rfl ?_ HT2.out HID2.out (Un.bdA_one _) ?_); rfl; rfl; rfl; rfl; refine Un.wpList_name ?_; intro X hX; have HX := Lib.hid hX; clear hX)
  refine Un.ret_row2 (s := 4) (s2 := 5) (b := w.heap.size + 1 + 1) (o := 0) (cs := Un.bdA D) rfl rfl rfl (by rw [HX.out]; exact World.rangeAt_setCells_same _ _ _ _ HT2.out) Tryz.underlying36 rfl HID2.out rfl ?_
  exact ⟨rfl, by rw [HX.out]; exact Un.below_setCells (by omega) _ _ HB2.out⟩
end Go.Proofs.YtbhgogiaaljclaaGreatDoor
