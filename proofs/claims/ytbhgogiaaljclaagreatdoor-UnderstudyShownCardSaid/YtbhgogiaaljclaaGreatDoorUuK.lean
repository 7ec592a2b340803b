/- Walks: package understudy: Lifts. -/
import Derived.Test.YtbhgogiaaljclaaGreatDoorUuJ
set_option linter.unusedSimpArgs false
set_option linter.unusedVariables false
namespace Go.Proofs.YtbhgogiaaljclaaGreatDoor
open Go.RowKit
namespace Un
def liftsE (x : Ex.Wk) (bs : List Bd) (B : Bd) (role bar : Int) : Int :=
 if Ex.chk x ≠ 0 then Ex.chk x else if bs.length ≠ x.ro.length then 480 else firstE [chkB bs, chkB [B], if within x role bar = true then 0 else 1]
def liftsA (x : Ex.Wk) (bs : List Bd) (B : Bd) (role bar : Int) : Int × Bool × Int := if liftsE x bs B role bar = 0 then ((heavyR x bs B role bar).1, !(heavyR x bs B role bar).2, 0) else (0, false, liftsE x bs B role bar)
end Un
set_option maxRecDepth 100000 in
set_option maxHeartbeats 8000000 in
theorem un_lifts (x : Ex.Wk) (p : Ex.Wa) (w : World) (hL : Ex.Laid w) (ha : Ex.At w x p) (bs : List Un.Bd) (a : Option Addr) (c : Nat) (hS : Tp.Sl w a bs.length 17 (Un.bdF bs)) (hl : bs.length ≤ 4611686018427387904) (hns : ∀ b ∈ bs, b.name.size ≤ 9223372036854775807) (B : Un.Bd) (hn : B.name.size ≤ 9223372036854775807) (role bar : Int) :
  Calls Tryz.prog 14 #[Ex.workV x p, .slice a bs.length c, .agg (Un.bdA B), .int .i64 role, .int .i64 bar] w fun e w' => e = .returned (.tuple #[.int .i64 (Un.liftsA x bs B role bar).1, .bool (Un.liftsA x bs B role bar).2.1, .int .i64 (Un.liftsA x bs B role bar).2.2]) ∧ Below w.heap.size w w' := by
 obtain ⟨R, hR⟩ : ∃ R, Un.liftsA x bs B role bar = R := ⟨_, rfl⟩
 rw [hR]
 obtain ⟨c0, hc0⟩ : ∃ c0, Ex.chk x = c0 := ⟨_, rfl⟩
 obtain ⟨d0, hd0⟩ : ∃ c, Un.chkB bs = c := ⟨_, rfl⟩
 obtain ⟨d1, hd1⟩ : ∃ c, Un.chkB [B] = c := ⟨_, rfl⟩
 obtain ⟨d2, hd2⟩ : ∃ c, (if Un.within x role bar = true then (0 : Int) else 1) = c := ⟨_, rfl⟩
 obtain ⟨er, her⟩ : ∃ er, Un.firstE [d0, d1, d2] = er := ⟨_, rfl⟩
 have hE : Un.liftsE x bs B role bar = if c0 ≠ 0 then c0 else if bs.length ≠ x.ro.length then 480 else er := by unfold Un.liftsE; rw [hc0, hd0, hd1, hd2, her]
 have H0 := Lib.hid (fun W (hW : Below w.heap.size w W) => (by have h := ex_check x p W (ha.kept hW (Nat.le_refl _)) (hL.kept hW (Nat.le_refl _)); rwa [hc0] at h : Ex.Chk x p W c0))
 have HHV := Lib.hid (fun W (hW : Below w.heap.size w W) (hg : Ex.Good x) (hln : bs.length = x.ro.length) => un_heavy x p W (ha.kept hW (Nat.le_refl _)) hg bs a c (hS.kept hW (Nat.le_refl _)) hln B role bar)
 have HGD := Lib.hid (show c0 = 0 → Ex.Good x from fun h => Ex.good_of (hc0.trans h))
 have H1 := Lib.hid (fun W (hW : Below w.heap.size w W) => (by have h := un_checked bs a c W (hS.kept hW (Nat.le_refl _)) hl hns; rwa [hd0] at h : Calls Tryz.prog 31 #[.slice a bs.length c] W fun e w' => e = .returned (.int .i64 d0) ∧ Below W.heap.size W w'))
 have H2 := Lib.hid (fun W b (hb : W.heap[b]? = some (.cells (Un.bdA B) 36 (0, 0))) => (by have h := un_checked [B] (some ⟨b, 0, none⟩) 1 W (Un.sl_one hb) (by simp) (fun y hy => by simp at hy; rw [hy]; exact hn); rwa [hd1] at h : Calls Tryz.prog 31 #[.slice (some ⟨b, 0, none⟩) 1 1] W fun e w' => e = .returned (.int .i64 d1) ∧ Below W.heap.size W w'))
 have H4 := Lib.hid (fun W => (by have h := un_within x p role bar W ha.lro; rwa [hd2] at h : Calls Tryz.prog 30 #[Ex.workV x p, .int .i64 role, .int .i64 bar] W fun e w' => e = .returned (.int .i64 d2) ∧ Below W.heap.size W w'))
 have H3 := Lib.hid (fun W b (hx : W.heap[b]? = some (.cells #[.int .i64 d0, .int .i64 d1, .int .i64 d2] 39 (0, 0))) => (by
  have h := un_or b 3 [d0, d1, d2] W (by simp) (fun i hi => by
   rcases (by have : i < 3 := hi; omega : i = 0 ∨ i = 1 ∨ i = 2) with rfl | rfl | rfl <;> simp [World.cell?, hx])
  rwa [her] at h : Calls Tryz.prog 28 #[.slice (some ⟨b, 0, none⟩) 3 3] W fun e w' => e = .returned (.int .i64 er) ∧ w' = W))
 have HI := Lib.hid (show (Tryz.prog.info? 36).map (·.size) = some (Un.bdA B).toList.length by kernel_rfl)
 have HR := Lib.hid hR
 have HE := Lib.hid hE
 have hlro := ha.lro
 clear hL ha hS hns hn hc0 hd0 hd1 hd2 her hR hE
 dsimp only [Ex.Chk, Ex.workV, Ex.wv] at H0 H4
 have hfold : Array.foldl (fun cs x => cs.setIfInBounds x.snd x.fst) Un.bdZ (Un.bdA B).zipIdx 0 17 = Un.bdA B := by kernel_rfl
 unfold Un.bdZ at hfold
 have hs17 : (Un.bdA B).size = 17 := rfl
 go_enter Tryz.func14, Tryz.ntmps14
 go_wp2_with fail
 refine (H0.out _ (by exact Kit.gr)).mono ?_
 rintro _ w1 ⟨rfl, hb1⟩
 have HB1 := Lib.hid (show Below w.heap.size w w1 from Below.trans (B := w.heap.size) (by exact Kit.gr) (hb1.mono (by simp; omega)))
 have WK1 := Lib.hid (show ∀ j, w1.cell? ⟨w.heap.size, j, none⟩ = (Un.wkC x p)[j]? from fun j => by
  rw [World.cell?_of_block (hb1.block w.heap.size (by simp; omega))]
  simp [go_sem])
 have RB1 := Lib.hid (show w1.rangeAt (w.heap.size + 1) 0 (Un.bdA B).toList by
  have h := Kit.range_alloc (w.alloc (.cells (Un.wkC x p) 32)) (Un.bdA B) 36
  rw [World.size_alloc] at h
  exact Kit.range_kept h hb1 (by simp))
 have hz1 : w.heap.size + 1 < w1.heap.size := by have := hb1.size; simp at this; omega
 clear hb1
 by_cases h0 : c0 = 0
 ·have h0n : (c0 != 0) = false := by simp [h0]
  have HG := Lib.hid (HGD.out h0)
  have s5 := WK1.out 5
  simp at s5
  by_cases hln : bs.length = x.ro.length
  ·have HE2 := Lib.hid (show Un.liftsE x bs B role bar = er by rw [HE.out, if_neg (by simp [h0]), if_neg (by simp [hln])])
   have hlb : ((bs.length : Int) != (x.ro.length : Int)) = false := by simp [hln]
   have HLN := Lib.hid hln
   clear hln
   go_wp2_with fail
   refine Kit.wp_region_vals 12 [([(1, none)], none, true), ([(25, some 0)], none, true), ([(7, none)], none, true), ([(27, some 2)], none, true), ([(28, some 3)], none, true), ([(5, none)], none, true), ([(3, none)], none, true), ([(4, none)], none, true), ([(30, some 5), (31, some 6), (32, some 7)], none, true), ([(26, some 1), (29, some 4), (33, some 8)], none, true), ([(34, some 9)], none, true), ([(35, some 10)], none, true)]
    [some 25, some 26, some 27, some 28, some 29, some 30, some 31, some 32, some 33, some 34, some 35, some 12] rfl (by kernel_rfl) (by kernel_rfl) (fun A B => Below A.heap.size A B) (fun q v w' => match q with
    | 0 => v = .slice a bs.length c
    | 1 => v = .int .i64 d0
    | 2 => v = .agg (Un.bdA B)
    | 3 => ∃ b, v = .slice (some ⟨b, 0, none⟩) 1 1 ∧ w'.heap[b]? = some (.cells (Un.bdA B) 36 (0, 0))
    | 4 => v = .int .i64 d1
    | 5 => v = .agg (Un.wkC x p)
    | 6 => v = .int .i64 role
    | 7 => v = .int .i64 bar
    | 8 => v = .int .i64 d2
    | 9 => ∃ b, v = .slice (some ⟨b, 0, none⟩) 3 3 ∧ w'.heap[b]? = some (.cells #[.int .i64 d0, .int .i64 d1, .int .i64 d2] 39 (0, 0))
    | 10 => v = .int .i64 er
    | _ => v = .int .i64 er)
    (fun h k => h.trans (k.mono h.size)) (Below.drew (Below.refl _ _)) (fun _ => Below.refl _ _) ?_ ?_ ?_
   ·intro q v A C h1 h2 h3
    split at h3 <;> try exact h3
    ·obtain ⟨b, e, hb⟩ := h3
     exact ⟨b, e, (h2.block b (Array.getElem?_eq_some_iff.1 hb).1).trans hb⟩
    ·obtain ⟨b, e, hb⟩ := h3
     exact ⟨b, e, (h2.block b (Array.getElem?_eq_some_iff.1 hb).1).trans hb⟩
   ·simp only [List.take_succ_cons, List.take_zero, Kit.StepsV, Kit.VOp, Kit.RdP, true_and, if_true, and_true]
    refine ⟨?_, ?_, ?_, ?_, ?_, ?_, ?_, ?_, ?_, ?_, ?_, ?_⟩
    all_goals intro ev w' hx hv hc hf hg
    ·simp at hv; simp [execOp, hv, hc, go_sem, Kit.UponV, Below.refl]
    ·simp [execOp, hv, hc, hf, go_sem, Kit.UponV]
     refine (H1.out w' (HB1.out.trans (hx.mono HB1.out.size))).mono ?_
     rintro e w3 ⟨rfl, hb⟩
     exact ⟨_, rfl, rfl, hb⟩
    ·simp at hv
     simp only [execOp, hv, Instr.loadAt, Instr.sureAddr, Sem.run_bind, Sem.run_pure, Result.andThen_ok, run_loadVar_mid w' (w.heap.size + 1) 0 36 (Un.bdA B).toList _ (Kit.range_kept RB1.out hx (by omega)) Tryz.underlying36 rfl HI.out]
     simp [Kit.UponV, Below.refl]
    ·simp [execOp, hv, hc, hfold, hs17, go_sem, Kit.UponV]
     exact ⟨(Array.getElem?_eq_some_iff.1 (World.alloc_heap_new w' (.cells (Un.bdA B) 36))).2, (Below.refl _ _).alloc (Nat.le_refl _) _⟩
    ·obtain ⟨b, e, hb⟩ := hv
     simp [execOp, e, hc, hf, go_sem, Kit.UponV]
     refine (H2.out w' b hb).mono ?_
     rintro e w3 ⟨rfl, hb⟩
     exact ⟨_, rfl, rfl, hb⟩
    ·have so : ∀ j, w'.cell? ⟨w.heap.size, j, none⟩ = (Un.wkC x p)[j]? := fun j => (World.cell?_of_block (hx.block w.heap.size (by omega))).trans (WK1.out j)
     simp at hv
     simp [execOp, hv, hc, so, go_sem, Kit.UponV, Below.refl]
    ·simp at hv; simp [execOp, hv, hc, go_sem, Kit.UponV, Below.refl]
    ·simp at hv; simp [execOp, hv, hc, go_sem, Kit.UponV, Below.refl]
    ·obtain ⟨hv1, hv2, hv3⟩ := hv
     simp [execOp, hv1, hv2, hv3, hc, hf, go_sem, Kit.UponV]
     refine (H4.out w').mono ?_
     rintro e w3 ⟨rfl, hb⟩
     exact ⟨_, rfl, rfl, hb⟩
    ·obtain ⟨hv1, hv2, hv3⟩ := hv
     simp [execOp, hv1, hv2, hv3, hc, go_sem, Kit.UponV]
     exact ⟨(Array.getElem?_eq_some_iff.1 (World.alloc_heap_new w' (.cells #[.int .i64 d0, .int .i64 d1, .int .i64 d2] 39))).2, (Below.refl _ _).alloc (Nat.le_refl _) _⟩
    ·obtain ⟨b, e, hb⟩ := hv
     simp [execOp, e, hc, hf, go_sem, Kit.UponV]
     refine (H3.out w' b hb).mono ?_
     rintro e w3 ⟨rfl, rfl⟩
     exact ⟨_, rfl, rfl, Below.refl _ _⟩
    ·simp [execOp, hv, hc, go_sem, Kit.UponV, Below.refl]
   ·intro vs w2 hv hx
    have v11 : vs 11 = .int .i64 er := hv 11 (by omega)
    clear hv
    have wk2 : ∀ j, w2.cell? ⟨w.heap.size, j, none⟩ = (Un.wkC x p)[j]? := fun j => (World.cell?_of_block (hx.block w.heap.size (by omega))).trans (WK1.out j)
    have RB2 := Lib.hid (Kit.range_kept RB1.out hx (by omega))
    have HB2 := Lib.hid (HB1.out.trans (hx.mono HB1.out.size))
    clear hx s5
    simp only [Kit.putD, List.getD_cons_zero, List.getD_cons_succ, Act.put, v11, List.drop_succ_cons, List.drop_zero]
    generalize vs 0 = y0 at *
    generalize vs 1 = y1 at *
    generalize vs 2 = y2 at *
    generalize vs 3 = y3 at *
    generalize vs 4 = y4 at *
    generalize vs 5 = y5 at *
    generalize vs 6 = y6 at *
    generalize vs 7 = y7 at *
    generalize vs 8 = y8 at *
    generalize vs 9 = y9 at *
    generalize vs 10 = y10 at *
    clear v11 hfold hs17
    go_simp
    by_cases hr0 : er = 0
    ·have HRR := Lib.hid (show R = ((Un.heavyR x bs B role bar).1, !(Un.heavyR x bs B role bar).2, 0) by rw [← HR.out]; unfold Un.liftsA; rw [if_pos (by rw [HE2.out]; exact hr0)])
     have hrn : (er != 0) = false := by simp [hr0]
     have HCL := Lib.hid (HHV.out w2 HB2.out HG.out HLN.out)
     clear hr0
     go_wp2_with ((with_reducible refine wpList_load_mid ?_ 36 (.tmp 7) ?_ (w.heap.size + 1) 0 ?_ (Un.bdA B).toList _ RB2.out Tryz.underlying36 rfl HI.out ?_); rfl; rfl; rfl)
     refine HCL.out.mono ?_
     rintro _ w3 ⟨rfl, hb3⟩
     have HB3 := Lib.hid (HB2.out.trans (hb3.mono HB2.out.size))
     clear hb3 wk2
     go_wp2_with fail
     go_ret3
     exact ⟨by rw [HRR.out]; rfl, HB3.out⟩
    ·have HRR := Lib.hid (show R = (0, false, er) by rw [← HR.out]; unfold Un.liftsA; rw [if_neg (by rw [HE2.out]; exact hr0), HE2.out])
     have hrn : (er != 0) = true := by simp [hr0]
     clear hr0 wk2
     go_wp2_with fail
     go_ret3
     exact ⟨by rw [HRR.out]; rfl, HB2.out⟩
  ·have HE2 := Lib.hid (show Un.liftsE x bs B role bar = 480 by rw [HE.out, if_neg (by simp [h0]), if_pos hln])
   have HRR := Lib.hid (show R = (0, false, 480) by rw [← HR.out]; unfold Un.liftsA; rw [HE2.out]; rfl)
   have hlb : ((bs.length : Int) != (x.ro.length : Int)) = true := by simp; omega
   clear h0 hln
   go_wp2_with fail
   go_ret3
   exact ⟨by rw [HRR.out]; rfl, HB1.out⟩
 ·have HE2 := Lib.hid (show Un.liftsE x bs B role bar = c0 by rw [HE.out, if_pos h0])
  have HRR := Lib.hid (show R = (0, false, c0) by rw [← HR.out]; unfold Un.liftsA; rw [if_neg (by rw [HE2.out]; exact h0), HE2.out])
  have h0n : (c0 != 0) = true := by simp [h0]
  clear h0
  go_wp2_with fail
  go_ret3
  exact ⟨by rw [HRR.out]; rfl, HB1.out⟩
end Go.Proofs.YtbhgogiaaljclaaGreatDoor
