/- Walks: package options: Cost. -/
import Derived.Test.YtbhgogiaaljclaaGreatDoorUoO
set_option linter.unusedSimpArgs false
set_option linter.unusedVariables false
set_option maxRecDepth 100000
set_option maxHeartbeats 8000000
namespace Go.Proofs.YtbhgogiaaljclaaGreatDoor
open Go.RowKit
namespace Uo
def form (s : Ex.Sg) (r : Re) : Prop := r.1 = s.id ∧ (if r.2.2.2 = true then r.2.1 = 0 ∧ r.2.2.1 = 0 else if s.kind = 3 ∨ s.kind = 4 ∨ s.kind = 5 then (0 ≤ r.2.1 ∧ r.2.1 ≤ 8 ∧ 1 ≤ r.2.2.1 ∧ r.2.2.1 ≤ 3) else if s.kind = 9 then r.2.1 = 0 ∧ 1 ≤ r.2.2.1 ∧ r.2.2.1 ≤ 3 else r.2.1 = 0 ∧ r.2.2.1 = 0)
def markC (m : Int) : Int := if m = 3 then 4 else if m = 2 then 16 else 64
theorem mi : Kit.MTypes Tryz.prog 118 3 3 (.int .i64 0) := ⟨Tryz.underlying3, Tryz.underlying118, fun _ => rfl⟩
structure Mp (w W0 : World) (SB : Nat) (m : Int) (B n : Nat) (f : Int → Option Value) (W : World) : Prop where
 map : Kit.IMap Tryz.prog 3 W B n f
 bel : Below w.heap.size w W
 k3 : W.cell? ⟨SB, 3, none⟩ = some (.int .i64 m)
 lo : w.heap.size ≤ B
 ne : SB ≠ B
 lt : SB < W.heap.size
theorem Mp.start {w W0 : World} {SB : Nat} {m : Int} (hb : Below w.heap.size w W0) (hk : W0.cell? ⟨SB, 3, none⟩ = some (.int .i64 m)) (hz : SB < W0.heap.size) : Mp w W0 SB m W0.heap.size 0 (fun _ => none) (W0.alloc (.map #[] 0)) :=
 ⟨Kit.IMap.made _ _ _, hb.alloc hb.size _, (((Below.refl _ _).alloc nlr _).cell (by exact hz)).trans hk, hb.size, by omega, by simp; omega⟩
theorem Mp.put {w W0 W W' : World} {SB : Nat} {m : Int} {B n n' : Nat} {f f' : Int → Option Value} (h : Mp w W0 SB m B n f W) (hm : Kit.IMap Tryz.prog 3 W' B n' f') (hg : W.grownBy W' (some B)) : Mp w W0 SB m B n' f' W' :=
 ⟨hm, h.bel.grown hg h.bel.size (fun q hq => by cases hq; exact h.lo), (World.cell?_of_block (hg.block SB h.lt (by simpa using fun e => h.ne e))).trans h.k3, h.lo, h.ne, Nat.lt_of_lt_of_le h.lt hg.size⟩
theorem mark_get (m : Int) (h : 1 ≤ m ∧ m ≤ 3) : ((Kit.putI (Kit.putI (Kit.putI (fun _ => none) 3 (.int .i64 4)) 2 (.int .i64 16)) 1 (.int .i64 64)) m).getD (.int .i64 0) = .int .i64 (markC m) := by
 rcases (by omega : m = 1 ∨ m = 2 ∨ m = 3) with rfl | rfl | rfl <;> rfl
end Uo
theorem uo_cost (x : Ex.Wk) (p : Ex.Wa) (w : World) (hL : Ex.Laid w) (ha : Ex.At w x p) (hg : Ex.Good x) (q : Nat) (hq : q < x.sg.length) (s : Ex.Sg) (hs : x.sg.getD q default = s) (r : Uo.Re) (hr : Uo.form s r) :
  Calls Tryz.prog 20 #[Ex.workV x p, .int .i64 s.id, .agg #[.int .i64 r.1, .int .i64 r.2.1, .int .i64 r.2.2.1, .bool r.2.2.2]] w fun e w' => e = .returned (.tuple #[.int .i64 (Un.cost s r), .int .i64 0]) ∧ Below w.heap.size w w' := by
 have hmem : s ∈ x.sg := by rw [← hs, List.getD_eq_getElem?_getD, List.getElem?_eq_getElem hq]; exact List.getElem_mem hq
 have hfit := Ex.fit_of (hg.oks s hmem)
 have HFD := qh (fun W (hW : Below w.heap.size w W) => uo_find x p W (hL.kept hW nlr) (ha.kept hW nlr) hg q hq s hs)
 have hmm := @run_makeMap Tryz.prog
 have hm3 := hfit.mark
 have hk9 := hfit.kind
 obtain ⟨c, hc⟩ : ∃ c, Un.cost s r = c := ⟨_, rfl⟩
 rw [hc]
 obtain ⟨r0, r1, r2, r3⟩ := r
 obtain ⟨hr0, hr1⟩ := hr
 dsimp only at hr0 hr1 ⊢
 unfold Un.cost at hc
 dsimp only at hc
 subst hr0
 have wm : (Lit.int .i64 s.mark).wf = true := WalkArith.wf_i64 omg
 have HG := qh (Uo.mark_get s.mark hm3)
 have HCC := qh hc
 have HR := qh hr1
 clear hL ha hg hs hmem hfit hq hc hr1
 go_enter Tryz.func20, Tryz.ntmps20
 go_wp2_with fail
 refine (HFD.out _ (by exact Kit.gr)).mono ?_
 rintro _ w1 ⟨rfl, hb1⟩
 have hb1' : Below w.heap.size w w1 := Below.trans (B := w.heap.size) (by exact Kit.gr) (hb1.mono (by simp; omega))
 have q0 : w1.cell? ⟨w.heap.size + 1, 0, none⟩ = some (.int .i64 s.id) := (hb1.cell (by simp)).trans (by simp [go_sem])
 have q1 : w1.cell? ⟨w.heap.size + 1, 1, none⟩ = some (.int .i64 r1) := (hb1.cell (by simp)).trans (by simp [go_sem])
 have q2 : w1.cell? ⟨w.heap.size + 1, 2, none⟩ = some (.int .i64 r2) := (hb1.cell (by simp)).trans (by simp [go_sem])
 have q3 : w1.cell? ⟨w.heap.size + 1, 3, none⟩ = some (.bool r3) := (hb1.cell (by simp)).trans (by simp [go_sem])
 have z1 : w.heap.size + 1 < w1.heap.size := by have := hb1.size; simp at this; omega
 generalize w.heap.size + 1 = RB at q0 q1 q2 q3 z1 ⊢
 have HB := qh hb1'
 clear hb1 hb1' HFD
 obtain ⟨K, hK⟩ : ∃ K, s.kind = K := ⟨_, rfl⟩
 rw [hK] at hk9
 have hsv : Ex.sgV s = .agg #[.int .i64 s.id, .int .i64 s.role, .int .i64 s.bar, .int .i64 s.mark, .int .i64 K, .int .i64 s.side, .int .i64 s.dir, .int .i64 s.level, .int .i64 s.size, .int .i64 s.wth, .int .i64 s.fn, .int .i64 s.fd, .int .i64 s.tn, .int .i64 s.td] := by rw [← hK]
 rw [hsv]
 have HK := qh hK
 clear hsv hK
 rcases (by omega : K = 3 ∨ K = 4 ∨ K = 5 ∨ K = 9 ∨ (K ≠ 3 ∧ K ≠ 4 ∧ K ≠ 5 ∧ K ≠ 9)) with hk | hk | hk | hk | hk
 ·have d3 : (K == 3) = true := by simp; omega
  have d4 : (K == 4) = false := by simp; omega
  have d5 : (K == 5) = false := by simp; omega
  have d9 : (K == 9) = false := by simp; omega
  rcases r3 with _ | _
  ·have hf := HR.out
   rw [if_neg (by simp), if_pos (by rw [HK.out]; omega)] at hf
   have f1 : decide (0 ≤ r1) = true := by simp; omega
   have f2 : decide (r1 ≤ 8) = true := by simp; omega
   have f3 : decide (1 ≤ r2) = true := by simp; omega
   have f4 : decide (r2 ≤ 3) = true := by simp; omega
   have z2 : (r2 == 0) = false := by simp; omega
   obtain ⟨zz, z0⟩ : ∃ zz, (r1 == 0) = zz := ⟨_, rfl⟩
   by_cases e1 : r1 = s.dir
   ·have g1 : (r1 != s.dir) = false := by simp [e1]
    by_cases e2 : r2 = s.level
    ·have g2 : (r2 != s.level) = false := by simp [e2]
     have HC := qh (show 0 = c by rw [← HCC.out, if_neg (by simp), if_neg (by rintro ⟨_, h | h⟩ <;> omega)])
     clear hf e1 e2 hk
     rcases zz with _ | _
     all_goals
      go_wp2_with fail
      go_ret2
      exact ⟨by rw [← HC.out]; rfl, HB.out.alloc HB.out.size _⟩
    ·have g2 : (r2 != s.level) = true := by simp [e2]
     have HC := qh (show 1 = c by rw [← HCC.out, if_neg (by simp), if_pos ⟨by rw [HK.out]; omega, .inr e2⟩])
     clear hf e1 e2 hk
     rcases zz with _ | _
     all_goals
      go_wp2_with fail
      go_ret2
      exact ⟨by rw [← HC.out]; rfl, HB.out.alloc HB.out.size _⟩
   ·have g1 : (r1 != s.dir) = true := by simp [e1]
    have HC := qh (show 1 = c by rw [← HCC.out, if_neg (by simp), if_pos ⟨by rw [HK.out]; omega, .inl e1⟩])
    clear hf e1 hk
    rcases zz with _ | _
    all_goals
     go_wp2_with fail
     go_ret2
     exact ⟨by rw [← HC.out]; rfl, HB.out.alloc HB.out.size _⟩
  ·have hf := HR.out
   rw [if_pos rfl] at hf
   have HC := qh (show Uo.markC s.mark = c by rw [← HCC.out, if_pos rfl]; rfl)
   obtain ⟨rfl, rfl⟩ := hf
   clear hk
   go_upto_region 14 with fail
   refine Kit.wp_name ?_
   intro W2 hW2
   have k3 : W2.cell? ⟨w1.heap.size, 3, none⟩ = some (.int .i64 s.mark) := by rw [hW2]; simp [go_sem]
   have z2 : w1.heap.size < W2.heap.size := by rw [hW2]; simp
   have HB2 := qh (show Below w.heap.size w W2 by rw [hW2]; exact HB.out.alloc HB.out.size _)
   have HM := qh (show Uo.Mp w W2 w1.heap.size s.mark W2.heap.size 0 (fun _ => none) (W2.alloc (.map #[] 0)) from Uo.Mp.start HB2.out k3 z2)
   clear hW2 k3
   go_wp2_with (first | (refine Kit.wpList_put_imap _ rfl _ _ _ _ (.inr rfl) 3 3 (.int .i64 0) Uo.mi _ _ _ rfl HM.out.map ?hn _ rfl _ rfl ?wf ?_; (case hn => (unfold maxLen; omega)); (case wf => rfl); intro w5 hm hg5; have HM2 := qh (HM.out.put hm hg5); clear HM hm hg5; have HM := HM2; clear HM2; have k3 := HM.out.k3) | (refine Kit.wpList_lookup_imap _ rfl _ _ _ rfl 3 3 (.int .i64 0) Uo.mi _ _ _ rfl HM.out.map _ rfl wm _ HG.out ?_))
   go_ret2
   exact ⟨by rw [← HC.out]; rfl, HM.out.bel⟩
 ·have d3 : (K == 3) = false := by simp; omega
  have d4 : (K == 4) = true := by simp; omega
  have d5 : (K == 5) = false := by simp; omega
  have d9 : (K == 9) = false := by simp; omega
  rcases r3 with _ | _
  ·have hf := HR.out
   rw [if_neg (by simp), if_pos (by rw [HK.out]; omega)] at hf
   have f1 : decide (0 ≤ r1) = true := by simp; omega
   have f2 : decide (r1 ≤ 8) = true := by simp; omega
   have f3 : decide (1 ≤ r2) = true := by simp; omega
   have f4 : decide (r2 ≤ 3) = true := by simp; omega
   have z2 : (r2 == 0) = false := by simp; omega
   obtain ⟨zz, z0⟩ : ∃ zz, (r1 == 0) = zz := ⟨_, rfl⟩
   by_cases e1 : r1 = s.dir
   ·have g1 : (r1 != s.dir) = false := by simp [e1]
    by_cases e2 : r2 = s.level
    ·have g2 : (r2 != s.level) = false := by simp [e2]
     have HC := qh (show 0 = c by rw [← HCC.out, if_neg (by simp), if_neg (by rintro ⟨_, h | h⟩ <;> omega)])
     clear hf e1 e2 hk
     rcases zz with _ | _
     all_goals
      go_wp2_with fail
      go_ret2
      exact ⟨by rw [← HC.out]; rfl, HB.out.alloc HB.out.size _⟩
    ·have g2 : (r2 != s.level) = true := by simp [e2]
     have HC := qh (show 1 = c by rw [← HCC.out, if_neg (by simp), if_pos ⟨by rw [HK.out]; omega, .inr e2⟩])
     clear hf e1 e2 hk
     rcases zz with _ | _
     all_goals
      go_wp2_with fail
      go_ret2
      exact ⟨by rw [← HC.out]; rfl, HB.out.alloc HB.out.size _⟩
   ·have g1 : (r1 != s.dir) = true := by simp [e1]
    have HC := qh (show 1 = c by rw [← HCC.out, if_neg (by simp), if_pos ⟨by rw [HK.out]; omega, .inl e1⟩])
    clear hf e1 hk
    rcases zz with _ | _
    all_goals
     go_wp2_with fail
     go_ret2
     exact ⟨by rw [← HC.out]; rfl, HB.out.alloc HB.out.size _⟩
  ·have hf := HR.out
   rw [if_pos rfl] at hf
   have HC := qh (show Uo.markC s.mark = c by rw [← HCC.out, if_pos rfl]; rfl)
   obtain ⟨rfl, rfl⟩ := hf
   clear hk
   go_upto_region 14 with fail
   refine Kit.wp_name ?_
   intro W2 hW2
   have k3 : W2.cell? ⟨w1.heap.size, 3, none⟩ = some (.int .i64 s.mark) := by rw [hW2]; simp [go_sem]
   have z2 : w1.heap.size < W2.heap.size := by rw [hW2]; simp
   have HB2 := qh (show Below w.heap.size w W2 by rw [hW2]; exact HB.out.alloc HB.out.size _)
   have HM := qh (show Uo.Mp w W2 w1.heap.size s.mark W2.heap.size 0 (fun _ => none) (W2.alloc (.map #[] 0)) from Uo.Mp.start HB2.out k3 z2)
   clear hW2 k3
   go_wp2_with (first | (refine Kit.wpList_put_imap _ rfl _ _ _ _ (.inr rfl) 3 3 (.int .i64 0) Uo.mi _ _ _ rfl HM.out.map ?hn _ rfl _ rfl ?wf ?_; (case hn => (unfold maxLen; omega)); (case wf => rfl); intro w5 hm hg5; have HM2 := qh (HM.out.put hm hg5); clear HM hm hg5; have HM := HM2; clear HM2; have k3 := HM.out.k3) | (refine Kit.wpList_lookup_imap _ rfl _ _ _ rfl 3 3 (.int .i64 0) Uo.mi _ _ _ rfl HM.out.map _ rfl wm _ HG.out ?_))
   go_ret2
   exact ⟨by rw [← HC.out]; rfl, HM.out.bel⟩
 ·have d3 : (K == 3) = false := by simp; omega
  have d4 : (K == 4) = false := by simp; omega
  have d5 : (K == 5) = true := by simp; omega
  have d9 : (K == 9) = false := by simp; omega
  rcases r3 with _ | _
  ·have hf := HR.out
   rw [if_neg (by simp), if_pos (by rw [HK.out]; omega)] at hf
   have f1 : decide (0 ≤ r1) = true := by simp; omega
   have f2 : decide (r1 ≤ 8) = true := by simp; omega
   have f3 : decide (1 ≤ r2) = true := by simp; omega
   have f4 : decide (r2 ≤ 3) = true := by simp; omega
   have z2 : (r2 == 0) = false := by simp; omega
   obtain ⟨zz, z0⟩ : ∃ zz, (r1 == 0) = zz := ⟨_, rfl⟩
   by_cases e1 : r1 = s.dir
   ·have g1 : (r1 != s.dir) = false := by simp [e1]
    by_cases e2 : r2 = s.level
    ·have g2 : (r2 != s.level) = false := by simp [e2]
     have HC := qh (show 0 = c by rw [← HCC.out, if_neg (by simp), if_neg (by rintro ⟨_, h | h⟩ <;> omega)])
     clear hf e1 e2 hk
     rcases zz with _ | _
     all_goals
      go_wp2_with fail
      go_ret2
      exact ⟨by rw [← HC.out]; rfl, HB.out.alloc HB.out.size _⟩
    ·have g2 : (r2 != s.level) = true := by simp [e2]
     have HC := qh (show 1 = c by rw [← HCC.out, if_neg (by simp), if_pos ⟨by rw [HK.out]; omega, .inr e2⟩])
     clear hf e1 e2 hk
     rcases zz with _ | _
     all_goals
      go_wp2_with fail
      go_ret2
      exact ⟨by rw [← HC.out]; rfl, HB.out.alloc HB.out.size _⟩
   ·have g1 : (r1 != s.dir) = true := by simp [e1]
    have HC := qh (show 1 = c by rw [← HCC.out, if_neg (by simp), if_pos ⟨by rw [HK.out]; omega, .inl e1⟩])
    clear hf e1 hk
    rcases zz with _ | _
    all_goals
     go_wp2_with fail
     go_ret2
     exact ⟨by rw [← HC.out]; rfl, HB.out.alloc HB.out.size _⟩
  ·have hf := HR.out
   rw [if_pos rfl] at hf
   have HC := qh (show Uo.markC s.mark = c by rw [← HCC.out, if_pos rfl]; rfl)
   obtain ⟨rfl, rfl⟩ := hf
   clear hk
   go_upto_region 14 with fail
   refine Kit.wp_name ?_
   intro W2 hW2
   have k3 : W2.cell? ⟨w1.heap.size, 3, none⟩ = some (.int .i64 s.mark) := by rw [hW2]; simp [go_sem]
   have z2 : w1.heap.size < W2.heap.size := by rw [hW2]; simp
   have HB2 := qh (show Below w.heap.size w W2 by rw [hW2]; exact HB.out.alloc HB.out.size _)
   have HM := qh (show Uo.Mp w W2 w1.heap.size s.mark W2.heap.size 0 (fun _ => none) (W2.alloc (.map #[] 0)) from Uo.Mp.start HB2.out k3 z2)
   clear hW2 k3
   go_wp2_with (first | (refine Kit.wpList_put_imap _ rfl _ _ _ _ (.inr rfl) 3 3 (.int .i64 0) Uo.mi _ _ _ rfl HM.out.map ?hn _ rfl _ rfl ?wf ?_; (case hn => (unfold maxLen; omega)); (case wf => rfl); intro w5 hm hg5; have HM2 := qh (HM.out.put hm hg5); clear HM hm hg5; have HM := HM2; clear HM2; have k3 := HM.out.k3) | (refine Kit.wpList_lookup_imap _ rfl _ _ _ rfl 3 3 (.int .i64 0) Uo.mi _ _ _ rfl HM.out.map _ rfl wm _ HG.out ?_))
   go_ret2
   exact ⟨by rw [← HC.out]; rfl, HM.out.bel⟩
 ·have d3 : (K == 3) = false := by simp; omega
  have d4 : (K == 4) = false := by simp; omega
  have d5 : (K == 5) = false := by simp; omega
  have d9 : (K == 9) = true := by simp; omega
  rcases r3 with _ | _
  ·have hf := HR.out
   rw [if_neg (by simp), if_neg (by rw [HK.out]; omega), if_pos (by rw [HK.out]; omega)] at hf
   have HC := qh (show 0 = c by rw [← HCC.out, if_neg (by simp), if_neg (by rw [HK.out]; omega)])
   obtain ⟨rfl, hf⟩ := hf
   have z2 : (r2 == 0) = false := by simp; omega
   have f3 : decide (1 ≤ r2) = true := by simp; omega
   have f4 : decide (r2 ≤ 3) = true := by simp; omega
   clear hk hf
   all_goals
    go_wp2_with fail
    go_ret2
    exact ⟨by rw [← HC.out]; rfl, HB.out.alloc HB.out.size _⟩
  ·have hf := HR.out
   rw [if_pos rfl] at hf
   have HC := qh (show Uo.markC s.mark = c by rw [← HCC.out, if_pos rfl]; rfl)
   obtain ⟨rfl, rfl⟩ := hf
   clear hk
   go_upto_region 14 with fail
   refine Kit.wp_name ?_
   intro W2 hW2
   have k3 : W2.cell? ⟨w1.heap.size, 3, none⟩ = some (.int .i64 s.mark) := by rw [hW2]; simp [go_sem]
   have z2 : w1.heap.size < W2.heap.size := by rw [hW2]; simp
   have HB2 := qh (show Below w.heap.size w W2 by rw [hW2]; exact HB.out.alloc HB.out.size _)
   have HM := qh (show Uo.Mp w W2 w1.heap.size s.mark W2.heap.size 0 (fun _ => none) (W2.alloc (.map #[] 0)) from Uo.Mp.start HB2.out k3 z2)
   clear hW2 k3
   go_wp2_with (first | (refine Kit.wpList_put_imap _ rfl _ _ _ _ (.inr rfl) 3 3 (.int .i64 0) Uo.mi _ _ _ rfl HM.out.map ?hn _ rfl _ rfl ?wf ?_; (case hn => (unfold maxLen; omega)); (case wf => rfl); intro w5 hm hg5; have HM2 := qh (HM.out.put hm hg5); clear HM hm hg5; have HM := HM2; clear HM2; have k3 := HM.out.k3) | (refine Kit.wpList_lookup_imap _ rfl _ _ _ rfl 3 3 (.int .i64 0) Uo.mi _ _ _ rfl HM.out.map _ rfl wm _ HG.out ?_))
   go_ret2
   exact ⟨by rw [← HC.out]; rfl, HM.out.bel⟩
 ·have d3 : (K == 3) = false := by simp; omega
  have d4 : (K == 4) = false := by simp; omega
  have d5 : (K == 5) = false := by simp; omega
  have d9 : (K == 9) = false := by simp; omega
  rcases r3 with _ | _
  ·have hf := HR.out
   rw [if_neg (by simp), if_neg (by rw [HK.out]; omega), if_neg (by rw [HK.out]; omega)] at hf
   have HC := qh (show 0 = c by rw [← HCC.out, if_neg (by simp), if_neg (by rw [HK.out]; omega)])
   obtain ⟨rfl, rfl⟩ := hf
   clear hk
   all_goals
    go_wp2_with fail
    go_ret2
    exact ⟨by rw [← HC.out]; rfl, HB.out.alloc HB.out.size _⟩
  ·have hf := HR.out
   rw [if_pos rfl] at hf
   have HC := qh (show Uo.markC s.mark = c by rw [← HCC.out, if_pos rfl]; rfl)
   obtain ⟨rfl, rfl⟩ := hf
   clear hk
   go_upto_region 14 with fail
   refine Kit.wp_name ?_
   intro W2 hW2
   have k3 : W2.cell? ⟨w1.heap.size, 3, none⟩ = some (.int .i64 s.mark) := by rw [hW2]; simp [go_sem]
   have z2 : w1.heap.size < W2.heap.size := by rw [hW2]; simp
   have HB2 := qh (show Below w.heap.size w W2 by rw [hW2]; exact HB.out.alloc HB.out.size _)
   have HM := qh (show Uo.Mp w W2 w1.heap.size s.mark W2.heap.size 0 (fun _ => none) (W2.alloc (.map #[] 0)) from Uo.Mp.start HB2.out k3 z2)
   clear hW2 k3
   go_wp2_with (first | (refine Kit.wpList_put_imap _ rfl _ _ _ _ (.inr rfl) 3 3 (.int .i64 0) Uo.mi _ _ _ rfl HM.out.map ?hn _ rfl _ rfl ?wf ?_; (case hn => (unfold maxLen; omega)); (case wf => rfl); intro w5 hm hg5; have HM2 := qh (HM.out.put hm hg5); clear HM hm hg5; have HM := HM2; clear HM2; have k3 := HM.out.k3) | (refine Kit.wpList_lookup_imap _ rfl _ _ _ rfl 3 3 (.int .i64 0) Uo.mi _ _ _ rfl HM.out.map _ rfl wm _ HG.out ?_))
   go_ret2
   exact ⟨by rw [← HC.out]; rfl, HM.out.bel⟩
end Go.Proofs.YtbhgogiaaljclaaGreatDoor
