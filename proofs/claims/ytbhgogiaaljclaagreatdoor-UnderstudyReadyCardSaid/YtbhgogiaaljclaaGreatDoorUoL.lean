/- Walks: package options: limb's function; what the functions of the kinds do. -/
import Derived.Test.YtbhgogiaaljclaaGreatDoorUoJ
import Derived.Test.YtbhgogiaaljclaaGreatDoorUoa
import Derived.Test.YtbhgogiaaljclaaGreatDoorKit
set_option linter.unusedSimpArgs false
set_option linter.unusedVariables false
set_option maxRecDepth 100000
set_option maxHeartbeats 8000000
namespace Go.Proofs.YtbhgogiaaljclaaGreatDoor
open Go.RowKit
theorem uo_limb (A BB C : Int) (s : Ex.Sg) (B : Un.Bd) (b i a v m : Nat) (hi : i < 3) (hd : s.dir = a) (hl : s.level = v) (ha : a < 9) (hv0 : 0 < v) (hv3 : v < 4) (hm : Un.bdN B (12 + i) = m) (hm3 : m < 4) (hA : 0 ≤ A) (hA2 : A ≤ 32768) (hC : 0 ≤ C) (hC2 : C ≤ 32768) (w : World)
  (hF : Uo.Flat w) (hb : w.cell? ⟨b, 0, none⟩ = some (.int .i64 i)) (hz : b < w.heap.size) (L : List (Uo.Re × Int)) (hL : Uo.prs A C s.id a v m = L) :
  Calls Tryz.prog 148 #[.agg #[.int .i64 A, .int .i64 BB, .int .i64 C], Ex.sgV s, .agg (Un.bdA B), .pointer (some ⟨b, 0, none⟩)] w (Uo.Post ((Uo.fall L).map (·.1)) w) := by
 have HFA := qh (fun BT BK BU X hF bT zT zK zU k0 k6 k7 u0 u2 => uo_fall BT BK BU A C s a v m hd hl ha hv0 hv3 hm3 hA hA2 hC hC2 X hF bT zT zK zU k0 k6 k7 u0 u2)
 rw [hL] at HFA
 have HWI := qh (fun X => uo_wit A BB C s m X)
 have hbm : (Un.bdA B).toList[12 + i]? = some (.int .i64 m) := by rw [Un.bdA_get B (12 + i) omg omg, hm]
 have HBM := qh hbm
 clear hL hbm hm hd hl ha hv0 hv3 hm3 hA hA2 hC hC2
 show Calls Tryz.prog 148 #[.agg #[.int .i64 A, .int .i64 BB, .int .i64 C], Ex.sgV s, .agg #[.string B.name, .int .i64 B.weight, .int .i64 B.lift, .int .i64 B.girth, .int .i64 B.step, .int .i64 B.jump, .int .i64 B.r0, .int .i64 B.r1, .int .i64 B.r2, .int .i64 B.s0, .int .i64 B.s1, .int .i64 B.s2, .int .i64 B.t0, .int .i64 B.t1, .int .i64 B.t2, .int .i64 B.effort, .int .i64 B.recover], .pointer (some ⟨b, 0, none⟩)] w (Uo.Post ((Uo.fall L).map (·.1)) w)
 go_enter Tryz.func148, Tryz.ntmps148
 go_wp2_with fail
 refine Kit.wp_name ?_
 intro W1 hW1
 have hb1 := qh (show Below w.heap.size w W1 by rw [hW1]; exact Kit.gr)
 have hz1 : W1.heap.size = w.heap.size + 3 := by rw [hW1]; simp
 have hbl : W1.heap[w.heap.size + 1 + 1]? = some (.cells (Un.bdA B) 36 (0, 0)) := by
  rw [hW1]
  have := World.alloc_heap_new ((w.alloc (.cells #[.int .i64 A, .int .i64 BB, .int .i64 C] 23)).alloc (.cells #[.int .i64 s.id, .int .i64 s.role, .int .i64 s.bar, .int .i64 s.mark, .int .i64 s.kind, .int .i64 s.side, .int .i64 s.dir, .int .i64 s.level, .int .i64 s.size, .int .i64 s.wth, .int .i64 s.fn, .int .i64 s.fd, .int .i64 s.tn, .int .i64 s.td] 52)) (.cells (Un.bdA B) 36)
  unfold Un.bdA at this ⊢
  simpa using this
 have SO := qh (show ∀ X, Below W1.heap.size W1 X → (X.cell? ⟨w.heap.size, 0, none⟩ = some (.int .i64 A) ∧ X.cell? ⟨w.heap.size, 1, none⟩ = some (.int .i64 BB) ∧ X.cell? ⟨w.heap.size, 2, none⟩ = some (.int .i64 C)) ∧ X.cell? ⟨b, 0, none⟩ = some (.int .i64 i) ∧ X.cell? ⟨w.heap.size + 1 + 1, 12 + i, none⟩ = some (.int .i64 m) ∧ Uo.Flat X from fun X hX =>
  ⟨⟨(hX.cell (by simp; omega)).trans (by rw [hW1]; simp [go_sem]), (hX.cell (by simp; omega)).trans (by rw [hW1]; simp [go_sem]), (hX.cell (by simp; omega)).trans (by rw [hW1]; simp [go_sem])⟩,
   (hX.cell (by simp; omega)).trans ((hb1.out.cell hz).trans hb), (hX.cell (by simp; omega)).trans (by
    have := HBM.out
    simp only [World.cell?, hbl]
    simpa using this), (hF.kept hb1.out nlr).kept hX nlr⟩)
 have SS := qh (show ∀ X, Below W1.heap.size W1 X → ∀ j, X.cell? ⟨w.heap.size + 1, j, none⟩ = #[Value.int .i64 s.id, .int .i64 s.role, .int .i64 s.bar, .int .i64 s.mark, .int .i64 s.kind, .int .i64 s.side, .int .i64 s.dir, .int .i64 s.level, .int .i64 s.size, .int .i64 s.wth, .int .i64 s.fn, .int .i64 s.fd, .int .i64 s.tn, .int .i64 s.td][j]? from fun X hX j => by
  rw [World.cell?_of_block (hX.block (w.heap.size + 1) omg), hW1]
  simp [go_sem])
 have hiz : (i : Int) < 3 := by omega
 clear hW1 hbl hb hF hi
 refine Kit.wp_region_vals 9 [([(4, none)], none, true), ([(5, none)], none, true), ([(3, none)], none, true), ([(6, none)], none, true), ([(11, some 3), (10, some 2)], none, true), ([(12, some 4)], none, true), ([(8, some 0), (9, some 1), (13, some 5)], none, true), ([(14, some 6)], none, true), ([(15, some 7)], none, true)]
  [some 8, some 9, some 10, some 11, some 12, some 13, some 14, some 15, some 7] rfl (by kernel_rfl) (by kernel_rfl) (fun A B => Below A.heap.size A B) (fun q v w' => match q with
  | 0 => v = .agg #[.int .i64 A, .int .i64 BB, .int .i64 C]
  | 1 => v = Ex.sgV s
  | 2 => v = .int .i64 i
  | 3 => v = .pointer (some ⟨w.heap.size + 1 + 1, 12, none⟩)
  | 4 => v = .pointer (some ⟨w.heap.size + 1 + 1, 12 + i, none⟩)
  | 5 => v = .int .i64 m
  | 6 => ∃ x y z, v = .func (.func 196) #[] #[.pointer (some ⟨x, 0, none⟩), .pointer (some ⟨y, 0, none⟩), .pointer (some ⟨z, 0, none⟩)] ∧ (w'.cell? ⟨x, 0, none⟩ = some (.int .i64 m) ∧ w'.cell? ⟨y, 0, none⟩ = some (.int .i64 s.id) ∧ w'.cell? ⟨y, 6, none⟩ = some (.int .i64 s.dir) ∧ w'.cell? ⟨y, 7, none⟩ = some (.int .i64 s.level) ∧ w'.cell? ⟨z, 0, none⟩ = some (.int .i64 A) ∧ w'.cell? ⟨z, 2, none⟩ = some (.int .i64 C)) ∧ x < w'.heap.size ∧ y < w'.heap.size ∧ z < w'.heap.size
  | _ => w'.ownsRow W1.heap.size 61 4 v L.length ((Uo.fall L).flatMap fun x => Uo.rc x.1))
  (fun h k => h.trans (k.mono h.size)) (Below.drew (Below.refl _ _)) (fun _ => Below.refl _ _) ?_ ?_ ?_
 ·intro q v A B h1 h2 h3
  split at h3 <;> try exact h3
  ·obtain ⟨x, y, z, e, ⟨d0, d1, d2, d3, d4, d5⟩, l0, l1, l2⟩ := h3
   exact ⟨x, y, z, e, ⟨(h2.cell l0).trans d0, (h2.cell l1).trans d1, (h2.cell l1).trans d2, (h2.cell l1).trans d3, (h2.cell l2).trans d4, (h2.cell l2).trans d5⟩, Nat.lt_of_lt_of_le l0 h2.size, Nat.lt_of_lt_of_le l1 h2.size, Nat.lt_of_lt_of_le l2 h2.size⟩
  ·exact Kit.ownsRow_thn h3 h2
 ·simp only [List.take_succ_cons, List.take_zero, Kit.StepsV, Kit.VOp, Kit.RdP, true_and, if_true, and_true]
  refine ⟨?_, ?_, ?_, ?_, ?_, ?_, ?_, ?_, ?_⟩
  all_goals intro ev w1 hx hv hc hf hg
  ·obtain ⟨⟨t0, t1, t2⟩, _⟩ := SO.out w1 hx
   simp at hv
   simp [execOp, hv, hc, t0, t1, t2, go_sem, Kit.UponV, Below.refl]
  ·have so := SS.out w1 hx
   simp at hv
   simp [execOp, hv, hc, so, go_sem, Kit.UponV, Below.refl]
  ·have so := (SO.out w1 hx).2.1
   simp at hv
   simp [execOp, hv, hc, so, go_sem, Kit.UponV, Below.refl]
  ·simp at hv; simp [execOp, hv, hc, go_sem, Kit.UponV, Below.refl]
  ·obtain ⟨hv1, hv2⟩ := hv
   simp [execOp, hv1, hv2, hc, hiz, go_sem, Kit.UponV, Below.refl]
  ·have so := (SO.out w1 hx).2.2.1
   simp [execOp, hv, hc, so, go_sem, Kit.UponV, Below.refl]
  ·obtain ⟨hv1, hv2, hv3⟩ := hv
   simp [execOp, hv1, hv2, hv3, hc, hf, go_sem, Kit.UponV]
   refine (HWI.out w1).mono ?_
   rintro e w' ⟨rfl, rfl⟩
   refine ⟨_, rfl, ⟨_, _, _, rfl, ⟨?_, ?_, ?_, ?_, ?_, ?_⟩, ?_, ?_, ?_⟩, ?_⟩
   all_goals first | (simp [go_sem]; done) | exact Kit.gr
  ·obtain ⟨x, y, z, e, ⟨d0, d1, d2, d3, d4, d5⟩, l0, l1, l2⟩ := hv
   simp [execOp, e, hc, hf, go_sem, Kit.UponV]
   refine (HFA.out x y z w1 (SO.out w1 hx).2.2.2 d0 l0 l1 l2 d1 d2 d3 d4 d5).mono ?_
   rintro e w' ⟨⟨v, rfl, ho⟩, hb⟩
   exact ⟨_, rfl, ho.mono hx.size, hb⟩
  ·simp [execOp, hv, hc, go_sem, Kit.UponV, Below.refl]
 ·intro vs w1 hv hx
  have v8 : w1.ownsRow W1.heap.size 61 4 (vs 8) L.length ((Uo.fall L).flatMap fun x => Uo.rc x.1) := hv 8 omg
  clear hv
  have HR := qh (show w1.ownsRow w.heap.size 61 4 (vs 8) ((Uo.fall L).map (·.1)).length (((Uo.fall L).map (·.1)).flatMap Uo.rc) by
   rw [List.length_map, Uo.fall_len, List.flatMap_map]
   exact v8.mono omg)
  have HBX := qh (hb1.out.trans (hx.mono omg))
  clear v8 hx
  simp only [Kit.putD, List.getD_cons_zero, List.getD_cons_succ, Act.put, List.drop_succ_cons, List.drop_zero]
  generalize vs 0 = x0 at *
  generalize vs 1 = x1 at *
  generalize vs 2 = x2 at *
  generalize vs 3 = x3 at *
  generalize vs 4 = x4 at *
  generalize vs 5 = x5 at *
  generalize vs 6 = x6 at *
  generalize vs 7 = x7 at *
  generalize vs 8 = x8 at *
  go_simp
  go_wp2_with fail
  go_ret
  exact ⟨⟨_, rfl, HR.out⟩, HBX.out⟩
end Go.Proofs.YtbhgogiaaljclaaGreatDoor
