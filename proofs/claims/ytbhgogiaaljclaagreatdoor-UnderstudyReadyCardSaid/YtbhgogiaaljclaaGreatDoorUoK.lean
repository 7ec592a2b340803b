/- Walks: package options: the functions of the kinds. -/
import Derived.Test.YtbhgogiaaljclaaGreatDoorUoG
import Derived.Test.YtbhgogiaaljclaaGreatDoorKxb
import Derived.BigQuiet
set_option linter.unusedSimpArgs false
set_option linter.unusedVariables false
set_option maxRecDepth 100000
set_option maxHeartbeats 4000000
namespace Go.Proofs.YtbhgogiaaljclaaGreatDoor
open Go.RowKit
namespace Uo
def Post (l : List Re) (W : World) (e : Ending) (W' : World) : Prop := (∃ v, e = .returned v ∧ W'.ownsRow W.heap.size 61 4 v l.length (l.flatMap rc)) ∧ Below W.heap.size W W'
theorem lit_row (W : World) (l : List Value) (t : TypeId) (b base k n : Nat) (hb : b = W.heap.size) (hbase : base ≤ b) (hl : l.length = n * k) (hn : n ≤ maxLen) : (W.alloc (.cells l.toArray t)).ownsRow base t k (.slice (some ⟨b, 0, none⟩) n n) n l := by
 subst hb
 exact ⟨hl, .inr ⟨W.heap.size, n, l.toArray, rfl, hbase, World.alloc_heap_new W _, Nat.le_refl _, hn, by simpa using hl, by rw [← hl]; simp⟩⟩
theorem nil_row (W : World) (t : TypeId) (base k : Nat) : W.ownsRow base t k (.slice none 0 0) 0 [] := World.ownsRow_nil _ _ _ _
end Uo
theorem uo_step (B : Un.Bd) (w : World) : Calls Tryz.prog 91 #[.agg (Un.bdA B)] w fun e w' => e = .returned (.int .i64 B.step) ∧ Below w.heap.size w w' := by
 unfold Un.bdA
 go_enter Tryz.func91, Tryz.ntmps91
 go_wp2
 go_ret
 exact ⟨rfl, by exact Kit.gr⟩
theorem uo_jump (B : Un.Bd) (w : World) : Calls Tryz.prog 92 #[.agg (Un.bdA B)] w fun e w' => e = .returned (.int .i64 B.jump) ∧ Below w.heap.size w w' := by
 unfold Un.bdA
 go_enter Tryz.func92, Tryz.ntmps92
 go_wp2
 go_ret
 exact ⟨rfl, by exact Kit.gr⟩
theorem uo_free (A BB C : Int) (s : Ex.Sg) (B : Un.Bd) (w : World) : Calls Tryz.prog 94 #[.agg #[.int .i64 A, .int .i64 BB, .int .i64 C], Ex.sgV s, .agg (Un.bdA B)] w (Uo.Post [(s.id, 0, Uo.mnI s.level B.t1, false)] w) := by
 unfold Un.bdA Uo.mnI
 go_enter Tryz.func94, Tryz.ntmps94
 go_wp2
 all_goals
  go_ret
  refine ⟨⟨_, rfl, ?_⟩, by exact Kit.gr⟩
  have h0 : min s.level B.t1 = if B.t1 < s.level then B.t1 else s.level := by rw [Int.min_def]; split <;> (try split) <;> omega
  have hr := fun (M : Int) => Uo.lit_row (((w.alloc (.cells #[.int .i64 A, .int .i64 BB, .int .i64 C] 23)).alloc (.cells #[.int .i64 s.id, .int .i64 s.role, .int .i64 s.bar, .int .i64 s.mark, .int .i64 s.kind, .int .i64 s.side, .int .i64 s.dir, .int .i64 s.level, .int .i64 s.size, .int .i64 s.wth, .int .i64 s.fn, .int .i64 s.fd, .int .i64 s.tn, .int .i64 s.td] 52)).alloc (.cells (Un.bdA B) 36)) (Uo.rc (s.id, 0, M, false)) 61 (w.heap.size + 1 + 1 + 1) w.heap.size 4 1 (by simp) omg rfl (by unfold maxLen; omega)
  first
   | (rw [if_pos (by assumption)] at h0; have h2 := hr B.t1; rw [h0]; exact h2)
   | (rw [if_neg omg] at h0; have h2 := hr s.level; rw [h0]; exact h2)
theorem uo_travel (A BB C : Int) (s : Ex.Sg) (B : Un.Bd) (g b : Nat) (m : Int) (w : World) (hb : w.cell? ⟨b, 0, none⟩ = some (.func (.func g) #[] #[])) (hz : b < w.heap.size)
  (hg : ∀ W, Calls Tryz.prog g #[.agg (Un.bdA B)] W fun e w' => e = .returned (.int .i64 m) ∧ Below W.heap.size W w') (eg : ∀ args w, (callFunc g args).run Tryz.prog w = .ok (.enter g args) w) (L : List Uo.Re) (hL : Hid (L = if m < s.size then [] else [(s.id, 0, 0, false)])) :
  Calls Tryz.prog 147 #[.agg #[.int .i64 A, .int .i64 BB, .int .i64 C], Ex.sgV s, .agg (Un.bdA B), .pointer (some ⟨b, 0, none⟩)] w (Uo.Post L w) := by
 have HG := qh hg
 clear hg
 unfold Un.bdA at HG
 show Calls Tryz.prog 147 #[.agg #[.int .i64 A, .int .i64 BB, .int .i64 C], Ex.sgV s, .agg #[.string B.name, .int .i64 B.weight, .int .i64 B.lift, .int .i64 B.girth, .int .i64 B.step, .int .i64 B.jump, .int .i64 B.r0, .int .i64 B.r1, .int .i64 B.r2, .int .i64 B.s0, .int .i64 B.s1, .int .i64 B.s2, .int .i64 B.t0, .int .i64 B.t1, .int .i64 B.t2, .int .i64 B.effort, .int .i64 B.recover], .pointer (some ⟨b, 0, none⟩)] w (Uo.Post L w)
 go_enter Tryz.func147, Tryz.ntmps147
 go_wp2_with fail
 refine Kit.wp_name ?_
 intro W1 hW1
 have hb1 := qh (show Below w.heap.size w W1 by rw [hW1]; exact Kit.gr)
 have hz1 : W1.heap.size = w.heap.size + 3 := by rw [hW1]; simp
 have hbl : W1.heap[w.heap.size + 1 + 1]? = some (.cells (Un.bdA B) 36 (0, 0)) := by
  rw [hW1]
  have := World.alloc_heap_new ((w.alloc (.cells #[.int .i64 A, .int .i64 BB, .int .i64 C] 23)).alloc (.cells #[.int .i64 s.id, .int .i64 s.role, .int .i64 s.bar, .int .i64 s.mark, .int .i64 s.kind, .int .i64 s.side, .int .i64 s.dir, .int .i64 s.level, .int .i64 s.size, .int .i64 s.wth, .int .i64 s.fn, .int .i64 s.fd, .int .i64 s.tn, .int .i64 s.td] 52)) (.cells (Un.bdA B) 36)
  unfold Un.bdA at this ⊢
  simpa using this
 have kB : ∀ (z : Kit.Wd W1) (j : Nat), z.val.cell? ⟨w.heap.size + 1 + 1, j, none⟩ = (Un.bdA B)[j]? := fun z j => by
  rw [World.cell?_of_block (z.below.block (w.heap.size + 1 + 1) omg)]
  simp [World.cell?, hbl]
 have k8 : ∀ z : Kit.Wd W1, z.val.cell? ⟨w.heap.size + 1, 8, none⟩ = some (.int .i64 s.size) := fun z => z.cell (by rw [hW1]; simp [go_sem]) (by simp; omega)
 have k0 : ∀ z : Kit.Wd W1, z.val.cell? ⟨w.heap.size + 1, 0, none⟩ = some (.int .i64 s.id) := fun z => z.cell (by rw [hW1]; simp [go_sem]) (by simp; omega)
 have kf : ∀ z : Kit.Wd W1, z.val.cell? ⟨b, 0, none⟩ = some (.func (.func g) #[] #[]) := fun z => z.cell (hb1.out.cell hz |>.trans hb) (by simp; omega)
 clear hW1 hbl hb
 unfold Un.bdA at kB
 (refine Kit.wp_region_cls (by kernel_rfl) (by kernel_rfl) ?_; (repeat (go_big_quiet_step (with_reducible exact Kit.calls_cls _ (HG.out _)))); refine wpQuiet_nil ?_; intro z)
 have hbz := qh (hb1.out.trans (z.below.mono omg))
 have hzz : w.heap.size + 3 ≤ z.val.heap.size := by have := z.below.size; omega
 replace k0 := k0 z
 generalize z.val = Z at *
 clear kB k8 kf hb1
 rcases dm : decide (m < s.size) with _ | _
 ·have HL := qh (show L = [(s.id, 0, 0, false)] by rw [hL.out, if_neg (by simpa using dm)])
  clear hL
  go_wp2
  go_ret
  rw [HL.out]
  refine ⟨⟨_, rfl, Uo.lit_row _ (Uo.rc (s.id, 0, 0, false)) _ Z.heap.size _ 4 1 rfl omg rfl (by unfold maxLen; omega)⟩, ?_⟩
  ·exact hbz.out.alloc omg _
 ·have HL := qh (show L = [] by rw [hL.out, if_pos (by simpa using dm)])
  clear hL
  go_wp2
  go_ret
  rw [HL.out]
  exact ⟨⟨_, rfl, Uo.nil_row _ _ _ _⟩, hbz.out⟩
end Go.Proofs.YtbhgogiaaljclaaGreatDoor
