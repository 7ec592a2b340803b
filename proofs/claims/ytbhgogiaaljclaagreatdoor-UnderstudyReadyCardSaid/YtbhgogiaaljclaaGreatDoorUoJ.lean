/- Walks: package options: kinds, limb. -/
import Derived.Test.YtbhgogiaaljclaaGreatDoorUoK
import Derived.Laws.EntriesVeiled
set_option linter.unusedSimpArgs false
set_option linter.unusedVariables false
set_option maxRecDepth 100000
set_option maxHeartbeats 2000000
namespace Go.Proofs.YtbhgogiaaljclaaGreatDoor
open Go.RowKit
theorem Uo.hold {p : Prop} (h : ∀ X : Prop, Hid (X = p) → X) : p := h p rfl
theorem uo_trav (g : Nat) (w : World) : Calls Tryz.prog 90 #[.func (.func g) #[] #[]] w fun e w' => e = .returned (.func (.func 147) #[] #[.pointer (some ⟨w.heap.size, 0, none⟩)]) ∧ w' = w.alloc (.cells #[.func (.func g) #[] #[]] 164) := by
 go_enter Tryz.func90, Tryz.ntmps90
 go_wp2
 go_ret
 exact ⟨rfl, rfl⟩
theorem uo_lim (i : Int) (w : World) : Calls Tryz.prog 93 #[.int .i64 i] w fun e w' => e = .returned (.func (.func 148) #[] #[.pointer (some ⟨w.heap.size, 0, none⟩)]) ∧ w' = w.alloc (.cells #[.int .i64 i] 3) := by
 go_enter Tryz.func93, Tryz.ntmps93
 go_wp2
 go_ret
 exact ⟨rfl, rfl⟩
theorem uo_wit (A BB C : Int) (s : Ex.Sg) (m : Int) (w : World) : Calls Tryz.prog 150 #[.agg #[.int .i64 A, .int .i64 BB, .int .i64 C], Ex.sgV s, .int .i64 m] w fun e w' =>
  e = .returned (.func (.func 196) #[] #[.pointer (some ⟨w.heap.size + 1 + 1, 0, none⟩), .pointer (some ⟨w.heap.size + 1, 0, none⟩), .pointer (some ⟨w.heap.size, 0, none⟩)]) ∧
   w' = ((w.alloc (.cells #[.int .i64 A, .int .i64 BB, .int .i64 C] 23)).alloc (.cells #[.int .i64 s.id, .int .i64 s.role, .int .i64 s.bar, .int .i64 s.mark, .int .i64 s.kind, .int .i64 s.side, .int .i64 s.dir, .int .i64 s.level, .int .i64 s.size, .int .i64 s.wth, .int .i64 s.fn, .int .i64 s.fd, .int .i64 s.tn, .int .i64 s.td] 52)).alloc (.cells #[.int .i64 m] 3) := by
 go_enter Tryz.func150, Tryz.ntmps150
 go_wp2
 go_ret
 exact ⟨rfl, rfl⟩
namespace Uo
abbrev tF : TypeId := 114
theorem mt : Kit.MTypes Tryz.prog 116 3 tF .nilFunc := ⟨Tryz.underlying3, Tryz.underlying116, fun _ => rfl⟩
def Fv (B : Nat) (W : World) (x : Int) (v : Value) : Prop :=
 (∃ b g, (x = 1 ∧ g = 91 ∨ x = 2 ∧ g = 92) ∧ v = .func (.func 147) #[] #[.pointer (some ⟨b, 0, none⟩)] ∧ b ≠ B ∧ W.heap[b]? = some (.cells #[.func (.func g) #[] #[]] 164 (0, 0))) ∨
 (∃ (b i : Nat), x = 3 + i ∧ i < 3 ∧ v = .func (.func 148) #[] #[.pointer (some ⟨b, 0, none⟩)] ∧ b ≠ B ∧ W.heap[b]? = some (.cells #[.int .i64 i] 3 (0, 0))) ∨
 (x = 9 ∧ v = .func (.func 94) #[] #[])
theorem Fv.kept {B : Nat} {W W' : World} {x : Int} {v : Value} (h : Fv B W x v) (hk : ∀ b, b ≠ B → b < W.heap.size → W'.heap[b]? = W.heap[b]?) : Fv B W' x v := by
 rcases h with ⟨b, g, h1, h2, h3, h4⟩ | ⟨b, i, h1, h2, h3, h4, h5⟩ | h
 ·exact .inl ⟨b, g, h1, h2, h3, (hk b h3 (Array.getElem?_eq_some_iff.1 h4).1).trans h4⟩
 ·exact .inr (.inl ⟨b, i, h1, h2, h3, h4, (hk b h4 (Array.getElem?_eq_some_iff.1 h5).1).trans h5⟩)
 ·exact .inr (.inr h)
structure Kd (w W : World) (B n : Nat) (f : Int → Option Value) : Prop where
 map : Kit.IMap Tryz.prog 3 W B n f
 bel : Below w.heap.size w W
 hB : w.heap.size ≤ B
 does : ∀ x v, f x = some v → Fv B W x v
theorem Kd.start (w : World) : Kd w (w.alloc (.map #[] 0)) w.heap.size 0 (fun _ => none) := ⟨Kit.IMap.made _ _ _, (Below.refl _ _).alloc nlr _, Nat.le_refl _, fun _ _ h => by cases h⟩
theorem Kd.alloc {w W : World} {B n : Nat} {f : Int → Option Value} (h : Kd w W B n f) (o : Obj) : Kd w (W.alloc o) B n f :=
 ⟨h.map.alloc o, h.bel.alloc h.bel.size o, h.hB, fun x v e => (h.does x v e).kept fun b _ hb => Below.heap_alloc _ _ _ hb⟩
theorem Kd.put {w W W' : World} {B n n' : Nat} {f : Int → Option Value} (h : Kd w W B n f) {p : Int} {u : Value} (hm : Kit.IMap Tryz.prog 3 W' B n' (Kit.putI f p u)) (hg : W.grownBy W' (some B)) (hu : Fv B W p u) : Kd w W' B n' (Kit.putI f p u) := by
 have hk : ∀ b, b ≠ B → b < W.heap.size → W'.heap[b]? = W.heap[b]? := fun b h1 h2 => hg.block b h2 (fun e => h1 (by simpa using e))
 refine ⟨hm, h.bel.grown hg h.bel.size (fun q hq => by cases hq; exact h.hB), h.hB, fun x v e => ?_⟩
 unfold Kit.putI at e
 split at e
 ·rename_i hx
  cases e
  exact hx ▸ hu.kept hk
 ·exact (h.does x v e).kept hk
end Uo
theorem Uo.fv_trav {w W : World} {B n : Nat} {f : Int → Option Value} (h : Uo.Kd w W B n f) (x : Int) (g : Nat) (hx : x = 1 ∧ g = 91 ∨ x = 2 ∧ g = 92) (b : Nat) (hb : b = W.heap.size) :
  Uo.Fv B (W.alloc (.cells #[.func (.func g) #[] #[]] 164)) x (.func (.func 147) #[] #[.pointer (some ⟨b, 0, none⟩)]) := by
 subst hb
 exact .inl ⟨_, g, hx, rfl, by have := h.map.lt; omega, World.alloc_heap_new _ _⟩
theorem Uo.fv_lim {w W : World} {B n : Nat} {f : Int → Option Value} (h : Uo.Kd w W B n f) (x : Int) (i : Nat) (hx : x = 3 + i) (hi : i < 3) (b : Nat) (hb : b = W.heap.size) :
  Uo.Fv B (W.alloc (.cells #[.int .i64 i] 3)) x (.func (.func 148) #[] #[.pointer (some ⟨b, 0, none⟩)]) := by
 subst hb
 exact .inr (.inl ⟨_, i, hx, hi, rfl, by have := h.map.lt; omega, World.alloc_heap_new _ _⟩)
theorem uo_kinds (w : World) : Calls Tryz.prog 52 #[] w fun e w' => ∃ B F, e = .returned (.map (some B)) ∧ Uo.Kd w w' B 6 F ∧ ∀ x, (F x).isSome = (x == 9 || x == 5 || x == 4 || x == 3 || x == 2 || x == 1) := by
 have hmm := @run_makeMap Tryz.prog
 have HK := qh (Uo.Kd.start w)
 go_enter Tryz.func52, Tryz.ntmps52
 go_wp2_with (first
  | (refine (uo_trav _ _).mono ?_; rintro _ w' ⟨rfl, rfl⟩)
  | (refine (uo_lim _ _).mono ?_; rintro _ w' ⟨rfl, rfl⟩)
  | (refine Kit.wpList_put_imap _ rfl _ _ _ _ (.inr rfl) 3 Uo.tF .nilFunc Uo.mt _ _ _ rfl (HK.out.alloc _).map ?hn _ rfl _ rfl ?wf ?_; (case hn => (unfold maxLen; omega)); (case wf => rfl); intro w1 hm hg; have HK2 := qh ((HK.out.alloc _).put hm hg (by first | (refine Uo.fv_trav HK.out 1 _ (.inl ⟨rfl, rfl⟩) _ ?_; first | rfl | (simp; done)) | (refine Uo.fv_trav HK.out 2 _ (.inr ⟨rfl, rfl⟩) _ ?_; first | rfl | (simp; done)) | (refine Uo.fv_lim HK.out 3 0 rfl omg _ ?_; first | rfl | (simp; done)) | (refine Uo.fv_lim HK.out 4 1 rfl omg _ ?_; first | rfl | (simp; done)) | (refine Uo.fv_lim HK.out 5 2 rfl omg _ ?_; first | rfl | (simp; done)))); clear HK hm hg; have HK := HK2; clear HK2)
  | (refine Kit.wpList_put_imap _ rfl _ _ _ _ (.inr rfl) 3 Uo.tF .nilFunc Uo.mt _ _ _ rfl HK.out.map ?hn _ rfl _ rfl ?wf ?_; (case hn => (unfold maxLen; omega)); (case wf => rfl); intro w1 hm hg; have HK2 := qh (HK.out.put hm hg (.inr (.inr ⟨rfl, rfl⟩))); clear HK hm hg; have HK := HK2; clear HK2))
 go_ret
 refine ⟨w.heap.size, rfl, _, HK.out, fun x => ?_⟩
 simp only [Kit.putI]
 by_cases h9 : x = 9
 ·simp [h9]
 by_cases h5 : x = 5
 ·simp [h5]
 by_cases h4 : x = 4
 ·simp [h4]
 by_cases h3 : x = 3
 ·simp [h3]
 by_cases h2 : x = 2
 ·simp [h2]
 by_cases h1 : x = 1
 ·simp [h1]
 simp [h9, h5, h4, h3, h2, h1]
end Go.Proofs.YtbhgogiaaljclaaGreatDoor
