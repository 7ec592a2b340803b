/- Walks: the laws of layer 27: small. Plain: '==' on states and boxes. Plain: one order of time alone; what sane of layer 27 reckons. Walks: the reference's Few (layer 27). -/
import Derived.Test.YtedolbjgdedoaaaGreatDoorMod
import Derived.Test.YtedolbjgdedoaaaGreatDoorMou
import Derived.Test.YtedolbjgdedoaaaGreatDoorEx
import Derived.Test.YtedolbjgdedoaaaGreatDoorKbx
import Derived.Test.YtedolbjgdedoaaaGreatDoorMom
import Derived.ChangeKeysEq
import Derived.Test.YtedolbjgdedoaaaGreatDoorMpe
import Derived.Test.YtedolbjgdedoaaaGreatDoorMox
import Derived.Test.YtedolbjgdedoaaaGreatDoorMoy
set_option linter.unusedSimpArgs false
set_option linter.unusedVariables false
set_option maxRecDepth 100000
set_option maxHeartbeats 4000000
namespace Go.Proofs.YtedolbjgdedoaaaGreatDoor
open Go.RowKit Go.Shelf
attribute [local go_sem] Oper.semAt_some
namespace Kit
theorem calls_nm {P : Program} {f : FuncId} {args : Array Value} {w : World} {Q : Ending → World → Prop} (h : ∀ W, W = w → Calls P f args W Q) : Calls P f args w Q := h w rfl
theorem res_one {P : Program} {fn : Func} {tmps : Array Value} {w : World} {c : Tmp} {ty : TypeId} {b : Nat} {T : TypeId} {cs : Array Value} (d : TypeDesc) (h : fn.results = #[.cell c ty]) (hc : tmps.getD c undef = .pointer (some ⟨b, 0, none⟩)) (hb : Kit.Bk w b T cs) (hu : P.underlying ty = some d) (hd : d.isRow = true) (hi : (P.info? ty).map (·.size) = some cs.size) : (results fn tmps).run P w = .ok (.agg cs) w := by
 have hl := Kit.run_bk (P := P) hb ty hu hd hi
 rw [Array.getD_eq_getD_getElem?] at hc
 simp [results, h, hc, asAddr, hl]
end Kit
namespace Mo
def smS : List Ex.Sg := [⟨3, 0, 0, 1, 1, 1, 1, 0, 2, 0, 0, 1, 1, 2⟩, ⟨5, 0, 0, 1, 6, 0, 0, 0, 2, 0, 1, 2, 1, 1⟩, ⟨6, 0, 0, 3, 4, 2, 3, 3, 0, 0, 0, 1, 1, 1⟩]
def smW : Ex.Wk := ⟨10, 10, 1, 0, 1, 1, [(⟨#[97]⟩, 2, 2, 0)], [(0, 100, 0)], [], [], smS⟩
abbrev smG : Array Value := #[.int .i64 3, .int .i64 0, .int .i64 0, .int .i64 1, .int .i64 1, .int .i64 1, .int .i64 1, .int .i64 0, .int .i64 2, .int .i64 0, .int .i64 0, .int .i64 1, .int .i64 1, .int .i64 2,
 .int .i64 5, .int .i64 0, .int .i64 0, .int .i64 1, .int .i64 6, .int .i64 0, .int .i64 0, .int .i64 0, .int .i64 2, .int .i64 0, .int .i64 1, .int .i64 2, .int .i64 1, .int .i64 1,
 .int .i64 6, .int .i64 0, .int .i64 0, .int .i64 3, .int .i64 4, .int .i64 2, .int .i64 3, .int .i64 3, .int .i64 0, .int .i64 0, .int .i64 0, .int .i64 1, .int .i64 1, .int .i64 1]
abbrev wkZ : Array Value := #[.int .i64 0, .int .i64 0, .int .i64 0, .int .i64 0, .int .i64 0, .slice none 0 0, .int .i64 0, .slice none 0 0, .slice none 0 0, .slice none 0 0, .slice none 0 0]
abbrev smC (p : Ex.Wa) : Array Value := #[.int .i64 10, .int .i64 10, .int .i64 1, .int .i64 0, .int .i64 1, .slice p.aR 1 p.cR, .int .i64 1, .slice p.aT 1 p.cT, .slice p.aP 0 p.cP, .slice p.aS 0 p.cS, .slice p.aG 3 p.cG]
theorem szWk (p : Ex.Wa) : (Tryz.prog.info? 32).map (·.size) = some (smC p).size := by kernel_rfl
theorem smC_one (p : Ex.Wa) : (smC p).all (·.oneCell') = true := by simp [smC, Value.oneCell']
theorem bk_sl {W : World} {b : Nat} {cs : Array Value} {t : TypeId} {n k : Nat} {f : Nat → Nat → Value} (h : Kit.Bk W b t cs) (hf : ∀ i j, i < n → j < k → cs[i * k + j]? = some (f i j)) : Tp.Sl W (some ⟨b, 0, none⟩) n k f := by
 refine .inr ⟨_, rfl, h.lt, fun i j hi hj => ?_⟩
 rw [Addr.add_lit, Nat.zero_add]
 exact (h.cell _).trans (hf i j hi hj)
end Mo
theorem lw_small (w : World) : Calls Tryz.prog 31 #[] w fun e w' => ∃ p, e = .returned (Ex.workV Mo.smW p) ∧ Ex.At w' Mo.smW p ∧ Below w.heap.size w w' := by
 have HQ := qh (fun n d W => lw_q n d W)
 go_enter Tryz.func31, Tryz.ntmps31
 go_wp2_with fail
 refine Kit.calls_nm ?_
 intro W1 hW1
 have HZ1 := qh (show Kit.Bk W1 w.heap.size 32 Mo.wkZ by rw [hW1]; exact ((Kit.Bk.new _ _ _).alloc _).alloc _)
 have HR1 := qh (show Kit.Bk W1 (w.heap.size + 1) 116 #[.string ⟨#[97]⟩, .int .i64 2, .int .i64 2, .int .i64 0] by
  rw [hW1]
  have h := Kit.Bk.new (w.alloc (.cells Mo.wkZ 32)) 116 #[.string ⟨#[97]⟩, .int .i64 2, .int .i64 2, .int .i64 0]
  rw [World.size_alloc] at h
  exact h.alloc _)
 have HT1 := qh (show Kit.Bk W1 (w.heap.size + 2) 156 #[.int .i64 0, .int .i64 100, .int .i64 0] by
  rw [hW1]
  have h := Kit.Bk.new ((w.alloc (.cells Mo.wkZ 32)).alloc (.cells #[.string ⟨#[97]⟩, .int .i64 2, .int .i64 2, .int .i64 0] 116)) 156 #[.int .i64 0, .int .i64 100, .int .i64 0]
  rw [World.size_alloc, World.size_alloc] at h
  exact h)
 have HB1 := qh (show Below w.heap.size w W1 by rw [hW1]; exact Kit.gr)
 clear hW1
 refine (HQ.out _ _ _).mono ?_
 rintro _ W2 ⟨rfl, hb2⟩
 go_wp2_with fail
 refine (HQ.out _ _ _).mono ?_
 rintro _ W3 ⟨rfl, hb3⟩
 go_wp2_with fail
 refine (HQ.out _ _ _).mono ?_
 rintro _ W4 ⟨rfl, hb4⟩
 go_wp2_with fail
 refine (HQ.out _ _ _).mono ?_
 rintro _ W5 ⟨rfl, hb5⟩
 go_wp2_with fail
 refine (HQ.out _ _ _).mono ?_
 rintro _ W6 ⟨rfl, hb6⟩
 go_wp2_with fail
 refine (HQ.out _ _ _).mono ?_
 rintro _ W7 ⟨rfl, hb7⟩
 have hb : Below W1.heap.size W1 W7 := hb2.trans ((hb3.trans ((hb4.trans ((hb5.trans ((hb6.trans (hb7.mono hb6.size)).mono hb5.size)).mono hb4.size)).mono hb3.size)).mono hb2.size)
 have HZ2 := qh (HZ1.out.below hb HZ1.out.lt)
 have HR2 := qh (HR1.out.below hb HR1.out.lt)
 have HT2 := qh (HT1.out.below hb HT1.out.lt)
 have HB2 := qh (HB1.out.trans (hb.mono HB1.out.size))
 clear hb hb2 hb3 hb4 hb5 hb6 hb7 HZ1 HR1 HT1 HB1 HQ
 go_wp2_with ((with_reducible refine Kit.store_bk0 ?_ 32 (.tmp 0) (.tmp 17) ?_ w.heap.size ?_ (Mo.smC ⟨some ⟨w.heap.size + 1, 0, none⟩, 1, some ⟨w.heap.size + 2, 0, none⟩, 1, none, 0, none, 0, some ⟨W7.heap.size, 0, none⟩, 3⟩) ?_ (HZ2.out.alloc _) ?_ (Mo.szWk _) (Mo.smC_one _) ?_); rfl; rfl; rfl; rfl; rfl; intro W8 hb8 hx8; have HB8 := qh hb8; have HX8 := qh hx8; clear hb8 hx8)
 have HG8 := qh ((Kit.Bk.new W7 60 Mo.smG).exc HX8.out (by have := HZ2.out.lt; omega))
 have HR8 := qh ((HR2.out.alloc _).exc HX8.out omg)
 have HT8 := qh ((HT2.out.alloc _).exc HX8.out omg)
 refine bodyPost_ret (Kit.res_one _ rfl rfl HB8.out Tryz.underlying32 rfl (Mo.szWk _)) rfl ?_
 refine ⟨⟨some ⟨w.heap.size + 1, 0, none⟩, 1, some ⟨w.heap.size + 2, 0, none⟩, 1, none, 0, none, 0, some ⟨W7.heap.size, 0, none⟩, 3⟩, rfl, ⟨?_, ?_, .inl rfl, .inl rfl, ?_, by simp [Mo.smW], by simp [Mo.smW], by simp [Mo.smW], by simp [Mo.smW], by simp [Mo.smW, Mo.smS]⟩, (HB2.out.alloc HB2.out.size _).trans (HX8.out.below (by simp; exact Nat.le_succ_of_le HB2.out.size) (fun k hk => by omega))⟩
 ·refine Mo.bk_sl HR8.out (fun i j hi hj => ?_)
  obtain rfl : i = 0 := by simpa [Mo.smW] using hi
  rcases (by omega : j = 0 ∨ j = 1 ∨ j = 2 ∨ j = 3) with rfl | rfl | rfl | rfl <;> rfl
 ·refine Mo.bk_sl HT8.out (fun i j hi hj => ?_)
  obtain rfl : i = 0 := by simpa [Mo.smW] using hi
  rcases (by omega : j = 0 ∨ j = 1 ∨ j = 2) with rfl | rfl | rfl <;> rfl
 ·refine Mo.bk_sl HG8.out (fun i j hi hj => ?_)
  have hi' : i < 3 := hi
  rcases (by omega : i = 0 ∨ i = 1 ∨ i = 2) with rfl | rfl | rfl
  all_goals rcases (by omega : j = 0 ∨ j = 1 ∨ j = 2 ∨ j = 3 ∨ j = 4 ∨ j = 5 ∨ j = 6 ∨ j = 7 ∨ j = 8 ∨ j = 9 ∨ j = 10 ∨ j = 11 ∨ j = 12 ∨ j = 13) with rfl | rfl | rfl | rfl | rfl | rfl | rfl | rfl | rfl | rfl | rfl | rfl | rfl | rfl <;> rfl
end Go.Proofs.YtedolbjgdedoaaaGreatDoor

namespace Go.Proofs.YtedolbjgdedoaaaGreatDoor
open Go.RowKit Go.Shelf
namespace Mo
theorem eq_ll (a b c d e f g h k l : Int) (w : World) : (Op.equalIn 9999 35 (.agg #[.int .i64 a, .int .i64 b, .int .i64 c, .int .i64 d, .int .i64 e, .int .i64 f, .int .i64 g, .int .i64 h, .int .i64 k, .int .i64 l]) (.agg #[.int .i64 a, .int .i64 b, .int .i64 c, .int .i64 d, .int .i64 e, .int .i64 f, .int .i64 g, .int .i64 h, .int .i64 k, .int .i64 l])).run Tryz.prog w = .ok true w := by
 have hc : Tryz.prog.cellsOf 34 = 2 := by kernel_rfl
 have p0 : ∀ (x y : Int) (W : World), (Op.equalIn 9998 34 (.agg #[.int .i64 x, .int .i64 y]) (.agg #[.int .i64 x, .int .i64 y])).run Tryz.prog W = .ok true W := fun x y W => by simp [go_sem]
 have q : ∀ (j : Nat) (x y : Int) (W : World) (hj : j < 5) (hx : [a, c, e, g, k].getD j 0 = x) (hy : [b, d, f, h, l].getD j 0 = y), (part 34 #[.int .i64 a, .int .i64 b, .int .i64 c, .int .i64 d, .int .i64 e, .int .i64 f, .int .i64 g, .int .i64 h, .int .i64 k, .int .i64 l] (j * 2)).run Tryz.prog W = .ok (.agg #[.int .i64 x, .int .i64 y]) W := fun j x y W hj hx hy => by
  subst hx hy
  obtain rfl | rfl | rfl | rfl | rfl : j = 0 ∨ j = 1 ∨ j = 2 ∨ j = 3 ∨ j = 4 := by omega
  all_goals kernel_rfl
 obtain ⟨i, hi⟩ := Option.isSome_iff_exists.1 (show (Tryz.prog.info? 34).isSome = true by kernel_rfl)
 refine (run_equalIn_array (P := Tryz.prog) (w := w) 9998 _ _ Tryz.underlying35 hi).trans ?_
 rw [hc]
 have q0 : ∀ W, (part 34 #[.int .i64 a, .int .i64 b, .int .i64 c, .int .i64 d, .int .i64 e, .int .i64 f, .int .i64 g, .int .i64 h, .int .i64 k, .int .i64 l] 0).run Tryz.prog W = .ok (.agg #[.int .i64 a, .int .i64 b]) W := fun W => q 0 a b W omg rfl rfl
 have q1 : ∀ W, (part 34 #[.int .i64 a, .int .i64 b, .int .i64 c, .int .i64 d, .int .i64 e, .int .i64 f, .int .i64 g, .int .i64 h, .int .i64 k, .int .i64 l] 2).run Tryz.prog W = .ok (.agg #[.int .i64 c, .int .i64 d]) W := fun W => q 1 c d W omg rfl rfl
 have q2 : ∀ W, (part 34 #[.int .i64 a, .int .i64 b, .int .i64 c, .int .i64 d, .int .i64 e, .int .i64 f, .int .i64 g, .int .i64 h, .int .i64 k, .int .i64 l] 4).run Tryz.prog W = .ok (.agg #[.int .i64 e, .int .i64 f]) W := fun W => q 2 e f W omg rfl rfl
 have q3 : ∀ W, (part 34 #[.int .i64 a, .int .i64 b, .int .i64 c, .int .i64 d, .int .i64 e, .int .i64 f, .int .i64 g, .int .i64 h, .int .i64 k, .int .i64 l] 6).run Tryz.prog W = .ok (.agg #[.int .i64 g, .int .i64 h]) W := fun W => q 3 g h W omg rfl rfl
 have q4 : ∀ W, (part 34 #[.int .i64 a, .int .i64 b, .int .i64 c, .int .i64 d, .int .i64 e, .int .i64 f, .int .i64 g, .int .i64 h, .int .i64 k, .int .i64 l] 8).run Tryz.prog W = .ok (.agg #[.int .i64 k, .int .i64 l]) W := fun W => q 4 k l W omg rfl rfl
 simp [List.range_succ, Op.eqItems, q0, q1, q2, q3, q4, p0]
theorem eq_st (s : St) (w : World) : (Op.equalIn 10000 37 (.agg (stA s)) (.agg (stA s))).run Tryz.prog w = .ok true w := by
 simp [go_sem, eq_ll]
theorem eq_bx (s : Bx) (w : World) : (Op.equalIn 10000 52 (.agg (bxA s)) (.agg (bxA s))).run Tryz.prog w = .ok true w := by
 simp [go_sem]
end Mo
end Go.Proofs.YtedolbjgdedoaaaGreatDoor

namespace Go.Proofs.YtedolbjgdedoaaaGreatDoor
open Go.RowKit Go.Shelf
namespace Mo
theorem bef_anti {a b : Ex.Sg} (h : bef a b) (k : bef b a) : a = b := by
 unfold bef at *
 omega
theorem of_uniq {x : Ex.Wk} {role bar : Int} {l l' : List Ex.Sg} (h : Of x role bar l) (k : Of x role bar l') : l = l' :=
 List.Perm.eq_of_pairwise (fun _ _ _ _ h1 h2 => bef_anti h1 h2) h.srt k.srt (h.perm.trans k.perm.symm)
theorem end_uniq {x : Ex.Wk} {role bar : Int} {s t t' : St} {r : List Uo.Re} {e e' : Int} (h : EndR x role bar s r t e) (k : EndR x role bar s r t' e') : t = t' ∧ e = e' := by
 unfold EndR at h k
 split at h
 ·rw [if_pos ‹_›] at k; exact ⟨h.1.trans k.1.symm, h.2.trans k.2.symm⟩
 rw [if_neg ‹_›] at k
 split at h
 ·rw [if_pos ‹_›] at k; exact ⟨h.1.trans k.1.symm, h.2.trans k.2.symm⟩
 rw [if_neg ‹_›] at k
 split at h
 ·rw [if_pos ‹_›] at k; exact ⟨h.1.trans k.1.symm, h.2.trans k.2.symm⟩
 rw [if_neg ‹_›] at k
 obtain ⟨l, hl, h⟩ := h
 obtain ⟨l', hl', k⟩ := k
 obtain rfl := of_uniq hl hl'
 split at h
 ·rw [if_pos ‹_›] at k; exact ⟨h.1.trans k.1.symm, h.2.trans k.2.symm⟩
 ·rw [if_neg ‹_›] at k; exact ⟨h.1.trans k.1.symm, h.2.trans k.2.symm⟩
theorem sw_uniq {x : Ex.Wk} {role bar : Int} {s : St} {b : Un.Bd} {t t' : Bx} {r : List Uo.Re} {e e' : Int} (h : SwR x role bar s b r t e) (k : SwR x role bar s b r t' e') : t = t' ∧ e = e' := by
 unfold SwR at h k
 split at h
 ·rw [if_pos ‹_›] at k; exact ⟨h.1.trans k.1.symm, h.2.trans k.2.symm⟩
 rw [if_neg ‹_›] at k
 split at h
 ·rw [if_pos ‹_›] at k; exact ⟨h.1.trans k.1.symm, h.2.trans k.2.symm⟩
 rw [if_neg ‹_›] at k
 split at h
 ·rw [if_pos ‹_›] at k; exact ⟨h.1.trans k.1.symm, h.2.trans k.2.symm⟩
 rw [if_neg ‹_›] at k
 split at h
 ·rw [if_pos ‹_›] at k; exact ⟨h.1.trans k.1.symm, h.2.trans k.2.symm⟩
 rw [if_neg ‹_›] at k
 obtain ⟨l, hl, h⟩ := h
 obtain ⟨l', hl', k⟩ := k
 obtain rfl := of_uniq hl hl'
 split at h
 ·rw [if_pos ‹_›] at k; exact ⟨h.1.trans k.1.symm, h.2.trans k.2.symm⟩
 ·rw [if_neg ‹_›] at k; exact ⟨h.1.trans k.1.symm, h.2.trans k.2.symm⟩
def smO : List Ex.Sg := [⟨3, 0, 0, 1, 1, 1, 1, 0, 2, 0, 0, 1, 1, 2⟩, ⟨6, 0, 0, 3, 4, 2, 3, 3, 0, 0, 0, 1, 1, 1⟩, ⟨5, 0, 0, 1, 6, 0, 0, 0, 2, 0, 1, 2, 1, 1⟩]
def smB : Un.Bd := ⟨⟨#[98]⟩, 50, 0, 1, 4, 0, 1, 2, 3, 9, 9, 9, 3, 3, 3, 0, 0⟩
def smT : St := ⟨58, 58, 0, 0, 0, 0, 0, 0, 0, 0, 0, 0, 0⟩
def drop3 : List Uo.Re := [(3, 0, 0, false), (5, 0, 0, false), (6, 0, 0, true)]
def up3 : List Uo.Re := [(3, 0, 0, false), (5, 0, 0, false), (6, 2, 2, false)]
theorem sm_of : Of smW 0 0 smO := by
 refine ⟨?_, ?_⟩
 ·have e : ofI smW 0 0 = smS := by kernel_rfl
  rw [e]
  exact List.Perm.cons _ (List.Perm.swap _ _ _)
 ·unfold smO bef
  simp
theorem sm_end {r : List Uo.Re} {t t' : St} {e : Int} (h : EndR smW 0 0 smT r t e) (hm : mot (ofI smW 0 0) r = true) (hf : fine r smO smT = true) (hl : last r smO smT = t') : t = t' ∧ e = 0 := by
 refine end_uniq h ?_
 unfold EndR
 rw [if_neg (by decide +kernel), if_neg (by decide +kernel), if_neg (by rw [hm]; decide)]
 exact ⟨smO, sm_of, by rw [if_pos hf]; exact ⟨hl.symm, rfl⟩⟩
theorem sm_sw {r : List Uo.Re} {t t' : Bx} {e : Int} (h : SwR smW 0 0 smT smB r t e) (hm : mot (ofI smW 0 0) r = true) (hf : fine r smO smT = true) (hl : sweep r smO smT smB = t') : t = t' ∧ e = 0 := by
 refine sw_uniq h ?_
 unfold SwR
 rw [if_neg (by decide +kernel), if_neg (by decide +kernel), if_neg (by decide +kernel), if_neg (by rw [hm]; decide)]
 exact ⟨smO, sm_of, by rw [if_pos hf]; exact ⟨hl.symm, rfl⟩⟩
theorem sm_e1 {t : St} {e : Int} (h : EndR smW 0 0 smT drop3 t e) : t = ⟨58, 116, 2, 0, 0, 0, 0, 0, 0, 0, 0, 0, 0⟩ ∧ e = 0 := sm_end h (by decide +kernel) (by decide +kernel) (by kernel_rfl)
theorem sm_e2 {t : St} {e : Int} (h : EndR smW 0 0 smT up3 t e) : t = ⟨58, 116, 2, 0, 0, 0, 0, 0, 0, 2, 2, 0, 0⟩ ∧ e = 0 := sm_end h (by decide +kernel) (by decide +kernel) (by kernel_rfl)
theorem sm_s1 {t : Bx} {e : Int} (h : SwR smW 0 0 smT smB drop3 t e) : t = ⟨841, 2523, 841, 4205⟩ ∧ e = 0 := sm_sw h (by decide +kernel) (by decide +kernel) (by kernel_rfl)
theorem sm_s2 {t : Bx} {e : Int} (h : SwR smW 0 0 smT smB up3 t e) : t = ⟨0, 3364, 0, 5046⟩ ∧ e = 0 := sm_sw h (by decide +kernel) (by decide +kernel) (by kernel_rfl)
theorem sm_e3 {t : St} {e : Int} (h : EndR smW 64 0 smT [] t e) : t = St.zero ∧ e = 1 := by
 unfold EndR at h
 rw [if_pos (by decide +kernel)] at h
 exact ⟨h.1, h.2.trans (by decide +kernel)⟩
theorem sm_c1 : chkE smW 0 0 [] = 270 := by decide +kernel
theorem sm_c2 : chkE smW 0 0 up3 = 0 := by decide +kernel
end Mo
end Go.Proofs.YtedolbjgdedoaaaGreatDoor

namespace Go.Proofs.YtedolbjgdedoaaaGreatDoor
open Go.RowKit Go.Shelf
def Mo.IsB (e : Ending) : Prop := ∃ b, e = .returned (.bool b)
theorem lw_few19m (x : Ex.Wk) (p : Ex.Wa) (w : World) : Calls Tryz.prog 32 #[Ex.workV x p] w fun e w' => Mo.IsB e ∧ Below w.heap.size w w' := by
 obtain ⟨wd, dp, ta, tb, tc, n, ro, ts, ps, ss, sg⟩ := x
 obtain ⟨aR, cR, aT, cT, aP, cP, aS, cS, aG, cG⟩ := p
 generalize hR : ro.length = nR
 generalize hT : ts.length = nT
 generalize hP : ps.length = nP
 generalize hS : ss.length = nS
 generalize hG : sg.length = nG
 unfold Ex.workV
 dsimp only
 rw [hR, hT, hP, hS, hG]
 clear hR hT hP hS hG
 go_enter Tryz.func32, Tryz.ntmps32
 go_wp2
 all_goals (go_ret; exact ⟨⟨_, rfl⟩, by exact Kit.gr⟩)
theorem lw_few27 (x : Ex.Wk) (p : Ex.Wa) (n : Nat) (aR : Option Addr) (cR : Nat) (w : World) : Calls Tryz.prog 11 #[Ex.workV x p, .slice aR n cR] w fun e w' => (∃ b, e = .returned (.bool b) ∧ (b = true → n ≤ 200)) ∧ Below w.heap.size w w' := by
 have HF := qh (fun W => lw_few19m x p W)
 obtain ⟨aRo, cRo, aT, cT, aP, cP, aS, cS, aG, cG⟩ := p
 dsimp only [Ex.workV, Ex.wv] at HF ⊢
 go_enter Tryz.func11, Tryz.ntmps11
 go_wp2_with fail
 refine (HF.out _).mono ?_
 rintro _ W2 ⟨⟨b, rfl⟩, hb⟩
 have HB := qh (show Below w.heap.size w W2 from Below.trans (B := w.heap.size) (by exact Kit.gr) (hb.mono (by first | (simp; done) | (simp; omega))))
 clear hb
 rcases b with _ | _
 ·go_wp2_with fail
  go_ret
  exact ⟨⟨false, rfl, fun h => (by cases h)⟩, HB.out⟩
 ·rcases d : decide ((n : Int) ≤ 200) with _ | _
  all_goals
   have HD := qh d
   clear d
  ·have d1 : decide (n ≤ 200) = false := by have := HD.out; simp at this ⊢; omega
   have d2 : decide ((n : Int) ≤ 200) = false := HD.out
   go_wp2_with fail
   go_ret
   exact ⟨⟨false, rfl, fun h => (by cases h)⟩, HB.out⟩
  ·have d1 : decide (n ≤ 200) = true := by have := HD.out; simp at this ⊢; omega
   have d2 : decide ((n : Int) ≤ 200) = true := HD.out
   go_wp2_with fail
   go_ret
   exact ⟨⟨true, rfl, fun _ => of_decide_eq_true d1⟩, HB.out⟩
end Go.Proofs.YtedolbjgdedoaaaGreatDoor
