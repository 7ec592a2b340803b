/- Walks: package motion: way (the states on the way, as an iterator). Walks: package motion: End. Walks: package motion: Check, square, join. Walks: package motion: Sweep: where it errs ahead of the way. -/
import Derived.Test.YtedolbjgdedoaaaGreatDoorMoH
import Derived.Test.YtedolbjgdedoaaaGreatDoorMok
import Derived.Test.YtedolbjgdedoaaaGreatDoorKbx
import Derived.Sort.CutIn
import Derived.Test.YtedolbjgdedoaaaGreatDoorKxc
import Derived.Test.YtedolbjgdedoaaaGreatDoorSpi
import Derived.Test.YtedolbjgdedoaaaGreatDoorUna
set_option linter.unusedSimpArgs false
set_option linter.unusedVariables false
set_option maxRecDepth 100000
set_option maxHeartbeats 8000000
namespace Go.Proofs.YtedolbjgdedoaaaGreatDoor
open Go.RowKit Go.Shelf
attribute [local go_sem] Oper.semAt_some
namespace Mo
abbrev encW (x : St × Int) : Array Value := #[.agg (stA x.1), .int .i64 x.2]
def ZW (BL : Nat) (aM : Option Addr) (m : List (Ex.Sg × Uo.Re)) (k : Nat) : Prop := k = BL ∨ k = 1 ∨ (m ≠ [] ∧ ∃ ad, aM = some ad ∧ k = ad.block)
theorem sv_kq {Z : Nat → Prop} {W A : World} {aM : Option Addr} {m : List (Ex.Sg × Uo.Re)} (h : Kit.Kq Z W A) (hs : Kit.Sv W aM 18 spC m) (hz : m ≠ [] → ∀ ad, aM = some ad → Z ad.block) : Kit.Sv A aM 18 spC m := by
 by_cases hm : m = []
 ·exact .inl hm
 ·exact h.sv hs (hz hm)
theorem flat_kq {Z : Nat → Prop} {W A : World} (h : Kit.Kq Z W A) (hF : Uo.Flat W) (hz : Z 1) : Uo.Flat A :=
 ⟨Nat.lt_of_lt_of_le hF.1 h.size, fun k hk => ⟨h.cell hz (hF.2 k hk).1, h.cell hz (hF.2 k hk).2⟩⟩
theorem tr_step (m : List (Ex.Sg × Uo.Re)) (s : St) (i : Nat) (x : Ex.Sg × Uo.Re) (hx : m[i]? = some x) : tr (m.drop i) s = if ok (act s x.1 x.2) = true then (act s x.1 x.2, 0) :: tr (m.drop (i + 1)) (act s x.1 x.2) else [(St.zero, 2)] := by
 obtain ⟨h, e⟩ := List.getElem?_eq_some_iff.1 hx
 rw [List.drop_eq_getElem_cons h, e]
 rfl
theorem szP (x : Ex.Sg × Uo.Re) : (Tryz.prog.info? 98).map (·.size) = some (spC x).toArray.size := by kernel_rfl
theorem alloc_sp (ev : Operand → Value) (W : World) (d : Option Tmp) (ty : TypeId) (po : String) (af : Array Edge) : (execOp ev { dst := d, op := .alloc 98, type := ty, pos := po, after := af, guard := none }).run Tryz.prog W = .ok (.value (.pointer (some ⟨W.heap.size, 0, none⟩))) (W.alloc (.cells (spC (⟨0, 0, 0, 0, 0, 0, 0, 0, 0, 0, 0, 0, 0, 0⟩, (0, 0, 0, false))).toArray 98)) := by kernel_rfl
theorem idx_sp (ev : Operand → Value) (W : World) (d : Option Tmp) (ty : TypeId) (po : String) (af : Array Edge) (x y : Operand) (ad : Addr) (n c i : Nat) (h1 : ev x = .slice (some ad) n c) (h2 : ev y = .int .i64 i) (hlt : i < n) : (execOp ev { dst := d, op := .indexAddr 86 x y, type := ty, pos := po, after := af, guard := none }).run Tryz.prog W = .ok (.value (.pointer (some (ad.add (i * 18))))) W := by
 have hz : (i : Int) < n := by omega
 simp [execOp, h1, h2, go_sem, hlt, hz]
theorem spA_one (x : Ex.Sg × Uo.Re) : (spC x).toArray.all (·.oneCell') = true := by simp [spC, sgC, reC, Value.oneCell']
end Mo
theorem mo_way (s : Mo.St) (a : Option Addr) (n c : Nat) (w : World) : Calls Tryz.prog 34 #[.agg (Mo.stA s), .slice a n c] w fun e w' => e = .returned (.func (.func 72) #[] #[.pointer (some ⟨w.heap.size, 0, none⟩), .pointer (some ⟨w.heap.size + 1, 0, none⟩)]) ∧ w' = (w.alloc (.cells (Mo.stA s) 37)).alloc (.cells #[.slice a n c] 86) := by
 go_enter Tryz.func34, Tryz.ntmps34
 go_wp2_with fail
 go_ret
 exact ⟨rfl, rfl⟩
theorem mo_iter (n : Nat) (hn : 1 ≤ n) (BS BL : Nat) (m : List (Ex.Sg × Uo.Re)) (s0 : Mo.St) (aM : Option Addr) (cM : Nat) (w : World)
  (hm : ∀ x ∈ m, Mo.Fit x.1 ∧ Mo.form x.1 x.2 = true) (hs : Mo.ok s0 = true) (hlen : m.length ≤ 4096) (hF : Uo.Flat w) (bS : Kit.Bk w BS 37 (Mo.stA s0)) (bL : Kit.Bk w BL 86 #[.slice aM m.length cM]) (hM : Kit.Sv w aM 18 Mo.spC m)
  (n1 : BS ≠ BL) (n2 : BS ≠ 1) (n3 : m ≠ [] → ∀ ad, aM = some ad → ad.block ≠ BS) :
  Kit.SeqR Fence.wide n Tryz.prog 72 #[.pointer (some ⟨BS, 0, none⟩), .pointer (some ⟨BL, 0, none⟩)] Mo.encW (fun k => k = BS) (Mo.ZW BL aM m) (fun xs => xs = Mo.all m s0) (fun _ => True) (fun pre x => ∃ post, pre ++ x :: post = Mo.all m s0) w := by
 intro l J Jx Y0 W hW hl1 hl2 hY0 hJ hJx hY h0
 have hZ : ∀ k, Mo.ZW BL aM m k → k < w.heap.size := fun k hk => by
  rcases hk with rfl | rfl | ⟨hne, ad, h1, rfl⟩
  ·exact bL.lt
  ·exact hF.1
  ·rcases hM with h | ⟨ad', h2, h3, _⟩
   ·exact absurd h hne
   ·rw [h1] at h2; cases h2; exact h3
 have hZS : ∀ k, Mo.ZW BL aM m k → k ≠ BS := fun k hk => by
  rcases hk with rfl | rfl | ⟨hne, ad, h1, rfl⟩
  ·exact fun e => n1 e.symm
  ·exact fun e => n2 e.symm
  ·exact n3 hne ad h1
 have hKW : Kit.Kq (Mo.ZW BL aM m) W W := Kit.Kq.refl (fun k hk => Nat.lt_of_lt_of_le (hZ k hk) hW.size)
 have hFW := hF.kept hW nlr
 have hbL := bL.below hW bL.lt
 have hbS := bS.below hW bS.lt
 have hsM := hM.then hW
 have hSl : BS < w.heap.size := bS.lt
 have KC : ∀ X, Kit.Kq (Mo.ZW BL aM m) W X → Uo.Flat X ∧ Kit.Bk X BL 86 #[.slice aM m.length cM] ∧ Kit.Sv X aM 18 Mo.spC m := fun X h =>
  ⟨Mo.flat_kq h hFW (.inr (.inl rfl)), h.bk (.inl rfl) hbL, Mo.sv_kq h hsM (fun hne ad e => .inr (.inr ⟨hne, ad, e, rfl⟩))⟩
 have EY : ∀ (s : Mo.St) (Y Y3 : Nat → Prop) (A W3 : World), Kit.Kq (Mo.ZW BL aM m) W A → Kit.Bk A BS 37 (Mo.stA s) → (∀ k, Y k → (¬ Mo.ZW BL aM m k ∧ k ≠ BS) ∧ k < A.heap.size) → Kit.Exc (fun b => Y b ∨ b = l) A W3 → (∀ b, Y3 b → (Y b ∨ A.heap.size ≤ b) ∧ b < W3.heap.size) →
   Hid (Kit.Kq (Mo.ZW BL aM m) W W3) ∧ Hid (Kit.Bk W3 BS 37 (Mo.stA s)) ∧ Hid (∀ k, Y3 k → (¬ Mo.ZW BL aM m k ∧ k ≠ BS) ∧ k < W3.heap.size) := fun s Y Y3 A W3 hK hB hYn hx hy =>
  ⟨hK.exc hx (fun k hk h => h.elim (fun h => (hYn k h).1.1 hk) (fun e => by have := hZ k hk; omega)),
   hB.exc hx (fun h => h.elim (fun h => (hYn _ h).1.2 rfl) (fun e => by omega)),
   fun k hk => ⟨(hy k hk).1.elim (fun h => (hYn k h).1) (fun h => ⟨fun hz => by
    have h1 := (hK.blk k hz).1
    have h2 := hK.size
    omega, fun e => by have := hK.size; have := hW.size; omega⟩), (hy k hk).2⟩⟩
 have HY := qh hY
 have HJ := qh hJ
 have HJX := qh hJx
 have HY0 := qh (show ∀ k, Y0 k → (¬ Mo.ZW BL aM m k ∧ k ≠ BS) ∧ k < W.heap.size from fun k hk => ⟨⟨(hY0 k hk).2.2, (hY0 k hk).2.1⟩, Nat.lt_of_lt_of_le (hY0 k hk).1 hW.size⟩)
 have HLW := qh hl2
 have HKC := qh KC
 have HKW := qh hKW
 have HEY := qh EY
 have HBS := qh hbS
 have HZS := qh hZS
 have HOK := qh hs
 have HMM := qh hm
 have HJ0 := qh h0
 have HSL := qh (show BS < W.heap.size from hbS.lt)
 have c0 : W.cell? ⟨BS, 0, none⟩ = some (.int .i64 s0.x) := (hbS.cell 0).trans rfl
 have c1 : W.cell? ⟨BS, 1, none⟩ = some (.int .i64 s0.y) := (hbS.cell 1).trans rfl
 have c2 : W.cell? ⟨BS, 2, none⟩ = some (.int .i64 s0.f) := (hbS.cell 2).trans rfl
 have c3 : W.cell? ⟨BS, 3, none⟩ = some (.int .i64 s0.d0) := (hbS.cell 3).trans rfl
 have c4 : W.cell? ⟨BS, 4, none⟩ = some (.int .i64 s0.v0) := (hbS.cell 4).trans rfl
 have c5 : W.cell? ⟨BS, 5, none⟩ = some (.int .i64 s0.d1) := (hbS.cell 5).trans rfl
 have c6 : W.cell? ⟨BS, 6, none⟩ = some (.int .i64 s0.v1) := (hbS.cell 6).trans rfl
 have c7 : W.cell? ⟨BS, 7, none⟩ = some (.int .i64 s0.d2) := (hbS.cell 7).trans rfl
 have c8 : W.cell? ⟨BS, 8, none⟩ = some (.int .i64 s0.v2) := (hbS.cell 8).trans rfl
 have c9 : W.cell? ⟨BS, 9, none⟩ = some (.int .i64 s0.d3) := (hbS.cell 9).trans rfl
 have c10 : W.cell? ⟨BS, 10, none⟩ = some (.int .i64 s0.v3) := (hbS.cell 10).trans rfl
 have c11 : W.cell? ⟨BS, 11, none⟩ = some (.int .i64 s0.d4) := (hbS.cell 11).trans rfl
 have c12 : W.cell? ⟨BS, 12, none⟩ = some (.int .i64 s0.v4) := (hbS.cell 12).trans rfl
 obtain ⟨fn, tmps, assign, body, hyy, hR⟩ := hY [] (s0, 0) Y0 W h0 ⟨Mo.tr m s0, rfl⟩
 dsimp only [Mo.encW] at hyy hR
 clear hZ hZS hKW hFW hbL hbS hsM KC EY hY hJ hJx hY0 hm hs hF bS bL hM n1 n2 n3 h0 hSl
 refine callsIn_of_wp Tryz.func72 rfl trivial ?_ rfl
 simp only [Tryz.ntmps72, List.size_toArray, List.length_cons, List.length_nil, Nat.reduceAdd, Nat.reduceSub, Array.replicate_succ, Array.replicate_zero, List.push_toArray, List.append_toArray, List.nil_append, List.cons_append]
 gi_wp2
 refine hR.mono ?_
 rintro e W1 ⟨Y1, hx1, hy1, (⟨rfl, hj1⟩ | ⟨rfl, hj1⟩)⟩
 case inr =>
  have HJ1 := qh hj1
  clear hx1 hy1 hj1 hyy hR
  gi_wp2
  refine bodyPost_ret (results_none rfl _ _ _) rfl ?_
  exact ⟨⟨_, rfl⟩, Y1, .inr ⟨_, trivial, HJ1.out⟩⟩
 obtain ⟨HK1, HB1, HYK1⟩ := HEY.out s0 Y0 Y1 W W1 HKW.out HBS.out HY0.out hx1 hy1
 have HJ1 := qh hj1
 clear hx1 hy1 hj1 hyy hR c0 c1 c2 c3 c4 c5 c6 c7 c8 c9 c10 c11 c12
 have cL := ((HKC.out _ HK1.out).2.1.cell 0).trans rfl
 gi_wp2
 gi_loopw [14] (fun v14 wr => ∃ (i : Nat) (Y : Nat → Prop) (pre : List (Mo.St × Int)) (s : Mo.St), v14 = .int .i64 i ∧ i ≤ m.length ∧ J pre Y wr ∧ Hid (Kit.Kq (Mo.ZW BL aM m) W wr) ∧ Hid (Kit.Bk wr BS 37 (Mo.stA s)) ∧ Hid (∀ k, Y k → (¬ Mo.ZW BL aM m k ∧ k ≠ BS) ∧ k < wr.heap.size) ∧ Hid (Mo.ok s = true) ∧ Hid (pre ++ Mo.tr (m.drop i) s = Mo.all m s0))
  (fun v14 _ => m.length - (intOf v14).toNat)
 case atStart => exact ⟨0, Y1, [(s0, 0)], s0, rfl, Nat.zero_le _, HJ1.out, HK1, HB1, HYK1, HOK, qh rfl⟩
 case round =>
  obtain ⟨i, Y, pre, s, rfl, hi, hj, HK, HB, HYN, HO, HP⟩ := hrel
  have HJP := qh hj
  clear hj
  by_cases hlt : i < m.length
  ·have hltz : (i : Int) < (m.length : Int) := by omega
   obtain ⟨x, hx⟩ : ∃ x, m[i]? = some x := ⟨_, List.getElem?_eq_getElem hlt⟩
   obtain ⟨hfit, hform⟩ := HMM.out x (List.mem_of_getElem? hx)
   have HST := qh (Mo.tr_step m s i x hx)
   obtain ⟨_, _, hSv⟩ := HKC.out _ HK.out
   obtain ⟨ad, rfl, hadb⟩ := hSv.isSome omg
   have HRUN := qh (hSv.run hlt 98 x hx _ (Mo.spC_len x) Tryz.underlying98 rfl (Mo.szP x))
   have HFit := qh hfit
   have HForm := qh hform
   clear hx hSv hfit hform hadb
   gi_upto_region 3 with fail
   refine wpIn_region_lit ?_
   refine Kit.wpListIn_run rfl (by intro c h; cases h) (by intro c h; cases h) (.pointer (some (ad.add (i * 18)))) wr (Mo.idx_sp _ _ _ _ _ _ _ _ ad m.length cM i rfl rfl hlt) ?_
   refine Kit.wpListIn_run rfl (by intro c h; cases h) (by intro c h; cases h) (.agg (Mo.spC x).toArray) wr (Kit.run_load_at 98 (.tmp 16) rfl _ rfl _ HRUN.out) ?_
   refine Kit.wpListIn_run rfl (by intro c h; cases h) (by intro c h; cases h) (.pointer (some ⟨wr.heap.size, 0, none⟩)) _ (Mo.alloc_sp _ _ _ _ _ _) ?_
   refine Kit.wpListIn_store_bk0 rfl 98 (.tmp 5) (.tmp 17) rfl wr.heap.size rfl (Mo.spC x).toArray rfl (Kit.Bk.new wr _ _) rfl (Mo.szP x) (Mo.spA_one x) ?_
   intro W5 hb5 hx5
   have HBW5 := qh (show Below wr.heap.size wr W5 from (((Kit.Exc.refl (fun j => j = wr.heap.size) wr).alloc _).trans hx5).below nlr (fun k hk => by omega))
   obtain ⟨B5, hB5⟩ : ∃ b, wr.heap.size = b := ⟨_, rfl⟩
   have HQ5 := qh (hB5 ▸ hb5)
   have HK5 := qh (HK.out.then HBW5.out)
   have HB5 := qh (HB.out.below HBW5.out HB.out.lt)
   rw [hB5]
   clear hb5 hx5 hB5
   simp only [Act.put]
   go_simp
   have c0 : W5.cell? ⟨BS, 0, none⟩ = some (.int .i64 s.x) := (HB5.out.cell 0).trans rfl
   have c1 : W5.cell? ⟨BS, 1, none⟩ = some (.int .i64 s.y) := (HB5.out.cell 1).trans rfl
   have c2 : W5.cell? ⟨BS, 2, none⟩ = some (.int .i64 s.f) := (HB5.out.cell 2).trans rfl
   have c3 : W5.cell? ⟨BS, 3, none⟩ = some (.int .i64 s.d0) := (HB5.out.cell 3).trans rfl
   have c4 : W5.cell? ⟨BS, 4, none⟩ = some (.int .i64 s.v0) := (HB5.out.cell 4).trans rfl
   have c5 : W5.cell? ⟨BS, 5, none⟩ = some (.int .i64 s.d1) := (HB5.out.cell 5).trans rfl
   have c6 : W5.cell? ⟨BS, 6, none⟩ = some (.int .i64 s.v1) := (HB5.out.cell 6).trans rfl
   have c7 : W5.cell? ⟨BS, 7, none⟩ = some (.int .i64 s.d2) := (HB5.out.cell 7).trans rfl
   have c8 : W5.cell? ⟨BS, 8, none⟩ = some (.int .i64 s.v2) := (HB5.out.cell 8).trans rfl
   have c9 : W5.cell? ⟨BS, 9, none⟩ = some (.int .i64 s.d3) := (HB5.out.cell 9).trans rfl
   have c10 : W5.cell? ⟨BS, 10, none⟩ = some (.int .i64 s.v3) := (HB5.out.cell 10).trans rfl
   have c11 : W5.cell? ⟨BS, 11, none⟩ = some (.int .i64 s.d4) := (HB5.out.cell 11).trans rfl
   have c12 : W5.cell? ⟨BS, 12, none⟩ = some (.int .i64 s.v4) := (HB5.out.cell 12).trans rfl
   have d0 : W5.cell? ⟨B5, 0, none⟩ = some (.int .i64 x.1.id) := (HQ5.out.cell 0).trans rfl
   have d1 : W5.cell? ⟨B5, 1, none⟩ = some (.int .i64 x.1.role) := (HQ5.out.cell 1).trans rfl
   have d2 : W5.cell? ⟨B5, 2, none⟩ = some (.int .i64 x.1.bar) := (HQ5.out.cell 2).trans rfl
   have d3 : W5.cell? ⟨B5, 3, none⟩ = some (.int .i64 x.1.mark) := (HQ5.out.cell 3).trans rfl
   have d4 : W5.cell? ⟨B5, 4, none⟩ = some (.int .i64 x.1.kind) := (HQ5.out.cell 4).trans rfl
   have d5 : W5.cell? ⟨B5, 5, none⟩ = some (.int .i64 x.1.side) := (HQ5.out.cell 5).trans rfl
   have d6 : W5.cell? ⟨B5, 6, none⟩ = some (.int .i64 x.1.dir) := (HQ5.out.cell 6).trans rfl
   have d7 : W5.cell? ⟨B5, 7, none⟩ = some (.int .i64 x.1.level) := (HQ5.out.cell 7).trans rfl
   have d8 : W5.cell? ⟨B5, 8, none⟩ = some (.int .i64 x.1.size) := (HQ5.out.cell 8).trans rfl
   have d9 : W5.cell? ⟨B5, 9, none⟩ = some (.int .i64 x.1.wth) := (HQ5.out.cell 9).trans rfl
   have d10 : W5.cell? ⟨B5, 10, none⟩ = some (.int .i64 x.1.fn) := (HQ5.out.cell 10).trans rfl
   have d11 : W5.cell? ⟨B5, 11, none⟩ = some (.int .i64 x.1.fd) := (HQ5.out.cell 11).trans rfl
   have d12 : W5.cell? ⟨B5, 12, none⟩ = some (.int .i64 x.1.tn) := (HQ5.out.cell 12).trans rfl
   have d13 : W5.cell? ⟨B5, 13, none⟩ = some (.int .i64 x.1.td) := (HQ5.out.cell 13).trans rfl
   have d14 : W5.cell? ⟨B5, 14, none⟩ = some (.int .i64 x.2.1) := (HQ5.out.cell 14).trans rfl
   have d15 : W5.cell? ⟨B5, 15, none⟩ = some (.int .i64 x.2.2.1) := (HQ5.out.cell 15).trans rfl
   have d16 : W5.cell? ⟨B5, 16, none⟩ = some (.int .i64 x.2.2.2.1) := (HQ5.out.cell 16).trans rfl
   have d17 : W5.cell? ⟨B5, 17, none⟩ = some (.bool x.2.2.2.2) := (HQ5.out.cell 17).trans rfl
   have HFl := qh (HKC.out _ HK5.out).1
   have haf := po_after s x.1 x.2 W5 HFit.out HForm.out HO.out HFl.out
   obtain ⟨t, ht⟩ : ∃ t, Mo.act s x.1 x.2 = t := ⟨_, rfl⟩
   rw [ht] at haf HST
   clear ht
   rcases hok : Mo.ok t with _ | _
   ·rw [hok, if_neg (by decide), if_neg (by decide)] at haf
    have HST2 := qh (HST.out.trans (if_neg (by rw [hok]; decide)))
    have HAF := qh haf
    skip
    clear haf hok HST
    gi_wp2
    refine ⟨trivial, CallsIn.mono (callsIn_wide.2 HAF.out) ?_⟩
    rintro e W6 ⟨rfl, hb6⟩
    have HB6 := qh hb6
    clear hb6 HAF c0 c1 c2 c3 c4 c5 c6 c7 c8 c9 c10 c11 c12 d0 d1 d2 d3 d4 d5 d6 d7 d8 d9 d10 d11 d12 d13 d14 d15 d16 d17
    gi_upto_region 5 with fail
    refine Kit.wpIn_name ?_
    intro W7 hW7
    have HBW6 := qh (show Below wr.heap.size wr W6 from HBW5.out.trans (HB6.out.mono HBW5.out.size))
    have HBW7 := qh (show Below wr.heap.size wr W7 by rw [hW7]; exact HBW6.out.alloc HBW6.out.size _)
    have HQ7 := qh (show Kit.Bk W7 W6.heap.size 37 (Mo.stA Mo.St.zero) by rw [hW7]; exact Kit.Bk.new _ _ _)
    have HK7 := qh (HK.out.then HBW7.out)
    have HB7 := qh (HB.out.below HBW7.out HB.out.lt)
    have HJ7 := qh (HJ.out _ _ _ _ HJP.out ((Kit.Exc.refl _ wr).then HBW7.out))
    have HYN7 := qh (show ∀ k, Y k → (¬ Mo.ZW BL (some ad) m k ∧ k ≠ BS) ∧ k < W7.heap.size from fun k hk => ⟨(HYN.out k hk).1, Nat.lt_of_lt_of_le (HYN.out k hk).2 HBW7.out.size⟩)
    have HNB := qh (show ¬ (Y W6.heap.size ∨ W6.heap.size = l) from fun h => h.elim (fun h => by have := (HYN.out _ h).2; have := HBW6.out.size; omega) (fun e => by have := HBW6.out.size; have := HK.out.size; have := HLW.out; omega))
    obtain ⟨B7, hB7⟩ : ∃ b, W6.heap.size = b := ⟨_, rfl⟩
    rw [hB7] at HQ7 HNB ⊢
    clear hW7 hB7 HB6 HBW6 HBW5 HQ5 HK5 HB5 HFl
    obtain ⟨fn, tmps, assign, body, hyy, hR⟩ := HY.out pre (Mo.St.zero, 2) Y _ HJ7.out ⟨[], by rw [← HP.out, HST2.out]⟩
    dsimp only [Mo.encW] at hyy hR
    have e0 : W7.cell? ⟨B7, 0, none⟩ = some (.int .i64 0) := (HQ7.out.cell 0).trans rfl
    have e1 : W7.cell? ⟨B7, 1, none⟩ = some (.int .i64 0) := (HQ7.out.cell 1).trans rfl
    have e2 : W7.cell? ⟨B7, 2, none⟩ = some (.int .i64 0) := (HQ7.out.cell 2).trans rfl
    have e3 : W7.cell? ⟨B7, 3, none⟩ = some (.int .i64 0) := (HQ7.out.cell 3).trans rfl
    have e4 : W7.cell? ⟨B7, 4, none⟩ = some (.int .i64 0) := (HQ7.out.cell 4).trans rfl
    have e5 : W7.cell? ⟨B7, 5, none⟩ = some (.int .i64 0) := (HQ7.out.cell 5).trans rfl
    have e6 : W7.cell? ⟨B7, 6, none⟩ = some (.int .i64 0) := (HQ7.out.cell 6).trans rfl
    have e7 : W7.cell? ⟨B7, 7, none⟩ = some (.int .i64 0) := (HQ7.out.cell 7).trans rfl
    have e8 : W7.cell? ⟨B7, 8, none⟩ = some (.int .i64 0) := (HQ7.out.cell 8).trans rfl
    have e9 : W7.cell? ⟨B7, 9, none⟩ = some (.int .i64 0) := (HQ7.out.cell 9).trans rfl
    have e10 : W7.cell? ⟨B7, 10, none⟩ = some (.int .i64 0) := (HQ7.out.cell 10).trans rfl
    have e11 : W7.cell? ⟨B7, 11, none⟩ = some (.int .i64 0) := (HQ7.out.cell 11).trans rfl
    have e12 : W7.cell? ⟨B7, 12, none⟩ = some (.int .i64 0) := (HQ7.out.cell 12).trans rfl
    unfold Mo.St.zero at hyy hR
    gi_wp2
    refine hR.mono ?_
    rintro e W8 ⟨Y8, hx8, hy8, (⟨rfl, hj8⟩ | ⟨rfl, hj8⟩)⟩
    case inr =>
     have HJ8 := qh hj8
     clear hx8 hy8 hj8 hyy hR e0 e1 e2 e3 e4 e5 e6 e7 e8 e9 e10 e11 e12
     gi_wp2
     refine bodyPost_ret (results_none rfl _ _ _) rfl ?_
     exact ⟨⟨_, rfl⟩, Y8, .inr ⟨_, trivial, HJ8.out⟩⟩
    obtain ⟨HK8, HB8, HYK8⟩ := HEY.out s Y Y8 W7 W8 HK7.out HB7.out HYN7.out hx8 hy8
    have HQ8 := qh (HQ7.out.exc hx8 HNB.out)
    have HJ8 := qh hj8
    clear hx8 hy8 hj8 hyy hR e0 e1 e2 e3 e4 e5 e6 e7 e8 e9 e10 e11 e12
    gi_wp2
    refine bodyPost_ret (results_none rfl _ _ _) rfl ?_
    exact ⟨⟨_, rfl⟩, Y8, .inl ⟨_, by rw [← HP.out, HST2.out]; rfl, HJ8.out⟩⟩
   ·rw [hok, if_pos rfl, if_pos rfl] at haf
    have HST2 := qh (HST.out.trans (if_pos hok))
    have HAF := qh haf
    have HOT := qh hok
    clear haf hok HST
    gi_wp2
    refine ⟨trivial, CallsIn.mono (callsIn_wide.2 HAF.out) ?_⟩
    rintro e W6 ⟨rfl, hb6⟩
    have HB6 := qh hb6
    clear hb6 HAF c0 c1 c2 c3 c4 c5 c6 c7 c8 c9 c10 c11 c12 d0 d1 d2 d3 d4 d5 d6 d7 d8 d9 d10 d11 d12 d13 d14 d15 d16 d17
    gi_upto_region 5 with fail
    refine Kit.wpIn_name ?_
    intro W7 hW7
    have HBW6 := qh (show Below wr.heap.size wr W6 from HBW5.out.trans (HB6.out.mono HBW5.out.size))
    have HBW7 := qh (show Below wr.heap.size wr W7 by rw [hW7]; exact HBW6.out.alloc HBW6.out.size _)
    have HQ7 := qh (show Kit.Bk W7 W6.heap.size 37 (Mo.stA t) by rw [hW7]; exact Kit.Bk.new _ _ _)
    have HK7 := qh (HK.out.then HBW7.out)
    have HB7 := qh (HB.out.below HBW7.out HB.out.lt)
    have HJ7 := qh (HJ.out _ _ _ _ HJP.out ((Kit.Exc.refl _ wr).then HBW7.out))
    have HYN7 := qh (show ∀ k, Y k → (¬ Mo.ZW BL (some ad) m k ∧ k ≠ BS) ∧ k < W7.heap.size from fun k hk => ⟨(HYN.out k hk).1, Nat.lt_of_lt_of_le (HYN.out k hk).2 HBW7.out.size⟩)
    have HNB := qh (show ¬ (Y W6.heap.size ∨ W6.heap.size = l) from fun h => h.elim (fun h => by have := (HYN.out _ h).2; have := HBW6.out.size; omega) (fun e => by have := HBW6.out.size; have := HK.out.size; have := HLW.out; omega))
    obtain ⟨B7, hB7⟩ : ∃ b, W6.heap.size = b := ⟨_, rfl⟩
    rw [hB7] at HQ7 HNB ⊢
    clear hW7 hB7 HB6 HBW6 HBW5 HQ5 HK5 HB5 HFl
    obtain ⟨fn, tmps, assign, body, hyy, hR⟩ := HY.out pre (t, 0) Y _ HJ7.out ⟨Mo.tr (m.drop (i + 1)) t, by rw [← HP.out, HST2.out]⟩
    dsimp only [Mo.encW] at hyy hR
    have e0 : W7.cell? ⟨B7, 0, none⟩ = some (.int .i64 t.x) := (HQ7.out.cell 0).trans rfl
    have e1 : W7.cell? ⟨B7, 1, none⟩ = some (.int .i64 t.y) := (HQ7.out.cell 1).trans rfl
    have e2 : W7.cell? ⟨B7, 2, none⟩ = some (.int .i64 t.f) := (HQ7.out.cell 2).trans rfl
    have e3 : W7.cell? ⟨B7, 3, none⟩ = some (.int .i64 t.d0) := (HQ7.out.cell 3).trans rfl
    have e4 : W7.cell? ⟨B7, 4, none⟩ = some (.int .i64 t.v0) := (HQ7.out.cell 4).trans rfl
    have e5 : W7.cell? ⟨B7, 5, none⟩ = some (.int .i64 t.d1) := (HQ7.out.cell 5).trans rfl
    have e6 : W7.cell? ⟨B7, 6, none⟩ = some (.int .i64 t.v1) := (HQ7.out.cell 6).trans rfl
    have e7 : W7.cell? ⟨B7, 7, none⟩ = some (.int .i64 t.d2) := (HQ7.out.cell 7).trans rfl
    have e8 : W7.cell? ⟨B7, 8, none⟩ = some (.int .i64 t.v2) := (HQ7.out.cell 8).trans rfl
    have e9 : W7.cell? ⟨B7, 9, none⟩ = some (.int .i64 t.d3) := (HQ7.out.cell 9).trans rfl
    have e10 : W7.cell? ⟨B7, 10, none⟩ = some (.int .i64 t.v3) := (HQ7.out.cell 10).trans rfl
    have e11 : W7.cell? ⟨B7, 11, none⟩ = some (.int .i64 t.d4) := (HQ7.out.cell 11).trans rfl
    have e12 : W7.cell? ⟨B7, 12, none⟩ = some (.int .i64 t.v4) := (HQ7.out.cell 12).trans rfl
    gi_wp2
    refine hR.mono ?_
    rintro e W8 ⟨Y8, hx8, hy8, (⟨rfl, hj8⟩ | ⟨rfl, hj8⟩)⟩
    case inr =>
     have HJ8 := qh hj8
     clear hx8 hy8 hj8 hyy hR e0 e1 e2 e3 e4 e5 e6 e7 e8 e9 e10 e11 e12
     gi_wp2
     refine bodyPost_ret (results_none rfl _ _ _) rfl ?_
     exact ⟨⟨_, rfl⟩, Y8, .inr ⟨_, trivial, HJ8.out⟩⟩
    obtain ⟨HK8, HB8, HYK8⟩ := HEY.out s Y Y8 W7 W8 HK7.out HB7.out HYN7.out hx8 hy8
    have HQ8 := qh (HQ7.out.exc hx8 HNB.out)
    have HJ8 := qh hj8
    clear hx8 hy8 hj8 hyy hR e0 e1 e2 e3 e4 e5 e6 e7 e8 e9 e10 e11 e12
    gi_upto_region 6 with fail
    refine wpIn_region_lit ?_
    refine Kit.wpListIn_run rfl (by intro c h; cases h) (by intro c h; cases h) (.agg (Mo.stA t)) W8 (Kit.run_load_bk 37 (.tmp 6) rfl B7 rfl HQ8.out Tryz.underlying37 rfl (Mo.szS t)) ?_
    refine Kit.wpListIn_store_bk0 rfl 37 (.tmp 1) (.tmp 36) rfl BS rfl (Mo.stA t) rfl HB8.out rfl (Mo.szS t) (Mo.stA_one t) ?_
    intro W9 hb9 hx9
    have HB9 := qh hb9
    have HK9 := qh (HK8.out.exc hx9 (fun k hk e => HZS.out k hk e))
    have HJ9 := qh (HJ.out _ _ _ _ HJ8.out (hx9.mono (fun k _ e => .inl e)))
    have HYK9 := qh (show ∀ k, Y8 k → (¬ Mo.ZW BL (some ad) m k ∧ k ≠ BS) ∧ k < W9.heap.size from fun k hk => ⟨(HYK8.out k hk).1, Nat.lt_of_lt_of_le (HYK8.out k hk).2 hx9.size⟩)
    clear hb9 hx9 HB8 HK8 HJ8 HYK8
    simp only [Act.put]
    go_simp
    gi_wp2
    go_roundw
    case rel => exact ⟨i + 1, Y8, pre ++ [(t, 0)], t, by go_num, by omega, HJ9.out, HK9, HB9, HYK9, HOT, qh (by rw [← HP.out, HST2.out]; simp)⟩
    case measure => simp [intOf]; omega
  ·obtain rfl : i = m.length := by omega
   have HE := qh (show pre = Mo.all m s0 by have h := HP.out; rw [List.drop_length] at h; simpa [Mo.tr] using h)
   gi_wp2
   go_end0
   exact ⟨⟨_, rfl⟩, Y, .inl ⟨_, HE.out, HJP.out⟩⟩
end Go.Proofs.YtedolbjgdedoaaaGreatDoor

namespace Go.Proofs.YtedolbjgdedoaaaGreatDoor
open Go.RowKit Go.Shelf
attribute [local go_sem] Oper.semAt_some
namespace Mo
def EndR (x : Ex.Wk) (role bar : Int) (s : St) (r : List Uo.Re) (t : St) (e : Int) : Prop :=
 if ofE x role bar ≠ 0 then t = St.zero ∧ e = ofE x role bar else if ok s = false then t = St.zero ∧ e = 260 else if mot (ofI x role bar) r = false then t = St.zero ∧ e = 270
 else ∃ l, Of x role bar l ∧ (if fine r l s = true then t = last r l s ∧ e = 0 else t = St.zero ∧ e = 2)
def lastS (l : List (St × Int)) : St := (l.getLast?.map (·.1)).getD St.zero
theorem lastS_snoc (l : List (St × Int)) (y : St × Int) : lastS (l ++ [y]) = y.1 := by simp [lastS]
structure FE (w : World) (RB EB : Nat) (pre : List (St × Int)) (Y : Nat → Prop) (W : World) : Prop where
 yy : ∀ k, Y k ↔ (k = RB ∨ k = EB)
 res : Kit.Bk W RB 37 (stA (lastS pre))
 err : Kit.Bk W EB 41 #[.int .i64 0]
 bel : Below w.heap.size w W
 all : ∀ y ∈ pre, y.2 = 0
theorem FE.keep {w : World} {RB EB : Nat} {pre : List (St × Int)} {Y : Nat → Prop} {A B : World} {S : Nat → Prop} (h : FE w RB EB pre Y A) (hx : Kit.Exc S A B) (h1 : ¬ S RB) (h2 : ¬ S EB) (hw : ∀ k, S k → w.heap.size ≤ k) : FE w RB EB pre Y B :=
 ⟨h.yy, h.res.exc hx h1, h.err.exc hx h2, h.bel.trans (hx.below h.bel.size hw), h.all⟩
structure FX (w : World) (RB EB : Nat) (xs pre : List (St × Int)) (Y : Nat → Prop) (W : World) : Prop where
 yy : ∀ k, Y k ↔ (k = RB ∨ k = EB)
 res : Kit.Bk W RB 37 (stA St.zero)
 bel : Below w.heap.size w W
 bad : ∃ T f post pre', f ≠ 0 ∧ Kit.Bk W EB 41 #[.int .i64 f] ∧ pre' ++ (T, f) :: post = xs
theorem FX.keep {w : World} {RB EB : Nat} {xs pre : List (St × Int)} {Y : Nat → Prop} {A B : World} {S : Nat → Prop} (h : FX w RB EB xs pre Y A) (hx : Kit.Exc S A B) (h1 : ¬ S RB) (h2 : ¬ S EB) (hw : ∀ k, S k → w.heap.size ≤ k) : FX w RB EB xs pre Y B := by
 obtain ⟨T, f, post, pre', hf, he, hp⟩ := h.bad
 exact ⟨h.yy, h.res.exc hx h1, h.bel.trans (hx.below h.bel.size hw), T, f, post, pre', hf, he.exc hx h2, hp⟩
theorem all_bad2 {r : List Uo.Re} {l : List Ex.Sg} {s : St} {pre post : List (St × Int)} {T : St} {f : Int} (h : pre ++ (T, f) :: post = all (prs r l) s) (hf : f ≠ 0) : fine r l s = false ∧ f = 2 := by
 have hm : (T, f) ∈ all (prs r l) s := by rw [← h]; simp
 rw [all_way] at hm
 rcases List.mem_append.1 hm with h1 | h1
 ·obtain ⟨u, _, e⟩ := List.mem_map.1 h1
  have := congrArg Prod.snd e
  exact absurd this.symm hf
 ·split at h1
  ·cases h1
  ·rename_i hn
   have e : (T, f) = (St.zero, 2) := by simpa using h1
   exact ⟨by simpa using hn, congrArg Prod.snd e⟩
theorem all_good {r : List Uo.Re} {l : List Ex.Sg} {s : St} (h : ∀ y ∈ all (prs r l) s, y.2 = 0) : fine r l s = true ∧ lastS (all (prs r l) s) = last r l s := by
 have hf : fine r l s = true := by
  cases hf : fine r l s with
  | true => rfl
  | false =>
   exfalso
   have := h (St.zero, 2) (by rw [all_way, hf, if_neg (by decide)]; simp)
   cases this
 refine ⟨hf, ?_⟩
 rw [all_way, hf, if_pos rfl, List.append_nil]
 unfold lastS
 rw [List.getLast?_map, way_last r l s hf]
 rfl
theorem build_st0 (ev : Operand → Value) (W : World) (d : Option Tmp) (ty : TypeId) (po : String) (af : Array Edge) : (execOp ev { dst := d, op := .build 37 #[], type := ty, pos := po, after := af, guard := none }).run Tryz.prog W = .ok (.value (.agg (stA St.zero))) W := by kernel_rfl
theorem run_er {ev : Operand → Value} {o : Oper} {w : World} (x y : Operand) (ho : o.op = .store 41 x y) (b : Nat) (hx : ev x = .pointer (some ⟨b, 0, none⟩)) (e : Int) (hy : ev y = .int .i64 e) {v0 : Value} {T : TypeId} (hb : Kit.Bk w b T #[v0]) : (execOp ev o).run Tryz.prog w = .ok .skip (w.setCell ⟨b, 0, none⟩ (.int .i64 e)) := by
 have c0 : w.cell? ⟨b, 0, none⟩ = some v0 := (hb.cell 0).trans rfl
 have f0 := hb.frozen 0
 simp only [execOp, ho, hx, hy]
 simp [go_sem, c0, f0]
theorem store_er {ops : Array Oper} {rest : List Oper} {op : Oper} {a : Act} {w : World} {Q : Exit → Act → World → Prop} (hgd : op.guard = none) (x y : Operand) (ho : op.op = .store 41 x y) (b : Nat) (hx : a.eval x = .pointer (some ⟨b, 0, none⟩)) (e : Int) (hy : a.eval y = .int .i64 e) {v0 : Value} {T : TypeId} (hb : Kit.Bk w b T #[v0])
  (h : ∀ W, Kit.Bk W b T #[.int .i64 e] → Kit.Exc (fun j => j = b) w W → wpList Tryz.prog ops Q rest (a.put op.dst undef) W) : wpList Tryz.prog ops Q (op :: rest) a w :=
 wpList_plain hgd fun _ hK => by
  unfold Oper.wp
  rw [run_er x y ho b hx e hy hb]
  exact hK _ _ (h _ (hb.put 0 _ rfl) (Kit.Exc.setCell (S := fun j => j = b) (p := ⟨b, 0, none⟩) (Kit.Exc.refl _ w) (.inl rfl) _))
theorem storeIn_er {F : Fence} {n : Nat} {ops : Array Oper} {rest : List Oper} {op : Oper} {a : Act} {w : World} {Q : Exit → Act → World → Prop} (hgd : op.guard = none) (x y : Operand) (ho : op.op = .store 41 x y) (b : Nat) (hx : a.eval x = .pointer (some ⟨b, 0, none⟩)) (e : Int) (hy : a.eval y = .int .i64 e) {v0 : Value} {T : TypeId} (hb : Kit.Bk w b T #[v0])
  (h : ∀ W, Kit.Bk W b T #[.int .i64 e] → Kit.Exc (fun j => j = b) w W → wpListIn F n Tryz.prog ops Q rest (a.put op.dst undef) W) : wpListIn F n Tryz.prog ops Q (op :: rest) a w :=
 Kit.wpListIn_run0 hgd (fun c e => by rw [ho] at e; cases e) (fun c e => by rw [ho] at e; cases e) _ (run_er x y ho b hx e hy hb) (h _ (hb.put 0 _ rfl) (Kit.Exc.setCell (S := fun j => j = b) (p := ⟨b, 0, none⟩) (Kit.Exc.refl _ w) (.inl rfl) _))
theorem res_er {fn : Func} {tmps : Array Value} {w : World} {c u : Tmp} {b d : Nat} {t : St} {er : Int} {T U : TypeId} (h : fn.results = #[.cell c 37, .cell u 41]) (hc : tmps.getD c undef = .pointer (some ⟨b, 0, none⟩)) (hu : tmps.getD u undef = .pointer (some ⟨d, 0, none⟩)) (hb : Kit.Bk w b T (stA t)) (he : Kit.Bk w d U #[.int .i64 er]) :
  (results fn tmps).run Tryz.prog w = .ok (.tuple #[.agg (stA t), .int .i64 er]) w := by
 have hl := Kit.run_bk (P := Tryz.prog) hb 37 Tryz.underlying37 rfl (Mo.szS t)
 have c0 : w.cell? ⟨d, 0, none⟩ = some (.int .i64 er) := (he.cell 0).trans rfl
 have hl2 : (loadVar 41 ⟨d, 0, none⟩).run Tryz.prog w = .ok (.int .i64 er) w := by simp [go_sem, c0]
 rw [Array.getD_eq_getD_getElem?] at hc hu
 simp [results, h, hc, hu, asAddr, hl, hl2]
end Mo
theorem mo_end_e (x : Ex.Wk) (p : Ex.Wa) (w : World) (hL : Ex.Laid w) (hF : Uo.Flat w) (ha : Ex.At w x p) (role bar : Int) (s : Mo.St) (r : List Uo.Re) (aR : Option Addr) (cR : Nat) (hR : Tp.Sl w aR r.length 4 (Mo.rcs r)) (hbad : ¬ (Mo.ofE x role bar = 0 ∧ Mo.ok s = true ∧ Mo.mot (Mo.ofI x role bar) r = true)) :
  Calls Tryz.prog 12 #[Ex.workV x p, .int .i64 role, .int .i64 bar, .agg (Mo.stA s), .slice aR r.length cR] w fun e w' => (∃ t er, e = .returned (.tuple #[.agg (Mo.stA t), .int .i64 er]) ∧ Mo.EndR x role bar s r t er) ∧ Below w.heap.size w w' := by
 have HOF := qh (fun W (hb : Below w.heap.size w W) => ex_of x p W (hL.kept hb nlr) (ha.kept hb nlr) role bar)
 have HPC := qh (fun W => po_check s W)
 have HFL := qh hF
 have HR := qh hR
 have HG := qh (show Ex.chk x = 0 → Ex.Good x from Ex.good_of)
 have HOE := qh (show Mo.ofE x role bar = 0 → Ex.chk x = 0 from fun h => by
  unfold Mo.ofE at h
  split at h
  ·rename_i h1; exact absurd h h1
  ·rename_i h1; simpa using h1)
 have HRES := qh (fun t e (h : Mo.EndR x role bar s r t e) => h)
 obtain ⟨aRo, cRo, aT, cT, aP, cP, aS, cS, aG, cG⟩ := p
 dsimp only [Ex.workV, Ex.wv]
 have HBAD := qh hbad
 clear hL hF ha hR hbad
 go_enter Tryz.func12, Tryz.ntmps12
 go_upto_region 1 with fail
 refine Kit.wp_name ?_
 intro W1 hW1
 obtain ⟨⟨q0, q1, q2, q3⟩, hb1, hz1⟩ := Kit.four w (Mo.wkC x ⟨aRo, cRo, aT, cT, aP, cP, aS, cS, aG, cG⟩) (Mo.stA s) (Mo.stA Mo.St.zero) #[.int .i64 0] 32 37 37 41
 have HQ0 := qh (show Kit.Bk W1 w.heap.size 32 (Mo.wkC x ⟨aRo, cRo, aT, cT, aP, cP, aS, cS, aG, cG⟩) by rw [hW1]; exact q0)
 have HQ1 := qh (show Kit.Bk W1 (w.heap.size + 1) 37 (Mo.stA s) by rw [hW1]; exact q1)
 have HQ2 := qh (show Kit.Bk W1 (w.heap.size + 2) 37 (Mo.stA Mo.St.zero) by rw [hW1]; exact q2)
 have HQ3 := qh (show Kit.Bk W1 (w.heap.size + 3) 41 #[.int .i64 0] by rw [hW1]; exact q3)
 have HB1 := qh (show Below w.heap.size w W1 by rw [hW1]; exact hb1)
 have HZ1 := qh (show W1.heap.size = w.heap.size + 4 by rw [hW1]; exact hz1)
 clear q0 q1 q2 q3 hb1 hz1 hW1
 have HIO := qh (Mo.stA_one Mo.St.zero)
 have wk1 : ∀ j, W1.cell? ⟨w.heap.size, j, none⟩ = (Mo.wkC x ⟨aRo, cRo, aT, cT, aP, cP, aS, cS, aG, cG⟩)[j]? := fun j => HQ0.out.cell j
 go_wp2_with fail
 refine (HOF.out _ HB1.out).mono ?_
 rintro _ W2 ⟨⟨v, l, rfl, hof, hown⟩, hb2⟩
 have HB2 := qh (show Below w.heap.size w W2 from HB1.out.trans (hb2.mono HB1.out.size))
 have HR1 := qh (HQ1.out.below hb2 HQ1.out.lt)
 have HR2 := qh (HQ2.out.below hb2 HQ2.out.lt)
 have HR3 := qh (HQ3.out.below hb2 HQ3.out.lt)
 have HOWN := qh (show W2.ownsRow W1.heap.size 60 14 v l.length (l.flatMap Mo.sgC) from hown)
 have HOFL := qh hof
 have c3 : W2.cell? ⟨w.heap.size + 1 + 1 + 1, 0, none⟩ = some (.int .i64 0) := (HR3.out.cell 0).trans rfl
 have f3 : W2.frozen? ⟨w.heap.size + 1 + 1 + 1, 0, none⟩ = false := HR3.out.frozen 0
 clear hof hown hb2 HQ0 HQ1 HQ2 HQ3 HB1 wk1 HOF
 obtain ⟨er, her⟩ : ∃ er, Mo.ofE x role bar = er := ⟨_, rfl⟩
 rw [her]
 have HER := qh her
 clear her
 by_cases h0 : er = 0
 case neg =>
  have c1 : (er != 0) = true := by simpa using h0
  have H0 := qh h0
  clear h0
  go_upto_region 3 with fail
  refine Kit.wp_name ?_
  intro W3 hW3
  have HX3 := qh (show Kit.Exc (fun j => j = w.heap.size + 3) W2 W3 by rw [hW3]; exact Kit.Exc.setCell (S := fun j => j = w.heap.size + 3) (p := ⟨w.heap.size + 1 + 1 + 1, 0, none⟩) (Kit.Exc.refl _ W2) (.inl rfl) _)
  have HS3 := qh (show Kit.Bk W3 (w.heap.size + 3) 41 #[.int .i64 er] by rw [hW3]; exact HR3.out.put 0 (.int .i64 er) rfl)
  have HS2 := qh (HR2.out.exc HX3.out omg)
  clear hW3 c3 f3
  have HE0 := qh (show Below w.heap.size w W3 from HB2.out.trans (HX3.out.below HB2.out.size (fun j hj => by omega)))
  refine Kit.wp_region_vals2 4 [([(10, none)], none, true), ([(11, none)], none, true), ([(10, none), (27, some 0)], none, true), ([(11, none), (28, some 1)], none, true)]
   [some 27, some 28, none, none] rfl (by kernel_rfl) (by kernel_rfl) (fun X => Kit.Bk X (w.heap.size + 2) 37 (Mo.stA Mo.St.zero) ∧ Kit.Bk X (w.heap.size + 3) 41 #[.int .i64 er] ∧ Below w.heap.size w X)
   (fun _ A B => (Kit.Bk A (w.heap.size + 2) 37 (Mo.stA Mo.St.zero) ∧ Kit.Bk A (w.heap.size + 3) 41 #[.int .i64 er] ∧ Below w.heap.size w A) → (Kit.Bk B (w.heap.size + 2) 37 (Mo.stA Mo.St.zero) ∧ Kit.Bk B (w.heap.size + 3) 41 #[.int .i64 er] ∧ Below w.heap.size w B)) (fun _ _ => false)
   (fun q v _ => match q with
   | 0 => v = .agg (Mo.stA Mo.St.zero)
   | 1 => v = .int .i64 er
   | _ => True)
   (by decide) (fun _ h k => k h) ⟨HS2.out, HS3.out, HE0.out.drew⟩ (fun _ _ h => h) (fun q i v A B _ _ _ _ _ _ h => by split at h <;> exact h) ?_ ?_
  ·simp only [List.take_succ_cons, List.take_zero, Kit.StepsV2, Kit.VOp2, Kit.RdP, true_and, if_true, and_true]
   refine ⟨?_, ?_, ?_, ?_⟩
   all_goals intro ev X hx hv hc hf hg
   ·simp at hv
    rw [Kit.run_load_bk (ev := ev) 37 (.tmp 10) rfl (w.heap.size + 2) hv hx.1 Tryz.underlying37 rfl (Mo.szS Mo.St.zero)]
    exact ⟨rfl, fun h => h⟩
   ·have c3 : X.cell? ⟨w.heap.size + 3, 0, none⟩ = some (.int .i64 er) := (hx.2.1.cell 0).trans rfl
    simp at hv
    simp [execOp, hv, hc, go_sem, Kit.UponV, c3]
   ·simp at hv
    refine Kit.upon_store_bk 37 (.tmp 10) (.tmp 27) rfl (w.heap.size + 2) hv.1 (Mo.stA Mo.St.zero) hv.2 hx.1 rfl (Mo.szS _) HIO.out (fun W hW hX => fun _ => ⟨hW, hx.2.1.exc hX omg, hx.2.2.trans (hX.below hx.2.2.size (fun j hj => by omega))⟩)
   ·simp at hv
    rw [Mo.run_er (ev := ev) (w := X) (.tmp 11) (.tmp 28) rfl (w.heap.size + 3) hv.1 er hv.2 hx.2.1]
    exact fun _ => ⟨hx.1.exc (Kit.Exc.setCell (S := fun j => j = w.heap.size + 3) (p := ⟨w.heap.size + 3, 0, none⟩) (Kit.Exc.refl _ X) (.inl rfl) _) omg, hx.2.1.put 0 _ rfl, hx.2.2.setCell (by show w.heap.size ≤ w.heap.size + 3; omega) _⟩
  ·intro vs W4 hv hx
   have v0 : vs 0 = _ := hv 0 omg (fun _ _ => rfl)
   have v1 : vs 1 = _ := hv 1 omg (fun _ _ => rfl)
   clear hv
   simp only [Kit.putD, List.getD_cons_zero, List.getD_cons_succ, Act.put, v0, v1, List.drop_succ_cons, List.drop_zero, List.drop_nil]
   clear v0 v1
   have HH := qh hx
   clear hx
   go_simp
   go_wp2_with fail
   refine bodyPost_ret (Mo.res_er rfl rfl rfl HH.out.1 HH.out.2.1) rfl ⟨⟨Mo.St.zero, er, rfl, HRES.out _ _ ?_⟩, HH.out.2.2⟩
   unfold Mo.EndR
   rw [HER.out, if_pos H0.out]
   exact ⟨rfl, rfl⟩
 subst h0
 have HGD := qh (HG.out (HOE.out HER.out))
 have HOF2 := qh (HOFL.out HER.out)
 clear HOFL HG HOE
 go_upto_region 4 with fail
 refine Kit.wp_name ?_
 intro W3 hW3
 have HX3 := qh (show Kit.Exc (fun j => j = w.heap.size + 3) W2 W3 by rw [hW3]; exact Kit.Exc.setCell (S := fun j => j = w.heap.size + 3) (p := ⟨w.heap.size + 1 + 1 + 1, 0, none⟩) (Kit.Exc.refl _ W2) (.inl rfl) _)
 have HS3 := qh (show Kit.Bk W3 (w.heap.size + 3) 41 #[.int .i64 0] by rw [hW3]; exact HR3.out.put 0 (.int .i64 0) rfl)
 have HS2 := qh (HR2.out.exc HX3.out omg)
 have HS1 := qh (HR1.out.exc HX3.out omg)
 have HBW3 := qh (show Below w.heap.size w W3 from HB2.out.trans (HX3.out.below HB2.out.size (fun j hj => by omega)))
 have HZ2 := qh (show w.heap.size + 4 ≤ W1.heap.size by rw [HZ1.out]; exact Nat.le_refl _)
 obtain ⟨aL, cL, rfl⟩ := Kit.own_shape HOWN.out
 obtain ⟨hsl, _, hslb⟩ := Kit.own_sl HOWN.out (Mo.sg_get l)
 have HSL := qh (show Tp.Sl W3 aL l.length 14 (Ex.sgc l) by
  rcases hsl with h | ⟨ad, h1, h2, h3⟩
  ·exact .inl h
  ·have := hslb ad h1
   refine .inr ⟨ad, h1, Nat.lt_of_lt_of_le h2 HX3.out.size, fun i j hi hj => (World.cell?_of_block (by rw [Tp.add_block]; exact HX3.out.block _ h2 (by have := HZ2.out; omega))).trans (h3 i j hi hj)⟩)
 clear hW3 c3 f3 hsl hslb HR1 HR2 HR3 HOWN HX3
 have c0 : W3.cell? ⟨w.heap.size + 1, 0, none⟩ = some (.int .i64 s.x) := (HS1.out.cell 0).trans rfl
 have c1 : W3.cell? ⟨w.heap.size + 1, 1, none⟩ = some (.int .i64 s.y) := (HS1.out.cell 1).trans rfl
 have c2 : W3.cell? ⟨w.heap.size + 1, 2, none⟩ = some (.int .i64 s.f) := (HS1.out.cell 2).trans rfl
 have c3 : W3.cell? ⟨w.heap.size + 1, 3, none⟩ = some (.int .i64 s.d0) := (HS1.out.cell 3).trans rfl
 have c4 : W3.cell? ⟨w.heap.size + 1, 4, none⟩ = some (.int .i64 s.v0) := (HS1.out.cell 4).trans rfl
 have c5 : W3.cell? ⟨w.heap.size + 1, 5, none⟩ = some (.int .i64 s.d1) := (HS1.out.cell 5).trans rfl
 have c6 : W3.cell? ⟨w.heap.size + 1, 6, none⟩ = some (.int .i64 s.v1) := (HS1.out.cell 6).trans rfl
 have c7 : W3.cell? ⟨w.heap.size + 1, 7, none⟩ = some (.int .i64 s.d2) := (HS1.out.cell 7).trans rfl
 have c8 : W3.cell? ⟨w.heap.size + 1, 8, none⟩ = some (.int .i64 s.v2) := (HS1.out.cell 8).trans rfl
 have c9 : W3.cell? ⟨w.heap.size + 1, 9, none⟩ = some (.int .i64 s.d3) := (HS1.out.cell 9).trans rfl
 have c10 : W3.cell? ⟨w.heap.size + 1, 10, none⟩ = some (.int .i64 s.v3) := (HS1.out.cell 10).trans rfl
 have c11 : W3.cell? ⟨w.heap.size + 1, 11, none⟩ = some (.int .i64 s.d4) := (HS1.out.cell 11).trans rfl
 have c12 : W3.cell? ⟨w.heap.size + 1, 12, none⟩ = some (.int .i64 s.v4) := (HS1.out.cell 12).trans rfl
 rcases hok : Mo.ok s with _ | _
 ·have hpc : Calls Tryz.prog 25 #[.agg (Mo.stA s)] W3 fun e w' => e = .returned (.int .i64 260) ∧ Below W3.heap.size W3 w' := by
   have h := HPC.out W3
   rw [hok, if_neg (by decide)] at h
   exact h
  have HPQ := qh hpc
  have HOKS := qh hok
  clear hpc hok
  go_wp2_with fail
  refine HPQ.out.mono ?_
  rintro _ W4 ⟨rfl, hb4⟩
  have HF2 := qh (HS2.out.below hb4 HS2.out.lt)
  have HF3 := qh (HS3.out.below hb4 HS3.out.lt)
  have HFB := qh (HBW3.out.trans (hb4.mono HBW3.out.size))
  clear hb4 c0 c1 c2 c3 c4 c5 c6 c7 c8 c9 c10 c11 c12
  go_upto_region 6 with fail
  refine wp_region_lit ?_
  refine Kit.load_bk0 rfl 37 (.tmp 10) rfl (w.heap.size + 2) rfl HF2.out Tryz.underlying37 rfl (Mo.szS Mo.St.zero) ?_
  refine Kit.wpList_run rfl (.int .i64 260) W4 rfl ?_
  refine Kit.store_bk0 rfl 37 (.tmp 10) (.tmp 33) rfl (w.heap.size + 2) rfl (Mo.stA Mo.St.zero) rfl HF2.out rfl (Mo.szS Mo.St.zero) HIO.out ?_
  intro X1 hq1 hx1
  refine Mo.store_er rfl (.tmp 11) (.tmp 34) rfl (w.heap.size + 3) rfl 260 rfl (HF3.out.exc hx1 omg) ?_
  intro X2 hq2 hx2
  have HH1 := qh (hq1.exc hx2 omg)
  have HH2 := qh hq2
  have HHB := qh (show Below w.heap.size w X2 from HFB.out.trans ((hx1.below HFB.out.size (fun j hj => by omega)).trans (hx2.below (Nat.le_trans HFB.out.size hx1.size) (fun j hj => by omega))))
  clear hq1 hx1 hq2 hx2
  simp only [Act.put]
  go_simp
  go_wp2_with fail
  refine bodyPost_ret (Mo.res_er rfl rfl rfl HH1.out HH2.out) rfl ⟨⟨Mo.St.zero, 260, rfl, HRES.out _ _ ?_⟩, HHB.out⟩
  unfold Mo.EndR
  rw [HER.out, if_neg (by simp), if_pos HOKS.out]
  exact ⟨rfl, rfl⟩
 ·have hpc : Calls Tryz.prog 25 #[.agg (Mo.stA s)] W3 fun e w' => e = .returned (.int .i64 0) ∧ Below W3.heap.size W3 w' := by
   have h := HPC.out W3
   rw [hok, if_pos rfl] at h
   exact h
  have HPQ := qh hpc
  have HOKS := qh hok
  clear hpc hok
  go_wp2_with fail
  refine HPQ.out.mono ?_
  rintro _ W4 ⟨rfl, hb4⟩
  have HF2 := qh (HS2.out.below hb4 HS2.out.lt)
  have HF3 := qh (HS3.out.below hb4 HS3.out.lt)
  have HF1 := qh (HS1.out.below hb4 HS1.out.lt)
  have HFB := qh (HBW3.out.trans (hb4.mono HBW3.out.size))
  have HFS := qh (HSL.out.kept hb4 nlr)
  clear hb4 HS1 HS2 HS3 HBW3 HSL HPQ c0 c1 c2 c3 c4 c5 c6 c7 c8 c9 c10 c11 c12
  have hlen : l.length ≤ 4096 := by
   rw [HOF2.out.perm.length_eq]
   exact Nat.le_trans (List.length_filter_le _ _) HGD.out.len
  have HSTP := qh (mo_steps (Mo.ofI x role bar) l r aL aR cL cR W4 HOF2.out.perm (Mo.ofI_lt HGD.out role bar) hlen HFS.out (HR.out.kept HFB.out nlr))
  have HLEN := qh hlen
  clear hlen
  go_wp2_with fail
  refine HSTP.out.mono ?_
  rintro _ W5 ⟨⟨v5, rfl, hown5⟩, hb5⟩
  have HG2 := qh (HF2.out.below hb5 HF2.out.lt)
  have HG3 := qh (HF3.out.below hb5 HF3.out.lt)
  have HG1 := qh (HF1.out.below hb5 HF1.out.lt)
  have HGB := qh (HFB.out.trans (hb5.mono HFB.out.size))
  have HOW5 := qh hown5
  have HZ4 := qh (show w.heap.size + 4 ≤ W4.heap.size from HF3.out.lt)
  clear hb5 hown5 HF1 HF2 HF3 HFB HFS HSTP
  rcases hmot : Mo.mot (Mo.ofI x role bar) r with _ | _
  ·have HF2 := HG2
   have HF3 := HG3
   have HFB := HGB
   have HMOT := qh hmot
   clear hmot
   go_upto_region 9 with fail
   refine wp_region_lit ?_
   refine Kit.load_bk0 rfl 37 (.tmp 10) rfl (w.heap.size + 2) rfl HF2.out Tryz.underlying37 rfl (Mo.szS Mo.St.zero) ?_
   refine Kit.store_bk0 rfl 37 (.tmp 10) (.tmp 43) rfl (w.heap.size + 2) rfl (Mo.stA Mo.St.zero) rfl HF2.out rfl (Mo.szS Mo.St.zero) HIO.out ?_
   intro X1 hq1 hx1
   refine Mo.store_er rfl (.tmp 11) (.const (.int .i64 270)) rfl (w.heap.size + 3) rfl 270 rfl (HF3.out.exc hx1 omg) ?_
   intro X2 hq2 hx2
   have HH1 := qh (hq1.exc hx2 omg)
   have HH2 := qh hq2
   have HHB := qh (show Below w.heap.size w X2 from HFB.out.trans ((hx1.below HFB.out.size (fun j hj => by omega)).trans (hx2.below (Nat.le_trans HFB.out.size hx1.size) (fun j hj => by omega))))
   clear hq1 hx1 hq2 hx2
   simp only [Act.put]
   go_simp
   go_wp2_with fail
   refine bodyPost_ret (Mo.res_er rfl rfl rfl HH1.out HH2.out) rfl ⟨⟨Mo.St.zero, 270, rfl, HRES.out _ _ ?_⟩, HHB.out⟩
   unfold Mo.EndR
   rw [HER.out, if_neg (by simp), if_neg (by rw [HOKS.out]; decide), if_pos HMOT.out]
   exact ⟨rfl, rfl⟩
  ·exact absurd ⟨HER.out, HOKS.out, hmot⟩ HBAD.out
theorem mo_end_0 (x : Ex.Wk) (p : Ex.Wa) (w : World) (hL : Ex.Laid w) (hF : Uo.Flat w) (ha : Ex.At w x p) (role bar : Int) (s : Mo.St) (r : List Uo.Re) (aR : Option Addr) (cR : Nat) (hR : Tp.Sl w aR r.length 4 (Mo.rcs r)) (g1 : Mo.ofE x role bar = 0) (g2 : Mo.ok s = true) (g3 : Mo.mot (Mo.ofI x role bar) r = true) :
  Calls Tryz.prog 12 #[Ex.workV x p, .int .i64 role, .int .i64 bar, .agg (Mo.stA s), .slice aR r.length cR] w fun e w' => (∃ t er, e = .returned (.tuple #[.agg (Mo.stA t), .int .i64 er]) ∧ Mo.EndR x role bar s r t er) ∧ Below w.heap.size w w' := by
 have HOF := qh (fun W (hb : Below w.heap.size w W) => ex_of x p W (hL.kept hb nlr) (ha.kept hb nlr) role bar)
 have HPC := qh (fun W => po_check s W)
 have HFL := qh hF
 have HR := qh hR
 have HG := qh (show Ex.chk x = 0 → Ex.Good x from Ex.good_of)
 have HOE := qh (show Mo.ofE x role bar = 0 → Ex.chk x = 0 from fun h => by
  unfold Mo.ofE at h
  split at h
  ·rename_i h1; exact absurd h h1
  ·rename_i h1; simpa using h1)
 have HRES := qh (fun t e (h : Mo.EndR x role bar s r t e) => h)
 obtain ⟨aRo, cRo, aT, cT, aP, cP, aS, cS, aG, cG⟩ := p
 dsimp only [Ex.workV, Ex.wv]
 have HER := qh g1
 have HOKS := qh g2
 have HMOT := qh g3
 clear hL hF ha hR g1 g2 g3
 refine Kit.calls_of_wp_marks Tryz.func12 rfl ?_
 simp only [Tryz.ntmps12, List.size_toArray, List.length_cons, List.length_nil, Nat.reduceAdd, Nat.reduceSub, Array.replicate_succ, Array.replicate_zero, List.push_toArray, List.append_toArray, List.nil_append, List.cons_append]
 go_upto_region 1 with fail
 refine Kit.wp_name ?_
 intro W1 hW1
 obtain ⟨⟨q0, q1, q2, q3⟩, hb1, hz1⟩ := Kit.four w (Mo.wkC x ⟨aRo, cRo, aT, cT, aP, cP, aS, cS, aG, cG⟩) (Mo.stA s) (Mo.stA Mo.St.zero) #[.int .i64 0] 32 37 37 41
 have HQ0 := qh (show Kit.Bk W1 w.heap.size 32 (Mo.wkC x ⟨aRo, cRo, aT, cT, aP, cP, aS, cS, aG, cG⟩) by rw [hW1]; exact q0)
 have HQ1 := qh (show Kit.Bk W1 (w.heap.size + 1) 37 (Mo.stA s) by rw [hW1]; exact q1)
 have HQ2 := qh (show Kit.Bk W1 (w.heap.size + 2) 37 (Mo.stA Mo.St.zero) by rw [hW1]; exact q2)
 have HQ3 := qh (show Kit.Bk W1 (w.heap.size + 3) 41 #[.int .i64 0] by rw [hW1]; exact q3)
 have HB1 := qh (show Below w.heap.size w W1 by rw [hW1]; exact hb1)
 have HZ1 := qh (show W1.heap.size = w.heap.size + 4 by rw [hW1]; exact hz1)
 clear q0 q1 q2 q3 hb1 hz1 hW1
 have HIO := qh (Mo.stA_one Mo.St.zero)
 have wk1 : ∀ j, W1.cell? ⟨w.heap.size, j, none⟩ = (Mo.wkC x ⟨aRo, cRo, aT, cT, aP, cP, aS, cS, aG, cG⟩)[j]? := fun j => HQ0.out.cell j
 go_wp2_with fail
 refine (HOF.out _ HB1.out).mono ?_
 rintro _ W2 ⟨⟨v, l, rfl, hof, hown⟩, hb2⟩
 have HB2 := qh (show Below w.heap.size w W2 from HB1.out.trans (hb2.mono HB1.out.size))
 have HR1 := qh (HQ1.out.below hb2 HQ1.out.lt)
 have HR2 := qh (HQ2.out.below hb2 HQ2.out.lt)
 have HR3 := qh (HQ3.out.below hb2 HQ3.out.lt)
 have HOWN := qh (show W2.ownsRow W1.heap.size 60 14 v l.length (l.flatMap Mo.sgC) from hown)
 have HOFL := qh hof
 have c3 : W2.cell? ⟨w.heap.size + 1 + 1 + 1, 0, none⟩ = some (.int .i64 0) := (HR3.out.cell 0).trans rfl
 have f3 : W2.frozen? ⟨w.heap.size + 1 + 1 + 1, 0, none⟩ = false := HR3.out.frozen 0
 clear hof hown hb2 HQ0 HQ1 HQ2 HQ3 HB1 wk1 HOF
 rw [HER.out]
 have HGD := qh (HG.out (HOE.out HER.out))
 have HOF2 := qh (HOFL.out HER.out)
 clear HOFL HG HOE
 go_upto_region 4 with fail
 refine Kit.wp_name ?_
 intro W3 hW3
 have HX3 := qh (show Kit.Exc (fun j => j = w.heap.size + 3) W2 W3 by rw [hW3]; exact Kit.Exc.setCell (S := fun j => j = w.heap.size + 3) (p := ⟨w.heap.size + 1 + 1 + 1, 0, none⟩) (Kit.Exc.refl _ W2) (.inl rfl) _)
 have HS3 := qh (show Kit.Bk W3 (w.heap.size + 3) 41 #[.int .i64 0] by rw [hW3]; exact HR3.out.put 0 (.int .i64 0) rfl)
 have HS2 := qh (HR2.out.exc HX3.out omg)
 have HS1 := qh (HR1.out.exc HX3.out omg)
 have HBW3 := qh (show Below w.heap.size w W3 from HB2.out.trans (HX3.out.below HB2.out.size (fun j hj => by omega)))
 have HZ2 := qh (show w.heap.size + 4 ≤ W1.heap.size by rw [HZ1.out]; exact Nat.le_refl _)
 obtain ⟨aL, cL, rfl⟩ := Kit.own_shape HOWN.out
 obtain ⟨hsl, _, hslb⟩ := Kit.own_sl HOWN.out (Mo.sg_get l)
 have HSL := qh (show Tp.Sl W3 aL l.length 14 (Ex.sgc l) by
  rcases hsl with h | ⟨ad, h1, h2, h3⟩
  ·exact .inl h
  ·have := hslb ad h1
   refine .inr ⟨ad, h1, Nat.lt_of_lt_of_le h2 HX3.out.size, fun i j hi hj => (World.cell?_of_block (by rw [Tp.add_block]; exact HX3.out.block _ h2 (by have := HZ2.out; omega))).trans (h3 i j hi hj)⟩)
 clear hW3 c3 f3 hsl hslb HR1 HR2 HR3 HOWN HX3
 have c0 : W3.cell? ⟨w.heap.size + 1, 0, none⟩ = some (.int .i64 s.x) := (HS1.out.cell 0).trans rfl
 have c1 : W3.cell? ⟨w.heap.size + 1, 1, none⟩ = some (.int .i64 s.y) := (HS1.out.cell 1).trans rfl
 have c2 : W3.cell? ⟨w.heap.size + 1, 2, none⟩ = some (.int .i64 s.f) := (HS1.out.cell 2).trans rfl
 have c3 : W3.cell? ⟨w.heap.size + 1, 3, none⟩ = some (.int .i64 s.d0) := (HS1.out.cell 3).trans rfl
 have c4 : W3.cell? ⟨w.heap.size + 1, 4, none⟩ = some (.int .i64 s.v0) := (HS1.out.cell 4).trans rfl
 have c5 : W3.cell? ⟨w.heap.size + 1, 5, none⟩ = some (.int .i64 s.d1) := (HS1.out.cell 5).trans rfl
 have c6 : W3.cell? ⟨w.heap.size + 1, 6, none⟩ = some (.int .i64 s.v1) := (HS1.out.cell 6).trans rfl
 have c7 : W3.cell? ⟨w.heap.size + 1, 7, none⟩ = some (.int .i64 s.d2) := (HS1.out.cell 7).trans rfl
 have c8 : W3.cell? ⟨w.heap.size + 1, 8, none⟩ = some (.int .i64 s.v2) := (HS1.out.cell 8).trans rfl
 have c9 : W3.cell? ⟨w.heap.size + 1, 9, none⟩ = some (.int .i64 s.d3) := (HS1.out.cell 9).trans rfl
 have c10 : W3.cell? ⟨w.heap.size + 1, 10, none⟩ = some (.int .i64 s.v3) := (HS1.out.cell 10).trans rfl
 have c11 : W3.cell? ⟨w.heap.size + 1, 11, none⟩ = some (.int .i64 s.d4) := (HS1.out.cell 11).trans rfl
 have c12 : W3.cell? ⟨w.heap.size + 1, 12, none⟩ = some (.int .i64 s.v4) := (HS1.out.cell 12).trans rfl
 have hpc : Calls Tryz.prog 25 #[.agg (Mo.stA s)] W3 fun e w' => e = .returned (.int .i64 0) ∧ Below W3.heap.size W3 w' := by
  have h := HPC.out W3
  rw [if_pos HOKS.out] at h
  exact h
 have HPQ := qh hpc
 clear hpc
 go_wp2_with fail
 refine HPQ.out.mono ?_
 rintro _ W4 ⟨rfl, hb4⟩
 have HF2 := qh (HS2.out.below hb4 HS2.out.lt)
 have HF3 := qh (HS3.out.below hb4 HS3.out.lt)
 have HF1 := qh (HS1.out.below hb4 HS1.out.lt)
 have HFB := qh (HBW3.out.trans (hb4.mono HBW3.out.size))
 have HFS := qh (HSL.out.kept hb4 nlr)
 clear hb4 HS1 HS2 HS3 HBW3 HSL HPQ c0 c1 c2 c3 c4 c5 c6 c7 c8 c9 c10 c11 c12
 have hlen : l.length ≤ 4096 := by
  rw [HOF2.out.perm.length_eq]
  exact Nat.le_trans (List.length_filter_le _ _) HGD.out.len
 have HSTP := qh (mo_steps (Mo.ofI x role bar) l r aL aR cL cR W4 HOF2.out.perm (Mo.ofI_lt HGD.out role bar) hlen HFS.out (HR.out.kept HFB.out nlr))
 have HLEN := qh hlen
 clear hlen
 go_wp2_with fail
 refine HSTP.out.mono ?_
 rintro _ W5 ⟨⟨v5, rfl, hown5⟩, hb5⟩
 have HG2 := qh (HF2.out.below hb5 HF2.out.lt)
 have HG3 := qh (HF3.out.below hb5 HF3.out.lt)
 have HG1 := qh (HF1.out.below hb5 HF1.out.lt)
 have HGB := qh (HFB.out.trans (hb5.mono HFB.out.size))
 have HOW5 := qh hown5
 have HZ4 := qh (show w.heap.size + 4 ≤ W4.heap.size from HF3.out.lt)
 clear hb5 hown5 HF1 HF2 HF3 HFB HFS HSTP
 rw [HMOT.out]
 obtain ⟨aM, cM, rfl⟩ := Kit.own_shape (HOW5.out HMOT.out)
 obtain ⟨hsm, hml, hsmb⟩ := Kit.Sv.of_own (enc := Mo.spC) Mo.spC_len (l := l.map fun k => (k, Mo.real r k.id)) (by have h := HOW5.out HMOT.out; rw [List.length_map]; exact h)
 have HSM := qh hsm
 have HSMB := qh hsmb
 clear hsm hml hsmb HOW5
 have c0 : W5.cell? ⟨w.heap.size + 1, 0, none⟩ = some (.int .i64 s.x) := (HG1.out.cell 0).trans rfl
 have c1 : W5.cell? ⟨w.heap.size + 1, 1, none⟩ = some (.int .i64 s.y) := (HG1.out.cell 1).trans rfl
 have c2 : W5.cell? ⟨w.heap.size + 1, 2, none⟩ = some (.int .i64 s.f) := (HG1.out.cell 2).trans rfl
 have c3 : W5.cell? ⟨w.heap.size + 1, 3, none⟩ = some (.int .i64 s.d0) := (HG1.out.cell 3).trans rfl
 have c4 : W5.cell? ⟨w.heap.size + 1, 4, none⟩ = some (.int .i64 s.v0) := (HG1.out.cell 4).trans rfl
 have c5 : W5.cell? ⟨w.heap.size + 1, 5, none⟩ = some (.int .i64 s.d1) := (HG1.out.cell 5).trans rfl
 have c6 : W5.cell? ⟨w.heap.size + 1, 6, none⟩ = some (.int .i64 s.v1) := (HG1.out.cell 6).trans rfl
 have c7 : W5.cell? ⟨w.heap.size + 1, 7, none⟩ = some (.int .i64 s.d2) := (HG1.out.cell 7).trans rfl
 have c8 : W5.cell? ⟨w.heap.size + 1, 8, none⟩ = some (.int .i64 s.v2) := (HG1.out.cell 8).trans rfl
 have c9 : W5.cell? ⟨w.heap.size + 1, 9, none⟩ = some (.int .i64 s.d3) := (HG1.out.cell 9).trans rfl
 have c10 : W5.cell? ⟨w.heap.size + 1, 10, none⟩ = some (.int .i64 s.v3) := (HG1.out.cell 10).trans rfl
 have c11 : W5.cell? ⟨w.heap.size + 1, 11, none⟩ = some (.int .i64 s.d4) := (HG1.out.cell 11).trans rfl
 have c12 : W5.cell? ⟨w.heap.size + 1, 12, none⟩ = some (.int .i64 s.v4) := (HG1.out.cell 12).trans rfl
 go_wp2_with fail
 refine (mo_way s aM l.length cM _).mono ?_
 rintro _ W6 ⟨rfl, hW6⟩
 have HB6 := qh (show Below W5.heap.size W5 W6 by rw [hW6]; exact ((Below.refl _ _).alloc nlr _).alloc (by simp) _)
 have HQS := qh (show Kit.Bk W6 W5.heap.size 37 (Mo.stA s) by rw [hW6]; exact (Kit.Bk.new _ _ _).alloc _)
 have HQL := qh (show Kit.Bk W6 (W5.heap.size + 1) 86 #[.slice aM l.length cM] by
  rw [hW6]
  have h := Kit.Bk.new (W5.alloc (.cells (Mo.stA s) 37)) 86 #[.slice aM l.length cM]
  rwa [World.size_alloc] at h)
 have HH2 := qh (HG2.out.below HB6.out HG2.out.lt)
 have HH3 := qh (HG3.out.below HB6.out HG3.out.lt)
 have HHB := qh (HGB.out.trans (HB6.out.mono HGB.out.size))
 have HZ5 := qh (show w.heap.size + 3 < W5.heap.size from HG3.out.lt)
 obtain ⟨BS, hBS⟩ : ∃ b, W5.heap.size = b := ⟨_, rfl⟩
 rw [hBS] at HQS HQL HZ5 ⊢
 have HSMK := qh (HSM.out.kept HB6.out nlr)
 have HBS := qh hBS
 clear hW6 hBS c0 c1 c2 c3 c4 c5 c6 c7 c8 c9 c10 c11 c12
 go_wp2_with fail
 have HITER := qh (mo_iter 2 omg BS (BS + 1) (Mo.prs r l) s aM cM W6
  (fun y hy => by
   obtain ⟨k, hk, rfl⟩ := List.mem_map.1 hy
   have hk2 := (HOF2.out.perm.mem_iff).1 hk
   exact ⟨Mo.fit_of (HGD.out.oks k (List.mem_filter.1 hk2).1), Mo.mot_real _ _ (Mo.ofI_lt HGD.out role bar) HMOT.out k hk2⟩)
  HOKS.out (by rw [Mo.prs, List.length_map]; exact HLEN.out) (HFL.out.kept HHB.out nlr) HQS.out (by rw [Mo.prs, List.length_map]; exact HQL.out) HSMK.out omg
  (by have := HZ5.out; have := HFL.out.1; omega) (fun hne ad e => by
   rcases HSM.out with h | ⟨ad', h1, h2, _⟩
   ·exact absurd h hne
   ·rw [h1] at e
    cases e
    have := HBS.out
    omega))
 have HZW := qh (show BS + 2 ≤ W6.heap.size from by have := HQL.out.lt; omega)
 refine Kit.wp_rangeR rfl (enters_of Tryz.func72 (by kernel_rfl) rfl) HITER.out (fun _ => rfl)
  (Mo.FE w (w.heap.size + 2) (w.heap.size + 3)) (fun c pre Y W => c = .ret ∧ Mo.FX w (w.heap.size + 2) (w.heap.size + 3) (Mo.all (Mo.prs r l) s) pre Y W)
  (fun pre e a' Y W => Mo.FE w (w.heap.size + 2) (w.heap.size + 3) pre Y W ∧ ∃ b4, W6.heap.size + 2 ≤ b4 ∧ Kit.Bk W b4 37 (Mo.stA e.1) ∧ ¬ Y b4 ∧
   a' = { tmps := #[Value.agg #[Value.int IntKind.i64 x.wd, Value.int IntKind.i64 x.dp, Value.int IntKind.i64 x.ta, Value.int IntKind.i64 x.tb, Value.int IntKind.i64 x.tc, Value.slice aRo x.ro.length cRo, Value.int IntKind.i64 x.n, Value.slice aT x.ts.length cT, Value.slice aP x.ps.length cP, Value.slice aS x.ss.length cS, Value.slice aG x.sg.length cG], Value.int IntKind.i64 role, Value.int IntKind.i64 bar, Value.agg (Mo.stA s), Value.slice aR r.length cR, Value.pointer (some { block := w.heap.size, off := 0 }), undef, undef, Value.pointer (some { block := w.heap.size + 1, off := 0 }), undef, Value.pointer (some { block := w.heap.size + 1 + 1, off := 0 }), Value.pointer (some { block := w.heap.size + 1 + 1 + 1, off := 0 }), Value.slice aL l.length cL, Value.int IntKind.i64 0, Value.slice aM l.length cM, Value.bool true, .pointer (some ⟨b4, 0, none⟩), .int .i64 e.2, Value.tuple #[Value.slice aL l.length cL, Value.int IntKind.i64 0], Value.agg #[Value.int IntKind.i64 x.wd, Value.int IntKind.i64 x.dp, Value.int IntKind.i64 x.ta, Value.int IntKind.i64 x.tb, Value.int IntKind.i64 x.tc, Value.slice aRo x.ro.length cRo, Value.int IntKind.i64 x.n, Value.slice aT x.ts.length cT, Value.slice aP x.ps.length cP, Value.slice aS x.ss.length cS, Value.slice aG x.sg.length cG], Value.int IntKind.i64 role, Value.int IntKind.i64 bar, Value.tuple #[Value.slice aL l.length cL, Value.int IntKind.i64 0], Value.slice aL l.length cL, Value.int IntKind.i64 0, Value.int IntKind.i64 0, Value.bool false, undef, undef, Value.agg #[Value.int IntKind.i64 s.x, Value.int IntKind.i64 s.y, Value.int IntKind.i64 s.f, Value.int IntKind.i64 s.d0, Value.int IntKind.i64 s.v0, Value.int IntKind.i64 s.d1, Value.int IntKind.i64 s.v1, Value.int IntKind.i64 s.d2, Value.int IntKind.i64 s.v2, Value.int IntKind.i64 s.d3, Value.int IntKind.i64 s.v3, Value.int IntKind.i64 s.d4, Value.int IntKind.i64 s.v4], Value.int IntKind.i64 0, Value.int IntKind.i64 0, Value.bool false, undef, undef, Value.tuple #[Value.slice aM l.length cM, Value.bool true], Value.slice aL l.length cL, Value.slice aR r.length cR, Value.tuple #[Value.slice aM l.length cM, Value.bool true], Value.slice aM l.length cM, Value.bool true, Value.bool true, Value.bool false, undef, Value.agg #[Value.int IntKind.i64 s.x, Value.int IntKind.i64 s.y, Value.int IntKind.i64 s.f, Value.int IntKind.i64 s.d0, Value.int IntKind.i64 s.v0, Value.int IntKind.i64 s.d1, Value.int IntKind.i64 s.v1, Value.int IntKind.i64 s.d2, Value.int IntKind.i64 s.v2, Value.int IntKind.i64 s.d3, Value.int IntKind.i64 s.v3, Value.int IntKind.i64 s.d4, Value.int IntKind.i64 s.v4], Value.slice aM l.length cM, Value.func (Fn.func 72) #[] #[Value.pointer (some { block := BS, off := 0 }), Value.pointer (some { block := BS + 1, off := 0 })], .agg (Mo.stA e.1), .int .i64 e.2, undef, undef, undef, undef, undef, undef], defers := [] })
  (fun k => k = w.heap.size + 2 ∨ k = w.heap.size + 3)
  (fun b hb => by have := HQS.out.lt; omega) (fun k hk => ?y0) ?hI ?hIx ?hIa ?h0 ?assign ?body ?done ?stop
 case y0 =>
  have h1 := HZ5.out
  have h2 := HZW.out
  have h3 := HFL.out.1
  refine ⟨by omega, by omega, fun hz => ?_⟩
  rcases hz with h | h | ⟨_, ad, e, h⟩
  ·omega
  ·omega
  ·have := HSMB.out ad e
   have := HZ4.out
   omega
 case hI =>
  intro pre Y A B h hx
  have h1 := HZ5.out
  have h2 := HZW.out
  exact h.keep hx omg omg (fun k hk => by omega)
 case hIx =>
  intro c pre Y A B h hx
  have h1 := HZ5.out
  have h2 := HZW.out
  exact ⟨h.1, h.2.keep hx omg omg (fun k hk => by omega)⟩
 case hIa =>
  intro pre e a' Y A B h hx
  have h1 := HZ5.out
  have h2 := HZW.out
  obtain ⟨hf, b4, h7, hh, hn, e7⟩ := h
  exact ⟨hf.keep hx omg omg (fun k hk => by omega), b4, h7, hh.exc hx omg, hn, e7⟩
 case h0 => exact ⟨fun k => Iff.rfl, HH2.out, HH3.out, HHB.out, fun y hy => by cases hy⟩
 case assign =>
  intro l' pre e Y W hI hok hY hsz
  have HI := qh hI
  have HY := qh hY
  have HSZ := qh hsz
  clear hI hY hok hsz
  gi_wp2
  exact ⟨Y, (Kit.Exc.refl _ _).alloc _, fun k hk => ⟨.inl hk, by have := HY.out k hk; simp; omega⟩, HI.out.keep ((Kit.Exc.refl (fun _ => False) W).alloc _) (fun h => h) (fun h => h) (fun _ h => h.elim),
   W.heap.size, HSZ.out, Kit.Bk.new W _ _, fun h => by have := HY.out _ h; omega, rfl⟩
 case body =>
  rintro l' pre e a' Y W hl' hrec ⟨hI, b4, hb4, hc4, hn4, rfl⟩ ⟨post, hpost⟩ hY
  have HI := qh hI
  have HC4 := qh hc4
  have HN4 := qh hn4
  have HPO := qh hpost
  have HYS := qh hY
  clear hI hc4 hn4 hpost hY hrec
  by_cases hf : e.2 = 0
  ·have cf : (e.2 != 0) = false := by rw [hf]; rfl
   have HF := qh hf
   clear hf
   gi_upto_region 15 with fail
   refine wpIn_region_lit ?_
   refine Kit.wpListIn_run rfl (by intro c h; cases h) (by intro c h; cases h) (.agg (Mo.stA e.1)) W (Kit.run_load_bk 37 (.tmp 16) rfl b4 rfl HC4.out Tryz.underlying37 rfl (Mo.szS e.1)) ?_
   refine Kit.wpListIn_store_bk0 rfl 37 (.tmp 10) (.tmp 53) rfl (w.heap.size + 2) rfl (Mo.stA e.1) rfl HI.out.res rfl (Mo.szS e.1) (Mo.stA_one e.1) ?_
   intro W7 hb7 hx7
   have HB7 := qh hb7
   have HX7 := qh hx7
   clear hb7 hx7
   simp only [Act.put]
   go_simp
   gi_wp2
   refine ⟨Y, HX7.out.mono (fun k _ h => (HI.out.yy k).2 (.inl h)), fun k hk => ⟨.inl hk, Nat.lt_of_lt_of_le (HYS.out k hk).1 HX7.out.size⟩, HI.out.yy, by rw [Mo.lastS_snoc]; exact HB7.out, HI.out.err.exc HX7.out omg, HI.out.bel.trans (HX7.out.below HI.out.bel.size (fun j hj => by omega)), fun y hy => ?_⟩
   rcases List.mem_append.1 hy with h | h
   ·exact HI.out.all y h
   ·rw [List.mem_singleton.1 h]; exact HF.out
  ·have cf : (e.2 != 0) = true := by simpa using hf
   have HF := qh hf
   clear hf
   gi_upto_region 14 with fail
   refine wpIn_region_lit ?_
   refine Kit.wpListIn_run rfl (by intro c h; cases h) (by intro c h; cases h) (.agg (Mo.stA Mo.St.zero)) W (Mo.build_st0 _ _ _ _ _ _) ?_
   refine Kit.wpListIn_run rfl (by intro c h; cases h) (by intro c h; cases h) (.int .i64 e.2) W rfl ?_
   refine Kit.wpListIn_store_bk0 rfl 37 (.tmp 10) (.tmp 51) rfl (w.heap.size + 2) rfl (Mo.stA Mo.St.zero) rfl HI.out.res rfl (Mo.szS _) HIO.out ?_
   intro W7 hb7 hx7
   refine Mo.storeIn_er rfl (.tmp 11) (.tmp 52) rfl (w.heap.size + 3) rfl e.2 rfl (HI.out.err.exc hx7 omg) ?_
   intro W8 hb8 hx8
   have HB7 := qh (hb7.exc hx8 omg)
   have HB8 := qh hb8
   have HX8 := qh (show Kit.Exc (fun k => k = w.heap.size + 2 ∨ k = w.heap.size + 3) W W8 from (hx7.mono (fun k _ h => .inl h)).trans (hx8.mono (fun k _ h => .inr h)))
   clear hb7 hx7 hb8 hx8
   simp only [Act.put]
   go_simp
   gi_wp2
   exact ⟨Y, HX8.out.mono (fun k _ h => (HI.out.yy k).2 h), fun k hk => ⟨.inl hk, Nat.lt_of_lt_of_le (HYS.out k hk).1 HX8.out.size⟩, rfl, HI.out.yy, HB7.out, HI.out.bel.trans (HX8.out.below HI.out.bel.size (fun j hj => by omega)), e.1, e.2, post, pre, HF.out, HB8.out, HPO.out⟩
 case done =>
  rintro D xs Y W hD hYD hxs hFE hK
  subst hxs
  obtain ⟨hfine, hlast⟩ := Mo.all_good hFE.all
  have HFI := qh hfine
  have HLA := qh hlast
  have HFE := qh hFE
  have HK := qh hK
  have HD1 := qh (show D ≠ w.heap.size + 2 from fun e => hYD ((hFE.yy D).2 (.inl e)))
  have HD2 := qh (show D ≠ w.heap.size + 3 from fun e => hYD ((hFE.yy D).2 (.inr e)))
  have HDW := qh hD
  clear hFE hK hYD hfine hlast hD
  go_upto_region 16 with fail
  refine wp_region_lit ?_
  refine Kit.load_bk0 rfl 37 (.tmp 10) rfl (w.heap.size + 2) rfl HFE.out.res Tryz.underlying37 rfl (Mo.szS _) ?_
  refine Kit.store_bk0 rfl 37 (.tmp 10) (.tmp 54) rfl (w.heap.size + 2) rfl (Mo.stA (Mo.lastS (Mo.all (Mo.prs r l) s))) rfl HFE.out.res rfl (Mo.szS _) (Mo.stA_one _) ?_
  intro X1 hq1 hx1
  refine Mo.store_er rfl (.tmp 11) (.const (.int .i64 0)) rfl (w.heap.size + 3) rfl 0 rfl (HFE.out.err.exc hx1 omg) ?_
  intro X2 hq2 hx2
  have hx3 : Kit.Exc (fun k => k = w.heap.size + 2 ∨ k = w.heap.size + 3) W X2 := (hx1.mono (fun k _ h => .inl h)).trans (hx2.mono (fun k _ h => .inr h))
  have hK2 := hx3.heap HK.out (fun h => h.elim HD1.out HD2.out)
  have hp : Kit.Exc (fun k => k = D) X2 (X2.putObj D (.deferred none)) := (Kit.Exc.refl _ X2).putObj _ _ (.inl rfl)
  have HP1 := qh ((hq1.exc hx2 omg).exc hp (fun e => HD1.out e.symm))
  have HP2 := qh (hq2.exc hp (fun e => HD2.out e.symm))
  have HPB := qh (show Below w.heap.size w (X2.putObj D (.deferred none)) from (HFE.out.bel.trans (hx3.below HFE.out.bel.size (fun j hj => by omega))).trans (hp.below (Nat.le_trans HFE.out.bel.size hx3.size) (fun j hj => by have := HDW.out; have := HHB.out.size; omega)))
  have HK2 := qh hK2
  clear hq1 hx1 hq2 hx2 hx3 hK2 hp
  simp only [Act.put]
  go_simp
  go_wp2_with fail
  refine Kit.post_mark HK2.out (Mo.res_er rfl rfl rfl HP1.out HP2.out) ⟨⟨_, 0, rfl, HRES.out _ _ ?_⟩, HPB.out⟩
  unfold Mo.EndR
  rw [HER.out, if_neg (by simp), if_neg (by rw [HOKS.out]; decide), if_neg (by rw [HMOT.out]; decide)]
  exact ⟨l, HOF2.out, by rw [if_pos HFI.out]; exact ⟨HLA.out, rfl⟩⟩
 case stop =>
  rintro D c pre Y W hD hYD hSp ⟨rfl, hFX⟩ hK
  obtain ⟨T, f, post, pre', hf, he, hp⟩ := hFX.bad
  obtain ⟨hfi, rfl⟩ := Mo.all_bad2 hp hf
  have hd1 : D ≠ w.heap.size + 2 := fun e => hYD ((hFX.yy D).2 (.inl e))
  have hd2 : D ≠ w.heap.size + 3 := fun e => hYD ((hFX.yy D).2 (.inr e))
  have hpu : Kit.Exc (fun k => k = D) W (W.putObj D (.deferred none)) := (Kit.Exc.refl _ W).putObj _ _ (.inl rfl)
  have HP1 := qh (hFX.res.exc hpu (fun e => hd1 e.symm))
  have HP2 := qh (he.exc hpu (fun e => hd2 e.symm))
  have HPB := qh (show Below w.heap.size w (W.putObj D (.deferred none)) from hFX.bel.trans (hpu.below hFX.bel.size (fun j hj => by have := HHB.out.size; omega)))
  have HK2 := qh hK
  have HFI := qh hfi
  clear hFX hf he hp hpu hK hfi hd1 hd2 hYD hSp
  go_wp2_with fail
  refine Kit.post_mark HK2.out (Mo.res_er rfl rfl rfl HP1.out HP2.out) ⟨⟨_, 2, rfl, HRES.out _ _ ?_⟩, HPB.out⟩
  unfold Mo.EndR
  rw [HER.out, if_neg (by simp), if_neg (by rw [HOKS.out]; decide), if_neg (by rw [HMOT.out]; decide)]
  exact ⟨l, HOF2.out, by rw [if_neg (by rw [HFI.out]; decide)]; exact ⟨rfl, rfl⟩⟩
theorem mo_end (x : Ex.Wk) (p : Ex.Wa) (w : World) (hL : Ex.Laid w) (hF : Uo.Flat w) (ha : Ex.At w x p) (role bar : Int) (s : Mo.St) (r : List Uo.Re) (aR : Option Addr) (cR : Nat) (hR : Tp.Sl w aR r.length 4 (Mo.rcs r)) :
  Calls Tryz.prog 12 #[Ex.workV x p, .int .i64 role, .int .i64 bar, .agg (Mo.stA s), .slice aR r.length cR] w fun e w' => (∃ t er, e = .returned (.tuple #[.agg (Mo.stA t), .int .i64 er]) ∧ Mo.EndR x role bar s r t er) ∧ Below w.heap.size w w' := by
 by_cases h : Mo.ofE x role bar = 0 ∧ Mo.ok s = true ∧ Mo.mot (Mo.ofI x role bar) r = true
 ·exact mo_end_0 x p w hL hF ha role bar s r aR cR hR h.1 h.2.1 h.2.2
 ·exact mo_end_e x p w hL hF ha role bar s r aR cR hR h
end Go.Proofs.YtedolbjgdedoaaaGreatDoor

namespace Go.Proofs.YtedolbjgdedoaaaGreatDoor
open Go.RowKit Go.Shelf
namespace Mo
def chkE (x : Ex.Wk) (role bar : Int) (r : List Uo.Re) : Int := if ofE x role bar ≠ 0 then ofE x role bar else if mot (ofI x role bar) r = true then 0 else 270
abbrev bxA (b : Bx) : Array Value := #[.int .i64 b.xl, .int .i64 b.xh, .int .i64 b.yl, .int .i64 b.yh]
def okX (b : Bx) : Prop := Sp.okBox b.xl b.xh b.yl b.yh = true
theorem bxA_one (b : Bx) : (bxA b).all (·.oneCell') = true := by simp [bxA, Value.oneCell']
theorem szB (b : Bx) : (Tryz.prog.info? 52).map (·.size) = some (bxA b).size := by kernel_rfl
theorem okX_iff (b : Bx) : okX b ↔ ((-1099511627776 ≤ b.xl ∧ b.xl ≤ 1099511627776) ∧ (-1099511627776 ≤ b.xh ∧ b.xh ≤ 1099511627776) ∧ (-1099511627776 ≤ b.yl ∧ b.yl ≤ 1099511627776) ∧ (-1099511627776 ≤ b.yh ∧ b.yh ≤ 1099511627776)) ∧ b.xl ≤ b.xh ∧ b.yl ≤ b.yh := by
 unfold okX Sp.okBox
 simp [Sp.inB, and_assoc]
theorem okX_join {a b : Bx} (h : okX a) (k : okX b) : okX (join a b) := by
 rw [okX_iff] at *
 unfold join mnI mxI
 dsimp only
 refine ⟨⟨?_, ?_, ?_, ?_⟩, ?_, ?_⟩ <;> (repeat' split) <;> omega
end Mo
theorem mo_check (x : Ex.Wk) (p : Ex.Wa) (w : World) (hL : Ex.Laid w) (ha : Ex.At w x p) (role bar : Int) (r : List Uo.Re) (aR : Option Addr) (cR : Nat) (hR : Tp.Sl w aR r.length 4 (Mo.rcs r)) :
  Calls Tryz.prog 14 #[Ex.workV x p, .int .i64 role, .int .i64 bar, .slice aR r.length cR] w fun e w' => e = .returned (.int .i64 (Mo.chkE x role bar r)) ∧ Below w.heap.size w w' := by
 have HOF := qh (fun W (hb : Below w.heap.size w W) => ex_of x p W (hL.kept hb nlr) (ha.kept hb nlr) role bar)
 have HR := qh hR
 have HG := qh (show Ex.chk x = 0 → Ex.Good x from Ex.good_of)
 have HOE := qh (show Mo.ofE x role bar = 0 → Ex.chk x = 0 from fun h => by
  unfold Mo.ofE at h
  split at h
  ·rename_i h1; exact absurd h h1
  ·rename_i h1; simpa using h1)
 obtain ⟨res, hres⟩ : ∃ e, Mo.chkE x role bar r = e := ⟨_, rfl⟩
 rw [hres]
 have HRES := qh hres
 obtain ⟨aRo, cRo, aT, cT, aP, cP, aS, cS, aG, cG⟩ := p
 dsimp only [Ex.workV, Ex.wv]
 clear hL ha hR hres
 go_enter Tryz.func14, Tryz.ntmps14
 go_upto_region 1 with fail
 refine Kit.wp_name ?_
 intro W1 hW1
 have HQ0 := qh (show Kit.Bk W1 w.heap.size 32 (Mo.wkC x ⟨aRo, cRo, aT, cT, aP, cP, aS, cS, aG, cG⟩) by rw [hW1]; exact Kit.Bk.new _ _ _)
 have HB1 := qh (show Below w.heap.size w W1 by rw [hW1]; exact (Below.refl _ _).alloc nlr _)
 clear hW1
 have wk1 : ∀ j, W1.cell? ⟨w.heap.size, j, none⟩ = (Mo.wkC x ⟨aRo, cRo, aT, cT, aP, cP, aS, cS, aG, cG⟩)[j]? := fun j => HQ0.out.cell j
 go_wp2_with fail
 refine (HOF.out _ HB1.out).mono ?_
 rintro _ W2 ⟨⟨v, l, rfl, hof, hown⟩, hb2⟩
 have HB2 := qh (show Below w.heap.size w W2 from HB1.out.trans (hb2.mono HB1.out.size))
 have HOWN := qh hown
 have HOFL := qh hof
 clear hof hown hb2 HQ0 HB1 wk1 HOF
 obtain ⟨er, her⟩ : ∃ er, Mo.ofE x role bar = er := ⟨_, rfl⟩
 rw [her]
 have HER := qh her
 clear her
 by_cases h0 : er = 0
 case neg =>
  have c1 : (er != 0) = true := by simpa using h0
  have HE := qh (show res = er by rw [← HRES.out]; unfold Mo.chkE; rw [HER.out, if_pos h0])
  clear h0
  go_wp2_with fail
  go_ret
  exact ⟨by rw [HE.out]; rfl, HB2.out⟩
 subst h0
 have HGD := qh (HG.out (HOE.out HER.out))
 have HOF2 := qh (HOFL.out HER.out)
 clear HOFL HG HOE
 obtain ⟨aL, cL, rfl⟩ := Kit.own_shape HOWN.out
 obtain ⟨hsl, _, _⟩ := Kit.own_sl HOWN.out (Mo.sg_get l)
 have hlen : l.length ≤ 4096 := by
  rw [HOF2.out.perm.length_eq]
  exact Nat.le_trans (List.length_filter_le _ _) HGD.out.len
 have HSTP := qh (mo_steps (Mo.ofI x role bar) l r aL aR cL cR W2 HOF2.out.perm (Mo.ofI_lt HGD.out role bar) hlen hsl (HR.out.kept HB2.out nlr))
 clear hsl hlen
 go_wp2_with fail
 refine HSTP.out.mono ?_
 rintro _ W3 ⟨⟨v3, rfl, _⟩, hb3⟩
 have HB3 := qh (HB2.out.trans (hb3.mono HB2.out.size))
 clear hb3 HSTP
 have HRX := qh (show res = if Mo.mot (Mo.ofI x role bar) r = true then 0 else 270 by rw [← HRES.out]; unfold Mo.chkE; rw [HER.out, if_neg (by simp)])
 rcases hm : Mo.mot (Mo.ofI x role bar) r with _ | _
 ·have HE := qh (show res = 270 by rw [HRX.out, hm]; rfl)
  clear HRX hm
  go_wp2_with fail
  go_ret
  exact ⟨by rw [HE.out]; rfl, HB3.out⟩
 ·have HE := qh (show res = 0 by rw [HRX.out, hm]; rfl)
  clear HRX hm
  go_wp2_with fail
  go_ret
  exact ⟨by rw [HE.out]; rfl, HB3.out⟩
theorem mo_square (n : Int) (w : World) (h0 : 0 ≤ n) (h1 : n ≤ 1000000000000) : Calls Tryz.prog 39 #[.int .i64 n] w fun e w' => e = .returned (.agg (Mo.bxA (Mo.sq n))) ∧ Below w.heap.size w w' := by
 have hw : IntKind.i64.wrap (-n) = -n := by rw [IntKind.wrap_i64] <;> omega
 go_enter Tryz.func39, Tryz.ntmps39
 go_wp2_with fail
 (refine bodyPost_ret (by simp [results, Tryz.results39, go_sem, Kit.cell_set]; try rfl) rfl ?_)
 exact ⟨rfl, by exact Kit.gr⟩
theorem mo_join (a b : Mo.Bx) (V : Nat) (T : TypeId) (w : World) (ha : Mo.okX a) (hb : Mo.okX b) (hV : Kit.Bk w V T (Mo.bxA b)) : Calls Tryz.prog 40 #[.agg (Mo.bxA a), .slice (some ⟨V, 0, none⟩) 1 1] w fun e w' => e = .returned (.agg (Mo.bxA (Mo.join a b))) ∧ Below w.heap.size w w' := by
 have HJ := qh (fun W => (by have h := sp_join_3 a.xl a.xh a.yl a.yh b.xl b.xh b.yl b.yh W ha hb; unfold Sp.JoinIs at h; exact h : Calls Tryz.prog 81 #[.agg (Mo.bxA a), .agg (Mo.bxA b)] W fun e w' => e = .returned (.tuple #[.agg (Mo.bxA (Mo.join a b)), .int .i64 0]) ∧ Below W.heap.size W w'))
 have HV := qh hV
 clear ha hb hV
 go_enter Tryz.func40, Tryz.ntmps40
 have v0 : w.cell? ⟨V, 0, none⟩ = some (.int .i64 b.xl) := (HV.out.cell 0).trans rfl
 have v1 : w.cell? ⟨V, 1, none⟩ = some (.int .i64 b.xh) := (HV.out.cell 1).trans rfl
 have v2 : w.cell? ⟨V, 2, none⟩ = some (.int .i64 b.yl) := (HV.out.cell 2).trans rfl
 have v3 : w.cell? ⟨V, 3, none⟩ = some (.int .i64 b.yh) := (HV.out.cell 3).trans rfl
 have hlt := HV.out.lt
 obtain ⟨J, hJ⟩ : ∃ J, Mo.join a b = J := ⟨_, rfl⟩
 rw [hJ] at HJ ⊢
 clear hJ
 skip
 go_wp2_with fail
 refine wp_loop_rounds 2 ?_
 rw [rounds_succ]
 (go_wp2_with (fail); refine (HJ.out _).mono ?_; rintro e w1_ ⟨rfl, hb1_⟩; have hp1_ : Below w.heap.size w w1_ := Below.trans (by exact Kit.gr) (hb1_.mono (by first | assumption | (simp; done) | (simp; omega) | omega)); have hw1_ : Below w.heap.size w w1_ := hp1_; obtain ⟨hc1_, hf1_⟩ := Kit.bcell hb1_; have z1_w : w.heap.size < w1_.heap.size := (by have := hb1_.size; first | omega | (simp at this; omega)); obtain ⟨g1_w_0, g1_w_1, g1_w_2, g1_w_3⟩ : w1_.cell? ⟨w.heap.size, 0, none⟩ = some (.int .i64 a.xl) ∧ w1_.cell? ⟨w.heap.size, 1, none⟩ = some (.int .i64 a.xh) ∧ w1_.cell? ⟨w.heap.size, 2, none⟩ = some (.int .i64 a.yl) ∧ w1_.cell? ⟨w.heap.size, 3, none⟩ = some (.int .i64 a.yh) := (by refine ⟨?_, ?_, ?_, ?_⟩ <;> (rw [hc1_ _ _ (by first | assumption | (simp; done) | (simp; omega) | omega)]; first | assumption | (simp [go_sem]; done) | (simp [go_sem, *]; done))); have f1_w_0 : w1_.frozen? ⟨w.heap.size, 0, none⟩ = false := (by rw [hf1_ _ _ (by first | assumption | (simp; done) | (simp; omega) | omega)]; first | assumption | (simp [go_sem]; done) | (simp [go_sem, *]; done)); have f1_w_1 : w1_.frozen? ⟨w.heap.size, 1, none⟩ = false := (by rw [hf1_ _ _ (by first | assumption | (simp; done) | (simp; omega) | omega)]; first | assumption | (simp [go_sem]; done) | (simp [go_sem, *]; done)); have f1_w_2 : w1_.frozen? ⟨w.heap.size, 2, none⟩ = false := (by rw [hf1_ _ _ (by first | assumption | (simp; done) | (simp; omega) | omega)]; first | assumption | (simp [go_sem]; done) | (simp [go_sem, *]; done)); have f1_w_3 : w1_.frozen? ⟨w.heap.size, 3, none⟩ = false := (by rw [hf1_ _ _ (by first | assumption | (simp; done) | (simp; omega) | omega)]; first | assumption | (simp [go_sem]; done) | (simp [go_sem, *]; done)); have z1_w_1 : w.heap.size + 1 < w1_.heap.size := (by have := hb1_.size; first | omega | (simp at this; omega)); obtain ⟨g1_w_1_0, g1_w_1_1, g1_w_1_2, g1_w_1_3⟩ : w1_.cell? ⟨w.heap.size + 1, 0, none⟩ = some (.int .i64 0) ∧ w1_.cell? ⟨w.heap.size + 1, 1, none⟩ = some (.int .i64 0) ∧ w1_.cell? ⟨w.heap.size + 1, 2, none⟩ = some (.int .i64 0) ∧ w1_.cell? ⟨w.heap.size + 1, 3, none⟩ = some (.int .i64 0) := (by refine ⟨?_, ?_, ?_, ?_⟩ <;> (rw [hc1_ _ _ (by first | assumption | (simp; done) | (simp; omega) | omega)]; first | assumption | (simp [go_sem]; done) | (simp [go_sem, *]; done))); have f1_w_1_0 : w1_.frozen? ⟨w.heap.size + 1, 0, none⟩ = false := (by rw [hf1_ _ _ (by first | assumption | (simp; done) | (simp; omega) | omega)]; first | assumption | (simp [go_sem]; done) | (simp [go_sem, *]; done)); have f1_w_1_1 : w1_.frozen? ⟨w.heap.size + 1, 1, none⟩ = false := (by rw [hf1_ _ _ (by first | assumption | (simp; done) | (simp; omega) | omega)]; first | assumption | (simp [go_sem]; done) | (simp [go_sem, *]; done)); have f1_w_1_2 : w1_.frozen? ⟨w.heap.size + 1, 2, none⟩ = false := (by rw [hf1_ _ _ (by first | assumption | (simp; done) | (simp; omega) | omega)]; first | assumption | (simp [go_sem]; done) | (simp [go_sem, *]; done)); have f1_w_1_3 : w1_.frozen? ⟨w.heap.size + 1, 3, none⟩ = false := (by rw [hf1_ _ _ (by first | assumption | (simp; done) | (simp; omega) | omega)]; first | assumption | (simp [go_sem]; done) | (simp [go_sem, *]; done)); clear hc1_ hf1_; clear hb1_ hp1_)
 go_wp2_with fail
 rw [rounds_succ]
 go_wp2_with fail
 (refine bodyPost_ret (by simp [results, Tryz.results40, go_sem, Kit.cell_set, g1_w_1_0, g1_w_1_1, g1_w_1_2, g1_w_1_3]; try rfl) rfl ?_)
 exact ⟨rfl, by exact Kit.gr⟩
end Go.Proofs.YtedolbjgdedoaaaGreatDoor

namespace Go.Proofs.YtedolbjgdedoaaaGreatDoor
open Go.RowKit Go.Shelf
namespace Mo
def Bx.zero : Bx := ⟨0, 0, 0, 0⟩
def SwR (x : Ex.Wk) (role bar : Int) (s : St) (b : Un.Bd) (r : List Uo.Re) (t : Bx) (e : Int) : Prop :=
 if ofE x role bar ≠ 0 then t = Bx.zero ∧ e = ofE x role bar else if ok s = false then t = Bx.zero ∧ e = 260 else if Un.bok b = false then t = Bx.zero ∧ e = 250 else if mot (ofI x role bar) r = false then t = Bx.zero ∧ e = 270
 else ∃ l, Of x role bar l ∧ (if fine r l s = true then t = sweep r l s b ∧ e = 0 else t = Bx.zero ∧ e = 2)
structure SQ (w W : World) (x : Ex.Wk) (p : Ex.Wa) (s : St) (b : Un.Bd) (t : Bx) (e : Int) : Prop where
 bel : Below w.heap.size w W
 wk : Kit.Bk W w.heap.size 32 (wkC x p)
 st : Kit.Bk W (w.heap.size + 1) 37 (stA s)
 bd : Kit.Bk W (w.heap.size + 2) 48 (Un.bdA b)
 res : Kit.Bk W (w.heap.size + 3) 52 (bxA t)
 err : Kit.Bk W (w.heap.size + 4) 41 #[.int .i64 e]
theorem SQ.then {w W W' : World} {x : Ex.Wk} {p : Ex.Wa} {s : St} {b : Un.Bd} {t : Bx} {e : Int} (h : SQ w W x p s b t e) (hb : Below W.heap.size W W') : SQ w W' x p s b t e :=
 ⟨h.bel.trans (hb.mono h.bel.size), h.wk.below hb h.wk.lt, h.st.below hb h.st.lt, h.bd.below hb h.bd.lt, h.res.below hb h.res.lt, h.err.below hb h.err.lt⟩
theorem SQ.exc {S : Nat → Prop} {w W W' : World} {x : Ex.Wk} {p : Ex.Wa} {s : St} {b : Un.Bd} {t : Bx} {e : Int} (h : SQ w W x p s b t e) (hx : Kit.Exc S W W') (hs : ∀ k, S k → w.heap.size + 5 ≤ k) : SQ w W' x p s b t e :=
 ⟨h.bel.trans (hx.below h.bel.size (fun k hk => by have := hs k hk; omega)), h.wk.exc hx (fun k => by have := hs _ k; omega), h.st.exc hx (fun k => by have := hs _ k; omega), h.bd.exc hx (fun k => by have := hs _ k; omega), h.res.exc hx (fun k => by have := hs _ k; omega), h.err.exc hx (fun k => by have := hs _ k; omega)⟩
theorem SQ.er {w W W' : World} {x : Ex.Wk} {p : Ex.Wa} {s : St} {b : Un.Bd} {t : Bx} {e e' : Int} (h : SQ w W x p s b t e) (hx : Kit.Exc (fun k => k = w.heap.size + 4) W W') (he : Kit.Bk W' (w.heap.size + 4) 41 #[.int .i64 e']) : SQ w W' x p s b t e' :=
 ⟨h.bel.trans (hx.below h.bel.size (fun k hk => by omega)), h.wk.exc hx omg, h.st.exc hx omg, h.bd.exc hx omg, h.res.exc hx omg, he⟩
theorem SQ.bx {w W W' : World} {x : Ex.Wk} {p : Ex.Wa} {s : St} {b : Un.Bd} {t t' : Bx} {e : Int} (h : SQ w W x p s b t e) (hx : Kit.Exc (fun k => k = w.heap.size + 3) W W') (he : Kit.Bk W' (w.heap.size + 3) 52 (bxA t')) : SQ w W' x p s b t' e :=
 ⟨h.bel.trans (hx.below h.bel.size (fun k hk => by omega)), h.wk.exc hx omg, h.st.exc hx omg, h.bd.exc hx omg, he, h.err.exc hx omg⟩
theorem SQ.start (w : World) (x : Ex.Wk) (p : Ex.Wa) (s : St) (b : Un.Bd) : SQ w (((((w.alloc (.cells (wkC x p) 32)).alloc (.cells (stA s) 37)).alloc (.cells (Un.bdA b) 48)).alloc (.cells (bxA Bx.zero) 52)).alloc (.cells #[.int .i64 0] 41)) x p s b Bx.zero 0 := by
 obtain ⟨⟨q0, q1, q2, q3⟩, hb, hz⟩ := Kit.four w (wkC x p) (stA s) (Un.bdA b) (bxA Bx.zero) 32 37 48 52
 refine ⟨hb.alloc hb.size _, q0.alloc _, q1.alloc _, q2.alloc _, q3.alloc _, ?_⟩
 have h := Kit.Bk.new ((((w.alloc (.cells (wkC x p) 32)).alloc (.cells (stA s) 37)).alloc (.cells (Un.bdA b) 48)).alloc (.cells (bxA Bx.zero) 52)) 41 #[.int .i64 0]
 rwa [hz] at h
theorem szD (b : Un.Bd) : (Tryz.prog.info? 48).map (·.size) = some (Un.bdA b).size := by kernel_rfl
theorem res_bx {fn : Func} {tmps : Array Value} {w : World} {c u : Tmp} {b d : Nat} {t : Bx} {er : Int} {T U : TypeId} (h : fn.results = #[.cell c 52, .cell u 41]) (hc : tmps.getD c undef = .pointer (some ⟨b, 0, none⟩)) (hu : tmps.getD u undef = .pointer (some ⟨d, 0, none⟩)) (hb : Kit.Bk w b T (bxA t)) (he : Kit.Bk w d U #[.int .i64 er]) :
  (results fn tmps).run Tryz.prog w = .ok (.tuple #[.agg (bxA t), .int .i64 er]) w := by
 have hl := Kit.run_bk (P := Tryz.prog) hb 52 Tryz.underlying52 rfl (szB t)
 have c0 : w.cell? ⟨d, 0, none⟩ = some (.int .i64 er) := (he.cell 0).trans rfl
 have hl2 : (loadVar 41 ⟨d, 0, none⟩).run Tryz.prog w = .ok (.int .i64 er) w := by simp [go_sem, c0]
 rw [Array.getD_eq_getD_getElem?] at hc hu
 simp [results, h, hc, hu, asAddr, hl, hl2]
end Mo
theorem mo_sweep_e (x : Ex.Wk) (p : Ex.Wa) (w : World) (hL : Ex.Laid w) (ha : Ex.At w x p) (role bar : Int) (s : Mo.St) (b : Un.Bd) (hnm : b.name.size ≤ 9223372036854775807) (r : List Uo.Re) (aR : Option Addr) (cR : Nat) (hR : Tp.Sl w aR r.length 4 (Mo.rcs r)) (hbad : ¬ (Mo.ofE x role bar = 0 ∧ Mo.ok s = true ∧ Un.bok b = true ∧ Mo.mot (Mo.ofI x role bar) r = true)) :
  Calls Tryz.prog 16 #[Ex.workV x p, .int .i64 role, .int .i64 bar, .agg (Mo.stA s), .agg (Un.bdA b), .slice aR r.length cR] w fun e w' => (∃ t er, e = .returned (.tuple #[.agg (Mo.bxA t), .int .i64 er]) ∧ Mo.SwR x role bar s b r t er) ∧ Below w.heap.size w w' := by
 have HOF := qh (fun W (hb : Below w.heap.size w W) => ex_of x p W (hL.kept hb nlr) (ha.kept hb nlr) role bar)
 have HPC := qh (fun W => po_check s W)
 have HBC := qh (fun W => bd_check b W hnm)
 have HR := qh hR
 have HG := qh (show Ex.chk x = 0 → Ex.Good x from Ex.good_of)
 have HOE := qh (show Mo.ofE x role bar = 0 → Ex.chk x = 0 from fun h => by
  unfold Mo.ofE at h
  split at h
  ·rename_i h1; exact absurd h h1
  ·rename_i h1; simpa using h1)
 have HRES := qh (fun t e (h : Mo.SwR x role bar s b r t e) => h)
 have HIO := qh (Mo.bxA_one Mo.Bx.zero)
 have HBAD := qh hbad
 obtain ⟨aRo, cRo, aT, cT, aP, cP, aS, cS, aG, cG⟩ := p
 dsimp only [Ex.workV, Ex.wv]
 clear hL ha hR hbad hnm
 go_enter Tryz.func16, Tryz.ntmps16
 go_upto_region 1 with fail
 refine Kit.wp_name ?_
 intro W1 hW1
 have HQ1 := qh (show Mo.SQ w W1 x ⟨aRo, cRo, aT, cT, aP, cP, aS, cS, aG, cG⟩ s b Mo.Bx.zero 0 by rw [hW1]; exact Mo.SQ.start w x ⟨aRo, cRo, aT, cT, aP, cP, aS, cS, aG, cG⟩ s b)
 clear hW1
 have wk1 : ∀ j, W1.cell? ⟨w.heap.size, j, none⟩ = (Mo.wkC x ⟨aRo, cRo, aT, cT, aP, cP, aS, cS, aG, cG⟩)[j]? := fun j => HQ1.out.wk.cell j
 go_wp2_with fail
 refine (HOF.out _ HQ1.out.bel).mono ?_
 rintro _ W2 ⟨⟨v, l, rfl, hof, hown⟩, hb2⟩
 have HQ2 := qh (HQ1.out.then hb2)
 have HOWN := qh (show W2.ownsRow W1.heap.size 60 14 v l.length (l.flatMap Mo.sgC) from hown)
 have HOFL := qh hof
 have HZ1 := qh (show w.heap.size + 5 ≤ W1.heap.size from HQ1.out.err.lt)
 have c3 : W2.cell? ⟨w.heap.size + 1 + 1 + 1 + 1, 0, none⟩ = some (.int .i64 0) := (HQ2.out.err.cell 0).trans rfl
 have f3 : W2.frozen? ⟨w.heap.size + 1 + 1 + 1 + 1, 0, none⟩ = false := HQ2.out.err.frozen 0
 clear hof hown hb2 HQ1 wk1 HOF
 obtain ⟨er, her⟩ : ∃ er, Mo.ofE x role bar = er := ⟨_, rfl⟩
 rw [her]
 have HER := qh her
 clear her
 by_cases h0 : er = 0
 case neg =>
  have c1 : (er != 0) = true := by simpa using h0
  have H0 := qh h0
  clear h0
  go_upto_region 3 with fail
  refine Kit.wp_name ?_
  intro W3 hW3
  have HQ3 := qh (show Mo.SQ w W3 x ⟨aRo, cRo, aT, cT, aP, cP, aS, cS, aG, cG⟩ s b Mo.Bx.zero er by
   rw [hW3]
   exact HQ2.out.er (Kit.Exc.setCell (S := fun j => j = w.heap.size + 4) (p := ⟨w.heap.size + 1 + 1 + 1 + 1, 0, none⟩) (Kit.Exc.refl _ W2) (.inl rfl) _) (HQ2.out.err.put 0 (.int .i64 er) rfl))
  clear hW3 c3 f3
  refine Kit.wp_region_vals2 4 [([(12, none)], none, true), ([(13, none)], none, true), ([(12, none), (49, some 0)], none, true), ([(13, none), (50, some 1)], none, true)]
   [some 49, some 50, none, none] rfl (by kernel_rfl) (by kernel_rfl) (fun X => Kit.Bk X (w.heap.size + 3) 52 (Mo.bxA Mo.Bx.zero) ∧ Kit.Bk X (w.heap.size + 4) 41 #[.int .i64 er] ∧ Below w.heap.size w X)
   (fun _ A B => (Kit.Bk A (w.heap.size + 3) 52 (Mo.bxA Mo.Bx.zero) ∧ Kit.Bk A (w.heap.size + 4) 41 #[.int .i64 er] ∧ Below w.heap.size w A) → (Kit.Bk B (w.heap.size + 3) 52 (Mo.bxA Mo.Bx.zero) ∧ Kit.Bk B (w.heap.size + 4) 41 #[.int .i64 er] ∧ Below w.heap.size w B)) (fun _ _ => false)
   (fun q v _ => match q with
   | 0 => v = .agg (Mo.bxA Mo.Bx.zero)
   | 1 => v = .int .i64 er
   | _ => True)
   (by decide) (fun _ h k => k h) ⟨HQ3.out.res, HQ3.out.err, HQ3.out.bel.drew⟩ (fun _ _ h => h) (fun q i v A B _ _ _ _ _ _ h => by split at h <;> exact h) ?_ ?_
  ·simp only [List.take_succ_cons, List.take_zero, Kit.StepsV2, Kit.VOp2, Kit.RdP, true_and, if_true, and_true]
   refine ⟨?_, ?_, ?_, ?_⟩
   all_goals intro ev X hx hv hc hf hg
   ·simp at hv
    rw [Kit.run_load_bk (ev := ev) 52 (.tmp 12) rfl (w.heap.size + 3) hv hx.1 Tryz.underlying52 rfl (Mo.szB Mo.Bx.zero)]
    exact ⟨rfl, fun h => h⟩
   ·have c3 : X.cell? ⟨w.heap.size + 4, 0, none⟩ = some (.int .i64 er) := (hx.2.1.cell 0).trans rfl
    simp at hv
    simp [execOp, hv, hc, go_sem, Kit.UponV, c3]
   ·simp at hv
    refine Kit.upon_store_bk 52 (.tmp 12) (.tmp 49) rfl (w.heap.size + 3) hv.1 (Mo.bxA Mo.Bx.zero) hv.2 hx.1 rfl (Mo.szB _) HIO.out (fun W hW hX => fun _ => ⟨hW, hx.2.1.exc hX omg, hx.2.2.trans (hX.below hx.2.2.size (fun j hj => by omega))⟩)
   ·simp at hv
    rw [Mo.run_er (ev := ev) (w := X) (.tmp 13) (.tmp 50) rfl (w.heap.size + 4) hv.1 er hv.2 hx.2.1]
    exact fun _ => ⟨hx.1.exc (Kit.Exc.setCell (S := fun j => j = w.heap.size + 4) (p := ⟨w.heap.size + 4, 0, none⟩) (Kit.Exc.refl _ X) (.inl rfl) _) omg, hx.2.1.put 0 _ rfl, hx.2.2.setCell (by show w.heap.size ≤ w.heap.size + 4; omega) _⟩
  ·intro vs W4 hv hx
   have v0 : vs 0 = _ := hv 0 omg (fun _ _ => rfl)
   have v1 : vs 1 = _ := hv 1 omg (fun _ _ => rfl)
   clear hv
   simp only [Kit.putD, List.getD_cons_zero, List.getD_cons_succ, Act.put, v0, v1, List.drop_succ_cons, List.drop_zero, List.drop_nil]
   clear v0 v1
   have HH := qh hx
   clear hx
   go_simp
   go_wp2_with fail
   refine bodyPost_ret (Mo.res_bx rfl rfl rfl HH.out.1 HH.out.2.1) rfl ⟨⟨Mo.Bx.zero, er, rfl, HRES.out _ _ ?_⟩, HH.out.2.2⟩
   unfold Mo.SwR
   rw [HER.out, if_pos H0.out]
   exact ⟨rfl, rfl⟩
 subst h0
 have HGD := qh (HG.out (HOE.out HER.out))
 have HOF2 := qh (HOFL.out HER.out)
 clear HOFL HG HOE
 go_upto_region 4 with fail
 refine Kit.wp_name ?_
 intro W3 hW3
 have HX3 := qh (show Kit.Exc (fun j => j = w.heap.size + 4) W2 W3 by rw [hW3]; exact Kit.Exc.setCell (S := fun j => j = w.heap.size + 4) (p := ⟨w.heap.size + 1 + 1 + 1 + 1, 0, none⟩) (Kit.Exc.refl _ W2) (.inl rfl) _)
 have HQ3 := qh (show Mo.SQ w W3 x ⟨aRo, cRo, aT, cT, aP, cP, aS, cS, aG, cG⟩ s b Mo.Bx.zero 0 from HQ2.out.er HX3.out (by rw [hW3]; exact HQ2.out.err.put 0 (.int .i64 0) rfl))
 obtain ⟨aL, cL, rfl⟩ := Kit.own_shape HOWN.out
 obtain ⟨hsl, _, hslb⟩ := Kit.own_sl HOWN.out (Mo.sg_get l)
 have HSL := qh (show Tp.Sl W3 aL l.length 14 (Ex.sgc l) by
  rcases hsl with h | ⟨ad, h1, h2, h3⟩
  ·exact .inl h
  ·have := hslb ad h1
   refine .inr ⟨ad, h1, Nat.lt_of_lt_of_le h2 HX3.out.size, fun i j hi hj => (World.cell?_of_block (by rw [Tp.add_block]; exact HX3.out.block _ h2 (by have := HZ1.out; omega))).trans (h3 i j hi hj)⟩)
 clear hW3 c3 f3 hsl hslb HQ2 HOWN HX3
 have c0 : W3.cell? ⟨w.heap.size + 1, 0, none⟩ = some (.int .i64 s.x) := (HQ3.out.st.cell 0).trans rfl
 have c1 : W3.cell? ⟨w.heap.size + 1, 1, none⟩ = some (.int .i64 s.y) := (HQ3.out.st.cell 1).trans rfl
 have c2 : W3.cell? ⟨w.heap.size + 1, 2, none⟩ = some (.int .i64 s.f) := (HQ3.out.st.cell 2).trans rfl
 have c3 : W3.cell? ⟨w.heap.size + 1, 3, none⟩ = some (.int .i64 s.d0) := (HQ3.out.st.cell 3).trans rfl
 have c4 : W3.cell? ⟨w.heap.size + 1, 4, none⟩ = some (.int .i64 s.v0) := (HQ3.out.st.cell 4).trans rfl
 have c5 : W3.cell? ⟨w.heap.size + 1, 5, none⟩ = some (.int .i64 s.d1) := (HQ3.out.st.cell 5).trans rfl
 have c6 : W3.cell? ⟨w.heap.size + 1, 6, none⟩ = some (.int .i64 s.v1) := (HQ3.out.st.cell 6).trans rfl
 have c7 : W3.cell? ⟨w.heap.size + 1, 7, none⟩ = some (.int .i64 s.d2) := (HQ3.out.st.cell 7).trans rfl
 have c8 : W3.cell? ⟨w.heap.size + 1, 8, none⟩ = some (.int .i64 s.v2) := (HQ3.out.st.cell 8).trans rfl
 have c9 : W3.cell? ⟨w.heap.size + 1, 9, none⟩ = some (.int .i64 s.d3) := (HQ3.out.st.cell 9).trans rfl
 have c10 : W3.cell? ⟨w.heap.size + 1, 10, none⟩ = some (.int .i64 s.v3) := (HQ3.out.st.cell 10).trans rfl
 have c11 : W3.cell? ⟨w.heap.size + 1, 11, none⟩ = some (.int .i64 s.d4) := (HQ3.out.st.cell 11).trans rfl
 have c12 : W3.cell? ⟨w.heap.size + 1, 12, none⟩ = some (.int .i64 s.v4) := (HQ3.out.st.cell 12).trans rfl
 rcases hok : Mo.ok s with _ | _
 ·have hpc : Calls Tryz.prog 25 #[.agg (Mo.stA s)] W3 fun e w' => e = .returned (.int .i64 260) ∧ Below W3.heap.size W3 w' := by
   have h := HPC.out W3
   rw [hok, if_neg (by decide)] at h
   exact h
  have HPQ := qh hpc
  have HOKS := qh hok
  clear hpc hok
  go_wp2_with fail
  refine HPQ.out.mono ?_
  rintro _ W4 ⟨rfl, hb4⟩
  have HFQ := qh (HQ3.out.then hb4)
  clear hb4 c0 c1 c2 c3 c4 c5 c6 c7 c8 c9 c10 c11 c12
  go_upto_region 6 with fail
  refine wp_region_lit ?_
  refine Kit.load_bk0 rfl 52 (.tmp 12) rfl (w.heap.size + 3) rfl HFQ.out.res Tryz.underlying52 rfl (Mo.szB Mo.Bx.zero) ?_
  refine Kit.wpList_run rfl (.int .i64 260) W4 rfl ?_
  refine Kit.store_bk0 rfl 52 (.tmp 12) (.tmp 55) rfl (w.heap.size + 3) rfl (Mo.bxA Mo.Bx.zero) rfl HFQ.out.res rfl (Mo.szB Mo.Bx.zero) HIO.out ?_
  intro X1 hq1 hx1
  have hQ1 := HFQ.out.bx hx1 hq1
  refine Mo.store_er rfl (.tmp 13) (.tmp 56) rfl (w.heap.size + 4) rfl 260 rfl hQ1.err ?_
  intro X2 hq2 hx2
  have HQX := qh (hQ1.er hx2 hq2)
  clear hq1 hx1 hq2 hx2 hQ1
  simp only [Act.put]
  go_simp
  go_wp2_with fail
  refine bodyPost_ret (Mo.res_bx rfl rfl rfl HQX.out.res HQX.out.err) rfl ⟨⟨Mo.Bx.zero, 260, rfl, HRES.out _ _ ?_⟩, HQX.out.bel⟩
  unfold Mo.SwR
  rw [HER.out, if_neg (by simp), if_pos HOKS.out]
  exact ⟨rfl, rfl⟩
 have hpc : Calls Tryz.prog 25 #[.agg (Mo.stA s)] W3 fun e w' => e = .returned (.int .i64 0) ∧ Below W3.heap.size W3 w' := by
  have h := HPC.out W3
  rw [hok, if_pos rfl] at h
  exact h
 have HPQ := qh hpc
 have HOKS := qh hok
 clear hpc hok
 go_wp2_with fail
 refine HPQ.out.mono ?_
 rintro _ W4 ⟨rfl, hb4⟩
 have HQ4 := qh (HQ3.out.then hb4)
 have HS4 := qh (HSL.out.kept hb4 nlr)
 clear hb4 c0 c1 c2 c3 c4 c5 c6 c7 c8 c9 c10 c11 c12 HPQ HQ3 HSL
 go_upto_region 7 with fail
 refine wp_region_lit ?_
 refine Kit.load_bk0 rfl 48 (.tmp 10) rfl (w.heap.size + 2) rfl HQ4.out.bd Tryz.underlying48 rfl (Mo.szD b) ?_
 simp only [Act.put]
 go_simp
 rcases hbk : Un.bok b with _ | _
 ·have hpc : Calls Tryz.prog 19 #[.agg (Un.bdA b)] W4 fun e w' => e = .returned (.int .i64 250) ∧ Below W4.heap.size W4 w' := by
   have h := HBC.out W4
   rw [hbk, if_neg (by decide)] at h
   exact h
  have HPQ := qh hpc
  have HBKS := qh hbk
  clear hpc hbk
  go_wp2_with fail
  refine HPQ.out.mono ?_
  rintro _ W5 ⟨rfl, hb5⟩
  have HFQ := qh (HQ4.out.then hb5)
  clear hb5
  go_upto_region 9 with fail
  refine wp_region_lit ?_
  refine Kit.load_bk0 rfl 52 (.tmp 12) rfl (w.heap.size + 3) rfl HFQ.out.res Tryz.underlying52 rfl (Mo.szB Mo.Bx.zero) ?_
  refine Kit.wpList_run rfl (.int .i64 250) W5 rfl ?_
  refine Kit.store_bk0 rfl 52 (.tmp 12) (.tmp 61) rfl (w.heap.size + 3) rfl (Mo.bxA Mo.Bx.zero) rfl HFQ.out.res rfl (Mo.szB Mo.Bx.zero) HIO.out ?_
  intro X1 hq1 hx1
  have hQ1 := HFQ.out.bx hx1 hq1
  refine Mo.store_er rfl (.tmp 13) (.tmp 62) rfl (w.heap.size + 4) rfl 250 rfl hQ1.err ?_
  intro X2 hq2 hx2
  have HQX := qh (hQ1.er hx2 hq2)
  clear hq1 hx1 hq2 hx2 hQ1
  simp only [Act.put]
  go_simp
  go_wp2_with fail
  refine bodyPost_ret (Mo.res_bx rfl rfl rfl HQX.out.res HQX.out.err) rfl ⟨⟨Mo.Bx.zero, 250, rfl, HRES.out _ _ ?_⟩, HQX.out.bel⟩
  unfold Mo.SwR
  rw [HER.out, if_neg (by simp), if_neg (by rw [HOKS.out]; decide), if_pos HBKS.out]
  exact ⟨rfl, rfl⟩
 have hpc : Calls Tryz.prog 19 #[.agg (Un.bdA b)] W4 fun e w' => e = .returned (.int .i64 0) ∧ Below W4.heap.size W4 w' := by
  have h := HBC.out W4
  rw [hbk, if_pos rfl] at h
  exact h
 have HPQ := qh hpc
 have HBKS := qh hbk
 clear hpc hbk
 go_wp2_with fail
 refine HPQ.out.mono ?_
 rintro _ W5 ⟨rfl, hb5⟩
 have HQ5 := qh (HQ4.out.then hb5)
 have HS5 := qh (HS4.out.kept hb5 nlr)
 clear hb5 HPQ HQ4 HS4
 have hlen : l.length ≤ 4096 := by
  rw [HOF2.out.perm.length_eq]
  exact Nat.le_trans (List.length_filter_le _ _) HGD.out.len
 have HSTP := qh (mo_steps (Mo.ofI x role bar) l r aL aR cL cR W5 HOF2.out.perm (Mo.ofI_lt HGD.out role bar) hlen HS5.out (HR.out.kept HQ5.out.bel nlr))
 have HLEN := qh hlen
 clear hlen
 go_wp2_with fail
 refine HSTP.out.mono ?_
 rintro _ W6 ⟨⟨v6, rfl, hown6⟩, hb6⟩
 have HFQ := qh (HQ5.out.then hb6)
 clear hb6 HSTP hown6
 rcases hmot : Mo.mot (Mo.ofI x role bar) r with _ | _
 ·have HMOT := qh hmot
  clear hmot
  go_upto_region 12 with fail
  refine wp_region_lit ?_
  refine Kit.load_bk0 rfl 52 (.tmp 12) rfl (w.heap.size + 3) rfl HFQ.out.res Tryz.underlying52 rfl (Mo.szB Mo.Bx.zero) ?_
  refine Kit.store_bk0 rfl 52 (.tmp 12) (.tmp 71) rfl (w.heap.size + 3) rfl (Mo.bxA Mo.Bx.zero) rfl HFQ.out.res rfl (Mo.szB Mo.Bx.zero) HIO.out ?_
  intro X1 hq1 hx1
  have hQ1 := HFQ.out.bx hx1 hq1
  refine Mo.store_er rfl (.tmp 13) (.const (.int .i64 270)) rfl (w.heap.size + 4) rfl 270 rfl hQ1.err ?_
  intro X2 hq2 hx2
  have HQX := qh (hQ1.er hx2 hq2)
  clear hq1 hx1 hq2 hx2 hQ1
  simp only [Act.put]
  go_simp
  go_wp2_with fail
  refine bodyPost_ret (Mo.res_bx rfl rfl rfl HQX.out.res HQX.out.err) rfl ⟨⟨Mo.Bx.zero, 270, rfl, HRES.out _ _ ?_⟩, HQX.out.bel⟩
  unfold Mo.SwR
  rw [HER.out, if_neg (by simp), if_neg (by rw [HOKS.out]; decide), if_neg (by rw [HBKS.out]; decide), if_pos HMOT.out]
  exact ⟨rfl, rfl⟩
 ·exact absurd ⟨HER.out, HOKS.out, HBKS.out, hmot⟩ HBAD.out
end Go.Proofs.YtedolbjgdedoaaaGreatDoor
