/- Walks: package pose: tips (where raised limbs end, as an iterator). -/
import Derived.Test.YtedolbjgdedoaaaGreatDoorMpe
import Derived.Test.YtedolbjgdedoaaaGreatDoorKbx
import Derived.Sort.CutIn
set_option linter.unusedSimpArgs false
set_option linter.unusedVariables false
set_option maxRecDepth 100000
set_option maxHeartbeats 8000000
namespace Go.Proofs.YtedolbjgdedoaaaGreatDoor
open Go.RowKit Go.Shelf
attribute [local go_sem] Oper.semAt_some
namespace Mo
def tpt (s : St) (b : Un.Bd) (i : Nat) : List (Int × Int) := if (lim s i).2 = 0 then [] else [(29 * s.x + reach b i * vx (turned (lim s i).1 s.f) (lim s i).2, 29 * s.y + reach b i * vy (turned (lim s i).1 s.f) (lim s i).2)]
def tpsF (s : St) (b : Un.Bd) (i : Nat) : List (Int × Int) := (five.drop i).flatMap (tpt s b)
def tps (s : St) (b : Un.Bd) : List (Int × Int) := five.flatMap (tpt s b)
theorem tps_step (s : St) (b : Un.Bd) (i : Nat) (h : i < 5) : tpsF s b i = tpt s b i ++ tpsF s b (i + 1) := by
 obtain rfl | rfl | rfl | rfl | rfl : i = 0 ∨ i = 1 ∨ i = 2 ∨ i = 3 ∨ i = 4 := by omega
 all_goals rfl
abbrev encT (x : Int × Int) : Array Value := #[.int .i64 x.1, .int .i64 x.2]
def ZT (BS BB : Nat) (k : Nat) : Prop := k = BS ∨ k = BB ∨ k = 1
end Mo
theorem po_tips (s : Mo.St) (b : Un.Bd) (w : World) : Calls Tryz.prog 63 #[.agg (Mo.stA s), .agg (Un.bdA b)] w fun e w' => e = .returned (.func (.func 107) #[] #[.pointer (some ⟨w.heap.size, 0, none⟩), .pointer (some ⟨w.heap.size + 1, 0, none⟩)]) ∧ w' = (w.alloc (.cells (Mo.stA s) 37)).alloc (.cells (Un.bdA b) 48) := by
 go_enter Tryz.func63, Tryz.ntmps63
 go_wp2_with fail
 go_ret
 exact ⟨rfl, rfl⟩
theorem po_iter (n : Nat) (hn : 1 ≤ n) (BS BB : Nat) (s : Mo.St) (b : Un.Bd) (w : World) (hs : Mo.ok s = true) (hbk : Un.bok b = true) (hF : Uo.Flat w) (bS : Kit.Bk w BS 37 (Mo.stA s)) (bB : Kit.Bk w BB 48 (Un.bdA b)) :
  Kit.SeqR Fence.wide n Tryz.prog 107 #[.pointer (some ⟨BS, 0, none⟩), .pointer (some ⟨BB, 0, none⟩)] Mo.encT (fun _ => False) (Mo.ZT BS BB) (fun xs => xs = Mo.tps s b) (fun _ => True) (fun pre x => ∃ post, pre ++ x :: post = Mo.tps s b) w := by
 intro l J Jx Y0 W hW hl1 hl2 hY0 hJ hJx hY h0
 have hZ : ∀ k, Mo.ZT BS BB k → k < w.heap.size := fun k hk => by
  rcases hk with rfl | rfl | rfl
  ·exact bS.lt
  ·exact bB.lt
  ·exact hF.1
 have hKW : Kit.Kq (Mo.ZT BS BB) W W := Kit.Kq.refl (fun k hk => Nat.lt_of_lt_of_le (hZ k hk) hW.size)
 have hFW := hF.kept hW nlr
 have hbB := bB.below hW bB.lt
 have hbS := bS.below hW bS.lt
 have KC : ∀ X, Kit.Kq (Mo.ZT BS BB) W X → Uo.Flat X ∧ Kit.Bk X BS 37 (Mo.stA s) ∧ Kit.Bk X BB 48 (Un.bdA b) := fun X h =>
  ⟨⟨Nat.lt_of_lt_of_le hFW.1 h.size, fun k hk => ⟨h.cell (.inr (.inr rfl)) (hFW.2 k hk).1, h.cell (.inr (.inr rfl)) (hFW.2 k hk).2⟩⟩, h.bk (.inl rfl) hbS, h.bk (.inr (.inl rfl)) hbB⟩
 have EY : ∀ (Y Y3 : Nat → Prop) (A W3 : World), Kit.Kq (Mo.ZT BS BB) W A → (∀ k, Y k → ¬ Mo.ZT BS BB k ∧ k < A.heap.size) → Kit.Exc (fun b => Y b ∨ b = l) A W3 → (∀ b, Y3 b → (Y b ∨ A.heap.size ≤ b) ∧ b < W3.heap.size) →
   Hid (Kit.Kq (Mo.ZT BS BB) W W3) ∧ Hid (∀ k, Y3 k → ¬ Mo.ZT BS BB k ∧ k < W3.heap.size) := fun Y Y3 A W3 hK hYn hx hy =>
  ⟨hK.exc hx (fun k hk h => h.elim (fun h => (hYn k h).1 hk) (fun e => by have := hZ k hk; omega)),
   fun k hk => ⟨(hy k hk).1.elim (fun h => (hYn k h).1) (fun h hz => by
    have h1 := (hK.blk k hz).1
    have h2 := hK.size
    omega), (hy k hk).2⟩⟩
 have HY := qh hY
 have HJ := qh hJ
 have HY0 := qh (show ∀ k, Y0 k → ¬ Mo.ZT BS BB k ∧ k < W.heap.size from fun k hk => ⟨(hY0 k hk).2.2, Nat.lt_of_lt_of_le (hY0 k hk).1 hW.size⟩)
 have HKC := qh KC
 have HKW := qh hKW
 have HEY := qh EY
 have HOK := qh hs
 have HBK := qh hbk
 have HJ0 := qh h0
 have HLW := qh hl2
 have HIX := qh (fun W i hi => Mo.lb_ix s.d0 s.v0 s.d1 s.v1 s.d2 s.v2 s.d3 s.v3 s.d4 s.v4 W i hi)
 have c0 : W.cell? ⟨BS, 0, none⟩ = some (.int .i64 s.x) := (hbS.cell 0).trans rfl
 have c1 : W.cell? ⟨BS, 1, none⟩ = some (.int .i64 s.y) := (hbS.cell 1).trans rfl
 have c2 : W.cell? ⟨BS, 2, none⟩ = some (.int .i64 s.f) := (hbS.cell 2).trans rfl
 have c3 : W.cell? ⟨BS, 3, none⟩ = some (.int .i64 s.d0) := (hbS.cell 3).trans rfl
 have c4 : W.cell? ⟨BS, 4, none⟩ = some (.int .i64 s.v0) := (hbS.cell 4).trans rfl
 have c5 : W.cell? ⟨BS, 5, none⟩ = some (.int .i64 s.d1) := (hbS.cell 5).trans rfl
 have c6 : W.cell? ⟨BS, 6, none⟩ = some (.int .i64 s.v1) := (hbS.cell 6).trans rfl
 have c7 : W.cell? ⟨BS, 7, none⟩ = some (.int .i64 s.d2) := (hbS.cell 7).trans rfl
 have c8 : W.cell? ⟨BS, 8, none⟩ = some (.int .i64 s.v2) := (hbS.cell 8).trans rfl
 have c9 : W.cell? ⟨BS, 9, none⟩ = some (.int .i64 s.d3) := (hbS.cell 9).trans rfl
 have c10 : W.cell? ⟨BS, 10, none⟩ = some (.int .i64 s.v3) := (hbS.cell 10).trans rfl
 have c11 : W.cell? ⟨BS, 11, none⟩ = some (.int .i64 s.d4) := (hbS.cell 11).trans rfl
 have c12 : W.cell? ⟨BS, 12, none⟩ = some (.int .i64 s.v4) := (hbS.cell 12).trans rfl
 clear hZ hKW hFW hbS hbB KC EY hY hJ hJx hY0 hs hbk hF bS bB h0
 refine callsIn_of_wp Tryz.func107 rfl trivial ?_ rfl
 simp only [Tryz.ntmps107, List.size_toArray, List.length_cons, List.length_nil, Nat.reduceAdd, Nat.reduceSub, Array.replicate_succ, Array.replicate_zero, List.push_toArray, List.append_toArray, List.nil_append, List.cons_append]
 gi_wp2
 clear c0 c1 c2 c3 c4 c5 c6 c7 c8 c9 c10 c11 c12
 gi_loopw [13] (fun v13 wr => ∃ (i : Nat) (Y : Nat → Prop) (pre : List (Int × Int)), v13 = .int .i64 i ∧ i ≤ 5 ∧ J pre Y wr ∧ Hid (Kit.Kq (Mo.ZT BS BB) W wr) ∧ Hid (∀ k, Y k → ¬ Mo.ZT BS BB k ∧ k < wr.heap.size) ∧ Hid (pre ++ Mo.tpsF s b i = Mo.tps s b))
  (fun v13 _ => 5 - (intOf v13).toNat)
 case atStart => exact ⟨0, Y0, [], rfl, Nat.zero_le _, HJ0.out, HKW, HY0, qh rfl⟩
 case round =>
  obtain ⟨i, Y, pre, hv13, hi, hj, HK, HYN, HP⟩ := hrel
  have HJP := qh hj
  clear hj
  by_cases hlt : i < 5
  ·rcases (by omega : i = 0 ∨ i = 1 ∨ i = 2 ∨ i = 3 ∨ i = 4) with rfl | rfl | rfl | rfl | rfl
   ·obtain rfl : u13 = .int .i64 0 := hv13
    have HST := qh (Mo.tps_step s b 0 omg)
    have HLO := qh (Mo.lim_ok HOK.out 0 omg)
    have HRB := qh (Mo.reach_bd HBK.out 0)
    obtain ⟨d, v, hdv⟩ : ∃ d v, Mo.lim s 0 = (d, v) := ⟨_, _, rfl⟩
    obtain ⟨rc, hrc⟩ : ∃ c, Mo.reach b 0 = c := ⟨_, rfl⟩
    rw [hdv] at HLO
    rw [hrc] at HRB
    dsimp only at HLO
    unfold Mo.tpt at HST
    rw [hdv, hrc] at HST
    dsimp only at HST
    have hed : s.d0 = d := congrArg Prod.fst hdv
    have hev : s.v0 = v := congrArg Prod.snd hdv
    have hix : (Instr.index 35 (.agg #[.int .i64 s.d0, .int .i64 s.v0, .int .i64 s.d1, .int .i64 s.v1, .int .i64 s.d2, .int .i64 s.v2, .int .i64 s.d3, .int .i64 s.v3, .int .i64 s.d4, .int .i64 s.v4]) (.int .i64 0)).run Tryz.prog wr = .ok (.agg #[.int .i64 d, .int .i64 v]) wr := by
     have h := HIX.out wr 0 omg
     simp only [List.getD_cons_zero, List.getD_cons_succ] at h
     exact Eq.trans (b := Result.ok (.agg #[.int .i64 s.d0, .int .i64 s.v0]) wr) h (by rw [hed, hev])
    have HRC := qh hrc
    clear hed hev hdv hrc
    gi_upto_region 3 with fail
    refine Kit.wpIn_name ?_
    intro W1 hW1
    have HBW1 := qh (show Below wr.heap.size wr W1 by rw [hW1]; exact (Below.refl _ _).alloc nlr _)
    have HL1 := qh (show Kit.Bk W1 wr.heap.size 34 #[.int .i64 d, .int .i64 v] by rw [hW1]; exact Kit.Bk.new _ _ _)
    obtain ⟨B8, hB8⟩ : ∃ b, wr.heap.size = b := ⟨_, rfl⟩
    have HWB := qh hB8
    rw [hB8] at HL1 ⊢
    clear hW1 hB8 hix
    have l0 : W1.cell? ⟨B8, 0, none⟩ = some (.int .i64 d) := (HL1.out.cell 0).trans rfl
    have l1 : W1.cell? ⟨B8, 1, none⟩ = some (.int .i64 v) := (HL1.out.cell 1).trans rfl
    by_cases hv0 : v = 0
    case pos =>
     subst hv0
     have HN := qh (show Mo.tpsF s b 0 = Mo.tpsF s b (0 + 1) by rw [HST.out, if_pos rfl]; rfl)
     have HK1 := qh (HK.out.then HBW1.out)
     have HJ1 := qh (HJ.out _ _ _ _ HJP.out ((Kit.Exc.refl _ wr).then HBW1.out))
     have HYN1 := qh (show ∀ k, Y k → ¬ Mo.ZT BS BB k ∧ k < W1.heap.size from fun k hk => ⟨(HYN.out k hk).1, Nat.lt_of_lt_of_le (HYN.out k hk).2 HBW1.out.size⟩)
     gi_wp2
     go_roundw
     case rel => exact ⟨0 + 1, Y, pre, rfl, by omega, HJ1.out, HK1, HYN1, qh (by rw [← HN.out]; exact HP.out)⟩
     case measure => simp [intOf]
    have cv : (v == 0) = false := by simpa using hv0
    have HV0 := qh hv0
    have hvv : 1 ≤ v ∧ v ≤ 3 := by have := HLO.out; omega
    clear hv0
    have hlo := HLO.out
    have hrb := HRB.out
    have hfo := Mo.face_ok HOK.out
    have htd := Mo.turned_bd0 hlo.1 hfo
    have hpo := (Mo.ok_iff (Mo.okF_of HOK.out)).1 HOK.out
    have hx := Mo.mul_bd (show (0 : Int) ≤ rc by omega) (Mo.vx_bd (Mo.turned d s.f) v)
    have hy := Mo.mul_bd (show (0 : Int) ≤ rc by omega) (Mo.vy_bd (Mo.turned d s.f) v)
    have HT4 := qh (fun W => sp_turned d s.f W hlo.1 hfo)
    have HT5 := qh (fun W hF => sp_vecI (Mo.turned d s.f) v W htd hvv hF)
    have HN := qh (HST.out.trans (by rw [if_neg HV0.out]))
    clear HST
    obtain ⟨TD, hTD⟩ : ∃ t, Mo.turned d s.f = t := ⟨_, rfl⟩
    rw [hTD] at HT4 HT5 hx hy HN
    obtain ⟨VX, hVX⟩ : ∃ t, Mo.vx TD v = t := ⟨_, rfl⟩
    obtain ⟨VY, hVY⟩ : ∃ t, Mo.vy TD v = t := ⟨_, rfl⟩
    obtain ⟨VZ, hVZ⟩ : ∃ t, Uo.vz TD.toNat v.toNat = t := ⟨_, rfl⟩
    simp only [hVX, hVY, hVZ] at HT5 hx hy HN
    have w1 : IntKind.i64.wrap (rc * VX) = rc * VX := by rw [IntKind.wrap_i64] <;> omega
    have w2 : IntKind.i64.wrap (rc * VY) = rc * VY := by rw [IntKind.wrap_i64] <;> omega
    have w3 : IntKind.i64.wrap (29 * s.x) = 29 * s.x := by rw [IntKind.wrap_i64] <;> omega
    have w4 : IntKind.i64.wrap (29 * s.y) = 29 * s.y := by rw [IntKind.wrap_i64] <;> omega
    have w5 : IntKind.i64.wrap (29 * s.x + rc * VX) = 29 * s.x + rc * VX := by rw [IntKind.wrap_i64] <;> omega
    have w6 : IntKind.i64.wrap (29 * s.y + rc * VY) = 29 * s.y + rc * VY := by rw [IntKind.wrap_i64] <;> omega
    clear hvv hlo hrb hfo htd hpo hx hy hTD hVX hVY hVZ
    have HK1 := qh (HK.out.then HBW1.out)
    have f2 : W1.cell? ⟨BS, 2, none⟩ = some (.int .i64 s.f) := ((HKC.out _ HK1.out).2.1.cell 2).trans rfl
    gi_wp2
    refine ⟨trivial, CallsIn.mono (callsIn_wide.2 (HT4.out _)) ?_⟩
    rintro e W2 ⟨rfl, rfl⟩
    clear HT4
    gi_wp2
    refine ⟨trivial, CallsIn.mono (callsIn_wide.2 (HT5.out _ (HKC.out _ HK1.out).1)) ?_⟩
    rintro e W3 ⟨rfl, hb3⟩
    have HB3 := qh hb3
    clear HT5 hb3 f2 l0 l1
    gi_upto_region 6 with fail
    refine Kit.wpIn_name ?_
    intro W7 hW7
    have HBW7 := qh (show Below wr.heap.size wr W7 by rw [hW7]; exact (HBW1.out.trans (HB3.out.mono HBW1.out.size)).alloc (HBW1.out.trans (HB3.out.mono HBW1.out.size)).size _)
    have HC7 := qh (show Kit.Bk W7 W3.heap.size 106 #[.int .i64 VX, .int .i64 VY, .int .i64 VZ] by rw [hW7]; exact Kit.Bk.new _ _ _)
    obtain ⟨B9, hB9⟩ : ∃ b, W3.heap.size = b := ⟨_, rfl⟩
    rw [hB9] at HC7 ⊢
    clear hW7 hB9 HB3 HBW1
    have HK7 := qh (HK.out.then HBW7.out)
    have HJ7 := qh (HJ.out _ _ _ _ HJP.out ((Kit.Exc.refl _ wr).then HBW7.out))
    have HYN7 := qh (show ∀ k, Y k → ¬ Mo.ZT BS BB k ∧ k < W7.heap.size from fun k hk => ⟨(HYN.out k hk).1, Nat.lt_of_lt_of_le (HYN.out k hk).2 HBW7.out.size⟩)
    obtain ⟨_, hs7, hb7⟩ := HKC.out _ HK7.out
    have c0 : W7.cell? ⟨BS, 0, none⟩ = some (.int .i64 s.x) := (hs7.cell 0).trans rfl
    have c1 : W7.cell? ⟨BS, 1, none⟩ = some (.int .i64 s.y) := (hs7.cell 1).trans rfl
    have rb : W7.cell? ⟨BB, 6 + 0, none⟩ = some (.int .i64 rc) := (hb7.cell (6 + 0)).trans (by rw [← HRC.out]; rfl)
    simp only [Nat.reduceAdd] at rb
    have e0 : W7.cell? ⟨B9, 0, none⟩ = some (.int .i64 VX) := (HC7.out.cell 0).trans rfl
    have e1 : W7.cell? ⟨B9, 1, none⟩ = some (.int .i64 VY) := (HC7.out.cell 1).trans rfl
    clear hs7 hb7
    obtain ⟨fn, tmps, assign, body, hyy, hR⟩ := HY.out pre (29 * s.x + rc * VX, 29 * s.y + rc * VY) Y _ HJ7.out ⟨Mo.tpsF s b (0 + 1), by rw [← HP.out, HN.out]; rfl⟩
    dsimp only [Mo.encT] at hyy hR
    gi_wp2
    refine hR.mono ?_
    rintro e W8 ⟨Y8, hx8, hy8, (⟨rfl, hj8⟩ | ⟨rfl, hj8⟩)⟩
    case inr =>
     have HJ8 := qh hj8
     clear hx8 hy8 hj8 hyy hR c0 c1 rb e0 e1
     gi_wp2
     refine bodyPost_ret (results_none rfl _ _ _) rfl ?_
     exact ⟨⟨_, rfl⟩, Y8, .inr ⟨_, trivial, HJ8.out⟩⟩
    obtain ⟨HK8, HYK8⟩ := HEY.out Y Y8 W7 W8 HK7.out HYN7.out hx8 hy8
    have HJ8 := qh hj8
    clear hx8 hy8 hj8 hyy hR c0 c1 rb e0 e1
    gi_wp2
    go_roundw
    case rel => exact ⟨0 + 1, Y8, pre ++ [(29 * s.x + rc * VX, 29 * s.y + rc * VY)], rfl, by omega, HJ8.out, HK8, HYK8, qh (by rw [← HP.out, HN.out]; simp)⟩
    case measure => simp [intOf]
   ·obtain rfl : u13 = .int .i64 1 := hv13
    have HST := qh (Mo.tps_step s b 1 omg)
    have HLO := qh (Mo.lim_ok HOK.out 1 omg)
    have HRB := qh (Mo.reach_bd HBK.out 1)
    obtain ⟨d, v, hdv⟩ : ∃ d v, Mo.lim s 1 = (d, v) := ⟨_, _, rfl⟩
    obtain ⟨rc, hrc⟩ : ∃ c, Mo.reach b 1 = c := ⟨_, rfl⟩
    rw [hdv] at HLO
    rw [hrc] at HRB
    dsimp only at HLO
    unfold Mo.tpt at HST
    rw [hdv, hrc] at HST
    dsimp only at HST
    have hed : s.d1 = d := congrArg Prod.fst hdv
    have hev : s.v1 = v := congrArg Prod.snd hdv
    have hix : (Instr.index 35 (.agg #[.int .i64 s.d0, .int .i64 s.v0, .int .i64 s.d1, .int .i64 s.v1, .int .i64 s.d2, .int .i64 s.v2, .int .i64 s.d3, .int .i64 s.v3, .int .i64 s.d4, .int .i64 s.v4]) (.int .i64 1)).run Tryz.prog wr = .ok (.agg #[.int .i64 d, .int .i64 v]) wr := by
     have h := HIX.out wr 1 omg
     simp only [List.getD_cons_zero, List.getD_cons_succ] at h
     exact Eq.trans (b := Result.ok (.agg #[.int .i64 s.d1, .int .i64 s.v1]) wr) h (by rw [hed, hev])
    have HRC := qh hrc
    clear hed hev hdv hrc
    gi_upto_region 3 with fail
    refine Kit.wpIn_name ?_
    intro W1 hW1
    have HBW1 := qh (show Below wr.heap.size wr W1 by rw [hW1]; exact (Below.refl _ _).alloc nlr _)
    have HL1 := qh (show Kit.Bk W1 wr.heap.size 34 #[.int .i64 d, .int .i64 v] by rw [hW1]; exact Kit.Bk.new _ _ _)
    obtain ⟨B8, hB8⟩ : ∃ b, wr.heap.size = b := ⟨_, rfl⟩
    have HWB := qh hB8
    rw [hB8] at HL1 ⊢
    clear hW1 hB8 hix
    have l0 : W1.cell? ⟨B8, 0, none⟩ = some (.int .i64 d) := (HL1.out.cell 0).trans rfl
    have l1 : W1.cell? ⟨B8, 1, none⟩ = some (.int .i64 v) := (HL1.out.cell 1).trans rfl
    by_cases hv0 : v = 0
    case pos =>
     subst hv0
     have HN := qh (show Mo.tpsF s b 1 = Mo.tpsF s b (1 + 1) by rw [HST.out, if_pos rfl]; rfl)
     have HK1 := qh (HK.out.then HBW1.out)
     have HJ1 := qh (HJ.out _ _ _ _ HJP.out ((Kit.Exc.refl _ wr).then HBW1.out))
     have HYN1 := qh (show ∀ k, Y k → ¬ Mo.ZT BS BB k ∧ k < W1.heap.size from fun k hk => ⟨(HYN.out k hk).1, Nat.lt_of_lt_of_le (HYN.out k hk).2 HBW1.out.size⟩)
     gi_wp2
     go_roundw
     case rel => exact ⟨1 + 1, Y, pre, rfl, by omega, HJ1.out, HK1, HYN1, qh (by rw [← HN.out]; exact HP.out)⟩
     case measure => simp [intOf]
    have cv : (v == 0) = false := by simpa using hv0
    have HV0 := qh hv0
    have hvv : 1 ≤ v ∧ v ≤ 3 := by have := HLO.out; omega
    clear hv0
    have hlo := HLO.out
    have hrb := HRB.out
    have hfo := Mo.face_ok HOK.out
    have htd := Mo.turned_bd0 hlo.1 hfo
    have hpo := (Mo.ok_iff (Mo.okF_of HOK.out)).1 HOK.out
    have hx := Mo.mul_bd (show (0 : Int) ≤ rc by omega) (Mo.vx_bd (Mo.turned d s.f) v)
    have hy := Mo.mul_bd (show (0 : Int) ≤ rc by omega) (Mo.vy_bd (Mo.turned d s.f) v)
    have HT4 := qh (fun W => sp_turned d s.f W hlo.1 hfo)
    have HT5 := qh (fun W hF => sp_vecI (Mo.turned d s.f) v W htd hvv hF)
    have HN := qh (HST.out.trans (by rw [if_neg HV0.out]))
    clear HST
    obtain ⟨TD, hTD⟩ : ∃ t, Mo.turned d s.f = t := ⟨_, rfl⟩
    rw [hTD] at HT4 HT5 hx hy HN
    obtain ⟨VX, hVX⟩ : ∃ t, Mo.vx TD v = t := ⟨_, rfl⟩
    obtain ⟨VY, hVY⟩ : ∃ t, Mo.vy TD v = t := ⟨_, rfl⟩
    obtain ⟨VZ, hVZ⟩ : ∃ t, Uo.vz TD.toNat v.toNat = t := ⟨_, rfl⟩
    simp only [hVX, hVY, hVZ] at HT5 hx hy HN
    have w1 : IntKind.i64.wrap (rc * VX) = rc * VX := by rw [IntKind.wrap_i64] <;> omega
    have w2 : IntKind.i64.wrap (rc * VY) = rc * VY := by rw [IntKind.wrap_i64] <;> omega
    have w3 : IntKind.i64.wrap (29 * s.x) = 29 * s.x := by rw [IntKind.wrap_i64] <;> omega
    have w4 : IntKind.i64.wrap (29 * s.y) = 29 * s.y := by rw [IntKind.wrap_i64] <;> omega
    have w5 : IntKind.i64.wrap (29 * s.x + rc * VX) = 29 * s.x + rc * VX := by rw [IntKind.wrap_i64] <;> omega
    have w6 : IntKind.i64.wrap (29 * s.y + rc * VY) = 29 * s.y + rc * VY := by rw [IntKind.wrap_i64] <;> omega
    clear hvv hlo hrb hfo htd hpo hx hy hTD hVX hVY hVZ
    have HK1 := qh (HK.out.then HBW1.out)
    have f2 : W1.cell? ⟨BS, 2, none⟩ = some (.int .i64 s.f) := ((HKC.out _ HK1.out).2.1.cell 2).trans rfl
    gi_wp2
    refine ⟨trivial, CallsIn.mono (callsIn_wide.2 (HT4.out _)) ?_⟩
    rintro e W2 ⟨rfl, rfl⟩
    clear HT4
    gi_wp2
    refine ⟨trivial, CallsIn.mono (callsIn_wide.2 (HT5.out _ (HKC.out _ HK1.out).1)) ?_⟩
    rintro e W3 ⟨rfl, hb3⟩
    have HB3 := qh hb3
    clear HT5 hb3 f2 l0 l1
    gi_upto_region 6 with fail
    refine Kit.wpIn_name ?_
    intro W7 hW7
    have HBW7 := qh (show Below wr.heap.size wr W7 by rw [hW7]; exact (HBW1.out.trans (HB3.out.mono HBW1.out.size)).alloc (HBW1.out.trans (HB3.out.mono HBW1.out.size)).size _)
    have HC7 := qh (show Kit.Bk W7 W3.heap.size 106 #[.int .i64 VX, .int .i64 VY, .int .i64 VZ] by rw [hW7]; exact Kit.Bk.new _ _ _)
    obtain ⟨B9, hB9⟩ : ∃ b, W3.heap.size = b := ⟨_, rfl⟩
    rw [hB9] at HC7 ⊢
    clear hW7 hB9 HB3 HBW1
    have HK7 := qh (HK.out.then HBW7.out)
    have HJ7 := qh (HJ.out _ _ _ _ HJP.out ((Kit.Exc.refl _ wr).then HBW7.out))
    have HYN7 := qh (show ∀ k, Y k → ¬ Mo.ZT BS BB k ∧ k < W7.heap.size from fun k hk => ⟨(HYN.out k hk).1, Nat.lt_of_lt_of_le (HYN.out k hk).2 HBW7.out.size⟩)
    obtain ⟨_, hs7, hb7⟩ := HKC.out _ HK7.out
    have c0 : W7.cell? ⟨BS, 0, none⟩ = some (.int .i64 s.x) := (hs7.cell 0).trans rfl
    have c1 : W7.cell? ⟨BS, 1, none⟩ = some (.int .i64 s.y) := (hs7.cell 1).trans rfl
    have rb : W7.cell? ⟨BB, 6 + 0, none⟩ = some (.int .i64 rc) := (hb7.cell (6 + 0)).trans (by rw [← HRC.out]; rfl)
    simp only [Nat.reduceAdd] at rb
    have e0 : W7.cell? ⟨B9, 0, none⟩ = some (.int .i64 VX) := (HC7.out.cell 0).trans rfl
    have e1 : W7.cell? ⟨B9, 1, none⟩ = some (.int .i64 VY) := (HC7.out.cell 1).trans rfl
    clear hs7 hb7
    obtain ⟨fn, tmps, assign, body, hyy, hR⟩ := HY.out pre (29 * s.x + rc * VX, 29 * s.y + rc * VY) Y _ HJ7.out ⟨Mo.tpsF s b (1 + 1), by rw [← HP.out, HN.out]; rfl⟩
    dsimp only [Mo.encT] at hyy hR
    gi_wp2
    refine hR.mono ?_
    rintro e W8 ⟨Y8, hx8, hy8, (⟨rfl, hj8⟩ | ⟨rfl, hj8⟩)⟩
    case inr =>
     have HJ8 := qh hj8
     clear hx8 hy8 hj8 hyy hR c0 c1 rb e0 e1
     gi_wp2
     refine bodyPost_ret (results_none rfl _ _ _) rfl ?_
     exact ⟨⟨_, rfl⟩, Y8, .inr ⟨_, trivial, HJ8.out⟩⟩
    obtain ⟨HK8, HYK8⟩ := HEY.out Y Y8 W7 W8 HK7.out HYN7.out hx8 hy8
    have HJ8 := qh hj8
    clear hx8 hy8 hj8 hyy hR c0 c1 rb e0 e1
    gi_wp2
    go_roundw
    case rel => exact ⟨1 + 1, Y8, pre ++ [(29 * s.x + rc * VX, 29 * s.y + rc * VY)], rfl, by omega, HJ8.out, HK8, HYK8, qh (by rw [← HP.out, HN.out]; simp)⟩
    case measure => simp [intOf]
   ·obtain rfl : u13 = .int .i64 2 := hv13
    have HST := qh (Mo.tps_step s b 2 omg)
    have HLO := qh (Mo.lim_ok HOK.out 2 omg)
    have HRB := qh (Mo.reach_bd HBK.out 2)
    obtain ⟨d, v, hdv⟩ : ∃ d v, Mo.lim s 2 = (d, v) := ⟨_, _, rfl⟩
    obtain ⟨rc, hrc⟩ : ∃ c, Mo.reach b 2 = c := ⟨_, rfl⟩
    rw [hdv] at HLO
    rw [hrc] at HRB
    dsimp only at HLO
    unfold Mo.tpt at HST
    rw [hdv, hrc] at HST
    dsimp only at HST
    have hed : s.d2 = d := congrArg Prod.fst hdv
    have hev : s.v2 = v := congrArg Prod.snd hdv
    have hix : (Instr.index 35 (.agg #[.int .i64 s.d0, .int .i64 s.v0, .int .i64 s.d1, .int .i64 s.v1, .int .i64 s.d2, .int .i64 s.v2, .int .i64 s.d3, .int .i64 s.v3, .int .i64 s.d4, .int .i64 s.v4]) (.int .i64 2)).run Tryz.prog wr = .ok (.agg #[.int .i64 d, .int .i64 v]) wr := by
     have h := HIX.out wr 2 omg
     simp only [List.getD_cons_zero, List.getD_cons_succ] at h
     exact Eq.trans (b := Result.ok (.agg #[.int .i64 s.d2, .int .i64 s.v2]) wr) h (by rw [hed, hev])
    have HRC := qh hrc
    clear hed hev hdv hrc
    gi_upto_region 3 with fail
    refine Kit.wpIn_name ?_
    intro W1 hW1
    have HBW1 := qh (show Below wr.heap.size wr W1 by rw [hW1]; exact (Below.refl _ _).alloc nlr _)
    have HL1 := qh (show Kit.Bk W1 wr.heap.size 34 #[.int .i64 d, .int .i64 v] by rw [hW1]; exact Kit.Bk.new _ _ _)
    obtain ⟨B8, hB8⟩ : ∃ b, wr.heap.size = b := ⟨_, rfl⟩
    have HWB := qh hB8
    rw [hB8] at HL1 ⊢
    clear hW1 hB8 hix
    have l0 : W1.cell? ⟨B8, 0, none⟩ = some (.int .i64 d) := (HL1.out.cell 0).trans rfl
    have l1 : W1.cell? ⟨B8, 1, none⟩ = some (.int .i64 v) := (HL1.out.cell 1).trans rfl
    by_cases hv0 : v = 0
    case pos =>
     subst hv0
     have HN := qh (show Mo.tpsF s b 2 = Mo.tpsF s b (2 + 1) by rw [HST.out, if_pos rfl]; rfl)
     have HK1 := qh (HK.out.then HBW1.out)
     have HJ1 := qh (HJ.out _ _ _ _ HJP.out ((Kit.Exc.refl _ wr).then HBW1.out))
     have HYN1 := qh (show ∀ k, Y k → ¬ Mo.ZT BS BB k ∧ k < W1.heap.size from fun k hk => ⟨(HYN.out k hk).1, Nat.lt_of_lt_of_le (HYN.out k hk).2 HBW1.out.size⟩)
     gi_wp2
     go_roundw
     case rel => exact ⟨2 + 1, Y, pre, rfl, by omega, HJ1.out, HK1, HYN1, qh (by rw [← HN.out]; exact HP.out)⟩
     case measure => simp [intOf]
    have cv : (v == 0) = false := by simpa using hv0
    have HV0 := qh hv0
    have hvv : 1 ≤ v ∧ v ≤ 3 := by have := HLO.out; omega
    clear hv0
    have hlo := HLO.out
    have hrb := HRB.out
    have hfo := Mo.face_ok HOK.out
    have htd := Mo.turned_bd0 hlo.1 hfo
    have hpo := (Mo.ok_iff (Mo.okF_of HOK.out)).1 HOK.out
    have hx := Mo.mul_bd (show (0 : Int) ≤ rc by omega) (Mo.vx_bd (Mo.turned d s.f) v)
    have hy := Mo.mul_bd (show (0 : Int) ≤ rc by omega) (Mo.vy_bd (Mo.turned d s.f) v)
    have HT4 := qh (fun W => sp_turned d s.f W hlo.1 hfo)
    have HT5 := qh (fun W hF => sp_vecI (Mo.turned d s.f) v W htd hvv hF)
    have HN := qh (HST.out.trans (by rw [if_neg HV0.out]))
    clear HST
    obtain ⟨TD, hTD⟩ : ∃ t, Mo.turned d s.f = t := ⟨_, rfl⟩
    rw [hTD] at HT4 HT5 hx hy HN
    obtain ⟨VX, hVX⟩ : ∃ t, Mo.vx TD v = t := ⟨_, rfl⟩
    obtain ⟨VY, hVY⟩ : ∃ t, Mo.vy TD v = t := ⟨_, rfl⟩
    obtain ⟨VZ, hVZ⟩ : ∃ t, Uo.vz TD.toNat v.toNat = t := ⟨_, rfl⟩
    simp only [hVX, hVY, hVZ] at HT5 hx hy HN
    have w1 : IntKind.i64.wrap (rc * VX) = rc * VX := by rw [IntKind.wrap_i64] <;> omega
    have w2 : IntKind.i64.wrap (rc * VY) = rc * VY := by rw [IntKind.wrap_i64] <;> omega
    have w3 : IntKind.i64.wrap (29 * s.x) = 29 * s.x := by rw [IntKind.wrap_i64] <;> omega
    have w4 : IntKind.i64.wrap (29 * s.y) = 29 * s.y := by rw [IntKind.wrap_i64] <;> omega
    have w5 : IntKind.i64.wrap (29 * s.x + rc * VX) = 29 * s.x + rc * VX := by rw [IntKind.wrap_i64] <;> omega
    have w6 : IntKind.i64.wrap (29 * s.y + rc * VY) = 29 * s.y + rc * VY := by rw [IntKind.wrap_i64] <;> omega
    clear hvv hlo hrb hfo htd hpo hx hy hTD hVX hVY hVZ
    have HK1 := qh (HK.out.then HBW1.out)
    have f2 : W1.cell? ⟨BS, 2, none⟩ = some (.int .i64 s.f) := ((HKC.out _ HK1.out).2.1.cell 2).trans rfl
    gi_wp2
    refine ⟨trivial, CallsIn.mono (callsIn_wide.2 (HT4.out _)) ?_⟩
    rintro e W2 ⟨rfl, rfl⟩
    clear HT4
    gi_wp2
    refine ⟨trivial, CallsIn.mono (callsIn_wide.2 (HT5.out _ (HKC.out _ HK1.out).1)) ?_⟩
    rintro e W3 ⟨rfl, hb3⟩
    have HB3 := qh hb3
    clear HT5 hb3 f2 l0 l1
    gi_upto_region 6 with fail
    refine Kit.wpIn_name ?_
    intro W7 hW7
    have HBW7 := qh (show Below wr.heap.size wr W7 by rw [hW7]; exact (HBW1.out.trans (HB3.out.mono HBW1.out.size)).alloc (HBW1.out.trans (HB3.out.mono HBW1.out.size)).size _)
    have HC7 := qh (show Kit.Bk W7 W3.heap.size 106 #[.int .i64 VX, .int .i64 VY, .int .i64 VZ] by rw [hW7]; exact Kit.Bk.new _ _ _)
    obtain ⟨B9, hB9⟩ : ∃ b, W3.heap.size = b := ⟨_, rfl⟩
    rw [hB9] at HC7 ⊢
    clear hW7 hB9 HB3 HBW1
    have HK7 := qh (HK.out.then HBW7.out)
    have HJ7 := qh (HJ.out _ _ _ _ HJP.out ((Kit.Exc.refl _ wr).then HBW7.out))
    have HYN7 := qh (show ∀ k, Y k → ¬ Mo.ZT BS BB k ∧ k < W7.heap.size from fun k hk => ⟨(HYN.out k hk).1, Nat.lt_of_lt_of_le (HYN.out k hk).2 HBW7.out.size⟩)
    obtain ⟨_, hs7, hb7⟩ := HKC.out _ HK7.out
    have c0 : W7.cell? ⟨BS, 0, none⟩ = some (.int .i64 s.x) := (hs7.cell 0).trans rfl
    have c1 : W7.cell? ⟨BS, 1, none⟩ = some (.int .i64 s.y) := (hs7.cell 1).trans rfl
    have rb : W7.cell? ⟨BB, 6 + 1, none⟩ = some (.int .i64 rc) := (hb7.cell (6 + 1)).trans (by rw [← HRC.out]; rfl)
    simp only [Nat.reduceAdd] at rb
    have e0 : W7.cell? ⟨B9, 0, none⟩ = some (.int .i64 VX) := (HC7.out.cell 0).trans rfl
    have e1 : W7.cell? ⟨B9, 1, none⟩ = some (.int .i64 VY) := (HC7.out.cell 1).trans rfl
    clear hs7 hb7
    obtain ⟨fn, tmps, assign, body, hyy, hR⟩ := HY.out pre (29 * s.x + rc * VX, 29 * s.y + rc * VY) Y _ HJ7.out ⟨Mo.tpsF s b (2 + 1), by rw [← HP.out, HN.out]; rfl⟩
    dsimp only [Mo.encT] at hyy hR
    gi_wp2
    refine hR.mono ?_
    rintro e W8 ⟨Y8, hx8, hy8, (⟨rfl, hj8⟩ | ⟨rfl, hj8⟩)⟩
    case inr =>
     have HJ8 := qh hj8
     clear hx8 hy8 hj8 hyy hR c0 c1 rb e0 e1
     gi_wp2
     refine bodyPost_ret (results_none rfl _ _ _) rfl ?_
     exact ⟨⟨_, rfl⟩, Y8, .inr ⟨_, trivial, HJ8.out⟩⟩
    obtain ⟨HK8, HYK8⟩ := HEY.out Y Y8 W7 W8 HK7.out HYN7.out hx8 hy8
    have HJ8 := qh hj8
    clear hx8 hy8 hj8 hyy hR c0 c1 rb e0 e1
    gi_wp2
    go_roundw
    case rel => exact ⟨2 + 1, Y8, pre ++ [(29 * s.x + rc * VX, 29 * s.y + rc * VY)], rfl, by omega, HJ8.out, HK8, HYK8, qh (by rw [← HP.out, HN.out]; simp)⟩
    case measure => simp [intOf]
   ·obtain rfl : u13 = .int .i64 3 := hv13
    have HST := qh (Mo.tps_step s b 3 omg)
    have HLO := qh (Mo.lim_ok HOK.out 3 omg)
    have HRB := qh (Mo.reach_bd HBK.out 3)
    obtain ⟨d, v, hdv⟩ : ∃ d v, Mo.lim s 3 = (d, v) := ⟨_, _, rfl⟩
    obtain ⟨rc, hrc⟩ : ∃ c, Mo.reach b 3 = c := ⟨_, rfl⟩
    rw [hdv] at HLO
    rw [hrc] at HRB
    dsimp only at HLO
    unfold Mo.tpt at HST
    rw [hdv, hrc] at HST
    dsimp only at HST
    have hed : s.d3 = d := congrArg Prod.fst hdv
    have hev : s.v3 = v := congrArg Prod.snd hdv
    have hix : (Instr.index 35 (.agg #[.int .i64 s.d0, .int .i64 s.v0, .int .i64 s.d1, .int .i64 s.v1, .int .i64 s.d2, .int .i64 s.v2, .int .i64 s.d3, .int .i64 s.v3, .int .i64 s.d4, .int .i64 s.v4]) (.int .i64 3)).run Tryz.prog wr = .ok (.agg #[.int .i64 d, .int .i64 v]) wr := by
     have h := HIX.out wr 3 omg
     simp only [List.getD_cons_zero, List.getD_cons_succ] at h
     exact Eq.trans (b := Result.ok (.agg #[.int .i64 s.d3, .int .i64 s.v3]) wr) h (by rw [hed, hev])
    have HRC := qh hrc
    clear hed hev hdv hrc
    gi_upto_region 3 with fail
    refine Kit.wpIn_name ?_
    intro W1 hW1
    have HBW1 := qh (show Below wr.heap.size wr W1 by rw [hW1]; exact (Below.refl _ _).alloc nlr _)
    have HL1 := qh (show Kit.Bk W1 wr.heap.size 34 #[.int .i64 d, .int .i64 v] by rw [hW1]; exact Kit.Bk.new _ _ _)
    obtain ⟨B8, hB8⟩ : ∃ b, wr.heap.size = b := ⟨_, rfl⟩
    have HWB := qh hB8
    rw [hB8] at HL1 ⊢
    clear hW1 hB8 hix
    have l0 : W1.cell? ⟨B8, 0, none⟩ = some (.int .i64 d) := (HL1.out.cell 0).trans rfl
    have l1 : W1.cell? ⟨B8, 1, none⟩ = some (.int .i64 v) := (HL1.out.cell 1).trans rfl
    by_cases hv0 : v = 0
    case pos =>
     subst hv0
     have HN := qh (show Mo.tpsF s b 3 = Mo.tpsF s b (3 + 1) by rw [HST.out, if_pos rfl]; rfl)
     have HK1 := qh (HK.out.then HBW1.out)
     have HJ1 := qh (HJ.out _ _ _ _ HJP.out ((Kit.Exc.refl _ wr).then HBW1.out))
     have HYN1 := qh (show ∀ k, Y k → ¬ Mo.ZT BS BB k ∧ k < W1.heap.size from fun k hk => ⟨(HYN.out k hk).1, Nat.lt_of_lt_of_le (HYN.out k hk).2 HBW1.out.size⟩)
     gi_wp2
     go_roundw
     case rel => exact ⟨3 + 1, Y, pre, rfl, by omega, HJ1.out, HK1, HYN1, qh (by rw [← HN.out]; exact HP.out)⟩
     case measure => simp [intOf]
    have cv : (v == 0) = false := by simpa using hv0
    have HV0 := qh hv0
    have hvv : 1 ≤ v ∧ v ≤ 3 := by have := HLO.out; omega
    clear hv0
    have hlo := HLO.out
    have hrb := HRB.out
    have hfo := Mo.face_ok HOK.out
    have htd := Mo.turned_bd0 hlo.1 hfo
    have hpo := (Mo.ok_iff (Mo.okF_of HOK.out)).1 HOK.out
    have hx := Mo.mul_bd (show (0 : Int) ≤ rc by omega) (Mo.vx_bd (Mo.turned d s.f) v)
    have hy := Mo.mul_bd (show (0 : Int) ≤ rc by omega) (Mo.vy_bd (Mo.turned d s.f) v)
    have HT4 := qh (fun W => sp_turned d s.f W hlo.1 hfo)
    have HT5 := qh (fun W hF => sp_vecI (Mo.turned d s.f) v W htd hvv hF)
    have HN := qh (HST.out.trans (by rw [if_neg HV0.out]))
    clear HST
    obtain ⟨TD, hTD⟩ : ∃ t, Mo.turned d s.f = t := ⟨_, rfl⟩
    rw [hTD] at HT4 HT5 hx hy HN
    obtain ⟨VX, hVX⟩ : ∃ t, Mo.vx TD v = t := ⟨_, rfl⟩
    obtain ⟨VY, hVY⟩ : ∃ t, Mo.vy TD v = t := ⟨_, rfl⟩
    obtain ⟨VZ, hVZ⟩ : ∃ t, Uo.vz TD.toNat v.toNat = t := ⟨_, rfl⟩
    simp only [hVX, hVY, hVZ] at HT5 hx hy HN
    have w1 : IntKind.i64.wrap (rc * VX) = rc * VX := by rw [IntKind.wrap_i64] <;> omega
    have w2 : IntKind.i64.wrap (rc * VY) = rc * VY := by rw [IntKind.wrap_i64] <;> omega
    have w3 : IntKind.i64.wrap (29 * s.x) = 29 * s.x := by rw [IntKind.wrap_i64] <;> omega
    have w4 : IntKind.i64.wrap (29 * s.y) = 29 * s.y := by rw [IntKind.wrap_i64] <;> omega
    have w5 : IntKind.i64.wrap (29 * s.x + rc * VX) = 29 * s.x + rc * VX := by rw [IntKind.wrap_i64] <;> omega
    have w6 : IntKind.i64.wrap (29 * s.y + rc * VY) = 29 * s.y + rc * VY := by rw [IntKind.wrap_i64] <;> omega
    clear hvv hlo hrb hfo htd hpo hx hy hTD hVX hVY hVZ
    have HK1 := qh (HK.out.then HBW1.out)
    have f2 : W1.cell? ⟨BS, 2, none⟩ = some (.int .i64 s.f) := ((HKC.out _ HK1.out).2.1.cell 2).trans rfl
    gi_wp2
    refine ⟨trivial, CallsIn.mono (callsIn_wide.2 (HT4.out _)) ?_⟩
    rintro e W2 ⟨rfl, rfl⟩
    clear HT4
    gi_wp2
    refine ⟨trivial, CallsIn.mono (callsIn_wide.2 (HT5.out _ (HKC.out _ HK1.out).1)) ?_⟩
    rintro e W3 ⟨rfl, hb3⟩
    have HB3 := qh hb3
    clear HT5 hb3 f2 l0 l1
    gi_upto_region 6 with fail
    refine Kit.wpIn_name ?_
    intro W7 hW7
    have HBW7 := qh (show Below wr.heap.size wr W7 by rw [hW7]; exact (HBW1.out.trans (HB3.out.mono HBW1.out.size)).alloc (HBW1.out.trans (HB3.out.mono HBW1.out.size)).size _)
    have HC7 := qh (show Kit.Bk W7 W3.heap.size 106 #[.int .i64 VX, .int .i64 VY, .int .i64 VZ] by rw [hW7]; exact Kit.Bk.new _ _ _)
    obtain ⟨B9, hB9⟩ : ∃ b, W3.heap.size = b := ⟨_, rfl⟩
    rw [hB9] at HC7 ⊢
    clear hW7 hB9 HB3 HBW1
    have HK7 := qh (HK.out.then HBW7.out)
    have HJ7 := qh (HJ.out _ _ _ _ HJP.out ((Kit.Exc.refl _ wr).then HBW7.out))
    have HYN7 := qh (show ∀ k, Y k → ¬ Mo.ZT BS BB k ∧ k < W7.heap.size from fun k hk => ⟨(HYN.out k hk).1, Nat.lt_of_lt_of_le (HYN.out k hk).2 HBW7.out.size⟩)
    obtain ⟨_, hs7, hb7⟩ := HKC.out _ HK7.out
    have c0 : W7.cell? ⟨BS, 0, none⟩ = some (.int .i64 s.x) := (hs7.cell 0).trans rfl
    have c1 : W7.cell? ⟨BS, 1, none⟩ = some (.int .i64 s.y) := (hs7.cell 1).trans rfl
    have rb : W7.cell? ⟨BB, 6 + 1, none⟩ = some (.int .i64 rc) := (hb7.cell (6 + 1)).trans (by rw [← HRC.out]; rfl)
    simp only [Nat.reduceAdd] at rb
    have e0 : W7.cell? ⟨B9, 0, none⟩ = some (.int .i64 VX) := (HC7.out.cell 0).trans rfl
    have e1 : W7.cell? ⟨B9, 1, none⟩ = some (.int .i64 VY) := (HC7.out.cell 1).trans rfl
    clear hs7 hb7
    obtain ⟨fn, tmps, assign, body, hyy, hR⟩ := HY.out pre (29 * s.x + rc * VX, 29 * s.y + rc * VY) Y _ HJ7.out ⟨Mo.tpsF s b (3 + 1), by rw [← HP.out, HN.out]; rfl⟩
    dsimp only [Mo.encT] at hyy hR
    gi_wp2
    refine hR.mono ?_
    rintro e W8 ⟨Y8, hx8, hy8, (⟨rfl, hj8⟩ | ⟨rfl, hj8⟩)⟩
    case inr =>
     have HJ8 := qh hj8
     clear hx8 hy8 hj8 hyy hR c0 c1 rb e0 e1
     gi_wp2
     refine bodyPost_ret (results_none rfl _ _ _) rfl ?_
     exact ⟨⟨_, rfl⟩, Y8, .inr ⟨_, trivial, HJ8.out⟩⟩
    obtain ⟨HK8, HYK8⟩ := HEY.out Y Y8 W7 W8 HK7.out HYN7.out hx8 hy8
    have HJ8 := qh hj8
    clear hx8 hy8 hj8 hyy hR c0 c1 rb e0 e1
    gi_wp2
    go_roundw
    case rel => exact ⟨3 + 1, Y8, pre ++ [(29 * s.x + rc * VX, 29 * s.y + rc * VY)], rfl, by omega, HJ8.out, HK8, HYK8, qh (by rw [← HP.out, HN.out]; simp)⟩
    case measure => simp [intOf]
   ·obtain rfl : u13 = .int .i64 4 := hv13
    have HST := qh (Mo.tps_step s b 4 omg)
    have HLO := qh (Mo.lim_ok HOK.out 4 omg)
    have HRB := qh (Mo.reach_bd HBK.out 4)
    obtain ⟨d, v, hdv⟩ : ∃ d v, Mo.lim s 4 = (d, v) := ⟨_, _, rfl⟩
    obtain ⟨rc, hrc⟩ : ∃ c, Mo.reach b 4 = c := ⟨_, rfl⟩
    rw [hdv] at HLO
    rw [hrc] at HRB
    dsimp only at HLO
    unfold Mo.tpt at HST
    rw [hdv, hrc] at HST
    dsimp only at HST
    have hed : s.d4 = d := congrArg Prod.fst hdv
    have hev : s.v4 = v := congrArg Prod.snd hdv
    have hix : (Instr.index 35 (.agg #[.int .i64 s.d0, .int .i64 s.v0, .int .i64 s.d1, .int .i64 s.v1, .int .i64 s.d2, .int .i64 s.v2, .int .i64 s.d3, .int .i64 s.v3, .int .i64 s.d4, .int .i64 s.v4]) (.int .i64 4)).run Tryz.prog wr = .ok (.agg #[.int .i64 d, .int .i64 v]) wr := by
     have h := HIX.out wr 4 omg
     simp only [List.getD_cons_zero, List.getD_cons_succ] at h
     exact Eq.trans (b := Result.ok (.agg #[.int .i64 s.d4, .int .i64 s.v4]) wr) h (by rw [hed, hev])
    have HRC := qh hrc
    clear hed hev hdv hrc
    gi_upto_region 3 with fail
    refine Kit.wpIn_name ?_
    intro W1 hW1
    have HBW1 := qh (show Below wr.heap.size wr W1 by rw [hW1]; exact (Below.refl _ _).alloc nlr _)
    have HL1 := qh (show Kit.Bk W1 wr.heap.size 34 #[.int .i64 d, .int .i64 v] by rw [hW1]; exact Kit.Bk.new _ _ _)
    obtain ⟨B8, hB8⟩ : ∃ b, wr.heap.size = b := ⟨_, rfl⟩
    have HWB := qh hB8
    rw [hB8] at HL1 ⊢
    clear hW1 hB8 hix
    have l0 : W1.cell? ⟨B8, 0, none⟩ = some (.int .i64 d) := (HL1.out.cell 0).trans rfl
    have l1 : W1.cell? ⟨B8, 1, none⟩ = some (.int .i64 v) := (HL1.out.cell 1).trans rfl
    by_cases hv0 : v = 0
    case pos =>
     subst hv0
     have HN := qh (show Mo.tpsF s b 4 = Mo.tpsF s b (4 + 1) by rw [HST.out, if_pos rfl]; rfl)
     have HK1 := qh (HK.out.then HBW1.out)
     have HJ1 := qh (HJ.out _ _ _ _ HJP.out ((Kit.Exc.refl _ wr).then HBW1.out))
     have HYN1 := qh (show ∀ k, Y k → ¬ Mo.ZT BS BB k ∧ k < W1.heap.size from fun k hk => ⟨(HYN.out k hk).1, Nat.lt_of_lt_of_le (HYN.out k hk).2 HBW1.out.size⟩)
     gi_wp2
     go_roundw
     case rel => exact ⟨4 + 1, Y, pre, rfl, by omega, HJ1.out, HK1, HYN1, qh (by rw [← HN.out]; exact HP.out)⟩
     case measure => simp [intOf]
    have cv : (v == 0) = false := by simpa using hv0
    have HV0 := qh hv0
    have hvv : 1 ≤ v ∧ v ≤ 3 := by have := HLO.out; omega
    clear hv0
    have hlo := HLO.out
    have hrb := HRB.out
    have hfo := Mo.face_ok HOK.out
    have htd := Mo.turned_bd0 hlo.1 hfo
    have hpo := (Mo.ok_iff (Mo.okF_of HOK.out)).1 HOK.out
    have hx := Mo.mul_bd (show (0 : Int) ≤ rc by omega) (Mo.vx_bd (Mo.turned d s.f) v)
    have hy := Mo.mul_bd (show (0 : Int) ≤ rc by omega) (Mo.vy_bd (Mo.turned d s.f) v)
    have HT4 := qh (fun W => sp_turned d s.f W hlo.1 hfo)
    have HT5 := qh (fun W hF => sp_vecI (Mo.turned d s.f) v W htd hvv hF)
    have HN := qh (HST.out.trans (by rw [if_neg HV0.out]))
    clear HST
    obtain ⟨TD, hTD⟩ : ∃ t, Mo.turned d s.f = t := ⟨_, rfl⟩
    rw [hTD] at HT4 HT5 hx hy HN
    obtain ⟨VX, hVX⟩ : ∃ t, Mo.vx TD v = t := ⟨_, rfl⟩
    obtain ⟨VY, hVY⟩ : ∃ t, Mo.vy TD v = t := ⟨_, rfl⟩
    obtain ⟨VZ, hVZ⟩ : ∃ t, Uo.vz TD.toNat v.toNat = t := ⟨_, rfl⟩
    simp only [hVX, hVY, hVZ] at HT5 hx hy HN
    have w1 : IntKind.i64.wrap (rc * VX) = rc * VX := by rw [IntKind.wrap_i64] <;> omega
    have w2 : IntKind.i64.wrap (rc * VY) = rc * VY := by rw [IntKind.wrap_i64] <;> omega
    have w3 : IntKind.i64.wrap (29 * s.x) = 29 * s.x := by rw [IntKind.wrap_i64] <;> omega
    have w4 : IntKind.i64.wrap (29 * s.y) = 29 * s.y := by rw [IntKind.wrap_i64] <;> omega
    have w5 : IntKind.i64.wrap (29 * s.x + rc * VX) = 29 * s.x + rc * VX := by rw [IntKind.wrap_i64] <;> omega
    have w6 : IntKind.i64.wrap (29 * s.y + rc * VY) = 29 * s.y + rc * VY := by rw [IntKind.wrap_i64] <;> omega
    clear hvv hlo hrb hfo htd hpo hx hy hTD hVX hVY hVZ
    have HK1 := qh (HK.out.then HBW1.out)
    have f2 : W1.cell? ⟨BS, 2, none⟩ = some (.int .i64 s.f) := ((HKC.out _ HK1.out).2.1.cell 2).trans rfl
    gi_wp2
    refine ⟨trivial, CallsIn.mono (callsIn_wide.2 (HT4.out _)) ?_⟩
    rintro e W2 ⟨rfl, rfl⟩
    clear HT4
    gi_wp2
    refine ⟨trivial, CallsIn.mono (callsIn_wide.2 (HT5.out _ (HKC.out _ HK1.out).1)) ?_⟩
    rintro e W3 ⟨rfl, hb3⟩
    have HB3 := qh hb3
    clear HT5 hb3 f2 l0 l1
    gi_upto_region 6 with fail
    refine Kit.wpIn_name ?_
    intro W7 hW7
    have HBW7 := qh (show Below wr.heap.size wr W7 by rw [hW7]; exact (HBW1.out.trans (HB3.out.mono HBW1.out.size)).alloc (HBW1.out.trans (HB3.out.mono HBW1.out.size)).size _)
    have HC7 := qh (show Kit.Bk W7 W3.heap.size 106 #[.int .i64 VX, .int .i64 VY, .int .i64 VZ] by rw [hW7]; exact Kit.Bk.new _ _ _)
    obtain ⟨B9, hB9⟩ : ∃ b, W3.heap.size = b := ⟨_, rfl⟩
    rw [hB9] at HC7 ⊢
    clear hW7 hB9 HB3 HBW1
    have HK7 := qh (HK.out.then HBW7.out)
    have HJ7 := qh (HJ.out _ _ _ _ HJP.out ((Kit.Exc.refl _ wr).then HBW7.out))
    have HYN7 := qh (show ∀ k, Y k → ¬ Mo.ZT BS BB k ∧ k < W7.heap.size from fun k hk => ⟨(HYN.out k hk).1, Nat.lt_of_lt_of_le (HYN.out k hk).2 HBW7.out.size⟩)
    obtain ⟨_, hs7, hb7⟩ := HKC.out _ HK7.out
    have c0 : W7.cell? ⟨BS, 0, none⟩ = some (.int .i64 s.x) := (hs7.cell 0).trans rfl
    have c1 : W7.cell? ⟨BS, 1, none⟩ = some (.int .i64 s.y) := (hs7.cell 1).trans rfl
    have rb : W7.cell? ⟨BB, 6 + 2, none⟩ = some (.int .i64 rc) := (hb7.cell (6 + 2)).trans (by rw [← HRC.out]; rfl)
    simp only [Nat.reduceAdd] at rb
    have e0 : W7.cell? ⟨B9, 0, none⟩ = some (.int .i64 VX) := (HC7.out.cell 0).trans rfl
    have e1 : W7.cell? ⟨B9, 1, none⟩ = some (.int .i64 VY) := (HC7.out.cell 1).trans rfl
    clear hs7 hb7
    obtain ⟨fn, tmps, assign, body, hyy, hR⟩ := HY.out pre (29 * s.x + rc * VX, 29 * s.y + rc * VY) Y _ HJ7.out ⟨Mo.tpsF s b (4 + 1), by rw [← HP.out, HN.out]; rfl⟩
    dsimp only [Mo.encT] at hyy hR
    gi_wp2
    refine hR.mono ?_
    rintro e W8 ⟨Y8, hx8, hy8, (⟨rfl, hj8⟩ | ⟨rfl, hj8⟩)⟩
    case inr =>
     have HJ8 := qh hj8
     clear hx8 hy8 hj8 hyy hR c0 c1 rb e0 e1
     gi_wp2
     refine bodyPost_ret (results_none rfl _ _ _) rfl ?_
     exact ⟨⟨_, rfl⟩, Y8, .inr ⟨_, trivial, HJ8.out⟩⟩
    obtain ⟨HK8, HYK8⟩ := HEY.out Y Y8 W7 W8 HK7.out HYN7.out hx8 hy8
    have HJ8 := qh hj8
    clear hx8 hy8 hj8 hyy hR c0 c1 rb e0 e1
    gi_wp2
    go_roundw
    case rel => exact ⟨4 + 1, Y8, pre ++ [(29 * s.x + rc * VX, 29 * s.y + rc * VY)], rfl, by omega, HJ8.out, HK8, HYK8, qh (by rw [← HP.out, HN.out]; simp)⟩
    case measure => simp [intOf]
  ·obtain rfl : i = 5 := by omega
   obtain rfl : u13 = .int .i64 5 := hv13
   have HE := qh (show pre = Mo.tps s b by have h := HP.out; rwa [show Mo.tpsF s b 5 = [] from rfl, List.append_nil] at h)
   gi_wp2
   go_end0
   exact ⟨⟨_, rfl⟩, Y, .inl ⟨_, HE.out, HJP.out⟩⟩
end Go.Proofs.YtedolbjgdedoaaaGreatDoor
