/- Walks: the law UnderstudyReady. -/
import Derived.Test.YtbhgogiaaljclaaGreatDoorUrW
set_option linter.unusedSimpArgs false
set_option linter.unusedVariables false
set_option maxRecDepth 100000
set_option maxHeartbeats 8000000
namespace Go.Proofs.YtbhgogiaaljclaaGreatDoor
open Go.RowKit Go.Shelf
namespace Un
theorem readyE_zero {x : Ex.Wk} {bs : List Bd} {cast : List Int} {role bar : Int} (h : readyE x bs cast role bar = 0) : Ex.chk x = 0 ∧ bs.length ≤ 16 ∧ (∀ b ∈ bs, bok b = true) ∧ okCast bs.length [] cast = true ∧ cast.length = x.ro.length ∧ within x role bar = true := by
 unfold readyE at h
 by_cases h0 : Ex.chk x = 0
 ·rw [if_neg (by simp [h0])] at h
  by_cases h1 : 16 < bs.length
  ·rw [if_pos h1] at h; cases h
  ·rw [if_neg h1] at h
   cases h2 : bs.all bok
   ·rw [if_pos h2] at h; cases h
   ·rw [if_neg (by simp [h2])] at h
    cases h3 : okCast bs.length [] cast
    ·rw [if_pos h3] at h; cases h
    ·rw [if_neg (by simp [h3])] at h
     by_cases h4 : cast.length = x.ro.length
     ·rw [if_neg (by simp [h4])] at h
      cases h5 : within x role bar
      ·rw [if_pos h5] at h; cases h
      ·exact ⟨h0, by omega, fun b hb => List.all_eq_true.1 h2 b hb, rfl, h4, rfl⟩
     ·rw [if_pos h4] at h; cases h
 ·rw [if_pos h0] at h; exact absurd h h0
end Un
namespace Uy
structure L1 (V : World) (bs : List Un.Bd) (cast : List Int) (i : Nat) (v : Value) (W : World) : Prop where
 bel : Below V.heap.size V W
 own : W.ownsRow (V.heap.size + 1) 36 17 v i (Un.bdsV (Un.onL bs (cast.take i)))
 mp : Kit.IMap Tryz.prog 3 W V.heap.size i (inZ (cast.take i))
section
variable {V W W5 W6 : World} {bs : List Un.Bd} {cast : List Int} {i : Nat} {v v' : Value}
theorem L1.mp5 (h : L1 V bs cast i v W) (o : Obj) (hg : (W.alloc o).grownBy W5 v.ownBlock) : Kit.IMap Tryz.prog 3 W5 V.heap.size i (inZ (cast.take i)) :=
 (h.mp.alloc o).kept (hg.block _ (h.mp.alloc o).lt fun e => by have := (h.own.lt _ e.symm).1; omega)
theorem L1.next (h : L1 V bs cast i v W) (o : Obj) (hg : (W.alloc o).grownBy W5 v.ownBlock) (ho : W5.ownsRow (V.heap.size + 1) 36 17 v' (i + 1) (Un.bdsV (Un.onL bs (cast.take (i + 1))))) (hg6 : W5.grownBy W6 (some V.heap.size)) (hm : Kit.IMap Tryz.prog 3 W6 V.heap.size (i + 1) (inZ (cast.take (i + 1)))) : L1 V bs cast (i + 1) v' W6 := by
 have b1 : Below V.heap.size V (W.alloc o) := h.bel.alloc h.bel.size _
 have b2 : Below V.heap.size V W5 := b1.grown hg b1.size (fun k hk => by have := (h.own.lt k hk).1; omega)
 refine ⟨b2.grown hg6 b2.size (fun k hk => by cases hk; exact Nat.le_refl _), ho.kept hg6 ?_, hm⟩
 right
 intro e
 have := (ho.lt _ e).1
 omega
end
end Uy
theorem lw_ready (x : Ex.Wk) (p : Ex.Wa) (w : World) (hL : Ex.Laid w) (hF : Uo.Flat w) (ha : Ex.At w x p) (bs : List Un.Bd) (a : Option Addr) (c : Nat) (hS : Tp.Sl w a bs.length 17 (Un.bdF bs)) (hl : bs.length ≤ 4611686018427387904) (hns : ∀ b ∈ bs, b.name.size ≤ 9223372036854775807)
  (cast : List Int) (ac : Option Addr) (cc : Nat) (hC : Tp.Sl w ac cast.length 1 (Un.ic cast)) (hcc : cast.length ≤ cc) (role bar : Int) :
  Calls Tryz.prog 6 #[Ex.workV x p, .slice a bs.length c, .slice ac cast.length cc, .int .i64 role, .int .i64 bar] w fun e w' => e = .returned (.bool true) ∧ Below w.heap.size w w' := by
 have HSN := qh (fun W (hb : Below w.heap.size w W) => lw_sane W (hL.kept hb nlr) (hF.kept hb nlr))
 have HFW := qh (fun W => lw_few x p bs.length cast.length c cc a ac W)
 have HR := qh (fun W (hb : Below w.heap.size w W) (hlc : cast.length ≤ 1000000000) => un_ready x p W (hL.kept hb nlr) (hF.kept hb nlr) (ha.kept hb nlr) bs a c (hS.kept hb nlr) hl hns cast ac cc (hC.kept hb nlr) hlc hcc role bar)
 have HQ := qh (fun W (hb : Below w.heap.size w W) (hlc : cast.length ≤ 1000000000) => ru_Ready x p W (ha.kept hb nlr) bs a c (hS.kept hb nlr) hl hns cast ac cc (hC.kept hb nlr) hlc hcc role bar)
 have HLD := qh hL
 have HFL := qh hF
 have HAT := qh ha
 have HSL := qh hS
 have HNS := qh hns
 have HCS := qh hC
 dsimp only [Ex.workV, Ex.wv] at HFW HR HQ
 clear hL hF ha hS hns hC
 obtain ⟨r, hr⟩ : ∃ r, Un.readyE x bs cast role bar = r := ⟨_, rfl⟩
 rw [hr] at HR HQ
 have HRE := qh hr
 clear hr
 have hmm := @run_makeMap Tryz.prog
 go_enter Tryz.func6, Tryz.ntmps6
 go_upto_region 1 with fail
 refine Kit.wp_name ?_
 intro W1 hW1
 have HW1 := qh (show Un.WH w x p W1 by
  rw [hW1]
  exact ⟨by exact Kit.gr, fun j => by simp [go_sem], by simp⟩)
 clear hW1
 go_wp2_with fail
 refine (HSN.out _ HW1.out.bel).mono ?_
 rintro _ W2 ⟨rfl, hb⟩
 have HW2 := qh (HW1.out.then hb)
 clear hb HW1
 have wk2 := HW2.out.wk
 go_wp2_with fail
 refine (HFW.out _).mono ?_
 rintro _ W3 ⟨⟨fb, rfl, hfb⟩, hb⟩
 have HW3 := qh (HW2.out.then hb)
 have HFB := qh hfb
 clear hb HW2 wk2 hfb
 rcases fb with _ | _
 ·go_wp2_with fail
  go_ret
  exact ⟨rfl, HW3.out.bel⟩
 have hlc := (HFB.out (by first | rfl | trivial)).2
 have wk3 := HW3.out.wk
 go_wp2_with fail
 refine (HQ.out _ HW3.out.bel omg).mono ?_
 rintro _ W4 ⟨⟨a4, n4, c4, rfl, _⟩, hb⟩
 have HW4 := qh (HW3.out.then hb)
 clear hb HW3 wk3
 by_cases hr0 : r = 0
 case neg =>
  have hrz : (r != 0) = true := by simpa using hr0
  clear hr0
  go_wp2_with fail
  go_ret
  exact ⟨rfl, HW4.out.bel⟩
 subst hr0
 have wk4 := HW4.out.wk
 go_wp2_with fail
 refine (HR.out _ HW4.out.bel omg).mono ?_
 rintro _ W5 ⟨⟨al, n5, cl, rfl, hr5⟩, hb⟩
 have HW5 := qh (HW4.out.then hb)
 clear hb HW4 wk4 HR HQ HFW HSN
 obtain ⟨l, rfl, hn16, hrd, hsl5⟩ : ∃ l : List Nat, n5 = l.length ∧ n5 ≤ 16 ∧ Un.Ready x bs cast role bar l ∧ Tp.Sl W5 al l.length 1 (Uy.nc l) := by
  rcases hr5 with ⟨h, _⟩ | ⟨_, h⟩
  ·exact absurd HRE.out h
  ·exact h
 clear hr5
 obtain ⟨hchk, h16, hbk, hoc, hln, hwi⟩ := Un.readyE_zero HRE.out
 have hro := (Ex.good_of hchk).roles
 obtain ⟨hr0, hr1⟩ : 0 ≤ role ∧ role < x.ro.length := by
  have h := hwi
  unfold Un.within at h
  simp only [Bool.and_eq_true, decide_eq_true_eq] at h
  exact ⟨h.1.1.1, h.1.1.2⟩
 obtain ⟨rn, rfl⟩ : ∃ n : Nat, role = n := ⟨role.toNat, by omega⟩
 have hrn : rn < cast.length := by omega
 have hc64 : cast.length ≤ 64 := by omega
 have HCK := qh hchk
 have HBK := qh hbk
 have HOC := qh hoc
 have HLN := qh hln
 have HWI := qh hwi
 have HRD := qh hrd
 have HSL5 := qh (show Tp.Sl W5 al l.length 1 (Un.ic (Un.nums l)) from hsl5.congr fun i j hi _ => (Un.nc_nums l i j hi).symm)
 have HRB := qh (show ∀ i, i < bs.length → ∀ B, bs.getD i default = B → ∀ W, Below w.heap.size w W → (loadVar 36 ((a.getD default).add (i * 17))).run Tryz.prog W = .ok (.agg (Un.bdA B)) W from fun i hi B hB W hW => by
  obtain ⟨ad, rfl, _⟩ := HSL.out.at hi
  have HI : (Tryz.prog.info? 36).map (·.size) = some (Un.bdA B).toList.length := by kernel_rfl
  exact Kit.run_load_sl (HSL.out.kept hW nlr) hi 36 (Un.bdA B).toList _ rfl (Un.bdF_at bs i B hB) Tryz.underlying36 rfl HI)
 clear hchk hbk hoc hln hwi hrd hsl5 hr0 hr1 hro HRE
 have wk5 := HW5.out.wk
 go_upto_region 13 with fail
 have H0 := qh (show Uy.L1 W5 bs cast 0 (.slice none 0 0) (W5.alloc (.map #[] 0)) from ⟨(Below.refl _ _).alloc nlr _, World.ownsRow_nil _ _ _ _, by rw [List.take_zero]; exact Uy.inZ_nil ▸ Kit.IMap.made _ _ _⟩)
 clear hmm
 go_wp2_with fail
 go_loopg [15, 70] cast.length (fun kx v15 v70 wr => ∃ i : Nat, v70 = .int .i64 i ∧ i ≤ cast.length ∧ cast.length - i ≤ kx ∧ Hid (Uy.L1 W5 bs cast i v15 wr))
 case atStart => exact ⟨0, rfl, by omega, by omega, H0⟩
 case round =>
  obtain ⟨i, rfl, hi, hk, HG⟩ := hrel
  have HBR := qh (HW5.out.bel.trans (HG.out.bel.mono HW5.out.bel.size))
  by_cases hlt : i < cast.length
  ·have hltz : (i : Int) < (cast.length : Int) := by omega
   obtain ⟨pz, hpz⟩ : ∃ pz, cast.getD i 0 = pz := ⟨_, rfl⟩
   obtain ⟨ad, rfl, had, _⟩ := HCS.out.at hlt
   have ci := (HCS.out.kept HBR.out nlr).head hlt omg
   unfold Un.ic at ci
   rw [hpz, Nat.mul_one] at ci
   obtain ⟨h0, h1, _⟩ := Un.okCast_at bs.length cast [] HOC.out i hlt
   have hpe : cast[i] = pz := by rw [← hpz]; simp [List.getD, hlt]
   rw [hpe] at h0 h1
   obtain ⟨pn, rfl⟩ := Int.eq_ofNat_of_zero_le h0
   have hpn : pn < bs.length := by omega
   have e3n : (pn : Int) < (bs.length : Int) := by omega
   obtain ⟨B, hB⟩ : ∃ B, bs.getD pn default = B := ⟨_, rfl⟩
   obtain ⟨adb, rfl, hadb, _⟩ := HSL.out.at hpn
   have HRUN := qh (show (loadVar 36 (adb.add (pn * 17))).run Tryz.prog wr = .ok (.agg (Un.bdA B)) wr from HRB.out pn hpn B hB wr HBR.out)
   have HON := qh (show Un.bdsV (Un.onL bs (cast.take (i + 1))) = Un.bdsV (Un.onL bs (cast.take i)) ++ (Un.bdA B).toList by rw [Un.onL_snoc bs cast i hlt pn hpz, hB, Un.bdsV_snoc])
   have HOT := qh (show cast.take (i + 1) = cast.take i ++ [(pn : Int)] by rw [List.take_succ_eq_append_getElem hlt, hpe])
   have hfold : Array.foldl (fun cs x => cs.setIfInBounds x.snd x.fst) Un.bdZ (Un.bdA B).zipIdx 0 17 = Un.bdA B := by kernel_rfl
   unfold Un.bdZ at hfold
   have hs17 : (Un.bdA B).size = 17 := rfl
   obtain ⟨i0, hif, hz0, hz1, hz2⟩ := info_parts Un.elB.info
   have hsz := HG.out.bel.size
   clear hpz hB hpe h1
   go_wp2_with (first
    | ((with_reducible refine Kit.wpList_load_sl ?_ 36 (.tmp 77) ?_ (ad := adb) (k := 17) pn ?_ (Un.bdA B).toList HRUN.out ?_); rfl; rfl; rfl)
    | (at_builtin; refine Kst.stay ?_; intro X HX))
   rw [HX.out]; clear HX X
   refine Kit.wpList_append_own' _ rfl _ _ 33 rfl (W5.heap.size + 1) 36 i0 (.agg Un.bdZ) 17 144 Un.elB.under hif hz0 hz1 hz2 rfl omg _ _ _ rfl (HG.out.own.alloc _) ⟨wr.heap.size, 0, none⟩ 1 1 (Un.bdA B).toList rfl rfl (fun j u hu => Kit.lit_at _ (Un.bdA B).toList _ rfl j u hu) (fun u hu => by have := Un.bdA_one B; rw [Array.all_eq_true'] at this; exact this u (by simpa using hu)) (by unfold maxLen; omega) omg (by simp; omega) ?_
   intro v' w5 ho hg _ _
   rw [← HON.out] at ho
   have HO2 := qh ho
   have HG2 := qh hg
   have HM5 := qh (HG.out.mp5 _ hg)
   clear ho hg
   go_wp2_with (refine Kit.wpList_put_imap _ rfl _ _ _ _ (.inl rfl) 3 4 (.bool false) Uy.mb _ _ _ rfl HM5.out ?hn _ rfl _ rfl ?wf ?_; (case hn => (unfold maxLen; omega)); (case wf => exact WalkArith.wf_i64 omg); intro w6 hm hg6; have HN := qh (HG.out.next _ HG2.out HO2.out hg6 (by rw [HOT.out, ← Uy.inZ_put]; exact hm)); clear hm hg6)
   go_roundg (cast.length - (i + 1))
   case measure => omega
   case rel => exact ⟨i + 1, by go_num, by omega, Nat.le_refl _, HN.out⟩
  ·obtain rfl : i = cast.length := by omega
   obtain ⟨a13, k13, e13, hon⟩ := Kit.own_sl (f := Un.bdF (Un.onL bs cast)) HG.out.own (fun i j hi hj => by
    rw [List.take_length]
    exact Un.bdsV_at (Un.onL bs cast) i j (by simpa [Un.onL] using hi) hj)
   obtain ⟨gon, rfl⟩ : ∃ g, a13 = some ⟨g, 0, none⟩ := by
    rcases HG.out.own.2 with ⟨_, hn⟩ | ⟨g, cap, cur, e, _⟩
    ·omega
    ·rw [e13] at e
     injection e with e1 e2 e3
     exact ⟨g, e1⟩
   subst e13
   have hmo := HG.out.mp
   rw [List.take_length] at hmo
   have HMO := qh hmo
   have HON := qh hon
   have HWR := qh (HW5.out.then HG.out.bel)
   have HSA := qh (HSL5.out.kept HG.out.bel nlr)
   clear hon hmo H0 HG
   have hmm := @run_makeMap Tryz.prog
   go_upto_region 21 with fail
   clear hmm
   refine Kit.wp_name ?_
   intro V0 hV0
   have HV0 := qh (show Below wr.heap.size wr V0 by rw [hV0]; exact Kit.gr)
   have HM0 := qh (show Kit.IMap Tryz.prog 3 V0 wr.heap.size 0 (fun _ => none) by rw [hV0]; exact (Kit.IMap.made Tryz.prog 3 wr).alloc _)
   have HLS := qh (show V0.rangeAt (wr.heap.size + 1) 0 [.int .i64 (-1), .int .i64 (-1)] by
    have h := Kit.range_alloc (wr.alloc (.map #[] 0)) #[Value.int .i64 (-1), .int .i64 (-1)] 57
    rw [World.size_alloc] at h
    rw [hV0]; exact h)
   have HTH := qh (show V0.there (wr.heap.size + 1) 0 2 by
    have h := World.alloc_heap_new (wr.alloc (.map #[] 0)) (.cells #[Value.int .i64 (-1), .int .i64 (-1)] 57)
    rw [World.size_alloc] at h
    rw [← hV0] at h
    intro j hj
    constructor
    ·simp only [World.cell?, h]; simp; omega
    ·simp only [World.frozen?, h]; rfl)
   have hz0 : wr.heap.size + 1 < V0.heap.size := by rw [hV0]; simp
   clear hV0
   refine lr_loop2 _ _ _ _ _ _ _ _ _ _ _ _ _ _ rfl _ _ _ _ _ _ _ _ _ _ _ _ _ _ _ _ _ _ _ _ _ _ _ _ _ _ _ _ _ _ _ _ _ _ _ _ _ _ _ _ _ _ _ _ _ _ _ _ _ _ _ _ _ _ _ _ _ _ _ _ _ _ _ _ _ _ _ _ _ _ _ _ _ _ _ _ _ _ _ _ _ _ _ _ _ _ _ _ _ _ _ _ _ _ _ _ _ _ _ _ _ _ _ _ _ _ _ _ _ _ _ _ _ _ _ _ _ _ _ _ _ _ _ _ _ _ _ _ _ _ _ _ _ _ _ _ _ _ _ _ _ _ _ _ _ _ _ _ _ _ _ _ _ _ _ _ _ _ _ _ _ _ _ _ _ _ _ _ _ _ _ _ _ _ _ _ _ _ _ _ _ _ _ _ _ _ _ _ _ _ _ _ _ _ _ _ _ _ _ _ _ _ _ _ _ _ _ _ _ _ _ _ _ _ _ _ _ _ x p w wr HLD.out HFL.out HAT.out HCK.out bs a c HSL.out h16 HBK.out HNS.out cast hc64 rn hrn bar HLN.out HOC.out HWI.out HWR.out gon k13 HON.out l HRD.out W5.heap.size wr.heap.size cast.length 0 HMO.out V0 HV0.out al cl HSA.out (wr.heap.size + 1) nlr omg HM0.out HLS.out HTH.out hz0 (fun e w' => e = .returned (.bool true) ∧ Below w.heap.size w w') ?_ _ (by assumption) _ (by assumption)
   intro W' h
   exact ⟨rfl, h⟩
end Go.Proofs.YtbhgogiaaljclaaGreatDoor
