/- Walks: sane of layer 45. -/
import Derived.Test.YtdaedjmkolcliaaJaD
namespace Go.Proofs.Ytdaedjmkolcliaa
set_option linter.unusedVariables false
set_option linter.unusedSimpArgs false
open Go.RowKit Go.Shelf

set_option maxRecDepth 100000 in
set_option maxHeartbeats 8000000 in
theorem ja_sane (w : World) : Calls Try.prog 10 #[] w fun e w' => e = .returned (.bool true) ∧ Below w.heap.size w w' := by
  go_enter Try.func10, Try.ntmps10
  have HW := Lib.hid (Below.refl w.heap.size w)
  go_wp2_with fail
  refine (ja_edition [1, -5, 2] _ _ _ (Id.lit_ic [1, -5, 2] rfl) (by decide) (by decide)).mono ?_
  rintro _ x1 ⟨⟨a1, ca1, rfl, e1⟩, hb⟩
  have st : Below w.heap.size w x1 := Below.trans ((Below.refl _ _).alloc (by first | exact Nat.le_refl _ | (simp; done) | (simp; omega)) _) (hb.mono (by first | exact Nat.le_refl _ | (simp; done) | (simp; omega)))
  replace HW := Lib.hid (HW.out.trans (st.mono HW.out.size))
  have He1 := Lib.hid e1
  clear hb st e1
  go_wp2_with fail
  refine (sn_ess1 _ _ _ He1.out).mono ?_
  rintro _ x2 ⟨⟨al, cl, rfl, hl⟩, hb⟩
  have st : Below x1.heap.size x1 x2 := Below.trans (Below.refl _ _) (hb.mono (by first | exact Nat.le_refl _ | (simp; done) | (simp; omega)))
  replace HW := Lib.hid (HW.out.trans (st.mono HW.out.size))
  replace He1 := Lib.hid (He1.out.kept st (Nat.le_refl _))
  have Hl := Lib.hid hl
  clear hb st hl
  clear He1
  go_wp2_with fail
  refine (sn_ess2 _).mono ?_
  rintro _ x3 ⟨⟨an, cn, rfl⟩, hb⟩
  have st : Below x2.heap.size x2 x3 := Below.trans (Below.refl _ _) (hb.mono (by first | exact Nat.le_refl _ | (simp; done) | (simp; omega)))
  replace HW := Lib.hid (HW.out.trans (st.mono HW.out.size))
  replace Hl := Lib.hid (Hl.out.kept st (Nat.le_refl _))
  clear hb st
  go_wp2_with fail
  refine (ja_edition [-1] _ _ _ (Id.lit_ic [-1] rfl) (by decide) (by decide)).mono ?_
  rintro _ x4 ⟨⟨a2, ca2, rfl, e2⟩, hb⟩
  have st : Below x3.heap.size x3 x4 := Below.trans ((Below.refl _ _).alloc (by first | exact Nat.le_refl _ | (simp; done) | (simp; omega)) _) (hb.mono (by first | exact Nat.le_refl _ | (simp; done) | (simp; omega)))
  replace HW := Lib.hid (HW.out.trans (st.mono HW.out.size))
  replace Hl := Lib.hid (Hl.out.kept st (Nat.le_refl _))
  have He2 := Lib.hid e2
  clear hb st e2
  go_wp2_with fail
  refine (sn_near1 _ _ _ He2.out).mono ?_
  rintro _ x5 ⟨rfl, hb⟩
  have st : Below x4.heap.size x4 x5 := Below.trans (Below.refl _ _) (hb.mono (by first | exact Nat.le_refl _ | (simp; done) | (simp; omega)))
  replace HW := Lib.hid (HW.out.trans (st.mono HW.out.size))
  replace Hl := Lib.hid (Hl.out.kept st (Nat.le_refl _))
  replace He2 := Lib.hid (He2.out.kept st (Nat.le_refl _))
  clear hb st
  clear He2
  go_wp2_with fail
  refine (ja_edition [1] _ _ _ (Id.lit_ic [1] rfl) (by decide) (by decide)).mono ?_
  rintro _ x6 ⟨⟨a3, ca3, rfl, e3⟩, hb⟩
  have st : Below x5.heap.size x5 x6 := Below.trans ((Below.refl _ _).alloc (by first | exact Nat.le_refl _ | (simp; done) | (simp; omega)) _) (hb.mono (by first | exact Nat.le_refl _ | (simp; done) | (simp; omega)))
  replace HW := Lib.hid (HW.out.trans (st.mono HW.out.size))
  replace Hl := Lib.hid (Hl.out.kept st (Nat.le_refl _))
  have He3 := Lib.hid e3
  clear hb st e3
  go_wp2_with fail
  refine (sn_near2 _ _ _ He3.out).mono ?_
  rintro _ x7 ⟨rfl, hb⟩
  have st : Below x6.heap.size x6 x7 := Below.trans (Below.refl _ _) (hb.mono (by first | exact Nat.le_refl _ | (simp; done) | (simp; omega)))
  replace HW := Lib.hid (HW.out.trans (st.mono HW.out.size))
  replace Hl := Lib.hid (Hl.out.kept st (Nat.le_refl _))
  replace He3 := Lib.hid (He3.out.kept st (Nat.le_refl _))
  clear hb st
  clear He3
  go_wp2_with fail
  refine (ja_edition [1] _ _ _ (Id.lit_ic [1] rfl) (by decide) (by decide)).mono ?_
  rintro _ x8 ⟨⟨a4, ca4, rfl, e4⟩, hb⟩
  have st : Below x7.heap.size x7 x8 := Below.trans ((Below.refl _ _).alloc (by first | exact Nat.le_refl _ | (simp; done) | (simp; omega)) _) (hb.mono (by first | exact Nat.le_refl _ | (simp; done) | (simp; omega)))
  replace HW := Lib.hid (HW.out.trans (st.mono HW.out.size))
  replace Hl := Lib.hid (Hl.out.kept st (Nat.le_refl _))
  have He4 := Lib.hid e4
  clear hb st e4
  go_wp2_with fail
  refine (sn_near3 _ _ _ He4.out).mono ?_
  rintro _ x9 ⟨rfl, hb⟩
  have st : Below x8.heap.size x8 x9 := Below.trans (Below.refl _ _) (hb.mono (by first | exact Nat.le_refl _ | (simp; done) | (simp; omega)))
  replace HW := Lib.hid (HW.out.trans (st.mono HW.out.size))
  replace Hl := Lib.hid (Hl.out.kept st (Nat.le_refl _))
  replace He4 := Lib.hid (He4.out.kept st (Nat.le_refl _))
  clear hb st
  clear He4
  go_wp2_with fail
  refine (sn_near4 _).mono ?_
  rintro _ x10 ⟨rfl, hb⟩
  have st : Below x9.heap.size x9 x10 := Below.trans (Below.refl _ _) (hb.mono (by first | exact Nat.le_refl _ | (simp; done) | (simp; omega)))
  replace HW := Lib.hid (HW.out.trans (st.mono HW.out.size))
  replace Hl := Lib.hid (Hl.out.kept st (Nat.le_refl _))
  clear hb st
  go_wp2_with fail
  refine (ja_edition [1, 2, 3, 4] _ _ _ (Id.lit_ic [1, 2, 3, 4] rfl) (by decide) (by decide)).mono ?_
  rintro _ x11 ⟨⟨b1, cb1, rfl, t1⟩, hb⟩
  have st : Below x10.heap.size x10 x11 := Below.trans ((Below.refl _ _).alloc (by first | exact Nat.le_refl _ | (simp; done) | (simp; omega)) _) (hb.mono (by first | exact Nat.le_refl _ | (simp; done) | (simp; omega)))
  replace HW := Lib.hid (HW.out.trans (st.mono HW.out.size))
  replace Hl := Lib.hid (Hl.out.kept st (Nat.le_refl _))
  have Ht1 := Lib.hid t1
  clear hb st t1
  go_wp2_with fail
  refine (ja_edition [1, 2, 3, 9] _ _ _ (Id.lit_ic [1, 2, 3, 9] rfl) (by decide) (by decide)).mono ?_
  rintro _ x12 ⟨⟨b2, cb2, rfl, t2⟩, hb⟩
  have st : Below x11.heap.size x11 x12 := Below.trans ((Below.refl _ _).alloc (by first | exact Nat.le_refl _ | (simp; done) | (simp; omega)) _) (hb.mono (by first | exact Nat.le_refl _ | (simp; done) | (simp; omega)))
  replace HW := Lib.hid (HW.out.trans (st.mono HW.out.size))
  replace Hl := Lib.hid (Hl.out.kept st (Nat.le_refl _))
  replace Ht1 := Lib.hid (Ht1.out.kept st (Nat.le_refl _))
  have Ht2 := Lib.hid t2
  clear hb st t2
  go_wp2_with fail
  refine (ja_edition [1, 2, 8, 9] _ _ _ (Id.lit_ic [1, 2, 8, 9] rfl) (by decide) (by decide)).mono ?_
  rintro _ x13 ⟨⟨b3, cb3, rfl, t3⟩, hb⟩
  have st : Below x12.heap.size x12 x13 := Below.trans ((Below.refl _ _).alloc (by first | exact Nat.le_refl _ | (simp; done) | (simp; omega)) _) (hb.mono (by first | exact Nat.le_refl _ | (simp; done) | (simp; omega)))
  replace HW := Lib.hid (HW.out.trans (st.mono HW.out.size))
  replace Hl := Lib.hid (Hl.out.kept st (Nat.le_refl _))
  replace Ht1 := Lib.hid (Ht1.out.kept st (Nat.le_refl _))
  replace Ht2 := Lib.hid (Ht2.out.kept st (Nat.le_refl _))
  have Ht3 := Lib.hid t3
  clear hb st t3
  have HT := Lib.hid (Id.three_sls (a := Id.edl 0 [1, 2, 3, 4]) (b := Id.edl 0 [1, 2, 3, 9]) (c := Id.edl 0 [1, 2, 8, 9]) (World.alloc_heap_new x13 (.cells #[.slice b1 4 cb1, .slice b2 4 cb2, .slice b3 4 cb3] 22)) (Ht1.out.kept ((Below.refl _ _).alloc (Nat.le_refl _) _) (Nat.le_refl _)) (Ht2.out.kept ((Below.refl _ _).alloc (Nat.le_refl _) _) (Nat.le_refl _)) (Ht3.out.kept ((Below.refl _ _).alloc (Nat.le_refl _) _) (Nat.le_refl _)))
  clear Ht1 Ht2 Ht3
  go_wp2_with fail
  refine (sn_same1 _ _ _ HT.out).mono ?_
  rintro _ x14 ⟨⟨ac, cc, rfl, hc⟩, hb⟩
  have st : Below x13.heap.size x13 x14 := Below.trans ((Below.refl _ _).alloc (by first | exact Nat.le_refl _ | (simp; done) | (simp; omega)) _) (hb.mono (by first | exact Nat.le_refl _ | (simp; done) | (simp; omega)))
  replace HW := Lib.hid (HW.out.trans (st.mono HW.out.size))
  replace Hl := Lib.hid (Hl.out.kept st (Nat.le_refl _))
  replace HT := Lib.hid (HT.out.kept hb (Nat.le_refl _))
  have Hc := Lib.hid hc
  clear hb st hc
  go_wp2_with fail
  refine (sn_apart1 _ _ _ HT.out).mono ?_
  rintro _ x15 ⟨rfl, hb⟩
  have st : Below x14.heap.size x14 x15 := Below.trans (Below.refl _ _) (hb.mono (by first | exact Nat.le_refl _ | (simp; done) | (simp; omega)))
  replace HW := Lib.hid (HW.out.trans (st.mono HW.out.size))
  replace Hl := Lib.hid (Hl.out.kept st (Nat.le_refl _))
  replace HT := Lib.hid (HT.out.kept st (Nat.le_refl _))
  replace Hc := Lib.hid (Hc.out.kept st (Nat.le_refl _))
  clear hb st
  go_wp2_with fail
  refine (sn_apart2 _ _ _ HT.out).mono ?_
  rintro _ x16 ⟨⟨as_, cs, rfl, hs⟩, hb⟩
  have st : Below x15.heap.size x15 x16 := Below.trans (Below.refl _ _) (hb.mono (by first | exact Nat.le_refl _ | (simp; done) | (simp; omega)))
  replace HW := Lib.hid (HW.out.trans (st.mono HW.out.size))
  replace Hl := Lib.hid (Hl.out.kept st (Nat.le_refl _))
  replace HT := Lib.hid (HT.out.kept st (Nat.le_refl _))
  replace Hc := Lib.hid (Hc.out.kept st (Nat.le_refl _))
  have Hs := Lib.hid hs
  clear hb st hs
  go_wp2_with fail
  refine (sn_same2 _ _ _ HT.out).mono ?_
  rintro _ x17 ⟨rfl, hb⟩
  have st : Below x16.heap.size x16 x17 := Below.trans (Below.refl _ _) (hb.mono (by first | exact Nat.le_refl _ | (simp; done) | (simp; omega)))
  replace HW := Lib.hid (HW.out.trans (st.mono HW.out.size))
  replace Hl := Lib.hid (Hl.out.kept st (Nat.le_refl _))
  replace HT := Lib.hid (HT.out.kept st (Nat.le_refl _))
  replace Hc := Lib.hid (Hc.out.kept st (Nat.le_refl _))
  replace Hs := Lib.hid (Hs.out.kept st (Nat.le_refl _))
  clear hb st
  go_wp2_with fail
  refine (sn_works1 _ _ _ HT.out).mono ?_
  rintro _ x18 ⟨⟨ao, co, rfl, ho⟩, hb⟩
  have st : Below x17.heap.size x17 x18 := Below.trans (Below.refl _ _) (hb.mono (by first | exact Nat.le_refl _ | (simp; done) | (simp; omega)))
  replace HW := Lib.hid (HW.out.trans (st.mono HW.out.size))
  replace Hl := Lib.hid (Hl.out.kept st (Nat.le_refl _))
  replace HT := Lib.hid (HT.out.kept st (Nat.le_refl _))
  replace Hc := Lib.hid (Hc.out.kept st (Nat.le_refl _))
  replace Hs := Lib.hid (Hs.out.kept st (Nat.le_refl _))
  have Ho := Lib.hid ho
  clear hb st ho
  go_wp2_with fail
  refine (sn_works2 _ _ _ HT.out).mono ?_
  rintro _ x19 ⟨⟨ae, ce, rfl, he⟩, hb⟩
  have st : Below x18.heap.size x18 x19 := Below.trans (Below.refl _ _) (hb.mono (by first | exact Nat.le_refl _ | (simp; done) | (simp; omega)))
  replace HW := Lib.hid (HW.out.trans (st.mono HW.out.size))
  replace Hl := Lib.hid (Hl.out.kept st (Nat.le_refl _))
  replace HT := Lib.hid (HT.out.kept st (Nat.le_refl _))
  replace Hc := Lib.hid (Hc.out.kept st (Nat.le_refl _))
  replace Hs := Lib.hid (Hs.out.kept st (Nat.le_refl _))
  replace Ho := Lib.hid (Ho.out.kept st (Nat.le_refl _))
  have He := Lib.hid he
  clear hb st he
  go_wp2_with fail
  refine (sn_same3 _ _ _ HT.out).mono ?_
  rintro _ x20 ⟨⟨aw, cw, rfl, hw⟩, hb⟩
  have st : Below x19.heap.size x19 x20 := Below.trans (Below.refl _ _) (hb.mono (by first | exact Nat.le_refl _ | (simp; done) | (simp; omega)))
  replace HW := Lib.hid (HW.out.trans (st.mono HW.out.size))
  replace Hl := Lib.hid (Hl.out.kept st (Nat.le_refl _))
  replace HT := Lib.hid (HT.out.kept st (Nat.le_refl _))
  replace Hc := Lib.hid (Hc.out.kept st (Nat.le_refl _))
  replace Hs := Lib.hid (Hs.out.kept st (Nat.le_refl _))
  replace Ho := Lib.hid (Ho.out.kept st (Nat.le_refl _))
  replace He := Lib.hid (He.out.kept st (Nat.le_refl _))
  have Hw := Lib.hid hw
  clear hb st hw
  go_wp2_with fail
  refine (sn_same4 _ _ _ (Id.sls_two HT.out)).mono ?_
  rintro _ x21 ⟨rfl, hb⟩
  have st : Below x20.heap.size x20 x21 := Below.trans (Below.refl _ _) (hb.mono (by first | exact Nat.le_refl _ | (simp; done) | (simp; omega)))
  replace HW := Lib.hid (HW.out.trans (st.mono HW.out.size))
  replace Hl := Lib.hid (Hl.out.kept st (Nat.le_refl _))
  replace HT := Lib.hid (HT.out.kept st (Nat.le_refl _))
  replace Hc := Lib.hid (Hc.out.kept st (Nat.le_refl _))
  replace Hs := Lib.hid (Hs.out.kept st (Nat.le_refl _))
  replace Ho := Lib.hid (Ho.out.kept st (Nat.le_refl _))
  replace He := Lib.hid (He.out.kept st (Nat.le_refl _))
  replace Hw := Lib.hid (Hw.out.kept st (Nat.le_refl _))
  clear hb st
  clear HT
  go_wp2_with fail
  refine (ja_sameints [8388736, 8388864] [8388736, 8388864] _ _ _ _ _ ((Hl).out.kept ((Below.refl _ _).alloc (Nat.le_refl _) _) (Nat.le_refl _)) (Id.lit_ic [8388736, 8388864] rfl) (by simp) (by simp)).mono ?_
  rintro _ x22 ⟨rfl, hb⟩
  have st : Below x21.heap.size x21 x22 := Below.trans ((Below.refl _ _).alloc (by first | exact Nat.le_refl _ | (simp; done) | (simp; omega)) _) (hb.mono (by first | exact Nat.le_refl _ | (simp; done) | (simp; omega)))
  replace HW := Lib.hid (HW.out.trans (st.mono HW.out.size))
  replace Hl := Lib.hid (Hl.out.kept st (Nat.le_refl _))
  replace Hc := Lib.hid (Hc.out.kept st (Nat.le_refl _))
  replace Hs := Lib.hid (Hs.out.kept st (Nat.le_refl _))
  replace Ho := Lib.hid (Ho.out.kept st (Nat.le_refl _))
  replace He := Lib.hid (He.out.kept st (Nat.le_refl _))
  replace Hw := Lib.hid (Hw.out.kept st (Nat.le_refl _))
  clear hb st
  clear Hl
  go_wp2_with fail
  refine (ja_sameints [0, 1, 2] [0, 1, 2] _ _ _ _ _ ((Hc).out.kept ((Below.refl _ _).alloc (Nat.le_refl _) _) (Nat.le_refl _)) (Id.lit_ic [0, 1, 2] rfl) (by simp) (by simp)).mono ?_
  rintro _ x23 ⟨rfl, hb⟩
  have st : Below x22.heap.size x22 x23 := Below.trans ((Below.refl _ _).alloc (by first | exact Nat.le_refl _ | (simp; done) | (simp; omega)) _) (hb.mono (by first | exact Nat.le_refl _ | (simp; done) | (simp; omega)))
  replace HW := Lib.hid (HW.out.trans (st.mono HW.out.size))
  replace Hc := Lib.hid (Hc.out.kept st (Nat.le_refl _))
  replace Hs := Lib.hid (Hs.out.kept st (Nat.le_refl _))
  replace Ho := Lib.hid (Ho.out.kept st (Nat.le_refl _))
  replace He := Lib.hid (He.out.kept st (Nat.le_refl _))
  replace Hw := Lib.hid (Hw.out.kept st (Nat.le_refl _))
  clear hb st
  clear Hc
  go_wp2_with fail
  refine (ja_samebools [true, false, false] [true, false, false] _ _ _ _ _ ((Hs).out.kept ((Below.refl _ _).alloc (Nat.le_refl _) _) (Nat.le_refl _)) (Id.lit_bc [true, false, false] rfl) (by simp) (by simp)).mono ?_
  rintro _ x24 ⟨rfl, hb⟩
  have st : Below x23.heap.size x23 x24 := Below.trans ((Below.refl _ _).alloc (by first | exact Nat.le_refl _ | (simp; done) | (simp; omega)) _) (hb.mono (by first | exact Nat.le_refl _ | (simp; done) | (simp; omega)))
  replace HW := Lib.hid (HW.out.trans (st.mono HW.out.size))
  replace Hs := Lib.hid (Hs.out.kept st (Nat.le_refl _))
  replace Ho := Lib.hid (Ho.out.kept st (Nat.le_refl _))
  replace He := Lib.hid (He.out.kept st (Nat.le_refl _))
  replace Hw := Lib.hid (Hw.out.kept st (Nat.le_refl _))
  clear hb st
  clear Hs
  go_wp2_with fail
  refine (ja_sameints [0, 0, 0] [0, 0, 0] _ _ _ _ _ ((Ho).out.kept ((Below.refl _ _).alloc (Nat.le_refl _) _) (Nat.le_refl _)) (Id.lit_ic [0, 0, 0] rfl) (by simp) (by simp)).mono ?_
  rintro _ x25 ⟨rfl, hb⟩
  have st : Below x24.heap.size x24 x25 := Below.trans ((Below.refl _ _).alloc (by first | exact Nat.le_refl _ | (simp; done) | (simp; omega)) _) (hb.mono (by first | exact Nat.le_refl _ | (simp; done) | (simp; omega)))
  replace HW := Lib.hid (HW.out.trans (st.mono HW.out.size))
  replace Ho := Lib.hid (Ho.out.kept st (Nat.le_refl _))
  replace He := Lib.hid (He.out.kept st (Nat.le_refl _))
  replace Hw := Lib.hid (Hw.out.kept st (Nat.le_refl _))
  clear hb st
  clear Ho
  go_wp2_with fail
  refine (ja_sameints [0, 1, 2] [0, 1, 2] _ _ _ _ _ ((He).out.kept ((Below.refl _ _).alloc (Nat.le_refl _) _) (Nat.le_refl _)) (Id.lit_ic [0, 1, 2] rfl) (by simp) (by simp)).mono ?_
  rintro _ x26 ⟨rfl, hb⟩
  have st : Below x25.heap.size x25 x26 := Below.trans ((Below.refl _ _).alloc (by first | exact Nat.le_refl _ | (simp; done) | (simp; omega)) _) (hb.mono (by first | exact Nat.le_refl _ | (simp; done) | (simp; omega)))
  replace HW := Lib.hid (HW.out.trans (st.mono HW.out.size))
  replace He := Lib.hid (He.out.kept st (Nat.le_refl _))
  replace Hw := Lib.hid (Hw.out.kept st (Nat.le_refl _))
  clear hb st
  clear He
  go_wp2_with fail
  refine (ja_sameints [1] [1] _ _ _ _ _ ((Hw).out.kept ((Below.refl _ _).alloc (Nat.le_refl _) _) (Nat.le_refl _)) (Id.lit_ic [1] rfl) (by simp) (by simp)).mono ?_
  rintro _ x27 ⟨rfl, hb⟩
  have st : Below x26.heap.size x26 x27 := Below.trans ((Below.refl _ _).alloc (by first | exact Nat.le_refl _ | (simp; done) | (simp; omega)) _) (hb.mono (by first | exact Nat.le_refl _ | (simp; done) | (simp; omega)))
  replace HW := Lib.hid (HW.out.trans (st.mono HW.out.size))
  replace Hw := Lib.hid (Hw.out.kept st (Nat.le_refl _))
  clear hb st
  clear Hw
  go_wp2
  go_ret
  exact ⟨rfl, HW.out⟩
end Go.Proofs.Ytdaedjmkolcliaa
