/- Walks: the laws of layer 20: TypesMoment. -/
import Derived.Test.YtggfeblfhabmkaaDoorTyV
import Derived.Test.YtggfeblfhabmkaaDoorTyX
import Derived.Deep.CutRange
import Derived.Test.YtggfeblfhabmkaaDoorKitu
import Derived.Test.YtggfeblfhabmkaaDoorKitt
import Derived.Test.YtggfeblfhabmkaaDoorKitv
import Derived.Test.YtggfeblfhabmkaaDoorTzB
import Derived.Maps.OwnIn
import Derived.Deep.RegionHeldLaw
namespace Go.Proofs.YtggfeblfhabmkaaDoor
set_option linter.unusedVariables false
set_option linter.unusedSimpArgs false
open Go.RowKit Go.Shelf

abbrev Ty.sgL (a : Ex.Sg) : List Value := [.int .i64 a.id, .int .i64 a.role, .int .i64 a.bar, .int .i64 a.mark, .int .i64 a.kind, .int .i64 a.side, .int .i64 a.dir, .int .i64 a.level, .int .i64 a.size, .int .i64 a.wth, .int .i64 a.fn, .int .i64 a.fd, .int .i64 a.tn, .int .i64 a.td]
def Ty.NewU (N b : Nat) (w : World) : Prop := N ≤ b ∧ w.heap[b]? = some (.cells #[.bool false, .bool false, .bool false, .bool false, .bool false, .bool false] 51 (0, 0))
def Ty.pcom (P Q : List Bool) (k : Nat) : Bool := ((P.zip Q).take k).any fun x => x.1 && x.2
theorem Ty.pcom_succ (P Q : List Bool) (k : Nat) (p q : Bool) (hp : P[k]? = some p) (hq : Q[k]? = some q) : Ty.pcom P Q (k + 1) = (Ty.pcom P Q k || (p && q)) := by
  unfold Ty.pcom
  have h : (P.zip Q)[k]? = some (p, q) := List.getElem?_zip_eq_some.2 ⟨hp, hq⟩
  rw [List.take_add_one, h, List.any_append]
  simp
theorem Ty.eq_pair (a b c d : Int) (w : World) : (Op.equalIn 10000 53 (.agg #[.int .i64 a, .int .i64 b]) (.agg #[.int .i64 c, .int .i64 d])).run Tryd.prog w = .ok (a == c && b == d) w := by
  obtain ⟨i, hi, hz, hs, hb⟩ := info_parts (show (Tryd.prog.info? 3).map (fun i => (i.zero, i.size, i.bytes)) = some (some (.int .i64 0), 1, 8) by kernel_rfl)
  have hcs : Tryd.prog.cellsOf 3 = 1 := by kernel_rfl
  have hu : Tryd.prog.underlying 3 = some (.int .i64) := by kernel_rfl
  rw [show (10000 : Nat) = 9999 + 1 from rfl, run_equalIn_array w 9999 _ _ (show Tryd.prog.underlying 53 = some (.array 2 3) by kernel_rfl) hi]
  by_cases h1 : a = c <;> by_cases h2 : b = d <;> simp [Op.eqItems, hcs, go_sem, List.range, List.range.loop, h1, h2]
theorem Ty.kinds {l : List Ex.Sg} (h : Ty.Inc l) (x : Ty.F3) (hx : x ∈ Ty.refL l) : 1 ≤ x.1 ∧ x.1 ≤ 4 := by
  rcases (Ty.mem_ref h x).1 hx with ⟨c, _, _, rfl⟩ | ⟨k, c, d, hk, _, _, _, _, rfl⟩
  · dsimp only; omega
  · dsimp only; omega
theorem Ty.wf_small {x : Int} (h : 1 ≤ x ∧ x ≤ 4) : Kit.wfI x := by
  have : x = 1 ∨ x = 2 ∨ x = 3 ∨ x = 4 := by omega
  rcases this with rfl | rfl | rfl | rfl <;> decide
/-- What has been found of two signs. -/
def Ty.gotK (l : List Ty.F3) (a b k : Int) : Bool := l.any fun x => x.2.1 == a && x.2.2 == b && x.1 == k
theorem Ty.gotK_snoc (l : List Ty.F3) (x : Ty.F3) (a b k : Int) : Ty.gotK (l ++ [x]) a b k = (Ty.gotK l a b k || (x.2.1 == a && x.2.2 == b && x.1 == k)) := by simp [Ty.gotK]
theorem Ty.Cs.of_block {w : World} {b : Nat} {l : List Value} {t : TypeId} {f : Nat × Nat} (h : w.heap[b]? = some (.cells l.toArray t f)) : Ty.Cs w b l := by
  refine ⟨(Array.getElem?_eq_some_iff.1 h).1, fun j v hv => ?_⟩
  simp only [World.cell?, h]
  simpa using hv
set_option maxRecDepth 100000 in
set_option maxHeartbeats 2000000 in
theorem lw_moment_1 (x : Ex.Wk) (p : Ex.Wa) (k m : Nat) (w : World) (hk : k < 65536) (hm : m < 65536) (ha : Ex.At w x p) (hl : Ex.Laid w) :
    Calls Tryd.prog 4 #[Ex.workV x p, .int .u16 k, .int .u16 m] w fun e w' => e = .returned (.bool true) ∧ Below w.heap.size w w' := by
  have hs : ∀ W, Below w.heap.size w W → Calls Tryd.prog 8 #[] W fun e w' => e = .returned (.bool true) ∧ Below W.heap.size W w' := fun W hb => lw_sane W (hl.kept hb (Nat.le_refl _))
  have hf : ∀ W, Below w.heap.size w W → Calls Tryd.prog 14 #[Ex.workV x p] W fun e w' => ∃ a c, e = .returned (.tuple #[.slice a (Ty.lst x).length c, .int .i64 (Ex.chk x)]) ∧ Tp.Sl w' a (Ty.lst x).length 3 (Ty.f3c (Ty.lst x)) ∧ Below W.heap.size W w' := fun W hb => by
    refine (ty_faults x p W (ha.kept hb (Nat.le_refl _)) (hl.kept hb (Nat.le_refl _))).mono ?_
    rintro e w' ⟨v, rfl, ho, hb⟩
    obtain ⟨a, c, rfl, hs⟩ := Ty.own_fl ho
    exact ⟨a, c, rfl, hs, hb⟩
  have hw : ∀ W, Calls Tryd.prog 9 #[Ex.workV x p] W fun e w' => Ty.IsB e ∧ Below W.heap.size W w' := fun W => lw_few x p W
  have hc : ∀ W, Below w.heap.size w W → Ex.Chk x p W (Ex.chk x) := fun W hb => ex_check x p W (ha.kept hb (Nat.le_refl _)) (hl.kept hb (Nat.le_refl _))
  have HSG := Lib.hid ha.sg
  have hpl : Ex.chk x = 0 → Ty.lst x = Ty.refL x.sg ∧ (Ty.lst x).length ≤ 100000000 ∧ Ty.Inc x.sg ∧ ∀ s ∈ x.sg, Ty.Rt s x.ro.length x.n := fun h => by
    obtain ⟨_, h2, _, h4, h5⟩ := Ty.of_chk h
    have e : Ty.lst x = Ty.refL x.sg := by rw [Ty.lst, if_pos h]
    exact ⟨e, by rw [e]; exact Ty.refL_len _ h2, h4, h5⟩
  have HPL := Lib.hid hpl
  have HS := Lib.hid hs
  have HF := Lib.hid hf
  have HW := Lib.hid hw
  have HC := Lib.hid hc
  have lsg := ha.lsg
  have lro := ha.lro
  clear hs hf hw hc ha hl hpl
  generalize Ty.lst x = l at *
  unfold Ex.Chk at HC
  generalize Ex.chk x = r at *
  obtain ⟨wd, dp, ta, tb, tc, n, ro, ts, ps, ss, sg⟩ := x
  obtain ⟨aR, cR, aT, cT, aP, cP, aS, cS, aG, cG⟩ := p
  dsimp only at HPL HSG lsg lro
  go_enter Tryd.func4, Tryd.ntmps4
  skip
  (go_wp2_with (fail); refine (HS.out _ (by (repeat' first | (with_reducible first | exact Below.refl _ _ | assumption | refine Kit.below_drewN ?_ _ | refine Below.drew ?_ | refine Below.alloc ?_ ?_ _ | refine Below.setCell ?_ ?_ _ | exact Nat.le_refl _) | omega | (simp; omega) | (simp; done) | (apply Below.size; assumption)))).mono ?_; rintro e w1_ ⟨rfl, hb1_⟩; have hp1_ : Below w.heap.size w w1_ := Below.trans (by (repeat' first | (with_reducible first | exact Below.refl _ _ | assumption | refine Kit.below_drewN ?_ _ | refine Below.drew ?_ | refine Below.alloc ?_ ?_ _ | refine Below.setCell ?_ ?_ _ | exact Nat.le_refl _) | omega | (simp; omega) | (simp; done) | (apply Below.size; assumption))) (hb1_.mono (by first | assumption | (simp; done) | (simp; omega) | omega)); have hw1_ : Below w.heap.size w w1_ := hp1_; obtain ⟨hc1_, hf1_⟩ := Kit.bcell hb1_; have z1_w : w.heap.size < w1_.heap.size := (by have := hb1_.size; first | omega | (simp at this; omega)); obtain ⟨g1_w_0, g1_w_1, g1_w_2, g1_w_3, g1_w_4, g1_w_5, g1_w_6, g1_w_7, g1_w_8, g1_w_9, g1_w_10⟩ : w1_.cell? ⟨w.heap.size, 0, none⟩ = some (.int .i64 wd) ∧ w1_.cell? ⟨w.heap.size, 1, none⟩ = some (.int .i64 dp) ∧ w1_.cell? ⟨w.heap.size, 2, none⟩ = some (.int .i64 ta) ∧ w1_.cell? ⟨w.heap.size, 3, none⟩ = some (.int .i64 tb) ∧ w1_.cell? ⟨w.heap.size, 4, none⟩ = some (.int .i64 tc) ∧ w1_.cell? ⟨w.heap.size, 5, none⟩ = some (.slice aR ro.length cR) ∧ w1_.cell? ⟨w.heap.size, 6, none⟩ = some (.int .i64 n) ∧ w1_.cell? ⟨w.heap.size, 7, none⟩ = some (.slice aT ts.length cT) ∧ w1_.cell? ⟨w.heap.size, 8, none⟩ = some (.slice aP ps.length cP) ∧ w1_.cell? ⟨w.heap.size, 9, none⟩ = some (.slice aS ss.length cS) ∧ w1_.cell? ⟨w.heap.size, 10, none⟩ = some (.slice aG sg.length cG) := (by refine ⟨?_, ?_, ?_, ?_, ?_, ?_, ?_, ?_, ?_, ?_, ?_⟩ <;> (rw [hc1_ _ _ (by first | assumption | (simp; done) | (simp; omega) | omega)]; first | assumption | (simp [go_sem]; done) | (simp [go_sem, *]; done))); clear hc1_ hf1_; clear hb1_ hp1_)
  (go_wp2_with (fail); refine (HF.out _ (by (repeat' first | (with_reducible first | exact Below.refl _ _ | assumption | refine Kit.below_drewN ?_ _ | refine Below.drew ?_ | refine Below.alloc ?_ ?_ _ | refine Below.setCell ?_ ?_ _ | exact Nat.le_refl _) | omega | (simp; omega) | (simp; done) | (apply Below.size; assumption)))).mono ?_; rintro e w2_ ⟨aF, cF, rfl, hsF, hb2_⟩; have hp2_ : Below w1_.heap.size w1_ w2_ := Below.trans (by (repeat' first | (with_reducible first | exact Below.refl _ _ | assumption | refine Kit.below_drewN ?_ _ | refine Below.drew ?_ | refine Below.alloc ?_ ?_ _ | refine Below.setCell ?_ ?_ _ | exact Nat.le_refl _) | omega | (simp; omega) | (simp; done) | (apply Below.size; assumption))) (hb2_.mono (by first | assumption | (simp; done) | (simp; omega) | omega)); have hw2_ : Below w.heap.size w w2_ := hw1_.trans (hp2_.mono hw1_.size); have z2_w : w.heap.size < w2_.heap.size := Nat.lt_of_lt_of_le z1_w hp2_.size; have g2_w_0 := Kit.ck hp2_ g1_w_0 z1_w; have g2_w_1 := Kit.ck hp2_ g1_w_1 z1_w; have g2_w_2 := Kit.ck hp2_ g1_w_2 z1_w; have g2_w_3 := Kit.ck hp2_ g1_w_3 z1_w; have g2_w_4 := Kit.ck hp2_ g1_w_4 z1_w; have g2_w_5 := Kit.ck hp2_ g1_w_5 z1_w; have g2_w_6 := Kit.ck hp2_ g1_w_6 z1_w; have g2_w_7 := Kit.ck hp2_ g1_w_7 z1_w; have g2_w_8 := Kit.ck hp2_ g1_w_8 z1_w; have g2_w_9 := Kit.ck hp2_ g1_w_9 z1_w; have g2_w_10 := Kit.ck hp2_ g1_w_10 z1_w; clear z1_w g1_w_0 g1_w_1 g1_w_2 g1_w_3 g1_w_4 g1_w_5 g1_w_6 g1_w_7 g1_w_8 g1_w_9 g1_w_10 hw1_ hb2_ hp2_)
  have SF := Lib.hid hsF
  clear hsF
  (go_wp2_with (fail); refine (HW.out _).mono ?_; rintro e w3_ ⟨⟨b, rfl⟩, hb3_⟩; have hp3_ : Below w2_.heap.size w2_ w3_ := Below.trans (by (repeat' first | (with_reducible first | exact Below.refl _ _ | assumption | refine Kit.below_drewN ?_ _ | refine Below.drew ?_ | refine Below.alloc ?_ ?_ _ | refine Below.setCell ?_ ?_ _ | exact Nat.le_refl _) | omega | (simp; omega) | (simp; done) | (apply Below.size; assumption))) (hb3_.mono (by first | assumption | (simp; done) | (simp; omega) | omega)); have hw3_ : Below w.heap.size w w3_ := hw2_.trans (hp3_.mono hw2_.size); have z3_w : w.heap.size < w3_.heap.size := Nat.lt_of_lt_of_le z2_w hp3_.size; have g3_w_0 := Kit.ck hp3_ g2_w_0 z2_w; have g3_w_1 := Kit.ck hp3_ g2_w_1 z2_w; have g3_w_2 := Kit.ck hp3_ g2_w_2 z2_w; have g3_w_3 := Kit.ck hp3_ g2_w_3 z2_w; have g3_w_4 := Kit.ck hp3_ g2_w_4 z2_w; have g3_w_5 := Kit.ck hp3_ g2_w_5 z2_w; have g3_w_6 := Kit.ck hp3_ g2_w_6 z2_w; have g3_w_7 := Kit.ck hp3_ g2_w_7 z2_w; have g3_w_8 := Kit.ck hp3_ g2_w_8 z2_w; have g3_w_9 := Kit.ck hp3_ g2_w_9 z2_w; have g3_w_10 := Kit.ck hp3_ g2_w_10 z2_w; have SF3 := Lib.hid (SF.out.kept hp3_ (Nat.le_refl _)); clear z2_w g2_w_0 g2_w_1 g2_w_2 g2_w_3 g2_w_4 g2_w_5 g2_w_6 g2_w_7 g2_w_8 g2_w_9 g2_w_10 hw2_ hb3_ hp3_)
  rcases b with _ | _
  · go_wp2
    go_ret
    exact ⟨rfl, by (repeat' first | (with_reducible first | exact Below.refl _ _ | assumption | refine Kit.below_drewN ?_ _ | refine Below.drew ?_ | refine Below.alloc ?_ ?_ _ | refine Below.setCell ?_ ?_ _ | exact Nat.le_refl _) | omega | (simp; omega) | (simp; done) | (apply Below.size; assumption))⟩
  rcases e0 : decide ((sg.length : Int) < 2) with _ | _
  · rcases er : (r != 0) with _ | _
    · obtain rfl : r = 0 := by simpa using er
      obtain ⟨hl0, hll, hinc, hrt⟩ := HPL.out rfl
      have HL0 := Lib.hid hl0
      clear hl0
      (go_wp2_with (fail); refine (HC.out _ (by (repeat' first | (with_reducible first | exact Below.refl _ _ | assumption | refine Kit.below_drewN ?_ _ | refine Below.drew ?_ | refine Below.alloc ?_ ?_ _ | refine Below.setCell ?_ ?_ _ | exact Nat.le_refl _) | omega | (simp; omega) | (simp; done) | (apply Below.size; assumption)))).mono ?_; rintro e w4_ ⟨rfl, hb4_⟩; have hp4_ : Below w3_.heap.size w3_ w4_ := Below.trans (by (repeat' first | (with_reducible first | exact Below.refl _ _ | assumption | refine Kit.below_drewN ?_ _ | refine Below.drew ?_ | refine Below.alloc ?_ ?_ _ | refine Below.setCell ?_ ?_ _ | exact Nat.le_refl _) | omega | (simp; omega) | (simp; done) | (apply Below.size; assumption))) (hb4_.mono (by first | assumption | (simp; done) | (simp; omega) | omega)); have hw4_ : Below w.heap.size w w4_ := hw3_.trans (hp4_.mono hw3_.size); have z4_w : w.heap.size < w4_.heap.size := Nat.lt_of_lt_of_le z3_w hp4_.size; have g4_w_0 := Kit.ck hp4_ g3_w_0 z3_w; have g4_w_1 := Kit.ck hp4_ g3_w_1 z3_w; have g4_w_2 := Kit.ck hp4_ g3_w_2 z3_w; have g4_w_3 := Kit.ck hp4_ g3_w_3 z3_w; have g4_w_4 := Kit.ck hp4_ g3_w_4 z3_w; have g4_w_5 := Kit.ck hp4_ g3_w_5 z3_w; have g4_w_6 := Kit.ck hp4_ g3_w_6 z3_w; have g4_w_7 := Kit.ck hp4_ g3_w_7 z3_w; have g4_w_8 := Kit.ck hp4_ g3_w_8 z3_w; have g4_w_9 := Kit.ck hp4_ g3_w_9 z3_w; have g4_w_10 := Kit.ck hp4_ g3_w_10 z3_w; have SF4 := Lib.hid (SF3.out.kept hp4_ (Nat.le_refl _)); clear z3_w g3_w_0 g3_w_1 g3_w_2 g3_w_3 g3_w_4 g3_w_5 g3_w_6 g3_w_7 g3_w_8 g3_w_9 g3_w_10 hw3_ hb4_ hp4_)
      go_upto_region 6 with fail
      have h2 : 2 ≤ sg.length := by
        have : ¬ (sg.length : Int) < 2 := by simpa using e0
        omega
      have hnil : ¬ sg = [] := by rintro rfl; simp at h2
      obtain ⟨i, hi⟩ : ∃ i, i = k % sg.length := ⟨_, rfl⟩
      obtain ⟨j, hj⟩ : ∃ j, j = m % sg.length := ⟨_, rfl⟩
      have li : i < sg.length := by rw [hi]; exact Nat.mod_lt _ (by omega)
      have lj : j < sg.length := by rw [hj]; exact Nat.mod_lt _ (by omega)
      have hmi : (k : Int).tmod (sg.length : Int) = (i : Int) := by rw [Int.tmod_eq_emod_of_nonneg (Int.natCast_nonneg k), hi, Int.natCast_emod]
      have hmj : (m : Int).tmod (sg.length : Int) = (j : Int) := by rw [Int.tmod_eq_emod_of_nonneg (Int.natCast_nonneg m), hj, Int.natCast_emod]
      have wk := Ty.wrapN hk
      have wm := Ty.wrapN hm
      have zc : ∀ z : Kit.Wd w4_, z.val.cell? ⟨w.heap.size, 10, none⟩ = some (.slice aG sg.length cG) := fun z => z.cell g4_w_10 z4_w
      have hne0 : ¬ (sg.length : Int) = 0 := by omega
      refine Kit.wp_region_cls (by kernel_rfl) (by kernel_rfl) ?_
      (repeat (go_big_quiet_step (fail)))
      refine wpQuiet_nil ?_
      intro z
      have hki : (k : Int) % (sg.length : Int) = (i : Int) := by rw [hi, Int.natCast_emod]
      have hkj : (m : Int) % (sg.length : Int) = (j : Int) := by rw [hj, Int.natCast_emod]
      rw [hki, hkj]
      clear hki hkj
      obtain ⟨W, hWz⟩ : ∃ W, W = z.val := ⟨_, rfl⟩
      rw [← hWz]
      have bz := z.below
      rw [← hWz] at bz
      have HBW := Lib.hid (hw4_.trans (bz.mono hw4_.size))
      have SFW := Lib.hid (SF4.out.kept bz (Nat.le_refl _))
      have G10 := Lib.hid ((bz.cell (p := ⟨w.heap.size, 10, none⟩) z4_w).trans g4_w_10)
      have zwW : w.heap.size < W.heap.size := Nat.lt_of_lt_of_le z4_w bz.size
      clear hWz bz zc SF SF3 SF4 g4_w_0 g4_w_1 g4_w_2 g4_w_3 g4_w_4 g4_w_5 g4_w_6 g4_w_7 g4_w_8 g4_w_9 g4_w_10 z4_w hw4_ HC HF HW HS HPL
      have HLI := Lib.hid (And.intro li lj)
      rcases d0 : ((i : Int) == (j : Int)) with _ | _
      · have hij : i ≠ j := fun e => by rw [e] at d0; simp at d0
        clear hmi hmj hi hj wk wm
        go_upto_if 69 with fail
        go_cut [9, 10] from 70 to 71 (fun s9 s10 wx => ∃ pp qq : Nat, s9 = .int .i64 pp ∧ s10 = .int .i64 qq ∧ pp < qq ∧ qq < sg.length ∧ wx = W)
        case first =>
          by_cases d1 : j < i
          · go_wp2_with fail
            go_meet
            case rel => exact ⟨j, i, rfl, rfl, d1, HLI.out.1, rfl⟩
          · go_wp2_with fail
            go_meet
            case rel => exact ⟨i, j, rfl, rfl, by omega, HLI.out.2, rfl⟩
        case rest =>
          obtain ⟨pp, qq, rfl, rfl, hpq, lq, rfl⟩ := hcut
          have lp : pp < sg.length := by omega
          have hS := HSG.out.kept HBW.out (Nat.le_refl _)
          obtain ⟨ay, rfl, hay, _⟩ := HSG.out.at lp
          have e0 := hS.head lp (by omega)
          have e1 := hS.field lp (j := 1) (by omega) (by omega)
          have e2 := hS.field lp (j := 2) (by omega) (by omega)
          have e3 := hS.field lp (j := 3) (by omega) (by omega)
          have e4 := hS.field lp (j := 4) (by omega) (by omega)
          have e5 := hS.field lp (j := 5) (by omega) (by omega)
          have e6 := hS.field lp (j := 6) (by omega) (by omega)
          have e7 := hS.field lp (j := 7) (by omega) (by omega)
          have e8 := hS.field lp (j := 8) (by omega) (by omega)
          have e9 := hS.field lp (j := 9) (by omega) (by omega)
          have e10 := hS.field lp (j := 10) (by omega) (by omega)
          have e11 := hS.field lp (j := 11) (by omega) (by omega)
          have e12 := hS.field lp (j := 12) (by omega) (by omega)
          have e13 := hS.field lp (j := 13) (by omega) (by omega)
          have g0 := hS.head lq (by omega)
          have g1 := hS.field lq (j := 1) (by omega) (by omega)
          have g2 := hS.field lq (j := 2) (by omega) (by omega)
          have g3 := hS.field lq (j := 3) (by omega) (by omega)
          have g4 := hS.field lq (j := 4) (by omega) (by omega)
          have g5 := hS.field lq (j := 5) (by omega) (by omega)
          have g6 := hS.field lq (j := 6) (by omega) (by omega)
          have g7 := hS.field lq (j := 7) (by omega) (by omega)
          have g8 := hS.field lq (j := 8) (by omega) (by omega)
          have g9 := hS.field lq (j := 9) (by omega) (by omega)
          have g10 := hS.field lq (j := 10) (by omega) (by omega)
          have g11 := hS.field lq (j := 11) (by omega) (by omega)
          have g12 := hS.field lq (j := 12) (by omega) (by omega)
          have g13 := hS.field lq (j := 13) (by omega) (by omega)
          obtain ⟨a, hxa⟩ : ∃ a, sg.getD pp default = a := ⟨_, rfl⟩
          obtain ⟨b, hxb⟩ : ∃ b, sg.getD qq default = b := ⟨_, rfl⟩
          have ia : sg[pp]? = some a := by rw [← hxa]; simp [List.getD, lp]
          have ib : sg[qq]? = some b := by rw [← hxb]; simp [List.getD, lq]
          have HBF := Lib.hid (Ty.bf_of sg pp qq a b hpq ia ib)
          simp only [Ex.sgc, hxa] at e0 e1 e2 e3 e4 e5 e6 e7 e8 e9 e10 e11 e12 e13
          simp only [Ex.sgc, hxb] at g0 g1 g2 g3 g4 g5 g6 g7 g8 g9 g10 g11 g12 g13
          have hayW : ay.block < wc.heap.size := Nat.lt_of_lt_of_le hay HBW.out.size
          have hbka : (ay.add (pp * 14)).block < wc.heap.size := by rw [Tp.add_block]; exact hayW
          have hbkb : (ay.add (qq * 14)).block < wc.heap.size := by rw [Tp.add_block]; exact hayW
          obtain ⟨W, hW⟩ : ∃ W, W = wc := ⟨_, rfl⟩
          subst hW
          have SOA := Lib.hid (show ∀ w', Below W.heap.size W w' → w'.cell? (ay.add (pp * 14)) = some (.int .i64 a.id) ∧ w'.cell? ⟨(ay.add (pp * 14)).block, (ay.add (pp * 14)).off + 1, none⟩ = some (.int .i64 a.role) ∧ w'.cell? ⟨(ay.add (pp * 14)).block, (ay.add (pp * 14)).off + 2, none⟩ = some (.int .i64 a.bar) ∧ w'.cell? ⟨(ay.add (pp * 14)).block, (ay.add (pp * 14)).off + 3, none⟩ = some (.int .i64 a.mark) ∧ w'.cell? ⟨(ay.add (pp * 14)).block, (ay.add (pp * 14)).off + 4, none⟩ = some (.int .i64 a.kind) ∧ w'.cell? ⟨(ay.add (pp * 14)).block, (ay.add (pp * 14)).off + 5, none⟩ = some (.int .i64 a.side) ∧ w'.cell? ⟨(ay.add (pp * 14)).block, (ay.add (pp * 14)).off + 6, none⟩ = some (.int .i64 a.dir) ∧ w'.cell? ⟨(ay.add (pp * 14)).block, (ay.add (pp * 14)).off + 7, none⟩ = some (.int .i64 a.level) ∧ w'.cell? ⟨(ay.add (pp * 14)).block, (ay.add (pp * 14)).off + 8, none⟩ = some (.int .i64 a.size) ∧ w'.cell? ⟨(ay.add (pp * 14)).block, (ay.add (pp * 14)).off + 9, none⟩ = some (.int .i64 a.wth) ∧ w'.cell? ⟨(ay.add (pp * 14)).block, (ay.add (pp * 14)).off + 10, none⟩ = some (.int .i64 a.fn) ∧ w'.cell? ⟨(ay.add (pp * 14)).block, (ay.add (pp * 14)).off + 11, none⟩ = some (.int .i64 a.fd) ∧ w'.cell? ⟨(ay.add (pp * 14)).block, (ay.add (pp * 14)).off + 12, none⟩ = some (.int .i64 a.tn) ∧ w'.cell? ⟨(ay.add (pp * 14)).block, (ay.add (pp * 14)).off + 13, none⟩ = some (.int .i64 a.td) from fun w' hb => ⟨(hb.cell hbka).trans e0, (hb.cell (p := ⟨(ay.add (pp * 14)).block, _, none⟩) hbka).trans e1, (hb.cell (p := ⟨(ay.add (pp * 14)).block, _, none⟩) hbka).trans e2, (hb.cell (p := ⟨(ay.add (pp * 14)).block, _, none⟩) hbka).trans e3, (hb.cell (p := ⟨(ay.add (pp * 14)).block, _, none⟩) hbka).trans e4, (hb.cell (p := ⟨(ay.add (pp * 14)).block, _, none⟩) hbka).trans e5, (hb.cell (p := ⟨(ay.add (pp * 14)).block, _, none⟩) hbka).trans e6, (hb.cell (p := ⟨(ay.add (pp * 14)).block, _, none⟩) hbka).trans e7, (hb.cell (p := ⟨(ay.add (pp * 14)).block, _, none⟩) hbka).trans e8, (hb.cell (p := ⟨(ay.add (pp * 14)).block, _, none⟩) hbka).trans e9, (hb.cell (p := ⟨(ay.add (pp * 14)).block, _, none⟩) hbka).trans e10, (hb.cell (p := ⟨(ay.add (pp * 14)).block, _, none⟩) hbka).trans e11, (hb.cell (p := ⟨(ay.add (pp * 14)).block, _, none⟩) hbka).trans e12, (hb.cell (p := ⟨(ay.add (pp * 14)).block, _, none⟩) hbka).trans e13⟩)
          have SOB := Lib.hid (show ∀ w', Below W.heap.size W w' → w'.cell? (ay.add (qq * 14)) = some (.int .i64 b.id) ∧ w'.cell? ⟨(ay.add (qq * 14)).block, (ay.add (qq * 14)).off + 1, none⟩ = some (.int .i64 b.role) ∧ w'.cell? ⟨(ay.add (qq * 14)).block, (ay.add (qq * 14)).off + 2, none⟩ = some (.int .i64 b.bar) ∧ w'.cell? ⟨(ay.add (qq * 14)).block, (ay.add (qq * 14)).off + 3, none⟩ = some (.int .i64 b.mark) ∧ w'.cell? ⟨(ay.add (qq * 14)).block, (ay.add (qq * 14)).off + 4, none⟩ = some (.int .i64 b.kind) ∧ w'.cell? ⟨(ay.add (qq * 14)).block, (ay.add (qq * 14)).off + 5, none⟩ = some (.int .i64 b.side) ∧ w'.cell? ⟨(ay.add (qq * 14)).block, (ay.add (qq * 14)).off + 6, none⟩ = some (.int .i64 b.dir) ∧ w'.cell? ⟨(ay.add (qq * 14)).block, (ay.add (qq * 14)).off + 7, none⟩ = some (.int .i64 b.level) ∧ w'.cell? ⟨(ay.add (qq * 14)).block, (ay.add (qq * 14)).off + 8, none⟩ = some (.int .i64 b.size) ∧ w'.cell? ⟨(ay.add (qq * 14)).block, (ay.add (qq * 14)).off + 9, none⟩ = some (.int .i64 b.wth) ∧ w'.cell? ⟨(ay.add (qq * 14)).block, (ay.add (qq * 14)).off + 10, none⟩ = some (.int .i64 b.fn) ∧ w'.cell? ⟨(ay.add (qq * 14)).block, (ay.add (qq * 14)).off + 11, none⟩ = some (.int .i64 b.fd) ∧ w'.cell? ⟨(ay.add (qq * 14)).block, (ay.add (qq * 14)).off + 12, none⟩ = some (.int .i64 b.tn) ∧ w'.cell? ⟨(ay.add (qq * 14)).block, (ay.add (qq * 14)).off + 13, none⟩ = some (.int .i64 b.td) from fun w' hb => ⟨(hb.cell hbkb).trans g0, (hb.cell (p := ⟨(ay.add (qq * 14)).block, _, none⟩) hbkb).trans g1, (hb.cell (p := ⟨(ay.add (qq * 14)).block, _, none⟩) hbkb).trans g2, (hb.cell (p := ⟨(ay.add (qq * 14)).block, _, none⟩) hbkb).trans g3, (hb.cell (p := ⟨(ay.add (qq * 14)).block, _, none⟩) hbkb).trans g4, (hb.cell (p := ⟨(ay.add (qq * 14)).block, _, none⟩) hbkb).trans g5, (hb.cell (p := ⟨(ay.add (qq * 14)).block, _, none⟩) hbkb).trans g6, (hb.cell (p := ⟨(ay.add (qq * 14)).block, _, none⟩) hbkb).trans g7, (hb.cell (p := ⟨(ay.add (qq * 14)).block, _, none⟩) hbkb).trans g8, (hb.cell (p := ⟨(ay.add (qq * 14)).block, _, none⟩) hbkb).trans g9, (hb.cell (p := ⟨(ay.add (qq * 14)).block, _, none⟩) hbkb).trans g10, (hb.cell (p := ⟨(ay.add (qq * 14)).block, _, none⟩) hbkb).trans g11, (hb.cell (p := ⟨(ay.add (qq * 14)).block, _, none⟩) hbkb).trans g12, (hb.cell (p := ⟨(ay.add (qq * 14)).block, _, none⟩) hbkb).trans g13⟩)
          clear hS hxa hxb ia ib hbka hbkb hayW e0 e1 e2 e3 e4 e5 e6 e7 e8 e9 e10 e11 e12 e13 g0 g1 g2 g3 g4 g5 g6 g7 g8 g9 g10 g11 g12 g13
          go_upto_region 11 with fail
          refine Kit.wp_region_two 10 11 12 41 (.tmp 76) (.tmp 81) (Ty.scA default) (by kernel_rfl) (by kernel_rfl) (fun _ _ d _ _ h => by cases d <;> exact h) rfl rfl rfl rfl rfl (fun _ _ => rfl) (fun _ _ => rfl) (by decide) (by kernel_rfl) ?_
          simp only [List.take_succ_cons, List.take_zero, Kit.wpIf, Act.put, List.setIfInBounds_toArray, List.set_cons_zero, List.set_cons_succ]
          refine ⟨.pointer (some ⟨w.heap.size, 10, none⟩), .inl ⟨by rfl, fun w1 hx => ?_⟩, ?_⟩
          · simp [execOp, Act.eval, go_sem]
          refine ⟨.slice (some ay) sg.length cG, .inl ⟨by rfl, fun w1 hx => ?_⟩, ?_⟩
          · have so := (hx.cell (p := ⟨w.heap.size, 10, none⟩) zwW).trans G10.out; simp [execOp, Act.eval, so, go_sem]
          refine ⟨.int .i64 pp, .inl ⟨by rfl, fun w1 hx => ?_⟩, ?_⟩
          · simp [execOp, Act.eval, go_sem]
          refine ⟨.pointer (some (ay.add (pp * 14))), .inl ⟨by rfl, fun w1 hx => ?_⟩, ?_⟩
          · simp [execOp, Act.eval, lp, go_sem]
          refine ⟨Ex.sgV a, .inl ⟨by rfl, fun w1 hx => ?_⟩, ?_⟩
          · obtain ⟨s1, s2, s3, s4, s5, s6, s7, s8, s9, s10, s11, s12, s13, s14⟩ := SOA.out w1 hx; simp [execOp, Act.eval, s1, s2, s3, s4, s5, s6, s7, s8, s9, s10, s11, s12, s13, s14, go_sem]
          refine ⟨.pointer (some ⟨w.heap.size, 10, none⟩), .inl ⟨by rfl, fun w1 hx => ?_⟩, ?_⟩
          · simp [execOp, Act.eval, go_sem]
          refine ⟨.slice (some ay) sg.length cG, .inl ⟨by rfl, fun w1 hx => ?_⟩, ?_⟩
          · have so := (hx.cell (p := ⟨w.heap.size, 10, none⟩) zwW).trans G10.out; simp [execOp, Act.eval, so, go_sem]
          refine ⟨.int .i64 qq, .inl ⟨by rfl, fun w1 hx => ?_⟩, ?_⟩
          · simp [execOp, Act.eval, go_sem]
          refine ⟨.pointer (some (ay.add (qq * 14))), .inl ⟨by rfl, fun w1 hx => ?_⟩, ?_⟩
          · simp [execOp, Act.eval, lq, go_sem]
          refine ⟨Ex.sgV b, .inl ⟨by rfl, fun w1 hx => ?_⟩, ?_⟩
          · obtain ⟨s1, s2, s3, s4, s5, s6, s7, s8, s9, s10, s11, s12, s13, s14⟩ := SOB.out w1 hx; simp [execOp, Act.eval, s1, s2, s3, s4, s5, s6, s7, s8, s9, s10, s11, s12, s13, s14, go_sem]
          refine ⟨by simp, by simp, Ty.scA a, Ty.scA b, fun _ _ => rfl, fun _ _ => rfl, rfl, rfl, Ty.scA_one a, Ty.scA_one b, ?_⟩
          intro b1 b2 W3 hne hb1 hb2 hbW h31 h32
          have CA3 := Lib.hid (Ty.Cs.of_block (l := Ty.sgL a) h31)
          have CB3 := Lib.hid (Ty.Cs.of_block (l := Ty.sgL b) h32)
          have HB3 := Lib.hid (HBW.out.trans (hbW.mono HBW.out.size))
          have SF3 := Lib.hid (SFW.out.kept hbW (Nat.le_refl _))
          have HMM := Lib.hid (Ty.bf_mem HBF.out)
          have HRA := Lib.hid (hrt a HMM.out.1)
          have HRB := Lib.hid (hrt b HMM.out.2)
          have HHR := Lib.hid hrt
          have HIC := Lib.hid hinc
          have HNE := Lib.hid hne
          clear hrt hinc hne SOA SOB G10 SFW h31 h32 hpq lq lp hay zwW HLI d0 hij hnil hne0 HBW hb1 hb2 hbW h2 li lj
          have fa := (Ra.ok_iff _ _).1 HRA.out.fok
          have fb := (Ra.ok_iff _ _).1 HRB.out.fok
          have m1 := Ty.mul_bd (a := a.fn) (b := b.fd) (by omega) (by omega)
          have m2 := Ty.mul_bd (a := b.fn) (b := a.fd) (by omega) (by omega)
          have a10 := CA3.out.2 10 _ rfl
          have a11 := CA3.out.2 11 _ rfl
          have c10 := CB3.out.2 10 _ rfl
          have c11 := CB3.out.2 11 _ rfl
          have za := CA3.out.1
          have zb := CB3.out.1
          clear fa fb
          go_simp
          go_upto_if 98 with fail
          obtain ⟨W4, hW4⟩ : ∃ W4, W4 = W3.alloc (.cells #[.int .i64 a.fn, .int .i64 a.fd] 39) := ⟨_, rfl⟩
          rw [← hW4]
          have b34 : Below W3.heap.size W3 W4 := by rw [hW4]; exact (Below.refl _ _).alloc (Nat.le_refl _) _
          have n34 : W4.heap.size = W3.heap.size + 1 := by rw [hW4]; simp
          obtain ⟨b3, hb3⟩ : ∃ b3, b3 = W3.heap.size := ⟨_, rfl⟩
          have h34 : W4.heap[b3]? = some (.cells #[.int .i64 a.fn, .int .i64 a.fd] 39 (0, 0)) := by rw [hW4, hb3]; exact World.alloc_heap_new _ _
          rw [← hb3]
          have CA4 := Lib.hid (CA3.out.kept b34 (Nat.le_refl _))
          have CB4 := Lib.hid (CB3.out.kept b34 (Nat.le_refl _))
          have CT4 := Lib.hid (Ty.Cs.of_block (l := [.int .i64 a.fn, .int .i64 a.fd]) h34)
          have HH4 := Lib.hid h34
          have HB4 := Lib.hid b34
          have a10 := CA4.out.2 10 _ rfl
          have a11 := CA4.out.2 11 _ rfl
          have c10 := CB4.out.2 10 _ rfl
          have c11 := CB4.out.2 11 _ rfl
          have t0 := CT4.out.2 0 _ rfl
          have t1 := CT4.out.2 1 _ rfl
          have tf : ∀ q, W4.frozen? ⟨b3, q, none⟩ = false := fun q => by simp [World.frozen?, h34]
          have za : b1 < W4.heap.size := CA4.out.1
          have zb : b2 < W4.heap.size := CB4.out.1
          have zt : b3 < W4.heap.size := CT4.out.1
          have HE4 := Lib.hid hb3
          clear hW4 b34 n34 h34 hb3
          go_cut [13] from 98 to 100 (fun s13 wx => ∃ (tn td : Int), s13 = .pointer (some ⟨b3, 0, none⟩) ∧ Hid ((tn, td) = if a.fn * b.fd < b.fn * a.fd then (b.fn, b.fd) else (a.fn, a.fd)) ∧ Hid (Ty.Cs wx b3 [.int .i64 tn, .int .i64 td]) ∧ Hid (Below W3.heap.size W3 wx))
          case first =>
            rcases c0 : decide (a.fn * b.fd < b.fn * a.fd) with _ | _
            · go_wp2_with fail
              go_meet
              case rel => exact ⟨a.fn, a.fd, rfl, (by show _ = _; rw [if_neg (by simpa using c0)]), CT4.out, HB4.out⟩
            · go_wp2_with fail
              go_meet
              case rel =>
                have h1 := Kit.heap_setAll (cells := #[.int .i64 b.fn, .int .i64 b.fd]) HH4.out rfl
                exact ⟨b.fn, b.fd, rfl, (by show _ = _; rw [if_pos (by simpa using c0)]), Ty.Cs.of_block (l := [.int .i64 b.fn, .int .i64 b.fd]) h1, (HB4.out.setCell (Nat.le_of_eq HE4.out.symm) _).setCell (Nat.le_of_eq HE4.out.symm) _⟩
          case rest =>
            obtain ⟨tn, td, rfl, HTT, HCT, HB34⟩ := hcut
            obtain ⟨W5, rfl⟩ : ∃ W5, W5 = wc := ⟨_, rfl⟩
            have CA5 := Lib.hid (CA3.out.kept HB34.out (Nat.le_refl _))
            have CB5 := Lib.hid (CB3.out.kept HB34.out (Nat.le_refl _))
            have SF5 := Lib.hid (SF3.out.kept HB34.out (Nat.le_refl _))
            have HB5 := Lib.hid (HB3.out.trans (HB34.out.mono HB3.out.size))
            have HTK := Lib.hid (show Ra.ok tn td = true by
              have h := HTT.out
              split at h <;> (obtain ⟨rfl, rfl⟩ := Prod.mk.inj h)
              · exact HRB.out.fok
              · exact HRA.out.fok)
            have HSM := Lib.hid (show Ty.sim a b = (a.role == b.role && a.bar == b.bar && (Ty.act a tn td && Ty.act b tn td)) by
              have h := HTT.out
              rw [Ty.sim, ← Ty.act_over HRA.out HRB.out]
              split at h <;> (rename_i hc; obtain ⟨rfl, rfl⟩ := Prod.mk.inj h)
              · rw [if_pos hc]
              · rw [if_neg hc])
            clear CA3 CB3 SF3 HB3 HB34 CA4 CB4 CT4 HH4 HB4 HE4 tf a10 a11 c10 c11 t0 t1 m1 m2 za zb zt HTT
            have za : b1 < W5.heap.size := CA5.out.1
            have zb : b2 < W5.heap.size := CB5.out.1
            have zt : b3 < W5.heap.size := HCT.out.1
            have a0 := CA5.out.2 0 _ rfl
            have c0 := CB5.out.2 0 _ rfl
            have a1 := CA5.out.2 1 _ rfl
            have c1 := CB5.out.2 1 _ rfl
            have a2 := CA5.out.2 2 _ rfl
            have c2 := CB5.out.2 2 _ rfl
            have a3 := CA5.out.2 3 _ rfl
            have c3 := CB5.out.2 3 _ rfl
            have a4 := CA5.out.2 4 _ rfl
            have c4 := CB5.out.2 4 _ rfl
            have a5 := CA5.out.2 5 _ rfl
            have c5 := CB5.out.2 5 _ rfl
            have a6 := CA5.out.2 6 _ rfl
            have c6 := CB5.out.2 6 _ rfl
            have a7 := CA5.out.2 7 _ rfl
            have c7 := CB5.out.2 7 _ rfl
            have a8 := CA5.out.2 8 _ rfl
            have c8 := CB5.out.2 8 _ rfl
            have a9 := CA5.out.2 9 _ rfl
            have c9 := CB5.out.2 9 _ rfl
            have a10 := CA5.out.2 10 _ rfl
            have c10 := CB5.out.2 10 _ rfl
            have a11 := CA5.out.2 11 _ rfl
            have c11 := CB5.out.2 11 _ rfl
            have a12 := CA5.out.2 12 _ rfl
            have c12 := CB5.out.2 12 _ rfl
            have a13 := CA5.out.2 13 _ rfl
            have c13 := CB5.out.2 13 _ rfl
            have t0 := HCT.out.2 0 _ rfl
            have t1 := HCT.out.2 1 _ rfl
            go_upto_region 15 with fail
            go_cut [14] from 101 to 122 (fun s14 wx => s14 = .bool (Ty.sim a b) ∧ Hid (Below W5.heap.size W5 wx))
            case first =>
              rcases e1 : (a.role == b.role) with _ | _
              · go_wp2_with fail
                go_meet
                case rel => exact ⟨by rw [HSM.out, e1]; rfl, Below.refl _ _⟩
              · rcases e2 : (a.bar == b.bar) with _ | _
                · go_wp2_with fail
                  go_meet
                  case rel => exact ⟨by rw [HSM.out, e1, e2]; rfl, Below.refl _ _⟩
                · go_wp2_with fail
                  refine (lw_active a tn td _ HRA.out.fok HRA.out.tok HTK.out).mono ?_
                  rintro e wA ⟨rfl, hA⟩
                  have HA := Lib.hid hA
                  have CB6 := Lib.hid (CB5.out.kept hA (Nat.le_refl _))
                  have CT6 := Lib.hid (HCT.out.kept hA (Nat.le_refl _))
                  rcases e3 : Ty.act a tn td with _ | _
                  · clear hA
                    go_wp2_with fail
                    go_meet
                    case rel => exact ⟨by rw [HSM.out, e1, e2, e3]; rfl, HA.out⟩
                  · clear hA a0 c0 a1 c1 a2 c2 a3 c3 a4 c4 a5 c5 a6 c6 a7 c7 a8 c8 a9 c9 a10 c10 a11 c11 a12 c12 a13 c13 t0 t1
                    have c0 := CB6.out.2 0 _ rfl
                    have c1 := CB6.out.2 1 _ rfl
                    have c2 := CB6.out.2 2 _ rfl
                    have c3 := CB6.out.2 3 _ rfl
                    have c4 := CB6.out.2 4 _ rfl
                    have c5 := CB6.out.2 5 _ rfl
                    have c6 := CB6.out.2 6 _ rfl
                    have c7 := CB6.out.2 7 _ rfl
                    have c8 := CB6.out.2 8 _ rfl
                    have c9 := CB6.out.2 9 _ rfl
                    have c10 := CB6.out.2 10 _ rfl
                    have c11 := CB6.out.2 11 _ rfl
                    have c12 := CB6.out.2 12 _ rfl
                    have c13 := CB6.out.2 13 _ rfl
                    have t0 := CT6.out.2 0 _ rfl
                    have t1 := CT6.out.2 1 _ rfl
                    go_wp2_with fail
                    refine (lw_active b tn td _ HRB.out.fok HRB.out.tok HTK.out).mono ?_
                    rintro e wB ⟨rfl, hB⟩
                    have HB' := Lib.hid (HA.out.trans (hB.mono HA.out.size))
                    clear hB
                    go_wp2_with fail
                    go_meet
                    case rel => exact ⟨by rw [HSM.out, e1, e2, e3]; rfl, HB'.out⟩
            case rest =>
              obtain ⟨rfl, HB56⟩ := hcut
              obtain ⟨W6, rfl⟩ : ∃ W6, W6 = wc := ⟨_, rfl⟩
              have CA6 := Lib.hid (CA5.out.kept HB56.out (Nat.le_refl _))
              have CB6 := Lib.hid (CB5.out.kept HB56.out (Nat.le_refl _))
              have SF6 := Lib.hid (SF5.out.kept HB56.out (Nat.le_refl _))
              have HB6 := Lib.hid (HB5.out.trans (HB56.out.mono HB5.out.size))
              clear CA5 CB5 SF5 HB5 HB56 HCT HTK HSM za zb zt t0 t1 a0 c0 a1 c1 a2 c2 a3 c3 a4 c4 a5 c5 a6 c6 a7 c7 a8 c8 a9 c9 a10 c10 a11 c11 a12 c12 a13 c13
              go_upto_region 16 with fail
              refine Kit.wp_region_vals2 6 [([(11, none)], none, true), ([(123, some 0)], none, true), ([(12, none)], none, true), ([(125, some 2)], none, true), ([], none, true), ([], none, true)]
                [some 123, some 124, some 125, some 126, some 15, some 16] rfl (by kernel_rfl) (by kernel_rfl) (fun A B => Below A.heap.size A B) (fun i v w' => match i with
                | 0 => v = Ex.sgV a
                | 1 => v = Ty.usV (Ty.usesP a.kind a.side)
                | 2 => v = Ex.sgV b
                | 3 => v = Ty.usV (Ty.usesP b.kind b.side)
                | _ => ∃ b, v = .pointer (some ⟨b, 0, none⟩) ∧ Ty.NewU W6.heap.size b w')
                (fun i v w' => match i with
                | 4 => ∃ b, v = .pointer (some ⟨b, 0, none⟩) ∧ w'.heap.size ≤ b
                | 5 => ∃ b, v = .pointer (some ⟨b, 0, none⟩) ∧ w'.heap.size ≤ b
                | _ => True)
                (fun i v j u => (i = 4 ∧ j = 5 ∨ i = 5 ∧ j = 4) → v ≠ u) ?_
                (fun h k => h.trans (k.mono h.size)) (Below.drew (Below.refl _ _)) (fun _ => Below.refl _ _) ?_ ?_ ?_
              · intro i j v u wx hi hj hne _ hF hB
                have key : (i = 4 ∧ j = 5 ∨ i = 5 ∧ j = 4) → v ≠ u := by
                  rintro (⟨rfl, rfl⟩ | ⟨rfl, rfl⟩) <;>
                  · obtain ⟨c1, rfl, h1⟩ := hB
                    obtain ⟨c2, rfl, _, h2⟩ := hF
                    have h3 := (Array.getElem?_eq_some_iff.1 h2).1
                    intro e
                    simp at e
                    try omega
                exact ⟨key, fun h e => key (by omega) e.symm⟩
              · intro i v A B h1 h2 h3
                split at h3 <;> try exact h3
                obtain ⟨b, e, h4, h5⟩ := h3
                exact ⟨b, e, h4, (h2.block b (Array.getElem?_eq_some_iff.1 h5).1).trans h5⟩
              · simp only [List.take_succ_cons, List.take_zero, Kit.StepsV2, Kit.VOp2, Kit.RdP, true_and, if_true, and_true]
                refine ⟨?_, ?_, ?_, ?_, ?_, ?_⟩
                all_goals intro ev w1 hx hv hc hf hg
                · simp at hv
                  have C := CA6.out.kept hx (Nat.le_refl _)
                  have s0 := C.2 0 _ rfl
                  have s1 := C.2 1 _ rfl
                  have s2 := C.2 2 _ rfl
                  have s3 := C.2 3 _ rfl
                  have s4 := C.2 4 _ rfl
                  have s5 := C.2 5 _ rfl
                  have s6 := C.2 6 _ rfl
                  have s7 := C.2 7 _ rfl
                  have s8 := C.2 8 _ rfl
                  have s9 := C.2 9 _ rfl
                  have s10 := C.2 10 _ rfl
                  have s11 := C.2 11 _ rfl
                  have s12 := C.2 12 _ rfl
                  have s13 := C.2 13 _ rfl
                  simp [execOp, hv, hc, s0, s1, s2, s3, s4, s5, s6, s7, s8, s9, s10, s11, s12, s13, go_sem, Kit.UponV, Below.refl]
                · simp [execOp, hv, hc, hf, go_sem, Kit.UponV]
                  refine (lw_uses a w1 HRA.out.kind).mono ?_
                  rintro e w2 ⟨rfl, hb⟩
                  exact ⟨_, rfl, rfl, hb⟩
                · simp at hv
                  have C := CB6.out.kept hx (Nat.le_refl _)
                  have s0 := C.2 0 _ rfl
                  have s1 := C.2 1 _ rfl
                  have s2 := C.2 2 _ rfl
                  have s3 := C.2 3 _ rfl
                  have s4 := C.2 4 _ rfl
                  have s5 := C.2 5 _ rfl
                  have s6 := C.2 6 _ rfl
                  have s7 := C.2 7 _ rfl
                  have s8 := C.2 8 _ rfl
                  have s9 := C.2 9 _ rfl
                  have s10 := C.2 10 _ rfl
                  have s11 := C.2 11 _ rfl
                  have s12 := C.2 12 _ rfl
                  have s13 := C.2 13 _ rfl
                  simp [execOp, hv, hc, s0, s1, s2, s3, s4, s5, s6, s7, s8, s9, s10, s11, s12, s13, go_sem, Kit.UponV, Below.refl]
                · simp [execOp, hv, hc, hf, go_sem, Kit.UponV]
                  refine (lw_uses b w1 HRB.out.kind).mono ?_
                  rintro e w2 ⟨rfl, hb⟩
                  exact ⟨_, rfl, rfl, hb⟩
                · have hz := hx.size
                  simp [execOp, hc, go_sem, Kit.UponV]
                  exact ⟨⟨hz, World.alloc_heap_new _ _⟩, (Below.refl _ _).alloc (Nat.le_refl _) _⟩
                · have hz := hx.size
                  simp [execOp, hc, go_sem, Kit.UponV]
                  exact ⟨⟨hz, World.alloc_heap_new _ _⟩, (Below.refl _ _).alloc (Nat.le_refl _) _⟩
              · intro vs w1 hv hr hx
                have v1 : vs 1 = Ty.usV (Ty.usesP a.kind a.side) := hv 1 (by omega)
                have v3 : vs 3 = Ty.usV (Ty.usesP b.kind b.side) := hv 3 (by omega)
                obtain ⟨b4, v4, hb4, h4⟩ := hv 4 (by omega)
                obtain ⟨b5, v5, hb5, h5⟩ := hv 5 (by omega)
                have hne := hr 4 5 (by omega) (by omega) (by omega) (.inl ⟨rfl, rfl⟩)
                rw [v4, v5] at hne
                have hne : b4 ≠ b5 := fun e => hne (by rw [e])
                clear hv hr
                simp only [Kit.putD, List.getD_cons_zero, List.getD_cons_succ, Act.put, v1, v3, v4, v5, List.drop_succ_cons, List.drop_zero, List.setIfInBounds_toArray, List.set_cons_zero, List.set_cons_succ]
                obtain ⟨P1, hP1⟩ : ∃ P1, P1 = Ty.usesP a.kind a.side := ⟨_, rfl⟩
                obtain ⟨P2, hP2⟩ : ∃ P2, P2 = Ty.usesP b.kind b.side := ⟨_, rfl⟩
                rw [← hP1, ← hP2]
                refine Kit.wpList_two (N := W6.heap.size) (w0 := W6) (t1 := 15) (t2 := 16) (b1 := b4) (b2 := b5) (ty := 51) (zc := #[.bool false, .bool false, .bool false, .bool false, .bool false, .bool false]) (c1 := #[.bool P1.1, .bool P1.2.1, .bool P1.2.2.1, .bool P1.2.2.2.1, .bool P1.2.2.2.2.1, .bool P1.2.2.2.2.2]) (c2 := #[.bool P2.1, .bool P2.2.1, .bool P2.2.2.1, .bool P2.2.2.2.1, .bool P2.2.2.2.2.1, .bool P2.2.2.2.2.2]) rfl rfl rfl rfl rfl rfl rfl rfl (by kernel_rfl) rfl rfl (by simp [Value.oneCell']) (by simp [Value.oneCell']) hne hb4 hb5 hx h4 h5 ?_
                intro W7 hb7 h74 h75
                have CA7 := Lib.hid (CA6.out.kept hb7 (Nat.le_refl _))
                have CB7 := Lib.hid (CB6.out.kept hb7 (Nat.le_refl _))
                have SF7 := Lib.hid (SF6.out.kept hb7 (Nat.le_refl _))
                have HB7 := Lib.hid (HB6.out.trans (hb7.mono HB6.out.size))
                obtain ⟨p0, p1, p2, p3, p4, p5⟩ := P1
                obtain ⟨q0, q1, q2, q3, q4, q5⟩ := P2
                have CP7 := Lib.hid (Ty.Cs.of_block (l := [.bool p0, .bool p1, .bool p2, .bool p3, .bool p4, .bool p5]) h74)
                have CQ7 := Lib.hid (Ty.Cs.of_block (l := [.bool q0, .bool q1, .bool q2, .bool q3, .bool q4, .bool q5]) h75)
                have HP1 := Lib.hid hP1
                have HP2 := Lib.hid hP2
                clear hb7 h74 h75 hP1 hP2 v1 v3 v4 v5 hx h4 h5 hne hb4 hb5 CA6 CB6 SF6 HB6
                go_wp2_with fail
                go_loopw [17, 127] (fun v17 v127 wr => ∃ (c : Bool) (k2 : Nat), v17 = .bool c ∧ v127 = .int .i64 k2 ∧ k2 ≤ 6 ∧ Hid (c = Ty.pcom [p0, p1, p2, p3, p4, p5] [q0, q1, q2, q3, q4, q5] k2) ∧ wr = W7)
                  (fun _ v127 _ => 6 - (intOf v127).toNat)
                case atStart => exact ⟨false, 0, rfl, rfl, by omega, rfl, rfl⟩
                case round =>
                  obtain ⟨c, k2, rfl, rfl, hk2, HC, rfl⟩ := hrel
                  by_cases hk6 : k2 < 6
                  · have hkk : k2 = 0 ∨ k2 = 1 ∨ k2 = 2 ∨ k2 = 3 ∨ k2 = 4 ∨ k2 = 5 := by omega
                    have zp := CP7.out.1
                    have zq := CQ7.out.1
                    rcases hkk with rfl | rfl | rfl | rfl | rfl | rfl
                    · have x0 := CP7.out.2 0 _ rfl
                      have y0 := CQ7.out.2 0 _ rfl
                      rcases c with _ | _
                      · rcases p0 with _ | _ <;>
                        · go_wp2
                          go_roundw
                          case rel => exact ⟨_, 0 + 1, rfl, by go_num, by omega, (by show _ = _; rw [Ty.pcom_succ _ _ 0 _ _ rfl rfl, ← HC.out]; simp), (by first | rfl | trivial)⟩
                          case measure => simp [intOf]
                      · go_wp2
                        go_roundw
                        case rel => exact ⟨_, 0 + 1, rfl, by go_num, by omega, (by show _ = _; rw [Ty.pcom_succ _ _ 0 _ _ rfl rfl, ← HC.out]; simp), (by first | rfl | trivial)⟩
                        case measure => simp [intOf]
                    · have x0 := CP7.out.2 1 _ rfl
                      have y0 := CQ7.out.2 1 _ rfl
                      rcases c with _ | _
                      · rcases p1 with _ | _ <;>
                        · go_wp2
                          go_roundw
                          case rel => exact ⟨_, 1 + 1, rfl, by go_num, by omega, (by show _ = _; rw [Ty.pcom_succ _ _ 1 _ _ rfl rfl, ← HC.out]; simp), (by first | rfl | trivial)⟩
                          case measure => simp [intOf]
                      · go_wp2
                        go_roundw
                        case rel => exact ⟨_, 1 + 1, rfl, by go_num, by omega, (by show _ = _; rw [Ty.pcom_succ _ _ 1 _ _ rfl rfl, ← HC.out]; simp), (by first | rfl | trivial)⟩
                        case measure => simp [intOf]
                    · have x0 := CP7.out.2 2 _ rfl
                      have y0 := CQ7.out.2 2 _ rfl
                      rcases c with _ | _
                      · rcases p2 with _ | _ <;>
                        · go_wp2
                          go_roundw
                          case rel => exact ⟨_, 2 + 1, rfl, by go_num, by omega, (by show _ = _; rw [Ty.pcom_succ _ _ 2 _ _ rfl rfl, ← HC.out]; simp), (by first | rfl | trivial)⟩
                          case measure => simp [intOf]
                      · go_wp2
                        go_roundw
                        case rel => exact ⟨_, 2 + 1, rfl, by go_num, by omega, (by show _ = _; rw [Ty.pcom_succ _ _ 2 _ _ rfl rfl, ← HC.out]; simp), (by first | rfl | trivial)⟩
                        case measure => simp [intOf]
                    · have x0 := CP7.out.2 3 _ rfl
                      have y0 := CQ7.out.2 3 _ rfl
                      rcases c with _ | _
                      · rcases p3 with _ | _ <;>
                        · go_wp2
                          go_roundw
                          case rel => exact ⟨_, 3 + 1, rfl, by go_num, by omega, (by show _ = _; rw [Ty.pcom_succ _ _ 3 _ _ rfl rfl, ← HC.out]; simp), (by first | rfl | trivial)⟩
                          case measure => simp [intOf]
                      · go_wp2
                        go_roundw
                        case rel => exact ⟨_, 3 + 1, rfl, by go_num, by omega, (by show _ = _; rw [Ty.pcom_succ _ _ 3 _ _ rfl rfl, ← HC.out]; simp), (by first | rfl | trivial)⟩
                        case measure => simp [intOf]
                    · have x0 := CP7.out.2 4 _ rfl
                      have y0 := CQ7.out.2 4 _ rfl
                      rcases c with _ | _
                      · rcases p4 with _ | _ <;>
                        · go_wp2
                          go_roundw
                          case rel => exact ⟨_, 4 + 1, rfl, by go_num, by omega, (by show _ = _; rw [Ty.pcom_succ _ _ 4 _ _ rfl rfl, ← HC.out]; simp), (by first | rfl | trivial)⟩
                          case measure => simp [intOf]
                      · go_wp2
                        go_roundw
                        case rel => exact ⟨_, 4 + 1, rfl, by go_num, by omega, (by show _ = _; rw [Ty.pcom_succ _ _ 4 _ _ rfl rfl, ← HC.out]; simp), (by first | rfl | trivial)⟩
                        case measure => simp [intOf]
                    · have x0 := CP7.out.2 5 _ rfl
                      have y0 := CQ7.out.2 5 _ rfl
                      rcases c with _ | _
                      · rcases p5 with _ | _ <;>
                        · go_wp2
                          go_roundw
                          case rel => exact ⟨_, 5 + 1, rfl, by go_num, by omega, (by show _ = _; rw [Ty.pcom_succ _ _ 5 _ _ rfl rfl, ← HC.out]; simp), (by first | rfl | trivial)⟩
                          case measure => simp [intOf]
                      · go_wp2
                        go_roundw
                        case rel => exact ⟨_, 5 + 1, rfl, by go_num, by omega, (by show _ = _; rw [Ty.pcom_succ _ _ 5 _ _ rfl rfl, ← HC.out]; simp), (by first | rfl | trivial)⟩
                        case measure => simp [intOf]
                  · obtain rfl : k2 = 6 := by omega
                    have h66 : ((6 : Nat) : Int) = 6 := rfl
                    simp only [h66]
                    clear h66
                    have HCM := Lib.hid (show c = Ty.com a b by
                      rw [Ty.com_uses HRA.out HRB.out, ← HP1.out, ← HP2.out, HC.out]
                      simp [Ty.pcom, Ty.comP, Bool.or_assoc])
                    clear HC HP1 HP2 CP7 CQ7 hk2 hk6
                    obtain ⟨W8, rfl⟩ : ∃ W8, W8 = wr := ⟨_, rfl⟩
                    have za := CA7.out.1
                    have zb := CB7.out.1
                    have a4 := CA7.out.2 4 _ rfl
                    have b4' := CB7.out.2 4 _ rfl
                    go_upto_region 23 with fail
                    go_cut [19] from 142 to 163 (fun s19 wx => s19 = .bool (Ty.leg a && Ty.leg b && !c) ∧ wx = W8)
                    case first =>
                      rcases c1 : (a.kind == 1) with _ | _
                      · rcases c3 : (a.kind == 3) with _ | _
                        · go_wp2_with fail
                          go_meet
                          case rel => exact ⟨by simp [Ty.leg, c1, c3], (by first | rfl | trivial)⟩
                        · rcases d1 : (b.kind == 1) with _ | _
                          · rcases d3 : (b.kind == 3) with _ | _
                            · go_wp2_with fail
                              go_meet
                              case rel => exact ⟨by simp [Ty.leg, c1, c3, d1, d3], (by first | rfl | trivial)⟩
                            · go_wp2_with fail
                              go_meet
                              case rel => exact ⟨by simp [Ty.leg, c1, c3, d1, d3], (by first | rfl | trivial)⟩
                          · go_wp2_with fail
                            go_meet
                            case rel => exact ⟨by simp [Ty.leg, c1, c3, d1], (by first | rfl | trivial)⟩
                      · rcases d1 : (b.kind == 1) with _ | _
                        · rcases d3 : (b.kind == 3) with _ | _
                          · go_wp2_with fail
                            go_meet
                            case rel => exact ⟨by simp [Ty.leg, c1, d1, d3], (by first | rfl | trivial)⟩
                          · go_wp2_with fail
                            go_meet
                            case rel => exact ⟨by simp [Ty.leg, c1, d1, d3], (by first | rfl | trivial)⟩
                        · go_wp2_with fail
                          go_meet
                          case rel => exact ⟨by simp [Ty.leg, c1, d1], (by first | rfl | trivial)⟩
                    case rest =>
                      obtain ⟨rfl, rfl⟩ := hcut
                      obtain ⟨lg, hlg⟩ : ∃ lg, lg = (Ty.leg a && Ty.leg b && !c) := ⟨_, rfl⟩
                      rw [← hlg]
                      have HLG := Lib.hid hlg
                      clear hlg
                      obtain ⟨W8, rfl⟩ : ∃ W8, W8 = wc := ⟨_, rfl⟩
                      go_upto_region 24 with fail
                      go_cut [20] from 164 to 174 (fun s20 wx => ∃ (mn mx : Int) (b6 : Nat), s20 = .pointer (some ⟨b6, 0, none⟩) ∧ Hid (mn = min a.kind b.kind ∧ mx = max a.kind b.kind) ∧ Hid (Ty.Cs wx b6 [.int .i64 mn, .int .i64 mx]) ∧ Hid (Below W8.heap.size W8 wx))
                      case first =>
                        go_wp2_with fail
                        go_meet
                        case rel => exact ⟨_, _, _, rfl, ⟨rfl, rfl⟩, Ty.Cs.top rfl, (Below.refl _ _).alloc (Nat.le_refl _) _⟩
                      case rest =>
                        obtain ⟨mn, mx, b6, rfl, HMN, CK, HB89⟩ := hcut
                        obtain ⟨W9, rfl⟩ : ∃ W9, W9 = wc := ⟨_, rfl⟩
                        have CA9 := Lib.hid (CA7.out.kept HB89.out (Nat.le_refl _))
                        have CB9 := Lib.hid (CB7.out.kept HB89.out (Nat.le_refl _))
                        have SF9 := Lib.hid (SF7.out.kept HB89.out (Nat.le_refl _))
                        have HB9 := Lib.hid (HB7.out.trans (HB89.out.mono HB7.out.size))
                        clear CA7 CB7 SF7 HB7 HB89 za zb a4 b4'
                        have Heq := Ty.eq_pair
                        go_upto_region 25 with fail
                        go_cut [21] from 175 to 186 (fun s21 wx => ∃ (B : Nat) (f : Int → Value), s21 = .map (some B) ∧ Hid (Kit.IMap Tryd.prog 3 (.bool false) wx B 3 f) ∧ Hid (f 1 = .bool c ∧ f 2 = .bool (lg || (mn == 2 && mx == 7)) ∧ f 4 = .bool (mn == 7 && mx == 8)) ∧ Hid (Below W9.heap.size W9 wx))
                        case first =>
                          have hk0 := CK.out.2 0 _ rfl
                          have hk1 := CK.out.2 1 _ rfl
                          have hkz := CK.out.1
                          have hne6 : b6 ≠ W9.heap.size := by omega
                          rcases lg with _ | _
                          · refine wp_region_held (S := (fun w' : World => w'.cell? ⟨b6, 0, none⟩ = some (.int .i64 mn) ∧ w'.cell? ⟨b6, 1, none⟩ = some (.int .i64 mx))) (by kernel_rfl) ?_
                            have hS : (fun w' : World => w'.cell? ⟨b6, 0, none⟩ = some (.int .i64 mn) ∧ w'.cell? ⟨b6, 1, none⟩ = some (.int .i64 mx)) ({ W9 with drawn := W9.drawn + 1 } : World) := ⟨hk0, hk1⟩
                            refine Kit.take2 (i := 1) (v := .bool c) (some 176) rfl rfl (by kernel_rfl) (by kernel_rfl) (by kernel_rfl) (fun _ d _ _ h => by cases d <;> exact h) (Or.inl ⟨by rfl, fun w hw => by go_simp⟩) hS ?_
                            (try simp only [Act.put, List.setIfInBounds_toArray, List.set_cons_zero, List.set_cons_succ])
                            refine Kit.take2 (i := 3) (v := .bool false) (some 177) rfl rfl (by kernel_rfl) (by kernel_rfl) (by kernel_rfl) (fun _ d _ _ h => by cases d <;> exact h) (Or.inl ⟨by rfl, fun w hw => by go_simp⟩) hS ?_
                            (try simp only [Act.put, List.setIfInBounds_toArray, List.set_cons_zero, List.set_cons_succ])
                            refine Kit.take2 (i := 4) (v := .bool false) (some 178) rfl rfl (by kernel_rfl) (by kernel_rfl) (by kernel_rfl) (fun _ d _ _ h => by cases d <;> exact h) (Or.inl ⟨by rfl, fun w hw => by go_simp⟩) hS ?_
                            (try simp only [Act.put, List.setIfInBounds_toArray, List.set_cons_zero, List.set_cons_succ])
                            refine Kit.take2 (i := 5) (v := .agg #[.int .i64 mn, .int .i64 mx]) (some 179) rfl rfl (by kernel_rfl) (by kernel_rfl) (by kernel_rfl) (fun _ d _ _ h => by cases d <;> exact h) (Or.inl ⟨by rfl, fun w hw => by (obtain ⟨hw0, hw1⟩ := hw; go_simp)⟩) hS ?_
                            (try simp only [Act.put, List.setIfInBounds_toArray, List.set_cons_zero, List.set_cons_succ])
                            refine Kit.take2 (i := 6) (v := .agg #[.int .i64 2, .int .i64 7]) (some 180) rfl rfl (by kernel_rfl) (by kernel_rfl) (by kernel_rfl) (fun _ d _ _ h => by cases d <;> exact h) (Or.inl ⟨by rfl, fun w hw => by go_simp⟩) hS ?_
                            (try simp only [Act.put, List.setIfInBounds_toArray, List.set_cons_zero, List.set_cons_succ])
                            refine Kit.take2 (i := 7) (v := .bool (mn == 2 && mx == 7)) (some 181) rfl rfl (by kernel_rfl) (by kernel_rfl) (by kernel_rfl) (fun _ d _ _ h => by cases d <;> exact h) (Or.inl ⟨by rfl, fun w hw => by (have heq := Heq; go_simp)⟩) hS ?_
                            (try simp only [Act.put, List.setIfInBounds_toArray, List.set_cons_zero, List.set_cons_succ])
                            refine Kit.take2 (i := 8) (v := .bool (mn == 2 && mx == 7)) (some 182) rfl rfl (by kernel_rfl) (by kernel_rfl) (by kernel_rfl) (fun _ d _ _ h => by cases d <;> exact h) (Or.inl ⟨by rfl, fun w hw => by go_simp⟩) hS ?_
                            (try simp only [Act.put, List.setIfInBounds_toArray, List.set_cons_zero, List.set_cons_succ])
                            refine Kit.take2 (i := 10) (v := .agg #[.int .i64 mn, .int .i64 mx]) (some 183) rfl rfl (by kernel_rfl) (by kernel_rfl) (by kernel_rfl) (fun _ d _ _ h => by cases d <;> exact h) (Or.inl ⟨by rfl, fun w hw => by (obtain ⟨hw0, hw1⟩ := hw; go_simp)⟩) hS ?_
                            (try simp only [Act.put, List.setIfInBounds_toArray, List.set_cons_zero, List.set_cons_succ])
                            refine Kit.take2 (i := 11) (v := .agg #[.int .i64 7, .int .i64 8]) (some 184) rfl rfl (by kernel_rfl) (by kernel_rfl) (by kernel_rfl) (fun _ d _ _ h => by cases d <;> exact h) (Or.inl ⟨by rfl, fun w hw => by go_simp⟩) hS ?_
                            (try simp only [Act.put, List.setIfInBounds_toArray, List.set_cons_zero, List.set_cons_succ])
                            refine Kit.take2 (i := 12) (v := .bool (mn == 7 && mx == 8)) (some 185) rfl rfl (by kernel_rfl) (by kernel_rfl) (by kernel_rfl) (fun _ d _ _ h => by cases d <;> exact h) (Or.inl ⟨by rfl, fun w hw => by (have heq := Heq; go_simp)⟩) hS ?_
                            (try simp only [Act.put, List.setIfInBounds_toArray, List.set_cons_zero, List.set_cons_succ])
                            refine wpAnyH_all (rs := [0]) (by kernel_rfl) (by simp) fun i hi => ?_
                            obtain rfl : i = 0 := by simpa using hi
                            refine Kit.wpOp_value2 (v := .map (some W9.heap.size)) (some 175) rfl rfl rfl (by simp [execOp, Sem.run_bind, run_makeMap, Result.andThen]; rfl) ?_
                            have HM0 := Lib.hid (Kit.IMap.made Tryd.prog 3 (.bool false) (.lit (.bool false)) rfl ({ W9 with drawn := W9.drawn + 1 } : World))
                            have hS1 : (fun w' : World => w'.cell? ⟨b6, 0, none⟩ = some (.int .i64 mn) ∧ w'.cell? ⟨b6, 1, none⟩ = some (.int .i64 mx)) (({ W9 with drawn := W9.drawn + 1 } : World).alloc (.map #[] 0)) := ⟨(World.cell?_alloc_some _ _ _ (by rw [hS.1]; rfl)).trans hS.1, (World.cell?_alloc_some _ _ _ (by rw [hS.2]; rfl)).trans hS.2⟩
                            refine ⟨hS1, ?_⟩
                            (try simp only [Act.put, List.setIfInBounds_toArray, List.set_cons_zero, List.set_cons_succ])
                            refine wpAnyH_all (rs := [2, 9, 13]) (by kernel_rfl) (by simp) fun i hi => ?_
                            rcases (show i = 2 ∨ i = 9 ∨ i = 13 by simpa using hi) with rfl | rfl | rfl
                            · refine Kit.wpOp_insert_imap (k := 3) (xs := 1) (val := .bool c) rfl rfl rfl rfl Tryd.underlying3 Tryd.underlying54 rfl rfl rfl rfl (by decide) HM0.out (by decide) ?_
                              intro w1_ hi1 hg1
                              have HM1 := Lib.hid hi1
                              have hS2 : (fun w' : World => w'.cell? ⟨b6, 0, none⟩ = some (.int .i64 mn) ∧ w'.cell? ⟨b6, 1, none⟩ = some (.int .i64 mx)) w1_ := ⟨Kit.cell_grown hS1.1 hg1 hne6, Kit.cell_grown hS1.2 hg1 hne6⟩
                              have HG1 := Lib.hid hg1
                              clear hi1 hg1
                              refine ⟨hS2, ?_⟩
                              refine wpAnyH_all (rs := [9, 13]) (by kernel_rfl) (by simp) fun i hi => ?_
                              rcases (show i = 9 ∨ i = 13 by simpa using hi) with rfl | rfl
                              · refine Kit.wpOp_insert_imap (k := 3) (xs := 2) (val := .bool (mn == 2 && mx == 7)) rfl rfl rfl rfl Tryd.underlying3 Tryd.underlying54 rfl rfl rfl rfl (by decide) HM1.out (by decide) ?_
                                intro w2_ hi2 hg2
                                have HM2 := Lib.hid hi2
                                have hS3 : (fun w' : World => w'.cell? ⟨b6, 0, none⟩ = some (.int .i64 mn) ∧ w'.cell? ⟨b6, 1, none⟩ = some (.int .i64 mx)) w2_ := ⟨Kit.cell_grown hS2.1 hg2 hne6, Kit.cell_grown hS2.2 hg2 hne6⟩
                                have HG2 := Lib.hid hg2
                                clear hi2 hg2
                                refine ⟨hS3, ?_⟩
                                refine wpAnyH_all (rs := [13]) (by kernel_rfl) (by simp) fun i hi => ?_
                                obtain rfl : i = 13 := by simpa using hi
                                refine Kit.wpOp_insert_imap (k := 3) (xs := 4) (val := .bool (mn == 7 && mx == 8)) rfl rfl rfl rfl Tryd.underlying3 Tryd.underlying54 rfl rfl rfl rfl (by decide) HM2.out (by decide) ?_
                                intro w3_ hi3 hg3
                                have HM3 := Lib.hid hi3
                                have hS4 : (fun w' : World => w'.cell? ⟨b6, 0, none⟩ = some (.int .i64 mn) ∧ w'.cell? ⟨b6, 1, none⟩ = some (.int .i64 mx)) w3_ := ⟨Kit.cell_grown hS3.1 hg3 hne6, Kit.cell_grown hS3.2 hg3 hne6⟩
                                have HG3 := Lib.hid hg3
                                clear hi3 hg3
                                refine ⟨hS4, ?_⟩
                                refine Kit.take2 (i := 14) (v := .map (some W9.heap.size)) (some 186) rfl rfl (by kernel_rfl) (by kernel_rfl) (by kernel_rfl) (fun _ d _ _ h => by cases d <;> exact h) (Or.inl ⟨by rfl, fun w hw => by go_simp⟩) hS4 ?_
                                (try simp only [Act.put, List.setIfInBounds_toArray, List.set_cons_zero, List.set_cons_succ])
                                refine Kit.take2 (i := 15) (v := .map (some W9.heap.size)) (some 21) rfl rfl (by kernel_rfl) (by kernel_rfl) (by kernel_rfl) (fun _ d _ _ h => by cases d <;> exact h) (Or.inl ⟨by rfl, fun w hw => by go_simp⟩) hS4 ?_
                                (try simp only [Act.put, List.setIfInBounds_toArray, List.set_cons_zero, List.set_cons_succ])
                                refine wpAnyH_done (by kernel_rfl) ?_ _
                                go_wp2_with fail
                                go_meet
                                case rel => exact ⟨_, _, rfl, HM3.out, ⟨by simp, by simp, by simp⟩, ((((Below.refl W9.heap.size W9).drew.alloc (Nat.le_refl _) _).grown HG1.out (by simp) (fun k hk => by cases hk; exact Nat.le_refl _)).grown HG2.out (by have := HG1.out.size; simp at this; omega) (fun k hk => by cases hk; exact Nat.le_refl _)).grown HG3.out (by have := HG1.out.size; have := HG2.out.size; simp at *; omega) (fun k hk => by cases hk; exact Nat.le_refl _)⟩
                              · refine Kit.wpOp_insert_imap (k := 3) (xs := 4) (val := .bool (mn == 7 && mx == 8)) rfl rfl rfl rfl Tryd.underlying3 Tryd.underlying54 rfl rfl rfl rfl (by decide) HM1.out (by decide) ?_
                                intro w2_ hi2 hg2
                                have HM2 := Lib.hid hi2
                                have hS3 : (fun w' : World => w'.cell? ⟨b6, 0, none⟩ = some (.int .i64 mn) ∧ w'.cell? ⟨b6, 1, none⟩ = some (.int .i64 mx)) w2_ := ⟨Kit.cell_grown hS2.1 hg2 hne6, Kit.cell_grown hS2.2 hg2 hne6⟩
                                have HG2 := Lib.hid hg2
                                clear hi2 hg2
                                refine ⟨hS3, ?_⟩
                                refine wpAnyH_all (rs := [9]) (by kernel_rfl) (by simp) fun i hi => ?_
                                obtain rfl : i = 9 := by simpa using hi
                                refine Kit.wpOp_insert_imap (k := 3) (xs := 2) (val := .bool (mn == 2 && mx == 7)) rfl rfl rfl rfl Tryd.underlying3 Tryd.underlying54 rfl rfl rfl rfl (by decide) HM2.out (by decide) ?_
                                intro w3_ hi3 hg3
                                have HM3 := Lib.hid hi3
                                have hS4 : (fun w' : World => w'.cell? ⟨b6, 0, none⟩ = some (.int .i64 mn) ∧ w'.cell? ⟨b6, 1, none⟩ = some (.int .i64 mx)) w3_ := ⟨Kit.cell_grown hS3.1 hg3 hne6, Kit.cell_grown hS3.2 hg3 hne6⟩
                                have HG3 := Lib.hid hg3
                                clear hi3 hg3
                                refine ⟨hS4, ?_⟩
                                refine Kit.take2 (i := 14) (v := .map (some W9.heap.size)) (some 186) rfl rfl (by kernel_rfl) (by kernel_rfl) (by kernel_rfl) (fun _ d _ _ h => by cases d <;> exact h) (Or.inl ⟨by rfl, fun w hw => by go_simp⟩) hS4 ?_
                                (try simp only [Act.put, List.setIfInBounds_toArray, List.set_cons_zero, List.set_cons_succ])
                                refine Kit.take2 (i := 15) (v := .map (some W9.heap.size)) (some 21) rfl rfl (by kernel_rfl) (by kernel_rfl) (by kernel_rfl) (fun _ d _ _ h => by cases d <;> exact h) (Or.inl ⟨by rfl, fun w hw => by go_simp⟩) hS4 ?_
                                (try simp only [Act.put, List.setIfInBounds_toArray, List.set_cons_zero, List.set_cons_succ])
                                refine wpAnyH_done (by kernel_rfl) ?_ _
                                go_wp2_with fail
                                go_meet
                                case rel => exact ⟨_, _, rfl, HM3.out, ⟨by simp, by simp, by simp⟩, ((((Below.refl W9.heap.size W9).drew.alloc (Nat.le_refl _) _).grown HG1.out (by simp) (fun k hk => by cases hk; exact Nat.le_refl _)).grown HG2.out (by have := HG1.out.size; simp at this; omega) (fun k hk => by cases hk; exact Nat.le_refl _)).grown HG3.out (by have := HG1.out.size; have := HG2.out.size; simp at *; omega) (fun k hk => by cases hk; exact Nat.le_refl _)⟩
                            · refine Kit.wpOp_insert_imap (k := 3) (xs := 2) (val := .bool (mn == 2 && mx == 7)) rfl rfl rfl rfl Tryd.underlying3 Tryd.underlying54 rfl rfl rfl rfl (by decide) HM0.out (by decide) ?_
                              intro w1_ hi1 hg1
                              have HM1 := Lib.hid hi1
                              have hS2 : (fun w' : World => w'.cell? ⟨b6, 0, none⟩ = some (.int .i64 mn) ∧ w'.cell? ⟨b6, 1, none⟩ = some (.int .i64 mx)) w1_ := ⟨Kit.cell_grown hS1.1 hg1 hne6, Kit.cell_grown hS1.2 hg1 hne6⟩
                              have HG1 := Lib.hid hg1
                              clear hi1 hg1
                              refine ⟨hS2, ?_⟩
                              refine wpAnyH_all (rs := [2, 13]) (by kernel_rfl) (by simp) fun i hi => ?_
                              rcases (show i = 2 ∨ i = 13 by simpa using hi) with rfl | rfl
                              · refine Kit.wpOp_insert_imap (k := 3) (xs := 1) (val := .bool c) rfl rfl rfl rfl Tryd.underlying3 Tryd.underlying54 rfl rfl rfl rfl (by decide) HM1.out (by decide) ?_
                                intro w2_ hi2 hg2
                                have HM2 := Lib.hid hi2
                                have hS3 : (fun w' : World => w'.cell? ⟨b6, 0, none⟩ = some (.int .i64 mn) ∧ w'.cell? ⟨b6, 1, none⟩ = some (.int .i64 mx)) w2_ := ⟨Kit.cell_grown hS2.1 hg2 hne6, Kit.cell_grown hS2.2 hg2 hne6⟩
                                have HG2 := Lib.hid hg2
                                clear hi2 hg2
                                refine ⟨hS3, ?_⟩
                                refine wpAnyH_all (rs := [13]) (by kernel_rfl) (by simp) fun i hi => ?_
                                obtain rfl : i = 13 := by simpa using hi
                                refine Kit.wpOp_insert_imap (k := 3) (xs := 4) (val := .bool (mn == 7 && mx == 8)) rfl rfl rfl rfl Tryd.underlying3 Tryd.underlying54 rfl rfl rfl rfl (by decide) HM2.out (by decide) ?_
                                intro w3_ hi3 hg3
                                have HM3 := Lib.hid hi3
                                have hS4 : (fun w' : World => w'.cell? ⟨b6, 0, none⟩ = some (.int .i64 mn) ∧ w'.cell? ⟨b6, 1, none⟩ = some (.int .i64 mx)) w3_ := ⟨Kit.cell_grown hS3.1 hg3 hne6, Kit.cell_grown hS3.2 hg3 hne6⟩
                                have HG3 := Lib.hid hg3
                                clear hi3 hg3
                                refine ⟨hS4, ?_⟩
                                refine Kit.take2 (i := 14) (v := .map (some W9.heap.size)) (some 186) rfl rfl (by kernel_rfl) (by kernel_rfl) (by kernel_rfl) (fun _ d _ _ h => by cases d <;> exact h) (Or.inl ⟨by rfl, fun w hw => by go_simp⟩) hS4 ?_
                                (try simp only [Act.put, List.setIfInBounds_toArray, List.set_cons_zero, List.set_cons_succ])
                                refine Kit.take2 (i := 15) (v := .map (some W9.heap.size)) (some 21) rfl rfl (by kernel_rfl) (by kernel_rfl) (by kernel_rfl) (fun _ d _ _ h => by cases d <;> exact h) (Or.inl ⟨by rfl, fun w hw => by go_simp⟩) hS4 ?_
                                (try simp only [Act.put, List.setIfInBounds_toArray, List.set_cons_zero, List.set_cons_succ])
                                refine wpAnyH_done (by kernel_rfl) ?_ _
                                go_wp2_with fail
                                go_meet
                                case rel => exact ⟨_, _, rfl, HM3.out, ⟨by simp, by simp, by simp⟩, ((((Below.refl W9.heap.size W9).drew.alloc (Nat.le_refl _) _).grown HG1.out (by simp) (fun k hk => by cases hk; exact Nat.le_refl _)).grown HG2.out (by have := HG1.out.size; simp at this; omega) (fun k hk => by cases hk; exact Nat.le_refl _)).grown HG3.out (by have := HG1.out.size; have := HG2.out.size; simp at *; omega) (fun k hk => by cases hk; exact Nat.le_refl _)⟩
                              · refine Kit.wpOp_insert_imap (k := 3) (xs := 4) (val := .bool (mn == 7 && mx == 8)) rfl rfl rfl rfl Tryd.underlying3 Tryd.underlying54 rfl rfl rfl rfl (by decide) HM1.out (by decide) ?_
                                intro w2_ hi2 hg2
                                have HM2 := Lib.hid hi2
                                have hS3 : (fun w' : World => w'.cell? ⟨b6, 0, none⟩ = some (.int .i64 mn) ∧ w'.cell? ⟨b6, 1, none⟩ = some (.int .i64 mx)) w2_ := ⟨Kit.cell_grown hS2.1 hg2 hne6, Kit.cell_grown hS2.2 hg2 hne6⟩
                                have HG2 := Lib.hid hg2
                                clear hi2 hg2
                                refine ⟨hS3, ?_⟩
                                refine wpAnyH_all (rs := [2]) (by kernel_rfl) (by simp) fun i hi => ?_
                                obtain rfl : i = 2 := by simpa using hi
                                refine Kit.wpOp_insert_imap (k := 3) (xs := 1) (val := .bool c) rfl rfl rfl rfl Tryd.underlying3 Tryd.underlying54 rfl rfl rfl rfl (by decide) HM2.out (by decide) ?_
                                intro w3_ hi3 hg3
                                have HM3 := Lib.hid hi3
                                have hS4 : (fun w' : World => w'.cell? ⟨b6, 0, none⟩ = some (.int .i64 mn) ∧ w'.cell? ⟨b6, 1, none⟩ = some (.int .i64 mx)) w3_ := ⟨Kit.cell_grown hS3.1 hg3 hne6, Kit.cell_grown hS3.2 hg3 hne6⟩
                                have HG3 := Lib.hid hg3
                                clear hi3 hg3
                                refine ⟨hS4, ?_⟩
                                refine Kit.take2 (i := 14) (v := .map (some W9.heap.size)) (some 186) rfl rfl (by kernel_rfl) (by kernel_rfl) (by kernel_rfl) (fun _ d _ _ h => by cases d <;> exact h) (Or.inl ⟨by rfl, fun w hw => by go_simp⟩) hS4 ?_
                                (try simp only [Act.put, List.setIfInBounds_toArray, List.set_cons_zero, List.set_cons_succ])
                                refine Kit.take2 (i := 15) (v := .map (some W9.heap.size)) (some 21) rfl rfl (by kernel_rfl) (by kernel_rfl) (by kernel_rfl) (fun _ d _ _ h => by cases d <;> exact h) (Or.inl ⟨by rfl, fun w hw => by go_simp⟩) hS4 ?_
                                (try simp only [Act.put, List.setIfInBounds_toArray, List.set_cons_zero, List.set_cons_succ])
                                refine wpAnyH_done (by kernel_rfl) ?_ _
                                go_wp2_with fail
                                go_meet
                                case rel => exact ⟨_, _, rfl, HM3.out, ⟨by simp, by simp, by simp⟩, ((((Below.refl W9.heap.size W9).drew.alloc (Nat.le_refl _) _).grown HG1.out (by simp) (fun k hk => by cases hk; exact Nat.le_refl _)).grown HG2.out (by have := HG1.out.size; simp at this; omega) (fun k hk => by cases hk; exact Nat.le_refl _)).grown HG3.out (by have := HG1.out.size; have := HG2.out.size; simp at *; omega) (fun k hk => by cases hk; exact Nat.le_refl _)⟩
                            · refine Kit.wpOp_insert_imap (k := 3) (xs := 4) (val := .bool (mn == 7 && mx == 8)) rfl rfl rfl rfl Tryd.underlying3 Tryd.underlying54 rfl rfl rfl rfl (by decide) HM0.out (by decide) ?_
                              intro w1_ hi1 hg1
                              have HM1 := Lib.hid hi1
                              have hS2 : (fun w' : World => w'.cell? ⟨b6, 0, none⟩ = some (.int .i64 mn) ∧ w'.cell? ⟨b6, 1, none⟩ = some (.int .i64 mx)) w1_ := ⟨Kit.cell_grown hS1.1 hg1 hne6, Kit.cell_grown hS1.2 hg1 hne6⟩
                              have HG1 := Lib.hid hg1
                              clear hi1 hg1
                              refine ⟨hS2, ?_⟩
                              refine wpAnyH_all (rs := [2, 9]) (by kernel_rfl) (by simp) fun i hi => ?_
                              rcases (show i = 2 ∨ i = 9 by simpa using hi) with rfl | rfl
                              · refine Kit.wpOp_insert_imap (k := 3) (xs := 1) (val := .bool c) rfl rfl rfl rfl Tryd.underlying3 Tryd.underlying54 rfl rfl rfl rfl (by decide) HM1.out (by decide) ?_
                                intro w2_ hi2 hg2
                                have HM2 := Lib.hid hi2
                                have hS3 : (fun w' : World => w'.cell? ⟨b6, 0, none⟩ = some (.int .i64 mn) ∧ w'.cell? ⟨b6, 1, none⟩ = some (.int .i64 mx)) w2_ := ⟨Kit.cell_grown hS2.1 hg2 hne6, Kit.cell_grown hS2.2 hg2 hne6⟩
                                have HG2 := Lib.hid hg2
                                clear hi2 hg2
                                refine ⟨hS3, ?_⟩
                                refine wpAnyH_all (rs := [9]) (by kernel_rfl) (by simp) fun i hi => ?_
                                obtain rfl : i = 9 := by simpa using hi
                                refine Kit.wpOp_insert_imap (k := 3) (xs := 2) (val := .bool (mn == 2 && mx == 7)) rfl rfl rfl rfl Tryd.underlying3 Tryd.underlying54 rfl rfl rfl rfl (by decide) HM2.out (by decide) ?_
                                intro w3_ hi3 hg3
                                have HM3 := Lib.hid hi3
                                have hS4 : (fun w' : World => w'.cell? ⟨b6, 0, none⟩ = some (.int .i64 mn) ∧ w'.cell? ⟨b6, 1, none⟩ = some (.int .i64 mx)) w3_ := ⟨Kit.cell_grown hS3.1 hg3 hne6, Kit.cell_grown hS3.2 hg3 hne6⟩
                                have HG3 := Lib.hid hg3
                                clear hi3 hg3
                                refine ⟨hS4, ?_⟩
                                refine Kit.take2 (i := 14) (v := .map (some W9.heap.size)) (some 186) rfl rfl (by kernel_rfl) (by kernel_rfl) (by kernel_rfl) (fun _ d _ _ h => by cases d <;> exact h) (Or.inl ⟨by rfl, fun w hw => by go_simp⟩) hS4 ?_
                                (try simp only [Act.put, List.setIfInBounds_toArray, List.set_cons_zero, List.set_cons_succ])
                                refine Kit.take2 (i := 15) (v := .map (some W9.heap.size)) (some 21) rfl rfl (by kernel_rfl) (by kernel_rfl) (by kernel_rfl) (fun _ d _ _ h => by cases d <;> exact h) (Or.inl ⟨by rfl, fun w hw => by go_simp⟩) hS4 ?_
                                (try simp only [Act.put, List.setIfInBounds_toArray, List.set_cons_zero, List.set_cons_succ])
                                refine wpAnyH_done (by kernel_rfl) ?_ _
                                go_wp2_with fail
                                go_meet
                                case rel => exact ⟨_, _, rfl, HM3.out, ⟨by simp, by simp, by simp⟩, ((((Below.refl W9.heap.size W9).drew.alloc (Nat.le_refl _) _).grown HG1.out (by simp) (fun k hk => by cases hk; exact Nat.le_refl _)).grown HG2.out (by have := HG1.out.size; simp at this; omega) (fun k hk => by cases hk; exact Nat.le_refl _)).grown HG3.out (by have := HG1.out.size; have := HG2.out.size; simp at *; omega) (fun k hk => by cases hk; exact Nat.le_refl _)⟩
                              · refine Kit.wpOp_insert_imap (k := 3) (xs := 2) (val := .bool (mn == 2 && mx == 7)) rfl rfl rfl rfl Tryd.underlying3 Tryd.underlying54 rfl rfl rfl rfl (by decide) HM1.out (by decide) ?_
                                intro w2_ hi2 hg2
                                have HM2 := Lib.hid hi2
                                have hS3 : (fun w' : World => w'.cell? ⟨b6, 0, none⟩ = some (.int .i64 mn) ∧ w'.cell? ⟨b6, 1, none⟩ = some (.int .i64 mx)) w2_ := ⟨Kit.cell_grown hS2.1 hg2 hne6, Kit.cell_grown hS2.2 hg2 hne6⟩
                                have HG2 := Lib.hid hg2
                                clear hi2 hg2
                                refine ⟨hS3, ?_⟩
                                refine wpAnyH_all (rs := [2]) (by kernel_rfl) (by simp) fun i hi => ?_
                                obtain rfl : i = 2 := by simpa using hi
                                refine Kit.wpOp_insert_imap (k := 3) (xs := 1) (val := .bool c) rfl rfl rfl rfl Tryd.underlying3 Tryd.underlying54 rfl rfl rfl rfl (by decide) HM2.out (by decide) ?_
                                intro w3_ hi3 hg3
                                have HM3 := Lib.hid hi3
                                have hS4 : (fun w' : World => w'.cell? ⟨b6, 0, none⟩ = some (.int .i64 mn) ∧ w'.cell? ⟨b6, 1, none⟩ = some (.int .i64 mx)) w3_ := ⟨Kit.cell_grown hS3.1 hg3 hne6, Kit.cell_grown hS3.2 hg3 hne6⟩
                                have HG3 := Lib.hid hg3
                                clear hi3 hg3
                                refine ⟨hS4, ?_⟩
                                refine Kit.take2 (i := 14) (v := .map (some W9.heap.size)) (some 186) rfl rfl (by kernel_rfl) (by kernel_rfl) (by kernel_rfl) (fun _ d _ _ h => by cases d <;> exact h) (Or.inl ⟨by rfl, fun w hw => by go_simp⟩) hS4 ?_
                                (try simp only [Act.put, List.setIfInBounds_toArray, List.set_cons_zero, List.set_cons_succ])
                                refine Kit.take2 (i := 15) (v := .map (some W9.heap.size)) (some 21) rfl rfl (by kernel_rfl) (by kernel_rfl) (by kernel_rfl) (fun _ d _ _ h => by cases d <;> exact h) (Or.inl ⟨by rfl, fun w hw => by go_simp⟩) hS4 ?_
                                (try simp only [Act.put, List.setIfInBounds_toArray, List.set_cons_zero, List.set_cons_succ])
                                refine wpAnyH_done (by kernel_rfl) ?_ _
                                go_wp2_with fail
                                go_meet
                                case rel => exact ⟨_, _, rfl, HM3.out, ⟨by simp, by simp, by simp⟩, ((((Below.refl W9.heap.size W9).drew.alloc (Nat.le_refl _) _).grown HG1.out (by simp) (fun k hk => by cases hk; exact Nat.le_refl _)).grown HG2.out (by have := HG1.out.size; simp at this; omega) (fun k hk => by cases hk; exact Nat.le_refl _)).grown HG3.out (by have := HG1.out.size; have := HG2.out.size; simp at *; omega) (fun k hk => by cases hk; exact Nat.le_refl _)⟩
                          · refine wp_region_held (S := (fun w' : World => w'.cell? ⟨b6, 0, none⟩ = some (.int .i64 mn) ∧ w'.cell? ⟨b6, 1, none⟩ = some (.int .i64 mx))) (by kernel_rfl) ?_
                            have hS : (fun w' : World => w'.cell? ⟨b6, 0, none⟩ = some (.int .i64 mn) ∧ w'.cell? ⟨b6, 1, none⟩ = some (.int .i64 mx)) ({ W9 with drawn := W9.drawn + 1 } : World) := ⟨hk0, hk1⟩
                            refine Kit.take2 (i := 1) (v := .bool c) (some 176) rfl rfl (by kernel_rfl) (by kernel_rfl) (by kernel_rfl) (fun _ d _ _ h => by cases d <;> exact h) (Or.inl ⟨by rfl, fun w hw => by go_simp⟩) hS ?_
                            (try simp only [Act.put, List.setIfInBounds_toArray, List.set_cons_zero, List.set_cons_succ])
                            refine Kit.take2 (i := 3) (v := .bool true) (some 177) rfl rfl (by kernel_rfl) (by kernel_rfl) (by kernel_rfl) (fun _ d _ _ h => by cases d <;> exact h) (Or.inl ⟨by rfl, fun w hw => by go_simp⟩) hS ?_
                            (try simp only [Act.put, List.setIfInBounds_toArray, List.set_cons_zero, List.set_cons_succ])
                            refine Kit.take2 (i := 4) (v := .bool true) (some 178) rfl rfl (by kernel_rfl) (by kernel_rfl) (by kernel_rfl) (fun _ d _ _ h => by cases d <;> exact h) (Or.inl ⟨by rfl, fun w hw => by go_simp⟩) hS ?_
                            (try simp only [Act.put, List.setIfInBounds_toArray, List.set_cons_zero, List.set_cons_succ])
                            refine Kit.take2 (i := 5) (v := undef) (some 179) rfl rfl (by kernel_rfl) (by kernel_rfl) (by kernel_rfl) (fun _ d _ _ h => by cases d <;> exact h) (Or.inr ⟨by rfl, rfl⟩) hS ?_
                            (try simp only [Act.put, List.setIfInBounds_toArray, List.set_cons_zero, List.set_cons_succ])
                            refine Kit.take2 (i := 6) (v := undef) (some 180) rfl rfl (by kernel_rfl) (by kernel_rfl) (by kernel_rfl) (fun _ d _ _ h => by cases d <;> exact h) (Or.inr ⟨by rfl, rfl⟩) hS ?_
                            (try simp only [Act.put, List.setIfInBounds_toArray, List.set_cons_zero, List.set_cons_succ])
                            refine Kit.take2 (i := 7) (v := undef) (some 181) rfl rfl (by kernel_rfl) (by kernel_rfl) (by kernel_rfl) (fun _ d _ _ h => by cases d <;> exact h) (Or.inr ⟨by rfl, rfl⟩) hS ?_
                            (try simp only [Act.put, List.setIfInBounds_toArray, List.set_cons_zero, List.set_cons_succ])
                            refine Kit.take2 (i := 8) (v := .bool true) (some 182) rfl rfl (by kernel_rfl) (by kernel_rfl) (by kernel_rfl) (fun _ d _ _ h => by cases d <;> exact h) (Or.inl ⟨by rfl, fun w hw => by go_simp⟩) hS ?_
                            (try simp only [Act.put, List.setIfInBounds_toArray, List.set_cons_zero, List.set_cons_succ])
                            refine Kit.take2 (i := 10) (v := .agg #[.int .i64 mn, .int .i64 mx]) (some 183) rfl rfl (by kernel_rfl) (by kernel_rfl) (by kernel_rfl) (fun _ d _ _ h => by cases d <;> exact h) (Or.inl ⟨by rfl, fun w hw => by (obtain ⟨hw0, hw1⟩ := hw; go_simp)⟩) hS ?_
                            (try simp only [Act.put, List.setIfInBounds_toArray, List.set_cons_zero, List.set_cons_succ])
                            refine Kit.take2 (i := 11) (v := .agg #[.int .i64 7, .int .i64 8]) (some 184) rfl rfl (by kernel_rfl) (by kernel_rfl) (by kernel_rfl) (fun _ d _ _ h => by cases d <;> exact h) (Or.inl ⟨by rfl, fun w hw => by go_simp⟩) hS ?_
                            (try simp only [Act.put, List.setIfInBounds_toArray, List.set_cons_zero, List.set_cons_succ])
                            refine Kit.take2 (i := 12) (v := .bool (mn == 7 && mx == 8)) (some 185) rfl rfl (by kernel_rfl) (by kernel_rfl) (by kernel_rfl) (fun _ d _ _ h => by cases d <;> exact h) (Or.inl ⟨by rfl, fun w hw => by (have heq := Heq; go_simp)⟩) hS ?_
                            (try simp only [Act.put, List.setIfInBounds_toArray, List.set_cons_zero, List.set_cons_succ])
                            refine wpAnyH_all (rs := [0]) (by kernel_rfl) (by simp) fun i hi => ?_
                            obtain rfl : i = 0 := by simpa using hi
                            refine Kit.wpOp_value2 (v := .map (some W9.heap.size)) (some 175) rfl rfl rfl (by simp [execOp, Sem.run_bind, run_makeMap, Result.andThen]; rfl) ?_
                            have HM0 := Lib.hid (Kit.IMap.made Tryd.prog 3 (.bool false) (.lit (.bool false)) rfl ({ W9 with drawn := W9.drawn + 1 } : World))
                            have hS1 : (fun w' : World => w'.cell? ⟨b6, 0, none⟩ = some (.int .i64 mn) ∧ w'.cell? ⟨b6, 1, none⟩ = some (.int .i64 mx)) (({ W9 with drawn := W9.drawn + 1 } : World).alloc (.map #[] 0)) := ⟨(World.cell?_alloc_some _ _ _ (by rw [hS.1]; rfl)).trans hS.1, (World.cell?_alloc_some _ _ _ (by rw [hS.2]; rfl)).trans hS.2⟩
                            refine ⟨hS1, ?_⟩
                            (try simp only [Act.put, List.setIfInBounds_toArray, List.set_cons_zero, List.set_cons_succ])
                            refine wpAnyH_all (rs := [2, 9, 13]) (by kernel_rfl) (by simp) fun i hi => ?_
                            rcases (show i = 2 ∨ i = 9 ∨ i = 13 by simpa using hi) with rfl | rfl | rfl
                            · refine Kit.wpOp_insert_imap (k := 3) (xs := 1) (val := .bool c) rfl rfl rfl rfl Tryd.underlying3 Tryd.underlying54 rfl rfl rfl rfl (by decide) HM0.out (by decide) ?_
                              intro w1_ hi1 hg1
                              have HM1 := Lib.hid hi1
                              have hS2 : (fun w' : World => w'.cell? ⟨b6, 0, none⟩ = some (.int .i64 mn) ∧ w'.cell? ⟨b6, 1, none⟩ = some (.int .i64 mx)) w1_ := ⟨Kit.cell_grown hS1.1 hg1 hne6, Kit.cell_grown hS1.2 hg1 hne6⟩
                              have HG1 := Lib.hid hg1
                              clear hi1 hg1
                              refine ⟨hS2, ?_⟩
                              refine wpAnyH_all (rs := [9, 13]) (by kernel_rfl) (by simp) fun i hi => ?_
                              rcases (show i = 9 ∨ i = 13 by simpa using hi) with rfl | rfl
                              · refine Kit.wpOp_insert_imap (k := 3) (xs := 2) (val := .bool true) rfl rfl rfl rfl Tryd.underlying3 Tryd.underlying54 rfl rfl rfl rfl (by decide) HM1.out (by decide) ?_
                                intro w2_ hi2 hg2
                                have HM2 := Lib.hid hi2
                                have hS3 : (fun w' : World => w'.cell? ⟨b6, 0, none⟩ = some (.int .i64 mn) ∧ w'.cell? ⟨b6, 1, none⟩ = some (.int .i64 mx)) w2_ := ⟨Kit.cell_grown hS2.1 hg2 hne6, Kit.cell_grown hS2.2 hg2 hne6⟩
                                have HG2 := Lib.hid hg2
                                clear hi2 hg2
                                refine ⟨hS3, ?_⟩
                                refine wpAnyH_all (rs := [13]) (by kernel_rfl) (by simp) fun i hi => ?_
                                obtain rfl : i = 13 := by simpa using hi
                                refine Kit.wpOp_insert_imap (k := 3) (xs := 4) (val := .bool (mn == 7 && mx == 8)) rfl rfl rfl rfl Tryd.underlying3 Tryd.underlying54 rfl rfl rfl rfl (by decide) HM2.out (by decide) ?_
                                intro w3_ hi3 hg3
                                have HM3 := Lib.hid hi3
                                have hS4 : (fun w' : World => w'.cell? ⟨b6, 0, none⟩ = some (.int .i64 mn) ∧ w'.cell? ⟨b6, 1, none⟩ = some (.int .i64 mx)) w3_ := ⟨Kit.cell_grown hS3.1 hg3 hne6, Kit.cell_grown hS3.2 hg3 hne6⟩
                                have HG3 := Lib.hid hg3
                                clear hi3 hg3
                                refine ⟨hS4, ?_⟩
                                refine Kit.take2 (i := 14) (v := .map (some W9.heap.size)) (some 186) rfl rfl (by kernel_rfl) (by kernel_rfl) (by kernel_rfl) (fun _ d _ _ h => by cases d <;> exact h) (Or.inl ⟨by rfl, fun w hw => by go_simp⟩) hS4 ?_
                                (try simp only [Act.put, List.setIfInBounds_toArray, List.set_cons_zero, List.set_cons_succ])
                                refine Kit.take2 (i := 15) (v := .map (some W9.heap.size)) (some 21) rfl rfl (by kernel_rfl) (by kernel_rfl) (by kernel_rfl) (fun _ d _ _ h => by cases d <;> exact h) (Or.inl ⟨by rfl, fun w hw => by go_simp⟩) hS4 ?_
                                (try simp only [Act.put, List.setIfInBounds_toArray, List.set_cons_zero, List.set_cons_succ])
                                refine wpAnyH_done (by kernel_rfl) ?_ _
                                go_wp2_with fail
                                go_meet
                                case rel => exact ⟨_, _, rfl, HM3.out, ⟨by simp, by simp, by simp⟩, ((((Below.refl W9.heap.size W9).drew.alloc (Nat.le_refl _) _).grown HG1.out (by simp) (fun k hk => by cases hk; exact Nat.le_refl _)).grown HG2.out (by have := HG1.out.size; simp at this; omega) (fun k hk => by cases hk; exact Nat.le_refl _)).grown HG3.out (by have := HG1.out.size; have := HG2.out.size; simp at *; omega) (fun k hk => by cases hk; exact Nat.le_refl _)⟩
                              · refine Kit.wpOp_insert_imap (k := 3) (xs := 4) (val := .bool (mn == 7 && mx == 8)) rfl rfl rfl rfl Tryd.underlying3 Tryd.underlying54 rfl rfl rfl rfl (by decide) HM1.out (by decide) ?_
                                intro w2_ hi2 hg2
                                have HM2 := Lib.hid hi2
                                have hS3 : (fun w' : World => w'.cell? ⟨b6, 0, none⟩ = some (.int .i64 mn) ∧ w'.cell? ⟨b6, 1, none⟩ = some (.int .i64 mx)) w2_ := ⟨Kit.cell_grown hS2.1 hg2 hne6, Kit.cell_grown hS2.2 hg2 hne6⟩
                                have HG2 := Lib.hid hg2
                                clear hi2 hg2
                                refine ⟨hS3, ?_⟩
                                refine wpAnyH_all (rs := [9]) (by kernel_rfl) (by simp) fun i hi => ?_
                                obtain rfl : i = 9 := by simpa using hi
                                refine Kit.wpOp_insert_imap (k := 3) (xs := 2) (val := .bool true) rfl rfl rfl rfl Tryd.underlying3 Tryd.underlying54 rfl rfl rfl rfl (by decide) HM2.out (by decide) ?_
                                intro w3_ hi3 hg3
                                have HM3 := Lib.hid hi3
                                have hS4 : (fun w' : World => w'.cell? ⟨b6, 0, none⟩ = some (.int .i64 mn) ∧ w'.cell? ⟨b6, 1, none⟩ = some (.int .i64 mx)) w3_ := ⟨Kit.cell_grown hS3.1 hg3 hne6, Kit.cell_grown hS3.2 hg3 hne6⟩
                                have HG3 := Lib.hid hg3
                                clear hi3 hg3
                                refine ⟨hS4, ?_⟩
                                refine Kit.take2 (i := 14) (v := .map (some W9.heap.size)) (some 186) rfl rfl (by kernel_rfl) (by kernel_rfl) (by kernel_rfl) (fun _ d _ _ h => by cases d <;> exact h) (Or.inl ⟨by rfl, fun w hw => by go_simp⟩) hS4 ?_
                                (try simp only [Act.put, List.setIfInBounds_toArray, List.set_cons_zero, List.set_cons_succ])
                                refine Kit.take2 (i := 15) (v := .map (some W9.heap.size)) (some 21) rfl rfl (by kernel_rfl) (by kernel_rfl) (by kernel_rfl) (fun _ d _ _ h => by cases d <;> exact h) (Or.inl ⟨by rfl, fun w hw => by go_simp⟩) hS4 ?_
                                (try simp only [Act.put, List.setIfInBounds_toArray, List.set_cons_zero, List.set_cons_succ])
                                refine wpAnyH_done (by kernel_rfl) ?_ _
                                go_wp2_with fail
                                go_meet
                                case rel => exact ⟨_, _, rfl, HM3.out, ⟨by simp, by simp, by simp⟩, ((((Below.refl W9.heap.size W9).drew.alloc (Nat.le_refl _) _).grown HG1.out (by simp) (fun k hk => by cases hk; exact Nat.le_refl _)).grown HG2.out (by have := HG1.out.size; simp at this; omega) (fun k hk => by cases hk; exact Nat.le_refl _)).grown HG3.out (by have := HG1.out.size; have := HG2.out.size; simp at *; omega) (fun k hk => by cases hk; exact Nat.le_refl _)⟩
                            · refine Kit.wpOp_insert_imap (k := 3) (xs := 2) (val := .bool true) rfl rfl rfl rfl Tryd.underlying3 Tryd.underlying54 rfl rfl rfl rfl (by decide) HM0.out (by decide) ?_
                              intro w1_ hi1 hg1
                              have HM1 := Lib.hid hi1
                              have hS2 : (fun w' : World => w'.cell? ⟨b6, 0, none⟩ = some (.int .i64 mn) ∧ w'.cell? ⟨b6, 1, none⟩ = some (.int .i64 mx)) w1_ := ⟨Kit.cell_grown hS1.1 hg1 hne6, Kit.cell_grown hS1.2 hg1 hne6⟩
                              have HG1 := Lib.hid hg1
                              clear hi1 hg1
                              refine ⟨hS2, ?_⟩
                              refine wpAnyH_all (rs := [2, 13]) (by kernel_rfl) (by simp) fun i hi => ?_
                              rcases (show i = 2 ∨ i = 13 by simpa using hi) with rfl | rfl
                              · refine Kit.wpOp_insert_imap (k := 3) (xs := 1) (val := .bool c) rfl rfl rfl rfl Tryd.underlying3 Tryd.underlying54 rfl rfl rfl rfl (by decide) HM1.out (by decide) ?_
                                intro w2_ hi2 hg2
                                have HM2 := Lib.hid hi2
                                have hS3 : (fun w' : World => w'.cell? ⟨b6, 0, none⟩ = some (.int .i64 mn) ∧ w'.cell? ⟨b6, 1, none⟩ = some (.int .i64 mx)) w2_ := ⟨Kit.cell_grown hS2.1 hg2 hne6, Kit.cell_grown hS2.2 hg2 hne6⟩
                                have HG2 := Lib.hid hg2
                                clear hi2 hg2
                                refine ⟨hS3, ?_⟩
                                refine wpAnyH_all (rs := [13]) (by kernel_rfl) (by simp) fun i hi => ?_
                                obtain rfl : i = 13 := by simpa using hi
                                refine Kit.wpOp_insert_imap (k := 3) (xs := 4) (val := .bool (mn == 7 && mx == 8)) rfl rfl rfl rfl Tryd.underlying3 Tryd.underlying54 rfl rfl rfl rfl (by decide) HM2.out (by decide) ?_
                                intro w3_ hi3 hg3
                                have HM3 := Lib.hid hi3
                                have hS4 : (fun w' : World => w'.cell? ⟨b6, 0, none⟩ = some (.int .i64 mn) ∧ w'.cell? ⟨b6, 1, none⟩ = some (.int .i64 mx)) w3_ := ⟨Kit.cell_grown hS3.1 hg3 hne6, Kit.cell_grown hS3.2 hg3 hne6⟩
                                have HG3 := Lib.hid hg3
                                clear hi3 hg3
                                refine ⟨hS4, ?_⟩
                                refine Kit.take2 (i := 14) (v := .map (some W9.heap.size)) (some 186) rfl rfl (by kernel_rfl) (by kernel_rfl) (by kernel_rfl) (fun _ d _ _ h => by cases d <;> exact h) (Or.inl ⟨by rfl, fun w hw => by go_simp⟩) hS4 ?_
                                (try simp only [Act.put, List.setIfInBounds_toArray, List.set_cons_zero, List.set_cons_succ])
                                refine Kit.take2 (i := 15) (v := .map (some W9.heap.size)) (some 21) rfl rfl (by kernel_rfl) (by kernel_rfl) (by kernel_rfl) (fun _ d _ _ h => by cases d <;> exact h) (Or.inl ⟨by rfl, fun w hw => by go_simp⟩) hS4 ?_
                                (try simp only [Act.put, List.setIfInBounds_toArray, List.set_cons_zero, List.set_cons_succ])
                                refine wpAnyH_done (by kernel_rfl) ?_ _
                                go_wp2_with fail
                                go_meet
                                case rel => exact ⟨_, _, rfl, HM3.out, ⟨by simp, by simp, by simp⟩, ((((Below.refl W9.heap.size W9).drew.alloc (Nat.le_refl _) _).grown HG1.out (by simp) (fun k hk => by cases hk; exact Nat.le_refl _)).grown HG2.out (by have := HG1.out.size; simp at this; omega) (fun k hk => by cases hk; exact Nat.le_refl _)).grown HG3.out (by have := HG1.out.size; have := HG2.out.size; simp at *; omega) (fun k hk => by cases hk; exact Nat.le_refl _)⟩
                              · refine Kit.wpOp_insert_imap (k := 3) (xs := 4) (val := .bool (mn == 7 && mx == 8)) rfl rfl rfl rfl Tryd.underlying3 Tryd.underlying54 rfl rfl rfl rfl (by decide) HM1.out (by decide) ?_
                                intro w2_ hi2 hg2
                                have HM2 := Lib.hid hi2
                                have hS3 : (fun w' : World => w'.cell? ⟨b6, 0, none⟩ = some (.int .i64 mn) ∧ w'.cell? ⟨b6, 1, none⟩ = some (.int .i64 mx)) w2_ := ⟨Kit.cell_grown hS2.1 hg2 hne6, Kit.cell_grown hS2.2 hg2 hne6⟩
                                have HG2 := Lib.hid hg2
                                clear hi2 hg2
                                refine ⟨hS3, ?_⟩
                                refine wpAnyH_all (rs := [2]) (by kernel_rfl) (by simp) fun i hi => ?_
                                obtain rfl : i = 2 := by simpa using hi
                                refine Kit.wpOp_insert_imap (k := 3) (xs := 1) (val := .bool c) rfl rfl rfl rfl Tryd.underlying3 Tryd.underlying54 rfl rfl rfl rfl (by decide) HM2.out (by decide) ?_
                                intro w3_ hi3 hg3
                                have HM3 := Lib.hid hi3
                                have hS4 : (fun w' : World => w'.cell? ⟨b6, 0, none⟩ = some (.int .i64 mn) ∧ w'.cell? ⟨b6, 1, none⟩ = some (.int .i64 mx)) w3_ := ⟨Kit.cell_grown hS3.1 hg3 hne6, Kit.cell_grown hS3.2 hg3 hne6⟩
                                have HG3 := Lib.hid hg3
                                clear hi3 hg3
                                refine ⟨hS4, ?_⟩
                                refine Kit.take2 (i := 14) (v := .map (some W9.heap.size)) (some 186) rfl rfl (by kernel_rfl) (by kernel_rfl) (by kernel_rfl) (fun _ d _ _ h => by cases d <;> exact h) (Or.inl ⟨by rfl, fun w hw => by go_simp⟩) hS4 ?_
                                (try simp only [Act.put, List.setIfInBounds_toArray, List.set_cons_zero, List.set_cons_succ])
                                refine Kit.take2 (i := 15) (v := .map (some W9.heap.size)) (some 21) rfl rfl (by kernel_rfl) (by kernel_rfl) (by kernel_rfl) (fun _ d _ _ h => by cases d <;> exact h) (Or.inl ⟨by rfl, fun w hw => by go_simp⟩) hS4 ?_
                                (try simp only [Act.put, List.setIfInBounds_toArray, List.set_cons_zero, List.set_cons_succ])
                                refine wpAnyH_done (by kernel_rfl) ?_ _
                                go_wp2_with fail
                                go_meet
                                case rel => exact ⟨_, _, rfl, HM3.out, ⟨by simp, by simp, by simp⟩, ((((Below.refl W9.heap.size W9).drew.alloc (Nat.le_refl _) _).grown HG1.out (by simp) (fun k hk => by cases hk; exact Nat.le_refl _)).grown HG2.out (by have := HG1.out.size; simp at this; omega) (fun k hk => by cases hk; exact Nat.le_refl _)).grown HG3.out (by have := HG1.out.size; have := HG2.out.size; simp at *; omega) (fun k hk => by cases hk; exact Nat.le_refl _)⟩
                            · refine Kit.wpOp_insert_imap (k := 3) (xs := 4) (val := .bool (mn == 7 && mx == 8)) rfl rfl rfl rfl Tryd.underlying3 Tryd.underlying54 rfl rfl rfl rfl (by decide) HM0.out (by decide) ?_
                              intro w1_ hi1 hg1
                              have HM1 := Lib.hid hi1
                              have hS2 : (fun w' : World => w'.cell? ⟨b6, 0, none⟩ = some (.int .i64 mn) ∧ w'.cell? ⟨b6, 1, none⟩ = some (.int .i64 mx)) w1_ := ⟨Kit.cell_grown hS1.1 hg1 hne6, Kit.cell_grown hS1.2 hg1 hne6⟩
                              have HG1 := Lib.hid hg1
                              clear hi1 hg1
                              refine ⟨hS2, ?_⟩
                              refine wpAnyH_all (rs := [2, 9]) (by kernel_rfl) (by simp) fun i hi => ?_
                              rcases (show i = 2 ∨ i = 9 by simpa using hi) with rfl | rfl
                              · refine Kit.wpOp_insert_imap (k := 3) (xs := 1) (val := .bool c) rfl rfl rfl rfl Tryd.underlying3 Tryd.underlying54 rfl rfl rfl rfl (by decide) HM1.out (by decide) ?_
                                intro w2_ hi2 hg2
                                have HM2 := Lib.hid hi2
                                have hS3 : (fun w' : World => w'.cell? ⟨b6, 0, none⟩ = some (.int .i64 mn) ∧ w'.cell? ⟨b6, 1, none⟩ = some (.int .i64 mx)) w2_ := ⟨Kit.cell_grown hS2.1 hg2 hne6, Kit.cell_grown hS2.2 hg2 hne6⟩
                                have HG2 := Lib.hid hg2
                                clear hi2 hg2
                                refine ⟨hS3, ?_⟩
                                refine wpAnyH_all (rs := [9]) (by kernel_rfl) (by simp) fun i hi => ?_
                                obtain rfl : i = 9 := by simpa using hi
                                refine Kit.wpOp_insert_imap (k := 3) (xs := 2) (val := .bool true) rfl rfl rfl rfl Tryd.underlying3 Tryd.underlying54 rfl rfl rfl rfl (by decide) HM2.out (by decide) ?_
                                intro w3_ hi3 hg3
                                have HM3 := Lib.hid hi3
                                have hS4 : (fun w' : World => w'.cell? ⟨b6, 0, none⟩ = some (.int .i64 mn) ∧ w'.cell? ⟨b6, 1, none⟩ = some (.int .i64 mx)) w3_ := ⟨Kit.cell_grown hS3.1 hg3 hne6, Kit.cell_grown hS3.2 hg3 hne6⟩
                                have HG3 := Lib.hid hg3
                                clear hi3 hg3
                                refine ⟨hS4, ?_⟩
                                refine Kit.take2 (i := 14) (v := .map (some W9.heap.size)) (some 186) rfl rfl (by kernel_rfl) (by kernel_rfl) (by kernel_rfl) (fun _ d _ _ h => by cases d <;> exact h) (Or.inl ⟨by rfl, fun w hw => by go_simp⟩) hS4 ?_
                                (try simp only [Act.put, List.setIfInBounds_toArray, List.set_cons_zero, List.set_cons_succ])
                                refine Kit.take2 (i := 15) (v := .map (some W9.heap.size)) (some 21) rfl rfl (by kernel_rfl) (by kernel_rfl) (by kernel_rfl) (fun _ d _ _ h => by cases d <;> exact h) (Or.inl ⟨by rfl, fun w hw => by go_simp⟩) hS4 ?_
                                (try simp only [Act.put, List.setIfInBounds_toArray, List.set_cons_zero, List.set_cons_succ])
                                refine wpAnyH_done (by kernel_rfl) ?_ _
                                go_wp2_with fail
                                go_meet
                                case rel => exact ⟨_, _, rfl, HM3.out, ⟨by simp, by simp, by simp⟩, ((((Below.refl W9.heap.size W9).drew.alloc (Nat.le_refl _) _).grown HG1.out (by simp) (fun k hk => by cases hk; exact Nat.le_refl _)).grown HG2.out (by have := HG1.out.size; simp at this; omega) (fun k hk => by cases hk; exact Nat.le_refl _)).grown HG3.out (by have := HG1.out.size; have := HG2.out.size; simp at *; omega) (fun k hk => by cases hk; exact Nat.le_refl _)⟩
                              · refine Kit.wpOp_insert_imap (k := 3) (xs := 2) (val := .bool true) rfl rfl rfl rfl Tryd.underlying3 Tryd.underlying54 rfl rfl rfl rfl (by decide) HM1.out (by decide) ?_
                                intro w2_ hi2 hg2
                                have HM2 := Lib.hid hi2
                                have hS3 : (fun w' : World => w'.cell? ⟨b6, 0, none⟩ = some (.int .i64 mn) ∧ w'.cell? ⟨b6, 1, none⟩ = some (.int .i64 mx)) w2_ := ⟨Kit.cell_grown hS2.1 hg2 hne6, Kit.cell_grown hS2.2 hg2 hne6⟩
                                have HG2 := Lib.hid hg2
                                clear hi2 hg2
                                refine ⟨hS3, ?_⟩
                                refine wpAnyH_all (rs := [2]) (by kernel_rfl) (by simp) fun i hi => ?_
                                obtain rfl : i = 2 := by simpa using hi
                                refine Kit.wpOp_insert_imap (k := 3) (xs := 1) (val := .bool c) rfl rfl rfl rfl Tryd.underlying3 Tryd.underlying54 rfl rfl rfl rfl (by decide) HM2.out (by decide) ?_
                                intro w3_ hi3 hg3
                                have HM3 := Lib.hid hi3
                                have hS4 : (fun w' : World => w'.cell? ⟨b6, 0, none⟩ = some (.int .i64 mn) ∧ w'.cell? ⟨b6, 1, none⟩ = some (.int .i64 mx)) w3_ := ⟨Kit.cell_grown hS3.1 hg3 hne6, Kit.cell_grown hS3.2 hg3 hne6⟩
                                have HG3 := Lib.hid hg3
                                clear hi3 hg3
                                refine ⟨hS4, ?_⟩
                                refine Kit.take2 (i := 14) (v := .map (some W9.heap.size)) (some 186) rfl rfl (by kernel_rfl) (by kernel_rfl) (by kernel_rfl) (fun _ d _ _ h => by cases d <;> exact h) (Or.inl ⟨by rfl, fun w hw => by go_simp⟩) hS4 ?_
                                (try simp only [Act.put, List.setIfInBounds_toArray, List.set_cons_zero, List.set_cons_succ])
                                refine Kit.take2 (i := 15) (v := .map (some W9.heap.size)) (some 21) rfl rfl (by kernel_rfl) (by kernel_rfl) (by kernel_rfl) (fun _ d _ _ h => by cases d <;> exact h) (Or.inl ⟨by rfl, fun w hw => by go_simp⟩) hS4 ?_
                                (try simp only [Act.put, List.setIfInBounds_toArray, List.set_cons_zero, List.set_cons_succ])
                                refine wpAnyH_done (by kernel_rfl) ?_ _
                                go_wp2_with fail
                                go_meet
                                case rel => exact ⟨_, _, rfl, HM3.out, ⟨by simp, by simp, by simp⟩, ((((Below.refl W9.heap.size W9).drew.alloc (Nat.le_refl _) _).grown HG1.out (by simp) (fun k hk => by cases hk; exact Nat.le_refl _)).grown HG2.out (by have := HG1.out.size; simp at this; omega) (fun k hk => by cases hk; exact Nat.le_refl _)).grown HG3.out (by have := HG1.out.size; have := HG2.out.size; simp at *; omega) (fun k hk => by cases hk; exact Nat.le_refl _)⟩
                        case rest =>
                          obtain ⟨B, f, rfl, HIM, HF, HB9m⟩ := hcut
                          obtain ⟨W10, rfl⟩ : ∃ W10, W10 = wc := ⟨_, rfl⟩
                          have CA10 := Lib.hid (CA9.out.kept HB9m.out (Nat.le_refl _))
                          have CB10 := Lib.hid (CB9.out.kept HB9m.out (Nat.le_refl _))
                          have SF10 := Lib.hid (SF9.out.kept HB9m.out (Nat.le_refl _))
                          have HB10 := Lib.hid (HB9.out.trans (HB9m.out.mono HB9.out.size))
                          clear CA9 CB9 SF9 HB9 HB9m Heq CK
                          obtain ⟨sm, hsm⟩ : ∃ sm, sm = Ty.sim a b := ⟨_, rfl⟩
                          rw [← hsm]
                          have HSM := Lib.hid hsm
                          clear hsm
                          have hmm := @run_makeMap Tryd.prog
                          go_wp2_with fail
                          clear hmm
                          refine Kit.wp_name ?_
                          intro W11 hW11
                          have HM11 := Lib.hid (show Kit.IMap Tryd.prog 3 (.bool false) W11 W10.heap.size 0 (fun _ => .bool false) by rw [hW11]; exact Kit.IMap.made _ _ _ (.lit (.bool false)) rfl _)
                          have HB11 := Lib.hid (show Below W10.heap.size W10 W11 by rw [hW11]; exact (Below.refl _ _).alloc (Nat.le_refl _) _)
                          clear hW11
                          have zp10 : 0 < W10.heap.size := by have := HIM.out.lt; omega
                          go_loopw [190] (fun v190 wr => ∃ (k2 n2 : Nat) (g : Int → Value), v190 = .int .i64 k2 ∧ k2 ≤ l.length ∧ n2 ≤ k2 ∧ Hid (Kit.IMap Tryd.prog 3 (.bool false) wr W10.heap.size n2 g) ∧ Hid (∀ k, 1 ≤ k → k ≤ 4 → g k = .bool (Ty.gotK (l.take k2) a.id b.id k)) ∧ Hid (Below W10.heap.size W10 wr))
                            (fun v190 _ => l.length - (intOf v190).toNat)
                          case atStart => exact ⟨0, 0, _, rfl, Nat.zero_le _, Nat.le_refl _, HM11.out, fun k _ _ => by simp [Ty.gotK], HB11.out⟩
                          case round =>
                            obtain ⟨k2, n2, g, rfl, hk2, hn2, HG, HGK, HBR⟩ := hrel
                            by_cases hlt : k2 < l.length
                            · have h := SF10.out.kept HBR.out (Nat.le_refl _)
                              obtain ⟨ad, rfl, had, _⟩ := SF10.out.at hlt
                              have f0 := h.head hlt (by omega)
                              have f1 := h.field hlt (j := 1) (by omega) (by omega)
                              have f2 := h.field hlt (j := 2) (by omega) (by omega)
                              obtain ⟨x, hx⟩ : ∃ x, l.getD k2 (0, 0, 0) = x := ⟨_, rfl⟩
                              have hxi : l[k2]? = some x := by rw [← hx]; simp [List.getD, hlt]
                              have hkd : 1 ≤ x.1 ∧ x.1 ≤ 4 := Ty.kinds HIC.out x (by rw [← HL0.out]; exact List.mem_of_getElem? hxi)
                              have HWX := Lib.hid (Ty.wf_small hkd)
                              have hga : ∀ k, Ty.gotK (l.take (k2 + 1)) a.id b.id k = (Ty.gotK (l.take k2) a.id b.id k || (x.2.1 == a.id && x.2.2 == b.id && x.1 == k)) := fun k => by
                                rw [List.take_add_one, hxi]
                                exact Ty.gotK_snoc _ _ _ _ _
                              have HGA := Lib.hid hga
                              simp only [Ty.f3c, hx] at f0 f1 f2
                              have hadr : (ad.add (k2 * 3)).block < wr.heap.size := by rw [Tp.add_block]; have := HBR.out.size; omega
                              have CAr := CA10.out.kept HBR.out (Nat.le_refl _)
                              have CBr := CB10.out.kept HBR.out (Nat.le_refl _)
                              have za := CAr.1
                              have zb := CBr.1
                              have a0 := CAr.2 0 _ rfl
                              have b0 := CBr.2 0 _ rfl
                              clear h hx hxi hga CAr CBr
                              rcases c1 : (x.2.1 == a.id) with _ | _
                              ·
                                go_wp2
                                go_roundw
                                case rel => exact ⟨k2 + 1, n2, g, by go_num, by omega, by omega, HG.out.alloc _, fun k h1 h4 => (by rw [HGA.out, HGK.out k h1 h4, c1]; simp), HBR.out.alloc HBR.out.size _⟩
                                case measure => simp [intOf]; omega
                              · rcases c2 : (x.2.2 == b.id) with _ | _
                                ·
                                  go_wp2
                                  go_roundw
                                  case rel => exact ⟨k2 + 1, n2, g, by go_num, by omega, by omega, HG.out.alloc _, fun k h1 h4 => (by rw [HGA.out, HGK.out k h1 h4, c1, c2]; simp), HBR.out.alloc HBR.out.size _⟩
                                  case measure => simp [intOf]; omega
                                ·
                                  go_wp2_with (at_mapUpdate; refine Kit.wpList_mapUpdate_imap _ rfl _ _ _ 54 rfl 3 4 Tryd.underlying3 Tryd.underlying54 (.bool false) W10.heap.size n2 g rfl (HG.out.alloc _) (by unfold maxLen; omega) x.1 rfl HWX.out (.bool true) rfl (.lit (.bool true)) rfl ?_; intro w5 hi5 hg5; have HI5 := Lib.hid hi5; have HG5 := Lib.hid hg5; clear hi5 hg5)
                                  go_roundw
                                  case rel => exact ⟨k2 + 1, n2 + 1, _, by go_num, by omega, by omega, HI5.out, fun k h1 h4 => (by
                                    by_cases e : k = x.1
                                    · rw [if_pos e, HGA.out, c1, c2]; simp [e]
                                    · rw [if_neg e, HGA.out, HGK.out k h1 h4, c1, c2]; simp [Ne.symm e]), (HBR.out.alloc HBR.out.size _).grown HG5.out (by simp; have := HBR.out.size; omega) (fun k hk => by cases hk; exact Nat.le_refl _)⟩
                                  case measure => simp [intOf]; omega
                            · obtain rfl : k2 = l.length := by omega
                              rw [List.take_length] at HGK
                              have hwant : ∀ k, (k = 1 ∨ k = 2 ∨ k = 4) → g k = .bool (sm && Ty.wantK a b k) := fun k hk => by
                                rw [HGK.out k (by omega) (by omega), Ty.gotK, HL0.out, Ty.moment_want HIC.out HHR.out HBF.out k hk, HSM.out]
                              have hlift : g 3 = .bool false := by
                                rw [HGK.out 3 (by omega) (by omega), Ty.gotK, HL0.out, Ty.moment_lift HIC.out HBF.out]
                              obtain ⟨X1, X2, X4, hf1, hf2, hf4, hg1, hg2, hg4⟩ : ∃ X1 X2 X4, f 1 = .bool X1 ∧ f 2 = .bool X2 ∧ f 4 = .bool X4 ∧ g 1 = .bool (sm && X1) ∧ g 2 = .bool (sm && X2) ∧ g 4 = .bool (sm && X4) := by
                                refine ⟨Ty.wantK a b 1, Ty.wantK a b 2, Ty.wantK a b 4, ?_, ?_, ?_, hwant 1 (by omega), hwant 2 (by omega), hwant 4 (by omega)⟩
                                · rw [HF.out.1, HCM.out]; rfl
                                · rw [HF.out.2.1, HLG.out, HCM.out, HMN.out.1, HMN.out.2]; rfl
                                · rw [HF.out.2.2, HMN.out.1, HMN.out.2]; rfl
                              have HMr := Lib.hid (HIM.out.kept (HBR.out.block B HIM.out.lt))
                              clear hwant HF HGK HSM HLG HCM HMN HIM
                              go_wp2_with fail
                              refine Kit.wp_name ?_
                              intro W12 hW12
                              have b12 : Below wr.heap.size wr W12 := by rw [hW12]; exact (Below.refl _ _).alloc (Nat.le_refl _) _
                              have CS := Lib.hid (show Ty.Cs W12 wr.heap.size [.int .i64 1, .int .i64 2, .int .i64 4] by rw [hW12]; exact Ty.Cs.top rfl)
                              obtain ⟨b7, hb7⟩ : ∃ b7, b7 = wr.heap.size := ⟨_, rfl⟩
                              rw [← hb7] at CS
                              rw [← hb7]
                              have HIM2 := HMr.out.kept (b12.block B HMr.out.lt)
                              have HG2 := HG.out.kept (b12.block _ HG.out.lt)
                              have l1 := HIM2.look Tryd.underlying3 Tryd.underlying54 (by kernel_rfl) 1 (by decide)
                              have l2 := HIM2.look Tryd.underlying3 Tryd.underlying54 (by kernel_rfl) 2 (by decide)
                              have l4 := HIM2.look Tryd.underlying3 Tryd.underlying54 (by kernel_rfl) 4 (by decide)
                              have m1 := HG2.look Tryd.underlying3 Tryd.underlying54 (by kernel_rfl) 1 (by decide)
                              have m2 := HG2.look Tryd.underlying3 Tryd.underlying54 (by kernel_rfl) 2 (by decide)
                              have m4 := HG2.look Tryd.underlying3 Tryd.underlying54 (by kernel_rfl) 4 (by decide)
                              have m3 := HG2.look Tryd.underlying3 Tryd.underlying54 (by kernel_rfl) 3 (by decide)
                              rw [hf1] at l1
                              rw [hf2] at l2
                              rw [hf4] at l4
                              rw [hg1] at m1
                              rw [hg2] at m2
                              rw [hg4] at m4
                              rw [hlift] at m3
                              have HBX := Lib.hid (HB10.out.trans ((HBR.out.trans (b12.mono HBR.out.size)).mono HB10.out.size))
                              clear b12 hW12 hb7 HIM2 HG2 hf1 hf2 hf4 hg1 hg2 hg4 hlift HMr HG
                              have s0 := CS.out.2 0 _ rfl
                              have s1 := CS.out.2 1 _ rfl
                              have s2 := CS.out.2 2 _ rfl
                              have zs := CS.out.1
                              go_loopw [212] (fun v212 wr => ∃ k3 : Nat, v212 = .int .i64 k3 ∧ k3 ≤ 3 ∧ wr = W12) (fun v212 _ => 3 - (intOf v212).toNat)
                              case atStart => exact ⟨0, rfl, by omega, rfl⟩
                              case round =>
                                obtain ⟨k3, rfl, hk3, rfl⟩ := hrel
                                by_cases hk33 : k3 < 3
                                · have hkk : k3 = 0 ∨ k3 = 1 ∨ k3 = 2 := by omega
                                  rcases hkk with rfl | rfl | rfl
                                  · rcases sm with _ | _ <;> rcases X1 with _ | _ <;>
                                    · go_wp2
                                      go_roundw
                                      case rel => exact ⟨0 + 1, by go_num, by omega, (by first | rfl | trivial)⟩
                                      case measure => simp [intOf]
                                  · rcases sm with _ | _ <;> rcases X2 with _ | _ <;>
                                    · go_wp2
                                      go_roundw
                                      case rel => exact ⟨1 + 1, by go_num, by omega, (by first | rfl | trivial)⟩
                                      case measure => simp [intOf]
                                  · rcases sm with _ | _ <;> rcases X4 with _ | _ <;>
                                    · go_wp2
                                      go_roundw
                                      case rel => exact ⟨2 + 1, by go_num, by omega, (by first | rfl | trivial)⟩
                                      case measure => simp [intOf]
                                · obtain rfl : k3 = 3 := by omega
                                  go_wp2
                                  go_ret
                                  exact ⟨rfl, HBX.out⟩
      · go_wp2
        go_ret
        exact ⟨rfl, HBW.out⟩
    · go_wp2
      go_ret
      exact ⟨rfl, by (repeat' first | (with_reducible first | exact Below.refl _ _ | assumption | refine Kit.below_drewN ?_ _ | refine Below.drew ?_ | refine Below.alloc ?_ ?_ _ | refine Below.setCell ?_ ?_ _ | exact Nat.le_refl _) | omega | (simp; omega) | (simp; done) | (apply Below.size; assumption))⟩
  · go_wp2
    go_ret
    exact ⟨rfl, by (repeat' first | (with_reducible first | exact Below.refl _ _ | assumption | refine Kit.below_drewN ?_ _ | refine Below.drew ?_ | refine Below.alloc ?_ ?_ _ | refine Below.setCell ?_ ?_ _ | exact Nat.le_refl _) | omega | (simp; omega) | (simp; done) | (apply Below.size; assumption))⟩
end Go.Proofs.YtggfeblfhabmkaaDoor
