/- Walks: the reference of layer 41: rest. -/
import Derived.Test.YtdaedjmkolcliaaJrC
import Derived.Test.YtdaedjmkolcliaaIdV
import Derived.Test.YtdaedjmkolcliaaIdP
namespace Go.Proofs.Ytdaedjmkolcliaa
set_option linter.unusedVariables false
set_option linter.unusedSimpArgs false
open Go.RowKit Go.Shelf

namespace Id
/-- A row just made, as a block. -/
theorem own_blk {w : World} {base g : Nat} {e : TypeId} {n : Nat} {xs : List Value} (h : w.ownsRow base e 1 (.slice (some ⟨g, 0, none⟩) n n) n xs) : w.heap[g]? = some (.cells xs.toArray e (0, 0)) := by
  rcases h.2 with ⟨e, _⟩ | ⟨g', cap, cur, e, _, hg, _, _, hcs, ht⟩
  · cases e
  · simp only [Value.slice.injEq, Option.some.injEq, Addr.mk.injEq, and_true, true_and] at e
    obtain ⟨rfl, rfl⟩ := e
    rw [List.take_of_length_le (by rw [Array.length_toList, hcs]; exact Nat.le_refl _)] at ht
    rw [hg, ← ht]
/-- The least costs of what is left, in rows. -/
structure Ct (a b : List Int) (C : Nat) (R : Nat → Nat) (vs : List Value) (i : Nat) (w : World) : Prop where
  head : w.heap[C]? = some (.cells vs.toArray 25 (0, 0))
  len : vs.length = a.length + 1
  val : ∀ i', i ≤ i' → i' ≤ a.length → vs[i']? = some (.slice (some ⟨R i', 0, none⟩) (b.length + 1) (b.length + 1))
  row : ∀ i', i ≤ i' → i' ≤ a.length → R i' ≠ C ∧ AtA w (R i') (b.length + 1) (fun k => cst (a.drop i') (b.drop k))
theorem Ct.cell {a b : List Int} {C : Nat} {R : Nat → Nat} {vs : List Value} {i : Nat} {w : World} (h : Ct a b C R vs i w) {j : Nat} (h1 : i ≤ j) (h2 : j ≤ a.length) : w.cell? ⟨C, j, none⟩ = some (.slice (some ⟨R j, 0, none⟩) (b.length + 1) (b.length + 1)) := by
  have h3 := h.head
  have h4 := h.val j h1 h2
  simp only [World.cell?, h3]
  simpa using h4
theorem Ct.next {a b : List Int} {C Rp p : Nat} {R : Nat → Nat} {vs : List Value} {wr w3 W0 wx : World} {v : Value} (h : Ct a b C R vs (p + 1) wr) (hRp : wr.heap.size ≤ Rp) (hb : ∀ q, q < wr.heap.size → w3.heap[q]? = wr.heap[q]?)
    (hv : v = .slice (some ⟨Rp, 0, none⟩) (b.length + 1) (b.length + 1)) (h0 : W0 = w3.setCell ⟨C, p, none⟩ v) (hx : Kit.Exc (fun q => q = Rp) W0 wx) (hA : AtA wx Rp (b.length + 1) (fun k => cst (a.drop p) (b.drop k))) (hC : C < wr.heap.size) (hp : p ≤ a.length) :
    Ct a b C (fun t => if t = p then Rp else R t) (vs.set p v) p wx := by
  have hh : W0.heap[C]? = some (.cells (vs.set p v).toArray 25 (0, 0)) := by
    rw [h0]
    have h1 := heap_setCell_same w3 C p _ _ v ((hb C hC).trans h.head)
    simpa using h1
  refine ⟨hx.heap hh (by omega), by rw [List.length_set]; exact h.len, fun i' h1 h2 => ?_, fun i' h1 h2 => ?_⟩
  · by_cases e : i' = p
    · subst e
      rw [List.getElem?_set_self (by rw [h.len]; omega), hv]
      simp
    · rw [List.getElem?_set_ne (Ne.symm e), h.val i' (by omega) h2]
      simp [e]
  · by_cases e : i' = p
    · subst e
      simp only [if_true]
      exact ⟨by omega, hA⟩
    · simp only [e, if_false]
      obtain ⟨h3, h4⟩ := h.row i' (by omega) h2
      refine ⟨h3, ?_⟩
      have hl := h4.lt
      refine AtA.kept h4 ?_
      have h5 : W0.heap[R i']? = wr.heap[R i']? := by
        rw [h0, heap_setCell_other _ _ _ _ (by simpa using h3)]
        exact hb _ hl
      rw [← h5]
      exact (hx.heap (h5.trans h4) (by omega)).trans (h5.trans h4).symm
theorem elI2 : Kit.El Try.prog 25 3 (.int .i64 0) 1 8 := elI
end Id
theorem ry_besideB (x y : Int) (W : World) : Calls Try.prog 89 #[.int .i64 x, .int .i64 y] W fun e w' => e = .returned (.int .i64 (Id.bes x y)) ∧ Below W.heap.size W w' := by
  refine (ry_beside x y W).mono ?_
  rintro _ w' ⟨rfl, rfl⟩
  exact ⟨rfl, Below.refl _ _⟩
set_option maxRecDepth 100000 in
set_option maxHeartbeats 8000000 in
theorem ry_rest (a b : List Int) (aA : Option Addr) (cA : Nat) (aB : Option Addr) (cB : Nat) (w : World) (sa : Tp.Sl w aA a.length 1 (Id.ic a)) (sb : Tp.Sl w aB b.length 1 (Id.ic b)) (la : a.length ≤ 64) (lb : b.length ≤ 64) :
    Calls Try.prog 88 #[.slice aA a.length cA, .slice aB b.length cB] w fun e w' => Below w.heap.size w w' ∧ ∃ C R vs, e = .returned (.slice (some ⟨C, 0, none⟩) (a.length + 1) (a.length + 1)) ∧ Id.Ct a b C R vs 0 w' := by
  have SA := Lib.hid sa
  have SB := Lib.hid sb
  clear sa sb
  obtain ⟨i0, hi, hz0, hz1, hz2⟩ := info_parts Id.elJ.info
  obtain ⟨i1, ki, kz0, kz1, kz2⟩ := info_parts Id.elI.info
  go_enter Try.func88, Try.ntmps88
  go_wp2_with ((with_reducible show wpList _ _ _ (⟨some 11, _, _, _, _, _⟩ :: _) _ _); refine Kit.hold ?_; intro X HX)
  rw [HX.out]; clear HX X
  refine wpList_make_full _ rfl _ _ 67 rfl w.heap.size 25 i0 (.slice none 0 0) 1 Try.underlying67 hi hz0 hz1 _ _ _ _ (a.length + 1) rfl rfl rfl rfl (by rw [hz2]; omega) (by unfold maxLen; omega) (Nat.le_refl _) ?_
  intro w2 ho hg2
  have HB2 := Lib.hid (show Below w.heap.size w w2 from (Below.refl _ _).grown hg2 (Nat.le_refl _) (fun q hq => by cases hq))
  obtain ⟨C, hC⟩ : ∃ C, C = w.heap.size := ⟨_, rfl⟩
  have hzC : C < w2.heap.size := by rw [hC]; exact (ho.lt _ rfl).2
  have hw2 : w2.heap[C]? = some (.cells (madeCells (Value.slice none 0 0).cells ((a.length + 1) * 1)) 25 (0, 0)) := by rw [hC]; simpa using Id.own_blk ho
  have hlm : (madeCells (Value.slice none 0 0).cells ((a.length + 1) * 1)).toList.length = a.length + 1 := by
    have em : (madeCells (Value.slice none 0 0).cells ((a.length + 1) * 1)).toList = List.replicate (a.length + 1) (.slice none 0 0) := by rw [Nat.mul_one]; exact toList_madeCells_one _ _
    rw [em, List.length_replicate]
  have HCT := Lib.hid (show Id.Ct a b C (fun _ => 0) (madeCells (Value.slice none 0 0).cells ((a.length + 1) * 1)).toList (a.length + 1) w2 from ⟨by simpa using hw2, hlm, fun i' h1 h2 => by omega, fun i' h1 h2 => by omega⟩)
  rw [← hC] at HB2 ⊢
  have HCC := Lib.hid hC
  clear hC ho hg2 hw2 hlm
  generalize (madeCells (Value.slice none 0 0).cells ((a.length + 1) * 1)).toList = vs0 at HCT
  go_wp2_with fail
  go_loopw [6] (fun v6 wr => ∃ (i : Nat) (R : Nat → Nat) (vs : List Value), v6 = .int .i64 ((i : Int) - 1) ∧ i ≤ a.length + 1 ∧ C < wr.heap.size ∧ Hid (Id.Ct a b C R vs i wr) ∧ Hid (Below C w wr))
    (fun v6 _ => ((intOf v6) + 1).toNat)
  case atStart => exact ⟨a.length + 1, _, vs0, by go_num, Nat.le_refl _, hzC, HCT.out, HB2.out⟩
  case round =>
    obtain ⟨i, R, vs, rfl, hi', hCw, HK, HB⟩ := hrel
    rcases i with _ | p
    · rw [show ((0 : Nat) : Int) - 1 = -1 by omega]
      go_wp2
      go_ret
      refine ⟨by rw [← HCC.out]; exact HB.out, C, R, vs, rfl, HK.out⟩
    rw [show ((p + 1 : Nat) : Int) - 1 = (p : Int) by omega]
    have hpn : p ≤ a.length := by omega
    go_wp2_with ((with_reducible show wpList _ _ _ (⟨some 23, _, _, _, _, _⟩ :: _) _ _); refine Kit.hold ?_; intro X HX)
    rw [HX.out]; clear HX X
    refine wpList_make_full _ rfl _ _ 25 rfl wr.heap.size 3 i1 (.int .i64 0) 1 Try.underlying25 ki kz0 kz1 _ _ _ _ (b.length + 1) rfl rfl rfl rfl (by rw [kz2]; omega) (by unfold maxLen; omega) (Nat.le_refl _) ?_
    intro w3 ho hg2
    obtain ⟨Rp, hRp⟩ : ∃ Rp, Rp = wr.heap.size := ⟨_, rfl⟩
    have hzR : Rp < w3.heap.size := by rw [hRp]; exact (ho.lt _ rfl).2
    have HBW := Lib.hid (show Below wr.heap.size wr w3 from (Below.refl _ _).grown hg2 (Nat.le_refl _) (fun q hq => by cases hq))
    have HA3 := Lib.hid (show Id.AtA w3 Rp (b.length + 1) (fun _ => 0) by
      have h := Id.own_blk ho
      rw [show (madeCells (Value.int .i64 0).cells ((b.length + 1) * 1)).toList = Id.rowA (b.length + 1) (fun _ => 0) by
        have em : (madeCells (Value.int .i64 0).cells ((b.length + 1) * 1)).toList = List.replicate (b.length + 1) (.int .i64 0) := by rw [Nat.mul_one]; exact toList_madeCells_one _ _
        rw [em]; simp [Id.rowA, List.map_const']] at h
      rw [hRp]; exact h)
    rw [← hRp] at HBW ⊢
    have hCR : C < Rp := by omega
    have HK3 := Lib.hid (show w3.heap[C]? = some (.cells vs.toArray 25 (0, 0)) from (HBW.out.block C hCR).trans HK.out.head)
    have HV := Lib.hid (HK.out.len)
    have fc : w3.cell? ⟨C, p, none⟩ = some (vs.getD p undef) := by
      have h := HK3.out
      simp only [World.cell?, h]
      have h2 : p < vs.length := by rw [HV.out]; omega
      simp [List.getD, h2]
    have ff : w3.frozen? ⟨C, p, none⟩ = false := frozen_of_row _ _ _ _ _ HK3.out
    generalize vs.getD p undef = old at fc
    have hRle : wr.heap.size ≤ Rp := by omega
    have HRP := Lib.hid (show Rp ≤ wr.heap.size by omega)
    clear ho hg2 hRp
    go_wp2_with fail
    refine Kit.wp_name ?_
    intro W0 hW0
    have HW0 := Lib.hid hW0
    have hzC0 : C < W0.heap.size := by rw [hW0]; simp; omega
    have hzR0 : Rp < W0.heap.size := by rw [hW0]; simpa using hzR
    have HB0 := Lib.hid (show Below C w W0 by rw [hW0]; exact (HB.out.trans (HBW.out.mono (Nat.le_of_lt hCR))).setCell (Nat.le_refl _) _)
    have HA0 := Lib.hid (show Id.AtA W0 Rp (b.length + 1) (fun _ => 0) by
      rw [hW0]; exact (heap_setCell_other _ _ _ _ (by simp; omega)).trans HA3.out)
    have HH0 := Lib.hid (show W0.heap[C]? = some (.cells (vs.set p (.slice (some ⟨Rp, 0, none⟩) (b.length + 1) (b.length + 1))).toArray 25 (0, 0)) by
      rw [hW0]
      have h1 := heap_setCell_same w3 C p _ _ (.slice (some ⟨Rp, 0, none⟩) (b.length + 1) (b.length + 1)) HK3.out
      simpa using h1)
    have HRW := Lib.hid (show ∀ i', p + 1 ≤ i' → i' ≤ a.length → R i' ≠ C ∧ R i' ≠ Rp ∧ Id.AtA W0 (R i') (b.length + 1) (fun k => Id.cst (a.drop i') (b.drop k)) from fun i' h1 h2 => by
      obtain ⟨h3, h4⟩ := HK.out.row i' h1 h2
      have hl := h4.lt
      refine ⟨h3, by omega, ?_⟩
      rw [hW0]
      exact (heap_setCell_other _ _ _ _ (by simpa using h3)).trans ((HBW.out.block _ (by have := HRP.out; omega)).trans h4))
    clear hW0 fc ff
    go_wp2_with fail
    go_loopw [7] (fun v7 wx => ∃ (k : Nat) (f : Nat → Int), v7 = .int .i64 ((k : Int) - 1) ∧ k ≤ b.length + 1 ∧ Hid (Id.AtA wx Rp (b.length + 1) f) ∧ Hid (∀ t, k ≤ t → t ≤ b.length → f t = Id.cst (a.drop p) (b.drop t)) ∧ Hid (Kit.Exc (fun q => q = Rp) W0 wx))
      (fun v7 _ => ((intOf v7) + 1).toNat)
    case atStart => exact ⟨b.length + 1, _, by go_num, Nat.le_refl _, HA0.out, (fun t h1 h2 => by omega), Kit.Exc.refl _ _⟩
    case round =>
      obtain ⟨k, f, rfl, hk', HA, HF, HX⟩ := hrel
      rename World => wx
      rcases k with _ | t
      · rw [show ((0 : Nat) : Int) - 1 = -1 by omega]
        have HN := Lib.hid (Id.Ct.next HK.out hRle (fun q hq => HBW.out.block q (by omega)) rfl HW0.out HX.out (HA.out.congr fun t ht => HF.out t (Nat.zero_le _) (by omega)) hCw hpn)
        have HBX := Lib.hid (HB0.out.trans (HX.out.below (Nat.le_of_lt hzC0) (fun q hq => by omega)))
        have hzx := HX.out.size
        go_wp2_with fail
        go_roundw
        case rel => exact ⟨p, _, _, by go_num, by omega, by omega, HN.out, HBX.out⟩
        case measure => first | (simp [intOf]; done) | (simp [intOf]; omega)
      rw [show ((t + 1 : Nat) : Int) - 1 = (t : Int) by omega]
      have htm : t ≤ b.length := by omega
      have HHX := Lib.hid (HX.out.heap HH0.out (by omega))
      have g0 : wx.cell? ⟨C, p, none⟩ = some (.slice (some ⟨Rp, 0, none⟩) (b.length + 1) (b.length + 1)) := by
        have h := HHX.out
        simp only [World.cell?, h]
        simp [HV.out, show p < a.length + 1 by omega]
      have g1 := HA.out.cell (k := t) (by omega)
      have g2 := HA.out.frozen t
      have HAK := Lib.hid (show ∀ (W : World) (v : Int), Below wx.heap.size wx W → v = Id.cst (a.drop p) (b.drop t) →
          Id.AtA (W.setCell ⟨Rp, t, none⟩ (.int .i64 v)) Rp (b.length + 1) (Id.upd f t v) ∧ (∀ t', t ≤ t' → t' ≤ b.length → Id.upd f t v t' = Id.cst (a.drop p) (b.drop t')) ∧ Kit.Exc (fun q => q = Rp) W0 (W.setCell ⟨Rp, t, none⟩ (.int .i64 v)) from fun W v hb hv => by
        refine ⟨Id.AtA.set (HA.out.kept (hb.block Rp HA.out.lt)) t v, fun t' h1 h2 => ?_, (HX.out.then hb).setCell (.inl rfl) _⟩
        unfold Id.upd
        by_cases e : t' = t
        · rw [if_pos e, hv, e]
        · rw [if_neg e]; exact HF.out t' (by omega) h2)
      by_cases hedge : p = a.length ∨ t = b.length
      · have HC := Lib.hid (show (2 * ((a.length : Int) - p + b.length - t) : Int) = Id.cst (a.drop p) (b.drop t) from by
          rcases hedge with h | h
          · rw [h, List.drop_length, Id.cst_nil, List.length_drop]; omega
          · rw [h, List.drop_length, Id.cst_nil', List.length_drop]; omega)
        generalize f t = old2 at g1
        by_cases hp1 : p = a.length
        · have q1 : ((p : Int) == (a.length : Int)) = true := by simp; omega
          have q2 : (p == a.length) = true := by simp; omega
          clear hedge hp1
          go_wp2_with fail
          have HQ := HAK.out wx _ (Below.refl _ _) HC.out
          have HQ1 := Lib.hid HQ.1
          have HQ2 := Lib.hid HQ.2.1
          have HQ3 := Lib.hid HQ.2.2
          clear HQ g0 g1 g2
          go_roundw
          case rel => exact ⟨t, _, by go_num, by omega, HQ1.out, HQ2.out, HQ3.out⟩
          case measure => first | (simp [intOf]; done) | (simp [intOf]; omega)
        · have ht1 : t = b.length := by omega
          have q1 : ((p : Int) == (a.length : Int)) = false := by simp; omega
          have q2 : (p == a.length) = false := by simp; omega
          have q3 : ((t : Int) == (b.length : Int)) = true := by simp; omega
          have q4 : (t == b.length) = true := by simp; omega
          clear hedge hp1 ht1
          go_wp2_with fail
          have HQ := HAK.out wx _ (Below.refl _ _) HC.out
          have HQ1 := Lib.hid HQ.1
          have HQ2 := Lib.hid HQ.2.1
          have HQ3 := Lib.hid HQ.2.2
          clear HQ g0 g1 g2
          go_roundw
          case rel => exact ⟨t, _, by go_num, by omega, HQ1.out, HQ2.out, HQ3.out⟩
          case measure => first | (simp [intOf]; done) | (simp [intOf]; omega)
      · have hpn' : p < a.length := by omega
        have htm' : t < b.length := by omega
        have q1 : ((p : Int) == (a.length : Int)) = false := by simp; omega
        have q2 : (p == a.length) = false := by simp; omega
        have q3 : ((t : Int) == (b.length : Int)) = false := by simp; omega
        have q4 : (t == b.length) = false := by simp; omega
        obtain ⟨r1, r2, r3⟩ := HRW.out (p + 1) (Nat.le_refl _) (by omega)
        have HR3 := Lib.hid (show Id.AtA wx (R (p + 1)) (b.length + 1) (fun k => Id.cst (a.drop (p + 1)) (b.drop k)) from (HX.out.heap r3 (by omega)))
        have hval := HK.out.val (p + 1) (Nat.le_refl _) (by omega)
        have g3 : wx.cell? ⟨C, p + 1, none⟩ = some (.slice (some ⟨R (p + 1), 0, none⟩) (b.length + 1) (b.length + 1)) := by
          have h := HHX.out
          simp only [World.cell?, h]
          simpa [List.getElem?_set_ne (show p ≠ p + 1 by omega)] using hval
        have g4 := HR3.out.cell (k := t) (by omega)
        have g5 := HR3.out.cell (k := t + 1) (by omega)
        have g6 := HA.out.cell (k := t + 1) (by omega)
        rw [HF.out (t + 1) (Nat.le_refl _) (by omega)] at g6
        obtain ⟨ada, rfl, hada, _⟩ := SA.out.at hpn'
        obtain ⟨adb, rfl, hadb, _⟩ := SB.out.at htm'
        have HBX := Lib.hid (HB0.out.trans (HX.out.below (Nat.le_of_lt hzC0) (fun q hq => by omega)))
        have g7 : wx.cell? (ada.add p) = some (.int .i64 (a.getD p 0)) := by
          have h := (SA.out.kept HBX.out (Nat.le_of_eq HCC.out.symm)).head hpn' (by omega)
          rw [Nat.mul_one] at h; exact h
        have g8 : wx.cell? (adb.add t) = some (.int .i64 (b.getD t 0)) := by
          have h := (SB.out.kept HBX.out (Nat.le_of_eq HCC.out.symm)).head htm' (by omega)
          rw [Nat.mul_one] at h; exact h
        have hcst : Id.cst (a.drop p) (b.drop t) = Id.mn (Id.bes (a.getD p 0) (b.getD t 0) + Id.cst (a.drop (p + 1)) (b.drop (t + 1))) (2 + Id.cst (a.drop (p + 1)) (b.drop t)) (2 + Id.cst (a.drop p) (b.drop (t + 1))) := by
          rw [Tp.drop_cons a 0 p hpn', Tp.drop_cons b 0 t htm', Id.cst_cons]
        have HCV := Lib.hid hcst.symm
        have b0 : 0 ≤ Id.bes (a.getD p 0) (b.getD t 0) ∧ Id.bes (a.getD p 0) (b.getD t 0) ≤ 3 := by unfold Id.bes; split <;> omega
        have b1 := Id.cst_nonneg (a.drop (p + 1)) (b.drop (t + 1))
        have b1' := Id.cst_le (a.drop (p + 1)) (b.drop (t + 1))
        have b2 := Id.cst_nonneg (a.drop (p + 1)) (b.drop t)
        have b2' := Id.cst_le (a.drop (p + 1)) (b.drop t)
        have b3 := Id.cst_nonneg (a.drop p) (b.drop (t + 1))
        have b3' := Id.cst_le (a.drop p) (b.drop (t + 1))
        simp only [List.length_drop] at b1' b2' b3'
        have HBS := Lib.hid (fun W => ry_besideB (a.getD p 0) (b.getD t 0) W)
        generalize Id.bes (a.getD p 0) (b.getD t 0) = vb at b0 HBS HCV
        generalize a.getD p 0 = va at g7 HBS
        generalize b.getD t 0 = vc at g8 HBS
        generalize Id.cst (a.drop (p + 1)) (b.drop (t + 1)) = X1 at b1 b1' g5 HCV
        generalize Id.cst (a.drop (p + 1)) (b.drop t) = X2 at b2 b2' g4 HCV
        generalize Id.cst (a.drop p) (b.drop (t + 1)) = X3 at b3 b3' g6 HCV
        generalize R (p + 1) = R1 at g3 g4 g5 r1 r2 HR3
        have hzx := HX.out.size
        have hzR1 : R1 < wx.heap.size := HR3.out.lt
        have hCx : C < wx.heap.size := by omega
        have hRx : Rp < wx.heap.size := by omega
        have hax : (ada.add p).block < wx.heap.size := by rw [Tp.add_block]; have := HCC.out; omega
        have hbx : (adb.add t).block < wx.heap.size := by rw [Tp.add_block]; have := HCC.out; omega
        generalize f t = old2 at g1
        replace g0 := fun z : Kit.Wd wx => (z.below.cell hCx).trans g0
        replace g1 := fun z : Kit.Wd wx => (z.below.cell hRx).trans g1
        replace g2 := fun z : Kit.Wd wx => show z.val.frozen? ⟨Rp, t, none⟩ = false from (HA.out.kept (z.below.block Rp hRx)).frozen t
        replace g3 := fun z : Kit.Wd wx => (z.below.cell hCx).trans g3
        replace g4 := fun z : Kit.Wd wx => (z.below.cell hzR1).trans g4
        replace g5 := fun z : Kit.Wd wx => (z.below.cell hzR1).trans g5
        replace g6 := fun z : Kit.Wd wx => (z.below.cell hRx).trans g6
        replace g7 := fun z : Kit.Wd wx => (z.below.cell hax).trans g7
        replace g8 := fun z : Kit.Wd wx => (z.below.cell hbx).trans g8
        clear hval hcst
        go_wp2_with fail
        (refine Kit.wp_region_cls_tail 44 (by kernel_rfl) (by kernel_rfl) ?_; simp only [List.take_succ_cons, List.take_zero, List.drop_succ_cons, List.drop_zero]; (repeat (go_big_quiet_step (exact Kit.calls_cls _ (HBS.out _)))); refine wpQuiet_nil ?_; intro z)
        go_wp2_with fail
        have hv : (if 2 + X3 < if 2 + X2 < vb + X1 then 2 + X2 else vb + X1 then 2 + X3 else if 2 + X2 < vb + X1 then 2 + X2 else vb + X1) = Id.cst (a.drop p) (b.drop t) := by
          rw [← HCV.out]
          unfold Id.mn
          repeat' split
          all_goals omega
        have HQ := HAK.out z.val _ z.below hv
        have HQ1 := Lib.hid HQ.1
        have HQ2 := Lib.hid HQ.2.1
        have HQ3 := Lib.hid HQ.2.2
        clear HQ g0 g1 g2 g3 g4 g5 g6 g7 g8 hv
        go_roundw
        case rel => exact ⟨t, _, by go_num, by omega, HQ1.out, HQ2.out, HQ3.out⟩
        case measure => first | (simp [intOf]; done) | (simp [intOf]; omega)
end Go.Proofs.Ytdaedjmkolcliaa
