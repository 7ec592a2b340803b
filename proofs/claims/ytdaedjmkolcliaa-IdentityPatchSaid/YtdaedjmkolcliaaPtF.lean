/- Walks: package patch: Run with one patch, Apply. -/
import Derived.Test.YtdaedjmkolcliaaPtE
import Derived.Test.YtdaedjmkolcliaaKitq
namespace Go.Proofs.Ytdaedjmkolcliaa
set_option linter.unusedVariables false
set_option linter.unusedSimpArgs false
open Go.RowKit Go.Shelf

namespace Id
theorem wpList_name {P : Program} {ops : Array Oper} {Q : Exit → Act → World → Prop} {l : List Oper} {a : Act} {w : World} (h : ∀ W, W = w → wpList P ops Q l a W) : wpList P ops Q l a w := h w rfl
/-- The cells of a patch. -/
def ptA (p : Pt) (aN : Option Addr) (n cN : Nat) : Array Value := #[.int .i64 p.id, .int .i64 p.kind, .int .i64 p.sign, .int .i64 p.field, .int .i64 p.new.id, .int .i64 p.new.role, .int .i64 p.new.bar, .int .i64 p.new.mark, .int .i64 p.new.kind, .int .i64 p.new.side, .int .i64 p.new.dir, .int .i64 p.new.level, .int .i64 p.new.size, .int .i64 p.new.wth, .int .i64 p.new.fn, .int .i64 p.new.fd, .int .i64 p.new.tn, .int .i64 p.new.td, .slice aN n cN]
theorem ptA_one (p : Pt) (aN : Option Addr) (n cN : Nat) : (ptA p aN n cN).all (·.oneCell') = true := by
  simp [ptA, Value.oneCell']
def ptZ : Array Value := #[.int .i64 0, .int .i64 0, .int .i64 0, .int .i64 0, .int .i64 0, .int .i64 0, .int .i64 0, .int .i64 0, .int .i64 0, .int .i64 0, .int .i64 0, .int .i64 0, .int .i64 0, .int .i64 0, .int .i64 0, .int .i64 0, .int .i64 0, .int .i64 0, .slice none 0 0]
/-- What one patch makes of signs, or that it cannot be applied. -/
def RnR (p : Pt) (L pl : List Sg) (er : Int) : Prop := er = 0 ∧ PtOk p ∧ Pd p L pl ∨ er ≠ 0 ∧ pl = []
def RnQ (p : Pt) (L : List Sg) (W : World) (e : Ending) (w' : World) : Prop := (∃ pl a c er, e = .returned (.tuple #[.slice a pl.length c, .int .i64 er]) ∧ Tp.Sl w' a pl.length 14 (sgc pl) ∧ RnR p L pl er) ∧ Below W.heap.size W w'
theorem range_kept {w w' : World} {B o : Nat} {cs : List Value} (h : w.rangeAt B o cs) (hb : Below w.heap.size w w') (hB : B < w.heap.size) : w'.rangeAt B o cs := fun j v hj => (hb.cell (p := ⟨B, o + j, none⟩) hB).trans (h j v hj)
end Id
set_option maxRecDepth 100000 in
set_option maxHeartbeats 4000000 in
theorem pa_run (p : Id.Pt) (aN : Option Addr) (N : List Int) (cN : Nat) (L : List Id.Sg) (a : Option Addr) (c B : Nat) (w : World) (hS : Tp.Sl w a L.length 14 (Id.sgc L)) (hL : L.length ≤ 4611686018427387904) (hlc : L.length ≤ c) (hN : Tp.Sl w aN N.length 1 (Id.ic N)) (hNl : N.length ≤ 4611686018427387904) (hk2 : p.kind ≠ 2) (hkf : p.kind = 1 → 4 ≤ p.field ∧ p.field ≤ 8) (hB : B < w.heap.size)
    (hR : w.rangeAt B 0 (Id.ptA p aN N.length cN).toList) :
    Calls Try.prog 50 #[.slice a L.length c, .slice (some ⟨B, 0, none⟩) 1 1] w (Id.RnQ p L w) := by
  have HS := Lib.hid hS
  have HN := Lib.hid hN
  have HRG := Lib.hid hR
  have HC := Lib.hid (fun W s => pa_check p aN N cN W s hNl hk2 hkf)
  have HA := Lib.hid (fun W s h1 h2 => pa_apply p aN N.length cN L a c W s hlc h1 h2 hkf)
  have HIZ : (Try.prog.info? 52).map (·.size) = some (Id.ptA p aN N.length cN).toList.length := by kernel_rfl
  have HI := Lib.hid HIZ
  have HI2 := Lib.hid (show (Try.prog.info? 52).map (·.size) = some (Id.ptA p aN N.length cN).size by kernel_rfl)
  clear hS hN hk2 hkf hR HIZ
  go_enter Try.func50, Try.ntmps50
  go_wp2_with fail
  refine (ed_check a L c _ HS.out hL).mono ?_
  rintro _ w1 ⟨rfl, hb⟩
  have HB1 := Lib.hid hb
  clear hb
  by_cases h0 : Id.chk L = 0
  case neg =>
    have HE := Lib.hid h0
    have q1 : (Id.chk L != 0) = true := by simpa using h0
    generalize Id.chk L = q at *
    go_wp2
    go_ret2
    exact ⟨⟨[], none, 0, q, rfl, .inl rfl, .inr ⟨HE.out, rfl⟩⟩, HB1.out⟩
  have HCH := Lib.hid h0
  rw [h0]
  clear h0
  go_wp2_with fail
  go_loopw [4, 5, 19] (fun v4 v5 v19 wr => v5 = .int .i64 0 ∧ Hid (Below w.heap.size w wr) ∧ ((v19 = .int .i64 0 ∧ v4 = .slice a L.length c) ∨ (v19 = .int .i64 1 ∧ ∃ pl a' c', v4 = .slice a' pl.length c' ∧ Hid (Tp.Sl wr a' pl.length 14 (Id.sgc pl)) ∧ Hid (Id.PtOk p ∧ Id.Pd p L pl))))
    (fun _ _ v19 _ => 1 - (intOf v19).toNat)
  case atStart => exact ⟨rfl, HB1.out, .inl ⟨rfl, rfl⟩⟩
  case round =>
    obtain ⟨rfl, HB, ⟨rfl, rfl⟩ | ⟨rfl, pl, a', c', rfl, HP, HR⟩⟩ := hrel
    · rename World => wr
      have HSr := Lib.hid (HS.out.kept HB.out (Nat.le_refl _))
      have HNr := Lib.hid (HN.out.kept HB.out (Nat.le_refl _))
      have HRr := Lib.hid (Id.range_kept HRG.out HB.out hB)
      obtain ⟨X0, hX0⟩ : ∃ X0, X0 = wr.alloc (.cells #[.int .i64 0, .int .i64 0, .int .i64 0, .int .i64 0, .int .i64 0, .int .i64 0, .int .i64 0, .int .i64 0, .int .i64 0, .int .i64 0, .int .i64 0, .int .i64 0, .int .i64 0, .int .i64 0, .int .i64 0, .int .i64 0, .int .i64 0, .int .i64 0, .slice none 0 0] 52) := ⟨_, rfl⟩
      have hR0 : X0.heap[wr.heap.size]? = some (.cells Id.ptZ 52 (0, 0)) := by rw [hX0]; exact World.alloc_heap_new _ _
      have HTH := Lib.hid (show X0.there wr.heap.size 0 (Id.ptA p aN N.length cN).size from fun q hq => by
        have hq' : q < Id.ptZ.size := hq
        refine ⟨?_, by simp [World.frozen?, hR0]⟩
        simp only [World.cell?, hR0, Nat.zero_add]
        rw [Array.getElem?_eq_getElem hq']
        rfl)
      have HX0 := Lib.hid hX0
      have HR0 := Lib.hid hR0
      have hb0 : Below wr.heap.size wr X0 := by rw [hX0]; exact (Below.refl _ _).alloc (Nat.le_refl _) _
      have hz0 : wr.heap.size < X0.heap.size := by rw [hX0]; simp
      clear hX0 hR0
      go_upto_region 10 with (first | ((with_reducible refine wpList_load_mid ?_ 52 (.tmp 21) ?_ B 0 ?_ (Id.ptA p aN N.length cN).toList _ HRr.out Try.underlying52 rfl HI.out ?_); rfl; rfl; rfl) | (rw [← HX0.out]; (with_reducible refine Kit.wpList_store_at (ty := 52) (x := .tmp 7) (y := .tmp 22) (p := ⟨wr.heap.size, 0, none⟩) (b := wr.heap.size) (o := 0) (cells := Id.ptA p aN N.length cN) ?_ ?_ ?_ rfl ?_ HTH.out HI2.out (Id.ptA_one _ _ _ _) ?_); rfl; rfl; rfl; rfl; refine Id.wpList_name ?_; intro X1 hX1; have HXX := Lib.hid hX1; clear hX1))
      have hx1 : Kit.Exc (fun k => k = wr.heap.size) X0 X1 := by rw [HXX.out]; exact Kit.Exc.setCells (S := fun k => k = wr.heap.size) rfl _ _ (Kit.Exc.refl _ _)
      obtain ⟨cur', hc1, hc2, hc3, hc4⟩ := Kit.heap_setCells wr.heap.size _ (Id.ptA p aN N.length cN).toList 0 X0 _ HR0.out
      rw [← HXX.out] at hc1
      have hrd : X1.rangeAt wr.heap.size 0 (Id.ptA p aN N.length cN).toList := fun q v hq => by
        have hq19 : q < 19 := (List.getElem?_eq_some_iff.1 hq).1
        simp only [World.cell?, hc1]
        rw [hc4 q hq19 (by show 0 + q < 19; omega)]
        exact hq
      have hb1 : Below wr.heap.size wr X1 := hb0.trans (hx1.below (Nat.le_of_lt hz0) (fun q hq => by rw [hq]; exact Nat.le_refl _))
      have hz1 : wr.heap.size < X1.heap.size := (Array.getElem?_eq_some_iff.1 hc1).1
      have HR1 := Lib.hid hrd
      clear hrd hc1 hc2 hc3 hc4 hx1 HXX HR0 HTH hb0 hz0 HX0
      have HB2 := Lib.hid (HB.out.trans (hb1.mono HB.out.size))
      have HS2 := Lib.hid (HSr.out.kept hb1 (Nat.le_refl _))
      have HN2 := Lib.hid (HNr.out.kept hb1 (Nat.le_refl _))
      clear hb1 HSr HNr HB
      go_wp2_with ((with_reducible refine wpList_load_mid ?_ 52 (.tmp 7) ?_ wr.heap.size 0 ?_ (Id.ptA p aN N.length cN).toList _ HR1.out Try.underlying52 rfl HI.out ?_); rfl; rfl; rfl)
      refine (HC.out _ HN2.out).mono ?_
      rintro _ w3 ⟨⟨r, rfl, hr⟩, hb⟩
      have HR3 := Lib.hid (Id.range_kept HR1.out hb hz1)
      have HB3 := Lib.hid (HB2.out.trans (hb.mono HB2.out.size))
      have HS3 := Lib.hid (HS2.out.kept hb (Nat.le_refl _))
      clear hb HB2 HS2 HN2 hz1 HR1
      by_cases hr0 : r = 0
      case neg =>
        have q1 : (r != 0) = true := by simpa using hr0
        have HE := Lib.hid hr0
        clear hr hr0
        go_wp2
        go_ret2
        exact ⟨⟨[], none, 0, r, rfl, .inl rfl, .inr ⟨HE.out, rfl⟩⟩, HB3.out⟩
      subst hr0
      have HPO := Lib.hid (hr rfl)
      clear hr
      go_wp2_with ((with_reducible refine wpList_load_mid ?_ 52 (.tmp 7) ?_ wr.heap.size 0 ?_ (Id.ptA p aN N.length cN).toList _ HR3.out Try.underlying52 rfl HI.out ?_); rfl; rfl; rfl)
      refine (HA.out _ HS3.out HCH.out HPO.out).mono ?_
      rintro _ w4 ⟨⟨pl, a', c', er, rfl, hsl, hap⟩, hb⟩
      have HB4 := Lib.hid (HB3.out.trans (hb.mono HB3.out.size))
      have HSL := Lib.hid hsl
      clear hb HB3 HS3 hsl HR3
      rcases hap with ⟨rfl, hpd⟩ | ⟨her, rfl⟩
      · have HPD := Lib.hid hpd
        clear hpd
        go_wp2_with fail
        go_roundw
        case rel => exact ⟨rfl, HB4.out, .inr ⟨rfl, pl, a', c', rfl, HSL.out, HPO.out, HPD.out⟩⟩
        case measure => simp [intOf]
      · have q1 : (er != 0) = true := by simpa using her
        have HE := Lib.hid her
        clear her
        go_wp2
        go_ret2
        exact ⟨⟨[], none, 0, er, rfl, .inl rfl, .inr ⟨HE.out, rfl⟩⟩, HB4.out⟩
    · rename World => wr
      go_wp2
      go_ret2
      exact ⟨⟨pl, a', c', 0, rfl, HP.out, .inl ⟨rfl, HR.out⟩⟩, HB.out⟩
namespace Id
theorem range_alloc (w : World) (cs : Array Value) (t : TypeId) : (w.alloc (.cells cs t)).rangeAt w.heap.size 0 cs.toList := fun j v hj => by
  have h := World.alloc_heap_new w (.cells cs t)
  simp only [World.cell?, h]
  simpa using hj
end Id
set_option maxRecDepth 100000 in
set_option maxHeartbeats 4000000 in
theorem pa_Apply (p : Id.Pt) (aN : Option Addr) (N : List Int) (cN : Nat) (L : List Id.Sg) (a : Option Addr) (c : Nat) (w : World) (hS : Tp.Sl w a L.length 14 (Id.sgc L)) (hL : L.length ≤ 4611686018427387904) (hlc : L.length ≤ c) (hN : Tp.Sl w aN N.length 1 (Id.ic N)) (hNl : N.length ≤ 4611686018427387904) (hk2 : p.kind ≠ 2) (hkf : p.kind = 1 → 4 ≤ p.field ∧ p.field ≤ 8) :
    Calls Try.prog 26 #[.slice a L.length c, .agg (Id.ptA p aN N.length cN)] w (Id.RnQ p L w) := by
  have HS := Lib.hid hS
  have HN := Lib.hid hN
  have HI := Lib.hid (show (Try.prog.info? 52).map (·.size) = some (Id.ptA p aN N.length cN).toList.length by kernel_rfl)
  have HC := Lib.hid (fun B W s1 s2 hB hR => pa_run p aN N cN L a c B W s1 hL hlc s2 hNl hk2 hkf hB hR)
  have HA := Lib.hid (Id.range_alloc w (Id.ptA p aN N.length cN) 52)
  have hs19 : (Id.ptA p aN N.length cN).size = 19 := rfl
  have hfold : Array.foldl (fun cs x => cs.setIfInBounds x.snd x.fst) #[Value.int .i64 0, Value.int .i64 0, Value.int .i64 0, Value.int .i64 0, Value.int .i64 0, Value.int .i64 0, Value.int .i64 0, Value.int .i64 0, Value.int .i64 0, Value.int .i64 0, Value.int .i64 0, Value.int .i64 0, Value.int .i64 0, Value.int .i64 0, Value.int .i64 0, Value.int .i64 0, Value.int .i64 0, Value.int .i64 0, Value.slice none 0 0] (Id.ptA p aN N.length cN).zipIdx 0 19 = Id.ptA p aN N.length cN := by kernel_rfl
  clear hS hN hk2 hkf
  go_enter Try.func26, Try.ntmps26
  go_wp2_with (first | ((with_reducible refine wpList_load_mid ?_ 52 (.tmp 3) ?_ w.heap.size 0 ?_ (Id.ptA p aN N.length cN).toList _ HA.out Try.underlying52 rfl HI.out ?_); rfl; rfl; rfl))
  have HB1 := Lib.hid (show Below w.heap.size w ((w.alloc (.cells (Id.ptA p aN N.length cN) 52)).alloc (.cells (Id.ptA p aN N.length cN) 52)) from ((Below.refl _ _).alloc (Nat.le_refl _) _).alloc (by simp) _)
  have hr := Id.range_alloc (w.alloc (.cells (Id.ptA p aN N.length cN) 52)) (Id.ptA p aN N.length cN) 52
  rw [show (w.alloc (.cells (Id.ptA p aN N.length cN) 52)).heap.size = w.heap.size + 1 by simp] at hr
  refine (HC.out _ _ (HS.out.kept HB1.out (Nat.le_refl _)) (HN.out.kept HB1.out (Nat.le_refl _)) (by simp) hr).mono ?_
  rintro _ w2 ⟨⟨pl, a', c', er, rfl, hsl, hap⟩, hb⟩
  have HSL := Lib.hid hsl
  have HAP := Lib.hid hap
  have HB2 := Lib.hid (HB1.out.trans (hb.mono (by simp; omega)))
  clear hsl hap hb hr hfold hs19
  go_wp2
  go_ret2
  exact ⟨⟨pl, a', c', er, rfl, HSL.out, HAP.out⟩, HB2.out⟩
end Go.Proofs.Ytdaedjmkolcliaa
