/- Walks: package understudy: Ready, of whatever arguments; the law Later. -/
import Derived.Test.YtbhgogiaaljclaaGreatDoorUxC
import Derived.Test.YtbhgogiaaljclaaGreatDoorKxb
namespace Go.Proofs.YtbhgogiaaljclaaGreatDoor
set_option linter.unusedVariables false
set_option linter.unusedSimpArgs false
open Go.RowKit Go.Shelf
namespace Uy
def nc (l : List Nat) (i _ : Nat) : Value := .int .i64 (l.getD i 0 : Nat)
/-- What Ready answers. -/
def RdP (x : Ex.Wk) (bs : List Un.Bd) (cast : List Int) (role bar : Int) (a : Option Addr) (n : Nat) (w : World) : Prop :=
  (Un.readyE x bs cast role bar ≠ 0 ∧ n = 0) ∨ (Un.readyE x bs cast role bar = 0 ∧ ∃ l : List Nat, n = l.length ∧ n ≤ 16 ∧ Un.Ready x bs cast role bar l ∧ Tp.Sl w a l.length 1 (nc l))
theorem RdP.kept {x : Ex.Wk} {bs : List Un.Bd} {cast : List Int} {role bar : Int} {a : Option Addr} {n : Nat} {w w' : World} (h : RdP x bs cast role bar a n w) (hb : Below w.heap.size w w') : RdP x bs cast role bar a n w' := by
  rcases h with h | ⟨h1, l, h2, h3, h4, h5⟩
  · exact .inl h
  · exact .inr ⟨h1, l, h2, h3, h4, h5.kept hb (Nat.le_refl _)⟩
theorem mb : Kit.MTypes Tryz.prog 56 3 4 (.bool false) := ⟨Tryz.underlying3, Tryz.underlying56, fun _ => by kernel_rfl⟩
/-- Those who are in the map. -/
def inF (l : List Nat) : Int → Option Value := fun y => if y ∈ l.map (fun (p : Nat) => (p : Int)) then some (.bool true) else none
theorem inF_nil : inF [] = fun _ => none := by funext y; simp [inF]
theorem inF_put (l : List Nat) (p : Nat) : Kit.putI (inF l) p (.bool true) = inF (l ++ [p]) := by
  funext y
  unfold Kit.putI inF
  by_cases h : y = p
  · simp [h]
  · rw [if_neg h]
    by_cases h2 : y ∈ l.map (fun (p : Nat) => (p : Int))
    · rw [if_pos h2, if_pos (by simp at h2 ⊢; exact .inl h2)]
    · rw [if_neg h2, if_neg (by simp at h2 ⊢; exact ⟨h2, h⟩)]
theorem inF_at {l : List Nat} {p : Nat} (h : p ∈ l) : (inF l p).getD (.bool false) = .bool true := by
  unfold inF
  rw [if_pos (List.mem_map.2 ⟨p, h, rfl⟩)]
  rfl
end Uy
theorem un_ready (x : Ex.Wk) (p : Ex.Wa) (w : World) (hL : Ex.Laid w) (hF : Uo.Flat w) (ha : Ex.At w x p) (bs : List Un.Bd) (a : Option Addr) (c : Nat) (hS : Tp.Sl w a bs.length 17 (Un.bdF bs)) (hl : bs.length ≤ 4611686018427387904) (hns : ∀ b ∈ bs, b.name.size ≤ 9223372036854775807)
    (cast : List Int) (ac : Option Addr) (cc : Nat) (hC : Tp.Sl w ac cast.length 1 (Un.ic cast)) (hlc : cast.length ≤ 1000000000) (hcc : cast.length ≤ cc) (role bar : Int) :
    Calls Tryz.prog 16 #[Ex.workV x p, .slice a bs.length c, .slice ac cast.length cc, .int .i64 role, .int .i64 bar] w fun e w' => (∃ a n c, e = .returned (.tuple #[.slice a n c, .int .i64 (Un.readyE x bs cast role bar)]) ∧ Uy.RdP x bs cast role bar a n w') ∧ Below w.heap.size w w' := by
  by_cases hE : Un.readyE x bs cast role bar = 0
  · refine (un_ready_0 x p w hL ha bs a c hS hns cast ac cc hC hlc hcc role bar hF hE).mono ?_
    rintro _ w' ⟨v, l, rfl, hr, ho, hb⟩
    have hn : l.length ≤ 16 := by
      have h1 := hr.perm.length_eq
      have h2 := List.length_filter_le (Un.fits x bs cast role bar) (List.range bs.length)
      have h3 : bs.length ≤ 16 := by
        have h := hE
        unfold Un.readyE at h
        by_cases h0 : Ex.chk x = 0
        · rw [if_neg (by simp [h0])] at h
          by_cases hn : 16 < bs.length
          · rw [if_pos hn] at h; cases h
          · omega
        · rw [if_pos h0] at h; exact absurd h h0
      simp at h2; omega
    obtain ⟨a, c, rfl, h⟩ := Kit.own_sl (f := Uy.nc l) ho (fun i j hi hj => by
      obtain rfl : j = 0 := by omega
      rw [Nat.mul_one, Nat.add_zero]
      unfold Un.ints Uy.nc
      simp [hi, List.getD])
    exact ⟨⟨a, _, c, by rw [hE], .inr ⟨hE, l, rfl, hn, hr, h⟩⟩, hb⟩
  · refine (un_ready_e x p w hL ha bs a c hS hl hns cast ac cc hC hlc hcc role bar hE).mono ?_
    rintro _ w' ⟨rfl, hb⟩
    exact ⟨⟨none, 0, 0, rfl, .inl ⟨hE, rfl⟩⟩, hb⟩
set_option maxRecDepth 100000 in
set_option maxHeartbeats 4000000 in
theorem lw_later (x : Ex.Wk) (p : Ex.Wa) (w : World) (hL : Ex.Laid w) (hF : Uo.Flat w) (ha : Ex.At w x p) (bs : List Un.Bd) (a : Option Addr) (c : Nat) (hS : Tp.Sl w a bs.length 17 (Un.bdF bs)) (hl : bs.length ≤ 4611686018427387904) (hns : ∀ b ∈ bs, b.name.size ≤ 9223372036854775807)
    (cast : List Int) (ac : Option Addr) (cc : Nat) (hC : Tp.Sl w ac cast.length 1 (Un.ic cast)) (hcc : cast.length ≤ cc) (role bar later : Int) :
    Calls Tryz.prog 7 #[Ex.workV x p, .slice a bs.length c, .slice ac cast.length cc, .int .i64 role, .int .i64 bar, .int .i64 later] w fun e w' => e = .returned (.bool true) ∧ Below w.heap.size w w' := by
  have HS := Lib.hid (fun W (hb : Below w.heap.size w W) => lw_sane W (hL.kept hb (Nat.le_refl _)) (hF.kept hb (Nat.le_refl _)))
  have HFW := Lib.hid (fun W => lw_few x p bs.length cast.length c cc a ac W)
  have HR := Lib.hid (fun W (hb : Below w.heap.size w W) (hlc : cast.length ≤ 1000000000) br => un_ready x p W (hL.kept hb (Nat.le_refl _)) (hF.kept hb (Nat.le_refl _)) (ha.kept hb (Nat.le_refl _)) bs a c (hS.kept hb (Nat.le_refl _)) hl hns cast ac cc (hC.kept hb (Nat.le_refl _)) hlc hcc role br)
  dsimp only [Ex.workV, Ex.wv] at HFW HR
  clear hL hF ha hS hns hC
  have hmm := @run_makeMap Tryz.prog
  go_enter Tryz.func7, Tryz.ntmps7
  go_wp2_with fail
  refine (HS.out _ (by (repeat' first | (with_reducible first | exact Below.refl _ _ | assumption | refine Kit.below_drewN ?_ _ | refine Below.drew ?_ | refine Below.alloc ?_ ?_ _ | refine Below.setCell ?_ ?_ _ | exact Nat.le_refl _) | omega | (simp; omega) | (simp; done) | (apply Below.size; assumption)))).mono ?_
  rintro _ w1 ⟨rfl, hb1⟩
  have HB1 := Lib.hid (show Below w.heap.size w w1 from Below.trans (B := w.heap.size) (by (repeat' first | (with_reducible first | exact Below.refl _ _ | assumption | refine Kit.below_drewN ?_ _ | refine Below.drew ?_ | refine Below.alloc ?_ ?_ _ | refine Below.setCell ?_ ?_ _ | exact Nat.le_refl _) | omega | (simp; omega) | (simp; done) | (apply Below.size; assumption))) (hb1.mono (by simp; try omega)))
  have WK1 := Lib.hid (show ∀ j, w1.cell? ⟨w.heap.size, j, none⟩ = (Un.wkC x p)[j]? from fun j => by
    rw [World.cell?_of_block (hb1.block w.heap.size (by simp; try omega))]
    simp [go_sem])
  have hz1 : w.heap.size < w1.heap.size := by have := hb1.size; simp at this; omega
  clear hb1
  have wk1 := WK1.out
  go_wp2_with fail
  refine (HFW.out _).mono ?_
  rintro _ w2 ⟨⟨fb, rfl, hfb⟩, hb2⟩
  have HB2 := Lib.hid (HB1.out.trans (hb2.mono HB1.out.size))
  have WK2 := Lib.hid (show ∀ j, w2.cell? ⟨w.heap.size, j, none⟩ = (Un.wkC x p)[j]? from fun j => (World.cell?_of_block (hb2.block w.heap.size hz1)).trans (WK1.out j))
  have hz2 : w.heap.size < w2.heap.size := Nat.lt_of_lt_of_le hz1 hb2.size
  clear hb2 WK1 wk1 HB1 hz1
  have HFB := Lib.hid hfb
  clear hfb
  rcases fb with _ | _
  · go_wp2_with fail
    go_ret
    exact ⟨rfl, HB2.out⟩
  have hlc := (HFB.out (by first | rfl | trivial)).2
  rcases dl : decide (later < bar) with _ | _
  · have HLE := Lib.hid (show bar ≤ later by have := of_decide_eq_false dl; omega)
    have wk2 := WK2.out
    go_wp2_with fail
    refine (HR.out _ HB2.out (by omega) bar).mono ?_
    rintro _ w3 ⟨⟨a3, n3, c3, rfl, hr3⟩, hb3⟩
    have HB3 := Lib.hid (HB2.out.trans (hb3.mono HB2.out.size))
    have WK3 := Lib.hid (show ∀ j, w3.cell? ⟨w.heap.size, j, none⟩ = (Un.wkC x p)[j]? from fun j => (World.cell?_of_block (hb3.block w.heap.size hz2)).trans (WK2.out j))
    have hz3 : w.heap.size < w3.heap.size := Nat.lt_of_lt_of_le hz2 hb3.size
    have HR3 := Lib.hid hr3
    clear hb3 WK2 wk2 HB2 hz2 hr3
    have wk3 := WK3.out
    go_wp2_with fail
    refine (HR.out _ HB3.out (by omega) later).mono ?_
    rintro _ w4 ⟨⟨a4, n4, c4, rfl, hr4⟩, hb4⟩
    have HB4 := Lib.hid (HB3.out.trans (hb4.mono HB3.out.size))
    have HR34 := Lib.hid (HR3.out.kept hb4)
    have HR4 := Lib.hid hr4
    clear hb4 WK3 wk3 HB3 hz3 hr4 HR3
    obtain ⟨r3, h3⟩ : ∃ r, Un.readyE x bs cast role bar = r := ⟨_, rfl⟩
    obtain ⟨r4, h4⟩ : ∃ r, Un.readyE x bs cast role later = r := ⟨_, rfl⟩
    rw [h3, h4]
    have H3 := Lib.hid h3
    have H4 := Lib.hid h4
    clear h3 h4
    rcases c3z : (r3 != 0) with _ | _
    · have e3 : (r3 == 0) = true := by simpa using c3z
      rcases c4z : (r4 != 0) with _ | _
      · obtain ⟨l3, rfl, hn3, hrd3, hs3⟩ : ∃ l : List Nat, n3 = l.length ∧ n3 ≤ 16 ∧ Un.Ready x bs cast role bar l ∧ Tp.Sl w4 a3 l.length 1 (Uy.nc l) := by
          rcases HR34.out with ⟨h, _⟩ | ⟨_, h⟩
          · rw [H3.out] at h; simp at c3z; exact absurd c3z h
          · exact h
        obtain ⟨l4, rfl, hn4, hrd4, hs4⟩ : ∃ l : List Nat, n4 = l.length ∧ n4 ≤ 16 ∧ Un.Ready x bs cast role later l ∧ Tp.Sl w4 a4 l.length 1 (Uy.nc l) := by
          rcases HR4.out with ⟨h, _⟩ | ⟨_, h⟩
          · rw [H4.out] at h; simp at c4z; exact absurd c4z h
          · exact h
        have HIN := Lib.hid (Un.ready_later HLE.out hrd3 hrd4)
        have HS3 := Lib.hid hs3
        have HS4 := Lib.hid hs4
        have HQ3 := Lib.hid (show ∀ q ∈ l3, q < bs.length from fun q hq => by have := (List.mem_filter.1 (hrd3.perm.mem_iff.1 hq)).1; simpa using this)
        have HQ4 := Lib.hid (show ∀ q ∈ l4, q < bs.length from fun q hq => by have := (List.mem_filter.1 (hrd4.perm.mem_iff.1 hq)).1; simpa using this)
        have hbl := (HFB.out (by first | rfl | trivial)).1
        clear hrd3 hrd4 hs3 hs4 HR34 HR4 H3 H4 HR HFW HS
        go_wp2_with fail
        go_loopw [68] (fun v68 wr => ∃ i : Nat, v68 = .int .i64 i ∧ i ≤ l4.length ∧ Hid (Kit.IMap Tryz.prog 3 wr w4.heap.size i (Uy.inF (l4.take i))) ∧ Hid (Below w4.heap.size w4 wr)) (fun v68 _ => l4.length - (intOf v68).toNat)
        case atStart => exact ⟨0, rfl, Nat.zero_le _, Lib.hid (by rw [List.take_zero, Uy.inF_nil]; exact Kit.IMap.made _ _ _), Lib.hid ((Below.refl _ _).alloc (Nat.le_refl _) _)⟩
        case round =>
          obtain ⟨i, rfl, hi, HM, HBR⟩ := hrel
          by_cases hlt : i < l4.length
          · have hltz : (i : Int) < (l4.length : Int) := by omega
            obtain ⟨ad, rfl, had, _⟩ := HS4.out.at hlt
            have e0 := (HS4.out.kept HBR.out (Nat.le_refl _)).head hlt (by omega)
            obtain ⟨q, hq⟩ : ∃ q, l4.getD i 0 = q := ⟨_, rfl⟩
            unfold Uy.nc at e0
            rw [hq, Nat.mul_one] at e0
            have hqm : q ∈ l4 := by rw [← hq]; simp [List.getD, hlt]
            have hqb := HQ4.out q hqm
            have HT := Lib.hid (show l4.take (i + 1) = l4.take i ++ [q] by rw [Un.take_snoc l4 i hlt]; congr 2)
            clear hq hqm
            go_wp2_with (refine Kit.wpList_put_imap _ rfl _ _ _ _ (.inl rfl) 3 4 (.bool false) Uy.mb _ _ _ rfl HM.out ?hn _ rfl _ rfl ?wf ?_; (case hn => (unfold maxLen; omega)); (case wf => exact WalkArith.wf_i64 (by omega)); intro w5 hm hg5; have HM2 := Lib.hid hm; have HB5 := Lib.hid (HBR.out.grown hg5 HBR.out.size (fun k hk => by cases hk; exact Nat.le_refl _)); clear hm hg5)
            go_roundw
            case rel => exact ⟨i + 1, by go_num, by omega, Lib.hid (by rw [HT.out, ← Uy.inF_put]; exact HM2.out), HB5⟩
            case measure => simp [intOf]; omega
          · obtain rfl : i = l4.length := by omega
            have hm0 := HM.out
            rw [List.take_length] at hm0
            have HM0 := Lib.hid hm0
            clear hm0 HM hlt
            go_wp2_with fail
            go_loopw [77] (fun v77 wz => ∃ i : Nat, v77 = .int .i64 i ∧ i ≤ l3.length ∧ Hid (wz = wr)) (fun v77 _ => l3.length - (intOf v77).toNat)
            case atStart => exact ⟨0, rfl, Nat.zero_le _, Lib.hid rfl⟩
            case round =>
              obtain ⟨i, rfl, hi, HWZ⟩ := hrel
              obtain rfl := HWZ.out
              by_cases hlt : i < l3.length
              · have hltz : (i : Int) < (l3.length : Int) := by omega
                obtain ⟨ad, rfl, had, _⟩ := HS3.out.at hlt
                have e0 := (HS3.out.kept HBR.out (Nat.le_refl _)).head hlt (by omega)
                obtain ⟨q, hq⟩ : ∃ q, l3.getD i 0 = q := ⟨_, rfl⟩
                unfold Uy.nc at e0
                rw [hq, Nat.mul_one] at e0
                have hqm : q ∈ l3 := by rw [← hq]; simp [List.getD, hlt]
                have hqb := HQ3.out q hqm
                have HV := Lib.hid (Uy.inF_at (HIN.out q hqm))
                clear hq hqm
                go_wp2_with (at_lookup; refine Kit.wpList_lookup_imap _ rfl _ _ _ rfl 3 4 (.bool false) Uy.mb _ _ _ rfl HM0.out _ rfl ?wf (.bool true) HV.out ?_; (case wf => exact WalkArith.wf_i64 (by omega)))
                go_roundw
                case rel => exact ⟨i + 1, by go_num, by omega, (by first | exact Lib.hid rfl | trivial)⟩
                case measure => simp [intOf]; omega
              · obtain rfl : i = l3.length := by omega
                go_wp2_with fail
                go_ret
                exact ⟨rfl, HB4.out.trans (HBR.out.mono HB4.out.size)⟩
      · rcases e5 : ((n3 : Int) == 0) with _ | _ <;> (go_wp2_with fail; go_ret; exact ⟨rfl, HB4.out⟩)
    · obtain rfl : n3 = 0 := by
        rcases HR34.out with ⟨_, h⟩ | ⟨h, _⟩
        · exact h
        · rw [H3.out] at h; simp [h] at c3z
      go_wp2_with fail
      go_ret
      exact ⟨rfl, HB4.out⟩
  · go_wp2_with fail
    go_ret
    exact ⟨rfl, HB2.out⟩
end Go.Proofs.YtbhgogiaaljclaaGreatDoor
