/- Walks: package understudy: by; Ready where it has an error. Walks: package understudy: Ready: the loop over the persons. Walks: package understudy: Ready, of right arguments; Ready, of whatever arguments. -/
import Derived.Test.YtbhgogiaaljclaaGreatDoorUuj
import Derived.Test.YtbhgogiaaljclaaGreatDoorUrx
import Derived.Test.YtbhgogiaaljclaaGreatDoorKxb
import Derived.Deep.LoopGhost
import Derived.Laws.EntriesVeiled
import Derived.Test.YtbhgogiaaljclaaGreatDoorUry
import Derived.OwnWalk
set_option linter.unusedSimpArgs false
set_option linter.unusedVariables false
set_option maxRecDepth 100000
set_option maxHeartbeats 16000000
namespace Go.Proofs.YtbhgogiaaljclaaGreatDoor
open Go.RowKit
theorem un_ready_e (x : Ex.Wk) (p : Ex.Wa) (w : World) (hL : Ex.Laid w) (ha : Ex.At w x p) (bs : List Un.Bd) (a : Option Addr) (c : Nat) (hS : Tp.Sl w a bs.length 17 (Un.bdF bs)) (hl : bs.length ≤ 4611686018427387904) (hns : ∀ b ∈ bs, b.name.size ≤ 9223372036854775807)
  (cast : List Int) (ac : Option Addr) (cc : Nat) (hC : Tp.Sl w ac cast.length 1 (Un.ic cast)) (hlc : cast.length ≤ 1000000000) (hcc : cast.length ≤ cc) (role bar : Int) (hE : Un.readyE x bs cast role bar ≠ 0) :
  Calls Tryz.prog 16 #[Ex.workV x p, .slice a bs.length c, .slice ac cast.length cc, .int .i64 role, .int .i64 bar] w fun e w' => e = .returned (.tuple #[.slice none 0 0, .int .i64 (Un.readyE x bs cast role bar)]) ∧ Below w.heap.size w w' := by
 obtain ⟨R, hR⟩ : ∃ R, Un.readyE x bs cast role bar = R := ⟨_, rfl⟩
 rw [hR] at hE ⊢
 unfold Un.readyE at hR
 obtain ⟨c0, hc0⟩ : ∃ c0, Ex.chk x = c0 := ⟨_, rfl⟩
 obtain ⟨d0, hd0⟩ : ∃ c, Un.chkB bs = c := ⟨_, rfl⟩
 obtain ⟨d2, hd2⟩ : ∃ c, (if Un.within x role bar = true then (0 : Int) else 1) = c := ⟨_, rfl⟩
 have H0 := qh (fun W (hW : Below w.heap.size w W) => (by have h := ex_check x p W (ha.kept hW nlr) (hL.kept hW nlr); rwa [hc0] at h : Ex.Chk x p W c0))
 have H1 := qh (fun W (hW : Below w.heap.size w W) => (by have h := un_checked bs a c W (hS.kept hW nlr) hl hns; rwa [hd0] at h : Calls Tryz.prog 31 #[.slice a bs.length c] W fun e w' => e = .returned (.int .i64 d0) ∧ Below W.heap.size W w'))
 have H4 := qh (fun W => (by have h := un_within x p role bar W ha.lro; rwa [hd2] at h : Calls Tryz.prog 30 #[Ex.workV x p, .int .i64 role, .int .i64 bar] W fun e w' => e = .returned (.int .i64 d2) ∧ Below W.heap.size W w'))
 have HSL := qh hS
 have HCS := qh hC
 have hlro := ha.lro
 rw [hc0] at hR
 have HD0 := qh (show d0 = 0 ↔ ¬ bs.all Un.bok = false by rw [← hd0]; unfold Un.chkB; cases bs.all Un.bok <;> simp)
 have HD2 := qh (show d2 = 0 ↔ ¬ Un.within x role bar = false by rw [← hd2]; cases Un.within x role bar <;> simp)
 have HDV := qh (show (d0 ≠ 0 → d0 = 250) ∧ (d2 ≠ 0 → d2 = 1) by
  refine ⟨fun h => ?_, fun h => ?_⟩
  ·rw [← hd0] at h ⊢; unfold Un.chkB at h ⊢; split at h <;> simp_all
  ·rw [← hd2] at h ⊢; split at h <;> simp_all)
 have HR := qh hR
 have HE := qh hE
 clear hL ha hS hC hns hc0 hd0 hd2 hR hE
 dsimp only [Ex.Chk, Ex.workV, Ex.wv] at H0 H4
 go_enter Tryz.func16, Tryz.ntmps16
 go_wp2_with fail
 refine (H0.out _ (by exact Kit.gr)).mono ?_
 rintro _ w1 ⟨rfl, hb1⟩
 have HB1 := qh (show Below w.heap.size w w1 from Below.trans (B := w.heap.size) (by exact Kit.gr) (hb1.mono (by simp; try omega)))
 have WK1 := qh (show ∀ j, w1.cell? ⟨w.heap.size, j, none⟩ = (Un.wkC x p)[j]? from fun j => by
  rw [World.cell?_of_block (hb1.block w.heap.size (by simp; try omega))]
  simp [go_sem])
 have hz1 : w.heap.size < w1.heap.size := by have := hb1.size; simp at this; omega
 clear hb1
 by_cases h0 : c0 = 0
 ·have h0n : (c0 != 0) = false := by simp [h0]
  by_cases hn : 16 < bs.length
  ·have hnb : decide ((16 : Int) < (bs.length : Int)) = true := by simp; omega
   have HZ := qh (show R = 2 by rw [← HR.out, if_neg (by simp [h0]), if_pos hn])
   clear h0 hn
   go_wp2_with fail
   (refine bodyPost_ret (by simp [results, Tryz.results16, go_sem, Kit.cell_set]; try rfl) rfl ?_)
   exact ⟨by rw [HZ.out], HB1.out⟩
  ·have hnb : decide ((16 : Int) < (bs.length : Int)) = false := by simp; omega
   have HNN := qh (And.intro h0 hn)
   have hnl : bs.length ≤ 16 := by omega
   clear h0 hn
   go_wp2_with fail
   refine (H1.out _ HB1.out).mono ?_
   rintro _ w2 ⟨rfl, hb2⟩
   have HB2 := qh (HB1.out.trans (hb2.mono HB1.out.size))
   have WK2 := qh (show ∀ j, w2.cell? ⟨w.heap.size, j, none⟩ = (Un.wkC x p)[j]? from fun j => (World.cell?_of_block (hb2.block w.heap.size hz1)).trans (WK1.out j))
   have hz2 : w.heap.size < w2.heap.size := Nat.lt_of_lt_of_le hz1 hb2.size
   clear hb2 WK1 HB1 hz1
   by_cases hdd : d0 = 0
   ·have h1n : (d0 != 0) = false := by simp [hdd]
    have HOK := qh (HD0.out.1 hdd)
    subst hdd
    go_wp2_with fail
    have HRB := qh (show ∀ i, i < bs.length → ∀ B, bs.getD i default = B → ∀ W, Below w.heap.size w W → (loadVar 36 ((a.getD default).add (i * 17))).run Tryz.prog W = .ok (.agg (Un.bdA B)) W from fun i hi B hB W hW => by
     obtain ⟨ad, rfl, _⟩ := HSL.out.at hi
     have HI : (Tryz.prog.info? 36).map (·.size) = some (Un.bdA B).toList.length := by kernel_rfl
     exact Kit.run_load_sl (HSL.out.kept hW nlr) hi 36 (Un.bdA B).toList _ rfl (Un.bdF_at bs i B hB) Tryz.underlying36 rfl HI)
    refine wp_loop_ghost_k (fun k a' w' => (∃ i : Nat, (a'.tmps.getD 43 undef) = .int .i64 i ∧ (a'.tmps.getD 10 undef) = .slice none 0 0 ∧ (a'.tmps.getD 11 undef) = .int .i64 0 ∧ i ≤ cast.length ∧ cast.length - i ≤ k ∧ Hid (Kit.Gw w2 36 17 (a'.tmps.getD 12 undef) i (Un.bdsV (Un.onL bs (cast.take i))) w') ∧ Hid (Un.okCast bs.length [] (cast.take i) = true)) ∧ a' = (fun (t : Nat → Value) => ({ tmps := #[Ex.workV x p, Value.slice a bs.length c, Value.slice ac cast.length cc, Value.int IntKind.i64 role, Value.int IntKind.i64 bar, Value.pointer (some { block := w.heap.size, off := 0 }), undef, undef, undef, undef, t 10, t 11, t 12, t 13, t 14, undef, undef, undef, undef, undef, undef, undef, undef, undef, undef, undef, undef, undef, Value.agg #[Value.int IntKind.i64 x.wd, Value.int IntKind.i64 x.dp, Value.int IntKind.i64 x.ta, Value.int IntKind.i64 x.tb, Value.int IntKind.i64 x.tc, Value.slice p.aR x.ro.length p.cR, Value.int IntKind.i64 x.n, Value.slice p.aT x.ts.length p.cT, Value.slice p.aP x.ps.length p.cP, Value.slice p.aS x.ss.length p.cS, Value.slice p.aG x.sg.length p.cG], Value.int IntKind.i64 c0, Value.int IntKind.i64 c0, Value.bool false, undef, Value.slice a bs.length c, Value.int IntKind.i64 ↑bs.length, Value.bool false, Value.slice a bs.length c, Value.int IntKind.i64 0, Value.int IntKind.i64 0, Value.bool false, undef, Value.slice ac cast.length cc, Value.int IntKind.i64 ↑cast.length, t 43, t 44, t 45, t 46, t 47, t 48, t 49, t 50, t 51, t 52, t 53, t 54, t 55, t 56, t 57, t 58, t 59, t 60, t 61, t 62, t 63, t 64, t 65, t 66, t 67, t 68, t 69, t 70, undef, undef, undef, undef, undef, undef, undef, undef, undef, undef, undef, undef, undef, undef, undef, undef, undef, undef, undef, undef, undef, undef, undef, undef, undef, undef, undef, undef, undef, undef, undef, undef, undef, undef, undef, undef, undef, undef, undef, undef, undef, undef, undef, undef, undef, undef, undef, undef, undef, undef, undef, undef, undef, undef, undef, undef, undef, undef, undef, undef, undef, undef, undef, undef, undef, undef, undef, undef, undef, undef, undef, undef, undef, undef, undef, undef, undef, undef, undef, undef, undef, undef, undef, undef, undef, undef, undef, undef, undef, undef, undef], defers := [] } : Act)) (fun j => a'.tmps.getD j undef)) cast.length ?atStart ?round
    case atStart => exact ⟨⟨0, rfl, rfl, rfl, by omega, by omega, qh (Kit.Gw.start _ _ _), qh rfl⟩, by kernel_rfl⟩
    case round =>
     intro gk a' wr hinv
     obtain ⟨hrel, ha⟩ := hinv
     rw [ha]
     clear ha
     obtain ⟨s10, h10_⟩ : ∃ s, a'.tmps.getD 10 undef = s := ⟨_, rfl⟩
     obtain ⟨s11, h11_⟩ : ∃ s, a'.tmps.getD 11 undef = s := ⟨_, rfl⟩
     obtain ⟨s12, h12_⟩ : ∃ s, a'.tmps.getD 12 undef = s := ⟨_, rfl⟩
     obtain ⟨s43, h43_⟩ : ∃ s, a'.tmps.getD 43 undef = s := ⟨_, rfl⟩
     rw [h10_, h11_, h12_, h43_] at hrel
     generalize ht_ : (fun j => a'.tmps.getD j undef) = t
     have f10_ : t 10 = s10 := by rw [← ht_]; exact h10_
     have f11_ : t 11 = s11 := by rw [← ht_]; exact h11_
     have f12_ : t 12 = s12 := by rw [← ht_]; exact h12_
     have f43_ : t 43 = s43 := by rw [← ht_]; exact h43_
     clear ht_ h10_ h11_ h12_ h43_
     clear a'
     dsimp only
     rw [f10_, f11_, f12_, f43_]
     clear f10_ f11_ f12_ f43_
     intro _ _ _ _
     obtain ⟨i, rfl, rfl, rfl, hi, hk, HG, HK⟩ := hrel
     have HBR := qh (HB2.out.trans (HG.out.bel.mono HB2.out.size))
     by_cases hlt : i < cast.length
     ·have hltb : decide ((i : Int) < (cast.length : Int)) = true := by simp; omega
      obtain ⟨pz, hpz⟩ : ∃ pz, cast.getD i 0 = pz := ⟨_, rfl⟩
      obtain ⟨ad, rfl, had, _⟩ := HCS.out.at hlt
      have ci := (HCS.out.kept HBR.out nlr).head hlt omg
      unfold Un.ic at ci
      rw [hpz, Nat.mul_one] at ci
      have HCT := qh (by have h := un_contains (cast.take i) (some ad) cc pz wr (Un.sl_take (HCS.out.kept HBR.out nlr) i hi) (by simp; omega); rwa [show (cast.take i).length = i by simp [hi]] at h : Calls Tryz.prog 42 #[.slice (some ad) i cc, .int .i64 pz] wr fun e w' => e = .returned (.bool ((cast.take i).contains pz)) ∧ w' = wr)
      obtain ⟨ct, hct⟩ : ∃ ct, (cast.take i).contains pz = ct := ⟨_, rfl⟩
      rw [hct] at HCT
      by_cases hbad : pz < 0 ∨ (bs.length : Int) ≤ pz ∨ ct = true
      ·have HZ := qh (show R = 480 by rw [← HR.out, if_neg (by simp [HNN.out.1]), if_neg HNN.out.2, if_neg HOK.out, if_pos (Un.okCast_no hlt pz hpz (by rw [hct]; exact hbad))])
       have HPZ := qh (And.intro hpz hct)
       clear hpz hct
       by_cases b1 : pz < 0
       ·have e1 : decide (pz < 0) = true := by simp [b1]
        clear hbad b1
        go_wp2_with fail
        (refine bodyPost_ret (by simp [results, Tryz.results16, go_sem, Kit.cell_set]; try rfl) rfl ?_)
        exact ⟨by rw [HZ.out], HBR.out⟩
       ·have e1 : decide (pz < 0) = false := by simp; omega
        by_cases b2 : (bs.length : Int) ≤ pz
        ·have e2 : decide ((bs.length : Int) ≤ pz) = true := by simp [b2]
         clear hbad b1 b2
         go_wp2_with fail
         (refine bodyPost_ret (by simp [results, Tryz.results16, go_sem, Kit.cell_set]; try rfl) rfl ?_)
         exact ⟨by rw [HZ.out], HBR.out⟩
        ·have e2 : decide ((bs.length : Int) ≤ pz) = false := by simp; omega
         obtain rfl : ct = true := by rcases hbad with h | h | h <;> first | omega | exact h
         clear hbad b1 b2
         go_wp2_with fail
         refine HCT.out.mono ?_
         rintro _ w' ⟨rfl, hw⟩
         subst w'
         go_wp2_with fail
         (refine bodyPost_ret (by simp [results, Tryz.results16, go_sem, Kit.cell_set]; try rfl) rfl ?_)
         exact ⟨by rw [HZ.out], HBR.out⟩
      ·obtain rfl : ct = false := by
        cases ct with
        | false => rfl
        | true => exact absurd (.inr (.inr rfl)) hbad
       have e1 : decide (pz < 0) = false := by simp; omega
       have e2 : decide ((bs.length : Int) ≤ pz) = false := by simp; omega
       obtain ⟨pn, rfl⟩ := Int.eq_ofNat_of_zero_le (show 0 ≤ pz by omega)
       have hpn : pn < bs.length := by omega
       have e2n : decide (bs.length ≤ pn) = false := by simp; omega
       have e3n : (pn : Int) < (bs.length : Int) := by omega
       obtain ⟨B, hB⟩ : ∃ B, bs.getD pn default = B := ⟨_, rfl⟩
       obtain ⟨adb, rfl, hadb, _⟩ := HSL.out.at hpn
       have HRUN := qh (show (loadVar 36 (adb.add (pn * 17))).run Tryz.prog wr = .ok (.agg (Un.bdA B)) wr from HRB.out pn hpn B hB wr HBR.out)
       have HKN := qh (Un.okCast_take hlt HK.out _ hpz omg omg hct)
       have HON := qh (show Un.bdsV (Un.onL bs (cast.take (i + 1))) = Un.bdsV (Un.onL bs (cast.take i)) ++ (Un.bdA B).toList by rw [Un.onL_snoc bs cast i hlt pn hpz, hB, Un.bdsV_snoc])
       have hfold : Array.foldl (fun cs x => cs.setIfInBounds x.snd x.fst) Un.bdZ (Un.bdA B).zipIdx 0 17 = Un.bdA B := by kernel_rfl
       unfold Un.bdZ at hfold
       have hs17 : (Un.bdA B).size = 17 := rfl
       clear hbad hpz hct HK hB
       go_wp2_with (first
        | ((with_reducible refine HCT.out.mono ?_); rintro _ w' ⟨rfl, hw⟩; subst w')
        | ((with_reducible refine Kit.wpList_load_sl ?_ 36 (.tmp 66) ?_ (ad := adb) (k := 17) pn ?_ (Un.bdA B).toList HRUN.out ?_); rfl; rfl; rfl)
        | (at_builtin; refine Kit.wpList_app Un.elB _ rfl _ _ rfl _ _ _ (HG.out.alloc _) rfl omg ⟨wr.heap.size, 0, none⟩ 1 (Un.bdA B).toList rfl rfl (fun j u hu => Kit.lit_at _ (Un.bdA B).toList _ rfl j u hu) (fun u hu => by have := Un.bdA_one B; rw [Array.all_eq_true'] at this; exact this u (by simpa using hu)) ?_; intro v' w5 ho hg; have HG2 := qh ho; clear ho hg))
       (refine Handed.intro (cast.length - (i + 1)) ?_ ?_; omega; go_step; exact ⟨⟨i + 1, by show Value.int .i64 _ = _; go_num, rfl, rfl, by omega, Nat.le_refl _, qh (by rw [HON.out]; exact HG2.out), HKN⟩, by kernel_rfl⟩)
     ·obtain rfl : i = cast.length := by omega
      have hok := HK.out
      rw [List.take_length] at hok
      obtain ⟨a12, k12, rfl⟩ := HG.out.shape
      have s5 : wr.cell? ⟨w.heap.size, 5, none⟩ = (Un.wkC x p)[5]? := (World.cell?_of_block (HG.out.bel.block w.heap.size hz2)).trans (WK2.out 5)
      simp at s5
      by_cases hln : cast.length = x.ro.length
      ·have hlb : ((cast.length : Int) != (x.ro.length : Int)) = false := by simp [hln]
       have hw0 : ¬ d2 = 0 := fun h => HE.out (by
        rw [← HR.out, if_neg (by simp [HNN.out.1]), if_neg HNN.out.2, if_neg HOK.out, if_neg (by simp [hok]), if_neg (by simp [hln]), if_neg (HD2.out.1 h)])
       have h2n : (d2 != 0) = true := by simp [hw0]
       have HZ := qh (show d2 = R by
        rw [HDV.out.2 hw0, ← HR.out, if_neg (by simp [HNN.out.1]), if_neg HNN.out.2, if_neg HOK.out, if_neg (by simp [hok]), if_neg (by simp [hln]), if_pos (by
         by_cases hww : Un.within x role bar = false
         ·exact hww
         ·exact absurd (HD2.out.2 hww) hw0)])
       have wk : ∀ j, wr.cell? ⟨w.heap.size, j, none⟩ = (Un.wkC x p)[j]? := fun j => (World.cell?_of_block (HG.out.bel.block w.heap.size hz2)).trans (WK2.out j)
       clear hw0 hok hln
       go_wp2_with fail
       refine (H4.out _).mono ?_
       rintro _ w4 ⟨rfl, hb4⟩
       have HB4 := qh (HBR.out.trans (hb4.mono HBR.out.size))
       clear hb4 wk s5
       go_wp2_with fail
       (refine bodyPost_ret (by simp [results, Tryz.results16, go_sem, Kit.cell_set]; try rfl) rfl ?_)
       exact ⟨by rw [HZ.out], HB4.out⟩
      ·have hlb : ((cast.length : Int) != (x.ro.length : Int)) = true := by simp; omega
       have HZ := qh (show R = 480 by rw [← HR.out, if_neg (by simp [HNN.out.1]), if_neg HNN.out.2, if_neg HOK.out, if_neg (by simp [hok]), if_pos hln])
       clear hln hok
       go_wp2_with fail
       (refine bodyPost_ret (by simp [results, Tryz.results16, go_sem, Kit.cell_set]; try rfl) rfl ?_)
       exact ⟨by rw [HZ.out], HBR.out⟩
   ·have h1n : (d0 != 0) = true := by simp [hdd]
    have HZ := qh (show d0 = R by rw [HDV.out.1 hdd, ← HR.out, if_neg (by simp [HNN.out.1]), if_neg HNN.out.2, if_pos (by
     by_cases hww : bs.all Un.bok = false
     ·exact hww
     ·exact absurd (HD0.out.2 hww) hdd)])
    clear hdd
    go_wp2_with fail
    (refine bodyPost_ret (by simp [results, Tryz.results16, go_sem, Kit.cell_set]; try rfl) rfl ?_)
    exact ⟨by rw [HZ.out], HB2.out⟩
 ·have h0n : (c0 != 0) = true := by simp [h0]
  have HZ := qh (show c0 = R by rw [← HR.out, if_pos h0])
  clear h0
  go_wp2_with fail
  (refine bodyPost_ret (by simp [results, Tryz.results16, go_sem, Kit.cell_set]; try rfl) rfl ?_)
  exact ⟨by rw [HZ.out], HB1.out⟩
end Go.Proofs.YtbhgogiaaljclaaGreatDoor

namespace Go.Proofs.YtbhgogiaaljclaaGreatDoor
open Go.RowKit Go.Shelf
theorem Un.wpList_name {P : Program} {ops : Array Oper} {Q : Exit → Act → World → Prop} {l : List Oper} {a : Act} {w : World} (h : ∀ W, W = w → wpList P ops Q l a W) : wpList P ops Q l a w := h w rfl
namespace Un
theorem prF_no {x : Ex.Wk} {bs : List Bd} {cast : List Int} {role bar : Int} {i : Nat} (h : fits x bs cast role bar i = false) (p : Nat) : prF x bs cast role bar (i + 1) p = prF x bs cast role bar i p := by
 unfold prF
 by_cases hp : p = i
 ·subst hp
  rw [if_neg (by rw [h]; simp), if_neg omg]
 ·have e : (p < i + 1 ∧ fits x bs cast role bar p = true) ↔ (p < i ∧ fits x bs cast role bar p = true) := by constructor <;> rintro ⟨a, b⟩ <;> exact ⟨by omega, b⟩
  by_cases h1 : p < i ∧ fits x bs cast role bar p = true
  ·rw [if_pos h1, if_pos (e.2 h1)]
  ·rw [if_neg h1, if_neg (fun h2 => h1 (e.1 h2))]
theorem prF_ne {x : Ex.Wk} {bs : List Bd} {cast : List Int} {role bar : Int} {i p : Nat} (hp : p ≠ i) : prF x bs cast role bar (i + 1) p = prF x bs cast role bar i p := by
 unfold prF
 have e : (p < i + 1 ∧ fits x bs cast role bar p = true) ↔ (p < i ∧ fits x bs cast role bar p = true) := by constructor <;> rintro ⟨a, b⟩ <;> exact ⟨by omega, b⟩
 by_cases h1 : p < i ∧ fits x bs cast role bar p = true
 ·rw [if_pos h1, if_pos (e.2 h1)]
 ·rw [if_neg h1, if_neg (fun h2 => h1 (e.1 h2))]
theorem prF_yes {x : Ex.Wk} {bs : List Bd} {cast : List Int} {role bar : Int} {i : Nat} (h : fits x bs cast role bar i = true) : prF x bs cast role bar (i + 1) i = price x (bs.getD i default) role bar := by
 unfold prF
 rw [if_pos ⟨by omega, h⟩]
theorem prF_at (x : Ex.Wk) (bs : List Bd) (cast : List Int) (role bar : Int) (i : Nat) : prF x bs cast role bar i i = 0 := by
 unfold prF
 rw [if_neg omg]
def Prs (x : Ex.Wk) (bs : List Bd) (cast : List Int) (role bar : Int) (P i : Nat) (W : World) : Prop :=
 ∃ cur : Array Value, W.heap[P]? = some (.cells cur 3 (0, 0)) ∧ cur.size = bs.length ∧ ∀ q, q < bs.length → cur[q]? = some (.int .i64 (prF x bs cast role bar i q))
theorem Prs.kept {x : Ex.Wk} {bs : List Bd} {cast : List Int} {role bar : Int} {P i : Nat} {W W' : World} (h : Prs x bs cast role bar P i W) (hb : Below W.heap.size W W') : Prs x bs cast role bar P i W' := by
 obtain ⟨cur, h1, h2⟩ := h
 exact ⟨cur, (hb.block P (Array.getElem?_eq_some_iff.1 h1).1).trans h1, h2⟩
theorem Prs.no {x : Ex.Wk} {bs : List Bd} {cast : List Int} {role bar : Int} {P i : Nat} {W : World} (h : Prs x bs cast role bar P i W) (hf : fits x bs cast role bar i = false) : Prs x bs cast role bar P (i + 1) W := by
 obtain ⟨cur, h1, h2, h3⟩ := h
 exact ⟨cur, h1, h2, fun q hq => by rw [h3 q hq, prF_no hf]⟩
structure LI (x : Ex.Wk) (bs : List Bd) (cast : List Int) (role bar : Int) (N : Nat) (W2 : World) (P i : Nat) (v10 : Value) (ds : List Deferred) (wr : World) : Prop where
 own : wr.ownsRow W2.heap.size 3 1 v10 (frs x bs cast role bar i).length (ints (frs x bs cast role bar i))
 prs : Prs x bs cast role bar P i wr
 exc : Kit.Exc (fun k => k = P) W2 wr
 mks : Kit.Marks N wr ds
theorem LI.then {x : Ex.Wk} {bs : List Bd} {cast : List Int} {role bar : Int} {N : Nat} {W2 : World} {P i : Nat} {v10 : Value} {ds : List Deferred} {wr w' : World} (h : LI x bs cast role bar N W2 P i v10 ds wr) (hb : Below wr.heap.size wr w') : LI x bs cast role bar N W2 P i v10 ds w' :=
 ⟨Kit.ownsRow_thn h.own hb, h.prs.kept hb, h.exc.then hb, h.mks.exc ((Kit.Exc.refl (fun _ => False) wr).then hb) (fun _ h => h.elim)⟩
theorem LI.no {x : Ex.Wk} {bs : List Bd} {cast : List Int} {role bar : Int} {N : Nat} {W2 : World} {P i : Nat} {v10 : Value} {ds : List Deferred} {wr : World} (h : LI x bs cast role bar N W2 P i v10 ds wr) (hf : fits x bs cast role bar i = false) : LI x bs cast role bar N W2 P (i + 1) v10 ds wr := by
 refine ⟨?_, h.prs.no hf, h.exc, h.mks⟩
 have e : frs x bs cast role bar (i + 1) = frs x bs cast role bar i := by rw [frs_succ, hf]; simp
 rw [e]; exact h.own
theorem row_exc {w w' : World} {s e k n : Nat} {v : Value} {xs : List Value} {S : Nat → Prop} (h : w.ownsRow s e k v n xs) (hx : Kit.Exc S w w') (hS : ∀ g, v.ownBlock = some g → ¬ S g) : w'.ownsRow s e k v n xs := by
 refine ⟨h.1, ?_⟩
 rcases h.2 with h1 | ⟨g, cap, cur, rfl, h2, h3, h4⟩
 ·exact .inl h1
 ·exact .inr ⟨g, cap, cur, rfl, h2, hx.heap h3 (hS g rfl), h4⟩
structure LJ (x : Ex.Wk) (bs : List Bd) (cast : List Int) (role bar : Int) (N : Nat) (W2 : World) (P i : Nat) (v10 : Value) (ds : List Deferred) (wr : World) : Prop where
 own : wr.ownsRow W2.heap.size 3 1 v10 (frs x bs cast role bar i).length (ints (frs x bs cast role bar i))
 prs : Prs x bs cast role bar P (i + 1) wr
 exc : Kit.Exc (fun k => k = P) W2 wr
 mks : Kit.Marks N wr ds
theorem LJ.of {x : Ex.Wk} {bs : List Bd} {cast : List Int} {role bar : Int} {N : Nat} {W2 : World} {P i : Nat} {v10 : Value} {ds : List Deferred} {w4 W5 : World} (h : LI x bs cast role bar N W2 P i v10 ds w4) (hPW : P < W2.heap.size) (hNW : N ≤ W2.heap.size) (hf : fits x bs cast role bar i = true) {D : Nat} (hD : w4.heap.size ≤ D) (hDo : W5.heap[D]? = some (.deferred (some []))) (hx : Kit.Exc (fun k => k = P) w4 W5)
  {cur cur' : Array Value} (hP4 : w4.heap[P]? = some (.cells cur 3 (0, 0))) (hcq : ∀ q, q < bs.length → cur[q]? = some (.int .i64 (prF x bs cast role bar i q))) (hP : W5.heap[P]? = some (.cells cur' 3 (0, 0))) (hs : cur'.size = bs.length) (hc : cur'[i]? = some (.int .i64 (price x (bs.getD i default) role bar))) (hq : ∀ q, q ≠ i → cur'[q]? = cur[q]?) :
  LJ x bs cast role bar N W2 P i v10 ({ target := .collected D, args := #[] } :: ds) W5 := by
 refine ⟨row_exc h.own hx (fun g hg e => by have := (h.own.lt g hg).1; omega), ⟨cur', hP, hs, fun q hq' => ?_⟩, exc_on h.exc hx (fun b hb hn e => hn e), h.mks.push (fun d hd E e hE => hx.heap hE (fun e => by rw [e, hP4] at hE; cases hE)) hDo (by have := h.exc.size; omega) hD⟩
 by_cases e : q = i
 ·subst e; rw [hc, prF_yes hf]
 ·rw [hq q e, hcq q hq', prF_ne e]
theorem LJ.then {x : Ex.Wk} {bs : List Bd} {cast : List Int} {role bar : Int} {N : Nat} {W2 : World} {P i : Nat} {v10 : Value} {ds : List Deferred} {wr w' : World} (h : LJ x bs cast role bar N W2 P i v10 ds wr) (hb : Below wr.heap.size wr w') : LJ x bs cast role bar N W2 P i v10 ds w' :=
 ⟨Kit.ownsRow_thn h.own hb, h.prs.kept hb, h.exc.then hb, h.mks.exc ((Kit.Exc.refl (fun _ => False) wr).then hb) (fun _ h => h.elim)⟩
theorem LJ.app {x : Ex.Wk} {bs : List Bd} {cast : List Int} {role bar : Int} {N : Nat} {W2 : World} {P i : Nat} {v10 v' : Value} {ds : List Deferred} {wr w' : World} (h : LJ x bs cast role bar N W2 P i v10 ds wr) (hPW : P < W2.heap.size) (hf : fits x bs cast role bar i = true)
  (ho : w'.ownsRow W2.heap.size 3 1 v' ((frs x bs cast role bar i).length + 1) (ints (frs x bs cast role bar i) ++ [.int .i64 i])) (hg : wr.grownBy w' v10.ownBlock) : LI x bs cast role bar N W2 P (i + 1) v' ds w' := by
 have hx : Kit.Exc (fun k => v10.ownBlock = some k) wr w' := (Kit.Exc.refl _ wr).grown hg (fun k hk => .inl hk)
 refine ⟨?_, ?_, h.exc.grown hg (fun k hk => .inr (h.own.lt k hk).1), h.mks.exc hx (fun g hg hd => ?_)⟩
 ·rw [frs_succ, if_pos hf, List.length_append]
  have e : ints (frs x bs cast role bar i ++ [i]) = ints (frs x bs cast role bar i) ++ [.int .i64 i] := by unfold ints; simp
  rw [e]; exact ho
 ·obtain ⟨cur, h1, h2⟩ := h.prs
  exact ⟨cur, hx.heap h1 (fun e => by have := (h.own.lt P e).1; omega), h2⟩
 ·rcases h.own.2 with ⟨e, _⟩ | ⟨g', cap, cur, e, _, hh, _⟩
  ·rw [e] at hg; cases hg
  ·rw [e] at hg
   simp [Value.ownBlock] at hg
   subst hg
   rw [hh] at hd; cases hd
structure LS (x : Ex.Wk) (p : Ex.Wa) (bs : List Bd) (cast : List Int) (role bar : Int) (w W W2 : World) (P i : Nat) (v10 : Value) (ds : List Deferred) (B : Bd) (b16 : Nat) (Wk : World) : Prop where
 lI : LI x bs cast role bar w.heap.size W2 P i v10 ds Wk
 bel : Below w.heap.size w Wk
 belW : Below W.heap.size W Wk
 wk : ∀ j, Wk.cell? ⟨w.heap.size, j, none⟩ = (wkC x p)[j]?
 c16 : Wk.cell? ⟨b16, 0, none⟩ = some (.int .i64 i)
 r17 : Wk.rangeAt (b16 + 1) 0 (bdA B).toList
 z17 : b16 + 1 < Wk.heap.size
 zl : w.heap.size < W.heap.size
theorem LS.then {x : Ex.Wk} {p : Ex.Wa} {bs : List Bd} {cast : List Int} {role bar : Int} {w W W2 : World} {P i : Nat} {v10 : Value} {ds : List Deferred} {B : Bd} {b16 : Nat} {Wk W' : World} (h : LS x p bs cast role bar w W W2 P i v10 ds B b16 Wk) (hb : Below Wk.heap.size Wk W') : LS x p bs cast role bar w W W2 P i v10 ds B b16 W' := by
 have hz := h.z17
 have hs := h.belW.size
 have hl := h.zl
 exact ⟨h.lI.then hb, h.bel.trans (hb.mono h.bel.size), h.belW.trans (hb.mono h.belW.size), fun j => (World.cell?_of_block (hb.block w.heap.size omg)).trans (h.wk j), (World.cell?_of_block (hb.block b16 omg)).trans h.c16, Kit.range_kept h.r17 hb hz, Nat.lt_of_lt_of_le hz hb.size, h.zl⟩
theorem onL_len (bs : List Bd) (cast : List Int) : (onL bs cast).length = cast.length := by simp [onL]
end Un
theorem un_ready_loop (fn : Func) (hfn : fn = Tryz.f16) (s0 s1 s2 s3 s4 s5 s6 s7 s8 r23 lp tl : Code) (hc : Tryz.f16.body = some (.seq s0 (.seq s1 (.seq s2 (.seq s3 (.seq s4 (.seq s5 (.seq s6 (.seq s7 (.seq s8 (.seq (.seq r23 (.block 2 (.loop lp))) tl))))))))))) (x0 x6 x7 x8 x9 x13 x14 x15 x16 x17 x18 x19 x20 x21 x22 x23 x24 x25 x26 x27 x28 x29 x30 x31 x32 x33 x34 x35 x36 x37 x38 x39 x40 x41 x42 x43 x44 x45 x46 x47 x48 x49 x50 x51 x52 x53 x54 x55 x56 x57 x58 x59 x60 x61 x62 x63 x64 x65 x66 x67 x68 x69 x70 x71 x72 x73 x74 x75 x76 x77 x78 x79 x80 x81 x82 x83 x84 x85 x86 x87 x88 x89 x90 x91 x92 x93 x94 x95 x96 x97 x98 x99 x100 x101 x102 x103 x104 x105 x106 x107 x108 x109 x110 x111 x112 x113 x114 x115 x116 x117 x118 x119 x120 x121 x122 x123 x124 x125 x126 x127 x128 x129 x130 x131 x132 x133 x134 x135 x136 x137 x138 x139 x140 x141 x142 x143 x144 x145 x146 x147 x148 x149 x150 x151 x152 x153 x154 x155 x156 x157 x158 x159 x160 x161 : Value)
  (x : Ex.Wk) (p : Ex.Wa) (w W : World) (hL : Ex.Laid w) (hF : Uo.Flat w) (ha : Ex.At w x p) (hg : Ex.Good x) (role bar : Int)
  (bs : List Un.Bd) (a : Option Addr) (c : Nat) (hS : Tp.Sl w a bs.length 17 (Un.bdF bs)) (hn16 : bs.length ≤ 16) (hns : ∀ b ∈ bs, b.name.size ≤ 9223372036854775807) (hok : bs.all Un.bok = true)
  (cast : List Int) (ac : Option Addr) (cc : Nat) (hC : Tp.Sl w ac cast.length 1 (Un.ic cast)) (hcl : cast.length ≤ 1000000000) (hln : cast.length = x.ro.length) (a12 : Option Addr) (c12 : Nat) (hon : Tp.Sl W a12 cast.length 17 (Un.bdF (Un.onL bs cast))) (hwi : Un.within x role bar = true)
  (hB : Below w.heap.size w W) (hWK : ∀ j, W.cell? ⟨w.heap.size, j, none⟩ = (Un.wkC x p)[j]?) (zw : w.heap.size < W.heap.size)
  (R : Ending → World → Prop) (hR : ∀ l v w', Un.Ready x bs cast role bar l → w'.ownsRow w.heap.size 3 1 v l.length (Un.ints l) → Below w.heap.size w w' → R (.returned (.tuple #[v, .int .i64 0])) w') :
  s8.wp Tryz.prog (Exit.then ((Code.seq (.seq r23 (.block 2 (.loop lp))) tl).wp Tryz.prog (bodyPostM Fence.wide 0 Tryz.prog fn R)) (bodyPostM Fence.wide 0 Tryz.prog fn R)) { tmps := #[x0, .slice a bs.length c, .slice ac cast.length cc, .int .i64 role, .int .i64 bar, .pointer (some ⟨w.heap.size, 0, none⟩), x6, x7, x8, x9, .slice none 0 0, .int .i64 0, .slice a12 cast.length c12, x13, x14, x15, x16, x17, x18, x19, x20, x21, x22, x23, x24, x25, x26, x27, x28, x29, x30, x31, x32, x33, x34, x35, x36, x37, x38, x39, x40, x41, x42, x43, x44, x45, x46, x47, x48, x49, x50, x51, x52, x53, x54, x55, x56, x57, x58, x59, x60, x61, x62, x63, x64, x65, x66, x67, x68, x69, x70, x71, x72, x73, x74, x75, x76, x77, x78, x79, x80, x81, x82, x83, x84, x85, x86, x87, x88, x89, x90, x91, x92, x93, x94, x95, x96, x97, x98, x99, x100, x101, x102, x103, x104, x105, x106, x107, x108, x109, x110, x111, x112, x113, x114, x115, x116, x117, x118, x119, x120, x121, x122, x123, x124, x125, x126, x127, x128, x129, x130, x131, x132, x133, x134, x135, x136, x137, x138, x139, x140, x141, x142, x143, x144, x145, x146, x147, x148, x149, x150, x151, x152, x153, x154, x155, x156, x157, x158, x159, x160, x161], defers := [] } W := by
 have HEND := qh (un_ready_end fn hfn s0 s1 s2 s3 s4 s5 s6 s7 s8 (.seq r23 (.block 2 (.loop lp))) tl hc)
 have HR := qh hR
 have HL := qh hL
 have HF := qh hF
 have HA := qh ha
 have HG := qh hg
 have HS := qh hS
 have HNS := qh hns
 have HOK := qh hok
 have HC := qh hC
 have HON := qh hon
 have HWI := qh hwi
 have HB := qh hB
 have HWK := qh hWK
 have HLN := qh hln
 have HI := qh (show (Tryz.prog.info? 36).map (·.size) = some (Un.bdA default).toList.length by kernel_rfl)
 clear hR hfn hL hF ha hg hS hns hok hC hon hwi hB hWK hln
 dsimp only [Tryz.f16] at hc
 injection hc with hc
 iterate 8 (injection hc with h1 hc; clear h1)
 injection hc with e8 hc
 injection hc with hc h1; clear h1
 injection hc with e23 hc
 injection hc with h1 hc; clear h1
 injection hc with hc
 rw [← e8, ← e23, ← hc]
 clear e8 e23 hc
 obtain ⟨i0, hif, hz0, hz1, hz2⟩ := info_parts Un.elI.info
 go_wp2_with (at_make; refine Kit.stay ?_; intro X HX)
 rw [HX.out]; clear HX X
 refine wpList_make_full _ rfl _ _ 44 rfl W.heap.size 3 i0 (.int .i64 0) 1 Tryz.underlying44 hif hz0 hz1 _ _ _ _ bs.length rfl rfl rfl rfl (by rw [hz2]; omega) (by unfold maxLen; omega) nlr ?_
 intro w1 ho hg1
 have HBW1 := qh (show Below W.heap.size W w1 from (Below.refl _ _).grown hg1 nlr (fun q hq => by cases hq))
 have HO1 := qh ho
 clear ho hg1
 have hz1' : W.heap.size < w1.heap.size := (HO1.out.lt _ rfl).2
 go_wp2_with fail
 refine Kit.wp_name ?_
 intro W2 hW2
 have h15 : W2.cell? ⟨w1.heap.size, 0, none⟩ = some (.slice (some ⟨W.heap.size, 0, none⟩) bs.length bs.length) := by rw [hW2]; simp [go_sem]
 have hB2 : Below W.heap.size W W2 := by rw [hW2]; exact HBW1.out.alloc HBW1.out.size _
 have hzw2 : W2.heap.size = w1.heap.size + 1 := by rw [hW2]; simp
 have HPR0 := qh (show Un.Prs x bs cast role bar W.heap.size 0 W2 by
  rcases HO1.out.2 with ⟨e, _⟩ | ⟨g, cap, cur, e, _, hh, h1, h2, h3, h4⟩
  ·simp at e
  ·obtain ⟨rfl, rfl⟩ : W.heap.size = g ∧ bs.length = cap := by simpa using e
   have e0 : (madeCells (Value.int .i64 0).cells (bs.length * 1)).toList = List.replicate bs.length (.int .i64 0) := by
    rw [Nat.mul_one]; exact toList_madeCells_one _ _
   rw [e0] at h4
   have hsz : cur.size = bs.length := by simpa using h3
   refine ⟨cur, by rw [hW2]; exact (Below.heap_alloc _ _ _ (by first | exact hz1' | omega)).trans hh, hsz, fun q hq => ?_⟩
   have e1 : (cur.toList.take (bs.length * 1))[q]? = (List.replicate bs.length (Value.int .i64 0))[q]? := by rw [h4]
   rw [List.getElem?_take_of_lt omg, List.getElem?_replicate, if_pos hq] at e1
   have e2 : Un.prF x bs cast role bar 0 q = 0 := by unfold Un.prF; rw [if_neg omg]
   rw [e2, ← e1]; simp)
 have H15 := qh h15
 have HB2 := qh hB2
 have HSTART := qh (show Un.LI x bs cast role bar w.heap.size W2 W.heap.size 0 (.slice none 0 0) [] W2 from ⟨World.ownsRow_nil _ _ _ _, HPR0.out, Kit.Exc.refl _ _, trivial⟩)
 have hzw : w.heap.size < W2.heap.size := by omega
 have hzP : W.heap.size < w1.heap.size := hz1'
 clear HO1 HBW1 hW2 h15 hB2 HPR0
 refine wp_loop_ghost_k (fun k a' w' => (∃ i : Nat, a'.tmps.getD 89 undef = .int .i64 i ∧ i ≤ bs.length ∧ bs.length - i ≤ k ∧ Hid (Un.LI x bs cast role bar w.heap.size W2 W.heap.size i (a'.tmps.getD 10 undef) a'.defers w')) ∧ a' = (fun (t : Nat → Value) (ds : List Deferred) => ({ tmps := #[x0, .slice a bs.length c, .slice ac cast.length cc, .int .i64 role, .int .i64 bar, .pointer (some ⟨w.heap.size, 0, none⟩), x6, x7, x8, x9, t 10, .int .i64 0, .slice a12 cast.length c12, x13, x14, .pointer (some ⟨w1.heap.size, 0, none⟩), t 16, t 17, t 18, t 19, t 20, t 21, t 22, t 23, t 24, t 25, t 26, x27, x28, x29, x30, x31, x32, x33, x34, x35, x36, x37, x38, x39, x40, x41, x42, x43, x44, x45, x46, x47, x48, x49, x50, x51, x52, x53, x54, x55, x56, x57, x58, x59, x60, x61, x62, x63, x64, x65, x66, x67, x68, x69, x70, x71, x72, x73, x74, x75, x76, x77, x78, x79, x80, x81, x82, x83, .slice a bs.length c, .int .i64 bs.length, .slice (some ⟨W.heap.size, 0, none⟩) bs.length bs.length, .slice a bs.length c, .int .i64 bs.length, t 89, t 90, t 91, t 92, t 93, t 94, t 95, t 96, t 97, t 98, t 99, t 100, t 101, t 102, t 103, t 104, t 105, t 106, t 107, t 108, t 109, t 110, t 111, t 112, t 113, t 114, t 115, t 116, t 117, t 118, t 119, t 120, t 121, t 122, t 123, t 124, t 125, t 126, t 127, t 128, t 129, t 130, t 131, t 132, t 133, t 134, t 135, t 136, t 137, t 138, t 139, t 140, t 141, t 142, t 143, t 144, t 145, t 146, t 147, t 148, t 149, t 150, t 151, t 152, t 153, t 154, t 155, x156, x157, x158, x159, x160, x161], defers := ds } : Act)) (fun j => a'.tmps.getD j undef) a'.defers) bs.length ?atStart ?round
 case atStart =>
  refine ⟨⟨0, ?_, by omega, by omega, ?_⟩, by kernel_rfl⟩
  ·rfl
  ·exact HSTART
 case round =>
  intro gk a' wr hinv
  obtain ⟨⟨i, e89, hi, hk, HLI⟩, ha⟩ := hinv
  rw [ha]
  clear ha
  obtain ⟨v10, e10⟩ : ∃ v10, a'.tmps.getD 10 undef = v10 := ⟨_, rfl⟩
  rw [e10] at HLI
  generalize a'.defers = ds at *
  generalize ht : (fun j => a'.tmps.getD j undef) = t
  have f89 : t 89 = .int .i64 i := by rw [← ht]; exact e89
  have f10 : t 10 = v10 := by rw [← ht]; exact e10
  clear ht e89 e10
  clear a'
  dsimp only
  rw [f89, f10]
  clear f89 f10
  intro _ _ _ _
  have HBR := qh (show Below w.heap.size w wr from (HB.out.trans (HB2.out.mono HB.out.size)).trans (HLI.out.exc.below (n := w.heap.size) omg (fun k hk => by omega)))
  have HWKR := qh (show ∀ j, wr.cell? ⟨w.heap.size, j, none⟩ = (Un.wkC x p)[j]? from fun j => (World.cell?_of_block (HLI.out.exc.block w.heap.size hzw omg)).trans ((World.cell?_of_block (HB2.out.block w.heap.size zw)).trans (HWK.out j)))
  have hszr : W2.heap.size ≤ wr.heap.size := HLI.out.exc.size
  by_cases hlt : i < bs.length
  ·have hltz : decide ((i : Int) < (bs.length : Int)) = true := by simp; omega
   obtain ⟨B, hB_⟩ : ∃ B, bs.getD i default = B := ⟨_, rfl⟩
   have hmem : B ∈ bs := by rw [← hB_, List.getD_eq_getElem?_getD, List.getElem?_eq_getElem hlt]; exact List.getElem_mem hlt
   obtain ⟨adb, rfl, hadb, _⟩ := HS.out.at hlt
   have HI : (Tryz.prog.info? 36).map (·.size) = some (Un.bdA B).toList.length := by kernel_rfl
   have HRUN := qh (Kit.run_load_sl (HS.out.kept HBR.out nlr) hlt 36 (Un.bdA B).toList _ rfl (Un.bdF_at bs i B hB_) Tryz.underlying36 rfl HI)
   have HIB := qh HI
   have HBD := qh (And.intro hB_ (And.intro (HNS.out B hmem) (show Un.bok B = true from List.all_eq_true.1 HOK.out B hmem)))
   clear HI hB_ hmem
   go_wp2_with (first
    | ((with_reducible refine Kit.wpList_load_sl ?_ 36 (.tmp 92) ?_ (ad := adb) (k := 17) i ?_ (Un.bdA B).toList HRUN.out ?_); rfl; rfl; rfl)
    | ((with_reducible show wpList _ _ _ (⟨none, .store 36 (.tmp 17) _, _, _, _, _⟩ :: _) _ _); refine Kit.stay ?_; intro X HX))
   rw [HX.out]; clear HX X
   have bA : Below w.heap.size w wr := HBR.out
   have hTH : (((wr.alloc (.cells #[.int .i64 i] 3)).alloc (.cells Un.bdZ 36))).there (wr.heap.size + 1) 0 (Un.bdA B).size := by
    have := Kit.there_alloc (wr.alloc (.cells #[.int .i64 i] 3)) 36 Un.bdZ
    rwa [World.size_alloc] at this
   unfold Un.bdZ at hTH
   (with_reducible refine Kit.wpList_store_fresh (x := .tmp 17) (y := .tmp 93) (b := wr.heap.size + 1) (cells := Un.bdA B) ?_ ?_ ?_ ?_ ?_ ?_ HIB.out (Un.bdA_one B) ?_); rfl; rfl; rfl; simp only [World.size_alloc]; rfl; rfl
   refine Un.wpList_name ?_
   intro W3 hW3
   have HB3 := qh (show Below wr.heap.size wr W3 by rw [hW3]; exact ((Below.refl _ _).alloc nlr _).alloc (by simp) _)
   have HC16 := qh (show W3.cell? ⟨wr.heap.size, 0, none⟩ = some (.int .i64 i) by rw [hW3]; simp [go_sem])
   have HR17 := qh (show W3.rangeAt (wr.heap.size + 1) 0 (Un.bdA B).toList by
    have := Kit.range_alloc (wr.alloc (.cells #[.int .i64 i] 3)) (Un.bdA B) 36
    rw [World.size_alloc] at this
    rw [hW3]; exact this)
   have hz3 : W3.heap.size = wr.heap.size + 2 := by rw [hW3]; simp
   clear hW3 hTH bA
   have HS3 := qh (show Un.LS x p bs cast role bar w W W2 W.heap.size i v10 ds B wr.heap.size W3 from by
    have hbw := HB2.out.trans (HLI.out.exc.below (n := W.heap.size) HB2.out.size (fun k hk => by omega))
    exact ⟨HLI.out.then HB3.out, HBR.out.trans (HB3.out.mono HBR.out.size), hbw.trans (HB3.out.mono hbw.size), fun j => (World.cell?_of_block (HB3.out.block w.heap.size omg)).trans (HWKR.out j), HC16.out, HR17.out, by omega, zw⟩)
   have hae : Un.ableE x B role bar = 0 := by
    unfold Un.ableE
    rw [HG.out.chk, if_pos HWI.out]
    have : Un.chkB [B] = 0 := by unfold Un.chkB; simp [HBD.out.2.2]
    rw [this]; rfl
   have hAB : Un.Able x p B role bar W3 ((Un.ableR x B role bar).1, (Un.ableR x B role bar).2, 0) := by
    have h := un_able x p W3 (HL.out.kept HS3.out.bel nlr) (HF.out.kept HS3.out.bel nlr) (HA.out.kept HS3.out.bel nlr) B HBD.out.2.1 role bar
    unfold Un.ableA at h
    rwa [if_pos hae] at h
   have HAB := qh hAB
   clear hAB hae HLI HBR HWKR HB3 HC16 HR17 hz3
   obtain ⟨ab1, hab1⟩ : ∃ y, (Un.ableR x B role bar).1 = y := ⟨_, rfl⟩
   obtain ⟨ab2, hab2⟩ : ∃ y, (Un.ableR x B role bar).2 = y := ⟨_, rfl⟩
   rw [hab1, hab2] at HAB
   have HAB2 := qh hab2
   clear hab1 hab2
   unfold Un.Able at HAB
   dsimp only at HAB
   have wk3 : ∀ j, W3.cell? ⟨w.heap.size, j, none⟩ = (Un.wkC x p)[j]? := HS3.out.wk
   go_wp2_with ((with_reducible refine wpList_load_mid ?_ 36 (.tmp 17) ?_ (wr.heap.size + 1) 0 ?_ (Un.bdA B).toList _ HS3.out.r17 Tryz.underlying36 rfl HIB.out ?_); rfl; rfl; rfl)
   refine HAB.out.mono ?_
   rintro _ w4 ⟨rfl, hb4⟩
   have HS4 := qh (HS3.out.then hb4)
   clear hb4 HS3 HAB wk3
   rcases ab2 with _ | _
   ·have HFN0 := qh (show Un.fits x bs cast role bar i = false by unfold Un.fits; dsimp only; rw [HBD.out.1, HAB2.out]; rfl)
    go_wp2_with fail
    refine Handed.intro (bs.length - (i + 1)) omg ?_
    go_step
    exact ⟨⟨i + 1, by show Value.int .i64 _ = _; go_num, by omega, Nat.le_refl _, qh (HS4.out.lI.no HFN0.out)⟩, by kernel_rfl⟩
   ·have HCT := qh (un_contains cast ac cc i w4 (HC.out.kept HS4.out.bel nlr) omg)
    obtain ⟨ct, hct⟩ : ∃ ct, cast.contains (i : Int) = ct := ⟨_, rfl⟩
    rw [hct] at HCT
    have HCTE := qh hct
    clear hct
    have c16 := HS4.out.c16
    rcases ct with _ | _
    ·have wk4 : ∀ j, w4.cell? ⟨w.heap.size, j, none⟩ = (Un.wkC x p)[j]? := HS4.out.wk
     have hhv := un_heavy x p w4 (HA.out.kept HS4.out.bel nlr) HG.out (Un.onL bs cast) a12 c12 (by rw [Un.onL_len]; exact HON.out.kept HS4.out.belW nlr) (by rw [Un.onL_len]; exact HLN.out) B role bar
     rw [Un.onL_len] at hhv
     obtain ⟨hv1, hhv1⟩ : ∃ y, (Un.heavyR x (Un.onL bs cast) B role bar).1 = y := ⟨_, rfl⟩
     obtain ⟨hv2, hhv2⟩ : ∃ y, (Un.heavyR x (Un.onL bs cast) B role bar).2 = y := ⟨_, rfl⟩
     rw [hhv1, hhv2] at hhv
     have HHV := qh hhv
     have HHV2 := qh hhv2
     clear hhv hhv1 hhv2
     go_wp2_with (first
      | ((with_reducible refine HCT.out.mono ?_); rintro _ w' ⟨rfl, hw⟩; subst w')
      | ((with_reducible refine wpList_load_mid ?_ 36 (.tmp 17) ?_ (wr.heap.size + 1) 0 ?_ (Un.bdA B).toList _ HS4.out.r17 Tryz.underlying36 rfl HIB.out ?_); rfl; rfl; rfl))
     refine HHV.out.mono ?_
     rintro _ w5 ⟨rfl, hb5⟩
     have HS5 := qh (HS4.out.then hb5)
     clear hb5 HS4 HHV wk4 c16 HCT
     rcases hv2 with _ | _
     ·have HFY := qh (show Un.fits x bs cast role bar i = true by unfold Un.fits; dsimp only; rw [HBD.out.1, HAB2.out, HCTE.out, show (cast.map fun q => bs.getD q.toNat default) = Un.onL bs cast from rfl, HHV2.out]; rfl)
      go_wp2_with fail
      refine Kit.wp_region_vals 5 [([(5, none)], none, true), ([(4, none)], none, true), ([(3, none)], none, true), ([(122, some 2)], none, true), ([(120, some 0), (121, some 1), (123, some 3)], none, true)]
       [some 120, some 121, some 122, some 123, some 124] rfl (by kernel_rfl) (by kernel_rfl) (fun A B => Below A.heap.size A B) (fun q v w' => match q with
       | 0 => v = .agg (Un.wkC x p)
       | 1 => v = .int .i64 bar
       | 2 => v = .int .i64 role
       | 3 => ∃ b, v = .func (.func 71) #[] #[.pointer (some ⟨b, 0, none⟩)] ∧ w'.cell? ⟨b, 0, none⟩ = some (.int .i64 role) ∧ b < w'.heap.size ∧ w5.heap.size ≤ b
       | _ => ∃ BR BW BB BA, v = .func (.func 70) #[] #[.pointer (some ⟨BW, 0, none⟩), .pointer (some ⟨BB, 0, none⟩), .pointer (some ⟨BA, 0, none⟩)] ∧ (w'.cell? ⟨BR, 0, none⟩ = some (.int .i64 role) ∧ w'.cell? ⟨BW, 10, none⟩ = some (.slice p.aG x.sg.length p.cG) ∧ w'.cell? ⟨BB, 0, none⟩ = some (.int .i64 bar) ∧ w'.cell? ⟨BA, 0, none⟩ = some (.func (.func 71) #[] #[.pointer (some ⟨BR, 0, none⟩)])) ∧ (BR < w'.heap.size ∧ BW < w'.heap.size ∧ BB < w'.heap.size ∧ BA < w'.heap.size) ∧ (w5.heap.size ≤ BR ∧ w5.heap.size ≤ BW ∧ w5.heap.size ≤ BB ∧ w5.heap.size ≤ BA))
       (fun h k => h.trans (k.mono h.size)) (Below.drew (Below.refl _ _)) (fun _ => Below.refl _ _) ?_ ?_ ?_
      ·intro q v A C h1 h2 h3
       split at h3 <;> try exact h3
       ·obtain ⟨b, e, hb, hl, hlo⟩ := h3
        exact ⟨b, e, (h2.cell hl).trans hb, Nat.lt_of_lt_of_le hl h2.size, hlo⟩
       ·obtain ⟨BR, BW, BB, BA, e, ⟨d0, d1, d2, d3⟩, ⟨l0, l1, l2, l3⟩, hlo⟩ := h3
        exact ⟨BR, BW, BB, BA, e, ⟨(h2.cell l0).trans d0, (h2.cell l1).trans d1, (h2.cell l2).trans d2, (h2.cell l3).trans d3⟩, ⟨Nat.lt_of_lt_of_le l0 h2.size, Nat.lt_of_lt_of_le l1 h2.size, Nat.lt_of_lt_of_le l2 h2.size, Nat.lt_of_lt_of_le l3 h2.size⟩, hlo⟩
      ·simp only [List.take_succ_cons, List.take_zero, Kit.StepsV, Kit.VOp, Kit.RdP, true_and, if_true, and_true]
       refine ⟨?_, ?_, ?_, ?_, ?_⟩
       all_goals intro ev w' hx hv hc hf hg
       ·have so : ∀ j, w'.cell? ⟨w.heap.size, j, none⟩ = (Un.wkC x p)[j]? := (HS5.out.then hx).wk
        simp at hv
        simp [execOp, hv, hc, so, go_sem, Kit.UponV, Below.refl]
       ·simp at hv; simp [execOp, hv, hc, go_sem, Kit.UponV, Below.refl]
       ·simp at hv; simp [execOp, hv, hc, go_sem, Kit.UponV, Below.refl]
       ·simp [execOp, hv, hc, hf, go_sem, Kit.UponV]
        refine (un_of role w').mono ?_
        rintro e w3 ⟨rfl, rfl⟩
        exact ⟨_, rfl, ⟨_, rfl, by simp [go_sem], by simp, hx.size⟩, (Below.refl _ _).alloc nlr _⟩
       ·obtain ⟨hv1, hv2, b, hv3, hb, hl, hlo⟩ := hv
        simp [execOp, hv1, hv2, hv3, hc, hf, go_sem, Kit.UponV]
        refine (un_rem x p bar 71 #[.pointer (some ⟨b, 0, none⟩)] w').mono ?_
        rintro e w3 ⟨rfl, rfl⟩
        have hb3 : Below w'.heap.size w' (((w'.alloc (.cells (Un.wkC x p) 32)).alloc (.cells #[.int .i64 bar] 3)).alloc (.cells #[.func (.func 71) #[] #[.pointer (some ⟨b, 0, none⟩)]] 95)) := (((Below.refl _ _).alloc nlr _).alloc (by simp) _).alloc (by simp; omega) _
        have hxs := hx.size
        exact ⟨_, rfl, ⟨b, w'.heap.size, w'.heap.size + 1, w'.heap.size + 1 + 1, rfl, ⟨(hb3.cell hl).trans hb, by simp [go_sem], by simp [go_sem], by simp [go_sem]⟩, ⟨by simp; omega, by simp <;> omega, by simp <;> omega, by simp⟩, ⟨hlo, hxs, by omega, by omega⟩⟩, hb3⟩
      ·intro vs w6 hv hx
       obtain ⟨BR, BW, BB, BA, v4, ⟨d0, d1, d2, d3⟩, ⟨l0, l1, l2, l3⟩, ⟨m0, m1, m2, m3⟩⟩ : ∃ BR BW BB BA, vs 4 = .func (.func 70) #[] #[.pointer (some ⟨BW, 0, none⟩), .pointer (some ⟨BB, 0, none⟩), .pointer (some ⟨BA, 0, none⟩)] ∧ (w6.cell? ⟨BR, 0, none⟩ = some (.int .i64 role) ∧ w6.cell? ⟨BW, 10, none⟩ = some (.slice p.aG x.sg.length p.cG) ∧ w6.cell? ⟨BB, 0, none⟩ = some (.int .i64 bar) ∧ w6.cell? ⟨BA, 0, none⟩ = some (.func (.func 71) #[] #[.pointer (some ⟨BR, 0, none⟩)])) ∧ (BR < w6.heap.size ∧ BW < w6.heap.size ∧ BB < w6.heap.size ∧ BA < w6.heap.size) ∧ (w5.heap.size ≤ BR ∧ w5.heap.size ≤ BW ∧ w5.heap.size ≤ BB ∧ w5.heap.size ≤ BA) := hv 4 omg
       clear hv
       have HS6 := qh (HS5.out.then hx)
       have hzw5 : wr.heap.size + 1 < w5.heap.size := HS5.out.z17
       clear hx HS5
       have hzs6 := HS6.out.z17
       simp only [Kit.putD, List.getD_cons_zero, List.getD_cons_succ, Act.put, v4, List.drop_succ_cons, List.drop_zero]
       generalize vs 0 = y0 at *
       generalize vs 1 = y1 at *
       generalize vs 2 = y2 at *
       generalize vs 3 = y3 at *
       clear v4
       go_simp
       go_wp2_with fail
       obtain ⟨cur, hP6, hcs6, hcq6⟩ := HS6.out.lI.prs
       refine un_price _ _ _ _ _ _ _ _ _ _ _ _ _ _ _ _ _ _ _ _ rfl _ _ _ _ _ _ _ _ _ _ _ _ _ _ _ _ _ _ _ _ _ _ _ _ _ _ _ _ _ _ _ _ _ _ _ _ _ _ _ _ _ _ _ _ _ _ _ _ _ _ _ _ _ _ _ _ _ _ _ _ _ _ _ _ _ _ _ _ _ _ _ _ _ _ _ _ _ _ _ _ _ _ _ _ _ _ _ _ _ _ _ _ _ _ _ _ _ _ _ _ _ _ _ _ _ _ _ _ _ _ _ _ _ _ _ _ _ _ _ _ _ _ _ _ _ _ _ _ _ _ _ _ _ _ _ _ _ _ _ _ _ _ _ _ _ _ _ _ _ _ _ _ _ _ _ _ _ x p w w6 HL.out HF.out HA.out HG.out B HBD.out.2.2 HBD.out.2.1 role bar i bs.length W.heap.size w1.heap.size wr.heap.size (wr.heap.size + 1) BR BW BB BA ds
        HS6.out.bel HS6.out.wk HS6.out.r17 (HS6.out.lI.exc.cell H15.out (by show w1.heap.size ≠ W.heap.size; omega) (by show w1.heap.size < W2.heap.size; omega)) HS6.out.c16 cur hP6 hcs6 hlt (by rw [hcq6 i hlt, Un.prF_at]) hn16
        (fun k hk hm => (Un.able_iff x B role bar).1 HAB2.out k hk hm) omg omg omg hzs6 zw omg omg omg ⟨by omega, by omega, by omega, by omega⟩ d0 d1 d2 d3 l0 l1 l2 l3 _ ?_
       intro D w7 cur' hD hDo hx7 hP7 hcs7 hci7 hcq7
       have hJ7 : Un.LJ x bs cast role bar w.heap.size W2 W.heap.size i v10 ({ target := .collected D, args := #[] } :: ds) w7 :=
        Un.LJ.of HS6.out.lI omg omg HFY.out hD hDo hx7 hP6 hcq6 hP7 hcs7 (by rw [hci7, HBD.out.1]; rfl) hcq7
       have HJ7 := qh hJ7
       have c16 : w7.cell? ⟨wr.heap.size, 0, none⟩ = some (.int .i64 i) := hx7.cell HS6.out.c16 (by show wr.heap.size ≠ W.heap.size; omega) (by show wr.heap.size < w6.heap.size; omega)
       have HZ7 := qh (show w6.heap.size ≤ w7.heap.size from hx7.size)
       clear hJ7 hD hDo hx7 hP6 hcq6 hP7 hcs7 hci7 hcq7 hcs6 d0 d1 d2 d3 l0 l1 l2 l3 m0 m1 m2 m3 HS6
       have hnf : (Un.frs x bs cast role bar i).length ≤ 16 := by have := Un.frs_len x bs cast role bar i; omega
       dsimp only
       simp only [Exit.inBlock, Exit.then]
       apply_assumption
       go_wp2_with (at_builtin; refine Kit.stay ?_; intro X HX)
       rw [HX.out]; clear HX X
       refine Kit.wpList_append_own' _ rfl _ _ 44 rfl W2.heap.size 3 i0 (.int .i64 0) 1 8 Tryz.underlying44 hif hz0 hz1 hz2 rfl (by decide) _ _ _ rfl ((HJ7.out.then ((Below.refl _ _).alloc nlr _)).own) ⟨w7.heap.size, 0, none⟩ 1 1 [.int .i64 i] rfl rfl (fun j u hu => Kit.lit_at _ [Value.int .i64 i] _ rfl j u hu) (by simp [Value.oneCell']) (by unfold maxLen; omega) omg (by have := HZ7.out; simp; omega) ?_
       intro v8 w8 ho8 hg8 _ _
       have HLI8 := qh ((HJ7.out.then ((Below.refl _ _).alloc nlr _)).app omg HFY.out ho8 hg8)
       clear ho8 hg8
       go_wp2_with fail
       refine Handed.intro (bs.length - (i + 1)) omg ?_
       go_step
       exact ⟨⟨i + 1, by show Value.int .i64 _ = _; go_num, by omega, Nat.le_refl _, HLI8⟩, by kernel_rfl⟩
     ·have HFN0 := qh (show Un.fits x bs cast role bar i = false by unfold Un.fits; dsimp only; rw [HBD.out.1, show (cast.map fun q => bs.getD q.toNat default) = Un.onL bs cast from rfl, HHV2.out]; simp)
      go_wp2_with fail
      refine Handed.intro (bs.length - (i + 1)) omg ?_
      go_step
      exact ⟨⟨i + 1, by show Value.int .i64 _ = _; go_num, by omega, Nat.le_refl _, qh (HS5.out.lI.no HFN0.out)⟩, by kernel_rfl⟩
    ·have HFN0 := qh (show Un.fits x bs cast role bar i = false by unfold Un.fits; dsimp only; rw [HCTE.out]; simp)
     go_wp2_with ((with_reducible refine HCT.out.mono ?_); rintro _ w' ⟨rfl, hw⟩; subst w')
     refine Handed.intro (bs.length - (i + 1)) omg ?_
     go_step
     exact ⟨⟨i + 1, by show Value.int .i64 _ = _; go_num, by omega, Nat.le_refl _, qh (HS4.out.lI.no HFN0.out)⟩, by kernel_rfl⟩
  ·obtain rfl : i = bs.length := by omega
   have hltz : decide ((bs.length : Int) < (bs.length : Int)) = false := by simp
   clear hlt
   obtain ⟨cur, hPr, hcs, hcq⟩ := HLI.out.prs
   go_wp2_with fail
   obtain ⟨pr, hpr⟩ : ∃ pr, pr = (List.range bs.length).map (Un.prF x bs cast role bar bs.length) := ⟨_, rfl⟩
   have hpl : pr.length = bs.length := by rw [hpr]; simp
   have hpg : ∀ q, q < bs.length → pr.getD q 0 = Un.prF x bs cast role bar bs.length q := fun q hq => by rw [hpr]; simp [List.getD, hq]
   refine HEND.out _ _ _ _ _ _ _ _ _ _ _ _ _ _ _ _ _ _ _ _ _ _ _ _ _ _ _ _ _ _ _ _ _ _ _ _ _ _ _ _ _ _ _ _ _ _ _ _ _ _ _ _ _ _ _ _ _ _ _ _ _ _ _ _ _ _ _ _ _ _ _ _ _ _ _ _ _ _ _ _ _ _ _ _ _ _ _ _ _ _ _ _ _ _ _ _ _ _ _ _ _ _ _ _ _ _ _ _ _ _ _ _ _ _ _ _ _ _ _ _ _ _ _ _ _ _ _ _ _ _ _ _ _ _ _ _ _ _ _ _ _ _ _ _ _ _ _ _ _ _ _ _ _ _ _ _ _ _ _ _ pr (some ⟨W.heap.size, 0, none⟩) bs.length w1.heap.size v10 (Un.frs x bs cast role bar bs.length) w wr ds (fun q hq => by rw [hpl]; exact Un.frs_lt hq) omg (by have := Un.frs_len x bs cast role bar bs.length; omega)
    (Un.row_weak HLI.out.own omg) (by rw [hpl]; exact HLI.out.exc.cell H15.out (by show w1.heap.size ≠ W.heap.size; omega) (by show w1.heap.size < W2.heap.size; omega)) omg
    (.inr ⟨_, rfl, (Array.getElem?_eq_some_iff.1 hPr).1, fun q j hq hj => ?_⟩) (fun g hg => ?_) HLI.out.mks HBR.out R (fun l' v' w' hp hs ho hb => HR.out l' v' w' (Un.ready_of hpg hp hs) ho hb)
   ·obtain rfl : j = 0 := by omega
    rw [hpl] at hq
    rw [Addr.add_lit, Nat.zero_add, Nat.mul_one, Nat.add_zero]
    simp only [World.cell?, hPr]
    rw [hcq q hq]
    unfold Un.ic
    rw [hpg q hq]
    simp
   ·have h1 := (HLI.out.own.lt g hg).1
    exact ⟨by omega, fun ad e _ => by cases e; show W.heap.size ≠ g; omega⟩
end Go.Proofs.YtbhgogiaaljclaaGreatDoor

namespace Go.Proofs.YtbhgogiaaljclaaGreatDoor
open Go.RowKit Go.Shelf
theorem un_ready_0 (x : Ex.Wk) (p : Ex.Wa) (w : World) (hL : Ex.Laid w) (ha : Ex.At w x p) (bs : List Un.Bd) (a : Option Addr) (c : Nat) (hS : Tp.Sl w a bs.length 17 (Un.bdF bs)) (hns : ∀ b ∈ bs, b.name.size ≤ 9223372036854775807)
  (cast : List Int) (ac : Option Addr) (cc : Nat) (hC : Tp.Sl w ac cast.length 1 (Un.ic cast)) (hlc : cast.length ≤ 1000000000) (hcc : cast.length ≤ cc) (role bar : Int) (hF : Uo.Flat w) (hE : Un.readyE x bs cast role bar = 0) :
  Calls Tryz.prog 16 #[Ex.workV x p, .slice a bs.length c, .slice ac cast.length cc, .int .i64 role, .int .i64 bar] w fun e w' => ∃ v l, e = .returned (.tuple #[v, .int .i64 0]) ∧ Un.Ready x bs cast role bar l ∧ w'.ownsRow w.heap.size 3 1 v l.length (Un.ints l) ∧ Below w.heap.size w w' := by
 have hgood : Ex.chk x = 0 := by
  by_cases h0 : Ex.chk x = 0
  ·exact h0
  ·unfold Un.readyE at hE; rw [if_pos h0] at hE; exact absurd hE h0
 have hl0 : bs.length ≤ 4611686018427387904 := by
  by_cases hn : 16 < bs.length
  ·have h := hE
   unfold Un.readyE at h
   by_cases h0 : Ex.chk x = 0
   ·rw [if_neg (by simp [h0]), if_pos hn] at h; cases h
   ·rw [if_pos h0] at h; exact absurd h h0
  ·omega
 obtain ⟨R, hR⟩ : ∃ R, Un.readyE x bs cast role bar = R := ⟨_, rfl⟩
 rw [hR] at hE
 unfold Un.readyE at hR
 obtain ⟨c0, hc0⟩ : ∃ c0, Ex.chk x = c0 := ⟨_, rfl⟩
 obtain ⟨d0, hd0⟩ : ∃ c, Un.chkB bs = c := ⟨_, rfl⟩
 obtain ⟨d2, hd2⟩ : ∃ c, (if Un.within x role bar = true then (0 : Int) else 1) = c := ⟨_, rfl⟩
 have H0 := qh (fun W (hW : Below w.heap.size w W) => (by have h := ex_check x p W (ha.kept hW nlr) (hL.kept hW nlr); rwa [hc0] at h : Ex.Chk x p W c0))
 have H1 := qh (fun W (hW : Below w.heap.size w W) => (by have h := un_checked bs a c W (hS.kept hW nlr) hl0 hns; rwa [hd0] at h : Calls Tryz.prog 31 #[.slice a bs.length c] W fun e w' => e = .returned (.int .i64 d0) ∧ Below W.heap.size W w'))
 have H4 := qh (fun W => (by have h := un_within x p role bar W ha.lro; rwa [hd2] at h : Calls Tryz.prog 30 #[Ex.workV x p, .int .i64 role, .int .i64 bar] W fun e w' => e = .returned (.int .i64 d2) ∧ Below W.heap.size W w'))
 have HSL := qh hS
 have HCS := qh hC
 have hlro := ha.lro
 rw [hc0] at hR
 have HD0 := qh (show d0 = 0 ↔ ¬ bs.all Un.bok = false by rw [← hd0]; unfold Un.chkB; cases bs.all Un.bok <;> simp)
 have HD2 := qh (show d2 = 0 ↔ ¬ Un.within x role bar = false by rw [← hd2]; cases Un.within x role bar <;> simp)
 have HDV := qh (show (d0 ≠ 0 → d0 = 250) ∧ (d2 ≠ 0 → d2 = 1) by
  refine ⟨fun h => ?_, fun h => ?_⟩
  ·rw [← hd0] at h ⊢; unfold Un.chkB at h ⊢; split at h <;> simp_all
  ·rw [← hd2] at h ⊢; split at h <;> simp_all)
 have HR := qh hR
 have HL := qh hL
 have HF := qh hF
 have HA := qh ha
 have HNS := qh hns
 have HGD := qh (Ex.good_of hgood)
 have HE := qh hE
 clear hL hF ha hS hC hns hc0 hd0 hd2 hR hE hgood
 dsimp only [Ex.Chk, Ex.workV, Ex.wv] at H0 H4
 refine Kit.calls_of_wp_marks Tryz.func16 rfl ?_
 simp only [Tryz.ntmps16, List.size_toArray, List.length_cons, List.length_nil, Nat.reduceAdd, Nat.reduceSub, Array.replicate_succ, Array.replicate_zero, List.push_toArray, List.append_toArray, List.nil_append, List.cons_append]
 go_wp2_with fail
 refine (H0.out _ (by exact Kit.gr)).mono ?_
 rintro _ w1 ⟨rfl, hb1⟩
 have HB1 := qh (show Below w.heap.size w w1 from Below.trans (B := w.heap.size) (by exact Kit.gr) (hb1.mono (by simp; try omega)))
 have WK1 := qh (show ∀ j, w1.cell? ⟨w.heap.size, j, none⟩ = (Un.wkC x p)[j]? from fun j => by
  rw [World.cell?_of_block (hb1.block w.heap.size (by simp; try omega))]
  simp [go_sem])
 have hz1 : w.heap.size < w1.heap.size := by have := hb1.size; simp at this; omega
 clear hb1
 have hc00 : c0 = 0 := by
  by_cases h : c0 = 0
  ·exact h
  ·rw [if_pos h] at HR; exact absurd (HR.out.trans HE.out) h
 have hnl : bs.length ≤ 16 := by
  have h := HR.out
  rw [if_neg (by simp [hc00])] at h
  by_cases hn : 16 < bs.length
  ·rw [if_pos hn, HE.out] at h; cases h
  ·omega
 have hok0 : ¬ bs.all Un.bok = false := fun hh => by
  have h := HR.out
  rw [if_neg (by simp [hc00]), if_neg omg, if_pos hh, HE.out] at h; cases h
 have hoc0 : Un.okCast bs.length [] cast = true := by
  cases hh : Un.okCast bs.length [] cast with
  | true => rfl
  | false =>
   have h := HR.out
   rw [if_neg (by simp [hc00]), if_neg omg, if_neg hok0, if_pos hh, HE.out] at h; cases h
 have hln0 : cast.length = x.ro.length := by
  by_cases hh : cast.length = x.ro.length
  ·exact hh
  ·have h := HR.out
   rw [if_neg (by simp [hc00]), if_neg omg, if_neg hok0, if_neg (by simp [hoc0]), if_pos hh, HE.out] at h; cases h
 have hwi0 : Un.within x role bar = true := by
  cases hh : Un.within x role bar with
  | true => rfl
  | false =>
   have h := HR.out
   rw [if_neg (by simp [hc00]), if_neg omg, if_neg hok0, if_neg (by simp [hoc0]), if_neg (by simp [hln0]), if_pos hh, HE.out] at h; cases h
 have hd00 : d0 = 0 := HD0.out.2 hok0
 have hd20 : d2 = 0 := HD2.out.2 (by simp [hwi0])
 have HLN := qh hln0
 have HWI := qh hwi0
 have HOKA := qh (show bs.all Un.bok = true by simpa using hok0)
 subst hc00 hd00 hd20
 have HOC := qh hoc0
 have hnb : decide ((16 : Int) < (bs.length : Int)) = false := by simp; omega
 clear hok0 hoc0 hln0 hwi0 HR HE HD0 HD2 HDV
 go_wp2_with fail
 refine (H1.out _ HB1.out).mono ?_
 rintro _ w2 ⟨rfl, hb2⟩
 have HB2 := qh (HB1.out.trans (hb2.mono HB1.out.size))
 have WK2 := qh (show ∀ j, w2.cell? ⟨w.heap.size, j, none⟩ = (Un.wkC x p)[j]? from fun j => (World.cell?_of_block (hb2.block w.heap.size hz1)).trans (WK1.out j))
 have hz2 : w.heap.size < w2.heap.size := Nat.lt_of_lt_of_le hz1 hb2.size
 clear hb2 WK1 HB1 hz1
 go_wp2_with fail
 have HRB := qh (show ∀ i, i < bs.length → ∀ B, bs.getD i default = B → ∀ W, Below w.heap.size w W → (loadVar 36 ((a.getD default).add (i * 17))).run Tryz.prog W = .ok (.agg (Un.bdA B)) W from fun i hi B hB W hW => by
  obtain ⟨ad, rfl, _⟩ := HSL.out.at hi
  have HI : (Tryz.prog.info? 36).map (·.size) = some (Un.bdA B).toList.length := by kernel_rfl
  exact Kit.run_load_sl (HSL.out.kept hW nlr) hi 36 (Un.bdA B).toList _ rfl (Un.bdF_at bs i B hB) Tryz.underlying36 rfl HI)
 refine wp_loop_ghost_k (fun k a' w' => (∃ i : Nat, (a'.tmps.getD 43 undef) = .int .i64 i ∧ (a'.tmps.getD 10 undef) = .slice none 0 0 ∧ (a'.tmps.getD 11 undef) = .int .i64 0 ∧ i ≤ cast.length ∧ cast.length - i ≤ k ∧ Hid (Kit.Gw w2 36 17 (a'.tmps.getD 12 undef) i (Un.bdsV (Un.onL bs (cast.take i))) w') ∧ Hid (Un.okCast bs.length [] (cast.take i) = true)) ∧ a' = (fun (t : Nat → Value) => ({ tmps := #[Ex.workV x p, Value.slice a bs.length c, Value.slice ac cast.length cc, Value.int IntKind.i64 role, Value.int IntKind.i64 bar, Value.pointer (some { block := w.heap.size, off := 0 }), undef, undef, undef, undef, t 10, t 11, t 12, t 13, t 14, undef, undef, undef, undef, undef, undef, undef, undef, undef, undef, undef, undef, undef, Value.agg #[Value.int IntKind.i64 x.wd, Value.int IntKind.i64 x.dp, Value.int IntKind.i64 x.ta, Value.int IntKind.i64 x.tb, Value.int IntKind.i64 x.tc, Value.slice p.aR x.ro.length p.cR, Value.int IntKind.i64 x.n, Value.slice p.aT x.ts.length p.cT, Value.slice p.aP x.ps.length p.cP, Value.slice p.aS x.ss.length p.cS, Value.slice p.aG x.sg.length p.cG], Value.int IntKind.i64 0, Value.int IntKind.i64 0, Value.bool false, undef, Value.slice a bs.length c, Value.int IntKind.i64 ↑bs.length, Value.bool false, Value.slice a bs.length c, Value.int IntKind.i64 0, Value.int IntKind.i64 0, Value.bool false, undef, Value.slice ac cast.length cc, Value.int IntKind.i64 ↑cast.length, t 43, t 44, t 45, t 46, t 47, t 48, t 49, t 50, t 51, t 52, t 53, t 54, t 55, t 56, t 57, t 58, t 59, t 60, t 61, t 62, t 63, t 64, t 65, t 66, t 67, t 68, t 69, t 70, undef, undef, undef, undef, undef, undef, undef, undef, undef, undef, undef, undef, undef, undef, undef, undef, undef, undef, undef, undef, undef, undef, undef, undef, undef, undef, undef, undef, undef, undef, undef, undef, undef, undef, undef, undef, undef, undef, undef, undef, undef, undef, undef, undef, undef, undef, undef, undef, undef, undef, undef, undef, undef, undef, undef, undef, undef, undef, undef, undef, undef, undef, undef, undef, undef, undef, undef, undef, undef, undef, undef, undef, undef, undef, undef, undef, undef, undef, undef, undef, undef, undef, undef, undef, undef, undef, undef, undef, undef, undef, undef], defers := [] } : Act)) (fun j => a'.tmps.getD j undef)) cast.length ?atStart ?round
 case atStart => exact ⟨⟨0, rfl, rfl, rfl, by omega, by omega, qh (Kit.Gw.start _ _ _), qh rfl⟩, by kernel_rfl⟩
 case round =>
  intro gk a' wr hinv
  obtain ⟨hrel, ha⟩ := hinv
  rw [ha]
  clear ha
  obtain ⟨s10, h10_⟩ : ∃ s, a'.tmps.getD 10 undef = s := ⟨_, rfl⟩
  obtain ⟨s11, h11_⟩ : ∃ s, a'.tmps.getD 11 undef = s := ⟨_, rfl⟩
  obtain ⟨s12, h12_⟩ : ∃ s, a'.tmps.getD 12 undef = s := ⟨_, rfl⟩
  obtain ⟨s43, h43_⟩ : ∃ s, a'.tmps.getD 43 undef = s := ⟨_, rfl⟩
  rw [h10_, h11_, h12_, h43_] at hrel
  generalize ht_ : (fun j => a'.tmps.getD j undef) = t
  have f10_ : t 10 = s10 := by rw [← ht_]; exact h10_
  have f11_ : t 11 = s11 := by rw [← ht_]; exact h11_
  have f12_ : t 12 = s12 := by rw [← ht_]; exact h12_
  have f43_ : t 43 = s43 := by rw [← ht_]; exact h43_
  clear ht_ h10_ h11_ h12_ h43_
  clear a'
  dsimp only
  rw [f10_, f11_, f12_, f43_]
  clear f10_ f11_ f12_ f43_
  intro _ _ _ _
  obtain ⟨i, rfl, rfl, rfl, hi, hk, HG, HK⟩ := hrel
  have HBR := qh (HB2.out.trans (HG.out.bel.mono HB2.out.size))
  by_cases hlt : i < cast.length
  ·have hltb : decide ((i : Int) < (cast.length : Int)) = true := by simp; omega
   obtain ⟨pz, hpz⟩ : ∃ pz, cast.getD i 0 = pz := ⟨_, rfl⟩
   obtain ⟨ad, rfl, had, _⟩ := HCS.out.at hlt
   have ci := (HCS.out.kept HBR.out nlr).head hlt omg
   unfold Un.ic at ci
   rw [hpz, Nat.mul_one] at ci
   have HCT := qh (by have h := un_contains (cast.take i) (some ad) cc pz wr (Un.sl_take (HCS.out.kept HBR.out nlr) i hi) (by simp; omega); rwa [show (cast.take i).length = i by simp [hi]] at h : Calls Tryz.prog 42 #[.slice (some ad) i cc, .int .i64 pz] wr fun e w' => e = .returned (.bool ((cast.take i).contains pz)) ∧ w' = wr)
   obtain ⟨ct, hct⟩ : ∃ ct, (cast.take i).contains pz = ct := ⟨_, rfl⟩
   rw [hct] at HCT

   have hbad : ¬ (pz < 0 ∨ (bs.length : Int) ≤ pz ∨ ct = true) := fun hx => by
    have h := Un.okCast_no hlt pz hpz (by rw [hct]; exact hx)
    rw [HOC.out] at h; cases h
   obtain rfl : ct = false := by
    cases ct with
    | false => rfl
    | true => exact absurd (.inr (.inr rfl)) hbad
   have e1 : decide (pz < 0) = false := by simp; omega
   have e2 : decide ((bs.length : Int) ≤ pz) = false := by simp; omega
   obtain ⟨pn, rfl⟩ := Int.eq_ofNat_of_zero_le (show 0 ≤ pz by omega)
   have hpn : pn < bs.length := by omega
   have e2n : decide (bs.length ≤ pn) = false := by simp; omega
   have e3n : (pn : Int) < (bs.length : Int) := by omega
   obtain ⟨B, hB⟩ : ∃ B, bs.getD pn default = B := ⟨_, rfl⟩
   obtain ⟨adb, rfl, hadb, _⟩ := HSL.out.at hpn
   have HRUN := qh (show (loadVar 36 (adb.add (pn * 17))).run Tryz.prog wr = .ok (.agg (Un.bdA B)) wr from HRB.out pn hpn B hB wr HBR.out)
   have HKN := qh (Un.okCast_take hlt HK.out _ hpz omg omg hct)
   have HON := qh (show Un.bdsV (Un.onL bs (cast.take (i + 1))) = Un.bdsV (Un.onL bs (cast.take i)) ++ (Un.bdA B).toList by rw [Un.onL_snoc bs cast i hlt pn hpz, hB, Un.bdsV_snoc])
   have hfold : Array.foldl (fun cs x => cs.setIfInBounds x.snd x.fst) Un.bdZ (Un.bdA B).zipIdx 0 17 = Un.bdA B := by kernel_rfl
   unfold Un.bdZ at hfold
   have hs17 : (Un.bdA B).size = 17 := rfl
   clear hbad hpz hct HK hB
   go_wp2_with (first
    | ((with_reducible refine HCT.out.mono ?_); rintro _ w' ⟨rfl, hw⟩; subst w')
    | ((with_reducible refine Kit.wpList_load_sl ?_ 36 (.tmp 66) ?_ (ad := adb) (k := 17) pn ?_ (Un.bdA B).toList HRUN.out ?_); rfl; rfl; rfl)
    | (at_builtin; refine Kit.wpList_app Un.elB _ rfl _ _ rfl _ _ _ (HG.out.alloc _) rfl omg ⟨wr.heap.size, 0, none⟩ 1 (Un.bdA B).toList rfl rfl (fun j u hu => Kit.lit_at _ (Un.bdA B).toList _ rfl j u hu) (fun u hu => by have := Un.bdA_one B; rw [Array.all_eq_true'] at this; exact this u (by simpa using hu)) ?_; intro v' w5 ho hg; have HG2 := qh ho; clear ho hg))
   (refine Handed.intro (cast.length - (i + 1)) ?_ ?_; omega; go_step; exact ⟨⟨i + 1, by show Value.int .i64 _ = _; go_num, rfl, rfl, by omega, Nat.le_refl _, qh (by rw [HON.out]; exact HG2.out), HKN⟩, by kernel_rfl⟩)

  ·obtain rfl : i = cast.length := by omega
   obtain ⟨a12, k12, hsh⟩ := HG.out.shape
   have hlt2 : decide ((cast.length : Int) < (cast.length : Int)) = false := by simp
   obtain ⟨a13, k13, e13, hon⟩ := Kit.own_sl (f := Un.bdF (Un.onL bs cast)) HG.out.own (fun i j hi hj => by
    rw [List.take_length]
    exact Un.bdsV_at (Un.onL bs cast) i j (by rw [Un.onL_len]; exact hi) hj)
   rw [e13] at hsh
   obtain ⟨rfl, rfl⟩ : a13 = a12 ∧ k13 = k12 := by simpa using hsh
   subst e13
   clear hsh
   have HON := qh hon
   have wk : ∀ j, wr.cell? ⟨w.heap.size, j, none⟩ = (Un.wkC x p)[j]? := fun j => (World.cell?_of_block (HG.out.bel.block w.heap.size hz2)).trans (WK2.out j)
   have hlb : ((cast.length : Int) != (x.ro.length : Int)) = false := by simp [HLN.out]
   have hzr : w.heap.size < wr.heap.size := Nat.lt_of_lt_of_le hz2 HG.out.bel.size
   clear hon
   go_wp2_with fail
   refine (H4.out _).mono ?_
   rintro _ w4 ⟨rfl, hb4⟩
   have HB4 := qh (HBR.out.trans (hb4.mono HBR.out.size))
   have HON4 := qh (HON.out.kept hb4 nlr)
   have HWK4 := qh (show ∀ j, w4.cell? ⟨w.heap.size, j, none⟩ = (Un.wkC x p)[j]? from fun j => (World.cell?_of_block (hb4.block w.heap.size hzr)).trans (wk j))
   have hz4 : w.heap.size < w4.heap.size := Nat.lt_of_lt_of_le hzr hb4.size
   clear hb4 wk
   go_upto_region 22 with fail
   refine wp_mono (un_ready_loop Tryz.f16 rfl _ _ _ _ _ _ _ _ _ _ _ _ rfl _ _ _ _ _ _ _ _ _ _ _ _ _ _ _ _ _ _ _ _ _ _ _ _ _ _ _ _ _ _ _ _ _ _ _ _ _ _ _ _ _ _ _ _ _ _ _ _ _ _ _ _ _ _ _ _ _ _ _ _ _ _ _ _ _ _ _ _ _ _ _ _ _ _ _ _ _ _ _ _ _ _ _ _ _ _ _ _ _ _ _ _ _ _ _ _ _ _ _ _ _ _ _ _ _ _ _ _ _ _ _ _ _ _ _ _ _ _ _ _ _ _ _ _ _ _ _ _ _ _ _ _ _ _ _ _ _ _ _ _ _ _ _ _ _ _ _ _ _ _ _ _ _ _ x p w w4 HL.out HF.out HA.out HGD.out role bar bs a c HSL.out hnl HNS.out HOKA.out cast ac cc HCS.out hlc HLN.out a13 k13 HON4.out HWI.out HB4.out HWK4.out hz4 (fun e w' => ∃ v l, e = .returned (.tuple #[v, .int .i64 0]) ∧ Un.Ready x bs cast role bar l ∧ w'.ownsRow w.heap.size 3 1 v l.length (Un.ints l) ∧ Below w.heap.size w w') ?_) (fun e a w hq => ?_)
   ·intro l v w' h1 h2 h3
    exact ⟨v, l, rfl, h1, h2, h3⟩
   ·cases e with
    | normal => apply_assumption; exact hq
    | _ => exact hq
end Go.Proofs.YtbhgogiaaljclaaGreatDoor
