/- Walks: the law IdentityPatch. -/
import Derived.Test.YtdaedjmkolcliaaPtF
import Derived.Test.YtdaedjmkolcliaaJaG
import Derived.Test.YtdaedjmkolcliaaJrG
namespace Go.Proofs.Ytdaedjmkolcliaa
set_option linter.unusedVariables false
set_option linter.unusedSimpArgs false
open Go.RowKit Go.Shelf

namespace Id
theorem setF_form {f : Nat} (hf : 4 ≤ f ∧ f ≤ 8) {x y : Sg} (h1 : form x = true) (h2 : form (setF f plainSg y) = true) : form (setF f x y) = true := by
  obtain ⟨k1, k2⟩ := hf
  rw [form_iff] at h1 h2 ⊢
  obtain ⟨a1, a2, a3, a4, a5, a6, a7, a8, a9, a10, a11⟩ := h1
  obtain ⟨b1, b2, b3, b4, b5, b6, b7, b8, b9, b10, b11⟩ := h2
  obtain rfl | rfl | rfl | rfl | rfl : f = 4 ∨ f = 5 ∨ f = 6 ∨ f = 7 ∨ f = 8 := by omega
  · exact ⟨a1, a2, a3, a4, a5, b6, a7, a8, a9, a10, a11⟩
  · exact ⟨a1, a2, a3, a4, a5, a6, b7, a8, a9, a10, a11⟩
  · exact ⟨a1, a2, a3, a4, a5, a6, a7, b8, a9, a10, a11⟩
  · exact ⟨a1, a2, a3, a4, a5, a6, a7, a8, b9, a10, a11⟩
  · exact ⟨a1, a2, a3, a4, a5, a6, a7, a8, a9, b10, a11⟩
theorem mid_id {A B : List Sg} {x y : Sg} (h : (A ++ x :: B).Pairwise fun a b => a.id < b.id) (hy : y ∈ A ++ x :: B) (e : y.id = x.id) : y = x := by
  rw [List.pairwise_append] at h
  obtain ⟨_, h2, h3⟩ := h
  rcases List.mem_append.1 hy with h | h
  · have := h3 y h x (by simp); omega
  · rcases List.mem_cons.1 h with h | h
    · exact h
    · have := (List.pairwise_cons.1 h2).1 y h; omega
/-- What a patch does to the essence. -/
theorem pd_ess {p : Pt} {L pl : List Sg} (h0 : essE L = 0) (hok : PtOk p) (hkf : p.kind = 1 → 4 ≤ p.field ∧ p.field ≤ 8) (hd : Pd p L pl) :
    essE pl = 0 ∧ cst (ess L) (ess pl) ≤ 3 ∧ ∀ y ∈ L, y.id = p.sign → y.mark ≠ 1 → cst (ess L) (ess pl) = 0 := by
  have hc := (ess_le h0).1
  obtain ⟨_, c2, c3⟩ := chk_ok hc
  rcases hd with ⟨A, x, B, rfl, hx, hd⟩ | ⟨_, rfl, hn⟩
  · rcases hd with ⟨k1, rfl⟩ | ⟨k3, rfl⟩
    · obtain ⟨f1, f2⟩ := hkf k1
      have hfm : form (setF p.field.toNat plainSg p.new) = true := by
        rcases hok.2 with ⟨_, h⟩ | h
        · exact h
        · omega
      obtain ⟨r1, r2, r3⟩ := set_ess h0 (setF_sim p.field.toNat x p.new) (setF_form (by omega) (c2 x (by simp)) hfm)
      refine ⟨r1, r2, fun y hy e hm => ?_⟩
      obtain rfl := mid_id c3 hy (by omega)
      rw [r3 hm, cst_self]
    · obtain ⟨r1, r2, r3⟩ := drop_ess h0
      refine ⟨r1, r2, fun y hy e hm => ?_⟩
      obtain rfl := mid_id c3 hy (by omega)
      rw [r3 hm, cst_self]
  · exact ⟨h0, by rw [cst_self]; omega, fun y hy e => absurd e (hn y hy)⟩
theorem pd_len {p : Pt} {L pl : List Sg} (hd : Pd p L pl) : pl.length ≤ L.length := by
  rcases hd with ⟨A, x, B, rfl, hx, hd⟩ | ⟨_, rfl, hn⟩
  · rcases hd with ⟨k1, rfl⟩ | ⟨k3, rfl⟩ <;> simp
  · exact Nat.le_refl _
theorem rn_len {p : Pt} {L pl : List Sg} {er : Int} (h : RnR p L pl er) : pl.length ≤ L.length := by
  rcases h with ⟨_, _, h⟩ | ⟨_, rfl⟩
  · exact pd_len h
  · simp
theorem es_ess {l : List Sg} (h : essE l = 0) : es l = ess l := by unfold es; rw [if_pos h]
theorem near_or {lim : Int} {a b : List Int} (h0 : 0 ≤ lim) (hc : cst a b ≤ 3) (h : simi lim a b = false) : lim * 2 * ((a.length : Int) + b.length) < 3000 := by
  unfold simi at h
  have := of_decide_eq_false h
  rw [Int.mul_comm 2 lim] at this
  omega
end Id
set_option maxRecDepth 100000 in
set_option maxHeartbeats 8000000 in
theorem ja_patch (lim : Int) (a : Option Addr) (L : List Id.Sg) (c : Nat) (p : Id.Pt) (aN : Option Addr) (N : List Int) (cN : Nat) (w : World) (hS : Tp.Sl w a L.length 14 (Id.sgc L)) (hl : L.length ≤ 4611686018427387904) (hlc : L.length ≤ c) (hN : Tp.Sl w aN N.length 1 (Id.ic N)) (hNl : N.length ≤ 4611686018427387904) :
    Calls Try.prog 9 #[.slice a L.length c, .agg (Id.ptA p aN N.length cN), .int .i64 lim] w fun e w' => e = .returned (.bool true) ∧ Below w.heap.size w w' := by
  have HS := Lib.hid hS
  have HN := Lib.hid hN
  have HI := Lib.hid (show (Try.prog.info? 52).map (·.size) = some (Id.ptA p aN N.length cN).toList.length by kernel_rfl)
  have HSN := Lib.hid (fun W => ja_sane W)
  have HRG := Lib.hid (Id.range_alloc w (Id.ptA p aN N.length cN) 52)
  have HAP := Lib.hid (fun W s1 s2 h1 h2 => pa_Apply p aN N cN L a c W s1 hl hlc s2 hNl h1 h2)
  clear hS hN
  go_enter Try.func9, Try.ntmps9
  go_wp2_with fail
  refine (HSN.out _).mono ?_
  rintro _ x1 ⟨rfl, hb⟩
  have HB1 := Lib.hid (((Below.refl w.heap.size w).alloc (Nat.le_refl _) (.cells (Id.ptA p aN N.length cN) 52)).trans (hb.mono (by simp)))
  have HR1 := Lib.hid (Id.range_kept HRG.out hb (by simp))
  have hz1 : w.heap.size < x1.heap.size := by have := hb.size; simp at this; omega
  clear hb HSN HRG
  go_wp2_with fail
  refine (ja_fews a L c _ (HS.out.kept HB1.out (Nat.le_refl _)) hl).mono ?_
  rintro _ w' ⟨rfl, rfl⟩
  have q1 : x1.cell? ⟨w.heap.size, 1, none⟩ = some (.int .i64 p.kind) := HR1.out 1 _ rfl
  have q2 : x1.cell? ⟨w.heap.size, 2, none⟩ = some (.int .i64 p.sign) := HR1.out 2 _ rfl
  have q3 : x1.cell? ⟨w.heap.size, 3, none⟩ = some (.int .i64 p.field) := HR1.out 3 _ rfl
  have q18 : x1.cell? ⟨w.heap.size, 18, none⟩ = some (.slice aN N.length cN) := HR1.out 18 _ rfl
  rcases hf : Id.fewS L with _ | _
  · clear hf
    go_wp2
    go_ret
    exact ⟨rfl, HB1.out⟩
  clear hf
  by_cases hn : 100 < N.length
  · have j1 : decide ((100 : Int) < (N.length : Int)) = true := by simp; omega
    go_wp2
    go_ret
    exact ⟨rfl, HB1.out⟩
  have j1 : decide ((100 : Int) < (N.length : Int)) = false := by simp; omega
  by_cases k2 : p.kind = 2
  · have j2 : (p.kind == 2) = true := by simp [k2]
    go_wp2
    go_ret
    exact ⟨rfl, HB1.out⟩
  have j2 : (p.kind == 2) = false := by simpa using k2
  by_cases hno : p.kind = 1 ∧ ¬ (4 ≤ p.field ∧ p.field ≤ 8)
  case pos =>
    have j3 : (p.kind == 1) = true := by simp [hno.1]
    by_cases h4 : p.field < 4
    · have j4 : decide (p.field < 4) = true := by simpa using h4
      go_wp2
      go_ret
      exact ⟨rfl, HB1.out⟩
    · have j4 : decide (p.field < 4) = false := by simpa using h4
      have j5 : decide (8 < p.field) = true := by simp; omega
      go_wp2
      go_ret
      exact ⟨rfl, HB1.out⟩
  have hkf : p.kind = 1 → 4 ≤ p.field ∧ p.field ≤ 8 := fun h => by omega
  have HKF := Lib.hid hkf
  have HAQ := Lib.hid (fun W s1 s2 => HAP.out W s1 s2 k2 hkf)
  have hway : ((p.kind == 1) = true ∧ decide (p.field < 4) = false ∧ decide (8 < p.field) = false) ∨ ((p.kind == 1) = false ∧ True ∧ True) := by
    by_cases k1 : p.kind = 1
    · exact .inl ⟨by simp [k1], by simp; omega, by simp; omega⟩
    · exact .inr ⟨by simpa using k1, trivial, trivial⟩
  clear hno hkf k2 HAP
  rcases hway with ⟨j3, j4, j5⟩ | ⟨j3, _, _⟩
  all_goals
    go_wp2_with (first | ((with_reducible refine wpList_load_mid ?_ 52 (.tmp 4) ?_ w.heap.size 0 ?_ (Id.ptA p aN N.length cN).toList _ HR1.out Try.underlying52 rfl HI.out ?_); rfl; rfl; rfl))
    clear j1 j2 j3 q1 q3 q18
    refine (HAQ.out _ (HS.out.kept HB1.out (Nat.le_refl _)) (HN.out.kept HB1.out (Nat.le_refl _))).mono ?_
    rintro _ x2 ⟨⟨pl, a2, c2, er, rfl, hsl, hrn⟩, hb⟩
    have HB2 := Lib.hid (HB1.out.trans (hb.mono HB1.out.size))
    have HP2 := Lib.hid hsl
    have HRN := Lib.hid hrn
    have HPL := Lib.hid (Id.rn_len hrn)
    replace q2 := (hb.cell (p := ⟨w.heap.size, 2, none⟩) hz1).trans q2
    have hz2 : w.heap.size < x2.heap.size := by have := hb.size; omega
    clear hb hsl hrn HAQ HR1 hz1 HB1
    go_wp2_with fail
    refine (id_essence a L c _ (HS.out.kept HB2.out (Nat.le_refl _)) hl).mono ?_
    intro e x3 hx
    obtain ⟨hb3, a3, c3, rfl, hs3⟩ := Id.essO hx
    have HB3 := Lib.hid (HB2.out.trans (hb3.mono HB2.out.size))
    have HP3 := Lib.hid (HP2.out.kept hb3 (Nat.le_refl _))
    have HE3 := Lib.hid hs3
    replace q2 := (hb3.cell (p := ⟨w.heap.size, 2, none⟩) hz2).trans q2
    have hz3 : w.heap.size < x3.heap.size := by have := hb3.size; omega
    clear hb3 hs3 hx HP2 hz2 HB2
    go_wp2_with fail
    refine (id_essence a2 pl c2 _ HP3.out (by have := HPL.out; omega)).mono ?_
    intro e x4 hx
    obtain ⟨hb4, a4, c4, rfl, hs4⟩ := Id.essO hx
    have HB4 := Lib.hid (HB3.out.trans (hb4.mono HB3.out.size))
    have HP4 := Lib.hid (HP3.out.kept hb4 (Nat.le_refl _))
    have HE4 := Lib.hid (HE3.out.kept hb4 (Nat.le_refl _))
    have HF4 := Lib.hid hs4
    replace q2 := (hb4.cell (p := ⟨w.heap.size, 2, none⟩) hz3).trans q2
    have hz4 : w.heap.size < x4.heap.size := by have := hb4.size; omega
    clear hb4 hs4 hx HP3 HE3 hz3 HB3
    by_cases her : er = 0
    case neg =>
      have i1 : (er != 0) = true := by simpa using her
      clear her HRN
      go_wp2
      go_ret
      exact ⟨rfl, HB4.out⟩
    subst her
    by_cases hes : Id.essE L = 0
    case neg =>
      have i1 : (Id.essE L != 0) = true := by simpa using hes
      clear hes HRN
      go_wp2
      go_ret
      exact ⟨rfl, HB4.out⟩
    have hd : Id.PtOk p ∧ Id.Pd p L pl := by
      rcases HRN.out with h | h
      · exact h.2
      · exact absurd rfl h.1
    have h3 := Id.pd_ess hes hd.1 HKF.out hd.2
    have hes2 := h3.1
    have HCS := Lib.hid h3.2
    have g1 := Id.ess_le hes
    have g2 := Id.ess_le hes2
    have HEE := Lib.hid (show Id.eE lim [L, pl] = Id.limE lim from Id.eE_3 hes hes2)
    have HNB := Lib.hid (show Id.nearB L pl lim = (decide (Id.eE lim [L, pl] = 0) && Id.simi lim (Id.ess L) (Id.ess pl)) from rfl)
    have HPR := Lib.hid (fun W s t => co_pair (Id.ess L) (Id.ess pl) a3 c3 a4 c4 W s t g1.2 g2.2 (Id.ess_cod g1.1) (Id.ess_cod g2.1))
    have HNO := Lib.hid (fun h0 hs => Id.near_or (lim := lim) h0 h3.2.1 hs)
    have HGL := Lib.hid (And.intro g1.2 g2.2)
    rw [Id.es_ess hes] at HE4
    rw [Id.es_ess hes2] at HF4
    rw [Id.es_ess hes, Id.es_ess hes2, hes, hes2]
    clear hes hes2 h3 hd HRN g1 g2
    go_wp2_with fail
    refine (HPR.out _ HE4.out HF4.out).mono ?_
    rintro _ x5 ⟨⟨pr, rfl⟩, hb5⟩
    have HB5 := Lib.hid (HB4.out.trans (hb5.mono HB4.out.size))
    have HP5 := Lib.hid (HP4.out.kept hb5 (Nat.le_refl _))
    replace q2 := (hb5.cell (p := ⟨w.heap.size, 2, none⟩) hz4).trans q2
    have hz5 : w.heap.size < x5.heap.size := by have := hb5.size; omega
    clear hb5 HP4 HE4 HF4 hz4 HB4 HPR
    go_wp2_with fail
    refine (id_near L pl a c a2 c2 lim _ (HS.out.kept HB5.out (Nat.le_refl _)) HP5.out hl (by have := HPL.out; omega)).mono ?_
    rintro _ x6 ⟨rfl, hb6⟩
    have HB6 := Lib.hid (HB5.out.trans (hb6.mono HB5.out.size))
    replace q2 := (hb6.cell (p := ⟨w.heap.size, 2, none⟩) hz5).trans q2
    have hz6 : w.heap.size < x6.heap.size := by have := hb6.size; omega
    clear hb6 HP5 hz5 HB5
    rw [HEE.out] at HNB
    rw [HEE.out]
    clear HEE
    generalize Id.nearB L pl lim = nb at HNB ⊢
    generalize Id.simi lim (Id.ess L) (Id.ess pl) = sm at HNB HNO
    have HGL2 := HGL.out
    generalize (Id.ess L).length = nA at HNO HGL2 ⊢
    generalize (Id.ess pl).length = nB at HNO HGL2 ⊢
    obtain ⟨hc3, hcz⟩ := HCS.out
    have HCZ := Lib.hid hcz
    clear hcz HCS HGL
    generalize Id.cst (Id.ess L) (Id.ess pl) = q at hc3 HCZ ⊢
    have i3 : decide (3 < q) = false := by simp; omega
    clear hn HKF HN HI HPL
    go_wp2_with fail
    go_loopw [99] (fun v99 wr => ∃ k : Nat, v99 = .int .i64 k ∧ k ≤ L.length ∧ Hid (Below w.heap.size w wr) ∧ w.heap.size < wr.heap.size ∧ Hid (wr.cell? ⟨w.heap.size, 2, none⟩ = some (.int .i64 p.sign)))
      (fun v99 _ => L.length - (intOf v99).toNat)
    case atStart => exact ⟨0, rfl, Nat.zero_le _, HB6.out, hz6, Lib.hid q2⟩
    case round =>
      obtain ⟨k, rfl, hk, HB, hz, HQ⟩ := hrel
      rename World => wr
      clear HB6 q2 hz6
      by_cases hlt : k < L.length
      · obtain ⟨ad, rfl, had, _⟩ := HS.out.at hlt
        have h := HS.out.kept HB.out (Nat.le_refl _)
        (have e0 := h.head hlt (by omega); have e1 := h.field hlt (j := 1) (by omega) (by omega); have e2 := h.field hlt (j := 2) (by omega) (by omega); have e3 := h.field hlt (j := 3) (by omega) (by omega); have e4 := h.field hlt (j := 4) (by omega) (by omega); have e5 := h.field hlt (j := 5) (by omega) (by omega); have e6 := h.field hlt (j := 6) (by omega) (by omega); have e7 := h.field hlt (j := 7) (by omega) (by omega); have e8 := h.field hlt (j := 8) (by omega) (by omega); have e9 := h.field hlt (j := 9) (by omega) (by omega); have e10 := h.field hlt (j := 10) (by omega) (by omega); have e11 := h.field hlt (j := 11) (by omega) (by omega); have e12 := h.field hlt (j := 12) (by omega) (by omega); have e13 := h.field hlt (j := 13) (by omega) (by omega); obtain ⟨x, hx_⟩ : ∃ y, L.getD k default = y := ⟨_, rfl⟩; simp only [Id.sgc, hx_, Id.sgF] at e0 e1 e2 e3 e4 e5 e6 e7 e8 e9 e10 e11 e12 e13)
        have hm : x ∈ L := by rw [← hx_, List.getD_eq_getElem?_getD, List.getElem?_eq_getElem hlt]; exact List.getElem_mem hlt
        have HXC := Lib.hid (fun h1 h2 => HCZ.out x hm h1 h2)
        have q2 := HQ.out
        clear h hx_ hm
        rcases b1 : (x.id == p.sign) with _ | _
        · clear HXC
          go_wp2_with fail
          go_roundw
          case rel => exact ⟨k + 1, by go_num, by omega, by have := HB.out; have := HB.out.size; exact Lib.hid (by (repeat' first | (with_reducible first | exact Below.refl _ _ | assumption | refine Kit.below_drewN ?_ _ | refine Below.drew ?_ | refine Below.alloc ?_ ?_ _ | refine Below.setCell ?_ ?_ _ | exact Nat.le_refl _) | omega | (simp; omega) | (simp; done) | (apply Below.size; assumption))), by simp; omega, Lib.hid (((show Below wr.heap.size wr _ from by (repeat' first | (with_reducible first | exact Below.refl _ _ | assumption | refine Kit.below_drewN ?_ _ | refine Below.drew ?_ | refine Below.alloc ?_ ?_ _ | refine Below.setCell ?_ ?_ _ | exact Nat.le_refl _) | omega | (simp; omega) | (simp; done) | (apply Below.size; assumption))).cell (show w.heap.size < wr.heap.size from hz)).trans q2)⟩
          case measure => simp [intOf]; omega
        rcases b2 : (x.mark != 1) with _ | _
        · clear HXC
          go_wp2_with fail
          go_roundw
          case rel => exact ⟨k + 1, by go_num, by omega, by have := HB.out; have := HB.out.size; exact Lib.hid (by (repeat' first | (with_reducible first | exact Below.refl _ _ | assumption | refine Kit.below_drewN ?_ _ | refine Below.drew ?_ | refine Below.alloc ?_ ?_ _ | refine Below.setCell ?_ ?_ _ | exact Nat.le_refl _) | omega | (simp; omega) | (simp; done) | (apply Below.size; assumption))), by simp; omega, Lib.hid (((show Below wr.heap.size wr _ from by (repeat' first | (with_reducible first | exact Below.refl _ _ | assumption | refine Kit.below_drewN ?_ _ | refine Below.drew ?_ | refine Below.alloc ?_ ?_ _ | refine Below.setCell ?_ ?_ _ | exact Nat.le_refl _) | omega | (simp; omega) | (simp; done) | (apply Below.size; assumption))).cell (show w.heap.size < wr.heap.size from hz)).trans q2)⟩
          case measure => simp [intOf]; omega
        have b3 : (q != 0) = false := by
          have := HXC.out (by simpa using b1) (by simpa using b2)
          simp [this]
        clear HXC
        go_wp2_with fail
        go_roundw
        case rel => exact ⟨k + 1, by go_num, by omega, by have := HB.out; have := HB.out.size; exact Lib.hid (by (repeat' first | (with_reducible first | exact Below.refl _ _ | assumption | refine Kit.below_drewN ?_ _ | refine Below.drew ?_ | refine Below.alloc ?_ ?_ _ | refine Below.setCell ?_ ?_ _ | exact Nat.le_refl _) | omega | (simp; omega) | (simp; done) | (apply Below.size; assumption))), by simp; omega, Lib.hid (((show Below wr.heap.size wr _ from by (repeat' first | (with_reducible first | exact Below.refl _ _ | assumption | refine Kit.below_drewN ?_ _ | refine Below.drew ?_ | refine Below.alloc ?_ ?_ _ | refine Below.setCell ?_ ?_ _ | exact Nat.le_refl _) | omega | (simp; omega) | (simp; done) | (apply Below.size; assumption))).cell (show w.heap.size < wr.heap.size from hz)).trans q2)⟩
        case measure => simp [intOf]; omega
      · obtain rfl : k = L.length := by omega
        by_cases l0 : lim < 0
        · have j1 : decide (lim < 0) = true := by simpa using l0
          have HL := Lib.hid (show Id.limE lim = 450 by unfold Id.limE; rw [if_pos (.inl l0)])
          clear l0
          rw [HL.out]
          go_wp2
          go_ret
          exact ⟨rfl, HB.out⟩
        have j1 : decide (lim < 0) = false := by simpa using l0
        by_cases l1 : 1000 < lim
        · have j2 : decide (1000 < lim) = true := by simpa using l1
          have HL := Lib.hid (show Id.limE lim = 450 by unfold Id.limE; rw [if_pos (.inr l1)])
          clear l0 l1
          rw [HL.out]
          go_wp2
          go_ret
          exact ⟨rfl, HB.out⟩
        have j2 : decide (1000 < lim) = false := by simpa using l1
        have HL := Lib.hid (show Id.limE lim = 0 by unfold Id.limE; rw [if_neg (by omega)])
        obtain rfl : nb = sm := by rw [HNB.out, HL.out]; simp
        rw [HL.out]
        cases nb
        · have hx := HNO.out (by omega) rfl
          have w1 : IntKind.i64.wrap (lim * 2) = lim * 2 := by rw [IntKind.wrap_i64]; omega
          have hm : 0 ≤ lim * 2 * ((nA : Int) + nB) := Int.mul_nonneg (by omega) (by omega)
          have w2 : IntKind.i64.wrap (lim * 2 * ((nA : Int) + nB)) = lim * 2 * ((nA : Int) + nB) := by rw [IntKind.wrap_i64]; omega
          have j3 : decide (lim * 2 * ((nA : Int) + nB) < 3000) = true := by simpa using hx
          clear hx hm l0 l1 HNO HNB
          go_wp2
          go_ret
          exact ⟨by first | rfl | simp [w1, w2, j3], HB.out⟩
        · clear l0 l1 HNO HNB
          go_wp2
          go_ret
          exact ⟨rfl, HB.out⟩
end Go.Proofs.Ytdaedjmkolcliaa
