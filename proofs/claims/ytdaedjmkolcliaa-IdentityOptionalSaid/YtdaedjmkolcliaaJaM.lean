/- Walks: the law IdentityOptional. -/
import Derived.Test.YtdaedjmkolcliaaJaK
import Derived.Test.YtdaedjmkolcliaaJaG
namespace Go.Proofs.Ytdaedjmkolcliaa
set_option linter.unusedVariables false
set_option linter.unusedSimpArgs false
open Go.RowKit Go.Shelf

set_option maxRecDepth 100000 in
set_option maxHeartbeats 8000000 in
theorem ja_optional (a : Option Addr) (L : List Id.Sg) (c : Nat) (aG : Option Addr) (nG cG : Nat) (f : Nat → Int) (w : World) (hS : Tp.Sl w a L.length 14 (Id.sgc L)) (hl : L.length ≤ 4611686018427387904)
    (hG : Tp.Sl w aG nG 1 (fun i _ => .int .u8 (f i))) (hlG : nG ≤ 4611686018427387904) (hf : ∀ i, 0 ≤ f i ∧ f i ≤ 255) :
    Calls Try.prog 8 #[.slice a L.length c, .slice aG nG cG] w fun e w' => e = .returned (.bool true) ∧ Below w.heap.size w w' := by
  have HS := Lib.hid hS
  have HG := Lib.hid hG
  have HF := Lib.hid hf
  clear hS hG hf
  have HSN := Lib.hid (fun W => ja_sane W)
  go_enter Try.func8, Try.ntmps8
  go_wp2_with fail
  refine (HSN.out _).mono ?_
  rintro _ x1 ⟨rfl, hb⟩
  have HB1 := Lib.hid hb
  clear hb
  go_wp2_with fail
  refine (ja_fews a L c _ (HS.out.kept HB1.out (Nat.le_refl _)) hl).mono ?_
  rintro _ w' ⟨rfl, rfl⟩
  rcases hfw : Id.fewS L with _ | _
  · clear hfw
    go_wp2
    go_ret
    exact ⟨rfl, HB1.out⟩
  have hL : L.length ≤ 100 ∧ ((Id.essl L).length ≤ 20 ∨ 64 < (Id.essl L).length) := by
    unfold Id.fewS at hfw
    simp only [Bool.and_eq_true, Bool.or_eq_true, decide_eq_true_eq] at hfw
    exact hfw
  clear hfw
  go_wp2_with fail
  refine (id_essence a L c _ (HS.out.kept HB1.out (Nat.le_refl _)) hl).mono ?_
  rintro e x2 ⟨hb2, he⟩
  have HB2 := Lib.hid (HB1.out.trans (hb2.mono HB1.out.size))
  clear hb2
  by_cases h0 : Id.essE L = 0
  case neg =>
    rw [if_neg h0] at he
    subst he
    generalize Id.essE L = q at h0 ⊢
    have q1 : (q != 0) = true := by simpa using h0
    clear h0
    go_wp2
    go_ret
    exact ⟨rfl, HB2.out⟩
  rw [if_pos h0] at he
  obtain ⟨aE, cE, rfl, hoE⟩ := he
  have h20 : (Id.essl L).length ≤ 20 := by
    have := (Id.ess_le h0).2
    rw [Id.ess_len] at this
    omega
  have HSE := Lib.hid (Id.own_sl hoE (Id.ints_ic (Id.ess L))).1
  obtain ⟨g, hg⟩ : ∃ g : Nat → Int, g = fun m => if m < nG then f m else 0 := ⟨_, rfl⟩
  have hg0 : ∀ m, 0 ≤ g m := fun m => by rw [hg]; simp only; split <;> first | exact (HF.out m).1 | exact Int.le_refl _
  have hg1 : ∀ m, g m ≤ 255 := fun m => by rw [hg]; simp only; split <;> first | exact (HF.out m).2 | decide
  have HGY := Lib.hid (show ∀ m, m < nG → g m = f m from fun m hm => by rw [hg]; simp only; rw [if_pos hm])
  have HGN := Lib.hid (show ∀ m, ¬ m < nG → g m = 0 from fun m hm => by rw [hg]; simp only; rw [if_neg hm])
  obtain ⟨b1, b2, b3, b4⟩ := Id.bare_ok hg0 hg1 h0 h20
  have hel : (Id.ess L).length ≤ 64 := (Id.ess_le h0).2
  have HBO := Lib.hid b1
  have HBS := Lib.hid b2
  have HBE := Lib.hid b3
  have HBN := Lib.hid b4
  have HNB := Lib.hid (fun m => Id.nxi_bd hg0 hg1 m)
  clear hg b1 b2 b3 b4 hoE h0 hg0 hg1
  have HX0 := Lib.hid (HS.out.kept HB2.out (Nat.le_refl _))
  have HG0 := Lib.hid (HG.out.kept HB2.out (Nat.le_refl _))
  go_wp2_with fail
  go_loopw [7, 8, 32] (fun v7 v8 v32 wr => ∃ k : Nat, v32 = .int .i64 k ∧ k ≤ L.length ∧ v8 = .int .i64 (Id.nxi g (Id.essl (L.take k)).length) ∧ Hid (Kit.Gw x2 49 14 v7 (Id.bare g (Id.essl (L.take k))).length (Id.flatS (Id.bare g (Id.essl (L.take k)))) wr))
    (fun _ _ v32 _ => L.length - (intOf v32).toNat)
  case atStart => exact ⟨0, rfl, Nat.zero_le _, rfl, Kit.Gw.start _ _ _⟩
  case round =>
    obtain ⟨k, rfl, hk, rfl, HO⟩ := hrel
    by_cases hlt : k < L.length
    · obtain ⟨ad, rfl, had, _⟩ := HX0.out.at hlt
      have h := HX0.out.kept HO.out.bel (Nat.le_refl _)
      (have e0 := h.head hlt (by omega); have e1 := h.field hlt (j := 1) (by omega) (by omega); have e2 := h.field hlt (j := 2) (by omega) (by omega); have e3 := h.field hlt (j := 3) (by omega) (by omega); have e4 := h.field hlt (j := 4) (by omega) (by omega); have e5 := h.field hlt (j := 5) (by omega) (by omega); have e6 := h.field hlt (j := 6) (by omega) (by omega); have e7 := h.field hlt (j := 7) (by omega) (by omega); have e8 := h.field hlt (j := 8) (by omega) (by omega); have e9 := h.field hlt (j := 9) (by omega) (by omega); have e10 := h.field hlt (j := 10) (by omega) (by omega); have e11 := h.field hlt (j := 11) (by omega) (by omega); have e12 := h.field hlt (j := 12) (by omega) (by omega); have e13 := h.field hlt (j := 13) (by omega) (by omega); obtain ⟨x, hx_⟩ : ∃ y, L.getD k default = y := ⟨_, rfl⟩; simp only [Id.sgc, hx_, Id.sgF] at e0 e1 e2 e3 e4 e5 e6 e7 e8 e9 e10 e11 e12 e13)
      have HT := Lib.hid (Id.essl_take L k hlt x hx_)
      have hlen : (Id.essl (L.take k)).length ≤ 20 := Nat.le_trans (Id.essl_le L k) h20
      obtain ⟨E, hE⟩ : ∃ E, Id.essl (L.take k) = E := ⟨_, rfl⟩
      rw [hE] at HO HT hlen ⊢
      rw [Id.bare_len] at HO
      have HSN2 := Lib.hid (Id.bare_snoc g E x)
      clear h hx_ hE
      have hd := HNB.out E.length
      rcases hm : decide (x.mark = 1) with _ | _
      · have d1 : (x.mark == 1) = false := by simpa using hm
        rw [hm] at HT
        clear hd
        go_wp2_with fail
        go_roundw
        case rel => exact ⟨k + 1, by go_num, by omega, by rw [HT.out, if_neg (by simp)], by rw [HT.out, if_neg (by simp), Id.bare_len]; exact HO.out.alloc _⟩
        case measure => simp [intOf]; omega
      · have d1 : (x.mark == 1) = true := by simpa using hm
        rw [hm, if_pos rfl] at HT
        have HNX := Lib.hid (show Id.nxi g (E.length + 1) = Id.nxi g E.length + g E.length + 1 from rfl)
        obtain ⟨av, cv, rfl⟩ := HO.out.shape
        generalize hEm : E.length = m at *
        have HEM := Lib.hid hEm
        clear hEm
        by_cases hmg : m < nG
        · have hgm := HGY.out m hmg
          rw [hgm] at HNX HSN2
          have hfm := HF.out m
          obtain ⟨adg, rfl, hadg, hcg⟩ := HG0.out.at hmg
          have eg : ∀ o : Obj, (wr.alloc o).cell? (adg.add m) = some (.int .u8 (f m)) := fun o => by
            have h := (HG0.out.kept (HO.out.bel.alloc HO.out.bel.size o) (Nat.le_refl _)).head hmg (by omega)
            rw [Nat.mul_one] at h; exact h
          have j1 : decide ((m : Int) < (nG : Int)) = true := by simp; omega
          have j2 : decide (m < nG) = true := by simp; omega
          generalize f m = b at HNX HSN2 hfm eg
          generalize Id.nxi g m = d at HNX HSN2 hd ⊢
          have hd1 : 0 ≤ d ∧ d ≤ 5120 := by omega
          clear hd hgm hcg HF
          go_wp2_with (at_builtin; refine Kit.wpList_app Id.elS _ rfl _ _ rfl _ _ _ ((HO.out.alloc _).alloc _) rfl (by omega) ⟨wr.heap.size + 1, 0, none⟩ 1 (Id.sc {x with id := d + b}) rfl rfl (fun j u hu => Kit.lit_at _ (Id.sc {x with id := d + b}) _ (by simp) j u hu) (by simp [Id.sc, Value.oneCell']) ?_; intro v' w2 ho hg; have HO2 := Lib.hid ho; clear ho hg)
          go_roundw
          case rel => exact ⟨k + 1, by go_num, by omega, by rw [HT.out, List.length_append, List.length_singleton, HEM.out, HNX.out], by rw [HT.out, HSN2.out, Id.flatS_snoc, List.length_append, Id.bare_len, HEM.out]; exact HO2.out⟩
          case measure => simp [intOf]; omega
        · have hgm := HGN.out m hmg
          rw [hgm, Int.add_zero] at HNX HSN2
          have j1 : decide ((m : Int) < (nG : Int)) = false := by simp; omega
          have j2 : decide (m < nG) = false := by simp; omega
          generalize Id.nxi g m = d at HNX HSN2 hd ⊢
          have hd1 : 0 ≤ d ∧ d ≤ 5120 := by omega
          clear hd hgm HF
          go_wp2_with (at_builtin; refine Kit.wpList_app Id.elS _ rfl _ _ rfl _ _ _ ((HO.out.alloc _).alloc _) rfl (by omega) ⟨wr.heap.size + 1, 0, none⟩ 1 (Id.sc {x with id := d}) rfl rfl (fun j u hu => Kit.lit_at _ (Id.sc {x with id := d}) _ (by simp) j u hu) (by simp [Id.sc, Value.oneCell']) ?_; intro v' w2 ho hg; have HO2 := Lib.hid ho; clear ho hg)
          go_roundw
          case rel => exact ⟨k + 1, by go_num, by omega, by rw [HT.out, List.length_append, List.length_singleton, HEM.out, HNX.out], by rw [HT.out, HSN2.out, Id.flatS_snoc, List.length_append, Id.bare_len, HEM.out]; exact HO2.out⟩
          case measure => simp [intOf]; omega
    · obtain rfl : k = L.length := by omega
      rw [List.take_length] at HO ⊢
      have hbl : (Id.bare g (Id.essl L)).length ≤ 20 := by rw [Id.bare_len]; exact h20
      clear HNB HGY HGN
      generalize Id.bare g (Id.essl L) = B at HO HBO HBS HBE HBN hbl
      obtain ⟨aB, cB, rfl⟩ := HO.out.shape
      have HSB := Lib.hid (Id.own_sl HO.out.own (fun i j hi hj => Id.flatS_get _ i j hi hj)).1
      have HB3 := Lib.hid HO.out.bel
      clear HO
      go_wp2_with fail
      refine (id_essence aB B cB _ HSB.out (by omega)).mono ?_
      rintro e x4 ⟨hb4, he⟩
      have HB4 := Lib.hid hb4
      rw [if_pos HBO.out, HBS.out] at he
      obtain ⟨aM, cM, rfl, hoM⟩ := he
      have HSM := Lib.hid (Id.own_sl hoM (Id.ints_ic (Id.ess L))).1
      clear hb4 hoM
      go_wp2_with fail
      refine (id_near L B a c aB cB 0 _ (HX0.out.kept (HB3.out.trans (HB4.out.mono HB3.out.size)) (Nat.le_refl _)) (HSB.out.kept HB4.out (Nat.le_refl _)) hl (by omega)).mono ?_
      rintro _ x5 ⟨rfl, hb5⟩
      have HB5 := Lib.hid hb5
      clear hb5
      rw [HBN.out, HBE.out]
      have HSE2 := Lib.hid (HSE.out.kept (HB3.out.trans ((HB4.out.trans (HB5.out.mono HB4.out.size)).mono HB3.out.size)) (Nat.le_refl _))
      have HSM2 := Lib.hid (HSM.out.kept HB5.out (Nat.le_refl _))
      have HBW := Lib.hid (HB2.out.trans ((HB3.out.trans ((HB4.out.trans (HB5.out.mono HB4.out.size)).mono HB3.out.size)).mono HB2.out.size))
      clear HS HX0 HSB HSE HSM
      generalize Id.ess L = M at *
      go_wp2_with fail
      refine (ja_sameints M M aE cE aM cM _ HSE2.out HSM2.out (by omega) (by omega)).mono ?_
      rintro _ x6 ⟨rfl, hb6⟩
      have HB6 := Lib.hid hb6
      clear hb6
      go_wp2
      go_ret
      exact ⟨by simp, HBW.out.trans (HB6.out.mono HBW.out.size)⟩
end Go.Proofs.Ytdaedjmkolcliaa
