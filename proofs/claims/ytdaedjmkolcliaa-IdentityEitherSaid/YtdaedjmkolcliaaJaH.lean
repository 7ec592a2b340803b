/- Walks: the law IdentityEither. -/
import Derived.Test.YtdaedjmkolcliaaJaG
namespace Go.Proofs.Ytdaedjmkolcliaa
set_option linter.unusedVariables false
set_option linter.unusedSimpArgs false
open Go.RowKit Go.Shelf

set_option maxRecDepth 100000 in
set_option maxHeartbeats 8000000 in
theorem ja_either (lim : Int) (a : Option Addr) (L : List (List Id.Sg)) (c : Nat) (i j : Int) (w : World) (hS : Id.Sls w a 14 Id.sgc L) (hl : L.length ≤ 4611686018427387904) (hl2 : ∀ x ∈ L, x.length ≤ 4611686018427387904) :
    Calls Try.prog 5 #[.slice a L.length c, .int .i64 lim, .int .i64 i, .int .i64 j] w fun e w' => e = .returned (.bool true) ∧ Below w.heap.size w w' := by
  have HS := Lib.hid hS
  have HL2 := Lib.hid hl2
  clear hS hl2
  have HSN := Lib.hid (fun W => ja_sane W)
  go_enter Try.func5, Try.ntmps5
  go_wp2_with fail
  refine (HSN.out _).mono ?_
  rintro _ x1 ⟨rfl, hb⟩
  have HB1 := Lib.hid hb
  clear hb
  go_wp2_with fail
  refine (ja_few a L c _ (HS.out.kept HB1.out (Nat.le_refl _)) hl HL2.out).mono ?_
  rintro _ w' ⟨rfl, rfl⟩
  rcases hf : Id.few L with _ | _
  · clear hf
    go_wp2
    go_ret
    exact ⟨rfl, HB1.out⟩
  have hl20 : L.length ≤ 20 := by
    unfold Id.few at hf
    simp only [Bool.and_eq_true, decide_eq_true_eq] at hf
    omega
  clear hf hl
  go_wp2_with fail
  refine (id_same lim a L c i j _ (HS.out.kept HB1.out (Nat.le_refl _)) (by omega) HL2.out).mono ?_
  rintro e x2 ⟨hb2, he2⟩
  have HB2 := Lib.hid (HB1.out.trans (hb2.mono HB1.out.size))
  have HE2 := Lib.hid he2
  clear hb2 he2
  by_cases h0 : Id.aE lim L i j = 0
  · obtain ⟨ht, hi0, hj0, hin, hjn⟩ := Id.aE_0 h0
    obtain ⟨p, rfl⟩ : ∃ p : Nat, i = p := ⟨i.toNat, by omega⟩
    obtain ⟨q, rfl⟩ : ∃ q : Nat, j = q := ⟨j.toNat, by omega⟩
    have hpn : p < L.length := by omega
    have hqn : q < L.length := by omega
    have HNE := Lib.hid (fun (a b : Nat) (ha : a < L.length) (hb : b < L.length) => Id.nearB_gr (Id.tE_0 ht).2 ha hb)
    have HSA := Lib.hid (Id.sm_ap h0)
    have HH := Lib.hid h0
    have i1 : decide ((p : Int) < 0) = false := by simp
    have i2 : decide ((L.length : Int) ≤ (p : Int)) = false := by simp; omega
    have i3 : decide ((q : Int) < 0) = false := by simp
    have i4 : decide ((L.length : Int) ≤ (q : Int)) = false := by simp; omega
    clear ht h0 hi0 hj0 hin hjn
    rcases hs : Id.smB lim L p q with _ | _
    · replace HSA := Lib.hid (show Id.apB lim L p q = true by rw [HSA.out, hs]; rfl)
      have he := HE2.out
      rw [if_neg (by rw [hs]; simp), HH.out] at he
      subst he
      have HSD := Lib.hid (Id.isSd hpn hqn HSA.out)
      clear hs HE2
      go_wp2_with fail
      refine (id_apart lim a L c p q _ (HS.out.kept HB2.out (Nat.le_refl _)) (by omega) HL2.out).mono ?_
      rintro e x3 ⟨hb3, he3⟩
      have HB3 := Lib.hid (HB2.out.trans (hb3.mono HB2.out.size))
      rw [if_pos HSA.out] at he3
      obtain ⟨aD, cD, rfl, hsl⟩ := he3
      have HSL := Lib.hid hsl
      rw [Int.toNat_natCast] at HSL
      clear hb3 hsl
      have HSX := Lib.hid (HS.out.kept HB3.out (Nat.le_refl _))
      generalize hn : L.length = n at HSD HSL HNE hpn hqn hl20 i2 i4 ⊢
      have HNN := Lib.hid hn
      generalize hss : Id.side n (Id.gr lim L) p = S at HSD HSL
      clear hn hss
      generalize Id.gr lim L = g at HSD HNE
      obtain ⟨ads, rfl, hads, _⟩ := HSL.out.at hpn
      have HSC := Lib.hid (show ∀ k, k < n → ∀ W, Below x3.heap.size x3 W → W.cell? (ads.add k) = some (.bool (S.getD k false)) from fun k hk W hb => by
        have h := (HSL.out.kept hb (Nat.le_refl _)).head hk (by omega)
        rw [Nat.mul_one] at h; exact h)
      have c0 := HSC.out p hpn _ (Below.refl _ _)
      have c1 := HSC.out q hqn _ (Below.refl _ _)
      rw [HSD.out.yes] at c0
      rw [HSD.out.no] at c1
      go_wp2_with fail
      clear c0 c1
      go_loopw [187] (fun v187 wr => ∃ k : Nat, v187 = .int .i64 k ∧ k ≤ n ∧ Hid (Below x3.heap.size x3 wr))
        (fun v187 _ => n - (intOf v187).toNat)
      case atStart => exact ⟨0, rfl, Nat.zero_le _, Below.refl _ _⟩
      case round =>
        obtain ⟨k, rfl, hk, HX⟩ := hrel
        by_cases hkn : k < n
        · go_wp2_with fail
          go_loopw [192] (fun v192 wy => ∃ r : Nat, v192 = .int .i64 r ∧ r ≤ n ∧ Hid (Below x3.heap.size x3 wy))
            (fun v192 _ => n - (intOf v192).toNat)
          case atStart => exact ⟨0, rfl, Nat.zero_le _, HX.out⟩
          case round =>
            obtain ⟨r, rfl, hr, HY⟩ := hrel
            rename World => wy
            by_cases hrn : r < n
            · have hz := HY.out.size
              have e0 : ∀ z : Kit.Wd wy, z.val.cell? (ads.add k) = some (.bool (S.getD k false)) := fun z => HSC.out k hkn _ (HY.out.trans (z.below.mono hz))
              have e1 : ∀ z : Kit.Wd wy, z.val.cell? (ads.add r) = some (.bool (S.getD r false)) := fun z => HSC.out r hrn _ (HY.out.trans (z.below.mono hz))
              rcases h1 : S.getD k false with _ | _
              · rw [h1] at e0
                clear h1
                go_wp2_with fail
                (refine Kit.wp_region_cls (by kernel_rfl) (by kernel_rfl) ?_; (repeat (go_big_quiet_step (fail))); refine wpQuiet_nil ?_; intro z)
                have HZ := Lib.hid (HY.out.trans (z.below.mono hz))
                clear e0 e1
                go_wp2_with fail
                go_roundw
                case rel => exact ⟨r + 1, by go_num, by omega, HZ.out⟩
                case measure => simp [intOf]; omega
              rw [h1] at e0
              rcases h2 : S.getD r false with _ | _
              · rw [h2] at e1
                have hg := HSD.out.far k r hkn hrn h1 h2
                obtain ⟨adl, rfl, hadl, ak, ck, e2, sk⟩ := HSX.out.at (i := k) (by rw [HNN.out]; exact hkn)
                obtain ⟨adl', hq, _, ar, cr, e3, sr⟩ := HSX.out.at (i := r) (by rw [HNN.out]; exact hrn)
                obtain rfl : adl = adl' := by simpa using hq
                have hml : ∀ x, x < n → (L.getD x []).length ≤ 4611686018427387904 := fun x hx => HL2.out _ (by rw [List.getD_eq_getElem?_getD, List.getElem?_eq_getElem (by rw [HNN.out]; exact hx)]; exact List.getElem_mem (by rw [HNN.out]; exact hx))
                have HN := Lib.hid (show ∀ W, Below x3.heap.size x3 W → Calls Try.prog 25 #[.slice ak (L.getD k []).length ck, .slice ar (L.getD r []).length cr, .int .i64 lim] W fun e w' => e = .returned (.bool false) ∧ Below W.heap.size W w' from fun W hb => by
                  have h := ja_near (L.getD k []) (L.getD r []) ak ck ar cr lim W (sk.kept hb (Nat.le_refl _)) (sr.kept hb (Nat.le_refl _)) (hml k hkn) (hml r hrn)
                  rw [HNE.out k r hkn hrn, hg] at h
                  exact h)
                have f2 : ∀ z : Kit.Wd wy, z.val.cell? (adl.add k) = some (.slice ak (L.getD k []).length ck) := fun z => ((HY.out.trans (z.below.mono hz)).cell (by rw [Tp.add_block]; exact hadl)).trans e2
                have f3 : ∀ z : Kit.Wd wy, z.val.cell? (adl.add r) = some (.slice ar (L.getD r []).length cr) := fun z => ((HY.out.trans (z.below.mono hz)).cell (by rw [Tp.add_block]; exact hadl)).trans e3
                have HZB := Lib.hid (fun z : Kit.Wd wy => HY.out.trans (z.below.mono hz))
                generalize (L.getD k []).length = nk at HN f2
                generalize (L.getD r []).length = nr at HN f3
                clear h1 h2 hg e2 e3 sk sr hml hq
                go_wp2_with fail
                (refine Kit.wp_region_cls (by kernel_rfl) (by kernel_rfl) ?_; (repeat (go_big_quiet_step (exact Kit.calls_cls _ (HN.out _ (HZB.out _))))); refine wpQuiet_nil ?_; intro z)
                have HZ := Lib.hid (HY.out.trans (z.below.mono hz))
                clear e0 e1 f2 f3
                go_wp2_with fail
                go_roundw
                case rel => exact ⟨r + 1, by go_num, by omega, HZ.out⟩
                case measure => simp [intOf]; omega
              · rw [h2] at e1
                clear h1 h2
                go_wp2_with fail
                (refine Kit.wp_region_cls (by kernel_rfl) (by kernel_rfl) ?_; (repeat (go_big_quiet_step (fail))); refine wpQuiet_nil ?_; intro z)
                have HZ := Lib.hid (HY.out.trans (z.below.mono hz))
                clear e0 e1
                go_wp2_with fail
                go_roundw
                case rel => exact ⟨r + 1, by go_num, by omega, HZ.out⟩
                case measure => simp [intOf]; omega
            · obtain rfl : r = n := by omega
              go_wp2_with fail
              go_roundw
              case rel => exact ⟨k + 1, by go_num, by omega, HY.out⟩
              case measure => simp [intOf]; omega
        · obtain rfl : k = n := by omega
          go_wp2
          go_ret
          exact ⟨rfl, HB3.out.trans (HX.out.mono HB3.out.size)⟩
    · replace HSA := Lib.hid (show Id.apB lim L p q = false by rw [HSA.out, hs]; rfl)
      have he := HE2.out
      rw [if_pos hs] at he
      obtain ⟨aC, cC, rfl, hcl⟩ := he
      have HCL := Lib.hid hcl
      have HIC := Lib.hid (Id.isCh hpn hqn hs)
      clear hs HE2 hcl
      generalize Id.chain lim L p q = C at HCL HIC
      go_wp2_with fail
      refine (id_apart lim a L c p q _ (HS.out.kept HB2.out (Nat.le_refl _)) (by omega) HL2.out).mono ?_
      rintro e x3 ⟨hb3, he3⟩
      have HB3 := Lib.hid (HB2.out.trans (hb3.mono HB2.out.size))
      rw [if_neg (by rw [HSA.out]; simp), HH.out] at he3
      subst he3
      replace HCL := Lib.hid (HCL.out.kept hb3 (Nat.le_refl _))
      clear hb3
      have HSX := Lib.hid (HS.out.kept HB3.out (Nat.le_refl _))
      obtain ⟨M, hM⟩ : ∃ M, C.length = M + 1 := ⟨C.length - 1, by have := HIC.out.len; omega⟩
      have hMn : M + 1 ≤ L.length := by have := HIC.out.len; omega
      have hc0 := HIC.out.fst
      have hc1 := HIC.out.lst
      rw [hM, show M + 1 - 1 = M by omega] at hc1
      have HLT := Lib.hid (show ∀ k, k < M + 1 → C.getD k 0 < L.length from fun k hk => HIC.out.lt k (by omega))
      have HNR := Lib.hid (show ∀ k, k < M → Id.gr lim L (C.getD k 0) (C.getD (k + 1) 0) = true from fun k hk => by
        have := HIC.out.near (k + 1) (by omega) (by omega)
        simpa using this)
      rw [hM] at HCL
      obtain ⟨adc, rfl, hadc, _⟩ := HCL.out.at (i := 0) (by omega)
      have HCC := Lib.hid (show ∀ k, k < M + 1 → ∀ W, Below x3.heap.size x3 W → W.cell? (adc.add k) = some (.int .i64 ((C.getD k 0 : Nat) : Int)) from fun k hk W hb => by
        have h := (HCL.out.kept hb (Nat.le_refl _)).head hk (by omega)
        rw [Nat.mul_one] at h; exact h)
      have c0 := HCC.out 0 (by omega) _ (Below.refl _ _)
      have c1 := HCC.out M (by omega) _ (Below.refl _ _)
      rw [hc0] at c0
      rw [hc1] at c1
      rw [hM]
      clear hM hc0 hc1 HIC
      generalize hn : L.length = n at HNE hpn hqn hl20 i2 i4 hMn HLT ⊢
      have HNN := Lib.hid hn
      clear hn
      generalize Id.gr lim L = g at HNE HNR
      have c0' : x3.cell? adc = some (.int .i64 (p : Int)) := by simpa [Addr.add] using c0
      have k1 : decide ((n : Int) < (M : Int) + 1) = false := by simp; omega
      clear c0
      go_wp2_with fail
      clear c0' c1
      go_loopw [127] (fun v127 wr => ∃ k : Nat, v127 = .int .i64 k ∧ k ≤ M + 1 ∧ Hid (Below x3.heap.size x3 wr))
        (fun v127 _ => M + 1 - (intOf v127).toNat)
      case atStart => exact ⟨0, rfl, Nat.zero_le _, Below.refl _ _⟩
      case round =>
        obtain ⟨k, rfl, hk, HX⟩ := hrel
        rename World => wy
        have hz := HX.out.size
        by_cases hkM : k < M + 1
        · rcases Nat.eq_zero_or_pos k with rfl | hk0
          · rw [show ((0 : Nat) : Int) = 0 from rfl]
            have e0 : wy.cell? adc = some (.int .i64 ((C.getD 0 0 : Nat) : Int)) := by
              have h := HCC.out 0 (by omega) _ HX.out
              simpa [Addr.add] using h
            have hy := HLT.out 0 (by omega)
            generalize C.getD 0 0 = y at e0 hy
            have j1 : decide ((n : Int) ≤ (y : Int)) = false := by simp; omega
            have j0 : decide ((y : Int) < 0) = false := by simp
            have j3 : decide (n ≤ y) = false := by simp; omega
            go_wp2_with fail
            clear e0
            (refine Kit.wp_region_cls (by kernel_rfl) (by kernel_rfl) ?_; (repeat (go_big_quiet_step (fail))); refine wpQuiet_nil ?_; intro z)
            have HZ := Lib.hid (HX.out.trans (z.below.mono hz))
            go_wp2_with fail
            go_roundw
            case rel => exact ⟨1, by go_num, by omega, HZ.out⟩
            case measure => simp [intOf]
          · have e0 : wy.cell? (adc.add k) = some (.int .i64 ((C.getD k 0 : Nat) : Int)) := HCC.out k hkM _ HX.out
            have e1 : ∀ z : Kit.Wd wy, z.val.cell? (adc.add (k - 1)) = some (.int .i64 ((C.getD (k - 1) 0 : Nat) : Int)) := fun z => HCC.out (k - 1) (by omega) _ (HX.out.trans (z.below.mono hz))
            have hy := HLT.out k hkM
            have hx := HLT.out (k - 1) (by omega)
            have hg := HNR.out (k - 1) (by omega)
            rw [show k - 1 + 1 = k by omega] at hg
            have j2 : decide (0 < (k : Int)) = true := by simp; omega
            have j4 : decide (0 < k) = true := by simp; omega
            generalize C.getD k 0 = y at e0 hy hg
            generalize C.getD (k - 1) 0 = x at e1 hx hg
            have j1 : decide ((n : Int) ≤ (y : Int)) = false := by simp; omega
            have j0 : decide ((y : Int) < 0) = false := by simp
            have j3 : decide (n ≤ y) = false := by simp; omega
            obtain ⟨adl, rfl, hadl, ax, cx, e2, sx⟩ := HSX.out.at (i := x) (by rw [HNN.out]; exact hx)
            obtain ⟨adl', hq, _, ay, cy, e3, sy⟩ := HSX.out.at (i := y) (by rw [HNN.out]; exact hy)
            obtain rfl : adl = adl' := by simpa using hq
            have hml : ∀ x, x < n → (L.getD x []).length ≤ 4611686018427387904 := fun x hx => HL2.out _ (by rw [List.getD_eq_getElem?_getD, List.getElem?_eq_getElem (by rw [HNN.out]; exact hx)]; exact List.getElem_mem (by rw [HNN.out]; exact hx))
            have HN := Lib.hid (show ∀ W, Below x3.heap.size x3 W → Calls Try.prog 25 #[.slice ax (L.getD x []).length cx, .slice ay (L.getD y []).length cy, .int .i64 lim] W fun e w' => e = .returned (.bool true) ∧ Below W.heap.size W w' from fun W hb => by
              have h := ja_near (L.getD x []) (L.getD y []) ax cx ay cy lim W (sx.kept hb (Nat.le_refl _)) (sy.kept hb (Nat.le_refl _)) (hml x hx) (hml y hy)
              rw [HNE.out x y hx hy, hg] at h
              exact h)
            have f2 : ∀ z : Kit.Wd wy, z.val.cell? (adl.add x) = some (.slice ax (L.getD x []).length cx) := fun z => ((HX.out.trans (z.below.mono hz)).cell (by rw [Tp.add_block]; exact hadl)).trans e2
            have f3 : ∀ z : Kit.Wd wy, z.val.cell? (adl.add y) = some (.slice ay (L.getD y []).length cy) := fun z => ((HX.out.trans (z.below.mono hz)).cell (by rw [Tp.add_block]; exact hadl)).trans e3
            have HZB := Lib.hid (fun z : Kit.Wd wy => HX.out.trans (z.below.mono hz))
            generalize (L.getD x []).length = nx at HN f2
            generalize (L.getD y []).length = ny at HN f3
            clear hg e2 e3 sx sy hml hq
            go_wp2_with fail
            clear e0
            (refine Kit.wp_region_cls (by kernel_rfl) (by kernel_rfl) ?_; (repeat (go_big_quiet_step (exact Kit.calls_cls _ (HN.out _ (HZB.out _))))); refine wpQuiet_nil ?_; intro z)
            have HZ := Lib.hid (HX.out.trans (z.below.mono hz))
            clear e1 f2 f3
            go_wp2_with fail
            go_roundw
            case rel => exact ⟨k + 1, by go_num, by omega, HZ.out⟩
            case measure => simp [intOf]; omega
        · obtain rfl : k = M + 1 := by omega
          go_wp2
          go_ret
          exact ⟨rfl, HB3.out.trans (HX.out.mono HB3.out.size)⟩
  · have HH := Lib.hid h0
    have s1 : Id.smB lim L i j = false := by simp [Id.smB, h0]
    have s2 : Id.apB lim L i j = false := by simp [Id.apB, h0]
    have he := HE2.out
    rw [if_neg (by rw [s1]; simp)] at he
    subst he
    have HS2 := Lib.hid s2
    clear s1 s2 HE2
    go_wp2_with fail
    refine (id_apart lim a L c i j _ (HS.out.kept HB2.out (Nat.le_refl _)) (by omega) HL2.out).mono ?_
    rintro e x3 ⟨hb3, he3⟩
    have HB3 := Lib.hid (HB2.out.trans (hb3.mono HB2.out.size))
    rw [if_neg (by rw [HS2.out]; simp)] at he3
    subst he3
    clear hb3
    generalize Id.aE lim L i j = z at h0 ⊢
    have q1 : (z != 0) = true := by simpa using h0
    clear h0 HH
    go_wp2
    go_ret
    exact ⟨by simp, HB3.out⟩
end Go.Proofs.Ytdaedjmkolcliaa
