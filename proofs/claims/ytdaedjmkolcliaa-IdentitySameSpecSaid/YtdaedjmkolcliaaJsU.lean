/- Walks: the reference of layer 45: Same. -/
import Derived.Test.YtdaedjmkolcliaaJsS
import Derived.Test.YtdaedjmkolcliaaIdY
namespace Go.Proofs.Ytdaedjmkolcliaa
set_option linter.unusedVariables false
set_option linter.unusedSimpArgs false
open Go.RowKit Go.Shelf

namespace Id
theorem nxt_find {n : Nat} {g : Nat → Nat → Bool} (hs : ∀ i j, g i j = g j i) {j a d k : Nat} (h : dst n g j a = (d : Int) + 1) (hk : k ≤ nxt n g j a d) : ((g a k = false ∨ dst n g j k ≠ (d : Int)) ↔ k < nxt n g j a d) ∧ nxt n g j a d < n := by
  obtain ⟨h1, h2, h3⟩ := nxt_ok hs h
  refine ⟨⟨fun h => ?_, fun h => ?_⟩, h1⟩
  · rcases Nat.lt_or_ge k (nxt n g j a d) with h4 | h4
    · exact h4
    · obtain rfl : k = nxt n g j a d := by omega
      rcases h with h | h
      · rw [h2] at h; cases h
      · exact absurd h3 h
  · have hf : (List.range n).find? (fun k => g a k && decide (dst n g j k = (d : Int))) = some (nxt n g j a d) := by
      unfold nxt at h1 ⊢
      rcases c : (List.range n).find? (fun k => g a k && decide (dst n g j k = (d : Int))) with _ | x
      · rw [c] at h1; simp at h1
      · rfl
    have := (List.find?_range_eq_some.1 hf).2.2 k h
    rcases hg : g a k with _ | _
    · exact .inl rfl
    · rw [hg] at this
      refine .inr ?_
      simpa using this
theorem dst_zero {n : Nat} {g : Nat → Nat → Bool} {j a : Nat} (h : dst n g j a = 0) : a = j := by
  have e := dst_at (d := 0) h
  simp only [aw] at e
  split at e
  · assumption
  · omega
end Id
set_option maxRecDepth 100000 in
set_option maxHeartbeats 8000000 in
theorem rx_same (lim : Int) (a : Option Addr) (L : List (List Id.Sg)) (c : Nat) (i j : Int) (w : World) (hS : Id.Sls w a 14 Id.sgc L) (hl : L.length ≤ 1000000) (hl2 : ∀ x ∈ L, x.length ≤ 4611686018427387904) :
    Calls Try.prog 19 #[.slice a L.length c, .int .i64 lim, .int .i64 i, .int .i64 j] w (Id.SmP lim L i j w) := by
  have HA := Lib.hid (fun W hS => rx_ask lim a L c i j W hS hl hl2)
  have HS := Lib.hid hS
  clear hS hl2
  go_enter Try.func19, Try.ntmps19
  go_wp2_with fail
  refine (HA.out _ HS.out).mono ?_
  rintro e w1 ⟨hb, he⟩
  have HB1 := Lib.hid hb
  clear hb HA
  by_cases h0 : Id.aE lim L i j = 0
  · rw [if_pos h0] at he
    obtain ⟨aV, cV, rfl, hg⟩ := he
    have hr : 0 ≤ i ∧ i < L.length ∧ 0 ≤ j ∧ j < L.length ∧ L.length ≤ 16 := by
      unfold Id.aE at h0
      split at h0
      · rename_i ht
        have : L.length ≤ 16 := by
          unfold Id.tE at ht
          split at ht
          · cases ht
          · omega
        split at h0
        · rename_i h; simp only [Id.inR, Bool.and_eq_true, decide_eq_true_eq] at h; omega
        · cases h0
      · rename_i h; exact absurd h0 h
    obtain ⟨q, rfl⟩ : ∃ q : Nat, i = q := ⟨i.toNat, by omega⟩
    obtain ⟨r, rfl⟩ : ∃ r : Nat, j = r := ⟨j.toNat, by omega⟩
    obtain ⟨_, hqn, _, hrn, hn16⟩ := hr
    have HSM := Lib.hid (show Id.smB lim L q r = decide (0 ≤ Id.dst L.length (Id.gr lim L) r q) by simp [Id.smB, h0])
    have HCH := Lib.hid (show Id.chain lim L q r = Id.chn L.length (Id.gr lim L) r (Id.dst L.length (Id.gr lim L) r q).toNat q by simp [Id.chain])
    have HE := Lib.hid h0
    have HCM := Lib.hid (fun i k => Id.gr_comm lim L i k)
    have HG := Lib.hid hg
    clear h0 hg
    generalize hgg : Id.gr lim L = g at HG HSM HCH HCM
    have HGG := Lib.hid hgg
    clear hgg
    generalize hnn : L.length = n at HG hn16 hl HSM HCH hqn hrn ⊢
    have HNN := Lib.hid hnn
    clear hnn
    have hqn' : q < n := by omega
    have hrn' : r < n := by omega
    go_wp2_with fail
    refine (rx_far n g r aV cV _ HG.out hn16 hrn').mono ?_
    rintro _ w2 ⟨⟨G, cp, rfl, hA⟩, hb2⟩
    have HB2 := Lib.hid (HB1.out.trans (hb2.mono HB1.out.size))
    have HG2 := Lib.hid (HG.out.kept hb2 (Nat.le_refl _))
    have e0 := hA.cell hqn'
    have hGs := (World.ownsRow.lt hA G rfl).2
    have HAT := Lib.hid hA
    clear hA hb2
    rcases hd : decide (Id.dst n g r q < 0) with _ | _
    case true =>
      have h1 : decide (0 ≤ Id.dst n g r q) = false := by simp at hd ⊢; exact hd
      rw [h1] at HSM
      clear h1
      go_wp2
      go_ret3
      refine ⟨HB2.out, ?_⟩
      rw [HSM.out, if_neg (by simp), HE.out]
      rfl
    case false =>
      have h1 : decide (0 ≤ Id.dst n g r q) = true := by simp at hd ⊢; exact hd
      rw [h1] at HSM
      have h2 := of_decide_eq_true h1
      have h3 := Id.dst_lt (g := g) hrn' hqn'
      obtain ⟨D, hD⟩ : ∃ D : Nat, Id.dst n g r q = D := ⟨(Id.dst n g r q).toNat, by omega⟩
      have HC0 := Lib.hid (show Id.Ch n g r q D D q [] from ⟨by simp, hD, hqn', by simp⟩)
      rw [hD] at e0 HCH h3
      have HDD := Lib.hid hD
      clear h1 h2 hd hD
      have d1 : decide ((D : Int) < 0) = false := by simp
      have hbD : D < n := by omega
      simp only [Int.toNat_natCast] at HCH
      have HFI := Lib.hid (fun (a d k : Nat) (h : Id.dst n g r a = (d : Int) + 1) hk => Id.nxt_find HCM.out (k := k) h hk)
      have HOC := Lib.hid (fun W (hb : Below w2.heap.size w2 W) k (hk : k < n) => (hb.cell (p := ⟨G, k, none⟩) hGs).trans (HAT.out.cell hk))
      go_wp2_with fail
      clear e0
      refine Kit.wp_name ?_
      intro W0 hW0
      have HO0 := Lib.hid (show Kit.Gw w2 3 1 (.slice (some ⟨w2.heap.size, 0, none⟩) 1 1) 1 (Id.nats [q]) W0 by
        rw [hW0]
        exact (show Kit.Gw w2 3 1 (.slice (some ⟨w2.heap.size, 0, none⟩) 1 1) 1 (Id.nats [q]) (w2.alloc (.cells #[.int .i64 (q : Int)] 3)) from ⟨World.ownsRow_lit w2 #[.int .i64 (q : Int)] 1 (Nat.le_refl _) (by unfold maxLen; omega) rfl, (Below.refl _ _).alloc (Nat.le_refl _) _⟩))
      clear hW0
      go_loopg [14, 15] D (fun m v14 v15 wr => ∃ (at_ : Nat) (C : List Nat), v15 = .int .i64 at_ ∧ Hid (Id.Ch n g r q D m at_ C) ∧ Hid (Kit.Gw w2 3 1 v14 (C.length + 1) (Id.nats (C ++ [at_])) wr))
      case atStart => exact ⟨q, [], rfl, HC0.out, HO0.out⟩
      case round =>
        obtain ⟨at_, C, rfl, HCC, HO⟩ := hrel
        have hat : at_ < n := HCC.out.lt
        rcases gk with _ | d
        · obtain rfl : at_ = r := Id.dst_zero HCC.out.dst
          have HAL := Lib.hid (show Id.chn n g at_ D q = C ++ [at_] by rw [HCC.out.all]; rfl)
          have hq := Id.nats_nc (C ++ [at_])
          rw [show (C ++ [at_]).length = C.length + 1 by simp] at hq
          obtain ⟨aX, cX, rfl⟩ := HO.out.shape
          have HSB := Lib.hid (Id.own_sl HO.out.own hq).1
          clear hq
          go_wp2
          go_ret3
          refine ⟨HB2.out.trans (HO.out.bel.mono HB2.out.size), ?_⟩
          rw [HSM.out, if_pos rfl, HCH.out, HAL.out, List.length_append]
          exact ⟨_, cX, rfl, HSB.out⟩
        · have hds : Id.dst n g r at_ = (d : Int) + 1 := by have := HCC.out.dst; simpa using this
          have hne : ((at_ : Int) != (r : Int)) = true := by
            have : at_ ≠ r := fun h => by subst h; rw [Id.dst_to] at hds; omega
            simp; omega
          have hcl : C.length + (d + 1) = D := HCC.out.len
          have HST := Lib.hid (HCC.out.step HCM.out)
          have HF := Lib.hid (fun k hk => HFI.out at_ d k hds hk)
          have c1 := HOC.out wr HO.out.bel at_ hat
          rw [hds] at c1
          generalize Id.nxt n g r at_ d = z at HST HF
          obtain ⟨adg, rfl, hadg, ai, ci, e2, hsl⟩ := (HG2.out.kept HO.out.bel (Nat.le_refl _)).at (i := at_) (by rw [Id.tabB_len]; exact hat)
          rw [Id.tabB_get _ _ _ _ hat, Id.rowB_len] at e2 hsl
          have HSR := Lib.hid hsl
          clear hsl hds
          have w1' : IntKind.i64.wrap ((d : Int) + 1 - 1) = d := by rw [IntKind.wrap_i64] <;> omega
          have hwr := HO.out.size
          go_wp2_with fail
          go_loopw [16] (fun v16 wx => ∃ x : Nat, v16 = .int .i64 x ∧ x ≤ z ∧ Hid (Below wr.heap.size wr wx))
            (fun v16 _ => z - (intOf v16).toNat)
          case atStart => exact ⟨0, rfl, Nat.zero_le _, Below.refl _ _⟩
          case round =>
            obtain ⟨x, rfl, hx, HBX⟩ := hrel
            rename World => wx
            obtain ⟨f1, f2⟩ := HF.out x hx
            have hxn : x < n := by omega
            have e0 := HOC.out wr HO.out.bel x hxn
            obtain ⟨adr, rfl, hadr, _⟩ := HSR.out.at hxn
            have e3 : wr.cell? (adr.add x) = some (.bool (g at_ x)) := by
              have h := HSR.out.head hxn (by omega)
              rw [Nat.mul_one] at h
              rw [h]
              show some (Value.bool ((Id.rowB n g at_).getD x false)) = _
              rw [Id.rowB_get _ _ _ _ hxn]
            generalize Id.dst n g r x = y at e0 f1
            have k0 : ∀ z : Kit.Wd wx, z.val.cell? ⟨G, x, none⟩ = some (.int .i64 y) := fun z => ((HBX.out.trans (z.below.mono HBX.out.size)).cell (show G < wr.heap.size by omega)).trans e0
            have k1 : ∀ z : Kit.Wd wx, z.val.cell? ⟨G, at_, none⟩ = some (.int .i64 ((d : Int) + 1)) := fun z => ((HBX.out.trans (z.below.mono HBX.out.size)).cell (show G < wr.heap.size by omega)).trans c1
            have k2 : ∀ z : Kit.Wd wx, z.val.cell? (adg.add at_) = some (.slice (some adr) n ci) := fun z => ((HBX.out.trans (z.below.mono HBX.out.size)).cell (by rw [Tp.add_block]; exact hadg)).trans e2
            have k3 : ∀ z : Kit.Wd wx, z.val.cell? (adr.add x) = some (.bool (g at_ x)) := fun z => ((HBX.out.trans (z.below.mono HBX.out.size)).cell (by rw [Tp.add_block]; exact hadr)).trans e3
            clear e0 e3
            rcases hgx : g at_ x with _ | _
            · rw [hgx] at k3
              have hxz := f1.1 (.inl hgx)
              clear f1 hgx
              ((go_wp2_with (refine Kit.veil ?_; intro X HX)); rw [HX.out]; clear HX)
              (refine Kit.wp_region_cls (by kernel_rfl) (by kernel_rfl) ?_; (repeat (go_big_quiet_step (fail))); refine wpQuiet_nil ?_; intro u)
              have HBY := Lib.hid (HBX.out.trans (u.below.mono HBX.out.size))
              generalize u.val = U at *
              clear k0 k1 k2 k3 u
              go_wp2_with fail
              go_roundw
              case rel => exact ⟨x + 1, by go_num, by omega, HBY.out⟩
              case measure => simp [intOf]; omega
            rw [hgx] at k3
            by_cases hy : y = (d : Int)
            · subst hy
              have q1 : ((d : Int) != (d : Int)) = false := by simp
              obtain rfl : x = z := by
                rcases Nat.lt_or_ge x z with h | h
                · rcases f1.2 h with h | h
                  · rw [hgx] at h; cases h
                  · exact absurd rfl h
                · omega
              clear f1 hgx
              ((go_wp2_with (refine Kit.veil ?_; intro X HX)); rw [HX.out]; clear HX)
              (refine Kit.wp_region_cls (by kernel_rfl) (by kernel_rfl) ?_; (repeat (go_big_quiet_step (fail))); refine wpQuiet_nil ?_; intro u)
              have HO2 := Lib.hid (HO.out.thn (HBX.out.trans (u.below.mono HBX.out.size)))
              generalize u.val = U at *
              clear k0 k1 k2 k3 u
              go_wp2_with (at_builtin; refine Kit.wpList_app Id.elI _ rfl _ _ rfl _ _ _ (HO2.out.alloc _) rfl (by omega) ⟨U.heap.size, 0, none⟩ 1 [.int .i64 (x : Nat)] rfl rfl (fun j u hu => Kit.lit_at _ _ _ rfl j u hu) (by simp [Value.oneCell']) ?_; intro v' w5 ho hg; have HO3 := Lib.hid ho; clear ho hg)
              go_roundg d
              case measure => omega
              case rel => exact ⟨x, C ++ [at_], rfl, HST.out, by rw [show (C ++ [at_]).length + 1 = C.length + 1 + 1 by simp]; exact Lib.hid (by simpa [Id.nats] using HO3.out)⟩
            · have q1 : (y != (d : Int)) = true := by simpa using hy
              have hxz := f1.1 (.inr hy)
              clear f1 hgx hy
              ((go_wp2_with (refine Kit.veil ?_; intro X HX)); rw [HX.out]; clear HX)
              (refine Kit.wp_region_cls (by kernel_rfl) (by kernel_rfl) ?_; (repeat (go_big_quiet_step (fail))); refine wpQuiet_nil ?_; intro u)
              have HBY := Lib.hid (HBX.out.trans (u.below.mono HBX.out.size))
              generalize u.val = U at *
              clear k0 k1 k2 k3 u
              go_wp2_with fail
              go_roundw
              case rel => exact ⟨x + 1, by go_num, by omega, HBY.out⟩
              case measure => simp [intOf]; omega
  · rw [if_neg h0] at he
    subst he
    have HAP := Lib.hid (show Id.smB lim L i j = false by simp [Id.smB, h0])
    obtain ⟨q, hq⟩ : ∃ q, Id.aE lim L i j = q := ⟨_, rfl⟩
    rw [hq] at h0
    rw [hq]
    have HQ := Lib.hid hq
    have q1 : (q != 0) = true := by simpa using h0
    clear hq h0
    go_wp2
    go_ret3
    refine ⟨HB1.out, ?_⟩
    rw [HAP.out, if_neg (by simp), HQ.out]
    rfl
end Go.Proofs.Ytdaedjmkolcliaa
