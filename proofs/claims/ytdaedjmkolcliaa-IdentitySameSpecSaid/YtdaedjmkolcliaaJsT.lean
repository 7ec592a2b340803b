/- Walks: the reference of layer 45: Apart. -/
import Derived.Test.YtdaedjmkolcliaaJsS
import Derived.Test.YtdaedjmkolcliaaIdW
namespace Go.Proofs.Ytdaedjmkolcliaa
set_option linter.unusedVariables false
set_option linter.unusedSimpArgs false
open Go.RowKit Go.Shelf

set_option maxRecDepth 100000 in
set_option maxHeartbeats 4000000 in
theorem rx_apart (lim : Int) (a : Option Addr) (L : List (List Id.Sg)) (c : Nat) (i j : Int) (w : World) (hS : Id.Sls w a 14 Id.sgc L) (hl : L.length ≤ 1000000) (hl2 : ∀ x ∈ L, x.length ≤ 4611686018427387904) :
    Calls Try.prog 21 #[.slice a L.length c, .int .i64 lim, .int .i64 i, .int .i64 j] w (Id.ApP lim L i j w) := by
  have HA := Lib.hid (fun W hS => rx_ask lim a L c i j W hS hl hl2)
  have HS := Lib.hid hS
  clear hS hl2
  go_enter Try.func21, Try.ntmps21
  go_wp2_with fail
  refine (HA.out _ HS.out).mono ?_
  rintro e w1 ⟨hb, he⟩
  have HB1 := Lib.hid hb
  clear hb HA
  by_cases h0 : Id.aE lim L i j = 0
  · rw [if_pos h0] at he
    obtain ⟨aV, cV, rfl, hg⟩ := he
    have hr : 0 ≤ i ∧ i < L.length ∧ 0 ≤ j ∧ j < L.length ∧ L.length ≤ 16 := by
      unfold Id.aE at h0
      split at h0
      · rename_i ht
        have : L.length ≤ 16 := by
          unfold Id.tE at ht
          split at ht
          · cases ht
          · omega
        split at h0
        · rename_i h; simp only [Id.inR, Bool.and_eq_true, decide_eq_true_eq] at h; omega
        · cases h0
      · rename_i h; exact absurd h0 h
    obtain ⟨q, rfl⟩ : ∃ q : Nat, i = q := ⟨i.toNat, by omega⟩
    obtain ⟨r, rfl⟩ : ∃ r : Nat, j = r := ⟨j.toNat, by omega⟩
    have hqn : q < L.length := by omega
    have hrn : r < L.length := by omega
    have hn16 := hr.2.2.2.2
    have HFAR := Lib.hid (fun W s => rx_far L.length (Id.gr lim L) q aV cV W s hn16 hqn)
    have HAP := Lib.hid (show Id.apB lim L q r = decide (Id.dst L.length (Id.gr lim L) q r < 0) by simp [Id.apB, h0])
    have HE := Lib.hid h0
    have HSD := Lib.hid (show ∀ k, k < L.length → (Id.side L.length (Id.gr lim L) q).take (k + 1) = (Id.side L.length (Id.gr lim L) q).take k ++ [decide (0 ≤ Id.dst L.length (Id.gr lim L) q k)] from fun k hk => by
      rw [Id.take_snoc _ k (by rw [Id.side_len]; exact hk) (decide (0 ≤ Id.dst L.length (Id.gr lim L) q k)) (by simp [Id.side, Id.dsts, List.getD, hk])])
    have HSL := Lib.hid (Id.side_len L.length (Id.gr lim L) q)
    have HGR := Lib.hid hg
    clear hg h0 hr
    generalize hss : Id.side L.length (Id.gr lim L) q = S at HSD HSL
    have HSS := Lib.hid hss
    clear hss
    go_wp2_with fail
    refine (HFAR.out _ HGR.out).mono ?_
    rintro _ w2 ⟨⟨G, cp, rfl, hA⟩, hb2⟩
    have HB2 := Lib.hid (HB1.out.trans (hb2.mono HB1.out.size))
    clear hb2
    have e0 := hA.cell hrn
    have HAT := Lib.hid hA
    clear hA
    generalize hdd : Id.dst L.length (Id.gr lim L) q = D at HAP e0 HSD HAT
    clear hdd
    rcases hd : decide (D r < 0) with _ | _
    · have d1 : decide (0 ≤ D r) = true := by simp at hd ⊢; exact hd
      rw [hd] at HAP
      clear hd
      go_wp2
      go_ret3
      refine ⟨HB2.out, ?_⟩
      rw [HAP.out, if_neg (by simp), HE.out]
      rfl
    · have d1 : decide (0 ≤ D r) = false := by simp at hd ⊢; exact hd
      rw [hd] at HAP
      clear hd
      go_wp2_with fail
      clear e0
      go_loopw [14, 15] (fun v14 v15 wr => ∃ k : Nat, v15 = .int .i64 k ∧ k ≤ L.length ∧ Hid (Kit.Gw w2 4 1 v14 k (Id.bools (S.take k)) wr))
        (fun _ v15 _ => L.length - (intOf v15).toNat)
      case atStart => exact ⟨0, rfl, Nat.zero_le _, Kit.Gw.start _ _ _⟩
      case round =>
        obtain ⟨k, rfl, hk, HO⟩ := hrel
        by_cases hlt : k < L.length
        · have e1 : wr.cell? ⟨G, k, none⟩ = some (.int .i64 (D k)) := (HO.out.bel.cell (World.ownsRow.lt HAT.out G rfl).2).trans (HAT.out.cell hlt)
          have HT := Lib.hid (HSD.out k hlt)
          generalize D k = x at e1 HT
          rcases hx : decide (0 ≤ x) with _ | _
          all_goals
            rw [hx] at HT
            go_wp2_with (at_builtin; refine Kit.wpList_app Id.elBool _ rfl _ _ rfl _ _ _ (HO.out.alloc _) rfl (by omega) ⟨wr.heap.size, 0, none⟩ 1 [.bool _] rfl rfl (fun j u hu => Kit.lit_at _ _ _ rfl j u hu) (by simp [Value.oneCell']) ?_; intro v' w5 ho hg; have HO3 := Lib.hid ho; clear ho hg)
            go_roundw
            case rel => exact ⟨k + 1, by go_num, by omega, by rw [HT.out]; exact Lib.hid (by simpa [Id.bools] using HO3.out)⟩
            case measure => simp [intOf]; omega
        · obtain rfl : k = L.length := by omega
          rw [← HSL.out, List.take_length] at HO
          obtain ⟨aX, cX, rfl⟩ := HO.out.shape
          have HSB := Lib.hid (Id.own_sl HO.out.own (Id.bools_bc S)).1
          rw [HSL.out]
          go_wp2
          go_ret3
          refine ⟨HB2.out.trans (HO.out.bel.mono HB2.out.size), ?_⟩
          rw [HAP.out, if_pos rfl]
          refine ⟨aX, cX, rfl, ?_⟩
          rw [Int.toNat_natCast, HSS.out, ← HSL.out]
          exact HSB.out
  · rw [if_neg h0] at he
    subst he
    have HAP := Lib.hid (show Id.apB lim L i j = false by simp [Id.apB, h0])
    obtain ⟨q, hq⟩ : ∃ q, Id.aE lim L i j = q := ⟨_, rfl⟩
    rw [hq] at h0
    rw [hq]
    have HQ := Lib.hid hq
    have q1 : (q != 0) = true := by simpa using h0
    clear hq h0
    go_wp2
    go_ret3
    refine ⟨HB1.out, ?_⟩
    rw [HAP.out, if_neg (by simp), HQ.out]
    rfl
end Go.Proofs.Ytdaedjmkolcliaa
