/- Walks: the reference of layer 45: ask, Works. -/
import Derived.Test.YtdaedjmkolcliaaJsR
import Derived.Test.YtdaedjmkolcliaaJsQ
import Derived.Test.YtdaedjmkolcliaaIdX
namespace Go.Proofs.Ytdaedjmkolcliaa
set_option linter.unusedVariables false
set_option linter.unusedSimpArgs false
open Go.RowKit Go.Shelf

namespace Id
def AsR (lim : Int) (L : List (List Sg)) (i j : Int) (W : World) (e : Ending) (w' : World) : Prop := Below W.heap.size W w' ∧ if aE lim L i j = 0 then ∃ a c, e = .returned (.tuple #[.slice a L.length c, .int .i64 0]) ∧ Gr w' a L.length (gr lim L)
  else e = .returned (.tuple #[.slice none 0 0, .int .i64 (aE lim L i j)])
end Id
set_option maxRecDepth 100000 in
set_option maxHeartbeats 4000000 in
theorem rx_ask (lim : Int) (a : Option Addr) (L : List (List Id.Sg)) (c : Nat) (i j : Int) (w : World) (hS : Id.Sls w a 14 Id.sgc L) (hl : L.length ≤ 1000000) (hl2 : ∀ x ∈ L, x.length ≤ 4611686018427387904) :
    Calls Try.prog 44 #[.slice a L.length c, .int .i64 lim, .int .i64 i, .int .i64 j] w (Id.AsR lim L i j w) := by
  have HS := Lib.hid hS
  have HL2 := Lib.hid hl2
  clear hS hl2
  go_enter Try.func44, Try.ntmps44
  go_wp2_with fail
  refine (rx_table lim a L c _ HS.out hl HL2.out).mono ?_
  rintro e w1 ⟨hb, he⟩
  have HB1 := Lib.hid hb
  clear hb
  by_cases h0 : Id.tE lim L = 0
  · rw [if_pos h0] at he
    obtain ⟨aV, cV, rfl, hs⟩ := he
    have HG := Lib.hid hs
    have HA := Lib.hid (show Id.aE lim L i j = if Id.inR L.length i j = true then 0 else 1 by unfold Id.aE; rw [if_pos h0])
    have HIR := Lib.hid (show Id.inR L.length i j = (decide (0 ≤ i) && decide (0 ≤ j) && decide (i < L.length) && decide (j < L.length)) from rfl)
    clear h0 hs
    generalize hgg : Id.gr lim L = g at HG
    have HGG := Lib.hid hgg
    clear hgg
    generalize hnn : L.length = n at HG HA HIR hl ⊢
    have HNN := Lib.hid hnn
    clear hnn
    have no : ¬ (0 ≤ i ∧ i < n ∧ 0 ≤ j ∧ j < n) → Id.aE lim L i j = 1 := fun hr => by
      rw [HA.out, HIR.out, if_neg]
      simp only [Bool.and_eq_true, decide_eq_true_eq, and_assoc]
      omega
    have HNO := Lib.hid no
    clear no
    by_cases hi0 : i < 0
    · have m0 : decide (i < 0) = true := by simpa using hi0
      have HA2 := Lib.hid (HNO.out (by omega))
      go_wp2
      go_ret2
      refine ⟨HB1.out, ?_⟩
      rw [HA2.out, if_neg (by decide)]
      rfl
    have m0 : decide (i < 0) = false := by simpa using hi0
    by_cases hi1 : (n : Int) ≤ i
    · have m1 : decide ((n : Int) ≤ i) = true := by simpa using hi1
      have HA2 := Lib.hid (HNO.out (by omega))
      go_wp2
      go_ret2
      refine ⟨HB1.out, ?_⟩
      rw [HA2.out, if_neg (by decide)]
      rfl
    have m1 : decide ((n : Int) ≤ i) = false := by simpa using hi1
    by_cases hj0 : j < 0
    · have m2 : decide (j < 0) = true := by simpa using hj0
      have HA2 := Lib.hid (HNO.out (by omega))
      go_wp2
      go_ret2
      refine ⟨HB1.out, ?_⟩
      rw [HA2.out, if_neg (by decide)]
      rfl
    have m2 : decide (j < 0) = false := by simpa using hj0
    by_cases hj1 : (n : Int) ≤ j
    · have m3 : decide ((n : Int) ≤ j) = true := by simpa using hj1
      have HA2 := Lib.hid (HNO.out (by omega))
      go_wp2
      go_ret2
      refine ⟨HB1.out, ?_⟩
      rw [HA2.out, if_neg (by decide)]
      rfl
    have m3 : decide ((n : Int) ≤ j) = false := by simpa using hj1
    have HA2 := Lib.hid (show Id.aE lim L i j = 0 by
      rw [HA.out, HIR.out, if_pos]
      simp only [Bool.and_eq_true, decide_eq_true_eq, and_assoc]
      omega)
    clear hi0 hi1 hj0 hj1
    go_wp2
    go_ret2
    refine ⟨HB1.out, ?_⟩
    rw [HA2.out, if_pos rfl, HNN.out, HGG.out]
    exact ⟨aV, cV, rfl, HG.out⟩
  · rw [if_neg h0] at he
    subst he
    have HA := Lib.hid (show Id.aE lim L i j = Id.tE lim L by unfold Id.aE; rw [if_neg h0])
    have HQ := Lib.hid h0
    obtain ⟨q, hq⟩ : ∃ q, Id.tE lim L = q := ⟨_, rfl⟩
    rw [hq] at h0 HA HQ
    have q1 : (q == 0) = false := by simpa using h0
    clear h0
    rw [hq]
    clear hq
    go_wp2
    go_ret2
    refine ⟨HB1.out, ?_⟩
    rw [HA.out, if_neg HQ.out]
    rfl

namespace Id
theorem wrk_find {n : Nat} {g : Nat → Nat → Bool} {i k : Nat} (hi : i < n) (hk : k ≤ wrk n g i) : (dst n g i k < 0 ↔ k < wrk n g i) ∧ wrk n g i < n := by
  have h1 := wrk_ok (g := g) hi
  refine ⟨⟨fun h => ?_, fun h => ?_⟩, by omega⟩
  · rcases Nat.lt_or_ge k (wrk n g i) with h2 | h2
    · exact h2
    · obtain rfl : k = wrk n g i := by omega
      omega
  · have hf : (List.range n).find? (fun k => decide (0 ≤ dst n g i k)) = some (wrk n g i) := by
      unfold wrk
      rcases c : (List.range n).find? (fun k => decide (0 ≤ dst n g i k)) with _ | x
      · have := List.find?_eq_none.1 c i (List.mem_range.2 hi)
        rw [dst_to] at this
        simp at this
      · rfl
    have := (List.find?_range_eq_some.1 hf).2.2 k h
    simpa using this
end Id
set_option maxRecDepth 100000 in
set_option maxHeartbeats 4000000 in
theorem rx_works (lim : Int) (a : Option Addr) (L : List (List Id.Sg)) (c : Nat) (w : World) (hS : Id.Sls w a 14 Id.sgc L) (hl : L.length ≤ 1000000) (hl2 : ∀ x ∈ L, x.length ≤ 4611686018427387904) :
    Calls Try.prog 23 #[.slice a L.length c, .int .i64 lim] w (Id.WkP lim L w) := by
  have HT := Lib.hid (fun W hS => rx_table lim a L c W hS hl hl2)
  have HS := Lib.hid hS
  clear hS hl2
  go_enter Try.func23, Try.ntmps23
  go_wp2_with fail
  refine (HT.out _ HS.out).mono ?_
  rintro e w1 ⟨hb, he⟩
  have HB1 := Lib.hid hb
  clear hb HT
  by_cases h0 : Id.tE lim L = 0
  · rw [if_pos h0] at he
    obtain ⟨aV, cV, rfl, hs⟩ := he
    have HG := Lib.hid hs
    have hn16 : L.length ≤ 16 := by
      unfold Id.tE at h0
      split at h0
      · cases h0
      · omega
    have HE := Lib.hid h0
    clear h0 hs
    generalize hgg : Id.gr lim L = g at HG
    have HGG := Lib.hid hgg
    clear hgg
    generalize hnn : L.length = n at HG hn16 hl ⊢
    have HNN := Lib.hid hnn
    clear hnn
    have HWT := Lib.hid (show ∀ k, k < n → (Id.wrks n g).take (k + 1) = (Id.wrks n g).take k ++ [Id.wrk n g k] from fun k hk => by
      rw [Id.take_snoc _ k (by rw [Id.wrks_len]; exact hk) (Id.wrk n g k) (by simp [Id.wrks, List.getD, hk])])
    go_wp2_with fail
    go_loopw [8, 9] (fun v8 v9 wr => ∃ k : Nat, v9 = .int .i64 k ∧ k ≤ n ∧ Hid (Kit.Gw w1 3 1 v8 k (Id.nats ((Id.wrks n g).take k)) wr))
      (fun _ v9 _ => n - (intOf v9).toNat)
    case atStart => exact ⟨0, rfl, Nat.zero_le _, Kit.Gw.start _ _ _⟩
    case round =>
      obtain ⟨k, rfl, hk, HO⟩ := hrel
      by_cases hlt : k < n
      · have HTT := Lib.hid (HWT.out k hlt)
        go_wp2_with fail
        refine (rx_far n g k aV cV _ (HG.out.kept HO.out.bel (Nat.le_refl _)) hn16 hlt).mono ?_
        rintro _ w2 ⟨⟨G, cp, rfl, hA⟩, hb2⟩
        have HO2 := Lib.hid (HO.out.thn hb2)
        have HAA := Lib.hid hA
        have HFI := Lib.hid (fun x hx => Id.wrk_find (g := g) (i := k) (k := x) hlt hx)
        clear hb2 hA
        generalize Id.wrk n g k = z at HTT HFI
        go_wp2_with fail
        go_loopw [11] (fun v11 wx => wx = w2 ∧ ∃ x : Nat, v11 = .int .i64 x ∧ x ≤ z)
          (fun v11 _ => z - (intOf v11).toNat)
        case atStart => exact ⟨rfl, 0, rfl, Nat.zero_le _⟩
        case round =>
          obtain ⟨rfl, x, rfl, hx⟩ := hrel
          obtain ⟨f1, f2⟩ := HFI.out x hx
          have e0 := HAA.out.cell (k := x) (by omega)
          generalize Id.dst n g k x = y at e0 f1
          by_cases hy : y < 0
          · have q1 : decide (y < 0) = true := by simpa using hy
            have hxz := f1.1 hy
            clear f1
            go_wp2_with fail
            go_roundw
            case rel => exact ⟨trivial, x + 1, by go_num, by omega⟩
            case measure => simp [intOf]; omega
          · have q1 : decide (y < 0) = false := by simpa using hy
            obtain rfl : x = z := by omega
            clear f1
            rename World => w2
            go_wp2_with (at_builtin; refine Kit.wpList_app Id.elI _ rfl _ _ rfl _ _ _ (HO2.out.alloc _) rfl (by omega) ⟨w2.heap.size, 0, none⟩ 1 [.int .i64 (x : Nat)] rfl rfl (fun j u hu => Kit.lit_at _ _ _ rfl j u hu) (by simp [Value.oneCell']) ?_; intro v' w5 ho hg; have HO3 := Lib.hid ho; clear ho hg)
            go_roundw
            case rel => exact ⟨k + 1, by go_num, by omega, by rw [HTT.out]; exact Lib.hid (by simpa [Id.nats] using HO3.out)⟩
            case measure => simp [intOf]; omega
      · obtain rfl : k = n := by omega
        have HL := Lib.hid (Id.wrks_len k g)
        rw [show (Id.wrks k g).take k = Id.wrks k g from List.take_of_length_le (by rw [HL.out]; exact Nat.le_refl _)] at HO
        obtain ⟨aX, cX, rfl⟩ := HO.out.shape
        have ho := HO.out.own
        have hq := Id.nats_nc (Id.wrks k g)
        rw [HL.out] at hq
        have HSB := Lib.hid (Id.own_sl ho hq).1
        clear ho hq
        go_wp2
        go_ret2
        refine ⟨HB1.out.trans (HO.out.bel.mono HB1.out.size), ?_⟩
        rw [HE.out, if_pos rfl, HNN.out, HGG.out]
        exact ⟨aX, cX, rfl, HSB.out⟩
  · rw [if_neg h0] at he
    subst he
    obtain ⟨q, hq⟩ : ∃ q, Id.tE lim L = q := ⟨_, rfl⟩
    rw [hq] at h0
    rw [hq]
    have HQ := Lib.hid hq
    have q1 : (q != 0) = true := by simpa using h0
    have HH := Lib.hid h0
    clear hq h0
    go_wp2
    go_ret2
    refine ⟨HB1.out, ?_⟩
    rw [HQ.out, if_neg HH.out]
    rfl
end Go.Proofs.Ytdaedjmkolcliaa
