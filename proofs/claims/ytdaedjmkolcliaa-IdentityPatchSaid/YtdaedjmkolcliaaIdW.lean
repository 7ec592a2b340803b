/- Walks: package identity: ask, Apart, Works. -/
import Derived.Test.YtdaedjmkolcliaaIdV
import Derived.Test.YtdaedjmkolcliaaIdS
namespace Go.Proofs.Ytdaedjmkolcliaa
set_option linter.unusedVariables false
set_option linter.unusedSimpArgs false
open Go.RowKit Go.Shelf

namespace Id
/-- Are both indices of editions? -/
def inR (n : Nat) (i j : Int) : Bool := decide (0 ≤ i) && decide (0 ≤ j) && decide (i < n) && decide (j < n)
def aE (lim : Int) (L : List (List Sg)) (i j : Int) : Int := if tE lim L = 0 then (if inR L.length i j = true then 0 else 1) else tE lim L
def AskP (lim : Int) (L : List (List Sg)) (i j : Int) (f : Int) (W : World) (e : Ending) (w' : World) : Prop := Below W.heap.size W w' ∧ if aE lim L i j = 0 then ∃ a c G, e = .returned (.tuple #[.slice a L.length c, .slice (some ⟨G, 0, none⟩) L.length L.length, .int .i64 0]) ∧ Gr w' a L.length (gr lim L) ∧ AtA w' G L.length (dst L.length (gr lim L) f.toNat) ∧ W.heap.size ≤ G
  else e = .returned (.tuple #[.slice none 0 0, .slice none 0 0, .int .i64 (aE lim L i j)])
end Id
set_option maxRecDepth 100000 in
set_option maxHeartbeats 4000000 in
theorem id_ask (lim : Int) (a : Option Addr) (L : List (List Id.Sg)) (c : Nat) (i j f : Int) (hf : f = i ∨ f = j) (w : World) (hS : Id.Sls w a 14 Id.sgc L) (hl : L.length ≤ 1000000) (hl2 : ∀ x ∈ L, x.length ≤ 4611686018427387904) :
    Calls Try.prog 40 #[.slice a L.length c, .int .i64 lim, .int .i64 i, .int .i64 j, .int .i64 f] w (Id.AskP lim L i j f w) := by
  have HS := Lib.hid hS
  have HL2 := Lib.hid hl2
  have HF := Lib.hid hf
  clear hS hl2 hf
  go_enter Try.func40, Try.ntmps40
  go_wp2_with fail
  refine (id_table lim a L c _ HS.out hl HL2.out).mono ?_
  rintro e w1 ⟨hb, he⟩
  have HB1 := Lib.hid hb
  clear hb
  by_cases h0 : Id.tE lim L = 0
  · rw [if_pos h0] at he
    obtain ⟨aV, cV, rfl, hs⟩ := he
    have HG := Lib.hid hs
    have hn16 : L.length ≤ 16 := by
      unfold Id.tE at h0
      split at h0
      · cases h0
      · omega
    have HA := Lib.hid (show Id.aE lim L i j = if Id.inR L.length i j = true then 0 else 1 by unfold Id.aE; rw [if_pos h0])
    have HIR := Lib.hid (show Id.inR L.length i j = (decide (0 ≤ i) && decide (0 ≤ j) && decide (i < L.length) && decide (j < L.length)) from rfl)
    clear h0 hs
    generalize hgg : Id.gr lim L = g at HG
    have HGG := Lib.hid hgg
    clear hgg
    generalize hnn : L.length = n at HG hn16 HA HIR hl ⊢
    have HNN := Lib.hid hnn
    clear hnn
    by_cases hr : 0 ≤ i ∧ 0 ≤ j ∧ i < n ∧ j < n
    · have m0 : decide (min i j < 0) = false := by simp; omega
      have m1 : decide ((n : Int) ≤ max i j) = false := by simp; omega
      have HA2 := Lib.hid (show Id.aE lim L i j = 0 by rw [HA.out, HIR.out]; simp [hr])
      obtain ⟨k, rfl⟩ : ∃ k : Nat, f = k := ⟨f.toNat, by rcases HF.out with h | h <;> omega⟩
      have hkn : k < n := by rcases HF.out with h | h <;> omega
      clear hr
      go_wp2_with fail
      refine (id_steps n g k aV cV _ HG.out hn16 hkn).mono ?_
      rintro _ w2 ⟨⟨G, rfl, hzG, hA⟩, hb2⟩
      have HB2 := Lib.hid hb2
      have HAA := Lib.hid hA
      clear hb2 hA
      go_wp2
      go_ret3
      refine ⟨HB1.out.trans (HB2.out.mono HB1.out.size), ?_⟩
      rw [HA2.out, if_pos rfl, HNN.out, HGG.out]
      exact ⟨aV, cV, G, rfl, HG.out.kept HB2.out (Nat.le_refl _), HAA.out, Nat.le_trans HB1.out.size hzG⟩
    · have HA2 := Lib.hid (show Id.aE lim L i j = 1 by
        rw [HA.out, HIR.out, if_neg]
        simp only [Bool.and_eq_true, decide_eq_true_eq, and_assoc]
        exact hr)
      by_cases hm : min i j < 0
      · have m0 : decide (min i j < 0) = true := by simpa using hm
        clear hr hm
        go_wp2
        go_ret3
        refine ⟨HB1.out, ?_⟩
        rw [HA2.out, if_neg (by decide)]
        rfl
      · have m0 : decide (min i j < 0) = false := by simpa using hm
        have m1 : decide ((n : Int) ≤ max i j) = true := by simp; omega
        clear hr hm
        go_wp2
        go_ret3
        refine ⟨HB1.out, ?_⟩
        rw [HA2.out, if_neg (by decide)]
        rfl
  · rw [if_neg h0] at he
    subst he
    have HA := Lib.hid (show Id.aE lim L i j = Id.tE lim L by unfold Id.aE; rw [if_neg h0])
    have q1 : (Id.tE lim L != 0) = true := by simpa using h0
    have HQ := Lib.hid h0
    clear h0
    obtain ⟨q, hq⟩ : ∃ q, Id.tE lim L = q := ⟨_, rfl⟩
    rw [hq] at q1 HA HQ
    rw [hq]
    clear hq
    go_wp2
    go_ret3
    refine ⟨HB1.out, ?_⟩
    rw [HA.out, if_neg HQ.out]
    rfl
namespace Id
/-- What Apart says. -/
def apB (lim : Int) (L : List (List Sg)) (i j : Int) : Bool := decide (aE lim L i j = 0) && decide (dst L.length (gr lim L) i.toNat j.toNat < 0)
def side (n : Nat) (g : Nat → Nat → Bool) (i : Nat) : List Bool := (dsts n g i).map fun d => decide (0 ≤ d)
theorem side_len (n : Nat) (g : Nat → Nat → Bool) (i : Nat) : (side n g i).length = n := by simp [side, dsts]
def ApP (lim : Int) (L : List (List Sg)) (i j : Int) (W : World) (e : Ending) (w' : World) : Prop := Below W.heap.size W w' ∧ if apB lim L i j = true then ∃ a c, e = .returned (.tuple #[.slice a L.length c, .bool true, .int .i64 0]) ∧ Tp.Sl w' a L.length 1 (bc (side L.length (gr lim L) i.toNat))
  else e = .returned (.tuple #[.slice none 0 0, .bool false, .int .i64 (aE lim L i j)])
theorem elBool : Kit.El Try.prog 37 4 (.bool false) 1 1 := ⟨Try.underlying37, by kernel_rfl, rfl, by omega, by omega⟩
end Id
set_option maxRecDepth 100000 in
set_option maxHeartbeats 4000000 in
theorem id_apart (lim : Int) (a : Option Addr) (L : List (List Id.Sg)) (c : Nat) (i j : Int) (w : World) (hS : Id.Sls w a 14 Id.sgc L) (hl : L.length ≤ 1000000) (hl2 : ∀ x ∈ L, x.length ≤ 4611686018427387904) :
    Calls Try.prog 20 #[.slice a L.length c, .int .i64 lim, .int .i64 i, .int .i64 j] w (Id.ApP lim L i j w) := by
  have HA := Lib.hid (fun W hS => id_ask lim a L c i j i (.inl rfl) W hS hl hl2)
  have HS := Lib.hid hS
  clear hS hl2
  go_enter Try.func20, Try.ntmps20
  go_wp2_with fail
  refine (HA.out _ HS.out).mono ?_
  rintro e w1 ⟨hb, he⟩
  have HB1 := Lib.hid hb
  clear hb HA
  by_cases h0 : Id.aE lim L i j = 0
  · rw [if_pos h0] at he
    obtain ⟨aV, cV, G, rfl, hg, hA, hz⟩ := he
    have HAA := Lib.hid hA
    have hr : 0 ≤ i ∧ i < L.length ∧ 0 ≤ j ∧ j < L.length := by
      unfold Id.aE at h0
      split at h0
      · split at h0
        · rename_i h; simp only [Id.inR, Bool.and_eq_true, decide_eq_true_eq] at h; omega
        · cases h0
      · rename_i h; exact absurd h0 h
    obtain ⟨q, rfl⟩ : ∃ q : Nat, i = q := ⟨i.toNat, by omega⟩
    obtain ⟨r, rfl⟩ : ∃ r : Nat, j = r := ⟨j.toNat, by omega⟩
    simp only [Int.toNat_natCast] at hA
    have hqn : q < L.length := by omega
    have hrn : r < L.length := by omega
    have HAP := Lib.hid (show Id.apB lim L q r = decide (Id.dst L.length (Id.gr lim L) q r < 0) by simp [Id.apB, h0])
    have HE := Lib.hid h0
    have e0 := hA.cell hrn
    have HSD := Lib.hid (show ∀ k, k < L.length → (Id.side L.length (Id.gr lim L) q).take (k + 1) = (Id.side L.length (Id.gr lim L) q).take k ++ [decide (0 ≤ Id.dst L.length (Id.gr lim L) q k)] from fun k hk => by
      rw [Id.take_snoc _ k (by rw [Id.side_len]; exact hk) (decide (0 ≤ Id.dst L.length (Id.gr lim L) q k)) (by simp [Id.side, Id.dsts, List.getD, hk])])
    have HSL := Lib.hid (Id.side_len L.length (Id.gr lim L) q)
    have HAT := Lib.hid hA
    clear hg hA HAA h0 hr
    generalize hss : Id.side L.length (Id.gr lim L) q = S at HSD HSL
    have HSS := Lib.hid hss
    clear hss
    generalize hdd : Id.dst L.length (Id.gr lim L) q = D at HAP e0 HSD HAT
    clear hdd
    rcases hd : decide (D r < 0) with _ | _
    · have d1 : decide (0 ≤ D r) = true := by simp at hd ⊢; exact hd
      rw [hd] at HAP
      clear hd
      go_wp2
      go_ret3
      refine ⟨HB1.out, ?_⟩
      rw [HAP.out, if_neg (by simp), HE.out]
      rfl
    · have d1 : decide (0 ≤ D r) = false := by simp at hd ⊢; exact hd
      rw [hd] at HAP
      clear hd
      go_wp2_with fail
      go_loopw [8, 37] (fun v8 v37 wr => ∃ k : Nat, v37 = .int .i64 k ∧ k ≤ L.length ∧ Hid (Kit.Gw w1 4 1 v8 k (Id.bools (S.take k)) wr))
        (fun _ v37 _ => L.length - (intOf v37).toNat)
      case atStart => exact ⟨0, rfl, Nat.zero_le _, Kit.Gw.start _ _ _⟩
      case round =>
        obtain ⟨k, rfl, hk, HO⟩ := hrel
        by_cases hlt : k < L.length
        · have e1 : wr.cell? ⟨G, k, none⟩ = some (.int .i64 (D k)) := (HO.out.bel.cell (by exact HAT.out.lt)).trans (HAT.out.cell hlt)
          have HT := Lib.hid (HSD.out k hlt)
          generalize D k = x at e1 HT
          rcases hx : decide (0 ≤ x) with _ | _
          all_goals
            rw [hx] at HT
            go_wp2_with (at_builtin; refine Kit.wpList_app Id.elBool _ rfl _ _ rfl _ _ _ (HO.out.alloc _) rfl (by omega) ⟨wr.heap.size, 0, none⟩ 1 [.bool _] rfl rfl (fun j u hu => Kit.lit_at _ _ _ rfl j u hu) (by simp [Value.oneCell']) ?_; intro v' w5 ho hg; have HO3 := Lib.hid ho; clear ho hg)
            go_roundw
            case rel => exact ⟨k + 1, by go_num, by omega, by rw [HT.out]; exact Lib.hid (by simpa [Id.bools] using HO3.out)⟩
            case measure => simp [intOf]; omega
        · obtain rfl : k = L.length := by omega
          rw [← HSL.out, List.take_length] at HO
          obtain ⟨aX, cX, rfl⟩ := HO.out.shape
          have HSB := Lib.hid (Id.own_sl HO.out.own (Id.bools_bc S)).1
          rw [HSL.out]
          go_wp2
          go_ret3
          refine ⟨HB1.out.trans (HO.out.bel.mono HB1.out.size), ?_⟩
          rw [HAP.out, if_pos rfl]
          refine ⟨aX, cX, rfl, ?_⟩
          rw [Int.toNat_natCast, HSS.out, ← HSL.out]
          exact HSB.out
  · rw [if_neg h0] at he
    subst he
    have HAP := Lib.hid (show Id.apB lim L i j = false by simp [Id.apB, h0])
    obtain ⟨q, hq⟩ : ∃ q, Id.aE lim L i j = q := ⟨_, rfl⟩
    rw [hq] at h0
    rw [hq]
    have HQ := Lib.hid hq
    have q1 : (q != 0) = true := by simpa using h0
    clear hq h0
    go_wp2
    go_ret3
    refine ⟨HB1.out, ?_⟩
    rw [HAP.out, if_neg (by simp), HQ.out]
    rfl
end Go.Proofs.Ytdaedjmkolcliaa
