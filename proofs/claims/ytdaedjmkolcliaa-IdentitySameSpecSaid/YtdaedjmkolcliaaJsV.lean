/- Walks: the law IdentitySameSpec. -/
import Derived.Test.YtdaedjmkolcliaaJsT
import Derived.Test.YtdaedjmkolcliaaJsU
import Derived.Test.YtdaedjmkolcliaaJaG
namespace Go.Proofs.Ytdaedjmkolcliaa
set_option linter.unusedVariables false
set_option linter.unusedSimpArgs false
open Go.RowKit Go.Shelf

namespace Id
theorem nc_icL (N : List Nat) : nc N = ic (N.map fun k => ((k : Nat) : Int)) := by
  funext i j
  simp only [nc, ic, List.getD_eq_getElem?_getD, List.getElem?_map]
  rcases N[i]? with _ | x <;> rfl
def smL (lim : Int) (L : List (List Sg)) (i j : Int) : List Int := if smB lim L i j = true then (chain lim L i j).map fun k => ((k : Nat) : Int) else []
def apL (lim : Int) (L : List (List Sg)) (i j : Int) : List Bool := if apB lim L i j = true then side L.length (gr lim L) i.toNat else []
def wkL (lim : Int) (L : List (List Sg)) : List Int := if tE lim L = 0 then (wrks L.length (gr lim L)).map fun k => ((k : Nat) : Int) else []
theorem smB_aE {lim : Int} {L : List (List Sg)} {i j : Int} (h : smB lim L i j = true) : aE lim L i j = 0 := by
  unfold smB at h; simp only [Bool.and_eq_true, decide_eq_true_eq] at h; exact h.1
theorem apB_aE {lim : Int} {L : List (List Sg)} {i j : Int} (h : apB lim L i j = true) : aE lim L i j = 0 := by
  unfold apB at h; simp only [Bool.and_eq_true, decide_eq_true_eq] at h; exact h.1
theorem tE_16 {lim : Int} {L : List (List Sg)} (h : tE lim L = 0) : L.length ≤ 16 := by
  unfold tE at h
  split at h
  · cases h
  · omega
theorem aE_16 {lim : Int} {L : List (List Sg)} {i j : Int} (h : aE lim L i j = 0) : L.length ≤ 16 ∧ 0 ≤ i ∧ i < L.length ∧ 0 ≤ j ∧ j < L.length := by
  unfold aE at h
  by_cases ht : tE lim L = 0
  · rw [if_pos ht] at h
    by_cases hr : inR L.length i j = true
    · simp only [inR, Bool.and_eq_true, decide_eq_true_eq] at hr
      exact ⟨tE_16 ht, by omega, by omega, by omega, by omega⟩
    · rw [if_neg hr] at h; cases h
  · rw [if_neg ht] at h; exact absurd h ht
theorem smL_le (lim : Int) (L : List (List Sg)) (i j : Int) : (smL lim L i j).length ≤ 1000000 := by
  unfold smL
  split
  · rename_i h
    have h1 := aE_16 (smB_aE h)
    have h2 : Id.dst L.length (gr lim L) j.toNat i.toNat < L.length := dst_lt (by omega) (by omega)
    rw [List.length_map, chain, chn_len]
    omega
  · simp
theorem apL_le (lim : Int) (L : List (List Sg)) (i j : Int) : (apL lim L i j).length ≤ 1000000 := by
  unfold apL
  split
  · rename_i h
    have h1 := aE_16 (apB_aE h)
    rw [side_len]; omega
  · simp
theorem wkL_le (lim : Int) (L : List (List Sg)) : (wkL lim L).length ≤ 1000000 := by
  unfold wkL
  split
  · rename_i h
    have h1 := tE_16 h
    rw [List.length_map, wrks_len]; omega
  · simp
theorem smO {lim : Int} {L : List (List Sg)} {i j : Int} {W w' : World} {e : Ending} (h : SmP lim L i j W e w') : Below W.heap.size W w' ∧ ∃ a c, e = .returned (.tuple #[.slice a (smL lim L i j).length c, .bool (smB lim L i j), .int .i64 (aE lim L i j)]) ∧ Tp.Sl w' a (smL lim L i j).length 1 (ic (smL lim L i j)) := by
  obtain ⟨hb, he⟩ := h
  refine ⟨hb, ?_⟩
  unfold smL
  by_cases h0 : smB lim L i j = true
  · rw [if_pos h0] at he
    obtain ⟨a, c, rfl, ho⟩ := he
    rw [if_pos h0, h0, smB_aE h0, List.length_map, ← nc_icL]
    exact ⟨a, c, rfl, ho⟩
  · rw [if_neg h0] at he
    rw [if_neg h0]
    exact ⟨none, 0, by rw [he, Bool.not_eq_true _ |>.mp h0]; rfl, .inl rfl⟩
theorem apO {lim : Int} {L : List (List Sg)} {i j : Int} {W w' : World} {e : Ending} (h : ApP lim L i j W e w') : Below W.heap.size W w' ∧ ∃ a c, e = .returned (.tuple #[.slice a (apL lim L i j).length c, .bool (apB lim L i j), .int .i64 (aE lim L i j)]) ∧ Tp.Sl w' a (apL lim L i j).length 1 (bc (apL lim L i j)) := by
  obtain ⟨hb, he⟩ := h
  refine ⟨hb, ?_⟩
  unfold apL
  by_cases h0 : apB lim L i j = true
  · rw [if_pos h0] at he
    obtain ⟨a, c, rfl, ho⟩ := he
    rw [if_pos h0, h0, apB_aE h0, side_len]
    exact ⟨a, c, rfl, ho⟩
  · rw [if_neg h0] at he
    rw [if_neg h0]
    exact ⟨none, 0, by rw [he, Bool.not_eq_true _ |>.mp h0]; rfl, .inl rfl⟩
theorem wkO {lim : Int} {L : List (List Sg)} {W w' : World} {e : Ending} (h : WkP lim L W e w') : Below W.heap.size W w' ∧ ∃ a c, e = .returned (.tuple #[.slice a (wkL lim L).length c, .int .i64 (tE lim L)]) ∧ Tp.Sl w' a (wkL lim L).length 1 (ic (wkL lim L)) := by
  obtain ⟨hb, he⟩ := h
  refine ⟨hb, ?_⟩
  unfold wkL
  by_cases h0 : tE lim L = 0
  · rw [if_pos h0] at he
    obtain ⟨a, c, rfl, ho⟩ := he
    rw [if_pos h0, h0, List.length_map, wrks_len, ← nc_icL]
    exact ⟨a, c, rfl, ho⟩
  · rw [if_neg h0] at he
    rw [if_neg h0]
    exact ⟨none, 0, he, .inl rfl⟩
end Id

set_option maxRecDepth 100000 in
set_option maxHeartbeats 8000000 in
theorem ja_samespec (lim : Int) (a : Option Addr) (L : List (List Id.Sg)) (c : Nat) (i j : Int) (w : World) (hS : Id.Sls w a 14 Id.sgc L) (hl : L.length ≤ 4611686018427387904) (hl2 : ∀ x ∈ L, x.length ≤ 4611686018427387904) :
    Calls Try.prog 4 #[.slice a L.length c, .int .i64 lim, .int .i64 i, .int .i64 j] w fun e w' => e = .returned (.bool true) ∧ Below w.heap.size w w' := by
  have HS := Lib.hid hS
  have HL2 := Lib.hid hl2
  clear hS hl2
  have HSN := Lib.hid (fun W => ja_sane W)
  go_enter Try.func4, Try.ntmps4
  go_wp2_with fail
  refine (HSN.out _).mono ?_
  rintro _ x1 ⟨rfl, hb⟩
  have HB1 := Lib.hid hb
  clear hb
  go_wp2_with fail
  refine (ja_few a L c _ (HS.out.kept HB1.out (Nat.le_refl _)) hl HL2.out).mono ?_
  rintro _ w' ⟨rfl, rfl⟩
  rcases hf : Id.few L with _ | _
  · clear hf
    go_wp2
    go_ret
    exact ⟨rfl, HB1.out⟩
  have hl20 : L.length ≤ 20 := by
    unfold Id.few at hf
    simp only [Bool.and_eq_true, decide_eq_true_eq] at hf
    omega
  clear hf hl
  go_wp2_with fail
  refine (id_same lim a L c i j _ (HS.out.kept HB1.out (Nat.le_refl _)) (by omega) HL2.out).mono ?_
  intro e x2 hx
  obtain ⟨hb2, a1, c1, rfl, hs1⟩ := Id.smO hx
  have HB2 := Lib.hid (HB1.out.trans (hb2.mono HB1.out.size))
  have HS1 := Lib.hid hs1
  clear hb2 hs1 hx
  go_wp2_with fail
  refine (rx_same lim a L c i j _ (HS.out.kept HB2.out (Nat.le_refl _)) (by omega) HL2.out).mono ?_
  intro e x3 hx
  obtain ⟨hb3, a2, c2, rfl, hs2⟩ := Id.smO hx
  have HB3 := Lib.hid (HB2.out.trans (hb3.mono HB2.out.size))
  have HT1 := Lib.hid (HS1.out.kept hb3 (Nat.le_refl _))
  have HT2 := Lib.hid hs2
  clear hb3 hs2 hx HS1
  go_wp2_with fail
  refine (id_apart lim a L c i j _ (HS.out.kept HB3.out (Nat.le_refl _)) (by omega) HL2.out).mono ?_
  intro e x4 hx
  obtain ⟨hb4, a3, c3, rfl, hs3⟩ := Id.apO hx
  have HB4 := Lib.hid (HB3.out.trans (hb4.mono HB3.out.size))
  have HU1 := Lib.hid (HT1.out.kept hb4 (Nat.le_refl _))
  have HU2 := Lib.hid (HT2.out.kept hb4 (Nat.le_refl _))
  have HU3 := Lib.hid hs3
  clear hb4 hs3 hx HT1 HT2
  go_wp2_with fail
  refine (rx_apart lim a L c i j _ (HS.out.kept HB4.out (Nat.le_refl _)) (by omega) HL2.out).mono ?_
  intro e x5 hx
  obtain ⟨hb5, a4, c4, rfl, hs4⟩ := Id.apO hx
  have HB5 := Lib.hid (HB4.out.trans (hb5.mono HB4.out.size))
  have HV1 := Lib.hid (HU1.out.kept hb5 (Nat.le_refl _))
  have HV2 := Lib.hid (HU2.out.kept hb5 (Nat.le_refl _))
  have HV3 := Lib.hid (HU3.out.kept hb5 (Nat.le_refl _))
  have HV4 := Lib.hid hs4
  clear hb5 hs4 hx HU1 HU2 HU3
  go_wp2_with fail
  refine (id_works lim a L c _ (HS.out.kept HB5.out (Nat.le_refl _)) (by omega) HL2.out).mono ?_
  intro e x6 hx
  obtain ⟨hb6, a5, c5, rfl, hs5⟩ := Id.wkO hx
  have HB6 := Lib.hid (HB5.out.trans (hb6.mono HB5.out.size))
  have HX1 := Lib.hid (HV1.out.kept hb6 (Nat.le_refl _))
  have HX2 := Lib.hid (HV2.out.kept hb6 (Nat.le_refl _))
  have HX3 := Lib.hid (HV3.out.kept hb6 (Nat.le_refl _))
  have HX4 := Lib.hid (HV4.out.kept hb6 (Nat.le_refl _))
  have HX5 := Lib.hid hs5
  clear hb6 hs5 hx HV1 HV2 HV3 HV4
  go_wp2_with fail
  refine (rx_works lim a L c _ (HS.out.kept HB6.out (Nat.le_refl _)) (by omega) HL2.out).mono ?_
  intro e x7 hx
  obtain ⟨hb7, a6, c6, rfl, hs6⟩ := Id.wkO hx
  have HB7 := Lib.hid (HB6.out.trans (hb7.mono HB6.out.size))
  have HY1 := Lib.hid (HX1.out.kept hb7 (Nat.le_refl _))
  have HY2 := Lib.hid (HX2.out.kept hb7 (Nat.le_refl _))
  have HY3 := Lib.hid (HX3.out.kept hb7 (Nat.le_refl _))
  have HY4 := Lib.hid (HX4.out.kept hb7 (Nat.le_refl _))
  have HY5 := Lib.hid (HX5.out.kept hb7 (Nat.le_refl _))
  have HY6 := Lib.hid hs6
  clear hb7 hs6 hx HX1 HX2 HX3 HX4 HX5
  have l1 := Id.smL_le lim L i j
  have l2 := Id.apL_le lim L i j
  have l3 := Id.wkL_le lim L
  generalize Id.smL lim L i j = A at HY1 HY2 l1 ⊢
  generalize Id.apL lim L i j = B at HY3 HY4 l2 ⊢
  generalize Id.wkL lim L = C at HY5 HY6 l3 ⊢
  generalize Id.smB lim L i j = r
  generalize Id.apB lim L i j = s
  generalize Id.aE lim L i j = q
  generalize Id.tE lim L = q2
  go_wp2_with fail
  refine (ja_sameints A A a1 c1 a2 c2 _ HY1.out HY2.out l1 l1).mono ?_
  rintro _ x8 ⟨rfl, hb8⟩
  rw [decide_eq_true (rfl : A = A)]
  have HB8 := Lib.hid (HB7.out.trans (hb8.mono HB7.out.size))
  have HZ3 := Lib.hid (HY3.out.kept hb8 (Nat.le_refl _))
  have HZ4 := Lib.hid (HY4.out.kept hb8 (Nat.le_refl _))
  have HZ5 := Lib.hid (HY5.out.kept hb8 (Nat.le_refl _))
  have HZ6 := Lib.hid (HY6.out.kept hb8 (Nat.le_refl _))
  clear hb8 HY1 HY2 HY3 HY4 HY5 HY6
  have r1 : (r == r) = true := by simp
  have r2 : (s == s) = true := by simp
  go_wp2_with fail
  refine (ja_samebools B B a3 c3 a4 c4 _ HZ3.out HZ4.out l2 l2).mono ?_
  rintro _ x9 ⟨rfl, hb9⟩
  rw [decide_eq_true (rfl : B = B)]
  have HB9 := Lib.hid (HB8.out.trans (hb9.mono HB8.out.size))
  have HW5 := Lib.hid (HZ5.out.kept hb9 (Nat.le_refl _))
  have HW6 := Lib.hid (HZ6.out.kept hb9 (Nat.le_refl _))
  clear hb9 HZ3 HZ4 HZ5 HZ6
  go_wp2_with fail
  refine (ja_sameints C C a5 c5 a6 c6 _ HW5.out HW6.out l3 l3).mono ?_
  rintro _ x10 ⟨rfl, hb10⟩
  rw [decide_eq_true (rfl : C = C)]
  have HB10 := Lib.hid (HB9.out.trans (hb10.mono HB9.out.size))
  clear hb10
  go_wp2
  go_ret
  exact ⟨by simp, HB10.out⟩
end Go.Proofs.Ytdaedjmkolcliaa
