/- Walks: the reference of layer 45: near, Near; the law IdentitySpec. -/
import Derived.Test.YtdaedjmkolcliaaJrF
import Derived.Test.YtdaedjmkolcliaaJrD
import Derived.Test.YtdaedjmkolcliaaJaG
namespace Go.Proofs.Ytdaedjmkolcliaa
set_option linter.unusedVariables false
set_option linter.unusedSimpArgs false
open Go.RowKit Go.Shelf

set_option maxHeartbeats 2000000 in
theorem rx_near (a b : List Int) (aA : Option Addr) (cA : Nat) (aB : Option Addr) (cB : Nat) (lim : Int) (w : World) (sa : Tp.Sl w aA a.length 1 (Id.ic a)) (sb : Tp.Sl w aB b.length 1 (Id.ic b)) (la : a.length ≤ 64) (lb : b.length ≤ 64) (ha : Id.Cod a) (hb : Id.Cod b) (h0 : 0 ≤ lim) (h1 : lim ≤ 1000) :
    Calls Try.prog 39 #[.slice aA a.length cA, .slice aB b.length cB, .int .i64 lim] w fun e w' => e = .returned (.bool (Id.simi lim a b)) ∧ Below w.heap.size w w' := by
  have HP := Lib.hid (fun W s t => ry_pair a b aA cA aB cB W s t la lb ha hb)
  have SA := Lib.hid sa
  have SB := Lib.hid sb
  have c1 := Id.cst_nonneg a b
  have c2 := Id.cst_le a b
  have HS := Lib.hid (show Id.simi lim a b = decide (1000 * Id.cst a b ≤ lim * 2 * ((a.length : Int) + b.length)) by unfold Id.simi; rw [Int.mul_comm 2 lim])
  have w1 : IntKind.i64.wrap (lim * 2) = lim * 2 := by rw [IntKind.wrap_i64]; omega
  have hm : 0 ≤ lim * 2 * ((a.length : Int) + b.length) ∧ lim * 2 * ((a.length : Int) + b.length) ≤ 2000 * 128 := by
    refine ⟨Int.mul_nonneg (by omega) (by omega), ?_⟩
    exact Int.mul_le_mul (by omega) (by omega) (by omega) (by omega)
  have w2 : IntKind.i64.wrap (lim * 2 * ((a.length : Int) + b.length)) = lim * 2 * ((a.length : Int) + b.length) := by rw [IntKind.wrap_i64]; omega
  clear sa sb ha hb
  go_enter Try.func39, Try.ntmps39
  go_wp2_with fail
  refine (HP.out _ SA.out SB.out).mono ?_
  rintro _ x1 ⟨⟨p, rfl⟩, hb⟩
  have HB := Lib.hid hb
  clear hb
  generalize Id.cst a b = q at c1 c2 HS ⊢
  go_wp2
  go_ret
  refine ⟨?_, HB.out⟩
  rw [HS.out]
  first | rfl | simp [w1, w2]

namespace Id
def es (l : List Sg) : List Int := if essE l = 0 then ess l else []
theorem essO {l : List Sg} {W w' : World} {e : Ending} (h : EssP l W e w') : Below W.heap.size W w' ∧ ∃ aV cV, e = .returned (.tuple #[.slice aV (es l).length cV, .int .i64 (essE l)]) ∧ Tp.Sl w' aV (es l).length 1 (ic (es l)) := by
  obtain ⟨hb, he⟩ := h
  refine ⟨hb, ?_⟩
  unfold es
  by_cases h0 : essE l = 0
  · rw [if_pos h0] at he
    obtain ⟨a, c, rfl, ho⟩ := he
    rw [if_pos h0]
    exact ⟨a, c, by rw [h0], (own_sl ho (ints_ic (ess l))).1⟩
  · rw [if_neg h0] at he
    rw [if_neg h0]
    exact ⟨none, 0, he, .inl rfl⟩
theorem es_le (l : List Sg) : (es l).length ≤ 64 := by
  unfold es
  by_cases h0 : essE l = 0
  · rw [if_pos h0]; exact (ess_le h0).2
  · rw [if_neg h0]; simp
theorem eE_1 {lim : Int} {a b : List Sg} (h : essE a ≠ 0) : eE lim [a, b] = essE a ∧ nearB a b lim = false := by
  have e : eE lim [a, b] = essE a := by unfold eE; rw [if_neg h]
  exact ⟨e, by unfold nearB; rw [e]; simp [h]⟩
theorem eE_2 {lim : Int} {a b : List Sg} (h0 : essE a = 0) (h : essE b ≠ 0) : eE lim [a, b] = essE b ∧ nearB a b lim = false := by
  have e : eE lim [a, b] = essE b := by unfold eE; rw [if_pos h0]; unfold eE; rw [if_neg h]
  exact ⟨e, by unfold nearB; rw [e]; simp [h]⟩
theorem eE_3 {lim : Int} {a b : List Sg} (h0 : essE a = 0) (h1 : essE b = 0) : eE lim [a, b] = limE lim := by
  unfold eE; rw [if_pos h0]; unfold eE; rw [if_pos h1]; rfl
end Id
set_option maxHeartbeats 4000000 in
theorem rx_Near (a b : List Id.Sg) (aA : Option Addr) (cA : Nat) (aB : Option Addr) (cB : Nat) (lim : Int) (w : World) (sa : Tp.Sl w aA a.length 14 (Id.sgc a)) (sb : Tp.Sl w aB b.length 14 (Id.sgc b)) (la : a.length ≤ 4611686018427387904) (lb : b.length ≤ 4611686018427387904) :
    Calls Try.prog 15 #[.slice aA a.length cA, .slice aB b.length cB, .int .i64 lim] w fun e w' => e = .returned (.tuple #[.bool (Id.nearB a b lim), .int .i64 (Id.eE lim [a, b])]) ∧ Below w.heap.size w w' := by
  have SA := Lib.hid sa
  have SB := Lib.hid sb
  clear sa sb
  go_enter Try.func15, Try.ntmps15
  go_wp2_with fail
  refine (rx_essence aA a cA _ SA.out la).mono ?_
  intro e x1 hx
  obtain ⟨hb1, a1, c1, rfl, hs1⟩ := Id.essO hx
  have HB1 := Lib.hid hb1
  have HS1 := Lib.hid hs1
  clear hb1 hs1 hx
  by_cases h1 : Id.essE a = 0
  case neg =>
    have HE := Lib.hid (Id.eE_1 (lim := lim) (b := b) h1)
    generalize Id.essE a = q at h1 HE ⊢
    have q1 : (q != 0) = true := by simpa using h1
    clear h1
    go_wp2
    go_ret2
    exact ⟨by rw [HE.out.1, HE.out.2]; rfl, HB1.out⟩
  have H1 := Lib.hid h1
  rw [h1]
  go_wp2_with fail
  refine (rx_essence aB b cB _ (SB.out.kept HB1.out (Nat.le_refl _)) lb).mono ?_
  intro e x2 hx
  obtain ⟨hb2, a2, c2, rfl, hs2⟩ := Id.essO hx
  have HB2 := Lib.hid (HB1.out.trans (hb2.mono HB1.out.size))
  have HS2 := Lib.hid hs2
  have HS1' := Lib.hid (HS1.out.kept hb2 (Nat.le_refl _))
  clear hb2 hs2 hx
  by_cases h2 : Id.essE b = 0
  case neg =>
    have HE := Lib.hid (Id.eE_2 (lim := lim) h1 h2)
    generalize Id.essE b = q at h2 HE ⊢
    have q1 : (q != 0) = true := by simpa using h2
    clear h2 h1
    go_wp2
    go_ret2
    exact ⟨by rw [HE.out.1, HE.out.2]; rfl, HB2.out⟩
  have HE := Lib.hid (Id.eE_3 (lim := lim) h1 h2)
  have HN := Lib.hid (show Id.nearB a b lim = (decide (Id.eE lim [a, b] = 0) && Id.simi lim (Id.ess a) (Id.ess b)) from rfl)
  rw [h2]
  by_cases hl : lim < 0
  · have j1 : decide (lim < 0) = true := by simpa using hl
    have HL := Lib.hid (show Id.limE lim = 450 by unfold Id.limE; rw [if_pos (.inl hl)])
    clear hl h1 h2
    go_wp2
    go_ret2
    exact ⟨by rw [HN.out, HE.out, HL.out]; rfl, HB2.out⟩
  have j1 : decide (lim < 0) = false := by simpa using hl
  by_cases hl2 : 1000 < lim
  · have j2 : decide (1000 < lim) = true := by simpa using hl2
    have HL := Lib.hid (show Id.limE lim = 450 by unfold Id.limE; rw [if_pos (.inr hl2)])
    clear hl hl2 h1 h2
    go_wp2
    go_ret2
    exact ⟨by rw [HN.out, HE.out, HL.out]; rfl, HB2.out⟩
  have j2 : decide (1000 < lim) = false := by simpa using hl2
  have HL := Lib.hid (show Id.limE lim = 0 by unfold Id.limE; rw [if_neg (by omega)])
  have g1 := Id.ess_le h1
  have g2 := Id.ess_le h2
  rw [show Id.es a = Id.ess a by unfold Id.es; rw [if_pos h1]] at HS1'
  rw [show Id.es b = Id.ess b by unfold Id.es; rw [if_pos h2]] at HS2
  rw [show Id.es a = Id.ess a by unfold Id.es; rw [if_pos h1], show Id.es b = Id.ess b by unfold Id.es; rw [if_pos h2]]
  have HNR := Lib.hid (fun W s t => rx_near (Id.ess a) (Id.ess b) a1 c1 a2 c2 lim W s t g1.2 g2.2 (Id.ess_cod g1.1) (Id.ess_cod g2.1) (by omega) (by omega))
  clear g1 g2 h1 h2 hl hl2 HS1
  generalize Id.simi lim (Id.ess a) (Id.ess b) = r at HNR HN
  go_wp2_with fail
  refine (HNR.out _ HS1'.out HS2.out).mono ?_
  rintro _ x3 ⟨rfl, hb3⟩
  have HB3 := Lib.hid (HB2.out.trans (hb3.mono HB2.out.size))
  clear hb3
  go_wp2
  go_ret2
  exact ⟨by rw [HN.out, HE.out, HL.out]; simp, HB3.out⟩
set_option maxHeartbeats 4000000 in
theorem ja_spec (a b : List Id.Sg) (aA : Option Addr) (cA : Nat) (aB : Option Addr) (cB : Nat) (lim : Int) (w : World) (sa : Tp.Sl w aA a.length 14 (Id.sgc a)) (sb : Tp.Sl w aB b.length 14 (Id.sgc b)) (la : a.length ≤ 4611686018427387904) (lb : b.length ≤ 4611686018427387904) :
    Calls Try.prog 3 #[.slice aA a.length cA, .slice aB b.length cB, .int .i64 lim] w fun e w' => e = .returned (.bool true) ∧ Below w.heap.size w w' := by
  have SA := Lib.hid sa
  have SB := Lib.hid sb
  clear sa sb
  have HSN := Lib.hid (fun W => ja_sane W)
  go_enter Try.func3, Try.ntmps3
  go_wp2_with fail
  refine (HSN.out _).mono ?_
  rintro _ x1 ⟨rfl, hb⟩
  have HB1 := Lib.hid hb
  clear hb
  go_wp2_with fail
  refine (ja_fews aA a cA _ (SA.out.kept HB1.out (Nat.le_refl _)) la).mono ?_
  rintro _ w' ⟨rfl, rfl⟩
  rcases hf : Id.fewS a with _ | _
  · clear hf
    go_wp2
    go_ret
    exact ⟨rfl, HB1.out⟩
  clear hf
  go_wp2_with fail
  refine (ja_fews aB b cB _ (SB.out.kept HB1.out (Nat.le_refl _)) lb).mono ?_
  rintro _ w' ⟨rfl, rfl⟩
  rcases hf : Id.fewS b with _ | _
  · clear hf
    go_wp2
    go_ret
    exact ⟨rfl, HB1.out⟩
  clear hf
  go_wp2_with fail
  refine (id_essence aA a cA _ (SA.out.kept HB1.out (Nat.le_refl _)) la).mono ?_
  intro e x2 hx
  obtain ⟨hb2, a1, c1, rfl, hs1⟩ := Id.essO hx
  have HB2 := Lib.hid (HB1.out.trans (hb2.mono HB1.out.size))
  have HS1 := Lib.hid hs1
  clear hb2 hs1 hx
  go_wp2_with fail
  refine (rx_essence aA a cA _ (SA.out.kept HB2.out (Nat.le_refl _)) la).mono ?_
  intro e x3 hx
  obtain ⟨hb3, a2, c2, rfl, hs2⟩ := Id.essO hx
  have HB3 := Lib.hid (HB2.out.trans (hb3.mono HB2.out.size))
  have HS1' := Lib.hid (HS1.out.kept hb3 (Nat.le_refl _))
  have HS2 := Lib.hid hs2
  clear hb3 hs2 hx HS1
  go_wp2_with fail
  refine (id_near a b aA cA aB cB lim _ (SA.out.kept HB3.out (Nat.le_refl _)) (SB.out.kept HB3.out (Nat.le_refl _)) la lb).mono ?_
  rintro _ x4 ⟨rfl, hb4⟩
  have HB4 := Lib.hid (HB3.out.trans (hb4.mono HB3.out.size))
  have HT1 := Lib.hid (HS1'.out.kept hb4 (Nat.le_refl _))
  have HT2 := Lib.hid (HS2.out.kept hb4 (Nat.le_refl _))
  clear hb4 HS1' HS2
  go_wp2_with fail
  refine (rx_Near a b aA cA aB cB lim _ (SA.out.kept HB4.out (Nat.le_refl _)) (SB.out.kept HB4.out (Nat.le_refl _)) la lb).mono ?_
  rintro _ x5 ⟨rfl, hb5⟩
  have HB5 := Lib.hid (HB4.out.trans (hb5.mono HB4.out.size))
  have HU1 := Lib.hid (HT1.out.kept hb5 (Nat.le_refl _))
  have HU2 := Lib.hid (HT2.out.kept hb5 (Nat.le_refl _))
  clear hb5 HT1 HT2
  have hle := Id.es_le a
  generalize Id.es a = E at HU1 HU2 hle ⊢
  generalize Id.nearB a b lim = r
  generalize Id.eE lim [a, b] = q
  generalize Id.essE a = q2
  go_wp2_with fail
  refine (ja_sameints E E a1 c1 a2 c2 _ HU1.out HU2.out (by omega) (by omega)).mono ?_
  rintro _ x6 ⟨rfl, hb6⟩
  rw [decide_eq_true (rfl : E = E)]
  have HB6 := Lib.hid (HB5.out.trans (hb6.mono HB5.out.size))
  clear hb6
  rcases r with _ | _ <;>
  · go_wp2
    go_ret
    exact ⟨by simp, HB6.out⟩
end Go.Proofs.Ytdaedjmkolcliaa
