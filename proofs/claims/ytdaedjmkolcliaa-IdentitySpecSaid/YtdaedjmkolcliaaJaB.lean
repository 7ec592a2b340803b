/- Walks of what the laws of layer 45 ask: edition. -/
import Derived.Test.YtdaedjmkolcliaaJaA
namespace Go.Proofs.Ytdaedjmkolcliaa
set_option linter.unusedVariables false
set_option linter.unusedSimpArgs false
open Go.RowKit Go.Shelf

namespace Id
/-- A sign of an edition. -/
def edS (i : Nat) (n : Int) : Sg := ⟨i, 0, i, if n < 0 then 2 else 1, 1, 0, 0, 0, max n (-n), 0, 0, 1, 1, 1⟩
def edl : Nat → List Int → List Sg
  | _, [] => []
  | i, n :: l => edS i n :: edl (i + 1) l
theorem edl_len : ∀ (l : List Int) (i : Nat), (edl i l).length = l.length
  | [], _ => rfl
  | _ :: l, i => by simp [edl, edl_len l]
theorem edl_get : ∀ (l : List Int) (i k : Nat), k < l.length → (edl i l).getD k default = edS (i + k) (l.getD k 0)
  | n :: l, i, 0, _ => by simp [edl]
  | n :: l, i, k + 1, h => by
    have := edl_get l (i + 1) k (by simpa using h)
    simp only [edl, List.getD_cons_succ]
    rw [this]
    congr 1
    omega
end Id
set_option maxRecDepth 100000 in
set_option maxHeartbeats 2000000 in
theorem ja_edition (l : List Int) (aA : Option Addr) (cA : Nat) (w : World) (hS : Tp.Sl w aA l.length 1 (Id.ic l)) (hl : l.length ≤ 100) (hb : ∀ x ∈ l, -1000 ≤ x ∧ x ≤ 1000) :
    Calls Try.prog 28 #[.slice aA l.length cA] w fun e w' => (∃ a c, e = .returned (.slice a l.length c) ∧ Tp.Sl w' a l.length 14 (Id.sgc (Id.edl 0 l))) ∧ Below w.heap.size w w' := by
  have HS := Lib.hid hS
  have HBD := Lib.hid hb
  have HT := Lib.hid (show ∀ k, k < l.length → (Id.edl 0 l).take (k + 1) = (Id.edl 0 l).take k ++ [Id.edS k (l.getD k 0)] from fun k hk => Id.take_snoc _ k (by rw [Id.edl_len]; exact hk) _ (by have := Id.edl_get l 0 k hk; rw [Nat.zero_add] at this; exact this))
  clear hS hb
  go_enter Try.func28, Try.ntmps28
  go_wp2_with fail
  go_loopw [2, 8] (fun v2 v8 wr => ∃ k : Nat, v8 = .int .i64 k ∧ k ≤ l.length ∧ Hid (Kit.Gw w 49 14 v2 k (Id.flatS ((Id.edl 0 l).take k)) wr))
    (fun _ v8 _ => l.length - (intOf v8).toNat)
  case atStart => exact ⟨0, rfl, Nat.zero_le _, Kit.Gw.start _ _ _⟩
  case round =>
    obtain ⟨k, rfl, hk, HO⟩ := hrel
    by_cases hlt : k < l.length
    · obtain ⟨ad, rfl, had, _⟩ := HS.out.at hlt
      have e0 : wr.cell? (ad.add k) = some (.int .i64 (l.getD k 0)) := by
        have h := (HS.out.kept HO.out.bel (Nat.le_refl _)).head hlt (by omega)
        rw [Nat.mul_one] at h; exact h
      have hbn := HBD.out (l.getD k 0) (by rw [List.getD_eq_getElem?_getD, List.getElem?_eq_getElem hlt]; exact List.getElem_mem hlt)
      have HTK := Lib.hid (HT.out k hlt)
      generalize l.getD k 0 = n at e0 hbn HTK
      have hes : Id.edS k n = ⟨k, 0, k, if n < 0 then 2 else 1, 1, 0, 0, 0, max n (-n), 0, 0, 1, 1, 1⟩ := rfl
      obtain ⟨mx, hmx⟩ : ∃ mx, max n (-n) = mx := ⟨_, rfl⟩
      rw [hmx] at hes
      have hmx2 : (if n < -n then -n else n) = mx := by rw [← hmx]; split <;> omega
      rcases hd : decide (n < 0) with _ | _
      · have hes2 : Id.edS k n = ⟨k, 0, k, 1, 1, 0, 0, 0, mx, 0, 0, 1, 1, 1⟩ := by rw [hes, if_neg (by simpa using hd)]
        rw [hes2] at HTK
        have HMX := Lib.hid hmx
        clear hes hes2
        go_wp2_with (at_builtin; refine Kit.wpList_app Id.elS _ rfl _ _ rfl _ _ _ ((HO.out.alloc _).alloc _) rfl (by omega) ⟨wr.heap.size + 1, 0, none⟩ 1 (Id.sc ⟨k, 0, k, 1, 1, 0, 0, 0, mx, 0, 0, 1, 1, 1⟩) rfl rfl (fun j u hu => Kit.lit_at _ (Id.sc ⟨k, 0, k, 1, 1, 0, 0, 0, mx, 0, 0, 1, 1, 1⟩) _ (by simp) j u hu) (by simp [Id.sc, Value.oneCell']) ?_; intro v' w2 ho hg; have HO2 := Lib.hid ho; clear ho hg)
        go_roundw
        case rel => exact ⟨k + 1, by go_num, by omega, by rw [HTK.out, Id.flatS_snoc]; exact HO2.out⟩
        case measure => simp [intOf]; omega
      · have hes2 : Id.edS k n = ⟨k, 0, k, 2, 1, 0, 0, 0, mx, 0, 0, 1, 1, 1⟩ := by rw [hes, if_pos (by simpa using hd)]
        rw [hes2] at HTK
        have HMX := Lib.hid hmx
        clear hes hes2
        go_wp2_with (at_builtin; refine Kit.wpList_app Id.elS _ rfl _ _ rfl _ _ _ ((HO.out.alloc _).alloc _) rfl (by omega) ⟨wr.heap.size + 1, 0, none⟩ 1 (Id.sc ⟨k, 0, k, 2, 1, 0, 0, 0, mx, 0, 0, 1, 1, 1⟩) rfl rfl (fun j u hu => Kit.lit_at _ (Id.sc ⟨k, 0, k, 2, 1, 0, 0, 0, mx, 0, 0, 1, 1, 1⟩) _ (by simp) j u hu) (by simp [Id.sc, Value.oneCell']) ?_; intro v' w2 ho hg; have HO2 := Lib.hid ho; clear ho hg)
        go_roundw
        case rel => exact ⟨k + 1, by go_num, by omega, by rw [HTK.out, Id.flatS_snoc]; exact HO2.out⟩
        case measure => simp [intOf]; omega
    · obtain rfl : k = l.length := by omega
      rw [List.take_of_length_le (by rw [Id.edl_len]; exact Nat.le_refl _)] at HO
      obtain ⟨aX, cX, rfl⟩ := HO.out.shape
      have hq := Id.flatS_get (Id.edl 0 l)
      rw [Id.edl_len] at hq
      have HSB := Lib.hid (Id.own_sl HO.out.own (fun i j hi hj => hq i j hi hj)).1
      clear hq
      go_wp2
      go_ret
      exact ⟨⟨aX, cX, rfl, HSB.out⟩, HO.out.bel⟩
end Go.Proofs.Ytdaedjmkolcliaa
