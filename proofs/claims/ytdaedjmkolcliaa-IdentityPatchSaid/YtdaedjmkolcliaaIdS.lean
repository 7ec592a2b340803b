/- Walks: package identity: first, with the closures of Works and Same. -/
import Derived.Test.YtdaedjmkolcliaaIdO
namespace Go.Proofs.Ytdaedjmkolcliaa
set_option linter.unusedVariables false
set_option linter.unusedSimpArgs false
open Go.RowKit Go.Shelf

namespace Id
/-- The first index of a list, from one on, whose number fulfils a condition; -1 without one. -/
def fst (p : Int → Bool) : Nat → List Int → Int
  | _, [] => -1
  | k, x :: l => if p x = true then k else fst p (k + 1) l
end Id
theorem id_works1 (d : Int) (w : World) : Calls Try.prog 48 #[.int .i64 d] w fun e w' => e = .returned (.bool (decide (0 ≤ d))) ∧ w = w' := by
  rcases hd : decide (0 ≤ d) with _ | _
  all_goals
    go_enter Try.func48, Try.ntmps48
    go_wp2
    go_ret
    exact ⟨rfl, rfl⟩
theorem id_same1 (d left : Int) (B : Nat) (w : World) (hc : w.cell? ⟨B, 0, none⟩ = some (.int .i64 left)) : Calls Try.prog 43 #[.int .i64 d, .pointer (some ⟨B, 0, none⟩)] w fun e w' => e = .returned (.bool (d == left)) ∧ w = w' := by
  rcases hd : (d == left) with _ | _
  all_goals
    go_enter Try.func43, Try.ntmps43
    go_wp2
    go_ret
    exact ⟨rfl, rfl⟩
set_option maxHeartbeats 1000000 in
theorem id_first_w (l : List Int) (a : Option Addr) (c : Nat) (w : World) (hS : Tp.Sl w a l.length 1 (Id.ic l)) (hl : l.length ≤ 1000000) :
    Calls Try.prog 42 #[.slice a l.length c, .func (.func 48) #[] #[]] w fun e w' => e = .returned (.int .i64 (Id.fst (fun d => decide (0 ≤ d)) 0 l)) ∧ w = w' := by
  have HS := Lib.hid hS
  have HCC := Lib.hid (fun d => id_works1 d w)
  clear hS
  obtain ⟨p, hp⟩ : ∃ p : Int → Bool, p = fun d => decide (0 ≤ d) := ⟨_, rfl⟩
  have HC := Lib.hid (show ∀ d, Calls Try.prog 48 #[.int .i64 d] w fun e w' => e = .returned (.bool (p d)) ∧ w = w' by
    intro d; rw [hp]; exact HCC.out d)
  rw [← hp]
  clear hp HCC
  go_enter Try.func42, Try.ntmps42
  go_wp2_with fail
  go_loop [9] (fun v9 => ∃ k : Nat, v9 = .int .i64 k ∧ k ≤ l.length ∧ Hid (Id.fst p 0 l = Id.fst p k (l.drop k)))
    (fun v9 => l.length - (intOf v9).toNat)
  case atStart => exact ⟨0, rfl, Nat.zero_le _, rfl⟩
  case round =>
    obtain ⟨k, rfl, hk, HE⟩ := hrel
    by_cases hlt : k < l.length
    · obtain ⟨ad, rfl, had, _⟩ := HS.out.at hlt
      have e0 : w.cell? (ad.add k) = some (.int .i64 (l.getD k 0)) := by
        have h := HS.out.head hlt (by omega); rw [Nat.mul_one] at h; exact h
      have hE := HE.out
      rw [Tp.drop_cons l 0 k hlt] at hE
      generalize l.getD k 0 = d at e0 hE
      have HE2 := Lib.hid (show Id.fst p 0 l = if p d = true then (k : Int) else Id.fst p (k + 1) (l.drop (k + 1)) from hE)
      clear hE HE
      have HD := Lib.hid (HC.out d)
      rcases hd : p d with _ | _
      · rw [hd] at HD HE2
        go_wp2_with (first | (refine HD.out.mono ?_; rintro _ w' ⟨rfl, rfl⟩))
        go_round
        case rel => exact ⟨k + 1, by go_num, by omega, by rw [HE2.out, if_neg (by simp)]; rfl⟩
        case measure => simp [intOf]; omega
      · rw [hd] at HD HE2
        go_wp2_with (first | (refine HD.out.mono ?_; rintro _ w' ⟨rfl, rfl⟩))
        go_ret
        exact ⟨by rw [HE2.out, if_pos trivial]; rfl, rfl⟩
    · obtain rfl : k = l.length := by omega
      have HE2 := Lib.hid (show Id.fst p 0 l = -1 by rw [HE.out, List.drop_length]; rfl)
      go_wp2
      go_ret
      exact ⟨by rw [HE2.out]; rfl, rfl⟩
set_option maxHeartbeats 1000000 in
theorem id_first_s (l : List Int) (a : Option Addr) (c : Nat) (w : World) (hS : Tp.Sl w a l.length 1 (Id.ic l)) (hl : l.length ≤ 1000000) (left : Int) (B : Nat) (hc : w.cell? ⟨B, 0, none⟩ = some (.int .i64 left)) :
    Calls Try.prog 42 #[.slice a l.length c, .func (.func 43) #[] #[.pointer (some ⟨B, 0, none⟩)]] w fun e w' => e = .returned (.int .i64 (Id.fst (fun d => d == left) 0 l)) ∧ w = w' := by
  have HS := Lib.hid hS
  have HCC := Lib.hid (fun d => id_same1 d left B w hc)
  clear hc
  clear hS
  obtain ⟨p, hp⟩ : ∃ p : Int → Bool, p = fun d => d == left := ⟨_, rfl⟩
  have HC := Lib.hid (show ∀ d, Calls Try.prog 43 #[.int .i64 d, .pointer (some ⟨B, 0, none⟩)] w fun e w' => e = .returned (.bool (p d)) ∧ w = w' by
    intro d; rw [hp]; exact HCC.out d)
  rw [← hp]
  clear hp HCC
  go_enter Try.func42, Try.ntmps42
  go_wp2_with fail
  go_loop [9] (fun v9 => ∃ k : Nat, v9 = .int .i64 k ∧ k ≤ l.length ∧ Hid (Id.fst p 0 l = Id.fst p k (l.drop k)))
    (fun v9 => l.length - (intOf v9).toNat)
  case atStart => exact ⟨0, rfl, Nat.zero_le _, rfl⟩
  case round =>
    obtain ⟨k, rfl, hk, HE⟩ := hrel
    by_cases hlt : k < l.length
    · obtain ⟨ad, rfl, had, _⟩ := HS.out.at hlt
      have e0 : w.cell? (ad.add k) = some (.int .i64 (l.getD k 0)) := by
        have h := HS.out.head hlt (by omega); rw [Nat.mul_one] at h; exact h
      have hE := HE.out
      rw [Tp.drop_cons l 0 k hlt] at hE
      generalize l.getD k 0 = d at e0 hE
      have HE2 := Lib.hid (show Id.fst p 0 l = if p d = true then (k : Int) else Id.fst p (k + 1) (l.drop (k + 1)) from hE)
      clear hE HE
      have HD := Lib.hid (HC.out d)
      rcases hd : p d with _ | _
      · rw [hd] at HD HE2
        go_wp2_with (first | (refine HD.out.mono ?_; rintro _ w' ⟨rfl, rfl⟩))
        go_round
        case rel => exact ⟨k + 1, by go_num, by omega, by rw [HE2.out, if_neg (by simp)]; rfl⟩
        case measure => simp [intOf]; omega
      · rw [hd] at HD HE2
        go_wp2_with (first | (refine HD.out.mono ?_; rintro _ w' ⟨rfl, rfl⟩))
        go_ret
        exact ⟨by rw [HE2.out, if_pos trivial]; rfl, rfl⟩
    · obtain rfl : k = l.length := by omega
      have HE2 := Lib.hid (show Id.fst p 0 l = -1 by rw [HE.out, List.drop_length]; rfl)
      go_wp2
      go_ret
      exact ⟨by rw [HE2.out]; rfl, rfl⟩
end Go.Proofs.Ytdaedjmkolcliaa
