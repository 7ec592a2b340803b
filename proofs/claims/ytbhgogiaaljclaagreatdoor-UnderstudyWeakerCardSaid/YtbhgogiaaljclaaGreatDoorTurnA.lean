/- Walks: the greatest common divisor of three numbers (package turn and its reference). -/
import Derived.Test.YtbhgogiaaljclaaGreatDoorProg
import Derived.Test.YtbhgogiaaljclaaGreatDoorTmath
import Derived.WalkKit
import Derived.WalkSpells
import Derived.WalkLawsBesides
import Derived.Deep.QuietTactic
import Derived.BigQuiet
import Derived.Lib.Hide
import Derived.IntWalk
namespace Go.Proofs.YtbhgogiaaljclaaGreatDoor
set_option linter.unusedVariables false
set_option linter.unusedSimpArgs false
open Go.RowKit

/-- The outer loop's relation. -/
def TcRel (a b c : Int) (w : World) (v2 v7 : Value) (wr : World) : Prop :=
  ∃ (k : Nat) (d : Int), k ≤ 3 ∧ v7 = .int .i64 k ∧ v2 = .int .i64 d ∧ Tm.Mod d ∧ Tm.g2 d 0 = Tm.gk a b c k ∧ ∃ n, wr = w.drewN n
/-- The inner loop's relation. -/
def TiRel (g : Int) (w : World) (v2 v4 : Value) (wr : World) : Prop :=
  ∃ (d n : Int), v4 = .int .i64 n ∧ v2 = .int .i64 d ∧ Tm.Mod d ∧ Tm.Mod n ∧ Tm.g2 d n = g ∧ ∃ k, wr = w.drewN k

theorem ret_int {k : IntKind} {a b : Int} (h : a = b) : Ending.returned (.int k a) = .returned (.int k b) := by rw [h]

set_option maxHeartbeats 400000 in
theorem t_common (ad : Addr) (a b c : Int) (w : World) (ha : Tm.Mod a) (hb : Tm.Mod b) (hc : Tm.Mod c)
    (h0 : ∀ k, k < 3 → w.cell? (ad.add k) = some (.int .i64 (Tm.nth a b c k))) :
    Calls Tryz.prog 179 #[.slice (some ad) 3 3] w fun e w' => e = .returned (.int .i64 (Tm.g3 a b c)) ∧ ∃ n, w' = w.drewN n := by
  have H0 := Lib.hid h0; clear h0
  go_enter Tryz.func179, Tryz.ntmps179
  go_wp2
  go_loopw [2, 4, 7] (fun v2 v4 v7 wr => TcRel a b c w v2 v7 wr) (fun _ _ v7 _ => 3 - (intOf v7).toNat)
  case atStart => exact ⟨0, 0, by omega, rfl, rfl, by simp [Tm.Mod], by simp [Tm.gk, Tm.g2_zero], 0, rfl⟩
  case round =>
    obtain ⟨k, d, hk, rfl, rfl, hd, hg, nn, rfl⟩ := hrel
    have HG := Lib.hid hg; clear hg
    have HD := Lib.hid hd; clear hd
    by_cases hlt : k < 3
    · have hcell := H0.out k hlt
      have hnm := Tm.nth_mod a b c k ha hb hc
      have HN := Lib.hid hnm; clear hnm
      go_wp2
      clear hcell
      obtain ⟨wo, hwo⟩ : ∃ wo : World, wo = w.drewN nn := ⟨_, rfl⟩
      rw [← hwo]
      have HW := Lib.hid hwo; clear hwo
      have hs := Tm.gk_succ a b c k hlt
      generalize Tm.nth a b c k = m at *
      have HS := Lib.hid hs; clear hs
      go_loopw [2, 4] (fun v2 v4 wr => TiRel (Tm.g2 d m) wo v2 v4 wr) (fun _ v4 _ => (intOf v4).natAbs)
      case atStart => exact ⟨d, m, rfl, rfl, HD.out, HN.out, rfl, 0, rfl⟩
      case round =>
        obtain ⟨d', n', rfl, rfl, hd', hn', hg', k', rfl⟩ := hrel
        have HG' := Lib.hid hg'; clear hg'
        have h1 := hd'.lo; have h2 := hd'.hi; have h3 := hn'.lo; have h4 := hn'.hi
        have HD' := Lib.hid hd'; clear hd'
        have HN' := Lib.hid hn'; clear hn'
        by_cases hz : n' = 0
        · obtain rfl := hz
          go_wp2
          go_roundw
          case rel => exact ⟨k + 1, d', by omega, by go_num, rfl, HD'.out, by
            rw [HG'.out, HS.out, ← HG.out]; exact Tm.g2_of_abs _ _, nn + k', by rw [HW.out, World.drewN_drewN]⟩
          case measure => simp [intOf]; omega
        · have hz' : (n' != 0) = true := by simpa using hz
          have hz2 : (n' == 0) = false := by simpa using hz
          have ht := Tm.tmod_mod d' n' hz HN'.out
          have h5 := ht.lo; have h6 := ht.hi
          have HT := Lib.hid ht; clear ht
          have hl := Tm.tmod_lt d' n' hz
          go_wp2
          go_quiet (fail)
          go_roundw
          case rel => exact ⟨_, _, _, _, _, _, _, _, ⟨n', d'.tmod n', rfl, rfl, HN'.out, HT.out, by rw [Tm.g2_step]; exact HG'.out, k' + nq, by rw [World.drewN_drewN]⟩, rfl⟩
          case measure => simp only [intOf]; exact hl
    · have h1 := HD.out.lo; have h2 := HD.out.hi
      go_wp2
      all_goals
        go_ret
        refine ⟨ret_int ?_, nn, rfl⟩
        have hg := HG.out
        rw [Tm.g2_zero] at hg
        obtain rfl : k = 3 := by omega
        have : Tm.gk a b c 3 = Tm.g3 a b c := rfl
        omega
end Go.Proofs.YtbhgogiaaljclaaGreatDoor
