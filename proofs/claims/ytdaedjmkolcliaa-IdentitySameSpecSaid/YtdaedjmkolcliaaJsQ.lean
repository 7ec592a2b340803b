/- Walks: the reference of layer 45: far. -/
import Derived.Test.YtdaedjmkolcliaaIdq
import Derived.Test.YtdaedjmkolcliaaIdV
import Derived.Laws.OwnMore
namespace Go.Proofs.Ytdaedjmkolcliaa
set_option linter.unusedVariables false
set_option linter.unusedSimpArgs false
open Go.RowKit Go.Shelf

namespace Id
theorem rowA_snoc (k : Nat) (a : Nat → Int) : rowA (k + 1) a = rowA k a ++ [.int .i64 (a k)] := by simp [rowA, List.range_succ]
/-- Distances in a slice of one's own. -/
def Ow (W : World) (B G n c : Nat) (b : Nat → Int) : Prop := W.ownsRow B 3 1 (.slice (some ⟨G, 0, none⟩) n c) n (rowA n b)
section
variable {W : World} {B G n c : Nat} {b : Nat → Int}
theorem Ow.cell (h : Ow W B G n c b) {k : Nat} (hk : k < n) : W.cell? ⟨G, k, none⟩ = some (.int .i64 (b k)) := by
  rw [World.ownsRow.cellAt h k (by omega), rowA_get n b k hk]
theorem Ow.frozen (h : Ow W B G n c b) (k : Nat) : W.frozen? ⟨G, k, none⟩ = false := World.ownsRow.frozenAt h k
theorem Ow.set (h : Ow W B G n c b) (k : Nat) (v : Int) : Ow (W.setCell ⟨G, k, none⟩ (.int .i64 v)) B G n c (upd b k v) := by
  unfold Ow
  rw [← rowA_set]
  exact (World.ownsRow.stored h k _).1
theorem Ow.base (h : Ow W B G n c b) : B ≤ G := (World.ownsRow.lt h G rfl).1
end
end Id
set_option maxRecDepth 100000 in
set_option maxHeartbeats 4000000 in
theorem rx_far (n : Nat) (g : Nat → Nat → Bool) (t0 : Nat) (a : Option Addr) (c : Nat) (w : World) (hG : Id.Gr w a n g) (hn : n ≤ 16) (hto : t0 < n) :
    Calls Try.prog 45 #[.slice a n c, .int .i64 t0] w fun e w' => (∃ G cap, e = .returned (.slice (some ⟨G, 0, none⟩) n cap) ∧ Id.Ow w' w.heap.size G n cap (Id.dst n g t0)) ∧ Below w.heap.size w w' := by
  have HGR := Lib.hid hG
  clear hG
  go_enter Try.func45, Try.ntmps45
  go_wp2_with fail
  go_loopw [5, 6] (fun v5 v6 wr => ∃ k : Nat, v6 = .int .i64 k ∧ k ≤ n ∧ Hid (Kit.Gw w 3 1 v5 k (Id.rowA k (fun _ => -1)) wr))
    (fun _ v6 _ => n - (intOf v6).toNat)
  case atStart => exact ⟨0, rfl, Nat.zero_le _, Kit.Gw.start _ _ _⟩
  case round =>
    obtain ⟨k, rfl, hk, HO⟩ := hrel
    by_cases hlt : k < n
    · have HT := Lib.hid (Id.rowA_snoc k (fun _ => -1))
      go_wp2_with (at_builtin; refine Kit.wpList_app Id.elI _ rfl _ _ rfl _ _ _ (HO.out.alloc _) rfl (by omega) ⟨wr.heap.size, 0, none⟩ 1 [.int .i64 (-1)] rfl rfl (fun j u hu => Kit.lit_at _ _ _ rfl j u hu) (by simp [Value.oneCell']) ?_; intro v' w5 ho hg; have HO3 := Lib.hid ho; clear ho hg)
      go_roundw
      case rel => exact ⟨k + 1, by go_num, by omega, by rw [HT.out]; exact HO3.out⟩
      case measure => simp [intOf]; omega
    · obtain rfl : k = n := by omega
      obtain ⟨aV, cp, rfl⟩ := HO.out.shape
      obtain ⟨G, rfl⟩ : ∃ G, aV = some ⟨G, 0, none⟩ := by
        rcases HO.out.own.2 with ⟨_, h⟩ | ⟨g', cap, cur, e, _⟩
        · omega
        · simp only [Value.slice.injEq] at e
          exact ⟨g', e.1⟩
      have HW0 := Lib.hid (show Id.Ow wr w.heap.size G k cp (fun _ => -1) from HO.out.own)
      have HB0 := Lib.hid HO.out.bel
      have hGb := HW0.out.base
      have fc := HW0.out.cell hto
      have ff := HW0.out.frozen t0
      have HW1 := Lib.hid (show Id.Ow (wr.setCell ⟨G, t0, none⟩ (.int .i64 0)) w.heap.size G k cp (Id.aw k g t0 0) by rw [← Id.aw_zero]; exact HW0.out.set t0 0)
      have HB1 := Lib.hid (HB0.out.setCell (p := ⟨G, t0, none⟩) hGb (.int .i64 0))
      clear HO
      go_wp2_with fail
      clear fc ff
      go_loopw [7] (fun v7 ws => ∃ (s : Nat) (b : Nat → Int), v7 = .int .i64 s ∧ s ≤ k ∧ Hid (Id.Ow ws w.heap.size G k cp b) ∧ Hid (∀ x, x < k → b x = Id.aw k g t0 s x) ∧ Hid (Below w.heap.size w ws))
        (fun v7 _ => k - (intOf v7).toNat)
      case atStart => exact ⟨0, _, rfl, Nat.zero_le _, HW1.out, (fun _ _ => rfl), HB1.out⟩
      case round =>
        obtain ⟨s, b, rfl, hs, HW, HA, HB⟩ := hrel
        by_cases hsn : s < k
        · have HF := Lib.hid (Id.Fr.start HA.out)
          go_wp2_with fail
          go_loopw [8] (fun v8 wt => ∃ (i : Nat) (b : Nat → Int), v8 = .int .i64 i ∧ i ≤ k ∧ Hid (Id.Ow wt w.heap.size G k cp b) ∧ Hid (Id.Fr k g t0 s i 0 b) ∧ Hid (Below w.heap.size w wt))
            (fun v8 _ => k - (intOf v8).toNat)
          case atStart => exact ⟨0, b, rfl, Nat.zero_le _, HW.out, HF.out, HB.out⟩
          case round =>
            obtain ⟨i, b2, rfl, hi, HW2, HF2, HB2⟩ := hrel
            by_cases hin : i < k
            · go_wp2_with fail
              go_loopw [9] (fun v9 wu => ∃ (j : Nat) (b : Nat → Int), v9 = .int .i64 j ∧ j ≤ k ∧ Hid (Id.Ow wu w.heap.size G k cp b) ∧ Hid (Id.Fr k g t0 s i j b) ∧ Hid (Below w.heap.size w wu))
                (fun v9 _ => k - (intOf v9).toNat)
              case atStart => exact ⟨0, b2, rfl, Nat.zero_le _, HW2.out, HF2.out, HB2.out⟩
              case round =>
                obtain ⟨j, b3, rfl, hj, HW3, HF3, HB3⟩ := hrel
                rename World => wu
                by_cases hjn : j < k
                · have e0 := HW3.out.cell hin
                  have e1 := HW3.out.cell hjn
                  have ff := HW3.out.frozen j
                  have HNO := Lib.hid (fun h => HF3.out.no hin hjn h)
                  by_cases hbi : b3 i = s
                  · rw [hbi] at e0
                    have HBI := Lib.hid hbi
                    clear hbi
                    by_cases hbj : b3 j < 0
                    · have q1 : decide (b3 j < 0) = true := by simpa using hbj
                      obtain ⟨adg, rfl, hadg, ai, ci, e2, hsl⟩ := HGR.out.at (i := i) (by rw [Id.tabB_len]; exact hin)
                      rw [Id.tabB_get _ _ _ _ hin, Id.rowB_len] at e2 hsl
                      have e2' : wu.cell? (adg.add i) = some (.slice ai k ci) := (HB3.out.cell (by rw [Tp.add_block]; exact hadg)).trans e2
                      obtain ⟨adh, rfl, hadh, _⟩ := hsl.at hjn
                      have e3 : wu.cell? (adh.add j) = some (.bool (g i j)) := by
                        have h := (hsl.kept HB3.out (Nat.le_refl _)).head hjn (by omega)
                        rw [Nat.mul_one] at h
                        rw [h]
                        simp only [Id.bc, Id.rowB_get _ _ _ _ hjn]
                      have HYES := Lib.hid (fun h3 => HF3.out.yes hin hjn HBI.out hbj h3)
                      clear hbj e2 hsl
                      rcases hgij : g i j with _ | _
                      · rw [hgij] at e3
                        have HN2 := Lib.hid (HNO.out (fun h => by rw [hgij] at h; exact absurd h.2.2 (by simp)))
                        clear hgij
                        go_wp2_with fail
                        clear e0 e1 ff e2' e3
                        go_roundw
                        case rel => exact ⟨j + 1, b3, by go_num, by omega, HW3.out, HN2.out, HB3.out⟩
                        case measure => simp [intOf]; omega
                      · rw [hgij] at e3
                        have HY2 := Lib.hid (HYES.out hgij)
                        clear hgij
                        go_wp2_with fail
                        clear e0 e1 ff e2' e3
                        go_roundw
                        case rel => exact ⟨j + 1, _, by go_num, by omega, HW3.out.set j _, HY2.out, HB3.out.setCell hGb _⟩
                        case measure => simp [intOf]; omega
                    · have q1 : decide (b3 j < 0) = false := by simpa using hbj
                      have HN2 := Lib.hid (HNO.out (fun h => hbj h.2.1))
                      clear hbj
                      go_wp2_with fail
                      clear e0 e1 ff
                      go_roundw
                      case rel => exact ⟨j + 1, b3, by go_num, by omega, HW3.out, HN2.out, HB3.out⟩
                      case measure => simp [intOf]; omega
                  · have q1 : (b3 i == (s : Int)) = false := by simpa using hbi
                    have HN2 := Lib.hid (HNO.out (fun h => hbi h.1))
                    clear hbi
                    go_wp2_with fail
                    clear e0 e1 ff
                    go_roundw
                    case rel => exact ⟨j + 1, b3, by go_num, by omega, HW3.out, HN2.out, HB3.out⟩
                    case measure => simp [intOf]; omega
                · obtain rfl : j = k := by omega
                  go_wp2_with fail
                  go_roundw
                  case rel => exact ⟨i + 1, b3, by go_num, by omega, HW3.out, HF3.out.row, HB3.out⟩
                  case measure => simp [intOf]; omega
            · obtain rfl : i = k := by omega
              go_wp2_with fail
              go_roundw
              case rel => exact ⟨s + 1, b2, by go_num, by omega, HW2.out, HF2.out.all, HB2.out⟩
              case measure => simp [intOf]; omega
        · obtain rfl : s = k := by omega
          rename World => ws
          have HW9 := Lib.hid (show Id.Ow ws w.heap.size G s cp (Id.dst s g t0) by
            have h := HW.out
            unfold Id.Ow at *
            rw [Id.rowA_congr s b (Id.dst s g t0) (fun x hx => HA.out x hx)] at h
            exact h)
          go_wp2
          go_ret
          exact ⟨⟨G, cp, rfl, HW9.out⟩, HB.out⟩
end Go.Proofs.Ytdaedjmkolcliaa
