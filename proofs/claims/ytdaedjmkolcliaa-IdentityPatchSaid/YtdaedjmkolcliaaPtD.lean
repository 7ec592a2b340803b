/- Walks: package patch: Check. -/
import Derived.Test.YtdaedjmkolcliaaPtZ
import Derived.Test.YtdaedjmkolcliaaIdG
import Derived.Deep.CutRange
namespace Go.Proofs.Ytdaedjmkolcliaa
set_option linter.unusedVariables false
set_option linter.unusedSimpArgs false
open Go.RowKit Go.Shelf

namespace Id
/-- A patch, but for what it needs. -/
structure Pt where
  id : Int
  kind : Int
  sign : Int
  field : Int
  new : Sg
abbrev ptV (p : Pt) (aN : Option Addr) (n cN : Nat) : Value := .agg #[.int .i64 p.id, .int .i64 p.kind, .int .i64 p.sign, .int .i64 p.field, .int .i64 p.new.id, .int .i64 p.new.role, .int .i64 p.new.bar, .int .i64 p.new.mark, .int .i64 p.new.kind, .int .i64 p.new.side, .int .i64 p.new.dir, .int .i64 p.new.level, .int .i64 p.new.size, .int .i64 p.new.wth, .int .i64 p.new.fn, .int .i64 p.new.fd, .int .i64 p.new.tn, .int .i64 p.new.td, .slice aN n cN]
/-- The sign in which a field is tried. -/
def plainSg : Sg := ⟨0, 0, 0, 3, 9, 0, 0, 0, 0, 0, 0, 1, 1, 2⟩
/-- What Check's success says of a patch. -/
def PtOk (p : Pt) : Prop := (0 ≤ p.sign ∧ p.sign ≤ 1048576) ∧ (p.kind = 1 ∧ form (setF p.field.toNat plainSg p.new) = true ∨ p.kind = 3)
end Id
set_option maxRecDepth 100000 in
set_option maxHeartbeats 8000000 in
theorem pa_check (p : Id.Pt) (aN : Option Addr) (N : List Int) (cN : Nat) (w : World) (hS : Tp.Sl w aN N.length 1 (Id.ic N)) (hl : N.length ≤ 4611686018427387904) (hk2 : p.kind ≠ 2) (hkf : p.kind = 1 → 4 ≤ p.field ∧ p.field ≤ 8) :
    Calls Try.prog 67 #[Id.ptV p aN N.length cN] w fun e w' => (∃ r : Int, e = .returned (.int .i64 r) ∧ (r = 0 → Id.PtOk p)) ∧ Below w.heap.size w w' := by
  by_cases h32 : 32 < N.length
  · go_enter Try.func67, Try.ntmps67
    go_wp2
    go_ret
    exact ⟨⟨2, rfl, fun h => by cases h⟩, by (repeat' first | (with_reducible first | exact Below.refl _ _ | assumption | refine Kit.below_drewN ?_ _ | refine Below.drew ?_ | refine Below.alloc ?_ ?_ _ | refine Below.setCell ?_ ?_ _ | exact Nat.le_refl _) | omega | (simp; omega) | (simp; done) | (apply Below.size; assumption))⟩
  go_enter Try.func67, Try.ntmps67
  go_upto_region 4 with fail
  refine Kit.wp_name ?_
  intro W hW
  have q0 : W.cell? ⟨w.heap.size, 0, none⟩ = some (.int .i64 p.id) := by rw [hW]; simp [go_sem]
  have q1 : W.cell? ⟨w.heap.size, 1, none⟩ = some (.int .i64 p.kind) := by rw [hW]; simp [go_sem]
  have q2 : W.cell? ⟨w.heap.size, 2, none⟩ = some (.int .i64 p.sign) := by rw [hW]; simp [go_sem]
  have q3 : W.cell? ⟨w.heap.size, 3, none⟩ = some (.int .i64 p.field) := by rw [hW]; simp [go_sem]
  have q4 : W.cell? ⟨w.heap.size, 4, none⟩ = some (.int .i64 p.new.id) := by rw [hW]; simp [go_sem]
  have q5 : W.cell? ⟨w.heap.size, 5, none⟩ = some (.int .i64 p.new.role) := by rw [hW]; simp [go_sem]
  have q6 : W.cell? ⟨w.heap.size, 6, none⟩ = some (.int .i64 p.new.bar) := by rw [hW]; simp [go_sem]
  have q7 : W.cell? ⟨w.heap.size, 7, none⟩ = some (.int .i64 p.new.mark) := by rw [hW]; simp [go_sem]
  have q8 : W.cell? ⟨w.heap.size, 8, none⟩ = some (.int .i64 p.new.kind) := by rw [hW]; simp [go_sem]
  have q9 : W.cell? ⟨w.heap.size, 9, none⟩ = some (.int .i64 p.new.side) := by rw [hW]; simp [go_sem]
  have q10 : W.cell? ⟨w.heap.size, 10, none⟩ = some (.int .i64 p.new.dir) := by rw [hW]; simp [go_sem]
  have q11 : W.cell? ⟨w.heap.size, 11, none⟩ = some (.int .i64 p.new.level) := by rw [hW]; simp [go_sem]
  have q12 : W.cell? ⟨w.heap.size, 12, none⟩ = some (.int .i64 p.new.size) := by rw [hW]; simp [go_sem]
  have q13 : W.cell? ⟨w.heap.size, 13, none⟩ = some (.int .i64 p.new.wth) := by rw [hW]; simp [go_sem]
  have q14 : W.cell? ⟨w.heap.size, 14, none⟩ = some (.int .i64 p.new.fn) := by rw [hW]; simp [go_sem]
  have q15 : W.cell? ⟨w.heap.size, 15, none⟩ = some (.int .i64 p.new.fd) := by rw [hW]; simp [go_sem]
  have q16 : W.cell? ⟨w.heap.size, 16, none⟩ = some (.int .i64 p.new.tn) := by rw [hW]; simp [go_sem]
  have q17 : W.cell? ⟨w.heap.size, 17, none⟩ = some (.int .i64 p.new.td) := by rw [hW]; simp [go_sem]
  have q18 : W.cell? ⟨w.heap.size, 18, none⟩ = some (.slice aN N.length cN) := by rw [hW]; simp [go_sem]
  have sW : W.heap.size = w.heap.size + 1 := by rw [hW]; simp
  have HB := Lib.hid (show Below w.heap.size w W by rw [hW]; (repeat' first | (with_reducible first | exact Below.refl _ _ | assumption | refine Kit.below_drewN ?_ _ | refine Below.drew ?_ | refine Below.alloc ?_ ?_ _ | refine Below.setCell ?_ ?_ _ | exact Nat.le_refl _) | omega | (simp; omega) | (simp; done) | (apply Below.size; assumption)))
  have HS := Lib.hid (hS.kept HB.out (Nat.le_refl _))
  clear hW hS
  go_wp2_with fail
  go_loop [3, 15] (fun v3 v15 => ∃ (k : Nat) (last : Int), v3 = .int .i64 last ∧ v15 = .int .i64 k ∧ k ≤ N.length)
    (fun _ v15 => N.length - (intOf v15).toNat)
  case atStart => exact ⟨0, 0, rfl, rfl, Nat.zero_le _⟩
  case round =>
    obtain ⟨k, last, rfl, rfl, hk⟩ := hrel
    by_cases hlt : k < N.length
    · obtain ⟨ad, rfl, had, _⟩ := HS.out.at hlt
      have e0 : W.cell? (ad.add k) = some (.int .i64 (N.getD k 0)) := by
        have h := HS.out.head hlt (by omega); rw [Nat.mul_one] at h; exact h
      generalize N.getD k 0 = x at e0
      rcases d1 : decide (x ≤ last) with _ | _
      · rcases d2 : decide (p.id ≤ x) with _ | _
        · go_wp2_with fail
          go_round
          case rel => exact ⟨k + 1, x, rfl, by go_num, by omega⟩
          case measure => simp [intOf]; omega
        · go_wp2
          go_ret
          exact ⟨⟨370, rfl, fun h => by cases h⟩, HB.out⟩
      · go_wp2
        go_ret
        exact ⟨⟨370, rfl, fun h => by cases h⟩, HB.out⟩
    · obtain rfl : k = N.length := by omega
      clear HS
      go_upto_region 11 with fail
      go_cut [6] from 30 to 47 (fun s6 wx => wx = W ∧ ∃ b, s6 = .bool b ∧ Hid (b = true → 0 ≤ p.sign ∧ p.sign ≤ 1048576))
      case first =>
        rcases d1 : decide (1 ≤ p.id) with _ | _
        · go_wp2_with fail
          go_meet
          case rel => exact ⟨rfl, false, rfl, fun h => by cases h⟩
        rcases d2 : decide (p.id ≤ 1048576) with _ | _
        · go_wp2_with fail
          go_meet
          case rel => exact ⟨rfl, false, rfl, fun h => by cases h⟩
        rcases d3 : decide (0 ≤ p.sign) with _ | _
        · go_wp2_with fail
          go_meet
          case rel => exact ⟨rfl, false, rfl, fun h => by cases h⟩
        rcases d4 : decide (p.sign ≤ 1048576) with _ | _
        · go_wp2_with fail
          go_meet
          case rel => exact ⟨rfl, false, rfl, fun h => by cases h⟩
        have HH := Lib.hid (And.intro (of_decide_eq_true d3) (of_decide_eq_true d4))
        go_wp2_with fail
        go_meet
        case rel => exact ⟨rfl, true, rfl, fun _ => HH.out⟩
      case rest =>
        obtain ⟨rfl, b, rfl, HR⟩ := hcut
        by_cases k1 : p.kind = 1
        · have j1 : (p.kind == 1) = true := by simp [k1]
          obtain ⟨f1, f2⟩ := hkf k1
          have g1 : decide (p.field < 1) = false := by simp; omega
          have g2 : decide (9 < p.field) = false := by simp; omega
          have HK := Lib.hid k1
          clear k1
          cases b
          · go_wp2
            go_ret
            exact ⟨⟨370, rfl, fun h => by cases h⟩, by have := HB.out; (repeat' first | (with_reducible first | exact Below.refl _ _ | assumption | refine Kit.below_drewN ?_ _ | refine Below.drew ?_ | refine Below.alloc ?_ ?_ _ | refine Below.setCell ?_ ?_ _ | exact Nat.le_refl _) | omega | (simp; omega) | (simp; done) | (apply Below.size; assumption))⟩
          · obtain ⟨f, hf⟩ : ∃ f : Nat, p.field = f := ⟨p.field.toNat, by omega⟩
            rw [hf] at q3 g1 g2
            have hfb : 4 ≤ f ∧ f ≤ 8 := by omega
            have HF := Lib.hid hf
            have HPO := Lib.hid (fun (h : Id.form (Id.setF f Id.plainSg p.new) = true) => show Id.PtOk p from ⟨HR.out rfl, .inl ⟨HK.out, by rw [HF.out, Int.toNat_natCast]; exact h⟩⟩)
            clear hf hkf HK HF HR
            go_upto_region 18 with fail
            refine Kit.wp_name ?_
            intro W1 hW1
            have sW1 : W1.heap.size = w.heap.size + 2 := by rw [hW1]; simp; omega
            have hb1 : Below wc.heap.size wc W1 := by rw [hW1]; (repeat' first | (with_reducible first | exact Below.refl _ _ | assumption | refine Kit.below_drewN ?_ _ | refine Below.drew ?_ | refine Below.alloc ?_ ?_ _ | refine Below.setCell ?_ ?_ _ | exact Nat.le_refl _) | omega | (simp; omega) | (simp; done) | (apply Below.size; assumption))
            have r0 : W1.cell? ⟨w.heap.size + 1, 0, none⟩ = some (.int .i64 0) := by rw [hW1, ← sW]; simp [go_sem]
            have r1 : W1.cell? ⟨w.heap.size + 1, 1, none⟩ = some (.int .i64 0) := by rw [hW1, ← sW]; simp [go_sem]
            have r2 : W1.cell? ⟨w.heap.size + 1, 2, none⟩ = some (.int .i64 0) := by rw [hW1, ← sW]; simp [go_sem]
            have r3 : W1.cell? ⟨w.heap.size + 1, 3, none⟩ = some (.int .i64 3) := by rw [hW1, ← sW]; simp [go_sem]
            have r4 : W1.cell? ⟨w.heap.size + 1, 4, none⟩ = some (.int .i64 9) := by rw [hW1, ← sW]; simp [go_sem]
            have r5 : W1.cell? ⟨w.heap.size + 1, 5, none⟩ = some (.int .i64 0) := by rw [hW1, ← sW]; simp [go_sem]
            have r6 : W1.cell? ⟨w.heap.size + 1, 6, none⟩ = some (.int .i64 0) := by rw [hW1, ← sW]; simp [go_sem]
            have r7 : W1.cell? ⟨w.heap.size + 1, 7, none⟩ = some (.int .i64 0) := by rw [hW1, ← sW]; simp [go_sem]
            have r8 : W1.cell? ⟨w.heap.size + 1, 8, none⟩ = some (.int .i64 0) := by rw [hW1, ← sW]; simp [go_sem]
            have r9 : W1.cell? ⟨w.heap.size + 1, 9, none⟩ = some (.int .i64 0) := by rw [hW1, ← sW]; simp [go_sem]
            have r10 : W1.cell? ⟨w.heap.size + 1, 10, none⟩ = some (.int .i64 0) := by rw [hW1, ← sW]; simp [go_sem]
            have r11 : W1.cell? ⟨w.heap.size + 1, 11, none⟩ = some (.int .i64 1) := by rw [hW1, ← sW]; simp [go_sem]
            have r12 : W1.cell? ⟨w.heap.size + 1, 12, none⟩ = some (.int .i64 1) := by rw [hW1, ← sW]; simp [go_sem]
            have r13 : W1.cell? ⟨w.heap.size + 1, 13, none⟩ = some (.int .i64 2) := by rw [hW1, ← sW]; simp [go_sem]
            replace q0 := (hb1.cell (show w.heap.size < wc.heap.size by omega)).trans q0
            replace q1 := (hb1.cell (show w.heap.size < wc.heap.size by omega)).trans q1
            replace q2 := (hb1.cell (show w.heap.size < wc.heap.size by omega)).trans q2
            replace q3 := (hb1.cell (show w.heap.size < wc.heap.size by omega)).trans q3
            replace q4 := (hb1.cell (show w.heap.size < wc.heap.size by omega)).trans q4
            replace q5 := (hb1.cell (show w.heap.size < wc.heap.size by omega)).trans q5
            replace q6 := (hb1.cell (show w.heap.size < wc.heap.size by omega)).trans q6
            replace q7 := (hb1.cell (show w.heap.size < wc.heap.size by omega)).trans q7
            replace q8 := (hb1.cell (show w.heap.size < wc.heap.size by omega)).trans q8
            replace q9 := (hb1.cell (show w.heap.size < wc.heap.size by omega)).trans q9
            replace q10 := (hb1.cell (show w.heap.size < wc.heap.size by omega)).trans q10
            replace q11 := (hb1.cell (show w.heap.size < wc.heap.size by omega)).trans q11
            replace q12 := (hb1.cell (show w.heap.size < wc.heap.size by omega)).trans q12
            replace q13 := (hb1.cell (show w.heap.size < wc.heap.size by omega)).trans q13
            replace q14 := (hb1.cell (show w.heap.size < wc.heap.size by omega)).trans q14
            replace q15 := (hb1.cell (show w.heap.size < wc.heap.size by omega)).trans q15
            replace q16 := (hb1.cell (show w.heap.size < wc.heap.size by omega)).trans q16
            replace q17 := (hb1.cell (show w.heap.size < wc.heap.size by omega)).trans q17
            replace q18 := (hb1.cell (show w.heap.size < wc.heap.size by omega)).trans q18
            have HB1 := Lib.hid (HB.out.trans (hb1.mono HB.out.size))
            clear hW1 hb1 sW HB
            go_wp2_with fail
            refine (pa_set p.new Id.sg0 f hfb _).mono ?_
            rintro _ w2 ⟨rfl, hb2⟩
            have HB2 := Lib.hid (HB1.out.trans (hb2.mono HB1.out.size))
            replace q0 := (hb2.cell (show w.heap.size < W1.heap.size by omega)).trans q0
            replace q1 := (hb2.cell (show w.heap.size < W1.heap.size by omega)).trans q1
            replace q2 := (hb2.cell (show w.heap.size < W1.heap.size by omega)).trans q2
            replace q3 := (hb2.cell (show w.heap.size < W1.heap.size by omega)).trans q3
            replace q4 := (hb2.cell (show w.heap.size < W1.heap.size by omega)).trans q4
            replace q5 := (hb2.cell (show w.heap.size < W1.heap.size by omega)).trans q5
            replace q6 := (hb2.cell (show w.heap.size < W1.heap.size by omega)).trans q6
            replace q7 := (hb2.cell (show w.heap.size < W1.heap.size by omega)).trans q7
            replace q8 := (hb2.cell (show w.heap.size < W1.heap.size by omega)).trans q8
            replace q9 := (hb2.cell (show w.heap.size < W1.heap.size by omega)).trans q9
            replace q10 := (hb2.cell (show w.heap.size < W1.heap.size by omega)).trans q10
            replace q11 := (hb2.cell (show w.heap.size < W1.heap.size by omega)).trans q11
            replace q12 := (hb2.cell (show w.heap.size < W1.heap.size by omega)).trans q12
            replace q13 := (hb2.cell (show w.heap.size < W1.heap.size by omega)).trans q13
            replace q14 := (hb2.cell (show w.heap.size < W1.heap.size by omega)).trans q14
            replace q15 := (hb2.cell (show w.heap.size < W1.heap.size by omega)).trans q15
            replace q16 := (hb2.cell (show w.heap.size < W1.heap.size by omega)).trans q16
            replace q17 := (hb2.cell (show w.heap.size < W1.heap.size by omega)).trans q17
            replace q18 := (hb2.cell (show w.heap.size < W1.heap.size by omega)).trans q18
            replace r0 := (hb2.cell (show w.heap.size + 1 < W1.heap.size by omega)).trans r0
            replace r1 := (hb2.cell (show w.heap.size + 1 < W1.heap.size by omega)).trans r1
            replace r2 := (hb2.cell (show w.heap.size + 1 < W1.heap.size by omega)).trans r2
            replace r3 := (hb2.cell (show w.heap.size + 1 < W1.heap.size by omega)).trans r3
            replace r4 := (hb2.cell (show w.heap.size + 1 < W1.heap.size by omega)).trans r4
            replace r5 := (hb2.cell (show w.heap.size + 1 < W1.heap.size by omega)).trans r5
            replace r6 := (hb2.cell (show w.heap.size + 1 < W1.heap.size by omega)).trans r6
            replace r7 := (hb2.cell (show w.heap.size + 1 < W1.heap.size by omega)).trans r7
            replace r8 := (hb2.cell (show w.heap.size + 1 < W1.heap.size by omega)).trans r8
            replace r9 := (hb2.cell (show w.heap.size + 1 < W1.heap.size by omega)).trans r9
            replace r10 := (hb2.cell (show w.heap.size + 1 < W1.heap.size by omega)).trans r10
            replace r11 := (hb2.cell (show w.heap.size + 1 < W1.heap.size by omega)).trans r11
            replace r12 := (hb2.cell (show w.heap.size + 1 < W1.heap.size by omega)).trans r12
            replace r13 := (hb2.cell (show w.heap.size + 1 < W1.heap.size by omega)).trans r13
            clear hb2 HB1 sW1
            generalize Id.setF f p.new Id.sg0 = X
            have HEQ := Lib.hid (Id.eq_sg X)
            have HST := Lib.hid (fun W => pa_set Id.plainSg p.new f hfb W)
            have HFM := Lib.hid (fun W => pa_form (Id.setF f Id.plainSg p.new) W)
            rcases hz : Id.isZ X with _ | _
            · have heq : ∀ W, (Op.equalIn 10000 49 (Id.sgV X) (.agg #[.int .i64 0, .int .i64 0, .int .i64 0, .int .i64 0, .int .i64 0, .int .i64 0, .int .i64 0, .int .i64 0, .int .i64 0, .int .i64 0, .int .i64 0, .int .i64 0, .int .i64 0, .int .i64 0])).run Try.prog W = .ok false W := by rw [hz] at HEQ; exact HEQ.out
              clear HEQ HST HFM hz HPO
              go_wp2
              go_ret
              exact ⟨⟨370, rfl, fun h => by cases h⟩, HB2.out⟩
            have heq : ∀ W, (Op.equalIn 10000 49 (Id.sgV X) (.agg #[.int .i64 0, .int .i64 0, .int .i64 0, .int .i64 0, .int .i64 0, .int .i64 0, .int .i64 0, .int .i64 0, .int .i64 0, .int .i64 0, .int .i64 0, .int .i64 0, .int .i64 0, .int .i64 0])).run Try.prog W = .ok true W := by rw [hz] at HEQ; exact HEQ.out
            clear HEQ hz
            go_wp2_with fail
            refine (HST.out _).mono ?_
            rintro _ w3 ⟨rfl, hb3⟩
            have HB3 := Lib.hid (HB2.out.trans (hb3.mono HB2.out.size))
            clear hb3 heq q0 q1 q2 q3 q4 q5 q6 q7 q8 q9 q10 q11 q12 q13 q14 q15 q16 q17 q18 r0 r1 r2 r3 r4 r5 r6 r7 r8 r9 r10 r11 r12 r13 HST
            go_wp2_with fail
            refine (HFM.out _).mono ?_
            rintro _ w4 ⟨rfl, hb4⟩
            have HB4 := Lib.hid (HB3.out.trans (hb4.mono HB3.out.size))
            clear hb4 HFM
            rcases hfm : Id.form (Id.setF f Id.plainSg p.new) with _ | _
            · clear hfm HPO
              go_wp2
              go_ret
              exact ⟨⟨370, rfl, fun h => by cases h⟩, HB4.out⟩
            · have HP2 := Lib.hid (HPO.out hfm)
              clear hfm HPO
              go_wp2
              go_ret
              exact ⟨⟨0, rfl, fun _ => HP2.out⟩, HB4.out⟩
        · have j1 : (p.kind == 1) = false := by simpa using k1
          have j2 : (p.kind == 2) = false := by simpa using hk2
          by_cases k3 : p.kind = 3
          · have j3 : (p.kind == 3) = true := by simp [k3]
            have HK := Lib.hid k3
            cases b
            · go_wp2
              go_ret
              exact ⟨⟨370, rfl, fun h => by cases h⟩, HB.out⟩
            · rcases j4 : (p.field == 0) with _ | _
              · go_wp2
                go_ret
                exact ⟨⟨370, rfl, fun h => by cases h⟩, HB.out⟩
              · have HEQ := Lib.hid (Id.eq_sg p.new)
                rcases hz : Id.isZ p.new with _ | _
                · have heq : ∀ W, (Op.equalIn 10000 49 (Id.sgV p.new) (.agg #[.int .i64 0, .int .i64 0, .int .i64 0, .int .i64 0, .int .i64 0, .int .i64 0, .int .i64 0, .int .i64 0, .int .i64 0, .int .i64 0, .int .i64 0, .int .i64 0, .int .i64 0, .int .i64 0])).run Try.prog W = .ok false W := by rw [hz] at HEQ; exact HEQ.out
                  clear HEQ hz
                  go_wp2
                  go_ret
                  exact ⟨⟨370, rfl, fun h => by cases h⟩, HB.out⟩
                · have heq : ∀ W, (Op.equalIn 10000 49 (Id.sgV p.new) (.agg #[.int .i64 0, .int .i64 0, .int .i64 0, .int .i64 0, .int .i64 0, .int .i64 0, .int .i64 0, .int .i64 0, .int .i64 0, .int .i64 0, .int .i64 0, .int .i64 0, .int .i64 0, .int .i64 0])).run Try.prog W = .ok true W := by rw [hz] at HEQ; exact HEQ.out
                  clear HEQ hz
                  go_wp2
                  go_ret
                  exact ⟨⟨0, rfl, fun _ => ⟨HR.out trivial, .inr HK.out⟩⟩, HB.out⟩
          · have j3 : (p.kind == 3) = false := by simpa using k3
            go_wp2
            go_ret
            exact ⟨⟨370, rfl, fun h => by cases h⟩, HB.out⟩
end Go.Proofs.Ytdaedjmkolcliaa
