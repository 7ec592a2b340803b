/- Walks: package edits: Check. -/
import Derived.Test.YtdaedjmkolcliaaIdI
import Derived.Test.YtdaedjmkolcliaaKixz
import Derived.Deep.CutRange
namespace Go.Proofs.Ytdaedjmkolcliaa
set_option linter.unusedVariables false
set_option linter.unusedSimpArgs false
open Go.RowKit Go.Shelf

namespace Id
instance : Inhabited Sg := ⟨⟨0, 0, 0, 0, 0, 0, 0, 0, 0, 0, 0, 0, 0, 0⟩⟩
def sgF (s : Sg) (j : Nat) : Int := match j with | 0 => s.id | 1 => s.role | 2 => s.bar | 3 => s.mark | 4 => s.kind | 5 => s.side | 6 => s.dir | 7 => s.level | 8 => s.size | 9 => s.wth | 10 => s.fn | 11 => s.fd | 12 => s.tn | _ => s.td
/-- The cells of signs. -/
def sgc (l : List Sg) (i j : Nat) : Value := .int .i64 (sgF (l.getD i default) j)
/-- Are signs in form, and in the order of their IDs? -/
def vE : Int → List Sg → Bool
  | _, [] => true
  | last, s :: l => form s && decide (last < s.id) && vE s.id l
/-- What Check of signs says. -/
def chk (l : List Sg) : Int := if 4096 < l.length then 2 else if vE (-1) l = true then 0 else 360
def lastId (l : List Sg) (k : Nat) : Int := if k = 0 then -1 else (l.getD (k - 1) default).id
end Id
set_option maxRecDepth 100000 in
set_option maxHeartbeats 2000000 in
theorem ed_check (a : Option Addr) (l : List Id.Sg) (c : Nat) (w : World) (hS : Tp.Sl w a l.length 14 (Id.sgc l)) (hl : l.length ≤ 4611686018427387904) : Calls Try.prog 30 #[.slice a l.length c] w fun e w' => e = .returned (.int .i64 (Id.chk l)) ∧ Below w.heap.size w w' := by
  have HS := Lib.hid hS
  have HF := Lib.hid (fun s W => ed_form s W)
  clear hS
  unfold Id.chk
  by_cases h4 : 4096 < l.length
  · rw [if_pos h4]
    go_enter Try.func30, Try.ntmps30
    go_wp2
    go_ret
    exact ⟨rfl, Below.refl _ _⟩
  rw [if_neg h4]
  obtain ⟨r, hr⟩ : ∃ r, (if Id.vE (-1) l = true then (0 : Int) else 360) = r := ⟨_, rfl⟩
  rw [hr]
  have HRR := Lib.hid hr
  clear hr
  go_enter Try.func30, Try.ntmps30
  go_wp2
  go_loopw [10] (fun v10 wr => ∃ k : Nat, v10 = .int .i64 k ∧ k ≤ l.length ∧ Hid (Id.vE (-1) l = Id.vE (Id.lastId l k) (l.drop k)) ∧ Hid (Below w.heap.size w wr))
    (fun v10 _ => l.length - (intOf v10).toNat)
  case atStart => exact ⟨0, rfl, Nat.zero_le _, rfl, Below.refl _ _⟩
  case round =>
    obtain ⟨k, rfl, hk, HV, HB⟩ := hrel
    by_cases hlt : k < l.length
    · obtain ⟨ad, rfl, had, _⟩ := HS.out.at hlt
      have h := HS.out.kept HB.out (Nat.le_refl _)
      have e0 := h.head hlt (by omega)
      have e1 := h.field hlt (j := 1) (by omega) (by omega)
      have e2 := h.field hlt (j := 2) (by omega) (by omega)
      have e3 := h.field hlt (j := 3) (by omega) (by omega)
      have e4 := h.field hlt (j := 4) (by omega) (by omega)
      have e5 := h.field hlt (j := 5) (by omega) (by omega)
      have e6 := h.field hlt (j := 6) (by omega) (by omega)
      have e7 := h.field hlt (j := 7) (by omega) (by omega)
      have e8 := h.field hlt (j := 8) (by omega) (by omega)
      have e9 := h.field hlt (j := 9) (by omega) (by omega)
      have e10 := h.field hlt (j := 10) (by omega) (by omega)
      have e11 := h.field hlt (j := 11) (by omega) (by omega)
      have e12 := h.field hlt (j := 12) (by omega) (by omega)
      have e13 := h.field hlt (j := 13) (by omega) (by omega)
      have hV := HV.out
      rw [Tp.drop_cons l default k hlt] at hV
      have hnx : Id.lastId l (k + 1) = (l.getD k default).id := by simp [Id.lastId]
      have hpv : 0 < k → wr.cell? (ad.add ((k - 1) * 14)) = some (.int .i64 (Id.lastId l k)) := fun hp => by
        have := h.head (i := k - 1) (by omega) (by omega)
        rw [this]
        simp [Id.sgc, Id.sgF, Id.lastId, show ¬ k = 0 by omega]
      generalize hs : l.getD k default = s at hV hnx
      simp only [Id.sgc, hs, Id.sgF] at e0 e1 e2 e3 e4 e5 e6 e7 e8 e9 e10 e11 e12 e13
      have HV2 := Lib.hid (show Id.vE (-1) l = (Id.form s && decide (Id.lastId l k < s.id) && Id.vE (Id.lastId l (k + 1)) (l.drop (k + 1))) by rw [hnx]; exact hV)
      have HN := Lib.hid hnx
      clear h hV hs HV hnx
      go_upto_region 6 with fail
      refine Kit.wp_name ?_
      intro W0 hW0
      have HB0 := Lib.hid (show Below w.heap.size w W0 by rw [hW0]; exact HB.out.alloc HB.out.size _)
      have HX0 := Lib.hid (show Kit.Exc (fun _ => False) wr W0 by rw [hW0]; exact (Kit.Exc.refl _ _).alloc _)
      have HSA := Lib.hid (show W0.heap[wr.heap.size]? = some (.cells #[.int .i64 s.id, .int .i64 s.role, .int .i64 s.bar, .int .i64 s.mark, .int .i64 s.kind, .int .i64 s.side, .int .i64 s.dir, .int .i64 s.level, .int .i64 s.size, .int .i64 s.wth, .int .i64 s.fn, .int .i64 s.fd, .int .i64 s.tn, .int .i64 s.td] 49 (0, 0)) by rw [hW0]; exact World.alloc_heap_new _ _)
      clear hW0 e0 e1 e2 e3 e4 e5 e6 e7 e8 e9 e10 e11 e12 e13
      rcases hfm : Id.form s with _ | _
      · refine Kit.wp_region_valg 18 [([(4, none)], none, true), ([(15, some 0)], none, true), ([(16, some 1)], none, true), ([(17, some 2)], none, true), ([(3, none)], some (3, false), false), ([(19, some 4)], some (3, false), false), ([(20, some 5)], some (3, false), false), ([(0, none)], some (6, true), false), ([(3, none)], some (6, true), false), ([(23, some 8)], some (6, true), false), ([(22, some 7), (24, some 9)], some (6, true), false), ([(25, some 10)], some (6, true), false), ([(26, some 11)], some (6, true), false), ([(4, none)], some (6, true), false), ([(28, some 13)], some (6, true), false), ([(27, some 12), (29, some 14)], some (6, true), false), ([(21, some 6), (30, some 15)], some (3, false), false), ([(18, some 3), (31, some 16)], none, true)]
          [some 15, some 16, some 17, some 18, some 19, some 20, some 21, some 22, some 23, some 24, some 25, some 26, some 27, some 28, some 29, some 30, some 31, some 32] rfl (by kernel_rfl) (by kernel_rfl) (Kit.Exc (fun _ => False)) (fun i' v w' => match i' with
            | 0 => v = .agg #[.int .i64 s.id, .int .i64 s.role, .int .i64 s.bar, .int .i64 s.mark, .int .i64 s.kind, .int .i64 s.side, .int .i64 s.dir, .int .i64 s.level, .int .i64 s.size, .int .i64 s.wth, .int .i64 s.fn, .int .i64 s.fd, .int .i64 s.tn, .int .i64 s.td]
            | 1 => v = .bool false
            | 2 => v = .bool true
            | 3 => v = .bool true
            | 4 => v = undef
            | 5 => v = undef
            | 6 => v = undef
            | 7 => v = undef
            | 8 => v = undef
            | 9 => v = undef
            | 10 => v = undef
            | 11 => v = undef
            | 12 => v = undef
            | 13 => v = undef
            | 14 => v = undef
            | 15 => v = undef
            | 16 => v = undef
            | _ => v = .bool true)
          (fun h k => h.trans k) (Kit.Exc.refl _ _).drew (fun _ => Kit.Exc.refl _ _) ?_ ?_ ?_
        · intro i' v A B h1 h2 h3
          split at h3 <;> exact h3
        · simp only [List.take_succ_cons, List.take_zero, Kit.StepsG, Kit.GOp, Kit.RdP, true_and, if_true, and_true, if_false, Bool.false_eq_true]
          refine ⟨?_, ?_, ?_, ?_, ?_, ?_, ?_, ?_, ?_, ?_, ?_, ?_, ?_, ?_, ?_, ?_, ?_, ?_⟩
          · intro ev w1 hx1 hv hc hf hg'
            have o1 := hx1.heap HSA.out (fun h => h)
            have y0 : w1.cell? ⟨wr.heap.size, 0, none⟩ = some (.int .i64 s.id) := by simp [World.cell?, o1]
            have y1 : w1.cell? ⟨wr.heap.size, 1, none⟩ = some (.int .i64 s.role) := by simp [World.cell?, o1]
            have y2 : w1.cell? ⟨wr.heap.size, 2, none⟩ = some (.int .i64 s.bar) := by simp [World.cell?, o1]
            have y3 : w1.cell? ⟨wr.heap.size, 3, none⟩ = some (.int .i64 s.mark) := by simp [World.cell?, o1]
            have y4 : w1.cell? ⟨wr.heap.size, 4, none⟩ = some (.int .i64 s.kind) := by simp [World.cell?, o1]
            have y5 : w1.cell? ⟨wr.heap.size, 5, none⟩ = some (.int .i64 s.side) := by simp [World.cell?, o1]
            have y6 : w1.cell? ⟨wr.heap.size, 6, none⟩ = some (.int .i64 s.dir) := by simp [World.cell?, o1]
            have y7 : w1.cell? ⟨wr.heap.size, 7, none⟩ = some (.int .i64 s.level) := by simp [World.cell?, o1]
            have y8 : w1.cell? ⟨wr.heap.size, 8, none⟩ = some (.int .i64 s.size) := by simp [World.cell?, o1]
            have y9 : w1.cell? ⟨wr.heap.size, 9, none⟩ = some (.int .i64 s.wth) := by simp [World.cell?, o1]
            have y10 : w1.cell? ⟨wr.heap.size, 10, none⟩ = some (.int .i64 s.fn) := by simp [World.cell?, o1]
            have y11 : w1.cell? ⟨wr.heap.size, 11, none⟩ = some (.int .i64 s.fd) := by simp [World.cell?, o1]
            have y12 : w1.cell? ⟨wr.heap.size, 12, none⟩ = some (.int .i64 s.tn) := by simp [World.cell?, o1]
            have y13 : w1.cell? ⟨wr.heap.size, 13, none⟩ = some (.int .i64 s.td) := by simp [World.cell?, o1]
            simp at hv
            simp [execOp, hv, go_sem, Kit.UponV, Kit.Exc.refl, y0, y1, y2, y3, y4, y5, y6, y7, y8, y9, y10, y11, y12, y13]
          · intro ev w1 hx1 hv hc hf hg'
            simp [execOp, hv, hc, hf, go_sem, Kit.UponV]
            refine (HF.out s w1).mono ?_
            rintro e w' ⟨rfl, hb⟩
            exact ⟨_, rfl, by rw [hfm], (Kit.Exc.refl _ _).then hb⟩
          · intro ev w1 hx1 hv hc hf hg'
            first | (simp [execOp, hv, hc, go_sem, Kit.UponV, Kit.Exc.refl]; done) | (simp at hv; simp [execOp, hv, go_sem, Kit.UponV, Kit.Exc.refl])
          · intro ev w1 hx1 hv hc hf hg'
            first | (simp [execOp, hv, hc, go_sem, Kit.UponV, Kit.Exc.refl]; done) | (simp at hv; simp [execOp, hv, go_sem, Kit.UponV, Kit.Exc.refl])
          · exact ⟨fun v w _ h => .inl ⟨_, h, rfl⟩, fun _ _ _ _ _ _ _ => by first | trivial | rfl⟩
          · exact ⟨fun v w _ h => .inl ⟨_, h, rfl⟩, fun _ _ _ _ _ _ _ => by first | trivial | rfl⟩
          · exact ⟨fun v w _ h => .inl ⟨_, h, rfl⟩, fun _ _ _ _ _ _ _ => by first | trivial | rfl⟩
          · exact ⟨fun v w _ h => (by first | exact .inr h | exact .inr ⟨h, rfl⟩), fun _ _ _ _ _ _ _ => by first | trivial | rfl⟩
          · exact ⟨fun v w _ h => (by first | exact .inr h | exact .inr ⟨h, rfl⟩), fun _ _ _ _ _ _ _ => by first | trivial | rfl⟩
          · exact ⟨fun v w _ h => (by first | exact .inr h | exact .inr ⟨h, rfl⟩), fun _ _ _ _ _ _ _ => by first | trivial | rfl⟩
          · exact ⟨fun v w _ h => (by first | exact .inr h | exact .inr ⟨h, rfl⟩), fun _ _ _ _ _ _ _ => by first | trivial | rfl⟩
          · exact ⟨fun v w _ h => (by first | exact .inr h | exact .inr ⟨h, rfl⟩), fun _ _ _ _ _ _ _ => by first | trivial | rfl⟩
          · exact ⟨fun v w _ h => (by first | exact .inr h | exact .inr ⟨h, rfl⟩), fun _ _ _ _ _ _ _ => by first | trivial | rfl⟩
          · exact ⟨fun v w _ h => (by first | exact .inr h | exact .inr ⟨h, rfl⟩), fun _ _ _ _ _ _ _ => by first | trivial | rfl⟩
          · exact ⟨fun v w _ h => (by first | exact .inr h | exact .inr ⟨h, rfl⟩), fun _ _ _ _ _ _ _ => by first | trivial | rfl⟩
          · exact ⟨fun v w _ h => (by first | exact .inr h | exact .inr ⟨h, rfl⟩), fun _ _ _ _ _ _ _ => by first | trivial | rfl⟩
          · exact ⟨fun v w _ h => .inl ⟨_, h, rfl⟩, fun _ _ _ _ _ _ _ => by first | trivial | rfl⟩
          · intro ev w1 hx1 hv hc hf hg'
            first | (simp [execOp, hv, hc, go_sem, Kit.UponV, Kit.Exc.refl]; done) | (simp at hv; simp [execOp, hv, go_sem, Kit.UponV, Kit.Exc.refl])
        · intro vs w1 hv hx1
          have v0 : vs 0 = _ := hv 0 (by omega)
          have v1 : vs 1 = _ := hv 1 (by omega)
          have v2 : vs 2 = _ := hv 2 (by omega)
          have v3 : vs 3 = _ := hv 3 (by omega)
          have v4 : vs 4 = _ := hv 4 (by omega)
          have v5 : vs 5 = _ := hv 5 (by omega)
          have v6 : vs 6 = _ := hv 6 (by omega)
          have v7 : vs 7 = _ := hv 7 (by omega)
          have v8 : vs 8 = _ := hv 8 (by omega)
          have v9 : vs 9 = _ := hv 9 (by omega)
          have v10 : vs 10 = _ := hv 10 (by omega)
          have v11 : vs 11 = _ := hv 11 (by omega)
          have v12 : vs 12 = _ := hv 12 (by omega)
          have v13 : vs 13 = _ := hv 13 (by omega)
          have v14 : vs 14 = _ := hv 14 (by omega)
          have v15 : vs 15 = _ := hv 15 (by omega)
          have v16 : vs 16 = _ := hv 16 (by omega)
          have v17 : vs 17 = _ := hv 17 (by omega)
          clear hv
          simp only [Kit.putD, List.getD_cons_zero, List.getD_cons_succ, Act.put, v0, v1, v2, v3, v4, v5, v6, v7, v8, v9, v10, v11, v12, v13, v14, v15, v16, v17, List.drop_succ_cons, List.drop_zero]
          go_simp
          clear v0 v1 v2 v3 v4 v5 v6 v7 v8 v9 v10 v11 v12 v13 v14 v15 v16 v17
          have HB1 := Lib.hid (HB0.out.trans (hx1.below (n := w.heap.size) HB0.out.size (fun _ h => h.elim)))
          clear hx1
          have HR := Lib.hid (show Id.vE (-1) l = false by rw [HV2.out, hfm]; rfl)
          go_wp2
          go_ret
          exact ⟨by rw [← HRR.out, HR.out]; rfl, HB1.out⟩
      · by_cases hk0 : k = 0
        · have d0 : decide ((0 : Int) < (k : Int)) = false := by simp; omega
          have dlt : Id.vE (-1) l = Id.vE (Id.lastId l (k + 1)) (l.drop (k + 1)) := by
            rw [HV2.out, hfm, hk0]
            have : (0 : Int) ≤ s.id := by have h := hfm; simp only [Id.form, Bool.and_eq_true, Tp.inb_iff] at h; omega
            simp [Id.lastId]; intro h; omega
          have HR := Lib.hid dlt
          clear dlt
          refine Kit.wp_region_valg 18 [([(4, none)], none, true), ([(15, some 0)], none, true), ([(16, some 1)], none, true), ([(17, some 2)], none, true), ([(3, none)], some (3, false), true), ([(19, some 4)], some (3, false), true), ([(20, some 5)], some (3, false), true), ([(0, none)], some (6, true), false), ([(3, none)], some (6, true), false), ([(23, some 8)], some (6, true), false), ([(22, some 7), (24, some 9)], some (6, true), false), ([(25, some 10)], some (6, true), false), ([(26, some 11)], some (6, true), false), ([(4, none)], some (6, true), false), ([(28, some 13)], some (6, true), false), ([(27, some 12), (29, some 14)], some (6, true), false), ([(21, some 6), (30, some 15)], some (3, false), true), ([(18, some 3), (31, some 16)], none, true)]
            [some 15, some 16, some 17, some 18, some 19, some 20, some 21, some 22, some 23, some 24, some 25, some 26, some 27, some 28, some 29, some 30, some 31, some 32] rfl (by kernel_rfl) (by kernel_rfl) (Kit.Exc (fun _ => False)) (fun i' v w' => match i' with
              | 0 => v = .agg #[.int .i64 s.id, .int .i64 s.role, .int .i64 s.bar, .int .i64 s.mark, .int .i64 s.kind, .int .i64 s.side, .int .i64 s.dir, .int .i64 s.level, .int .i64 s.size, .int .i64 s.wth, .int .i64 s.fn, .int .i64 s.fd, .int .i64 s.tn, .int .i64 s.td]
              | 1 => v = .bool true
              | 2 => v = .bool false
              | 3 => v = .bool false
              | 4 => v = .int .i64 k
              | 5 => v = .bool false
              | 6 => v = .bool false
              | 7 => v = undef
              | 8 => v = undef
              | 9 => v = undef
              | 10 => v = undef
              | 11 => v = undef
              | 12 => v = undef
              | 13 => v = undef
              | 14 => v = undef
              | 15 => v = undef
              | 16 => v = .bool false
              | _ => v = .bool false)
            (fun h k => h.trans k) (Kit.Exc.refl _ _).drew (fun _ => Kit.Exc.refl _ _) ?_ ?_ ?_
          · intro i' v A B h1 h2 h3
            split at h3 <;> exact h3
          · simp only [List.take_succ_cons, List.take_zero, Kit.StepsG, Kit.GOp, Kit.RdP, true_and, if_true, and_true, if_false, Bool.false_eq_true]
            refine ⟨?_, ?_, ?_, ?_, ?_, ?_, ?_, ?_, ?_, ?_, ?_, ?_, ?_, ?_, ?_, ?_, ?_, ?_⟩
            · intro ev w1 hx1 hv hc hf hg'
              have o1 := hx1.heap HSA.out (fun h => h)
              have y0 : w1.cell? ⟨wr.heap.size, 0, none⟩ = some (.int .i64 s.id) := by simp [World.cell?, o1]
              have y1 : w1.cell? ⟨wr.heap.size, 1, none⟩ = some (.int .i64 s.role) := by simp [World.cell?, o1]
              have y2 : w1.cell? ⟨wr.heap.size, 2, none⟩ = some (.int .i64 s.bar) := by simp [World.cell?, o1]
              have y3 : w1.cell? ⟨wr.heap.size, 3, none⟩ = some (.int .i64 s.mark) := by simp [World.cell?, o1]
              have y4 : w1.cell? ⟨wr.heap.size, 4, none⟩ = some (.int .i64 s.kind) := by simp [World.cell?, o1]
              have y5 : w1.cell? ⟨wr.heap.size, 5, none⟩ = some (.int .i64 s.side) := by simp [World.cell?, o1]
              have y6 : w1.cell? ⟨wr.heap.size, 6, none⟩ = some (.int .i64 s.dir) := by simp [World.cell?, o1]
              have y7 : w1.cell? ⟨wr.heap.size, 7, none⟩ = some (.int .i64 s.level) := by simp [World.cell?, o1]
              have y8 : w1.cell? ⟨wr.heap.size, 8, none⟩ = some (.int .i64 s.size) := by simp [World.cell?, o1]
              have y9 : w1.cell? ⟨wr.heap.size, 9, none⟩ = some (.int .i64 s.wth) := by simp [World.cell?, o1]
              have y10 : w1.cell? ⟨wr.heap.size, 10, none⟩ = some (.int .i64 s.fn) := by simp [World.cell?, o1]
              have y11 : w1.cell? ⟨wr.heap.size, 11, none⟩ = some (.int .i64 s.fd) := by simp [World.cell?, o1]
              have y12 : w1.cell? ⟨wr.heap.size, 12, none⟩ = some (.int .i64 s.tn) := by simp [World.cell?, o1]
              have y13 : w1.cell? ⟨wr.heap.size, 13, none⟩ = some (.int .i64 s.td) := by simp [World.cell?, o1]
              simp at hv
              simp [execOp, hv, go_sem, Kit.UponV, Kit.Exc.refl, y0, y1, y2, y3, y4, y5, y6, y7, y8, y9, y10, y11, y12, y13]
            · intro ev w1 hx1 hv hc hf hg'
              simp [execOp, hv, hc, hf, go_sem, Kit.UponV]
              refine (HF.out s w1).mono ?_
              rintro e w' ⟨rfl, hb⟩
              exact ⟨_, rfl, by rw [hfm], (Kit.Exc.refl _ _).then hb⟩
            · intro ev w1 hx1 hv hc hf hg'
              first | (simp [execOp, hv, hc, go_sem, Kit.UponV, Kit.Exc.refl]; done) | (simp at hv; simp [execOp, hv, go_sem, Kit.UponV, Kit.Exc.refl])
            · intro ev w1 hx1 hv hc hf hg'
              first | (simp [execOp, hv, hc, go_sem, Kit.UponV, Kit.Exc.refl]; done) | (simp at hv; simp [execOp, hv, go_sem, Kit.UponV, Kit.Exc.refl])
            · refine ⟨fun v w _ h => .inl ⟨_, h, rfl⟩, ?_⟩
              intro ev w1 hx1 hv hc hf hg'
              first | (simp [execOp, hv, hc, go_sem, Kit.UponV, Kit.Exc.refl]; done) | (simp at hv; simp [execOp, hv, go_sem, Kit.UponV, Kit.Exc.refl])
            · refine ⟨fun v w _ h => .inl ⟨_, h, rfl⟩, ?_⟩
              intro ev w1 hx1 hv hc hf hg'
              simp [execOp, hv, hc, go_sem, Kit.UponV, Kit.Exc.refl] <;> omega
            · refine ⟨fun v w _ h => .inl ⟨_, h, rfl⟩, ?_⟩
              intro ev w1 hx1 hv hc hf hg'
              first | (simp [execOp, hv, hc, go_sem, Kit.UponV, Kit.Exc.refl]; done) | (simp at hv; simp [execOp, hv, go_sem, Kit.UponV, Kit.Exc.refl])
            · exact ⟨fun v w _ h => .inl ⟨_, h, rfl⟩, fun _ _ _ _ _ _ _ => by first | trivial | rfl⟩
            · exact ⟨fun v w _ h => .inl ⟨_, h, rfl⟩, fun _ _ _ _ _ _ _ => by first | trivial | rfl⟩
            · exact ⟨fun v w _ h => .inl ⟨_, h, rfl⟩, fun _ _ _ _ _ _ _ => by first | trivial | rfl⟩
            · exact ⟨fun v w _ h => .inl ⟨_, h, rfl⟩, fun _ _ _ _ _ _ _ => by first | trivial | rfl⟩
            · exact ⟨fun v w _ h => .inl ⟨_, h, rfl⟩, fun _ _ _ _ _ _ _ => by first | trivial | rfl⟩
            · exact ⟨fun v w _ h => .inl ⟨_, h, rfl⟩, fun _ _ _ _ _ _ _ => by first | trivial | rfl⟩
            · exact ⟨fun v w _ h => .inl ⟨_, h, rfl⟩, fun _ _ _ _ _ _ _ => by first | trivial | rfl⟩
            · exact ⟨fun v w _ h => .inl ⟨_, h, rfl⟩, fun _ _ _ _ _ _ _ => by first | trivial | rfl⟩
            · exact ⟨fun v w _ h => .inl ⟨_, h, rfl⟩, fun _ _ _ _ _ _ _ => by first | trivial | rfl⟩
            · refine ⟨fun v w _ h => .inl ⟨_, h, rfl⟩, ?_⟩
              intro ev w1 hx1 hv hc hf hg'
              first | (simp [execOp, hv, hc, go_sem, Kit.UponV, Kit.Exc.refl]; done) | (simp at hv; simp [execOp, hv, go_sem, Kit.UponV, Kit.Exc.refl])
            · intro ev w1 hx1 hv hc hf hg'
              first | (simp [execOp, hv, hc, go_sem, Kit.UponV, Kit.Exc.refl]; done) | (simp at hv; simp [execOp, hv, go_sem, Kit.UponV, Kit.Exc.refl])
          · intro vs w1 hv hx1
            have v0 : vs 0 = _ := hv 0 (by omega)
            have v1 : vs 1 = _ := hv 1 (by omega)
            have v2 : vs 2 = _ := hv 2 (by omega)
            have v3 : vs 3 = _ := hv 3 (by omega)
            have v4 : vs 4 = _ := hv 4 (by omega)
            have v5 : vs 5 = _ := hv 5 (by omega)
            have v6 : vs 6 = _ := hv 6 (by omega)
            have v7 : vs 7 = _ := hv 7 (by omega)
            have v8 : vs 8 = _ := hv 8 (by omega)
            have v9 : vs 9 = _ := hv 9 (by omega)
            have v10 : vs 10 = _ := hv 10 (by omega)
            have v11 : vs 11 = _ := hv 11 (by omega)
            have v12 : vs 12 = _ := hv 12 (by omega)
            have v13 : vs 13 = _ := hv 13 (by omega)
            have v14 : vs 14 = _ := hv 14 (by omega)
            have v15 : vs 15 = _ := hv 15 (by omega)
            have v16 : vs 16 = _ := hv 16 (by omega)
            have v17 : vs 17 = _ := hv 17 (by omega)
            clear hv
            simp only [Kit.putD, List.getD_cons_zero, List.getD_cons_succ, Act.put, v0, v1, v2, v3, v4, v5, v6, v7, v8, v9, v10, v11, v12, v13, v14, v15, v16, v17, List.drop_succ_cons, List.drop_zero]
            go_simp
            clear v0 v1 v2 v3 v4 v5 v6 v7 v8 v9 v10 v11 v12 v13 v14 v15 v16 v17
            have HB1 := Lib.hid (HB0.out.trans (hx1.below (n := w.heap.size) HB0.out.size (fun _ h => h.elim)))
            clear hx1
            go_wp2
            go_roundw
            case rel => exact ⟨k + 1, by go_num, by omega, HR.out, HB1.out⟩
            case measure => simp [intOf]; omega
        · have d0 : decide ((0 : Int) < (k : Int)) = true := by simp; omega
          have hk1 : 0 < k := by omega
          refine Kit.wp_region_valg 18 [([(4, none)], none, true), ([(15, some 0)], none, true), ([(16, some 1)], none, true), ([(17, some 2)], none, true), ([(3, none)], some (3, false), true), ([(19, some 4)], some (3, false), true), ([(20, some 5)], some (3, false), true), ([(0, none)], some (6, true), true), ([(3, none)], some (6, true), true), ([(23, some 8)], some (6, true), true), ([(22, some 7), (24, some 9)], some (6, true), true), ([(25, some 10)], some (6, true), true), ([(26, some 11)], some (6, true), true), ([(4, none)], some (6, true), true), ([(28, some 13)], some (6, true), true), ([(27, some 12), (29, some 14)], some (6, true), true), ([(21, some 6), (30, some 15)], some (3, false), true), ([(18, some 3), (31, some 16)], none, true)]
            [some 15, some 16, some 17, some 18, some 19, some 20, some 21, some 22, some 23, some 24, some 25, some 26, some 27, some 28, some 29, some 30, some 31, some 32] rfl (by kernel_rfl) (by kernel_rfl) (Kit.Exc (fun _ => False)) (fun i' v w' => match i' with
              | 0 => v = .agg #[.int .i64 s.id, .int .i64 s.role, .int .i64 s.bar, .int .i64 s.mark, .int .i64 s.kind, .int .i64 s.side, .int .i64 s.dir, .int .i64 s.level, .int .i64 s.size, .int .i64 s.wth, .int .i64 s.fn, .int .i64 s.fd, .int .i64 s.tn, .int .i64 s.td]
              | 1 => v = .bool true
              | 2 => v = .bool false
              | 3 => v = .bool false
              | 4 => v = .int .i64 k
              | 5 => v = .bool true
              | 6 => v = .bool true
              | 7 => v = .slice (some ad) l.length c
              | 8 => v = .int .i64 k
              | 9 => v = .int .i64 ((k : Int) - 1)
              | 10 => v = .pointer (some (ad.add ((k - 1) * 14)))
              | 11 => v = .pointer (some (ad.add ((k - 1) * 14)))
              | 12 => v = .int .i64 (Id.lastId l k)
              | 13 => v = .pointer (some ⟨wr.heap.size, 0, none⟩)
              | 14 => v = .int .i64 s.id
              | 15 => v = .bool (decide (s.id ≤ Id.lastId l k))
              | 16 => v = .bool (decide (s.id ≤ Id.lastId l k))
              | _ => v = .bool (decide (s.id ≤ Id.lastId l k)))
            (fun h k => h.trans k) (Kit.Exc.refl _ _).drew (fun _ => Kit.Exc.refl _ _) ?_ ?_ ?_
          · intro i' v A B h1 h2 h3
            split at h3 <;> exact h3
          · simp only [List.take_succ_cons, List.take_zero, Kit.StepsG, Kit.GOp, Kit.RdP, true_and, if_true, and_true, if_false, Bool.false_eq_true]
            refine ⟨?_, ?_, ?_, ?_, ?_, ?_, ?_, ?_, ?_, ?_, ?_, ?_, ?_, ?_, ?_, ?_, ?_, ?_⟩
            · intro ev w1 hx1 hv hc hf hg'
              have o1 := hx1.heap HSA.out (fun h => h)
              have y0 : w1.cell? ⟨wr.heap.size, 0, none⟩ = some (.int .i64 s.id) := by simp [World.cell?, o1]
              have y1 : w1.cell? ⟨wr.heap.size, 1, none⟩ = some (.int .i64 s.role) := by simp [World.cell?, o1]
              have y2 : w1.cell? ⟨wr.heap.size, 2, none⟩ = some (.int .i64 s.bar) := by simp [World.cell?, o1]
              have y3 : w1.cell? ⟨wr.heap.size, 3, none⟩ = some (.int .i64 s.mark) := by simp [World.cell?, o1]
              have y4 : w1.cell? ⟨wr.heap.size, 4, none⟩ = some (.int .i64 s.kind) := by simp [World.cell?, o1]
              have y5 : w1.cell? ⟨wr.heap.size, 5, none⟩ = some (.int .i64 s.side) := by simp [World.cell?, o1]
              have y6 : w1.cell? ⟨wr.heap.size, 6, none⟩ = some (.int .i64 s.dir) := by simp [World.cell?, o1]
              have y7 : w1.cell? ⟨wr.heap.size, 7, none⟩ = some (.int .i64 s.level) := by simp [World.cell?, o1]
              have y8 : w1.cell? ⟨wr.heap.size, 8, none⟩ = some (.int .i64 s.size) := by simp [World.cell?, o1]
              have y9 : w1.cell? ⟨wr.heap.size, 9, none⟩ = some (.int .i64 s.wth) := by simp [World.cell?, o1]
              have y10 : w1.cell? ⟨wr.heap.size, 10, none⟩ = some (.int .i64 s.fn) := by simp [World.cell?, o1]
              have y11 : w1.cell? ⟨wr.heap.size, 11, none⟩ = some (.int .i64 s.fd) := by simp [World.cell?, o1]
              have y12 : w1.cell? ⟨wr.heap.size, 12, none⟩ = some (.int .i64 s.tn) := by simp [World.cell?, o1]
              have y13 : w1.cell? ⟨wr.heap.size, 13, none⟩ = some (.int .i64 s.td) := by simp [World.cell?, o1]
              simp at hv
              simp [execOp, hv, go_sem, Kit.UponV, Kit.Exc.refl, y0, y1, y2, y3, y4, y5, y6, y7, y8, y9, y10, y11, y12, y13]
            · intro ev w1 hx1 hv hc hf hg'
              simp [execOp, hv, hc, hf, go_sem, Kit.UponV]
              refine (HF.out s w1).mono ?_
              rintro e w' ⟨rfl, hb⟩
              exact ⟨_, rfl, by rw [hfm], (Kit.Exc.refl _ _).then hb⟩
            · intro ev w1 hx1 hv hc hf hg'
              first | (simp [execOp, hv, hc, go_sem, Kit.UponV, Kit.Exc.refl]; done) | (simp at hv; simp [execOp, hv, go_sem, Kit.UponV, Kit.Exc.refl])
            · intro ev w1 hx1 hv hc hf hg'
              first | (simp [execOp, hv, hc, go_sem, Kit.UponV, Kit.Exc.refl]; done) | (simp at hv; simp [execOp, hv, go_sem, Kit.UponV, Kit.Exc.refl])
            · refine ⟨fun v w _ h => .inl ⟨_, h, rfl⟩, ?_⟩
              intro ev w1 hx1 hv hc hf hg'
              first | (simp [execOp, hv, hc, go_sem, Kit.UponV, Kit.Exc.refl]; done) | (simp at hv; simp [execOp, hv, go_sem, Kit.UponV, Kit.Exc.refl])
            · refine ⟨fun v w _ h => .inl ⟨_, h, rfl⟩, ?_⟩
              intro ev w1 hx1 hv hc hf hg'
              simp [execOp, hv, hc, go_sem, Kit.UponV, Kit.Exc.refl] <;> omega
            · refine ⟨fun v w _ h => .inl ⟨_, h, rfl⟩, ?_⟩
              intro ev w1 hx1 hv hc hf hg'
              first | (simp [execOp, hv, hc, go_sem, Kit.UponV, Kit.Exc.refl]; done) | (simp at hv; simp [execOp, hv, go_sem, Kit.UponV, Kit.Exc.refl])
            · refine ⟨fun v w _ h => .inl ⟨_, h, rfl⟩, ?_⟩
              intro ev w1 hx1 hv hc hf hg'
              first | (simp [execOp, hv, hc, go_sem, Kit.UponV, Kit.Exc.refl]; done) | (simp at hv; simp [execOp, hv, go_sem, Kit.UponV, Kit.Exc.refl])
            · refine ⟨fun v w _ h => .inl ⟨_, h, rfl⟩, ?_⟩
              intro ev w1 hx1 hv hc hf hg'
              first | (simp [execOp, hv, hc, go_sem, Kit.UponV, Kit.Exc.refl]; done) | (simp at hv; simp [execOp, hv, go_sem, Kit.UponV, Kit.Exc.refl])
            · refine ⟨fun v w _ h => .inl ⟨_, h, rfl⟩, ?_⟩
              intro ev w1 hx1 hv hc hf hg'
              simp [execOp, hv, hc, go_sem, Kit.UponV, Kit.Exc.refl, IntKind.wrap_i64] <;> omega
            · refine ⟨fun v w _ h => .inl ⟨_, h, rfl⟩, ?_⟩
              intro ev w1 hx1 hv hc hf hg'
              have hi1 : ((k : Int) - 1) = ((k - 1 : Nat) : Int) := by omega
              simp [execOp, hv, hc, go_sem, Kit.UponV, Kit.Exc.refl]
              rw [if_pos ⟨by omega, by omega⟩]
              exact ⟨rfl, Kit.Exc.refl _ _⟩
            · refine ⟨fun v w _ h => .inl ⟨_, h, rfl⟩, ?_⟩
              intro ev w1 hx1 hv hc hf hg'
              first | (simp [execOp, hv, hc, go_sem, Kit.UponV, Kit.Exc.refl]; done) | (simp at hv; simp [execOp, hv, go_sem, Kit.UponV, Kit.Exc.refl])
            · refine ⟨fun v w _ h => .inl ⟨_, h, rfl⟩, ?_⟩
              intro ev w1 hx1 hv hc hf hg'
              have y : w1.cell? (ad.add ((k - 1) * 14)) = some (.int .i64 (Id.lastId l k)) := hx1.cell (HX0.out.cell (hpv (by omega)) (fun h => h) (by rw [Tp.add_block]; have := HB.out.size; omega)) (fun h => h) (by rw [Tp.add_block]; have := HB0.out.size; omega)
              simp [execOp, hv, hc, go_sem, Kit.UponV, Kit.Exc.refl, y]
            · refine ⟨fun v w _ h => .inl ⟨_, h, rfl⟩, ?_⟩
              intro ev w1 hx1 hv hc hf hg'
              first | (simp [execOp, hv, hc, go_sem, Kit.UponV, Kit.Exc.refl]; done) | (simp at hv; simp [execOp, hv, go_sem, Kit.UponV, Kit.Exc.refl])
            · refine ⟨fun v w _ h => .inl ⟨_, h, rfl⟩, ?_⟩
              intro ev w1 hx1 hv hc hf hg'
              have o1 := hx1.heap HSA.out (fun h => h)
              have y0 : w1.cell? ⟨wr.heap.size, 0, none⟩ = some (.int .i64 s.id) := by simp [World.cell?, o1]
              simp [execOp, hv, hc, go_sem, Kit.UponV, Kit.Exc.refl, y0]
            · refine ⟨fun v w _ h => .inl ⟨_, h, rfl⟩, ?_⟩
              intro ev w1 hx1 hv hc hf hg'
              first | (simp [execOp, hv, hc, go_sem, Kit.UponV, Kit.Exc.refl]; done) | (simp at hv; simp [execOp, hv, go_sem, Kit.UponV, Kit.Exc.refl])
            · refine ⟨fun v w _ h => .inl ⟨_, h, rfl⟩, ?_⟩
              intro ev w1 hx1 hv hc hf hg'
              first | (simp [execOp, hv, hc, go_sem, Kit.UponV, Kit.Exc.refl]; done) | (simp at hv; simp [execOp, hv, go_sem, Kit.UponV, Kit.Exc.refl])
            · intro ev w1 hx1 hv hc hf hg'
              first | (simp [execOp, hv, hc, go_sem, Kit.UponV, Kit.Exc.refl]; done) | (simp at hv; simp [execOp, hv, go_sem, Kit.UponV, Kit.Exc.refl])
          · intro vs w1 hv hx1
            have v0 : vs 0 = _ := hv 0 (by omega)
            have v1 : vs 1 = _ := hv 1 (by omega)
            have v2 : vs 2 = _ := hv 2 (by omega)
            have v3 : vs 3 = _ := hv 3 (by omega)
            have v4 : vs 4 = _ := hv 4 (by omega)
            have v5 : vs 5 = _ := hv 5 (by omega)
            have v6 : vs 6 = _ := hv 6 (by omega)
            have v7 : vs 7 = _ := hv 7 (by omega)
            have v8 : vs 8 = _ := hv 8 (by omega)
            have v9 : vs 9 = _ := hv 9 (by omega)
            have v10 : vs 10 = _ := hv 10 (by omega)
            have v11 : vs 11 = _ := hv 11 (by omega)
            have v12 : vs 12 = _ := hv 12 (by omega)
            have v13 : vs 13 = _ := hv 13 (by omega)
            have v14 : vs 14 = _ := hv 14 (by omega)
            have v15 : vs 15 = _ := hv 15 (by omega)
            have v16 : vs 16 = _ := hv 16 (by omega)
            have v17 : vs 17 = _ := hv 17 (by omega)
            clear hv
            simp only [Kit.putD, List.getD_cons_zero, List.getD_cons_succ, Act.put, v0, v1, v2, v3, v4, v5, v6, v7, v8, v9, v10, v11, v12, v13, v14, v15, v16, v17, List.drop_succ_cons, List.drop_zero]
            go_simp
            clear v0 v1 v2 v3 v4 v5 v6 v7 v8 v9 v10 v11 v12 v13 v14 v15 v16 v17
            have HB1 := Lib.hid (HB0.out.trans (hx1.below (n := w.heap.size) HB0.out.size (fun _ h => h.elim)))
            clear hx1
            rcases dd : decide (s.id ≤ Id.lastId l k) with _ | _
            · have HR := Lib.hid (show Id.vE (-1) l = Id.vE (Id.lastId l (k + 1)) (l.drop (k + 1)) by rw [HV2.out, hfm]; have : Id.lastId l k < s.id := by simpa using dd
                                                                                                      simp [this])
              go_wp2
              go_roundw
              case rel => exact ⟨k + 1, by go_num, by omega, HR.out, HB1.out⟩
              case measure => simp [intOf]; omega
            · have HR := Lib.hid (show Id.vE (-1) l = false by rw [HV2.out, hfm]; have : s.id ≤ Id.lastId l k := by simpa using dd
                                                               have h2 : decide (Id.lastId l k < s.id) = false := by simp; omega
                                                               rw [h2]; rfl)
              go_wp2
              go_ret
              exact ⟨by rw [← HRR.out, HR.out]; rfl, HB1.out⟩
    · obtain rfl : k = l.length := by omega
      have HR := Lib.hid (show Id.vE (-1) l = true by rw [HV.out, List.drop_length]; rfl)
      go_wp2
      go_ret
      exact ⟨by rw [← HRR.out, HR.out]; rfl, HB.out⟩
end Go.Proofs.Ytdaedjmkolcliaa
