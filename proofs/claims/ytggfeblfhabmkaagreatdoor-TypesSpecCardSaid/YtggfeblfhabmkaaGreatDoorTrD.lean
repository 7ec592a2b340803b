/- Walks: the reference of layer 20: alone. -/
import Derived.Test.YtggfeblfhabmkaaGreatDoorTrC
namespace Go.Proofs.YtggfeblfhabmkaaGreatDoor
set_option linter.unusedVariables false
set_option linter.unusedSimpArgs false
open Go.RowKit Go.Shelf

def Ty.anyF (l : List Ex.Sg) (k : Ex.Sg) : Bool := l.any fun s => Ty.fits k s || Ty.fits s k
set_option maxRecDepth 100000 in
set_option maxHeartbeats 4000000 in
theorem tr_alone (aG : Option Addr) (l : List Ex.Sg) (cG : Nat) (k : Ex.Sg) (w : World) (hS : Tp.Sl w aG l.length 14 (Ex.sgc l)) (hr : ∀ s ∈ l, 0 ≤ s.role ∧ s.role ≤ 64) (hk : 0 ≤ k.role ∧ k.role ≤ 64) (hlen : l.length ≤ 4096) :
    Calls Tryz.prog 31 #[.slice aG l.length cG, Ex.sgV k] w fun e w' => e = .returned (.bool (Ty.alone l k)) ∧ Below w.heap.size w w' := by
  have F1 := Lib.hid (fun (s : Ex.Sg) (hs : s ∈ l) W => tr_fits k s W hk (hr s hs))
  have F2 := Lib.hid (fun (s : Ex.Sg) (hs : s ∈ l) W => tr_fits s k W (hr s hs) hk)
  have SG := Lib.hid hS
  clear hr hS
  have hal : Ty.alone l k = (Ty.held k && (k.wth == k.role + 1 || !Ty.anyF l k)) := rfl
  rw [hal]
  unfold Ty.held
  rcases hh : (k.kind == 7 || k.kind == 8) with _ | _
  · have d7 : (k.kind != 7) = true := by simp only [Bool.or_eq_false_iff] at hh; simp [bne, hh.1]
    have d8 : (k.kind != 8) = true := by simp only [Bool.or_eq_false_iff] at hh; simp [bne, hh.2]
    go_enter Tryz.func31, Tryz.ntmps31
    go_wp2
    go_ret
    exact ⟨rfl, by (repeat' first | (with_reducible first | exact Below.refl _ _ | assumption | refine Kit.below_drewN ?_ _ | refine Below.drew ?_ | refine Below.alloc ?_ ?_ _ | refine Below.setCell ?_ ?_ _ | exact Nat.le_refl _) | omega | (simp; omega) | (simp; done) | (apply Below.size; assumption))⟩
  have hd : (k.kind != 7) = false ∨ ((k.kind != 7) = true ∧ (k.kind != 8) = false) := by
    rcases c7 : (k.kind == 7) with _ | _
    · right
      rw [c7, Bool.false_or] at hh
      exact ⟨by simp [bne, c7], by simp [bne, hh]⟩
    · left; simp [bne, c7]
  rcases c9 : (k.wth == k.role + 1) with _ | _
  · rcases hd with d7 | ⟨d7, d8⟩ <;>
    · go_enter Tryz.func31, Tryz.ntmps31
      go_wp2_with fail
      refine Kit.wp_name ?_
      intro W0 hW0
      have H0 := Lib.hid (show Below w.heap.size w W0 by rw [hW0]; exact (Below.refl _ _).alloc (Nat.le_refl _) _)
      have hz0 : w.heap.size < W0.heap.size := by rw [hW0]; simp
      have HK0 := Lib.hid (show ∀ j v, [.int .i64 k.id, .int .i64 k.role, .int .i64 k.bar, .int .i64 k.mark, .int .i64 k.kind, .int .i64 k.side, .int .i64 k.dir, .int .i64 k.level, .int .i64 k.size, .int .i64 k.wth, .int .i64 k.fn, .int .i64 k.fd, .int .i64 k.tn, .int .i64 k.td][j]? = some v → W0.cell? ⟨w.heap.size, j, none⟩ = some v from fun j v h => by
        rw [hW0]
        have h1 := World.alloc_heap_new w (.cells #[.int .i64 k.id, .int .i64 k.role, .int .i64 k.bar, .int .i64 k.mark, .int .i64 k.kind, .int .i64 k.side, .int .i64 k.dir, .int .i64 k.level, .int .i64 k.size, .int .i64 k.wth, .int .i64 k.fn, .int .i64 k.fd, .int .i64 k.tn, .int .i64 k.td] 44)
        simp only [World.cell?, h1]
        simpa using h)
      clear hW0
      go_loopw [5] (fun v5 wr => ∃ i : Nat, v5 = .int .i64 i ∧ i ≤ l.length ∧ Hid (Ty.anyF l k = Ty.anyF (l.drop i) k) ∧ Hid (Below W0.heap.size W0 wr)) (fun v5 _ => l.length - (intOf v5).toNat)
      case atStart => exact ⟨0, rfl, Nat.zero_le _, rfl, Below.refl _ _⟩
      case round =>
        obtain ⟨i, rfl, hi, HAN, HB⟩ := hrel
        by_cases hlt : i < l.length
        · have h := SG.out.kept (H0.out.trans (HB.out.mono H0.out.size)) (Nat.le_refl _)
          obtain ⟨ay, rfl, hay, _⟩ := SG.out.at hlt
          have hay2 : (ay.add (i * 14)).block < wr.heap.size := by rw [Tp.add_block]; have := H0.out.size; have := HB.out.size; omega
          have e0 := h.head hlt (by omega)
          have e1 := h.field hlt (j := 1) (by omega) (by omega)
          have e2 := h.field hlt (j := 2) (by omega) (by omega)
          have e3 := h.field hlt (j := 3) (by omega) (by omega)
          have e4 := h.field hlt (j := 4) (by omega) (by omega)
          have e5 := h.field hlt (j := 5) (by omega) (by omega)
          have e6 := h.field hlt (j := 6) (by omega) (by omega)
          have e7 := h.field hlt (j := 7) (by omega) (by omega)
          have e8 := h.field hlt (j := 8) (by omega) (by omega)
          have e9 := h.field hlt (j := 9) (by omega) (by omega)
          have e10 := h.field hlt (j := 10) (by omega) (by omega)
          have e11 := h.field hlt (j := 11) (by omega) (by omega)
          have e12 := h.field hlt (j := 12) (by omega) (by omega)
          have e13 := h.field hlt (j := 13) (by omega) (by omega)
          obtain ⟨e, hxe⟩ : ∃ e, l.getD i default = e := ⟨_, rfl⟩
          have hie : l[i]? = some e := by rw [← hxe]; simp [List.getD, hlt]
          have HME := Lib.hid (List.mem_of_getElem? hie)
          have hdr : l.drop i = e :: l.drop (i + 1) := by
            rw [List.drop_eq_getElem_cons hlt]
            congr 1
            exact (List.getElem?_eq_some_iff.1 hie).2
          have hAN := HAN.out
          rw [hdr] at hAN
          replace HAN := Lib.hid (show Ty.anyF l k = ((Ty.fits k e || Ty.fits e k) || Ty.anyF (l.drop (i + 1)) k) by rw [hAN]; rfl)
          simp only [Ex.sgc, hxe] at e0 e1 e2 e3 e4 e5 e6 e7 e8 e9 e10 e11 e12 e13
          have ye0 : ∀ z : Kit.Wd wr, z.val.cell? (ay.add (i * 14)) = some (.int .i64 e.id) := fun z => z.cell e0 hay2
          have ye1 : ∀ z : Kit.Wd wr, z.val.cell? ⟨(ay.add (i * 14)).block, (ay.add (i * 14)).off + 1, none⟩ = some (.int .i64 e.role) := fun z => z.cell e1 hay2
          have ye2 : ∀ z : Kit.Wd wr, z.val.cell? ⟨(ay.add (i * 14)).block, (ay.add (i * 14)).off + 2, none⟩ = some (.int .i64 e.bar) := fun z => z.cell e2 hay2
          have ye3 : ∀ z : Kit.Wd wr, z.val.cell? ⟨(ay.add (i * 14)).block, (ay.add (i * 14)).off + 3, none⟩ = some (.int .i64 e.mark) := fun z => z.cell e3 hay2
          have ye4 : ∀ z : Kit.Wd wr, z.val.cell? ⟨(ay.add (i * 14)).block, (ay.add (i * 14)).off + 4, none⟩ = some (.int .i64 e.kind) := fun z => z.cell e4 hay2
          have ye5 : ∀ z : Kit.Wd wr, z.val.cell? ⟨(ay.add (i * 14)).block, (ay.add (i * 14)).off + 5, none⟩ = some (.int .i64 e.side) := fun z => z.cell e5 hay2
          have ye6 : ∀ z : Kit.Wd wr, z.val.cell? ⟨(ay.add (i * 14)).block, (ay.add (i * 14)).off + 6, none⟩ = some (.int .i64 e.dir) := fun z => z.cell e6 hay2
          have ye7 : ∀ z : Kit.Wd wr, z.val.cell? ⟨(ay.add (i * 14)).block, (ay.add (i * 14)).off + 7, none⟩ = some (.int .i64 e.level) := fun z => z.cell e7 hay2
          have ye8 : ∀ z : Kit.Wd wr, z.val.cell? ⟨(ay.add (i * 14)).block, (ay.add (i * 14)).off + 8, none⟩ = some (.int .i64 e.size) := fun z => z.cell e8 hay2
          have ye9 : ∀ z : Kit.Wd wr, z.val.cell? ⟨(ay.add (i * 14)).block, (ay.add (i * 14)).off + 9, none⟩ = some (.int .i64 e.wth) := fun z => z.cell e9 hay2
          have ye10 : ∀ z : Kit.Wd wr, z.val.cell? ⟨(ay.add (i * 14)).block, (ay.add (i * 14)).off + 10, none⟩ = some (.int .i64 e.fn) := fun z => z.cell e10 hay2
          have ye11 : ∀ z : Kit.Wd wr, z.val.cell? ⟨(ay.add (i * 14)).block, (ay.add (i * 14)).off + 11, none⟩ = some (.int .i64 e.fd) := fun z => z.cell e11 hay2
          have ye12 : ∀ z : Kit.Wd wr, z.val.cell? ⟨(ay.add (i * 14)).block, (ay.add (i * 14)).off + 12, none⟩ = some (.int .i64 e.tn) := fun z => z.cell e12 hay2
          have ye13 : ∀ z : Kit.Wd wr, z.val.cell? ⟨(ay.add (i * 14)).block, (ay.add (i * 14)).off + 13, none⟩ = some (.int .i64 e.td) := fun z => z.cell e13 hay2
          have yk0 : ∀ z : Kit.Wd wr, z.val.cell? ⟨w.heap.size, 0, none⟩ = some (.int .i64 k.id) := fun z => z.cell ((HB.out.cell (p := ⟨w.heap.size, 0, none⟩) hz0).trans (HK0.out 0 _ rfl)) (Nat.lt_of_lt_of_le hz0 HB.out.size)
          have yk1 : ∀ z : Kit.Wd wr, z.val.cell? ⟨w.heap.size, 1, none⟩ = some (.int .i64 k.role) := fun z => z.cell ((HB.out.cell (p := ⟨w.heap.size, 1, none⟩) hz0).trans (HK0.out 1 _ rfl)) (Nat.lt_of_lt_of_le hz0 HB.out.size)
          have yk2 : ∀ z : Kit.Wd wr, z.val.cell? ⟨w.heap.size, 2, none⟩ = some (.int .i64 k.bar) := fun z => z.cell ((HB.out.cell (p := ⟨w.heap.size, 2, none⟩) hz0).trans (HK0.out 2 _ rfl)) (Nat.lt_of_lt_of_le hz0 HB.out.size)
          have yk3 : ∀ z : Kit.Wd wr, z.val.cell? ⟨w.heap.size, 3, none⟩ = some (.int .i64 k.mark) := fun z => z.cell ((HB.out.cell (p := ⟨w.heap.size, 3, none⟩) hz0).trans (HK0.out 3 _ rfl)) (Nat.lt_of_lt_of_le hz0 HB.out.size)
          have yk4 : ∀ z : Kit.Wd wr, z.val.cell? ⟨w.heap.size, 4, none⟩ = some (.int .i64 k.kind) := fun z => z.cell ((HB.out.cell (p := ⟨w.heap.size, 4, none⟩) hz0).trans (HK0.out 4 _ rfl)) (Nat.lt_of_lt_of_le hz0 HB.out.size)
          have yk5 : ∀ z : Kit.Wd wr, z.val.cell? ⟨w.heap.size, 5, none⟩ = some (.int .i64 k.side) := fun z => z.cell ((HB.out.cell (p := ⟨w.heap.size, 5, none⟩) hz0).trans (HK0.out 5 _ rfl)) (Nat.lt_of_lt_of_le hz0 HB.out.size)
          have yk6 : ∀ z : Kit.Wd wr, z.val.cell? ⟨w.heap.size, 6, none⟩ = some (.int .i64 k.dir) := fun z => z.cell ((HB.out.cell (p := ⟨w.heap.size, 6, none⟩) hz0).trans (HK0.out 6 _ rfl)) (Nat.lt_of_lt_of_le hz0 HB.out.size)
          have yk7 : ∀ z : Kit.Wd wr, z.val.cell? ⟨w.heap.size, 7, none⟩ = some (.int .i64 k.level) := fun z => z.cell ((HB.out.cell (p := ⟨w.heap.size, 7, none⟩) hz0).trans (HK0.out 7 _ rfl)) (Nat.lt_of_lt_of_le hz0 HB.out.size)
          have yk8 : ∀ z : Kit.Wd wr, z.val.cell? ⟨w.heap.size, 8, none⟩ = some (.int .i64 k.size) := fun z => z.cell ((HB.out.cell (p := ⟨w.heap.size, 8, none⟩) hz0).trans (HK0.out 8 _ rfl)) (Nat.lt_of_lt_of_le hz0 HB.out.size)
          have yk9 : ∀ z : Kit.Wd wr, z.val.cell? ⟨w.heap.size, 9, none⟩ = some (.int .i64 k.wth) := fun z => z.cell ((HB.out.cell (p := ⟨w.heap.size, 9, none⟩) hz0).trans (HK0.out 9 _ rfl)) (Nat.lt_of_lt_of_le hz0 HB.out.size)
          have yk10 : ∀ z : Kit.Wd wr, z.val.cell? ⟨w.heap.size, 10, none⟩ = some (.int .i64 k.fn) := fun z => z.cell ((HB.out.cell (p := ⟨w.heap.size, 10, none⟩) hz0).trans (HK0.out 10 _ rfl)) (Nat.lt_of_lt_of_le hz0 HB.out.size)
          have yk11 : ∀ z : Kit.Wd wr, z.val.cell? ⟨w.heap.size, 11, none⟩ = some (.int .i64 k.fd) := fun z => z.cell ((HB.out.cell (p := ⟨w.heap.size, 11, none⟩) hz0).trans (HK0.out 11 _ rfl)) (Nat.lt_of_lt_of_le hz0 HB.out.size)
          have yk12 : ∀ z : Kit.Wd wr, z.val.cell? ⟨w.heap.size, 12, none⟩ = some (.int .i64 k.tn) := fun z => z.cell ((HB.out.cell (p := ⟨w.heap.size, 12, none⟩) hz0).trans (HK0.out 12 _ rfl)) (Nat.lt_of_lt_of_le hz0 HB.out.size)
          have yk13 : ∀ z : Kit.Wd wr, z.val.cell? ⟨w.heap.size, 13, none⟩ = some (.int .i64 k.td) := fun z => z.cell ((HB.out.cell (p := ⟨w.heap.size, 13, none⟩) hz0).trans (HK0.out 13 _ rfl)) (Nat.lt_of_lt_of_le hz0 HB.out.size)
          clear h hxe hie hdr hAN e0 e1 e2 e3 e4 e5 e6 e7 e8 e9 e10 e11 e12 e13
          go_upto_region 8 with fail
          rcases f1 : Ty.fits k e with _ | _
          · rcases f2 : Ty.fits e k with _ | _
            · as_aux_lemma =>
                have G1 := Lib.hid (show ∀ W, Calls Tryz.prog 54 #[Ex.sgV k, Ex.sgV e] W fun en w' => en = .returned (.bool false) ∧ Below W.heap.size W w' from fun W => by have := F1.out e HME.out W; rwa [f1] at this)
                have G2 := Lib.hid (show ∀ W, Calls Tryz.prog 54 #[Ex.sgV e, Ex.sgV k] W fun en w' => en = .returned (.bool false) ∧ Below W.heap.size W w' from fun W => by have := F2.out e HME.out W; rwa [f2] at this)
                refine Kit.wp_region_cls (by kernel_rfl) (by kernel_rfl) ?_
                (repeat (go_big_quiet_step (first | (with_reducible exact Kit.calls_cls _ (G1.out _)) | (with_reducible exact Kit.calls_cls _ (G2.out _)))))
                refine wpQuiet_nil ?_
                intro z
                have HZ := Lib.hid (HB.out.trans (z.below.mono HB.out.size))
                clear yk0 ye0 yk1 ye1 yk2 ye2 yk3 ye3 yk4 ye4 yk5 ye5 yk6 ye6 yk7 ye7 yk8 ye8 yk9 ye9 yk10 ye10 yk11 ye11 yk12 ye12 yk13 ye13
                go_wp2
                go_roundw
                case rel => exact ⟨i + 1, by go_num, by omega, (by show _ = _; rw [HAN.out, f1, f2]; simp), HZ.out⟩
                case measure => simp [intOf]; omega
            · as_aux_lemma =>
                have G1 := Lib.hid (show ∀ W, Calls Tryz.prog 54 #[Ex.sgV k, Ex.sgV e] W fun en w' => en = .returned (.bool false) ∧ Below W.heap.size W w' from fun W => by have := F1.out e HME.out W; rwa [f1] at this)
                have G2 := Lib.hid (show ∀ W, Calls Tryz.prog 54 #[Ex.sgV e, Ex.sgV k] W fun en w' => en = .returned (.bool true) ∧ Below W.heap.size W w' from fun W => by have := F2.out e HME.out W; rwa [f2] at this)
                refine Kit.wp_region_cls (by kernel_rfl) (by kernel_rfl) ?_
                (repeat (go_big_quiet_step (first | (with_reducible exact Kit.calls_cls _ (G1.out _)) | (with_reducible exact Kit.calls_cls _ (G2.out _)))))
                refine wpQuiet_nil ?_
                intro z
                have HZ := Lib.hid (HB.out.trans (z.below.mono HB.out.size))
                clear yk0 ye0 yk1 ye1 yk2 ye2 yk3 ye3 yk4 ye4 yk5 ye5 yk6 ye6 yk7 ye7 yk8 ye8 yk9 ye9 yk10 ye10 yk11 ye11 yk12 ye12 yk13 ye13
                go_wp2
                go_ret
                exact ⟨(by rw [HAN.out]; simp [f1, f2]), H0.out.trans (HZ.out.mono H0.out.size)⟩
          · as_aux_lemma =>
              have G1 := Lib.hid (show ∀ W, Calls Tryz.prog 54 #[Ex.sgV k, Ex.sgV e] W fun en w' => en = .returned (.bool true) ∧ Below W.heap.size W w' from fun W => by have := F1.out e HME.out W; rwa [f1] at this)
              refine Kit.wp_region_cls (by kernel_rfl) (by kernel_rfl) ?_
              (repeat (go_big_quiet_step (exact Kit.calls_cls _ (G1.out _))))
              refine wpQuiet_nil ?_
              intro z
              have HZ := Lib.hid (HB.out.trans (z.below.mono HB.out.size))
              clear yk0 ye0 yk1 ye1 yk2 ye2 yk3 ye3 yk4 ye4 yk5 ye5 yk6 ye6 yk7 ye7 yk8 ye8 yk9 ye9 yk10 ye10 yk11 ye11 yk12 ye12 yk13 ye13
              go_wp2
              go_ret
              exact ⟨(by rw [HAN.out]; simp [f1]), H0.out.trans (HZ.out.mono H0.out.size)⟩
        · obtain rfl : i = l.length := by omega
          have HAN' := Lib.hid (show Ty.anyF l k = false by rw [HAN.out, List.drop_length]; rfl)
          go_wp2
          go_ret
          exact ⟨(by rw [HAN'.out]; rfl), H0.out.trans (HB.out.mono H0.out.size)⟩
  · rcases hd with d7 | ⟨d7, d8⟩ <;>
    · go_enter Tryz.func31, Tryz.ntmps31
      go_wp2
      go_ret
      exact ⟨rfl, by (repeat' first | (with_reducible first | exact Below.refl _ _ | assumption | refine Kit.below_drewN ?_ _ | refine Below.drew ?_ | refine Below.alloc ?_ ?_ _ | refine Below.setCell ?_ ?_ _ | exact Nat.le_refl _) | omega | (simp; omega) | (simp; done) | (apply Below.size; assumption))⟩
end Go.Proofs.YtggfeblfhabmkaaGreatDoor
