/- Walks: Faults, behind its range. -/
import Derived.Test.YtggfeblfhabmkaaGreatDoorTyN
import Derived.Test.YtggfeblfhabmkaaGreatDoorTyL
import Derived.Test.YtggfeblfhabmkaaGreatDoorKit
import Derived.Maps.OwnIn
import Derived.Deep.Cut
namespace Go.Proofs.YtggfeblfhabmkaaGreatDoor
set_option linter.unusedVariables false
set_option linter.unusedSimpArgs false
open Go.RowKit Go.Shelf

theorem Ty.Got.weak {s s' B : Nat} {l : List Ty.F3} {v : Value} {W : World} (h : Ty.Got s B l v W) (hs : s' ≤ s) : Ty.Got s' B l v W := by
  refine ⟨h.box, h.own.1, ?_⟩
  rcases h.own.2 with h1 | ⟨g, cap, cur, h1, h2, h3⟩
  · exact .inl h1
  · exact .inr ⟨g, cap, cur, h1, by omega, h3⟩
theorem Ty.row_weak {W : World} {s s' e k n : Nat} {v : Value} {xs : List Value} (h : W.ownsRow s e k v n xs) (hs : s' ≤ s) : W.ownsRow s' e k v n xs := by
  refine ⟨h.1, ?_⟩
  rcases h.2 with h1 | ⟨g, cap, cur, h1, h2, h3⟩
  · exact .inl h1
  · exact .inr ⟨g, cap, cur, h1, by omega, h3⟩
set_option maxRecDepth 100000 in
set_option maxHeartbeats 1000000 in
theorem ty_tail (fn : Func) (hfn : fn = Tryz.f6) (p q r t : Code) (hc : Tryz.f6.body = some (.seq p (.seq q (.seq r t)))) (aG : Option Addr) (sg : List Ex.Sg) (cG : Nat) (w W : World) (s D : Nat) (v : Value) (L : List Ty.F3) (x0 x3 x23 x24 x25 x26 x28 x29 x30 : Value)
    (hg : Ty.Got s (w.heap.size + 1) L v W) (hb : Below w.heap.size w W) (hD : W.heap[D]? = some (.deferred (some []))) (hs : w.heap.size ≤ s) (hDl : w.heap.size ≤ D) (hG : Tp.Sl w aG sg.length 14 (Ex.sgc sg))
    (c10 : W.cell? ⟨w.heap.size, 10, none⟩ = some (.slice aG sg.length cG)) (hL : L.length ≤ 100000000) (lG : sg.length ≤ 4096)
    (hH : ∀ x ∈ sg, Ty.held x = true → (0 ≤ x.wth ∧ x.wth ≤ 1000000) ∧ ∀ y ∈ Ty.ck x, Kit.wfI y)
    (R : Ending → World → Prop) (hR : ∀ l' v' w', l'.Perm (L ++ Ty.lifP sg) → l'.Pairwise Ty.le3 → w'.ownsRow w.heap.size 48 3 v' l'.length (Ty.flatF l') → Below w.heap.size w w' → R (.returned (.tuple #[v', .int .i64 0])) w') :
    t.wp Tryz.prog (bodyPostM Fence.wide 0 Tryz.prog fn R) { tmps := #[x0, .pointer (some ⟨w.heap.size, 0, none⟩), .pointer (some ⟨w.heap.size + 1, 0, none⟩), x3, undef, undef, undef, undef, undef, undef, undef, undef, undef, undef, undef, undef, undef, undef, undef, undef, undef, undef, undef, x23, x24, x25, x26, undef, x28, x29, x30, undef, undef, undef, undef, undef, undef, undef, undef, undef, undef, undef, undef, undef, undef, undef, undef, undef, undef, undef, undef, undef, undef, undef, undef, undef, undef, undef, undef, undef, undef, undef, undef, undef, undef, undef, undef, undef, undef, undef, undef, undef, undef, undef, undef, undef, undef, undef, undef, undef, undef, undef, undef, undef, undef, undef, undef, undef, undef, undef, undef, undef, undef, undef, undef, undef, undef, undef, undef, undef, undef, undef, undef, undef, undef, undef, undef, undef, undef, undef, undef, undef, undef, undef, undef, undef, undef, undef, undef, undef, undef, undef, undef, undef, undef, undef, undef, undef, undef, undef, undef, undef, undef, undef, undef], defers := [{ target := .collected D, args := #[] }] } W := by
  have HR := Lib.hid hR
  have HGOT := Lib.hid hg
  have HB := Lib.hid hb
  have HDD := Lib.hid hD
  have HSL := Lib.hid hG
  have HHH := Lib.hid hH
  have zB : w.heap.size + 1 < W.heap.size := hg.box.lt
  have z0 : w.heap.size < W.heap.size := by omega
  clear hR hg hb hD hG hH
  obtain ⟨i0, hi, hz0, hz1, hz2⟩ := info_parts Ty.infoF
  have HFN := Lib.hid hfn
  clear hfn
  dsimp only [Tryz.f6] at hc
  injection hc with hc
  injection hc with h1 hc; clear h1
  injection hc with h1 hc; clear h1
  injection hc with h1 hc; clear h1
  subst hc
  have hmm := @run_makeMap Tryz.prog
  go_upto_region 15 with fail
  obtain ⟨W4, hW4⟩ : ∃ W4, W4 = (((W.alloc (Obj.map #[] 0)).alloc (Obj.map #[] 0)).alloc (Obj.cells #[Value.map (some W.heap.size)] 59)).alloc (Obj.cells #[Value.map (some (W.heap.size + 1))] 59) := ⟨_, rfl⟩
  rw [← hW4]
  have E4 : ∀ S, Kit.Exc S W W4 := fun S => by rw [hW4]; exact ((((Kit.Exc.refl S W).alloc _).alloc _).alloc _).alloc _
  have s4 : W4.heap.size = W.heap.size + 4 := by rw [hW4]; simp
  have m1 : Ty.VM W4 W.heap.size 0 (fun _ => false) := by rw [hW4]; exact (((Kit.VMap.made _ _ _ _ _ rfl W).alloc _).alloc _).alloc _
  have m2 : Ty.VM W4 (W.heap.size + 1) 0 (fun _ => false) := by
    have := (((Kit.VMap.made Tryz.prog 61 7 (.bool false) _ rfl (W.alloc (Obj.map #[] 0))).alloc (Obj.cells #[Value.map (some W.heap.size)] 59)).alloc (Obj.cells #[Value.map (some (W.heap.size + 1))] 59))
    rw [World.size_alloc] at this
    rw [hW4]; exact this
  have b9 : Boxed W4 (W.heap.size + 1 + 1) 59 (.map (some W.heap.size)) := by
    have := (Boxed.new ((W.alloc (Obj.map #[] 0)).alloc (Obj.map #[] 0)) 59 (.map (some W.heap.size))).alloc (Obj.cells #[Value.map (some (W.heap.size + 1))] 59)
    rw [World.size_alloc, World.size_alloc] at this
    rw [hW4]; exact this
  have b10 : Boxed W4 (W.heap.size + 1 + 1 + 1) 59 (.map (some (W.heap.size + 1))) := by
    have := Boxed.new (((W.alloc (Obj.map #[] 0)).alloc (Obj.map #[] 0)).alloc (Obj.cells #[Value.map (some W.heap.size)] 59)) 59 (.map (some (W.heap.size + 1)))
    rw [World.size_alloc, World.size_alloc, World.size_alloc] at this
    rw [hW4]; exact this
  have c10' : W4.cell? ⟨w.heap.size, 10, none⟩ = some (.slice aG sg.length cG) := (E4 (fun _ => False)).cell c10 (fun h => h) z0
  have HB4 := Lib.hid (HB.out.trans ((E4 (fun _ => False)).below HB.out.size (fun _ h => h.elim)))
  have HM := Lib.hid (And.intro m1 (And.intro m2 (And.intro b9 b10)))
  have HG4 := Lib.hid ((HGOT.out.weak hs).keep (E4 (fun _ => False)) (fun h => h) (fun _ _ h => h))
  have HD4 := Lib.hid ((E4 (fun _ => False)).heap HDD.out (fun h => h))
  have HS4 := Lib.hid (HSL.out.kept HB4.out (Nat.le_refl _))
  have HCL := Lib.hid (fun c W => ty_clone aG c sg W (by omega))
  clear E4 hW4 m1 m2 b9 b10 hmm
  go_wp2_with fail
  refine (HCL.out cG W4 HS4.out).mono ?_
  rintro _ w5 ⟨vc, rfl, ho5, hb5⟩
  have HO5 := Lib.hid ho5
  have HB5 := Lib.hid hb5
  clear ho5 hb5
  go_wp2_with fail
  refine (ty_delete vc W4.heap.size sg w5 (by omega) HO5.out).mono ?_
  rintro _ w6 ⟨vh, rfl, ho6, hk6, hx6⟩
  obtain ⟨H, hH⟩ : ∃ H, H = sg.filter Ty.held := ⟨_, rfl⟩
  rw [← hH] at ho6
  have lH : H.length ≤ 4096 := by rw [hH]; exact Nat.le_trans (List.length_filter_le _ _) lG
  have hlow : ∀ k, vc.ownBlock = some k → W4.heap.size ≤ k := fun k hk => (HO5.out.lt k hk).1
  have E45 : ∀ S, Kit.Exc S W4 w5 := fun S => (Kit.Exc.refl S W4).then HB5.out
  have E46 : Kit.Exc (fun _ => False) W4 w6 := by
    have h1 := E45 (fun _ => False)
    refine ⟨hx6.os.trans h1.os, hx6.tape.trans h1.tape, hx6.output.trans h1.output, Nat.le_trans h1.size hx6.size, fun k hk _ => (hx6.block k (Nat.lt_of_lt_of_le hk h1.size) (fun e => by have := hlow k e; omega)).trans (h1.block k hk (fun h => h))⟩
  have HP : Hid (Ty.PB w w.heap.size (w.heap.size + 1) (W.heap.size + 1 + 1) (W.heap.size + 1 + 1 + 1) W.heap.size (W.heap.size + 1) D v vh L H 0 (fun _ => false) (fun _ => false) w6) :=
    ⟨HG4.out.keep E46 (fun h => h) (fun _ _ h => h), Ty.row_weak ho6 (by have := HB4.out.size; omega), E46.boxed HM.out.2.2.1 (fun h => h), E46.boxed HM.out.2.2.2 (fun h => h), HM.out.1.kept (E46.block _ HM.out.1.lt (fun h => h)), HM.out.2.1.kept (E46.block _ HM.out.2.1.lt (fun h => h)), E46.heap HD4.out (fun h => h), by omega, ⟨Nat.le_refl _, by omega, by have := HB.out.size; omega, by have := HB.out.size; omega⟩, HB4.out.trans (E46.below HB4.out.size (fun _ h => h.elim))⟩
  obtain ⟨ah, ch, hvh⟩ : ∃ a c, vh = .slice a H.length c := by
    rcases Ty.row_sl ho6 with ⟨h1, h2⟩ | ⟨g, c, h1, _⟩
    · rw [h1]; exact ⟨none, 0, h2⟩
    · exact ⟨_, c, h1⟩
  subst hvh
  have hmem : ∀ x ∈ H, x ∈ sg ∧ Ty.held x = true := fun x hx => by rw [hH] at hx; exact List.mem_filter.1 hx
  have HME := Lib.hid (fun x hx => HHH.out x (hmem x hx).1 (hmem x hx).2)
  have HHE := Lib.hid hH
  clear ho6 hk6 hx6 hlow E45 E46 hH hmem HB5 HO5 HM HG4 HD4 HS4 HCL HGOT HDD HSL HHH c10'
  go_wp2_with fail
  clear HB4 s4
  go_loopw [85] (fun v85 wr => ∃ j : Nat, v85 = .int .i64 j ∧ j ≤ H.length ∧ Hid (Ty.PB w w.heap.size (w.heap.size + 1) (W.heap.size + 1 + 1) (W.heap.size + 1 + 1 + 1) W.heap.size (W.heap.size + 1) D v (.slice ah H.length ch) L H j (Ty.mL (H.take j)) (Ty.mR (H.take j)) wr))
    (fun v85 _ => H.length - (intOf v85).toNat)
  case atStart => exact ⟨0, rfl, Nat.zero_le _, HP.out⟩
  case round =>
    obtain ⟨j, rfl, hj, HQ⟩ := hrel
    by_cases hlt : j < H.length
    · obtain ⟨ay, rfl, hay, h⟩ : ∃ ay, ah = some ay ∧ ay.block < wr.heap.size ∧ Tp.Sl wr (some ay) H.length 14 (Ex.sgc H) := by
        rcases Ty.row_sl HQ.out.held with ⟨h1, _⟩ | ⟨g, c', h1, _, h2, h3⟩
        · rw [h1] at hlt; simp at hlt
        · injection h1 with h1; exact ⟨_, h1, h2, h3⟩
      have e0 := h.head hlt (by omega)
      have e1 := h.field hlt (j := 1) (by omega) (by omega)
      have e2 := h.field hlt (j := 2) (by omega) (by omega)
      have e3 := h.field hlt (j := 3) (by omega) (by omega)
      have e4 := h.field hlt (j := 4) (by omega) (by omega)
      have e5 := h.field hlt (j := 5) (by omega) (by omega)
      have e6 := h.field hlt (j := 6) (by omega) (by omega)
      have e7 := h.field hlt (j := 7) (by omega) (by omega)
      have e8 := h.field hlt (j := 8) (by omega) (by omega)
      have e9 := h.field hlt (j := 9) (by omega) (by omega)
      have e10 := h.field hlt (j := 10) (by omega) (by omega)
      have e11 := h.field hlt (j := 11) (by omega) (by omega)
      have e12 := h.field hlt (j := 12) (by omega) (by omega)
      have e13 := h.field hlt (j := 13) (by omega) (by omega)
      obtain ⟨x, hx⟩ : ∃ x, H.getD j default = x := ⟨_, rfl⟩
      have hjx : H[j]? = some x := by rw [← hx]; simp [List.getD, hlt]
      simp only [Ex.sgc, hx] at e0 e1 e2 e3 e4 e5 e6 e7 e8 e9 e10 e11 e12 e13
      have htk : H.take (j + 1) = H.take j ++ [x] := by rw [List.take_add_one, hjx]; rfl
      have hxe := HME.out x (List.mem_of_getElem? hjx)
      have hay' : (ay.add (j * 14)).block < wr.heap.size := by rw [Tp.add_block]; exact hay
      have HTK := Lib.hid htk
      have HXE := Lib.hid hxe
      clear h hx hjx htk hxe
      go_wp2_with fail
      have hq1 := Lib.hid (HQ.out.new ((Kit.Exc.refl (fun _ => False) wr).alloc (.cells #[.int .i64 x.id, .int .i64 x.role, .int .i64 x.bar, .int .i64 x.mark, .int .i64 x.kind, .int .i64 x.side, .int .i64 x.dir, .int .i64 x.level, .int .i64 x.size, .int .i64 x.wth, .int .i64 x.fn, .int .i64 x.fd, .int .i64 x.tn, .int .i64 x.td] 44)))
      refine (ty_side x (W.heap.size + 1 + 1) (W.heap.size + 1 + 1 + 1) (.map (some W.heap.size)) (.map (some (W.heap.size + 1))) _ hq1.out.b9 hq1.out.b10 rfl rfl HXE.out.1.1 HXE.out.1.2).mono ?_
      rintro _ w7 ⟨rfl, hb7⟩
      have HQ7 := Lib.hid (hq1.out.below' hb7)
      clear hq1 hb7 e0 e1 e2 e3 e4 e5 e6 e7 e8 e9 e10 e11 e12 e13
      rcases d : (x.kind == 7) with _ | _
      · have hck : Ty.ck x = [x.wth - 1, x.role, x.bar, x.fn, x.fd, x.tn, x.td] := by simp [Ty.ck, d]
        have hwf := HXE.out.2
        rw [hck] at hwf
        have HWF := Lib.hid hwf
        have HCK := Lib.hid hck
        rw [show Ty.ckV x = .agg #[.int .i64 (x.wth - 1), .int .i64 x.role, .int .i64 x.bar, .int .i64 x.fn, .int .i64 x.fd, .int .i64 x.tn, .int .i64 x.td] from by simp [Ty.ckV, hck]]
        simp only [d, if_true, if_false, Bool.false_eq_true]
        clear hck hwf
        go_wp2_with (at_mapUpdate; refine Kit.wpList_mapUpdate_vmap _ rfl _ _ _ 59 rfl 61 4 7 Ty.keyC Tryz.underlying59 (.bool false) (W.heap.size + 1) j (fun xs => .bool (Ty.mR (H.take j) xs)) rfl (HQ7.out.new ((Kit.Exc.refl (fun _ => False) w7).alloc _)).m2 (by unfold maxLen; omega) [x.wth - 1, x.role, x.bar, x.fn, x.fd, x.tn, x.td] rfl rfl HWF.out (.bool true) rfl _ rfl ?_; intro w8 hm8 hg8; have HQ8 := Lib.hid ((HQ7.out.new ((Kit.Exc.refl (fun _ => False) w7).alloc (.cells #[.int .i64 (x.wth - 1), .int .i64 x.role, .int .i64 x.bar, .int .i64 x.fn, .int .i64 x.fd, .int .i64 x.tn, .int .i64 x.td] 61))).put2 hm8 (by rw [← HCK.out]; exact Ty.mR_put _ _ d) hg8); clear hm8 hg8)
        go_roundw
        case rel => exact ⟨j + 1, by go_num, by omega, by rw [HTK.out]; rw [Ty.mL_skip _ _ d]; exact HQ8.out⟩
        case measure => simp [intOf]; omega
      · have hck : Ty.ck x = [x.role, x.wth - 1, x.bar, x.fn, x.fd, x.tn, x.td] := by simp [Ty.ck, d]
        have hwf := HXE.out.2
        rw [hck] at hwf
        have HWF := Lib.hid hwf
        have HCK := Lib.hid hck
        rw [show Ty.ckV x = .agg #[.int .i64 x.role, .int .i64 (x.wth - 1), .int .i64 x.bar, .int .i64 x.fn, .int .i64 x.fd, .int .i64 x.tn, .int .i64 x.td] from by simp [Ty.ckV, hck]]
        simp only [d, if_true, if_false, Bool.false_eq_true]
        clear hck hwf
        go_wp2_with (at_mapUpdate; refine Kit.wpList_mapUpdate_vmap _ rfl _ _ _ 59 rfl 61 4 7 Ty.keyC Tryz.underlying59 (.bool false) W.heap.size j (fun xs => .bool (Ty.mL (H.take j) xs)) rfl (HQ7.out.new ((Kit.Exc.refl (fun _ => False) w7).alloc _)).m1 (by unfold maxLen; omega) [x.role, x.wth - 1, x.bar, x.fn, x.fd, x.tn, x.td] rfl rfl HWF.out (.bool true) rfl _ rfl ?_; intro w8 hm8 hg8; have HQ8 := Lib.hid ((HQ7.out.new ((Kit.Exc.refl (fun _ => False) w7).alloc (.cells #[.int .i64 x.role, .int .i64 (x.wth - 1), .int .i64 x.bar, .int .i64 x.fn, .int .i64 x.fd, .int .i64 x.tn, .int .i64 x.td] 61))).put1 hm8 (by rw [← HCK.out]; exact Ty.mL_put _ _ d) hg8); clear hm8 hg8)
        go_roundw
        case rel => exact ⟨j + 1, by go_num, by omega, by rw [HTK.out]; rw [Ty.mR_skip _ _ d]; exact HQ8.out⟩
        case measure => simp [intOf]; omega
    · obtain rfl : j = H.length := by omega
      have hq := HQ.out
      rw [List.take_length] at hq
      have HQ1 := Lib.hid hq
      clear HQ hq
      obtain ⟨V0, rfl⟩ : ∃ V0, V0 = wr := ⟨_, rfl⟩
      go_wp2_with fail
      go_loopw [101] (fun v101 wr => ∃ (j : Nat) (vj : Value), v101 = .int .i64 j ∧ j ≤ H.length ∧ Hid (Ty.PB w w.heap.size (w.heap.size + 1) (W.heap.size + 1 + 1) (W.heap.size + 1 + 1 + 1) W.heap.size (W.heap.size + 1) D vj (.slice ah H.length ch) (L ++ Ty.lifQ H (H.take j)) H H.length (Ty.mL H) (Ty.mR H) wr))
        (fun v101 _ => H.length - (intOf v101).toNat)
      case atStart => exact ⟨0, v, rfl, Nat.zero_le _, by show Ty.PB w w.heap.size (w.heap.size + 1) (W.heap.size + 1 + 1) (W.heap.size + 1 + 1 + 1) W.heap.size (W.heap.size + 1) D _ _ _ _ _ _ _ _; simpa [Ty.lifQ] using HQ1.out⟩
      case round =>
        obtain ⟨j, vj, rfl, hj, HQ⟩ := hrel
        by_cases hlt : j < H.length
        · obtain ⟨LL, hLL⟩ : ∃ LL, LL = L ++ Ty.lifQ H (H.take j) := ⟨_, rfl⟩
          rw [← hLL] at HQ
          have lLL : LL.length ≤ 100005000 := by
            rw [hLL, List.length_append]
            have h1 : (Ty.lifQ H (H.take j)).length ≤ (H.take j).length := by simp only [Ty.lifQ, List.length_map]; exact List.length_filter_le _ _
            have h2 : (H.take j).length ≤ H.length := by simp; omega
            omega
          have HLL := Lib.hid hLL.symm
          clear hLL
          obtain ⟨ay, rfl, hay, h⟩ : ∃ ay, ah = some ay ∧ ay.block < wr.heap.size ∧ Tp.Sl wr (some ay) H.length 14 (Ex.sgc H) := by
            rcases Ty.row_sl HQ.out.held with ⟨h1, _⟩ | ⟨g, c', h1, _, h2, h3⟩
            · rw [h1] at hlt; simp at hlt
            · injection h1 with h1; exact ⟨_, h1, h2, h3⟩
          have e0 := h.head hlt (by omega)
          have e1 := h.field hlt (j := 1) (by omega) (by omega)
          have e2 := h.field hlt (j := 2) (by omega) (by omega)
          have e3 := h.field hlt (j := 3) (by omega) (by omega)
          have e4 := h.field hlt (j := 4) (by omega) (by omega)
          have e5 := h.field hlt (j := 5) (by omega) (by omega)
          have e6 := h.field hlt (j := 6) (by omega) (by omega)
          have e7 := h.field hlt (j := 7) (by omega) (by omega)
          have e8 := h.field hlt (j := 8) (by omega) (by omega)
          have e9 := h.field hlt (j := 9) (by omega) (by omega)
          have e10 := h.field hlt (j := 10) (by omega) (by omega)
          have e11 := h.field hlt (j := 11) (by omega) (by omega)
          have e12 := h.field hlt (j := 12) (by omega) (by omega)
          have e13 := h.field hlt (j := 13) (by omega) (by omega)
          obtain ⟨x, hx⟩ : ∃ x, H.getD j default = x := ⟨_, rfl⟩
          have hjx : H[j]? = some x := by rw [← hx]; simp [List.getD, hlt]
          simp only [Ex.sgc, hx] at e0 e1 e2 e3 e4 e5 e6 e7 e8 e9 e10 e11 e12 e13
          have htk : H.take (j + 1) = H.take j ++ [x] := by rw [List.take_add_one, hjx]; rfl
          have hxe := HME.out x (List.mem_of_getElem? hjx)
          have hay' : (ay.add (j * 14)).block < wr.heap.size := by rw [Tp.add_block]; exact hay
          have HTK := Lib.hid htk
          have HXE := Lib.hid hxe
          clear h hx hjx htk hxe
          go_wp2_with fail
          have hq1 := Lib.hid (HQ.out.new ((Kit.Exc.refl (fun _ => False) wr).alloc (.cells #[.int .i64 x.id, .int .i64 x.role, .int .i64 x.bar, .int .i64 x.mark, .int .i64 x.kind, .int .i64 x.side, .int .i64 x.dir, .int .i64 x.level, .int .i64 x.size, .int .i64 x.wth, .int .i64 x.fn, .int .i64 x.fd, .int .i64 x.tn, .int .i64 x.td] 44)))
          refine (ty_side x (W.heap.size + 1 + 1) (W.heap.size + 1 + 1 + 1) (.map (some W.heap.size)) (.map (some (W.heap.size + 1))) _ hq1.out.b9 hq1.out.b10 rfl rfl HXE.out.1.1 HXE.out.1.2).mono ?_
          rintro _ w7 ⟨rfl, hb7⟩
          obtain ⟨hc7, hf7⟩ := Kit.bcell hb7
          have p0 : w7.cell? ⟨wr.heap.size, 0, none⟩ = some (.int .i64 x.id) := by rw [hc7 _ _ (by simp)]; simp [go_sem]
          have z7 : wr.heap.size < w7.heap.size := by have := hb7.size; simp at this; omega
          have HQ7 := Lib.hid (hq1.out.below' hb7)
          clear hq1 hb7 hc7 hf7 e0 e1 e2 e3 e4 e5 e6 e7 e8 e9 e10 e11 e12 e13
          rcases d : (x.kind == 7) with _ | _
          · have hck : Ty.ck x = [x.wth - 1, x.role, x.bar, x.fn, x.fd, x.tn, x.td] := by simp [Ty.ck, d]
            have hwf := HXE.out.2
            rw [hck] at hwf
            have HWF := Lib.hid hwf
            have hoth : Ty.oth H x = Ty.mL H [x.wth - 1, x.role, x.bar, x.fn, x.fd, x.tn, x.td] := by rw [← hck]; simp [Ty.oth, d]
            have HOT := Lib.hid hoth
            rw [show Ty.ckV x = .agg #[.int .i64 (x.wth - 1), .int .i64 x.role, .int .i64 x.bar, .int .i64 x.fn, .int .i64 x.fd, .int .i64 x.tn, .int .i64 x.td] from by simp [Ty.ckV, hck]]
            simp only [d, if_true, if_false, Bool.false_eq_true]
            clear hck hwf hoth
            go_upto_region 26 with fail
            obtain ⟨w8, hw8⟩ : ∃ w8, w8 = w7.alloc (.cells #[.int .i64 (x.wth - 1), .int .i64 x.role, .int .i64 x.bar, .int .i64 x.fn, .int .i64 x.fd, .int .i64 x.tn, .int .i64 x.td] 61) := ⟨_, rfl⟩
            rw [← hw8]
            have q0 : w8.cell? ⟨w7.heap.size, 0, none⟩ = some (.int .i64 (x.wth - 1)) := by rw [hw8]; simp [go_sem]
            have q1 : w8.cell? ⟨w7.heap.size, 1, none⟩ = some (.int .i64 x.role) := by rw [hw8]; simp [go_sem]
            have q2 : w8.cell? ⟨w7.heap.size, 2, none⟩ = some (.int .i64 x.bar) := by rw [hw8]; simp [go_sem]
            have q3 : w8.cell? ⟨w7.heap.size, 3, none⟩ = some (.int .i64 x.fn) := by rw [hw8]; simp [go_sem]
            have q4 : w8.cell? ⟨w7.heap.size, 4, none⟩ = some (.int .i64 x.fd) := by rw [hw8]; simp [go_sem]
            have q5 : w8.cell? ⟨w7.heap.size, 5, none⟩ = some (.int .i64 x.tn) := by rw [hw8]; simp [go_sem]
            have q6 : w8.cell? ⟨w7.heap.size, 6, none⟩ = some (.int .i64 x.td) := by rw [hw8]; simp [go_sem]
            have p8 : w8.cell? ⟨wr.heap.size, 0, none⟩ = some (.int .i64 x.id) := by rw [hw8]; exact Lib.cell?_alloc_some _ p0
            have z8 : w7.heap.size < w8.heap.size := by rw [hw8]; simp
            have z9 : wr.heap.size < w8.heap.size := by omega
            have HQ8 := Lib.hid (show Ty.PB w w.heap.size (w.heap.size + 1) (W.heap.size + 1 + 1) (W.heap.size + 1 + 1 + 1) W.heap.size (W.heap.size + 1) D vj (.slice (some ay) H.length ch) LL H H.length (Ty.mL H) (Ty.mR H) w8 from by rw [hw8]; exact HQ7.out.new ((Kit.Exc.refl (fun _ => False) w7).alloc _))
            clear hw8 p0
            rcases o : Ty.mL H [x.wth - 1, x.role, x.bar, x.fn, x.fd, x.tn, x.td] with _ | _
            · have HO := Lib.hid (show Value.bool (Ty.mL H [x.wth - 1, x.role, x.bar, x.fn, x.fd, x.tn, x.td]) = .bool false by rw [o])
              have hona : Ty.ona H x = true := by simp [Ty.ona, HOT.out, o]
              clear o
              have v0 := HQ8.out.got.box.cell
              have vf := HQ8.out.got.box.frozen
              have zb := HQ8.out.got.box.lt
              have hcell : ∀ i u, (Ty.fs (3, x.id, x.id))[i]? = some u → (w8.alloc (.cells #[.int .i64 3, .int .i64 x.id, .int .i64 x.id] 48)).cell? ((⟨w8.heap.size, 0, none⟩ : Addr).add i) = some u := by
                intro i u hu
                rcases i with _ | _ | _ | i <;> simp [Ty.fs] at hu <;> subst hu <;> simp [Addr.add, go_sem]
              have HCELL := Lib.hid hcell
              clear hcell
              go_wp2_with (first | (at_lookup; refine Ty.lookup_at _ rfl _ _ 59 rfl 61 4 7 Ty.keyC Tryz.underlying59 (.bool false) (by kernel_rfl) W.heap.size _ _ rfl HQ8.out.m1 [x.wth - 1, x.role, x.bar, x.fn, x.fd, x.tn, x.td] rfl rfl HWF.out (.bool false) HO.out ?_) | (at_builtin; refine Kit.wpList_append_own' _ rfl _ _ 35 rfl w.heap.size 48 i0 (.agg #[.int .i64 0, .int .i64 0, .int .i64 0]) 3 24 Tryz.underlying35 hi hz0 hz1 hz2 rfl (by decide) vj _ _ rfl (HQ8.out.got.own.alloc _) ⟨w8.heap.size, 0, none⟩ 1 1 (Ty.fs (3, x.id, x.id)) rfl rfl HCELL.out (by simp [Value.oneCell']) (by unfold maxLen; omega) (by omega) (by simp; omega) ?_; intro v' w9 hown' hgrow _ hwhere; obtain ⟨g', cap', rfl⟩ := ownsRow_succ hown'; have hv1 := (HQ8.out.got.box.alloc _).kept hgrow (HQ8.out.got.box.not_row (by decide) HQ8.out.got.own); have hc1 := hv1.cell; have hf1 := hv1.frozen; have HV1 := Lib.hid hv1; have HGROW := Lib.hid hgrow; have HOWN := Lib.hid hown'; clear hv1 hgrow hwhere hown'))
              have hv2 := HOWN.out.kept (grownBy_setCell' w9 (w.heap.size + 1) (.slice (some ⟨g', 0, none⟩) (LL.length + 1) cap')) (.inr (HV1.out.not_row (by decide) HOWN.out).symm)
              have HF := Lib.hid (HQ8.out.app (L' := LL ++ [(3, x.id, x.id)]) ⟨HV1.out.set (.slice (some ⟨g', 0, none⟩) (LL.length + 1) cap'), by simpa [Ty.flatF_snoc] using hv2⟩ ((((Kit.Exc.refl _ w8).alloc _).grown HGROW.out (fun k hk => .inl (.inr hk))).setCell (p := ⟨w.heap.size + 1, 0, none⟩) (.inl (.inl rfl)) _))
              clear hv2 hc1 hf1 v0 vf
              go_roundw
              case rel => exact ⟨j + 1, _, by go_num, by omega, by rw [HTK.out, Ty.lifQ_snoc, hona, if_pos rfl, ← List.append_assoc, HLL.out]; exact HF.out⟩
              case measure => simp [intOf]; omega
            have HO := Lib.hid (show Value.bool (Ty.mL H [x.wth - 1, x.role, x.bar, x.fn, x.fd, x.tn, x.td]) = .bool true by rw [o])
            rcases cc : (x.wth - 1 == x.role) with _ | _
            · have hona : Ty.ona H x = false := by simp only [Ty.ona, HOT.out, o]; simp at cc ⊢; omega
              clear o
              go_wp2_with (at_lookup; refine Ty.lookup_at _ rfl _ _ 59 rfl 61 4 7 Ty.keyC Tryz.underlying59 (.bool false) (by kernel_rfl) W.heap.size _ _ rfl HQ8.out.m1 [x.wth - 1, x.role, x.bar, x.fn, x.fd, x.tn, x.td] rfl rfl HWF.out (.bool true) HO.out ?_)
              go_roundw
              case rel => exact ⟨j + 1, _, by go_num, by omega, by rw [HTK.out, Ty.lifQ_snoc, hona, if_neg (by simp), List.append_nil, HLL.out]; exact HQ8.out⟩
              case measure => simp [intOf]; omega
            · have hona : Ty.ona H x = true := by simp only [Ty.ona, HOT.out, o]; simp at cc ⊢; omega
              clear o
              have v0 := HQ8.out.got.box.cell
              have vf := HQ8.out.got.box.frozen
              have zb := HQ8.out.got.box.lt
              have hcell : ∀ i u, (Ty.fs (3, x.id, x.id))[i]? = some u → (w8.alloc (.cells #[.int .i64 3, .int .i64 x.id, .int .i64 x.id] 48)).cell? ((⟨w8.heap.size, 0, none⟩ : Addr).add i) = some u := by
                intro i u hu
                rcases i with _ | _ | _ | i <;> simp [Ty.fs] at hu <;> subst hu <;> simp [Addr.add, go_sem]
              have HCELL := Lib.hid hcell
              clear hcell
              go_wp2_with (first | (at_lookup; refine Ty.lookup_at _ rfl _ _ 59 rfl 61 4 7 Ty.keyC Tryz.underlying59 (.bool false) (by kernel_rfl) W.heap.size _ _ rfl HQ8.out.m1 [x.wth - 1, x.role, x.bar, x.fn, x.fd, x.tn, x.td] rfl rfl HWF.out (.bool true) HO.out ?_) | (at_builtin; refine Kit.wpList_append_own' _ rfl _ _ 35 rfl w.heap.size 48 i0 (.agg #[.int .i64 0, .int .i64 0, .int .i64 0]) 3 24 Tryz.underlying35 hi hz0 hz1 hz2 rfl (by decide) vj _ _ rfl (HQ8.out.got.own.alloc _) ⟨w8.heap.size, 0, none⟩ 1 1 (Ty.fs (3, x.id, x.id)) rfl rfl HCELL.out (by simp [Value.oneCell']) (by unfold maxLen; omega) (by omega) (by simp; omega) ?_; intro v' w9 hown' hgrow _ hwhere; obtain ⟨g', cap', rfl⟩ := ownsRow_succ hown'; have hv1 := (HQ8.out.got.box.alloc _).kept hgrow (HQ8.out.got.box.not_row (by decide) HQ8.out.got.own); have hc1 := hv1.cell; have hf1 := hv1.frozen; have HV1 := Lib.hid hv1; have HGROW := Lib.hid hgrow; have HOWN := Lib.hid hown'; clear hv1 hgrow hwhere hown'))
              have hv2 := HOWN.out.kept (grownBy_setCell' w9 (w.heap.size + 1) (.slice (some ⟨g', 0, none⟩) (LL.length + 1) cap')) (.inr (HV1.out.not_row (by decide) HOWN.out).symm)
              have HF := Lib.hid (HQ8.out.app (L' := LL ++ [(3, x.id, x.id)]) ⟨HV1.out.set (.slice (some ⟨g', 0, none⟩) (LL.length + 1) cap'), by simpa [Ty.flatF_snoc] using hv2⟩ ((((Kit.Exc.refl _ w8).alloc _).grown HGROW.out (fun k hk => .inl (.inr hk))).setCell (p := ⟨w.heap.size + 1, 0, none⟩) (.inl (.inl rfl)) _))
              clear hv2 hc1 hf1 v0 vf
              go_roundw
              case rel => exact ⟨j + 1, _, by go_num, by omega, by rw [HTK.out, Ty.lifQ_snoc, hona, if_pos rfl, ← List.append_assoc, HLL.out]; exact HF.out⟩
              case measure => simp [intOf]; omega
          · have hck : Ty.ck x = [x.role, x.wth - 1, x.bar, x.fn, x.fd, x.tn, x.td] := by simp [Ty.ck, d]
            have hwf := HXE.out.2
            rw [hck] at hwf
            have HWF := Lib.hid hwf
            have hoth : Ty.oth H x = Ty.mR H [x.role, x.wth - 1, x.bar, x.fn, x.fd, x.tn, x.td] := by rw [← hck]; simp [Ty.oth, d]
            have HOT := Lib.hid hoth
            rw [show Ty.ckV x = .agg #[.int .i64 x.role, .int .i64 (x.wth - 1), .int .i64 x.bar, .int .i64 x.fn, .int .i64 x.fd, .int .i64 x.tn, .int .i64 x.td] from by simp [Ty.ckV, hck]]
            simp only [d, if_true, if_false, Bool.false_eq_true]
            clear hck hwf hoth
            go_upto_region 26 with fail
            obtain ⟨w8, hw8⟩ : ∃ w8, w8 = w7.alloc (.cells #[.int .i64 x.role, .int .i64 (x.wth - 1), .int .i64 x.bar, .int .i64 x.fn, .int .i64 x.fd, .int .i64 x.tn, .int .i64 x.td] 61) := ⟨_, rfl⟩
            rw [← hw8]
            have q0 : w8.cell? ⟨w7.heap.size, 0, none⟩ = some (.int .i64 x.role) := by rw [hw8]; simp [go_sem]
            have q1 : w8.cell? ⟨w7.heap.size, 1, none⟩ = some (.int .i64 (x.wth - 1)) := by rw [hw8]; simp [go_sem]
            have q2 : w8.cell? ⟨w7.heap.size, 2, none⟩ = some (.int .i64 x.bar) := by rw [hw8]; simp [go_sem]
            have q3 : w8.cell? ⟨w7.heap.size, 3, none⟩ = some (.int .i64 x.fn) := by rw [hw8]; simp [go_sem]
            have q4 : w8.cell? ⟨w7.heap.size, 4, none⟩ = some (.int .i64 x.fd) := by rw [hw8]; simp [go_sem]
            have q5 : w8.cell? ⟨w7.heap.size, 5, none⟩ = some (.int .i64 x.tn) := by rw [hw8]; simp [go_sem]
            have q6 : w8.cell? ⟨w7.heap.size, 6, none⟩ = some (.int .i64 x.td) := by rw [hw8]; simp [go_sem]
            have p8 : w8.cell? ⟨wr.heap.size, 0, none⟩ = some (.int .i64 x.id) := by rw [hw8]; exact Lib.cell?_alloc_some _ p0
            have z8 : w7.heap.size < w8.heap.size := by rw [hw8]; simp
            have z9 : wr.heap.size < w8.heap.size := by omega
            have HQ8 := Lib.hid (show Ty.PB w w.heap.size (w.heap.size + 1) (W.heap.size + 1 + 1) (W.heap.size + 1 + 1 + 1) W.heap.size (W.heap.size + 1) D vj (.slice (some ay) H.length ch) LL H H.length (Ty.mL H) (Ty.mR H) w8 from by rw [hw8]; exact HQ7.out.new ((Kit.Exc.refl (fun _ => False) w7).alloc _))
            clear hw8 p0
            rcases o : Ty.mR H [x.role, x.wth - 1, x.bar, x.fn, x.fd, x.tn, x.td] with _ | _
            · have HO := Lib.hid (show Value.bool (Ty.mR H [x.role, x.wth - 1, x.bar, x.fn, x.fd, x.tn, x.td]) = .bool false by rw [o])
              have hona : Ty.ona H x = true := by simp [Ty.ona, HOT.out, o]
              clear o
              have v0 := HQ8.out.got.box.cell
              have vf := HQ8.out.got.box.frozen
              have zb := HQ8.out.got.box.lt
              have hcell : ∀ i u, (Ty.fs (3, x.id, x.id))[i]? = some u → (w8.alloc (.cells #[.int .i64 3, .int .i64 x.id, .int .i64 x.id] 48)).cell? ((⟨w8.heap.size, 0, none⟩ : Addr).add i) = some u := by
                intro i u hu
                rcases i with _ | _ | _ | i <;> simp [Ty.fs] at hu <;> subst hu <;> simp [Addr.add, go_sem]
              have HCELL := Lib.hid hcell
              clear hcell
              go_wp2_with (first | (at_lookup; refine Ty.lookup_at _ rfl _ _ 59 rfl 61 4 7 Ty.keyC Tryz.underlying59 (.bool false) (by kernel_rfl) (W.heap.size + 1) _ _ rfl HQ8.out.m2 [x.role, x.wth - 1, x.bar, x.fn, x.fd, x.tn, x.td] rfl rfl HWF.out (.bool false) HO.out ?_) | (at_builtin; refine Kit.wpList_append_own' _ rfl _ _ 35 rfl w.heap.size 48 i0 (.agg #[.int .i64 0, .int .i64 0, .int .i64 0]) 3 24 Tryz.underlying35 hi hz0 hz1 hz2 rfl (by decide) vj _ _ rfl (HQ8.out.got.own.alloc _) ⟨w8.heap.size, 0, none⟩ 1 1 (Ty.fs (3, x.id, x.id)) rfl rfl HCELL.out (by simp [Value.oneCell']) (by unfold maxLen; omega) (by omega) (by simp; omega) ?_; intro v' w9 hown' hgrow _ hwhere; obtain ⟨g', cap', rfl⟩ := ownsRow_succ hown'; have hv1 := (HQ8.out.got.box.alloc _).kept hgrow (HQ8.out.got.box.not_row (by decide) HQ8.out.got.own); have hc1 := hv1.cell; have hf1 := hv1.frozen; have HV1 := Lib.hid hv1; have HGROW := Lib.hid hgrow; have HOWN := Lib.hid hown'; clear hv1 hgrow hwhere hown'))
              have hv2 := HOWN.out.kept (grownBy_setCell' w9 (w.heap.size + 1) (.slice (some ⟨g', 0, none⟩) (LL.length + 1) cap')) (.inr (HV1.out.not_row (by decide) HOWN.out).symm)
              have HF := Lib.hid (HQ8.out.app (L' := LL ++ [(3, x.id, x.id)]) ⟨HV1.out.set (.slice (some ⟨g', 0, none⟩) (LL.length + 1) cap'), by simpa [Ty.flatF_snoc] using hv2⟩ ((((Kit.Exc.refl _ w8).alloc _).grown HGROW.out (fun k hk => .inl (.inr hk))).setCell (p := ⟨w.heap.size + 1, 0, none⟩) (.inl (.inl rfl)) _))
              clear hv2 hc1 hf1 v0 vf
              go_roundw
              case rel => exact ⟨j + 1, _, by go_num, by omega, by rw [HTK.out, Ty.lifQ_snoc, hona, if_pos rfl, ← List.append_assoc, HLL.out]; exact HF.out⟩
              case measure => simp [intOf]; omega
            have HO := Lib.hid (show Value.bool (Ty.mR H [x.role, x.wth - 1, x.bar, x.fn, x.fd, x.tn, x.td]) = .bool true by rw [o])
            rcases cc : (x.role == x.wth - 1) with _ | _
            · have hona : Ty.ona H x = false := by simp only [Ty.ona, HOT.out, o]; simp at cc ⊢; omega
              clear o
              go_wp2_with (at_lookup; refine Ty.lookup_at _ rfl _ _ 59 rfl 61 4 7 Ty.keyC Tryz.underlying59 (.bool false) (by kernel_rfl) (W.heap.size + 1) _ _ rfl HQ8.out.m2 [x.role, x.wth - 1, x.bar, x.fn, x.fd, x.tn, x.td] rfl rfl HWF.out (.bool true) HO.out ?_)
              go_roundw
              case rel => exact ⟨j + 1, _, by go_num, by omega, by rw [HTK.out, Ty.lifQ_snoc, hona, if_neg (by simp), List.append_nil, HLL.out]; exact HQ8.out⟩
              case measure => simp [intOf]; omega
            · have hona : Ty.ona H x = true := by simp only [Ty.ona, HOT.out, o]; simp at cc ⊢; omega
              clear o
              have v0 := HQ8.out.got.box.cell
              have vf := HQ8.out.got.box.frozen
              have zb := HQ8.out.got.box.lt
              have hcell : ∀ i u, (Ty.fs (3, x.id, x.id))[i]? = some u → (w8.alloc (.cells #[.int .i64 3, .int .i64 x.id, .int .i64 x.id] 48)).cell? ((⟨w8.heap.size, 0, none⟩ : Addr).add i) = some u := by
                intro i u hu
                rcases i with _ | _ | _ | i <;> simp [Ty.fs] at hu <;> subst hu <;> simp [Addr.add, go_sem]
              have HCELL := Lib.hid hcell
              clear hcell
              go_wp2_with (first | (at_lookup; refine Ty.lookup_at _ rfl _ _ 59 rfl 61 4 7 Ty.keyC Tryz.underlying59 (.bool false) (by kernel_rfl) (W.heap.size + 1) _ _ rfl HQ8.out.m2 [x.role, x.wth - 1, x.bar, x.fn, x.fd, x.tn, x.td] rfl rfl HWF.out (.bool true) HO.out ?_) | (at_builtin; refine Kit.wpList_append_own' _ rfl _ _ 35 rfl w.heap.size 48 i0 (.agg #[.int .i64 0, .int .i64 0, .int .i64 0]) 3 24 Tryz.underlying35 hi hz0 hz1 hz2 rfl (by decide) vj _ _ rfl (HQ8.out.got.own.alloc _) ⟨w8.heap.size, 0, none⟩ 1 1 (Ty.fs (3, x.id, x.id)) rfl rfl HCELL.out (by simp [Value.oneCell']) (by unfold maxLen; omega) (by omega) (by simp; omega) ?_; intro v' w9 hown' hgrow _ hwhere; obtain ⟨g', cap', rfl⟩ := ownsRow_succ hown'; have hv1 := (HQ8.out.got.box.alloc _).kept hgrow (HQ8.out.got.box.not_row (by decide) HQ8.out.got.own); have hc1 := hv1.cell; have hf1 := hv1.frozen; have HV1 := Lib.hid hv1; have HGROW := Lib.hid hgrow; have HOWN := Lib.hid hown'; clear hv1 hgrow hwhere hown'))
              have hv2 := HOWN.out.kept (grownBy_setCell' w9 (w.heap.size + 1) (.slice (some ⟨g', 0, none⟩) (LL.length + 1) cap')) (.inr (HV1.out.not_row (by decide) HOWN.out).symm)
              have HF := Lib.hid (HQ8.out.app (L' := LL ++ [(3, x.id, x.id)]) ⟨HV1.out.set (.slice (some ⟨g', 0, none⟩) (LL.length + 1) cap'), by simpa [Ty.flatF_snoc] using hv2⟩ ((((Kit.Exc.refl _ w8).alloc _).grown HGROW.out (fun k hk => .inl (.inr hk))).setCell (p := ⟨w.heap.size + 1, 0, none⟩) (.inl (.inl rfl)) _))
              clear hv2 hc1 hf1 v0 vf
              go_roundw
              case rel => exact ⟨j + 1, _, by go_num, by omega, by rw [HTK.out, Ty.lifQ_snoc, hona, if_pos rfl, ← List.append_assoc, HLL.out]; exact HF.out⟩
              case measure => simp [intOf]; omega
        · obtain rfl : j = H.length := by omega
          have hq := HQ.out
          rw [List.take_length] at hq
          have HQ2 := Lib.hid hq
          clear HQ hq
          obtain ⟨av, nv, cv, rfl⟩ : ∃ a n c, vj = .slice a n c := by
            rcases HQ2.out.got.own.2 with ⟨h1, _⟩ | ⟨g, cap, cur, h1, _⟩
            · exact ⟨_, _, _, h1⟩
            · exact ⟨_, _, _, h1⟩
          have v0 := HQ2.out.got.box.cell
          have vf := HQ2.out.got.box.frozen
          have zb := HQ2.out.got.box.lt
          have lLL : (L ++ Ty.lifQ H H).length ≤ 1000000000 := by
            rw [List.length_append]
            have h1 : (Ty.lifQ H H).length ≤ H.length := by simp only [Ty.lifQ, List.length_map]; exact List.length_filter_le _ _
            omega
          go_wp2_with fail
          refine (ty_sort (.slice av nv cv) w.heap.size (L ++ Ty.lifQ H H) wr lLL HQ2.out.got.own).mono ?_
          rintro _ w8 ⟨rfl, l', hp, hsr, ho8, hx8⟩
          have hg8 : Ty.Got w.heap.size (w.heap.size + 1) l' (.slice av nv cv) w8 := ⟨hx8.boxed HQ2.out.got.box (fun e => HQ2.out.got.box.not_row (by decide) HQ2.out.got.own e.symm), ho8⟩
          have HQ8 := Lib.hid (HQ2.out.app hg8 (hx8.mono (fun k _ h => .inr h)))
          clear v0 vf zb
          have v0 := hg8.box.cell
          have vf := hg8.box.frozen
          have zb := hg8.box.lt
          have HPP := Lib.hid (show l'.Perm (L ++ Ty.lifP sg) by rw [Ty.lifP_eq, ← HHE.out]; exact hp)
          have HSR := Lib.hid hsr
          have HG8 := Lib.hid hg8
          clear hp hsr ho8 hx8 hg8
          go_wp2_with fail
          have hDB : w.heap.size + 1 ≠ D := fun e => Ty.PB.ne_obj HQ8.out.dfr HG8.out.box (by simp) e.symm
          have hb9 := HG8.out.box.set (.slice av nv cv)
          have ho9 := HG8.out.own.kept (grownBy_setCell' w8 (w.heap.size + 1) (.slice av nv cv)) (.inr (HG8.out.box.not_row (by decide) HG8.out.own).symm)
          have hd9 := Kit.mark_other HQ8.out.dfr ⟨w.heap.size + 1, 0, none⟩ (.slice av nv cv) hDB
          have he9 : Below w.heap.size w (w8.setCell ⟨w.heap.size + 1, 0, none⟩ (.slice av nv cv)) := HQ8.out.below.trans (((Kit.Exc.refl (fun k => k = w.heap.size + 1) w8).setCell (p := ⟨w.heap.size + 1, 0, none⟩) (.inl rfl) (.slice av nv cv)).below HQ8.out.below.size (fun k e => by omega))
          have c9 := (Kit.boxed_putObj hb9 (.deferred none) hDB).cell
          have ho10 := Ty.own_keep (W' := (w8.setCell ⟨w.heap.size + 1, 0, none⟩ (.slice av nv cv)).putObj D (.deferred none)) ho9 (fun g hg => World.putObj_heap_other (fun e => by
            obtain ⟨cur, hc⟩ := Ty.PB.own_obj ho9 hg
            exact Ty.PB.ne_obj hc hd9 (by simp) e))
          refine Kit.post_mark hd9 (v := .tuple #[.slice av nv cv, .int .i64 0]) ?_ (HR.out l' (.slice av nv cv) _ HPP.out HSR.out ho10 (Kit.below_putObj he9 _ _ hDl))
          rw [HFN.out]
          simp [results, Tryz.results6, go_sem, c9]
