/- Walks: the reference of layer 45: table. -/
import Derived.Test.YtdaedjmkolcliaaJrG
import Derived.Test.YtdaedjmkolcliaaIdT
namespace Go.Proofs.Ytdaedjmkolcliaa
set_option linter.unusedVariables false
set_option linter.unusedSimpArgs false
open Go.RowKit Go.Shelf

theorem Id.elBB : Kit.El Try.prog 71 37 (.slice none 0 0) 1 24 := ⟨Try.underlying71, by kernel_rfl, rfl, by omega, by omega⟩
set_option maxRecDepth 100000 in
set_option maxHeartbeats 8000000 in
theorem rx_table (lim : Int) (a : Option Addr) (L : List (List Id.Sg)) (c : Nat) (w : World) (hS : Id.Sls w a 14 Id.sgc L) (hl : L.length ≤ 1000000) (hl2 : ∀ x ∈ L, x.length ≤ 4611686018427387904) :
    Calls Try.prog 49 #[.slice a L.length c, .int .i64 lim] w (Id.TbP lim L w) := by
  have HS := Lib.hid hS
  have HL2 := Lib.hid hl2
  clear hS hl2
  by_cases h16 : 16 < L.length
  · have HE := Lib.hid (show Id.tE lim L = 2 by unfold Id.tE; rw [if_pos h16])
    go_enter Try.func49, Try.ntmps49
    go_wp2
    go_ret2
    refine ⟨Below.refl _ _, ?_⟩
    rw [HE.out, if_neg (by decide)]
    rfl
  have HET := Lib.hid (show Id.tE lim L = Id.eE lim L by unfold Id.tE; rw [if_neg h16])
  go_enter Try.func49, Try.ntmps49
  go_wp2_with fail
  go_loopw [6, 7] (fun v6 v7 wr => ∃ (k : Nat) (vs : List Value), v7 = .int .i64 k ∧ k ≤ L.length ∧ Hid (Kit.Gw w 25 1 v6 k vs wr) ∧ Hid (Id.Rows w.heap.size wr 3 vs (((L.take k).map Id.ess).map Id.ints)) ∧ Hid (Id.eE lim L = Id.eE lim (L.drop k)))
    (fun _ v7 _ => L.length - (intOf v7).toNat)
  case atStart => exact ⟨0, [], rfl, Nat.zero_le _, Kit.Gw.start _ _ _, Id.Rows.nil _ _ _, rfl⟩
  case round =>
    obtain ⟨k, vs, rfl, hk, HO, HR, HE⟩ := hrel
    by_cases hlt : k < L.length
    · obtain ⟨ad, rfl, had, ai, ci, e0, hsl⟩ := (HS.out.kept HO.out.bel (Nat.le_refl _)).at hlt
      have hE := HE.out
      rw [Tp.drop_cons L [] k hlt] at hE
      have HT := Lib.hid (Id.take_snoc L k hlt (L.getD k []) rfl)
      have hm : L.getD k [] ∈ L := by rw [List.getD_eq_getElem?_getD, List.getElem?_eq_getElem hlt]; exact List.getElem_mem hlt
      have hx2 := HL2.out _ hm
      generalize L.getD k [] = x at hE HT e0 hsl hx2
      have HSL := Lib.hid hsl
      have HE2 := Lib.hid (show Id.eE lim L = if Id.essE x = 0 then Id.eE lim (L.drop (k + 1)) else Id.essE x from hE)
      clear hE HE hsl hm
      go_wp2_with fail
      refine (rx_essence ai x ci _ HSL.out hx2).mono ?_
      rintro e w2 ⟨hb, he⟩
      have HB2 := Lib.hid hb
      clear hb
      by_cases h0 : Id.essE x = 0
      · rw [if_pos h0] at he HE2
        obtain ⟨aV, cV, rfl, ho⟩ := he
        have HN := Lib.hid ho
        have HO2 := Lib.hid (HO.out.thn HB2.out)
        have HR2 := Lib.hid (HR.out.thn HB2.out)
        have hsz := HO.out.size
        have HH := Lib.hid h0
        clear ho h0 e0
        go_wp2_with (at_builtin; refine Kit.wpList_app Id.elJ _ rfl _ _ rfl _ _ _ (HO2.out.alloc _) rfl (by omega) ⟨w2.heap.size, 0, none⟩ 1 [.slice aV (Id.ess x).length cV] rfl rfl (fun j u hu => Kit.lit_at _ _ _ rfl j u hu) (by simp [Value.oneCell']) ?_; intro v' w5 ho hg; have HO3 := Lib.hid ho; have HG3 := Lib.hid hg; clear ho hg)
        go_roundw
        case rel =>
          have h1 := (HR2.out.thn ((Below.refl _ _).alloc (Nat.le_refl _) _)).grown (HO2.out.alloc _).own (by decide) HG3.out
          have h2 := ((HN.out.alloc _).kept HG3.out (Id.own_ne (HN.out.alloc _) (HO2.out.alloc (.cells #[.slice aV (Id.ess x).length cV] 25)).own (by decide))).mono hsz
          have h3 := h1.snoc (m := Id.ints (Id.ess x)) (by rw [Id.ints_len]; exact h2)
          rw [Id.ints_len] at h3
          exact ⟨k + 1, _, by go_num, by omega, HO3.out, by rw [HT.out]; exact Lib.hid (by simpa using h3), HE2.out⟩
        case measure => simp [intOf]; omega
      · rw [if_neg h0] at he HE2
        subst he
        have q1 : (Id.essE x != 0) = true := by simpa using h0
        have HH := Lib.hid h0
        clear h0
        generalize Id.essE x = q at q1 HE2 HH
        go_wp2
        go_ret2
        refine ⟨HO.out.bel.trans (HB2.out.mono HO.out.size), ?_⟩
        rw [HET.out, HE2.out, if_neg HH.out]
        rfl
    · obtain rfl : k = L.length := by omega
      have HE2 := Lib.hid (show Id.eE lim L = Id.limE lim by rw [HE.out, List.drop_length]; rfl)
      clear HE
      rw [List.take_length] at HR
      obtain ⟨aV, cV, rfl⟩ := HO.out.shape
      by_cases h0 : lim < 0
      · have j1 : decide (lim < 0) = true := by simpa using h0
        have HH := Lib.hid (show Id.limE lim = 450 by unfold Id.limE; rw [if_pos (.inl h0)])
        go_wp2
        go_ret2
        refine ⟨HO.out.bel, ?_⟩
        rw [HET.out, HE2.out, HH.out, if_neg (by decide)]
        rfl
      have j1 : decide (lim < 0) = false := by simpa using h0
      by_cases h1 : 1000 < lim
      · have j2 : decide (1000 < lim) = true := by simpa using h1
        have HH := Lib.hid (show Id.limE lim = 450 by unfold Id.limE; rw [if_pos (.inr h1)])
        go_wp2
        go_ret2
        refine ⟨HO.out.bel, ?_⟩
        rw [HET.out, HE2.out, HH.out, if_neg (by decide)]
        rfl
      have j2 : decide (1000 < lim) = false := by simpa using h1
      have HH := Lib.hid (show Id.limE lim = 0 by unfold Id.limE; rw [if_neg (by omega)])
      have hEE : Id.eE lim L = 0 := by rw [HE2.out, HH.out]
      have HAL := Lib.hid (Id.rows_sls HO.out.own HR.out (by simp) (fun l => Id.ints_len l) (fun l => Id.ints_ic l))
      have HB := Lib.hid HO.out.bel
      clear HO HR
      obtain ⟨q1, q2, q3⟩ := Id.eE_all hEE
      have HES := Lib.hid (fun i (hi : i < L.length) => Id.ess_le (q1 (L.getD i []) (by rw [List.getD_eq_getElem?_getD, List.getElem?_eq_getElem hi]; exact List.getElem_mem hi)))
      have HGT := Lib.hid (show ∀ i, i < L.length → (L.map Id.ess).getD i [] = Id.ess (L.getD i []) from fun i hi => by simp [List.getD, List.getElem?_map, List.getElem?_eq_getElem hi])
      have HSM := Lib.hid (show ∀ i k (hi : i < L.length) (hk : k < L.length) aA cA aB cB W, Tp.Sl W aA (Id.ess (L.getD i [])).length 1 (Id.ic (Id.ess (L.getD i []))) → Tp.Sl W aB (Id.ess (L.getD k [])).length 1 (Id.ic (Id.ess (L.getD k []))) →
        Calls Try.prog 39 #[.slice aA (Id.ess (L.getD i [])).length cA, .slice aB (Id.ess (L.getD k [])).length cB, .int .i64 lim] W fun e w' => e = .returned (.bool (Id.gr lim L i k)) ∧ Below W.heap.size W w' from fun i k hi hk aA cA aB cB W s0 s1 =>
          rx_near (Id.ess (L.getD i [])) (Id.ess (L.getD k [])) aA cA aB cB lim W s0 s1 (HES.out i hi).2 (HES.out k hk).2 (Id.ess_cod (HES.out i hi).1) (Id.ess_cod (HES.out k hk).1) q2 q3)
      have HTE := Lib.hid (show Id.tE lim L = 0 by rw [HET.out, hEE])
      clear q1 q2 q3 hEE HE2 HH HES HET
      obtain ⟨g, hg⟩ : ∃ g, Id.gr lim L = g := ⟨_, rfl⟩
      rw [hg] at HSM
      have HG := Lib.hid hg
      clear hg
      have hn16 : L.length ≤ 16 := by omega
      generalize hn : L.length = n at *
      have HN := Lib.hid hn
      clear hn
      go_wp2_with fail
      go_loopw [10, 11] (fun v10 v11 wi => ∃ (i : Nat) (ts : List Value), v11 = .int .i64 i ∧ i ≤ n ∧ Hid (Kit.Gw wr 37 1 v10 i ts wi) ∧ Hid (Id.Rows wr.heap.size wi 4 ts ((Id.tabB n g i).map Id.bools)))
        (fun _ v11 _ => n - (intOf v11).toNat)
      case atStart => exact ⟨0, [], rfl, Nat.zero_le _, Kit.Gw.start _ _ _, Id.Rows.nil _ _ _⟩
      case round =>
        obtain ⟨i, ts, rfl, hi, HO, HR⟩ := hrel
        rename World => wi
        by_cases hin : i < n
        · go_wp2_with fail
          go_loopw [12, 13] (fun v12 v13 wx => ∃ k : Nat, v13 = .int .i64 k ∧ k ≤ n ∧ Hid (Kit.Gw wi 4 1 v12 k (Id.bools ((List.range k).map (g i))) wx))
            (fun _ v13 _ => n - (intOf v13).toNat)
          case atStart => exact ⟨0, rfl, Nat.zero_le _, Kit.Gw.start _ _ _⟩
          case round =>
            obtain ⟨k, rfl, hk, HP⟩ := hrel
            rename World => wx
            by_cases hkn : k < n
            · have HBX := Lib.hid (HO.out.thn HP.out.bel).bel
              have hal := HAL.out.kept HBX.out (Nat.le_refl _)
              obtain ⟨ad, rfl, had, ai, ci, e0, s0⟩ := hal.at (i := i) (by rw [List.length_map, HN.out]; exact hin)
              obtain ⟨ad', hq, _, ak, ck, e1, s1⟩ := hal.at (i := k) (by rw [List.length_map, HN.out]; exact hkn)
              obtain rfl : ad = ad' := by simpa using hq
              rw [HGT.out i hin] at e0 s0
              rw [HGT.out k hkn] at e1 s1
              have HCALL := Lib.hid (fun z : Kit.Wd wx => HSM.out i k hin hkn ai ci ak ck z.val (s0.kept z.below (Nat.le_refl _)) (s1.kept z.below (Nat.le_refl _)))
              have hadx : ∀ j, (ad.add j).block < wx.heap.size := fun j => by rw [Tp.add_block]; exact had
              replace e0 := fun z : Kit.Wd wx => (z.below.cell (hadx i)).trans e0
              replace e1 := fun z : Kit.Wd wx => (z.below.cell (hadx k)).trans e1
              have HT := Lib.hid (show Id.bools ((List.range (k + 1)).map (g i)) = Id.bools ((List.range k).map (g i)) ++ [.bool (g i k)] by simp [List.range_succ, Id.bools])
              clear s0 s1 hal hq
              generalize g i k = r at HCALL HT
              generalize (Id.ess (L.getD i [])).length = ni at HCALL e0
              generalize (Id.ess (L.getD k [])).length = nk at HCALL e1
              go_wp2_with fail
              obtain ⟨aP, cP, rfl⟩ := HP.out.shape
              refine Kit.wp_region_vals 12 [([(12, none)], none, true), ([(6, none)], none, true), ([(11, none)], none, true), ([(57, some 1), (58, some 2)], none, true), ([(59, some 3)], none, true), ([(6, none)], none, true), ([(13, none)], none, true), ([(61, some 5), (62, some 6)], none, true), ([(63, some 7)], none, true), ([(1, none)], none, true), ([(60, some 4), (64, some 8), (65, some 9)], none, true), ([(66, some 10)], none, true)]
                [some 56, some 57, some 58, some 59, some 60, some 61, some 62, some 63, some 64, some 65, some 66, some 67] rfl (by kernel_rfl) (by kernel_rfl) (fun A B => Below A.heap.size A B) (fun i' v w' => match i' with
                | 0 => v = .slice aP k cP
                | 1 => v = .slice (some ad) n cV
                | 2 => v = .int .i64 i
                | 3 => v = .pointer (some (ad.add i))
                | 4 => v = .slice ai ni ci
                | 5 => v = .slice (some ad) n cV
                | 6 => v = .int .i64 k
                | 7 => v = .pointer (some (ad.add k))
                | 8 => v = .slice ak nk ck
                | 9 => v = .int .i64 lim
                | 10 => v = .bool r
                | _ => ∃ b, v = .slice (some ⟨b, 0, none⟩) 1 1 ∧ w'.heap[b]? = some (.cells #[.bool r] 4 (0, 0)))
                (fun h k => h.trans (k.mono h.size)) ((Below.refl _ _).drew) (fun _ => Below.refl _ _) ?_ ?_ ?_
              · intro i' v A B h1 h2 h3
                split at h3 <;> first | exact h3 | exact h3.imp fun b h => ⟨h.1, (h2.block b (Array.getElem?_eq_some_iff.1 h.2).1).trans h.2⟩
              · simp only [List.take_succ_cons, List.take_zero, Kit.StepsV, Kit.VOp, Kit.RdP, true_and, if_true, and_true]
                refine ⟨?_, ?_, ?_, ?_, ?_, ?_, ?_, ?_, ?_, ?_, ?_, ?_⟩
                all_goals intro ev w1 hx1 hv hc hf hg'
                all_goals try (have g0 := e0 ⟨w1, hx1⟩)
                all_goals try (have g1 := e1 ⟨w1, hx1⟩)
                · simp at hv; simp [execOp, hv, go_sem, Kit.UponV, Below.refl]
                · simp at hv; simp [execOp, hv, go_sem, Kit.UponV, Below.refl]
                · simp at hv; simp [execOp, hv, go_sem, Kit.UponV, Below.refl]
                · simp [execOp, hv, hc, go_sem, Kit.UponV, Below.refl, hin]
                · simp [execOp, hv, hc, go_sem, Kit.UponV, Below.refl, g0]
                · simp at hv; simp [execOp, hv, go_sem, Kit.UponV, Below.refl]
                · simp at hv; simp [execOp, hv, go_sem, Kit.UponV, Below.refl]
                · simp [execOp, hv, hc, go_sem, Kit.UponV, Below.refl, hkn]
                · simp [execOp, hv, hc, go_sem, Kit.UponV, Below.refl, g1]
                · simp at hv; simp [execOp, hv, go_sem, Kit.UponV, Below.refl]
                · simp [execOp, hv, hc, hf, go_sem, Kit.UponV]
                  exact (HCALL.out ⟨w1, hx1⟩).mono fun e w' h => by first | exact ⟨_, h.1, rfl, h.2⟩ | exact ⟨h.1, h.2⟩
                · simp [execOp, hv, hc, go_sem, Kit.UponV]
                  exact ⟨(Array.getElem?_eq_some_iff.1 (World.alloc_heap_new w1 (.cells #[.bool r] 4))).2, (Below.refl _ _).alloc (Nat.le_refl _) _⟩
              · intro vs w9 hp hb9
                have v0 : vs 0 = _ := hp 0 (by omega)
                have v1 : vs 1 = _ := hp 1 (by omega)
                have v2 : vs 2 = _ := hp 2 (by omega)
                have v3 : vs 3 = _ := hp 3 (by omega)
                have v4 : vs 4 = _ := hp 4 (by omega)
                have v5 : vs 5 = _ := hp 5 (by omega)
                have v6 : vs 6 = _ := hp 6 (by omega)
                have v7 : vs 7 = _ := hp 7 (by omega)
                have v8 : vs 8 = _ := hp 8 (by omega)
                have v9 : vs 9 = _ := hp 9 (by omega)
                have v10 : vs 10 = _ := hp 10 (by omega)
                obtain ⟨bk, v11, hbk⟩ := hp 11 (by omega)
                clear hp
                simp only [Kit.putD, List.getD_cons_zero, List.getD_cons_succ, Act.put, v0, v1, v2, v3, v4, v5, v6, v7, v8, v9, v10, v11, List.drop_succ_cons, List.drop_zero]
                go_simp
                clear v0 v1 v2 v3 v4 v5 v6 v7 v8 v9 v10 v11
                have HP2 := Lib.hid (HP.out.thn hb9)
                clear e0 e1 hb9 HCALL
                have HBK := Lib.hid hbk
                clear hbk
                go_wp2_with (at_builtin; refine Kit.hold ?_; intro X HX)
                rw [HX.out]; clear HX X
                refine Kit.wpList_app Id.elBool _ rfl _ _ rfl _ _ _ HP2.out rfl (by omega) ⟨bk, 0, none⟩ 1 [.bool r] rfl rfl (fun j u hu => ?_) (by simp [Value.oneCell']) ?_
                · rcases j with _ | j
                  · simp at hu
                    subst hu
                    simp [World.cell?, HBK.out, Addr.add]
                  · simp at hu
                intro v' w5 ho hg; have HP3 := Lib.hid ho; clear ho hg
                go_wp2
                go_roundw
                case rel => exact ⟨k + 1, by go_num, by omega, by rw [HT.out]; exact HP3.out⟩
                case measure => simp [intOf]; omega
            · obtain rfl : k = n := by omega
              obtain ⟨aR, cR, rfl⟩ := HP.out.shape
              have HOX := Lib.hid (HO.out.thn HP.out.bel)
              have HRX := Lib.hid (HR.out.thn HP.out.bel)
              have HPO := Lib.hid (HP.out.own.mono HO.out.size)
              have HTS := Lib.hid (Id.tabB_succ k g i)
              clear HP
              go_wp2_with (at_builtin; refine Kit.wpList_app Id.elBB _ rfl _ _ rfl _ _ _ (HOX.out.alloc _) rfl (by omega) ⟨wx.heap.size, 0, none⟩ 1 [.slice aR k cR] rfl rfl (fun j u hu => Kit.lit_at _ _ _ rfl j u hu) (by simp [Value.oneCell']) ?_; intro v' w5 ho hg5; have HO3 := Lib.hid ho; have HG3 := Lib.hid hg5; clear ho hg5)
              go_roundw
              case rel =>
                have h1 := (HRX.out.thn ((Below.refl _ _).alloc (Nat.le_refl _) _)).grown (HOX.out.alloc _).own (by decide) HG3.out
                have h2 := ((HPO.out.alloc _).kept HG3.out (Id.own_ne (HPO.out.alloc _) (HOX.out.alloc (.cells #[.slice aR k cR] 37)).own (by decide)))
                have hl : (Id.bools (Id.rowB k g i)).length = k := by rw [Id.bools_len, Id.rowB_len]
                have h3 := h1.snoc (m := Id.bools (Id.rowB k g i)) (a := aR) (c := cR) (by rw [hl]; exact h2)
                rw [hl] at h3
                exact ⟨i + 1, _, by go_num, by omega, HO3.out, by rw [HTS.out, List.map_append]; exact h3⟩
              case measure => simp [intOf]; omega
        · obtain rfl : i = n := by omega
          obtain ⟨aT, cT, rfl⟩ := HO.out.shape
          go_wp2
          go_ret2
          refine ⟨HB.out.trans (HO.out.bel.mono HB.out.size), ?_⟩
          rw [HTE.out, if_pos rfl, HN.out, HG.out]
          exact ⟨aT, cT, rfl, Id.rows_sls HO.out.own HR.out (by rw [Id.tabB_len]) (fun l => Id.bools_len l) (fun l => Id.bools_bc l)⟩
end Go.Proofs.Ytdaedjmkolcliaa
