/- Walks: the reference of layer 45: Essence. -/
import Derived.Test.YtdaedjmkolcliaaJrB
import Derived.Test.YtdaedjmkolcliaaJrC
import Derived.Test.YtdaedjmkolcliaaIdN
import Derived.Test.YtdaedjmkolcliaaJaJ
namespace Go.Proofs.Ytdaedjmkolcliaa
set_option linter.unusedVariables false
set_option linter.unusedSimpArgs false
open Go.RowKit Go.Shelf

namespace Id
theorem ok_take {L : List Sg} (h : chk L = 0) (k : Nat) : Ok (essl (L.take k)) := by
  obtain ⟨_, h1, h2⟩ := chk_ok h
  refine ⟨fun s hs => form_fd (h1 s (List.mem_of_mem_take (List.mem_filter.1 hs).1)), ?_⟩
  exact ((h2.sublist (List.take_sublist k L)).filter _).imp fun h => by omega
theorem es_put {E : List Sg} {x : Sg} (h : Ok (E ++ [x])) {j : Nat} (hj : j ≤ (srt E).length) (h1 : ∀ s ∈ (srt E).drop j, lt x s) (h2 : ∀ s, (srt E)[j - 1]? = some s → 0 < j → ¬ lt x s) : (srt E).take j ++ x :: (srt E).drop j = srt (E ++ [x]) := by
  have hE : Ok E := ⟨fun s hs => h.1 s (List.mem_append_left _ hs), (List.pairwise_append.1 h.2).1⟩
  refine srt_uniq h (put_srt (h.1 x (by simp)) (fun s hs => hE.1 s (srt_mem.1 hs)) (fun s hs => ?_) (srt_srt hE) j hj h1 h2) fun y => ?_
  · exact Ne.symm ((List.pairwise_append.1 h.2).2.2 s (srt_mem.1 hs) x (by simp))
  · rw [List.mem_append, List.mem_cons, List.mem_append, List.mem_singleton]
    have h3 : y ∈ srt E ↔ y ∈ (srt E).take j ∨ y ∈ (srt E).drop j := by
      rw [← List.mem_append, List.take_append_drop]
    rw [srt_mem] at h3
    constructor
    · rintro (h | h | h)
      · exact .inl (h3.2 (.inl h))
      · exact .inr h
      · exact .inl (h3.2 (.inr h))
    · rintro (h | h)
      · rcases h3.1 h with h | h
        · exact .inl h
        · exact .inr (.inr h)
      · exact .inr (.inl h)
theorem sl_flat {w : World} {ad : Addr} {l : List Sg} (h : Tp.Sl w (some ad) l.length 14 (sgc l)) : ∀ j u, (flatS l)[j]? = some u → w.cell? (ad.add j) = some u := by
  intro j u hu
  have hj : j < l.length * 14 := by rw [← flatS_len]; exact (List.getElem?_eq_some_iff.1 hu).1
  obtain ⟨ad', e, _, hc⟩ := h.at (i := j / 14) (by omega)
  cases e
  have h1 := hc (j % 14) (by omega)
  rw [show j / 14 * 14 + j % 14 = j by omega] at h1
  have h2 := flatS_get l (j / 14) (j % 14) (by omega) (by omega)
  rw [show j / 14 * 14 + j % 14 = j by omega, hu] at h2
  rw [h1, ← h2]
theorem sl_take {w : World} {ad : Addr} {l : List Sg} (h : Tp.Sl w (some ad) l.length 14 (sgc l)) {j : Nat} (hj : j ≤ l.length) : Tp.Sl w (some ad) (l.take j).length 14 (sgc (l.take j)) := by
  rcases h with h | ⟨ad', e, h1, h2⟩
  · exact .inl (by rw [List.length_take]; omega)
  · cases e
    refine .inr ⟨ad, rfl, h1, fun i t hi ht => ?_⟩
    rw [List.length_take] at hi
    rw [h2 i t (by omega) ht]
    unfold sgc
    rw [show (l.take j).getD i default = l.getD i default by simp [List.getD, List.getElem?_take, show i < j by omega]]
theorem sl_drop {w : World} {ad : Addr} {l : List Sg} (h : Tp.Sl w (some ad) l.length 14 (sgc l)) (j : Nat) : Tp.Sl w (some (ad.add (j * 14))) (l.drop j).length 14 (sgc (l.drop j)) := by
  rcases h with h | ⟨ad', e, h1, h2⟩
  · exact .inl (by rw [List.length_drop]; omega)
  · cases e
    refine .inr ⟨_, rfl, by rw [Tp.add_block]; exact h1, fun i t hi ht => ?_⟩
    rw [List.length_drop] at hi
    have e : (ad.add (j * 14)).add (i * 14 + t) = ad.add ((j + i) * 14 + t) := by
      rw [show (j + i) * 14 + t = j * 14 + (i * 14 + t) by omega]
      generalize j * 14 = p
      generalize i * 14 + t = q
      unfold Addr.add
      split <;> split <;> simp_all <;> omega
    rw [e, h2 (j + i) t (by omega) ht]
    unfold sgc
    rw [show (l.drop j).getD i default = l.getD (j + i) default by simp [List.getD, List.getElem?_drop]]
end Id
set_option maxRecDepth 100000 in
set_option maxHeartbeats 8000000 in
theorem rx_essence (a : Option Addr) (L : List Id.Sg) (c : Nat) (w : World) (hS : Tp.Sl w a L.length 14 (Id.sgc L)) (hl : L.length ≤ 4611686018427387904) : Calls Try.prog 13 #[.slice a L.length c] w (Id.EssP L w) := by
  have HS := Lib.hid hS
  by_cases hc0 : Id.chk L = 0
  case neg =>
    have hE : Id.essE L = Id.chk L := by unfold Id.essE; rw [if_neg hc0]
    obtain ⟨q, hq⟩ : ∃ q, Id.chk L = q := ⟨_, rfl⟩
    rw [hq] at hE hc0
    have HE := Lib.hid hE
    have HQ := Lib.hid hq
    have HC0 := Lib.hid hc0
    have q1 : (q != 0) = true := by simpa using hc0
    clear hE hq hc0 hS
    go_enter Try.func13, Try.ntmps13
    go_wp2_with fail
    refine (rx_check a L c _ HS.out hl).mono ?_
    rintro _ w1 ⟨rfl, hb⟩
    have HB := Lib.hid hb; clear hb
    rw [HQ.out]
    go_wp2
    go_ret2
    refine ⟨HB.out, ?_⟩
    rw [HE.out, if_neg HC0.out]
    rfl
  have HC := Lib.hid hc0
  have hl2 : L.length ≤ 4096 := (Id.chk_ok hc0).1
  clear hc0 hS
  have hesl : (Id.essl L).length ≤ 4096 := Nat.le_trans (List.length_filter_le _ _) hl2
  go_enter Try.func13, Try.ntmps13
  go_wp2_with fail
  refine (rx_check a L c _ HS.out hl).mono ?_
  rintro _ w1 ⟨rfl, hb⟩
  have HB1 := Lib.hid hb; clear hb
  rw [HC.out]
  go_wp2_with fail
  refine (ja_many a L c _ (HS.out.kept HB1.out (Nat.le_refl _)) hl).mono ?_
  rintro _ w' ⟨rfl, rfl⟩
  by_cases h64 : 64 < (Id.essl L).length
  · have HE := Lib.hid (show Id.essE L = 2 by unfold Id.essE; rw [if_pos HC.out, if_pos h64])
    have k1 : decide ((64 : Int) < ((Id.essl L).length : Int)) = true := by simp; omega
    go_wp2
    go_ret2
    refine ⟨HB1.out, ?_⟩
    rw [HE.out, if_neg (by decide)]
    rfl
  have k1 : decide ((64 : Int) < ((Id.essl L).length : Int)) = false := by simp; omega
  have HE := Lib.hid (show Id.essE L = 0 by unfold Id.essE; rw [if_pos HC.out, if_neg h64])
  have HFM := Lib.hid (Id.essl_form HC.out)
  have hll : (Id.essl L).length ≤ 64 := by omega
  have HX0 := Lib.hid (HS.out.kept HB1.out (Nat.le_refl _))
  go_wp2_with fail
  go_loopw [5, 6] (fun v5 v6 wr => ∃ k : Nat, v6 = .int .i64 k ∧ k ≤ L.length ∧ Hid (Kit.Gw w1 49 14 v5 (Id.srt (Id.essl (L.take k))).length (Id.flatS (Id.srt (Id.essl (L.take k)))) wr))
    (fun _ v6 _ => L.length - (intOf v6).toNat)
  case atStart => exact ⟨0, rfl, Nat.zero_le _, Kit.Gw.start _ _ _⟩
  case round =>
    obtain ⟨k, rfl, hk, HO⟩ := hrel
    by_cases hlt : k < L.length
    · obtain ⟨ad, rfl, had, _⟩ := HX0.out.at hlt
      have e3 := (HX0.out.kept HO.out.bel (Nat.le_refl _)).field hlt (j := 3) (by omega) (by omega)
      obtain ⟨x, hx_⟩ : ∃ y, L.getD k default = y := ⟨_, rfl⟩
      simp only [Id.sgc, hx_, Id.sgF] at e3
      have HT := Lib.hid (Id.essl_take L k hlt x hx_)
      have HOK := Lib.hid (Id.ok_take HC.out (k + 1))
      have hlen : (Id.essl (L.take k)).length ≤ 64 := Nat.le_trans (((List.take_sublist k L).filter _).length_le) hll
      have HFE := Lib.hid (show ∀ s ∈ Id.essl (L.take k), Id.form s = true from fun s hs => (Id.chk_ok HC.out).2.1 s (List.mem_of_mem_take (List.mem_filter.1 hs).1))
      have HFX := Lib.hid (show Id.form x = true from (Id.chk_ok HC.out).2.1 x (by rw [← hx_, List.getD_eq_getElem?_getD, List.getElem?_eq_getElem hlt]; exact List.getElem_mem hlt))
      generalize Id.essl (L.take k) = E at HO HT hlen HFE ⊢
      rcases hm : decide (x.mark = 1) with _ | _
      · have d1 : (x.mark != 1) = true := by simpa using hm
        rw [hm] at HT
        clear hx_
        go_wp2_with fail
        go_roundw
        case rel => exact ⟨k + 1, by go_num, by omega, by rw [HT.out, if_neg (by simp)]; exact HO.out⟩
        case measure => simp [intOf]; omega
      · have d1 : (x.mark != 1) = false := by simpa using hm
        rw [hm, if_pos rfl] at HT
        rw [HT.out] at HOK
        have HT2 := Lib.hid (show Id.srt (Id.essl (L.take (k + 1))) = Id.srt (E ++ [x]) by rw [HT.out])
        clear HT
        have HPUT := Lib.hid (fun j (hj : j ≤ (Id.srt E).length) h1 h2 => Id.es_put (x := x) (j := j) HOK.out hj h1 h2)
        have HFS := Lib.hid (show ∀ s ∈ Id.srt E, Id.form s = true from fun s hs => HFE.out s (Id.srt_mem.1 hs))
        rw [← Id.srt_len] at hlen
        clear HFE HOK
        generalize Id.srt (E ++ [x]) = S2 at HPUT HT2
        generalize Id.srt E = S at HO HPUT HFS hlen
        obtain ⟨aV, cV, rfl⟩ := HO.out.shape
        have hcap : S.length ≤ cV ∧ (aV = none → S.length = 0 ∧ cV = 0) := by
          rcases HO.out.own.2 with ⟨e, hn⟩ | ⟨g, cap, cur, e, _, _, hnc, _⟩
          · simp only [Value.slice.injEq] at e; exact ⟨by omega, fun _ => ⟨hn, by omega⟩⟩
          · simp only [Value.slice.injEq] at e; exact ⟨by omega, fun h => by rw [h] at e; exact absurd e.1 (by simp)⟩
        obtain ⟨hcap, hnn⟩ := hcap
        have HSV := Lib.hid (Id.own_sl HO.out.own (fun i j hi hj => Id.flatS_get _ i j hi hj)).1
        have HW := Lib.hid HO.out.bel
        clear HO
        go_wp2_with fail
        go_loopw [7] (fun v7 wq => ∃ j : Nat, v7 = .int .i64 j ∧ j ≤ S.length ∧ Hid (∀ s ∈ S.drop j, Id.lt x s) ∧ Hid (Below wr.heap.size wr wq))
          (fun v7 _ => (intOf v7).toNat)
        case atStart => exact ⟨S.length, rfl, Nat.le_refl _, Lib.hid (by rw [List.drop_length]; simp), Below.refl _ _⟩
        case round =>
          obtain ⟨j, rfl, hj, HD, HQ⟩ := hrel
          rename World => wq
          have hz := HQ.out.size
          rcases aV with _ | adV
          · obtain ⟨hS0, rfl⟩ := hnn rfl
            obtain rfl : j = 0 := by omega
            clear hnn
            go_wp2_with fail
            (refine Kit.wp_region_cls (by kernel_rfl) (by kernel_rfl) ?_; (repeat (go_big_quiet_step (fail))); refine wpQuiet_nil ?_; intro z)
            have HZ := Lib.hid (HQ.out.trans (z.below.mono hz))
            have HZ1 := Lib.hid (HW.out.trans (HZ.out.mono HW.out.size))
            have hjl : (Id.flatS (S.take (0))).length = (0) * 14 := by rw [Id.flatS_len, List.length_take, Nat.min_eq_left (by omega)]
            have hjd : (Id.flatS (S.drop (0))).length = 0 * 14 := by rw [Id.flatS_len, List.length_drop]; first | done | omega
            have h11 : ∀ l : List Id.Sg, ∀ u ∈ Id.flatS l, u.oneCell' = true := fun l u hu => by obtain ⟨s, _, hs⟩ := List.mem_flatMap.1 hu; simp only [Id.sc, List.mem_cons, List.not_mem_nil, or_false] at hs; rcases hs with h | h | h | h | h | h | h | h | h | h | h | h | h | h <;> rw [h] <;> rfl
            have HA1 := Lib.hid (show ∀ o : Obj, (0) ≠ 0 → ∃ ad : Addr, (none : Option Addr) = some ad ∧ ∀ t u, (Id.flatS (S.take (0)))[t]? = some u → (z.val.alloc o).cell? (ad.add t) = some u from fun o h => absurd rfl h)
            have HA3 := Lib.hid (show ∀ W, Below z.val.heap.size z.val W → 0 ≠ 0 → ∃ ad : Addr, (none : Option Addr) = some ad ∧ ∀ t u, (Id.flatS (S.drop (0)))[t]? = some u → W.cell? (ad.add t) = some u from fun W _ h => absurd rfl h)
            go_wp2_with (at_builtin; first | (refine Kit.wpList_apps Id.elS _ rfl _ _ rfl _ _ _ (⟨World.ownsRow_lit _ _ _ (Nat.le_refl _) (by unfold maxLen; omega) rfl, (Below.refl _ _).alloc (Nat.le_refl _) _⟩ : Kit.Gw z.val 49 14 _ 0 _ _) rfl (by omega) (none) (0) _ (Id.flatS (S.take (0))) (by omega) rfl hjl (HA1.out _) (h11 _) ?_; rw [Nat.zero_add]; intro v1 y1 ho; have HO1 := Lib.hid ho; have hsl := HX0.out.kept (HZ1.out.trans (ho.bel.mono HZ1.out.size)) (Nat.le_refl _); have e0 := hsl.head hlt (by omega); have e1 := hsl.field hlt (j := 1) (by omega) (by omega); have e2 := hsl.field hlt (j := 2) (by omega) (by omega); have e3 := hsl.field hlt (j := 3) (by omega) (by omega); have e4 := hsl.field hlt (j := 4) (by omega) (by omega); have e5 := hsl.field hlt (j := 5) (by omega) (by omega); have e6 := hsl.field hlt (j := 6) (by omega) (by omega); have e7 := hsl.field hlt (j := 7) (by omega) (by omega); have e8 := hsl.field hlt (j := 8) (by omega) (by omega); have e9 := hsl.field hlt (j := 9) (by omega) (by omega); have e10 := hsl.field hlt (j := 10) (by omega) (by omega); have e11 := hsl.field hlt (j := 11) (by omega) (by omega); have e12 := hsl.field hlt (j := 12) (by omega) (by omega); have e13 := hsl.field hlt (j := 13) (by omega) (by omega); simp only [Id.sgc, hx_, Id.sgF] at e0 e1 e2 e3 e4 e5 e6 e7 e8 e9 e10 e11 e12 e13; clear ho hsl) | (refine Kit.wpList_app Id.elS _ rfl _ _ rfl _ _ _ (HO1.out.alloc _) rfl (by omega) ⟨y1.heap.size, 0, none⟩ 1 (Id.sc x) rfl rfl (fun t u hu => Kit.lit_at _ (Id.sc x) _ rfl t u hu) (by simp [Id.sc, Value.oneCell']) ?_; intro v2 y2 ho hg; have HO2 := Lib.hid ho; obtain ⟨a2, c2, rfl⟩ := ho.shape; clear ho hg) | (refine Kit.wpList_apps Id.elS _ rfl _ _ rfl _ _ _ HO2.out rfl (by omega) _ 0 _ (Id.flatS (S.drop (0))) (by omega) rfl hjd (HA3.out _ HO2.out.bel) (h11 _) ?_; intro v3 y3 ho; have HO3 := Lib.hid ho; clear ho))
            have HP := Lib.hid (HPUT.out 0 hj HD.out (fun s _ h => absurd h (Nat.lt_irrefl 0)))
            have HG := Lib.hid (show Kit.Gw w1 _ 14 v3 S2.length (Id.flatS S2) y3 from by
              have h := HO3.out.base (HZ1.out)
              have e1 : Id.flatS (S.take (0)) ++ Id.sc x ++ Id.flatS (S.drop (0)) = Id.flatS S2 := by rw [← HP.out]; simp [Id.flatS]
              have e2 : (0) + 1 + 0 = S2.length := by rw [← HP.out, List.length_append, List.length_cons, List.length_take, List.length_drop]; omega
              simp only [List.nil_append] at h
              rw [e1, e2] at h
              exact h)
            go_roundw
            case rel => exact ⟨k + 1, by go_num, by omega, Lib.hid (by rw [HT2.out]; exact HG.out)⟩
            case measure => simp [intOf]; omega
          have HSVZ := Lib.hid (fun (z : Kit.Wd wq) => HSV.out.kept (HQ.out.trans (z.below.mono hz)) (Nat.le_refl _))
          rcases Nat.eq_zero_or_pos j with rfl | hj0
          · go_wp2_with fail
            (refine Kit.wp_region_cls (by kernel_rfl) (by kernel_rfl) ?_; (repeat (go_big_quiet_step (fail))); refine wpQuiet_nil ?_; intro z)
            have HZ := Lib.hid (HQ.out.trans (z.below.mono hz))
            have HZ1 := Lib.hid (HW.out.trans (HZ.out.mono HW.out.size))
            have hjl : (Id.flatS (S.take (0))).length = (0) * 14 := by rw [Id.flatS_len, List.length_take, Nat.min_eq_left (by omega)]
            have hjd : (Id.flatS (S.drop (0))).length = (S.length - (0)) * 14 := by rw [Id.flatS_len, List.length_drop]; first | done | omega
            have h11 : ∀ l : List Id.Sg, ∀ u ∈ Id.flatS l, u.oneCell' = true := fun l u hu => by obtain ⟨s, _, hs⟩ := List.mem_flatMap.1 hu; simp only [Id.sc, List.mem_cons, List.not_mem_nil, or_false] at hs; rcases hs with h | h | h | h | h | h | h | h | h | h | h | h | h | h <;> rw [h] <;> rfl
            have HA1 := Lib.hid (show ∀ o : Obj, (0) ≠ 0 → ∃ ad : Addr, (some adV : Option Addr) = some ad ∧ ∀ t u, (Id.flatS (S.take (0)))[t]? = some u → (z.val.alloc o).cell? (ad.add t) = some u from fun o h => absurd rfl h)
            have HA3 := Lib.hid (show ∀ W, Below z.val.heap.size z.val W → (S.length - (0)) ≠ 0 → ∃ ad : Addr, (some adV : Option Addr) = some ad ∧ ∀ t u, (Id.flatS (S.drop (0)))[t]? = some u → W.cell? (ad.add t) = some u from fun W hb _ => ⟨adV, rfl, fun t u hu => Id.sl_flat ((HSVZ.out z).kept hb (Nat.le_refl _)) t u (by simpa using hu)⟩)
            go_wp2_with (at_builtin; first | (refine Kit.wpList_apps Id.elS _ rfl _ _ rfl _ _ _ (⟨World.ownsRow_lit _ _ _ (Nat.le_refl _) (by unfold maxLen; omega) rfl, (Below.refl _ _).alloc (Nat.le_refl _) _⟩ : Kit.Gw z.val 49 14 _ 0 _ _) rfl (by omega) (some adV) (0) _ (Id.flatS (S.take (0))) (by omega) rfl hjl (HA1.out _) (h11 _) ?_; rw [Nat.zero_add]; intro v1 y1 ho; have HO1 := Lib.hid ho; have hsl := HX0.out.kept (HZ1.out.trans (ho.bel.mono HZ1.out.size)) (Nat.le_refl _); have e0 := hsl.head hlt (by omega); have e1 := hsl.field hlt (j := 1) (by omega) (by omega); have e2 := hsl.field hlt (j := 2) (by omega) (by omega); have e3 := hsl.field hlt (j := 3) (by omega) (by omega); have e4 := hsl.field hlt (j := 4) (by omega) (by omega); have e5 := hsl.field hlt (j := 5) (by omega) (by omega); have e6 := hsl.field hlt (j := 6) (by omega) (by omega); have e7 := hsl.field hlt (j := 7) (by omega) (by omega); have e8 := hsl.field hlt (j := 8) (by omega) (by omega); have e9 := hsl.field hlt (j := 9) (by omega) (by omega); have e10 := hsl.field hlt (j := 10) (by omega) (by omega); have e11 := hsl.field hlt (j := 11) (by omega) (by omega); have e12 := hsl.field hlt (j := 12) (by omega) (by omega); have e13 := hsl.field hlt (j := 13) (by omega) (by omega); simp only [Id.sgc, hx_, Id.sgF] at e0 e1 e2 e3 e4 e5 e6 e7 e8 e9 e10 e11 e12 e13; clear ho hsl) | (refine Kit.wpList_app Id.elS _ rfl _ _ rfl _ _ _ (HO1.out.alloc _) rfl (by omega) ⟨y1.heap.size, 0, none⟩ 1 (Id.sc x) rfl rfl (fun t u hu => Kit.lit_at _ (Id.sc x) _ rfl t u hu) (by simp [Id.sc, Value.oneCell']) ?_; intro v2 y2 ho hg; have HO2 := Lib.hid ho; obtain ⟨a2, c2, rfl⟩ := ho.shape; clear ho hg) | (refine Kit.wpList_apps Id.elS _ rfl _ _ rfl _ _ _ HO2.out rfl (by omega) _ (S.length - (0)) _ (Id.flatS (S.drop (0))) (by omega) rfl hjd (HA3.out _ HO2.out.bel) (h11 _) ?_; intro v3 y3 ho; have HO3 := Lib.hid ho; clear ho))
            have HP := Lib.hid (HPUT.out 0 hj HD.out (fun s _ h => absurd h (Nat.lt_irrefl 0)))
            have HG := Lib.hid (show Kit.Gw w1 _ 14 v3 S2.length (Id.flatS S2) y3 from by
              have h := HO3.out.base (HZ1.out)
              have e1 : Id.flatS (S.take (0)) ++ Id.sc x ++ Id.flatS (S.drop (0)) = Id.flatS S2 := by rw [← HP.out]; simp [Id.flatS]
              have e2 : (0) + 1 + (S.length - (0)) = S2.length := by rw [← HP.out, List.length_append, List.length_cons, List.length_take, List.length_drop]; omega
              simp only [List.nil_append] at h
              rw [e1, e2] at h
              exact h)
            go_roundw
            case rel => exact ⟨k + 1, by go_num, by omega, Lib.hid (by rw [HT2.out]; exact HG.out)⟩
            case measure => simp [intOf]; omega
          · have E := fun z : Kit.Wd wq => HX0.out.kept (HW.out.trans ((HQ.out.trans (z.below.mono hz)).mono HW.out.size)) (Nat.le_refl _)
            (have e0 := fun z => (E z).head hlt (by omega); have e1 := fun z => (E z).field hlt (j := 1) (by omega) (by omega); have e2 := fun z => (E z).field hlt (j := 2) (by omega) (by omega); have e3 := fun z => (E z).field hlt (j := 3) (by omega) (by omega); have e4 := fun z => (E z).field hlt (j := 4) (by omega) (by omega); have e5 := fun z => (E z).field hlt (j := 5) (by omega) (by omega); have e6 := fun z => (E z).field hlt (j := 6) (by omega) (by omega); have e7 := fun z => (E z).field hlt (j := 7) (by omega) (by omega); have e8 := fun z => (E z).field hlt (j := 8) (by omega) (by omega); have e9 := fun z => (E z).field hlt (j := 9) (by omega) (by omega); have e10 := fun z => (E z).field hlt (j := 10) (by omega) (by omega); have e11 := fun z => (E z).field hlt (j := 11) (by omega) (by omega); have e12 := fun z => (E z).field hlt (j := 12) (by omega) (by omega); have e13 := fun z => (E z).field hlt (j := 13) (by omega) (by omega); obtain ⟨x2, hx2_⟩ : ∃ y, L.getD k default = y := ⟨_, rfl⟩; simp only [Id.sgc, hx2_, Id.sgF] at e0 e1 e2 e3 e4 e5 e6 e7 e8 e9 e10 e11 e12 e13)
            obtain rfl : x = x2 := hx_.symm.trans hx2_
            have hjs : j - 1 < S.length := by omega
            (have f0 := fun z => (HSVZ.out z).head hjs (by omega); have f1 := fun z => (HSVZ.out z).field hjs (j := 1) (by omega) (by omega); have f2 := fun z => (HSVZ.out z).field hjs (j := 2) (by omega) (by omega); have f3 := fun z => (HSVZ.out z).field hjs (j := 3) (by omega) (by omega); have f4 := fun z => (HSVZ.out z).field hjs (j := 4) (by omega) (by omega); have f5 := fun z => (HSVZ.out z).field hjs (j := 5) (by omega) (by omega); have f6 := fun z => (HSVZ.out z).field hjs (j := 6) (by omega) (by omega); have f7 := fun z => (HSVZ.out z).field hjs (j := 7) (by omega) (by omega); have f8 := fun z => (HSVZ.out z).field hjs (j := 8) (by omega) (by omega); have f9 := fun z => (HSVZ.out z).field hjs (j := 9) (by omega) (by omega); have f10 := fun z => (HSVZ.out z).field hjs (j := 10) (by omega) (by omega); have f11 := fun z => (HSVZ.out z).field hjs (j := 11) (by omega) (by omega); have f12 := fun z => (HSVZ.out z).field hjs (j := 12) (by omega) (by omega); have f13 := fun z => (HSVZ.out z).field hjs (j := 13) (by omega) (by omega); obtain ⟨y, hy_⟩ : ∃ y, S.getD (j - 1) default = y := ⟨_, rfl⟩; simp only [Id.sgc, hy_, Id.sgF] at f0 f1 f2 f3 f4 f5 f6 f7 f8 f9 f10 f11 f12 f13)
            have HBF := Lib.hid (fun W => rx_before x y W HFX.out (HFS.out y (by rw [← hy_, List.getD_eq_getElem?_getD, List.getElem?_eq_getElem hjs]; exact List.getElem_mem hjs)))
            have hdr : S.drop (j - 1) = y :: S.drop j := by
              rw [Tp.drop_cons S default (j - 1) hjs, hy_, show j - 1 + 1 = j by omega]
            have HDR := Lib.hid hdr
            have HGY := Lib.hid (show ∀ s, S[j - 1]? = some s → s = y from fun s hs => by rw [← hy_]; simp [List.getD, hs])
            have j1 : decide (0 < (j : Int)) = true := by simp; omega
            have j2 : decide (0 < j) = true := by simp; omega
            clear E hdr hy_ hx2_ hnn
            rcases hlt2 : decide (Id.lt x y) with _ | _
            · rw [hlt2] at HBF
              have HNL := Lib.hid (of_decide_eq_false hlt2)
              clear hlt2
              go_wp2_with fail
              (refine Kit.wp_region_cls (by kernel_rfl) (by kernel_rfl) ?_; (repeat (go_big_quiet_step (exact Kit.calls_cls _ (HBF.out _)))); refine wpQuiet_nil ?_; intro z)
              clear e0 e1 e2 e3 e4 e5 e6 e7 e8 e9 e10 e11 e12 e13 f0 f1 f2 f3 f4 f5 f6 f7 f8 f9 f10 f11 f12 f13
              have HZ := Lib.hid (HQ.out.trans (z.below.mono hz))
              have HZ1 := Lib.hid (HW.out.trans (HZ.out.mono HW.out.size))
              have hjl : (Id.flatS (S.take (j))).length = (j) * 14 := by rw [Id.flatS_len, List.length_take, Nat.min_eq_left (by omega)]
              have hjd : (Id.flatS (S.drop (j))).length = (S.length - (j)) * 14 := by rw [Id.flatS_len, List.length_drop]; first | done | omega
              have h11 : ∀ l : List Id.Sg, ∀ u ∈ Id.flatS l, u.oneCell' = true := fun l u hu => by obtain ⟨s, _, hs⟩ := List.mem_flatMap.1 hu; simp only [Id.sc, List.mem_cons, List.not_mem_nil, or_false] at hs; rcases hs with h | h | h | h | h | h | h | h | h | h | h | h | h | h <;> rw [h] <;> rfl
              have HA1 := Lib.hid (show ∀ o : Obj, (j) ≠ 0 → ∃ ad : Addr, (some adV : Option Addr) = some ad ∧ ∀ t u, (Id.flatS (S.take (j)))[t]? = some u → (z.val.alloc o).cell? (ad.add t) = some u from fun o _ => ⟨adV, rfl, Id.sl_flat (Id.sl_take ((HSVZ.out z).kept ((Below.refl _ _).alloc (Nat.le_refl _) o) (Nat.le_refl _)) hj)⟩)
              have HA3 := Lib.hid (show ∀ W, Below z.val.heap.size z.val W → (S.length - (j)) ≠ 0 → ∃ ad : Addr, (if cV = j then some adV else some (adV.add (j * 14)) : Option Addr) = some ad ∧ ∀ t u, (Id.flatS (S.drop (j)))[t]? = some u → W.cell? (ad.add t) = some u from fun W hb h => ⟨adV.add (j * 14), if_neg (by omega), Id.sl_flat (Id.sl_drop ((HSVZ.out z).kept hb (Nat.le_refl _)) j)⟩)
              go_wp2_with (at_builtin; first | (refine Kit.wpList_apps Id.elS _ rfl _ _ rfl _ _ _ (⟨World.ownsRow_lit _ _ _ (Nat.le_refl _) (by unfold maxLen; omega) rfl, (Below.refl _ _).alloc (Nat.le_refl _) _⟩ : Kit.Gw z.val 49 14 _ 0 _ _) rfl (by omega) (some adV) (j) _ (Id.flatS (S.take (j))) (by omega) rfl hjl (HA1.out _) (h11 _) ?_; rw [Nat.zero_add]; intro v1 y1 ho; have HO1 := Lib.hid ho; have hsl := HX0.out.kept (HZ1.out.trans (ho.bel.mono HZ1.out.size)) (Nat.le_refl _); have e0 := hsl.head hlt (by omega); have e1 := hsl.field hlt (j := 1) (by omega) (by omega); have e2 := hsl.field hlt (j := 2) (by omega) (by omega); have e3 := hsl.field hlt (j := 3) (by omega) (by omega); have e4 := hsl.field hlt (j := 4) (by omega) (by omega); have e5 := hsl.field hlt (j := 5) (by omega) (by omega); have e6 := hsl.field hlt (j := 6) (by omega) (by omega); have e7 := hsl.field hlt (j := 7) (by omega) (by omega); have e8 := hsl.field hlt (j := 8) (by omega) (by omega); have e9 := hsl.field hlt (j := 9) (by omega) (by omega); have e10 := hsl.field hlt (j := 10) (by omega) (by omega); have e11 := hsl.field hlt (j := 11) (by omega) (by omega); have e12 := hsl.field hlt (j := 12) (by omega) (by omega); have e13 := hsl.field hlt (j := 13) (by omega) (by omega); simp only [Id.sgc, hx_, Id.sgF] at e0 e1 e2 e3 e4 e5 e6 e7 e8 e9 e10 e11 e12 e13; clear ho hsl) | (refine Kit.wpList_app Id.elS _ rfl _ _ rfl _ _ _ (HO1.out.alloc _) rfl (by omega) ⟨y1.heap.size, 0, none⟩ 1 (Id.sc x) rfl rfl (fun t u hu => Kit.lit_at _ (Id.sc x) _ rfl t u hu) (by simp [Id.sc, Value.oneCell']) ?_; intro v2 y2 ho hg; have HO2 := Lib.hid ho; obtain ⟨a2, c2, rfl⟩ := ho.shape; clear ho hg) | (refine Kit.wpList_apps Id.elS _ rfl _ _ rfl _ _ _ HO2.out rfl (by omega) _ (S.length - (j)) _ (Id.flatS (S.drop (j))) (by omega) rfl hjd (HA3.out _ HO2.out.bel) (h11 _) ?_; intro v3 y3 ho; have HO3 := Lib.hid ho; clear ho))
              have HP := Lib.hid (HPUT.out j hj HD.out (fun s hs _ => by rw [HGY.out s hs]; exact HNL.out))
              have HG := Lib.hid (show Kit.Gw w1 _ 14 v3 S2.length (Id.flatS S2) y3 from by
                have h := HO3.out.base (HZ1.out)
                have e1 : Id.flatS (S.take (j)) ++ Id.sc x ++ Id.flatS (S.drop (j)) = Id.flatS S2 := by rw [← HP.out]; simp [Id.flatS]
                have e2 : (j) + 1 + (S.length - (j)) = S2.length := by rw [← HP.out, List.length_append, List.length_cons, List.length_take, List.length_drop]; omega
                simp only [List.nil_append] at h
                rw [e1, e2] at h
                exact h)
              go_roundw
              case rel => exact ⟨k + 1, by go_num, by omega, Lib.hid (by rw [HT2.out]; exact HG.out)⟩
              case measure => simp [intOf]; omega
            · rw [hlt2] at HBF
              have HNL := Lib.hid (of_decide_eq_true hlt2)
              clear hlt2
              go_wp2_with fail
              (refine Kit.wp_region_cls (by kernel_rfl) (by kernel_rfl) ?_; (repeat (go_big_quiet_step (exact Kit.calls_cls _ (HBF.out _)))); refine wpQuiet_nil ?_; intro z)
              have HZ := Lib.hid (HQ.out.trans (z.below.mono hz))
              clear e0 e1 e2 e3 e4 e5 e6 e7 e8 e9 e10 e11 e12 e13 f0 f1 f2 f3 f4 f5 f6 f7 f8 f9 f10 f11 f12 f13
              go_wp2_with fail
              go_roundw
              case rel => exact ⟨j - 1, by go_num, by omega, Lib.hid (by rw [HDR.out]; intro s hs; exact (List.mem_cons.1 hs).elim (fun h => h ▸ HNL.out) (fun h => HD.out s h)), HZ.out⟩
              case measure => simp [intOf]; omega
    · obtain rfl : k = L.length := by omega
      rw [List.take_length] at HO
      have hlen := Id.srt_len (Id.essl L)
      obtain ⟨aV, cV, rfl⟩ := HO.out.shape
      have HSL := Lib.hid (Id.own_sl HO.out.own (fun i j hi hj => Id.flatS_get _ i j hi hj)).1
      have HES := Lib.hid (show Id.ess L = (Id.srt (Id.essl L)).map Id.code from rfl)
      have HFS := Lib.hid (show ∀ s ∈ Id.srt (Id.essl L), Id.form s = true from fun s hs => HFM.out s (Id.srt_mem.1 hs))
      have HB3 := Lib.hid (HB1.out.trans (HO.out.bel.mono HB1.out.size))
      clear HO
      generalize Id.srt (Id.essl L) = S at HSL HES HFS hlen ⊢
      have hll2 : S.length ≤ 64 := by omega
      clear hlen
      go_wp2_with fail
      go_loopw [9, 10] (fun v9 v10 wq => ∃ k : Nat, v10 = .int .i64 k ∧ k ≤ S.length ∧ Hid (Kit.Gw wr 3 1 v9 k (Id.ints ((S.take k).map Id.code)) wq))
        (fun _ v10 _ => S.length - (intOf v10).toNat)
      case atStart => exact ⟨0, rfl, Nat.zero_le _, Kit.Gw.start _ _ _⟩
      case round =>
        obtain ⟨k, rfl, hk, HO⟩ := hrel
        by_cases hlt : k < S.length
        · obtain ⟨ad, rfl, had, _⟩ := HSL.out.at hlt
          have h := HSL.out.kept HO.out.bel (Nat.le_refl _)
          (have e0 := h.head hlt (by omega); have e1 := h.field hlt (j := 1) (by omega) (by omega); have e2 := h.field hlt (j := 2) (by omega) (by omega); have e3 := h.field hlt (j := 3) (by omega) (by omega); have e4 := h.field hlt (j := 4) (by omega) (by omega); have e5 := h.field hlt (j := 5) (by omega) (by omega); have e6 := h.field hlt (j := 6) (by omega) (by omega); have e7 := h.field hlt (j := 7) (by omega) (by omega); have e8 := h.field hlt (j := 8) (by omega) (by omega); have e9 := h.field hlt (j := 9) (by omega) (by omega); have e10 := h.field hlt (j := 10) (by omega) (by omega); have e11 := h.field hlt (j := 11) (by omega) (by omega); have e12 := h.field hlt (j := 12) (by omega) (by omega); have e13 := h.field hlt (j := 13) (by omega) (by omega); obtain ⟨x, hx_⟩ : ∃ y, S.getD k default = y := ⟨_, rfl⟩; simp only [Id.sgc, hx_, Id.sgF] at e0 e1 e2 e3 e4 e5 e6 e7 e8 e9 e10 e11 e12 e13)
          have HT := Lib.hid (show Id.ints ((S.take (k + 1)).map Id.code) = Id.ints ((S.take k).map Id.code) ++ [.int .i64 (Id.code x)] by
            rw [Id.take_snoc S k hlt x hx_]; simp [Id.ints])
          have HIC := Lib.hid (Id.form_inC (HFS.out x (by rw [← hx_, List.getD_eq_getElem?_getD, List.getElem?_eq_getElem hlt]; exact List.getElem_mem hlt)))
          clear h hx_
          go_wp2_with fail
          refine (ry_code x _ HIC.out).mono ?_
          rintro _ w4 ⟨rfl, hb⟩
          have HO2 := Lib.hid (HO.out.thn hb)
          clear hb e0 e1 e2 e3 e4 e5 e6 e7 e8 e9 e10 e11 e12 e13
          go_wp2_with (at_builtin; refine Kit.wpList_app Id.elI _ rfl _ _ rfl _ _ _ (HO2.out.alloc _) rfl (by omega) ⟨w4.heap.size, 0, none⟩ 1 [.int .i64 (Id.code x)] rfl rfl (fun j u hu => Kit.lit_at _ _ _ rfl j u hu) (by simp [Value.oneCell']) ?_; intro v' w5 ho hg; have HO3 := Lib.hid ho; clear ho hg)
          go_roundw
          case rel => exact ⟨k + 1, by go_num, by omega, by rw [HT.out]; exact HO3.out⟩
          case measure => simp [intOf]; omega
        · obtain rfl : k = S.length := by omega
          rw [List.take_length, ← HES.out] at HO
          obtain ⟨aW, cW, rfl⟩ := HO.out.shape
          have HL := Lib.hid (show (Id.ess L).length = S.length by rw [HES.out, List.length_map])
          go_wp2
          go_ret2
          refine ⟨HB3.out.trans (HO.out.bel.mono HB3.out.size), ?_⟩
          rw [HE.out, if_pos rfl, HL.out]
          exact ⟨aW, cW, rfl, HO.out.own.mono HB3.out.size⟩
end Go.Proofs.Ytdaedjmkolcliaa
