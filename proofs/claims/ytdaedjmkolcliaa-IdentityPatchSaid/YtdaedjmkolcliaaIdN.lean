/- Walks: package identity: SortFunc at signs; Essence. -/
import Derived.Test.YtdaedjmkolcliaaIdM
import Derived.Test.YtdaedjmkolcliaaIdG
import Derived.Test.YtdaedjmkolcliaaIdSl
import Derived.OwnWalk
import Derived.Test.YtdaedjmkolcliaaKixz
namespace Go.Proofs.Ytdaedjmkolcliaa
set_option linter.unusedVariables false
set_option linter.unusedSimpArgs false
open Go.RowKit Go.Shelf

namespace Id
theorem own_slice {W : World} {e k n s : Nat} {v : Value} {xs : List Value} (h : W.ownsRow s e k v n xs) : ∃ a c, v = .slice a n c := by
  rcases h.2 with ⟨rfl, hn⟩ | ⟨g, cap, cur, rfl, _⟩
  · exact ⟨none, 0, by rw [hn]⟩
  · exact ⟨_, _, rfl⟩
theorem own_sl {w : World} {base : Nat} {t : TypeId} {a : Option Addr} {c m k n : Nat} {xs : List Value} {f : Nat → Nat → Value} (h : w.ownsRow base t k (.slice a m c) n xs) (hf : ∀ i j, i < n → j < k → xs[i * k + j]? = some (f i j)) :
    Tp.Sl w a n k f ∧ m = n ∧ ∀ b, a = some b → base ≤ b.block := by
  have hc := h
  rcases h.2 with ⟨e, hn⟩ | ⟨g, cap, cur, e, hb, hg, _⟩
  · cases e
    exact ⟨.inl hn, hn.symm, fun _ h => by cases h⟩
  · cases e
    refine ⟨.inr ⟨⟨g, 0, none⟩, rfl, (hc.lt g rfl).2, fun i j hi hj => ?_⟩, rfl, fun b h => by cases h; exact hb⟩
    have h1 := hf i j hi hj
    have hik : i * k + j < m * k := by
      have h4 : (i + 1) * k ≤ m * k := Nat.mul_le_mul_right k hi
      rw [Nat.succ_mul] at h4
      omega
    have h3 := (hc.cellAt (i * k + j) hik).trans h1
    have e : ∀ m : Nat, (⟨g, 0, none⟩ : Addr).add m = ⟨g, m, none⟩ := fun m => by simp [Addr.add]; exact fun h => h.symm
    rw [e]; exact h3
theorem sgInfo : (Try.prog.info? 49).map (fun i => (i.zero, i.size, i.bytes)) = some (some (sgV default), 14, 112) := by kernel_rfl
theorem elS : Kit.El Try.prog 22 49 (sgV default) 14 112 := ⟨Try.underlying22, sgInfo, rfl, by omega, by omega⟩
theorem elI : Kit.El Try.prog 25 3 (.int .i64 0) 1 8 := ⟨Try.underlying25, by kernel_rfl, rfl, by omega, by omega⟩
def ints (l : List Int) : List Value := l.map (.int .i64 ·)
theorem ints_ic (l : List Int) : ∀ i j, i < l.length → j < 1 → (ints l)[i * 1 + j]? = some (ic l i j) := by
  intro i j hi hj
  obtain rfl : j = 0 := by omega
  simp [ints, ic, List.getElem?_map, hi]
end Id
set_option maxHeartbeats 1000000 in
theorem id_sort (v : Value) (s : Nat) (l : List Id.Sg) (w : World) (hf : ∀ x ∈ l, Id.form x = true) (hok : Id.Ok l) (hb : l.length ≤ 1000000000) (hS : w.ownsRow s 49 14 v l.length (Id.flatS l)) :
    Calls Try.prog 31 #[v, .func (.func 32) #[] #[]] w
      fun e w' => e = .returned (.tuple #[]) ∧ w'.ownsRow s 49 14 v l.length (Id.flatS (Id.srt l)) ∧ Kit.Exc (fun q => v.ownBlock = some q) w w' := by
  obtain ⟨m, rfl⟩ := Id.lift_form hf
  have hS' : w.ownsRow s 49 14 v m.length (m.flatMap fun x => Id.sc x.1) := by
    rw [Id.flat_lift]; simpa using hS
  refine (Kit.sort_own sortSign 14 Try.isAgg49 Try.sizeOf49 (fun x : Id.Fs => Id.sc x.1) (fun _ => rfl) (fun x u hu => by simp only [Id.sc, List.mem_cons, List.not_mem_nil, or_false] at hu; rcases hu with rfl | rfl | rfl | rfl | rfl | rfl | rfl | rfl | rfl | rfl | rfl | rfl | rfl | rfl <;> rfl) Id.cf Id.cf_swo 32
    (enters_of Try.func32 (by kernel_rfl) rfl) (fun x y W => id_compare x.1 y.1 W x.2 y.2) v s 49 m w (by simpa using hb) hS').mono ?_
  rintro e w' ⟨rfl, m', hp, hs, ho, hx⟩
  refine ⟨rfl, ?_, hx⟩
  have h1 := Id.sorted_srt hok (hp.map (·.1)) hs
  rw [Id.flat_lift, h1] at ho
  have h2 : m'.length = (m.map (·.1)).length := by rw [List.length_map]; exact hp.length_eq
  rw [h2] at ho
  exact ho
/-- What Essence answers. -/
def Id.EssP (l : List Id.Sg) (W : World) (e : Ending) (w' : World) : Prop := Below W.heap.size W w' ∧ if Id.essE l = 0 then ∃ a c, e = .returned (.tuple #[.slice a (Id.ess l).length c, .int .i64 0]) ∧ w'.ownsRow W.heap.size 3 1 (.slice a (Id.ess l).length c) (Id.ess l).length (Id.ints (Id.ess l)) else e = .returned (.tuple #[.slice none 0 0, .int .i64 (Id.essE l)])
theorem Id.take_snoc {α : Type} [Inhabited α] (l : List α) (k : Nat) (hk : k < l.length) (x : α) (hx : l.getD k default = x) : l.take (k + 1) = l.take k ++ [x] := by
  rw [List.take_add_one, ← hx, List.getD_eq_getElem?_getD, List.getElem?_eq_getElem hk]; rfl
theorem Id.essl_take (l : List Id.Sg) (k : Nat) (hk : k < l.length) (x : Id.Sg) (hx : l.getD k default = x) : Id.essl (l.take (k + 1)) = if decide (x.mark = 1) = true then Id.essl (l.take k) ++ [x] else Id.essl (l.take k) := by
  have h1 : l.take (k + 1) = l.take k ++ [x] := by
    rw [List.take_add_one, ← hx, List.getD_eq_getElem?_getD, List.getElem?_eq_getElem hk]; rfl
  rw [h1]
  unfold Id.essl
  rw [List.filter_append]
  by_cases h : x.mark = 1 <;> simp [h]
set_option maxRecDepth 100000 in
set_option maxHeartbeats 4000000 in
theorem id_essence (a : Option Addr) (l : List Id.Sg) (c : Nat) (w : World) (hS : Tp.Sl w a l.length 14 (Id.sgc l)) (hl : l.length ≤ 4611686018427387904) : Calls Try.prog 12 #[.slice a l.length c] w (Id.EssP l w) := by
  have HS := Lib.hid hS
  by_cases hc0 : Id.chk l = 0
  case neg =>
    have hE : Id.essE l = Id.chk l := by unfold Id.essE; rw [if_neg hc0]
    obtain ⟨q, hq⟩ : ∃ q, Id.chk l = q := ⟨_, rfl⟩
    rw [hq] at hE hc0
    have HE := Lib.hid hE
    have HQ := Lib.hid hq
    have HC0 := Lib.hid hc0
    have q1 : (q != 0) = true := by simpa using hc0
    clear hE hq hc0 hS
    go_enter Try.func12, Try.ntmps12
    go_wp2_with fail
    refine (ed_check a l c _ HS.out hl).mono ?_
    rintro _ w1 ⟨rfl, hb⟩
    have HB := Lib.hid hb; clear hb
    rw [HQ.out]
    go_wp2
    go_ret2
    refine ⟨HB.out, ?_⟩
    rw [HE.out, if_neg HC0.out]
    rfl
  have HC := Lib.hid hc0
  have hl2 : l.length ≤ 4096 := (Id.chk_ok hc0).1
  clear hc0 hS
  have hesl : (Id.essl l).length ≤ 4096 := Nat.le_trans (List.length_filter_le _ _) hl2
  go_enter Try.func12, Try.ntmps12
  go_wp2_with fail
  refine (ed_check a l c _ HS.out hl).mono ?_
  rintro _ w1 ⟨rfl, hb⟩
  have HB1 := Lib.hid hb; clear hb
  rw [HC.out]
  go_wp2_with fail
  go_loopw [4, 18] (fun v4 v18 wr => ∃ k : Nat, v18 = .int .i64 k ∧ k ≤ l.length ∧ Hid (Kit.Gw w1 49 14 v4 (Id.essl (l.take k)).length (Id.flatS (Id.essl (l.take k))) wr))
    (fun _ v18 _ => l.length - (intOf v18).toNat)
  case atStart => exact ⟨0, rfl, Nat.zero_le _, Kit.Gw.start _ _ _⟩
  case round =>
    obtain ⟨k, rfl, hk, HO⟩ := hrel
    by_cases hlt : k < l.length
    · obtain ⟨ad, rfl, had, _⟩ := HS.out.at hlt
      have h := (HS.out.kept HB1.out (Nat.le_refl _)).kept HO.out.bel (Nat.le_refl _)
      (have e0 := h.head hlt (by omega); have e1 := h.field hlt (j := 1) (by omega) (by omega); have e2 := h.field hlt (j := 2) (by omega) (by omega); have e3 := h.field hlt (j := 3) (by omega) (by omega); have e4 := h.field hlt (j := 4) (by omega) (by omega); have e5 := h.field hlt (j := 5) (by omega) (by omega); have e6 := h.field hlt (j := 6) (by omega) (by omega); have e7 := h.field hlt (j := 7) (by omega) (by omega); have e8 := h.field hlt (j := 8) (by omega) (by omega); have e9 := h.field hlt (j := 9) (by omega) (by omega); have e10 := h.field hlt (j := 10) (by omega) (by omega); have e11 := h.field hlt (j := 11) (by omega) (by omega); have e12 := h.field hlt (j := 12) (by omega) (by omega); have e13 := h.field hlt (j := 13) (by omega) (by omega); obtain ⟨x, hx_⟩ : ∃ y, l.getD k default = y := ⟨_, rfl⟩; simp only [Id.sgc, hx_, Id.sgF] at e0 e1 e2 e3 e4 e5 e6 e7 e8 e9 e10 e11 e12 e13)
      have HT := Lib.hid (Id.essl_take l k hlt x hx_)
      have hlen : (Id.essl (l.take k)).length ≤ 4096 := Nat.le_trans (List.length_filter_le _ _) (by rw [List.length_take]; omega)
      obtain ⟨E, hE⟩ : ∃ E, Id.essl (l.take k) = E := ⟨_, rfl⟩
      rw [hE] at HO HT hlen
      clear h hx_ hE
      rcases hm : decide (x.mark = 1) with _ | _
      · have d1 : (x.mark == 1) = false := by simpa using hm
        rw [hm] at HT
        go_wp2_with fail
        go_roundw
        case rel => exact ⟨k + 1, by go_num, by omega, by rw [HT.out, if_neg (by simp)]; exact HO.out.alloc _⟩
        case measure => simp [intOf]; omega
      · have d1 : (x.mark == 1) = true := by simpa using hm
        rw [hm] at HT
        go_wp2_with (at_builtin; refine Kit.wpList_app Id.elS _ rfl _ _ rfl _ _ _ ((HO.out.alloc _).alloc _) rfl (by omega) ⟨wr.heap.size + 1, 0, none⟩ 1 (Id.sc x) rfl rfl (fun j u hu => Kit.lit_at _ (Id.sc x) _ (by simp) j u hu) (by simp [Id.sc, Value.oneCell']) ?_; intro v' w2 ho hg; have HO2 := Lib.hid ho; clear ho hg)
        go_roundw
        case rel => exact ⟨k + 1, by go_num, by omega, by rw [HT.out, if_pos rfl, Id.flatS_snoc, List.length_append]; exact HO2.out⟩
        case measure => simp [intOf]; omega
    · obtain rfl : k = l.length := by omega
      rw [List.take_length] at HO
      obtain ⟨aV, cV, rfl⟩ := HO.out.shape
      by_cases h64 : 64 < (Id.essl l).length
      · have HE := Lib.hid (show Id.essE l = 2 by unfold Id.essE; rw [if_pos HC.out, if_pos h64])
        go_wp2
        go_ret2
        refine ⟨HB1.out.trans (HO.out.bel.mono HB1.out.size), ?_⟩
        rw [HE.out, if_neg (by decide)]
        rfl
      have HE := Lib.hid (show Id.essE l = 0 by unfold Id.essE; rw [if_pos HC.out, if_neg h64])
      have HOK := Lib.hid (Id.essl_ok HC.out)
      have HFM := Lib.hid (Id.essl_form HC.out)
      have hlen := Id.srt_len (Id.essl l)
      have hll : (Id.essl l).length ≤ 64 := by omega
      go_wp2_with fail
      refine (id_sort _ _ (Id.essl l) _ HFM.out HOK.out (by omega) HO.out.own).mono ?_
      rintro _ w3 ⟨rfl, ho, hx⟩
      have HB3 := Lib.hid (show Below w.heap.size w w3 from (HB1.out.trans (HO.out.bel.mono HB1.out.size)).trans (hx.below (Nat.le_trans HB1.out.size HO.out.size) (fun q hq => Nat.le_trans HB1.out.size (HO.out.own.lt q hq).1)))
      rw [← hlen] at ho
      have HSL := Lib.hid (Id.own_sl ho (fun i j hi hj => Id.flatS_get _ i j hi hj)).1
      have HES := Lib.hid (show Id.ess l = (Id.srt (Id.essl l)).map Id.code from rfl)
      have HFS := Lib.hid (show ∀ s ∈ Id.srt (Id.essl l), Id.form s = true from fun s hs => HFM.out s (Id.srt_mem.1 hs))
      clear ho hx HO
      generalize Id.srt (Id.essl l) = S at HSL HES HFS hlen
      generalize (Id.essl l).length = N at hlen hll
      subst hlen
      go_wp2_with fail
      go_loopw [2, 37] (fun v2 v37 wr => ∃ k : Nat, v37 = .int .i64 k ∧ k ≤ S.length ∧ Hid (Kit.Gw w3 3 1 v2 k (Id.ints ((S.take k).map Id.code)) wr))
        (fun _ v37 _ => S.length - (intOf v37).toNat)
      case atStart => exact ⟨0, rfl, Nat.zero_le _, Kit.Gw.start _ _ _⟩
      case round =>
        obtain ⟨k, rfl, hk, HO⟩ := hrel
        by_cases hlt : k < S.length
        · obtain ⟨ad, rfl, had, _⟩ := HSL.out.at hlt
          have h := HSL.out.kept HO.out.bel (Nat.le_refl _)
          (have e0 := h.head hlt (by omega); have e1 := h.field hlt (j := 1) (by omega) (by omega); have e2 := h.field hlt (j := 2) (by omega) (by omega); have e3 := h.field hlt (j := 3) (by omega) (by omega); have e4 := h.field hlt (j := 4) (by omega) (by omega); have e5 := h.field hlt (j := 5) (by omega) (by omega); have e6 := h.field hlt (j := 6) (by omega) (by omega); have e7 := h.field hlt (j := 7) (by omega) (by omega); have e8 := h.field hlt (j := 8) (by omega) (by omega); have e9 := h.field hlt (j := 9) (by omega) (by omega); have e10 := h.field hlt (j := 10) (by omega) (by omega); have e11 := h.field hlt (j := 11) (by omega) (by omega); have e12 := h.field hlt (j := 12) (by omega) (by omega); have e13 := h.field hlt (j := 13) (by omega) (by omega); obtain ⟨x, hx_⟩ : ∃ y, S.getD k default = y := ⟨_, rfl⟩; simp only [Id.sgc, hx_, Id.sgF] at e0 e1 e2 e3 e4 e5 e6 e7 e8 e9 e10 e11 e12 e13)
          have HT := Lib.hid (show Id.ints ((S.take (k + 1)).map Id.code) = Id.ints ((S.take k).map Id.code) ++ [.int .i64 (Id.code x)] by
            rw [Id.take_snoc S k hlt x hx_]; simp [Id.ints])
          have HIC := Lib.hid (Id.form_inC (HFS.out x (by rw [← hx_, List.getD_eq_getElem?_getD, List.getElem?_eq_getElem hlt]; exact List.getElem_mem hlt)))
          clear h hx_
          go_wp2_with fail
          refine (co_code x _ HIC.out).mono ?_
          rintro _ w4 ⟨rfl, hb⟩
          have HO2 := Lib.hid ((HO.out.alloc _).thn hb)
          clear hb e0 e1 e2 e3 e4 e5 e6 e7 e8 e9 e10 e11 e12 e13
          go_wp2_with (at_builtin; refine Kit.wpList_app Id.elI _ rfl _ _ rfl _ _ _ (HO2.out.alloc _) rfl (by omega) ⟨w4.heap.size, 0, none⟩ 1 [.int .i64 (Id.code x)] rfl rfl (fun j u hu => Kit.lit_at _ _ _ rfl j u hu) (by simp [Value.oneCell']) ?_; intro v' w5 ho hg; have HO3 := Lib.hid ho; clear ho hg)
          go_roundw
          case rel => exact ⟨k + 1, by go_num, by omega, by rw [HT.out]; exact HO3.out⟩
          case measure => simp [intOf]; omega
        · obtain rfl : k = S.length := by omega
          rw [List.take_length, ← HES.out] at HO
          obtain ⟨aV, cV, rfl⟩ := HO.out.shape
          have HL := Lib.hid (show (Id.ess l).length = S.length by rw [HES.out, List.length_map])
          go_wp2
          go_ret2
          refine ⟨HB3.out.trans (HO.out.bel.mono HB3.out.size), ?_⟩
          rw [HE.out, if_pos rfl, HL.out]
          exact ⟨aV, cV, rfl, HO.out.own.mono HB3.out.size⟩
end Go.Proofs.Ytdaedjmkolcliaa
