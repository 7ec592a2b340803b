/- Walks: package patch: form, at; the library's BinarySearchFunc at signs. -/
import Derived.Test.YtdaedjmkolcliaaPtB
import Derived.Deep.LoopGhost
namespace Go.Proofs.Ytdaedjmkolcliaa
set_option linter.unusedVariables false
set_option linter.unusedSimpArgs false
open Go.RowKit Go.Shelf

theorem pa_at1 (x : Id.Sg) (t : Int) (w : World) (hx : 0 ≤ x.id ∧ x.id ≤ 1048576) (ht : 0 ≤ t ∧ t ≤ 1048576) : Calls Try.prog 110 #[Id.sgV x, .int .i64 t] w fun e w' => e = .returned (.int .i64 (x.id - t)) ∧ Below w.heap.size w w' := by
  have h1 : IntKind.i64.wrap (x.id - t) = x.id - t := by rw [IntKind.wrap_i64] <;> omega
  go_enter Try.func110, Try.ntmps110
  go_wp2
  go_ret
  exact ⟨by first | rfl | rw [h1], by (repeat' first | (with_reducible first | exact Below.refl _ _ | assumption | refine Kit.below_drewN ?_ _ | refine Below.drew ?_ | refine Below.alloc ?_ ?_ _ | refine Below.setCell ?_ ?_ _ | exact Nat.le_refl _) | omega | (simp; omega) | (simp; done) | (apply Below.size; assumption))⟩
namespace Id
theorem vE_one (s : Sg) (h : 0 ≤ s.id) : vE (-1) [s] = form s := by
  rw [vE, vE, Bool.and_true, decide_eq_true (show -1 < s.id by omega), Bool.and_true]
theorem chk_one (s : Sg) : decide (chk [s] = 0) = form s := by
  unfold chk
  rw [if_neg (by simp), vE, vE, Bool.and_true]
  rcases hf : form s with _ | _
  · simp
  · have := ((form_iff s).1 hf).1.1
    rw [decide_eq_true (show -1 < s.id by omega)]
    simp
theorem one_at (s : Sg) : ∀ i j, i < [s].length → j < 14 → [Value.int .i64 s.id, Value.int .i64 s.role, Value.int .i64 s.bar, Value.int .i64 s.mark, Value.int .i64 s.kind, Value.int .i64 s.side, Value.int .i64 s.dir, Value.int .i64 s.level, Value.int .i64 s.size, Value.int .i64 s.wth, Value.int .i64 s.fn, Value.int .i64 s.fd, Value.int .i64 s.tn, Value.int .i64 s.td][i * 14 + j]? = some (sgc [s] i j) := by
  intro i j hi hj
  obtain rfl : i = 0 := by simpa using hi
  rcases j with _ | _ | _ | _ | _ | _ | _ | _ | _ | _ | _ | _ | _ | _ | j <;> first | rfl | omega
end Id
set_option maxHeartbeats 1000000 in
theorem pa_form (s : Id.Sg) (w : World) : Calls Try.prog 93 #[Id.sgV s] w fun e w' => e = .returned (.bool (Id.form s)) ∧ Below w.heap.size w w' := by
  have HC := Lib.hid (Id.chk_one s)
  go_enter Try.func93, Try.ntmps93
  go_wp2_with fail
  refine (ed_check _ [s] _ _ (Id.blk_new _ (by simp) _ _ (Id.one_at s)) (by simp)).mono ?_
  rintro _ w1 ⟨rfl, hb⟩
  have HB := Lib.hid (show Below w.heap.size w w1 from (((Below.refl w.heap.size w).alloc (Nat.le_refl _) _).alloc (by simp) _).trans (hb.mono (by simp; omega)))
  clear hb
  go_wp2
  go_ret
  refine ⟨?_, HB.out⟩
  rw [← HC.out]
  by_cases h : Id.chk [s] = 0 <;> simp [h]
set_option maxRecDepth 100000 in
set_option maxHeartbeats 4000000 in
theorem pa_bs (L : List Id.Sg) (a : Option Addr) (c : Nat) (t : Int) (w : World) (hS : Tp.Sl w a L.length 14 (Id.sgc L)) (hl : L.length ≤ 4096) (hf : ∀ s ∈ L, Id.form s = true) (hp : L.Pairwise fun a b => a.id < b.id) (ht : 0 ≤ t ∧ t ≤ 1048576) :
    Calls Try.prog 109 #[.slice a L.length c, .int .i64 t, .func (.func 110) #[] #[]] w fun e w' =>
      (∃ (i : Nat) (b : Bool), e = .returned (.tuple #[.int .i64 i, .bool b]) ∧ (b = true → i < L.length ∧ (L.getD i default).id = t) ∧ (b = false → ∀ s ∈ L, s.id ≠ t)) ∧ Below w.heap.size w w' := by
  have HS := Lib.hid hS
  have HF := Lib.hid (show ∀ k, k < L.length → 0 ≤ (L.getD k default).id ∧ (L.getD k default).id ≤ 1048576 from fun k hk => by
    have h : L.getD k default ∈ L := by rw [List.getD_eq_getElem?_getD, List.getElem?_eq_getElem hk]; exact List.getElem_mem hk
    exact ((Id.form_iff _).1 (hf _ h)).1)
  have HP := Lib.hid (show ∀ i j, i ≤ j → j < L.length → (L.getD i default).id ≤ (L.getD j default).id from fun i j hij hj => by
    rcases Nat.lt_or_ge i j with h | h
    · have := List.pairwise_iff_getElem.1 hp i j (by omega) hj h
      simp only [List.getD_eq_getElem?_getD, List.getElem?_eq_getElem hj, List.getElem?_eq_getElem (show i < L.length by omega), Option.getD_some]
      omega
    · obtain rfl : i = j := by omega
      exact Int.le_refl _)
  clear hS hf hp
  go_enter Try.func109, Try.ntmps109
  go_wp2_with fail
  go_loopg [9, 10] L.length (fun kx v9 v10 wr => ∃ lo hi : Nat, v9 = .int .i64 lo ∧ v10 = .int .i64 hi ∧ lo ≤ hi ∧ hi ≤ L.length ∧ hi - lo ≤ kx ∧ Hid (Below w.heap.size w wr) ∧ Hid ((∀ k, k < lo → (L.getD k default).id < t) ∧ (∀ k, hi ≤ k → k < L.length → t ≤ (L.getD k default).id)))
  case atStart => exact ⟨0, L.length, rfl, rfl, Nat.zero_le _, Nat.le_refl _, by omega, Below.refl _ _, ⟨fun k hk => absurd hk (Nat.not_lt_zero _), fun k h1 h2 => by omega⟩⟩
  case round =>
    obtain ⟨lo, hi, rfl, rfl, hlh, hin, hg, HB, HI⟩ := hrel
    by_cases hlt : lo < hi
    · have hm : (lo + hi) / 2 < L.length := by omega
      obtain ⟨ad, rfl, had, _⟩ := HS.out.at hm
      have h := HS.out.kept HB.out (Nat.le_refl _)
      (have e0 := h.head hm (by omega); have e1 := h.field hm (j := 1) (by omega) (by omega); have e2 := h.field hm (j := 2) (by omega) (by omega); have e3 := h.field hm (j := 3) (by omega) (by omega); have e4 := h.field hm (j := 4) (by omega) (by omega); have e5 := h.field hm (j := 5) (by omega) (by omega); have e6 := h.field hm (j := 6) (by omega) (by omega); have e7 := h.field hm (j := 7) (by omega) (by omega); have e8 := h.field hm (j := 8) (by omega) (by omega); have e9 := h.field hm (j := 9) (by omega) (by omega); have e10 := h.field hm (j := 10) (by omega) (by omega); have e11 := h.field hm (j := 11) (by omega) (by omega); have e12 := h.field hm (j := 12) (by omega) (by omega); have e13 := h.field hm (j := 13) (by omega) (by omega); obtain ⟨x, hx_⟩ : ∃ y, L.getD ((lo + hi) / 2) default = y := ⟨_, rfl⟩; simp only [Id.sgc, hx_, Id.sgF] at e0 e1 e2 e3 e4 e5 e6 e7 e8 e9 e10 e11 e12 e13)
      have hid := HF.out _ hm
      rw [hx_] at hid
      have HX := Lib.hid hx_
      have HC := Lib.hid (fun W => pa_at1 x t W hid ht)
      clear h hx_
      by_cases hc : x.id - t < 0
      · go_wp2_with (refine (HC.out _).mono ?_; rintro _ w' ⟨rfl, hb⟩)
        have HB2 := Lib.hid (HB.out.trans (hb.mono HB.out.size))
        go_roundg (hi - ((lo + hi) / 2 + 1))
        case measure => omega
        case rel =>
          refine ⟨(lo + hi) / 2 + 1, hi, by rw [show ((lo : Int) + (hi : Int)) / 2 + 1 = (((lo + hi) / 2 + 1 : Nat) : Int) by omega], rfl, by omega, hin, Nat.le_refl _, HB2.out, fun k hk => ?_, HI.out.2⟩
          have := HP.out k ((lo + hi) / 2) (by omega) hm
          rw [HX.out] at this
          omega
      · go_wp2_with (refine (HC.out _).mono ?_; rintro _ w' ⟨rfl, hb⟩)
        have HB2 := Lib.hid (HB.out.trans (hb.mono HB.out.size))
        go_roundg ((lo + hi) / 2 - lo)
        case measure => omega
        case rel =>
          refine ⟨lo, (lo + hi) / 2, rfl, by rw [show ((lo : Int) + (hi : Int)) / 2 = (((lo + hi) / 2 : Nat) : Int) by omega], by omega, by omega, Nat.le_refl _, HB2.out, HI.out.1, fun k hk hkn => ?_⟩
          have := HP.out ((lo + hi) / 2) k hk hkn
          rw [HX.out] at this
          omega
    · obtain rfl : hi = lo := by omega
      have HNO := Lib.hid (show (∀ k, hi ≤ k → k < L.length → t < (L.getD k default).id) → ∀ s ∈ L, s.id ≠ t from fun h s hs => by
        obtain ⟨k, hk, rfl⟩ := List.getElem_of_mem hs
        have e : L.getD k default = L[k] := by simp [List.getD_eq_getElem?_getD, List.getElem?_eq_getElem hk]
        rcases Nat.lt_or_ge k hi with h1 | h1
        · have := HI.out.1 k h1; rw [e] at this; omega
        · have := h k h1 hk; rw [e] at this; omega)
      by_cases hn : hi < L.length
      · obtain ⟨ad, rfl, had, _⟩ := HS.out.at hn
        have h := HS.out.kept HB.out (Nat.le_refl _)
        (have e0 := h.head hn (by omega); have e1 := h.field hn (j := 1) (by omega) (by omega); have e2 := h.field hn (j := 2) (by omega) (by omega); have e3 := h.field hn (j := 3) (by omega) (by omega); have e4 := h.field hn (j := 4) (by omega) (by omega); have e5 := h.field hn (j := 5) (by omega) (by omega); have e6 := h.field hn (j := 6) (by omega) (by omega); have e7 := h.field hn (j := 7) (by omega) (by omega); have e8 := h.field hn (j := 8) (by omega) (by omega); have e9 := h.field hn (j := 9) (by omega) (by omega); have e10 := h.field hn (j := 10) (by omega) (by omega); have e11 := h.field hn (j := 11) (by omega) (by omega); have e12 := h.field hn (j := 12) (by omega) (by omega); have e13 := h.field hn (j := 13) (by omega) (by omega); obtain ⟨x, hx_⟩ : ∃ y, L.getD hi default = y := ⟨_, rfl⟩; simp only [Id.sgc, hx_, Id.sgF] at e0 e1 e2 e3 e4 e5 e6 e7 e8 e9 e10 e11 e12 e13)
        have hid := HF.out _ hn
        rw [hx_] at hid
        have HX := Lib.hid hx_
        have HC := Lib.hid (fun W => pa_at1 x t W hid ht)
        have hge := HI.out.2 hi (Nat.le_refl _) hn
        rw [hx_] at hge
        clear h hx_
        by_cases hc : x.id - t = 0
        · have HXT := Lib.hid (show x.id = t by omega)
          go_wp2_with (refine (HC.out _).mono ?_; rintro _ w' ⟨rfl, hb⟩)
          have HB2 := Lib.hid (HB.out.trans (hb.mono HB.out.size))
          go_ret2
          exact ⟨⟨hi, true, by simp [hc], fun _ => ⟨hn, by rw [HX.out]; exact HXT.out⟩, fun h => by cases h⟩, HB2.out⟩
        · have HGT := Lib.hid (show t < x.id by omega)
          go_wp2_with (refine (HC.out _).mono ?_; rintro _ w' ⟨rfl, hb⟩)
          have HB2 := Lib.hid (HB.out.trans (hb.mono HB.out.size))
          go_ret2
          refine ⟨⟨hi, false, by simp [hc], (fun h => by cases h), fun _ => HNO.out fun k hk hkn => ?_⟩, HB2.out⟩
          have := HP.out hi k hk hkn
          rw [HX.out] at this
          have := HGT.out
          omega
      · go_wp2
        go_ret2
        exact ⟨⟨hi, false, rfl, (fun h => by cases h), fun _ => HNO.out fun k hk hkn => by omega⟩, HB.out⟩
theorem pa_at (L : List Id.Sg) (a : Option Addr) (c : Nat) (t : Int) (w : World) (hS : Tp.Sl w a L.length 14 (Id.sgc L)) (hl : L.length ≤ 4096) (hf : ∀ s ∈ L, Id.form s = true) (hp : L.Pairwise fun a b => a.id < b.id) (ht : 0 ≤ t ∧ t ≤ 1048576) :
    Calls Try.prog 94 #[.slice a L.length c, .int .i64 t] w fun e w' =>
      (∃ (i : Nat) (b : Bool), e = .returned (.tuple #[.int .i64 i, .bool b]) ∧ (b = true → i < L.length ∧ (L.getD i default).id = t) ∧ (b = false → ∀ s ∈ L, s.id ≠ t)) ∧ Below w.heap.size w w' := by
  have HC := Lib.hid (pa_bs L a c t w hS hl hf hp ht)
  clear hS hf hp
  go_enter Try.func94, Try.ntmps94
  go_wp2_with fail
  refine HC.out.mono ?_
  rintro _ w1 ⟨⟨i, b, rfl, h1, h2⟩, hb⟩
  have HB := Lib.hid hb
  have H1 := Lib.hid h1
  have H2 := Lib.hid h2
  clear hb h1 h2
  go_wp2
  go_ret2
  exact ⟨⟨i, b, rfl, H1.out, H2.out⟩, HB.out⟩
end Go.Proofs.Ytdaedjmkolcliaa
