/- Walks: package slices at signs: IndexFunc, Clone, DeleteFunc; Faults' closure that strikes signs. -/
import Derived.Test.YtggfeblfhabmkaaGreatDoorTyE
import Derived.Test.YtggfeblfhabmkaaGreatDoorKitq
import Derived.Deep.Cut
namespace Go.Proofs.YtggfeblfhabmkaaGreatDoor
set_option linter.unusedVariables false
set_option linter.unusedSimpArgs false
open Go.RowKit

/-- Does the closure strike the sign? -/
abbrev Ty.drp (s : Ex.Sg) : Bool := !Ty.held s
theorem ty_strike (s : Ex.Sg) (w : World) : Calls Tryz.prog 23 #[Ex.sgV s] w fun e w' => e = .returned (.bool (Ty.drp s)) ∧ Below w.heap.size w w' := by
  obtain ⟨id, role, bar, mark, kind, side, dir, level, size, wth, fn, fd, tn, td⟩ := s
  have hk : Ty.drp ⟨id, role, bar, mark, kind, side, dir, level, size, wth, fn, fd, tn, td⟩ = (kind != 7 && kind != 8) := by
    simp only [Ty.drp, Ty.held, Bool.not_or, bne]
  rw [hk]
  rcases e1 : (kind != 7) with _ | _ <;> rcases e2 : (kind != 8) with _ | _ <;>
  · go_enter Tryz.func23, Tryz.ntmps23
    go_wp2
    go_ret
    exact ⟨rfl, by (repeat' first | (with_reducible first | exact Below.refl _ _ | assumption | refine Kit.below_drewN ?_ _ | refine Below.drew ?_ | refine Below.alloc ?_ ?_ _ | refine Below.setCell ?_ ?_ _ | exact Nat.le_refl _) | omega | (simp; omega) | (simp; done) | (apply Below.size; assumption))⟩

/-- The first sign that is struck. -/
def Ty.fst : List Ex.Sg → Int → Int
  | [], _ => -1
  | s :: l, k => if Ty.drp s = true then k else Ty.fst l (k + 1)
theorem Ty.fst_pos : ∀ (l : List Ex.Sg) (k : Int), 0 ≤ k → (Ty.fst l k = -1 ∧ ∀ s ∈ l, Ty.held s = true) ∨ ∃ i : Nat, i < l.length ∧ Ty.fst l k = k + i ∧ (∀ s ∈ l.take i, Ty.held s = true) ∧ ∀ x, l[i]? = some x → Ty.held x = false
  | [], k, _ => .inl ⟨rfl, by simp⟩
  | s :: l, k, hk => by
    rcases h : Ty.held s with _ | _
    · exact .inr ⟨0, by simp, by simp [Ty.fst, Ty.drp, h], by simp, by simp [h]⟩
    · rcases Ty.fst_pos l (k + 1) (by omega) with ⟨h1, h2⟩ | ⟨i, h1, h2, h3, h4⟩
      · exact .inl ⟨by simp [Ty.fst, Ty.drp, h, h1], by simpa [h] using h2⟩
      · exact .inr ⟨i + 1, by simpa using h1, by simp [Ty.fst, Ty.drp, h, h2]; omega, by simpa [h] using h3, by simpa using h4⟩
set_option maxRecDepth 100000 in
set_option maxHeartbeats 1000000 in
theorem ty_first (a : Option Addr) (c : Nat) (l : List Ex.Sg) (w : World) (hb : l.length ≤ 1000000) (hS : Tp.Sl w a l.length 14 (Ex.sgc l)) :
    Calls Tryz.prog 48 #[.slice a l.length c, .func (.func 23) #[] #[]] w
      fun e w' => e = .returned (.int .i64 (Ty.fst l 0)) ∧ Below w.heap.size w w' := by
  have HS := Lib.hid hS; clear hS
  go_enter Tryz.func48, Tryz.ntmps48
  go_wp2
  go_loopw [5, 8] (fun v5 v8 wr => ∃ k : Nat, v8 = .int .i64 k ∧ k ≤ l.length ∧ Hid (Ty.fst l 0 = Ty.fst (l.drop k) k) ∧ Hid (Below w.heap.size w wr))
    (fun _ v8 _ => l.length - (intOf v8).toNat)
  case atStart => exact ⟨0, rfl, Nat.zero_le _, by show _ = _; simp, Below.refl _ _⟩
  case round =>
    obtain ⟨k, rfl, hk, HF, HB⟩ := hrel
    by_cases hlt : k < l.length
    · have h := HS.out.kept HB.out (Nat.le_refl _)
      obtain ⟨ay, rfl, hay, _⟩ := HS.out.at hlt
      have e0 := h.head hlt (by omega)
      have e1 := h.field hlt (j := 1) (by omega) (by omega)
      have e2 := h.field hlt (j := 2) (by omega) (by omega)
      have e3 := h.field hlt (j := 3) (by omega) (by omega)
      have e4 := h.field hlt (j := 4) (by omega) (by omega)
      have e5 := h.field hlt (j := 5) (by omega) (by omega)
      have e6 := h.field hlt (j := 6) (by omega) (by omega)
      have e7 := h.field hlt (j := 7) (by omega) (by omega)
      have e8 := h.field hlt (j := 8) (by omega) (by omega)
      have e9 := h.field hlt (j := 9) (by omega) (by omega)
      have e10 := h.field hlt (j := 10) (by omega) (by omega)
      have e11 := h.field hlt (j := 11) (by omega) (by omega)
      have e12 := h.field hlt (j := 12) (by omega) (by omega)
      have e13 := h.field hlt (j := 13) (by omega) (by omega)
      have hdrop := Tp.drop_cons l default k hlt
      generalize hx : l.getD k default = x at hdrop
      simp only [Ex.sgc, hx] at e0 e1 e2 e3 e4 e5 e6 e7 e8 e9 e10 e11 e12 e13
      have hF : Ty.fst l 0 = if Ty.drp x = true then (k : Int) else Ty.fst (l.drop (k + 1)) (k + 1) := by rw [HF.out, hdrop]; rfl
      have HF2 := Lib.hid hF
      clear hF hdrop hx h
      have hcall := ty_strike x
      have HC := Lib.hid hcall; clear hcall
      rcases d : Ty.drp x with _ | _
      · go_wp2_with fail
        refine (HC.out wr).mono ?_
        rintro _ w1 ⟨rfl, hb1⟩
        rw [d]
        have HB1 := Lib.hid (show Below w.heap.size w w1 from HB.out.trans (hb1.mono HB.out.size))
        clear hb1 e0 e1 e2 e3 e4 e5 e6 e7 e8 e9 e10 e11 e12 e13
        go_wp2
        go_roundw
        case rel => exact ⟨k + 1, by go_num, by omega, (by show _ = _; rw [HF2.out, d]; simp), HB1.out⟩
        case measure => simp [intOf]; omega
      · go_wp2_with fail
        refine (HC.out wr).mono ?_
        rintro _ w1 ⟨rfl, hb1⟩
        rw [d]
        have HB1 := Lib.hid (show Below w.heap.size w w1 from HB.out.trans (hb1.mono HB.out.size))
        clear hb1 e0 e1 e2 e3 e4 e5 e6 e7 e8 e9 e10 e11 e12 e13
        go_wp2
        go_ret
        refine ⟨?_, HB1.out⟩
        rw [HF2.out, d]
        rfl
    · obtain rfl : k = l.length := by omega
      go_wp2
      go_ret
      refine ⟨?_, HB.out⟩
      rw [HF.out, List.drop_length]
      rfl

theorem Ty.sgInfo : (Tryz.prog.info? 44).map (fun i => (i.zero, i.size, i.bytes)) = some (some (Ex.sgV default), 14, 112) := by kernel_rfl
theorem Ty.flatS_one (l : List Ex.Sg) : ∀ u ∈ Ty.flatS l, u.oneCell' = true := by
  intro u hu
  simp only [Ty.flatS, List.mem_flatMap, Ty.sc, List.mem_cons, List.not_mem_nil, or_false] at hu
  obtain ⟨s, _, h⟩ := hu
  rcases h with h | h | h | h | h | h | h | h | h | h | h | h | h | h <;> subst h <;> rfl
theorem Ty.flatS_len (l : List Ex.Sg) : (Ty.flatS l).length = l.length * 14 := by
  induction l with
  | nil => rfl
  | cons s l ih => simp [Ty.flatS, Ty.sc] at ih ⊢; omega
set_option maxRecDepth 100000 in
set_option maxHeartbeats 1000000 in
/-- Clone of a slice of signs: one's own, the same signs. -/
theorem ty_clone (a : Option Addr) (c : Nat) (l : List Ex.Sg) (w : World) (hb : l.length ≤ 1000000) (hS : Tp.Sl w a l.length 14 (Ex.sgc l)) :
    Calls Tryz.prog 22 #[.slice a l.length c] w
      fun e w' => ∃ v, e = .returned v ∧ w'.ownsRow w.heap.size 44 14 v l.length (Ty.flatS l) ∧ Below w.heap.size w w' := by
  have HS := Lib.hid hS; clear hS
  have q22 : ∀ (w : World) (a : Option Addr) (n c n' c' : Nat), (binOp .eql 30 (.slice a n c) (.slice none n' c')).run Tryz.prog w = .ok (.bool a.isNone) w := fun w a n c n' c' => Lib.run_eql_slice_nil w _ _ a n c n' c' Tryz.underlying30
  rcases a with _ | ay
  · have hl : l.length = 0 := by
      rcases HS.out with h | ⟨ad, h, _⟩
      · exact h
      · cases h
    obtain rfl := List.eq_nil_of_length_eq_zero hl
    go_enter Tryz.func22, Tryz.ntmps22
    go_wp2
    go_ret
    exact ⟨_, rfl, World.ownsRow_nil _ _ _ _, Below.refl _ _⟩
  · obtain ⟨i0, hi, hz0, hz1, hz2⟩ := info_parts Ty.sgInfo
    go_enter Tryz.func22, Tryz.ntmps22
    go_wp2_with (at_builtin; refine wpList_append_own _ rfl _ _ 30 rfl w.heap.size 44 i0 (Ex.sgV default) 14 112 Tryz.underlying30 hi hz0 hz1 hz2 rfl (by decide) _ _ _ rfl (World.ownsRow_made w #[] 0 (Nat.le_refl _) (Nat.zero_le _) (by simp)) ay l.length c (Ty.flatS l) rfl ?qc1 ?qc2 ?qc3 ?qc4 ?qc5 ?qc6 ?_)
    case qc1 => exact Ty.flatS_len l
    case qc2 =>
      intro j u hj
      have hjl : j < l.length * 14 := by rw [← Ty.flatS_len]; exact (List.getElem?_eq_some_iff.1 hj).1
      have h1 := Ty.flatS_get l (j / 14) (j % 14) (by omega) (by omega)
      rw [show j / 14 * 14 + j % 14 = j by omega, hj] at h1
      obtain ⟨ad, had, hb', hc⟩ := HS.out.at (show j / 14 < l.length by omega)
      cases had
      have h2 := hc (j % 14) (by omega)
      rw [show j / 14 * 14 + j % 14 = j by omega] at h2
      rw [h1]
      exact Lib.cell?_alloc_some _ h2
    case qc3 => exact Ty.flatS_one l
    case qc4 => unfold maxLen; omega
    case qc5 => omega
    case qc6 => simp
    intro v' w1 hown hgrow hnil
    have HO := Lib.hid hown
    have HG := Lib.hid hgrow
    clear hown hgrow
    go_wp2
    go_ret
    refine ⟨_, rfl, by simpa using HO.out, ?_⟩
    exact (((Kit.Exc.refl (fun _ => False) w).alloc _).grown HG.out (fun k hk => .inr (by simp [Value.ownBlock] at hk; omega))).below (Nat.le_refl _) (fun _ h => h.elim)

/-- The row while DeleteFunc goes through it: K: what is kept so far; from j on the signs of l. -/
def Ty.DR (W : World) (g cap : Nat) (l K : List Ex.Sg) (j : Nat) : Prop :=
  ∃ cur : Array Value, W.heap[g]? = some (.cells cur 44 (0, 0)) ∧ cur.size = cap * 14 ∧ l.length ≤ cap ∧ (∀ m q, m < K.length → q < 14 → cur[m * 14 + q]? = some (Ex.sgc K m q)) ∧ (∀ m q, j ≤ m → m < l.length → q < 14 → cur[m * 14 + q]? = some (Ex.sgc l m q))
namespace Ty.DR
variable {W : World} {g cap j : Nat} {l K : List Ex.Sg}
theorem keep {W' : World} (h : Ty.DR W g cap l K j) (hb : g < W.heap.size → W'.heap[g]? = W.heap[g]?) : Ty.DR W' g cap l K j := by
  obtain ⟨cur, h1, h2⟩ := h
  exact ⟨cur, (hb (Array.getElem?_eq_some_iff.1 h1).1).trans h1, h2⟩
theorem lt (h : Ty.DR W g cap l K j) : g < W.heap.size := by
  obtain ⟨cur, h1, h2⟩ := h
  exact (Array.getElem?_eq_some_iff.1 h1).1
theorem skip (h : Ty.DR W g cap l K j) : Ty.DR W g cap l K (j + 1) := by
  obtain ⟨cur, h1, h2, h3, h4, h5⟩ := h
  exact ⟨cur, h1, h2, h3, h4, fun m q hm => h5 m q (by omega)⟩
theorem cell (h : Ty.DR W g cap l K j) {m q : Nat} (hm : j ≤ m) (hl : m < l.length) (hq : q < 14) : W.cell? ((⟨g, 0, none⟩ : Addr).add (m * 14 + q)) = some (Ex.sgc l m q) := by
  obtain ⟨cur, h1, h2, h3, h4, h5⟩ := h
  rw [Addr.add_lit]
  simp only [World.cell?, h1, Nat.zero_add]
  exact h5 m q hm hl hq
theorem there (h : Ty.DR W g cap l K j) {o : Nat} (ho : o < l.length * 14) : (W.cell? ⟨g, o, none⟩).isSome = true ∧ W.frozen? ⟨g, o, none⟩ = false := by
  obtain ⟨cur, h1, h2, h3, h4, h5⟩ := h
  refine ⟨?_, frozen_of_row _ _ _ _ _ h1⟩
  simp only [World.cell?, h1]
  have : o < cur.size := by omega
  simp [this]
theorem put (h : Ty.DR W g cap l K j) (hK : K.length < j) {x : Ex.Sg} (hj : j < l.length) : Ty.DR (W.setCells g (K.length * 14) (Ty.sc x)) g cap l (K ++ [x]) (j + 1) := by
  obtain ⟨cur, h1, h2, h3, h4, h5⟩ := h
  obtain ⟨c, k1, k2, k3, k4⟩ := Kit.heap_setCells g _ (Ty.sc x) (K.length * 14) W cur h1
  have hsl : (Ty.sc x).length = 14 := rfl
  refine ⟨c, k1, k2.trans h2, h3, fun m q hm hq => ?_, fun m q hm hml hq => ?_⟩
  · have hg := Ty.flatS_get (K ++ [x]) m q hm hq
    by_cases e : m < K.length
    · rw [k3 _ (.inl (by omega)), h4 m q e hq]
      have hg' := Ty.flatS_get K m q e hq
      rw [← hg', ← hg, Ty.flatS_snoc, List.getElem?_append_left (by rw [Ty.flatS_len]; omega)]
    · simp at hm
      obtain rfl : m = K.length := by omega
      rw [k4 q (by omega) (by omega), ← hg, Ty.flatS_snoc, List.getElem?_append_right (by rw [Ty.flatS_len]; omega), Ty.flatS_len, Nat.add_sub_cancel_left]
  · rw [k3 _ (.inr (by omega))]
    exact h5 m q (by omega) hml hq
theorem clear (h : Ty.DR W g cap l K j) (n : Nat) (vs : List Value) (hn : K.length * 14 ≤ n) : Ty.DR (W.setCells g n vs) g cap l K l.length := by
  obtain ⟨cur, h1, h2, h3, h4, h5⟩ := h
  obtain ⟨c, k1, k2, k3, k4⟩ := Kit.heap_setCells g _ vs n W cur h1
  refine ⟨c, k1, k2.trans h2, h3, fun m q hm hq => ?_, fun m q hm hml hq => ?_⟩
  · rw [k3 _ (.inl (by omega))]
    exact h4 m q hm hq
  · omega
theorem own (h : Ty.DR W g cap l K j) {s : Nat} (hs : s ≤ g) (hc : cap ≤ maxLen) (hK : K.length ≤ cap) : W.ownsRow s 44 14 (.slice (some ⟨g, 0, none⟩) K.length cap) K.length (Ty.flatS K) := by
  obtain ⟨cur, h1, h2, h3, h4, h5⟩ := h
  refine ⟨Ty.flatS_len K, .inr ⟨g, cap, cur, rfl, hs, h1, hK, hc, h2, ?_⟩⟩
  apply List.ext_getElem?
  intro p
  by_cases hp : p < K.length * 14
  · have e := h4 (p / 14) (p % 14) (by omega) (by omega)
    have e2 := Ty.flatS_get K (p / 14) (p % 14) (by omega) (by omega)
    rw [show p / 14 * 14 + p % 14 = p by omega] at e e2
    rw [List.getElem?_take_of_lt hp, e2, ← e]
    simp
  · rw [List.getElem?_take_eq_none (by omega), List.getElem?_eq_none (by rw [Ty.flatS_len]; omega)]
theorem of_own {s n c : Nat} (h : W.ownsRow s 44 14 (.slice (some ⟨g, 0, none⟩) n c) l.length (Ty.flatS l)) (i : Nat) (hi : i ≤ l.length) (j : Nat) : Ty.DR W g c l (l.take i) j ∧ s ≤ g ∧ c ≤ maxLen ∧ n = l.length := by
  rcases h.2 with ⟨h1, _⟩ | ⟨g', cap, cur, h1, h2, h3, h4, h5, h6, h7⟩
  · cases h1
  · cases h1
    have hg : ∀ m q, m < l.length → q < 14 → cur[m * 14 + q]? = some (Ex.sgc l m q) := fun m q hm hq => by
      rw [← Ty.flatS_get l m q hm hq, ← h7, List.getElem?_take_of_lt (by omega)]
      simp
    refine ⟨⟨cur, h3, h6, h4, fun m q hm hq => ?_, fun m q _ hm hq => hg m q hm hq⟩, h2, h5, rfl⟩
    simp at hm
    rw [hg m q (by omega) hq]
    simp only [Ex.sgc]
    have : (l.take i).getD m default = l.getD m default := by
      simp [List.getD, List.getElem?_take_of_lt (show m < i by omega)]
    rw [this]
end Ty.DR

abbrev Ty.scA (x : Ex.Sg) : Array Value := #[.int .i64 x.id, .int .i64 x.role, .int .i64 x.bar, .int .i64 x.mark, .int .i64 x.kind, .int .i64 x.side, .int .i64 x.dir, .int .i64 x.level, .int .i64 x.size, .int .i64 x.wth, .int .i64 x.fn, .int .i64 x.fd, .int .i64 x.tn, .int .i64 x.td]
theorem Ty.scA_one (x : Ex.Sg) : (#[.int .i64 x.id, .int .i64 x.role, .int .i64 x.bar, .int .i64 x.mark, .int .i64 x.kind, .int .i64 x.side, .int .i64 x.dir, .int .i64 x.level, .int .i64 x.size, .int .i64 x.wth, .int .i64 x.fn, .int .i64 x.fd, .int .i64 x.tn, .int .i64 x.td] : Array Value).all (·.oneCell') = true := by simp [Value.oneCell']
theorem Ty.filter_take_held (l : List Ex.Sg) (i : Nat) (x : Ex.Sg) (h : ∀ s ∈ l.take i, Ty.held s = true) (hi : l[i]? = some x) (hx : Ty.held x = false) : (l.take (i + 1)).filter Ty.held = l.take i := by
  rw [List.take_add_one, hi, List.filter_append, List.filter_eq_self.2 h]
  simp [List.filter, hx]
theorem Ty.filter_snoc (l : List Ex.Sg) (j : Nat) (x : Ex.Sg) (hj : l[j]? = some x) : (l.take (j + 1)).filter Ty.held = if Ty.held x = true then (l.take j).filter Ty.held ++ [x] else (l.take j).filter Ty.held := by
  rw [List.take_add_one, hj, List.filter_append]
  rcases h : Ty.held x with _ | _ <;> simp [List.filter, h]
/-- The cells of a sign, as the walk spells them. -/
theorem Ty.row14 {W : World} {ay : Addr} {m j : Nat} {l : List Ex.Sg} {x : Ex.Sg} (h : ∀ q, q < 14 → W.cell? (ay.add (m + q)) = some (Ex.sgc l j q)) (hx : l.getD j default = x) :
    W.cell? (ay.add m) = some (.int .i64 x.id) ∧ W.cell? ⟨(ay.add m).block, (ay.add m).off + 1, none⟩ = some (.int .i64 x.role) ∧ W.cell? ⟨(ay.add m).block, (ay.add m).off + 2, none⟩ = some (.int .i64 x.bar) ∧ W.cell? ⟨(ay.add m).block, (ay.add m).off + 3, none⟩ = some (.int .i64 x.mark) ∧ W.cell? ⟨(ay.add m).block, (ay.add m).off + 4, none⟩ = some (.int .i64 x.kind) ∧ W.cell? ⟨(ay.add m).block, (ay.add m).off + 5, none⟩ = some (.int .i64 x.side) ∧ W.cell? ⟨(ay.add m).block, (ay.add m).off + 6, none⟩ = some (.int .i64 x.dir) ∧ W.cell? ⟨(ay.add m).block, (ay.add m).off + 7, none⟩ = some (.int .i64 x.level) ∧ W.cell? ⟨(ay.add m).block, (ay.add m).off + 8, none⟩ = some (.int .i64 x.size) ∧ W.cell? ⟨(ay.add m).block, (ay.add m).off + 9, none⟩ = some (.int .i64 x.wth) ∧ W.cell? ⟨(ay.add m).block, (ay.add m).off + 10, none⟩ = some (.int .i64 x.fn) ∧ W.cell? ⟨(ay.add m).block, (ay.add m).off + 11, none⟩ = some (.int .i64 x.fd) ∧ W.cell? ⟨(ay.add m).block, (ay.add m).off + 12, none⟩ = some (.int .i64 x.tn) ∧ W.cell? ⟨(ay.add m).block, (ay.add m).off + 13, none⟩ = some (.int .i64 x.td) := by
  subst hx
  refine ⟨h 0 (by omega), ?_, ?_, ?_, ?_, ?_, ?_, ?_, ?_, ?_, ?_, ?_, ?_, ?_⟩
  · rw [← Tp.add_pos ay m 1 (by omega)]; exact h 1 (by omega)
  · rw [← Tp.add_pos ay m 2 (by omega)]; exact h 2 (by omega)
  · rw [← Tp.add_pos ay m 3 (by omega)]; exact h 3 (by omega)
  · rw [← Tp.add_pos ay m 4 (by omega)]; exact h 4 (by omega)
  · rw [← Tp.add_pos ay m 5 (by omega)]; exact h 5 (by omega)
  · rw [← Tp.add_pos ay m 6 (by omega)]; exact h 6 (by omega)
  · rw [← Tp.add_pos ay m 7 (by omega)]; exact h 7 (by omega)
  · rw [← Tp.add_pos ay m 8 (by omega)]; exact h 8 (by omega)
  · rw [← Tp.add_pos ay m 9 (by omega)]; exact h 9 (by omega)
  · rw [← Tp.add_pos ay m 10 (by omega)]; exact h 10 (by omega)
  · rw [← Tp.add_pos ay m 11 (by omega)]; exact h 11 (by omega)
  · rw [← Tp.add_pos ay m 12 (by omega)]; exact h 12 (by omega)
  · rw [← Tp.add_pos ay m 13 (by omega)]; exact h 13 (by omega)
theorem Ty.there14 {W : World} {ay : Addr} {m g : Nat} (hay : ay = ⟨g, 0, none⟩) (h : ∀ q, q < 14 → (W.cell? ⟨g, m + q, none⟩).isSome = true ∧ W.frozen? ⟨g, m + q, none⟩ = false) :
    (∃ u, W.cell? (ay.add m) = some u) ∧ (∃ u, W.cell? ⟨(ay.add m).block, (ay.add m).off + 1, none⟩ = some u) ∧ (∃ u, W.cell? ⟨(ay.add m).block, (ay.add m).off + 2, none⟩ = some u) ∧ (∃ u, W.cell? ⟨(ay.add m).block, (ay.add m).off + 3, none⟩ = some u) ∧ (∃ u, W.cell? ⟨(ay.add m).block, (ay.add m).off + 4, none⟩ = some u) ∧ (∃ u, W.cell? ⟨(ay.add m).block, (ay.add m).off + 5, none⟩ = some u) ∧ (∃ u, W.cell? ⟨(ay.add m).block, (ay.add m).off + 6, none⟩ = some u) ∧ (∃ u, W.cell? ⟨(ay.add m).block, (ay.add m).off + 7, none⟩ = some u) ∧ (∃ u, W.cell? ⟨(ay.add m).block, (ay.add m).off + 8, none⟩ = some u) ∧ (∃ u, W.cell? ⟨(ay.add m).block, (ay.add m).off + 9, none⟩ = some u) ∧ (∃ u, W.cell? ⟨(ay.add m).block, (ay.add m).off + 10, none⟩ = some u) ∧ (∃ u, W.cell? ⟨(ay.add m).block, (ay.add m).off + 11, none⟩ = some u) ∧ (∃ u, W.cell? ⟨(ay.add m).block, (ay.add m).off + 12, none⟩ = some u) ∧ (∃ u, W.cell? ⟨(ay.add m).block, (ay.add m).off + 13, none⟩ = some u) ∧ W.frozen? (ay.add m) = false ∧ W.frozen? ⟨(ay.add m).block, (ay.add m).off + 1, none⟩ = false ∧ W.frozen? ⟨(ay.add m).block, (ay.add m).off + 2, none⟩ = false ∧ W.frozen? ⟨(ay.add m).block, (ay.add m).off + 3, none⟩ = false ∧ W.frozen? ⟨(ay.add m).block, (ay.add m).off + 4, none⟩ = false ∧ W.frozen? ⟨(ay.add m).block, (ay.add m).off + 5, none⟩ = false ∧ W.frozen? ⟨(ay.add m).block, (ay.add m).off + 6, none⟩ = false ∧ W.frozen? ⟨(ay.add m).block, (ay.add m).off + 7, none⟩ = false ∧ W.frozen? ⟨(ay.add m).block, (ay.add m).off + 8, none⟩ = false ∧ W.frozen? ⟨(ay.add m).block, (ay.add m).off + 9, none⟩ = false ∧ W.frozen? ⟨(ay.add m).block, (ay.add m).off + 10, none⟩ = false ∧ W.frozen? ⟨(ay.add m).block, (ay.add m).off + 11, none⟩ = false ∧ W.frozen? ⟨(ay.add m).block, (ay.add m).off + 12, none⟩ = false ∧ W.frozen? ⟨(ay.add m).block, (ay.add m).off + 13, none⟩ = false := by
  subst hay
  simp only [Addr.add_lit, Nat.zero_add]
  exact ⟨Option.isSome_iff_exists.1 (h 0 (by omega)).1, Option.isSome_iff_exists.1 (h 1 (by omega)).1, Option.isSome_iff_exists.1 (h 2 (by omega)).1, Option.isSome_iff_exists.1 (h 3 (by omega)).1, Option.isSome_iff_exists.1 (h 4 (by omega)).1, Option.isSome_iff_exists.1 (h 5 (by omega)).1, Option.isSome_iff_exists.1 (h 6 (by omega)).1, Option.isSome_iff_exists.1 (h 7 (by omega)).1, Option.isSome_iff_exists.1 (h 8 (by omega)).1, Option.isSome_iff_exists.1 (h 9 (by omega)).1, Option.isSome_iff_exists.1 (h 10 (by omega)).1, Option.isSome_iff_exists.1 (h 11 (by omega)).1, Option.isSome_iff_exists.1 (h 12 (by omega)).1, Option.isSome_iff_exists.1 (h 13 (by omega)).1, (h 0 (by omega)).2, (h 1 (by omega)).2, (h 2 (by omega)).2, (h 3 (by omega)).2, (h 4 (by omega)).2, (h 5 (by omega)).2, (h 6 (by omega)).2, (h 7 (by omega)).2, (h 8 (by omega)).2, (h 9 (by omega)).2, (h 10 (by omega)).2, (h 11 (by omega)).2, (h 12 (by omega)).2, (h 13 (by omega)).2⟩
set_option maxRecDepth 100000 in
set_option maxHeartbeats 1000000 in
/-- DeleteFunc of a slice of signs of one's own. -/
theorem ty_delete (v : Value) (s : Nat) (l : List Ex.Sg) (w : World) (hb : l.length ≤ 1000000) (hS : w.ownsRow s 44 14 v l.length (Ty.flatS l)) :
    Calls Tryz.prog 21 #[v, .func (.func 23) #[] #[]] w
      fun e w' => ∃ v', e = .returned v' ∧ w'.ownsRow s 44 14 v' (l.filter Ty.held).length (Ty.flatS (l.filter Ty.held)) ∧ (∀ k, v'.ownBlock = some k → v.ownBlock = some k) ∧ Kit.Exc (fun k => v.ownBlock = some k) w w' := by
  have hsl : ∃ a c, v = .slice a l.length c ∧ Tp.Sl w a l.length 14 (Ex.sgc l) := by
    rcases Ty.row_sl hS with ⟨h1, h2⟩ | ⟨g, c, h1, h2, h3, h4⟩
    · subst h1; exact ⟨none, 0, h2, .inl rfl⟩
    · exact ⟨_, c, h1, h4⟩
  obtain ⟨a, c, rfl, hsl⟩ := hsl
  have hIF := ty_first a c l w hb hsl
  have HIF := Lib.hid hIF; clear hIF
  rcases Ty.fst_pos l 0 (Int.le_refl _) with ⟨h1, h2⟩ | ⟨i, h1, h2, h3, h4⟩
  · rw [h1] at HIF
    have hfil : l.filter Ty.held = l := List.filter_eq_self.2 h2
    have HS := Lib.hid hS
    clear hS hsl h2
    go_enter Tryz.func21, Tryz.ntmps21
    go_wp2_with fail
    refine HIF.out.mono ?_
    rintro _ w1 ⟨rfl, hb1⟩
    have X1 : ∀ S, Kit.Exc S w w1 := fun S => (Kit.Exc.refl S w).then hb1
    have HX := Lib.hid X1
    clear X1 hb1
    go_wp2
    go_ret
    refine ⟨_, rfl, ?_, fun k h => h, HX.out _⟩
    rw [hfil]
    exact Ty.own_keep HS.out (fun g hg => (HX.out (fun _ => False)).block g (HS.out.lt g hg).2 (fun h => h))
  · have hlt : i < l.length := h1
    rw [h2, Int.zero_add] at HIF
    rcases a with _ | ad
    · rcases hsl with h | ⟨_, h, _⟩
      · omega
      · cases h
    have had : ad.off = 0 ∧ ad.spot = none := by
      rcases hS.2 with ⟨h, _⟩ | ⟨g, cap, cur, h, _⟩
      · cases h
      · cases h; exact ⟨rfl, rfl⟩
    obtain ⟨g, o, sp⟩ := ad
    obtain ⟨rfl, rfl⟩ : o = 0 ∧ sp = none := had
    obtain ⟨hdr, hsg, hcm, _⟩ := Ty.DR.of_own hS i (by omega) (i + 1)
    obtain ⟨x, hx⟩ : ∃ x, l[i]? = some x := ⟨l[i], List.getElem?_eq_getElem hlt⟩
    have hK := Ty.filter_take_held l i x h3 hx (h4 x hx)
    rw [← hK] at hdr
    have hne1 : ((i : Int) == -1) = false := beq_eq_false_iff_ne.2 (by omega)
    obtain ⟨ay, hay⟩ : ∃ ay : Addr, ay = ⟨g, 0, none⟩ := ⟨_, rfl⟩
    have hlK : ((l.take (i + 1)).filter Ty.held).length = i := by rw [hK]; simp; omega
    rw [← hay] at HIF ⊢
    have HDR := Lib.hid hdr
    have HAY := Lib.hid hay
    have HLK := Lib.hid hlK
    clear hdr hay hlK hS hsl h3 h4 hx hK h1 h2
    go_enter Tryz.func21, Tryz.ntmps21
    go_wp2_with fail
    refine HIF.out.mono ?_
    rintro _ w1 ⟨rfl, hb1⟩
    have HX := Lib.hid (show ∀ S, Kit.Exc S w w1 from fun S => (Kit.Exc.refl S w).then hb1)
    have HD1 := Lib.hid (HDR.out.keep (fun hl => (HX.out (fun _ => False)).block g hl (fun h => h)))
    clear hb1
    go_wp2
    go_loopw [5, 6] (fun v5 v6 wr => ∃ j : Nat, v5 = .int .i64 ((l.take j).filter Ty.held).length ∧ v6 = .int .i64 j ∧ j ≤ l.length ∧ ((l.take j).filter Ty.held).length < j ∧ Hid (Ty.DR wr g c l ((l.take j).filter Ty.held) j) ∧ Hid (Kit.Exc (fun k => k = g) w wr))
      (fun _ v6 _ => l.length - (intOf v6).toNat)
    case atStart => exact ⟨i + 1, by rw [HLK.out], by go_num, hlt, by rw [HLK.out]; omega, HD1.out, HX.out _⟩
    case round =>
      obtain ⟨j, rfl, rfl, hj, hKj, HD, HE⟩ := hrel
      generalize hKK : (l.take j).filter Ty.held = K at *
      by_cases hlt : j < l.length
      · have hC : ∀ q, q < 14 → wr.cell? (ay.add (j * 14 + q)) = some (Ex.sgc l j q) := fun q hq => by rw [HAY.out]; exact HD.out.cell (Nat.le_refl _) hlt hq
        obtain ⟨x, hx⟩ : ∃ x, l.getD j default = x := ⟨_, rfl⟩
        have hjx : l[j]? = some x := by rw [← hx]; simp [List.getD, hlt]
        obtain ⟨e0, e1, e2, e3, e4, e5, e6, e7, e8, e9, e10, e11, e12, e13⟩ := Ty.row14 hC hx
        have hfs := Ty.filter_snoc l j x hjx
        rw [hKK] at hfs
        have HFS := Lib.hid hfs
        have hay : (ay.add (j * 14)).block < wr.heap.size := by rw [Tp.add_block, HAY.out]; exact HD.out.lt
        have HC := Lib.hid (ty_strike x)
        have z0 : g < wr.heap.size := HD.out.lt
        clear hC hx hjx hfs
        go_wp2_with fail
        refine (HC.out _).mono ?_
        rintro _ w2 ⟨rfl, hb2⟩
        obtain ⟨hc2, hf2⟩ := Kit.bcell hb2
        have p0 : w2.cell? ⟨wr.heap.size, 0, none⟩ = some (.int .i64 x.id) := by rw [hc2 _ _ (by simp)]; simp [go_sem]
        have p1 : w2.cell? ⟨wr.heap.size, 1, none⟩ = some (.int .i64 x.role) := by rw [hc2 _ _ (by simp)]; simp [go_sem]
        have p2 : w2.cell? ⟨wr.heap.size, 2, none⟩ = some (.int .i64 x.bar) := by rw [hc2 _ _ (by simp)]; simp [go_sem]
        have p3 : w2.cell? ⟨wr.heap.size, 3, none⟩ = some (.int .i64 x.mark) := by rw [hc2 _ _ (by simp)]; simp [go_sem]
        have p4 : w2.cell? ⟨wr.heap.size, 4, none⟩ = some (.int .i64 x.kind) := by rw [hc2 _ _ (by simp)]; simp [go_sem]
        have p5 : w2.cell? ⟨wr.heap.size, 5, none⟩ = some (.int .i64 x.side) := by rw [hc2 _ _ (by simp)]; simp [go_sem]
        have p6 : w2.cell? ⟨wr.heap.size, 6, none⟩ = some (.int .i64 x.dir) := by rw [hc2 _ _ (by simp)]; simp [go_sem]
        have p7 : w2.cell? ⟨wr.heap.size, 7, none⟩ = some (.int .i64 x.level) := by rw [hc2 _ _ (by simp)]; simp [go_sem]
        have p8 : w2.cell? ⟨wr.heap.size, 8, none⟩ = some (.int .i64 x.size) := by rw [hc2 _ _ (by simp)]; simp [go_sem]
        have p9 : w2.cell? ⟨wr.heap.size, 9, none⟩ = some (.int .i64 x.wth) := by rw [hc2 _ _ (by simp)]; simp [go_sem]
        have p10 : w2.cell? ⟨wr.heap.size, 10, none⟩ = some (.int .i64 x.fn) := by rw [hc2 _ _ (by simp)]; simp [go_sem]
        have p11 : w2.cell? ⟨wr.heap.size, 11, none⟩ = some (.int .i64 x.fd) := by rw [hc2 _ _ (by simp)]; simp [go_sem]
        have p12 : w2.cell? ⟨wr.heap.size, 12, none⟩ = some (.int .i64 x.tn) := by rw [hc2 _ _ (by simp)]; simp [go_sem]
        have p13 : w2.cell? ⟨wr.heap.size, 13, none⟩ = some (.int .i64 x.td) := by rw [hc2 _ _ (by simp)]; simp [go_sem]
        have hx2 : ∀ S, Kit.Exc S wr w2 := fun S => Kit.Exc.then ((((Kit.Exc.refl S wr).alloc _))) hb2
        have HE2 := Lib.hid (HE.out.trans (hx2 _))
        have hd2 := HD.out.keep (fun hl => (hx2 (fun _ => False)).block g hl (fun h => h))
        have HD2 := Lib.hid hd2
        clear hc2 hf2 hb2 hx2 e0 e1 e2 e3 e4 e5 e6 e7 e8 e9 e10 e11 e12 e13
        rcases d : Ty.held x with _ | _
        · have d' : Ty.drp x = true := by simp [Ty.drp, d]
          rw [d']
          clear hd2
          go_wp2
          go_roundw
          case rel => exact ⟨j + 1, by rw [HFS.out, d]; rfl, by go_num, by omega, by rw [HFS.out, d]; simp; omega, by rw [HFS.out, d]; exact HD2.out.skip, HE2.out⟩
          case measure => simp [intOf]; omega
        · have d' : Ty.drp x = false := by simp [Ty.drp, d]
          rw [d']
          have hlK : (K.length : Int) < l.length := by omega
          have hth : w2.there g (K.length * 14) (Ty.scA x).size := fun q hq => hd2.there (o := K.length * 14 + q) (by have : q < 14 := hq; omega)
          have hpp : ay.add (K.length * 14) = ⟨g, K.length * 14, none⟩ := by rw [HAY.out, Addr.add_lit, Nat.zero_add]
          have HTH := Lib.hid hth
          have HIZ : (Tryz.prog.info? 44).map (·.size) = some (Ty.scA x).size := by kernel_rfl
          have HPP := Lib.hid hpp
          clear hd2 hth hpp
          go_upto_region 9 with fail
          go_wp2_with ((with_reducible refine Kit.wpList_store_at (ty := 44) (x := .tmp 33) (y := .tmp 32) (p := ay.add (K.length * 14)) (b := g) (o := K.length * 14) (cells := Ty.scA x) ?_ ?_ ?_ HPP.out ?_ HTH.out HIZ (Ty.scA_one x) ?_); rfl; rfl; rfl; rfl)
          go_roundw
          case rel => exact ⟨j + 1, by rw [HFS.out, d]; simp, by go_num, by omega, by rw [HFS.out, d]; simp; omega, by rw [HFS.out, d]; exact HD2.out.put hKj hlt, (show Kit.Exc (fun k => k = g) w _ from Kit.Exc.setCells (S := fun k => k = g) rfl _ _ HE2.out)⟩
          case measure => simp [intOf]; omega
      · obtain rfl : j = l.length := by omega
        rw [List.take_length] at hKK
        have hpp : ay.add (K.length * 14) = ⟨g, K.length * 14, none⟩ := by rw [HAY.out, Addr.add_lit, Nat.zero_add]
        have hlK : (K.length : Int) < l.length := by omega
        have hlc : l.length ≤ c := by obtain ⟨_, _, _, h, _⟩ := HD.out; exact h
        have hc1 : ¬ K.length = c := by omega
        have hc2 : ¬ c = K.length := by omega
        have hc3 : ¬ c - K.length = 0 := by omega
        have hzv : ∀ w, (zeroValue 44).run Tryz.prog w = .ok (Ex.sgV default) w := Tryz.zeroValue44
        have hcl : ∀ ty, (Builtin.clear_ #[30] ty #[.slice (some (ay.add (K.length * 14))) (l.length - K.length) (c - K.length)]).run Tryz.prog wr = .ok (.tuple #[]) (wr.setCells g (K.length * 14) (Builtin.zeroCells (Ex.sgV default).cells (l.length - K.length)).toList) := by
          intro ty
          rw [hpp]
          exact Kit.run_clear_sliceK wr _ _ ty _ Tryz.underlying30 hzv (by show 0 < 14; omega) (by simp [Value.cells, Value.oneCell']) g _ _ _ (by omega) (fun q hq => (HD.out.there (o := K.length * 14 + q) (by have hq' : q < (l.length - K.length) * 14 := hq; omega)).1) (fun q hq => (HD.out.there (o := K.length * 14 + q) (by have hq' : q < (l.length - K.length) * 14 := hq; omega)).2)
        generalize (Builtin.zeroCells (Ex.sgV default).cells (l.length - K.length)).toList = Z at hcl
        have HKK := Lib.hid hKK
        clear hpp hzv hKK
        go_wp2
        go_ret
        refine ⟨_, rfl, ?_, fun k hk => hk, ?_⟩
        · have hown := (HD.out.clear (K.length * 14) Z (Nat.le_refl _)).own hsg hcm (by omega)
          rw [HKK.out]
          simpa [HAY.out] using hown
        · exact (show Kit.Exc (fun k => k = g) w _ from Kit.Exc.setCells (S := fun k => k = g) rfl _ _ HE.out).mono (fun k _ hk => by subst hk; simp [Value.ownBlock, HAY.out])
end Go.Proofs.YtggfeblfhabmkaaGreatDoor
