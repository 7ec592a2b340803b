/- Walks of what the laws of layer 45 ask: lists compared, sizes, near. -/
import Derived.Test.YtdaedjmkolcliaaIdY
namespace Go.Proofs.Ytdaedjmkolcliaa
set_option linter.unusedVariables false
set_option linter.unusedSimpArgs false
open Go.RowKit Go.Shelf

namespace Id
theorem sl_congr {w : World} {a : Option Addr} {n k : Nat} {f f' : Nat → Nat → Value} (h : Tp.Sl w a n k f) (e : ∀ i j, i < n → j < k → f i j = f' i j) : Tp.Sl w a n k f' := by
  rcases h with h | ⟨ad, h1, h2, h3⟩
  · exact .inl h
  · exact .inr ⟨ad, h1, h2, fun i j hi hj => by rw [← e i j hi hj]; exact h3 i j hi hj⟩
end Id
set_option maxHeartbeats 1000000 in
theorem ja_sameints (l m : List Int) (aA : Option Addr) (cA : Nat) (aB : Option Addr) (cB : Nat) (w : World) (sA : Tp.Sl w aA l.length 1 (Id.ic l)) (sB : Tp.Sl w aB m.length 1 (Id.ic m)) (lA : l.length ≤ 1000000) (lB : m.length ≤ 1000000) :
    Calls Try.prog 16 #[.slice aA l.length cA, .slice aB m.length cB] w fun e w' => e = .returned (.bool (decide (l = m))) ∧ Below w.heap.size w w' := by
  have SA := Lib.hid sA
  have SB := Lib.hid sB
  clear sA sB
  by_cases hn : l.length = m.length
  case neg =>
    have hd : ((l.length : Int) != (m.length : Int)) = true := by simp; omega
    have HR := Lib.hid (show decide (l = m) = false from decide_eq_false (fun h => hn (by rw [h])))
    clear hn
    go_enter Try.func16, Try.ntmps16
    go_wp2
    go_ret
    exact ⟨by rw [HR.out]; rfl, Below.refl _ _⟩
  have hd : ((l.length : Int) != (m.length : Int)) = false := by simp; omega
  have HN := Lib.hid hn
  have hle : l.length ≤ m.length := by omega
  clear hn
  go_enter Try.func16, Try.ntmps16
  go_wp2_with fail
  go_loopw [5] (fun v3 wr => ∃ k : Nat, v3 = .int .i64 k ∧ k ≤ l.length ∧ Hid (decide (l = m) = decide (l.drop k = m.drop k)) ∧ Hid (Below w.heap.size w wr))
    (fun v3 _ => l.length - (intOf v3).toNat)
  case atStart => exact ⟨0, rfl, Nat.zero_le _, Lib.hid (by simp), Below.refl _ _⟩
  case round =>
    obtain ⟨k, rfl, hk, HI, HB⟩ := hrel
    by_cases hlt : k < l.length
    · obtain ⟨ad, rfl, had, _⟩ := SA.out.at hlt
      have hlt2 : k < m.length := by omega
      obtain ⟨bd, rfl, hbd, _⟩ := SB.out.at hlt2
      have e0 := (SA.out.kept HB.out (Nat.le_refl _)).head hlt (by omega)
      have e1 := (SB.out.kept HB.out (Nat.le_refl _)).head hlt2 (by omega)
      rw [Nat.mul_one] at e0 e1
      have hI := HI.out
      rw [Tp.drop_cons l 0 k hlt, Tp.drop_cons m 0 k hlt2] at hI
      simp only [Id.ic] at e0 e1
      generalize l.getD k 0 = x at e0 hI
      generalize m.getD k 0 = y at e1 hI
      have HI2 := Lib.hid (show decide (l = m) = decide (x :: l.drop (k + 1) = y :: m.drop (k + 1)) from hI)
      clear hI HI
      have hz := HB.out.size
      have k0 : ∀ z : Kit.Wd wr, z.val.cell? (ad.add k) = some (.int .i64 x) := fun z => z.cell e0 (by rw [Tp.add_block]; omega)
      have k1 : ∀ z : Kit.Wd wr, z.val.cell? (bd.add k) = some (.int .i64 y) := fun z => z.cell e1 (by rw [Tp.add_block]; omega)
      clear e0 e1
      rcases hxy : (x != y) with _ | _
      · obtain rfl : x = y := by simpa using hxy
        have HI3 := Lib.hid (show decide (l = m) = decide (l.drop (k + 1) = m.drop (k + 1)) by rw [HI2.out]; simp)
        clear HI2
        go_wp2_with fail
        (refine Kit.wp_region_cls (by kernel_rfl) (by kernel_rfl) ?_; (repeat (go_big_quiet_step (fail))); refine wpQuiet_nil ?_; intro z)
        have HZ := Lib.hid (HB.out.trans (z.below.mono HB.out.size))
        clear k0 k1
        go_wp2_with fail
        go_roundw
        case rel => exact ⟨k + 1, by go_num, by omega, HI3.out, HZ.out⟩
        case measure => simp [intOf]; omega
      · have HI3 := Lib.hid (show decide (l = m) = false by rw [HI2.out]; exact decide_eq_false (fun h => by have := (List.cons.inj h).1; simp [this] at hxy))
        clear HI2
        go_wp2_with fail
        (refine Kit.wp_region_cls (by kernel_rfl) (by kernel_rfl) ?_; (repeat (go_big_quiet_step (fail))); refine wpQuiet_nil ?_; intro z)
        have HZ := Lib.hid (HB.out.trans (z.below.mono HB.out.size))
        clear k0 k1
        go_wp2
        go_ret
        exact ⟨by rw [HI3.out]; rfl, HZ.out⟩
    · obtain rfl : k = l.length := by omega
      have HI3 := Lib.hid (show decide (l = m) = true by rw [HI.out, List.drop_length, List.drop_of_length_le (by have := HN.out; omega)]; simp)
      go_wp2
      go_ret
      exact ⟨by rw [HI3.out]; rfl, HB.out⟩
set_option maxHeartbeats 1000000 in
theorem ja_samebools (l m : List Bool) (aA : Option Addr) (cA : Nat) (aB : Option Addr) (cB : Nat) (w : World) (sA : Tp.Sl w aA l.length 1 (Id.bc l)) (sB : Tp.Sl w aB m.length 1 (Id.bc m)) (lA : l.length ≤ 1000000) (lB : m.length ≤ 1000000) :
    Calls Try.prog 24 #[.slice aA l.length cA, .slice aB m.length cB] w fun e w' => e = .returned (.bool (decide (l = m))) ∧ Below w.heap.size w w' := by
  have SA := Lib.hid sA
  have SB := Lib.hid sB
  clear sA sB
  by_cases hn : l.length = m.length
  case neg =>
    have hd : ((l.length : Int) != (m.length : Int)) = true := by simp; omega
    have HR := Lib.hid (show decide (l = m) = false from decide_eq_false (fun h => hn (by rw [h])))
    clear hn
    go_enter Try.func24, Try.ntmps24
    go_wp2
    go_ret
    exact ⟨by rw [HR.out]; rfl, Below.refl _ _⟩
  have hd : ((l.length : Int) != (m.length : Int)) = false := by simp; omega
  have HN := Lib.hid hn
  have hle : l.length ≤ m.length := by omega
  clear hn
  go_enter Try.func24, Try.ntmps24
  go_wp2_with fail
  go_loopw [5] (fun v3 wr => ∃ k : Nat, v3 = .int .i64 k ∧ k ≤ l.length ∧ Hid (decide (l = m) = decide (l.drop k = m.drop k)) ∧ Hid (Below w.heap.size w wr))
    (fun v3 _ => l.length - (intOf v3).toNat)
  case atStart => exact ⟨0, rfl, Nat.zero_le _, Lib.hid (by simp), Below.refl _ _⟩
  case round =>
    obtain ⟨k, rfl, hk, HI, HB⟩ := hrel
    by_cases hlt : k < l.length
    · obtain ⟨ad, rfl, had, _⟩ := SA.out.at hlt
      have hlt2 : k < m.length := by omega
      obtain ⟨bd, rfl, hbd, _⟩ := SB.out.at hlt2
      have e0 := (SA.out.kept HB.out (Nat.le_refl _)).head hlt (by omega)
      have e1 := (SB.out.kept HB.out (Nat.le_refl _)).head hlt2 (by omega)
      rw [Nat.mul_one] at e0 e1
      have hI := HI.out
      rw [Tp.drop_cons l false k hlt, Tp.drop_cons m false k hlt2] at hI
      simp only [Id.bc] at e0 e1
      generalize l.getD k false = x at e0 hI
      generalize m.getD k false = y at e1 hI
      have HI2 := Lib.hid (show decide (l = m) = decide (x :: l.drop (k + 1) = y :: m.drop (k + 1)) from hI)
      clear hI HI
      have hz := HB.out.size
      have k0 : ∀ z : Kit.Wd wr, z.val.cell? (ad.add k) = some (.bool x) := fun z => z.cell e0 (by rw [Tp.add_block]; omega)
      have k1 : ∀ z : Kit.Wd wr, z.val.cell? (bd.add k) = some (.bool y) := fun z => z.cell e1 (by rw [Tp.add_block]; omega)
      clear e0 e1
      rcases hxy : (x != y) with _ | _
      · obtain rfl : x = y := by simpa using hxy
        have HI3 := Lib.hid (show decide (l = m) = decide (l.drop (k + 1) = m.drop (k + 1)) by rw [HI2.out]; simp)
        clear HI2
        go_wp2_with fail
        (refine Kit.wp_region_cls (by kernel_rfl) (by kernel_rfl) ?_; (repeat (go_big_quiet_step (fail))); refine wpQuiet_nil ?_; intro z)
        have HZ := Lib.hid (HB.out.trans (z.below.mono HB.out.size))
        clear k0 k1
        go_wp2_with fail
        go_roundw
        case rel => exact ⟨k + 1, by go_num, by omega, HI3.out, HZ.out⟩
        case measure => simp [intOf]; omega
      · have HI3 := Lib.hid (show decide (l = m) = false by rw [HI2.out]; exact decide_eq_false (fun h => by have := (List.cons.inj h).1; simp [this] at hxy))
        clear HI2
        have hb2 : (!(x == y)) = true := by cases x <;> cases y <;> simp_all
        go_wp2_with fail
        (refine Kit.wp_region_cls (by kernel_rfl) (by kernel_rfl) ?_; (repeat (go_big_quiet_step (fail))); refine wpQuiet_nil ?_; intro z)
        have HZ := Lib.hid (HB.out.trans (z.below.mono HB.out.size))
        clear k0 k1
        go_wp2
        go_ret
        exact ⟨by rw [HI3.out]; rfl, HZ.out⟩
    · obtain rfl : k = l.length := by omega
      have HI3 := Lib.hid (show decide (l = m) = true by rw [HI.out, List.drop_length, List.drop_of_length_le (by have := HN.out; omega)]; simp)
      go_wp2
      go_ret
      exact ⟨by rw [HI3.out]; rfl, HB.out⟩
theorem Id.essl_cons (x : Id.Sg) (l : List Id.Sg) : ((Id.essl (x :: l)).length : Int) = (if (x.mark == 1) = true then 1 else 0) + ((Id.essl l).length : Int) := by
  unfold Id.essl
  rw [List.filter_cons]
  by_cases h : x.mark = 1
  · simp [h]; omega
  · simp [h]
set_option maxHeartbeats 1000000 in
theorem ja_many (a : Option Addr) (l : List Id.Sg) (c : Nat) (w : World) (hS : Tp.Sl w a l.length 14 (Id.sgc l)) (hl : l.length ≤ 4611686018427387904) : Calls Try.prog 29 #[.slice a l.length c] w fun e w' => e = .returned (.int .i64 ((Id.essl l).length : Nat)) ∧ w = w' := by
  have HS := Lib.hid hS
  clear hS
  have hle : (Id.essl l).length ≤ l.length := List.length_filter_le _ _
  go_enter Try.func29, Try.ntmps29
  go_wp2_with fail
  go_loop [3, 4] (fun v3 v4 => ∃ k m : Nat, v4 = .int .i64 k ∧ v3 = .int .i64 m ∧ k ≤ l.length ∧ m ≤ k ∧ Hid (((Id.essl l).length : Int) = m + ((Id.essl (l.drop k)).length : Int)))
    (fun _ v4 => l.length - (intOf v4).toNat)
  case atStart => exact ⟨0, 0, rfl, rfl, Nat.zero_le _, Nat.le_refl _, by simp [Hid]⟩
  case round =>
    obtain ⟨k, m, rfl, rfl, hk, hmk, HE⟩ := hrel
    by_cases hlt : k < l.length
    · obtain ⟨ad, rfl, had, _⟩ := HS.out.at hlt
      have e3 := HS.out.field hlt (j := 3) (by omega) (by omega)
      have hE := HE.out
      rw [Tp.drop_cons l default k hlt, Id.essl_cons] at hE
      simp only [Id.sgc, Id.sgF] at e3
      generalize l.getD k default = x at e3 hE
      have HE2 := Lib.hid (show ((Id.essl l).length : Int) = m + ((if (x.mark == 1) = true then 1 else 0) + ((Id.essl (l.drop (k + 1))).length : Int)) from hE)
      clear hE HE
      rcases hx : (x.mark == 1) with _ | _
      · rw [hx] at HE2
        go_wp2_with fail
        go_round
        case rel => exact ⟨k + 1, m, by go_num, rfl, by omega, by omega, Lib.hid (by have := HE2.out; simp at this; omega)⟩
        case measure => simp [intOf]; omega
      · rw [hx] at HE2
        go_wp2_with fail
        go_round
        case rel => exact ⟨k + 1, m + 1, by go_num, by go_num, by omega, by omega, Lib.hid (by have := HE2.out; simp at this; omega)⟩
        case measure => simp [intOf]; omega
    · obtain rfl : k = l.length := by omega
      have HE2 := Lib.hid (show ((Id.essl l).length : Int) = m by rw [HE.out, List.drop_length]; simp [Id.essl])
      go_wp2
      go_ret
      exact ⟨by rw [HE2.out]; rfl, rfl⟩
/-- Are there few signs? -/
def Id.fewS (l : List Id.Sg) : Bool := decide (l.length ≤ 100) && (decide ((Id.essl l).length ≤ 20) || decide (64 < (Id.essl l).length))
theorem ja_fews (a : Option Addr) (l : List Id.Sg) (c : Nat) (w : World) (hS : Tp.Sl w a l.length 14 (Id.sgc l)) (hl : l.length ≤ 4611686018427387904) : Calls Try.prog 11 #[.slice a l.length c] w fun e w' => e = .returned (.bool (Id.fewS l)) ∧ w = w' := by
  have HM := Lib.hid (ja_many a l c w hS hl)
  have HF := Lib.hid (show Id.fewS l = (decide (l.length ≤ 100) && (decide ((Id.essl l).length ≤ 20) || decide (64 < (Id.essl l).length))) from rfl)
  have hle : (Id.essl l).length ≤ l.length := List.length_filter_le _ _
  clear hS
  generalize (Id.essl l).length = m at HM HF hle
  by_cases h1 : 100 < l.length
  · have HR := Lib.hid (show Id.fewS l = false by rw [HF.out]; simp; omega)
    go_enter Try.func11, Try.ntmps11
    go_wp2
    go_ret
    exact ⟨by rw [HR.out]; rfl, rfl⟩
  have hr : ∀ b, (decide ((m : Int) ≤ 20) || decide (64 < (m : Int))) = b → Id.fewS l = b := fun b hb => by
    rw [HF.out, ← hb]
    have e1 : decide (l.length ≤ 100) = true := by simp; omega
    have e2 : decide ((m : Int) ≤ 20) = decide (m ≤ 20) := decide_eq_decide.2 (by omega)
    have e3 : decide (64 < (m : Int)) = decide (64 < m) := decide_eq_decide.2 (by omega)
    rw [e1, e2, e3]; rfl
  have HR := Lib.hid hr
  clear hr
  rcases c1 : decide ((m : Int) ≤ 20) with _ | _ <;> rcases c2 : decide (64 < (m : Int)) with _ | _
  all_goals
    go_enter Try.func11, Try.ntmps11
    go_wp2_with (first | (refine HM.out.mono ?_; rintro _ w' ⟨rfl, rfl⟩))
    go_ret
    exact ⟨by rw [HR.out _ (by rw [c1, c2])]; rfl, rfl⟩
/-- Are there few editions? -/
def Id.few (L : List (List Id.Sg)) : Bool := decide (L.length ≤ 8 ∨ 16 < L.length ∧ L.length ≤ 20) && L.all Id.fewS
set_option maxHeartbeats 1000000 in
theorem ja_few (a : Option Addr) (L : List (List Id.Sg)) (c : Nat) (w : World) (hS : Id.Sls w a 14 Id.sgc L) (hl : L.length ≤ 4611686018427387904) (hl2 : ∀ x ∈ L, x.length ≤ 4611686018427387904) : Calls Try.prog 17 #[.slice a L.length c] w fun e w' => e = .returned (.bool (Id.few L)) ∧ w = w' := by
  have HS := Lib.hid hS
  have HL2 := Lib.hid hl2
  clear hS hl2
  have HF := Lib.hid (show Id.few L = (decide (L.length ≤ 8 ∨ 16 < L.length ∧ L.length ≤ 20) && L.all Id.fewS) from rfl)
  by_cases h1 : L.length ≤ 8 ∨ 16 < L.length ∧ L.length ≤ 20
  case neg =>
    have HR := Lib.hid (show Id.few L = false by rw [HF.out, decide_eq_false h1]; rfl)
    have d1 : decide (8 < (L.length : Int)) = true := by simp; omega
    rcases c2 : decide ((L.length : Int) ≤ 16) with _ | _
    · have d3 : decide (20 < (L.length : Int)) = true := by simp at c2 ⊢; omega
      clear h1
      go_enter Try.func17, Try.ntmps17
      go_wp2
      go_ret
      exact ⟨by rw [HR.out]; rfl, rfl⟩
    · clear h1
      go_enter Try.func17, Try.ntmps17
      go_wp2
      go_ret
      exact ⟨by rw [HR.out]; rfl, rfl⟩
  have HR := Lib.hid (show Id.few L = L.all Id.fewS by rw [HF.out, decide_eq_true h1]; rfl)
  have d3 : decide (20 < (L.length : Int)) = false := by simp; omega
  have d1 : (decide (8 < (L.length : Int)) && decide ((L.length : Int) ≤ 16)) = false := by simp; omega
  have h8 : L.length ≤ 8 ∨ 16 < L.length := by omega
  clear h1
  rcases h8 with h8 | h8
  all_goals
    go_enter Try.func17, Try.ntmps17
    go_wp2_with fail
    go_loop [3] (fun v3 => ∃ k : Nat, v3 = .int .i64 k ∧ k ≤ L.length ∧ Hid (L.all Id.fewS = (L.drop k).all Id.fewS))
      (fun v3 => L.length - (intOf v3).toNat)
    case atStart => exact ⟨0, rfl, Nat.zero_le _, rfl⟩
    case round =>
      obtain ⟨k, rfl, hk, HE⟩ := hrel
      by_cases hlt : k < L.length
      · obtain ⟨ad, rfl, had, ai, ci, e0, hsl⟩ := HS.out.at hlt
        have hE := HE.out
        rw [Tp.drop_cons L [] k hlt] at hE
        have hm := HL2.out (L.getD k []) (by rw [List.getD_eq_getElem?_getD, List.getElem?_eq_getElem hlt]; exact List.getElem_mem hlt)
        have HFS := Lib.hid (ja_fews ai (L.getD k []) ci w hsl hm)
        clear hsl hm
        generalize L.getD k [] = x at e0 hE HFS
        rcases hx : Id.fewS x with _ | _
        · have HE2 := Lib.hid (show L.all Id.fewS = false by rw [hE]; simp [hx])
          rw [hx] at HFS
          clear hE hx
          go_wp2_with (first | (refine HFS.out.mono ?_; rintro _ w' ⟨rfl, rfl⟩))
          go_ret
          exact ⟨by rw [HR.out, HE2.out]; rfl, rfl⟩
        · have HE2 := Lib.hid (show L.all Id.fewS = (L.drop (k + 1)).all Id.fewS by rw [hE]; simp [hx])
          rw [hx] at HFS
          clear hE hx
          go_wp2_with (first | (refine HFS.out.mono ?_; rintro _ w' ⟨rfl, rfl⟩))
          go_round
          case rel => exact ⟨k + 1, by go_num, by omega, HE2.out⟩
          case measure => simp [intOf]; omega
      · obtain rfl : k = L.length := by omega
        have HE2 := Lib.hid (show L.all Id.fewS = true by rw [HE.out, List.drop_length]; rfl)
        go_wp2
        go_ret
        exact ⟨by rw [HR.out, HE2.out]; rfl, rfl⟩
theorem ja_near (a b : List Id.Sg) (aA : Option Addr) (cA : Nat) (aB : Option Addr) (cB : Nat) (lim : Int) (w : World) (sa : Tp.Sl w aA a.length 14 (Id.sgc a)) (sb : Tp.Sl w aB b.length 14 (Id.sgc b)) (la : a.length ≤ 4611686018427387904) (lb : b.length ≤ 4611686018427387904) :
    Calls Try.prog 25 #[.slice aA a.length cA, .slice aB b.length cB, .int .i64 lim] w fun e w' => e = .returned (.bool (Id.nearB a b lim)) ∧ Below w.heap.size w w' := by
  have HN := Lib.hid (id_near a b aA cA aB cB lim w sa sb la lb)
  clear sa sb
  have hb : Id.nearB a b lim = true → Id.eE lim [a, b] = 0 := fun h => by simp [Id.nearB] at h; exact h.1
  rcases h1 : Id.nearB a b lim with _ | _
  · rw [h1] at HN
    clear hb h1
    generalize Id.eE lim [a, b] = q at HN
    rcases h2 : (q == 0) with _ | _
    all_goals
      go_enter Try.func25, Try.ntmps25
      go_wp2_with fail
      refine HN.out.mono ?_
      rintro _ w1 ⟨rfl, hb⟩
      have HB := Lib.hid hb; clear hb
      go_wp2
      go_ret
      exact ⟨rfl, HB.out⟩
  · rw [h1, hb h1] at HN
    clear hb h1
    go_enter Try.func25, Try.ntmps25
    go_wp2_with fail
    refine HN.out.mono ?_
    rintro _ w1 ⟨rfl, hb⟩
    have HB := Lib.hid hb; clear hb
    go_wp2
    go_ret
    exact ⟨rfl, HB.out⟩
end Go.Proofs.Ytdaedjmkolcliaa
