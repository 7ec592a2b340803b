/- Walks: the law Weaker. -/
import Derived.Test.YtbhgogiaaljclaaGreatDoorUxC
import Derived.Test.YtbhgogiaaljclaaGreatDoorUvC
namespace Go.Proofs.YtbhgogiaaljclaaGreatDoor
set_option linter.unusedVariables false
set_option linter.unusedSimpArgs false
open Go.RowKit Go.Shelf
/-- The append of one element, just laid, to a slice of one's own that lies from B on. -/
theorem Kit.wpList_appB {P : Program} {t e : TypeId} {z : Value} {size bytes : Nat} (E : Kit.El P t e z size bytes) {B : Nat} (w : World) {ops : Array Oper} {rest : List Oper} {o : Oper} {a : Act} {Q : Exit → Act → World → Prop} (hgd : o.guard = none) (s x : Operand)
    (ho : o.op = .call { callee := .builtin .append, args := #[s, x], argTypes := #[t, t] }) (v : Value) (n : Nat) (xs : List Value) (h : w.ownsRow B e size v n xs) (hB : B ≤ w.heap.size) (hs : a.eval s = v) (hn : n ≤ 1000000000)
    (ad : Addr) (c : Nat) (news : List Value) (hx : a.eval x = .slice (some ad) 1 c) (hl : news.length = size) (hnews : ∀ j u, news[j]? = some u → w.cell? (ad.add j) = some u) (h1 : ∀ u ∈ news, u.oneCell' = true)
    (cont : ∀ v' w', w'.ownsRow B e size v' (n + 1) (xs ++ news) → w.grownBy w' v.ownBlock → wpList P ops Q rest (a.put o.dst v') w') : wpList P ops Q (o :: rest) a w := by
  obtain ⟨i, hi, hz, hsz, hby⟩ := info_parts E.info
  have hb : (n + 1) * bytes ≤ 140737488355328 := Nat.le_trans (Nat.mul_le_mul (show n + 1 ≤ 1000000001 by omega) E.small) (by omega)
  exact Kit.wpList_append_own' w hgd s x t ho B e i z size bytes E.under hi hz hsz hby E.cells E.pos v n xs hs h ad 1 c news hx (by omega) hnews h1 (by unfold maxLen; omega) hb hB
    fun v' w' ho hg _ _ => cont v' w' ho hg
namespace Un
/-- The cells of a sign; of signs in a row. -/
def sgL (s : Ex.Sg) : List Value := [.int .i64 s.id, .int .i64 s.role, .int .i64 s.bar, .int .i64 s.mark, .int .i64 s.kind, .int .i64 s.side, .int .i64 s.dir, .int .i64 s.level, .int .i64 s.size, .int .i64 s.wth, .int .i64 s.fn, .int .i64 s.fd, .int .i64 s.tn, .int .i64 s.td]
def sgR (l : List Ex.Sg) : List Value := l.flatMap sgL
theorem sgR_snoc (l : List Ex.Sg) (s : Ex.Sg) : sgR (l ++ [s]) = sgR l ++ sgL s := by simp [sgR]
theorem sgR_len (l : List Ex.Sg) : (sgR l).length = l.length * 14 := Kit.flat_len sgL 14 (fun _ => rfl) l
theorem sgR_at : ∀ (l : List Ex.Sg) (i j : Nat), i < l.length → j < 14 → (sgR l)[i * 14 + j]? = some (Ex.sgc l i j)
  | [], i, _, h, _ => absurd h (Nat.not_lt_zero _)
  | s :: l, i, j, h, hj => by
    have h14 : (sgL s).length = 14 := rfl
    rw [sgR, List.flatMap_cons]
    cases i with
    | zero =>
      rw [List.getElem?_append_left (by rw [h14]; omega), Nat.zero_mul, Nat.zero_add]
      rcases (by omega : j = 0 ∨ j = 1 ∨ j = 2 ∨ j = 3 ∨ j = 4 ∨ j = 5 ∨ j = 6 ∨ j = 7 ∨ j = 8 ∨ j = 9 ∨ j = 10 ∨ j = 11 ∨ j = 12 ∨ j = 13) with rfl | rfl | rfl | rfl | rfl | rfl | rfl | rfl | rfl | rfl | rfl | rfl | rfl | rfl <;> rfl
    | succ i =>
      rw [List.getElem?_append_right (by rw [h14]; omega), h14, show (i + 1) * 14 + j - 14 = i * 14 + j by omega]
      have := sgR_at l i j (by simpa using h) hj
      rw [sgR] at this
      rw [this]
      rfl
theorem sgL_one (s : Ex.Sg) : ∀ u ∈ sgL s, u.oneCell' = true := by simp [sgL, Value.oneCell']
theorem sgInfo : (Tryz.prog.info? 52).map (fun i => (i.zero, i.size, i.bytes)) = some (some (Ex.sgV default), 14, 112) := by kernel_rfl
theorem elS : Kit.El Tryz.prog 30 52 (Ex.sgV default) 14 112 := ⟨Tryz.underlying30, sgInfo, rfl, by omega, by omega⟩
theorem take_mine (x : Ex.Wk) (bar role : Int) (i : Nat) (h : i < x.sg.length) (k : Ex.Sg) (hk : x.sg.getD i default = k) : (x.sg.take (i + 1)).filter (mine bar role) = (x.sg.take i).filter (mine bar role) ++ (if mine bar role k = true then [k] else []) := by
  rw [List.take_add_one, List.filter_append]
  rw [List.getD_eq_getElem?_getD, List.getElem?_eq_getElem h] at hk
  rw [List.getElem?_eq_getElem h]
  simp at hk
  simp [List.filter, hk]
  split <;> simp_all
theorem own_shape {w : World} {base : Nat} {e : TypeId} {size : Nat} {v : Value} {n : Nat} {xs : List Value} (h : w.ownsRow base e size v n xs) : ∃ a c, v = .slice a n c := by
  rcases h.2 with ⟨rfl, hn⟩ | ⟨g, cap, cur, rfl, _⟩
  · exact ⟨none, 0, by rw [hn]⟩
  · exact ⟨_, _, rfl⟩
theorem own_slv {w : World} {base : Nat} {t : TypeId} {v : Value} {l : List Ex.Sg} (h : w.ownsRow base t 14 v l.length (sgR l)) : ∃ a c, v = .slice a l.length c ∧ Tp.Sl w a l.length 14 (Ex.sgc l) := Kit.own_sl (f := Ex.sgc l) h (fun i j hi hj => sgR_at l i j hi hj)
theorem range_alloc1 (w : World) (o : Obj) (cs : Array Value) (t : TypeId) : ((w.alloc o).alloc (.cells cs t)).rangeAt (w.heap.size + 1) 0 cs.toList := by
  have := Kit.range_alloc (w.alloc o) cs t
  rwa [World.size_alloc] at this
/-- What stands of the law's arguments. -/
structure WF (w : World) (x : Ex.Wk) (p : Ex.Wa) (B : Bd) (k lb n : Int) (W : World) : Prop where
  bel : Below w.heap.size w W
  wk : ∀ j, W.cell? ⟨w.heap.size, j, none⟩ = (wkC x p)[j]?
  row : W.rangeAt (w.heap.size + 1) 0 (bdA B).toList
  c0 : W.cell? ⟨w.heap.size + 1 + 1, 0, none⟩ = some (.int .i64 k)
  c1 : W.cell? ⟨w.heap.size + 1 + 1, 1, none⟩ = some (.int .i64 lb)
  c2 : W.cell? ⟨w.heap.size + 1 + 1, 2, none⟩ = some (.int .i64 n)
  z : w.heap.size + 1 + 1 < W.heap.size
theorem WF.then {w W W' : World} {x : Ex.Wk} {p : Ex.Wa} {B : Bd} {k lb n : Int} (h : WF w x p B k lb n W) (hb : Below W.heap.size W W') : WF w x p B k lb n W' := by
  have hz := h.z
  exact ⟨h.bel.trans (hb.mono h.bel.size), fun j => (World.cell?_of_block (hb.block w.heap.size (by omega))).trans (h.wk j), Kit.range_kept h.row hb (by omega), (hb.cell (p := ⟨w.heap.size + 1 + 1, 0, none⟩) hz).trans h.c0, (hb.cell (p := ⟨w.heap.size + 1 + 1, 1, none⟩) hz).trans h.c1, (hb.cell (p := ⟨w.heap.size + 1 + 1, 2, none⟩) hz).trans h.c2, Nat.lt_of_lt_of_le hz hb.size⟩
theorem chkB_one (B : Bd) : chkB [B] = 0 ↔ bok B = true := by
  unfold chkB
  cases h : bok B <;> simp [h]
theorem ableE_zero {x : Ex.Wk} {B : Bd} {role bar : Int} : ableE x B role bar = 0 ↔ Ex.chk x = 0 ∧ within x role bar = true ∧ bok B = true := by
  unfold ableE firstE firstE firstE firstE
  rw [← chkB_one B]
  by_cases h1 : Ex.chk x = 0
  · rw [if_pos h1]
    cases h2 : within x role bar
    · simp
    · by_cases h3 : chkB [B] = 0 <;> simp [h3, h1]
  · rw [if_neg h1]; simp [h1]
theorem low_Le {B : Bd} {k lb n : Int} (hv : vld k lb n = true) : Le (low B k lb n) B :=
  ⟨low_le hv 4 (by omega) (by omega), low_le hv 5 (by omega) (by omega), low_le hv 12 (by omega) (by omega), low_le hv 13 (by omega) (by omega), low_le hv 14 (by omega) (by omega)⟩
theorem low_name (B : Bd) (k lb n : Int) : (low B k lb n).name = B.name := setB_name _ _ _
end Un
set_option maxRecDepth 100000 in
set_option maxHeartbeats 8000000 in
theorem lw_weaker (x : Ex.Wk) (p : Ex.Wa) (w : World) (hL : Ex.Laid w) (hF : Uo.Flat w) (ha : Ex.At w x p) (B : Un.Bd) (hn : B.name.size ≤ 9223372036854775807) (k lb n role bar : Int) :
    Calls Tryz.prog 8 #[Ex.workV x p, .agg (Un.bdA B), .agg #[.int .i64 k, .int .i64 lb, .int .i64 n], .int .i64 role, .int .i64 bar] w fun e w' => e = .returned (.bool true) ∧ Below w.heap.size w w' := by
  obtain ⟨aR, cR, aT, cT, aP, cP, aS, cS, aG, cG⟩ := p
  have HI := Lib.hid (show (Tryz.prog.info? 36).map (·.size) = some (Un.bdA B).toList.length by kernel_rfl)
  have HS := Lib.hid (fun W (hb : Below w.heap.size w W) => lw_sane W (hL.kept hb (Nat.le_refl _)) (hF.kept hb (Nat.le_refl _)))
  have HFW := Lib.hid (fun W => lw_few x ⟨aR, cR, aT, cT, aP, cP, aS, cS, aG, cG⟩ 0 0 0 0 none none W)
  have HAB := Lib.hid (fun W (hb : Below w.heap.size w W) => un_able x ⟨aR, cR, aT, cT, aP, cP, aS, cS, aG, cG⟩ W (hL.kept hb (Nat.le_refl _)) (hF.kept hb (Nat.le_refl _)) (ha.kept hb (Nat.le_refl _)) B hn role bar)
  unfold Un.Able at HAB
  dsimp only [Ex.workV, Ex.wv] at HFW HAB
  have HM := Lib.hid (fun W => bd_meet B k lb n W hn)
  have HL := Lib.hid hL
  have HF := Lib.hid hF
  have HA := Lib.hid ha
  clear hL hF ha
  go_enter Tryz.func8, Tryz.ntmps8
  go_upto_region 1 with fail
  refine Kit.wp_name ?_
  intro W1 hW1
  have HW1 := Lib.hid (show Un.WF w x ⟨aR, cR, aT, cT, aP, cP, aS, cS, aG, cG⟩ B k lb n W1 by
    rw [hW1]
    refine ⟨by (repeat' first | (with_reducible first | exact Below.refl _ _ | assumption | refine Kit.below_drewN ?_ _ | refine Below.drew ?_ | refine Below.alloc ?_ ?_ _ | refine Below.setCell ?_ ?_ _ | exact Nat.le_refl _) | omega | (simp; omega) | (simp; done) | (apply Below.size; assumption)), fun j => ?_, Kit.range_kept (Un.range_alloc1 w (.cells (Un.wkC x ⟨aR, cR, aT, cT, aP, cP, aS, cS, aG, cG⟩) 32) (Un.bdA B) 36) ((Below.refl _ _).alloc (by simp) _) (by simp), by simp [go_sem], by simp [go_sem], by simp [go_sem], by simp⟩
    simp [go_sem])
  clear hW1
  go_wp2_with fail
  refine (HS.out _ HW1.out.bel).mono ?_
  rintro _ w2 ⟨rfl, hb2⟩
  have HW2 := Lib.hid (HW1.out.then hb2)
  clear hb2 HW1
  have wk2 := HW2.out.wk
  go_wp2_with fail
  refine (HFW.out _).mono ?_
  rintro _ w3 ⟨⟨fb, rfl, hfb⟩, hb3⟩
  have HW3 := Lib.hid (HW2.out.then hb3)
  clear hb3 HW2 wk2 hfb
  rcases fb with _ | _
  · go_wp2_with fail
    go_ret
    exact ⟨rfl, HW3.out.bel⟩
  have wk3 := HW3.out.wk
  have hA := HAB.out w3 HW3.out.bel
  by_cases hE : Un.ableE x B role bar = 0
  case neg =>
    unfold Un.ableA at hA
    rw [if_neg hE] at hA
    dsimp only at hA
    have HAC := Lib.hid hA
    generalize Un.ableE x B role bar = q at hE HAC
    have q1 : (q != 0) = true := by simpa using hE
    clear hA hE
    go_wp2_with ((with_reducible refine wpList_load_mid ?_ 36 (.tmp 6) ?_ (w.heap.size + 1) 0 ?_ (Un.bdA B).toList _ HW3.out.row Tryz.underlying36 rfl HI.out ?_); rfl; rfl; rfl)
    refine HAC.out.mono ?_
    rintro _ w4 ⟨rfl, hb4⟩
    have HB4 := Lib.hid (HW3.out.bel.trans (hb4.mono HW3.out.bel.size))
    clear hb4
    go_wp2_with fail
    go_ret
    exact ⟨rfl, HB4.out⟩
  case pos =>
    unfold Un.ableA at hA
    rw [if_pos hE] at hA
    dsimp only at hA
    obtain ⟨s, ok, hso⟩ : ∃ s ok, Un.ableR x B role bar = (s, ok) := ⟨_, _, rfl⟩
    rw [hso] at hA
    dsimp only at hA
    have HAC := Lib.hid hA
    obtain ⟨hchk, hwi, hbok⟩ := Un.ableE_zero.1 hE
    have HSO2 := Lib.hid hso
    have HCHK := Lib.hid hchk
    have HWI := Lib.hid hwi
    have HBOK := Lib.hid hbok
    have hlen : x.sg.length ≤ 4096 := by
      have h := hchk
      unfold Ex.chk at h
      split at h
      · cases h
      · omega
    clear hA hE hso hchk hwi hbok
    go_wp2_with ((with_reducible refine wpList_load_mid ?_ 36 (.tmp 6) ?_ (w.heap.size + 1) 0 ?_ (Un.bdA B).toList _ HW3.out.row Tryz.underlying36 rfl HI.out ?_); rfl; rfl; rfl)
    refine HAC.out.mono ?_
    rintro _ w4 ⟨rfl, hb4⟩
    have HW4 := Lib.hid (HW3.out.then hb4)
    clear hb4 HW3 HAC wk3
    have wk4 := HW4.out.wk
    have hz4 := HW4.out.z
    go_upto_region 10 with fail
    refine Kit.wp_name ?_
    intro W5 hW5
    obtain ⟨X, hX⟩ : ∃ X, X = w4.heap.size := ⟨_, rfl⟩
    rw [← hX]
    have hb5 : Below X w4 W5 := by rw [hW5, hX]; (repeat' first | (with_reducible first | exact Below.refl _ _ | assumption | refine Kit.below_drewN ?_ _ | refine Below.drew ?_ | refine Below.alloc ?_ ?_ _ | refine Below.setCell ?_ ?_ _ | exact Nat.le_refl _) | omega | (simp; omega) | (simp; done) | (apply Below.size; assumption))
    have hc5 : ∀ j, j < 10 → W5.cell? ⟨X, j, none⟩ = (Un.wkC x ⟨aR, cR, aT, cT, aP, cP, aS, cS, aG, cG⟩)[j]? := fun j hj => by
      rw [hW5, hX]
      rcases (by omega : j = 0 ∨ j = 1 ∨ j = 2 ∨ j = 3 ∨ j = 4 ∨ j = 5 ∨ j = 6 ∨ j = 7 ∨ j = 8 ∨ j = 9) with rfl | rfl | rfl | rfl | rfl | rfl | rfl | rfl | rfl | rfl <;> simp [go_sem]
    have h10 : W5.cell? ⟨X, 10, none⟩ = some (.slice none 0 0) := by rw [hW5, hX]; simp [go_sem]
    have hf5 : W5.frozen? ⟨X, 10, none⟩ = false := by rw [hW5, hX]; simp [go_sem]
    have hz5 : X < W5.heap.size := by rw [hW5, hX]; simp
    have HX := Lib.hid hX
    have HC5 := Lib.hid hc5
    have HB5 := Lib.hid hb5
    have hzx : w.heap.size + 1 + 1 < X := by omega
    clear hW5 hc5 hb5 hX
    have wk5 : ∀ j, W5.cell? ⟨w.heap.size, j, none⟩ = (Un.wkC x ⟨aR, cR, aT, cT, aP, cP, aS, cS, aG, cG⟩)[j]? := fun j => (World.cell?_of_block (HB5.out.block w.heap.size (by omega))).trans (wk4 j)
    go_wp2_with fail
    go_loopg [52] x.sg.length (fun kx v52 wr => ∃ (i : Nat) (v : Value), v52 = .int .i64 i ∧ i ≤ x.sg.length ∧ x.sg.length - i ≤ kx ∧ Hid (wr.ownsRow (X + 1) 52 14 v ((x.sg.take i).filter (Un.mine bar role)).length (Un.sgR ((x.sg.take i).filter (Un.mine bar role)))) ∧ Hid (wr.cell? ⟨X, 10, none⟩ = some v) ∧ Hid (wr.frozen? ⟨X, 10, none⟩ = false) ∧ Hid (∀ j, j < 10 → wr.cell? ⟨X, j, none⟩ = (Un.wkC x ⟨aR, cR, aT, cT, aP, cP, aS, cS, aG, cG⟩)[j]?) ∧ Hid (Below X w4 wr) ∧ Hid (X < wr.heap.size))
    case atStart => exact ⟨0, _, rfl, by omega, by omega, Lib.hid (World.ownsRow_nil _ _ _ _), Lib.hid h10, Lib.hid hf5, HC5, HB5, Lib.hid hz5⟩
    case round =>
      obtain ⟨i, v, rfl, hi, hk, HO, H10, HFZ, HC, HB, HZ⟩ := hrel
      have hzw := HZ.out
      have hox : X + 1 ≤ wr.heap.size := hzw
      by_cases hlt : i < x.sg.length
      · have hltz : (i : Int) < (x.sg.length : Int) := by omega
        have hsl := HA.out.sg.kept (HW4.out.bel.trans ((HX.out ▸ HB.out).mono HW4.out.bel.size)) (Nat.le_refl _)
        obtain ⟨ad, had, hadb, _⟩ := HA.out.sg.at hlt
        obtain rfl : aG = some ad := had
        replace hsl : Tp.Sl wr (some ad) x.sg.length 14 (Ex.sgc x.sg) := hsl
        (have e0 := hsl.head hlt (by omega); have e1 := hsl.field hlt (j := 1) (by omega) (by omega); have e2 := hsl.field hlt (j := 2) (by omega) (by omega); have e3 := hsl.field hlt (j := 3) (by omega) (by omega); have e4 := hsl.field hlt (j := 4) (by omega) (by omega); have e5 := hsl.field hlt (j := 5) (by omega) (by omega); have e6 := hsl.field hlt (j := 6) (by omega) (by omega); have e7 := hsl.field hlt (j := 7) (by omega) (by omega); have e8 := hsl.field hlt (j := 8) (by omega) (by omega); have e9 := hsl.field hlt (j := 9) (by omega) (by omega); have e10 := hsl.field hlt (j := 10) (by omega) (by omega); have e11 := hsl.field hlt (j := 11) (by omega) (by omega); have e12 := hsl.field hlt (j := 12) (by omega) (by omega); have e13 := hsl.field hlt (j := 13) (by omega) (by omega); obtain ⟨y, hy_⟩ : ∃ y, x.sg.getD i default = y := ⟨_, rfl⟩; simp only [Ex.sgc, hy_] at e0 e1 e2 e3 e4 e5 e6 e7 e8 e9 e10 e11 e12 e13)
        have HTK := Lib.hid (Un.take_mine x bar role i hlt y hy_)
        clear hy_ hsl
        obtain ⟨P, hP⟩ : ∃ P, P = (x.sg.take i).filter (Un.mine bar role) := ⟨_, rfl⟩
        rw [← hP] at HO HTK
        have hPl : P.length ≤ 4096 := by rw [hP]; exact Nat.le_trans (List.length_filter_le _ _) (Nat.le_trans (by rw [List.length_take]; omega) hlen)
        clear hP
        have HKX := Lib.hid (fun (w2 : World) (A C : Obj) (hg : ((wr.alloc A).alloc C).grownBy w2 v.ownBlock) => (show w2.heap[X]? = wr.heap[X]? ∧ Below X w4 w2 ∧ X < w2.heap.size from by
          have hq : some X ≠ v.ownBlock := fun h => by have := (HO.out.lt X h.symm).1; omega
          refine ⟨(hg.block X (by simp; omega) hq).trans ((((Below.refl wr.heap.size wr).alloc (Nat.le_refl _) A).alloc (by simp) C).block X hzw), ?_, Nat.lt_of_lt_of_le (by simp; omega) hg.size⟩
          exact ((HB.out.alloc (by omega) A).alloc (by simp; omega) C).grown hg (by simp; omega) (fun k hk => by have := (HO.out.lt k hk).1; omega)))
        rcases d1 : (y.role == role) with _ | _
        · have HNM := Lib.hid (show Un.mine bar role y = false by unfold Un.mine; rw [d1, Bool.and_false])
          have x10 := H10.out
          go_wp2_with fail
          go_roundg (x.sg.length - (i + 1))
          case measure => omega
          case rel => exact ⟨i + 1, v, by go_num, by omega, Nat.le_refl _, Lib.hid (by rw [HTK.out, if_neg (by rw [HNM.out]; decide), List.append_nil]; exact HO.out.alloc _), Lib.hid (((Below.refl wr.heap.size wr).alloc (Nat.le_refl _) _).cell hzw |>.trans H10.out), Lib.hid (((Below.refl wr.heap.size wr).alloc (Nat.le_refl _) _).frozen hzw |>.trans HFZ.out), Lib.hid (fun j hj => (((Below.refl wr.heap.size wr).alloc (Nat.le_refl _) _).cell (p := ⟨X, j, none⟩) hzw).trans (HC.out j hj)), Lib.hid (HB.out.alloc (by omega) _), Lib.hid (by simp; omega)⟩
        rcases d2 : decide (bar ≤ y.bar) with _ | _
        · have HNM := Lib.hid (show Un.mine bar role y = false by unfold Un.mine; rw [d2, Bool.false_and])
          have x10 := H10.out
          go_wp2_with fail
          go_roundg (x.sg.length - (i + 1))
          case measure => omega
          case rel => exact ⟨i + 1, v, by go_num, by omega, Nat.le_refl _, Lib.hid (by rw [HTK.out, if_neg (by rw [HNM.out]; decide), List.append_nil]; exact HO.out.alloc _), Lib.hid (((Below.refl wr.heap.size wr).alloc (Nat.le_refl _) _).cell hzw |>.trans H10.out), Lib.hid (((Below.refl wr.heap.size wr).alloc (Nat.le_refl _) _).frozen hzw |>.trans HFZ.out), Lib.hid (fun j hj => (((Below.refl wr.heap.size wr).alloc (Nat.le_refl _) _).cell (p := ⟨X, j, none⟩) hzw).trans (HC.out j hj)), Lib.hid (HB.out.alloc (by omega) _), Lib.hid (by simp; omega)⟩
        · have HNM := Lib.hid (show Un.mine bar role y = true by unfold Un.mine; rw [d1, d2]; rfl)
          have x10 := H10.out
          obtain ⟨av, cv, rfl⟩ := Un.own_shape HO.out
          generalize hPm : P.length = m at *
          have HPM := Lib.hid hPm
          clear hPm
          go_wp2_with (at_builtin; refine Kit.wpList_appB Un.elS (B := X + 1) _ rfl _ _ rfl _ m (Un.sgR P) ((HO.out.alloc _).alloc _) ?hB rfl ?hn ⟨wr.heap.size + 1, 0, none⟩ 1 (Un.sgL y) rfl rfl (fun j u hu => Kit.lit_at _ (Un.sgL y) _ (by simp) j u hu) (Un.sgL_one y) ?_; (case hB => (simp; omega)); (case hn => omega); intro v' w2 ho hg; obtain ⟨a2', c2', rfl⟩ := Un.own_shape ho; have hk2 := HKX.out w2 _ _ hg; have c2 : w2.cell? ⟨X, 10, none⟩ = some (.slice av m cv) := (World.cell?_of_block hk2.1).trans H10.out; have f2 : w2.frozen? ⟨X, 10, none⟩ = false := (World.frozen?_of_block hk2.1).trans HFZ.out; have HK2 := Lib.hid hk2; have HO2 := Lib.hid ho; clear ho hg hk2)
          go_roundg (x.sg.length - (i + 1))
          case measure => omega
          case rel => exact ⟨i + 1, _, by go_num, by omega, Nat.le_refl _, Lib.hid (by rw [HTK.out, if_pos HNM.out, Un.sgR_snoc, List.length_append, List.length_singleton, HPM.out]; exact ownsRow_setCell_below HO2.out (by simp) _), Lib.hid (by rw [Kit.cell_set, if_pos (Eq.refl (⟨X, 10, none⟩ : Addr)), (World.cell?_of_block HK2.out.1).trans H10.out]; rfl), Lib.hid (by simp only [World.frozen?_setCell]; exact (World.frozen?_of_block HK2.out.1).trans HFZ.out), Lib.hid (fun j hj => by rw [Kit.cell_set, if_neg (by intro h; injection h; omega)]; exact (World.cell?_of_block HK2.out.1).trans (HC.out j hj)), Lib.hid (HK2.out.2.1.setCell (by simp) _), Lib.hid (by simpa using HK2.out.2.2)⟩
      · obtain rfl : i = x.sg.length := by omega
        have ho := HO.out
        rw [List.take_length] at ho
        obtain ⟨aO, cO, rfl, hslO⟩ := Un.own_slv ho
        have hbw : Below w4.heap.size w4 wr := HX.out ▸ HB.out
        have HW6 := Lib.hid (HW4.out.then hbw)
        have HSO := Lib.hid hslO
        have hc := HC.out
        have x10 := H10.out
        obtain ⟨P, hP⟩ : ∃ P, P = x.sg.filter (Un.mine bar role) := ⟨_, rfl⟩
        have hpl : P.length ≤ 4096 := by rw [hP]; exact Nat.le_trans (List.length_filter_le _ _) hlen
        have HAO := Lib.hid (show Ex.At wr (Un.only x bar role) ⟨aR, cR, aT, cT, aP, cP, aS, cS, aO, cO⟩ from by
          have h := HA.out.kept HW6.out.bel (Nat.le_refl _)
          exact ⟨h.ro, h.ts, h.ps, h.ss, hslO, h.lro, h.lts, h.lps, h.lss, by show (x.sg.filter (Un.mine bar role)).length ≤ _; rw [← hP]; omega⟩)
        have hB2 := un_able (Un.only x bar role) ⟨aR, cR, aT, cT, aP, cP, aS, cS, aO, cO⟩ wr (HL.out.kept HW6.out.bel (Nat.le_refl _)) (HF.out.kept HW6.out.bel (Nat.le_refl _)) HAO.out B hn role bar
        have hE2 : Un.ableA (Un.only x bar role) B role bar = (s, ok, 0) := by
          unfold Un.ableA
          rw [if_pos (Un.ableE_zero.2 ⟨Un.chk_only HCHK.out bar role, HWI.out, HBOK.out⟩), Un.able_only, HSO2.out]
        rw [hE2] at hB2
        unfold Un.Able at hB2
        dsimp only [Ex.workV, Ex.wv, Un.only] at hB2
        rw [← hP] at hB2 x10
        have HB2 := Lib.hid hB2
        clear hB2 hE2 hbw ho hslO HO H10 HFZ HB HSO HC5 HB5 wk5 h10 hf5 HAO hP
        have w0 : wr.cell? ⟨X, 0, none⟩ = some (.int .i64 x.wd) := hc 0 (by omega)
        have w1 : wr.cell? ⟨X, 1, none⟩ = some (.int .i64 x.dp) := hc 1 (by omega)
        have w2 : wr.cell? ⟨X, 2, none⟩ = some (.int .i64 x.ta) := hc 2 (by omega)
        have w3 : wr.cell? ⟨X, 3, none⟩ = some (.int .i64 x.tb) := hc 3 (by omega)
        have w4' : wr.cell? ⟨X, 4, none⟩ = some (.int .i64 x.tc) := hc 4 (by omega)
        have w5 : wr.cell? ⟨X, 5, none⟩ = some (.slice aR x.ro.length cR) := hc 5 (by omega)
        have w6 : wr.cell? ⟨X, 6, none⟩ = some (.int .i64 x.n) := hc 6 (by omega)
        have w7 : wr.cell? ⟨X, 7, none⟩ = some (.slice aT x.ts.length cT) := hc 7 (by omega)
        have w8 : wr.cell? ⟨X, 8, none⟩ = some (.slice aP x.ps.length cP) := hc 8 (by omega)
        have w9 : wr.cell? ⟨X, 9, none⟩ = some (.slice aS x.ss.length cS) := hc 9 (by omega)
        clear hc
        go_wp2_with ((with_reducible refine wpList_load_mid ?_ 36 (.tmp 6) ?_ (w.heap.size + 1) 0 ?_ (Un.bdA B).toList _ HW6.out.row Tryz.underlying36 rfl HI.out ?_); rfl; rfl; rfl)
        refine HB2.out.mono ?_
        rintro _ w7_ ⟨rfl, hb7⟩
        have HW7 := Lib.hid (HW6.out.then hb7)
        clear hb7 HW6 w0 w1 w2 w3 w4' w5 w6 w7 w8 w9 x10 HB2
        have e1 := HW7.out.c0
        have e2 := HW7.out.c1
        have e3 := HW7.out.c2
        have s1 : (s != s) = false := by simp
        have s2 : (ok != ok) = false := by simp
        go_wp2_with ((with_reducible refine wpList_load_mid ?_ 36 (.tmp 6) ?_ (w.heap.size + 1) 0 ?_ (Un.bdA B).toList _ HW7.out.row Tryz.underlying36 rfl HI.out ?_); rfl; rfl; rfl)
        refine (HM.out _).mono ?_
        rintro _ w8 ⟨rfl, hb8⟩
        have HW8 := Lib.hid (HW7.out.then hb8)
        clear hb8 HW7 e1 e2 e3 wk4
        have hIZ : (Tryz.prog.info? 36).map (·.size) = some (Un.bdA Un.zB).size := by kernel_rfl
        rcases hv : Un.vld k lb n with _ | _
        · have hE8 : Un.allE B [(k, lb, n)] = 1 := by
            unfold Un.allE
            rw [if_neg (by rw [HBOK.out]; decide), if_neg (by simp), if_pos (by simp [Un.vldC, hv])]
          rw [hE8]
          generalize Un.allB B [(k, lb, n)] = D
          have HIZ := Lib.hid (show (Tryz.prog.info? 36).map (·.size) = some (Un.bdA D).size by kernel_rfl)
          clear hE8 hv hIZ
          go_wp2_with ((with_reducible refine Kit.wpList_store_fresh (x := .tmp 20) (y := .tmp 98) (b := w8.heap.size) (cells := Un.bdA D) ?_ ?_ ?_ ?_ ?_ ?_ HIZ.out (Un.bdA_one D) ?_); rfl; rfl; rfl; rfl; rfl; rfl)
          go_ret
          exact ⟨rfl, HW8.out.bel.alloc HW8.out.bel.size _⟩
        · have hE8 : Un.allE B [(k, lb, n)] = 0 := by
            unfold Un.allE
            rw [if_neg (by rw [HBOK.out]; decide), if_neg (by simp), if_neg (by simp [Un.vldC, hv])]
          have hD8 : Un.allB B [(k, lb, n)] = Un.low B k lb n := by unfold Un.allB; rw [if_pos hE8]; rfl
          have hle := Un.low_Le (B := B) hv
          have hnm := Un.low_name B k lb n
          have hok := Un.low_ok HBOK.out hv
          rw [hE8, hD8]
          generalize Un.low B k lb n = D at *
          have HIZ := Lib.hid (show (Tryz.prog.info? 36).map (·.size) = some (Un.bdA D).size by kernel_rfl)
          have HID := Lib.hid (show (Tryz.prog.info? 36).map (·.size) = some (Un.bdA D).toList.length by kernel_rfl)
          obtain ⟨s', ok', hso'⟩ : ∃ s ok, Un.ableR x D role bar = (s, ok) := ⟨_, _, rfl⟩
          have himp : ok' = true → ok = true := fun h => by
            have h1 := Un.able_mono hle (x := x) (role := role) (bar := bar) (by rw [hso']; exact h)
            rw [HSO2.out] at h1; exact h1
          have hC := fun W (hb : Below w.heap.size w W) => un_able x ⟨aR, cR, aT, cT, aP, cP, aS, cS, aG, cG⟩ W (HL.out.kept hb (Nat.le_refl _)) (HF.out.kept hb (Nat.le_refl _)) (HA.out.kept hb (Nat.le_refl _)) D (by rw [hnm]; exact hn) role bar
          have hE9 : Un.ableA x D role bar = (s', ok', 0) := by
            unfold Un.ableA
            rw [if_pos (Un.ableE_zero.2 ⟨HCHK.out, HWI.out, hok⟩), hso']
          rw [hE9] at hC
          unfold Un.Able at hC
          dsimp only [Ex.workV, Ex.wv] at hC
          have HCC := Lib.hid hC
          have HIMP := Lib.hid himp
          clear hC hE9 himp hso' hle hnm hok hE8 hD8 hv hIZ
          go_upto_region 20 with ((with_reducible refine Kit.wpList_store_fresh (x := .tmp 20) (y := .tmp 98) (b := w8.heap.size) (cells := Un.bdA D) ?_ ?_ ?_ ?_ ?_ ?_ HIZ.out (Un.bdA_one D) ?_); rfl; rfl; rfl; rfl; rfl; rfl)
          refine Kit.wp_name ?_
          intro w9 hw9
          have HW9 := Lib.hid (show Un.WF w x ⟨aR, cR, aT, cT, aP, cP, aS, cS, aG, cG⟩ B k lb n w9 by rw [hw9]; exact HW8.out.then ((Below.refl _ _).alloc (Nat.le_refl _) _))
          have HR9 := Lib.hid (show w9.rangeAt w8.heap.size 0 (Un.bdA D).toList by rw [hw9]; exact Kit.range_alloc w8 _ _)
          clear hw9 HW8
          have wk9 := HW9.out.wk
          go_wp2_with ((with_reducible refine wpList_load_mid ?_ 36 (.tmp 20) ?_ (w8.heap.size) 0 ?_ (Un.bdA D).toList _ HR9.out Tryz.underlying36 rfl HID.out ?_); rfl; rfl; rfl)
          refine (HCC.out _ HW9.out.bel).mono ?_
          rintro _ w10 ⟨rfl, hb10⟩
          have HB10 := Lib.hid (HW9.out.bel.trans (hb10.mono HW9.out.bel.size))
          clear hb10
          rcases ok with _ | _
          · rcases ok' with _ | _
            · go_wp2_with fail
              go_ret
              exact ⟨rfl, HB10.out⟩
            · exact absurd (HIMP.out rfl) (by decide)
          · go_wp2_with fail
            go_ret
            exact ⟨rfl, HB10.out⟩
end Go.Proofs.YtbhgogiaaljclaaGreatDoor
