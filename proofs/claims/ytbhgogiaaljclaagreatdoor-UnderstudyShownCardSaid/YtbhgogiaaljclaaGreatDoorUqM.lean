/- Walks: the law UnderstudyShown. -/
import Derived.Test.YtbhgogiaaljclaaGreatDoorUqw
import Derived.Test.YtbhgogiaaljclaaGreatDoorUxC
set_option linter.unusedSimpArgs false
set_option linter.unusedVariables false
namespace Go.Proofs.YtbhgogiaaljclaaGreatDoor
open Go.RowKit Go.Shelf
namespace Un
def GI (F : Nat → Int × Bool) (s : Int) (ok : Bool) (i : Nat) (sh : Bool) : Prop := (sh = true ∧ ok = false) ∨ (sh = false ∧ F i = (s, ok))
theorem GI.step {F : Nat → Int × Bool} {s : Int} {ok : Bool} {i j : Nat} {sh : Bool} (h : GI F s ok i sh) (e : F i = F j) : GI F s ok j sh := by
 rcases h with h | ⟨h1, h2⟩
 ·exact .inl h
 ·exact .inr ⟨h1, e ▸ h2⟩
theorem GI.hit {F : Nat → Int × Bool} {s : Int} {ok : Bool} {i : Nat} {k : Int} (h : GI F s ok i false) (e : F i = (k, false)) : s = k ∧ ok = false := by
 rcases h with ⟨h, _⟩ | ⟨_, h2⟩
 ·cases h
 ·rw [e] at h2; injection h2 with h3 h4; exact ⟨h3.symm, h4.symm⟩
theorem GI.fin {F : Nat → Int × Bool} {s : Int} {ok : Bool} {i : Nat} {sh : Bool} (h : GI F s ok i sh) (e : F i = (0, true)) : sh = !ok := by
 rcases h with ⟨h1, h2⟩ | ⟨h1, h2⟩
 ·rw [h1, h2]; rfl
 ·rw [e] at h2; injection h2 with h3 h4; rw [h1, ← h4]; rfl
theorem GI.on {F : Nat → Int × Bool} {s : Int} {ok : Bool} {i : Nat} (h : GI F s ok i true) (j : Nat) : GI F s ok j true := by
 rcases h with h | ⟨h, _⟩
 ·exact .inl h
 ·cases h
theorem liftsE_zero {x : Ex.Wk} {bs : List Bd} {B : Bd} {role bar : Int} (h : liftsE x bs B role bar = 0) : Ex.chk x = 0 ∧ bs.length = x.ro.length ∧ bok B = true ∧ within x role bar = true := by
 unfold liftsE at h
 by_cases h0 : Ex.chk x = 0
 ·rw [if_neg (by simp [h0])] at h
  by_cases h1 : bs.length = x.ro.length
  ·rw [if_neg (by simp [h1])] at h
   rw [chkB_app] at h
   by_cases h2 : chkB (bs ++ [B]) = 0
   ·rw [if_pos h2] at h
    refine ⟨h0, h1, ?_, ?_⟩
    ·unfold chkB at h2
     rw [List.all_append] at h2
     cases hb : bok B with
     | true => rfl
     | false => simp [hb] at h2
    ·cases hw : within x role bar with
     | true => rfl
     | false => simp [hw] at h
   ·rw [if_neg h2] at h; exact absurd h h2
  ·rw [if_pos h1] at h; cases h
 ·rw [if_pos h0] at h; exact absurd h h0
theorem ableE_of {x : Ex.Wk} {B : Bd} {role bar : Int} (h1 : Ex.chk x = 0) (h2 : bok B = true) (h3 : within x role bar = true) : ableE x B role bar = 0 := by
 unfold ableE firstE firstE firstE firstE chkB
 rw [h1, h3]
 simp [h2]
theorem ableR_true {x : Ex.Wk} {B : Bd} {role bar : Int} {s : Int} (h : ableR x B role bar = (s, true)) : s = 0 := by
 unfold ableR at h
 split at h
 ·injection h with _ h2; cases h2
 ·injection h with h1 _; exact h1.symm
theorem liftFrom_true {x : Ex.Wk} {D : List Bd} {role bar : Int} {i : Nat} {s : Int} (h : liftFrom x D role bar i = (s, true)) : s = 0 := by
 unfold liftFrom at h
 split at h
 ·injection h with _ h2; cases h2
 ·injection h with h1 _; exact h1.symm
end Un
set_option maxRecDepth 100000 in
set_option maxHeartbeats 8000000 in
theorem lw_shown (x : Ex.Wk) (p : Ex.Wa) (w : World) (hL : Ex.Laid w) (hF : Uo.Flat w) (ha : Ex.At w x p) (bs : List Un.Bd) (a : Option Addr) (c : Nat) (hS : Tp.Sl w a bs.length 17 (Un.bdF bs)) (hl : bs.length ≤ 4611686018427387904) (hns : ∀ b ∈ bs, b.name.size ≤ 9223372036854775807)
  (B : Un.Bd) (hn : B.name.size ≤ 9223372036854775807) (role bar : Int) :
  Calls Tryz.prog 5 #[Ex.workV x p, .slice a bs.length c, .agg (Un.bdA B), .int .i64 role, .int .i64 bar] w fun e w' => e = .returned (.bool true) ∧ Below w.heap.size w w' := by
 have HI := Lib.hid (show (Tryz.prog.info? 36).map (·.size) = some (Un.bdA B).toList.length by kernel_rfl)
 have HI2 := Lib.hid (show (Tryz.prog.info? 36).map (·.size) = some (Un.bdA B).size by kernel_rfl)
 have HSN := Lib.hid (fun W (hb : Below w.heap.size w W) => lw_sane W (hL.kept hb (Nat.le_refl _)) (hF.kept hb (Nat.le_refl _)))
 have HFW := Lib.hid (fun W => lw_few x p bs.length 0 c 0 a none W)
 have H4 := Lib.hid (fun W (hb : Below w.heap.size w W) => ru_Lifts x p bs a c B role bar W (ha.kept hb (Nat.le_refl _)) (hS.kept hb (Nat.le_refl _)) hl hns hn)
 have H1 := Lib.hid (fun W (hb : Below w.heap.size w W) => un_able x p W (hL.kept hb (Nat.le_refl _)) (hF.kept hb (Nat.le_refl _)) (ha.kept hb (Nat.le_refl _)) B hn role bar)
 have H3 := Lib.hid (fun W (hb : Below w.heap.size w W) => un_lifts x p W (hL.kept hb (Nat.le_refl _)) (ha.kept hb (Nat.le_refl _)) bs a c (hS.kept hb (Nat.le_refl _)) hl hns B hn role bar)
 have HOP := Lib.hid (fun W (hb : Below w.heap.size w W) (hg : Ex.Good x) (hB : Un.bok B = true) q hq s hs => uo_options x p W (hL.kept hb (Nat.le_refl _)) (hF.kept hb (Nat.le_refl _)) (ha.kept hb (Nat.le_refl _)) hg q hq s hs B hB hn (Ex.turn_bd hg).1 (Ex.turn_bd hg).2.1 (Ex.turn_bd hg).2.2.1 (Ex.turn_bd hg).2.2.2)
 unfold Un.Able at H1
 have HSL := Lib.hid (show Tp.Sl w p.aG x.sg.length 14 (Ex.sgc x.sg) from ha.sg)
 have HS := Lib.hid (fun W (hb : Below w.heap.size w W) => hS.kept hb (Nat.le_refl _))
 clear hL hF ha hS hns
 obtain ⟨aR, cR, aT, cT, aP, cP, aS, cS, aG, cG⟩ := p
 dsimp only at HSL
 obtain ⟨l4, u4, e4, hq4⟩ : ∃ l u e, Un.liftsA x bs B role bar = (l, u, e) := ⟨_, _, _, rfl⟩
 rw [hq4] at H4
 dsimp only [Ex.workV, Ex.wv] at HFW H4
 go_enter Tryz.func5, Tryz.ntmps5
 go_upto_region 1 with fail
 refine Kit.wp_name ?_
 intro W1 hW1
 have HW1 := Lib.hid (show Un.WG w x ⟨aR, cR, aT, cT, aP, cP, aS, cS, aG, cG⟩ B W1 by
  rw [hW1]
  exact ⟨by exact Kit.gr, fun j => by simp [go_sem], Un.range_alloc2 w (.cells (Un.wkC x ⟨aR, cR, aT, cT, aP, cP, aS, cS, aG, cG⟩) 32) (Un.bdA B) 36, by simp⟩)
 clear hW1
 go_wp2_with fail
 refine (HSN.out _ HW1.out.bel).mono ?_
 rintro _ W2 ⟨rfl, hb⟩
 have HW2 := Lib.hid (HW1.out.then hb)
 clear hb HW1
 have wk2 := HW2.out.wk
 go_wp2_with fail
 refine (HFW.out _).mono ?_
 rintro _ W3 ⟨⟨fb, rfl, _⟩, hb⟩
 have HW3 := Lib.hid (HW2.out.then hb)
 clear hb HW2 wk2
 rcases fb with _ | _
 ·go_wp2_with fail
  go_ret
  exact ⟨rfl, HW3.out.bel⟩
 have wk3 := HW3.out.wk
 go_wp2_with ((with_reducible refine wpList_load_mid ?_ 36 (.tmp 7) ?_ (w.heap.size + 1) 0 ?_ (Un.bdA B).toList _ HW3.out.row Tryz.underlying36 rfl HI.out ?_); rfl; rfl; rfl)
 refine (H4.out _ HW3.out.bel).mono ?_
 rintro _ W4 ⟨rfl, hb⟩
 have HW4 := Lib.hid (HW3.out.then hb)
 clear hb HW3 wk3
 by_cases hE : Un.liftsE x bs B role bar = 0
 case neg =>
  have hq : Un.liftsA x bs B role bar = (0, false, Un.liftsE x bs B role bar) := by unfold Un.liftsA; rw [if_neg hE]
  rw [hq4] at hq
  injection hq with h1 h2
  injection h2 with h2 h3
  have he : (e4 != 0) = true := by rw [h3]; simpa using hE
  clear h1 h2 h3 hE
  go_wp2_with fail
  go_ret
  exact ⟨rfl, HW4.out.bel⟩
 case pos =>
  obtain ⟨hchk, hln, hBk, hwi⟩ := Un.liftsE_zero hE
  have hg := Ex.good_of hchk
  have hab := Un.ableE_of hchk hBk hwi
  have hro := hg.roles
  have hlen := hg.len
  obtain ⟨hr0, hr1⟩ : 0 ≤ role ∧ role < x.ro.length := by
   have h := hwi
   unfold Un.within at h
   simp only [Bool.and_eq_true, decide_eq_true_eq] at h
   exact ⟨h.1.1.1, h.1.1.2⟩
  obtain ⟨rn, rfl⟩ : ∃ n : Nat, role = n := ⟨role.toNat, by omega⟩
  have hrn : rn < bs.length := by omega
  obtain ⟨s, ok, hso⟩ : ∃ s ok, Un.ableR x B rn bar = (s, ok) := ⟨_, _, rfl⟩
  obtain ⟨l, up, hlu⟩ : ∃ l up, Un.liftFrom x (bs.set rn B) rn bar 0 = (l, up) := ⟨_, _, rfl⟩
  have hA : Un.ableA x B rn bar = (s, ok, 0) := by unfold Un.ableA; rw [if_pos hab, hso]
  have hQ : Un.liftsA x bs B rn bar = (l, up, 0) := by
   have h := Un.liftFrom_heavy x hg bs B rn bar hln hrn
   rw [hlu] at h
   injection h with h1 h2
   unfold Un.liftsA
   rw [if_pos hE, ← h1, ← h2]
  rw [hq4] at hQ
  injection hQ with h1 h2
  injection h2 with h2 h3
  obtain rfl : l = l4 := h1.symm
  obtain rfl : up = u4 := h2.symm
  subst h3
  rw [hq4] at H3
  rw [hA] at H1
  have HFIT := Lib.hid (show ∀ k ∈ x.sg, k.kind = 7 → (0 ≤ k.role ∧ k.role < bs.length) ∧ (1 ≤ k.wth ∧ k.wth ≤ bs.length) from fun k hk h7 => by rw [hln]; exact Un.lift_fit (hg.oks k hk) h7)
  have HOQ := Lib.hid (fun W (hb : Below w.heap.size w W) q hq s hs => HOP.out W hb hg hBk q hq s hs)
  have HT1 := Lib.hid (show ok = true → s = 0 from fun h => Un.ableR_true (by rw [hso, h]))
  have HT2 := Lib.hid (show up = true → l = 0 from fun h => Un.liftFrom_true (by rw [hlu, h]))
  have HSO := Lib.hid hso
  have HLU := Lib.hid hlu
  have hb64 : bs.length ≤ 64 := by omega
  dsimp only [Ex.workV, Ex.wv] at H1 H3 HOQ
  clear hA hE hchk hln hBk hwi hg hab hso hlu hr0 hr1 HOP hro
  have wk4 := HW4.out.wk
  go_wp2_with ((with_reducible refine wpList_load_mid ?_ 36 (.tmp 7) ?_ (w.heap.size + 1) 0 ?_ (Un.bdA B).toList _ HW4.out.row Tryz.underlying36 rfl HI.out ?_); rfl; rfl; rfl)
  refine (H1.out _ HW4.out.bel).mono ?_
  rintro _ W5 ⟨rfl, hb⟩
  have HW5 := Lib.hid (HW4.out.then hb)
  clear hb HW4 wk4
  have wk5 := HW5.out.wk
  go_wp2_with ((with_reducible refine wpList_load_mid ?_ 36 (.tmp 7) ?_ (w.heap.size + 1) 0 ?_ (Un.bdA B).toList _ HW5.out.row Tryz.underlying36 rfl HI.out ?_); rfl; rfl; rfl)
  refine (H3.out _ HW5.out.bel).mono ?_
  rintro _ W6 ⟨rfl, hb⟩
  have HW6 := Lib.hid (HW5.out.then hb)
  clear hb HW5 wk5
  go_upto_region 10 with fail
  go_cut [83] from 64 to 83 (fun v83 wx => v83 = .bool false ∧ Hid (wx = W6))
  case first =>
   rcases ok with _ | _ <;> rcases up with _ | _
   ·go_wp2_with fail
    go_meet
    case rel => exact ⟨rfl, Lib.hid rfl⟩
   ·obtain rfl := HT2.out rfl
    go_wp2_with fail
    go_meet
    case rel => exact ⟨rfl, Lib.hid rfl⟩
   ·obtain rfl := HT1.out rfl
    go_wp2_with fail
    go_meet
    case rel => exact ⟨rfl, Lib.hid rfl⟩
   ·obtain rfl := HT1.out rfl
    obtain rfl := HT2.out rfl
    go_wp2_with fail
    go_meet
    case rel => exact ⟨rfl, Lib.hid rfl⟩
  case rest =>
   obtain ⟨rfl, HWX⟩ := hcut
   obtain rfl := HWX.out
   clear HT1 HT2 HWX
   have hl9 : bs.length ≤ 1000000000 := by omega
   have hrz : (rn : Int) < (bs.length : Int) := by omega
   go_upto_region 13 with (at_builtin; refine Kit.wpList_app_empty Un.elB _ rfl _ _ rfl rfl (Uo.lit_row wc [] _ wc.heap.size wc.heap.size 17 0 rfl (Nat.le_refl _) rfl (by unfold maxLen; omega)) (by simp) a bs.length c (Un.bdsV bs) hl9 rfl (Un.bdsV_len bs) (Un.bds_cells ((HS.out _ HW6.out.bel).kept (B := wc.heap.size) ((Below.refl _ _).alloc (Nat.le_refl _) _) (Nat.le_refl _))) ?_; intro v2 w2 ho hb; have HO2 := Lib.hid ho; have HB2 := Lib.hid hb; clear ho hb)
   have hb12 : Below wc.heap.size wc w2 := Below.trans ((Below.refl _ _).alloc (Nat.le_refl _) _) (HB2.out.mono (by simp))
   have HW7 := Lib.hid (HW6.out.then hb12)
   obtain ⟨av, cv, rfl, hsl⟩ := Kit.own_sl (f := Un.bdF bs) HO2.out (fun i j hi hj => Un.bdsV_at bs i j hi hj)
   obtain ⟨g, rfl, hgW, htg⟩ : ∃ g, av = some ⟨g, 0, none⟩ ∧ wc.heap.size ≤ g ∧ w2.there g (rn * 17) 17 := by
    rcases HO2.out.2 with ⟨e, hn⟩ | ⟨g, cap, cur, e, hb, hg, hnc, hcm, hcs, _⟩
    ·omega
    ·injection e with e1 e2 e3
     refine ⟨g, e1, hb, fun j hj => ?_⟩
     have h17 : rn * 17 + j < cur.size := by
      rw [hcs]
      have : (rn + 1) * 17 ≤ cap * 17 := Nat.mul_le_mul (by omega) (Nat.le_refl _)
      omega
     constructor
     ·simp only [World.cell?, hg]; simp [h17]
     ·simp only [World.frozen?, hg]; rfl
   have HBS := Lib.hid (fun (vs : List Value) (o : Nat) => Un.below_setCells2 hgW vs o hb12)
   have HSL2 := Lib.hid hsl
   have HT2 := Lib.hid (show w2.there g (rn * 17) (Un.bdA B).size from htg)
   clear hb12 hsl HB2 HO2
   go_upto_region 14 with (first | ((with_reducible refine wpList_load_mid ?_ 36 (.tmp 7) ?_ (w.heap.size + 1) 0 ?_ (Un.bdA B).toList _ HW7.out.row Tryz.underlying36 rfl HI.out ?_); rfl; rfl; rfl) | ((with_reducible refine Kit.wpList_store_at (ty := 36) (x := .tmp 90) (y := .tmp 89) (p := ⟨g, rn * 17, none⟩) (b := g) (o := rn * 17) (cells := Un.bdA B) ?_ ?_ ?_ rfl ?_ HT2.out HI2.out (Un.bdA_one B) ?_); rfl; rfl; rfl; rfl; refine Un.wpList_name2 ?_; intro X hX; have HX := Lib.hid hX; clear hX))
   have HWX := Lib.hid (HW6.out.then (by rw [HX.out]; exact HBS.out _ _ : Below wc.heap.size wc X))
   have hon : Tp.Sl X (some ⟨g, 0, none⟩) bs.length 17 (Un.bdF (bs.set rn B)) := by rw [HX.out]; exact Un.set_sl rfl HSL2.out rn hrn htg
   have HON := Lib.hid (fun wr (h : Below X.heap.size X wr) => hon.kept h (Nat.le_refl _))
   clear hon htg hgW HX HT2 HSL2 HBS HW6 HW7 HS HSN HFW H1 H3 H4 HI2
   have wkx := HWX.out.wk
   generalize hag : (⟨g, 0, none⟩ : Addr) = ag at HON ⊢
   clear hag
   go_wp2_with fail
   refine wp_loop_ghost_k (fun k a' w' => (∃ (i : Nat) (sh hv : Bool), (a'.tmps.getD 94 undef) = .int .i64 i ∧ (a'.tmps.getD 21 undef) = .bool sh ∧ (a'.tmps.getD 22 undef) = .bool hv ∧ i ≤ x.sg.length ∧ x.sg.length - i ≤ k ∧ Hid (Un.GI (Un.ableFrom x B rn bar) s ok i sh) ∧ Hid (Un.GI (Un.liftFrom x (bs.set rn B) rn bar) l up i hv) ∧ Hid (Below X.heap.size X w')) ∧ a' = (fun (t : Nat → Value) => ({ tmps := #[Ex.workV x { aR := aR, cR := cR, aT := aT, cT := cT, aP := aP, cP := cP, aS := aS, cS := cS, aG := aG, cG := cG }, Value.slice a bs.length c, Value.agg (Un.bdA B), Value.int IntKind.i64 ↑rn, Value.int IntKind.i64 bar, Value.pointer (some { block := w.heap.size, off := 0 }), undef, Value.pointer (some { block := w.heap.size + 1, off := 0 }), undef, undef, Value.bool false, Value.int IntKind.i64 l, Value.bool up, Value.int IntKind.i64 0, Value.int IntKind.i64 s, Value.bool ok, Value.int IntKind.i64 0, Value.int IntKind.i64 l, Value.bool up, Value.int IntKind.i64 0, Value.slice (some ag) bs.length cv, t 21, t 22, undef, t 24, t 25, t 26, Value.bool true, Value.bool false, Value.agg #[Value.int IntKind.i64 x.wd, Value.int IntKind.i64 x.dp, Value.int IntKind.i64 x.ta, Value.int IntKind.i64 x.tb, Value.int IntKind.i64 x.tc, Value.slice aR x.ro.length cR, Value.int IntKind.i64 x.n, Value.slice aT x.ts.length cT, Value.slice aP x.ps.length cP, Value.slice aS x.ss.length cS, Value.slice aG x.sg.length cG], Value.slice a bs.length c, Value.bool true, Value.bool false, Value.tuple #[Value.int IntKind.i64 l, Value.bool up, Value.int IntKind.i64 0], Value.agg #[Value.int IntKind.i64 x.wd, Value.int IntKind.i64 x.dp, Value.int IntKind.i64 x.ta, Value.int IntKind.i64 x.tb, Value.int IntKind.i64 x.tc, Value.slice aR x.ro.length cR, Value.int IntKind.i64 x.n, Value.slice aT x.ts.length cT, Value.slice aP x.ps.length cP, Value.slice aS x.ss.length cS, Value.slice aG x.sg.length cG], Value.slice a bs.length c, Value.agg (Un.bdA B), Value.int IntKind.i64 ↑rn, Value.int IntKind.i64 bar, Value.tuple #[Value.int IntKind.i64 l, Value.bool up, Value.int IntKind.i64 0], Value.int IntKind.i64 l, Value.bool up, Value.int IntKind.i64 0, Value.int IntKind.i64 0, Value.bool false, Value.tuple #[Value.int IntKind.i64 s, Value.bool ok, Value.int IntKind.i64 0], Value.agg #[Value.int IntKind.i64 x.wd, Value.int IntKind.i64 x.dp, Value.int IntKind.i64 x.ta, Value.int IntKind.i64 x.tb, Value.int IntKind.i64 x.tc, Value.slice aR x.ro.length cR, Value.int IntKind.i64 x.n, Value.slice aT x.ts.length cT, Value.slice aP x.ps.length cP, Value.slice aS x.ss.length cS, Value.slice aG x.sg.length cG], Value.agg (Un.bdA B), Value.int IntKind.i64 ↑rn, Value.int IntKind.i64 bar, Value.tuple #[Value.int IntKind.i64 s, Value.bool ok, Value.int IntKind.i64 0], Value.int IntKind.i64 s, Value.bool ok, Value.int IntKind.i64 0, Value.tuple #[Value.int IntKind.i64 l, Value.bool up, Value.int IntKind.i64 0], Value.agg #[Value.int IntKind.i64 x.wd, Value.int IntKind.i64 x.dp, Value.int IntKind.i64 x.ta, Value.int IntKind.i64 x.tb, Value.int IntKind.i64 x.tc, Value.slice aR x.ro.length cR, Value.int IntKind.i64 x.n, Value.slice aT x.ts.length cT, Value.slice aP x.ps.length cP, Value.slice aS x.ss.length cS, Value.slice aG x.sg.length cG], Value.slice a bs.length c, Value.agg (Un.bdA B), Value.int IntKind.i64 ↑rn, Value.int IntKind.i64 bar, Value.tuple #[Value.int IntKind.i64 l, Value.bool up, Value.int IntKind.i64 0], Value.int IntKind.i64 l, Value.bool up, Value.int IntKind.i64 0, u64, u65, u66, u67, u68, u69, u70, u71, u72, u73, u74, u75, u76, u77, u78, u79, u80, u81, u82, Value.bool false, Value.slice (some { block := wc.heap.size, off := 0 }) 0 0, Value.slice a bs.length c, Value.slice (some ag) bs.length cv, Value.slice (some ag) bs.length cv, Value.int IntKind.i64 ↑rn, Value.agg (Un.bdA B), Value.pointer (some { block := g, off := rn * 17 }), Value.pointer (some { block := w.heap.size, off := 10 }), Value.slice aG x.sg.length cG, Value.int IntKind.i64 ↑x.sg.length, t 94, t 95, t 96, t 97, t 98, t 99, t 100, t 101, t 102, t 103, t 104, t 105, t 106, t 107, t 108, t 109, t 110, t 111, t 112, t 113, t 114, t 115, t 116, t 117, t 118, t 119, t 120, t 121, t 122, t 123, t 124, t 125, t 126, t 127, t 128, t 129, t 130, t 131, t 132, t 133, t 134, t 135, t 136, t 137, t 138, t 139, t 140, t 141, t 142, t 143, t 144, t 145, t 146, t 147, t 148, t 149, t 150, t 151, t 152, t 153, t 154, t 155, t 156, t 157, t 158, t 159, t 160, t 161, t 162, t 163, t 164, t 165, t 166, t 167, t 168, t 169, t 170, t 171, t 172, t 173, undef, undef, undef, undef, undef, undef, undef, undef], defers := [] } : Act)) (fun j => a'.tmps.getD j undef)) x.sg.length ?atStart ?round
   case atStart => exact ⟨⟨0, false, false, rfl, rfl, rfl, by omega, by omega, Lib.hid (.inr ⟨rfl, HSO.out⟩), Lib.hid (.inr ⟨rfl, HLU.out⟩), Lib.hid (Below.refl _ _)⟩, by kernel_rfl⟩
   case round =>
    intro gk a' wr hinv
    obtain ⟨hrel, ha⟩ := hinv
    rw [ha]
    clear ha
    obtain ⟨s21, h21_⟩ : ∃ s, a'.tmps.getD 21 undef = s := ⟨_, rfl⟩
    obtain ⟨s22, h22_⟩ : ∃ s, a'.tmps.getD 22 undef = s := ⟨_, rfl⟩
    obtain ⟨s94, h94_⟩ : ∃ s, a'.tmps.getD 94 undef = s := ⟨_, rfl⟩
    rw [h21_, h22_, h94_] at hrel
    generalize ht_ : (fun j => a'.tmps.getD j undef) = t
    have f21_ : t 21 = s21 := by rw [← ht_]; exact h21_
    have f22_ : t 22 = s22 := by rw [← ht_]; exact h22_
    have f94_ : t 94 = s94 := by rw [← ht_]; exact h94_
    clear ht_ h21_ h22_ h94_
    clear a'
    dsimp only
    rw [f21_, f22_, f94_]
    clear f21_ f22_ f94_
    intro _ _ _ _
    obtain ⟨i, sh, hv, rfl, rfl, rfl, hi, hk, HSH, HHV, HB⟩ := hrel
    have HW := Lib.hid (HWX.out.then HB.out)
    have wk := HW.out.wk
    have hzb := HW.out.z
    by_cases hlt : i < x.sg.length
    ·have hltz : (i : Int) < (x.sg.length : Int) := by omega
     have hsl := HSL.out.kept HW.out.bel (Nat.le_refl _)
     obtain ⟨ad, rfl, hadb, _⟩ := HSL.out.at hlt
     (have e0 := hsl.head hlt (by omega); have e1 := hsl.field hlt (j := 1) (by omega) (by omega); have e2 := hsl.field hlt (j := 2) (by omega) (by omega); have e3 := hsl.field hlt (j := 3) (by omega) (by omega); have e4 := hsl.field hlt (j := 4) (by omega) (by omega); have e5 := hsl.field hlt (j := 5) (by omega) (by omega); have e6 := hsl.field hlt (j := 6) (by omega) (by omega); have e7 := hsl.field hlt (j := 7) (by omega) (by omega); have e8 := hsl.field hlt (j := 8) (by omega) (by omega); have e9 := hsl.field hlt (j := 9) (by omega) (by omega); have e10 := hsl.field hlt (j := 10) (by omega) (by omega); have e11 := hsl.field hlt (j := 11) (by omega) (by omega); have e12 := hsl.field hlt (j := 12) (by omega) (by omega); have e13 := hsl.field hlt (j := 13) (by omega) (by omega); obtain ⟨y, hy_⟩ : ∃ y, x.sg.getD i default = y := ⟨_, rfl⟩; simp only [Ex.sgc, hy_] at e0 e1 e2 e3 e4 e5 e6 e7 e8 e9 e10 e11 e12 e13)
     have hmem : y ∈ x.sg := by rw [← hy_, List.getD_eq_getElem?_getD, List.getElem?_eq_getElem hlt]; exact List.getElem_mem hlt
     have HY := Lib.hid hy_
     have HFY := Lib.hid (HFIT.out y hmem)
     have HOY := Lib.hid (fun W hb => HOQ.out W hb i hlt y hy_)
     clear hy_ hsl hmem
     rcases d0 : decide (y.bar < bar) with _ | _
     case true =>
      have HE1 := Lib.hid (HSH.out.step (Un.ableFrom_skip x B rn bar i hlt (by rw [HY.out]; unfold Un.mine; rw [show decide (bar ≤ y.bar) = false by simp at d0 ⊢; omega]; simp)))
      have HE2 := Lib.hid (HHV.out.step (Un.liftFrom_skip x (bs.set rn B) rn bar i hlt (by rw [HY.out]; unfold Un.bothK Un.liftK; rw [show decide (bar ≤ y.bar) = false by simp at d0 ⊢; omega]; rfl)))
      go_wp2_with fail
      (refine Handed.intro (x.sg.length - (i + 1)) ?_ ?_; omega; go_step; exact ⟨⟨i + 1, sh, hv, by show Value.int .i64 _ = _; go_num, rfl, rfl, by omega, Nat.le_refl _, HE1, HE2, Lib.hid (HB.out.alloc HB.out.size _)⟩, by kernel_rfl⟩)
     obtain ⟨c1, hc1⟩ : ∃ c, (y.role == (rn : Int)) = c := ⟨_, rfl⟩
     go_upto_region 19 with fail
     refine Kit.wp_name ?_
     intro W9 hW9
     have hb9 : Below wr.heap.size wr W9 := by rw [hW9]; exact Kit.gr
     have y0 : W9.cell? ⟨wr.heap.size, 0, none⟩ = some (.int .i64 y.id) := by rw [hW9]; simp [go_sem]
     have y1 : W9.cell? ⟨wr.heap.size, 1, none⟩ = some (.int .i64 y.role) := by rw [hW9]; simp [go_sem]
     have y4 : W9.cell? ⟨wr.heap.size, 4, none⟩ = some (.int .i64 y.kind) := by rw [hW9]; simp [go_sem]
     have y9 : W9.cell? ⟨wr.heap.size, 9, none⟩ = some (.int .i64 y.wth) := by rw [hW9]; simp [go_sem]
     have hz9 : wr.heap.size < W9.heap.size := by rw [hW9]; simp
     have HW9 := Lib.hid (HW.out.then hb9)
     have HBX := Lib.hid (fun V (h : Below W9.heap.size W9 V) => (HB.out.trans (hb9.mono HB.out.size)).trans (h.mono (Nat.le_trans HB.out.size hb9.size)))
     have wk9 := HW9.out.wk
     clear hW9 wk e0 e1 e2 e3 e4 e5 e6 e7 e8 e9 e10 e11 e12 e13 hb9 HW hadb
     go_upto_if 105 with fail
     have HC1 := Lib.hid hc1
     clear hc1
     have HBAR := Lib.hid (show decide (bar ≤ y.bar) = true by simp at d0 ⊢; omega)
     clear d0
     go_cut [10, 21, 25, 26] from 106 to 129 (fun v10 v21 v25 v26 wx => ∃ sh2 : Bool, v10 = .bool false ∧ v21 = .bool sh2 ∧ Hid (Un.GI (Un.ableFrom x B rn bar) s ok (i + 1) sh2) ∧ Hid (Below W9.heap.size W9 wx))
     case first =>
      rcases c1 with _ | _
      ·have HE1 := Lib.hid (HSH.out.step (Un.ableFrom_skip x B rn bar i hlt (by rw [HY.out]; unfold Un.mine; rw [HC1.out]; simp)))
       go_wp2_with fail
       go_meet
       case rel => exact ⟨sh, rfl, rfl, HE1, Lib.hid (Below.refl _ _)⟩
      ·have HM := Lib.hid (show Un.mine bar rn (x.sg.getD i default) = true by rw [HY.out]; unfold Un.mine; rw [HC1.out, HBAR.out]; rfl)
       go_wp2_with ((with_reducible refine wpList_load_mid ?_ 36 (.tmp 7) ?_ (w.heap.size + 1) 0 ?_ (Un.bdA B).toList _ HW9.out.row Tryz.underlying36 rfl HI.out ?_); rfl; rfl; rfl)
       refine (HOY.out _ HW9.out.bel).mono ?_
       rintro _ Wa ⟨⟨v, rfl, ho⟩, hba⟩
       obtain ⟨av, cv2, rfl⟩ : ∃ a c, v = .slice a (Uo.opts x.ta x.tc y B).length c := by
        rcases ho.2 with ⟨rfl, hn⟩ | ⟨g, cap, cur, rfl, _⟩
        ·exact ⟨none, 0, by rw [hn]⟩
        ·exact ⟨_, _, rfl⟩
       have z0 : Wa.cell? ⟨wr.heap.size, 0, none⟩ = some (.int .i64 y.id) := (hba.cell (p := ⟨wr.heap.size, 0, none⟩) hz9).trans y0
       have HBa := Lib.hid hba
       clear ho hba y0 y1 y4 y9 wk9
       obtain ⟨m, hm⟩ : ∃ m, (Uo.opts x.ta x.tc y B).length = m := ⟨_, rfl⟩
       rw [hm]
       have HN := Lib.hid (show Un.none? x B (x.sg.getD i default) = decide (m = 0) by
        rw [HY.out, ← hm]; unfold Un.none?
        cases Uo.opts x.ta x.tc y B <;> simp)
       clear hm
       by_cases hm0 : m = 0
       ·subst hm0
        rcases sh with _ | _
        ·obtain ⟨rfl, rfl⟩ := HSH.out.hit (k := y.id) (by rw [Un.ableFrom_none x B rn bar i hlt HM.out (by rw [HN.out]; rfl), HY.out])
         go_wp2_with fail
         go_meet
         case rel => exact ⟨true, rfl, rfl, Lib.hid (.inl ⟨rfl, rfl⟩), HBa⟩
        ·have HE1 := Lib.hid (HSH.out.on (i + 1))
         go_wp2_with fail
         go_meet
         case rel => exact ⟨true, rfl, rfl, HE1, HBa⟩
       ·have m1 : ((m : Int) == 0) = false := by simp; omega
        have m2 : (m == 0) = false := by simp; omega
        have HE1 := Lib.hid (HSH.out.step (Un.ableFrom_some x B rn bar i hlt HM.out (by rw [HN.out]; simpa using hm0)))
        go_wp2_with fail
        go_meet
        case rel => exact ⟨sh, rfl, rfl, HE1, HBa⟩
     case rest =>
      obtain ⟨sh2, rfl, rfl, HSH2, HBC⟩ := hcut
      replace y0 := (HBC.out.cell (p := ⟨wr.heap.size, 0, none⟩) hz9).trans y0
      replace y1 := (HBC.out.cell (p := ⟨wr.heap.size, 1, none⟩) hz9).trans y1
      replace y4 := (HBC.out.cell (p := ⟨wr.heap.size, 4, none⟩) hz9).trans y4
      replace y9 := (HBC.out.cell (p := ⟨wr.heap.size, 9, none⟩) hz9).trans y9
      have hzc : wr.heap.size < wc.heap.size := Nat.lt_of_lt_of_le hz9 HBC.out.size
      have HBX2 := Lib.hid (HBX.out _ HBC.out)
      clear wk9 HBX HBC HW9 hz9 HSH HOY
      rcases d7 : (y.kind == 7) with _ | _
      case' false => have HE2 := Lib.hid (HHV.out.step (Un.liftFrom_skip x (bs.set rn B) rn bar i hlt (by rw [HY.out]; unfold Un.bothK Un.liftK; rw [d7]; simp)))
      case' true =>
       have h7 : y.kind = 7 := by simpa using d7
       have hf := HFY.out h7
       obtain ⟨u, hu⟩ : ∃ u : Nat, y.role = u := ⟨y.role.toNat, by omega⟩
       obtain ⟨q, hq⟩ : ∃ q : Nat, y.wth = (q : Int) + 1 := ⟨(y.wth - 1).toNat, by omega⟩
       have hul : u < (bs.set rn B).length := by rw [List.length_set]; omega
       have hql : q < (bs.set rn B).length := by rw [List.length_set]; omega
       rw [hu] at y1
       rw [hq] at y9
       have HU := Lib.hid hu
       have HQ := Lib.hid hq
       obtain ⟨c3, hc3⟩ : ∃ c, ((u : Int) == (rn : Int)) = c := ⟨_, rfl⟩
       obtain ⟨c4, hc4⟩ : ∃ c, ((q : Int) + 1 == (rn : Int) + 1) = c := ⟨_, rfl⟩
       have hc3n : (u == rn) = c3 := by rw [← hc3]; rw [Bool.eq_iff_iff]; simp; omega
       have hc4n : (q == rn) = c4 := by rw [← hc4]; rw [Bool.eq_iff_iff]; simp; omega
       have HC := Lib.hid (show Un.liftK bar rn y = (c3 || c4) by
        unfold Un.liftK
        rw [HBAR.out, d7, hu, hq, hc3, hc4]; rfl)
       clear h7 hf hu hq HFY
       have hrw : IntKind.i64.wrap ((rn : Int) + 1) = (rn : Int) + 1 := by rw [IntKind.wrap_i64] <;> omega
       rcases c34 : (c3 || c4) with _ | _
       case' false =>
        have HE2 := Lib.hid (HHV.out.step (Un.liftFrom_skip x (bs.set rn B) rn bar i hlt (by rw [HY.out]; unfold Un.bothK; rw [HC.out, c34]; rfl)))
        obtain ⟨rfl, rfl⟩ : c3 = false ∧ c4 = false := by simpa using c34
        clear c34
       case' true =>
        have HLT := Lib.hid (show Un.liftK bar rn y = true by rw [HC.out, c34])
        clear HC
        obtain ⟨b1, hb1⟩ : ∃ b, (bs.set rn B).getD q default = b := ⟨_, rfl⟩
        obtain ⟨b2, hb2⟩ : ∃ b, (bs.set rn B).getD u default = b := ⟨_, rfl⟩
        obtain ⟨hvy, hhvy⟩ : ∃ h, decide (b2.lift < b1.weight) = h := ⟨_, rfl⟩
        have HHY := Lib.hid (show Un.bothK (bs.set rn B) bar rn y = hvy by
         unfold Un.bothK Un.heavyD
         rw [HLT.out, HU.out, HQ.out, show ((u : Int)).toNat = u by omega, show ((q : Int) + 1 - 1).toNat = q by omega, hb1, hb2, hhvy]; rfl)
        have hsd := HON.out wc HBX2.out
        rw [show bs.length = (bs.set rn B).length from (List.length_set ..).symm] at hsd
        have f1 := hsd.field hql (j := 1) (by omega) (by omega)
        have f2 := hsd.field hul (j := 2) (by omega) (by omega)
        unfold Un.bdF at f1 f2
        rw [hb1] at f1
        rw [hb2] at f2
        replace f1 : _ = some (Value.int .i64 b1.weight) := f1
        replace f2 : _ = some (Value.int .i64 b2.lift) := f2
        clear hb1 hb2 hsd
        generalize b1.weight = wq at *
        generalize b2.lift = lu at *
        have hq0 : (0 : Int) ≤ (q : Int) + 1 - 1 := by omega
        have hqw : IntKind.i64.wrap ((q : Int) + 1 - 1) = (q : Int) := by rw [List.length_set] at hql; rw [IntKind.wrap_i64] <;> omega
        have huz : (u : Int) < (bs.length : Int) := by rw [List.length_set] at hul; omega
        have hqz : (q : Int) < (bs.length : Int) := by rw [List.length_set] at hql; omega
        rw [List.length_set] at hul hql
        rcases hvy with _ | _
        case' false => have HE2 := Lib.hid (HHV.out.step (Un.liftFrom_skip x (bs.set rn B) rn bar i hlt (by rw [HY.out]; exact HHY.out)))
        case' true =>
         rcases hv with _ | _
         case' false =>
          obtain ⟨rfl, rfl⟩ := HHV.out.hit (k := y.id) (by rw [Un.liftFrom_hit x (bs.set rn B) rn bar i hlt (by rw [HY.out]; exact HHY.out), HY.out])
          have HE2 : Hid (Un.GI (Un.liftFrom x (bs.set rn B) rn bar) y.id false (i + 1) true) := Lib.hid (.inl ⟨rfl, rfl⟩)
         case' true => have HE2 := Lib.hid (HHV.out.on (i + 1))
        all_goals rcases c3 with _ | _ <;> rcases c4 with _ | _
        all_goals first | (simp at c34; done) | clear c34
      all_goals
       go_upto_region 27 with fail
       go_quiet (fail)
       have hbq : Below wc.heap.size wc (wc.drewN nq) := Kit.below_drewN (Below.refl _ _) nq
       have HBQ := Lib.hid (Kit.below_drewN HBX2.out nq)
       have z0 := (hbq.cell (p := ⟨wr.heap.size, 0, none⟩) hzc).trans y0
       have hzq : wr.heap.size < (wc.drewN nq).heap.size := hzc
       clear hbq y0 y1 y4 y9
       generalize wc.drewN nq = W3 at *
       go_wp2_with fail
       (refine Handed.intro (x.sg.length - (i + 1)) ?_ ?_; omega; go_step; exact ⟨⟨i + 1, sh2, _, by show Value.int .i64 _ = _; go_num, rfl, rfl, by omega, Nat.le_refl _, HSH2, HE2, HBQ⟩, by kernel_rfl⟩)
    ·obtain rfl : i = x.sg.length := by omega
     obtain rfl := HSH.out.fin (Un.ableFrom_end ..)
     obtain rfl := HHV.out.fin (Un.liftFrom_end ..)
     rcases ok with _ | _ <;> rcases up with _ | _
     all_goals
      go_wp2_with fail
      go_ret
      exact ⟨rfl, HW.out.bel⟩
end Go.Proofs.YtbhgogiaaljclaaGreatDoor
