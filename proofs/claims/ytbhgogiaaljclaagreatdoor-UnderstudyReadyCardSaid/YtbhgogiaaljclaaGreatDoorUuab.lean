/- Walks: package understudy: within, checked; cmp.Or of errors. Walks: package understudy: remaining (the signs from a bar on that a function accepts, as an iterator). -/
import Derived.Test.YtbhgogiaaljclaaGreatDoorUoO
import Derived.Test.YtbhgogiaaljclaaGreatDoorUoW
set_option linter.unusedSimpArgs false
set_option linter.unusedVariables false
set_option maxRecDepth 100000
set_option maxHeartbeats 8000000
namespace Go.Proofs.YtbhgogiaaljclaaGreatDoor
open Go.RowKit
namespace Un
def bdF (l : List Bd) (i j : Nat) : Value := let b := l.getD i default; if j = 0 then .string b.name else .int .i64 (bdN b j)
def chkB (l : List Bd) : Int := if l.all bok = true then 0 else 250
def firstE : List Int → Int
 | [] => 0
 | e :: l => if e = 0 then firstE l else e
end Un
theorem Kit.run_load_sl {P : Program} {w : World} {ad : Addr} {n k : Nat} {f : Nat → Nat → Value} (h : Tp.Sl w (some ad) n k f) {i : Nat} (hi : i < n) (ty : TypeId) (cs : List Value) (d : TypeDesc) (hk : cs.length = k) (hf : ∀ j v, cs[j]? = some v → f i j = v)
  (hu : P.underlying ty = some d) (hd : d.isRow = true) (hsz : (P.info? ty).map (·.size) = some cs.length) : (loadVar ty (ad.add (i * k))).run P w = .ok (.agg cs.toArray) w := by
 have hl : (loadCells (ad.add (i * k)) cs.length).run P w = .ok cs.toArray w := by
  refine run_loadCells_list (P := P) (w := w) (ad.add (i * k)) cs (fun j v hv => ?_)
  have hj : j < k := by rw [← hk]; exact (List.getElem?_eq_some_iff.1 hv).1
  obtain ⟨ad', e, _, hc⟩ := h.at hi
  cases e
  have h2 := hc j hj
  rw [hf j v hv] at h2
  rcases Nat.eq_zero_or_pos j with rfl | h0
  ·have e0 : (ad.add (i * k)).add 0 = ad.add (i * k + 0) := by simp [Addr.add]
   rw [e0]; exact h2
  ·rw [Tp.add_pos _ _ _ omg] at h2
   have e1 : (ad.add (i * k)).add j = ⟨(ad.add (i * k)).block, (ad.add (i * k)).off + j, none⟩ := by
    conv => lhs; unfold Addr.add
    rw [if_neg omg]
    rfl
   rw [e1]; exact h2
 cases hq : P.info? ty with
 | none => simp [hq] at hsz
 | some i' =>
  have hs : i'.size = cs.length := by simpa [hq] using hsz
  have hagg : (isAgg ty).run P w = .ok true w := by
   unfold isAgg
   rw [Sem.run_bind, run_underlying hu w]
   cases d <;> simp_all
  simp [loadVar, Sem.run_bind, hagg, sizeOf, typeInfo, hq, hs, hl]
theorem Kit.wpList_load_sl {P : Program} {ops : Array Oper} {rest : List Oper} {op : Oper} {a : Act} {w : World} {Q : Exit → Act → World → Prop} (hgd : op.guard = none) (ty : TypeId) (x : Operand) (ho : op.op = .load ty x)
  {ad : Addr} {k : Nat} (i : Nat) (hx : a.eval x = .pointer (some (ad.add (i * k)))) (cs : List Value) (hrun : (loadVar ty (ad.add (i * k))).run P w = .ok (.agg cs.toArray) w) (h : wpList P ops Q rest (a.put op.dst (.agg cs.toArray)) w) : wpList P ops Q (op :: rest) a w :=
 wpList_plain hgd fun _ hK => by
  unfold Oper.wp execOp
  simp only [ho, hx, Instr.loadAt, Instr.sureAddr, Sem.run_bind, Sem.run_pure, Result.andThen_ok, hrun]
  exact hK _ _ h
theorem Un.bdF_at (l : List Un.Bd) (i : Nat) (B : Un.Bd) (h : l.getD i default = B) (j : Nat) (v : Value) (hj : (Un.bdA B).toList[j]? = some v) : Un.bdF l i j = v := by
 unfold Un.bdF
 dsimp only
 rw [h]
 rcases Nat.eq_zero_or_pos j with rfl | h0
 ·rw [if_pos rfl]
  have : some (Value.string B.name) = some v := hj
  exact Option.some.inj this
 ·have hlt : j < 17 := (List.getElem?_eq_some_iff.1 hj).1
  rw [if_neg omg]
  rw [Un.bdA_get B j h0 hlt] at hj
  exact Option.some.inj hj
theorem Un.dlt (a b : Int) : decide (a < b) = !decide (b ≤ a) := by
 by_cases h : b ≤ a
 ·rw [decide_eq_true h, decide_eq_false omg]; rfl
 ·rw [decide_eq_false h, decide_eq_true omg]; rfl
theorem Un.dle (a b : Int) : decide (a ≤ b) = !decide (b < a) := by
 by_cases h : b < a
 ·rw [decide_eq_true h, decide_eq_false omg]; rfl
 ·rw [decide_eq_false h, decide_eq_true omg]; rfl
theorem un_within (x : Ex.Wk) (p : Ex.Wa) (role bar : Int) (w : World) (hl : x.ro.length ≤ 4611686018427387904) :
  Calls Tryz.prog 30 #[Ex.workV x p, .int .i64 role, .int .i64 bar] w fun e w' => e = .returned (.int .i64 (if Un.within x role bar = true then 0 else 1)) ∧ Below w.heap.size w w' := by
 obtain ⟨r, hr⟩ : ∃ r, (if Un.within x role bar = true then (0 : Int) else 1) = r := ⟨_, rfl⟩
 rw [hr]
 unfold Un.within at hr
 go_enter Tryz.func30, Tryz.ntmps30
 rcases d1 : decide (0 ≤ role) with _ | _ <;> rcases d2 : decide (role < x.ro.length) with _ | _ <;> rcases d3 : decide (0 ≤ bar) with _ | _ <;> rcases d4 : decide (bar < x.n) with _ | _
 all_goals
  rw [d1, d2, d3, d4] at hr
  have HR := qh hr
  clear hr
  have c1 : decide (role < 0) = !decide (0 ≤ role) := Un.dlt _ _
  have c2 : decide ((x.ro.length : Int) ≤ role) = !decide (role < x.ro.length) := Un.dle _ _
  have c3 : decide (bar < 0) = !decide (0 ≤ bar) := Un.dlt _ _
  have c4 : decide (x.n ≤ bar) = !decide (bar < x.n) := Un.dle _ _
  rw [d1] at c1
  rw [d2] at c2
  rw [d3] at c3
  rw [d4] at c4
  simp only [Bool.not_true, Bool.not_false] at c1 c2 c3 c4
  clear d1 d2 d3 d4
  go_wp2_with fail
  go_ret
  exact ⟨by rw [← HR.out]; rfl, by exact Kit.gr⟩
theorem un_or (b c : Nat) (xs : List Int) (w : World) (hn : xs.length ≤ 1000) (hx : ∀ i (h : i < xs.length), w.cell? ⟨b, i, none⟩ = some (.int .i64 (xs[i]'h))) :
  Calls Tryz.prog 28 #[.slice (some ⟨b, 0, none⟩) xs.length c] w fun e w' => e = .returned (.int .i64 (Un.firstE xs)) ∧ w' = w := by
 have HX := qh hx
 clear hx
 obtain ⟨r, hr⟩ : ∃ r, Un.firstE xs = r := ⟨_, rfl⟩
 rw [hr]
 have HR := qh hr
 clear hr
 go_enter Tryz.func28, Tryz.ntmps28
 go_wp2_with fail
 go_loopg [8] xs.length (fun kx s8 wr => ∃ i : Nat, s8 = .int .i64 i ∧ i ≤ xs.length ∧ xs.length - i ≤ kx ∧ wr = w ∧ Hid (Un.firstE (xs.drop i) = r))
 case atStart => exact ⟨0, rfl, by omega, by omega, rfl, HR.out⟩
 case round =>
  obtain ⟨i, rfl, hi, hk, rfl, HA⟩ := hrel
  by_cases hlt : i < xs.length
  ·have hltz : (i : Int) < (xs.length : Int) := by omega
   have hc := HX.out i hlt
   have hd : Un.firstE (xs.drop i) = if xs[i]'hlt = 0 then Un.firstE (xs.drop (i + 1)) else xs[i]'hlt := by rw [List.drop_eq_getElem_cons hlt]; rfl
   have ha := HA.out
   rw [hd] at ha
   generalize xs[i]'hlt = y at hc ha
   clear hd HA
   by_cases h0 : y = 0
   ·rw [if_pos h0] at ha
    have HA := qh ha
    clear ha
    subst h0
    go_wp2
    go_roundg (xs.length - (i + 1))
    case measure => omega
    case rel => exact ⟨i + 1, by first | rfl | go_num | simp, by omega, Nat.le_refl _, rfl, HA⟩
   ·rw [if_neg h0] at ha
    have hn0 : (y != 0) = true := by simp [h0]
    have HA := qh ha
    clear ha h0
    go_wp2
    go_ret
    exact ⟨by rw [← HA.out]; rfl, rfl⟩
  ·obtain rfl : i = xs.length := by omega
   have ha := HA.out
   rw [List.drop_length] at ha
   have HZ := qh (show (0 : Int) = r from ha)
   go_wp2
   go_ret
   exact ⟨by rw [← HZ.out]; rfl, rfl⟩
theorem un_checked (bs : List Un.Bd) (a : Option Addr) (c : Nat) (w : World) (hS : Tp.Sl w a bs.length 17 (Un.bdF bs)) (hl : bs.length ≤ 4611686018427387904) (hs : ∀ b ∈ bs, b.name.size ≤ 9223372036854775807) :
  Calls Tryz.prog 31 #[.slice a bs.length c] w fun e w' => e = .returned (.int .i64 (Un.chkB bs)) ∧ Below w.heap.size w w' := by
 obtain ⟨r, hr⟩ : ∃ r, Un.chkB bs = r := ⟨_, rfl⟩
 rw [hr]
 have hr' : (if (bs.drop 0).all Un.bok = true then (0 : Int) else 250) = r := hr
 have HR := qh hr'
 have HS := qh hS
 have HN := qh hs
 have HI := qh (show (Tryz.prog.info? 36).map (·.size) = some (Un.bdA default).toList.length by kernel_rfl)
 clear hr hr' hS hs
 go_enter Tryz.func31, Tryz.ntmps31
 go_wp2_with fail
 go_loopg [7] bs.length (fun kx s7 wr => ∃ i : Nat, s7 = .int .i64 i ∧ i ≤ bs.length ∧ bs.length - i ≤ kx ∧ Hid (Below w.heap.size w wr) ∧ Hid ((if (bs.drop i).all Un.bok = true then (0 : Int) else 250) = r))
 case atStart => exact ⟨0, rfl, by omega, by omega, qh (Below.refl _ _), HR⟩
 case round =>
  obtain ⟨i, rfl, hi, hk, HB, HA⟩ := hrel
  by_cases hlt : i < bs.length
  ·have hltz : (i : Int) < (bs.length : Int) := by omega
   obtain ⟨ad, rfl, had, _⟩ := HS.out.at hlt
   have h := HS.out.kept HB.out nlr
   obtain ⟨B, hB_⟩ : ∃ y, bs.getD i default = y := ⟨_, rfl⟩
   have HRUN := qh (Kit.run_load_sl (P := Tryz.prog) h hlt 36 (Un.bdA B).toList _ rfl (Un.bdF_at bs i B hB_) Tryz.underlying36 rfl HI.out)
   have HRA := qh (Kit.range_alloc wr (Un.bdA B) 36)
   have HIB := qh (show (Tryz.prog.info? 36).map (·.size) = some (Un.bdA B).toList.length from HI.out)
   have hd : (bs.drop i).all Un.bok = (Un.bok B && (bs.drop (i + 1)).all Un.bok) := by
    rw [List.drop_eq_getElem_cons hlt, List.all_cons, ← hB_, List.getD_eq_getElem?_getD, List.getElem?_eq_getElem hlt]; rfl
   have hm : B ∈ bs := by rw [← hB_, List.getD_eq_getElem?_getD, List.getElem?_eq_getElem hlt]; exact List.getElem_mem hlt
   obtain ⟨kb, hkb⟩ : ∃ kb, Un.bok B = kb := ⟨_, rfl⟩
   have hC := fun W => bd_check B W (HN.out B hm)
   rw [hkb] at hC hd
   have HC := qh hC
   have ha := HA.out
   rw [hd] at ha
   clear h hB_ hm hkb hC hd HA
   go_wp2_with (first
    | ((with_reducible refine Kit.wpList_load_sl ?_ 36 (.tmp 9) ?_ (ad := ad) (k := 17) i ?_ (Un.bdA B).toList HRUN.out ?_); rfl; rfl; rfl)
    | ((with_reducible refine Kit.wpList_store_fresh (x := .tmp 4) (y := .tmp 10) (b := wr.heap.size) (cells := Un.bdA B) ?_ ?_ ?_ ?_ ?_ ?_ HI.out (Un.bdA_one B) ?_); rfl; rfl; rfl; rfl; rfl; rfl)
    | ((with_reducible refine wpList_load_mid ?_ 36 (.tmp 4) ?_ wr.heap.size 0 ?_ (Un.bdA B).toList _ HRA.out Tryz.underlying36 rfl HIB.out ?_); rfl; rfl; rfl))
   refine (HC.out _).mono ?_
   rintro _ w' ⟨rfl, hb⟩
   have HB2 := qh (show Below w.heap.size w w' from Below.trans (B := w.heap.size) (by first | exact HB.out.alloc HB.out.size _ | exact Kit.gr) (hb.mono (by have := HB.out.size; simp; omega)))
   clear hb
   rcases kb with _ | _
   ·have HZ := qh (show (250 : Int) = r from ha)
    clear ha
    go_wp2_with fail
    go_ret
    exact ⟨by rw [← HZ.out]; rfl, HB2.out⟩
   ·have HA2 := qh (show (if (bs.drop (i + 1)).all Un.bok = true then (0 : Int) else 250) = r from ha)
    clear ha
    go_wp2_with fail
    go_roundg (bs.length - (i + 1))
    case measure => omega
    case rel => exact ⟨i + 1, by first | rfl | go_num | simp, by omega, Nat.le_refl _, HB2, HA2⟩
  ·obtain rfl : i = bs.length := by omega
   have ha := HA.out
   rw [List.drop_length] at ha
   have HZ := qh (show (0 : Int) = r from ha)
   go_wp2_with fail
   go_ret
   exact ⟨by rw [← HZ.out]; rfl, HB.out⟩
end Go.Proofs.YtbhgogiaaljclaaGreatDoor

namespace Go.Proofs.YtbhgogiaaljclaaGreatDoor
open Go.RowKit
theorem un_of1 (k : Ex.Sg) (role : Int) (b : Nat) (w : World) (hb : w.cell? ⟨b, 0, none⟩ = some (.int .i64 role)) (hz : b < w.heap.size) :
  Calls Tryz.prog 71 #[Ex.sgV k, .pointer (some ⟨b, 0, none⟩)] w fun e w' => e = .returned (.bool (k.role == role)) ∧ Below w.heap.size w w' := by
 go_enter Tryz.func71, Tryz.ntmps71
 go_wp2
 go_ret
 exact ⟨rfl, by exact Kit.gr⟩
theorem un_lift1 (k : Ex.Sg) (w : World) : Calls Tryz.prog 79 #[Ex.sgV k] w fun e w' => e = .returned (.bool (k.kind == 7)) ∧ Below w.heap.size w w' := by
 go_enter Tryz.func79, Tryz.ntmps79
 go_wp2
 go_ret
 exact ⟨rfl, by exact Kit.gr⟩
theorem un_of (role : Int) (w : World) : Calls Tryz.prog 33 #[.int .i64 role] w fun e w' => e = .returned (.func (.func 71) #[] #[.pointer (some ⟨w.heap.size, 0, none⟩)]) ∧ w' = w.alloc (.cells #[.int .i64 role] 3) := by
 go_enter Tryz.func33, Tryz.ntmps33
 go_wp2
 go_ret
 exact ⟨rfl, rfl⟩
abbrev Un.wkC (x : Ex.Wk) (p : Ex.Wa) : Array Value := #[.int .i64 x.wd, .int .i64 x.dp, .int .i64 x.ta, .int .i64 x.tb, .int .i64 x.tc, .slice p.aR x.ro.length p.cR, .int .i64 x.n, .slice p.aT x.ts.length p.cT, .slice p.aP x.ps.length p.cP, .slice p.aS x.ss.length p.cS, .slice p.aG x.sg.length p.cG]
theorem un_rem (x : Ex.Wk) (p : Ex.Wa) (bar : Int) (g : Nat) (cb : Array Value) (w : World) : Calls Tryz.prog 32 #[Ex.workV x p, .int .i64 bar, .func (.func g) #[] cb] w fun e w' =>
  e = .returned (.func (.func 70) #[] #[.pointer (some ⟨w.heap.size, 0, none⟩), .pointer (some ⟨w.heap.size + 1, 0, none⟩), .pointer (some ⟨w.heap.size + 1 + 1, 0, none⟩)]) ∧
   w' = ((w.alloc (.cells (Un.wkC x p) 32)).alloc (.cells #[.int .i64 bar] 3)).alloc (.cells #[.func (.func g) #[] cb] 95) := by
 go_enter Tryz.func32, Tryz.ntmps32
 go_wp2
 go_ret
 exact ⟨rfl, rfl⟩
def Un.keep (bar : Int) (f : Ex.Sg → Bool) (k : Ex.Sg) : Bool := decide (bar ≤ k.bar) && f k
theorem Un.take_keep (F : Ex.Sg → Bool) (l : List Ex.Sg) (i : Nat) (h : i < l.length) (k : Ex.Sg) (hk : l.getD i default = k) : (l.take (i + 1)).filter F = (l.take i).filter F ++ (if F k = true then [k] else []) := by
 rw [List.take_add_one, List.filter_append]
 rw [List.getD_eq_getElem?_getD, List.getElem?_eq_getElem h] at hk
 rw [List.getElem?_eq_getElem h]
 simp at hk
 simp [List.filter, hk]
 split <;> simp_all
def Un.Zr (BW BB BA : Nat) (Zx : Nat → Prop) (k : Nat) : Prop := k = BW ∨ k = BB ∨ k = BA ∨ Zx k
theorem un_iter (n : Nat) (hn : 1 ≤ n) (BW BB BA : Nat) (L : List Ex.Sg) (aG : Option Addr) (cG : Nat) (bar : Int) (g : Nat) (cb : Array Value) (f : Ex.Sg → Bool) (Zx : Nat → Prop) (w : World)
  (c5 : w.cell? ⟨BW, 10, none⟩ = some (.slice aG L.length cG)) (cB : w.cell? ⟨BB, 0, none⟩ = some (.int .i64 bar)) (cA : w.cell? ⟨BA, 0, none⟩ = some (.func (.func g) #[] cb)) (zW : BW < w.heap.size) (zB : BB < w.heap.size) (zA : BA < w.heap.size)
  (hS : Tp.Sl w aG L.length 14 (Ex.sgc L)) (hl : L.length ≤ 4096) (eg : ∀ args w, (callFunc g args).run Tryz.prog w = .ok (.enter g args) w) (hZx : ∀ k, Zx k → k < w.heap.size) (hZs : ∀ ad, aG = some ad → L.length ≠ 0 → Zx ad.block)
  (hacc : ∀ k W', Kit.Kp (Un.Zr BW BB BA Zx) w W' → Calls Tryz.prog g (#[Ex.sgV k] ++ cb) W' fun e w' => e = .returned (.bool (f k)) ∧ Below W'.heap.size W' w') :
  Kit.SeqR Fence.wide n Tryz.prog 70 #[.pointer (some ⟨BW, 0, none⟩), .pointer (some ⟨BB, 0, none⟩), .pointer (some ⟨BA, 0, none⟩)] (fun k => #[Ex.sgV k]) (fun _ => False) (Un.Zr BW BB BA Zx) (fun xs => xs = L.filter (Un.keep bar f)) (fun _ => True)
   (fun pre k => ∃ i, i < L.length ∧ pre = (L.take i).filter (Un.keep bar f) ∧ L.getD i default = k ∧ Un.keep bar f k = true) w := by
 intro l J Jx Y0 W hW hl1 hl2 hY0 hJ hJx hY h0
 have hZ : ∀ k, Un.Zr BW BB BA Zx k → k < w.heap.size := fun k hk => by
  rcases hk with rfl | rfl | rfl | h
  ·exact zW
  ·exact zB
  ·exact zA
  ·exact hZx k h
 have hKW : Kit.Kp (Un.Zr BW BB BA Zx) w W := ⟨hW.size, fun k hk => ⟨hZ k hk, hW.block k (hZ k hk)⟩⟩
 have HY := qh hY
 have HJ := qh hJ
 have HY0 := qh hY0
 have HZ := qh hZ
 have HKW := qh hKW
 have NL := qh (show ∀ k, Un.Zr BW BB BA Zx k → k ≠ l from fun k hk e => by have := HZ.out k hk; omega)
 have HKC := qh (show ∀ X, Kit.Kp (Un.Zr BW BB BA Zx) w X → X.cell? ⟨BW, 10, none⟩ = some (.slice aG L.length cG) ∧ X.cell? ⟨BB, 0, none⟩ = some (.int .i64 bar) ∧ X.cell? ⟨BA, 0, none⟩ = some (.func (.func g) #[] cb) from fun X h => ⟨h.cell (.inl rfl) c5, h.cell (.inr (.inl rfl)) cB, h.cell (.inr (.inr (.inl rfl))) cA⟩)
 have HSL := qh (show ∀ X, Kit.Kp (Un.Zr BW BB BA Zx) w X → Tp.Sl X aG L.length 14 (Ex.sgc L) from fun X h => by
  by_cases h00 : L.length = 0
  ·exact .inl h00
  rcases hS with h1 | ⟨ad, rfl, h2, h3⟩
  ·exact .inl h1
  ·exact .inr ⟨ad, rfl, Nat.lt_of_lt_of_le h2 h.size, fun i j hi hj => h.cell (.inr (.inr (.inr (by rw [Tp.add_block]; exact hZs ad rfl h00)))) (h3 i j hi hj)⟩)
 have HAC := qh hacc
 clear hY hJ hJx hZ hKW c5 cB cA hS hacc hZs hZx
 refine callsIn_of_wp Tryz.func70 rfl trivial ?_ rfl
 simp only [Tryz.ntmps70, List.size_toArray, List.length_cons, List.length_nil, Nat.reduceAdd, Nat.reduceSub, Array.replicate_succ, Array.replicate_zero, List.push_toArray, List.append_toArray, List.nil_append, List.cons_append]
 obtain ⟨c5, cB, cA⟩ := HKC.out _ HKW.out
 gi_wp2
 gi_loopw [10] (fun v10 wr => ∃ (i : Nat) (Y : Nat → Prop), v10 = .int .i64 i ∧ i ≤ L.length ∧ J ((L.take i).filter (Un.keep bar f)) Y wr ∧ Hid (Kit.Kp (Un.Zr BW BB BA Zx) w wr) ∧ Hid (W.heap.size ≤ wr.heap.size) ∧ Hid (∀ k, Y k → ¬ Un.Zr BW BB BA Zx k))
  (fun v10 _ => L.length - (intOf v10).toNat)
 case atStart => exact ⟨0, Y0, rfl, Nat.zero_le _, h0, HKW, qh nlr, qh (fun k hk => (HY0.out k hk).2.2)⟩
 case round =>
  obtain ⟨i, Y, rfl, hi, hj, HK, HSZ, HYK⟩ := hrel
  have HJD := qh hj
  clear hj c5 cB cA
  by_cases hlt : i < L.length
  ·have hltz : (i : Int) < (L.length : Int) := by omega
   have hsl := HSL.out _ HK.out
   obtain ⟨ad, rfl, had, _⟩ := hsl.at hlt
   (have e0 := hsl.head hlt omg; have e1 := hsl.field hlt (j := 1) omg omg; have e2 := hsl.field hlt (j := 2) omg omg; have e3 := hsl.field hlt (j := 3) omg omg; have e4 := hsl.field hlt (j := 4) omg omg; have e5 := hsl.field hlt (j := 5) omg omg; have e6 := hsl.field hlt (j := 6) omg omg; have e7 := hsl.field hlt (j := 7) omg omg; have e8 := hsl.field hlt (j := 8) omg omg; have e9 := hsl.field hlt (j := 9) omg omg; have e10 := hsl.field hlt (j := 10) omg omg; have e11 := hsl.field hlt (j := 11) omg omg; have e12 := hsl.field hlt (j := 12) omg omg; have e13 := hsl.field hlt (j := 13) omg omg; obtain ⟨k, hk_⟩ : ∃ y, L.getD i default = y := ⟨_, rfl⟩; simp only [Ex.sgc, hk_] at e0 e1 e2 e3 e4 e5 e6 e7 e8 e9 e10 e11 e12 e13)
   have htk := Un.take_keep (Un.keep bar f) L i hlt k hk_
   have hkp : Un.keep bar f k = (decide (bar ≤ k.bar) && f k) := rfl
   have HX := qh hk_
   have HT := qh htk
   have HKP := qh hkp
   obtain ⟨c5, cB, cA⟩ := HKC.out _ HK.out
   clear hsl htk hkp hk_
   have zB2 : BB < wr.heap.size := Nat.lt_of_lt_of_le zB HK.out.size
   have zA2 : BA < wr.heap.size := Nat.lt_of_lt_of_le zA HK.out.size
   rcases d1 : decide (bar ≤ k.bar) with _ | _
   ·have HE := qh (show _ = (L.take i).filter (Un.keep bar f) from HT.out.trans (by rw [HKP.out, d1]; exact List.append_nil _))
    have HKA := qh (show Kit.Kp (Un.Zr BW BB BA Zx) w (wr.alloc (.cells #[Value.int .i64 k.id, .int .i64 k.role, .int .i64 k.bar, .int .i64 k.mark, .int .i64 k.kind, .int .i64 k.side, .int .i64 k.dir, .int .i64 k.level, .int .i64 k.size, .int .i64 k.wth, .int .i64 k.fn, .int .i64 k.fd, .int .i64 k.tn, .int .i64 k.td] 52)) from HK.out.exc ((Kit.Exc.refl (fun _ => False) _).alloc _) (fun _ _ h => h))
    have HJA := qh (HJ.out _ _ _ (wr.alloc (.cells #[Value.int .i64 k.id, .int .i64 k.role, .int .i64 k.bar, .int .i64 k.mark, .int .i64 k.kind, .int .i64 k.side, .int .i64 k.dir, .int .i64 k.level, .int .i64 k.size, .int .i64 k.wth, .int .i64 k.fn, .int .i64 k.fd, .int .i64 k.tn, .int .i64 k.td] 52)) HJD.out ((Kit.Exc.refl _ wr).alloc _))
    have HSA := qh (show W.heap.size ≤ (wr.alloc (.cells #[Value.int .i64 k.id, .int .i64 k.role, .int .i64 k.bar, .int .i64 k.mark, .int .i64 k.kind, .int .i64 k.side, .int .i64 k.dir, .int .i64 k.level, .int .i64 k.size, .int .i64 k.wth, .int .i64 k.fn, .int .i64 k.fd, .int .i64 k.tn, .int .i64 k.td] 52)).heap.size from by have := HSZ.out; simp; omega)
    gi_wp2
    refine ⟨(fun f h => by cases h), ?_⟩
    gi_wp2
    go_roundw
    case rel => exact ⟨i + 1, Y, by go_num, by omega, by rw [HE.out]; exact HJA.out, HKA, HSA, HYK⟩
    case measure => simp [intOf]; omega
   ·gi_wp2
    refine ⟨trivial, CallsIn.mono (callsIn_wide.2 (HAC.out k _ (HK.out.exc ((Kit.Exc.refl (fun _ => False) _).alloc _) (fun _ _ h => h)))) ?_⟩
    rintro e w1 ⟨rfl, hb1⟩
    have E1 : ∀ S, Kit.Exc S wr w1 := fun S => ((Kit.Exc.refl S wr).alloc _).then hb1
    have HK1 := qh (HK.out.exc (E1 (fun _ => False)) (fun _ _ h => h))
    have HJ1 := qh (HJ.out _ _ _ _ HJD.out (E1 _))
    have HS1 := qh (Nat.le_trans HSZ.out (E1 (fun _ => False)).size)
    have hsb : ∀ j, w1.cell? ⟨wr.heap.size, j, none⟩ = #[Value.int .i64 k.id, .int .i64 k.role, .int .i64 k.bar, .int .i64 k.mark, .int .i64 k.kind, .int .i64 k.side, .int .i64 k.dir, .int .i64 k.level, .int .i64 k.size, .int .i64 k.wth, .int .i64 k.fn, .int .i64 k.fd, .int .i64 k.tn, .int .i64 k.td][j]? := fun j => by
     rw [World.cell?_of_block (hb1.block wr.heap.size (by simp))]
     simp [go_sem]
    have HKP2 := qh (show Un.keep bar f k = f k by rw [HKP.out, d1]; rfl)
    clear hb1 E1 e0 e1 e2 e3 e4 e5 e6 e7 e8 e9 e10 e11 e12 e13 c5 cB cA
    rcases fk : f k with _ | _
    ·have HE := qh (show _ = (L.take i).filter (Un.keep bar f) from HT.out.trans (by rw [HKP2.out, fk]; exact List.append_nil _))
     gi_wp2
     refine ⟨(fun f h => by cases h), ?_⟩
     gi_wp2
     go_roundw
     case rel => exact ⟨i + 1, Y, by go_num, by omega, by rw [HE.out]; exact HJ1.out, HK1, HS1, HYK⟩
     case measure => simp [intOf]; omega
    ·have HE := qh (show _ = (L.take i).filter (Un.keep bar f) ++ [k] from HT.out.trans (by rw [HKP2.out, fk]; rfl))
     obtain ⟨fn, tmps, assign, body, hyy, hR⟩ := HY.out _ k Y _ HJ1.out ⟨i, hlt, rfl, HX.out, by rw [HKP2.out, fk]⟩
     gi_wp2
     refine hR.mono ?_
     rintro e W3 ⟨Y3, hx3, hy3, (⟨rfl, hj3⟩ | ⟨rfl, hj3⟩)⟩
     ·have HK3 := qh (HK1.out.exc hx3 (fun q hq h => h.elim (fun h => HYK.out q h hq) (fun e => NL.out q hq e)))
      have HY3 := qh (show ∀ q, Y3 q → ¬ Un.Zr BW BB BA Zx q from fun q hq => (hy3 q hq).1.elim (HYK.out q) (fun h hz => by
       have h1 := HZ.out q hz
       have h2 := HS1.out
       have h3 := hW.size
       omega))
      have HS3 := qh (Nat.le_trans HS1.out hx3.size)
      have HJ3 := qh hj3
      clear hx3 hy3 hj3 hyy hR hsb
      gi_wp2
      go_roundw
      case rel => exact ⟨i + 1, Y3, by go_num, by omega, by rw [HE.out]; exact HJ3.out, HK3, HS3, HY3⟩
      case measure => simp [intOf]; omega
     ·have HJ3 := qh hj3
      clear hx3 hy3 hj3 hyy hR hsb
      gi_wp2
      refine bodyPost_ret (results_none rfl _ _ _) rfl ?_
      exact ⟨⟨_, rfl⟩, Y3, .inr ⟨_, trivial, HJ3.out⟩⟩
  ·obtain rfl : i = L.length := by omega
   have HF := qh (show J (L.filter (Un.keep bar f)) Y wr by have := HJD.out; rwa [List.take_length] at this)
   gi_wp2
   go_end0
   exact ⟨⟨_, rfl⟩, Y, .inl ⟨_, rfl, HF.out⟩⟩
end Go.Proofs.YtbhgogiaaljclaaGreatDoor
