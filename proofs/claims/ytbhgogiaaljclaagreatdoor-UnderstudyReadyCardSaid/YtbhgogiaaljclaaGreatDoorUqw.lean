/- Walks: the reference of layer 48: danced. Walks: the reference of layer 48: lifts. Walks: the reference of layer 48: Lifts. -/
import Derived.Test.YtbhgogiaaljclaaGreatDoorUqz
import Derived.Test.YtbhgogiaaljclaaGreatDoorUrx
import Derived.ArgAppend
import Derived.Test.YtbhgogiaaljclaaGreatDoorUuj
import Derived.Great.BuildSlice
set_option linter.unusedSimpArgs false
set_option linter.unusedVariables false
set_option maxRecDepth 100000
set_option maxHeartbeats 8000000
namespace Go.Proofs.YtbhgogiaaljclaaGreatDoor
open Go.RowKit Go.Shelf
namespace Kit
section
variable {P : Program}
theorem run_app_zero (w : World) (t ty e : TypeId) (i : TypeInfo) (ht : P.underlying t = some (.slice e)) (hi : P.info? e = some i) (b : Option Addr) (n cap : Nat) (a : Option Addr) (c : Nat) (hn : n ≤ cap) :
  (Builtin.append_ #[t, t] ty #[.slice b n cap, .slice a 0 c]).run P w = .ok (.slice b n cap) w := by
 cases a with
 | none =>
  unfold Builtin.append_
  cases b <;> simp [Builtin.lenOf, Builtin.firstCells, hn, go_sem, run_underlying ht, run_sizeOf w hi]
 | some a =>
  have hfc := run_firstCells_some (P := P) w i.size 0 a 0 c [] (by simp) (by simp)
  cases b <;> simp [Builtin.append_, run_underlying ht, sizeOf, typeInfo, hi, Builtin.lenOf, hn, hfc, storeCells]
theorem run_app_empty {t e : TypeId} {z : Value} {size bytes : Nat} (E : El P t e z size bytes) (w : World) (ty : TypeId) {B b : Nat} (h : w.ownsRow B e size (.slice (some ⟨b, 0, none⟩) 0 0) 0 []) (hB : B ≤ w.heap.size)
  (a0 : Option Addr) (m c : Nat) (news : List Value) (hm : m ≤ 1000000000) (hl : news.length = m * size) (h0 : m ≠ 0 → ∃ ad, a0 = some ad ∧ ∀ j u, news[j]? = some u → w.cell? (ad.add j) = some u) :
  ∃ v' w', (Builtin.append_ #[t, t] ty #[.slice (some ⟨b, 0, none⟩) 0 0, .slice a0 m c]).run P w = .ok v' w' ∧ w'.ownsRow B e size v' m news ∧ Below w.heap.size w w' := by
 obtain ⟨i, hi, hz, hsz, hby⟩ := info_parts E.info
 by_cases h1 : m = 0
 ·subst h1
  obtain rfl : news = [] := List.eq_nil_of_length_eq_zero (by simpa using hl)
  exact ⟨_, w, run_app_zero w t ty e i E.under hi _ 0 0 a0 c nlr, h, Below.refl _ _⟩
 ·obtain ⟨ad, rfl, hc⟩ := h0 h1
  have hb : (0 + m) * bytes ≤ 140737488355328 := Nat.le_trans (Nat.mul_le_mul (show 0 + m ≤ 2000000000 by omega) E.small) omg
  obtain ⟨v', w', hrun, h2, h3⟩ := run_append_arg_grows (P := P) w t ty e i z size bytes E.under hi hz hsz hby E.cells E.pos ⟨b, 0, none⟩ 0 0 [] (by simp) (by simp) ad m c news hl hc omg (by unfold maxLen; omega) hb
  refine ⟨v', w', hrun, ?_, ((Kit.Exc.refl (fun _ => False) w).grown h3 (fun k hk => by cases hk)).below nlr (fun _ h => h.elim)⟩
  rw [Nat.zero_add, List.nil_append] at h2
  exact h2.mono hB
theorem wpList_app_empty {t e : TypeId} {z : Value} {size bytes : Nat} (E : El P t e z size bytes) (w : World) {ops : Array Oper} {rest : List Oper} {o : Oper} {a : Act} {Q : Exit → Act → World → Prop} (hgd : o.guard = none) (s x : Operand)
  (ho : o.op = .call { callee := .builtin .append, args := #[s, x], argTypes := #[t, t] }) {B b : Nat} (hs : a.eval s = .slice (some ⟨b, 0, none⟩) 0 0) (h : w.ownsRow B e size (.slice (some ⟨b, 0, none⟩) 0 0) 0 []) (hB : B ≤ w.heap.size)
  (a0 : Option Addr) (m c : Nat) (news : List Value) (hm : m ≤ 1000000000) (hx : a.eval x = .slice a0 m c) (hl : news.length = m * size) (h0 : m ≠ 0 → ∃ ad, a0 = some ad ∧ ∀ j u, news[j]? = some u → w.cell? (ad.add j) = some u)
  (cont : ∀ v' w', w'.ownsRow B e size v' m news → Below w.heap.size w w' → wpList P ops Q rest (a.put o.dst v') w') : wpList P ops Q (o :: rest) a w := by
 obtain ⟨v', w', hrun, h1, h2⟩ := run_app_empty E w o.type h hB a0 m c news hm hl h0
 refine wpList_plain hgd fun K hK => ?_
 unfold Oper.wp
 simp [execOp, ho, resolve, invoke, builtin, hs, hx, hrun, Result.andThen]
 exact hK _ _ (cont _ _ h1 h2)
end
end Kit
namespace Un
theorem wpList_name2 {P : Program} {ops : Array Oper} {Q : Exit → Act → World → Prop} {l : List Oper} {a : Act} {w : World} (h : ∀ W, W = w → wpList P ops Q l a W) : wpList P ops Q l a w := h w rfl
theorem below_setCells2 {w : World} {n b : Nat} (hb : n ≤ b) : ∀ (vs : List Value) (o : Nat) {w' : World}, Below n w w' → Below n w (w'.setCells b o vs)
 | [], _, _, h => h
 | v :: vs, o, _, h => below_setCells2 hb vs (o + 1) (h.setCell (by simpa using hb) v)
theorem bds_cells {w : World} {a : Option Addr} {l : List Bd} (h : Tp.Sl w a l.length 17 (bdF l)) : l.length ≠ 0 → ∃ ad, a = some ad ∧ ∀ j u, (bdsV l)[j]? = some u → w.cell? (ad.add j) = some u := by
 intro h0
 obtain ⟨ad, e, _, _⟩ := h.at (i := 0) omg
 refine ⟨ad, e, fun j u hu => ?_⟩
 have hj : j < l.length * 17 := by rw [← bdsV_len]; exact (List.getElem?_eq_some_iff.1 hu).1
 obtain ⟨ad', e', _, hc⟩ := h.at (i := j / 17) omg
 obtain rfl : ad = ad' := by rw [e] at e'; exact Option.some.inj e'
 have h1 := hc (j % 17) omg
 rw [show j / 17 * 17 + j % 17 = j by omega] at h1
 have h2 := bdsV_at l (j / 17) (j % 17) omg omg
 rw [show j / 17 * 17 + j % 17 = j by omega, hu] at h2
 rw [h1, ← h2]
theorem set_sl {w : World} {g n : Nat} {B : Bd} {bs : List Bd} (hn : n = bs.length) (h : Tp.Sl w (some ⟨g, 0, none⟩) n 17 (bdF bs)) (r : Nat) (hr : r < n) (ht : w.there g (r * 17) 17) :
  Tp.Sl (w.setCells g (r * 17) (bdA B).toList) (some ⟨g, 0, none⟩) n 17 (bdF (bs.set r B)) := by
 subst hn
 have h17 : (bdA B).toList.length = 17 := rfl
 refine .inr ⟨_, rfl, ?_, fun i j hi hj => ?_⟩
 ·obtain ⟨ad, e, hb, _⟩ := h.at hr
  cases e
  have : (w.setCells g (r * 17) (bdA B).toList).heap.size = w.heap.size := by simp
  rw [this]; exact hb
 ·rw [Addr.add_lit, Nat.zero_add]
  by_cases e : i = r
  ·subst e
   have h1 := World.rangeAt_setCells_same w g (i * 17) (bdA B).toList (by rw [h17]; exact ht)
   have hs : (bs.set i B).getD i default = B := by simp [List.getD, hr]
   have hv : (bdA B).toList[j]? = some (bdF (bs.set i B) i j) := by
    rw [List.getElem?_eq_getElem (show j < (bdA B).toList.length from by rw [h17]; exact hj)]
    congr 1
    exact (bdF_at _ i B hs j _ (List.getElem?_eq_getElem (show j < (bdA B).toList.length from by rw [h17]; exact hj))).symm
   exact h1 j _ hv
  ·have hs : (bs.set r B).getD i default = bs.getD i default := by simp [List.getD, List.getElem?_set, Ne.symm e]
   have hf : bdF (bs.set r B) i j = bdF bs i j := by unfold bdF; rw [hs]
   rw [hf]
   obtain ⟨ad, e', _, hc⟩ := h.at hi
   cases e'
   have h1 := hc j hj
   rw [Addr.add_lit, Nat.zero_add] at h1
   have h2 := World.rangeAt_setCells_apart (w := w) (b' := g) (o' := i * 17 + j) (cs := [bdF bs i j]) (fun q u hq => by
    rcases q with _ | q
    ·simp at hq; subst hq; exact h1
    ·simp at hq) g (r * 17) (bdA B).toList (by rw [h17]; simp; omega)
   exact h2 0 _ rfl
end Un
theorem ru_danced (bs : List Un.Bd) (a : Option Addr) (c : Nat) (B : Un.Bd) (r : Nat) (w : World) (hS : Tp.Sl w a bs.length 17 (Un.bdF bs)) (hl : bs.length ≤ 1000000000) (hr : r < bs.length) :
  Calls Tryz.prog 41 #[.slice a bs.length c, .agg (Un.bdA B), .int .i64 r] w fun e w' => (∃ a' c', e = .returned (.slice a' bs.length c') ∧ Tp.Sl w' a' bs.length 17 (Un.bdF (bs.set r B))) ∧ Below w.heap.size w w' := by
 have HS := qh hS
 have HI := qh (show (Tryz.prog.info? 36).map (·.size) = some (Un.bdA B).toList.length by kernel_rfl)
 have HI2 := qh (show (Tryz.prog.info? 36).map (·.size) = some (Un.bdA B).size by kernel_rfl)
 have hrz : (r : Int) < (bs.length : Int) := by omega
 clear hS
 go_enter Tryz.func41, Tryz.ntmps41
 go_upto_region 1 with fail
 refine Kit.wp_name ?_
 intro W1 hW1
 have hrb : W1.rangeAt w.heap.size 0 (Un.bdA B).toList := by rw [hW1]; exact Kit.range_alloc w _ _
 have hb1 : Below w.heap.size w W1 := by rw [hW1]; exact Kit.gr
 have hz1 : w.heap.size < W1.heap.size := by rw [hW1]; simp
 have HR1 := qh hrb
 have HB1 := qh hb1
 have HS1 := qh (HS.out.kept hb1 nlr)
 clear hW1 hrb hb1 HS
 go_upto_region 2 with (at_builtin; refine Kit.wpList_app_empty Un.elB _ rfl _ _ rfl rfl (Uo.lit_row W1 [] _ W1.heap.size W1.heap.size 17 0 rfl nlr rfl (by unfold maxLen; omega)) (by simp) a bs.length c (Un.bdsV bs) hl rfl (Un.bdsV_len bs) (Un.bds_cells (HS1.out.kept (B := W1.heap.size) ((Below.refl _ _).alloc nlr _) nlr)) ?_; intro v2 w2 ho hb; have HO2 := qh ho; have HB2 := qh hb; clear ho hb)
 have hb12 : Below W1.heap.size W1 w2 := Below.trans ((Below.refl _ _).alloc nlr _) (HB2.out.mono (by simp))
 have HR2 := qh (Kit.range_kept HR1.out hb12 hz1)
 have HBW := qh (HB1.out.trans (hb12.mono HB1.out.size))
 obtain ⟨av, cv, rfl, hsl⟩ := Kit.own_sl (f := Un.bdF bs) HO2.out (fun i j hi hj => Un.bdsV_at bs i j hi hj)
 obtain ⟨g, rfl, hgW, htg⟩ : ∃ g, av = some ⟨g, 0, none⟩ ∧ W1.heap.size ≤ g ∧ w2.there g (r * 17) 17 := by
  rcases HO2.out.2 with ⟨e, hn⟩ | ⟨g, cap, cur, e, hb, hg, hnc, hcm, hcs, _⟩
  ·omega
  ·injection e with e1 e2 e3
   refine ⟨g, e1, hb, fun j hj => ?_⟩
   have h17 : r * 17 + j < cur.size := by
    rw [hcs]
    have : (r + 1) * 17 ≤ cap * 17 := Nat.mul_le_mul omg nlr
    omega
   constructor
   ·simp only [World.cell?, hg]; simp [h17]
   ·simp only [World.frozen?, hg]; rfl
 have HSL := qh hsl
 have HT2 := qh (show w2.there g (r * 17) (Un.bdA B).size from htg)
 clear hb12 hsl HB2 HO2 HR1 HB1 HS1
 go_wp2_with (first | ((with_reducible refine wpList_load_mid ?_ 36 (.tmp 4) ?_ (w.heap.size) 0 ?_ (Un.bdA B).toList _ HR2.out Tryz.underlying36 rfl HI.out ?_); rfl; rfl; rfl) | ((with_reducible refine Kit.wpList_store_at (ty := 36) (x := .tmp 14) (y := .tmp 13) (p := ⟨g, r * 17, none⟩) (b := g) (o := r * 17) (cells := Un.bdA B) ?_ ?_ ?_ rfl ?_ HT2.out HI2.out (Un.bdA_one B) ?_); rfl; rfl; rfl; rfl; refine Un.wpList_name2 ?_; intro X hX; have HX := qh hX; clear hX))
 go_ret
 refine ⟨⟨_, _, rfl, ?_⟩, ?_⟩
 ·rw [HX.out]; exact Un.set_sl rfl HSL.out r hr htg
 ·rw [HX.out]; exact Un.below_setCells2 omg _ _ HBW.out
end Go.Proofs.YtbhgogiaaljclaaGreatDoor

namespace Go.Proofs.YtbhgogiaaljclaaGreatDoor
open Go.RowKit Go.Shelf
namespace Un
def liftK (bar role : Int) (k : Ex.Sg) : Bool := decide (bar ≤ k.bar) && (k.kind == 7) && (k.role == role || k.wth == role + 1)
def heavyD (D : List Bd) (k : Ex.Sg) : Bool := decide ((D.getD k.role.toNat default).lift < (D.getD (k.wth - 1).toNat default).weight)
def bothK (D : List Bd) (bar role : Int) (k : Ex.Sg) : Bool := liftK bar role k && heavyD D k
def liftFrom (x : Ex.Wk) (D : List Bd) (role bar : Int) (i : Nat) : Int × Bool :=
 match (x.sg.drop i).find? (bothK D bar role) with
 | some k => (k.id, false)
 | none => (0, true)
theorem liftFrom_end (x : Ex.Wk) (D : List Bd) (role bar : Int) : liftFrom x D role bar x.sg.length = (0, true) := by unfold liftFrom; rw [List.drop_length]; rfl
theorem liftFrom_skip (x : Ex.Wk) (D : List Bd) (role bar : Int) (i : Nat) (h : i < x.sg.length) (hm : bothK D bar role (x.sg.getD i default) = false) : liftFrom x D role bar i = liftFrom x D role bar (i + 1) := by
 unfold liftFrom
 rw [Tp.drop_cons x.sg default i h, List.find?_cons_of_neg (by rw [hm]; decide)]
theorem liftFrom_hit (x : Ex.Wk) (D : List Bd) (role bar : Int) (i : Nat) (h : i < x.sg.length) (hm : bothK D bar role (x.sg.getD i default) = true) : liftFrom x D role bar i = ((x.sg.getD i default).id, false) := by
 unfold liftFrom
 rw [Tp.drop_cons x.sg default i h, List.find?_cons_of_pos hm]
theorem find_same {α : Type} {f g : α → Bool} : ∀ (l : List α), (∀ a ∈ l, f a = g a) → l.find? f = l.find? g
 | [], _ => rfl
 | a :: l, h => by
  rw [List.find?_cons, List.find?_cons, h a (by simp), find_same l (fun b hb => h b (by simp [hb]))]
theorem liftFrom_heavy (x : Ex.Wk) (hg : Ex.Good x) (bs : List Bd) (B : Bd) (r : Nat) (bar : Int) (hln : bs.length = x.ro.length) (hr : r < bs.length) : liftFrom x (bs.set r B) r bar 0 = ((heavyR x bs B r bar).1, !(heavyR x bs B r bar).2) := by
 unfold liftFrom heavyR
 rw [List.drop_zero, List.find?_filter]
 have e : x.sg.find? (bothK (bs.set r B) bar r) = x.sg.find? (fun a => decide (lift bar a = true ∧ heavy bs B r a = true)) := by
  apply find_same
  intro k hk
  rw [Bool.eq_iff_iff, decide_eq_true_eq]
  unfold bothK liftK heavyD lift heavy
  simp only [Bool.and_eq_true, Bool.or_eq_true, decide_eq_true_eq, beq_iff_eq]
  by_cases h7 : k.kind = 7
  ·have hf := lift_fit (hg.oks k hk) h7
   have hw : ∀ q : Int, 0 ≤ q → q < bs.length → (bs.set r B).getD q.toNat default = who bs B r q := fun q h0 h1 => by
    unfold who
    by_cases hq : q = r
    ·rw [if_pos hq, hq]; simp [List.getD, hr]
    ·rw [if_neg hq]
     simp [List.getD, List.getElem?_set, show ¬ r = q.toNat by omega]
   rw [hw k.role hf.1.1 omg, hw (k.wth - 1) omg omg]
   constructor
   ·rintro ⟨⟨⟨h1, h2⟩, h3⟩, h4⟩
    exact ⟨⟨h1, h2⟩, h3.imp id (fun h => by omega), h4⟩
   ·rintro ⟨⟨h1, h2⟩, h3, h4⟩
    exact ⟨⟨⟨h1, h2⟩, h3.imp id (fun h => by omega)⟩, h4⟩
  ·constructor
   ·rintro ⟨⟨⟨_, h2⟩, _⟩, _⟩; exact absurd h2 h7
   ·rintro ⟨⟨_, h2⟩, _⟩; exact absurd h2 h7
 rw [e]
 cases x.sg.find? (fun a => decide (lift bar a = true ∧ heavy bs B r a = true)) <;> rfl
end Un
theorem ru_lifts (x : Ex.Wk) (p : Ex.Wa) (D : List Un.Bd) (aD : Option Addr) (cD : Nat) (role bar : Int) (w : World) (ha : Ex.At w x p) (hg : Ex.Good x) (hS : Tp.Sl w aD D.length 17 (Un.bdF D)) (hln : D.length = x.ro.length) (hr0 : 0 ≤ role) (hr1 : role < D.length) (s : Int) (ok : Bool) (hr : Un.liftFrom x D role bar 0 = (s, ok)) :
  Calls Tryz.prog 40 #[Ex.workV x p, .slice aD D.length cD, .int .i64 role, .int .i64 bar] w fun e w' => e = .returned (.tuple #[.int .i64 s, .bool ok]) ∧ Below w.heap.size w w' := by
 obtain ⟨aR, cR, aT, cT, aP, cP, aS, cS, aG, cG⟩ := p
 have hsl := ha.sg
 replace hsl : Tp.Sl w aG x.sg.length 14 (Ex.sgc x.sg) := hsl
 have HSL := qh hsl
 have HSD := qh hS
 have hlen := hg.len
 have hrl : D.length ≤ 64 := by rw [hln]; exact hg.roles
 have HFIT := qh (show ∀ k ∈ x.sg, k.kind = 7 → (0 ≤ k.role ∧ k.role < D.length) ∧ (1 ≤ k.wth ∧ k.wth ≤ D.length) from fun k hk h7 => by rw [hln]; exact Un.lift_fit (hg.oks k hk) h7)
 have HR := qh hr
 clear ha hg hsl hr hS hln
 go_enter Tryz.func40, Tryz.ntmps40
 go_upto_region 1 with fail
 refine Kit.wp_name ?_
 intro W1 hW1
 have hwk : ∀ j, W1.cell? ⟨w.heap.size, j, none⟩ = (Un.wkC x ⟨aR, cR, aT, cT, aP, cP, aS, cS, aG, cG⟩)[j]? := fun j => by rw [hW1]; simp [go_sem]
 have hz1 : w.heap.size < W1.heap.size := by rw [hW1]; simp
 have HB1 := qh (show Below w.heap.size w W1 by rw [hW1]; exact Kit.gr)
 have HWK := qh (fun wr (h : Below W1.heap.size W1 wr) => (⟨fun j => (World.cell?_of_block (h.block w.heap.size omg)).trans (hwk j), Nat.lt_of_lt_of_le hz1 h.size⟩ : (∀ j, wr.cell? ⟨w.heap.size, j, none⟩ = (Un.wkC x ⟨aR, cR, aT, cT, aP, cP, aS, cS, aG, cG⟩)[j]?) ∧ w.heap.size < wr.heap.size))
 clear hW1 hwk
 go_wp2_with fail
 go_loopg [10] x.sg.length (fun kx v10 wr => ∃ i : Nat, v10 = .int .i64 i ∧ i ≤ x.sg.length ∧ x.sg.length - i ≤ kx ∧ Hid (Un.liftFrom x D role bar 0 = Un.liftFrom x D role bar i) ∧ Hid (Below W1.heap.size W1 wr))
 case atStart => exact ⟨0, rfl, by omega, by omega, qh rfl, qh (Below.refl _ _)⟩
 case round =>
  obtain ⟨i, rfl, hi, hk, HF, HB⟩ := hrel
  obtain ⟨wk, hzb⟩ := HWK.out _ HB.out
  by_cases hlt : i < x.sg.length
  ·have hltz : (i : Int) < (x.sg.length : Int) := by omega
   have hsl := HSL.out.kept (HB1.out.trans (HB.out.mono HB1.out.size)) nlr
   obtain ⟨ad, rfl, hadb, _⟩ := HSL.out.at hlt
   (have e0 := hsl.head hlt omg; have e1 := hsl.field hlt (j := 1) omg omg; have e2 := hsl.field hlt (j := 2) omg omg; have e3 := hsl.field hlt (j := 3) omg omg; have e4 := hsl.field hlt (j := 4) omg omg; have e5 := hsl.field hlt (j := 5) omg omg; have e6 := hsl.field hlt (j := 6) omg omg; have e7 := hsl.field hlt (j := 7) omg omg; have e8 := hsl.field hlt (j := 8) omg omg; have e9 := hsl.field hlt (j := 9) omg omg; have e10 := hsl.field hlt (j := 10) omg omg; have e11 := hsl.field hlt (j := 11) omg omg; have e12 := hsl.field hlt (j := 12) omg omg; have e13 := hsl.field hlt (j := 13) omg omg; obtain ⟨y, hy_⟩ : ∃ y, x.sg.getD i default = y := ⟨_, rfl⟩; simp only [Ex.sgc, hy_] at e0 e1 e2 e3 e4 e5 e6 e7 e8 e9 e10 e11 e12 e13)
   have hmem : y ∈ x.sg := by rw [← hy_, List.getD_eq_getElem?_getD, List.getElem?_eq_getElem hlt]; exact List.getElem_mem hlt
   have HY := qh hy_
   have HFY := qh (HFIT.out y hmem)
   clear hy_ hsl hmem
   rcases d1 : decide (y.bar < bar) with _ | _
   case true =>
    have HE := qh (HF.out.trans (Un.liftFrom_skip x D role bar i hlt (by rw [HY.out]; unfold Un.bothK Un.liftK; rw [show decide (bar ≤ y.bar) = false by simp at d1 ⊢; omega]; rfl)))
    go_wp2_with fail
    go_roundg (x.sg.length - (i + 1))
    case measure => omega
    case rel => exact ⟨i + 1, by go_num, by omega, Nat.le_refl _, HE, qh (HB.out.alloc HB.out.size _)⟩
   rcases d2 : (y.kind != 7) with _ | _
   case true =>
    have HE := qh (HF.out.trans (Un.liftFrom_skip x D role bar i hlt (by rw [HY.out]; unfold Un.bothK Un.liftK; rw [show (y.kind == 7) = false by simpa using d2]; simp)))
    go_wp2_with fail
    go_roundg (x.sg.length - (i + 1))
    case measure => omega
    case rel => exact ⟨i + 1, by go_num, by omega, Nat.le_refl _, HE, qh (HB.out.alloc HB.out.size _)⟩
   have h7 : y.kind = 7 := by simpa using d2
   have hf := HFY.out h7
   obtain ⟨u, hu⟩ : ∃ u : Nat, y.role = u := ⟨y.role.toNat, by omega⟩
   obtain ⟨q, hq⟩ : ∃ q : Nat, y.wth = (q : Int) + 1 := ⟨(y.wth - 1).toNat, by omega⟩
   have hul : u < D.length := by omega
   have hql : q < D.length := by omega
   rw [hu] at e1
   rw [hq] at e9
   have HU := qh hu
   have HQ := qh hq
   have HLK := qh (show Un.liftK bar role y = ((u : Int) == role || (q : Int) + 1 == role + 1) by
    unfold Un.liftK
    rw [show decide (bar ≤ y.bar) = true by simp at d1 ⊢; omega, show (y.kind == 7) = true by simpa using h7, hu, hq]; rfl)
   clear h7 hf hu hq HFY
   obtain ⟨c3, hc3⟩ : ∃ c, ((u : Int) != role) = c := ⟨_, rfl⟩
   obtain ⟨c4, hc4⟩ : ∃ c, ((q : Int) + 1 != role + 1) = c := ⟨_, rfl⟩
   have HC := qh (show Un.liftK bar role y = (!c3 || !c4) by rw [HLK.out, ← hc3, ← hc4]; simp [bne])
   have hrw : IntKind.i64.wrap (role + 1) = role + 1 := by rw [IntKind.wrap_i64] <;> omega
   rcases c34 : (c3 && c4) with _ | _
   case true =>
    have HE := qh (HF.out.trans (Un.liftFrom_skip x D role bar i hlt (by rw [HY.out]; unfold Un.bothK; rw [HC.out]; cases c3 <;> cases c4 <;> simp at c34 ⊢)))
    obtain ⟨rfl, rfl⟩ : c3 = true ∧ c4 = true := by simpa using c34
    clear c34
    go_wp2_with fail
    go_roundg (x.sg.length - (i + 1))
    case measure => omega
    case rel => exact ⟨i + 1, by go_num, by omega, Nat.le_refl _, HE, qh (HB.out.alloc HB.out.size _)⟩
   have HLT := qh (show Un.liftK bar role y = true by rw [HC.out]; cases c3 <;> cases c4 <;> simp at c34 ⊢)
   clear HC HLK
   obtain ⟨b1, hb1⟩ : ∃ b, D.getD q default = b := ⟨_, rfl⟩
   obtain ⟨b2, hb2⟩ : ∃ b, D.getD u default = b := ⟨_, rfl⟩
   obtain ⟨hv, hhv⟩ : ∃ h, decide (b2.lift < b1.weight) = h := ⟨_, rfl⟩
   have HHV := qh (show Un.bothK D bar role y = hv by
    unfold Un.bothK Un.heavyD
    rw [HLT.out, HU.out, HQ.out, show ((u : Int)).toNat = u by omega, show ((q : Int) + 1 - 1).toNat = q by omega, hb1, hb2, hhv]; rfl)
   have hsd := HSD.out.kept (HB1.out.trans (HB.out.mono HB1.out.size)) nlr
   obtain ⟨ad2, had2, hadb2, _⟩ := HSD.out.at hql
   rw [had2] at hsd
   have f1 := hsd.field hql (j := 1) omg omg
   have f2 := hsd.field hul (j := 2) omg omg
   unfold Un.bdF at f1 f2
   rw [hb1] at f1
   rw [hb2] at f2
   replace f1 : _ = some (Value.int .i64 b1.weight) := f1
   replace f2 : _ = some (Value.int .i64 b2.lift) := f2
   obtain rfl : aD = some ad2 := had2
   have HFF := qh (fun X (h : Below wr.heap.size wr X) => (⟨(h.cell (by first | (simp [Tp.add_block]; omega) | (simp; omega))).trans f1, (h.cell (by first | (simp [Tp.add_block]; omega) | (simp; omega))).trans f2⟩ : _ ∧ _))
   clear hb1 hb2 hsd
   generalize b1.weight = wq at *
   generalize b2.lift = lu at *
   have hq0 : (0 : Int) ≤ (q : Int) + 1 - 1 := by omega
   have hqw : IntKind.i64.wrap ((q : Int) + 1 - 1) = (q : Int) := by rw [IntKind.wrap_i64] <;> omega
   have huz : (u : Int) < (D.length : Int) := by omega
   have hqz : (q : Int) < (D.length : Int) := by omega
   rcases c3 with _ | _ <;> rcases c4 with _ | _
   case true.true => simp at c34
   all_goals
    clear c34
    go_upto_region 6 with fail
    refine Kit.wp_name ?_
    intro W2 hW2
    have hb2 : Below wr.heap.size wr W2 := by rw [hW2]; exact Kit.gr
    have y0 : W2.cell? ⟨wr.heap.size, 0, none⟩ = some (.int .i64 y.id) := by rw [hW2]; simp [go_sem]
    have y1 : W2.cell? ⟨wr.heap.size, 1, none⟩ = some (.int .i64 u) := by rw [hW2]; simp [go_sem]
    have y9 : W2.cell? ⟨wr.heap.size, 9, none⟩ = some (.int .i64 ((q : Int) + 1)) := by rw [hW2]; simp [go_sem]
    have hz2 : wr.heap.size < W2.heap.size := by rw [hW2]; simp
    obtain ⟨g1, g2⟩ := HFF.out W2 hb2
    have HB2 := qh (HB.out.trans (hb2.mono HB.out.size))
    clear hW2 hb2 wk e0 e1 e2 e3 e4 e5 e6 e7 e8 e9 e10 e11 e12 e13 f1 f2
    go_quiet (fail)
    have hbq : Below W2.heap.size W2 (W2.drewN nq) := Kit.below_drewN (Below.refl _ _) nq
    have HBQ := qh (HB2.out.trans (hbq.mono HB2.out.size))
    replace y0 := (hbq.cell (p := ⟨wr.heap.size, 0, none⟩) hz2).trans y0
    replace hz2 : wr.heap.size < (W2.drewN nq).heap.size := hz2
    clear hbq y1 y9 g1 g2 HFF
    generalize W2.drewN nq = W3 at *
    rcases hv with _ | _
    ·have HE := qh (HF.out.trans (Un.liftFrom_skip x D role bar i hlt (by rw [HY.out]; exact HHV.out)))
     go_wp2_with fail
     go_roundg (x.sg.length - (i + 1))
     case measure => omega
     case rel => exact ⟨i + 1, by go_num, by omega, Nat.le_refl _, HE, HBQ⟩
    ·have HE := qh (show (s, ok) = (y.id, false) by rw [← HR.out, HF.out, Un.liftFrom_hit x D role bar i hlt (by rw [HY.out]; exact HHV.out), HY.out])
     go_wp2_with fail
     go_ret2
     refine ⟨?_, HB1.out.trans (HBQ.out.mono HB1.out.size)⟩
     have h1 := congrArg Prod.fst HE.out
     have h2 := congrArg Prod.snd HE.out
     dsimp only at h1 h2
     rw [h1, h2]; rfl
  ·obtain rfl : i = x.sg.length := by omega
   have HE := qh (show (s, ok) = (0, true) by rw [← HR.out, HF.out, Un.liftFrom_end])
   go_wp2_with fail
   go_ret2
   refine ⟨?_, HB1.out.trans (HB.out.mono HB1.out.size)⟩
   have h1 := congrArg Prod.fst HE.out
   have h2 := congrArg Prod.snd HE.out
   dsimp only at h1 h2
   rw [h1, h2]; rfl
end Go.Proofs.YtbhgogiaaljclaaGreatDoor

namespace Go.Proofs.YtbhgogiaaljclaaGreatDoor
open Go.RowKit Go.Shelf
namespace Un
end Un
end Go.Proofs.YtbhgogiaaljclaaGreatDoor
