/- Walks: package options: Options. -/
import Derived.Test.YtbhgogiaaljclaaGreatDoorUoL
import Derived.Test.YtbhgogiaaljclaaGreatDoorUoF
import Derived.Test.YtbhgogiaaljclaaGreatDoorUna
set_option linter.unusedSimpArgs false
set_option linter.unusedVariables false
set_option maxRecDepth 100000
set_option maxHeartbeats 8000000
namespace Go.Proofs.YtbhgogiaaljclaaGreatDoor
open Go.RowKit
namespace Ex
structure Fit (s : Sg) : Prop where
 kind : 1 ≤ s.kind ∧ s.kind ≤ 9
 mark : 1 ≤ s.mark ∧ s.mark ≤ 3
 dir : s.kind = 3 ∨ s.kind = 4 ∨ s.kind = 5 → 0 ≤ s.dir ∧ s.dir ≤ 8
 level : s.kind = 3 ∨ s.kind = 4 ∨ s.kind = 5 ∨ s.kind = 9 → 1 ≤ s.level ∧ s.level ≤ 3
theorem fit_of {s : Sg} {r n : Int} (h : okSign s r n = true) : Fit s := by
 unfold okSign ok1 ok2 at h
 simp only [Bool.and_eq_true] at h
 obtain ⟨⟨⟨⟨⟨⟨⟨h1, _⟩, _⟩, h4⟩, ⟨⟨⟨⟨_, h6⟩, h7⟩, _⟩, _⟩⟩, _⟩, _⟩, _⟩ := h
 have k := (Tp.inb_iff _ _ _).1 h1
 have m := (Tp.inb_iff _ _ _).1 h4
 refine ⟨k, m, fun hk => ?_, fun hk => ?_⟩
 ·rcases hk with e | e | e <;> rw [e] at h6 <;> exact (Tp.inb_iff _ _ _).1 h6
 ·rcases hk with e | e | e | e <;> rw [e] at h7 <;> exact (Tp.inb_iff _ _ _).1 h7
end Ex
theorem Un.tops {b : Un.Bd} (h : Un.bok b = true) (i : Nat) (hi : i < 3) : 1 ≤ Un.bdN b (12 + i) ∧ Un.bdN b (12 + i) ≤ 3 := by
 unfold Un.bok at h
 rw [Bool.and_eq_true] at h
 have h2 := h.2
 unfold Un.ruok at h2
 simp only [List.all_eq_true, List.mem_range] at h2
 exact (Tp.inb_iff _ _ _).1 (h2 0 omg i hi)
theorem Uo.base_limb (A C : Int) (s : Ex.Sg) (b : Un.Bd) (i : Nat) (hi : i < 3) (h : s.kind = 3 + i) : Uo.base A C s b = Uo.limbs A C s (Un.bdN b (12 + i)) := by
 unfold Uo.base
 rcases (by omega : i = 0 ∨ i = 1 ∨ i = 2) with rfl | rfl | rfl
 ·rw [if_neg omg, if_neg omg, if_pos omg]; rfl
 ·rw [if_neg omg, if_neg omg, if_neg omg, if_pos omg]; rfl
 ·rw [if_neg omg, if_neg omg, if_neg omg, if_neg omg, if_pos omg]; rfl
theorem Uo.limbs_len (A C : Int) (k : Ex.Sg) (t : Int) (ht : t ≤ 3) : (Uo.limbs A C k t).length ≤ 100 := by
 unfold Uo.limbs
 rw [List.length_map, Uo.fall_len]
 have h := Uo.pre_len A C k.id k.dir.toNat k.level.toNat t.toNat 9
 unfold Uo.prs
 omega
theorem Uo.base_len (A C : Int) (s : Ex.Sg) {b : Un.Bd} (hb : Un.bok b = true) : (Uo.base A C s b).length ≤ 100 := by
 have t0 : b.t0 ≤ 3 := (Un.tops hb 0 omg).2
 have t1 : b.t1 ≤ 3 := (Un.tops hb 1 omg).2
 have t2 : b.t2 ≤ 3 := (Un.tops hb 2 omg).2
 unfold Uo.base
 repeat' split
 all_goals first | exact Uo.limbs_len _ _ _ _ (by assumption) | simp
theorem Uo.Kd.thn {w A C : World} {B n : Nat} {f : Int → Option Value} (h : Uo.Kd w A B n f) (k : Below A.heap.size A C) : Uo.Kd w C B n f :=
 ⟨h.map.below k h.map.lt, h.bel.trans (k.mono h.bel.size), h.hB, fun x v e => (h.does x v e).kept fun b _ hb => k.block b hb⟩
theorem uo_does (A BB C : Int) (s : Ex.Sg) (bd : Un.Bd) {B : Nat} {W : World} {x : Int} {v : Value} (hv : Uo.Fv B W x v) (hx : s.kind = x) (hs : Ex.Fit s) (hb : Un.bok bd = true) (hA : 0 ≤ A) (hA2 : A ≤ 32768) (hC : 0 ≤ C) (hC2 : C ≤ 32768) :
  ∃ g cb, v = .func (.func g) #[] cb ∧ (∀ args w, (callFunc g args).run Tryz.prog w = .ok (.enter g args) w) ∧
   ∀ W', Below W.heap.size W W' → Uo.Flat W' → Calls Tryz.prog g (#[.agg #[.int .i64 A, .int .i64 BB, .int .i64 C], Ex.sgV s, .agg (Un.bdA bd)] ++ cb) W' (Uo.Post (Uo.base A C s bd) W') := by
 rcases hv with ⟨b, g, h1, rfl, h3, h4⟩ | ⟨b, i, h1, h2, rfl, h4, h5⟩ | ⟨h1, rfl⟩
 ·have hz := (Array.getElem?_eq_some_iff.1 h4).1
  have hc : W.cell? ⟨b, 0, none⟩ = some (.func (.func g) #[] #[]) := by simp [World.cell?, h4]
  refine ⟨_, _, rfl, enters_of Tryz.func147 (by kernel_rfl) rfl, fun W' hW hF => ?_⟩
  rcases h1 with ⟨h1, rfl⟩ | ⟨h1, rfl⟩
  ·exact uo_travel A BB C s bd _ b bd.step W' ((hW.cell hz).trans hc) (Nat.lt_of_lt_of_le hz hW.size) (fun X => uo_step bd X) (enters_of Tryz.func91 (by kernel_rfl) rfl) _ (by show Uo.base A C s bd = _; unfold Uo.base; rw [if_pos omg])
  ·exact uo_travel A BB C s bd _ b bd.jump W' ((hW.cell hz).trans hc) (Nat.lt_of_lt_of_le hz hW.size) (fun X => uo_jump bd X) (enters_of Tryz.func92 (by kernel_rfl) rfl) _ (by show Uo.base A C s bd = _; unfold Uo.base; rw [if_neg omg, if_pos omg])
 ·have hz := (Array.getElem?_eq_some_iff.1 h5).1
  have hc : W.cell? ⟨b, 0, none⟩ = some (.int .i64 i) := by simp [World.cell?, h5]
  refine ⟨_, _, rfl, enters_of Tryz.func148 (by kernel_rfl) rfl, fun W' hW hF => ?_⟩
  have hdir := hs.dir omg
  have hlev := hs.level omg
  have ht := Un.tops hb i h2
  rw [Uo.base_limb A C s bd i h2 omg]
  exact uo_limb A BB C s bd b i s.dir.toNat s.level.toNat (Un.bdN bd (12 + i)).toNat h2 omg omg omg omg omg omg omg hA hA2 hC hC2 W' hF ((hW.cell hz).trans hc) (Nat.lt_of_lt_of_le hz hW.size) _ rfl
 ·refine ⟨_, _, rfl, enters_of Tryz.func94 (by kernel_rfl) rfl, fun W' hW hF => ?_⟩
  have e : Uo.base A C s bd = [(s.id, 0, Uo.mnI s.level bd.t1, false)] := by
   unfold Uo.base
   rw [if_neg omg, if_neg omg, if_neg omg, if_neg omg, if_neg omg, if_pos omg]
  rw [e]
  exact uo_free A BB C s bd W'
theorem uo_options (x : Ex.Wk) (p : Ex.Wa) (w : World) (hL : Ex.Laid w) (hF : Uo.Flat w) (ha : Ex.At w x p) (hg : Ex.Good x) (q : Nat) (hq : q < x.sg.length) (s : Ex.Sg) (hs : x.sg.getD q default = s) (B : Un.Bd) (hB : Un.bok B = true) (hn : B.name.size ≤ 9223372036854775807)
  (hA : 0 ≤ x.ta) (hA2 : x.ta ≤ 32768) (hC : 0 ≤ x.tc) (hC2 : x.tc ≤ 32768) :
  Calls Tryz.prog 19 #[Ex.workV x p, .int .i64 s.id, .agg (Un.bdA B)] w fun e w' => (∃ v, e = .returned (.tuple #[v, .int .i64 0]) ∧ w'.ownsRow w.heap.size 61 4 v (Uo.opts x.ta x.tc s B).length ((Uo.opts x.ta x.tc s B).flatMap Uo.rc)) ∧ Below w.heap.size w w' := by
 have hmem : s ∈ x.sg := by rw [← hs, List.getD_eq_getElem?_getD, List.getElem?_eq_getElem hq]; exact List.getElem_mem hq
 have hfit := Ex.fit_of (hg.oks s hmem)
 have HFD := qh (fun W (hW : Below w.heap.size w W) => uo_find x p W (hL.kept hW nlr) (ha.kept hW nlr) hg q hq s hs)
 have HCK := qh (fun W => (by have := bd_check B W hn; rwa [if_pos hB] at this : Calls Tryz.prog 51 #[.agg (Un.bdA B)] W fun e w' => e = .returned (.int .i64 0) ∧ Below W.heap.size W w'))
 have HDO := qh (fun (Bm : Nat) (W : World) (v : Value) (hv : Uo.Fv Bm W s.kind v) => uo_does x.ta x.tb x.tc s B hv rfl hfit hB hA hA2 hC hC2)
 have HFL := qh (fun W (hW : Below w.heap.size w W) => hF.kept hW nlr)
 obtain ⟨bs, hbs⟩ : ∃ bs, Uo.base x.ta x.tc s B = bs := ⟨_, rfl⟩
 have HOP := qh (show Uo.opts x.ta x.tc s B = bs ++ (if s.mark = 1 then [] else [(s.id, 0, 0, true)]) by unfold Uo.opts; rw [hbs])
 have HNO := qh (show s.kind = 6 ∨ s.kind = 7 ∨ s.kind = 8 → bs = [(s.id, 0, 0, false)] from fun h => by
  rw [← hbs]; unfold Uo.base
  rw [if_neg omg, if_neg omg, if_neg omg, if_neg omg, if_neg omg, if_neg omg])
 rw [hbs] at HDO
 have hn1 : bs.length ≤ 100 := by rw [← hbs]; exact Uo.base_len _ _ _ hB
 have hk9 := hfit.kind
 have hm3 := hfit.mark
 have HI := qh (show (Tryz.prog.info? 36).map (·.size) = some (Un.bdA B).toList.length by kernel_rfl)
 clear hbs hL hF ha hg hs hmem hfit hB hn hA hA2 hC hC2 hq
 have hfold : Array.foldl (fun cs x => cs.setIfInBounds x.snd x.fst) Un.bdZ (Un.bdA B).zipIdx 0 17 = Un.bdA B := by kernel_rfl
 unfold Un.bdZ at hfold
 have hs17 : (Un.bdA B).size = 17 := rfl
 go_enter Tryz.func19, Tryz.ntmps19
 go_wp2_with fail
 refine (HFD.out _ (by exact Kit.gr)).mono ?_
 rintro _ w1 ⟨rfl, hb1⟩
 have hb1' : Below w.heap.size w w1 := Below.trans (B := w.heap.size) (by exact Kit.gr) (hb1.mono (by simp; omega))
 have rB : w1.rangeAt (w.heap.size + 1) 0 (Un.bdA B).toList := by
  have h := Kit.range_alloc (w.alloc (.cells #[.int .i64 x.wd, .int .i64 x.dp, .int .i64 x.ta, .int .i64 x.tb, .int .i64 x.tc, .slice p.aR x.ro.length p.cR, .int .i64 x.n, .slice p.aT x.ts.length p.cT, .slice p.aP x.ps.length p.cP, .slice p.aS x.ss.length p.cS, .slice p.aG x.sg.length p.cG] 32)) (Un.bdA B) 36
  rw [World.size_alloc] at h
  exact Kit.range_kept h hb1 (by simp)
 have t2 : w1.cell? ⟨w.heap.size, 2, none⟩ = some (.int .i64 x.ta) := (hb1.cell (by simp; omega)).trans (by simp [go_sem])
 have t3 : w1.cell? ⟨w.heap.size, 3, none⟩ = some (.int .i64 x.tb) := (hb1.cell (by simp; omega)).trans (by simp [go_sem])
 have t4 : w1.cell? ⟨w.heap.size, 4, none⟩ = some (.int .i64 x.tc) := (hb1.cell (by simp; omega)).trans (by simp [go_sem])
 have z1 : w.heap.size + 1 < w1.heap.size := by have := hb1.size; simp at this; omega
 have HRB := qh rB
 have HT := qh (And.intro t2 (And.intro t3 t4))
 have HB1 := qh hb1'
 clear rB t2 t3 t4 hb1 hb1' hfold hs17 HFD
 go_wp2_with ((with_reducible refine wpList_load_mid ?_ 36 (.tmp 5) ?_ (w.heap.size + 1) 0 ?_ (Un.bdA B).toList _ (Kit.range_kept HRB.out ((Below.refl _ _).alloc nlr _) z1) Tryz.underlying36 rfl HI.out ?_); rfl; rfl; rfl)
 refine (HCK.out _).mono ?_
 rintro _ w2 ⟨rfl, hb2⟩
 have hb12 : Below w1.heap.size w1 w2 := Below.trans (B := w1.heap.size) (by exact Kit.gr) (hb2.mono (by simp))
 have rB2 := qh (Kit.range_kept HRB.out hb12 z1)
 have T2 := qh (show w2.cell? ⟨w.heap.size, 2, none⟩ = some (.int .i64 x.ta) ∧ w2.cell? ⟨w.heap.size, 3, none⟩ = some (.int .i64 x.tb) ∧ w2.cell? ⟨w.heap.size, 4, none⟩ = some (.int .i64 x.tc) from ⟨(hb12.cell (by simp; omega)).trans HT.out.1, (hb12.cell (by simp; omega)).trans HT.out.2.1, (hb12.cell (by simp; omega)).trans HT.out.2.2⟩)
 have S2 := qh (show ∀ j, w2.cell? ⟨w1.heap.size, j, none⟩ = #[Value.int .i64 s.id, .int .i64 s.role, .int .i64 s.bar, .int .i64 s.mark, .int .i64 s.kind, .int .i64 s.side, .int .i64 s.dir, .int .i64 s.level, .int .i64 s.size, .int .i64 s.wth, .int .i64 s.fn, .int .i64 s.fd, .int .i64 s.tn, .int .i64 s.td][j]? from fun j => by
  rw [World.cell?_of_block (hb2.block w1.heap.size (by simp))]
  simp [go_sem])
 have HB2 := qh (HB1.out.trans (hb12.mono HB1.out.size))
 have z2 : w1.heap.size < w2.heap.size := by have := hb2.size; simp at this; omega
 clear hb12 hb2 HRB HT
 obtain ⟨SB, hSB⟩ : ∃ SB, SB = w1.heap.size := ⟨_, rfl⟩
 rw [← hSB] at S2 z2 z1 ⊢
 have zSB : w.heap.size + 1 < SB := z1
 clear hSB z1 HB1 HCK
 go_wp2_with fail
 obtain ⟨c0, hc0⟩ : ∃ c0, (s.kind == 9 || s.kind == 5 || s.kind == 4 || s.kind == 3 || s.kind == 2 || s.kind == 1) = c0 := ⟨_, rfl⟩
 have hc1 : c0 = false → s.kind = 6 ∨ s.kind = 7 ∨ s.kind = 8 := fun h => by rw [h] at hc0; simp at hc0; omega
 have wk : (Lit.int .i64 s.kind).wf = true := WalkArith.wf_i64 omg
 have HC1 := qh hc1
 have HC0 := qh hc0
 clear hc1 hc0
 refine Kit.wp_region_vals 9 [([], none, true), ([(8, none)], none, true), ([(35, some 1)], none, true), ([(34, some 0), (36, some 2)], none, true), ([(37, some 3)], none, true), ([(33, some 4)], none, true), ([(33, some 4)], none, true), ([(38, some 5)], none, true), ([(39, some 6)], none, true)]
  [some 34, some 35, some 36, some 37, some 33, some 38, some 39, some 10, some 11] rfl (by kernel_rfl) (by kernel_rfl) (fun A B => Below A.heap.size A B) (fun q v w' => match q with
  | 0 => ∃ Bm F, v = .map (some Bm) ∧ Uo.Kd w2 w' Bm 6 F ∧ ∀ x, (F x).isSome = (x == 9 || x == 5 || x == 4 || x == 3 || x == 2 || x == 1)
  | 1 => v = .pointer (some ⟨SB, 4, none⟩)
  | 2 => v = .int .i64 s.kind
  | 3 => ∃ u, v = .tuple #[u, .bool c0] ∧ (c0 = true → ∃ Bm, Uo.Fv Bm w' s.kind u)
  | 4 => ∃ u, v = .tuple #[u, .bool c0] ∧ (c0 = true → ∃ Bm, Uo.Fv Bm w' s.kind u)
  | 5 => c0 = true → ∃ Bm, Uo.Fv Bm w' s.kind v
  | 6 => v = .bool c0
  | 7 => c0 = true → ∃ Bm, Uo.Fv Bm w' s.kind v
  | _ => v = .bool c0)
  (fun h k => h.trans (k.mono h.size)) (Below.drew (Below.refl _ _)) (fun _ => Below.refl _ _) ?_ ?_ ?_
 ·intro q v A C h1 h2 h3
  have hfv : ∀ {u : Value}, (c0 = true → ∃ Bm, Uo.Fv Bm A s.kind u) → (c0 = true → ∃ Bm, Uo.Fv Bm C s.kind u) := fun h hc => by
   obtain ⟨Bm, hb⟩ := h hc
   exact ⟨Bm, hb.kept fun b _ hb => h2.block b hb⟩
  split at h3 <;> try exact h3
  ·obtain ⟨Bm, F, e, hk, hF⟩ := h3
   exact ⟨Bm, F, e, hk.thn h2, hF⟩
  ·obtain ⟨u, e, h⟩ := h3
   exact ⟨u, e, hfv h⟩
  ·obtain ⟨u, e, h⟩ := h3
   exact ⟨u, e, hfv h⟩
  ·exact hfv h3
  ·exact hfv h3
 ·simp only [List.take_succ_cons, List.take_zero, Kit.StepsV, Kit.VOp, Kit.RdP, true_and, if_true, and_true]
  refine ⟨?_, ?_, ?_, ?_, ?_, ?_, ?_, ?_, ?_⟩
  all_goals intro ev w' hx hv hc hf hg
  ·simp [execOp, hc, hf, go_sem, Kit.UponV]
   refine (uo_kinds w').mono ?_
   rintro e w3 ⟨Bm, F, rfl, hk, hF⟩
   exact ⟨_, rfl, ⟨Bm, rfl, F, ⟨hk.map, hx.trans (hk.bel.mono hx.size), Nat.le_trans hx.size hk.hB, hk.does⟩, hF⟩, hk.bel⟩
  ·simp at hv; simp [execOp, hv, hc, go_sem, Kit.UponV, Below.refl]
  ·have so : w'.cell? ⟨SB, 4, none⟩ = some (.int .i64 s.kind) := (hx.cell (by simp; omega)).trans (S2.out 4)
   simp [execOp, hv, hc, so, go_sem, Kit.UponV, Below.refl]
  ·obtain ⟨⟨Bm, F, hv1, hk, hF⟩, hv2⟩ := hv
   have hrun := hk.map.look Uo.mt wk
   rw [hF, HC0.out] at hrun
   simp [execOp, hv1, hv2, hc, hrun, Result.andThen, go_sem, Kit.UponV]
   refine ⟨fun h => ?_, Below.refl _ _⟩
   have h2 := hF s.kind
   rw [HC0.out, h] at h2
   obtain ⟨u, hu⟩ := Option.isSome_iff_exists.1 h2
   rw [hu]
   exact ⟨Bm, hk.does _ _ hu⟩
  ·obtain ⟨u, e, h⟩ := hv
   simp [execOp, e, hc, go_sem, Kit.UponV]
   exact ⟨h, Below.refl _ _⟩
  ·obtain ⟨u, e, h⟩ := hv
   simp [execOp, e, hc, go_sem, Kit.UponV]
   exact ⟨h, Below.refl _ _⟩
  ·obtain ⟨u, e, h⟩ := hv
   simp [execOp, e, hc, go_sem, Kit.UponV, Below.refl]
  ·simp [execOp, hc, go_sem, Kit.UponV]
   exact ⟨hv, Below.refl _ _⟩
  ·simp [execOp, hv, hc, go_sem, Kit.UponV, Below.refl]
 ·intro vs w3 hv hx
  have v7 : c0 = true → ∃ Bm, Uo.Fv Bm w3 s.kind (vs 7) := hv 7 omg
  have v8 : vs 8 = .bool c0 := hv 8 omg
  clear hv
  have rB3 := qh (Kit.range_kept rB2.out hx omg)
  have T3 := qh (show w3.cell? ⟨w.heap.size, 2, none⟩ = some (.int .i64 x.ta) ∧ w3.cell? ⟨w.heap.size, 3, none⟩ = some (.int .i64 x.tb) ∧ w3.cell? ⟨w.heap.size, 4, none⟩ = some (.int .i64 x.tc) from ⟨(hx.cell (by simp; omega)).trans T2.out.1, (hx.cell (by simp; omega)).trans T2.out.2.1, (hx.cell (by simp; omega)).trans T2.out.2.2⟩)
  have S3 := qh (show ∀ j, w3.cell? ⟨SB, j, none⟩ = #[Value.int .i64 s.id, .int .i64 s.role, .int .i64 s.bar, .int .i64 s.mark, .int .i64 s.kind, .int .i64 s.side, .int .i64 s.dir, .int .i64 s.level, .int .i64 s.size, .int .i64 s.wth, .int .i64 s.fn, .int .i64 s.fd, .int .i64 s.tn, .int .i64 s.td][j]? from fun j => (hx.cell (by simp; omega)).trans (S2.out j))
  have HB3 := qh (HB2.out.trans (hx.mono HB2.out.size))
  have z3 : SB < w3.heap.size := Nat.lt_of_lt_of_le z2 hx.size
  clear rB2 T2 S2 HB2 hx z2
  simp only [Kit.putD, List.getD_cons_zero, List.getD_cons_succ, Act.put, v8, List.drop_succ_cons, List.drop_zero]
  generalize vs 0 = x0 at *
  generalize vs 1 = x1 at *
  generalize vs 2 = x2 at *
  generalize vs 3 = x3 at *
  generalize vs 4 = x4 at *
  generalize vs 5 = x5 at *
  generalize vs 6 = x6 at *
  generalize vs 7 = x7 at *
  clear v8
  go_simp
  have HS3 := S3.out
  rcases c0 with _ | _
  ·have HBS := qh (HNO.out (HC1.out rfl))
   clear v7 HDO HFL
   have s3 := HS3 3
   simp at s3
   clear HS3
   go_upto_region 13 with fail
   refine Kit.wp_name ?_
   intro W4 hW4
   have hr : Kit.Gw w 61 4 (.slice (some ⟨w3.heap.size, 0, none⟩) 1 1) bs.length (bs.flatMap Uo.rc) W4 := by
    rw [hW4, HBS.out]
    exact ⟨Uo.lit_row w3 (Uo.rc (s.id, 0, 0, false)) _ w3.heap.size _ 4 1 rfl HB3.out.size rfl (by unfold maxLen; omega), HB3.out.alloc HB3.out.size _⟩
   replace s3 : W4.cell? ⟨SB, 3, none⟩ = some (.int .i64 s.mark) := by rw [hW4]; exact (((Below.refl _ _).alloc nlr _).cell (by simp; omega)).trans s3
   have hn1 : bs.length ≤ 100 := by rw [HBS.out]; simp
   have HG := qh hr
   clear hr hW4 HBS
   by_cases hmk : s.mark = 1
   ·have HE := qh (show Uo.opts x.ta x.tc s B = bs by rw [HOP.out, if_pos hmk, List.append_nil])
    have hmb : (s.mark != 1) = false := by simp [hmk]
    clear hmk
    go_wp2_with fail
    go_ret2
    exact ⟨⟨_, rfl, by rw [HE.out]; exact HG.out.own⟩, HG.out.bel⟩
   ·have HE := qh (show Uo.opts x.ta x.tc s B = bs ++ [(s.id, 0, 0, true)] by rw [HOP.out, if_neg hmk])
    have hmb : (s.mark != 1) = true := by simp [hmk]
    clear hmk
    go_wp2_with (at_builtin; refine Kit.wpList_app Uo.elR _ rfl _ _ rfl _ _ _ (HG.out.alloc _) rfl omg ⟨W4.heap.size, 0, none⟩ 1 (Uo.rc (s.id, 0, 0, true)) rfl rfl (fun j u hu => Kit.lit_at _ (Uo.rc (s.id, 0, 0, true)) _ rfl j u hu) (by simp [Uo.rc, Value.oneCell']) ?_; intro v' w5 ho hg; have HG2 := qh ho; clear ho hg)
    go_ret2
    exact ⟨⟨_, rfl, by rw [HE.out, List.length_append, List.flatMap_append, List.flatMap_cons, List.flatMap_nil, List.append_nil]; exact HG2.out.own⟩, HG2.out.bel⟩
  ·obtain ⟨Bm, hfv⟩ := v7 rfl
   obtain ⟨g, cb, rfl, eg, hcall⟩ := HDO.out Bm w3 x7 hfv
   have HCL := qh (hcall w3 (Below.refl _ _) (HFL.out w3 HB3.out))
   obtain ⟨u2, u3, u4⟩ := T3.out
   clear hcall hfv HDO v7
   go_wp2_with ((with_reducible refine wpList_load_mid ?_ 36 (.tmp 5) ?_ (w.heap.size + 1) 0 ?_ (Un.bdA B).toList _ rB3.out Tryz.underlying36 rfl HI.out ?_); rfl; rfl; rfl)
   refine HCL.out.mono ?_
   rintro _ W4 ⟨⟨v, rfl, ho⟩, hb⟩
   have HG := qh (show Kit.Gw w 61 4 v bs.length (bs.flatMap Uo.rc) W4 from ⟨ho.mono HB3.out.size, HB3.out.trans (hb.mono HB3.out.size)⟩)
   have s3 : W4.cell? ⟨SB, 3, none⟩ = some (.int .i64 s.mark) := (hb.cell (by simp; omega)).trans ((HS3 3).trans (by simp))
   clear ho hb HS3 u2 u3 u4 HCL
   by_cases hmk : s.mark = 1
   ·have HE := qh (show Uo.opts x.ta x.tc s B = bs by rw [HOP.out, if_pos hmk, List.append_nil])
    have hmb : (s.mark != 1) = false := by simp [hmk]
    clear hmk
    go_wp2_with fail
    go_ret2
    exact ⟨⟨_, rfl, by rw [HE.out]; exact HG.out.own⟩, HG.out.bel⟩
   ·have HE := qh (show Uo.opts x.ta x.tc s B = bs ++ [(s.id, 0, 0, true)] by rw [HOP.out, if_neg hmk])
    have hmb : (s.mark != 1) = true := by simp [hmk]
    clear hmk
    go_wp2_with (at_builtin; refine Kit.wpList_app Uo.elR _ rfl _ _ rfl _ _ _ (HG.out.alloc _) rfl omg ⟨W4.heap.size, 0, none⟩ 1 (Uo.rc (s.id, 0, 0, true)) rfl rfl (fun j u hu => Kit.lit_at _ (Uo.rc (s.id, 0, 0, true)) _ rfl j u hu) (by simp [Uo.rc, Value.oneCell']) ?_; intro v' w5 ho hg; have HG2 := qh ho; clear ho hg)
    go_ret2
    exact ⟨⟨_, rfl, by rw [HE.out, List.length_append, List.flatMap_append, List.flatMap_cons, List.flatMap_nil, List.append_nil]; exact HG2.out.own⟩, HG2.out.bel⟩
end Go.Proofs.YtbhgogiaaljclaaGreatDoor
