/- Walks: package pose: After, of signs of a right work and reals in form for them. -/
import Derived.Test.YtedolbjgdedoaaaGreatDoorMod
import Derived.Test.YtedolbjgdedoaaaGreatDoorKbx
import Derived.Test.YtedolbjgdedoaaaGreatDoorKih
set_option linter.unusedSimpArgs false
set_option linter.unusedVariables false
set_option maxRecDepth 100000
set_option maxHeartbeats 8000000
namespace Go.Proofs.YtedolbjgdedoaaaGreatDoor
open Go.RowKit Go.Shelf
namespace Mo
abbrev rowA (a b c d e f g h i j u v : Int) (fn : Nat) : Array Value := #[.int .i64 a, .int .i64 b, .int .i64 c, .int .i64 d, .int .i64 e, .int .i64 f, .int .i64 g, .int .i64 h, .int .i64 i, .int .i64 j, .int .i64 u, .int .i64 v, .func (.func fn) #[] #[]]
structure Af (w W : World) (s : St) (k : Ex.Sg) (r : Uo.Re) (O K : Nat) (row : Array Value) : Prop where
 bel : Below w.heap.size w W
 s : Kit.Bk W w.heap.size 37 (stA s)
 k : Kit.Bk W (w.heap.size + 1) 60 (sgC k).toArray
 r : Kit.Bk W (w.heap.size + 2) 69 (reC r).toArray
 x : Kit.Bk W (w.heap.size + 3) 37 (stA St.zero)
 o : Kit.Bk W O 146 row
 b : Kit.Bk W K 4 #[.bool true]
 ho : w.heap.size + 4 ≤ O
 hk : w.heap.size + 4 ≤ K
 ne : O ≠ K
theorem Af.fits {w W W' : World} {s : St} {k : Ex.Sg} {r : Uo.Re} {O K : Nat} {row : Array Value} (h : Af w W s k r O K row) (hx : Kit.Exc (fun j => j = K) W W') (hb : Kit.Bk W' K 4 #[.bool true]) : Af w W' s k r O K row := by
 have h1 := h.hk
 have h2 := h.ne
 exact ⟨h.bel.trans (hx.below h.bel.size (fun j hj => by omega)), h.s.exc hx omg, h.k.exc hx omg, h.r.exc hx omg, h.x.exc hx omg, h.o.exc hx h2, hb, h.ho, h.hk, h2⟩
end Mo
theorem po_fits (n lo hi : Int) (K : Nat) (w : World) (hin : Tp.inb n lo hi = true) (hK : Kit.Bk w K 4 #[.bool true]) : Calls Tryz.prog 65 #[.int .i64 n, .agg #[.int .i64 lo, .int .i64 hi], .pointer (some ⟨K, 0, none⟩)] w fun e w' => e = .returned (.tuple #[]) ∧ Kit.Bk w' K 4 #[.bool true] ∧ Kit.Exc (fun j => j = K) w w' := by
 have HI := qh (fun W => hin ▸ po_within n lo hi W)
 have HK := qh hK
 have cK : w.cell? ⟨K, 0, none⟩ = some (.bool true) := (hK.cell 0).trans rfl
 have fK := hK.frozen 0
 have hlt := hK.lt
 clear hin hK
 go_enter Tryz.func65, Tryz.ntmps65
 go_wp2_with (refine (HI.out _).mono ?_; rintro _ w' ⟨rfl, hw⟩; subst w')
 go_returns
 exact ⟨rfl, (HK.out.put 0 (.bool true) rfl).alloc _, (Kit.Exc.setCell (S := fun j => j = K) (p := ⟨K, 0, none⟩) (Kit.Exc.refl _ w) (.inl rfl) _).alloc _⟩
theorem Mo.kind_wf {k : Ex.Sg} (hk : Mo.Fit k) : (Lit.int .i64 k.kind).wf = true := by
 have c9 : k.kind = 1 ∨ k.kind = 2 ∨ k.kind = 3 ∨ k.kind = 4 ∨ k.kind = 5 ∨ k.kind = 6 ∨ k.kind = 7 ∨ k.kind = 8 ∨ k.kind = 9 := by have := hk.kind; omega
 rcases c9 with e | e | e | e | e | e | e | e | e <;> rw [e] <;> rfl
theorem Mo.szS (s : Mo.St) : (Tryz.prog.info? 37).map (·.size) = some (Mo.stA s).size := by kernel_rfl
theorem Mo.szG (k : Ex.Sg) : (Tryz.prog.info? 60).map (·.size) = some (Mo.sgC k).toArray.size := by kernel_rfl
theorem Mo.szR (r : Uo.Re) : (Tryz.prog.info? 69).map (·.size) = some (Mo.reC r).toArray.size := by kernel_rfl
theorem Mo.szK : (Tryz.prog.info? 146).map (·.size) = some 13 := by kernel_rfl
theorem Mo.szC (s : Mo.St) (k : Ex.Sg) (r : Uo.Re) : (Tryz.prog.info? 153).map (·.size) = some (Mo.chA s k r).size := by kernel_rfl
theorem Mo.stA_one (s : Mo.St) : (Mo.stA s).all (·.oneCell') = true := by simp [Mo.stA, Value.oneCell']
theorem Mo.chA_eq (s : Mo.St) (k : Ex.Sg) (r : Uo.Re) : Mo.chA s k r = #[.int .i64 s.x, .int .i64 s.y, .int .i64 s.f, .int .i64 s.d0, .int .i64 s.v0, .int .i64 s.d1, .int .i64 s.v1, .int .i64 s.d2, .int .i64 s.v2, .int .i64 s.d3, .int .i64 s.v3, .int .i64 s.d4, .int .i64 s.v4, .int .i64 k.id, .int .i64 k.role, .int .i64 k.bar, .int .i64 k.mark, .int .i64 k.kind, .int .i64 k.side, .int .i64 k.dir, .int .i64 k.level, .int .i64 k.size, .int .i64 k.wth, .int .i64 k.fn, .int .i64 k.fd, .int .i64 k.tn, .int .i64 k.td, .int .i64 r.1, .int .i64 r.2.1, .int .i64 r.2.2.1, .bool r.2.2.2] := rfl

namespace Mo
def E4 (n q : Nat) (A B : World) : Prop := Below n A B ∧ ∀ (b : Nat) (o : Obj), A.heap[b]? = some o → B.heap[b]? = some o ∨ ∃ (cs cs' : Array Value) (t : TypeId), o = Obj.cells cs t (0, 0) ∧ B.heap[b]? = some (Obj.cells cs' t (0, 0)) ∧ cs'.size = cs.size ∧ ((q = 9 ∧ t = 146) ∨ (q = 10 ∧ t = 4))
theorem E4.of {n q : Nat} {A B : World} (h : Below A.heap.size A B) (hn : n ≤ A.heap.size) : E4 n q A B :=
 ⟨h.mono hn, fun b o ho => .inl ((h.block b (Array.getElem?_eq_some_iff.1 ho).1).trans ho)⟩
theorem E4.store {n q : Nat} {A B : World} {b : Nat} {t : TypeId} {cs cs' : Array Value} (hx : Kit.Exc (fun j => j = b) A B) (hnA : n ≤ A.heap.size) (hn : n ≤ b) (h1 : Kit.Bk A b t cs) (h2 : Kit.Bk B b t cs') (hs : cs'.size = cs.size) (hq : (q = 9 ∧ t = 146) ∨ (q = 10 ∧ t = 4)) : E4 n q A B := by
 refine ⟨hx.below hnA (fun j hj => by omega), fun j o ho => ?_⟩
 by_cases e : j = b
 ·subst e
  have e2 : o = .cells cs t (0, 0) := Option.some.inj (ho.symm.trans h1)
  exact .inr ⟨cs, cs', t, e2, h2, hs, hq⟩
 ·exact .inl ((hx.block j (Array.getElem?_eq_some_iff.1 ho).1 e).trans ho)
theorem E4.size {n q : Nat} {A B : World} {b : Nat} {t : TypeId} {cs : Array Value} (h : E4 n q A B) (hb : Kit.Bk A b t cs) : ∃ cs', cs'.size = cs.size ∧ Kit.Bk B b t cs' := by
 rcases h.2 b _ hb with h1 | ⟨c, c', t', e, h2, h3, _⟩
 ·exact ⟨cs, rfl, h1⟩
 ·cases e
  exact ⟨c', h3, h2⟩
theorem E4.keep {n q : Nat} {A B : World} {b : Nat} {t : TypeId} {cs : Array Value} (h : E4 n q A B) (hb : Kit.Bk A b t cs) (hn : ¬ ((q = 9 ∧ t = 146) ∨ (q = 10 ∧ t = 4))) : Kit.Bk B b t cs := by
 rcases h.2 b _ hb with h1 | ⟨c, c', t', e, h2, h3, h4⟩
 ·exact h1
 ·cases e
  exact absurd h4 hn
theorem E4.map {n q : Nat} {A B : World} {P : Program} {ty : TypeId} {b m : Nat} {f : Int → Option Value} (h : E4 n q A B) (hb : Kit.IMap P ty A b m f) : Kit.IMap P ty B b m f := by
 have hb2 := hb
 obtain ⟨D, ⟨es, clock, h1, h2⟩, h3⟩ := hb2
 rcases h.2 b _ h1 with h4 | ⟨c, c', t', e, _⟩
 ·exact hb.kept (h4.trans h1.symm)
 ·cases e
theorem rowA_one (a b c d e f g h i j u v : Int) (fn : Nat) : (rowA a b c d e f g h i j u v fn).all (·.oneCell') = true := by simp [rowA, Value.oneCell']
theorem ix4 (a b c d : Int) (W : World) (i : Nat) (hi : i < 4) : (Instr.index 151 (.agg #[.int .i64 a, .int .i64 b, .int .i64 c, .int .i64 d]) (.int .i64 i)).run Tryz.prog W = .ok (.int .i64 ([a, b, c, d].getD i 0)) W := by
 obtain rfl | rfl | rfl | rfl : i = 0 ∨ i = 1 ∨ i = 2 ∨ i = 3 := by omega
 all_goals kernel_rfl
theorem Af.drop {w W : World} {s : St} {k : Ex.Sg} {r : Uo.Re} {O K : Nat} {a b c d e f g h i j u v : Int} {fn : Nat} (H : Af w W s k r O K (rowA a b c d e f g h i j u v fn)) :
  Af w ((((W.setCell ⟨O, 8, none⟩ (.int .i64 0)).setCell ⟨O, 9, none⟩ (.int .i64 0)).setCell ⟨O, 10, none⟩ (.int .i64 0)).setCell ⟨O, 11, none⟩ (.int .i64 0)) s k r O K (rowA a b c d e f g h 0 0 0 0 fn) := by
 have hx : Kit.Exc (fun j => j = O) W ((((W.setCell ⟨O, 8, none⟩ (.int .i64 0)).setCell ⟨O, 9, none⟩ (.int .i64 0)).setCell ⟨O, 10, none⟩ (.int .i64 0)).setCell ⟨O, 11, none⟩ (.int .i64 0)) :=
  Kit.Exc.setCell (S := fun j => j = O) (p := ⟨O, 11, none⟩) (Kit.Exc.setCell (S := fun j => j = O) (p := ⟨O, 10, none⟩) (Kit.Exc.setCell (S := fun j => j = O) (p := ⟨O, 9, none⟩) (Kit.Exc.setCell (S := fun j => j = O) (p := ⟨O, 8, none⟩) (Kit.Exc.refl _ W) (.inl rfl) _) (.inl rfl) _) (.inl rfl) _) (.inl rfl) _
 have h1 := H.ho
 have h2 := H.ne
 exact ⟨H.bel.trans (hx.below H.bel.size (fun j hj => by omega)), H.s.exc hx omg, H.k.exc hx omg, H.r.exc hx omg, H.x.exc hx omg, (((H.o.put 8 (.int .i64 0) rfl).put 9 (.int .i64 0) rfl).put 10 (.int .i64 0) rfl).put 11 (.int .i64 0) rfl, H.b.exc hx (fun e => h2 e.symm), H.ho, H.hk, h2⟩
theorem enters_fnK (n : Int) : ∀ args w, (callFunc (fnK n) args).run Tryz.prog w = .ok (.enter (fnK n) args) w := by
 unfold fnK
 repeat' split
 ·exact enters_of Tryz.func116 (by kernel_rfl) rfl
 ·exact enters_of Tryz.func115 (by kernel_rfl) rfl
 ·exact enters_of Tryz.func114 (by kernel_rfl) rfl
 ·exact enters_of Tryz.func113 (by kernel_rfl) rfl
 ·exact enters_of Tryz.func112 (by kernel_rfl) rfl
 ·exact enters_of Tryz.func111 (by kernel_rfl) rfl
 ·exact enters_of Tryz.func110 (by kernel_rfl) rfl
 ·exact enters_of Tryz.func109 (by kernel_rfl) rfl
 ·exact enters_of Tryz.func108 (by kernel_rfl) rfl
theorem chA_st (s : St) (k : Ex.Sg) (r : Uo.Re) : ∀ j, j < (stA s).size → (chA s k r)[0 + j]? = (stA s)[j]? := by
 intro j hj
 rw [Nat.zero_add]
 have : j < 13 := hj
 obtain rfl | rfl | rfl | rfl | rfl | rfl | rfl | rfl | rfl | rfl | rfl | rfl | rfl : j = 0 ∨ j = 1 ∨ j = 2 ∨ j = 3 ∨ j = 4 ∨ j = 5 ∨ j = 6 ∨ j = 7 ∨ j = 8 ∨ j = 9 ∨ j = 10 ∨ j = 11 ∨ j = 12 := by omega
 all_goals rfl
theorem build0 (s : St) (k : Ex.Sg) (r : Uo.Re) (W : World) : (Instr.build 153 #[(0, .agg (stA s)), (1, .agg (sgC k).toArray), (2, .agg (reC r).toArray)]).run Tryz.prog W = .ok (.agg (chA s k r)) W := by kernel_rfl
theorem build_ch (ev : Operand → Value) (s : St) (k : Ex.Sg) (r : Uo.Re) (W : World) (d : Option Tmp) (ty : TypeId) (po : String) (af : Array Edge) (x y z : Operand) (h1 : ev x = .agg (stA s)) (h2 : ev y = .agg (sgC k).toArray) (h3 : ev z = .agg (reC r).toArray) :
  (execOp ev { dst := d, op := .build 153 #[(0, x), (1, y), (2, z)], type := ty, pos := po, after := af, guard := none }).run Tryz.prog W = .ok (.value (.agg (chA s k r))) W := by
 have hb := build0 s k r W
 simp [execOp, h1, h2, h3, hb, Sem.run_bind, Sem.run_pure]
theorem alloc_ch (ev : Operand → Value) (W : World) (d : Option Tmp) (ty : TypeId) (po : String) (af : Array Edge) :
  ∃ zs : Array Value, zs.size = 31 ∧ (execOp ev { dst := d, op := .alloc 153, type := ty, pos := po, after := af, guard := none }).run Tryz.prog W = .ok (.value (.pointer (some ⟨W.heap.size, 0, none⟩))) (W.alloc (.cells zs 153)) := by
 exact ⟨chA St.zero ⟨0, 0, 0, 0, 0, 0, 0, 0, 0, 0, 0, 0, 0, 0⟩ (0, 0, 0, false), rfl, by kernel_rfl⟩
theorem chA_one (s : St) (k : Ex.Sg) (r : Uo.Re) : (chA s k r).all (·.oneCell') = true := by
 rw [chA_eq]
 simp [Value.oneCell']
end Mo
theorem po_after (s : Mo.St) (k : Ex.Sg) (r : Uo.Re) (w : World) (hk : Mo.Fit k) (hf : Mo.form k r = true) (hs : Mo.ok s = true) (hF : Uo.Flat w) : Calls Tryz.prog 30 #[.agg (Mo.stA s), .agg (Mo.sgC k).toArray, .agg (Mo.reC r).toArray] w fun e w' => e = .returned (.tuple #[.agg (Mo.stA (if Mo.ok (Mo.act s k r) = true then Mo.act s k r else Mo.St.zero)), .int .i64 (if Mo.ok (Mo.act s k r) = true then 0 else 2)]) ∧ Below w.heap.size w w' := by
 obtain ⟨RT, hRT⟩ : ∃ T, (if Mo.ok (Mo.act s k r) = true then Mo.act s k r else Mo.St.zero) = T := ⟨_, rfl⟩
 obtain ⟨RE, hRE⟩ : ∃ T : Int, (if Mo.ok (Mo.act s k r) = true then 0 else 2) = T := ⟨_, rfl⟩
 rw [hRT, hRE]
 have HRT := qh hRT
 have HRE := qh hRE
 clear hRT hRE
 have HCK := qh (fun t W => po_check t W)
 have HC0 := qh (fun W => (by have h := po_check s W; rw [if_pos hs] at h; exact h : Calls Tryz.prog 25 #[.agg (Mo.stA s)] W fun e w' => e = .returned (.int .i64 0) ∧ Below W.heap.size W w'))
 obtain ⟨a, b, c, d, e, f, g, h, i_, j, u, v, hrow⟩ := Mo.row_of hk hf
 have HR := qh hrow
 have HM := qh hk.mark
 have HID := qh (show r.1 = k.id by unfold Mo.form at hf; rw [Bool.and_eq_true] at hf; simpa using hf.1)
 have HDR := qh (show r.2.2.2 = true → r.2.1 = 0 ∧ r.2.2.1 = 0 from fun hd => by
  unfold Mo.form at hf
  rw [hd, if_pos rfl, Bool.and_eq_true, Bool.and_eq_true] at hf
  exact ⟨by simpa using hf.2.1, by simpa using hf.2.2⟩)
 have HFit := qh hk
 have HOK := qh hs
 have HFl := qh hF
 clear hk hf hs hF hrow
 go_enter Tryz.func30, Tryz.ntmps30
 go_upto_region 1 with fail
 refine Kit.wp_name ?_
 intro W1 hW1
 obtain ⟨⟨q0, q1, q2, q3⟩, hb1, hz1⟩ := Kit.four w (Mo.stA s) (Mo.sgC k).toArray (Mo.reC r).toArray (Mo.stA Mo.St.zero) 37 60 69 37
 have HQ0 := qh (show Kit.Bk W1 w.heap.size 37 (Mo.stA s) by rw [hW1]; exact q0)
 have HQ1 := qh (show Kit.Bk W1 (w.heap.size + 1) 60 (Mo.sgC k).toArray by rw [hW1]; exact q1)
 have HQ2 := qh (show Kit.Bk W1 (w.heap.size + 2) 69 (Mo.reC r).toArray by rw [hW1]; exact q2)
 have HQ3 := qh (show Kit.Bk W1 (w.heap.size + 3) 37 (Mo.stA Mo.St.zero) by rw [hW1]; exact q3)
 have HB1 := qh (show Below w.heap.size w W1 by rw [hW1]; exact hb1)
 have HZ1 := qh (show W1.heap.size = w.heap.size + 4 by rw [hW1]; exact hz1)
 clear q0 q1 q2 q3 hb1 hz1 hW1
 have HIS := qh Mo.szS
 have HIG := qh Mo.szG
 have HIR := qh Mo.szR
 have HIK := qh Mo.szK
 have HIC := qh Mo.szC
 go_upto_region 4 with (first | ((with_reducible refine Kit.load_bk0 ?_ 37 (.tmp 3) ?_ w.heap.size ?_ HQ0.out Tryz.underlying37 ?_ (HIS.out s) ?_); rfl; rfl; rfl; rfl) | (with_reducible refine (HC0.out _).mono ?_; rintro _ W2 ⟨rfl, hb⟩))
 have HB2 := qh (show Below w.heap.size w W2 from HB1.out.trans (hb.mono HB1.out.size))
 have zz := HZ1.out
 have HR0 := qh (HQ0.out.below hb omg)
 have HR1 := qh (HQ1.out.below hb omg)
 have HR2 := qh (HQ2.out.below hb omg)
 have HR3 := qh (HQ3.out.below hb omg)
 have HZ2 := qh (show w.heap.size + 4 ≤ W2.heap.size by have := hb.size; omega)
 clear zz hb HQ0 HQ1 HQ2 HQ3 HB1 HZ1
 have HWF := qh (Mo.kind_wf HFit.out)
 have HROW := qh HR.out.row
 generalize hfn : Mo.fnK k.kind = fn at HROW
 have HFN := qh hfn
 clear hfn
 have c1 : ∀ X, Below W2.heap.size W2 X → X.cell? ⟨w.heap.size + 1, 4, none⟩ = some (.int .i64 k.kind) := fun X hx => ((HR1.out.below hx (by have := HZ2.out; omega)).cell 4).trans rfl
 have HC1 := qh c1
 clear c1
 refine Kit.wp_region_vals3 11 [([], none, true), ([(4, none)], none, true), ([(22, some 1)], none, true), ([(21, some 0), (23, some 2)], none, true), ([(24, some 3)], none, true), ([(20, some 4)], none, true), ([(20, some 4)], none, true), ([], none, true), ([], none, true), ([(8, some 7), (25, some 5)], none, true), ([(9, some 8), (26, some 6)], none, true)]
  [some 21, some 22, some 23, some 24, some 20, some 25, some 26, some 8, some 9, none, none] rfl (by kernel_rfl) (by kernel_rfl) (fun X => Below W2.heap.size W2 X) (fun q A B => Mo.E4 W2.heap.size q A B) (fun _ _ => false) (fun q y x X => match q with
  | 0 => ∃ B, x = .map (some B) ∧ Kit.IMap Tryz.prog 3 X B 9 Mo.kF
  | 1 => x = .pointer (some ⟨w.heap.size + 1, 4, none⟩)
  | 2 => x = .int .i64 k.kind
  | 3 => x = .tuple #[Mo.kv a b c d e f g h i_ j u v fn, .bool true]
  | 4 => x = .tuple #[Mo.kv a b c d e f g h i_ j u v fn, .bool true]
  | 5 => x = Mo.kv a b c d e f g h i_ j u v fn
  | 6 => x = .bool true
  | 7 => ∃ b, x = .pointer (some ⟨b, 0, none⟩) ∧ W2.heap.size ≤ b ∧ ∃ cs, cs.size = 13 ∧ Kit.Bk X b 146 cs
  | 8 => ∃ b, x = .pointer (some ⟨b, 0, none⟩) ∧ W2.heap.size ≤ b ∧ ∃ cs, cs.size = 1 ∧ Kit.Bk X b 4 cs
  | 9 => ∃ bo, y 7 = .pointer (some ⟨bo, 0, none⟩) ∧ Kit.Bk X bo 146 (Mo.rowA a b c d e f g h i_ j u v fn)
  | _ => ∃ bo, y 8 = .pointer (some ⟨bo, 0, none⟩) ∧ Kit.Bk X bo 4 #[.bool true])
  (by decide) (fun _ h k => h.trans k.1) (Below.drew (Below.refl _ _)) (fun _ X => ⟨Below.refl _ _, fun _ _ h => .inl h⟩) ?hst ?hown ?_ ?_
 case hst =>
  intro q n y y' x A B hq hn hne _ hdep hy hA hE h3
  rcases n with _ | _ | _ | _ | _ | _ | _ | _ | _ | _ | n
  ·obtain ⟨b1, e1, hm⟩ := h3
   exact ⟨b1, e1, hE.map hm⟩
  ·exact h3
  ·exact h3
  ·exact h3
  ·exact h3
  ·exact h3
  ·exact h3
  ·obtain ⟨b1, e1, hz, cs, hs, hm⟩ := h3
   obtain ⟨c2, hs2, hm2⟩ := hE.size hm
   exact ⟨b1, e1, hz, c2, hs2.trans hs, hm2⟩
  ·obtain ⟨b1, e1, hz, cs, hs, hm⟩ := h3
   obtain ⟨c2, hs2, hm2⟩ := hE.size hm
   exact ⟨b1, e1, hz, c2, hs2.trans hs, hm2⟩
  ·obtain ⟨b1, e1, hm⟩ := h3
   have h7 : (7 : Nat) ≠ q := by
    rintro rfl
    exact absurd hdep (by rw [show Kit.depB _ _ _ = true from by kernel_rfl]; decide)
   exact ⟨b1, (hy 7 omg h7).trans e1, hE.keep hm (fun h => h.elim (fun h => hne h.1) (fun h => absurd h.2 (by decide)))⟩
  ·obtain rfl : n = 0 := by omega
   obtain ⟨b1, e1, hm⟩ := h3
   have h8 : (8 : Nat) ≠ q := by
    rintro rfl
    exact absurd hdep (by rw [show Kit.depB _ _ _ = true from by kernel_rfl]; decide)
   exact ⟨b1, (hy 8 omg h8).trans e1, hE.keep hm (fun h => h.elim (fun h => absurd h.2 (by decide)) (fun h => hne h.1))⟩
 case hown =>
  intro q y y' x X hq hy h3
  rcases q with _ | _ | _ | _ | _ | _ | _ | _ | _ | _ | q
  ·exact h3
  ·exact h3
  ·exact h3
  ·exact h3
  ·exact h3
  ·exact h3
  ·exact h3
  ·exact h3
  ·exact h3
  ·obtain ⟨b1, e1, hm⟩ := h3
   exact ⟨b1, (hy 7 omg omg).trans e1, hm⟩
  ·obtain rfl : q = 0 := by omega
   obtain ⟨b1, e1, hm⟩ := h3
   exact ⟨b1, (hy 8 omg omg).trans e1, hm⟩
 ·simp only [List.take_succ_cons, List.take_zero, Kit.StepsV3, Kit.VOp3, Kit.RdP3, true_and, if_true, and_true]
  refine ⟨?_, ?_, ?_, ?_, ?_, ?_, ?_, ?_, ?_, ?_, ?_⟩
  all_goals intro ev y X hx hv hc hf hg
  all_goals have hsx := hx.size
  ·simp [execOp, hc, hf, go_sem, Kit.UponV]
   refine (po_kinds X).mono ?_
   rintro _ X2 ⟨⟨B, rfl, hB, hm⟩, hb⟩
   exact ⟨_, rfl, ⟨B, rfl, hm⟩, Mo.E4.of hb hsx⟩
  ·simp at hv
   simp [execOp, hv, hc, go_sem, Kit.UponV]
   exact ⟨Below.refl _ _, fun _ _ h => .inl h⟩
  ·have := HC1.out X hx
   simp [execOp, hv.1, hc, go_sem, Kit.UponV, this]
   exact ⟨Below.refl _ _, fun _ _ h => .inl h⟩
  ·obtain ⟨⟨⟨B, e1, hm⟩, _⟩, e2, _⟩ := hv
   have hl := hm.look Mo.mk HWF.out
   rw [HROW.out] at hl
   simp only [Option.getD_some, Option.isSome_some] at hl
   simp [execOp, e1, e2, hc, go_sem, Kit.UponV, hl]
   exact ⟨Below.refl _ _, fun _ _ h => .inl h⟩
  ·simp [execOp, hv.1, hc, go_sem, Kit.UponV]
   exact ⟨Below.refl _ _, fun _ _ h => .inl h⟩
  ·simp [execOp, hv.1, hc, go_sem, Kit.UponV]
   exact ⟨Below.refl _ _, fun _ _ h => .inl h⟩
  ·simp [execOp, hv.1, hc, go_sem, Kit.UponV]
   exact ⟨Below.refl _ _, fun _ _ h => .inl h⟩
  ·simp [execOp, hc, go_sem, Kit.UponV]
   exact ⟨⟨hx.size, _, rfl, Kit.Bk.new X _ _⟩, Mo.E4.of ((Below.refl _ _).alloc nlr _) hsx⟩
  ·simp [execOp, hc, go_sem, Kit.UponV]
   exact ⟨⟨hx.size, _, rfl, Kit.Bk.new X _ _⟩, Mo.E4.of ((Below.refl _ _).alloc nlr _) hsx⟩
  ·obtain ⟨⟨⟨b1, e1, hz, cs, hs, hm⟩, e2⟩, e3, _⟩ := hv
   exact Kit.upon_store_bk _ _ _ rfl b1 e1 (Mo.rowA a b c d e f g h i_ j u v fn) e3 hm hs.symm HIK.out (Mo.rowA_one a b c d e f g h i_ j u v fn) fun W hW hX => ⟨⟨b1, e2.trans e1, hW⟩, Mo.E4.store hX hsx hz hm hW hs.symm (.inl ⟨rfl, rfl⟩)⟩
  ·obtain ⟨⟨⟨b1, e1, hz, cs, hs, hm⟩, e2⟩, e3, _⟩ := hv
   obtain ⟨v0, rfl⟩ : ∃ v0, cs = #[v0] := by
    rcases cs with ⟨_ | ⟨v0, _ | _⟩⟩
    ·simp at hs
    ·exact ⟨v0, rfl⟩
    ·simp at hs
   have ce : X.cell? ⟨b1, 0, none⟩ = some v0 := (hm.cell 0).trans rfl
   have fe := hm.frozen 0
   simp [execOp, e1, e3, hc, go_sem, Kit.UponV, ce, fe]
   exact ⟨⟨b1, e2.trans e1, hm.put 0 (.bool true) rfl⟩, Mo.E4.store (Kit.Exc.setCell (S := fun j => j = b1) (p := ⟨b1, 0, none⟩) (Kit.Exc.refl _ X) (.inl rfl) _) hsx hz hm (hm.put 0 (.bool true) rfl) rfl (.inr ⟨rfl, rfl⟩)⟩
 ·intro vs y W3 hy hv hx
  have v0 := hv 0 omg (fun _ _ => rfl)
  have v1 : vs 1 = _ := hv 1 omg (fun _ _ => rfl)
  have v2 : vs 2 = _ := hv 2 omg (fun _ _ => rfl)
  have v3 : vs 3 = _ := hv 3 omg (fun _ _ => rfl)
  have v4 : vs 4 = _ := hv 4 omg (fun _ _ => rfl)
  have v5 : vs 5 = _ := hv 5 omg (fun _ _ => rfl)
  have v6 : vs 6 = _ := hv 6 omg (fun _ _ => rfl)
  obtain ⟨O, v7, hO, _⟩ := hv 7 omg (fun _ _ => rfl)
  obtain ⟨K, v8, hK, _⟩ := hv 8 omg (fun _ _ => rfl)
  obtain ⟨O2, y7, bO⟩ := hv 9 omg (fun _ _ => rfl)
  obtain ⟨K2, y8, bK⟩ := hv 10 omg (fun _ _ => rfl)
  have u7 := hy 7 omg (by rw [show Kit.dstOf _ _ = some 8 from by kernel_rfl]; decide)
  have u8 := hy 8 omg (by rw [show Kit.dstOf _ _ = some 9 from by kernel_rfl]; decide)
  rw [u7, v7] at y7
  rw [u8, v8] at y8
  cases y7
  cases y8
  obtain ⟨MB, v0, _⟩ := v0
  have hOK : O ≠ K := fun e => by
   subst e
   have h9 := (bO.symm.trans bK)
   simp at h9
  clear hv hy u7 u8
  simp only [Kit.putD, List.getD_cons_zero, List.getD_cons_succ, Act.put, v0, v1, v2, v3, v4, v5, v6, v7, v8, List.drop_succ_cons, List.drop_zero, List.drop_nil]
  clear v0 v1 v2 v3 v4 v5 v6 v7 v8
  have HAf := qh (show Mo.Af w W3 s k r O K (Mo.rowA a b c d e f g h i_ j u v fn) from
   have zz := HZ2.out
   ⟨HB2.out.trans (hx.mono HB2.out.size), HR0.out.below hx omg, HR1.out.below hx omg, HR2.out.below hx omg, HR3.out.below hx omg, bO, bK, by omega, by omega, hOK⟩)
  clear hO hK hOK bO bK hx HR0 HR1 HR2 HR3 HB2 HC1 HZ2 HWF HROW
  go_simp
  have HFT := qh (fun (O K : Nat) (row : Array Value) (n lo hi : Int) (W : World) (hin : Tp.inb n lo hi = true) (h : Mo.Af w W s k r O K row) => ((po_fits n lo hi K W hin h.b).mono fun e w' ⟨he, hb, hx⟩ => ⟨he, h.fits hx hb⟩ : Calls Tryz.prog 65 #[.int .i64 n, .agg #[.int .i64 lo, .int .i64 hi], .pointer (some ⟨K, 0, none⟩)] W fun e w' => e = .returned (.tuple #[]) ∧ Mo.Af w w' s k r O K row))
  have g3 : W3.cell? ⟨w.heap.size + 1, 3, none⟩ = some (.int .i64 k.mark) := (HAf.out.k.cell 3).trans rfl
  go_upto_region 7 with (with_reducible refine (HFT.out O K _ k.mark 1 3 _ ((Tp.inb_iff _ _ _).2 HM.out) HAf.out).mono ?_; rintro _ W4 ⟨rfl, haf⟩)
  have HA4 := qh haf
  clear haf g3 HAf
  have g5 : W4.cell? ⟨w.heap.size + 1, 5, none⟩ = some (.int .i64 k.side) := (HA4.out.k.cell 5).trans rfl
  have g6 : W4.cell? ⟨w.heap.size + 1, 6, none⟩ = some (.int .i64 k.dir) := (HA4.out.k.cell 6).trans rfl
  have g7 : W4.cell? ⟨w.heap.size + 1, 7, none⟩ = some (.int .i64 k.level) := (HA4.out.k.cell 7).trans rfl
  have g8 : W4.cell? ⟨w.heap.size + 1, 8, none⟩ = some (.int .i64 k.size) := (HA4.out.k.cell 8).trans rfl
  have HIX := qh (fun W i hi => Mo.ix4 k.side k.dir k.level k.size W i hi)
  go_wp2_with fail
  clear g5 g6 g7 g8
  go_loopg [42] 4 (fun kx v42 wr => ∃ i : Nat, v42 = .int .i64 i ∧ i ≤ 4 ∧ 4 - i ≤ kx ∧ Hid (Mo.Af w wr s k r O K (Mo.rowA a b c d e f g h i_ j u v fn)))
  case atStart => exact ⟨0, rfl, by omega, by omega, HA4⟩
  case round =>
   obtain ⟨q, rfl, hq, hk, HA⟩ := hrel
   by_cases hlt : q < 4
   ·have hltz : (q : Int) < 4 := by omega
    have hix := HIX.out wr q hlt
    obtain ⟨n0, hn0⟩ : ∃ n, [k.side, k.dir, k.level, k.size].getD q 0 = n := ⟨_, rfl⟩
    rw [hn0] at hix
    obtain ⟨l0, h0_, o0, o1, hin⟩ : ∃ l0 h0_, wr.cell? ⟨O, q * 2, none⟩ = some (.int .i64 l0) ∧ wr.cell? ⟨O, q * 2 + 1, none⟩ = some (.int .i64 h0_) ∧ Tp.inb n0 l0 h0_ = true := by
     rw [← hn0]
     obtain rfl | rfl | rfl | rfl : q = 0 ∨ q = 1 ∨ q = 2 ∨ q = 3 := by omega
     ·exact ⟨a, b, (HA.out.o.cell 0).trans rfl, (HA.out.o.cell 1).trans rfl, HR.out.side⟩
     ·exact ⟨c, d, (HA.out.o.cell 2).trans rfl, (HA.out.o.cell 3).trans rfl, HR.out.dir⟩
     ·exact ⟨e, f, (HA.out.o.cell 4).trans rfl, (HA.out.o.cell 5).trans rfl, HR.out.level⟩
     ·exact ⟨g, h, (HA.out.o.cell 6).trans rfl, (HA.out.o.cell 7).trans rfl, HR.out.size⟩
    have HIN := qh hin
    clear hn0 hin HIX
    go_wp2_with (with_reducible refine (HFT.out O K _ n0 l0 h0_ _ HIN.out HA.out).mono ?_; rintro _ W5 ⟨rfl, haf⟩)
    go_roundg (4 - (q + 1))
    case measure => omega
    case rel => exact ⟨q + 1, by go_num, by omega, Nat.le_refl _, qh haf⟩
   ·obtain rfl : q = 4 := by omega
    clear HIX
    have HFTX := qh (fun W => HFT.out O K (Mo.rowA a b c d e f g h i_ j u v fn) W)
    have HIS := qh Mo.szS
    have c28 := qh Mo.chA_eq
    obtain ⟨t, ht⟩ : ∃ t, Mo.act1 s k r = t := ⟨_, rfl⟩
    have r1 : wr.cell? ⟨w.heap.size + 1 + 1, 1, none⟩ = some (.int .i64 r.2.1) := (HA.out.r.cell 1).trans rfl
    have r2 : wr.cell? ⟨w.heap.size + 1 + 1, 2, none⟩ = some (.int .i64 r.2.2.1) := (HA.out.r.cell 2).trans rfl
    have r3 : wr.cell? ⟨w.heap.size + 1 + 1, 3, none⟩ = some (.bool r.2.2.2) := (HA.out.r.cell 3).trans rfl
    have o8 : wr.cell? ⟨O, 8, none⟩ = some (.int .i64 i_) := (HA.out.o.cell 8).trans rfl
    have o9 : wr.cell? ⟨O, 9, none⟩ = some (.int .i64 j) := (HA.out.o.cell 9).trans rfl
    have o10 : wr.cell? ⟨O, 10, none⟩ = some (.int .i64 u) := (HA.out.o.cell 10).trans rfl
    have o11 : wr.cell? ⟨O, 11, none⟩ = some (.int .i64 v) := (HA.out.o.cell 11).trans rfl
    have hid : (r.1 != k.id) = false := by rw [HID.out]; simp
    have k0 : ∀ X, Hid (Kit.Bk X (w.heap.size + 1) 60 (Mo.sgC k).toArray) → X.cell? ⟨w.heap.size + 1, 0, none⟩ = some (.int .i64 k.id) := fun X h => (h.out.cell 0).trans rfl
    have HK0 := qh k0
    clear k0
    rcases hrp : r.2.2.2 with _ | _
    ·rw [hrp] at r3
     go_upto_region 15 with (with_reducible refine (HFT.out O K _ r.2.1 i_ j _ (HR.out.rdir hrp) HA.out).mono ?_; rintro _ W5 ⟨rfl, haf⟩)
     have HA5 := qh haf
     clear haf HA r1 r2 r3 o8 o9 o10 o11
     have r2 : W5.cell? ⟨w.heap.size + 1 + 1, 2, none⟩ = some (.int .i64 r.2.2.1) := (HA5.out.r.cell 2).trans rfl
     have o10 : W5.cell? ⟨O, 10, none⟩ = some (.int .i64 u) := (HA5.out.o.cell 10).trans rfl
     have o11 : W5.cell? ⟨O, 11, none⟩ = some (.int .i64 v) := (HA5.out.o.cell 11).trans rfl
     go_upto_region 16 with (with_reducible refine (HFT.out O K _ r.2.2.1 u v _ (HR.out.rlev hrp) HA5.out).mono ?_; rintro _ W6 ⟨rfl, haf⟩)
     have HA6 := qh haf
     clear haf HA5 r2 o10 o11
     have r0 : W6.cell? ⟨w.heap.size + 1 + 1, 0, none⟩ = some (.int .i64 r.1) := (HA6.out.r.cell 0).trans rfl
     have r3 : W6.cell? ⟨w.heap.size + 1 + 1, 3, none⟩ = some (.bool false) := (HA6.out.r.cell 3).trans (by rw [← hrp]; rfl)
     have k0 := HK0.out _ (qh HA6.out.k)
     have b0 : W6.cell? ⟨K, 0, none⟩ = some (.bool true) := (HA6.out.b.cell 0).trans rfl
     have HDO := qh (fun (B : Nat) (X : World) (hB : Mo.Ch X B s k r) (hx : Below w.heap.size w X) => (by
      have h := pc_do B s k r X HFit.out hB (HFl.out.kept hx nlr) HOK.out
      rw [HFN.out, ht] at h
      exact h : Calls Tryz.prog fn #[.pointer (some ⟨B, 0, none⟩)] X fun e w' => e = .returned (.tuple #[]) ∧ Mo.Ch w' B t k r ∧ Kit.Exc (fun j => j = B) X w'))
     have HEN := qh (show ∀ args X, (callFunc fn args).run Tryz.prog X = .ok (.enter fn args) X by rw [← HFN.out]; exact Mo.enters_fnK _)
     have HRES := qh (show Mo.act s k r = t by unfold Mo.act; rw [hrp, if_neg (by decide)]; exact ht)
     clear ht
     have HCO := qh (Mo.chA_one s k r)
     go_upto_region 20 with fail
     obtain ⟨zs, hzs, hza⟩ := Mo.alloc_ch (fun _ => undef) W6 none 0 "" #[]
     have HZ6 := qh (show w.heap.size ≤ W6.heap.size from HA6.out.bel.size)
     refine wp_region_lit ?_
     refine Kit.load_bk0 rfl 37 (.tmp 3) rfl w.heap.size rfl HA6.out.s Tryz.underlying37 rfl (HIS.out s) ?_
     refine Kit.load_bk0 rfl 60 (.tmp 4) rfl (w.heap.size + 1) rfl HA6.out.k Tryz.underlying60 rfl (HIG.out k) ?_
     refine Kit.load_bk0 rfl 69 (.tmp 5) rfl (w.heap.size + 2) rfl HA6.out.r Tryz.underlying69 rfl (HIR.out r) ?_
     refine Kit.wpList_run rfl (.agg (Mo.chA s k r)) W6 (Mo.build_ch _ s k r _ _ _ _ _ _ _ _ rfl rfl rfl) ?_
     refine Kit.wpList_run rfl (.pointer (some ⟨W6.heap.size, 0, none⟩)) (W6.alloc (.cells zs 153)) hza ?_
     refine Kit.store_bk0 rfl 153 (.tmp 13) (.tmp 88) rfl W6.heap.size rfl (Mo.chA s k r) rfl (Kit.Bk.new W6 153 zs) (by rw [hzs]; rfl) (HIC.out s k r) HCO.out ?_
     intro W7 hB7 hX7
     have HX7 := qh (show Kit.Exc (fun j => j = W6.heap.size) W6 W7 from ((Kit.Exc.refl _ W6).alloc _).trans hX7)
     have HB7 := qh hB7
     have HF7 := qh (show Kit.Bk W7 O 146 (Mo.rowA a b c d e f g h i_ j u v fn) from HA6.out.o.exc HX7.out (Nat.ne_of_lt HA6.out.o.lt))
     have HXX7 := qh (show Kit.Bk W7 (w.heap.size + 3) 37 (Mo.stA Mo.St.zero) from HA6.out.x.exc HX7.out (Nat.ne_of_lt HA6.out.x.lt))
     have HBE7 := qh (show Below w.heap.size w W7 from HA6.out.bel.trans (HX7.out.below HZ6.out (fun j hj => by have := HZ6.out; omega)))
     have HZC := qh (show w.heap.size + 3 < W6.heap.size from HA6.out.x.lt)
     generalize W6.heap.size = C at *
     clear hB7 hX7 hzs hza
     simp only [Act.put]
     go_simp
     have o12 : W7.cell? ⟨O, 12, none⟩ = some (.func (.func fn) #[] #[]) := (HF7.out.cell 12).trans rfl
     have hen := HEN.out
     go_upto_region 22 with fail
     refine (HDO.out C _ HB7.out HBE7.out).mono ?_
     rintro _ W8 ⟨rfl, hC8, hX8⟩
     dsimp only
     have HC8 := qh hC8
     have HXX8 := qh (HXX7.out.exc hX8 (by have := HXX7.out.lt; have := HZC.out; omega))
     have HBE8 := qh (show Below w.heap.size w W8 from HBE7.out.trans (hX8.below HBE7.out.size (fun j hj => by have := HZC.out; omega)))
     clear hC8 hX8 HF7 HXX7 HBE7 HB7 HX7 o12 hen HEN HDO
     have HTO := qh (Mo.stA_one t)
     have HTZ := qh (Mo.stA_one Mo.St.zero)
     have HAT := qh (Mo.chA_st t k r)
     clear HCK
     rcases hokt : Mo.ok t with _ | _
     ·have HT := qh (fun X => (by have h := po_check t X; rw [hokt, if_neg (by decide)] at h; exact h : Calls Tryz.prog 25 #[.agg (Mo.stA t)] X fun e w' => e = .returned (.int .i64 260) ∧ Below X.heap.size X w'))
      go_upto_region 22 with fail
      refine wp_region_lit ?_
      refine Kit.wpList_run rfl (.pointer (some ⟨C, 0, none⟩)) W8 rfl ?_
      refine Kit.load_bk rfl 37 (.tmp 92) rfl C 0 rfl (Mo.stA t) HC8.out HAT.out _ Tryz.underlying37 rfl (HIS.out t) ?_
      simp only [Act.put]
      go_simp
      go_upto_region 23 with (with_reducible refine (HT.out _).mono ?_; rintro _ W9 ⟨rfl, hb9⟩)
      have HX9 := qh (HXX8.out.below hb9 HXX8.out.lt)
      have HC9 := qh (show Mo.Ch W9 C t k r from (hb9.block C HC8.out.lt).trans HC8.out)
      have HBE9 := qh (HBE8.out.trans (hb9.mono HBE8.out.size))
      clear hb9 HC8 HBE8 HXX8
      refine wp_region_lit ?_
      refine Kit.load_bk0 rfl 37 (.tmp 6) rfl (w.heap.size + 3) rfl HX9.out Tryz.underlying37 rfl (HIS.out Mo.St.zero) ?_
      refine Kit.store_bk0 rfl 37 (.tmp 6) (.tmp 96) rfl (w.heap.size + 3) rfl (Mo.stA Mo.St.zero) rfl HX9.out rfl (HIS.out Mo.St.zero) HTZ.out ?_
      intro W10 hB10 hX10
      have HB10 := qh hB10
      have HX10 := qh hX10
      clear hB10 hX10
      simp only [Act.put]
      go_simp
      go_wp2_with fail
      refine bodyPost_ret (Kit.res_bk rfl rfl HB10.out _ Tryz.underlying37 rfl (HIS.out Mo.St.zero)) rfl ⟨?_, HBE9.out.trans (HX10.out.below HBE9.out.size (fun j hj => by omega))⟩
      rw [← HRT.out, ← HRE.out, HRES.out, if_neg (by rw [hokt]; decide), if_neg (by rw [hokt]; decide)]
      rfl
     ·have HT := qh (fun X => (by have h := po_check t X; rw [hokt, if_pos rfl] at h; exact h : Calls Tryz.prog 25 #[.agg (Mo.stA t)] X fun e w' => e = .returned (.int .i64 0) ∧ Below X.heap.size X w'))
      go_upto_region 22 with fail
      refine wp_region_lit ?_
      refine Kit.wpList_run rfl (.pointer (some ⟨C, 0, none⟩)) W8 rfl ?_
      refine Kit.load_bk rfl 37 (.tmp 92) rfl C 0 rfl (Mo.stA t) HC8.out HAT.out _ Tryz.underlying37 rfl (HIS.out t) ?_
      simp only [Act.put]
      go_simp
      go_upto_region 24 with (with_reducible refine (HT.out _).mono ?_; rintro _ W9 ⟨rfl, hb9⟩)
      have HX9 := qh (HXX8.out.below hb9 HXX8.out.lt)
      have HC9 := qh (show Mo.Ch W9 C t k r from (hb9.block C HC8.out.lt).trans HC8.out)
      have HBE9 := qh (HBE8.out.trans (hb9.mono HBE8.out.size))
      clear hb9 HC8 HBE8 HXX8
      refine wp_region_lit ?_
      refine Kit.wpList_run rfl (.pointer (some ⟨C, 0, none⟩)) W9 rfl ?_
      refine Kit.load_bk rfl 37 (.tmp 97) rfl C 0 rfl (Mo.stA t) HC9.out HAT.out _ Tryz.underlying37 rfl (HIS.out t) ?_
      refine Kit.store_bk0 rfl 37 (.tmp 6) (.tmp 98) rfl (w.heap.size + 3) rfl (Mo.stA t) rfl HX9.out rfl (HIS.out t) HTO.out ?_
      intro W10 hB10 hX10
      have HB10 := qh hB10
      have HX10 := qh hX10
      clear hB10 hX10
      simp only [Act.put]
      go_simp
      go_wp2_with fail
      refine bodyPost_ret (Kit.res_bk rfl rfl HB10.out _ Tryz.underlying37 rfl (HIS.out t)) rfl ⟨?_, HBE9.out.trans (HX10.out.below HBE9.out.size (fun j hj => by omega))⟩
      rw [← HRT.out, ← HRE.out, HRES.out, if_pos hokt, if_pos hokt]
      rfl
    ·rw [hrp] at r3
     have z8 := HA.out.o.frozen 8
     have z9 := HA.out.o.frozen 9
     have z10 := HA.out.o.frozen 10
     have z11 := HA.out.o.frozen 11
     go_upto_region 14 with fail
     refine Kit.wp_name ?_
     intro W4 hW4
     have HA4 := qh (show Mo.Af w W4 s k r O K (Mo.rowA a b c d e f g h 0 0 0 0 fn) by rw [hW4]; exact HA.out.drop)
     clear hW4 HA r1 r2 r3 o8 o9 o10 o11 z8 z9 z10 z11
     obtain ⟨hd1, hd2⟩ := HDR.out hrp
     have r1 : W4.cell? ⟨w.heap.size + 1 + 1, 1, none⟩ = some (.int .i64 0) := (HA4.out.r.cell 1).trans (by rw [← hd1]; rfl)
     have o8 : W4.cell? ⟨O, 8, none⟩ = some (.int .i64 0) := (HA4.out.o.cell 8).trans rfl
     have o9 : W4.cell? ⟨O, 9, none⟩ = some (.int .i64 0) := (HA4.out.o.cell 9).trans rfl
     have HD2 := qh hd2
     clear hd1 hd2
     go_upto_region 15 with (with_reducible refine (HFT.out O K _ 0 0 0 _ rfl HA4.out).mono ?_; rintro _ W5 ⟨rfl, haf⟩)
     have HA5 := qh haf
     clear haf HA4 r1 o8 o9
     have r2 : W5.cell? ⟨w.heap.size + 1 + 1, 2, none⟩ = some (.int .i64 0) := (HA5.out.r.cell 2).trans (by rw [← HD2.out]; rfl)
     have o10 : W5.cell? ⟨O, 10, none⟩ = some (.int .i64 0) := (HA5.out.o.cell 10).trans rfl
     have o11 : W5.cell? ⟨O, 11, none⟩ = some (.int .i64 0) := (HA5.out.o.cell 11).trans rfl
     go_upto_region 16 with (with_reducible refine (HFT.out O K _ 0 0 0 _ rfl HA5.out).mono ?_; rintro _ W6 ⟨rfl, haf⟩)
     have HA6 := qh haf
     clear haf HA5 r2 o10 o11
     have r0 : W6.cell? ⟨w.heap.size + 1 + 1, 0, none⟩ = some (.int .i64 r.1) := (HA6.out.r.cell 0).trans rfl
     have r3 : W6.cell? ⟨w.heap.size + 1 + 1, 3, none⟩ = some (.bool true) := (HA6.out.r.cell 3).trans (by rw [← hrp]; rfl)
     have k0 := HK0.out _ (qh HA6.out.k)
     have b0 : W6.cell? ⟨K, 0, none⟩ = some (.bool true) := (HA6.out.b.cell 0).trans rfl
     have HSO := qh (Mo.stA_one s)
     go_upto_region 19 with fail
     refine wp_region_lit ?_
     refine Kit.load_bk0 rfl 37 (.tmp 3) rfl w.heap.size rfl HA6.out.s Tryz.underlying37 rfl (HIS.out s) ?_
     refine Kit.store_bk0 rfl 37 (.tmp 6) (.tmp 84) rfl (w.heap.size + 3) rfl (Mo.stA s) rfl HA6.out.x rfl (HIS.out s) HSO.out ?_
     intro W7 hB7 hX7
     have HB7 := qh hB7
     have HX7 := qh hX7
     clear hB7 hX7
     simp only [Act.put]
     go_simp
     go_wp2_with fail
     have ha : Mo.act s k r = s := by unfold Mo.act; rw [if_pos hrp]
     refine bodyPost_ret (Kit.res_bk rfl rfl HB7.out _ Tryz.underlying37 rfl (HIS.out s)) rfl ⟨?_, HA6.out.bel.trans (HX7.out.below HA6.out.bel.size (fun j hj => by omega))⟩
     rw [← HRT.out, ← HRE.out, ha, if_pos HOK.out, if_pos HOK.out]
     rfl
end Go.Proofs.YtedolbjgdedoaaaGreatDoor
