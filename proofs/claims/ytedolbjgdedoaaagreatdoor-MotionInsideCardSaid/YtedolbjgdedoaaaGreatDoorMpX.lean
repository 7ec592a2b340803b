/- Walks: the laws of layer 27: MotionInside, from its third loop on. -/
import Derived.Test.YtedolbjgdedoaaaGreatDoorMpW
import Derived.Test.YtedolbjgdedoaaaGreatDoorMpB
set_option linter.unusedSimpArgs false
set_option linter.unusedVariables false
set_option maxRecDepth 100000
set_option maxHeartbeats 8000000
namespace Go.Proofs.YtedolbjgdedoaaaGreatDoor
open Go.RowKit Go.Shelf
attribute [local go_sem] Oper.semAt_some
namespace Mo
theorem okX_sweepI {b : Un.Bd} (h : Un.bok b = true) {r : List Uo.Re} {l : List Ex.Sg} {s : St} (hs : ok s = true) (hf : fine r l s = true) : okX (sweep r l s b) := by
 have hg := sm_figure h r l s
 refine okX_hull hg _ _ (okX_here hg hs) (fun t ht => ?_)
 have h1 : (t, (0 : Int)) ∈ all (prs r l) s := by
  have h2 := List.mem_of_mem_drop ht
  unfold all
  rw [tr_way, if_pos hf, List.append_nil]
  rcases l with _ | ⟨k, l⟩
  ·simp [way] at h2
   simp [h2]
  ·unfold way at h2 ⊢
   rcases List.mem_cons.1 h2 with e | e
   ·simp [e]
   ·exact List.mem_cons_of_mem _ (by simpa using e)
 exact all_ok _ _ hs t h1
theorem szGg (k : Ex.Sg) : (Tryz.prog.info? 60).map (·.size) = some (sgC k).toArray.size := by kernel_rfl
theorem mtB : Kit.MTypes Tryz.prog 78 3 4 (.bool false) := ⟨Tryz.underlying3, Tryz.underlying78, fun _ => by kernel_rfl⟩
theorem sl_exc {S : Nat → Prop} {A B : World} {a : Option Addr} {n k : Nat} {f : Nat → Nat → Value} (h : Tp.Sl A a n k f) (hx : Kit.Exc S A B) (hn : n ≠ 0 → ∀ ad, a = some ad → ¬ S ad.block) : Tp.Sl B a n k f := by
 rcases h with h | ⟨ad, h1, h2, h3⟩
 ·exact .inl h
 ·by_cases h0 : n = 0
  ·exact .inl h0
  ·exact .inr ⟨ad, h1, Nat.lt_of_lt_of_le h2 hx.size, fun i j hi hj => (World.cell?_of_block (by rw [Tp.add_block]; exact hx.block _ h2 (hn h0 ad h1))).trans (h3 i j hi hj)⟩
def E5 (n q : Nat) (A B : World) : Prop := Below n A B ∧ (q ≠ 11 → Below A.heap.size A B) ∧ ∀ (b : Nat) (cs : Array Value), cs.size = 13 → Kit.Bk A b 37 cs → ∃ cs', cs'.size = 13 ∧ Kit.Bk B b 37 cs'
theorem E5.of {n q : Nat} {A B : World} (h : Below A.heap.size A B) (hn : n ≤ A.heap.size) : E5 n q A B := ⟨h.mono hn, fun _ => h, fun _ cs hs hb => ⟨cs, hs, hb.below h hb.lt⟩⟩
theorem E5.refl (n q : Nat) (A : World) : E5 n q A A := ⟨Below.refl _ _, fun _ => Below.refl _ _, fun _ cs hs hb => ⟨cs, hs, hb⟩⟩
theorem E5.store {n b : Nat} {A B : World} {cs cs' : Array Value} (hx : Kit.Exc (fun k => k = b) A B) (hn : n ≤ A.heap.size) (hb : n ≤ b) (hA : Kit.Bk A b 37 cs) (hB : Kit.Bk B b 37 cs') (hs : cs.size = 13) (hs' : cs'.size = 13 := by rfl) : E5 n 11 A B :=
 ⟨hx.below hn (fun k hk => by omega), fun h => absurd rfl h, fun c ds h1 h2 => by
  by_cases e : c = b
  ·subst e; exact ⟨cs', hs', hB⟩
  ·exact ⟨ds, h1, h2.exc hx e⟩⟩
theorem exc_below {n : Nat} {A B : World} (h : Below n A B) : Kit.Exc (fun k => n ≤ k) A B := ⟨h.os, h.tape, h.output, h.size, fun k _ hn => h.block k omg⟩
structure LI (w W : World) (b : Un.Bd) (X : Bx) (en : St) (D L : Int) (XB EB PB MB n : Nat) (f : Int → Option Value) (aL : Option Addr) (l : List Ex.Sg) : Prop where
 bel : Below w.heap.size w W
 bd : Kit.Bk W (w.heap.size + 2) 48 (Un.bdA b)
 xb : Kit.Bk W XB 52 (bxA X)
 eb : Kit.Bk W EB 37 (stA en)
 pb : Kit.Bk W PB 34 #[.int .i64 D, .int .i64 L]
 mp : Kit.IMap Tryz.prog 3 W MB n f
 sl : Tp.Sl W aL l.length 14 (Ex.sgc l)
structure LP (w : World) (XB EB PB MB NB : Nat) (aL : Option Addr) (l : List Ex.Sg) : Prop where
 n0 : w.heap.size + 3 ≤ MB
 n1 : XB < MB
 n2 : EB < MB
 n3 : PB < MB
 n4 : MB < NB
 n5 : l.length ≠ 0 → ∀ ad, aL = some ad → ad.block < MB
theorem LI.exc {S : Nat → Prop} {w A B : World} {b : Un.Bd} {X : Bx} {en : St} {D L : Int} {XB EB PB MB NB n : Nat} {f : Int → Option Value} {aL : Option Addr} {l : List Ex.Sg} (h : LI w A b X en D L XB EB PB MB n f aL l) (p : LP w XB EB PB MB NB aL l) (hx : Kit.Exc S A B) (hS : ∀ k, S k → NB ≤ k) : LI w B b X en D L XB EB PB MB n f aL l := by
 have h0 := p.n0
 have h1 := p.n1
 have h2 := p.n2
 have h3 := p.n3
 have h4 := p.n4
 exact ⟨h.bel.trans (hx.below h.bel.size (fun k hk => by have := hS k hk; omega)), h.bd.exc hx (fun e => by have := hS _ e; omega), h.xb.exc hx (fun e => by have := hS _ e; omega), h.eb.exc hx (fun e => by have := hS _ e; omega), h.pb.exc hx (fun e => by have := hS _ e; omega),
  h.mp.kept (hx.block MB h.mp.lt (fun e => by have := hS _ e; omega)), sl_exc h.sl hx (fun h0 ad e k => by have := hS _ k; have := p.n5 h0 ad e; omega)⟩
theorem LI.put {w A B : World} {b : Un.Bd} {X : Bx} {en : St} {D L : Int} {XB EB PB MB NB n n' : Nat} {f f' : Int → Option Value} {aL : Option Addr} {l : List Ex.Sg} (h : LI w A b X en D L XB EB PB MB n f aL l) (p : LP w XB EB PB MB NB aL l) (hg : A.grownBy B (some MB)) (hm : Kit.IMap Tryz.prog 3 B MB n' f') : LI w B b X en D L XB EB PB MB n' f' aL l := by
 have hx : Kit.Exc (fun k => k = MB) A B := ⟨hg.os, hg.tape, hg.output, hg.size, fun k hk hn => hg.block k hk (fun e => hn (by injection e))⟩
 have h0 := p.n0
 have h1 := p.n1
 have h2 := p.n2
 have h3 := p.n3
 exact ⟨h.bel.trans (hx.below h.bel.size (fun k hk => by omega)), h.bd.exc hx omg, h.xb.exc hx omg, h.eb.exc hx omg, h.pb.exc hx omg, hm, sl_exc h.sl hx (fun h0 ad e k => by have := p.n5 h0 ad e; omega)⟩
theorem LI.then {w A B : World} {b : Un.Bd} {X : Bx} {en : St} {D L : Int} {XB EB PB MB NB n : Nat} {f : Int → Option Value} {aL : Option Addr} {l : List Ex.Sg} (h : LI w A b X en D L XB EB PB MB n f aL l) (p : LP w XB EB PB MB NB aL l) (hb : Below A.heap.size A B) : LI w B b X en D L XB EB PB MB n f aL l :=
 h.exc p ((Kit.Exc.refl (fun _ => False) A).then hb) (fun _ h => h.elim)
end Mo
theorem li_loop3 (s0 s1 s2 s3 s4 s5 s6 s7 s8 s9 s10 t1 t3 t2 : Code) (hc : Tryz.f9.body = some (.seq s0 (.seq s1 (.seq s2 (.seq s3 (.seq s4 (.seq s5 (.seq s6 (.seq s7 (.seq s8 (.seq s9 (.seq s10 (.seq (.seq t1 t3) t2))))))))))))) (x0 x1 x2 x3 x4 x6 x7 x8 x9 x10 x13 x14 x15 x16 x18 x20 x22 x26 x27 x28 x29 x30 x31 x32 x33 x34 x35 x36 x37 x38 x39 x40 x41 x42 x43 x44 x45 x46 x47 x48 x49 x50 x51 x52 x53 x54 x55 x56 x57 x58 x59 x60 x61 x62 x63 x64 x65 x66 x67 x68 x69 x70 x71 x72 x73 x74 x75 x76 x77 x78 x79 x80 x81 x82 x83 x84 x85 x86 x87 x88 x89 x90 x91 x92 x93 x94 x95 x96 x97 x98 x99 x100 x101 x102 x103 x104 x105 x106 x107 x108 x109 x110 x111 x112 x113 x114 x115 x116 x117 x118 x119 x120 x121 x122 x123 x124 x125 x126 x127 x128 x129 x130 x131 x132 x133 x134 x135 x136 x137 x138 x139 x140 x141 x142 x143 x144 x145 x146 x147 x148 x149 x150 x151 x152 x153 x154 x155 x156 x157 x158 x159 x160 x161 x162 x163 x164 x165 x166 x167 x168 x169 x170 x171 x172 x173 x174 x175 x176 x177 x178 x179 x180 x181 x182 x183 x184 x185 x186 x187 x188 x189 x190 x191 x192 x193 x194 x195 x196 x197 x198 x199 x200 x201 x202 x203 x204 : Value) (w V : World) (hF : Uo.Flat w) (s : Mo.St) (hs : Mo.ok s = true) (b : Un.Bd) (hnm : b.name.size ≤ 9223372036854775807) (hbk : Un.bok b = true) (r : List Uo.Re) (aR : Option Addr) (cR : Nat) (hR : Tp.Sl w aR r.length 4 (Mo.rcs r)) (hrl : r.length ≤ 1000000000)
  (l : List Ex.Sg) (aL : Option Addr) (cL : Nat) (hl : l.length ≤ 4096) (hk : ∀ k ∈ l, Mo.Fit k) (hfm : ∀ k ∈ l, Mo.form k (Mo.real r k.id) = true) (hfi : Mo.fine r l s = true) (D L : Int) (hD : 0 ≤ D ∧ D ≤ 8) (hLv : 1 ≤ L ∧ L ≤ 3) (XB EB PB MB NB n : Nat) (f : Int → Option Value) (hf : ∀ i : Nat, i < 5 → (f i).getD (.bool false) = .bool (Mo.movedB r l i))
  (hp : Mo.LP w XB EB PB MB NB aL l) (hV : Mo.LI w V b (Mo.sweep r l s b) (Mo.last r l s) D L XB EB PB MB n f aL l) (hN : Kit.Bk V NB 37 (Mo.stA s)) (R : Ending → World → Prop) (hRR : ∀ W', Below w.heap.size w W' → R (.returned (.bool true)) W') :
  ∀ K : Act → World → Prop, (∀ a w, t2.wp Tryz.prog (bodyPost Tryz.prog Tryz.f9 R) a w → K a w) → ∀ K2 : Act → World → Prop, (∀ a w, t3.wp Tryz.prog (Exit.then K (bodyPost Tryz.prog Tryz.f9 R)) a w → K2 a w) → t1.wp Tryz.prog (Exit.then K2 (Exit.then K (bodyPost Tryz.prog Tryz.f9 R))) { tmps := #[x0, x1, x2, x3, x4, .slice aR r.length cR, x6, x7, x8, x9, x10, .pointer (some ⟨(w.heap.size + 1), 0, none⟩), .pointer (some ⟨(w.heap.size + 2), 0, none⟩), x13, x14, x15, x16, .pointer (some ⟨XB, 0, none⟩), x18, .pointer (some ⟨EB, 0, none⟩), x20, .slice aL l.length cL, x22, .pointer (some ⟨PB, 0, none⟩), .pointer (some ⟨NB, 0, none⟩), .map (some MB), x26, x27, x28, x29, x30, x31, x32, x33, x34, x35, x36, x37, x38, x39, x40, x41, x42, x43, x44, x45, x46, x47, x48, x49, x50, x51, x52, x53, x54, x55, x56, x57, x58, x59, x60, x61, x62, x63, x64, x65, x66, x67, x68, x69, x70, x71, x72, x73, x74, x75, x76, x77, x78, x79, x80, x81, x82, x83, x84, x85, x86, x87, x88, x89, x90, x91, x92, x93, x94, x95, x96, x97, x98, x99, x100, x101, x102, x103, x104, x105, x106, x107, x108, x109, x110, x111, x112, x113, x114, x115, x116, x117, x118, x119, x120, x121, x122, x123, x124, x125, x126, x127, x128, x129, x130, x131, x132, x133, x134, x135, x136, x137, x138, x139, x140, x141, x142, x143, x144, x145, x146, x147, x148, x149, x150, x151, x152, x153, x154, x155, x156, x157, x158, x159, x160, x161, x162, x163, x164, x165, x166, x167, x168, x169, x170, x171, x172, x173, x174, x175, x176, x177, x178, x179, x180, x181, x182, x183, x184, x185, x186, x187, x188, x189, x190, x191, x192, x193, x194, x195, x196, x197, x198, x199, x200, x201, x202, x203, x204], defers := [] } V := by
 have HP := qh hp
 have HLI := qh hV
 have HN := qh hN
 have HRR := qh hRR
 have HFL := qh hF
 have HOKS := qh hs
 have HBK := qh hbk
 have HRS := qh hR
 have HKF := qh hk
 have HFM := qh hfm
 have HFI := qh hfi
 have HD := qh hD
 have HLV := qh hLv
 have HF := qh hf
 have HFD := qh (fun (q : Ex.Sg) W (hb : Below w.heap.size w W) => lw_find r q.id aR cR W hrl (hR.kept hb nlr))
 have HIN := qh (fun (u : Mo.St) W (hb : Below w.heap.size w W) (h1 : Mo.ok u = true) (h2 : Mo.Ins (Mo.extent u b) (Mo.sweep r l s b)) => lw_inside u b hnm (Mo.sweep r l s b) W (hF.kept hb nlr) h1 hbk (Mo.okX_sweepI hbk hs hfi) h2)
 have HLEN := qh hl
 clear hp hV hN hRR hF hs hbk hR hk hfm hfi hD hLv hf hrl hnm hl
 dsimp only [Tryz.f9] at hc
 injection hc with hc
 iterate 11 (injection hc with h1 hc; clear h1)
 injection hc with h1 h2
 injection h1 with h1 h3
 subst h1
 subst h2
 subst h3
 intro K hK K2 hK2
 go_wp2_with fail
 refine wp_loop_ghost_k (fun k a' w' => (∃ i : Nat, (a'.tmps.getD 140 undef) = .int .i64 i ∧ i ≤ l.length ∧ l.length - i ≤ k ∧ Hid (Mo.LI w w' b (Mo.sweep r l s b) (Mo.last r l s) D L XB EB PB MB n f aL l) ∧ Hid (Kit.Bk w' NB 37 (Mo.stA (Mo.last r (l.take i) s)))) ∧ a' = (fun (t : Nat → Value) => ({ tmps := #[x0, x1, x2, x3, x4, Value.slice aR r.length cR, x6, x7, x8, x9, x10, Value.pointer (some ⟨(w.heap.size + 1), 0, none⟩), Value.pointer (some ⟨(w.heap.size + 2), 0, none⟩), x13, x14, x15, x16, Value.pointer (some ⟨XB, 0, none⟩), x18, Value.pointer (some ⟨EB, 0, none⟩), x20, Value.slice aL l.length cL, x22, Value.pointer (some ⟨PB, 0, none⟩), Value.pointer (some ⟨NB, 0, none⟩), Value.map (some MB), x26, x27, x28, x29, x30, x31, t 32, t 33, t 34, t 35, t 36, x37, x38, x39, x40, x41, x42, x43, x44, x45, x46, x47, x48, x49, x50, x51, x52, x53, x54, x55, x56, x57, x58, x59, x60, x61, x62, x63, x64, x65, x66, x67, x68, x69, x70, x71, x72, x73, x74, x75, x76, x77, x78, x79, x80, x81, x82, x83, x84, x85, x86, x87, x88, x89, x90, x91, x92, x93, x94, x95, x96, x97, x98, x99, x100, x101, x102, x103, x104, x105, x106, x107, x108, x109, x110, x111, x112, x113, x114, x115, x116, x117, x118, x119, x120, x121, x122, x123, x124, x125, x126, x127, x128, x129, x130, x131, x132, x133, x134, x135, x136, x137, Value.slice aL l.length cL, Value.int .i64 l.length, t 140, t 141, t 142, t 143, t 144, t 145, t 146, t 147, t 148, t 149, t 150, t 151, t 152, t 153, t 154, t 155, t 156, t 157, t 158, t 159, t 160, t 161, t 162, t 163, t 164, t 165, t 166, t 167, t 168, t 169, t 170, t 171, t 172, t 173, t 174, t 175, t 176, t 177, t 178, t 179, t 180, t 181, t 182, t 183, t 184, t 185, t 186, t 187, t 188, t 189, t 190, t 191, t 192, t 193, t 194, t 195, t 196, t 197, t 198, t 199, t 200, t 201, x202, x203, x204], defers := [] } : Act)) (fun j => a'.tmps.getD j undef)) l.length ?atStart ?round
 case atStart => exact ⟨⟨0, rfl, by omega, by omega, HLI, qh HN.out⟩, by kernel_rfl⟩
 case round =>
  intro gk a' wr hinv
  obtain ⟨hrel, ha⟩ := hinv
  rw [ha]
  clear ha
  obtain ⟨s140, h140_⟩ : ∃ s, a'.tmps.getD 140 undef = s := ⟨_, rfl⟩
  rw [h140_] at hrel
  generalize ht_ : (fun j => a'.tmps.getD j undef) = t
  have f140_ : t 140 = s140 := by rw [← ht_]; exact h140_
  clear ht_ h140_
  clear a'
  dsimp only
  rw [f140_]
  clear f140_
  intro _ _ _ _
  obtain ⟨i, rfl, hi, hk, HI, HNB⟩ := hrel
  clear HLI HN
  by_cases hlt : i < l.length
  ·have hltz : (i : Int) < (l.length : Int) := by omega
   have hll := HLEN.out
   obtain ⟨ad, rfl, hadb, _⟩ := HI.out.sl.at hlt
   have hsl := HI.out.sl
   (have e0 := hsl.head hlt omg; have e1 := hsl.field hlt (j := 1) omg omg; have e2 := hsl.field hlt (j := 2) omg omg; have e3 := hsl.field hlt (j := 3) omg omg; have e4 := hsl.field hlt (j := 4) omg omg; have e5 := hsl.field hlt (j := 5) omg omg; have e6 := hsl.field hlt (j := 6) omg omg; have e7 := hsl.field hlt (j := 7) omg omg; have e8 := hsl.field hlt (j := 8) omg omg; have e9 := hsl.field hlt (j := 9) omg omg; have e10 := hsl.field hlt (j := 10) omg omg; have e11 := hsl.field hlt (j := 11) omg omg; have e12 := hsl.field hlt (j := 12) omg omg; have e13 := hsl.field hlt (j := 13) omg omg; obtain ⟨y, hy_⟩ : ∃ y, l.getD i default = y := ⟨_, rfl⟩; simp only [Ex.sgc, hy_] at e0 e1 e2 e3 e4 e5 e6 e7 e8 e9 e10 e11 e12 e13)
   have hyl : l[i]? = some y := by rw [List.getElem?_eq_getElem hlt, ← hy_]; simp [List.getD, hlt]
   have hmem : y ∈ l := List.mem_of_getElem? hyl
   obtain ⟨hw1, ho1⟩ := Mo.way_at r l s i HOKS.out HFI.out omg
   obtain ⟨hw2, ho2⟩ := Mo.way_at r l s (i + 1) HOKS.out HFI.out hlt
   have hst : Mo.last r (l.take (i + 1)) s = Mo.act (Mo.last r (l.take i) s) y (Mo.real r y.id) := by rw [Mo.take_get l i y hyl, Mo.last_snoc]
   have HAF := qh (fun W (hb : Below w.heap.size w W) => (by
    have h := po_after (Mo.last r (l.take i) s) y (Mo.real r y.id) W (HKF.out y hmem) (HFM.out y hmem) ho1 (HFL.out.kept hb nlr)
    rw [← hst, if_pos ho2, if_pos ho2] at h
    exact h : Calls Tryz.prog 30 #[.agg (Mo.stA (Mo.last r (l.take i) s)), .agg (Mo.sgC y).toArray, .agg (Mo.reC (Mo.real r y.id)).toArray] W fun e w' => e = .returned (.tuple #[.agg (Mo.stA (Mo.last r (l.take (i + 1)) s)), .int .i64 0]) ∧ Below W.heap.size W w'))
   have HI1 := qh (fun W (hb : Below w.heap.size w W) => HIN.out (Mo.last r (l.take (i + 1)) s) W hb ho2 (Mo.inside_way r l s _ b (fun i => by have := Mo.reach_bd HBK.out i; omega) HKF.out hw2))
   have HI2 := qh (fun W (hb : Below w.heap.size w W) => HIN.out (Mo.midS (Mo.last r (l.take i) s) (Mo.last r (l.take (i + 1)) s) (Mo.movedB r l) D L 5) W hb (Mo.ok_midS ho1 ho2 _ HD.out HLV.out) (Mo.inside_midS HBK.out HKF.out hw1 hw2 D L))
   have hb1 := (Mo.ok_iff (Mo.okF_of ho1)).1 ho1
   have hb2 := (Mo.ok_iff (Mo.okF_of ho2)).1 ho2
   obtain ⟨U, hU⟩ : ∃ u, Mo.last r (l.take i) s = u := ⟨_, rfl⟩
   obtain ⟨T, hT⟩ : ∃ u, Mo.last r (l.take (i + 1)) s = u := ⟨_, rfl⟩
   rw [hU] at HNB HAF HI2 hb1
   rw [hT] at HAF HI1 HI2 hb2
   have d1 := Mo.tdiv2 (T.x - U.x)
   have d2 := Mo.tdiv2 (T.y - U.y)
   have z1 : IntKind.i64.wrap (T.x - U.x) = T.x - U.x := by rw [IntKind.wrap_i64] <;> omega
   have z2 : IntKind.i64.wrap (T.y - U.y) = T.y - U.y := by rw [IntKind.wrap_i64] <;> omega
   have z3 : IntKind.i64.wrap ((T.x - U.x).tdiv 2) = (T.x - U.x).tdiv 2 := by rw [IntKind.wrap_i64] <;> (rcases Int.le_total 0 (T.x - U.x) with h | h <;> omega)
   have z4 : IntKind.i64.wrap ((T.y - U.y).tdiv 2) = (T.y - U.y).tdiv 2 := by rw [IntKind.wrap_i64] <;> (rcases Int.le_total 0 (T.y - U.y) with h | h <;> omega)
   have z5 : IntKind.i64.wrap (U.x + (T.x - U.x).tdiv 2) = U.x + (T.x - U.x).tdiv 2 := by rw [IntKind.wrap_i64] <;> (rcases Int.le_total 0 (T.x - U.x) with h | h <;> omega)
   have z6 : IntKind.i64.wrap (U.y + (T.y - U.y).tdiv 2) = U.y + (T.y - U.y).tdiv 2 := by rw [IntKind.wrap_i64] <;> (rcases Int.le_total 0 (T.y - U.y) with h | h <;> omega)
   obtain ⟨X, hX⟩ : ∃ u, Mo.sweep r l s b = u := ⟨_, rfl⟩
   obtain ⟨E, hE⟩ : ∃ u, Mo.last r l s = u := ⟨_, rfl⟩
   simp only [hX] at HI1 HI2
   have HTT := qh hT
   have HXX := qh hX
   have HEE := qh hE
   have HIX := qh (show Mo.LI w wr b X E D L XB EB PB MB n f (some ad) l by rw [← hX, ← hE]; exact HI.out)
   have HZ := qh (show NB < wr.heap.size from HNB.out.lt)
   obtain ⟨q, hq⟩ : ∃ u, Mo.real r y.id = u := ⟨_, rfl⟩
   have HFQ := qh (fun W (hb : Below w.heap.size w W) => hq ▸ HFD.out y W hb)
   rw [hq] at HAF
   clear hyl hmem hw1 hw2 ho1 ho2 hst hU hT hX hE hq hb1 hb2 d1 d2 hsl hy_ HI
   go_upto_region 30 with fail
   refine Kit.wp_name ?_
   intro W1 hW1
   have hbW : Below wr.heap.size wr W1 := by rw [hW1]; exact (Below.refl _ _).alloc nlr _
   have HI3 := qh (HIX.out.then HP.out hbW)
   have HN3 := qh (HNB.out.below hbW HNB.out.lt)
   have HY3 := qh (show Kit.Bk W1 wr.heap.size 60 (Mo.sgC y).toArray by rw [hW1]; exact Kit.Bk.new _ _ _)
   have HZ3 := qh (show NB < W1.heap.size from Nat.lt_of_lt_of_le HZ.out hbW.size)
   obtain ⟨SB, hB⟩ : ∃ k, wr.heap.size = k := ⟨_, rfl⟩
   rw [hB] at HY3 ⊢
   have HSZ := qh (Mo.szGg y)
   have hy0 : ∀ w', Below W1.heap.size W1 w' → w'.cell? ⟨SB, 0, none⟩ = some (.int .i64 y.id) := fun w' hx => ((HY3.out.below hx HY3.out.lt).cell 0).trans rfl
   have HY0 := qh hy0
   clear hy0
   obtain ⟨SA, hSA⟩ : ∃ a, (Mo.sgC y).toArray = a := ⟨_, rfl⟩
   obtain ⟨RA, hRA⟩ : ∃ a, (Mo.reC q).toArray = a := ⟨_, rfl⟩
   obtain ⟨yid, hyid⟩ : ∃ a, y.id = a := ⟨_, rfl⟩
   rw [hSA] at HY3 HSZ
   simp only [hSA, hRA] at HAF
   simp only [hRA, hyid] at HFQ
   simp only [hyid] at HY0
   clear hSA hRA hyid
   clear hW1 hbW hB HIX HNB HZ e0 e1 e2 e3 e4 e5 e6 e7 e8 e9 e10 e11 e12 e13
   refine Kit.wp_region_vals3 12 [([(24, none)], none, true), ([(32, none)], none, true), ([(5, none)], none, true), ([(32, none)], none, true), ([(148, some 3)], none, true), ([(147, some 2), (149, some 4)], none, true), ([(145, some 0), (146, some 1), (150, some 5)], none, true), ([(151, some 6)], none, true), ([(144, some 7)], none, true), ([(144, some 7)], none, true), ([], none, true), ([(33, some 10), (152, some 8)], none, true)]
    [some 145, some 146, some 147, some 148, some 149, some 150, some 151, some 144, some 152, some 153, some 33, none] rfl (by kernel_rfl) (by kernel_rfl) (fun X => Below W1.heap.size W1 X) (fun qq A B => Mo.E5 W1.heap.size qq A B) (fun _ _ => false) (fun qq y v X => match qq with
    | 0 => v = .agg (Mo.stA U)
    | 1 => v = .agg SA
    | 2 => v = .slice aR r.length cR
    | 3 => v = .pointer (some ⟨SB, 0, none⟩)
    | 4 => v = .int .i64 yid
    | 5 => v = .agg RA
    | 6 => v = .tuple #[.agg (Mo.stA T), .int .i64 0]
    | 7 => v = .tuple #[.agg (Mo.stA T), .int .i64 0]
    | 8 => v = .agg (Mo.stA T)
    | 9 => v = .int .i64 0
    | 10 => ∃ B, v = .pointer (some ⟨B, 0, none⟩) ∧ W1.heap.size ≤ B ∧ ∃ cs, cs.size = 13 ∧ Kit.Bk X B 37 cs
    | _ => ∃ B, y 10 = .pointer (some ⟨B, 0, none⟩) ∧ Kit.Bk X B 37 (Mo.stA T))
    (by decide) (fun _ h k => h.trans k.1) (Below.drew (Below.refl _ _)) (fun _ X => Mo.E5.refl _ _ X) ?hst ?hown ?_ ?_
   case hst =>
    intro qq m y y' v A B hq hn hne _ hdep hy hA hE h3
    rcases m with _ | _ | _ | _ | _ | _ | _ | _ | _ | _ | _ | m
    ·exact h3
    ·exact h3
    ·exact h3
    ·exact h3
    ·exact h3
    ·exact h3
    ·exact h3
    ·exact h3
    ·exact h3
    ·exact h3
    ·obtain ⟨b1, e1, hz, cs, hs, hm⟩ := h3
     obtain ⟨c2, hs2, hm2⟩ := hE.2.2 b1 cs hs hm
     exact ⟨b1, e1, hz, c2, hs2, hm2⟩
    ·obtain rfl : m = 0 := by omega
     obtain ⟨b1, e1, hm⟩ := h3
     have h10 : (10 : Nat) ≠ qq := by
      rintro rfl
      exact absurd hdep (by rw [show Kit.depB _ _ _ = true from by kernel_rfl]; decide)
     exact ⟨b1, (hy 10 omg h10).trans e1, hm.below (hE.2.1 (fun e => hne e)) hm.lt⟩
   case hown =>
    intro qq y y' v X hq hy h3
    rcases qq with _ | _ | _ | _ | _ | _ | _ | _ | _ | _ | _ | qq
    ·exact h3
    ·exact h3
    ·exact h3
    ·exact h3
    ·exact h3
    ·exact h3
    ·exact h3
    ·exact h3
    ·exact h3
    ·exact h3
    ·exact h3
    ·obtain rfl : qq = 0 := by omega
     obtain ⟨b1, e1, hm⟩ := h3
     exact ⟨b1, (hy 10 omg omg).trans e1, hm⟩
   ·simp only [List.take_succ_cons, List.take_zero, Kit.StepsV3, Kit.VOp3, Kit.RdP3, true_and, if_true, and_true]
    refine ⟨?_, ?_, ?_, ?_, ?_, ?_, ?_, ?_, ?_, ?_, ?_, ?_⟩
    all_goals intro ev u w' hx hv hc hf hg
    ·rw [Kit.run_load_bk 37 (.tmp 24) rfl NB (by rw [hv]; rfl) (HN3.out.below hx HN3.out.lt) Tryz.underlying37 rfl (Mo.szS _)]
     exact ⟨rfl, Mo.E5.refl _ _ _⟩
    ·rw [Kit.run_load_bk 60 (.tmp 32) rfl SB (by rw [hv]; rfl) (HY3.out.below hx HY3.out.lt) Tryz.underlying60 rfl HSZ.out]
     exact ⟨rfl, Mo.E5.refl _ _ _⟩
    ·have h5 : ev (.tmp 5) = .slice aR r.length cR := hv.trans rfl
     simp [execOp, h5, hc, go_sem, Kit.UponV]
     exact Mo.E5.refl _ _ _
    ·have h32 : ev (.tmp 32) = .pointer (some ⟨SB, 0, none⟩) := hv.trans rfl
     simp [execOp, h32, hc, go_sem, Kit.UponV]
     exact Mo.E5.refl _ _ _
    ·have h148 : ev (.tmp 148) = .pointer (some ⟨SB, 0, none⟩) := hv.1
     have y0 : w'.cell? ⟨SB, 0, none⟩ = some (.int .i64 yid) := (HY0.out w' hx)
     simp [execOp, h148, hc, y0, go_sem, Kit.UponV]
     exact Mo.E5.refl _ _ _
    ·obtain ⟨⟨h147, _⟩, h149, _⟩ := hv
     have h147 : ev (.tmp 147) = .slice aR r.length cR := h147
     have h149 : ev (.tmp 149) = .int .i64 yid := h149
     simp [execOp, h147, h149, hc, hf, go_sem, Kit.UponV]
     refine (HFQ.out w' (HI3.out.bel.trans (hx.mono HI3.out.bel.size))).mono ?_
     rintro e w3 ⟨rfl, hb⟩
     exact ⟨_, rfl, rfl, Mo.E5.of hb hx.size⟩
    ·obtain ⟨⟨h145, _⟩, ⟨h146, _⟩, h150, _⟩ := hv
     have haf := HAF.out w' (HI3.out.bel.trans (hx.mono HI3.out.bel.size))
     have h145 : ev (.tmp 145) = .agg (Mo.stA U) := h145
     have h146 : ev (.tmp 146) = .agg SA := h146
     have h150 : ev (.tmp 150) = .agg RA := h150
     simp [execOp, h145, h146, h150, hc, hf, go_sem, Kit.UponV]
     refine haf.mono ?_
     rintro e w3 ⟨rfl, hb⟩
     exact ⟨_, rfl, rfl, Mo.E5.of hb hx.size⟩
    ·have h151 : ev (.tmp 151) = .tuple #[.agg (Mo.stA T), .int .i64 0] := hv.1
     simp [execOp, h151, hc, go_sem, Kit.UponV]
     exact Mo.E5.refl _ _ _
    ·have h144 : ev (.tmp 144) = .tuple #[.agg (Mo.stA T), .int .i64 0] := hv.1
     simp [execOp, h144, hc, go_sem, Kit.UponV]
     exact Mo.E5.refl _ _ _
    ·have h144 : ev (.tmp 144) = .tuple #[.agg (Mo.stA T), .int .i64 0] := hv.1
     simp [execOp, h144, hc, go_sem, Kit.UponV]
     exact Mo.E5.refl _ _ _
    ·simp [execOp, hc, go_sem, Kit.UponV]
     exact ⟨⟨hx.size, _, rfl, Kit.Bk.new w' _ _⟩, Mo.E5.of ((Below.refl _ _).alloc nlr _) hx.size⟩
    ·obtain ⟨⟨⟨b1, e1, hz, cs, hs, hm⟩, e2⟩, e3, _⟩ := hv
     exact Kit.upon_store_bk _ _ _ rfl b1 e1 (Mo.stA T) e3 hm hs.symm (Mo.szS T) (Mo.stA_one T) fun W hW hX => ⟨⟨b1, e2.trans e1, hW⟩, Mo.E5.store hX hx.size hz hm hW hs⟩
   intro vs u W3 hy hv hx
   have v8 : vs 8 = .agg (Mo.stA T) := hv 8 omg (fun _ _ => rfl)
   have v9 : vs 9 = .int .i64 0 := hv 9 omg (fun _ _ => rfl)
   obtain ⟨B, v10, hB1, _⟩ := hv 10 omg (fun _ _ => rfl)
   obtain ⟨B2, u10, hB2⟩ := hv 11 omg (fun _ _ => rfl)
   have uu := hy 10 omg (by rw [show Kit.dstOf _ _ = some 33 from by kernel_rfl]; decide)
   rw [uu, v10] at u10
   cases u10
   clear hv hy uu
   have HI5 := qh (HI3.out.exc HP.out (Mo.exc_below hx) (fun k hk => by have := HZ3.out; omega))
   have HN5 := qh (HN3.out.below hx HN3.out.lt)
   have HB3 := qh hB2
   have HZB := qh (show NB < B from Nat.lt_of_lt_of_le HZ3.out hB1)
   clear hx hB1 hB2 HI3 HN3 HY3 HZ3 HFQ HAF HY0 HSZ
   simp only [Kit.putD, List.getD_cons_zero, List.getD_cons_succ, Act.put, v8, v9, v10, List.drop_succ_cons, List.drop_zero]
   generalize vs 0 = g0 at *
   generalize vs 1 = g1 at *
   generalize vs 2 = g2 at *
   generalize vs 3 = g3 at *
   generalize vs 4 = g4 at *
   generalize vs 5 = g5 at *
   generalize vs 6 = g6 at *
   generalize vs 7 = g7 at *
   clear v8 v9 v10
   go_simp
   have bc : ∀ j, W3.cell? ⟨w.heap.size + 2, j, none⟩ = (Un.bdA b)[j]? := fun j => HI5.out.bd.cell j
   simp only [Un.bdA] at bc
   have qb : ∀ j, W3.cell? ⟨B, j, none⟩ = (Mo.stA T)[j]? := fun j => HB3.out.cell j
   have qx : ∀ j, W3.cell? ⟨XB, j, none⟩ = (Mo.bxA X)[j]? := fun j => HI5.out.xb.cell j
   go_wp2_with fail
   refine (HI1.out _ HI5.out.bel).mono ?_
   rintro _ W4 ⟨rfl, hb⟩
   have HI6 := qh (HI5.out.then HP.out hb)
   have HN6 := qh (HN5.out.below hb HN5.out.lt)
   have HB4 := qh (HB3.out.below hb HB3.out.lt)
   clear hb HI5 HN5 HB3 HI1 bc qb qx
   go_upto_region 33 with fail
   refine wp_region_lit ?_
   refine Kit.load_bk0 rfl 37 (.tmp 33) rfl B rfl HB4.out Tryz.underlying37 rfl (Mo.szS _) ?_
   simp only [Act.put]
   go_simp
   go_upto_region 34 with fail
   refine Kit.wp_name ?_
   intro W5 hW5
   have hbW : Below W4.heap.size W4 W5 := by rw [hW5]; exact (Below.refl _ _).alloc nlr _
   have HI7 := qh (HI6.out.then HP.out hbW)
   have HN7 := qh (HN6.out.below hbW HN6.out.lt)
   have HB5 := qh (HB4.out.below hbW HB4.out.lt)
   have HO5 := qh (show Kit.Bk W5 W4.heap.size 37 (Mo.stA T) by rw [hW5]; exact Kit.Bk.new _ _ _)
   have HZO := qh (show B < W4.heap.size from HB4.out.lt)
   obtain ⟨OB, hB⟩ : ∃ k, W4.heap.size = k := ⟨_, rfl⟩
   rw [hB] at HO5 HZO ⊢
   clear hW5 hbW hB HI6 HN6 HB4
   have n0 : W5.cell? ⟨NB, 0, none⟩ = some (.int .i64 U.x) := (HN7.out.cell 0).trans rfl
   have n1 : W5.cell? ⟨NB, 1, none⟩ = some (.int .i64 U.y) := (HN7.out.cell 1).trans rfl
   have b0 : W5.cell? ⟨B, 0, none⟩ = some (.int .i64 T.x) := (HB5.out.cell 0).trans rfl
   have b1 : W5.cell? ⟨B, 1, none⟩ = some (.int .i64 T.y) := (HB5.out.cell 1).trans rfl
   have o0 : W5.cell? ⟨OB, 0, none⟩ = some (.int .i64 T.x) := (HO5.out.cell 0).trans rfl
   have o1 : W5.cell? ⟨OB, 1, none⟩ = some (.int .i64 T.y) := (HO5.out.cell 1).trans rfl
   have p0 := HO5.out.frozen 0
   have p1 := HO5.out.frozen 1
   have hob : OB ≠ NB := by have := HZB.out; have := HZO.out; omega
   have hob2 : OB ≠ B := by have := HZO.out; omega
   have hbo := hob.symm
   have hbo2 := hob2.symm
   have HNC0 := qh (show ∀ X, Kit.Exc (fun k => k = OB) W5 X → X.cell? ⟨NB, 0, none⟩ = some (.int .i64 U.x) from fun X hx => ((HN7.out.exc hx hbo).cell 0).trans rfl)
   have HNC1 := qh (show ∀ X, Kit.Exc (fun k => k = OB) W5 X → X.cell? ⟨NB, 1, none⟩ = some (.int .i64 U.y) from fun X hx => ((HN7.out.exc hx hbo).cell 1).trans rfl)
   have HBC0 := qh (show ∀ X, Kit.Exc (fun k => k = OB) W5 X → X.cell? ⟨B, 0, none⟩ = some (.int .i64 T.x) from fun X hx => ((HB5.out.exc hx hbo2).cell 0).trans rfl)
   have HBC1 := qh (show ∀ X, Kit.Exc (fun k => k = OB) W5 X → X.cell? ⟨B, 1, none⟩ = some (.int .i64 T.y) from fun X hx => ((HB5.out.exc hx hbo2).cell 1).trans rfl)
   clear n0 n1 b0 b1 o0 o1 p0 p1
   refine Kit.wp_region_vals3 20 [([(24, none)], none, true), ([(164, some 0)], none, true), ([(33, none)], none, true), ([(166, some 2)], none, true), ([(24, none)], none, true), ([(168, some 4)], none, true), ([(167, some 3), (169, some 5)], none, true), ([(170, some 6)], none, true), ([(165, some 1), (171, some 7)], none, true), ([(24, none)], none, true), ([(173, some 9)], none, true), ([(33, none)], none, true), ([(175, some 11)], none, true), ([(24, none)], none, true), ([(177, some 13)], none, true), ([(176, some 12), (178, some 14)], none, true), ([(179, some 15)], none, true), ([(174, some 10), (180, some 16)], none, true), ([(35, none)], none, true), ([(182, some 18), (172, some 8)], none, true)]
    [some 164, some 165, some 166, some 167, some 168, some 169, some 170, some 171, some 172, some 173, some 174, some 175, some 176, some 177, some 178, some 179, some 180, some 181, some 182, none] rfl (by kernel_rfl) (by kernel_rfl) (fun X => Kit.Exc (fun k => k = OB) W5 X ∧ ∃ c0, Kit.Bk X OB 37 ((Mo.stA T).setIfInBounds 0 c0)) (fun qq A B => Kit.Exc (fun k => qq = 19 ∧ k = OB) A B ∧ ∀ c0, Kit.Bk A OB 37 ((Mo.stA T).setIfInBounds 0 c0) → ∃ c1, Kit.Bk B OB 37 ((Mo.stA T).setIfInBounds 0 c1)) (fun _ _ => false) (fun qq y x X => match qq with
    | 0 => x = .pointer (some ⟨NB, 0, none⟩)
    | 1 => x = .int .i64 U.x
    | 2 => x = .pointer (some ⟨B, 0, none⟩)
    | 3 => x = .int .i64 T.x
    | 4 => x = .pointer (some ⟨NB, 0, none⟩)
    | 5 => x = .int .i64 U.x
    | 6 => x = .int .i64 (T.x - U.x)
    | 7 => x = .int .i64 ((T.x - U.x).tdiv 2)
    | 8 => x = .int .i64 (U.x + (T.x - U.x).tdiv 2)
    | 9 => x = .pointer (some ⟨NB, 1, none⟩)
    | 10 => x = .int .i64 U.y
    | 11 => x = .pointer (some ⟨B, 1, none⟩)
    | 12 => x = .int .i64 T.y
    | 13 => x = .pointer (some ⟨NB, 1, none⟩)
    | 14 => x = .int .i64 U.y
    | 15 => x = .int .i64 (T.y - U.y)
    | 16 => x = .int .i64 ((T.y - U.y).tdiv 2)
    | 17 => x = .int .i64 (U.y + (T.y - U.y).tdiv 2)
    | 18 => x = .pointer (some ⟨OB, 0, none⟩)
    | _ => Kit.Bk X OB 37 ((Mo.stA T).setIfInBounds 0 (.int .i64 (U.x + (T.x - U.x).tdiv 2))))
    (by decide) (fun {q A B} _ h k => ⟨h.1.trans (k.1.mono (fun j _ hj => hj.2)), h.2.elim fun c hc => k.2 c hc⟩) ⟨(Kit.Exc.refl _ W5).drew, _, (show Kit.Bk W5 OB 37 ((Mo.stA T).setIfInBounds 0 (.int .i64 T.x)) from HO5.out)⟩ (fun _ X => ⟨Kit.Exc.refl _ X, fun c h => ⟨c, h⟩⟩) ?hst ?hown ?_ ?_
   case hst =>
    intro qq m y y' x A B hq hn hne _ hdep hy hA hE h3
    rcases m with _ | _ | _ | _ | _ | _ | _ | _ | _ | _ | _ | _ | _ | _ | _ | _ | _ | _ | _ | m
    ·exact h3
    ·exact h3
    ·exact h3
    ·exact h3
    ·exact h3
    ·exact h3
    ·exact h3
    ·exact h3
    ·exact h3
    ·exact h3
    ·exact h3
    ·exact h3
    ·exact h3
    ·exact h3
    ·exact h3
    ·exact h3
    ·exact h3
    ·exact h3
    ·exact h3
    ·obtain rfl : m = 0 := by omega
     exact Kit.Bk.exc h3 hE.1 (fun h => hne h.1)
   case hown =>
    intro qq y y' x X hq hy h3
    exact h3
   ·simp only [List.take_succ_cons, List.take_zero, Kit.StepsV3, Kit.VOp3, Kit.RdP3, true_and, if_true, and_true]
    refine ⟨?_, ?_, ?_, ?_, ?_, ?_, ?_, ?_, ?_, ?_, ?_, ?_, ?_, ?_, ?_, ?_, ?_, ?_, ?_, ?_⟩
    all_goals intro ev u w' hxx hv hc hf hg
    all_goals have hx := hxx.1
    ·have h24 : ev (.tmp 24) = .pointer (some ⟨NB, 0, none⟩) := hv.trans rfl
     simp [execOp, h24, hc, go_sem, Kit.UponV]
     exact ⟨Kit.Exc.refl _ _, fun c h => ⟨c, h⟩⟩
    ·have hh : ev (.tmp 164) = .pointer (some ⟨NB, 0, none⟩) := hv.1
     have hcc := HNC0.out w' hx
     simp [execOp, hh, hc, hcc, go_sem, Kit.UponV]
     exact ⟨Kit.Exc.refl _ _, fun c h => ⟨c, h⟩⟩
    ·have h33 : ev (.tmp 33) = .pointer (some ⟨B, 0, none⟩) := hv.trans rfl
     simp [execOp, h33, hc, go_sem, Kit.UponV]
     exact ⟨Kit.Exc.refl _ _, fun c h => ⟨c, h⟩⟩
    ·have hh : ev (.tmp 166) = .pointer (some ⟨B, 0, none⟩) := hv.1
     have hcc := HBC0.out w' hx
     simp [execOp, hh, hc, hcc, go_sem, Kit.UponV]
     exact ⟨Kit.Exc.refl _ _, fun c h => ⟨c, h⟩⟩
    ·have h24 : ev (.tmp 24) = .pointer (some ⟨NB, 0, none⟩) := hv.trans rfl
     simp [execOp, h24, hc, go_sem, Kit.UponV]
     exact ⟨Kit.Exc.refl _ _, fun c h => ⟨c, h⟩⟩
    ·have hh : ev (.tmp 168) = .pointer (some ⟨NB, 0, none⟩) := hv.1
     have hcc := HNC0.out w' hx
     simp [execOp, hh, hc, hcc, go_sem, Kit.UponV]
     exact ⟨Kit.Exc.refl _ _, fun c h => ⟨c, h⟩⟩
    ·obtain ⟨⟨q1, _⟩, q2, _⟩ := hv
     have hh : ev (.tmp 167) = .int .i64 T.x := q1
     have hh2 : ev (.tmp 169) = .int .i64 U.x := q2
     simp [execOp, hh, hh2, hc, go_sem, Kit.UponV, z1]
     exact ⟨Kit.Exc.refl _ _, fun c h => ⟨c, h⟩⟩
    ·have hh : ev (.tmp 170) = .int .i64 (T.x - U.x) := hv.1
     simp [execOp, hh, hc, go_sem, Kit.UponV, z3]
     exact ⟨Kit.Exc.refl _ _, fun c h => ⟨c, h⟩⟩
    ·obtain ⟨⟨q1, _⟩, q2, _⟩ := hv
     have hh : ev (.tmp 165) = .int .i64 U.x := q1
     have hh2 : ev (.tmp 171) = .int .i64 ((T.x - U.x).tdiv 2) := q2
     simp [execOp, hh, hh2, hc, go_sem, Kit.UponV, z5]
     exact ⟨Kit.Exc.refl _ _, fun c h => ⟨c, h⟩⟩
    ·have h24 : ev (.tmp 24) = .pointer (some ⟨NB, 0, none⟩) := hv.trans rfl
     simp [execOp, h24, hc, go_sem, Kit.UponV]
     exact ⟨Kit.Exc.refl _ _, fun c h => ⟨c, h⟩⟩
    ·have hh : ev (.tmp 173) = .pointer (some ⟨NB, 1, none⟩) := hv.1
     have hcc := HNC1.out w' hx
     simp [execOp, hh, hc, hcc, go_sem, Kit.UponV]
     exact ⟨Kit.Exc.refl _ _, fun c h => ⟨c, h⟩⟩
    ·have h33 : ev (.tmp 33) = .pointer (some ⟨B, 0, none⟩) := hv.trans rfl
     simp [execOp, h33, hc, go_sem, Kit.UponV]
     exact ⟨Kit.Exc.refl _ _, fun c h => ⟨c, h⟩⟩
    ·have hh : ev (.tmp 175) = .pointer (some ⟨B, 1, none⟩) := hv.1
     have hcc := HBC1.out w' hx
     simp [execOp, hh, hc, hcc, go_sem, Kit.UponV]
     exact ⟨Kit.Exc.refl _ _, fun c h => ⟨c, h⟩⟩
    ·have h24 : ev (.tmp 24) = .pointer (some ⟨NB, 0, none⟩) := hv.trans rfl
     simp [execOp, h24, hc, go_sem, Kit.UponV]
     exact ⟨Kit.Exc.refl _ _, fun c h => ⟨c, h⟩⟩
    ·have hh : ev (.tmp 177) = .pointer (some ⟨NB, 1, none⟩) := hv.1
     have hcc := HNC1.out w' hx
     simp [execOp, hh, hc, hcc, go_sem, Kit.UponV]
     exact ⟨Kit.Exc.refl _ _, fun c h => ⟨c, h⟩⟩
    ·obtain ⟨⟨q1, _⟩, q2, _⟩ := hv
     have hh : ev (.tmp 176) = .int .i64 T.y := q1
     have hh2 : ev (.tmp 178) = .int .i64 U.y := q2
     simp [execOp, hh, hh2, hc, go_sem, Kit.UponV, z2]
     exact ⟨Kit.Exc.refl _ _, fun c h => ⟨c, h⟩⟩
    ·have hh : ev (.tmp 179) = .int .i64 (T.y - U.y) := hv.1
     simp [execOp, hh, hc, go_sem, Kit.UponV, z4]
     exact ⟨Kit.Exc.refl _ _, fun c h => ⟨c, h⟩⟩
    ·obtain ⟨⟨q1, _⟩, q2, _⟩ := hv
     have hh : ev (.tmp 174) = .int .i64 U.y := q1
     have hh2 : ev (.tmp 180) = .int .i64 ((T.y - U.y).tdiv 2) := q2
     simp [execOp, hh, hh2, hc, go_sem, Kit.UponV, z6]
     exact ⟨Kit.Exc.refl _ _, fun c h => ⟨c, h⟩⟩
    ·have h35 : ev (.tmp 35) = .pointer (some ⟨OB, 0, none⟩) := hv.trans rfl
     simp [execOp, h35, hc, go_sem, Kit.UponV]
     exact ⟨Kit.Exc.refl _ _, fun c h => ⟨c, h⟩⟩
    ·obtain ⟨⟨q1, _⟩, q2, _⟩ := hv
     have hh : ev (.tmp 182) = .pointer (some ⟨OB, 0, none⟩) := q1
     have hh2 : ev (.tmp 172) = .int .i64 (U.x + (T.x - U.x).tdiv 2) := q2
     obtain ⟨c0, hob0⟩ := hxx.2
     have ho : w'.cell? ⟨OB, 0, none⟩ = some c0 := (hob0.cell 0).trans rfl
     have fo := hob0.frozen 0
     simp [execOp, hh, hh2, hc, ho, fo, go_sem, Kit.UponV]
     have hset : Kit.Bk (w'.setCell ⟨OB, 0, none⟩ (.int .i64 (U.x + (T.x - U.x).tdiv 2))) OB 37 ((Mo.stA T).setIfInBounds 0 (.int .i64 (U.x + (T.x - U.x).tdiv 2))) := hob0.put 0 _ rfl
     exact ⟨hset, Kit.Exc.setCell (S := fun k => k = OB) (p := ⟨OB, 0, none⟩) (Kit.Exc.refl _ w') (.inl rfl) _, fun c hb => ⟨_, hset⟩⟩
   intro vs u W6 hy hv hx
   have v17 : vs 17 = .int .i64 (U.y + (T.y - U.y).tdiv 2) := hv 17 omg (fun _ _ => rfl)
   have v19 : Kit.Bk W6 OB 37 ((Mo.stA T).setIfInBounds 0 (.int .i64 (U.x + (T.x - U.x).tdiv 2))) := hv 19 omg (fun _ _ => rfl)
   have HX6 := qh hx.1
   have HV19 := qh v19
   clear hv hy hx v19 HNC0 HNC1 HBC0 HBC1
   simp only [Kit.putD, List.getD_cons_zero, List.getD_cons_succ, Act.put, v17, List.drop_succ_cons, List.drop_zero]
   generalize vs 0 = gg0 at *
   generalize vs 1 = gg1 at *
   generalize vs 2 = gg2 at *
   generalize vs 3 = gg3 at *
   generalize vs 4 = gg4 at *
   generalize vs 5 = gg5 at *
   generalize vs 6 = gg6 at *
   generalize vs 7 = gg7 at *
   generalize vs 8 = gg8 at *
   generalize vs 9 = gg9 at *
   generalize vs 10 = gg10 at *
   generalize vs 11 = gg11 at *
   generalize vs 12 = gg12 at *
   generalize vs 13 = gg13 at *
   generalize vs 14 = gg14 at *
   generalize vs 15 = gg15 at *
   generalize vs 16 = gg16 at *
   generalize vs 18 = gg18 at *
   generalize vs 19 = gg19 at *
   clear v17
   have o1 : W6.cell? ⟨OB, 1, none⟩ = some (.int .i64 T.y) := (HV19.out.cell 1).trans rfl
   have p1 := HV19.out.frozen 1
   go_simp
   go_upto_region 35 with fail
   refine Kit.wp_name ?_
   intro W7 hW7
   have HX34 := qh (show Kit.Exc (fun k => k = OB) W5 W7 by rw [hW7]; exact HX6.out.setCell (p := ⟨OB, 1, none⟩) (.inl rfl) _)
   have HO6 := qh (show Kit.Bk W7 OB 37 (Mo.stA (Mo.midS U T (Mo.movedB r l) D L 0)) by rw [hW7]; exact HV19.out.put 1 (.int .i64 (U.y + (T.y - U.y).tdiv 2)) rfl)
   clear hW7 HX6 HV19
   have HOB := qh (show OB ≠ NB ∧ OB ≠ B from ⟨hob, hob2⟩)
   have HI8 := qh (HI7.out.exc HP.out HX34.out (fun k hk => by have := HZB.out; have := HZO.out; omega))
   have HN8 := qh (HN7.out.exc HX34.out (fun e => hob e.symm))
   have HB6 := qh (HB5.out.exc HX34.out (fun e => hob2 e.symm))
   clear HI7 HN7 HB5 HO5 o1 p1 hob hob2 hbo hbo2 HX34 z1 z2 z3 z4 z5 z6
   go_wp2_with fail
   go_loopg [184] 5 (fun kx v184 wr => ∃ j : Nat, v184 = .int .i64 j ∧ j ≤ 5 ∧ 5 - j ≤ kx ∧ Hid (Mo.LI w wr b X E D L XB EB PB MB n f (some ad) l) ∧ Hid (Kit.Bk wr NB 37 (Mo.stA U)) ∧ Hid (Kit.Bk wr B 37 (Mo.stA T)) ∧ Hid (Kit.Bk wr OB 37 (Mo.stA (Mo.midS U T (Mo.movedB r l) D L j))))
   case atStart => exact ⟨0, rfl, by omega, by omega, HI8, HN8, HB6, HO6⟩
   case round =>
    obtain ⟨j, hv184, hj, hkj, HI9, HN9, HB7, HO7⟩ := hrel
    clear HI8 HN8 HB6 HO6
    have HI8 := qh HI9.out
    have HN8 := qh HN9.out
    have HB6 := qh HB7.out
    clear HI9 HN9 HB7
    by_cases hlt2 : j < 5
    ·rcases (by omega : j = 0 ∨ j = 1 ∨ j = 2 ∨ j = 3 ∨ j = 4) with rfl | rfl | rfl | rfl | rfl
     ·obtain rfl : u184 = .int .i64 0 := hv184
      obtain ⟨mv, hmv⟩ : ∃ m, Mo.movedB r l 0 = m := ⟨_, rfl⟩
      have HFX := qh (show (f 0).getD (.bool false) = .bool mv by have h := HF.out 0 omg; rw [hmv] at h; exact h)
      obtain ⟨G, hG⟩ : ∃ g, Mo.midS U T (Mo.movedB r l) D L 0 = g := ⟨_, rfl⟩
      rw [hG] at HO7
      have HSTJ := qh (show Mo.midS U T (Mo.movedB r l) D L (0 + 1) = if mv = true then Mo.put G 0 D L else G by rw [← hmv, ← hG]; rfl)
      have e0 : wr.cell? ⟨OB, 3, none⟩ = some (.int .i64 G.d0) := (HO7.out.cell 3).trans rfl
      have e1 : wr.cell? ⟨OB, 4, none⟩ = some (.int .i64 G.v0) := (HO7.out.cell 4).trans rfl
      have f0 := HO7.out.frozen 3
      have f1 := HO7.out.frozen 4
      have pl0 : wr.cell? ⟨PB, 0, none⟩ = some (.int .i64 D) := (HI8.out.pb.cell 0).trans rfl
      have pl1 : wr.cell? ⟨PB, 1, none⟩ = some (.int .i64 L) := (HI8.out.pb.cell 1).trans rfl
      clear hmv hG
      rcases mv with _ | _
      ·go_wp2_with ((with_reducible refine Kit.wpList_lookup_imap _ ?_ (.tmp 187) (.tmp 188) 78 ?_ 3 4 (.bool false) Mo.mtB MB n f ?_ HI8.out.mp 0 ?_ (by decide) (.bool false) HFX.out ?_); rfl; rfl; rfl; rfl)
       go_roundg (5 - (0 + 1))
       case measure => omega
       case rel => exact ⟨0 + 1, rfl, by omega, Nat.le_refl _, HI8, HN8, HB6, qh (by rw [HSTJ.out]; exact HO7.out)⟩
      ·go_wp2_with ((with_reducible refine Kit.wpList_lookup_imap _ ?_ (.tmp 187) (.tmp 188) 78 ?_ 3 4 (.bool false) Mo.mtB MB n f ?_ HI8.out.mp 0 ?_ (by decide) (.bool true) HFX.out ?_); rfl; rfl; rfl; rfl)
       have HXX2 := qh (show Kit.Exc (fun k => k = OB) wr ((wr.setCell ⟨OB, 3, none⟩ (.int .i64 D)).setCell ⟨OB, 4, none⟩ (.int .i64 L)) from Kit.Exc.setCell (S := fun k => k = OB) (p := ⟨OB, 4, none⟩) (Kit.Exc.setCell (S := fun k => k = OB) (p := ⟨OB, 3, none⟩) (Kit.Exc.refl _ wr) (.inl rfl) _) (.inl rfl) _)
       have HOO := qh (show Kit.Bk ((wr.setCell ⟨OB, 3, none⟩ (.int .i64 D)).setCell ⟨OB, 4, none⟩ (.int .i64 L)) OB 37 (Mo.stA (Mo.put G 0 D L)) from (HO7.out.set 3 (.int .i64 D)).put 4 (.int .i64 L) rfl)
       go_roundg (5 - (0 + 1))
       case measure => omega
       case rel => exact ⟨0 + 1, rfl, by omega, Nat.le_refl _, qh (HI8.out.exc HP.out HXX2.out (fun k hk => by have := HZB.out; have := HZO.out; omega)), qh (HN8.out.exc HXX2.out (fun e => HOB.out.1 e.symm)), qh (HB6.out.exc HXX2.out (fun e => HOB.out.2 e.symm)), qh (by rw [HSTJ.out]; exact HOO.out)⟩
     ·obtain rfl : u184 = .int .i64 1 := hv184
      obtain ⟨mv, hmv⟩ : ∃ m, Mo.movedB r l 1 = m := ⟨_, rfl⟩
      have HFX := qh (show (f 1).getD (.bool false) = .bool mv by have h := HF.out 1 omg; rw [hmv] at h; exact h)
      obtain ⟨G, hG⟩ : ∃ g, Mo.midS U T (Mo.movedB r l) D L 1 = g := ⟨_, rfl⟩
      rw [hG] at HO7
      have HSTJ := qh (show Mo.midS U T (Mo.movedB r l) D L (1 + 1) = if mv = true then Mo.put G 1 D L else G by rw [← hmv, ← hG]; rfl)
      have e0 : wr.cell? ⟨OB, 5, none⟩ = some (.int .i64 G.d1) := (HO7.out.cell 5).trans rfl
      have e1 : wr.cell? ⟨OB, 6, none⟩ = some (.int .i64 G.v1) := (HO7.out.cell 6).trans rfl
      have f0 := HO7.out.frozen 5
      have f1 := HO7.out.frozen 6
      have pl0 : wr.cell? ⟨PB, 0, none⟩ = some (.int .i64 D) := (HI8.out.pb.cell 0).trans rfl
      have pl1 : wr.cell? ⟨PB, 1, none⟩ = some (.int .i64 L) := (HI8.out.pb.cell 1).trans rfl
      clear hmv hG
      rcases mv with _ | _
      ·go_wp2_with ((with_reducible refine Kit.wpList_lookup_imap _ ?_ (.tmp 187) (.tmp 188) 78 ?_ 3 4 (.bool false) Mo.mtB MB n f ?_ HI8.out.mp 1 ?_ (by decide) (.bool false) HFX.out ?_); rfl; rfl; rfl; rfl)
       go_roundg (5 - (1 + 1))
       case measure => omega
       case rel => exact ⟨1 + 1, rfl, by omega, Nat.le_refl _, HI8, HN8, HB6, qh (by rw [HSTJ.out]; exact HO7.out)⟩
      ·go_wp2_with ((with_reducible refine Kit.wpList_lookup_imap _ ?_ (.tmp 187) (.tmp 188) 78 ?_ 3 4 (.bool false) Mo.mtB MB n f ?_ HI8.out.mp 1 ?_ (by decide) (.bool true) HFX.out ?_); rfl; rfl; rfl; rfl)
       have HXX2 := qh (show Kit.Exc (fun k => k = OB) wr ((wr.setCell ⟨OB, 5, none⟩ (.int .i64 D)).setCell ⟨OB, 6, none⟩ (.int .i64 L)) from Kit.Exc.setCell (S := fun k => k = OB) (p := ⟨OB, 6, none⟩) (Kit.Exc.setCell (S := fun k => k = OB) (p := ⟨OB, 5, none⟩) (Kit.Exc.refl _ wr) (.inl rfl) _) (.inl rfl) _)
       have HOO := qh (show Kit.Bk ((wr.setCell ⟨OB, 5, none⟩ (.int .i64 D)).setCell ⟨OB, 6, none⟩ (.int .i64 L)) OB 37 (Mo.stA (Mo.put G 1 D L)) from (HO7.out.set 5 (.int .i64 D)).put 6 (.int .i64 L) rfl)
       go_roundg (5 - (1 + 1))
       case measure => omega
       case rel => exact ⟨1 + 1, rfl, by omega, Nat.le_refl _, qh (HI8.out.exc HP.out HXX2.out (fun k hk => by have := HZB.out; have := HZO.out; omega)), qh (HN8.out.exc HXX2.out (fun e => HOB.out.1 e.symm)), qh (HB6.out.exc HXX2.out (fun e => HOB.out.2 e.symm)), qh (by rw [HSTJ.out]; exact HOO.out)⟩
     ·obtain rfl : u184 = .int .i64 2 := hv184
      obtain ⟨mv, hmv⟩ : ∃ m, Mo.movedB r l 2 = m := ⟨_, rfl⟩
      have HFX := qh (show (f 2).getD (.bool false) = .bool mv by have h := HF.out 2 omg; rw [hmv] at h; exact h)
      obtain ⟨G, hG⟩ : ∃ g, Mo.midS U T (Mo.movedB r l) D L 2 = g := ⟨_, rfl⟩
      rw [hG] at HO7
      have HSTJ := qh (show Mo.midS U T (Mo.movedB r l) D L (2 + 1) = if mv = true then Mo.put G 2 D L else G by rw [← hmv, ← hG]; rfl)
      have e0 : wr.cell? ⟨OB, 7, none⟩ = some (.int .i64 G.d2) := (HO7.out.cell 7).trans rfl
      have e1 : wr.cell? ⟨OB, 8, none⟩ = some (.int .i64 G.v2) := (HO7.out.cell 8).trans rfl
      have f0 := HO7.out.frozen 7
      have f1 := HO7.out.frozen 8
      have pl0 : wr.cell? ⟨PB, 0, none⟩ = some (.int .i64 D) := (HI8.out.pb.cell 0).trans rfl
      have pl1 : wr.cell? ⟨PB, 1, none⟩ = some (.int .i64 L) := (HI8.out.pb.cell 1).trans rfl
      clear hmv hG
      rcases mv with _ | _
      ·go_wp2_with ((with_reducible refine Kit.wpList_lookup_imap _ ?_ (.tmp 187) (.tmp 188) 78 ?_ 3 4 (.bool false) Mo.mtB MB n f ?_ HI8.out.mp 2 ?_ (by decide) (.bool false) HFX.out ?_); rfl; rfl; rfl; rfl)
       go_roundg (5 - (2 + 1))
       case measure => omega
       case rel => exact ⟨2 + 1, rfl, by omega, Nat.le_refl _, HI8, HN8, HB6, qh (by rw [HSTJ.out]; exact HO7.out)⟩
      ·go_wp2_with ((with_reducible refine Kit.wpList_lookup_imap _ ?_ (.tmp 187) (.tmp 188) 78 ?_ 3 4 (.bool false) Mo.mtB MB n f ?_ HI8.out.mp 2 ?_ (by decide) (.bool true) HFX.out ?_); rfl; rfl; rfl; rfl)
       have HXX2 := qh (show Kit.Exc (fun k => k = OB) wr ((wr.setCell ⟨OB, 7, none⟩ (.int .i64 D)).setCell ⟨OB, 8, none⟩ (.int .i64 L)) from Kit.Exc.setCell (S := fun k => k = OB) (p := ⟨OB, 8, none⟩) (Kit.Exc.setCell (S := fun k => k = OB) (p := ⟨OB, 7, none⟩) (Kit.Exc.refl _ wr) (.inl rfl) _) (.inl rfl) _)
       have HOO := qh (show Kit.Bk ((wr.setCell ⟨OB, 7, none⟩ (.int .i64 D)).setCell ⟨OB, 8, none⟩ (.int .i64 L)) OB 37 (Mo.stA (Mo.put G 2 D L)) from (HO7.out.set 7 (.int .i64 D)).put 8 (.int .i64 L) rfl)
       go_roundg (5 - (2 + 1))
       case measure => omega
       case rel => exact ⟨2 + 1, rfl, by omega, Nat.le_refl _, qh (HI8.out.exc HP.out HXX2.out (fun k hk => by have := HZB.out; have := HZO.out; omega)), qh (HN8.out.exc HXX2.out (fun e => HOB.out.1 e.symm)), qh (HB6.out.exc HXX2.out (fun e => HOB.out.2 e.symm)), qh (by rw [HSTJ.out]; exact HOO.out)⟩
     ·obtain rfl : u184 = .int .i64 3 := hv184
      obtain ⟨mv, hmv⟩ : ∃ m, Mo.movedB r l 3 = m := ⟨_, rfl⟩
      have HFX := qh (show (f 3).getD (.bool false) = .bool mv by have h := HF.out 3 omg; rw [hmv] at h; exact h)
      obtain ⟨G, hG⟩ : ∃ g, Mo.midS U T (Mo.movedB r l) D L 3 = g := ⟨_, rfl⟩
      rw [hG] at HO7
      have HSTJ := qh (show Mo.midS U T (Mo.movedB r l) D L (3 + 1) = if mv = true then Mo.put G 3 D L else G by rw [← hmv, ← hG]; rfl)
      have e0 : wr.cell? ⟨OB, 9, none⟩ = some (.int .i64 G.d3) := (HO7.out.cell 9).trans rfl
      have e1 : wr.cell? ⟨OB, 10, none⟩ = some (.int .i64 G.v3) := (HO7.out.cell 10).trans rfl
      have f0 := HO7.out.frozen 9
      have f1 := HO7.out.frozen 10
      have pl0 : wr.cell? ⟨PB, 0, none⟩ = some (.int .i64 D) := (HI8.out.pb.cell 0).trans rfl
      have pl1 : wr.cell? ⟨PB, 1, none⟩ = some (.int .i64 L) := (HI8.out.pb.cell 1).trans rfl
      clear hmv hG
      rcases mv with _ | _
      ·go_wp2_with ((with_reducible refine Kit.wpList_lookup_imap _ ?_ (.tmp 187) (.tmp 188) 78 ?_ 3 4 (.bool false) Mo.mtB MB n f ?_ HI8.out.mp 3 ?_ (by decide) (.bool false) HFX.out ?_); rfl; rfl; rfl; rfl)
       go_roundg (5 - (3 + 1))
       case measure => omega
       case rel => exact ⟨3 + 1, rfl, by omega, Nat.le_refl _, HI8, HN8, HB6, qh (by rw [HSTJ.out]; exact HO7.out)⟩
      ·go_wp2_with ((with_reducible refine Kit.wpList_lookup_imap _ ?_ (.tmp 187) (.tmp 188) 78 ?_ 3 4 (.bool false) Mo.mtB MB n f ?_ HI8.out.mp 3 ?_ (by decide) (.bool true) HFX.out ?_); rfl; rfl; rfl; rfl)
       have HXX2 := qh (show Kit.Exc (fun k => k = OB) wr ((wr.setCell ⟨OB, 9, none⟩ (.int .i64 D)).setCell ⟨OB, 10, none⟩ (.int .i64 L)) from Kit.Exc.setCell (S := fun k => k = OB) (p := ⟨OB, 10, none⟩) (Kit.Exc.setCell (S := fun k => k = OB) (p := ⟨OB, 9, none⟩) (Kit.Exc.refl _ wr) (.inl rfl) _) (.inl rfl) _)
       have HOO := qh (show Kit.Bk ((wr.setCell ⟨OB, 9, none⟩ (.int .i64 D)).setCell ⟨OB, 10, none⟩ (.int .i64 L)) OB 37 (Mo.stA (Mo.put G 3 D L)) from (HO7.out.set 9 (.int .i64 D)).put 10 (.int .i64 L) rfl)
       go_roundg (5 - (3 + 1))
       case measure => omega
       case rel => exact ⟨3 + 1, rfl, by omega, Nat.le_refl _, qh (HI8.out.exc HP.out HXX2.out (fun k hk => by have := HZB.out; have := HZO.out; omega)), qh (HN8.out.exc HXX2.out (fun e => HOB.out.1 e.symm)), qh (HB6.out.exc HXX2.out (fun e => HOB.out.2 e.symm)), qh (by rw [HSTJ.out]; exact HOO.out)⟩
     ·obtain rfl : u184 = .int .i64 4 := hv184
      obtain ⟨mv, hmv⟩ : ∃ m, Mo.movedB r l 4 = m := ⟨_, rfl⟩
      have HFX := qh (show (f 4).getD (.bool false) = .bool mv by have h := HF.out 4 omg; rw [hmv] at h; exact h)
      obtain ⟨G, hG⟩ : ∃ g, Mo.midS U T (Mo.movedB r l) D L 4 = g := ⟨_, rfl⟩
      rw [hG] at HO7
      have HSTJ := qh (show Mo.midS U T (Mo.movedB r l) D L (4 + 1) = if mv = true then Mo.put G 4 D L else G by rw [← hmv, ← hG]; rfl)
      have e0 : wr.cell? ⟨OB, 11, none⟩ = some (.int .i64 G.d4) := (HO7.out.cell 11).trans rfl
      have e1 : wr.cell? ⟨OB, 12, none⟩ = some (.int .i64 G.v4) := (HO7.out.cell 12).trans rfl
      have f0 := HO7.out.frozen 11
      have f1 := HO7.out.frozen 12
      have pl0 : wr.cell? ⟨PB, 0, none⟩ = some (.int .i64 D) := (HI8.out.pb.cell 0).trans rfl
      have pl1 : wr.cell? ⟨PB, 1, none⟩ = some (.int .i64 L) := (HI8.out.pb.cell 1).trans rfl
      clear hmv hG
      rcases mv with _ | _
      ·go_wp2_with ((with_reducible refine Kit.wpList_lookup_imap _ ?_ (.tmp 187) (.tmp 188) 78 ?_ 3 4 (.bool false) Mo.mtB MB n f ?_ HI8.out.mp 4 ?_ (by decide) (.bool false) HFX.out ?_); rfl; rfl; rfl; rfl)
       go_roundg (5 - (4 + 1))
       case measure => omega
       case rel => exact ⟨4 + 1, rfl, by omega, Nat.le_refl _, HI8, HN8, HB6, qh (by rw [HSTJ.out]; exact HO7.out)⟩
      ·go_wp2_with ((with_reducible refine Kit.wpList_lookup_imap _ ?_ (.tmp 187) (.tmp 188) 78 ?_ 3 4 (.bool false) Mo.mtB MB n f ?_ HI8.out.mp 4 ?_ (by decide) (.bool true) HFX.out ?_); rfl; rfl; rfl; rfl)
       have HXX2 := qh (show Kit.Exc (fun k => k = OB) wr ((wr.setCell ⟨OB, 11, none⟩ (.int .i64 D)).setCell ⟨OB, 12, none⟩ (.int .i64 L)) from Kit.Exc.setCell (S := fun k => k = OB) (p := ⟨OB, 12, none⟩) (Kit.Exc.setCell (S := fun k => k = OB) (p := ⟨OB, 11, none⟩) (Kit.Exc.refl _ wr) (.inl rfl) _) (.inl rfl) _)
       have HOO := qh (show Kit.Bk ((wr.setCell ⟨OB, 11, none⟩ (.int .i64 D)).setCell ⟨OB, 12, none⟩ (.int .i64 L)) OB 37 (Mo.stA (Mo.put G 4 D L)) from (HO7.out.set 11 (.int .i64 D)).put 12 (.int .i64 L) rfl)
       go_roundg (5 - (4 + 1))
       case measure => omega
       case rel => exact ⟨4 + 1, rfl, by omega, Nat.le_refl _, qh (HI8.out.exc HP.out HXX2.out (fun k hk => by have := HZB.out; have := HZO.out; omega)), qh (HN8.out.exc HXX2.out (fun e => HOB.out.1 e.symm)), qh (HB6.out.exc HXX2.out (fun e => HOB.out.2 e.symm)), qh (by rw [HSTJ.out]; exact HOO.out)⟩
    ·obtain rfl : j = 5 := by omega
     obtain rfl : u184 = .int .i64 5 := hv184
     obtain ⟨G, hG⟩ : ∃ g, Mo.midS U T (Mo.movedB r l) D L 5 = g := ⟨_, rfl⟩
     rw [hG] at HO7 HI2
     clear hG hlt2 hj hkj
     go_upto_region 41 with fail
     refine wp_region_lit ?_
     refine Kit.load_bk0 rfl 37 (.tmp 35) rfl OB rfl HO7.out Tryz.underlying37 rfl (Mo.szS _) ?_
     refine Kit.load_bk0 rfl 48 (.tmp 12) rfl (w.heap.size + 2) rfl HI8.out.bd Tryz.underlying48 rfl (Mo.szBe _) ?_
     refine Kit.load_bk0 rfl 52 (.tmp 17) rfl XB rfl HI8.out.xb Tryz.underlying52 rfl (Mo.szB _) ?_
     simp only [Act.put]
     go_simp
     go_wp2_with fail
     refine (HI2.out _ HI8.out.bel).mono ?_
     rintro _ W7 ⟨rfl, hb⟩
     have HI9 := qh (HI8.out.then HP.out hb)
     have HN9 := qh (HN8.out.below hb HN8.out.lt)
     have HB7 := qh (HB6.out.below hb HB6.out.lt)
     clear hb HI8 HN8 HB6 HO7 HI2
     go_upto_region 43 with fail
     refine wp_region_lit ?_
     refine Kit.load_bk0 rfl 37 (.tmp 33) rfl B rfl HB7.out Tryz.underlying37 rfl (Mo.szS _) ?_
     refine Kit.store_bk0 rfl 37 (.tmp 24) (.tmp 200) rfl NB rfl (Mo.stA T) rfl HN9.out rfl (Mo.szS _) (Mo.stA_one _) ?_
     intro W8 hb8 hx8
     have HI10 := qh (show Mo.LI w W8 b (Mo.sweep r l s b) (Mo.last r l s) D L XB EB PB MB n f (some ad) l by rw [HXX.out, HEE.out]; exact HI9.out.exc HP.out hx8 (fun k hk => by omega))
     have HN10 := qh (show Kit.Bk W8 NB 37 (Mo.stA (Mo.last r (l.take (i + 1)) s)) by rw [HTT.out]; exact hb8)
     clear hb8 hx8 HI9 HN9 HB7
     simp only [Act.put]
     go_simp
     go_wp2_with fail
     (refine Handed.intro (l.length - (i + 1)) ?_ ?_; omega; go_step; exact ⟨⟨i + 1, by go_num, by omega, Nat.le_refl _, HI10, HN10⟩, by kernel_rfl⟩)
  ·obtain rfl : i = l.length := by omega
   have HNE := qh (show Kit.Bk wr NB 37 (Mo.stA (Mo.last r l s)) by have h := HNB.out; rwa [List.take_length] at h)
   obtain ⟨E, hE⟩ : ∃ t, Mo.last r l s = t := ⟨_, rfl⟩
   rw [hE] at HNE HI
   clear hE hlt hk HNB
   have q0 : ∀ j, wr.cell? ⟨NB, j, none⟩ = (Mo.stA E)[j]? := fun j => HNE.out.cell j
   have q1 : ∀ j, wr.cell? ⟨EB, j, none⟩ = (Mo.stA E)[j]? := fun j => HI.out.eb.cell j
   have hq := fun W => Mo.eq_st E W
   go_wp2_with fail
   exact HRR.out _ HI.out.bel
end Go.Proofs.YtedolbjgdedoaaaGreatDoor
