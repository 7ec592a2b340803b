/- Walks: the law UnderstudyReady: the loop over the answer. -/
import Derived.Test.YtbhgogiaaljclaaGreatDoorUrV
set_option linter.unusedSimpArgs false
set_option linter.unusedVariables false
set_option maxRecDepth 100000
set_option maxHeartbeats 16000000
namespace Go.Proofs.YtbhgogiaaljclaaGreatDoor
open Go.RowKit Go.Shelf
namespace Uy
def lastOf (x : Ex.Wk) (bs : List Un.Bd) (role bar : Int) (l : List Nat) (i : Nat) : Int × Int := if i = 0 then (-1, -1) else (Un.prc x bs role bar (l.getD (i - 1) 0), (l.getD (i - 1) 0 : Nat))
structure L2 (x : Ex.Wk) (bs : List Un.Bd) (role bar : Int) (l : List Nat) (V : World) (mi bl : Nat) (i : Nat) (W : World) : Prop where
 bel : Below mi V W
 mp : Kit.IMap Tryz.prog 3 W mi i (inZ (Un.nums (l.take i)))
 lst : W.rangeAt bl 0 [.int .i64 (lastOf x bs role bar l i).1, .int .i64 (lastOf x bs role bar l i).2]
 thr : W.there bl 0 2
 lt : bl < W.heap.size
theorem last_ok {x : Ex.Wk} {bs : List Un.Bd} {cast : List Int} {role bar : Int} {l : List Nat} (h : Un.Ready x bs cast role bar l) (i q : Nat) (hi : i < l.length) (hq : l.getD i 0 = q) (h0 : 0 ≤ Un.prc x bs role bar q) :
  (lastOf x bs role bar l i).1 ≤ Un.prc x bs role bar q ∧ (Un.prc x bs role bar q = (lastOf x bs role bar l i).1 → (lastOf x bs role bar l i).2 < q) := by
 unfold lastOf
 by_cases hz : i = 0
 ·rw [if_pos hz]; dsimp only; omega
 ·rw [if_neg hz]
  dsimp only
  have hq1 : l[i] = q := by rw [← hq]; simp [List.getD, hi]
  have hb := List.pairwise_iff_getElem.1 h.srt (i - 1) i omg hi omg
  have hne : l[i - 1]'omg ≠ q := fun e => by
   have hnd : l.Nodup := h.perm.nodup_iff.2 (List.Pairwise.filter _ List.nodup_range)
   exact List.pairwise_iff_getElem.1 hnd (i - 1) i omg hi omg (e.trans hq1.symm)
  have e1 : l.getD (i - 1) 0 = l[i - 1]'omg := by simp [List.getD, show i - 1 < l.length by omega]
  rw [hq1] at hb
  rw [e1]
  unfold Un.before at hb
  unfold Un.prc
  generalize l[i - 1]'omg = z at *
  omega
theorem not_yet {x : Ex.Wk} {bs : List Un.Bd} {cast : List Int} {role bar : Int} {l : List Nat} (h : Un.Ready x bs cast role bar l) (i q : Nat) (hi : i < l.length) (hq : l.getD i 0 = q) : (inZ (Un.nums (l.take i)) (q : Int)).getD (.bool false) = .bool false := by
 rw [inZ_at]
 congr 1
 rw [decide_eq_false_iff_not]
 intro hm
 unfold Un.nums at hm
 obtain ⟨z, hz, e⟩ := List.mem_map.1 hm
 obtain rfl : z = q := by omega
 obtain ⟨j, hj, e2⟩ := List.getElem_of_mem hz
 rw [List.getElem_take] at e2
 rw [List.length_take] at hj
 have hq1 : l[i] = z := by rw [← hq]; simp [List.getD, hi]
 have hnd : l.Nodup := h.perm.nodup_iff.2 (List.Pairwise.filter _ List.nodup_range)
 exact List.pairwise_iff_getElem.1 hnd j i omg hi omg (e2.trans hq1.symm)
end Uy
theorem lr_loop2 (s0 s1 s2 s3 s4 s5 s6 s7 s8 s9 s10 t1 t3 t2 : Code) (hc : Tryz.f6.body = some (.seq s0 (.seq s1 (.seq s2 (.seq s3 (.seq s4 (.seq s5 (.seq s6 (.seq s7 (.seq s8 (.seq s9 (.seq s10 (.seq (.seq t1 t3) t2))))))))))))) (x0 x2 x6 x7 x8 x9 x10 x11 x12 x14 x17 x18 x21 x22 x23 x24 x25 x26 x27 x28 x29 x30 x31 x32 x33 x34 x35 x36 x37 x38 x39 x40 x41 x42 x43 x44 x45 x46 x47 x48 x49 x50 x51 x52 x53 x54 x55 x56 x57 x58 x59 x60 x61 x62 x63 x64 x65 x66 x67 x68 x69 x70 x71 x72 x73 x74 x75 x76 x77 x78 x79 x80 x81 x82 x83 x84 x85 x86 x87 x88 x89 x90 x91 x92 x93 x94 x95 x96 x97 x98 x99 x100 x101 x102 x103 x104 x105 x106 x107 x108 x109 x110 x111 x112 x113 x114 x115 x116 x117 x118 x119 x120 x121 x122 x123 x124 x125 x126 x127 x128 x129 x130 x131 x132 x133 x134 x135 x136 x137 x138 x139 x140 x141 x142 x143 x144 x145 x146 x147 x148 x149 x150 x151 x152 x153 x154 x155 x156 x157 x158 x159 x160 x161 x162 x163 x164 x165 x166 x167 x168 x169 x170 x171 x172 x173 x174 x175 x176 x177 x178 x179 x180 x181 x182 x183 x184 x185 x186 x187 x188 x189 x190 x191 x192 x193 x194 x195 x196 x197 x198 x199 x200 x201 x202 x203 x204 x205 x206 x207 x208 x209 x210 x211 x212 x213 x214 x215 x216 x217 x218 x219 x220 x221 x222 x223 x224 x225 x226 : Value)
  (x : Ex.Wk) (p : Ex.Wa) (w V : World) (hL : Ex.Laid w) (hF : Uo.Flat w) (ha : Ex.At w x p) (hchk : Ex.chk x = 0) (bs : List Un.Bd) (a : Option Addr) (c : Nat) (hS : Tp.Sl w a bs.length 17 (Un.bdF bs)) (hl : bs.length ≤ 16) (hbk : ∀ b ∈ bs, Un.bok b = true) (hns : ∀ b ∈ bs, b.name.size ≤ 9223372036854775807)
  (cast : List Int) (hcl : cast.length ≤ 64) (rn : Nat) (hrn : rn < cast.length) (bar : Int) (hln : cast.length = x.ro.length) (hoc : Un.okCast bs.length [] cast = true) (hwi : Un.within x rn bar = true)
  (hW : Un.WH w x p V) (gon con : Nat) (hon : Tp.Sl V (some ⟨gon, 0, none⟩) cast.length 17 (Un.bdF (Un.onL bs cast))) (l : List Nat) (hrd : Un.Ready x bs cast rn bar l) (mo mi : Nat) (no ni : Nat) (hmo : Kit.IMap Tryz.prog 3 V mo no (Uy.inZ cast)) (V0 : World) (hV0 : Below V.heap.size V V0) (al : Option Addr) (cl : Nat) (hal : Tp.Sl V al l.length 1 (Un.ic (Un.nums l))) (bl : Nat) (hmi0 : V.heap.size ≤ mi) (hmb : mi < bl) (hmi : Kit.IMap Tryz.prog 3 V0 mi 0 (fun _ => none)) (hlst : V0.rangeAt bl 0 [.int .i64 (-1), .int .i64 (-1)]) (hthr : V0.there bl 0 2) (hblt : bl < V0.heap.size)
  (R : Ending → World → Prop) (hR : ∀ W', Below w.heap.size w W' → R (.returned (.bool true)) W') :
  ∀ K : Act → World → Prop, (∀ a w, t2.wp Tryz.prog (bodyPost Tryz.prog Tryz.f6 R) a w → K a w) → ∀ K2 : Act → World → Prop, (∀ a w, t3.wp Tryz.prog (Exit.then K (bodyPost Tryz.prog Tryz.f6 R)) a w → K2 a w) → t1.wp Tryz.prog (Exit.then K2 (Exit.then K (bodyPost Tryz.prog Tryz.f6 R))) { tmps := #[x0, .slice a bs.length c, x2, .int .i64 rn, .int .i64 bar, .pointer (some ⟨w.heap.size, 0, none⟩), x6, x7, x8, x9, x10, x11, x12, .slice al l.length cl, x14, .slice (some ⟨gon, 0, none⟩) cast.length con, .map (some mo), x17, x18, .map (some mi), .pointer (some ⟨bl, 0, none⟩), x21, x22, x23, x24, x25, x26, x27, x28, x29, x30, x31, x32, x33, x34, x35, x36, x37, x38, x39, x40, x41, x42, x43, x44, x45, x46, x47, x48, x49, x50, x51, x52, x53, x54, x55, x56, x57, x58, x59, x60, x61, x62, x63, x64, x65, x66, x67, x68, x69, x70, x71, x72, x73, x74, x75, x76, x77, x78, x79, x80, x81, x82, x83, x84, x85, x86, x87, x88, x89, x90, x91, x92, x93, x94, x95, x96, x97, x98, x99, x100, x101, x102, x103, x104, x105, x106, x107, x108, x109, x110, x111, x112, x113, x114, x115, x116, x117, x118, x119, x120, x121, x122, x123, x124, x125, x126, x127, x128, x129, x130, x131, x132, x133, x134, x135, x136, x137, x138, x139, x140, x141, x142, x143, x144, x145, x146, x147, x148, x149, x150, x151, x152, x153, x154, x155, x156, x157, x158, x159, x160, x161, x162, x163, x164, x165, x166, x167, x168, x169, x170, x171, x172, x173, x174, x175, x176, x177, x178, x179, x180, x181, x182, x183, x184, x185, x186, x187, x188, x189, x190, x191, x192, x193, x194, x195, x196, x197, x198, x199, x200, x201, x202, x203, x204, x205, x206, x207, x208, x209, x210, x211, x212, x213, x214, x215, x216, x217, x218, x219, x220, x221, x222, x223, x224, x225, x226], defers := [] } V0 := by
 have hg := Ex.good_of hchk
 have htd := Ex.turn_bd hg
 have hlen := hg.len
 have HOP := qh (fun W (hb : Below w.heap.size w W) q hq s hs B (hB : Un.bok B = true) (hn : B.name.size ≤ 9223372036854775807) => uo_options x p W (hL.kept hb nlr) (hF.kept hb nlr) (ha.kept hb nlr) hg q hq s hs B hB hn htd.1 htd.2.1 htd.2.2.1 htd.2.2.2)
 have HCO := qh (fun W (hb : Below w.heap.size w W) q hq s hs r (hr : Uo.form s r) => uo_cost x p W (hL.kept hb nlr) (ha.kept hb nlr) hg q hq s hs r hr)
 have HFM := qh (fun s (hs : s ∈ x.sg) B (hB : Un.bok B = true) r (hr : r ∈ Uo.opts x.ta x.tc s B) => Uo.opts_form (Ex.fit_of (hg.oks s hs)) hB hr)
 have HAL := qh (fun q (hq : q ∈ l) => (Un.able_iff x (bs.getD q default) rn bar).1 (by
  have h := (List.mem_filter.1 (hrd.perm.mem_iff.1 hq)).2
  unfold Un.fits at h
  simp only [Bool.and_eq_true] at h
  exact h.1.1))
 have HLB := qh (fun q (hq : q ∈ l) => (by have := (List.mem_filter.1 (hrd.perm.mem_iff.1 hq)).1; simpa using this : q < bs.length))
 have HLK := qh (fun i q hi hq h0 => Uy.last_ok hrd i q hi hq h0)
 have HNY := qh (fun i q hi hq => Uy.not_yet hrd i q hi hq)
 have hl16 : l.length ≤ 16 := by
  have h1 := hrd.perm.length_eq
  have h2 := List.length_filter_le (Un.fits x bs cast rn bar) (List.range bs.length)
  simp at h2; omega
 have HI := qh (show (Tryz.prog.info? 36).map (·.size) = some (Un.bdA (default : Un.Bd)).toList.length by kernel_rfl)
 have HI2 := qh (show (Tryz.prog.info? 57).map (·.size) = some (#[Value.int .i64 0, .int .i64 0] : Array Value).size by kernel_rfl)
 have HSG := qh (show Tp.Sl w p.aG x.sg.length 14 (Ex.sgc x.sg) from ha.sg)
 have HAS := qh hal
 have HVW := qh (fun W (h : Below mi V0 W) => hW.then (hV0.trans (h.mono hmi0)))
 have HSV := qh (fun W (h : Below mi V0 W) => hal.kept (hV0.trans (h.mono hmi0)) nlr)
 have HL := qh hL
 have HF := qh hF
 have HA := qh ha
 have HCK := qh hchk
 have HS := qh hS
 have HBK := qh hbk
 have HNS := qh hns
 have HOC := qh hoc
 have HWI := qh hwi
 have HLN := qh hln
 have HON := qh (fun W (h : Below mi V0 W) => hon.kept (hV0.trans (h.mono hmi0)) nlr)
 have HMO := qh (fun W (h : Below mi V0 W) => hmo.below (hV0.trans (h.mono hmi0)) hmo.lt)
 have HRD := qh hrd
 have HR := qh hR
 have H0 := qh (show Uy.L2 x bs rn bar l V0 mi bl 0 V0 from ⟨Below.refl _ _, by rw [List.take_zero]; exact (show Uy.inZ (Un.nums []) = fun _ => none from Uy.inZ_nil) ▸ hmi, hlst, hthr, hblt⟩)
 clear hg htd hL hF ha hchk hS hbk hns hoc hwi hln hW hon hrd hmo hR hal hmi hlst hthr hV0
 obtain ⟨aR, cR, aT, cT, aP, cP, aS, cS, aG, cG⟩ := p
 dsimp only [Ex.workV, Ex.wv] at HOP HCO HSG
 dsimp only [Tryz.f6] at hc
 injection hc with hc
 iterate 11 (injection hc with h1 hc; clear h1)
 injection hc with h1 h2
 injection h1 with h1 h3
 subst h1
 subst h2
 subst h3
 intro K hK K2 hK2
 go_wp2_with fail
 refine wp_loop_ghost_k (fun k a' w' => (∃ i : Nat, (a'.tmps.getD 88 undef) = .int .i64 i ∧ i ≤ l.length ∧ l.length - i ≤ k ∧ Hid (Uy.L2 x bs rn bar l V0 mi bl i w')) ∧ a' = (fun (t : Nat → Value) => ({ tmps := #[x0, Value.slice a bs.length c, x2, Value.int .i64 rn, Value.int .i64 bar, Value.pointer (some ⟨w.heap.size, 0, none⟩), x6, x7, x8, x9, x10, x11, x12, Value.slice al l.length cl, x14, Value.slice (some ⟨gon, 0, none⟩) cast.length con, Value.map (some mo), x17, x18, Value.map (some mi), Value.pointer (some ⟨bl, 0, none⟩), x21, t 22, t 23, x24, t 25, t 26, t 27, t 28, t 29, x30, x31, x32, x33, x34, x35, x36, x37, x38, x39, x40, x41, x42, x43, x44, x45, x46, x47, x48, x49, x50, x51, x52, x53, x54, x55, x56, x57, x58, x59, x60, x61, x62, x63, x64, x65, x66, x67, x68, x69, x70, x71, x72, x73, x74, x75, x76, x77, x78, x79, x80, x81, x82, x83, x84, x85, Value.slice al l.length cl, Value.int .i64 (l.length : Int), t 88, t 89, t 90, t 91, t 92, t 93, t 94, t 95, t 96, t 97, t 98, t 99, t 100, t 101, t 102, t 103, t 104, t 105, t 106, t 107, t 108, t 109, t 110, t 111, t 112, t 113, t 114, t 115, t 116, t 117, t 118, t 119, t 120, t 121, t 122, t 123, t 124, t 125, t 126, t 127, t 128, t 129, t 130, t 131, t 132, t 133, t 134, t 135, t 136, t 137, t 138, t 139, t 140, t 141, t 142, t 143, t 144, t 145, t 146, t 147, t 148, t 149, t 150, t 151, t 152, t 153, t 154, t 155, t 156, t 157, t 158, t 159, t 160, t 161, t 162, t 163, t 164, t 165, t 166, t 167, t 168, t 169, t 170, t 171, t 172, t 173, t 174, t 175, t 176, t 177, x178, x179, x180, x181, x182, x183, x184, x185, x186, x187, x188, x189, x190, x191, x192, x193, x194, x195, x196, x197, x198, x199, x200, x201, x202, x203, x204, x205, x206, x207, x208, x209, x210, x211, x212, x213, x214, x215, x216, x217, x218, x219, x220, x221, x222, x223, x224, x225, x226], defers := [] } : Act)) (fun j => a'.tmps.getD j undef)) l.length ?atStart ?round
 case atStart => exact ⟨⟨0, rfl, by omega, by omega, H0⟩, by kernel_rfl⟩
 case round =>
  intro gk a' wr hinv
  obtain ⟨hrel, ha⟩ := hinv
  rw [ha]
  clear ha
  obtain ⟨s88, h88_⟩ : ∃ s, a'.tmps.getD 88 undef = s := ⟨_, rfl⟩
  rw [h88_] at hrel
  generalize ht_ : (fun j => a'.tmps.getD j undef) = t
  have f88_ : t 88 = s88 := by rw [← ht_]; exact h88_
  clear ht_ h88_
  clear a'
  dsimp only
  rw [f88_]
  clear f88_
  intro _ _ _ _
  obtain ⟨i, rfl, hi, hk, HL2⟩ := hrel
  have HW := qh (HVW.out _ HL2.out.bel)
  by_cases hlt : i < l.length
  ·have hltz : (i : Int) < (l.length : Int) := by omega
   obtain ⟨q, hq⟩ : ∃ q, l.getD i 0 = q := ⟨_, rfl⟩
   have hqm : q ∈ l := by rw [← hq]; simp [List.getD, hlt]
   have hqb := HLB.out q hqm
   have hqz : (q : Int) < (bs.length : Int) := by omega
   have hq0 : (0 : Int) ≤ q := by omega
   obtain ⟨aq, rfl, hadq, _⟩ := HAS.out.at hlt
   have e0 := (HSV.out _ HL2.out.bel).head hlt omg
   rw [Nat.mul_one, Un.nc_nums l i 0 hlt] at e0
   unfold Uy.nc at e0
   rw [hq] at e0
   have hl1 := HL2.out.mp.look1 (t := 56) Uy.mb (p := (q : Int)) (WalkArith.wf_i64 omg) _ (HNY.out i q hlt hq)
   have d1 : decide ((q : Int) < 0) = false := by simp
   have d2 : decide ((bs.length : Int) ≤ (q : Int)) = false := by simp; omega
   have d3 : decide (bs.length ≤ q) = false := by simp; omega
   have HQ := qh hq
   have HQM := qh hqm
   have wk := HW.out.wk
   have hzw := HW.out.z
   clear hq hqm
   go_upto_region 27 with (refine Kit.wpList_put_imap _ rfl _ _ _ _ (.inl rfl) 3 4 (.bool false) Uy.mb _ _ _ rfl HL2.out.mp ?hn _ rfl _ rfl ?wf ?_; (case hn => (unfold maxLen; omega)); (case wf => exact WalkArith.wf_i64 omg); intro W1 hm hg5; have HM2 := qh hm; have HG5 := qh hg5; clear hm hg5)
   have HW1 := qh (HVW.out W1 (HL2.out.bel.grown HG5.out (by have := HL2.out.lt; omega) (fun k hk => by cases hk; exact Nat.le_refl _)))
   have HB1 := qh (HL2.out.bel.grown HG5.out (by have := HL2.out.lt; omega) (fun k hk => by cases hk; exact Nat.le_refl _))
   have hb1b : W1.heap[bl]? = wr.heap[bl]? := HG5.out.block bl HL2.out.lt (fun e => by injection e with e; omega)
   have HLS1 := qh (show W1.rangeAt bl 0 [.int .i64 (Uy.lastOf x bs rn bar l i).1, .int .i64 (Uy.lastOf x bs rn bar l i).2] from fun j u hu => (World.cell?_of_block hb1b).trans (HL2.out.lst j u hu))
   have HTH1 := qh (show W1.there bl 0 2 from fun j hj => ⟨by rw [World.cell?_of_block hb1b]; exact (HL2.out.thr j hj).1, by rw [World.frozen?_of_block hb1b]; exact (HL2.out.thr j hj).2⟩)
   have hlt1 : bl < W1.heap.size := Nat.lt_of_lt_of_le HL2.out.lt HG5.out.size
   obtain ⟨B, hB⟩ : ∃ B, bs.getD q default = B := ⟨_, rfl⟩
   have hmb2 : B ∈ bs := by rw [← hB, List.getD_eq_getElem?_getD, List.getElem?_eq_getElem hqb]; exact List.getElem_mem hqb
   have HBI := qh (HBK.out B hmb2)
   have HNI := qh (HNS.out B hmb2)
   have HNE := qh (show ∀ k ∈ x.sg, Un.mine bar rn k = true → Un.none? x B k = false from hB ▸ HAL.out q HQM.out)
   obtain ⟨ad, rfl, hadb, _⟩ := HS.out.at hqb
   have HPB := qh (Un.priceT_bd x B rn bar)
   have HP0 := qh (show 0 ≤ Un.prc x bs rn bar q by unfold Un.prc; rw [hB, ← Un.priceT_end]; exact (Un.priceT_bd x B rn bar x.sg.length nlr).1)
   have HBQ := qh hB
   clear e0 hl1 hb1b hmb2 d1 d2 d3 HW HG5 wk hzw hadq HL2
   have wk1 := HW1.out.wk
   have hzw := HW1.out.z
   go_wp2_with fail
   clear wk1 hzw
   refine wp_loop_ghost_k (fun k a' w' => (∃ j : Nat, (a'.tmps.getD 110 undef) = .int .i64 j ∧ j ≤ x.sg.length ∧ x.sg.length - j ≤ k ∧ (a'.tmps.getD 23 undef) = .int .i64 (Un.priceT x B rn bar j) ∧ Hid (Below W1.heap.size W1 w')) ∧ a' = (fun (t : Nat → Value) => ({ tmps := #[x0, Value.slice (some ad) bs.length c, x2, Value.int IntKind.i64 ↑rn, Value.int IntKind.i64 bar, Value.pointer (some { block := w.heap.size, off := 0 }), x6, x7, x8, x9, x10, x11, x12, Value.slice (some aq) l.length cl, x14, Value.slice (some { block := gon, off := 0 }) cast.length con, Value.map (some mo), x17, x18, Value.map (some mi), Value.pointer (some { block := bl, off := 0 }), x21, Value.int IntKind.i64 ↑q, t 23, x24, t 25, t 26, t 27, t 28, t 29, x30, x31, x32, x33, x34, x35, x36, x37, x38, x39, x40, x41, x42, x43, x44, x45, x46, x47, x48, x49, x50, x51, x52, x53, x54, x55, x56, x57, x58, x59, x60, x61, x62, x63, x64, x65, x66, x67, x68, x69, x70, x71, x72, x73, x74, x75, x76, x77, x78, x79, x80, x81, x82, x83, x84, x85, Value.slice (some aq) l.length cl, Value.int IntKind.i64 ↑l.length, Value.int IntKind.i64 ↑i, Value.bool true, Value.pointer (some (aq.add i)), Value.int IntKind.i64 ↑q, Value.int IntKind.i64 ↑q, Value.bool false, Value.bool false, Value.int IntKind.i64 ↑q, Value.slice (some ad) bs.length c, Value.int IntKind.i64 ↑bs.length, Value.bool false, Value.bool false, Value.bool false, Value.map (some mi), Value.int IntKind.i64 ↑q, Value.bool false, Value.bool false, Value.map (some mi), Value.int IntKind.i64 ↑q, Value.pointer (some { block := w.heap.size, off := 10 }), Value.slice aG x.sg.length cG, Value.int IntKind.i64 ↑x.sg.length, t 110, t 111, t 112, t 113, t 114, t 115, t 116, t 117, t 118, t 119, t 120, t 121, t 122, t 123, t 124, t 125, t 126, t 127, t 128, t 129, t 130, t 131, t 132, t 133, t 134, t 135, t 136, t 137, t 138, t 139, t 140, t 141, t 142, t 143, t 144, t 145, t 146, t 147, t 148, t 149, t 150, t 151, t 152, t 153, t 154, t 155, t 156, t 157, t 158, t 159, t 160, t 161, t 162, t 163, t 164, t 165, t 166, t 167, t 168, t 169, t 170, t 171, t 172, t 173, t 174, t 175, t 176, t 177, x178, x179, x180, x181, x182, x183, x184, x185, x186, x187, x188, x189, x190, x191, x192, x193, x194, x195, x196, x197, x198, x199, x200, x201, x202, x203, x204, x205, x206, x207, x208, x209, x210, x211, x212, x213, x214, x215, x216, x217, x218, x219, x220, x221, x222, x223, x224, x225, x226], defers := [] } : Act)) (fun j => a'.tmps.getD j undef)) x.sg.length ?atStart ?round
   case atStart => exact ⟨⟨0, rfl, by omega, by omega, by first | rfl | (unfold Un.priceT; simp; done), qh (Below.refl _ _)⟩, by kernel_rfl⟩
   case round =>
    intro gk a' wr hinv
    obtain ⟨hrel, ha⟩ := hinv
    rw [ha]
    clear ha
    obtain ⟨s23, h23_⟩ : ∃ s, a'.tmps.getD 23 undef = s := ⟨_, rfl⟩
    obtain ⟨s110, h110_⟩ : ∃ s, a'.tmps.getD 110 undef = s := ⟨_, rfl⟩
    rw [h23_, h110_] at hrel
    generalize ht_ : (fun j => a'.tmps.getD j undef) = t
    have f23_ : t 23 = s23 := by rw [← ht_]; exact h23_
    have f110_ : t 110 = s110 := by rw [← ht_]; exact h110_
    clear ht_ h23_ h110_
    clear a'
    dsimp only
    rw [f23_, f110_]
    clear f23_ f110_
    intro _ _ _ _
    obtain ⟨j, rfl, hj, hkj, rfl, HB3⟩ := hrel
    have HWj := qh (HW1.out.then HB3.out)
    have wkj := HWj.out.wk
    have hzj := HWj.out.z
    by_cases hlt3 : j < x.sg.length
    ·have hltz3 : (j : Int) < (x.sg.length : Int) := by omega
     have hsl := HSG.out.kept HWj.out.bel nlr
     obtain ⟨ag, rfl, hagb, _⟩ := HSG.out.at hlt3
     (have e0 := hsl.head hlt3 omg; have e1 := hsl.field hlt3 (j := 1) omg omg; have e2 := hsl.field hlt3 (j := 2) omg omg; have e3 := hsl.field hlt3 (j := 3) omg omg; have e4 := hsl.field hlt3 (j := 4) omg omg; have e5 := hsl.field hlt3 (j := 5) omg omg; have e6 := hsl.field hlt3 (j := 6) omg omg; have e7 := hsl.field hlt3 (j := 7) omg omg; have e8 := hsl.field hlt3 (j := 8) omg omg; have e9 := hsl.field hlt3 (j := 9) omg omg; have e10 := hsl.field hlt3 (j := 10) omg omg; have e11 := hsl.field hlt3 (j := 11) omg omg; have e12 := hsl.field hlt3 (j := 12) omg omg; have e13 := hsl.field hlt3 (j := 13) omg omg; obtain ⟨y, hy_⟩ : ∃ y, x.sg.getD j default = y := ⟨_, rfl⟩; simp only [Ex.sgc, hy_] at e0 e1 e2 e3 e4 e5 e6 e7 e8 e9 e10 e11 e12 e13)
     have hmem : y ∈ x.sg := by rw [← hy_, List.getD_eq_getElem?_getD, List.getElem?_eq_getElem hlt3]; exact List.getElem_mem hlt3
     have hst := Un.priceT_step x B rn bar j hlt3 y hy_
     have hpb := HPB.out j omg
     have HOY := qh (fun W hb => HOP.out W hb j hlt3 y hy_ B HBI.out HNI.out)
     have HCY0 := qh (fun W hb r hr => HCO.out W hb j hlt3 y hy_ r hr)
     have HAY := qh (HNE.out y hmem)
     have HFY := qh (HFM.out y hmem B HBI.out)
     obtain ⟨S, hS⟩ : ∃ S, Un.priceT x B rn bar j = S := ⟨_, rfl⟩
     rw [hS] at hst hpb ⊢
     have HST := qh hst
     clear hy_ hsl hmem hst hS
     rcases d1 : (y.role != (rn : Int)) with _ | _
     case' true => have HE := qh (show Un.priceT x B rn bar (j + 1) = S by rw [HST.out, if_neg (by unfold Un.mine; rw [show (y.role == (rn : Int)) = false by simpa using d1]; simp)]; omega)
     case' false =>
      rcases d2 : decide (y.bar < bar) with _ | _
      case' true => have HE := qh (show Un.priceT x B rn bar (j + 1) = S by rw [HST.out, if_neg (by unfold Un.mine; rw [show decide (bar ≤ y.bar) = false by simp at d2 ⊢; omega]; simp)]; omega)
     case false.true | true =>
      go_wp2_with fail
      (refine Handed.intro (x.sg.length - (j + 1)) ?_ ?_; omega; go_step; exact ⟨⟨j + 1, by show Value.int .i64 _ = _; go_num, by omega, Nat.le_refl _, by rw [HE.out]; rfl, qh (HB3.out.alloc HB3.out.size _)⟩, by kernel_rfl⟩)
     have hm : Un.mine bar rn y = true := by
      unfold Un.mine
      rw [show (y.role == (rn : Int)) = true by simpa using d1, show decide (bar ≤ y.bar) = true by simp at d2 ⊢; omega]; rfl
     have hne := HAY.out hm
     have hst2 := HST.out
     rw [if_pos hm] at hst2
     unfold Un.none? at hne
     unfold Un.pcost at hst2
     obtain ⟨rr, rs, hrr⟩ : ∃ rr rs, Uo.opts x.ta x.tc y B = rr :: rs := by
      cases h : Uo.opts x.ta x.tc y B with
      | nil => rw [h] at hne; cases hne
      | cons a b => exact ⟨a, b, rfl⟩
     rw [hrr] at hst2
     dsimp only [List.headD] at hst2
     have hcb := Un.cost_bd2 y rr
     have hform := HFY.out rr (by rw [hrr]; simp)
     obtain ⟨m, hm0⟩ : ∃ m, (rr :: rs).length = m := ⟨_, rfl⟩
     have hmp : 0 < m := by rw [← hm0]; simp
     have hmz : (0 : Int) < m := by omega
     have hmq : ((m : Int) == 0) = false := by simp; omega
     have hmq2 : (m == 0) = false := by simp; omega
     have HRR := qh (show ∀ (W : World) (B0 : Nat) (v : Value), W.ownsRow B0 61 4 v (Uo.opts x.ta x.tc y B).length ((Uo.opts x.ta x.tc y B).flatMap Uo.rc) → ∃ g cv, v = .slice (some ⟨g, 0, none⟩) m cv ∧ g < W.heap.size ∧ W.rangeAt g 0 (Uo.rc rr) from fun W B0 v h => by
      rw [hrr, hm0] at h
      rcases h.2 with ⟨rfl, h0⟩ | ⟨g, cap, cur, rfl, _, hg, _, _, _, htk⟩
      ·omega
      ·refine ⟨g, cap, rfl, (Array.getElem?_eq_some_iff.1 hg).1, fun j u hu => ?_⟩
       simp only [World.cell?, hg, Nat.zero_add]
       have hj : j < (Uo.rc rr).length := (List.getElem?_eq_some_iff.1 hu).1
       have h1 : (cur.toList.take (m * 4))[j]? = some u := by
        rw [htk, List.flatMap_cons, List.getElem?_append_left hj]; exact hu
       rw [List.getElem?_take] at h1
       split at h1
       ·simpa using h1
       ·cases h1)
     have HCY := qh (fun W hb => HCY0.out W hb rr hform)
     have HST2 := qh hst2
     generalize Un.cost y rr = cc at *
     have hsum : IntKind.i64.wrap (S + cc) = S + cc := by rw [IntKind.wrap_i64] <;> omega
     have HE := qh (show Un.priceT x B rn bar (j + 1) = S + cc from HST2.out)
     clear hst2 hrr hm0 hm hne HST HAY HCY0 HFY hform HST2
     go_upto_region 32 with fail
     refine Kit.wp_name ?_
     intro W2 hW2
     have hb2 : Below wr.heap.size wr W2 := by rw [hW2]; exact Kit.gr
     have y0 : W2.cell? ⟨wr.heap.size, 0, none⟩ = some (.int .i64 y.id) := by rw [hW2]; simp [go_sem]
     have hz2 : wr.heap.size < W2.heap.size := by rw [hW2]; simp
     have HW2 := qh (HWj.out.then hb2)
     have HB2 := qh (HB3.out.trans (hb2.mono HB3.out.size))
     clear hW2 wkj hzj e0 e1 e2 e3 e4 e5 e6 e7 e8 e9 e10 e11 e12 e13 hb2 HWj HB3
     refine Kit.wp_region_vals 13 [([(5, none)], none, true), ([(25, none)], none, true), ([(126, some 1)], none, true), ([(1, none)], none, true), ([(22, none)], none, true), ([(128, some 3), (129, some 4)], none, true), ([(130, some 5)], none, true), ([(125, some 0), (127, some 2), (131, some 6)], none, true), ([(132, some 7)], none, true), ([(124, some 8)], none, true), ([(124, some 8)], none, true), ([(133, some 9)], none, true), ([(134, some 10)], none, true)]
      [some 125, some 126, some 127, some 128, some 129, some 130, some 131, some 132, some 124, some 133, some 134, some 26, some 27] rfl (by kernel_rfl) (by kernel_rfl) (fun A B => Below A.heap.size A B) (fun q0 v w' => match q0 with
      | 0 => v = .agg (Un.wkC x ⟨aR, cR, aT, cT, aP, cP, aS, cS, some ag, cG⟩)
      | 1 => v = .pointer (some ⟨wr.heap.size, 0, none⟩)
      | 2 => v = .int .i64 y.id
      | 3 => v = .slice (some ad) bs.length c
      | 4 => v = .int .i64 q
      | 5 => v = .pointer (some (ad.add (q * 17)))
      | 6 => v = .agg (Un.bdA B)
      | 7 => ∃ g cv, v = .tuple #[.slice (some ⟨g, 0, none⟩) m cv, .int .i64 0] ∧ g < w'.heap.size ∧ w'.rangeAt g 0 (Uo.rc rr)
      | 8 => ∃ g cv, v = .tuple #[.slice (some ⟨g, 0, none⟩) m cv, .int .i64 0] ∧ g < w'.heap.size ∧ w'.rangeAt g 0 (Uo.rc rr)
      | 9 => ∃ g cv, v = .slice (some ⟨g, 0, none⟩) m cv ∧ g < w'.heap.size ∧ w'.rangeAt g 0 (Uo.rc rr)
      | 10 => v = .int .i64 0
      | 11 => ∃ g cv, v = .slice (some ⟨g, 0, none⟩) m cv ∧ g < w'.heap.size ∧ w'.rangeAt g 0 (Uo.rc rr)
      | _ => v = .int .i64 0)
      (fun h k => h.trans (k.mono h.size)) (Below.drew (Below.refl _ _)) (fun _ => Below.refl _ _) ?_ ?_ ?_
     ·intro q0 v A C h1 h2 h3
      split at h3 <;> try exact h3
      all_goals
       obtain ⟨g, cv, e, hg, hr⟩ := h3
       exact ⟨g, cv, e, Nat.lt_of_lt_of_le hg h2.size, Kit.range_kept hr h2 hg⟩
     ·simp only [List.take_succ_cons, List.take_zero, Kit.StepsV, Kit.VOp, Kit.RdP, true_and, if_true, and_true]
      refine ⟨?_, ?_, ?_, ?_, ?_, ?_, ?_, ?_, ?_, ?_, ?_, ?_, ?_⟩
      all_goals intro ev w' hx hv hc hf hg
      ·have so := (HW2.out.then hx).wk
       simp at hv
       simp [execOp, hv, hc, so, go_sem, Kit.UponV, Below.refl]
      ·simp at hv
       simp [execOp, hv, hc, go_sem, Kit.UponV, Below.refl]
      ·have so : w'.cell? ⟨wr.heap.size, 0, none⟩ = some (.int .i64 y.id) := (World.cell?_of_block (hx.block wr.heap.size hz2)).trans y0
       simp [execOp, hv, hc, so, go_sem, Kit.UponV, Below.refl]
      ·simp at hv
       simp [execOp, hv, hc, go_sem, Kit.UponV, Below.refl]
      ·simp at hv
       simp [execOp, hv, hc, go_sem, Kit.UponV, Below.refl]
      ·simp [execOp, hv, hc, go_sem, Kit.UponV, Below.refl, hqz, hq0]
      ·have so := (Kit.run_load_sl (P := Tryz.prog) (HS.out.kept ((HW2.out.then hx)).bel nlr) hqb 36 (Un.bdA B).toList _ rfl (Un.bdF_at bs q B hB) Tryz.underlying36 rfl HI.out)
       simp only [execOp, hv, Instr.loadAt, Instr.sureAddr, Sem.run_bind, Sem.run_pure, Result.andThen_ok]
       rw [so]
       simp [Kit.UponV, Below.refl]
      ·obtain ⟨hv1, hv2, hv3⟩ := hv
       simp [execOp, hv1, hv2, hv3, hc, hf, go_sem, Kit.UponV]
       refine (HOY.out w' (HW2.out.then hx).bel).mono ?_
       rintro e w3 ⟨⟨v, rfl, ho⟩, hbl⟩
       obtain ⟨g, cv, rfl, hgz, hrg⟩ := HRR.out w3 _ v ho
       exact ⟨_, rfl, ⟨g, ⟨cv, rfl⟩, hgz, hrg⟩, hbl⟩
      ·obtain ⟨g, cv, e, hg, hr⟩ := hv
       simp [execOp, e, hc, go_sem, Kit.UponV, Below.refl]
       exact ⟨hg, hr⟩
      ·obtain ⟨g, cv, e, hg, hr⟩ := hv
       simp [execOp, e, hc, go_sem, Kit.UponV, Below.refl]
       exact ⟨hg, hr⟩
      ·obtain ⟨g, cv, e, hg, hr⟩ := hv
       simp [execOp, e, hc, go_sem, Kit.UponV, Below.refl]
      ·obtain ⟨g, cv, e, hg, hr⟩ := hv
       simp [execOp, e, hc, go_sem, Kit.UponV, Below.refl]
       exact ⟨hg, hr⟩
      ·simp [execOp, hv, hc, go_sem, Kit.UponV, Below.refl]
     intro vs W3 hv hx
     obtain ⟨g, cv, v11, hgz, hrg⟩ := hv 11 omg
     obtain ⟨r0, r1, r2, r3⟩ := rr
     dsimp only at HCY
     have v12 : vs 12 = .int .i64 0 := hv 12 omg
     clear hv
     have HW3 := qh (HW2.out.then hx)
     have HB4 := qh (HB2.out.trans (hx.mono HB2.out.size))
     have y03 := (World.cell?_of_block (a := ⟨wr.heap.size, 0, none⟩) (hx.block wr.heap.size hz2)).trans y0
     have hz3 : wr.heap.size < W3.heap.size := Nat.lt_of_lt_of_le hz2 hx.size
     simp only [Kit.putD, List.getD_cons_zero, List.getD_cons_succ, Act.put, v11, v12, List.drop_succ_cons, List.drop_zero]
     clear hx v11 v12 HW2 HB2 y0 hz2
     generalize vs 0 = z0 at *
     generalize vs 1 = z1 at *
     generalize vs 2 = z2 at *
     generalize vs 3 = z3 at *
     generalize vs 4 = z4 at *
     generalize vs 5 = z5 at *
     generalize vs 6 = z6 at *
     generalize vs 7 = z7 at *
     generalize vs 8 = z8 at *
     generalize vs 9 = z9 at *
     generalize vs 10 = z10 at *
     go_simp
     go_upto_region 35 with fail
     refine Kit.wp_region_vals 12 [([(5, none)], none, true), ([(25, none)], none, true), ([(144, some 1)], none, true), ([(26, none)], none, true), ([(146, some 3)], none, true), ([(147, some 4)], none, true), ([(143, some 0), (145, some 2), (148, some 5)], none, true), ([(149, some 6)], none, true), ([(142, some 7)], none, true), ([(142, some 7)], none, true), ([(150, some 8)], none, true), ([(151, some 9)], none, true)]
      [some 143, some 144, some 145, some 146, some 147, some 148, some 149, some 142, some 150, some 151, some 28, some 29] rfl (by kernel_rfl) (by kernel_rfl) (fun A B => Below A.heap.size A B) (fun q0 v w' => match q0 with
      | 0 => v = .agg (Un.wkC x ⟨aR, cR, aT, cT, aP, cP, aS, cS, some ag, cG⟩)
      | 1 => v = .pointer (some ⟨wr.heap.size, 0, none⟩)
      | 2 => v = .int .i64 y.id
      | 3 => v = .slice (some ⟨g, 0, none⟩) m cv
      | 4 => v = .pointer (some ⟨g, 0, none⟩)
      | 5 => v = .agg #[.int .i64 r0, .int .i64 r1, .int .i64 r2, .bool r3]
      | 6 => v = .tuple #[.int .i64 cc, .int .i64 0]
      | 7 => v = .tuple #[.int .i64 cc, .int .i64 0]
      | 8 => v = .int .i64 cc
      | 9 => v = .int .i64 0
      | 10 => v = .int .i64 cc
      | _ => v = .int .i64 0)
      (fun h k => h.trans (k.mono h.size)) (Below.drew (Below.refl _ _)) (fun _ => Below.refl _ _) ?_ ?_ ?_
     ·intro q0 v A C h1 h2 h3
      split at h3 <;> try exact h3
     ·simp only [List.take_succ_cons, List.take_zero, Kit.StepsV, Kit.VOp, Kit.RdP, true_and, if_true, and_true]
      refine ⟨?_, ?_, ?_, ?_, ?_, ?_, ?_, ?_, ?_, ?_, ?_, ?_⟩
      all_goals intro ev w' hx hv hc hf hg
      ·have so := (HW3.out.then hx).wk
       simp at hv
       simp [execOp, hv, hc, so, go_sem, Kit.UponV, Below.refl]
      ·simp at hv
       simp [execOp, hv, hc, go_sem, Kit.UponV, Below.refl]
      ·have so : w'.cell? ⟨wr.heap.size, 0, none⟩ = some (.int .i64 y.id) := (World.cell?_of_block (hx.block wr.heap.size hz3)).trans y03
       simp [execOp, hv, hc, so, go_sem, Kit.UponV, Below.refl]
      ·simp at hv
       simp [execOp, hv, hc, go_sem, Kit.UponV, Below.refl]
      ·simp [execOp, hv, hc, go_sem, Kit.UponV, Below.refl, hmz, hmp]
      ·have so0 := Kit.range_kept hrg hx hgz 0 (.int .i64 r0) rfl
       have so1 := Kit.range_kept hrg hx hgz 1 (.int .i64 r1) rfl
       have so2 := Kit.range_kept hrg hx hgz 2 (.int .i64 r2) rfl
       have so3 := Kit.range_kept hrg hx hgz 3 (.bool r3) rfl
       simp at so0 so1 so2 so3
       simp [execOp, hv, hc, so0, so1, so2, so3, go_sem, Kit.UponV, Below.refl]
      ·obtain ⟨hv1, hv2, hv3⟩ := hv
       simp [execOp, hv1, hv2, hv3, hc, hf, go_sem, Kit.UponV]
       refine (HCY.out w' (HW3.out.then hx).bel).mono ?_
       rintro e w3 ⟨rfl, hbl⟩
       exact ⟨_, rfl, rfl, hbl⟩
      ·simp [execOp, hv, hc, go_sem, Kit.UponV, Below.refl]
      ·simp [execOp, hv, hc, go_sem, Kit.UponV, Below.refl]
      ·simp [execOp, hv, hc, go_sem, Kit.UponV, Below.refl]
      ·simp [execOp, hv, hc, go_sem, Kit.UponV, Below.refl]
      ·simp [execOp, hv, hc, go_sem, Kit.UponV, Below.refl]
     intro vs W4 hv hx
     have v10 : vs 10 = .int .i64 cc := hv 10 omg
     have v11 : vs 11 = .int .i64 0 := hv 11 omg
     clear hv
     have HB5 := qh (HB4.out.trans (hx.mono HB4.out.size))
     simp only [Kit.putD, List.getD_cons_zero, List.getD_cons_succ, Act.put, v10, v11, List.drop_succ_cons, List.drop_zero]
     clear hx v10 v11 HW3 HB4 y03 hz3 hrg hgz
     generalize vs 0 = z0 at *
     generalize vs 1 = z1 at *
     generalize vs 2 = z2 at *
     generalize vs 3 = z3 at *
     generalize vs 4 = z4 at *
     generalize vs 5 = z5 at *
     generalize vs 6 = z6 at *
     generalize vs 7 = z7 at *
     generalize vs 8 = z8 at *
     generalize vs 9 = z9 at *
     go_simp
     go_wp2_with fail
     (refine Handed.intro (x.sg.length - (j + 1)) ?_ ?_; omega; go_step; exact ⟨⟨j + 1, by show Value.int .i64 _ = _; go_num, by omega, Nat.le_refl _, by rw [HE.out]; rfl, HB5⟩, by kernel_rfl⟩)
    ·obtain rfl : j = x.sg.length := by omega
     obtain ⟨pz, hpz⟩ : ∃ z, Un.priceT x B rn bar x.sg.length = z := ⟨_, rfl⟩
     have HPP := qh (show Un.prc x bs rn bar q = pz by unfold Un.prc; rw [HBQ.out, ← Un.priceT_end]; exact hpz)
     rw [hpz]
     obtain ⟨la, lb, hla⟩ : ∃ a b, Uy.lastOf x bs rn bar l i = (a, b) := ⟨_, _, rfl⟩
     have hlk := HLK.out i q hlt HQ.out HP0.out
     rw [HPP.out, hla] at hlk
     dsimp only at hlk
     obtain ⟨hk1, hk2⟩ := hlk
     have hls := HLS1.out
     rw [hla] at hls
     have hls2 := Kit.range_kept hls HB3.out hlt1
     have c0 : wr.cell? ⟨bl, 0, none⟩ = some (.int .i64 la) := hls2 0 _ rfl
     have c1 : wr.cell? ⟨bl, 1, none⟩ = some (.int .i64 lb) := by have h := hls2 1 _ rfl; simpa using h
     have HT := qh (show wr.there bl 0 (#[Value.int .i64 pz, .int .i64 q] : Array Value).size from fun j hj => ⟨by rw [World.cell?_of_block (HB3.out.block bl hlt1)]; exact (HTH1.out j hj).1, by rw [World.frozen?_of_block (HB3.out.block bl hlt1)]; exact (HTH1.out j hj).2⟩)
     have hblr : bl < wr.heap.size := Nat.lt_of_lt_of_le hlt1 HB3.out.size
     have d4 : decide (pz < la) = false := by simp; omega
     have HLX := qh (show Uy.lastOf x bs rn bar l (i + 1) = (pz, (q : Int)) by
      unfold Uy.lastOf
      rw [if_neg omg, Nat.add_sub_cancel, HQ.out, HPP.out])
     have HTK := qh (show Un.nums (l.take (i + 1)) = Un.nums (l.take i) ++ [(q : Int)] by
      rw [List.take_succ_eq_append_getElem hlt, show l[i] = q by rw [← HQ.out]; simp [List.getD, hlt]]; simp [Un.nums])
     have HMX := qh (show Kit.IMap Tryz.prog 3 W1 mi (i + 1) (Uy.inZ (Un.nums (l.take (i + 1)))) by rw [HTK.out, ← Uy.inZ_put]; exact HM2.out)
     have HBL := qh (HB1.out.trans (HB3.out.mono omg))
     clear hls hls2 hla hpz
     have HI3 := qh (show (Tryz.prog.info? 57).map (·.size) = some (#[Value.int .i64 pz, .int .i64 q] : Array Value).size from HI2.out)
     have HO1 := qh (show (#[Value.int .i64 pz, .int .i64 q] : Array Value).all (·.oneCell') = true by simp [Value.oneCell'])
     rcases d5 : (pz == la) with _ | _
     case' true =>
      have d6 : decide ((q : Int) ≤ lb) = false := by have := hk2 (by simpa using d5); simp; omega
     all_goals
      go_wp2_with ((with_reducible refine Kit.wpList_store_at (ty := 57) (x := .tmp 20) (y := .tmp 176) (p := ⟨bl, 0, none⟩) (b := bl) (o := 0) (cells := #[Value.int .i64 pz, .int .i64 q]) ?_ ?_ ?_ rfl ?_ HT.out HI3.out HO1.out ?_); rfl; rfl; rfl; rfl; refine Un.wpList_name2 ?_; intro X hX; have HX := qh hX; clear hX)
      have HN := qh (show Uy.L2 x bs rn bar l V0 mi bl (i + 1) X by
       rw [HX.out]
       have hb : Below bl wr (wr.setCells bl 0 [Value.int .i64 pz, .int .i64 q]) := Un.below_setCells2 nlr _ _ (Below.refl _ _)
       refine ⟨HBL.out.trans (hb.mono omg), HMX.out.kept ?_, ?_, World.there_setCells HT.out _ _ _, Nat.lt_of_lt_of_le hblr hb.size⟩
       ·exact (hb.block mi hmb).trans (HB3.out.block mi omg)
       ·rw [HLX.out]; exact World.rangeAt_setCells_same wr bl 0 [Value.int .i64 pz, .int .i64 q] HT.out)
      (refine Handed.intro (l.length - (i + 1)) ?_ ?_; omega; go_step; exact ⟨⟨i + 1, by show Value.int .i64 _ = _; go_num, by omega, Nat.le_refl _, HN⟩, by kernel_rfl⟩)
  ·obtain rfl : i = l.length := by omega
   have hmp := HL2.out.mp
   rw [List.take_length] at hmp
   have HMP := qh hmp
   clear hmp
   go_upto_region 44 with fail
   refine lr_loop4 _ _ _ _ _ _ _ _ _ _ _ _ _ _ _ rfl _ _ _ _ _ _ _ _ _ _ _ _ _ _ _ _ _ _ _ _ _ _ _ _ _ _ _ _ _ _ _ _ _ _ _ _ _ _ _ _ _ _ _ _ _ _ _ _ _ _ _ _ _ _ _ _ _ _ _ _ _ _ _ _ _ _ _ _ _ _ _ _ _ _ _ _ _ _ _ _ _ _ _ _ _ _ _ _ _ _ _ _ _ _ _ _ _ _ _ _ _ _ _ _ _ _ _ _ _ _ _ _ _ _ _ _ _ _ _ _ _ _ _ _ _ _ _ _ _ _ _ _ _ _ _ _ _ _ _ _ _ _ _ _ _ _ _ _ _ _ _ _ _ _ _ _ _ _ _ _ _ _ _ _ _ _ _ _ _ _ _ _ _ _ _ _ _ _ _ _ _ _ _ _ _ _ _ _ _ _ _ _ _ _ _ _ _ _ _ _ _ _ _ _ _ _ _ _ _ _ _ _ _ _ _ _ _ _ _ _ x _ w wr HL.out HF.out HA.out HCK.out bs a c HS.out omg HBK.out HNS.out cast hcl rn hrn bar HLN.out HOC.out HWI.out HW.out gon con (HON.out _ HL2.out.bel) l HRD.out mo mi no l.length (HMO.out _ HL2.out.bel) HMP.out R HR.out _ (by assumption) _ (by assumption)
end Go.Proofs.YtbhgogiaaljclaaGreatDoor
