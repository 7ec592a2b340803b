/- Walks: package motion: Sweep: the figure (five limbs), then the range over the way. -/
import Derived.Test.YtedolbjgdedoaaaGreatDoorMpe
import Derived.Test.YtedolbjgdedoaaaGreatDoorMok
set_option linter.unusedSimpArgs false
set_option linter.unusedVariables false
set_option maxRecDepth 100000
set_option maxHeartbeats 8000000
namespace Go.Proofs.YtedolbjgdedoaaaGreatDoor
open Go.RowKit Go.Shelf
attribute [local go_sem] Oper.semAt_some
namespace Mo
theorem sv_exc {S : Nat → Prop} {w w' : World} {a : Option Addr} {l : List (Ex.Sg × Uo.Re)} (h : Kit.Sv w a 18 spC l) (hx : Kit.Exc S w w') (hn : l ≠ [] → ∀ ad, a = some ad → ¬ S ad.block) : Kit.Sv w' a 18 spC l := by
 by_cases hl : l = []
 ·exact .inl hl
 ·exact h.exc hx (hn hl)
abbrev mvA (r : List Uo.Re) (l : List Ex.Sg) : Array Value := #[.bool (movedB r l 0), .bool (movedB r l 1), .bool (movedB r l 2), .bool (movedB r l 3), .bool (movedB r l 4)]
theorem addF_mv {r : List Uo.Re} {l : List Ex.Sg} {s : St} {b : Un.Bd} {x : Bx} {i : Nat} (h : movedB r l i = true) : addF r l s b x i = join x (sq (841 * reach b i)) := by
 unfold addF
 rw [if_pos (.inl h)]
theorem addF_tn {r : List Uo.Re} {l : List Ex.Sg} {s : St} {b : Un.Bd} {x : Bx} {i : Nat} (h : turnsB r l = true) (hv : (lim s i).2 ≠ 0) : addF r l s b x i = join x (sq (841 * reach b i)) := by
 unfold addF
 rw [if_pos (.inr ⟨h, hv⟩)]
theorem addF_tip {r : List Uo.Re} {l : List Ex.Sg} {s : St} {b : Un.Bd} {x : Bx} {i : Nat} (h : movedB r l i = false) (h2 : turnsB r l = false) (hv : (lim s i).2 ≠ 0) : addF r l s b x i = join x (tip b s.f i (lim s i)) := by
 unfold addF
 rw [if_neg (by rw [h, h2]; simp), if_pos hv]
theorem addF_no {r : List Uo.Re} {l : List Ex.Sg} {s : St} {b : Un.Bd} {x : Bx} {i : Nat} (h : movedB r l i = false) (hv : (lim s i).2 = 0) : addF r l s b x i = x := by
 unfold addF
 rw [if_neg (by rw [h]; simp [hv]), if_neg (by simp [hv])]
end Mo
theorem mo_sweep_t1 (s0 s1 s2 s3 s4 s5 s6 s7 s8 s9 t0 t1 t2 t3 t4 : Code) (hc : Tryz.f16.body = some (.seq s0 (.seq s1 (.seq s2 (.seq s3 (.seq s4 (.seq s5 (.seq s6 (.seq s7 (.seq s8 (.seq s9 (.seq t0 (.seq t1 (.seq t2 (.seq t3 t4))))))))))))))) (x0 x1 x2 x3 x4 x5 x6 x7 x8 x11 x14 x15 x16 x18 x21 x22 x23 x24 x25 x26 x27 x28 x29 x30 x31 x32 x33 x34 x35 x36 x37 x38 x39 x40 x41 x42 x43 x44 x45 x46 x47 x48 x49 x50 x51 x52 x53 x54 x55 x56 x57 x58 x59 x60 x61 x62 x63 x64 x65 x66 x67 x68 x69 x70 x71 x72 x73 x74 x75 x76 x77 x78 x79 x80 x81 x82 x83 x84 x85 x86 x87 x88 x89 x90 x91 x92 x93 x94 x95 x96 x97 x98 x99 x100 x101 x102 x103 x104 x105 x106 x107 x108 x109 x110 x111 x112 x113 x114 x115 x116 x117 x118 x119 x120 x121 x122 x123 x124 x125 x126 x127 x128 x129 x130 x131 x132 x133 x134 x135 x136 x137 x138 x139 x140 x141 x142 x143 x144 x145 x146 x147 x148 x149 x150 x151 x152 x153 x154 x155 x156 x157 x158 x159 x160 x161 x162 x163 x164 x165 x166 x167 x168 x169 x170 x171 x172 x173 x174 x175 x176 x177 x178 x179 x180 x181 x182 x183 x184 x185 x186 x187 x188 x189 x190 x191 x192 x193 x194 x195 x196 x197 x198 x199 x200 x201 x202 x203 x204 x205 x206 x207 x208 x209 x210 x211 x212 x213 x214 x215 x216 x217 x218 x219 x220 x221 x222 x223 x224 x225 : Value) (x : Ex.Wk) (p : Ex.Wa) (w V : World) (hF : Uo.Flat w) (s : Mo.St) (hs : Mo.ok s = true) (b : Un.Bd) (hbk : Un.bok b = true) (r : List Uo.Re) (l : List Ex.Sg) (hl : l.length ≤ 4096)
  (hm : ∀ y ∈ Mo.prs r l, Mo.Fit y.1 ∧ Mo.form y.1 y.2 = true) (aM : Option Addr) (cM MV : Nat) (hM : Kit.Sv V aM 18 Mo.spC (Mo.prs r l)) (hMb : Mo.prs r l ≠ [] → ∀ ad, aM = some ad → w.heap.size + 5 ≤ ad.block) (hz : w.heap.size + 5 ≤ MV) (hV : Kit.Bk V MV 96 (Mo.mvA r l))
  (hQ : Mo.SQ w V x p s b Mo.Bx.zero 0) (R : Ending → World → Prop) (hR : ∀ t er W', (if Mo.fine r l s = true then t = Mo.sweep r l s b ∧ er = 0 else t = Mo.Bx.zero ∧ er = 2) → Below w.heap.size w W' → R (.returned (.tuple #[.agg (Mo.bxA t), .int .i64 er])) W') :
  ∀ K : Act → World → Prop, (∀ a w, (Code.seq t1 (Code.seq t2 (Code.seq t3 t4))).wp Tryz.prog (bodyPostM Fence.wide 0 Tryz.prog Tryz.f16 R) a w → K a w) → t0.wp Tryz.prog (Exit.then K (bodyPostM Fence.wide 0 Tryz.prog Tryz.f16 R)) { tmps := #[x0, x1, x2, x3, x4, x5, x6, x7, x8, .pointer (some ⟨w.heap.size + 1, 0, none⟩), .pointer (some ⟨w.heap.size + 2, 0, none⟩), x11, .pointer (some ⟨w.heap.size + 3, 0, none⟩), .pointer (some ⟨w.heap.size + 4, 0, none⟩), x14, x15, x16, .slice aM l.length cM, x18, .pointer (some ⟨MV, 0, none⟩), .bool (Mo.turnsB r l), x21, x22, x23, x24, x25, x26, x27, x28, x29, x30, x31, x32, x33, x34, x35, x36, x37, x38, x39, x40, x41, x42, x43, x44, x45, x46, x47, x48, x49, x50, x51, x52, x53, x54, x55, x56, x57, x58, x59, x60, x61, x62, x63, x64, x65, x66, x67, x68, x69, x70, x71, x72, x73, x74, x75, x76, x77, x78, x79, x80, x81, x82, x83, x84, x85, x86, x87, x88, x89, x90, x91, x92, x93, x94, x95, x96, x97, x98, x99, x100, x101, x102, x103, x104, x105, x106, x107, x108, x109, x110, x111, x112, x113, x114, x115, x116, x117, x118, x119, x120, x121, x122, x123, x124, x125, x126, x127, x128, x129, x130, x131, x132, x133, x134, x135, x136, x137, x138, x139, x140, x141, x142, x143, x144, x145, x146, x147, x148, x149, x150, x151, x152, x153, x154, x155, x156, x157, x158, x159, x160, x161, x162, x163, x164, x165, x166, x167, x168, x169, x170, x171, x172, x173, x174, x175, x176, x177, x178, x179, x180, x181, x182, x183, x184, x185, x186, x187, x188, x189, x190, x191, x192, x193, x194, x195, x196, x197, x198, x199, x200, x201, x202, x203, x204, x205, x206, x207, x208, x209, x210, x211, x212, x213, x214, x215, x216, x217, x218, x219, x220, x221, x222, x223, x224, x225], defers := [] } V := by
 have HQ := qh hQ
 have HM := qh hM
 have HMB := qh hMb
 have HMV := qh hV
 have HBK := qh hbk
 have HR := qh hR
 have HFL := qh hF
 have HFIT := qh hm
 have HOKS := qh hs
 have HLEN := qh hl
 have HZ := qh hz
 clear hQ hM hMb hV hbk hR hF hm hs hl hz
 dsimp only [Tryz.f16] at hc
 injection hc with hc
 iterate 10 (injection hc with h1 hc; clear h1)
 injection hc with h0 hc
 injection hc with h1 hc
 injection hc with h2 hc
 injection hc with h3 h4
 subst h0
 subst h1
 subst h2
 subst h3
 subst h4
 intro K hK
 have b3 : V.cell? ⟨w.heap.size + 2, 3, none⟩ = some (.int .i64 b.girth) := (HQ.out.bd.cell 3).trans rfl
 have hgd := (Mo.bok_bd HBK.out).1
 have hwg : IntKind.i64.wrap (841 * b.girth) = 841 * b.girth := by rw [IntKind.wrap_i64] <;> omega
 have HSQ := qh (fun W => mo_square (841 * b.girth) W omg omg)
 clear hgd
 go_wp2_with fail
 refine (HSQ.out _).mono ?_
 rintro _ V1 ⟨rfl, hb1⟩
 have HQ1 := qh (HQ.out.then hb1)
 have HM1 := qh (HM.out.kept hb1 nlr)
 have HV1 := qh (HMV.out.below hb1 HMV.out.lt)
 clear hb1 HQ HM HMV HSQ b3 hwg
 go_upto_region 32 with fail
 refine Kit.wp_name ?_
 intro V2 hV2
 have HQ2 := qh (show Mo.SQ w V2 x p s b Mo.Bx.zero 0 by rw [hV2]; exact HQ1.out.then ((Below.refl _ _).alloc nlr _))
 have HM2 := qh (show Kit.Sv V2 aM 18 Mo.spC (Mo.prs r l) by rw [hV2]; exact HM1.out.alloc _)
 have HV2 := qh (show Kit.Bk V2 MV 96 (Mo.mvA r l) by rw [hV2]; exact HV1.out.alloc _)
 have HG2 := qh (show Kit.Bk V2 V1.heap.size 52 (Mo.bxA (Mo.figN r l s b 0)) by rw [hV2]; exact Kit.Bk.new _ _ _)
 have HNG := qh (show w.heap.size + 5 ≤ V1.heap.size ∧ MV < V1.heap.size ∧ (Mo.prs r l ≠ [] → ∀ ad, aM = some ad → ad.block < V1.heap.size) from ⟨HQ1.out.err.lt, HV1.out.lt, fun hne ad e => by
  rcases HM1.out with h | ⟨ad', h1, h2, _⟩
  ·exact absurd h hne
  ·rw [h1] at e; cases e; exact h2⟩)
 obtain ⟨FG, hFG⟩ : ∃ b, V1.heap.size = b := ⟨_, rfl⟩
 rw [hFG] at HG2 HNG ⊢
 clear hV2 hFG HQ1 HM1 HV1
 obtain ⟨tb, htb⟩ : ∃ t, Mo.turnsB r l = t := ⟨_, rfl⟩
 rw [htb]
 have HTB := qh htb
 clear htb
 have c3 : V2.cell? ⟨w.heap.size + 1, 3, none⟩ = some (.int .i64 s.d0) := (HQ2.out.st.cell 3).trans rfl
 have c4 : V2.cell? ⟨w.heap.size + 1, 4, none⟩ = some (.int .i64 s.v0) := (HQ2.out.st.cell 4).trans rfl
 have c5 : V2.cell? ⟨w.heap.size + 1, 5, none⟩ = some (.int .i64 s.d1) := (HQ2.out.st.cell 5).trans rfl
 have c6 : V2.cell? ⟨w.heap.size + 1, 6, none⟩ = some (.int .i64 s.v1) := (HQ2.out.st.cell 6).trans rfl
 have c7 : V2.cell? ⟨w.heap.size + 1, 7, none⟩ = some (.int .i64 s.d2) := (HQ2.out.st.cell 7).trans rfl
 have c8 : V2.cell? ⟨w.heap.size + 1, 8, none⟩ = some (.int .i64 s.v2) := (HQ2.out.st.cell 8).trans rfl
 have c9 : V2.cell? ⟨w.heap.size + 1, 9, none⟩ = some (.int .i64 s.d3) := (HQ2.out.st.cell 9).trans rfl
 have c10 : V2.cell? ⟨w.heap.size + 1, 10, none⟩ = some (.int .i64 s.v3) := (HQ2.out.st.cell 10).trans rfl
 have c11 : V2.cell? ⟨w.heap.size + 1, 11, none⟩ = some (.int .i64 s.d4) := (HQ2.out.st.cell 11).trans rfl
 have c12 : V2.cell? ⟨w.heap.size + 1, 12, none⟩ = some (.int .i64 s.v4) := (HQ2.out.st.cell 12).trans rfl
 have HIX := qh (fun W i hi => Mo.lb_ix s.d0 s.v0 s.d1 s.v1 s.d2 s.v2 s.d3 s.v3 s.d4 s.v4 W i hi)
 go_wp2_with fail
 clear c3 c4 c5 c6 c7 c8 c9 c10 c11 c12
 refine wp_loop_ghost_k (fun k a' w' => (∃ i : Nat, (a'.tmps.getD 128 undef) = .int .i64 i ∧ i ≤ 5 ∧ 5 - i ≤ k ∧ Hid (Mo.SQ w w' x p s b Mo.Bx.zero 0) ∧ Hid (Kit.Bk w' MV 96 (Mo.mvA r l)) ∧ Hid (Kit.Bk w' FG 52 (Mo.bxA (Mo.figN r l s b i))) ∧ Hid (Kit.Sv w' aM 18 Mo.spC (Mo.prs r l))) ∧ a' = (fun (t : Nat → Value) => ({ tmps := #[x0, x1, x2, x3, x4, x5, x6, x7, x8, Value.pointer (some ⟨w.heap.size + 1, 0, none⟩), Value.pointer (some ⟨w.heap.size + 2, 0, none⟩), x11, Value.pointer (some ⟨w.heap.size + 3, 0, none⟩), Value.pointer (some ⟨w.heap.size + 4, 0, none⟩), x14, x15, x16, Value.slice aM l.length cM, x18, Value.pointer (some ⟨MV, 0, none⟩), Value.bool tb, x21, x22, x23, x24, x25, x26, Value.pointer (some ⟨FG, 0, none⟩), t 28, t 29, t 30, t 31, t 32, t 33, t 34, x35, x36, x37, x38, x39, x40, x41, x42, x43, x44, x45, x46, x47, x48, x49, x50, x51, x52, x53, x54, x55, x56, x57, x58, x59, x60, x61, x62, x63, x64, x65, x66, x67, x68, x69, x70, x71, x72, x73, x74, x75, x76, x77, x78, x79, x80, x81, x82, x83, x84, x85, x86, x87, x88, x89, x90, x91, x92, x93, x94, x95, x96, x97, x98, x99, x100, x101, x102, x103, x104, x105, x106, x107, x108, x109, x110, x111, x112, x113, x114, x115, x116, x117, x118, x119, x120, x121, Value.pointer (some ⟨(w.heap.size + 2), 3, none⟩), Value.int .i64 b.girth, Value.int .i64 (841 * b.girth), Value.agg (Mo.bxA (Mo.sq (841 * b.girth))), Value.pointer (some ⟨(w.heap.size + 1), 3, none⟩), Value.agg #[.int .i64 s.d0, .int .i64 s.v0, .int .i64 s.d1, .int .i64 s.v1, .int .i64 s.d2, .int .i64 s.v2, .int .i64 s.d3, .int .i64 s.v3, .int .i64 s.d4, .int .i64 s.v4], t 128, t 129, t 130, t 131, t 132, t 133, t 134, t 135, t 136, t 137, t 138, t 139, t 140, t 141, t 142, t 143, t 144, t 145, t 146, t 147, t 148, t 149, t 150, t 151, t 152, t 153, t 154, t 155, t 156, t 157, t 158, t 159, t 160, t 161, t 162, t 163, t 164, t 165, t 166, t 167, t 168, t 169, t 170, t 171, t 172, t 173, t 174, t 175, t 176, t 177, t 178, t 179, t 180, t 181, t 182, t 183, t 184, t 185, t 186, t 187, t 188, t 189, t 190, t 191, t 192, t 193, t 194, x195, x196, x197, x198, x199, x200, x201, x202, x203, x204, x205, x206, x207, x208, x209, x210, x211, x212, x213, x214, x215, x216, x217, x218, x219, x220, x221, x222, x223, x224, x225], defers := [] } : Act)) (fun j => a'.tmps.getD j undef)) 5 ?atStart ?round
 case atStart => exact ⟨⟨0, rfl, by omega, by omega, HQ2, HV2, HG2, HM2⟩, by kernel_rfl⟩
 case round =>
  intro gk a' wr hinv
  obtain ⟨hrel, ha⟩ := hinv
  rw [ha]
  clear ha
  obtain ⟨s128, h128_⟩ : ∃ s, a'.tmps.getD 128 undef = s := ⟨_, rfl⟩
  rw [h128_] at hrel
  generalize ht_ : (fun j => a'.tmps.getD j undef) = t
  have f128_ : t 128 = s128 := by rw [← ht_]; exact h128_
  clear ht_ h128_
  clear a'
  dsimp only
  rw [f128_]
  clear f128_
  intro _ _ _ _
  obtain ⟨i, hi8, hi, hk, HQ3, HV3, HG3, HM3⟩ := hrel
  clear HQ2 HV2 HG2 HM2
  by_cases hlt : i < 5
  ·have HSTP := qh (Mo.figN_step r l s b i hlt)
   have HSM := qh (Mo.figN_sm HBK.out r l s i)
   have HRB := qh (Mo.reach_bd HBK.out i)
   have HLO := qh (Mo.lim_ok HOKS.out i hlt)
   have HTO := (show Mo.Sm (Mo.tip b s.f i (Mo.lim s i)) from Mo.sm_tip HBK.out _ _ _).okX
   obtain ⟨d, v, hdv⟩ : ∃ d v, Mo.lim s i = (d, v) := ⟨_, _, rfl⟩
   obtain ⟨rc, hrc⟩ : ∃ c, Mo.reach b i = c := ⟨_, rfl⟩
   obtain ⟨F, hFF⟩ : ∃ F, Mo.figN r l s b i = F := ⟨_, rfl⟩
   obtain ⟨mv, hmv⟩ : ∃ m, Mo.movedB r l i = m := ⟨_, rfl⟩
   rw [hdv] at HLO
   rw [hrc] at HRB
   rw [hFF] at HSTP HSM HG3
   dsimp only at HLO
   have hdd : ([s.d0, s.d1, s.d2, s.d3, s.d4] : List Int).getD i 0 = d ∧ ([s.v0, s.v1, s.v2, s.v3, s.v4] : List Int).getD i 0 = v := by
    rcases (by omega : i = 0 ∨ i = 1 ∨ i = 2 ∨ i = 3 ∨ i = 4) with rfl | rfl | rfl | rfl | rfl
    all_goals exact ⟨congrArg Prod.fst hdv, congrArg Prod.snd hdv⟩
   have HI := fun (z : Int) (hz : z = (i : Int)) => (by rw [hz, ← hdd.1, ← hdd.2]; exact HIX.out wr i hlt : (Instr.index 35 (.agg #[.int .i64 s.d0, .int .i64 s.v0, .int .i64 s.d1, .int .i64 s.v1, .int .i64 s.d2, .int .i64 s.v2, .int .i64 s.d3, .int .i64 s.v3, .int .i64 s.d4, .int .i64 s.v4]) (.int .i64 z)).run Tryz.prog wr = .ok (.agg #[.int .i64 d, .int .i64 v]) wr)
   have HTP := fun (h1 : Mo.movedB r l i = false) (h2 : Mo.turnsB r l = false) (h3 : v ≠ 0) => (by rw [HSTP.out, Mo.addF_tip h1 h2 (by rw [hdv]; exact h3)] : Mo.figN r l s b (i + 1) = Mo.join F (Mo.tip b s.f i (Mo.lim s i)))
   unfold Mo.tip at HTP HTO
   rw [hdv, hrc] at HTO
   simp only [hdv, hrc] at HTP
   have HTPH := qh HTP
   have HTOH := qh HTO
   clear HTP HTO hdd
   rcases (by omega : i = 0 ∨ i = 1 ∨ i = 2 ∨ i = 3 ∨ i = 4) with rfl | rfl | rfl | rfl | rfl
   all_goals
    first | obtain rfl : s128 = .int .i64 0 := hi8 | obtain rfl : s128 = .int .i64 1 := hi8 | obtain rfl : s128 = .int .i64 2 := hi8 | obtain rfl : s128 = .int .i64 3 := hi8 | obtain rfl : s128 = .int .i64 4 := hi8
    first | have hix := HI 0 rfl | have hix := HI 1 rfl | have hix := HI 2 rfl | have hix := HI 3 rfl | have hix := HI 4 rfl
    clear HI
    have HDV := qh hdv
    have HRC := qh hrc
    have HFF := qh hFF
    have HMO := qh hmv
    clear hdv hrc hFF hmv
    go_upto_region 35 with fail
    refine Kit.wp_name ?_
    intro W1 hW1
    have HQ4 := qh (show Mo.SQ w W1 x p s b Mo.Bx.zero 0 by rw [hW1]; exact HQ3.out.then ((Below.refl _ _).alloc nlr _))
    have HM4 := qh (show Kit.Sv W1 aM 18 Mo.spC (Mo.prs r l) by rw [hW1]; exact HM3.out.alloc _)
    have HV4 := qh (show Kit.Bk W1 MV 96 (Mo.mvA r l) by rw [hW1]; exact HV3.out.alloc _)
    have HG4 := qh (show Kit.Bk W1 FG 52 (Mo.bxA F) by rw [hW1]; exact HG3.out.alloc _)
    have HL4 := qh (show Kit.Bk W1 wr.heap.size 34 #[.int .i64 d, .int .i64 v] by rw [hW1]; exact Kit.Bk.new _ _ _)
    have HBG := qh (show FG < wr.heap.size from HG3.out.lt)
    obtain ⟨B8, hB8⟩ : ∃ b, wr.heap.size = b := ⟨_, rfl⟩
    rw [hB8] at HL4 HBG ⊢
    clear hW1 hB8 hix HQ3 HM3 HV3 HG3 HIX
    first | have rb : W1.cell? ⟨w.heap.size + 2, 6, none⟩ = some (.int .i64 rc) := ((HQ4.out.bd.cell 6).trans (by rw [← HRC.out]; rfl)) | have rb : W1.cell? ⟨w.heap.size + 2, 7, none⟩ = some (.int .i64 rc) := ((HQ4.out.bd.cell 7).trans (by rw [← HRC.out]; rfl)) | have rb : W1.cell? ⟨w.heap.size + 2, 8, none⟩ = some (.int .i64 rc) := ((HQ4.out.bd.cell 8).trans (by rw [← HRC.out]; rfl))
    have fc : W1.cell? ⟨w.heap.size + 1, 2, none⟩ = some (.int .i64 s.f) := (HQ4.out.st.cell 2).trans rfl
    have l0 : W1.cell? ⟨B8, 0, none⟩ = some (.int .i64 d) := (HL4.out.cell 0).trans rfl
    have l1 : W1.cell? ⟨B8, 1, none⟩ = some (.int .i64 v) := (HL4.out.cell 1).trans rfl
    first | have mc : W1.cell? ⟨MV, 0, none⟩ = some (.bool mv) := (HV4.out.cell 0).trans (by rw [← HMO.out]; rfl) | have mc : W1.cell? ⟨MV, 1, none⟩ = some (.bool mv) := (HV4.out.cell 1).trans (by rw [← HMO.out]; rfl) | have mc : W1.cell? ⟨MV, 2, none⟩ = some (.bool mv) := (HV4.out.cell 2).trans (by rw [← HMO.out]; rfl) | have mc : W1.cell? ⟨MV, 3, none⟩ = some (.bool mv) := (HV4.out.cell 3).trans (by rw [← HMO.out]; rfl) | have mc : W1.cell? ⟨MV, 4, none⟩ = some (.bool mv) := (HV4.out.cell 4).trans (by rw [← HMO.out]; rfl)
    rcases mv with _ | _
    case' false =>
     by_cases hv0 : v = 0
     case pos =>
      subst hv0
      rcases tb with _ | _
      all_goals
       have HJ := qh (HSTP.out.trans (by rw [Mo.addF_no HMO.out (by rw [HDV.out])]) : _ = F)
       have HG6 := HG4
       rw [← HJ.out] at HG6
       go_wp2_with fail
       (refine Handed.intro (gk - 1) ?_ ?_; omega; go_step; exact ⟨⟨_, by rfl, by omega, by omega, HQ4, HV4, HG6, HM4⟩, by kernel_rfl⟩)
     have cv : (v != 0) = true := by simpa using hv0
     have HV0 := qh hv0
     clear hv0
     rcases tb with _ | _
     case' true =>
      have HJ := qh (HSTP.out.trans (by rw [Mo.addF_tn HTB.out (by rw [HDV.out]; exact HV0.out), HRC.out]) : _ = Mo.join F (Mo.sq (841 * rc)))
      go_upto_region 38 with fail
      have HOX := qh HSM.out.okX
      have hrb := HRB.out
      have HOS := qh (Mo.sm_sq (n := 841 * rc) omg omg).okX
      have hwr : IntKind.i64.wrap (841 * rc) = 841 * rc := by rw [IntKind.wrap_i64] <;> omega
      have HS8 := qh (fun W => mo_square (841 * rc) W omg omg)
      clear hrb
      refine Kit.wp_region_vals 6 [([(27, none)], none, true), ([(30, none)], none, true), ([(148, some 1)], none, true), ([(149, some 2)], none, true), ([(150, some 3)], none, true), ([(147, some 0), (151, some 4)], none, true)]
       [some 147, some 148, some 149, some 150, some 151, some 152] rfl (by kernel_rfl) (by kernel_rfl) (fun A B => Below A.heap.size A B) (fun q v w' => match q with
       | 0 => v = .agg (Mo.bxA F)
       | 1 => v = .int .i64 rc
       | 2 => v = .int .i64 (841 * rc)
       | 3 => v = .agg (Mo.bxA (Mo.sq (841 * rc)))
       | 4 => ∃ b, v = .slice (some ⟨b, 0, none⟩) 1 1 ∧ Kit.Bk w' b 52 (Mo.bxA (Mo.sq (841 * rc)))
       | _ => v = .agg (Mo.bxA (Mo.join F (Mo.sq (841 * rc)))))
       (fun h k => h.trans (k.mono h.size)) (Below.drew (Below.refl _ _)) (fun _ => Below.refl _ _) ?_ ?_ ?_
      ·intro q v A C h1 h2 h3
       split at h3 <;> try exact h3
       obtain ⟨b, e, hb⟩ := h3
       exact ⟨b, e, hb.below h2 hb.lt⟩
      ·simp only [List.take_succ_cons, List.take_zero, Kit.StepsV, Kit.VOp, Kit.RdP, true_and, if_true, and_true]
       refine ⟨?_, ?_, ?_, ?_, ?_, ?_⟩
       all_goals intro ev w' hx hv hc hf hg
       ·rw [Kit.run_load_bk 52 (.tmp 27) rfl FG (by rw [hv]; rfl) (HG4.out.below hx HG4.out.lt) Tryz.underlying52 rfl (Mo.szB _)]
        exact ⟨rfl, Below.refl _ _⟩
       ·have h30 : ev (.tmp 30) = .int .i64 rc := hv.trans rfl
        simp [execOp, h30, hc, go_sem, Kit.UponV, Below.refl]
       ·have h148 : ev (.tmp 148) = .int .i64 rc := hv
        simp [execOp, h148, hc, go_sem, Kit.UponV, Below.refl, hwr]
       ·simp [execOp, hv, hc, hf, go_sem, Kit.UponV]
        refine (HS8.out w').mono ?_
        rintro e w3 ⟨rfl, hb⟩
        exact ⟨_, rfl, rfl, hb⟩
       ·simp [execOp, hv, hc, go_sem, Kit.UponV]
        exact ⟨Kit.Bk.new _ _ _, (Below.refl _ _).alloc nlr _⟩
       ·obtain ⟨hv1, B, hv2, hb⟩ := hv
        simp [execOp, hv1, hv2, hc, hf, go_sem, Kit.UponV]
        refine (mo_join F (Mo.sq (841 * rc)) B _ w' HOX.out HOS.out hb).mono ?_
        rintro e w3 ⟨rfl, hb⟩
        exact ⟨_, rfl, rfl, hb⟩
      intro vs W2 hv hx
      have v5 : vs 5 = .agg (Mo.bxA (Mo.join F (Mo.sq (841 * rc)))) := hv 5 omg
      clear hv
      have HQ5 := qh (HQ4.out.then hx)
      have HM5 := qh (HM4.out.kept hx nlr)
      have HV5 := qh (HV4.out.below hx HV4.out.lt)
      have HG5 := qh (HG4.out.below hx HG4.out.lt)
      clear hx HQ4 HM4 HV4 HG4 HL4 rb fc l0 l1 mc HS8
      simp only [Kit.putD, List.getD_cons_zero, List.getD_cons_succ, Act.put, v5, List.drop_succ_cons, List.drop_zero]
      generalize vs 0 = y0 at *
      generalize vs 1 = y1 at *
      generalize vs 2 = y2 at *
      generalize vs 3 = y3 at *
      generalize vs 4 = y4 at *
      clear v5
      go_simp
      obtain ⟨J, hJJ⟩ : ∃ J, Mo.join F (Mo.sq (841 * rc)) = J := ⟨_, rfl⟩
      rw [hJJ] at HJ ⊢
      clear hJJ
      refine Kit.store_bk0 rfl 52 (.tmp 27) (.tmp 152) rfl FG rfl (Mo.bxA J) rfl HG5.out rfl (Mo.szB _) (Mo.bxA_one _) ?_
      intro W3 hb3 hx3
      have HQ6 := qh (HQ5.out.exc hx3 (fun k hk => by have := HNG.out.1; omega))
      have HM6 := qh (Mo.sv_exc HM5.out hx3 (fun hne ad e h => by have := HNG.out.2.2 hne ad e; omega))
      have HV6 := qh (HV5.out.exc hx3 (by have := HNG.out.2.1; omega))
      rw [← HJ.out] at hb3
      have HG6 := qh hb3
      clear hb3 hx3 HQ5 HM5 HV5 HG5
      simp only [Act.put]
      go_simp
      go_wp2_with fail
      (refine Handed.intro (gk - 1) ?_ ?_; omega; go_step; exact ⟨⟨_, by rfl, by omega, by omega, HQ6, HV6, HG6, HM6⟩, by kernel_rfl⟩)
     case' false =>
      have hjj := HTPH.out HMO.out HTB.out HV0.out
      have hlo := HLO.out
      have hrb := HRB.out
      have hvv : 1 ≤ v ∧ v ≤ 3 := by have := HV0.out; omega
      have hfo := Mo.face_ok HOKS.out
      have htd := Mo.turned_bd0 hlo.1 hfo
      have HOT := HTOH
      have HOX := qh HSM.out.okX
      dsimp only at hjj HOT
      have hx := Mo.mul_bd (show (0 : Int) ≤ rc by omega) (Mo.vx_bd (Mo.turned d s.f) v)
      have hy := Mo.mul_bd (show (0 : Int) ≤ rc by omega) (Mo.vy_bd (Mo.turned d s.f) v)
      have HT4 := qh (fun W => sp_turned d s.f W hlo.1 hfo)
      have HT5 := qh (fun W hF => sp_vecI (Mo.turned d s.f) v W htd hvv hF)
      obtain ⟨TD, hTD⟩ : ∃ t, Mo.turned d s.f = t := ⟨_, rfl⟩
      rw [hTD] at HT4 HT5 hjj HOT hx hy
      obtain ⟨VX, hVX⟩ : ∃ t, Mo.vx TD v = t := ⟨_, rfl⟩
      obtain ⟨VY, hVY⟩ : ∃ t, Mo.vy TD v = t := ⟨_, rfl⟩
      obtain ⟨VZ, hVZ⟩ : ∃ t, Uo.vz TD.toNat v.toNat = t := ⟨_, rfl⟩
      simp only [hVX, hVY, hVZ] at HT5 hjj HOT hx hy
      have hwx : IntKind.i64.wrap (rc * VX) = rc * VX := by rw [IntKind.wrap_i64] <;> omega
      have hwy : IntKind.i64.wrap (rc * VY) = rc * VY := by rw [IntKind.wrap_i64] <;> omega
      have HJ := qh hjj
      clear hjj hlo hrb hvv hfo htd hx hy hTD hVX hVY hVZ
      go_wp2_with fail
      refine (HT4.out _).mono ?_
      rintro _ W2 ⟨rfl, rfl⟩
      clear HT4
      go_wp2_with fail
      refine (HT5.out _ (HFL.out.kept HQ4.out.bel nlr)).mono ?_
      rintro _ W3 ⟨rfl, hb3⟩
      have HQ5 := qh (HQ4.out.then hb3)
      have HM5 := qh (HM4.out.kept hb3 nlr)
      have HV5 := qh (HV4.out.below hb3 HV4.out.lt)
      have HG5 := qh (HG4.out.below hb3 HG4.out.lt)
      clear HT5 hb3 HQ4 HM4 HV4 HG4 HL4 rb fc l0 l1 mc
      go_upto_region 42 with fail
      refine Kit.wp_name ?_
      intro W4 hW4
      have HQ6 := qh (show Mo.SQ w W4 x p s b Mo.Bx.zero 0 by rw [hW4]; exact HQ5.out.then ((Below.refl _ _).alloc nlr _))
      have HM6 := qh (show Kit.Sv W4 aM 18 Mo.spC (Mo.prs r l) by rw [hW4]; exact HM5.out.alloc _)
      have HV6 := qh (show Kit.Bk W4 MV 96 (Mo.mvA r l) by rw [hW4]; exact HV5.out.alloc _)
      have HG6 := qh (show Kit.Bk W4 FG 52 (Mo.bxA F) by rw [hW4]; exact HG5.out.alloc _)
      have HC6 := qh (show Kit.Bk W4 W3.heap.size 106 #[.int .i64 VX, .int .i64 VY, .int .i64 VZ] by rw [hW4]; exact Kit.Bk.new _ _ _)
      obtain ⟨B9, hB9⟩ : ∃ b, W3.heap.size = b := ⟨_, rfl⟩
      rw [hB9] at HC6 ⊢
      clear hW4 hB9 HQ5 HM5 HV5 HG5
      have e0 : W4.cell? ⟨B9, 0, none⟩ = some (.int .i64 VX) := (HC6.out.cell 0).trans rfl
      have e1 : W4.cell? ⟨B9, 1, none⟩ = some (.int .i64 VY) := (HC6.out.cell 1).trans rfl
      have g0 : W4.cell? ⟨FG, 0, none⟩ = some (.int .i64 F.xl) := (HG6.out.cell 0).trans rfl
      have g1 : W4.cell? ⟨FG, 1, none⟩ = some (.int .i64 F.xh) := (HG6.out.cell 1).trans rfl
      have g2 : W4.cell? ⟨FG, 2, none⟩ = some (.int .i64 F.yl) := (HG6.out.cell 2).trans rfl
      have g3 : W4.cell? ⟨FG, 3, none⟩ = some (.int .i64 F.yh) := (HG6.out.cell 3).trans rfl
      go_wp2_with fail
      refine (mo_join F (Mo.pt (rc * VX) (rc * VY)) _ 52 _ HOX.out HOT.out (Kit.Bk.new W4 _ _)).mono ?_
      rintro _ W5 ⟨rfl, hb5⟩
      have hb6 : Below W4.heap.size W4 W5 := ((Below.refl _ _).alloc nlr _).trans (hb5.mono (by simp))
      have HQ5 := qh (HQ6.out.then hb6)
      have HM5 := qh (HM6.out.kept hb6 nlr)
      have HV5 := qh (HV6.out.below hb6 HV6.out.lt)
      have HG5 := qh (HG6.out.below hb6 HG6.out.lt)
      clear hb5 hb6 HQ6 HM6 HV6 HG6 HC6 e0 e1 g0 g1 g2 g3 hwx hwy
      obtain ⟨J, hJJ⟩ : ∃ J, Mo.join F (Mo.pt (rc * VX) (rc * VY)) = J := ⟨_, rfl⟩
      rw [hJJ] at HJ ⊢
      clear hJJ
      go_wp2_with ((with_reducible refine Kit.store_bk0 ?_ 52 (.tmp 27) (.tmp 193) ?_ FG ?_ (Mo.bxA J) ?_ HG5.out ?_ (Mo.szB _) (Mo.bxA_one _) ?_); rfl; rfl; rfl; rfl; rfl; intro W3 hb3 hx3; have HB9 := qh hb3; have HX9 := qh hx3; clear hb3 hx3)
      have HQ6 := qh (HQ5.out.exc HX9.out (fun k hk => by have := HNG.out.1; omega))
      have HM6 := qh (Mo.sv_exc HM5.out HX9.out (fun hne ad e h => by have := HNG.out.2.2 hne ad e; omega))
      have HV6 := qh (HV5.out.exc HX9.out (by have := HNG.out.2.1; omega))
      have HG6 := qh (HB9.out)
      rw [← HJ.out] at HG6
      clear HQ5 HM5 HV5 HG5
      (refine Handed.intro (gk - 1) ?_ ?_; omega; go_step; exact ⟨⟨_, by rfl, by omega, by omega, HQ6, HV6, HG6, HM6⟩, by kernel_rfl⟩)
    case true =>
     have HJ := qh (HSTP.out.trans (by rw [Mo.addF_mv HMO.out, HRC.out]) : _ = Mo.join F (Mo.sq (841 * rc)))
     go_upto_region 38 with fail
     have HOX := qh HSM.out.okX
     have hrb := HRB.out
     have HOS := qh (Mo.sm_sq (n := 841 * rc) omg omg).okX
     have hwr : IntKind.i64.wrap (841 * rc) = 841 * rc := by rw [IntKind.wrap_i64] <;> omega
     have HS8 := qh (fun W => mo_square (841 * rc) W omg omg)
     clear hrb
     refine Kit.wp_region_vals 6 [([(27, none)], none, true), ([(30, none)], none, true), ([(148, some 1)], none, true), ([(149, some 2)], none, true), ([(150, some 3)], none, true), ([(147, some 0), (151, some 4)], none, true)]
      [some 147, some 148, some 149, some 150, some 151, some 152] rfl (by kernel_rfl) (by kernel_rfl) (fun A B => Below A.heap.size A B) (fun q v w' => match q with
      | 0 => v = .agg (Mo.bxA F)
      | 1 => v = .int .i64 rc
      | 2 => v = .int .i64 (841 * rc)
      | 3 => v = .agg (Mo.bxA (Mo.sq (841 * rc)))
      | 4 => ∃ b, v = .slice (some ⟨b, 0, none⟩) 1 1 ∧ Kit.Bk w' b 52 (Mo.bxA (Mo.sq (841 * rc)))
      | _ => v = .agg (Mo.bxA (Mo.join F (Mo.sq (841 * rc)))))
      (fun h k => h.trans (k.mono h.size)) (Below.drew (Below.refl _ _)) (fun _ => Below.refl _ _) ?_ ?_ ?_
     ·intro q v A C h1 h2 h3
      split at h3 <;> try exact h3
      obtain ⟨b, e, hb⟩ := h3
      exact ⟨b, e, hb.below h2 hb.lt⟩
     ·simp only [List.take_succ_cons, List.take_zero, Kit.StepsV, Kit.VOp, Kit.RdP, true_and, if_true, and_true]
      refine ⟨?_, ?_, ?_, ?_, ?_, ?_⟩
      all_goals intro ev w' hx hv hc hf hg
      ·rw [Kit.run_load_bk 52 (.tmp 27) rfl FG (by rw [hv]; rfl) (HG4.out.below hx HG4.out.lt) Tryz.underlying52 rfl (Mo.szB _)]
       exact ⟨rfl, Below.refl _ _⟩
      ·have h30 : ev (.tmp 30) = .int .i64 rc := hv.trans rfl
       simp [execOp, h30, hc, go_sem, Kit.UponV, Below.refl]
      ·have h148 : ev (.tmp 148) = .int .i64 rc := hv
       simp [execOp, h148, hc, go_sem, Kit.UponV, Below.refl, hwr]
      ·simp [execOp, hv, hc, hf, go_sem, Kit.UponV]
       refine (HS8.out w').mono ?_
       rintro e w3 ⟨rfl, hb⟩
       exact ⟨_, rfl, rfl, hb⟩
      ·simp [execOp, hv, hc, go_sem, Kit.UponV]
       exact ⟨Kit.Bk.new _ _ _, (Below.refl _ _).alloc nlr _⟩
      ·obtain ⟨hv1, B, hv2, hb⟩ := hv
       simp [execOp, hv1, hv2, hc, hf, go_sem, Kit.UponV]
       refine (mo_join F (Mo.sq (841 * rc)) B _ w' HOX.out HOS.out hb).mono ?_
       rintro e w3 ⟨rfl, hb⟩
       exact ⟨_, rfl, rfl, hb⟩
     intro vs W2 hv hx
     have v5 : vs 5 = .agg (Mo.bxA (Mo.join F (Mo.sq (841 * rc)))) := hv 5 omg
     clear hv
     have HQ5 := qh (HQ4.out.then hx)
     have HM5 := qh (HM4.out.kept hx nlr)
     have HV5 := qh (HV4.out.below hx HV4.out.lt)
     have HG5 := qh (HG4.out.below hx HG4.out.lt)
     clear hx HQ4 HM4 HV4 HG4 HL4 rb fc l0 l1 mc HS8
     simp only [Kit.putD, List.getD_cons_zero, List.getD_cons_succ, Act.put, v5, List.drop_succ_cons, List.drop_zero]
     generalize vs 0 = y0 at *
     generalize vs 1 = y1 at *
     generalize vs 2 = y2 at *
     generalize vs 3 = y3 at *
     generalize vs 4 = y4 at *
     clear v5
     go_simp
     obtain ⟨J, hJJ⟩ : ∃ J, Mo.join F (Mo.sq (841 * rc)) = J := ⟨_, rfl⟩
     rw [hJJ] at HJ ⊢
     clear hJJ
     refine Kit.store_bk0 rfl 52 (.tmp 27) (.tmp 152) rfl FG rfl (Mo.bxA J) rfl HG5.out rfl (Mo.szB _) (Mo.bxA_one _) ?_
     intro W3 hb3 hx3
     have HQ6 := qh (HQ5.out.exc hx3 (fun k hk => by have := HNG.out.1; omega))
     have HM6 := qh (Mo.sv_exc HM5.out hx3 (fun hne ad e h => by have := HNG.out.2.2 hne ad e; omega))
     have HV6 := qh (HV5.out.exc hx3 (by have := HNG.out.2.1; omega))
     rw [← HJ.out] at hb3
     have HG6 := qh hb3
     clear hb3 hx3 HQ5 HM5 HV5 HG5
     simp only [Act.put]
     go_simp
     go_wp2_with fail
     (refine Handed.intro (gk - 1) ?_ ?_; omega; go_step; exact ⟨⟨_, by rfl, by omega, by omega, HQ6, HV6, HG6, HM6⟩, by kernel_rfl⟩)
  ·obtain rfl : i = 5 := by omega
   obtain rfl : s128 = .int .i64 5 := hi8
   clear hlt
   rw [← HTB.out]
   go_upto_region 44 with fail
   refine mo_sweep_t2 _ _ _ _ _ _ _ _ _ _ _ _ _ _ _ rfl _ _ _ _ _ _ _ _ _ _ _ _ _ _ _ _ _ _ _ _ _ _ _ _ _ _ _ _ _ _ _ _ _ _ _ _ _ _ _ _ _ _ _ _ _ _ _ _ _ _ _ _ _ _ _ _ _ _ _ _ _ _ _ _ _ _ _ _ _ _ _ _ _ _ _ _ _ _ _ _ _ _ _ _ _ _ _ _ _ _ _ _ _ _ _ _ _ _ _ _ _ _ _ _ _ _ _ _ _ _ _ _ _ _ _ _ _ _ _ _ _ _ _ _ _ _ _ _ _ _ _ _ _ _ _ _ _ _ _ _ _ _ _ _ _ _ _ _ _ _ _ _ _ _ _ _ _ _ _ _ _ _ _ _ _ _ _ _ _ _ _ _ _ _ _ _ _ _ _ _ _ _ _ _ _ _ _ _ _ _ _ _ _ _ _ _ _ _ _ _ _ _ _ _ _ _ _ _ _ _ _ _ _ _ _ _ _ _ _ _ _ x p w wr HFL.out s HOKS.out b r l HLEN.out HFIT.out aM cM FG HM3.out (fun hne ad e => ⟨HMB.out hne ad e, Nat.ne_of_lt (HNG.out.2.2 hne ad e)⟩) (Mo.figN r l s b 5) (Mo.figN_sm HBK.out r l s 5) HG3.out HNG.out.1 HQ3.out R HR.out _ (by assumption)
end Go.Proofs.YtedolbjgdedoaaaGreatDoor
