/- Walks: the law UnderstudyReady: plain part; its last loop. -/
import Derived.Test.YtbhgogiaaljclaaGreatDoorUqT
set_option linter.unusedSimpArgs false
set_option linter.unusedVariables false
set_option maxRecDepth 100000
set_option maxHeartbeats 16000000
namespace Go.Proofs.YtbhgogiaaljclaaGreatDoor
open Go.RowKit Go.Shelf
namespace Uy
def inZ (l : List Int) : Int → Option Value := fun y => if y ∈ l then some (.bool true) else none
theorem inZ_nil : inZ [] = fun _ => none := by funext y; simp [inZ]
theorem inZ_put (l : List Int) (p : Int) : Kit.putI (inZ l) p (.bool true) = inZ (l ++ [p]) := by
 funext y
 unfold Kit.putI inZ
 by_cases h : y = p
 ·simp [h]
 ·rw [if_neg h]
  by_cases h2 : y ∈ l
  ·rw [if_pos h2, if_pos (by simp [h2])]
  ·rw [if_neg h2, if_neg (by simp [h2, h])]
theorem inZ_at (l : List Int) (p : Int) : (inZ l p).getD (.bool false) = .bool (decide (p ∈ l)) := by
 unfold inZ
 by_cases h : p ∈ l <;> simp [h]
end Uy
namespace Kit
theorem IMap.look1 {P : Program} {k t el : TypeId} {z : Value} (T : MTypes P t k el z) {w : World} {B n : Nat} {f : Int → Option Value} (h : IMap P k w B n f) {p : Int} (wp_ : (Lit.int .i64 p).wf = true) (v : Value) (hv : (f p).getD z = v) :
  (Instr.lookup t (.map (some B)) (.int .i64 p) false).run P w = .ok v w := by
 obtain ⟨D, h1, _, h3⟩ := h
 obtain ⟨u, ps, hrun, hu⟩ := h1.lookup T.law T.map (T.zero w) (rfl : vR z = some (.held z, [])) (T.of wp_)
 rw [(h3 p wp_).2] at hu
 obtain rfl := vR_inv hu
 rw [hrun, hv]
end Kit
namespace Un
theorem onL_mem {bs : List Bd} {cast : List Int} (hoc : okCast bs.length [] cast = true) {b : Bd} (h : b ∈ onL bs cast) : b ∈ bs := by
 unfold onL at h
 obtain ⟨q, hq, rfl⟩ := List.mem_map.1 h
 obtain ⟨i, hi, rfl⟩ := List.getElem_of_mem hq
 obtain ⟨h0, h1, _⟩ := okCast_at bs.length cast [] hoc i hi
 have hlt : cast[i].toNat < bs.length := by omega
 rw [List.getD_eq_getElem?_getD, List.getElem?_eq_getElem hlt]
 exact List.getElem_mem hlt
theorem chkB_zero {l : List Bd} (h : ∀ b ∈ l, bok b = true) : chkB l = 0 := by
 unfold chkB
 rw [if_pos (List.all_eq_true.2 h)]
theorem liftsA_of {x : Ex.Wk} {on : List Bd} {B : Bd} {role bar : Int} (h1 : Ex.chk x = 0) (h2 : on.length = x.ro.length) (h3 : ∀ b ∈ on, bok b = true) (h4 : bok B = true) (h5 : within x role bar = true) : liftsA x on B role bar = ((heavyR x on B role bar).1, !(heavyR x on B role bar).2, 0) := by
 have hE : liftsE x on B role bar = 0 := by
  unfold liftsE
  rw [if_neg (by simp [h1]), if_neg (by simp [h2]), chkB_zero h3, chkB_zero (by simpa using h4), h5]
  rfl
 unfold liftsA
 rw [if_pos hE]
theorem ableE_of {x : Ex.Wk} {B : Bd} {role bar : Int} (h1 : Ex.chk x = 0) (h2 : bok B = true) (h3 : within x role bar = true) : ableE x B role bar = 0 := by
 unfold ableE firstE firstE firstE firstE chkB
 rw [h1, h3]
 simp [h2]
theorem ableA_of {x : Ex.Wk} {B : Bd} {role bar : Int} (h1 : Ex.chk x = 0) (h2 : bok B = true) (h3 : within x role bar = true) : ableA x B role bar = ((ableR x B role bar).1, (ableR x B role bar).2, 0) := by
 unfold ableA
 rw [if_pos (ableE_of h1 h2 h3)]
theorem Ready.mem {x : Ex.Wk} {bs : List Bd} {cast : List Int} {role bar : Int} {l : List Nat} (h : Ready x bs cast role bar l) (i : Nat) (hi : i < bs.length) : decide (((i : Nat) : Int) ∈ nums l) = fits x bs cast role bar i := by
 rw [Bool.eq_iff_iff, decide_eq_true_eq]
 have e : ((i : Nat) : Int) ∈ nums l ↔ i ∈ l := by
  unfold nums
  rw [List.mem_map]
  constructor
  ·rintro ⟨q, hq, e⟩
   obtain rfl : q = i := by omega
   exact hq
  ·exact fun h => ⟨i, h, rfl⟩
 rw [e, h.perm.mem_iff, List.mem_filter, List.mem_range]
 exact ⟨fun h => h.2, fun h => ⟨hi, h⟩⟩
end Un
theorem lr_loop4 (s0 s1 s2 s3 s4 s5 s6 s7 s8 s9 s10 s11 t1 t3 t2 : Code) (hc : Tryz.f6.body = some (.seq s0 (.seq s1 (.seq s2 (.seq s3 (.seq s4 (.seq s5 (.seq s6 (.seq s7 (.seq s8 (.seq s9 (.seq s10 (.seq s11 (.seq (.seq t1 t3) t2)))))))))))))) (x0 x2 x6 x7 x8 x9 x10 x11 x12 x13 x14 x17 x18 x20 x21 x22 x23 x24 x25 x26 x27 x28 x29 x30 x31 x32 x33 x34 x35 x36 x37 x38 x39 x40 x41 x42 x43 x44 x45 x46 x47 x48 x49 x50 x51 x52 x53 x54 x55 x56 x57 x58 x59 x60 x61 x62 x63 x64 x65 x66 x67 x68 x69 x70 x71 x72 x73 x74 x75 x76 x77 x78 x79 x80 x81 x82 x83 x84 x85 x86 x87 x88 x89 x90 x91 x92 x93 x94 x95 x96 x97 x98 x99 x100 x101 x102 x103 x104 x105 x106 x107 x108 x109 x110 x111 x112 x113 x114 x115 x116 x117 x118 x119 x120 x121 x122 x123 x124 x125 x126 x127 x128 x129 x130 x131 x132 x133 x134 x135 x136 x137 x138 x139 x140 x141 x142 x143 x144 x145 x146 x147 x148 x149 x150 x151 x152 x153 x154 x155 x156 x157 x158 x159 x160 x161 x162 x163 x164 x165 x166 x167 x168 x169 x170 x171 x172 x173 x174 x175 x176 x177 x178 x179 x180 x181 x182 x183 x184 x185 x186 x187 x188 x189 x190 x191 x192 x193 x194 x195 x196 x197 x198 x199 x200 x201 x202 x203 x204 x205 x206 x207 x208 x209 x210 x211 x212 x213 x214 x215 x216 x217 x218 x219 x220 x221 x222 x223 x224 x225 x226 : Value)
  (x : Ex.Wk) (p : Ex.Wa) (w V : World) (hL : Ex.Laid w) (hF : Uo.Flat w) (ha : Ex.At w x p) (hchk : Ex.chk x = 0) (bs : List Un.Bd) (a : Option Addr) (c : Nat) (hS : Tp.Sl w a bs.length 17 (Un.bdF bs)) (hl : bs.length ≤ 16) (hbk : ∀ b ∈ bs, Un.bok b = true) (hns : ∀ b ∈ bs, b.name.size ≤ 9223372036854775807)
  (cast : List Int) (hcl : cast.length ≤ 64) (rn : Nat) (hrn : rn < cast.length) (bar : Int) (hln : cast.length = x.ro.length) (hoc : Un.okCast bs.length [] cast = true) (hwi : Un.within x rn bar = true)
  (hW : Un.WH w x p V) (gon con : Nat) (hon : Tp.Sl V (some ⟨gon, 0, none⟩) cast.length 17 (Un.bdF (Un.onL bs cast))) (l : List Nat) (hrd : Un.Ready x bs cast rn bar l) (mo mi : Nat) (no ni : Nat) (hmo : Kit.IMap Tryz.prog 3 V mo no (Uy.inZ cast)) (hmi : Kit.IMap Tryz.prog 3 V mi ni (Uy.inZ (Un.nums l)))
  (R : Ending → World → Prop) (hR : ∀ W', Below w.heap.size w W' → R (.returned (.bool true)) W') :
  ∀ K : Act → World → Prop, (∀ a w, t2.wp Tryz.prog (bodyPost Tryz.prog Tryz.f6 R) a w → K a w) → ∀ K2 : Act → World → Prop, (∀ a w, t3.wp Tryz.prog (Exit.then K (bodyPost Tryz.prog Tryz.f6 R)) a w → K2 a w) → t1.wp Tryz.prog (Exit.then K2 (Exit.then K (bodyPost Tryz.prog Tryz.f6 R))) { tmps := #[x0, .slice a bs.length c, x2, .int .i64 rn, .int .i64 bar, .pointer (some ⟨w.heap.size, 0, none⟩), x6, x7, x8, x9, x10, x11, x12, x13, x14, .slice (some ⟨gon, 0, none⟩) cast.length con, .map (some mo), x17, x18, .map (some mi), x20, x21, x22, x23, x24, x25, x26, x27, x28, x29, x30, x31, x32, x33, x34, x35, x36, x37, x38, x39, x40, x41, x42, x43, x44, x45, x46, x47, x48, x49, x50, x51, x52, x53, x54, x55, x56, x57, x58, x59, x60, x61, x62, x63, x64, x65, x66, x67, x68, x69, x70, x71, x72, x73, x74, x75, x76, x77, x78, x79, x80, x81, x82, x83, x84, x85, x86, x87, x88, x89, x90, x91, x92, x93, x94, x95, x96, x97, x98, x99, x100, x101, x102, x103, x104, x105, x106, x107, x108, x109, x110, x111, x112, x113, x114, x115, x116, x117, x118, x119, x120, x121, x122, x123, x124, x125, x126, x127, x128, x129, x130, x131, x132, x133, x134, x135, x136, x137, x138, x139, x140, x141, x142, x143, x144, x145, x146, x147, x148, x149, x150, x151, x152, x153, x154, x155, x156, x157, x158, x159, x160, x161, x162, x163, x164, x165, x166, x167, x168, x169, x170, x171, x172, x173, x174, x175, x176, x177, x178, x179, x180, x181, x182, x183, x184, x185, x186, x187, x188, x189, x190, x191, x192, x193, x194, x195, x196, x197, x198, x199, x200, x201, x202, x203, x204, x205, x206, x207, x208, x209, x210, x211, x212, x213, x214, x215, x216, x217, x218, x219, x220, x221, x222, x223, x224, x225, x226], defers := [] } V := by
 have HAB := qh (fun W (hb : Below w.heap.size w W) B (hB : Un.bok B = true) (hn : B.name.size ≤ 9223372036854775807) => (by have h := un_able x p W (hL.kept hb nlr) (hF.kept hb nlr) (ha.kept hb nlr) B hn rn bar; rwa [Un.ableA_of hchk hB hwi] at h : Un.Able x p B rn bar W ((Un.ableR x B rn bar).1, (Un.ableR x B rn bar).2, 0)))
 have HLI := qh (fun W (hv : Below V.heap.size V W) (hb : Below w.heap.size w W) B (hB : Un.bok B = true) (hn : B.name.size ≤ 9223372036854775807) => (by
  have e : (Un.onL bs cast).length = cast.length := by simp [Un.onL]
  have h := un_lifts x p W (hL.kept hb nlr) (ha.kept hb nlr) (Un.onL bs cast) (some ⟨gon, 0, none⟩) con (by rw [e]; exact hon.kept hv nlr) (by rw [e]; omega) (fun b hb => hns b (Un.onL_mem hoc hb)) B hn rn bar
  rwa [Un.liftsA_of hchk (by rw [e]; exact hln) (fun b hb => hbk b (Un.onL_mem hoc hb)) hB hwi, e] at h : Calls Tryz.prog 14 #[Ex.workV x p, .slice (some ⟨gon, 0, none⟩) cast.length con, .agg (Un.bdA B), .int .i64 rn, .int .i64 bar] W fun e w' => e = .returned (.tuple #[.int .i64 (Un.heavyR x (Un.onL bs cast) B rn bar).1, .bool (!(Un.heavyR x (Un.onL bs cast) B rn bar).2), .int .i64 0]) ∧ Below W.heap.size W w'))
 have HIN := qh (fun i (hi : i < bs.length) => hrd.mem i hi)
 have HI := qh (show (Tryz.prog.info? 36).map (·.size) = some (Un.bdA (default : Un.Bd)).toList.length by kernel_rfl)
 have HS := qh hS
 have HBK := qh hbk
 have HNS := qh hns
 have HV := qh hW
 have HR := qh hR
 have HMI := qh hmi
 have HMO := qh hmo
 unfold Un.Able at HAB
 dsimp only [Ex.workV, Ex.wv] at HAB HLI
 clear hL hF ha hchk hS hbk hns hoc hln hwi hW hon hrd hR hmi hmo
 dsimp only [Tryz.f6] at hc
 injection hc with hc
 iterate 12 (injection hc with h1 hc; clear h1)
 injection hc with h1 h2
 injection h1 with h1 h3
 subst h1
 subst h2
 subst h3
 intro K hK K2 hK2
 go_wp2_with fail
 refine wp_loop_ghost_k (fun k a' w' => (∃ i : Nat, (a'.tmps.getD 180 undef) = .int .i64 i ∧ i ≤ bs.length ∧ bs.length - i ≤ k ∧ Hid (Below V.heap.size V w')) ∧ a' = (fun (t : Nat → Value) => ({ tmps := #[x0, Value.slice a bs.length c, x2, Value.int .i64 rn, Value.int .i64 bar, Value.pointer (some ⟨w.heap.size, 0, none⟩), x6, x7, x8, x9, x10, x11, x12, x13, x14, Value.slice (some ⟨gon, 0, none⟩) cast.length con, Value.map (some mo), x17, x18, Value.map (some mi), x20, x21, x22, x23, x24, x25, x26, x27, x28, x29, t 30, t 31, t 32, t 33, t 34, t 35, t 36, t 37, x38, x39, x40, x41, x42, x43, x44, x45, x46, x47, x48, x49, x50, x51, x52, x53, x54, x55, x56, x57, x58, x59, x60, x61, x62, x63, x64, x65, x66, x67, x68, x69, x70, x71, x72, x73, x74, x75, x76, x77, x78, x79, x80, x81, x82, x83, x84, x85, x86, x87, x88, x89, x90, x91, x92, x93, x94, x95, x96, x97, x98, x99, x100, x101, x102, x103, x104, x105, x106, x107, x108, x109, x110, x111, x112, x113, x114, x115, x116, x117, x118, x119, x120, x121, x122, x123, x124, x125, x126, x127, x128, x129, x130, x131, x132, x133, x134, x135, x136, x137, x138, x139, x140, x141, x142, x143, x144, x145, x146, x147, x148, x149, x150, x151, x152, x153, x154, x155, x156, x157, x158, x159, x160, x161, x162, x163, x164, x165, x166, x167, x168, x169, x170, x171, x172, x173, x174, x175, x176, x177, Value.slice a bs.length c, Value.int .i64 (bs.length : Int), t 180, t 181, t 182, t 183, t 184, t 185, t 186, t 187, t 188, t 189, t 190, t 191, t 192, t 193, t 194, t 195, t 196, t 197, t 198, t 199, t 200, t 201, t 202, t 203, t 204, t 205, t 206, t 207, t 208, t 209, t 210, t 211, t 212, t 213, t 214, t 215, t 216, t 217, t 218, t 219, t 220, t 221, t 222, t 223, t 224, t 225, t 226], defers := [] } : Act)) (fun j => a'.tmps.getD j undef)) bs.length ?atStart ?round
 case atStart => exact ⟨⟨0, rfl, by omega, by omega, qh (Below.refl _ _)⟩, by kernel_rfl⟩
 case round =>
  intro gk a' wr hinv
  obtain ⟨hrel, ha⟩ := hinv
  rw [ha]
  clear ha
  obtain ⟨s180, h180_⟩ : ∃ s, a'.tmps.getD 180 undef = s := ⟨_, rfl⟩
  rw [h180_] at hrel
  generalize ht_ : (fun j => a'.tmps.getD j undef) = t
  have f180_ : t 180 = s180 := by rw [← ht_]; exact h180_
  clear ht_ h180_
  clear a'
  dsimp only
  rw [f180_]
  clear f180_
  intro _ _ _ _
  obtain ⟨i, rfl, hi, hk, HB⟩ := hrel
  have HW := qh (HV.out.then HB.out)
  by_cases hlt : i < bs.length
  ·have hltz : (i : Int) < (bs.length : Int) := by omega
   obtain ⟨ad, rfl, hadb, _⟩ := HS.out.at hlt
   obtain ⟨B, hB⟩ : ∃ B, bs.getD i default = B := ⟨_, rfl⟩
   have hmb : B ∈ bs := by rw [← hB, List.getD_eq_getElem?_getD, List.getElem?_eq_getElem hlt]; exact List.getElem_mem hlt
   have HBI := qh (HBK.out B hmb)
   have HNI := qh (HNS.out B hmb)
   have HRUN := qh (Kit.run_load_sl (P := Tryz.prog) (HS.out.kept HW.out.bel nlr) hlt 36 (Un.bdA B).toList _ rfl (Un.bdF_at bs i B hB) Tryz.underlying36 rfl HI.out)
   have HRA := qh (Kit.range_alloc wr (Un.bdA B) 36)
   have HIB := qh (show (Tryz.prog.info? 36).map (·.size) = some (Un.bdA B).toList.length from HI.out)
   obtain ⟨s, ok, hso⟩ : ∃ s ok, Un.ableR x B rn bar = (s, ok) := ⟨_, _, rfl⟩
   obtain ⟨s2, hv, hhv⟩ : ∃ s h, Un.heavyR x (Un.onL bs cast) B rn bar = (s, h) := ⟨_, _, rfl⟩
   obtain ⟨ob, hob⟩ : ∃ b, cast.contains (i : Int) = b := ⟨_, rfl⟩
   have HI1 := qh (show (Uy.inZ (Un.nums l) (i : Int)).getD (.bool false) = .bool (ok && !ob && !hv) by
    rw [Uy.inZ_at, HIN.out i hlt]
    congr 1
    unfold Un.fits
    dsimp only
    rw [hB, hso, hob, show (cast.map fun q => bs.getD q.toNat default) = Un.onL bs cast from rfl, hhv])
   have HI2 := qh (show (Uy.inZ cast (i : Int)).getD (.bool false) = .bool ob by
    rw [Uy.inZ_at, ← hob]
    congr 1
    rw [Bool.eq_iff_iff]; simp)
   have HAI := qh (fun W hb => (by have h := HAB.out W hb B HBI.out HNI.out; rwa [hso] at h : Calls Tryz.prog 12 #[.agg (Un.wkC x p), .agg (Un.bdA B), .int .i64 rn, .int .i64 bar] W fun e w' => e = .returned (.tuple #[.int .i64 s, .bool ok, .int .i64 0]) ∧ Below W.heap.size W w'))
   have HLJ := qh (fun W hv1 hb => (by have h := HLI.out W hv1 hb B HBI.out HNI.out; rwa [hhv] at h : Calls Tryz.prog 14 #[.agg (Un.wkC x p), .slice (some ⟨gon, 0, none⟩) cast.length con, .agg (Un.bdA B), .int .i64 rn, .int .i64 bar] W fun e w' => e = .returned (.tuple #[.int .i64 s2, .bool (!hv), .int .i64 0]) ∧ Below W.heap.size W w'))
   generalize hnv : (!hv) = up at *
   clear hso hhv hob hB hmb
   have wk := HW.out.wk
   have hzw := HW.out.z
   go_upto_region 47 with (first
    | ((with_reducible refine Kit.wpList_load_sl ?_ 36 (.tmp 183) ?_ (ad := ad) (k := 17) i ?_ (Un.bdA B).toList HRUN.out ?_); rfl; rfl; rfl)
    | ((with_reducible refine Kit.wpList_store_fresh (x := .tmp 31) (y := .tmp 184) (b := wr.heap.size) (cells := Un.bdA B) ?_ ?_ ?_ ?_ ?_ ?_ HI.out (Un.bdA_one B) ?_); rfl; rfl; rfl; rfl; rfl; rfl))
   refine Kit.wp_name ?_
   intro W1 hW1
   have hb1 : Below wr.heap.size wr W1 := by rw [hW1]; exact Kit.gr
   have HW1 := qh (HW.out.then hb1)
   have HB1 := qh (HB.out.trans (hb1.mono HB.out.size))
   have HR1 := qh (show W1.rangeAt wr.heap.size 0 (Un.bdA B).toList by rw [hW1]; exact HRA.out)
   have hz1 : wr.heap.size < W1.heap.size := by rw [hW1]; simp
   clear hW1 hb1 wk hzw
   have wk1 := HW1.out.wk
   have hzw := HW1.out.z
   go_wp2_with ((with_reducible refine wpList_load_mid ?_ 36 (.tmp 31) ?_ wr.heap.size 0 ?_ (Un.bdA B).toList _ HR1.out Tryz.underlying36 rfl HIB.out ?_); rfl; rfl; rfl)
   refine (HAI.out _ HW1.out.bel).mono ?_
   rintro _ W2 ⟨rfl, hb⟩
   have HW2 := qh (HW1.out.then hb)
   have HB2 := qh (HB1.out.trans (hb.mono HB1.out.size))
   have HR2 := qh (Kit.range_kept HR1.out hb hz1)
   clear hb wk1 hzw
   have wk2 := HW2.out.wk
   have hzw := HW2.out.z
   go_wp2_with ((with_reducible refine wpList_load_mid ?_ 36 (.tmp 31) ?_ wr.heap.size 0 ?_ (Un.bdA B).toList _ HR2.out Tryz.underlying36 rfl HIB.out ?_); rfl; rfl; rfl)
   refine (HLJ.out _ HB2.out HW2.out.bel).mono ?_
   rintro _ W3 ⟨rfl, hb⟩
   have HB3 := qh (HB2.out.trans (hb.mono HB2.out.size))
   have hl1 := (HMI.out.below HB3.out HMI.out.lt).look1 (t := 56) Uy.mb (p := (i : Int)) (WalkArith.wf_i64 omg) _ HI1.out
   have hl2 := (HMO.out.below HB3.out HMO.out.lt).look1 (t := 56) Uy.mb (p := (i : Int)) (WalkArith.wf_i64 omg) _ HI2.out
   clear hb wk2 hzw HW2 HR2 HR1 HW1 HB1 HB2
   subst hnv
   rcases ok with _ | _ <;> rcases hv with _ | _ <;> rcases ob with _ | _
   all_goals
    simp only [Bool.not_true, Bool.not_false, Bool.and_true, Bool.and_false, Bool.true_and, Bool.false_and] at hl1 ⊢
    go_wp2_with fail
    (refine Handed.intro (bs.length - (i + 1)) ?_ ?_; omega; go_step; exact ⟨⟨i + 1, by show Value.int .i64 _ = _; go_num, by omega, Nat.le_refl _, HB3⟩, by kernel_rfl⟩)
  ·obtain rfl : i = bs.length := by omega
   go_wp2_with fail
   exact HR.out _ HW.out.bel
end Go.Proofs.YtbhgogiaaljclaaGreatDoor
