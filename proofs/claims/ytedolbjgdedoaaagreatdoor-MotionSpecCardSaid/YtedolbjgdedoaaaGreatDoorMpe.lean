/- Plain: the boxes of Sweep and Extent are small, and valid where a state that is right puts them. Walks: package motion: Sweep: from the range over the way on. Plain: Sweep's figure, limb by limb; Vector at the limbs of a state that is right. -/
import Derived.Test.YtedolbjgdedoaaaGreatDoorMom
import Derived.Test.YtedolbjgdedoaaaGreatDoorMou
import Derived.Test.YtedolbjgdedoaaaGreatDoorMox
import Derived.Test.YtedolbjgdedoaaaGreatDoorMod
set_option linter.unusedSimpArgs false
set_option linter.unusedVariables false
set_option maxRecDepth 100000
set_option maxHeartbeats 8000000
namespace Go.Proofs.YtedolbjgdedoaaaGreatDoor
open Go.RowKit Go.Shelf
namespace Mo
def Sm (b : Bx) : Prop := -10000 ≤ b.xl ∧ b.xl ≤ b.xh ∧ b.xh ≤ 10000 ∧ -10000 ≤ b.yl ∧ b.yl ≤ b.yh ∧ b.yh ≤ 10000
theorem Sm.okX {b : Bx} (h : Sm b) : okX b := by
 rw [okX_iff]
 unfold Sm at h
 omega
theorem sm_join {a b : Bx} (h : Sm a) (k : Sm b) : Sm (join a b) := by
 unfold Sm at *
 unfold join mnI mxI
 dsimp only
 refine ⟨?_, ?_, ?_, ?_, ?_, ?_⟩ <;> (repeat' split) <;> omega
theorem sm_sq {n : Int} (h0 : 0 ≤ n) (h1 : n ≤ 10000) : Sm (sq n) := by
 unfold Sm sq
 dsimp only
 omega
theorem sm_pt {x y : Int} (h0 : -10000 ≤ x ∧ x ≤ 10000) (h1 : -10000 ≤ y ∧ y ≤ 10000) : Sm (pt x y) := by
 unfold Sm pt
 dsimp only
 omega
theorem bok_bd {b : Un.Bd} (h : Un.bok b = true) : (1 ≤ b.girth ∧ b.girth ≤ 4) ∧ (1 ≤ b.r0 ∧ b.r0 ≤ 8) ∧ (1 ≤ b.r1 ∧ b.r1 ≤ 8) ∧ (1 ≤ b.r2 ∧ b.r2 ≤ 8) := by
 unfold Un.bok at h
 simp only [Bool.and_eq_true, Tp.inb, decide_eq_true_eq] at h
 obtain ⟨⟨⟨⟨_, h1⟩, ⟨h2, h3⟩, h4⟩, _⟩, _⟩ := h
 exact ⟨h1, h2, h3, h4⟩
theorem reach_bd {b : Un.Bd} (h : Un.bok b = true) (i : Nat) : 1 ≤ reach b i ∧ reach b i ≤ 8 := by
 obtain ⟨_, h0, h1, h2⟩ := bok_bd h
 unfold reach
 repeat' split
 all_goals assumption
theorem sm_tip {b : Un.Bd} (h : Un.bok b = true) (f : Int) (i : Nat) (l : Int × Int) : Sm (tip b f i l) := by
 have hr := reach_bd h i
 have h1 := mul_bd (show (0 : Int) ≤ reach b i by omega) (vx_bd (turned l.1 f) l.2)
 have h2 := mul_bd (show (0 : Int) ≤ reach b i by omega) (vy_bd (turned l.1 f) l.2)
 exact sm_pt omg omg
theorem sm_reach {b : Un.Bd} (h : Un.bok b = true) (i : Nat) : Sm (sq (841 * reach b i)) := by
 have hr := reach_bd h i
 exact sm_sq omg omg
theorem sm_girth {b : Un.Bd} (h : Un.bok b = true) : Sm (sq (841 * b.girth)) := by
 have hr := (bok_bd h).1
 exact sm_sq omg omg
theorem sm_addF {b : Un.Bd} (h : Un.bok b = true) (r : List Uo.Re) (l : List Ex.Sg) (s : St) (x : Bx) (i : Nat) (hx : Sm x) : Sm (addF r l s b x i) := by
 unfold addF
 repeat' split
 ·exact sm_join hx (sm_reach h i)
 ·exact sm_join hx (sm_tip h _ _ _)
 ·exact hx
theorem sm_fold {f : Bx → Nat → Bx} (hf : ∀ x i, Sm x → Sm (f x i)) : ∀ (l : List Nat) (x : Bx), Sm x → Sm (l.foldl f x)
 | [], _, hx => hx
 | i :: l, x, hx => sm_fold hf l (f x i) (hf x i hx)
theorem okX_here {g : Bx} {s : St} (h : Sm g) (hs : ok s = true) : okX (here g s) := by
 have hb := (ok_iff (okF_of hs)).1 hs
 rw [okX_iff]
 unfold Sm at h
 unfold here shift
 dsimp only
 omega
theorem sp_here {g : Bx} {s : St} (h : Sm g) (hs : ok s = true) (w : World) : Calls Tryz.prog 43 #[.agg (bxA g), .int .i64 (29 * s.x), .int .i64 (29 * s.y)] w fun e w' => e = .returned (.tuple #[.agg (bxA (here g s)), .int .i64 0]) ∧ Below w.heap.size w w' := by
 have hb := (ok_iff (okF_of hs)).1 hs
 have k := okX_here h hs
 have k1 := (okX_iff g).1 h.okX
 have hq := sp_shift_4 g.xl g.xh g.yl g.yh (29 * s.x) (29 * s.y) w h.okX (by simp [Sp.inB]; omega) k omg
 unfold Sp.ShiftIs at hq
 exact hq
theorem all_ok : ∀ (m : List (Ex.Sg × Uo.Re)) (s : St), ok s = true → ∀ t, (t, (0 : Int)) ∈ all m s → ok t = true
 | [], s, hs, t, h => by
  simp [all, tr] at h
  rw [h]; exact hs
 | x :: m, s, hs, t, h => by
  unfold all at h
  rcases List.mem_cons.1 h with h | h
  ·cases h; exact hs
  ·unfold tr at h
   split at h
   ·rename_i ho
    exact all_ok m _ ho t h
   ·simp at h
end Mo
end Go.Proofs.YtedolbjgdedoaaaGreatDoor

namespace Go.Proofs.YtedolbjgdedoaaaGreatDoor
open Go.RowKit Go.Shelf
attribute [local go_sem] Oper.semAt_some
namespace Mo
def acc (g : Bx) : List St → Bx
 | [] => Bx.zero
 | t :: m => hull g (here g t) m
theorem acc_snoc (g : Bx) (m : List St) (t : St) : acc g (m ++ [t]) = if m = [] then here g t else join (acc g m) (here g t) := by
 rcases m with _ | ⟨u, m⟩
 ·rfl
 ·rw [if_neg (by simp)]
  show hull g (here g u) (m ++ [t]) = join (hull g (here g u) m) (here g t)
  unfold hull
  rw [List.foldl_append]
  rfl
theorem okX_hull {g : Bx} (hg : Sm g) : ∀ (m : List St) (x : Bx), okX x → (∀ t ∈ m, ok t = true) → okX (hull g x m)
 | [], _, h, _ => h
 | t :: m, x, h, k => okX_hull hg m _ (okX_join h (okX_here hg (k t List.mem_cons_self))) (fun u hu => k u (List.mem_cons_of_mem _ hu))
theorem okX_acc {g : Bx} (hg : Sm g) (y : St × Int) (pre : List (St × Int)) (h : ∀ u ∈ y :: pre, ok u.1 = true) : okX (acc g ((y :: pre).map (·.1))) :=
 okX_hull hg _ _ (okX_here hg (h y List.mem_cons_self)) (fun u hu => by obtain ⟨q, hq, rfl⟩ := List.mem_map.1 hu; exact h q (List.mem_cons_of_mem _ hq))
theorem build_bx0 (ev : Operand → Value) (W : World) (d : Option Tmp) (ty : TypeId) (po : String) (af : Array Edge) : (execOp ev { dst := d, op := .build 52 #[], type := ty, pos := po, after := af, guard := none }).run Tryz.prog W = .ok (.value (.agg (bxA Bx.zero))) W := by kernel_rfl
theorem acc_all {g : Bx} {r : List Uo.Re} {l : List Ex.Sg} {s : St} (h : fine r l s = true) : acc g ((all (prs r l) s).map (·.1)) = hull g (here g s) ((way r l s).drop 1) := by
 unfold all
 rw [tr_way, if_pos h, List.append_nil, List.map_cons, List.map_map]
 show hull g (here g s) _ = _
 congr 1
 exact List.map_id _
structure FS (w : World) (FG FI : Nat) (g : Bx) (pre : List (St × Int)) (Y : Nat → Prop) (W : World) : Prop where
 yy : ∀ k, Y k ↔ (k = w.heap.size + 3 ∨ k = w.heap.size + 4 ∨ k = FI)
 fig : Kit.Bk W FG 52 (bxA g)
 fst : Kit.Bk W FI 4 #[.bool pre.isEmpty]
 res : Kit.Bk W (w.heap.size + 3) 52 (bxA (acc g (pre.map (·.1))))
 err : Kit.Bk W (w.heap.size + 4) 41 #[.int .i64 0]
 bel : Below w.heap.size w W
 all : ∀ y ∈ pre, y.2 = 0
theorem FS.keep {w : World} {FG FI : Nat} {g : Bx} {pre : List (St × Int)} {Y : Nat → Prop} {A B : World} {S : Nat → Prop} (h : FS w FG FI g pre Y A) (hx : Kit.Exc S A B) (h0 : ¬ S FG) (h1 : ¬ S (w.heap.size + 3)) (h2 : ¬ S (w.heap.size + 4)) (h3 : ¬ S FI) (hw : ∀ k, S k → w.heap.size ≤ k) : FS w FG FI g pre Y B :=
 ⟨h.yy, h.fig.exc hx h0, h.fst.exc hx h3, h.res.exc hx h1, h.err.exc hx h2, h.bel.trans (hx.below h.bel.size hw), h.all⟩
structure FSX (w : World) (FI : Nat) (xs pre : List (St × Int)) (Y : Nat → Prop) (W : World) : Prop where
 yy : ∀ k, Y k ↔ (k = w.heap.size + 3 ∨ k = w.heap.size + 4 ∨ k = FI)
 res : Kit.Bk W (w.heap.size + 3) 52 (bxA Bx.zero)
 bel : Below w.heap.size w W
 bad : ∃ T f post pre', f ≠ 0 ∧ Kit.Bk W (w.heap.size + 4) 41 #[.int .i64 f] ∧ pre' ++ (T, f) :: post = xs
theorem FSX.keep {w : World} {FI : Nat} {xs pre : List (St × Int)} {Y : Nat → Prop} {A B : World} {S : Nat → Prop} (h : FSX w FI xs pre Y A) (hx : Kit.Exc S A B) (h1 : ¬ S (w.heap.size + 3)) (h2 : ¬ S (w.heap.size + 4)) (hw : ∀ k, S k → w.heap.size ≤ k) : FSX w FI xs pre Y B := by
 obtain ⟨T, f, post, pre', hf, he, hp⟩ := h.bad
 exact ⟨h.yy, h.res.exc hx h1, h.bel.trans (hx.below h.bel.size hw), T, f, post, pre', hf, he.exc hx h2, hp⟩
end Mo
theorem mo_sweep_t2 (s0 s1 s2 s3 s4 s5 s6 s7 s8 s9 s10 s11 t1 t2 t3 : Code) (hc : Tryz.f16.body = some (.seq s0 (.seq s1 (.seq s2 (.seq s3 (.seq s4 (.seq s5 (.seq s6 (.seq s7 (.seq s8 (.seq s9 (.seq s10 (.seq s11 (.seq t1 (.seq t2 t3))))))))))))))) (x0 x1 x2 x3 x4 x5 x6 x7 x8 x10 x11 x14 x15 x16 x18 x19 x20 x21 x22 x23 x24 x25 x26 x28 x29 x30 x31 x32 x33 x34 x35 x36 x37 x38 x39 x40 x41 x42 x43 x44 x45 x46 x47 x48 x49 x50 x51 x52 x53 x54 x55 x56 x57 x58 x59 x60 x61 x62 x63 x64 x65 x66 x67 x68 x69 x70 x71 x72 x73 x74 x75 x76 x77 x78 x79 x80 x81 x82 x83 x84 x85 x86 x87 x88 x89 x90 x91 x92 x93 x94 x95 x96 x97 x98 x99 x100 x101 x102 x103 x104 x105 x106 x107 x108 x109 x110 x111 x112 x113 x114 x115 x116 x117 x118 x119 x120 x121 x122 x123 x124 x125 x126 x127 x128 x129 x130 x131 x132 x133 x134 x135 x136 x137 x138 x139 x140 x141 x142 x143 x144 x145 x146 x147 x148 x149 x150 x151 x152 x153 x154 x155 x156 x157 x158 x159 x160 x161 x162 x163 x164 x165 x166 x167 x168 x169 x170 x171 x172 x173 x174 x175 x176 x177 x178 x179 x180 x181 x182 x183 x184 x185 x186 x187 x188 x189 x190 x191 x192 x193 x194 x195 x196 x197 x198 x199 x200 x201 x202 x203 x204 x205 x206 x207 x208 x209 x210 x211 x212 x213 x214 x215 x216 x217 x218 x219 x220 x221 x222 x223 x224 x225 : Value) (x : Ex.Wk) (p : Ex.Wa) (w V : World) (hF : Uo.Flat w) (s : Mo.St) (hs : Mo.ok s = true) (b : Un.Bd) (r : List Uo.Re) (l : List Ex.Sg) (hl : l.length ≤ 4096)
  (hm : ∀ y ∈ Mo.prs r l, Mo.Fit y.1 ∧ Mo.form y.1 y.2 = true) (aM : Option Addr) (cM FG : Nat) (hM : Kit.Sv V aM 18 Mo.spC (Mo.prs r l)) (hMb : Mo.prs r l ≠ [] → ∀ ad, aM = some ad → w.heap.size + 5 ≤ ad.block ∧ ad.block ≠ FG) (g : Mo.Bx) (hg : Mo.Sm g) (hG : Kit.Bk V FG 52 (Mo.bxA g)) (hz : w.heap.size + 5 ≤ FG)
  (hQ : Mo.SQ w V x p s b Mo.Bx.zero 0) (R : Ending → World → Prop) (hR : ∀ t er W', (if Mo.fine r l s = true then t = Mo.hull g (Mo.here g s) ((Mo.way r l s).drop 1) ∧ er = 0 else t = Mo.Bx.zero ∧ er = 2) → Below w.heap.size w W' → R (.returned (.tuple #[.agg (Mo.bxA t), .int .i64 er])) W') :
  ∀ K : Act → World → Prop, (∀ a w, (Code.seq t2 t3).wp Tryz.prog (bodyPostM Fence.wide 0 Tryz.prog Tryz.f16 R) a w → K a w) → t1.wp Tryz.prog (Exit.then K (bodyPostM Fence.wide 0 Tryz.prog Tryz.f16 R)) { tmps := #[x0, x1, x2, x3, x4, x5, x6, x7, x8, .pointer (some ⟨w.heap.size + 1, 0, none⟩), x10, x11, .pointer (some ⟨w.heap.size + 3, 0, none⟩), .pointer (some ⟨w.heap.size + 4, 0, none⟩), x14, x15, x16, .slice aM l.length cM, x18, x19, x20, x21, x22, x23, x24, x25, x26, .pointer (some ⟨FG, 0, none⟩), x28, x29, x30, x31, x32, x33, x34, x35, x36, x37, x38, x39, x40, x41, x42, x43, x44, x45, x46, x47, x48, x49, x50, x51, x52, x53, x54, x55, x56, x57, x58, x59, x60, x61, x62, x63, x64, x65, x66, x67, x68, x69, x70, x71, x72, x73, x74, x75, x76, x77, x78, x79, x80, x81, x82, x83, x84, x85, x86, x87, x88, x89, x90, x91, x92, x93, x94, x95, x96, x97, x98, x99, x100, x101, x102, x103, x104, x105, x106, x107, x108, x109, x110, x111, x112, x113, x114, x115, x116, x117, x118, x119, x120, x121, x122, x123, x124, x125, x126, x127, x128, x129, x130, x131, x132, x133, x134, x135, x136, x137, x138, x139, x140, x141, x142, x143, x144, x145, x146, x147, x148, x149, x150, x151, x152, x153, x154, x155, x156, x157, x158, x159, x160, x161, x162, x163, x164, x165, x166, x167, x168, x169, x170, x171, x172, x173, x174, x175, x176, x177, x178, x179, x180, x181, x182, x183, x184, x185, x186, x187, x188, x189, x190, x191, x192, x193, x194, x195, x196, x197, x198, x199, x200, x201, x202, x203, x204, x205, x206, x207, x208, x209, x210, x211, x212, x213, x214, x215, x216, x217, x218, x219, x220, x221, x222, x223, x224, x225], defers := [] } V := by
 have HQ := qh hQ
 have HM := qh hM
 have HMB := qh hMb
 have HG := qh hG
 have HSM := qh hg
 have HR := qh hR
 have HFL := qh hF
 have HFIT := qh hm
 have HOKS := qh hs
 have HLEN := qh hl
 have HZ := qh hz
 clear hQ hM hMb hG hg hR hF hm hs hl hz
 dsimp only [Tryz.f16] at hc
 injection hc with hc
 iterate 12 (injection hc with h1 hc; clear h1)
 injection hc with h1 hc
 injection hc with h2 h3
 subst h1
 subst h2
 subst h3
 intro K hK
 go_upto_region 45 with fail
 refine Kit.wp_name ?_
 intro W1 hW1
 have HQ1 := qh (show Mo.SQ w W1 x p s b Mo.Bx.zero 0 by rw [hW1]; exact HQ.out.then ((Below.refl _ _).alloc nlr _))
 have HM1 := qh (show Kit.Sv W1 aM 18 Mo.spC (Mo.prs r l) by rw [hW1]; exact HM.out.alloc _)
 have HG1 := qh (show Kit.Bk W1 FG 52 (Mo.bxA g) by rw [hW1]; exact HG.out.alloc _)
 have HI1 := qh (show Kit.Bk W1 V.heap.size 4 #[.bool true] by rw [hW1]; exact Kit.Bk.new _ _ _)
 have HNI := qh (show FG < V.heap.size ∧ V.heap.size < W1.heap.size ∧ (Mo.prs r l ≠ [] → ∀ ad, aM = some ad → ad.block < V.heap.size) from ⟨HG.out.lt, HI1.out.lt, fun hne ad e => by
  rcases HM.out with h | ⟨ad', h1, h2, _⟩
  ·exact absurd h hne
  ·rw [h1] at e; cases e; exact h2⟩)
 have HPL := qh (show (Mo.prs r l).length = l.length by unfold Mo.prs; rw [List.length_map])
 obtain ⟨FI, hFI⟩ : ∃ b, V.heap.size = b := ⟨_, rfl⟩
 rw [hFI] at HI1 HNI ⊢
 clear hW1 hFI HQ HM HG
 have c0 : W1.cell? ⟨w.heap.size + 1, 0, none⟩ = some (.int .i64 s.x) := (HQ1.out.st.cell 0).trans rfl
 have c1 : W1.cell? ⟨w.heap.size + 1, 1, none⟩ = some (.int .i64 s.y) := (HQ1.out.st.cell 1).trans rfl
 have c2 : W1.cell? ⟨w.heap.size + 1, 2, none⟩ = some (.int .i64 s.f) := (HQ1.out.st.cell 2).trans rfl
 have c3 : W1.cell? ⟨w.heap.size + 1, 3, none⟩ = some (.int .i64 s.d0) := (HQ1.out.st.cell 3).trans rfl
 have c4 : W1.cell? ⟨w.heap.size + 1, 4, none⟩ = some (.int .i64 s.v0) := (HQ1.out.st.cell 4).trans rfl
 have c5 : W1.cell? ⟨w.heap.size + 1, 5, none⟩ = some (.int .i64 s.d1) := (HQ1.out.st.cell 5).trans rfl
 have c6 : W1.cell? ⟨w.heap.size + 1, 6, none⟩ = some (.int .i64 s.v1) := (HQ1.out.st.cell 6).trans rfl
 have c7 : W1.cell? ⟨w.heap.size + 1, 7, none⟩ = some (.int .i64 s.d2) := (HQ1.out.st.cell 7).trans rfl
 have c8 : W1.cell? ⟨w.heap.size + 1, 8, none⟩ = some (.int .i64 s.v2) := (HQ1.out.st.cell 8).trans rfl
 have c9 : W1.cell? ⟨w.heap.size + 1, 9, none⟩ = some (.int .i64 s.d3) := (HQ1.out.st.cell 9).trans rfl
 have c10 : W1.cell? ⟨w.heap.size + 1, 10, none⟩ = some (.int .i64 s.v3) := (HQ1.out.st.cell 10).trans rfl
 have c11 : W1.cell? ⟨w.heap.size + 1, 11, none⟩ = some (.int .i64 s.d4) := (HQ1.out.st.cell 11).trans rfl
 have c12 : W1.cell? ⟨w.heap.size + 1, 12, none⟩ = some (.int .i64 s.v4) := (HQ1.out.st.cell 12).trans rfl
 go_wp2_with fail
 refine (mo_way s aM l.length cM _).mono ?_
 rintro _ W6 ⟨rfl, hW6⟩
 have HB6 := qh (show Below W1.heap.size W1 W6 by rw [hW6]; exact ((Below.refl _ _).alloc nlr _).alloc (by simp) _)
 have HQS := qh (show Kit.Bk W6 W1.heap.size 37 (Mo.stA s) by rw [hW6]; exact (Kit.Bk.new _ _ _).alloc _)
 have HQL := qh (show Kit.Bk W6 (W1.heap.size + 1) 86 #[.slice aM l.length cM] by
  rw [hW6]
  have h := Kit.Bk.new (W1.alloc (.cells (Mo.stA s) 37)) 86 #[.slice aM l.length cM]
  rwa [World.size_alloc] at h)
 have HQ6 := qh (HQ1.out.then HB6.out)
 have HM6 := qh (HM1.out.kept HB6.out nlr)
 have HG6 := qh (HG1.out.below HB6.out HG1.out.lt)
 have HI6 := qh (HI1.out.below HB6.out HI1.out.lt)
 obtain ⟨BS, hBS⟩ : ∃ b, W1.heap.size = b := ⟨_, rfl⟩
 rw [hBS] at HQS HQL HNI ⊢
 clear hW6 hBS c0 c1 c2 c3 c4 c5 c6 c7 c8 c9 c10 c11 c12 HQ1 HM1 HG1 HI1 HB6
 go_wp2_with fail
 have HITER := qh (mo_iter 2 omg BS (BS + 1) (Mo.prs r l) s aM cM W6 HFIT.out HOKS.out (by rw [HPL.out]; exact HLEN.out) (HFL.out.kept HQ6.out.bel nlr) HQS.out (by rw [HPL.out]; exact HQL.out) HM6.out omg
  (by have := HNI.out; have := HFL.out.1; have := HZ.out; omega) (fun hne ad e => by have := HNI.out.2.2 hne ad e; have := HNI.out; omega))
 have HZW := qh (show BS + 2 ≤ W6.heap.size from by have := HQL.out.lt; omega)
 refine Kit.wp_rangeR rfl (enters_of Tryz.func72 (by kernel_rfl) rfl) HITER.out (fun _ => rfl)
  (Mo.FS w FG FI g) (fun c pre Y W => c = .ret ∧ Mo.FSX w FI (Mo.all (Mo.prs r l) s) pre Y W)
  (fun pre e a' Y W => Mo.FS w FG FI g pre Y W ∧ ∃ b4, W6.heap.size + 2 ≤ b4 ∧ Kit.Bk W b4 37 (Mo.stA e.1) ∧ ¬ Y b4 ∧
   a' = { tmps := #[x0, x1, x2, x3, x4, x5, x6, x7, x8, .pointer (some ⟨w.heap.size + 1, 0, none⟩), x10, x11, .pointer (some ⟨w.heap.size + 3, 0, none⟩), .pointer (some ⟨w.heap.size + 4, 0, none⟩), x14, x15, x16, .slice aM l.length cM, x18, x19, x20, x21, x22, x23, x24, x25, x26, .pointer (some ⟨FG, 0, none⟩), x28, x29, x30, x31, x32, x33, x34, .pointer (some ⟨FI, 0, none⟩), .pointer (some ⟨b4, 0, none⟩), .int .i64 e.2, x38, x39, x40, x41, x42, x43, x44, x45, x46, x47, x48, x49, x50, x51, x52, x53, x54, x55, x56, x57, x58, x59, x60, x61, x62, x63, x64, x65, x66, x67, x68, x69, x70, x71, x72, x73, x74, x75, x76, x77, x78, x79, x80, x81, x82, x83, x84, x85, x86, x87, x88, x89, x90, x91, x92, x93, x94, x95, x96, x97, x98, x99, x100, x101, x102, x103, x104, x105, x106, x107, x108, x109, x110, x111, x112, x113, x114, x115, x116, x117, x118, x119, x120, x121, x122, x123, x124, x125, x126, x127, x128, x129, x130, x131, x132, x133, x134, x135, x136, x137, x138, x139, x140, x141, x142, x143, x144, x145, x146, x147, x148, x149, x150, x151, x152, x153, x154, x155, x156, x157, x158, x159, x160, x161, x162, x163, x164, x165, x166, x167, x168, x169, x170, x171, x172, x173, x174, x175, x176, x177, x178, x179, x180, x181, x182, x183, x184, x185, x186, x187, x188, x189, x190, x191, x192, x193, x194, .agg #[.int .i64 s.x, .int .i64 s.y, .int .i64 s.f, .int .i64 s.d0, .int .i64 s.v0, .int .i64 s.d1, .int .i64 s.v1, .int .i64 s.d2, .int .i64 s.v2, .int .i64 s.d3, .int .i64 s.v3, .int .i64 s.d4, .int .i64 s.v4], .slice aM l.length cM, .func (.func 72) #[] #[.pointer (some ⟨BS, 0, none⟩), .pointer (some ⟨(BS + 1), 0, none⟩)], .agg (Mo.stA e.1), .int .i64 e.2, x200, x201, x202, x203, x204, x205, x206, x207, x208, x209, x210, x211, x212, x213, x214, x215, x216, x217, x218, x219, x220, x221, x222, x223, x224, x225], defers := [] })
  (fun k => k = w.heap.size + 3 ∨ k = w.heap.size + 4 ∨ k = FI)
  (fun b hb => by have := HQS.out.lt; omega) (fun k hk => ?y0) ?hI ?hIx ?hIa ?h0 ?assign ?body ?done ?stop
 case y0 =>
  have h1 := HNI.out
  have h2 := HZW.out
  have h3 := HFL.out.1
  have h4 := HZ.out
  refine ⟨by omega, by omega, fun hz => ?_⟩
  rcases hz with h | h | ⟨hne, ad, e, h⟩
  ·omega
  ·omega
  ·have h5 := HMB.out hne ad e
   have h6 := HNI.out.2.2 hne ad e
   omega
 case hI =>
  intro pre Y A B h hx
  have h1 := HNI.out
  have h2 := HZW.out
  have h4 := HZ.out
  have hy := h.yy
  exact h.keep hx omg (fun e => by rcases e with e | ⟨e, h⟩ <;> omega) (fun e => by rcases e with e | ⟨e, h⟩ <;> omega) (fun e => by rcases e with e | ⟨e, h⟩ <;> omega) (fun k hk => by omega)
 case hIx =>
  intro c pre Y A B h hx
  have h1 := HNI.out
  have h2 := HZW.out
  have h4 := HZ.out
  exact ⟨h.1, h.2.keep hx omg omg (fun k hk => by omega)⟩
 case hIa =>
  intro pre e a' Y A B h hx
  have h1 := HNI.out
  have h2 := HZW.out
  have h4 := HZ.out
  obtain ⟨hf, b4, h7, hh, hn, e7⟩ := h
  exact ⟨hf.keep hx omg omg omg omg (fun k hk => by omega), b4, h7, hh.exc hx omg, hn, e7⟩
 case h0 => exact ⟨fun k => Iff.rfl, HG6.out, HI6.out, HQ6.out.res, HQ6.out.err, HQ6.out.bel, fun y hy => by cases hy⟩
 case assign =>
  intro l' pre e Y W hI hok hY hsz
  have HI := qh hI
  have HY := qh hY
  have HSZ := qh hsz
  clear hI hY hok hsz
  gi_wp2
  exact ⟨Y, (Kit.Exc.refl _ _).alloc _, fun k hk => ⟨.inl hk, by have := HY.out k hk; simp; omega⟩, HI.out.keep ((Kit.Exc.refl (fun _ => False) W).alloc _) (fun h => h) (fun h => h) (fun h => h) (fun h => h) (fun _ h => h.elim),
   W.heap.size, HSZ.out, Kit.Bk.new W _ _, fun h => by have := HY.out _ h; omega, rfl⟩
 case body =>
  rintro l' pre e a' Y W hl' hrec ⟨hI, b4, hb4, hc4, hn4, rfl⟩ ⟨post, hpost⟩ hY
  have HI := qh hI
  have HC4 := qh hc4
  have HN4 := qh hn4
  have HPO := qh hpost
  have HYS := qh hY
  have HIO := qh (Mo.bxA_one Mo.Bx.zero)
  clear hI hc4 hn4 hpost hY hrec
  by_cases hf : e.2 = 0
  ·have cf : (e.2 != 0) = false := by rw [hf]; rfl
   have HF := qh hf
   have hok : Mo.ok e.1 = true := Mo.all_ok _ _ HOKS.out e.1 (by rw [← HPO.out, ← hf]; simp)
   have HOT := qh hok
   have hbd := (Mo.ok_iff (Mo.okF_of hok)).1 hok
   have hwx : IntKind.i64.wrap (29 * e.1.x) = 29 * e.1.x := by rw [IntKind.wrap_i64] <;> omega
   have hwy : IntKind.i64.wrap (29 * e.1.y) = 29 * e.1.y := by rw [IntKind.wrap_i64] <;> omega
   have HSH := qh (fun X => Mo.sp_here HSM.out hok X)
   have HOH := qh (Mo.okX_here HSM.out hok)
   obtain ⟨H, hH⟩ : ∃ H, Mo.here g e.1 = H := ⟨_, rfl⟩
   rw [hH] at HSH HOH
   have HH := qh hH
   clear hf hok hbd hH
   have c0 : W.cell? ⟨b4, 0, none⟩ = some (.int .i64 e.1.x) := (HC4.out.cell 0).trans rfl
   have c1 : W.cell? ⟨b4, 1, none⟩ = some (.int .i64 e.1.y) := (HC4.out.cell 1).trans rfl
   have g0 : W.cell? ⟨FG, 0, none⟩ = some (.int .i64 g.xl) := (HI.out.fig.cell 0).trans rfl
   have g1 : W.cell? ⟨FG, 1, none⟩ = some (.int .i64 g.xh) := (HI.out.fig.cell 1).trans rfl
   have g2 : W.cell? ⟨FG, 2, none⟩ = some (.int .i64 g.yl) := (HI.out.fig.cell 2).trans rfl
   have g3 : W.cell? ⟨FG, 3, none⟩ = some (.int .i64 g.yh) := (HI.out.fig.cell 3).trans rfl
   gi_wp2
   refine ⟨trivial, CallsIn.mono (callsIn_wide.2 (HSH.out W)) ?_⟩
   rintro _ W7 ⟨rfl, hb7⟩
   have HB7 := qh hb7
   clear hb7 c0 c1 g0 g1 g2 g3
   gi_upto_region 53 with fail
   refine Kit.wpIn_name ?_
   intro W8 hW8
   have HX8 := qh (show Kit.Exc (fun _ => False) W W8 by rw [hW8]; exact ((Kit.Exc.refl _ W).then HB7.out).alloc _)
   have HI8 := qh (HI.out.keep HX8.out (fun h => h) (fun h => h) (fun h => h) (fun h => h) (fun _ h => h.elim))
   have HD8 := qh (show Kit.Bk W8 W7.heap.size 52 (Mo.bxA H) by rw [hW8]; exact Kit.Bk.new _ _ _)
   have HDL := qh (show W.heap.size ≤ W7.heap.size from HB7.out.size)
   obtain ⟨DB, hDB⟩ : ∃ b, W7.heap.size = b := ⟨_, rfl⟩
   rw [hDB] at HD8 HDL ⊢
   clear hW8 hDB HB7
   have fi : W8.cell? ⟨FI, 0, none⟩ = some (.bool pre.isEmpty) := (HI8.out.fst.cell 0).trans rfl
   rcases pre with _ | ⟨y, pre⟩
   ·gi_upto_region 54 with fail
    refine wpIn_region_lit ?_
    refine Kit.wpListIn_run rfl (by intro c h; cases h) (by intro c h; cases h) (.agg (Mo.bxA H)) W8 (Kit.run_load_bk 52 (.tmp 38) rfl DB rfl HD8.out Tryz.underlying52 rfl (Mo.szB _)) ?_
    refine Kit.wpListIn_store_bk0 rfl 52 (.tmp 12) (.tmp 220) rfl (w.heap.size + 3) rfl (Mo.bxA H) rfl HI8.out.res rfl (Mo.szB _) (Mo.bxA_one _) ?_
    intro W9 hb9 hx9
    have HB9 := qh hb9
    have HX9 := qh hx9
    have HD9 := qh (HD8.out.exc hx9 (by have := HDL.out; have := HI.out.res.lt; omega))
    have HF9 := qh (HI8.out.fst.exc hx9 (by have := HNI.out; have := HZ.out; omega))
    have r0 : W9.cell? ⟨w.heap.size + 3, 0, none⟩ = some (.int .i64 H.xl) := (hb9.cell 0).trans rfl
    have r1 : W9.cell? ⟨w.heap.size + 3, 1, none⟩ = some (.int .i64 H.xh) := (hb9.cell 1).trans rfl
    have r2 : W9.cell? ⟨w.heap.size + 3, 2, none⟩ = some (.int .i64 H.yl) := (hb9.cell 2).trans rfl
    have r3 : W9.cell? ⟨w.heap.size + 3, 3, none⟩ = some (.int .i64 H.yh) := (hb9.cell 3).trans rfl
    have d0 : W9.cell? ⟨DB, 0, none⟩ = some (.int .i64 H.xl) := (HD9.out.cell 0).trans rfl
    have d1 : W9.cell? ⟨DB, 1, none⟩ = some (.int .i64 H.xh) := (HD9.out.cell 1).trans rfl
    have d2 : W9.cell? ⟨DB, 2, none⟩ = some (.int .i64 H.yl) := (HD9.out.cell 2).trans rfl
    have d3 : W9.cell? ⟨DB, 3, none⟩ = some (.int .i64 H.yh) := (HD9.out.cell 3).trans rfl
    clear hb9 hx9 fi
    simp only [Act.put]
    go_simp
    gi_wp2
    refine ⟨trivial, CallsIn.mono (callsIn_wide.2 (mo_join H H W9.heap.size _ _ HOH.out HOH.out (Kit.Bk.new W9 _ _))) ?_⟩
    rintro _ W10 ⟨rfl, hb10⟩
    have HX10 := qh (show Kit.Exc (fun k => k = w.heap.size + 3) W8 W10 from (HX9.out.alloc _).then hb10)
    have HB10 := qh ((HB9.out.alloc _).below hb10 (HB9.out.alloc _).lt)
    have HF10 := qh ((HF9.out.alloc _).below hb10 (HF9.out.alloc _).lt)
    obtain ⟨J, hJ⟩ : ∃ J, Mo.join H H = J := ⟨_, rfl⟩
    have HJ := qh hJ
    rw [hJ]
    clear hb10 hJ r0 r1 r2 r3 d0 d1 d2 d3
    have r0 : W10.cell? ⟨w.heap.size + 3, 0, none⟩ = some (.int .i64 H.xl) := (HB10.out.cell 0).trans rfl
    have r1 : W10.cell? ⟨w.heap.size + 3, 1, none⟩ = some (.int .i64 H.xh) := (HB10.out.cell 1).trans rfl
    have r2 : W10.cell? ⟨w.heap.size + 3, 2, none⟩ = some (.int .i64 H.yl) := (HB10.out.cell 2).trans rfl
    have r3 : W10.cell? ⟨w.heap.size + 3, 3, none⟩ = some (.int .i64 H.yh) := (HB10.out.cell 3).trans rfl
    have fi : W10.cell? ⟨FI, 0, none⟩ = some (.bool true) := (HF10.out.cell 0).trans rfl
    have y0 := HB10.out.frozen 0
    have y1 := HB10.out.frozen 1
    have y2 := HB10.out.frozen 2
    have y3 := HB10.out.frozen 3
    have yf := HF10.out.frozen 0
    have nfi : FI ≠ w.heap.size + 3 := by have := HNI.out; have := HZ.out; omega
    have nif := nfi.symm
    gi_wp2
    have hxa : Kit.Exc (fun k => k = w.heap.size + 3) W10 ((((W10.setCell ⟨w.heap.size + 3, 0, none⟩ (.int .i64 J.xl)).setCell ⟨w.heap.size + 3, 1, none⟩ (.int .i64 J.xh)).setCell ⟨w.heap.size + 3, 2, none⟩ (.int .i64 J.yl)).setCell ⟨w.heap.size + 3, 3, none⟩ (.int .i64 J.yh)) := Kit.Exc.setCell (S := fun k => k = w.heap.size + 3) (p := ⟨w.heap.size + 3, 3, none⟩) (Kit.Exc.setCell (S := fun k => k = w.heap.size + 3) (p := ⟨w.heap.size + 3, 2, none⟩) (Kit.Exc.setCell (S := fun k => k = w.heap.size + 3) (p := ⟨w.heap.size + 3, 1, none⟩) (Kit.Exc.setCell (S := fun k => k = w.heap.size + 3) (p := ⟨w.heap.size + 3, 0, none⟩) (Kit.Exc.refl _ W10) (.inl rfl) _) (.inl rfl) _) (.inl rfl) _) (.inl rfl) _
    have hba : Kit.Bk ((((W10.setCell ⟨w.heap.size + 3, 0, none⟩ (.int .i64 J.xl)).setCell ⟨w.heap.size + 3, 1, none⟩ (.int .i64 J.xh)).setCell ⟨w.heap.size + 3, 2, none⟩ (.int .i64 J.yl)).setCell ⟨w.heap.size + 3, 3, none⟩ (.int .i64 J.yh)) (w.heap.size + 3) 52 (Mo.bxA J) := (((HB10.out.set 0 (.int .i64 J.xl)).set 1 (.int .i64 J.xh)).set 2 (.int .i64 J.yl)).put 3 (.int .i64 J.yh) rfl
    generalize ((((W10.setCell ⟨w.heap.size + 3, 0, none⟩ (.int .i64 J.xl)).setCell ⟨w.heap.size + 3, 1, none⟩ (.int .i64 J.xh)).setCell ⟨w.heap.size + 3, 2, none⟩ (.int .i64 J.yl)).setCell ⟨w.heap.size + 3, 3, none⟩ (.int .i64 J.yh)) = WA at hxa hba ⊢
    have hxb : Kit.Exc (fun k => k = FI) WA (WA.setCell ⟨FI, 0, none⟩ (.bool false)) := Kit.Exc.setCell (S := fun k => k = FI) (p := ⟨FI, 0, none⟩) (Kit.Exc.refl _ WA) (.inl rfl) _
    have hbb := hba.exc hxb nif
    have hfb : Kit.Bk (WA.setCell ⟨FI, 0, none⟩ (.bool false)) FI 4 #[.bool false] := (HF10.out.exc hxa nfi).put 0 (.bool false) rfl
    have hxx : Kit.Exc (fun k => k = w.heap.size + 3 ∨ k = FI) W (WA.setCell ⟨FI, 0, none⟩ (.bool false)) := (HX8.out.mono (fun k _ h => h.elim)).trans ((HX10.out.mono (fun k _ h => .inl h)).trans ((hxa.mono (fun k _ h => .inl h)).trans (hxb.mono (fun k _ h => .inr h))))
    generalize WA.setCell ⟨FI, 0, none⟩ (.bool false) = WB at hbb hfb hxx ⊢
    have hac : Mo.acc g (([] ++ [e] : List (Mo.St × Int)).map (·.1)) = J := by show Mo.here g e.1 = J; rw [HH.out, ← HJ.out, Mo.join_self]
    have h1 := HNI.out
    have h4 := HZ.out
    refine ⟨Y, hxx.mono (fun k _ h => (HI.out.yy k).2 (h.elim .inl (fun h => .inr (.inr h)))), fun k hk => ⟨.inl hk, Nat.lt_of_lt_of_le (HYS.out k hk).1 hxx.size⟩, HI.out.yy, HI.out.fig.exc hxx omg, hfb, by rw [hac]; exact hbb, HI.out.err.exc hxx omg, HI.out.bel.trans (hxx.below HI.out.bel.size (fun j hj => by omega)), fun y hy => ?_⟩
    rcases List.mem_append.1 hy with h | h
    ·exact HI.out.all y h
    ·rw [List.mem_singleton.1 h]; exact HF.out
   ·have HOA := qh (show Mo.okX (Mo.acc g ((y :: pre).map (·.1))) from Mo.okX_acc HSM.out _ _ (fun u hu => Mo.all_ok _ _ HOKS.out u.1 (by rw [← HPO.out, ← HI.out.all u hu]; exact List.mem_append_left _ hu)))
    have HRA := qh HI8.out.res
    have HF8 := qh HI8.out.fst
    obtain ⟨A, hA⟩ : ∃ A, Mo.acc g ((y :: pre).map (·.1)) = A := ⟨_, rfl⟩
    rw [hA] at HOA HRA
    have HA := qh hA
    clear hA
    have r0 : W8.cell? ⟨w.heap.size + 3, 0, none⟩ = some (.int .i64 A.xl) := (HRA.out.cell 0).trans rfl
    have r1 : W8.cell? ⟨w.heap.size + 3, 1, none⟩ = some (.int .i64 A.xh) := (HRA.out.cell 1).trans rfl
    have r2 : W8.cell? ⟨w.heap.size + 3, 2, none⟩ = some (.int .i64 A.yl) := (HRA.out.cell 2).trans rfl
    have r3 : W8.cell? ⟨w.heap.size + 3, 3, none⟩ = some (.int .i64 A.yh) := (HRA.out.cell 3).trans rfl
    have d0 : W8.cell? ⟨DB, 0, none⟩ = some (.int .i64 H.xl) := (HD8.out.cell 0).trans rfl
    have d1 : W8.cell? ⟨DB, 1, none⟩ = some (.int .i64 H.xh) := (HD8.out.cell 1).trans rfl
    have d2 : W8.cell? ⟨DB, 2, none⟩ = some (.int .i64 H.yl) := (HD8.out.cell 2).trans rfl
    have d3 : W8.cell? ⟨DB, 3, none⟩ = some (.int .i64 H.yh) := (HD8.out.cell 3).trans rfl
    gi_wp2
    refine ⟨trivial, CallsIn.mono (callsIn_wide.2 (mo_join A H W8.heap.size _ _ HOA.out HOH.out (Kit.Bk.new W8 _ _))) ?_⟩
    rintro _ W10 ⟨rfl, hb10⟩
    have HX10 := qh (show Kit.Exc (fun k => k = w.heap.size + 3) W8 W10 from ((Kit.Exc.refl _ W8).alloc _).then hb10)
    have HB10 := qh ((HRA.out.alloc _).below hb10 (HRA.out.alloc _).lt)
    have HF10 := qh ((HF8.out.alloc _).below hb10 (HF8.out.alloc _).lt)
    obtain ⟨J, hJ⟩ : ∃ J, Mo.join A H = J := ⟨_, rfl⟩
    have HJ := qh hJ
    rw [hJ]
    clear hb10 hJ r0 r1 r2 r3 d0 d1 d2 d3
    have r0 : W10.cell? ⟨w.heap.size + 3, 0, none⟩ = some (.int .i64 A.xl) := (HB10.out.cell 0).trans rfl
    have r1 : W10.cell? ⟨w.heap.size + 3, 1, none⟩ = some (.int .i64 A.xh) := (HB10.out.cell 1).trans rfl
    have r2 : W10.cell? ⟨w.heap.size + 3, 2, none⟩ = some (.int .i64 A.yl) := (HB10.out.cell 2).trans rfl
    have r3 : W10.cell? ⟨w.heap.size + 3, 3, none⟩ = some (.int .i64 A.yh) := (HB10.out.cell 3).trans rfl
    have fi : W10.cell? ⟨FI, 0, none⟩ = some (.bool false) := (HF10.out.cell 0).trans rfl
    have y0 := HB10.out.frozen 0
    have y1 := HB10.out.frozen 1
    have y2 := HB10.out.frozen 2
    have y3 := HB10.out.frozen 3
    have yf := HF10.out.frozen 0
    have nfi : FI ≠ w.heap.size + 3 := by have := HNI.out; have := HZ.out; omega
    have nif := nfi.symm
    gi_wp2
    have hxa : Kit.Exc (fun k => k = w.heap.size + 3) W10 ((((W10.setCell ⟨w.heap.size + 3, 0, none⟩ (.int .i64 J.xl)).setCell ⟨w.heap.size + 3, 1, none⟩ (.int .i64 J.xh)).setCell ⟨w.heap.size + 3, 2, none⟩ (.int .i64 J.yl)).setCell ⟨w.heap.size + 3, 3, none⟩ (.int .i64 J.yh)) := Kit.Exc.setCell (S := fun k => k = w.heap.size + 3) (p := ⟨w.heap.size + 3, 3, none⟩) (Kit.Exc.setCell (S := fun k => k = w.heap.size + 3) (p := ⟨w.heap.size + 3, 2, none⟩) (Kit.Exc.setCell (S := fun k => k = w.heap.size + 3) (p := ⟨w.heap.size + 3, 1, none⟩) (Kit.Exc.setCell (S := fun k => k = w.heap.size + 3) (p := ⟨w.heap.size + 3, 0, none⟩) (Kit.Exc.refl _ W10) (.inl rfl) _) (.inl rfl) _) (.inl rfl) _) (.inl rfl) _
    have hba : Kit.Bk ((((W10.setCell ⟨w.heap.size + 3, 0, none⟩ (.int .i64 J.xl)).setCell ⟨w.heap.size + 3, 1, none⟩ (.int .i64 J.xh)).setCell ⟨w.heap.size + 3, 2, none⟩ (.int .i64 J.yl)).setCell ⟨w.heap.size + 3, 3, none⟩ (.int .i64 J.yh)) (w.heap.size + 3) 52 (Mo.bxA J) := (((HB10.out.set 0 (.int .i64 J.xl)).set 1 (.int .i64 J.xh)).set 2 (.int .i64 J.yl)).put 3 (.int .i64 J.yh) rfl
    generalize ((((W10.setCell ⟨w.heap.size + 3, 0, none⟩ (.int .i64 J.xl)).setCell ⟨w.heap.size + 3, 1, none⟩ (.int .i64 J.xh)).setCell ⟨w.heap.size + 3, 2, none⟩ (.int .i64 J.yl)).setCell ⟨w.heap.size + 3, 3, none⟩ (.int .i64 J.yh)) = WA at hxa hba ⊢
    have hxb : Kit.Exc (fun k => k = FI) WA (WA.setCell ⟨FI, 0, none⟩ (.bool false)) := Kit.Exc.setCell (S := fun k => k = FI) (p := ⟨FI, 0, none⟩) (Kit.Exc.refl _ WA) (.inl rfl) _
    have hbb := hba.exc hxb nif
    have hfb : Kit.Bk (WA.setCell ⟨FI, 0, none⟩ (.bool false)) FI 4 #[.bool false] := (HF10.out.exc hxa nfi).put 0 (.bool false) rfl
    have hxx : Kit.Exc (fun k => k = w.heap.size + 3 ∨ k = FI) W (WA.setCell ⟨FI, 0, none⟩ (.bool false)) := (HX8.out.mono (fun k _ h => h.elim)).trans ((HX10.out.mono (fun k _ h => .inl h)).trans ((hxa.mono (fun k _ h => .inl h)).trans (hxb.mono (fun k _ h => .inr h))))
    generalize WA.setCell ⟨FI, 0, none⟩ (.bool false) = WB at hbb hfb hxx ⊢
    have hac : Mo.acc g ((y :: pre ++ [e]).map (·.1)) = J := by rw [List.map_append]; show Mo.acc g ((y :: pre).map (·.1) ++ [e.1]) = J; rw [Mo.acc_snoc, if_neg (by simp), HA.out, HH.out, HJ.out]
    have h1 := HNI.out
    have h4 := HZ.out
    refine ⟨Y, hxx.mono (fun k _ h => (HI.out.yy k).2 (h.elim .inl (fun h => .inr (.inr h)))), fun k hk => ⟨.inl hk, Nat.lt_of_lt_of_le (HYS.out k hk).1 hxx.size⟩, HI.out.yy, HI.out.fig.exc hxx omg, hfb, by rw [hac]; exact hbb, HI.out.err.exc hxx omg, HI.out.bel.trans (hxx.below HI.out.bel.size (fun j hj => by omega)), fun y hy => ?_⟩
    rcases List.mem_append.1 hy with h | h
    ·exact HI.out.all y h
    ·rw [List.mem_singleton.1 h]; exact HF.out
  ·have cf : (e.2 != 0) = true := by simpa using hf
   have HF := qh hf
   clear hf
   gi_upto_region 49 with fail
   refine wpIn_region_lit ?_
   refine Kit.wpListIn_run rfl (by intro c h; cases h) (by intro c h; cases h) (.agg (Mo.bxA Mo.Bx.zero)) W (Mo.build_bx0 _ _ _ _ _ _) ?_
   refine Kit.wpListIn_run rfl (by intro c h; cases h) (by intro c h; cases h) (.int .i64 e.2) W rfl ?_
   refine Kit.wpListIn_store_bk0 rfl 52 (.tmp 12) (.tmp 202) rfl (w.heap.size + 3) rfl (Mo.bxA Mo.Bx.zero) rfl HI.out.res rfl (Mo.szB _) HIO.out ?_
   intro W7 hb7 hx7
   refine Mo.storeIn_er rfl (.tmp 13) (.tmp 203) rfl (w.heap.size + 4) rfl e.2 rfl (HI.out.err.exc hx7 omg) ?_
   intro W8 hb8 hx8
   have HB7 := qh (hb7.exc hx8 omg)
   have HB8 := qh hb8
   have HX8 := qh (show Kit.Exc (fun k => k = w.heap.size + 3 ∨ k = w.heap.size + 4) W W8 from (hx7.mono (fun k _ h => .inl h)).trans (hx8.mono (fun k _ h => .inr h)))
   clear hb7 hx7 hb8 hx8
   simp only [Act.put]
   go_simp
   gi_wp2
   exact ⟨Y, HX8.out.mono (fun k _ h => (HI.out.yy k).2 (h.elim .inl (fun h => .inr (.inl h)))), fun k hk => ⟨.inl hk, Nat.lt_of_lt_of_le (HYS.out k hk).1 HX8.out.size⟩, rfl, HI.out.yy, HB7.out, HI.out.bel.trans (HX8.out.below HI.out.bel.size (fun j hj => by omega)), e.1, e.2, post, pre, HF.out, HB8.out, HPO.out⟩
 case done =>
  rintro D xs Y W hD hYD hxs hFE hK
  subst hxs
  obtain ⟨hfine, hlast⟩ := Mo.all_good hFE.all
  have HFI := qh hfine
  have HAL := qh hFE.all
  have HFE := qh hFE
  have HK := qh hK
  have HD1 := qh (show D ≠ w.heap.size + 3 from fun e => hYD ((hFE.yy D).2 (.inl e)))
  have HD2 := qh (show D ≠ w.heap.size + 4 from fun e => hYD ((hFE.yy D).2 (.inr (.inl e))))
  have HDW := qh hD
  clear hFE hK hYD hfine hlast hD
  obtain ⟨A, hA⟩ : ∃ A, Mo.acc g ((Mo.all (Mo.prs r l) s).map (·.1)) = A := ⟨_, rfl⟩
  have HA := qh hA
  have HRS := qh (show Kit.Bk W (w.heap.size + 3) 52 (Mo.bxA A) by rw [← hA]; exact HFE.out.res)
  clear hA
  go_upto_region 56 with fail
  refine wp_region_lit ?_
  refine Kit.load_bk0 rfl 52 (.tmp 12) rfl (w.heap.size + 3) rfl HRS.out Tryz.underlying52 rfl (Mo.szB _) ?_
  refine Kit.store_bk0 rfl 52 (.tmp 12) (.tmp 225) rfl (w.heap.size + 3) rfl (Mo.bxA A) rfl HRS.out rfl (Mo.szB _) (Mo.bxA_one _) ?_
  intro X1 hq1 hx1
  refine Mo.store_er rfl (.tmp 13) (.const (.int .i64 0)) rfl (w.heap.size + 4) rfl 0 rfl (HFE.out.err.exc hx1 omg) ?_
  intro X2 hq2 hx2
  have hx3 : Kit.Exc (fun k => k = w.heap.size + 3 ∨ k = w.heap.size + 4) W X2 := (hx1.mono (fun k _ h => .inl h)).trans (hx2.mono (fun k _ h => .inr h))
  have hK2 := hx3.heap HK.out (fun h => h.elim HD1.out HD2.out)
  have hp : Kit.Exc (fun k => k = D) X2 (X2.putObj D (.deferred none)) := (Kit.Exc.refl _ X2).putObj _ _ (.inl rfl)
  have HP1 := qh ((hq1.exc hx2 omg).exc hp (fun e => HD1.out e.symm))
  have HP2 := qh (hq2.exc hp (fun e => HD2.out e.symm))
  have HPB := qh (show Below w.heap.size w (X2.putObj D (.deferred none)) from (HFE.out.bel.trans (hx3.below HFE.out.bel.size (fun j hj => by omega))).trans (hp.below (Nat.le_trans HFE.out.bel.size hx3.size) (fun j hj => by have := HDW.out; have := HQ6.out.bel.size; omega)))
  have HK2 := qh hK2
  clear hq1 hx1 hq2 hx2 hx3 hK2 hp
  simp only [Act.put]
  go_simp
  go_wp2_with fail
  refine Kit.post_mark HK2.out (Mo.res_bx rfl rfl rfl HP1.out HP2.out) (HR.out _ 0 _ ?_ HPB.out)
  rw [if_pos HFI.out]
  exact ⟨by rw [← HA.out, Mo.acc_all HFI.out], rfl⟩
 case stop =>
  rintro D c pre Y W hD hYD hSp ⟨rfl, hFX⟩ hK
  obtain ⟨T, f, post, pre', hf, he, hp⟩ := hFX.bad
  obtain ⟨hfi, rfl⟩ := Mo.all_bad2 hp hf
  have hd1 : D ≠ w.heap.size + 3 := fun e => hYD ((hFX.yy D).2 (.inl e))
  have hd2 : D ≠ w.heap.size + 4 := fun e => hYD ((hFX.yy D).2 (.inr (.inl e)))
  have hpu : Kit.Exc (fun k => k = D) W (W.putObj D (.deferred none)) := (Kit.Exc.refl _ W).putObj _ _ (.inl rfl)
  have HP1 := qh (hFX.res.exc hpu (fun e => hd1 e.symm))
  have HP2 := qh (he.exc hpu (fun e => hd2 e.symm))
  have HPB := qh (show Below w.heap.size w (W.putObj D (.deferred none)) from hFX.bel.trans (hpu.below hFX.bel.size (fun j hj => by have := HQ6.out.bel.size; omega)))
  have HK2 := qh hK
  have HFI := qh hfi
  clear hFX hf he hp hpu hK hfi hd1 hd2 hYD hSp
  go_wp2_with fail
  refine Kit.post_mark HK2.out (Mo.res_bx rfl rfl rfl HP1.out HP2.out) (HR.out _ 2 _ ?_ HPB.out)
  rw [if_neg (by rw [HFI.out]; decide)]
  exact ⟨rfl, rfl⟩
end Go.Proofs.YtedolbjgdedoaaaGreatDoor

namespace Go.Proofs.YtedolbjgdedoaaaGreatDoor
open Go.RowKit Go.Shelf
namespace Mo
theorem vx_eq : ∀ d : Nat, d < 9 → ∀ v : Nat, v < 4 → 0 < v → Uo.vx d v = vx (d : Int) (v : Int) ∧ Uo.vy d v = vy (d : Int) (v : Int) := by decide +kernel
theorem okL_bd {d v : Int} (h : okL d v = true) : (0 ≤ d ∧ d ≤ 8) ∧ (v = 0 ∨ (1 ≤ v ∧ v ≤ 3)) := by
 unfold okL Tp.inb at h
 simp at h
 omega
theorem lim_ok {s : St} (h : ok s = true) (i : Nat) (hi : i < 5) : (0 ≤ (lim s i).1 ∧ (lim s i).1 ≤ 8) ∧ ((lim s i).2 = 0 ∨ (1 ≤ (lim s i).2 ∧ (lim s i).2 ≤ 3)) := by
 have hf := okF_of h
 unfold okF at hf
 simp only [Bool.and_eq_true] at hf
 obtain ⟨⟨⟨⟨⟨_, h0⟩, h1⟩, h2⟩, h3⟩, h4⟩ := hf
 obtain rfl | rfl | rfl | rfl | rfl : i = 0 ∨ i = 1 ∨ i = 2 ∨ i = 3 ∨ i = 4 := by omega
 ·exact okL_bd h0
 ·exact okL_bd h1
 ·exact okL_bd h2
 ·exact okL_bd h3
 ·exact okL_bd h4
theorem face_ok {s : St} (h : ok s = true) : 0 ≤ s.f ∧ s.f ≤ 7 := by
 have hf := okF_of h
 unfold okF Tp.inb at hf
 simp only [Bool.and_eq_true, decide_eq_true_eq] at hf
 obtain ⟨⟨⟨⟨⟨h0, _⟩, _⟩, _⟩, _⟩, _⟩ := hf
 exact h0
theorem turned_bd0 {d f : Int} (hd : 0 ≤ d ∧ d ≤ 8) (hf : 0 ≤ f ∧ f ≤ 7) : 0 ≤ turned d f ∧ turned d f ≤ 8 := by
 unfold turned
 split
 ·omega
 ·split <;> omega
theorem five_step (f : Bx → Nat → Bx) (x : Bx) (i : Nat) (hi : i < 5) : (five.take (i + 1)).foldl f x = f ((five.take i).foldl f x) i := by
 obtain rfl | rfl | rfl | rfl | rfl : i = 0 ∨ i = 1 ∨ i = 2 ∨ i = 3 ∨ i = 4 := by omega
 all_goals rfl
def figN (r : List Uo.Re) (l : List Ex.Sg) (s : St) (b : Un.Bd) (i : Nat) : Bx := (five.take i).foldl (addF r l s b) (sq (841 * b.girth))
theorem figN_sm {b : Un.Bd} (h : Un.bok b = true) (r : List Uo.Re) (l : List Ex.Sg) (s : St) (i : Nat) : Sm (figN r l s b i) := sm_fold (fun x i => sm_addF h r l s x i) _ _ (sm_girth h)
theorem figN_step (r : List Uo.Re) (l : List Ex.Sg) (s : St) (b : Un.Bd) (i : Nat) (hi : i < 5) : figN r l s b (i + 1) = addF r l s b (figN r l s b i) i := five_step _ _ _ hi
end Mo
theorem sp_vecI (d v : Int) (w : World) (hd : 0 ≤ d ∧ d ≤ 8) (hv : 1 ≤ v ∧ v ≤ 3) (hF : Uo.Flat w) :
  Calls Tryz.prog 42 #[.int .i64 d, .int .i64 v] w fun e w' => e = .returned (.tuple #[.agg #[.int .i64 (Mo.vx d v), .int .i64 (Mo.vy d v), .int .i64 (Uo.vz d.toNat v.toNat)], .int .i64 0]) ∧ Below w.heap.size w w' := by
 obtain ⟨d, rfl⟩ := Int.eq_ofNat_of_zero_le hd.1
 obtain ⟨v, rfl⟩ := Int.eq_ofNat_of_zero_le (show 0 ≤ v by omega)
 have h := sp_vec d v w omg omg omg hF
 obtain ⟨h1, h2⟩ := Mo.vx_eq d omg v omg omg
 unfold Uo.vecV at h
 rw [h1, h2] at h
 exact h
end Go.Proofs.YtedolbjgdedoaaaGreatDoor
