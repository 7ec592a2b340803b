/- Walks: package understudy: Ready, behind its loops. Walks: package understudy: Ready: what the first options of a person cost (the inner range). -/
import Derived.Test.YtbhgogiaaljclaaGreatDoorUrs
import Derived.Test.YtbhgogiaaljclaaGreatDoorUrx
import Derived.Test.YtbhgogiaaljclaaGreatDoorKxb
import Derived.Laws.EntriesVeiled
import Derived.Deep.Cut
import Derived.Test.YtbhgogiaaljclaaGreatDoorUuj
import Derived.Test.YtbhgogiaaljclaaGreatDoorUoC
set_option linter.unusedSimpArgs false
set_option linter.unusedVariables false
set_option maxRecDepth 100000
set_option maxHeartbeats 8000000
namespace Go.Proofs.YtbhgogiaaljclaaGreatDoor
open Go.RowKit Go.Shelf
theorem un_byF (bl k : Nat) (w : World) : Calls Tryz.prog 44 #[.slice (some ⟨bl, 0, none⟩) 2 k] w fun e w' =>
  e = .returned (.func (.func 83) #[] #[.pointer (some ⟨w.heap.size, 0, none⟩)]) ∧ w' = w.alloc (.cells #[.slice (some ⟨bl, 0, none⟩) 2 k] 148) := by
 go_enter Tryz.func44, Tryz.ntmps44
 go_wp2
 go_ret
 exact ⟨rfl, rfl⟩
theorem Un.row_weak {W : World} {s s' e k n : Nat} {v : Value} {xs : List Value} (h : W.ownsRow s e k v n xs) (hs : s' ≤ s) : W.ownsRow s' e k v n xs := by
 refine ⟨h.1, ?_⟩
 rcases h.2 with h1 | ⟨g, cap, cur, h1, h2, h3⟩
 ·exact .inl h1
 ·exact .inr ⟨g, cap, cur, h1, by omega, h3⟩
theorem un_ready_end (fn : Func) (hfn : fn = Tryz.f16) (s0 s1 s2 s3 s4 s5 s6 s7 s8 s9 t : Code) (hc : Tryz.f16.body = some (.seq s0 (.seq s1 (.seq s2 (.seq s3 (.seq s4 (.seq s5 (.seq s6 (.seq s7 (.seq s8 (.seq s9 t))))))))))) (x0 x1 x2 x3 x4 x5 x6 x7 x8 x9 x11 x12 x13 x14 x16 x17 x18 x19 x20 x21 x22 x23 x24 x25 x26 x27 x28 x29 x30 x31 x32 x33 x34 x35 x36 x37 x38 x39 x40 x41 x42 x43 x44 x45 x46 x47 x48 x49 x50 x51 x52 x53 x54 x55 x56 x57 x58 x59 x60 x61 x62 x63 x64 x65 x66 x67 x68 x69 x70 x71 x72 x73 x74 x75 x76 x77 x78 x79 x80 x81 x82 x83 x84 x85 x86 x87 x88 x89 x90 x91 x92 x93 x94 x95 x96 x97 x98 x99 x100 x101 x102 x103 x104 x105 x106 x107 x108 x109 x110 x111 x112 x113 x114 x115 x116 x117 x118 x119 x120 x121 x122 x123 x124 x125 x126 x127 x128 x129 x130 x131 x132 x133 x134 x135 x136 x137 x138 x139 x140 x141 x142 x143 x144 x145 x146 x147 x148 x149 x150 x151 x152 x153 x154 x155 x156 x157 x158 x159 x160 x161 : Value) (pr : List Int) (a : Option Addr) (c b15 : Nat) (v10 : Value) (l : List Nat) (w W : World) (ds : List Deferred)
  (hlt : ∀ p ∈ l, p < pr.length) (hlp : pr.length ≤ 16) (hbl : l.length ≤ 1000000000) (hO : W.ownsRow w.heap.size 3 1 v10 l.length (Un.ints l)) (h15 : W.cell? ⟨b15, 0, none⟩ = some (.slice a pr.length c)) (z15 : b15 < W.heap.size) (hS : Tp.Sl W a pr.length 1 (Un.ic pr))
  (hne : ∀ g, v10.ownBlock = some g → g ≠ b15 ∧ ∀ ad, a = some ad → pr.length ≠ 0 → ad.block ≠ g) (hM : Kit.Marks w.heap.size W ds) (hB : Below w.heap.size w W)
  (R : Ending → World → Prop) (hR : ∀ l' v' w', l'.Perm l → l'.Pairwise (fun p q => pr.getD p 0 < pr.getD q 0 ∨ (pr.getD p 0 = pr.getD q 0 ∧ p ≤ q)) → w'.ownsRow w.heap.size 3 1 v' l'.length (Un.ints l') → Below w.heap.size w w' → R (.returned (.tuple #[v', .int .i64 0])) w') :
  t.wp Tryz.prog (bodyPostM Fence.wide 0 Tryz.prog fn R) { tmps := #[x0, x1, x2, x3, x4, x5, x6, x7, x8, x9, v10, x11, x12, x13, x14, .pointer (some ⟨b15, 0, none⟩), x16, x17, x18, x19, x20, x21, x22, x23, x24, x25, x26, x27, x28, x29, x30, x31, x32, x33, x34, x35, x36, x37, x38, x39, x40, x41, x42, x43, x44, x45, x46, x47, x48, x49, x50, x51, x52, x53, x54, x55, x56, x57, x58, x59, x60, x61, x62, x63, x64, x65, x66, x67, x68, x69, x70, x71, x72, x73, x74, x75, x76, x77, x78, x79, x80, x81, x82, x83, x84, x85, x86, x87, x88, x89, x90, x91, x92, x93, x94, x95, x96, x97, x98, x99, x100, x101, x102, x103, x104, x105, x106, x107, x108, x109, x110, x111, x112, x113, x114, x115, x116, x117, x118, x119, x120, x121, x122, x123, x124, x125, x126, x127, x128, x129, x130, x131, x132, x133, x134, x135, x136, x137, x138, x139, x140, x141, x142, x143, x144, x145, x146, x147, x148, x149, x150, x151, x152, x153, x154, x155, x156, x157, x158, x159, x160, x161], defers := ds } W := by
 have HR := qh hR
 have HFN := qh hfn
 have HO := qh hO
 have HS := qh hS
 have HNE := qh hne
 have HM := qh hM
 have HB := qh hB
 have HLT := qh hlt
 have hlo : ∀ g, v10.ownBlock = some g → w.heap.size ≤ g ∧ g < W.heap.size := fun g hg => hO.lt g hg
 have HLO := qh hlo
 have hsh : ∃ a0 c0, v10 = .slice a0 l.length c0 := by
  rcases hO.2 with ⟨rfl, hn⟩ | ⟨g, cap, cur, rfl, _⟩
  ·exact ⟨none, 0, by rw [hn]⟩
  ·exact ⟨_, _, rfl⟩
 obtain ⟨a0, c0, rfl⟩ := hsh
 clear hR hfn hO hS hne hM hB hlt hlo
 dsimp only [Tryz.f16] at hc
 injection hc with hc
 iterate 10 (injection hc with h1 hc; clear h1)
 subst hc
 go_wp2_with fail
 refine (un_byF W.heap.size 2 _).mono ?_
 rintro _ w2 ⟨rfl, hw2⟩
 have hx2 : Below W.heap.size W w2 := by rw [hw2]; exact Kit.gr
 have hz2 : w2.heap.size = W.heap.size + 2 := by rw [hw2]; simp
 have c0' : w2.cell? ⟨W.heap.size, 0, none⟩ = some (.func (.func 45) #[] #[.pointer (some ⟨b15, 0, none⟩)]) := by rw [hw2]; simp [go_sem]
 have c1' : w2.cell? ⟨W.heap.size, 1, none⟩ = some (.func (.func 46) #[] #[]) := by rw [hw2]; simp [go_sem]
 have c2' : w2.cell? ⟨W.heap.size + 1, 0, none⟩ = some (.slice (some ⟨W.heap.size, 0, none⟩) 2 2) := by rw [hw2]; simp [go_sem]
 have hso := un_sort pr a c b15 (W.heap.size + 1) W.heap.size 2 (.slice a0 l.length c0) w.heap.size l w2 HLT.out omg hbl (Kit.ownsRow_thn HO.out hx2) ((hx2.cell z15).trans h15) (HS.out.kept hx2 nlr) c2' c0' c1' ⟨by omega, by omega, by omega⟩
  (fun g hg => ⟨(HNE.out g hg).1, by have := (HLO.out g hg).2; omega, by have := (HLO.out g hg).2; omega, (HNE.out g hg).2⟩)
 have HSO := qh hso
 have HX2 := qh hx2
 clear hso hw2 c0' c1' c2' hx2 h15
 simp only [World.size_alloc] at *
 go_wp2_with fail
 refine HSO.out.mono ?_
 rintro _ w3 ⟨rfl, l', hp, hs, ho, hx⟩
 have HP := qh hp
 have HPW := qh hs
 have HO3 := qh ho
 have HX3 := qh hx
 clear hp hs ho hx
 go_wp2_with fail
 obtain ⟨a1, c1, e1⟩ : ∃ a1 c1, (Value.slice a0 l.length c0) = .slice a1 l'.length c1 := ⟨a0, c0, by rw [HP.out.length_eq]⟩
 have hM3 : Kit.Marks w.heap.size w3 ds := (HM.out.exc ((Kit.Exc.refl (fun _ => False) W).then HX2.out) (fun _ h => h.elim)).exc HX3.out (fun g hg hd => by
  have ho := HO.out
  rcases ho.2 with ⟨e, _⟩ | ⟨g', cap, cur, e, _, hh, _⟩
  ·rw [e] at hg; cases hg
  ·rw [e] at hg
   simp [Value.ownBlock] at hg
   subst hg
   rw [HX2.out.block g' (Array.getElem?_eq_some_iff.1 hh).1, hh] at hd
   cases hd)
 refine Kit.post_marks2 (v := .tuple #[.slice a0 l.length c0, .int .i64 0]) w.heap.size hM3 ?_ (fun W' hW' => ?_)
 ·rw [HFN.out]
  intro W
  simp [results, Tryz.results16, go_sem]
 ·refine HR.out l' _ W' HP.out HPW.out (Kit.exc_row HO3.out hW') ?_
  have hB2 : Below w.heap.size w w2 := HB.out.trans (HX2.out.mono HB.out.size)
  have hB3 : Below w.heap.size w w3 := hB2.trans (HX3.out.below (n := w.heap.size) hB2.size (fun g hg => (HLO.out g hg).1))
  exact hB3.trans (hW'.below (n := w.heap.size) hB3.size (fun g hg => hg.1))
attribute [local go_sem] Oper.semAt_some
def Un.PI (w4 : World) (P n i : Nat) (cur : Array Value) (x : Ex.Wk) (B : Un.Bd) (pre : List Ex.Sg) (Y : Nat → Prop) (W : World) : Prop :=
 Kit.Exc (fun k => k = P) w4 W ∧ (∀ k, Y k ↔ k = P) ∧ ∃ cur' : Array Value, W.heap[P]? = some (.cells cur' 3 (0, 0)) ∧ cur'.size = n ∧ cur'[i]? = some (.int .i64 (Un.sumC x B pre)) ∧ ∀ q, q ≠ i → cur'[q]? = cur[q]?
theorem Un.PI.keep {w4 : World} {P n i : Nat} {cur : Array Value} {x : Ex.Wk} {B : Un.Bd} {pre : List Ex.Sg} {Y : Nat → Prop} {A C : World} {S : Nat → Prop} (h : Un.PI w4 P n i cur x B pre Y A) (hx : Kit.Exc S A C) (hS : ∀ k, Y k → ¬ S k) (hw : ∀ k, S k → w4.heap.size ≤ k) : Un.PI w4 P n i cur x B pre Y C := by
 obtain ⟨h1, h2, cur', h3, h4⟩ := h
 exact ⟨Un.exc_on h1 hx (fun b hb _ hs => by have := hw b hs; omega), h2, cur', hx.heap h3 (hS P ((h2 P).2 rfl)), h4⟩
theorem un_price (s0 s1 s2 s3 s4 s5 s6 s7 s8 r23 r24 cnd r25 s26 s28 r30 r35 r36 t RF : Code) (hc : Tryz.f16.body = some (.seq s0 (.seq s1 (.seq s2 (.seq s3 (.seq s4 (.seq s5 (.seq s6 (.seq s7 (.seq s8 (.seq (.seq r23 (.block 2 (.loop (.seq r24 (.seq cnd (.seq (.block 3 (.seq r25 (.seq s26 (.seq s28 (.seq (.seq r30 (.block 4 RF)) r35))))) r36)))))) t))))))))))) (x0 x1 x2 x3 x4 x6 x7 x8 x9 x10 x11 x12 x13 x14 x18 x19 x20 x21 x22 x23 x24 x25 x26 x27 x28 x29 x30 x31 x32 x33 x34 x35 x36 x37 x38 x39 x40 x41 x42 x43 x44 x45 x46 x47 x48 x49 x50 x51 x52 x53 x54 x55 x56 x57 x58 x59 x60 x61 x62 x63 x64 x65 x66 x67 x68 x69 x70 x71 x72 x73 x74 x75 x76 x77 x78 x79 x80 x81 x82 x83 x84 x85 x86 x87 x88 x89 x90 x91 x92 x93 x94 x95 x96 x97 x98 x99 x100 x101 x102 x103 x104 x105 x106 x107 x108 x109 x110 x111 x112 x113 x114 x115 x116 x117 x118 x119 x120 x121 x122 x123 x125 x126 x127 x128 x129 x130 x131 x132 x133 x134 x135 x136 x137 x138 x139 x140 x141 x142 x143 x144 x145 x146 x147 x148 x149 x150 x151 x152 x153 x154 x155 x156 x157 x158 x159 x160 x161 : Value)
  (x : Ex.Wk) (p : Ex.Wa) (w w4 : World) (hL : Ex.Laid w) (hF : Uo.Flat w) (ha : Ex.At w x p) (hg : Ex.Good x) (B : Un.Bd) (hBk : Un.bok B = true) (hn : B.name.size ≤ 9223372036854775807) (role bar : Int) (i n P b15 b16 b17 BR BW BB BA : Nat) (ds : List Deferred)
  (hB4 : Below w.heap.size w w4) (hWK : ∀ j, w4.cell? ⟨w.heap.size, j, none⟩ = (Un.wkC x p)[j]?) (hRB : w4.rangeAt b17 0 (Un.bdA B).toList) (h15 : w4.cell? ⟨b15, 0, none⟩ = some (.slice (some ⟨P, 0, none⟩) n n)) (h16 : w4.cell? ⟨b16, 0, none⟩ = some (.int .i64 i))
  (cur : Array Value) (hP : w4.heap[P]? = some (.cells cur 3 (0, 0))) (hcs : cur.size = n) (hi : i < n) (hci : cur[i]? = some (.int .i64 0)) (hn16 : n ≤ 16)
  (hab : ∀ k ∈ x.sg, Un.keep bar (fun k => k.role == role) k = true → Un.none? x B k = false)
  (zl : w.heap.size < w4.heap.size) (z15 : b15 < w4.heap.size) (z16 : b16 < w4.heap.size) (z17 : b17 < w4.heap.size) (p1 : w.heap.size < P) (p15 : b15 ≠ P) (p16 : b16 ≠ P) (p17 : b17 ≠ P) (pR : P < BR ∧ P < BW ∧ P < BB ∧ P < BA)
  (d0 : w4.cell? ⟨BR, 0, none⟩ = some (.int .i64 role)) (d1 : w4.cell? ⟨BW, 10, none⟩ = some (.slice p.aG x.sg.length p.cG)) (d2 : w4.cell? ⟨BB, 0, none⟩ = some (.int .i64 bar)) (d3 : w4.cell? ⟨BA, 0, none⟩ = some (.func (.func 71) #[] #[.pointer (some ⟨BR, 0, none⟩)]))
  (l0 : BR < w4.heap.size) (l1 : BW < w4.heap.size) (l2 : BB < w4.heap.size) (l3 : BA < w4.heap.size)
  (Q : Exit → Act → World → Prop)
  (hQ : ∀ (D : Nat) (W : World) (cur' : Array Value), w4.heap.size ≤ D → W.heap[D]? = some (.deferred (some [])) → Kit.Exc (fun k => k = P) w4 W → W.heap[P]? = some (.cells cur' 3 (0, 0)) → cur'.size = n → cur'[i]? = some (.int .i64 (Un.sumC x B (x.sg.filter (Un.keep bar fun k => k.role == role)))) → (∀ q, q ≠ i → cur'[q]? = cur[q]?) →
   Q .normal { tmps := #[x0, x1, x2, x3, x4, .pointer (some ⟨w.heap.size, 0, none⟩), x6, x7, x8, x9, x10, x11, x12, x13, x14, .pointer (some ⟨b15, 0, none⟩), .pointer (some ⟨b16, 0, none⟩), .pointer (some ⟨b17, 0, none⟩), x18, x19, x20, x21, x22, x23, x24, x25, x26, x27, x28, x29, x30, x31, x32, x33, x34, x35, x36, x37, x38, x39, x40, x41, x42, x43, x44, x45, x46, x47, x48, x49, x50, x51, x52, x53, x54, x55, x56, x57, x58, x59, x60, x61, x62, x63, x64, x65, x66, x67, x68, x69, x70, x71, x72, x73, x74, x75, x76, x77, x78, x79, x80, x81, x82, x83, x84, x85, x86, x87, x88, x89, x90, x91, x92, x93, x94, x95, x96, x97, x98, x99, x100, x101, x102, x103, x104, x105, x106, x107, x108, x109, x110, x111, x112, x113, x114, x115, x116, x117, x118, x119, x120, x121, x122, x123, .func (.func 70) #[] #[.pointer (some ⟨BW, 0, none⟩), .pointer (some ⟨BB, 0, none⟩), .pointer (some ⟨BA, 0, none⟩)], x125, x126, x127, x128, x129, x130, x131, x132, x133, x134, x135, x136, x137, x138, x139, x140, x141, x142, x143, x144, x145, x146, x147, x148, x149, x150, x151, x152, x153, x154, x155, x156, x157, x158, x159, x160, x161], defers := { target := .collected D, args := #[] } :: ds } W) :
  RF.wp Tryz.prog Q { tmps := #[x0, x1, x2, x3, x4, .pointer (some ⟨w.heap.size, 0, none⟩), x6, x7, x8, x9, x10, x11, x12, x13, x14, .pointer (some ⟨b15, 0, none⟩), .pointer (some ⟨b16, 0, none⟩), .pointer (some ⟨b17, 0, none⟩), x18, x19, x20, x21, x22, x23, x24, x25, x26, x27, x28, x29, x30, x31, x32, x33, x34, x35, x36, x37, x38, x39, x40, x41, x42, x43, x44, x45, x46, x47, x48, x49, x50, x51, x52, x53, x54, x55, x56, x57, x58, x59, x60, x61, x62, x63, x64, x65, x66, x67, x68, x69, x70, x71, x72, x73, x74, x75, x76, x77, x78, x79, x80, x81, x82, x83, x84, x85, x86, x87, x88, x89, x90, x91, x92, x93, x94, x95, x96, x97, x98, x99, x100, x101, x102, x103, x104, x105, x106, x107, x108, x109, x110, x111, x112, x113, x114, x115, x116, x117, x118, x119, x120, x121, x122, x123, .func (.func 70) #[] #[.pointer (some ⟨BW, 0, none⟩), .pointer (some ⟨BB, 0, none⟩), .pointer (some ⟨BA, 0, none⟩)], x125, x126, x127, x128, x129, x130, x131, x132, x133, x134, x135, x136, x137, x138, x139, x140, x141, x142, x143, x144, x145, x146, x147, x148, x149, x150, x151, x152, x153, x154, x155, x156, x157, x158, x159, x160, x161], defers := ds } w4 := by
 have HQ := qh hQ
 dsimp only [Tryz.f16] at hc
 injection hc with hc
 iterate 9 (injection hc with h1 hc; clear h1)
 injection hc with hc h1; clear h1
 injection hc with h1 hc; clear h1
 injection hc with h1 hc; clear h1
 injection hc with hc
 injection hc with h1 hc; clear h1
 injection hc with h1 hc; clear h1
 injection hc with hc h1; clear h1
 injection hc with h1 hc; clear h1
 injection hc with h1 hc; clear h1
 injection hc with h1 hc; clear h1
 injection hc with h1 hc; clear h1
 injection hc with hc h1; clear h1
 injection hc with h1 hc; clear h1
 injection hc with h1 hc; clear h1
 subst hc
 have HSB : ∀ ad, p.aG = some ad → x.sg.length ≠ 0 → ad.block < w.heap.size := fun ad e hne => by
  rcases ha.sg with h | ⟨ad', e', h, _⟩
  ·exact absurd h hne
  ·rw [e] at e'; cases e'; exact h
 have HIT := un_iter 2 omg BW BB BA x.sg p.aG p.cG bar 71 #[.pointer (some ⟨BR, 0, none⟩)] (fun k => k.role == role) (fun k => k = BR ∨ (x.sg.length ≠ 0 ∧ ∃ ad, p.aG = some ad ∧ k = ad.block)) w4 d1 d2 d3 l1 l2 l3 (ha.sg.kept hB4 nlr) hg.len (enters_of Tryz.func71 (by kernel_rfl) rfl)
  (fun k hk => by
   rcases hk with rfl | ⟨hne, ad, e, rfl⟩
   ·exact l0
   ·exact Nat.lt_of_lt_of_le (HSB ad e hne) hB4.size)
  (fun ad e hne => .inr ⟨hne, ad, e, rfl⟩)
  (fun k W' hK => un_of1 k role BR W' (hK.cell (.inr (.inr (.inr (.inl rfl)))) d0) (Nat.lt_of_lt_of_le l0 hK.size))
 have zP : P < w4.heap.size := (Array.getElem?_eq_some_iff.1 hP).1
 have HSB := qh HSB
 have HL := qh hL
 have HF := qh hF
 have HA := qh ha
 have HG := qh hg
 have HAB := qh hab
 have HB4 := qh hB4
 have HWK := qh hWK
 have HRB := qh hRB
 have HBK := qh hBk
 have H15 := qh h15
 have H16 := qh h16
 have hl4 := hg.len
 have HSTART := qh (show Un.PI w4 P n i cur x B [] (fun k => k = P) w4 from ⟨Kit.Exc.refl _ _, fun k => Iff.rfl, cur, hP, hcs, hci, fun _ _ => rfl⟩)
 clear hQ hL hF ha hg hab hB4 hWK hRB hBk h15 h16 d0 d1 d2 d3 hP hcs hci
 refine Kit.wp_rangeR rfl (enters_of Tryz.func70 (by kernel_rfl) rfl) HIT (fun _ => rfl)
  (Un.PI w4 P n i cur x B) (fun _ _ _ _ => False) (fun pre e a' Y W => Un.PI w4 P n i cur x B pre Y W ∧ ∃ b11, w4.heap.size + 2 ≤ b11 ∧ W.heap[b11]? = some (.cells #[.int .i64 e.id, .int .i64 e.role, .int .i64 e.bar, .int .i64 e.mark, .int .i64 e.kind, .int .i64 e.side, .int .i64 e.dir, .int .i64 e.level, .int .i64 e.size, .int .i64 e.wth, .int .i64 e.fn, .int .i64 e.fd, .int .i64 e.tn, .int .i64 e.td] 52 (0, 0)) ∧ ¬ Y b11 ∧ a' = { tmps := #[x0, x1, x2, x3, x4, .pointer (some ⟨w.heap.size, 0, none⟩), x6, x7, x8, x9, x10, x11, x12, x13, x14, .pointer (some ⟨b15, 0, none⟩), .pointer (some ⟨b16, 0, none⟩), .pointer (some ⟨b17, 0, none⟩), x18, x19, x20, x21, x22, .pointer (some ⟨b11, 0, none⟩), x24, x25, x26, x27, x28, x29, x30, x31, x32, x33, x34, x35, x36, x37, x38, x39, x40, x41, x42, x43, x44, x45, x46, x47, x48, x49, x50, x51, x52, x53, x54, x55, x56, x57, x58, x59, x60, x61, x62, x63, x64, x65, x66, x67, x68, x69, x70, x71, x72, x73, x74, x75, x76, x77, x78, x79, x80, x81, x82, x83, x84, x85, x86, x87, x88, x89, x90, x91, x92, x93, x94, x95, x96, x97, x98, x99, x100, x101, x102, x103, x104, x105, x106, x107, x108, x109, x110, x111, x112, x113, x114, x115, x116, x117, x118, x119, x120, x121, x122, x123, .func (.func 70) #[] #[.pointer (some ⟨BW, 0, none⟩), .pointer (some ⟨BB, 0, none⟩), .pointer (some ⟨BA, 0, none⟩)], Ex.sgV e, x126, x127, x128, x129, x130, x131, x132, x133, x134, x135, x136, x137, x138, x139, x140, x141, x142, x143, x144, x145, x146, x147, x148, x149, x150, x151, x152, x153, x154, x155, x156, x157, x158, x159, x160, x161], defers := [] })
  (fun k => k = P) (fun _ h => h.elim) (fun k hk => ⟨by omega, fun h => h.elim, fun h => by
   rcases h with h | h | h | h | ⟨hne, ad, e, h⟩
   ·omega
   ·omega
   ·omega
   ·omega
   ·have := HSB.out ad e hne; omega⟩)
  (fun pre Y A C h hx => h.keep hx (fun k hk hS => hS.elim False.elim (fun h => h.2 hk)) (fun k hk => hk.elim False.elim (fun h => h.1)))
  (fun cc pre Y A C h hx => h)
  (fun pre e a' Y A C h hx => ⟨h.1.keep hx (fun k hk hS => by have := (h.1.2.1 k).1 hk; omega) (fun k hk => hk.1), by
   obtain ⟨b11, h7, hh, hn, e7⟩ := h.2
   exact ⟨b11, h7, hx.heap hh omg, hn, e7⟩⟩)
  HSTART.out ?assign ?body ?done ?stop
 case assign =>
  intro l' pre e Y W hI hok hY hs
  have HI := qh hI
  have HY := qh hY
  clear hI hY hok
  gi_wp2
  exact ⟨(Kit.Exc.refl _ _).alloc _, Y, fun k hk => ⟨.inl hk, by have := HY.out k hk; simp; omega⟩, HI.out.keep ((Kit.Exc.refl (fun _ => False) W).alloc _) (fun _ _ h => h) (fun _ h => h.elim),
   W.heap.size, hs, World.alloc_heap_new W _, fun h => by have := HY.out _ h; omega, rfl⟩
 case body =>
  rintro l' pre e a' Y W hl' hrec ⟨⟨hE, hYY, cur', hP', hcs', hci', hcq'⟩, b11, hb11, hc11, hn11, rfl⟩ hok hY
  obtain ⟨iq, hiq, hpre, hie, hke⟩ := hok
  have hmem : e ∈ x.sg := by rw [← hie, List.getD_eq_getElem?_getD, List.getElem?_eq_getElem hiq]; exact List.getElem_mem hiq
  have hBw : Below w.heap.size w W := HB4.out.trans (hE.below (n := w.heap.size) HB4.out.size (fun b hb => by omega))
  have wk : ∀ j, W.cell? ⟨w.heap.size, j, none⟩ = (Un.wkC x p)[j]? := fun j => (World.cell?_of_block (hE.block w.heap.size zl omg)).trans (HWK.out j)
  have rb : W.rangeAt b17 0 (Un.bdA B).toList := fun j v hv => (World.cell?_of_block (hE.block b17 z17 p17)).trans (HRB.out j v hv)
  have cb0 : W.cell? ⟨b17, 0, none⟩ = some (.string B.name) := by have h := rb 0 (.string B.name) rfl; simpa using h
  have cb1 : W.cell? ⟨b17, 1, none⟩ = some (.int .i64 B.weight) := by have h := rb 1 (.int .i64 B.weight) rfl; simpa using h
  have cb2 : W.cell? ⟨b17, 2, none⟩ = some (.int .i64 B.lift) := by have h := rb 2 (.int .i64 B.lift) rfl; simpa using h
  have cb3 : W.cell? ⟨b17, 3, none⟩ = some (.int .i64 B.girth) := by have h := rb 3 (.int .i64 B.girth) rfl; simpa using h
  have cb4 : W.cell? ⟨b17, 4, none⟩ = some (.int .i64 B.step) := by have h := rb 4 (.int .i64 B.step) rfl; simpa using h
  have cb5 : W.cell? ⟨b17, 5, none⟩ = some (.int .i64 B.jump) := by have h := rb 5 (.int .i64 B.jump) rfl; simpa using h
  have cb6 : W.cell? ⟨b17, 6, none⟩ = some (.int .i64 B.r0) := by have h := rb 6 (.int .i64 B.r0) rfl; simpa using h
  have cb7 : W.cell? ⟨b17, 7, none⟩ = some (.int .i64 B.r1) := by have h := rb 7 (.int .i64 B.r1) rfl; simpa using h
  have cb8 : W.cell? ⟨b17, 8, none⟩ = some (.int .i64 B.r2) := by have h := rb 8 (.int .i64 B.r2) rfl; simpa using h
  have cb9 : W.cell? ⟨b17, 9, none⟩ = some (.int .i64 B.s0) := by have h := rb 9 (.int .i64 B.s0) rfl; simpa using h
  have cb10 : W.cell? ⟨b17, 10, none⟩ = some (.int .i64 B.s1) := by have h := rb 10 (.int .i64 B.s1) rfl; simpa using h
  have cb11 : W.cell? ⟨b17, 11, none⟩ = some (.int .i64 B.s2) := by have h := rb 11 (.int .i64 B.s2) rfl; simpa using h
  have cb12 : W.cell? ⟨b17, 12, none⟩ = some (.int .i64 B.t0) := by have h := rb 12 (.int .i64 B.t0) rfl; simpa using h
  have cb13 : W.cell? ⟨b17, 13, none⟩ = some (.int .i64 B.t1) := by have h := rb 13 (.int .i64 B.t1) rfl; simpa using h
  have cb14 : W.cell? ⟨b17, 14, none⟩ = some (.int .i64 B.t2) := by have h := rb 14 (.int .i64 B.t2) rfl; simpa using h
  have cb15 : W.cell? ⟨b17, 15, none⟩ = some (.int .i64 B.effort) := by have h := rb 15 (.int .i64 B.effort) rfl; simpa using h
  have cb16 : W.cell? ⟨b17, 16, none⟩ = some (.int .i64 B.recover) := by have h := rb 16 (.int .i64 B.recover) rfl; simpa using h
  have ce : W.cell? ⟨b11, 0, none⟩ = some (.int .i64 e.id) := by simp [World.cell?, hc11]
  have z11 := (Array.getElem?_eq_some_iff.1 hc11).1
  have hzw : w4.heap.size ≤ W.heap.size := hE.size
  have hsz : (Un.sumC x B pre) ≤ 262144 ∧ 0 ≤ Un.sumC x B pre := by
   have h1 := Un.sumC_bd x B pre
   have h2 : pre.length ≤ x.sg.length := by rw [hpre]; exact Nat.le_trans (List.length_filter_le _ _) (by simp; omega)
   omega
  have HCL := qh (uo_options x p W (HL.out.kept hBw nlr) (HF.out.kept hBw nlr) (HA.out.kept hBw nlr) HG.out iq hiq e hie B HBK.out hn (Ex.turn_bd HG.out).1 (Ex.turn_bd HG.out).2.1 (Ex.turn_bd HG.out).2.2.1 (Ex.turn_bd HG.out).2.2.2)
  have HNE := qh (HAB.out e hmem hke)
  have HFT := qh (Ex.fit_of (HG.out.oks e hmem))
  have HEX := qh hE
  have HYY := qh hYY
  have HCR := qh (And.intro hP' (And.intro hcs' (And.intro hci' hcq')))
  have HIE := qh hie
  have HBW := qh hBw
  have HY := qh hY
  obtain ⟨S, hS⟩ : ∃ S, Un.sumC x B pre = S := ⟨_, rfl⟩
  rw [hS] at hsz HCR
  have HS := qh hS
  clear rb hE hYY hP' hcs' hci' hcq' hpre hie hke hY hBw hc11 hmem hS
  dsimp only
  gi_wp2
  refine ⟨trivial, CallsIn.mono (callsIn_wide.2 HCL.out) ?_⟩
  rintro _ w5 ⟨⟨v, rfl, ho⟩, hb5⟩
  obtain ⟨r, rest, hrr⟩ : ∃ r rest, Uo.opts x.ta x.tc e B = r :: rest := by
   have h := HNE.out
   unfold Un.none? at h
   cases hh : Uo.opts x.ta x.tc e B with
   | nil => rw [hh] at h; cases h
   | cons r rest => exact ⟨r, rest, rfl⟩
  have hform : Uo.form e r := Uo.opts_form (A := x.ta) (C := x.tc) HFT.out HBK.out (by rw [hrr]; exact List.mem_cons_self ..)
  have HHD := qh (show (Uo.opts x.ta x.tc e B).headD (0, 0, 0, false) = r by rw [hrr]; rfl)
  rw [hrr] at ho
  rcases ho.2 with ⟨_, hz⟩ | ⟨g, cap, cur5, rfl, hgb, hgh, hg1, hg2, hg3, hg4⟩
  ·simp at hz
  have hg5 : ∀ j, j < 4 → w5.cell? ⟨g, j, none⟩ = (Uo.rc r)[j]? := fun j hj => by
   simp only [World.cell?, hgh]
   have h1 : (cur5.toList.take ((r :: rest).length * 4))[j]? = (Uo.rc r)[j]? := by
    rw [hg4, List.flatMap_cons, List.getElem?_append_left (by show j < 4; omega)]
   rw [List.getElem?_take_of_lt (by simp; omega)] at h1
   rw [← h1]; simp
  have wk5 : ∀ j, w5.cell? ⟨w.heap.size, j, none⟩ = (Un.wkC x p)[j]? := fun j => (World.cell?_of_block (hb5.block w.heap.size omg)).trans (wk j)
  have hgl := (Array.getElem?_eq_some_iff.1 hgh).1
  have hs5 : W.heap.size ≤ w5.heap.size := hb5.size
  have q0 : ∀ z : Kit.Wd w5, z.val.cell? ⟨w.heap.size, 0, none⟩ = some (.int .i64 x.wd) := fun z => (z.below.cell (by simp; omega)).trans (wk5 0)
  have q1 : ∀ z : Kit.Wd w5, z.val.cell? ⟨w.heap.size, 1, none⟩ = some (.int .i64 x.dp) := fun z => (z.below.cell (by simp; omega)).trans (wk5 1)
  have q2 : ∀ z : Kit.Wd w5, z.val.cell? ⟨w.heap.size, 2, none⟩ = some (.int .i64 x.ta) := fun z => (z.below.cell (by simp; omega)).trans (wk5 2)
  have q3 : ∀ z : Kit.Wd w5, z.val.cell? ⟨w.heap.size, 3, none⟩ = some (.int .i64 x.tb) := fun z => (z.below.cell (by simp; omega)).trans (wk5 3)
  have q4 : ∀ z : Kit.Wd w5, z.val.cell? ⟨w.heap.size, 4, none⟩ = some (.int .i64 x.tc) := fun z => (z.below.cell (by simp; omega)).trans (wk5 4)
  have q5 : ∀ z : Kit.Wd w5, z.val.cell? ⟨w.heap.size, 5, none⟩ = some (.slice p.aR x.ro.length p.cR) := fun z => (z.below.cell (by simp; omega)).trans (wk5 5)
  have q6 : ∀ z : Kit.Wd w5, z.val.cell? ⟨w.heap.size, 6, none⟩ = some (.int .i64 x.n) := fun z => (z.below.cell (by simp; omega)).trans (wk5 6)
  have q7 : ∀ z : Kit.Wd w5, z.val.cell? ⟨w.heap.size, 7, none⟩ = some (.slice p.aT x.ts.length p.cT) := fun z => (z.below.cell (by simp; omega)).trans (wk5 7)
  have q8 : ∀ z : Kit.Wd w5, z.val.cell? ⟨w.heap.size, 8, none⟩ = some (.slice p.aP x.ps.length p.cP) := fun z => (z.below.cell (by simp; omega)).trans (wk5 8)
  have q9 : ∀ z : Kit.Wd w5, z.val.cell? ⟨w.heap.size, 9, none⟩ = some (.slice p.aS x.ss.length p.cS) := fun z => (z.below.cell (by simp; omega)).trans (wk5 9)
  have q10 : ∀ z : Kit.Wd w5, z.val.cell? ⟨w.heap.size, 10, none⟩ = some (.slice p.aG x.sg.length p.cG) := fun z => (z.below.cell (by simp; omega)).trans (wk5 10)
  have q11 : ∀ z : Kit.Wd w5, z.val.cell? ⟨b11, 0, none⟩ = some (.int .i64 e.id) := fun z => (z.below.cell (by simp; omega)).trans ((hb5.cell z11).trans ce)
  have q12 : ∀ z : Kit.Wd w5, z.val.cell? ⟨g, 0, none⟩ = some (.int .i64 r.1) := fun z => (z.below.cell (by simpa using hgl)).trans (hg5 0 omg)
  have q13 : ∀ z : Kit.Wd w5, z.val.cell? ⟨g, 1, none⟩ = some (.int .i64 r.2.1) := fun z => (z.below.cell (by simpa using hgl)).trans (hg5 1 omg)
  have q14 : ∀ z : Kit.Wd w5, z.val.cell? ⟨g, 2, none⟩ = some (.int .i64 r.2.2.1) := fun z => (z.below.cell (by simpa using hgl)).trans (hg5 2 omg)
  have q15 : ∀ z : Kit.Wd w5, z.val.cell? ⟨g, 3, none⟩ = some (.bool r.2.2.2) := fun z => (z.below.cell (by simpa using hgl)).trans (hg5 3 omg)
  have B5 : Below w.heap.size w w5 := HBW.out.trans (hb5.mono HBW.out.size)
  have A1 := qh (fun z : Kit.Wd w5 => by
   have hBz : Below w.heap.size w z.val := B5.trans (z.below.mono B5.size)
   have h := uo_cost x p z.val (HL.out.kept hBz nlr) (HA.out.kept hBz nlr) HG.out iq hiq e HIE.out r hform
   exact h)
  have HE5 := qh (show Kit.Exc (fun k => k = P) w4 w5 from HEX.out.then hb5)
  have HE5W := qh (show Kit.Exc Y W w5 from (Kit.Exc.refl _ W).then hb5)
  have HCR5 := qh (show w5.heap[P]? = some (.cells cur' 3 (0, 0)) from (hb5.block P omg).trans HCR.out.1)
  generalize hnn : (r :: rest).length = nn at *
  have hnp : 0 < nn := by rw [← hnn]; simp
  have hnp2 : (0 : Int) < (nn : Int) := by omega
  clear hnn ho hgh hg1 hg2 hg3 hg4 hg5 hb5 wk wk5 ce cb0 cb1 cb2 cb3 cb4 cb5 cb6 cb7 cb8 cb9 cb10 cb11 cb12 cb13 cb14 cb15 cb16 B5 HCL hform
  gi_upto_region 33 with fail
  refine Kit.wpIn_region_reads (by rintro ⟨_, _, h⟩; exact h) (by kernel_rfl) (by kernel_rfl) (by kernel_rfl) ?_
  (repeat (go_big_quiet_step (first | (with_reducible exact Kit.calls_cls _ (A1.out _)))))
  refine wpQuiet_nil ?_
  intro z
  have HEZ := qh (show Kit.Exc (fun k => k = P) w4 z.val from HE5.out.then z.below)
  have HEZW := qh (show Kit.Exc Y W z.val from HE5W.out.then z.below)
  have HCRZ := qh (show z.val.heap[P]? = some (.cells cur' 3 (0, 0)) from (z.below.block P omg).trans HCR5.out)
  clear q0 q1 q2 q3 q4 q5 q6 q7 q8 q9 q10 q11 q12 q13 q14 q15 A1
  generalize z.val = Z at *
  have hcb := Un.cost_bd e r
  generalize hcst : Un.cost e r = cst at *
  have HCS := qh hcst
  clear hcst
  have c15 : Z.cell? ⟨b15, 0, none⟩ = some (.slice (some ⟨P, 0, none⟩) n n) := HEZ.out.cell H15.out p15 z15
  have c16 : Z.cell? ⟨b16, 0, none⟩ = some (.int .i64 i) := HEZ.out.cell H16.out p16 z16
  have cP : Z.cell? ⟨P, i, none⟩ = some (.int .i64 S) := by simp only [World.cell?, HCRZ.out]; exact HCR.out.2.2.1
  have fP : Z.frozen? ⟨P, i, none⟩ = false := by simp [World.frozen?, HCRZ.out]
  have hin : (i : Int) < (n : Int) := by omega
  gi_wp2
  refine ⟨Y, HEZW.out.trans ((Kit.Exc.refl _ _).setCell (p := ⟨P, _, none⟩) (.inl ((HYY.out P).2 rfl)) _), fun k hk => ⟨.inl hk, by have h1 := HY.out k hk; have h2 := HEZW.out.size; simp [World.setCell]; omega⟩,
   HEZ.out.setCell (p := ⟨P, _, none⟩) (.inl rfl) _, HYY.out, _, heap_setCell_same _ P _ _ _ _ HCRZ.out, by simpa using HCR.out.2.1, ?_, fun q hq => ?_⟩
  ·have : i < cur'.size := by rw [HCR.out.2.1]; exact hi
   rw [Array.getElem?_setIfInBounds_self_of_lt this, Un.sumC_snoc, HHD.out, HS.out, HCS.out]
  ·rw [Array.getElem?_setIfInBounds_ne (fun e => hq e.symm)]
   exact HCR.out.2.2.2 q hq
 case stop => intro D c pre Y W _ _ _ h; exact h.elim
 case done =>
  rintro D xs Y W hD hYD rfl ⟨hE, hYY, cur', h1, h2, h3, h4⟩ hK
  exact HQ.out D W cur' hD hK hE h1 h2 h3 h4
end Go.Proofs.YtbhgogiaaljclaaGreatDoor
