/- Walks: the library's stable sort at one type: swapRange, rotate. Walks: the library's stable sort at one type: symMerge, a left part of one. Walks: the library's stable sort at one type: symMerge, a right part of one. Walks: the library's stable sort at one type: symMerge, the right part greater. Walks: the library's stable sort at one type: symMerge, the left part greater. Walks: the library's stable sort at one type: symMerge, stable. Walks: the library's stable sort at one type: SortStableFunc, at a row of one's own. Walks: the library's stable sort at one type: laid in the program. The library's slices.SortFunc, laid at a slice of structs: each body, each type, compared by the kernel. -/
import Derived.Test.YtedolbjgdedoaaaGreatDoorProg
import Derived.Test.YtedolbjgdedoaaaGreatDoorKxa
import Derived.Shelf.SlSortCmp.KitK
import Derived.Deep.LoopGhost
import Derived.Deep.CutRange
import Derived.Shelf.SlSortCmp.PdqK
import Derived.Test.YtedolbjgdedoaaaGreatDoorKixz
import Derived.Shelf.SlSortCmp.WholeK
set_option linter.unusedSimpArgs false
set_option linter.unusedVariables false
set_option maxRecDepth 1000000
set_option maxHeartbeats 8000000
namespace Go.Proofs.YtedolbjgdedoaaaGreatDoor
open Go.Shelf Go.RowKit Go.Lib Go.Sort Go.Proofs
structure Sts.Lay (P : Program) (k : Nat) : Prop where
 mixed : P.follows .mixedOrders = true
 fSw : P.funcs[182]? = some Tryz.f182
 fRo : P.funcs[168]? = some Tryz.f168
 fSy : P.funcs[139]? = some Tryz.f139
 fSt : P.funcs[105]? = some Tryz.f105
 t0 : P.underlying 0 = some (TypeDesc.tuple #[])
 a0 : ∀ w, (isAgg 0).run P w = .ok false w
 z0 : ∀ w, (Go.sizeOf 0).run P w = .ok 1 w
 v0 : ∀ w, (zeroValue 0).run P w = .ok (Value.tuple #[]) w
 t3 : P.underlying 3 = some (TypeDesc.int IntKind.i64)
 a3 : ∀ w, (isAgg 3).run P w = .ok false w
 z3 : ∀ w, (Go.sizeOf 3).run P w = .ok 1 w
 v3 : ∀ w, (zeroValue 3).run P w = .ok (Value.int IntKind.i64 0) w
 t4 : P.underlying 4 = some (TypeDesc.bool)
 a4 : ∀ w, (isAgg 4).run P w = .ok false w
 z4 : ∀ w, (Go.sizeOf 4).run P w = .ok 1 w
 v4 : ∀ w, (zeroValue 4).run P w = .ok (Value.bool false) w
 t39 : P.underlying 190 = some (TypeDesc.int IntKind.u64)
 a39 : ∀ w, (isAgg 190).run P w = .ok false w
 z39 : ∀ w, (Go.sizeOf 190).run P w = .ok 1 w
 v39 : ∀ w, (zeroValue 190).run P w = .ok (Value.int IntKind.u64 0) w
 t22 : P.underlying 30 = some (TypeDesc.slice 60)
 a22 : ∀ w, (isAgg 30).run P w = .ok false w
 z22 : ∀ w, (Go.sizeOf 30).run P w = .ok 1 w
 v22 : ∀ w, (zeroValue 30).run P w = .ok (Value.slice none 0 0) w
 t25 : P.underlying 137 = some (TypeDesc.func #[60, 60] #[3] false)
 a25 : ∀ w, (isAgg 137).run P w = .ok false w
 z25 : ∀ w, (Go.sizeOf 137).run P w = .ok 1 w
 v25 : ∀ w, (zeroValue 137).run P w = .ok (Value.nilFunc) w
 aE : ∀ w, (isAgg 60).run P w = .ok true w
 zE : ∀ w, (Go.sizeOf 60).run P w = .ok k w
theorem Sts.eSw {P : Program} {k : Nat} (L : Sts.Lay P k) : ∀ args w, (callFunc 182 args).run P w = .ok (.enter 182 args) w := enters_of L.fSw (by kernel_rfl) rfl
theorem Sts.eRo {P : Program} {k : Nat} (L : Sts.Lay P k) : ∀ args w, (callFunc 168 args).run P w = .ok (.enter 168 args) w := enters_of L.fRo (by kernel_rfl) rfl
theorem Sts.eSy {P : Program} {k : Nat} (L : Sts.Lay P k) : ∀ args w, (callFunc 139 args).run P w = .ok (.enter 139 args) w := enters_of L.fSy (by kernel_rfl) rfl
theorem Sts.eSt {P : Program} {k : Nat} (L : Sts.Lay P k) : ∀ args w, (callFunc 105 args).run P w = .ok (.enter 105 args) w := enters_of L.fSt (by kernel_rfl) rfl
theorem Sts.swapRange {P : Program} {α : Type} [Inhabited α] {k : Nat} (L : Sts.Lay P k) (enc : α → List Value) (g : Nat) (cb : Array Value) (blk off cap : Nat) (d0 d : Array α) (w0 w : World) (N : Nat)
  (R : RowK enc k w0 blk off d0) (h0 : d0.size = N) (hs : d.size = N) (S : SWK enc k w0 blk off d w) (hsz : N < 4611686018427387904) (p q n : Nat) (hpq : p + n ≤ q) (hq : q + n ≤ N) :
  Calls P 182 #[.slice (some ⟨blk, off, none⟩) N cap, .int .i64 p, .int .i64 q, .int .i64 n, .func (.func g) #[] cb] w fun e w' => e = .returned (.tuple #[]) ∧ ∃ d', d'.size = N ∧ Kst.Idx d d' (Kst.swf p q n) ∧ PermIn p (q + n) d d' ∧ SWK enc k w0 blk off d' w' := by
 obtain ⟨mixed, -, -, -, -, t0, a0, z0, v0, t3, a3, z3, v3, t4, a4, z4, v4, t39, a39, z39, v39, t22, a22, z22, v22, t25, a25, z25, v25, aE, zE⟩ := id L
 have u0 := run_underlying t0; have u3 := run_underlying t3; have u4 := run_underlying t4; have u39 := run_underlying t39; have u22 := run_underlying t22; have u25 := run_underlying t25
 have eSw := Sts.eSw L
 have eRo := Sts.eRo L
 have eSy := Sts.eSy L
 have eSt := Sts.eSt L
 have FG := L.fSw
 have S0 : Aside (SWK enc k w0 blk off d w) := S
 clear S
 go_enter FG, Tryz.ntmps182
 go_wp2
 go_loopg [10] n (fun kx s10 wr => ∃ (i : Nat) (dk : Array α), s10 = .int .i64 i ∧ i ≤ n ∧ n - i ≤ kx ∧ dk.size = N ∧ Aside (SWK enc k w0 blk off dk wr) ∧ Aside (Kst.Idx d dk (Kst.swf p q i)) ∧ Aside (PermIn p (q + n) d dk))
 case atStart => exact ⟨0, d, rfl, Nat.zero_le _, by omega, hs, S0, (⟨rfl, fun k => by unfold Kst.swf; rw [if_neg omg, if_neg omg]⟩ : Kst.Idx d d (Kst.swf p q 0)), permIn_refl d p (q + n)⟩
 case round =>
  clear S0
  obtain ⟨i, dk, rfl, hi, hkx, hds, S1, HI, HP⟩ := hrel
  by_cases hlt : i < n
  ·have hltz : (i : Int) < (n : Int) := by omega
   go_wp2_with fail
   have ea44 : ((p : Int) + (i : Int)).toNat = p + i := by omega
   have pa44 : (0 : Int) ≤ (p : Int) + (i : Int) := by omega
   have ba44 : (p : Int) + (i : Int) < (N : Int) := by omega
   have ra44 : IntKind.i64.wrap ((p : Int) + (i : Int)) = (p : Int) + (i : Int) := by rw [IntKind.wrap_i64]; omega
   have ec44 : ((q : Int) + (i : Int)).toNat = q + i := by omega
   have pc44 : (0 : Int) ≤ (q : Int) + (i : Int) := by omega
   have bc44 : (q : Int) + (i : Int) < (N : Int) := by omega
   have rc44 : IntKind.i64.wrap ((q : Int) + (i : Int)) = (q : Int) + (i : Int) := by rw [IntKind.wrap_i64]; omega
   have S2 : Aside (SWK enc k w0 blk off (swp dk (p + i) (q + i)) ((wr.drew.setCells blk (off + (p + i) * k) (enc dk[q + i]!)).setCells blk (off + (q + i) * k) (enc dk[p + i]!))) := S1.out.swapped R (p + i) (q + i) omg omg
   have l44a := S1.out.ld1 R omg P (p + i) omg
   have l44b := S1.out.ld1 R omg P (q + i) omg
   have s44a := S1.out.st1 R omg P (p + i) omg dk[q + i]!
   have s44b := S1.out.st2 R omg P (p + i) (q + i) omg omg dk[q + i]! dk[p + i]!
   have n44a : (enc dk[p + i]!).length = k := R.hk _
   have n44b : (enc dk[q + i]!).length = k := R.hk _
   generalize enc dk[p + i]! = cI44 at S2 l44a s44b n44a
   generalize enc dk[q + i]! = cJ44 at S2 l44b s44a s44b n44b
   clear S1
   go_wp2_with fail
   go_big_region_o
   clear l44a l44b s44a s44b
   generalize (wr.drew.setCells blk (off + (p + i) * k) cJ44).setCells blk (off + (q + i) * k) cI44 = w2 at S2 ⊢
   go_wp2
   go_roundg (n - (i + 1))
   case measure => omega
   case rel => exact ⟨i + 1, swp dk (p + i) (q + i), by first | rfl | go_num | simp, by omega, Nat.le_refl _, by rw [size_swp]; exact hds, S2, (HI.out.trans (Kst.Idx.swap omg omg omg)).congr (fun k => Kst.swf_step p q i omg k), permIn_trans _ _ _ _ _ HP.out (swp_permIn dk p (q + n) (p + i) (q + i) omg omg omg omg omg)⟩
  ·obtain rfl : i = n := by omega
   go_wp2
   go_end0
   exact ⟨rfl, dk, hds, HI.out, HP.out, S1.out⟩
theorem Sts.swapRangeZ {P : Program} {α : Type} [Inhabited α] {k : Nat} (L : Sts.Lay P k) (enc : α → List Value) (g : Nat) (cb : Array Value) (blk off cap : Nat) (d0 d : Array α) (w0 w : World) (N : Nat)
  (R : RowK enc k w0 blk off d0) (h0 : d0.size = N) (hs : d.size = N) (S : SWK enc k w0 blk off d w) (hsz : N < 4611686018427387904) (p q n : Nat) (pz qz nz : Int) (e1 : pz = p) (e2 : qz = q) (e3 : nz = n) (hpq : p + n ≤ q) (hq : q + n ≤ N) :
  Calls P 182 #[.slice (some ⟨blk, off, none⟩) N cap, .int .i64 pz, .int .i64 qz, .int .i64 nz, .func (.func g) #[] cb] w fun e w' => e = .returned (.tuple #[]) ∧ ∃ d', d'.size = N ∧ Kst.Idx d d' (Kst.swf p q n) ∧ PermIn p (q + n) d d' ∧ SWK enc k w0 blk off d' w' := by
 subst e1 e2 e3
 exact Sts.swapRange L enc g cb blk off cap d0 d w0 w N R h0 hs S hsz p q n hpq hq
theorem Sts.rotate {P : Program} {α : Type} [Inhabited α] {k : Nat} (L : Sts.Lay P k) (enc : α → List Value) (g : Nat) (cb : Array Value) (blk off cap : Nat) (d0 d : Array α) (w0 w : World) (N : Nat)
  (R : RowK enc k w0 blk off d0) (h0 : d0.size = N) (hs : d.size = N) (S : SWK enc k w0 blk off d w) (hsz : N < 4611686018427387904) (a m b : Nat) (ham : a < m) (hmb : m < b) (hb : b ≤ N) :
  Calls P 168 #[.slice (some ⟨blk, off, none⟩) N cap, .int .i64 a, .int .i64 m, .int .i64 b, .func (.func g) #[] cb] w fun e w' => e = .returned (.tuple #[]) ∧ ∃ d', d'.size = N ∧ Kst.Idx d d' (Kst.rotf a m b) ∧ PermIn a b d d' ∧ SWK enc k w0 blk off d' w' := by
 have HSW : Aside _ := fun (d : Array α) (w : World) (S : SWK enc k w0 blk off d w) (h : d.size = N) (p q n : Nat) (pz qz nz : Int) (e1 : pz = p) (e2 : qz = q) (e3 : nz = n) (h1 : p + n ≤ q) (h2 : q + n ≤ N) => Sts.swapRangeZ L enc g cb blk off cap d0 d w0 w N R h0 h S hsz p q n pz qz nz e1 e2 e3 h1 h2
 obtain ⟨mixed, -, -, -, -, t0, a0, z0, v0, t3, a3, z3, v3, t4, a4, z4, v4, t39, a39, z39, v39, t22, a22, z22, v22, t25, a25, z25, v25, aE, zE⟩ := id L
 have u0 := run_underlying t0; have u3 := run_underlying t3; have u4 := run_underlying t4; have u39 := run_underlying t39; have u22 := run_underlying t22; have u25 := run_underlying t25
 have eSw := Sts.eSw L
 have eRo := Sts.eRo L
 have eSy := Sts.eSy L
 have eSt := Sts.eSt L
 have FG := L.fRo
 have S0 : Aside (SWK enc k w0 blk off d w) := S
 clear S
 go_enter FG, Tryz.ntmps168
 go_wp2
 go_loopg [10, 11] (b - a) (fun kx s10 s11 wr => ∃ (i j : Nat) (dk : Array α), s10 = .int .i64 i ∧ s11 = .int .i64 j ∧ 0 < i ∧ 0 < j ∧ i + j ≤ kx ∧ a + i ≤ m ∧ m + j ≤ b ∧ dk.size = N ∧ Aside (SWK enc k w0 blk off dk wr) ∧ Aside (∀ d', Kst.Idx dk d' (Kst.rotf (m - i) m (m + j)) → Kst.Idx d d' (Kst.rotf a m b)) ∧ Aside (PermIn a b d dk))
 case atStart => exact ⟨m - a, b - m, d, by first | (congr 1; omega) | simp, by first | (congr 1; omega) | simp, by omega, by omega, by omega, by omega, by omega, hs, S0, (fun d' h => by rw [show m - (m - a) = a by omega, show m + (b - m) = b by omega] at h; exact h), permIn_refl d a b⟩
 case round =>
  clear S0
  obtain ⟨i, j, dk, rfl, rfl, hi0, hj0, hkx, hai, hjb, hds, S1, HI, HP⟩ := hrel
  rcases Nat.lt_trichotomy i j with hij | hij | hij
  ·have q0 : ((i : Int) != (j : Int)) = true := by simp; omega
   have q1 : decide ((j : Int) < (i : Int)) = false := by simp; omega
   go_wp2_with (go_at_call 182; refine (HSW.out dk wr S1.out omg (m - i) (m + j - i) i ((m : Int) - (i : Int)) ((m : Int) + (j : Int) - (i : Int)) (i : Int) omg omg rfl omg omg).mono ?_; rintro _ w2 ⟨rfl, d2, h1, h2, h3, h4⟩; have S2 : Aside _ := h4; have H2 : Aside (Kst.Idx dk d2 (Kst.swf (m - i) (m + j - i) i)) := h2; have H3 : Aside _ := h3; clear h2 h3 h4)
   go_roundg (i + (j - i))
   case measure => omega
   case rel => exact ⟨i, j - i, d2, rfl, by first | rfl | (congr 1; omega), hi0, by omega, Nat.le_refl _, hai, by omega, by omega, S2, (fun d' h => HI.out d' ((H2.out.trans h).congr (fun k => Kst.rot_lt m i j k omg hij hi0))), permIn_trans _ _ _ _ _ HP.out (permIn_mono dk d2 _ _ a b omg omg omg H3.out)⟩
  ·subst hij
   have q0 : ((i : Int) != (i : Int)) = false := by simp
   go_wp2_with (go_at_call 182; refine (HSW.out dk wr S1.out omg (m - i) m i ((m : Int) - (i : Int)) (m : Int) (i : Int) omg rfl rfl omg omg).mono ?_; rintro _ w2 ⟨rfl, d2, h1, h2, h3, h4⟩; have S2 : Aside _ := h4; have H2 : Aside (Kst.Idx dk d2 (Kst.swf (m - i) m i)) := h2; have H3 : Aside _ := h3; clear h2 h3 h4)
   go_end0
   exact ⟨rfl, d2, by omega, HI.out d2 (H2.out.congr (fun k => Kst.rot_eq m i k omg hi0)), permIn_trans _ _ _ _ _ HP.out (permIn_mono dk d2 _ _ a b omg omg omg H3.out), S2.out⟩
  ·have q0 : ((i : Int) != (j : Int)) = true := by simp; omega
   have q1 : decide ((j : Int) < (i : Int)) = true := by simp; omega
   go_wp2_with (go_at_call 182; refine (HSW.out dk wr S1.out omg (m - i) m j ((m : Int) - (i : Int)) (m : Int) (j : Int) omg rfl rfl omg omg).mono ?_; rintro _ w2 ⟨rfl, d2, h1, h2, h3, h4⟩; have S2 : Aside _ := h4; have H2 : Aside (Kst.Idx dk d2 (Kst.swf (m - i) m j)) := h2; have H3 : Aside _ := h3; clear h2 h3 h4)
   go_roundg (i - j + j)
   case measure => omega
   case rel => exact ⟨i - j, j, d2, by first | rfl | (congr 1; omega), rfl, by omega, hj0, Nat.le_refl _, by omega, hjb, by omega, S2, (fun d' h => HI.out d' ((H2.out.trans h).congr (fun k => Kst.rot_gt m i j k omg hij hj0))), permIn_trans _ _ _ _ _ HP.out (permIn_mono dk d2 _ _ a b omg omg omg H3.out)⟩
def Sts.SmQ {α : Type} [Inhabited α] (enc : α → List Value) (k : Nat) (w0 : World) (blk off N : Nat) (cf : α → α → Int) (ix : α → Nat) (a b : Nat) (d : Array α) (e : Ending) (w' : World) : Prop :=
 e = .returned (.tuple #[]) ∧ ∃ d', d'.size = N ∧ PermIn a b d d' ∧ SortedIn (Kst.stl cf ix) a b d' ∧ SWK enc k w0 blk off d' w'
theorem Sts.sm1 {P : Program} {α : Type} [Inhabited α] {k : Nat} (L : Sts.Lay P k) (enc : α → List Value) (g : Nat) (cb : Array Value) (blk off cap : Nat) (d0 : Array α) (w0 : World) (N : Nat)
  (R : RowK enc k w0 blk off d0) (h0 : d0.size = N) (hsz : N < 4611686018427387904)
  (cf : α → α → Int) (ix : α → Nat) (eg : ∀ args w, (callFunc g args).run P w = .ok (.enter g args) w) (hcmp : CmpLays P g cb enc k cf blk off N w0) (hcf : Kst.Cmp cf) (a m b : Nat) (d : Array α) (w : World) (ham : a < m) (hmb : m < b) (hbN : b ≤ N) (hd : d.size = N) (S : SWK enc k w0 blk off d w) (T : Kst.Two cf ix d a m b) (hm1 : m = a + 1) :
  Calls P 139 #[.slice (some ⟨blk, off, none⟩) N cap, .int .i64 a, .int .i64 m, .int .i64 b, .func (.func g) #[] cb] w (Sts.SmQ enc k w0 blk off N cf ix a b d) := by
 have HC : Aside _ := hcmp
 have HT : Aside (Kst.Two cf ix d a m b) := T
 have HCF : Aside (Kst.Cmp cf) := hcf
 have S0 : Aside (SWK enc k w0 blk off d w) := S
 clear S T hcmp hcf
 obtain ⟨mixed, -, -, -, -, t0, a0, z0, v0, t3, a3, z3, v3, t4, a4, z4, v4, t39, a39, z39, v39, t22, a22, z22, v22, t25, a25, z25, v25, aE, zE⟩ := id L
 have u0 := run_underlying t0; have u3 := run_underlying t3; have u4 := run_underlying t4; have u39 := run_underlying t39; have u22 := run_underlying t22; have u25 := run_underlying t25
 have eSw := Sts.eSw L
 have eRo := Sts.eRo L
 have eSy := Sts.eSy L
 have eSt := Sts.eSt L
 have FG := L.fSy
 have q0 : ((m : Int) - (a : Int) == 1) = true := by simp; omega
 have hm2 : m ≤ a + 1 := by omega
 have HT1 : Aside (Kst.Two cf ix d a (a + 1) b) := by rw [← hm1]; exact HT.out
 clear hm1
 go_enter FG, Tryz.ntmps139
 go_wp2_with fail
 go_loopg [10, 11] (b - m) (fun kx s10 s11 wr => ∃ (i j : Nat), s10 = .int .i64 i ∧ s11 = .int .i64 j ∧ m ≤ i ∧ i ≤ j ∧ j ≤ b ∧ j - i ≤ kx ∧ Aside (SWK enc k w0 blk off d wr) ∧ Aside (i = m ∨ cf d[i - 1]! d[a]! < 0) ∧ Aside (j = b ∨ 0 ≤ cf d[j]! d[a]!))
 case atStart => exact ⟨m, b, rfl, rfl, Nat.le_refl _, by omega, Nat.le_refl _, by omega, S0, (Or.inl rfl : m = m ∨ _), (Or.inl rfl : b = b ∨ _)⟩
 case round =>
  clear S0
  obtain ⟨i, j, rfl, rfl, hi, hij, hjb, hkx, S1, HI, HJ⟩ := hrel
  by_cases hlt : i < j
  ·have hltz : (i : Int) < (j : Int) := by omega
   by_cases hL : cf d[(i + j) / 2]! d[a]! < 0
   ·have ea61 : (((i : Int) + (j : Int)) / 2).toNat = (i + j) / 2 := by omega
    have pa61 : (0 : Int) ≤ ((i : Int) + (j : Int)) / 2 := by omega
    have ba61 : ((i : Int) + (j : Int)) / 2 < (N : Int) := by omega
    have ra61 : IntKind.i64.wrap (((i : Int) + (j : Int)) / 2) = ((i : Int) + (j : Int)) / 2 := by rw [IntKind.wrap_i64]; omega
    have ec61 : ((a : Int)).toNat = a := by omega
    have pc61 : (0 : Int) ≤ (a : Int) := by omega
    have bc61 : (a : Int) < (N : Int) := by omega
    have rc61 : IntKind.i64.wrap ((a : Int)) = (a : Int) := by rw [IntKind.wrap_i64]; omega
    obtain ⟨x61, hx61⟩ : ∃ x, x = d[(i + j) / 2]! := ⟨_, rfl⟩
    obtain ⟨y61, hy61⟩ : ∃ x, x = d[a]! := ⟨_, rfl⟩
    have l61a := S1.out.ld R omg P ((i + j) / 2) omg
    have l61b := S1.out.ld R omg P (a) omg
    rw [← hx61] at l61a
    rw [← hy61] at l61b
    have hc61 := S1.out.cmp HC.out omg x61 y61
    have hv61 : cf x61 y61 < 0 := by rw [hx61, hy61]; exact hL
    have hd61 : decide (cf x61 y61 < 0) = true := decide_eq_true hv61
    clear hx61 hy61
    go_wp2_with fail
    go_quiet_grown (first | (go_at_fn g; refine Calls.grown_of (hc61 _ _)))
    have S2 : Aside (SWK enc k w0 blk off d (grow (wr.drewN nq) osq)) := S1.out.grown nq osq
    clear l61a l61b hc61 S1
    generalize grow (wr.drewN nq) osq = w2 at S2 ⊢
    clear nq osq
    go_wp2_with fail
    go_roundg (j - ((i + j) / 2 + 1))
    case measure => omega
    case rel => exact ⟨(i + j) / 2 + 1, j, by rw [show ((i : Int) + (j : Int)) / 2 + 1 = (((i + j) / 2 + 1 : Nat) : Int) by omega], rfl, by omega, by omega, hjb, Nat.le_refl _, S2, (Or.inr (by rw [Nat.add_sub_cancel]; exact hL) : (i + j) / 2 + 1 = m ∨ cf d[(i + j) / 2 + 1 - 1]! d[a]! < 0), HJ⟩
   ·have ea62 : (((i : Int) + (j : Int)) / 2).toNat = (i + j) / 2 := by omega
    have pa62 : (0 : Int) ≤ ((i : Int) + (j : Int)) / 2 := by omega
    have ba62 : ((i : Int) + (j : Int)) / 2 < (N : Int) := by omega
    have ra62 : IntKind.i64.wrap (((i : Int) + (j : Int)) / 2) = ((i : Int) + (j : Int)) / 2 := by rw [IntKind.wrap_i64]; omega
    have ec62 : ((a : Int)).toNat = a := by omega
    have pc62 : (0 : Int) ≤ (a : Int) := by omega
    have bc62 : (a : Int) < (N : Int) := by omega
    have rc62 : IntKind.i64.wrap ((a : Int)) = (a : Int) := by rw [IntKind.wrap_i64]; omega
    obtain ⟨x62, hx62⟩ : ∃ x, x = d[(i + j) / 2]! := ⟨_, rfl⟩
    obtain ⟨y62, hy62⟩ : ∃ x, x = d[a]! := ⟨_, rfl⟩
    have l62a := S1.out.ld R omg P ((i + j) / 2) omg
    have l62b := S1.out.ld R omg P (a) omg
    rw [← hx62] at l62a
    rw [← hy62] at l62b
    have hc62 := S1.out.cmp HC.out omg x62 y62
    have hv62 : ¬ cf x62 y62 < 0 := by rw [hx62, hy62]; exact hL
    have hd62 : decide (cf x62 y62 < 0) = false := decide_eq_false hv62
    clear hx62 hy62
    go_wp2_with fail
    go_quiet_grown (first | (go_at_fn g; refine Calls.grown_of (hc62 _ _)))
    have S2 : Aside (SWK enc k w0 blk off d (grow (wr.drewN nq) osq)) := S1.out.grown nq osq
    clear l62a l62b hc62 S1
    generalize grow (wr.drewN nq) osq = w2 at S2 ⊢
    clear nq osq
    go_wp2_with fail
    go_roundg ((i + j) / 2 - i)
    case measure => omega
    case rel => exact ⟨i, (i + j) / 2, rfl, by rw [show ((i : Int) + (j : Int)) / 2 = (((i + j) / 2 : Nat) : Int) by omega], by omega, by omega, by omega, Nat.le_refl _, S2, HI, (Or.inr omg : (i + j) / 2 = b ∨ 0 ≤ cf d[(i + j) / 2]! d[a]!)⟩
  ·obtain rfl : i = j := by omega
   have HP0 : Aside (PermIn a b d d) := permIn_refl d a b
   have HX0 : Aside (Kst.Idx d d (Kst.rotf a (a + 1) (a + 1 + 0))) := (Kst.Idx.refl d).congr (fun k => (Kst.rot_id a (a + 1) (a + 1 + 0) k (.inr rfl)).symm)
   go_wp2_with fail
   go_loopg [13] (i - a) (fun kx s13 wr => ∃ (n : Nat) (dk : Array α), s13 = .int .i64 ((a : Int) + (n : Int)) ∧ a + 1 + n ≤ i ∧ i - (a + 1 + n) ≤ kx ∧ dk.size = N ∧ Aside (SWK enc k w0 blk off dk wr) ∧ Aside (Kst.Idx d dk (Kst.rotf a (a + 1) (a + 1 + n))) ∧ Aside (PermIn a b d dk))
   case atStart => exact ⟨0, d, by simp, by omega, by omega, hd, S1, HX0, HP0⟩
   case round =>
    clear S1 HX0 HP0
    obtain ⟨n, dk, rfl, hn, hkn, hds, S1, HX, HP⟩ := hrel
    by_cases hlt2 : a + n < i - 1
    ·have hlz : (a : Int) + (n : Int) < (i : Int) - 1 := by omega
     go_wp2_with fail
     have ea63 : ((a : Int) + (n : Int)).toNat = a + n := by omega
     have pa63 : (0 : Int) ≤ (a : Int) + (n : Int) := by omega
     have ba63 : (a : Int) + (n : Int) < (N : Int) := by omega
     have ra63 : IntKind.i64.wrap ((a : Int) + (n : Int)) = (a : Int) + (n : Int) := by rw [IntKind.wrap_i64]; omega
     have ec63 : ((a : Int) + (n : Int) + 1).toNat = a + n + 1 := by omega
     have pc63 : (0 : Int) ≤ (a : Int) + (n : Int) + 1 := by omega
     have bc63 : (a : Int) + (n : Int) + 1 < (N : Int) := by omega
     have rc63 : IntKind.i64.wrap ((a : Int) + (n : Int) + 1) = (a : Int) + (n : Int) + 1 := by rw [IntKind.wrap_i64]; omega
     have S2 : Aside (SWK enc k w0 blk off (swp dk (a + n) (a + n + 1)) ((wr.drew.setCells blk (off + (a + n) * k) (enc dk[a + n + 1]!)).setCells blk (off + (a + n + 1) * k) (enc dk[a + n]!))) := S1.out.swapped R (a + n) (a + n + 1) omg omg
     have l63a := S1.out.ld1 R omg P (a + n) omg
     have l63b := S1.out.ld1 R omg P (a + n + 1) omg
     have s63a := S1.out.st1 R omg P (a + n) omg dk[a + n + 1]!
     have s63b := S1.out.st2 R omg P (a + n) (a + n + 1) omg omg dk[a + n + 1]! dk[a + n]!
     have n63a : (enc dk[a + n]!).length = k := R.hk _
     have n63b : (enc dk[a + n + 1]!).length = k := R.hk _
     generalize enc dk[a + n]! = cI63 at S2 l63a s63b n63a
     generalize enc dk[a + n + 1]! = cJ63 at S2 l63b s63a s63b n63b
     clear S1
     go_wp2_with fail
     go_big_region_o
     clear l63a l63b s63a s63b
     generalize (wr.drew.setCells blk (off + (a + n) * k) cJ63).setCells blk (off + (a + n + 1) * k) cI63 = w2 at S2 ⊢
     go_wp2
     go_roundg (i - (a + 1 + (n + 1)))
     case measure => omega
     case rel => exact ⟨n + 1, swp dk (a + n) (a + n + 1), by first | (congr 1; omega) | (simp; omega), by omega, Nat.le_refl _, by rw [size_swp]; exact hds, S2, (HX.out.trans (Kst.Idx.swap omg omg omg)).congr (fun k => Kst.rot_right a n k), permIn_trans _ _ _ _ _ HP.out (swp_permIn dk a b (a + n) (a + n + 1) omg omg omg omg omg)⟩
    ·have hlz : ¬ (a : Int) + (n : Int) < (i : Int) - 1 := by omega
     have he : a + 1 + n = i := by omega
     rw [he] at HX
     go_wp2
     refine bodyPost_ret (results_none rfl _ _ _) rfl ?_
     exact ⟨rfl, dk, hds, HP.out, Kst.one_left HCF.out HT1.out omg omg hjb (by rcases HI.out with h | h; exact .inl omg; exact .inr h) (by rcases HJ.out with h | h; exact .inl h; exact .inr omg) HX.out, S1.out⟩
theorem Sts.sm2 {P : Program} {α : Type} [Inhabited α] {k : Nat} (L : Sts.Lay P k) (enc : α → List Value) (g : Nat) (cb : Array Value) (blk off cap : Nat) (d0 : Array α) (w0 : World) (N : Nat)
  (R : RowK enc k w0 blk off d0) (h0 : d0.size = N) (hsz : N < 4611686018427387904)
  (cf : α → α → Int) (ix : α → Nat) (eg : ∀ args w, (callFunc g args).run P w = .ok (.enter g args) w) (hcmp : CmpLays P g cb enc k cf blk off N w0) (hcf : Kst.Cmp cf) (a m b : Nat) (d : Array α) (w : World) (ham : a < m) (hmb : m < b) (hbN : b ≤ N) (hd : d.size = N) (S : SWK enc k w0 blk off d w) (T : Kst.Two cf ix d a m b) (hma : a + 2 ≤ m) (hb1 : b = m + 1) :
  Calls P 139 #[.slice (some ⟨blk, off, none⟩) N cap, .int .i64 a, .int .i64 m, .int .i64 b, .func (.func g) #[] cb] w (Sts.SmQ enc k w0 blk off N cf ix a b d) := by
 have HC : Aside _ := hcmp
 have HT : Aside (Kst.Two cf ix d a m b) := T
 have HCF : Aside (Kst.Cmp cf) := hcf
 have S0 : Aside (SWK enc k w0 blk off d w) := S
 clear S T hcmp hcf
 obtain ⟨mixed, -, -, -, -, t0, a0, z0, v0, t3, a3, z3, v3, t4, a4, z4, v4, t39, a39, z39, v39, t22, a22, z22, v22, t25, a25, z25, v25, aE, zE⟩ := id L
 have u0 := run_underlying t0; have u3 := run_underlying t3; have u4 := run_underlying t4; have u39 := run_underlying t39; have u22 := run_underlying t22; have u25 := run_underlying t25
 have eSw := Sts.eSw L
 have eRo := Sts.eRo L
 have eSy := Sts.eSy L
 have eSt := Sts.eSt L
 have FG := L.fSy
 have q0 : ((m : Int) - (a : Int) == 1) = false := by simp; omega
 have q1 : ((b : Int) - (m : Int) == 1) = true := by simp; omega
 have hb2 : b ≤ m + 1 := by omega
 have HT1 : Aside (Kst.Two cf ix d a m (m + 1)) := by rw [← hb1]; exact HT.out
 clear hb1
 go_enter FG, Tryz.ntmps139
 go_wp2_with fail
 go_loopg [14, 15] (m - a) (fun kx s14 s15 wr => ∃ (i j : Nat), s14 = .int .i64 i ∧ s15 = .int .i64 j ∧ a ≤ i ∧ i ≤ j ∧ j ≤ m ∧ j - i ≤ kx ∧ Aside (SWK enc k w0 blk off d wr) ∧ Aside (i = a ∨ 0 ≤ cf d[m]! d[i - 1]!) ∧ Aside (j = m ∨ cf d[m]! d[j]! < 0))
 case atStart => exact ⟨a, m, rfl, rfl, Nat.le_refl _, by omega, Nat.le_refl _, by omega, S0, (Or.inl rfl : a = a ∨ _), (Or.inl rfl : m = m ∨ _)⟩
 case round =>
  clear S0
  obtain ⟨i, j, rfl, rfl, hi, hij, hjb, hkx, S1, HI, HJ⟩ := hrel
  by_cases hlt : i < j
  ·have hltz : (i : Int) < (j : Int) := by omega
   by_cases hL : cf d[m]! d[(i + j) / 2]! < 0
   ·have ea64 : ((m : Int)).toNat = m := by omega
    have pa64 : (0 : Int) ≤ (m : Int) := by omega
    have ba64 : (m : Int) < (N : Int) := by omega
    have ra64 : IntKind.i64.wrap ((m : Int)) = (m : Int) := by rw [IntKind.wrap_i64]; omega
    have ec64 : (((i : Int) + (j : Int)) / 2).toNat = (i + j) / 2 := by omega
    have pc64 : (0 : Int) ≤ ((i : Int) + (j : Int)) / 2 := by omega
    have bc64 : ((i : Int) + (j : Int)) / 2 < (N : Int) := by omega
    have rc64 : IntKind.i64.wrap (((i : Int) + (j : Int)) / 2) = ((i : Int) + (j : Int)) / 2 := by rw [IntKind.wrap_i64]; omega
    obtain ⟨x64, hx64⟩ : ∃ x, x = d[m]! := ⟨_, rfl⟩
    obtain ⟨y64, hy64⟩ : ∃ x, x = d[(i + j) / 2]! := ⟨_, rfl⟩
    have l64a := S1.out.ld R omg P (m) omg
    have l64b := S1.out.ld R omg P ((i + j) / 2) omg
    rw [← hx64] at l64a
    rw [← hy64] at l64b
    have hc64 := S1.out.cmp HC.out omg x64 y64
    have hv64 : cf x64 y64 < 0 := by rw [hx64, hy64]; exact hL
    have hd64 : decide (cf x64 y64 < 0) = true := decide_eq_true hv64
    clear hx64 hy64
    go_wp2_with fail
    go_quiet_grown (first | (go_at_fn g; refine Calls.grown_of (hc64 _ _)))
    have S2 : Aside (SWK enc k w0 blk off d (grow (wr.drewN nq) osq)) := S1.out.grown nq osq
    clear l64a l64b hc64 S1
    generalize grow (wr.drewN nq) osq = w2 at S2 ⊢
    clear nq osq
    go_wp2_with fail
    go_roundg ((i + j) / 2 - i)
    case measure => omega
    case rel => exact ⟨i, (i + j) / 2, rfl, by rw [show ((i : Int) + (j : Int)) / 2 = (((i + j) / 2 : Nat) : Int) by omega], by omega, by omega, by omega, Nat.le_refl _, S2, HI, (Or.inr hL : (i + j) / 2 = m ∨ cf d[m]! d[(i + j) / 2]! < 0)⟩
   ·have ea65 : ((m : Int)).toNat = m := by omega
    have pa65 : (0 : Int) ≤ (m : Int) := by omega
    have ba65 : (m : Int) < (N : Int) := by omega
    have ra65 : IntKind.i64.wrap ((m : Int)) = (m : Int) := by rw [IntKind.wrap_i64]; omega
    have ec65 : (((i : Int) + (j : Int)) / 2).toNat = (i + j) / 2 := by omega
    have pc65 : (0 : Int) ≤ ((i : Int) + (j : Int)) / 2 := by omega
    have bc65 : ((i : Int) + (j : Int)) / 2 < (N : Int) := by omega
    have rc65 : IntKind.i64.wrap (((i : Int) + (j : Int)) / 2) = ((i : Int) + (j : Int)) / 2 := by rw [IntKind.wrap_i64]; omega
    obtain ⟨x65, hx65⟩ : ∃ x, x = d[m]! := ⟨_, rfl⟩
    obtain ⟨y65, hy65⟩ : ∃ x, x = d[(i + j) / 2]! := ⟨_, rfl⟩
    have l65a := S1.out.ld R omg P (m) omg
    have l65b := S1.out.ld R omg P ((i + j) / 2) omg
    rw [← hx65] at l65a
    rw [← hy65] at l65b
    have hc65 := S1.out.cmp HC.out omg x65 y65
    have hv65 : ¬ cf x65 y65 < 0 := by rw [hx65, hy65]; exact hL
    have hd65 : decide (cf x65 y65 < 0) = false := decide_eq_false hv65
    clear hx65 hy65
    go_wp2_with fail
    go_quiet_grown (first | (go_at_fn g; refine Calls.grown_of (hc65 _ _)))
    have S2 : Aside (SWK enc k w0 blk off d (grow (wr.drewN nq) osq)) := S1.out.grown nq osq
    clear l65a l65b hc65 S1
    generalize grow (wr.drewN nq) osq = w2 at S2 ⊢
    clear nq osq
    go_wp2_with fail
    go_roundg (j - ((i + j) / 2 + 1))
    case measure => omega
    case rel => exact ⟨(i + j) / 2 + 1, j, by rw [show ((i : Int) + (j : Int)) / 2 + 1 = (((i + j) / 2 + 1 : Nat) : Int) by omega], rfl, by omega, by omega, hjb, Nat.le_refl _, S2, (Or.inr (by rw [Nat.add_sub_cancel]; omega) : (i + j) / 2 + 1 = a ∨ 0 ≤ cf d[m]! d[(i + j) / 2 + 1 - 1]!), HJ⟩
  ·obtain rfl : i = j := by omega
   have HP0 : Aside (PermIn a b d d) := permIn_refl d a b
   have HX0 : Aside (Kst.Idx d d (Kst.rotf (m - 0) m (m + 1))) := (Kst.Idx.refl d).congr (fun k => (Kst.rot_id (m - 0) m (m + 1) k (.inl rfl)).symm)
   go_wp2_with fail
   go_loopg [17] (m - i) (fun kx s17 wr => ∃ (n : Nat) (dk : Array α), s17 = .int .i64 ((m : Int) - (n : Int)) ∧ i + n ≤ m ∧ m - (i + n) ≤ kx ∧ dk.size = N ∧ Aside (SWK enc k w0 blk off dk wr) ∧ Aside (Kst.Idx d dk (Kst.rotf (m - n) m (m + 1))) ∧ Aside (PermIn a b d dk))
   case atStart => exact ⟨0, d, by simp, by omega, by omega, hd, S1, HX0, HP0⟩
   case round =>
    clear S1 HX0 HP0
    obtain ⟨n, dk, rfl, hn, hkn, hds, S1, HX, HP⟩ := hrel
    by_cases hlt2 : i < m - n
    ·have hlz : (i : Int) < (m : Int) - (n : Int) := by omega
     go_wp2_with fail
     have ea66 : ((m : Int) - (n : Int)).toNat = m - n := by omega
     have pa66 : (0 : Int) ≤ (m : Int) - (n : Int) := by omega
     have ba66 : (m : Int) - (n : Int) < (N : Int) := by omega
     have ra66 : IntKind.i64.wrap ((m : Int) - (n : Int)) = (m : Int) - (n : Int) := by rw [IntKind.wrap_i64]; omega
     have ec66 : ((m : Int) - (n : Int) - 1).toNat = m - n - 1 := by omega
     have pc66 : (0 : Int) ≤ (m : Int) - (n : Int) - 1 := by omega
     have bc66 : (m : Int) - (n : Int) - 1 < (N : Int) := by omega
     have rc66 : IntKind.i64.wrap ((m : Int) - (n : Int) - 1) = (m : Int) - (n : Int) - 1 := by rw [IntKind.wrap_i64]; omega
     have S2 : Aside (SWK enc k w0 blk off (swp dk (m - n) (m - n - 1)) ((wr.drew.setCells blk (off + (m - n) * k) (enc dk[m - n - 1]!)).setCells blk (off + (m - n - 1) * k) (enc dk[m - n]!))) := S1.out.swapped R (m - n) (m - n - 1) omg omg
     have l66a := S1.out.ld1 R omg P (m - n) omg
     have l66b := S1.out.ld1 R omg P (m - n - 1) omg
     have s66a := S1.out.st1 R omg P (m - n) omg dk[m - n - 1]!
     have s66b := S1.out.st2 R omg P (m - n) (m - n - 1) omg omg dk[m - n - 1]! dk[m - n]!
     have n66a : (enc dk[m - n]!).length = k := R.hk _
     have n66b : (enc dk[m - n - 1]!).length = k := R.hk _
     generalize enc dk[m - n]! = cI66 at S2 l66a s66b n66a
     generalize enc dk[m - n - 1]! = cJ66 at S2 l66b s66a s66b n66b
     clear S1
     go_wp2_with fail
     go_big_region_o
     clear l66a l66b s66a s66b
     generalize (wr.drew.setCells blk (off + (m - n) * k) cJ66).setCells blk (off + (m - n - 1) * k) cI66 = w2 at S2 ⊢
     go_wp2
     go_roundg (m - (i + (n + 1)))
     case measure => omega
     case rel => exact ⟨n + 1, swp dk (m - n) (m - n - 1), by first | (congr 1; omega) | (simp; omega), by omega, Nat.le_refl _, by rw [size_swp]; exact hds, S2, (HX.out.trans (Kst.Idx.swap' (i := m - n - 1) (j := m - n) omg omg omg)).congr (fun k => Kst.rot_left m n k omg), permIn_trans _ _ _ _ _ HP.out (swp_permIn dk a b (m - n) (m - n - 1) omg omg omg omg omg)⟩
    ·have hlz : ¬ (i : Int) < (m : Int) - (n : Int) := by omega
     have he : m - n = i := by omega
     rw [he] at HX
     go_wp2
     refine bodyPost_ret (results_none rfl _ _ _) rfl ?_
     refine ⟨rfl, dk, hds, HP.out, ?_, S1.out⟩
     rw [show b = m + 1 by omega]
     exact Kst.one_right HCF.out HT1.out omg hi hjb (by rcases HI.out with h | h; exact .inl h; exact .inr omg) HJ.out HX.out
theorem Sts.sm3 {P : Program} {α : Type} [Inhabited α] {k : Nat} (L : Sts.Lay P k) (enc : α → List Value) (g : Nat) (cb : Array Value) (blk off cap : Nat) (d0 : Array α) (w0 : World) (N : Nat)
  (R : RowK enc k w0 blk off d0) (h0 : d0.size = N) (hsz : N < 4611686018427387904)
  (cf : α → α → Int) (ix : α → Nat) (eg : ∀ args w, (callFunc g args).run P w = .ok (.enter g args) w) (hcmp : CmpLays P g cb enc k cf blk off N w0) (hcf : Kst.Cmp cf) (a m b : Nat) (d : Array α) (w : World) (ham : a < m) (hmb : m < b) (hbN : b ≤ N) (hd : d.size = N) (S : SWK enc k w0 blk off d w) (T : Kst.Two cf ix d a m b) (z : Nat) (hz : b - a ≤ z + 1) (IH : ∀ (a m b : Nat) (d : Array α) (w : World), b - a ≤ z → a < m → m < b → b ≤ N → d.size = N → SWK enc k w0 blk off d w → Kst.Two cf ix d a m b → Calls P 139 #[.slice (some ⟨blk, off, none⟩) N cap, .int .i64 a, .int .i64 m, .int .i64 b, .func (.func g) #[] cb] w (Sts.SmQ enc k w0 blk off N cf ix a b d)) (hma : a + 2 ≤ m) (hmb2 : m + 2 ≤ b) (hw : (a + b) / 2 < m) :
  Calls P 139 #[.slice (some ⟨blk, off, none⟩) N cap, .int .i64 a, .int .i64 m, .int .i64 b, .func (.func g) #[] cb] w (Sts.SmQ enc k w0 blk off N cf ix a b d) := by
 have HC : Aside _ := hcmp
 have HT : Aside (Kst.Two cf ix d a m b) := T
 have HCF : Aside (Kst.Cmp cf) := hcf
 have S0 : Aside (SWK enc k w0 blk off d w) := S
 clear S T hcmp hcf
 obtain ⟨mixed, -, -, -, -, t0, a0, z0, v0, t3, a3, z3, v3, t4, a4, z4, v4, t39, a39, z39, v39, t22, a22, z22, v22, t25, a25, z25, v25, aE, zE⟩ := id L
 have u0 := run_underlying t0; have u3 := run_underlying t3; have u4 := run_underlying t4; have u39 := run_underlying t39; have u22 := run_underlying t22; have u25 := run_underlying t25
 have eSw := Sts.eSw L
 have eRo := Sts.eRo L
 have eSy := Sts.eSy L
 have eSt := Sts.eSt L
 have FG := L.fSy
 have HRO : Aside _ := fun (d : Array α) (w : World) (S : SWK enc k w0 blk off d w) (h : d.size = N) (a m b : Nat) h1 h2 h3 => Sts.rotate L enc g cb blk off cap d0 d w0 w N R h0 h S hsz a m b h1 h2 h3
 have HIH : Aside _ := IH
 clear IH
 have q0 : ((m : Int) - (a : Int) == 1) = false := by simp; omega
 have q1 : ((b : Int) - (m : Int) == 1) = false := by simp; omega
 obtain ⟨M, hM⟩ : ∃ M, M = (a + b) / 2 := ⟨_, rfl⟩
 rw [← hM] at hw
 have hMz : ((a : Int) + (b : Int)) / 2 = (M : Int) := by omega
 have hM1 : 2 * M ≤ a + b := by omega
 have hM2 : a + b ≤ 2 * M + 1 := by omega
 clear hM
 have j1 : decide ((M : Int) < (m : Int)) = true := by simp; omega
 go_enter FG, Tryz.ntmps139
 go_wp2_with fail
 go_loopg [20, 21] (M - (M + m - b)) (fun kx s20 s21 wr => ∃ (s r : Nat), s20 = .int .i64 s ∧ s21 = .int .i64 r ∧ M + m - b ≤ s ∧ s ≤ r ∧ r ≤ M ∧ r - s ≤ kx ∧ Aside (SWK enc k w0 blk off d wr) ∧ Aside (s = M + m - b ∨ 0 ≤ cf d[M + m - s]! d[s - 1]!) ∧ Aside (r = M ∨ cf d[M + m - 1 - r]! d[r]! < 0))
 case atStart => exact ⟨M + m - b, M, by first | rfl | (congr 1; omega), by first | rfl | (congr 1; omega), by omega, by omega, by omega, by omega, S0, (Or.inl rfl : M + m - b = M + m - b ∨ _), (Or.inl rfl : M = M ∨ _)⟩
 case round =>
  clear S0
  obtain ⟨s, r, rfl, rfl, hs0, hsr, hr0, hkx, S1, HI, HJ⟩ := hrel
  by_cases hlt : s < r
  ·have hltz : (s : Int) < (r : Int) := by omega
   obtain ⟨cc, hcc⟩ : ∃ cc, cc = (s + r) / 2 := ⟨_, rfl⟩
   have hcz : ((s : Int) + (r : Int)) / 2 = (cc : Int) := by omega
   have hc1 : 2 * cc ≤ s + r := by omega
   have hc2 : s + r ≤ 2 * cc + 1 := by omega
   obtain ⟨pp, hpp⟩ : ∃ pp, pp = M + m - 1 - cc := ⟨_, rfl⟩
   have hpz : (M : Int) + (m : Int) - 1 - (cc : Int) = (pp : Int) := by omega
   have hp1 : pp + cc + 1 ≤ M + m := by omega
   have hp2 : M + m ≤ pp + cc + 1 := by omega
   clear hcc hpp
   by_cases hL : cf d[pp]! d[cc]! < 0
   ·have ea67 : ((pp : Int)).toNat = pp := by omega
    have pa67 : (0 : Int) ≤ (pp : Int) := by omega
    have ba67 : (pp : Int) < (N : Int) := by omega
    have ra67 : IntKind.i64.wrap ((pp : Int)) = (pp : Int) := by rw [IntKind.wrap_i64]; omega
    have ec67 : ((cc : Int)).toNat = cc := by omega
    have pc67 : (0 : Int) ≤ (cc : Int) := by omega
    have bc67 : (cc : Int) < (N : Int) := by omega
    have rc67 : IntKind.i64.wrap ((cc : Int)) = (cc : Int) := by rw [IntKind.wrap_i64]; omega
    obtain ⟨x67, hx67⟩ : ∃ x, x = d[pp]! := ⟨_, rfl⟩
    obtain ⟨y67, hy67⟩ : ∃ x, x = d[cc]! := ⟨_, rfl⟩
    have l67a := S1.out.ld R omg P (pp) omg
    have l67b := S1.out.ld R omg P (cc) omg
    rw [← hx67] at l67a
    rw [← hy67] at l67b
    have hc67 := S1.out.cmp HC.out omg x67 y67
    have hv67 : cf x67 y67 < 0 := by rw [hx67, hy67]; exact hL
    have hd67 : decide (cf x67 y67 < 0) = true := decide_eq_true hv67
    clear hx67 hy67
    go_wp2_with fail
    go_quiet_grown (first | (go_at_fn g; refine Calls.grown_of (hc67 _ _)))
    have S2 : Aside (SWK enc k w0 blk off d (grow (wr.drewN nq) osq)) := S1.out.grown nq osq
    clear l67a l67b hc67 S1
    generalize grow (wr.drewN nq) osq = w2 at S2 ⊢
    clear nq osq
    go_wp2_with fail
    go_roundg (cc - s)
    case measure => omega
    case rel => exact ⟨s, cc, rfl, rfl, by omega, by omega, by omega, Nat.le_refl _, S2, HI, (Or.inr (by rw [show M + m - 1 - cc = pp by omega]; exact hL) : cc = M ∨ cf d[M + m - 1 - cc]! d[cc]! < 0)⟩
   ·have ea68 : ((pp : Int)).toNat = pp := by omega
    have pa68 : (0 : Int) ≤ (pp : Int) := by omega
    have ba68 : (pp : Int) < (N : Int) := by omega
    have ra68 : IntKind.i64.wrap ((pp : Int)) = (pp : Int) := by rw [IntKind.wrap_i64]; omega
    have ec68 : ((cc : Int)).toNat = cc := by omega
    have pc68 : (0 : Int) ≤ (cc : Int) := by omega
    have bc68 : (cc : Int) < (N : Int) := by omega
    have rc68 : IntKind.i64.wrap ((cc : Int)) = (cc : Int) := by rw [IntKind.wrap_i64]; omega
    obtain ⟨x68, hx68⟩ : ∃ x, x = d[pp]! := ⟨_, rfl⟩
    obtain ⟨y68, hy68⟩ : ∃ x, x = d[cc]! := ⟨_, rfl⟩
    have l68a := S1.out.ld R omg P (pp) omg
    have l68b := S1.out.ld R omg P (cc) omg
    rw [← hx68] at l68a
    rw [← hy68] at l68b
    have hc68 := S1.out.cmp HC.out omg x68 y68
    have hv68 : ¬ cf x68 y68 < 0 := by rw [hx68, hy68]; exact hL
    have hd68 : decide (cf x68 y68 < 0) = false := decide_eq_false hv68
    clear hx68 hy68
    go_wp2_with fail
    go_quiet_grown (first | (go_at_fn g; refine Calls.grown_of (hc68 _ _)))
    have S2 : Aside (SWK enc k w0 blk off d (grow (wr.drewN nq) osq)) := S1.out.grown nq osq
    clear l68a l68b hc68 S1
    generalize grow (wr.drewN nq) osq = w2 at S2 ⊢
    clear nq osq
    go_wp2_with fail
    go_roundg (r - (cc + 1))
    case measure => omega
    case rel => exact ⟨cc + 1, r, by first | rfl | go_num | simp, rfl, by omega, by omega, by omega, Nat.le_refl _, S2, (Or.inr (by rw [Nat.add_sub_cancel, show M + m - (cc + 1) = pp by omega]; omega) : cc + 1 = M + m - b ∨ 0 ≤ cf d[M + m - (cc + 1)]! d[cc + 1 - 1]!), HJ⟩
  ·obtain rfl : s = r := by omega
   obtain ⟨e, he⟩ : ∃ e, e = M + m - s := ⟨_, rfl⟩
   have hez : (M : Int) + (m : Int) - (s : Int) = (e : Int) := by omega
   have has_ : a ≤ s := by omega
   have sm : s ≤ m := by omega
   have me : m ≤ e := by omega
   have eb : e ≤ b := by omega
   have C : Kst.Cut cf ix d a m b s e := Kst.cut_of HCF.out HT.out has_ sm me eb (by rcases HI.out with h | h; exact .inl (.inr omg); exact .inr (by rw [he]; omega)) (by rcases HJ.out with h | h; exact .inl (.inr omg); exact .inr (by rw [he, show M + m - s - 1 = M + m - 1 - s by omega]; exact h))
   have HC1 : Aside (Kst.Cut cf ix d a m b s e) := C
   have hse : s + (e - m) = M := by omega
   have HSE : Aside (s + (e - m) = M) := hse
   have hsM : s ≤ M := by omega
   have hMe : M ≤ e := by omega
   have hMa : a < M := by omega
   have hMb : M < b := by omega
   clear C hse HI HJ he
   go_upto_region 38 with fail
   go_cut [24] from 175 to 177 (fun v24 wx => v24 = .int .i64 e ∧ Aside (wx = wr))
   case first =>
    go_wp2_with fail
    go_meet
    case rel => exact ⟨rfl, rfl⟩
   case rest =>
    obtain ⟨rfl, HWX⟩ := hcut
    obtain rfl := HWX.out
    clear HWX
    generalize wc = wr at *
    apply_assumption
    refine wp_seq_k fun K hK => ?_
    go_cut [] from 178 to 191 (fun wx => ∃ d1 : Array α, d1.size = N ∧ Aside (SWK enc k w0 blk off d1 wx) ∧ Aside (Kst.Idx d d1 (Kst.rotf s m e)) ∧ Aside (PermIn a b d d1))
    case first =>
     by_cases cA : s < m
     ·by_cases cA2 : m < e
      ·have kA : decide ((s : Int) < (m : Int)) = true := by simp; omega
       have lA : decide ((m : Int) < (e : Int)) = true := by simp; omega
       go_wp2_with (go_at_call 168; refine (HRO.out d wr S1.out hd s m e cA cA2 omg).mono ?_; rintro _ w2 ⟨rfl, d1, hd1, h2, h3, h4⟩; have S2 : Aside _ := h4; have H2 : Aside (Kst.Idx d d1 (Kst.rotf s m e)) := h2; have H3 : Aside (PermIn a b d d1) := permIn_mono d d1 s e a b has_ eb omg h3; clear h2 h3 h4 S1)
       go_meet
       case rel => exact ⟨d1, hd1, S2, H2, H3⟩
      ·have kA : decide ((s : Int) < (m : Int)) = true := by simp; omega
       have lA : decide ((m : Int) < (e : Int)) = false := by simp; omega
       have nA : decide (m < e) = false := by simp; omega
       go_wp2_with fail
       go_meet
       case rel => exact ⟨d, hd, S1, (Kst.Idx.refl d).congr (fun k => (Kst.rot_id s m e k (.inr omg)).symm), permIn_refl d a b⟩
     ·have kA : decide ((s : Int) < (m : Int)) = false := by simp; omega
      have nA : decide (s < m) = false := by simp; omega
      go_wp2_with fail
      go_meet
      case rel => exact ⟨d, hd, S1, (Kst.Idx.refl d).congr (fun k => (Kst.rot_id s m e k (.inl omg)).symm), permIn_refl d a b⟩
    case rest =>
     obtain ⟨d1, hd1, S2, H2, H3⟩ := hcut
     have TL : Aside (Kst.Two cf ix d1 a s M) := by have h := Kst.two_left HT.out HC1.out H2.out; rwa [HSE.out] at h
     have TR : Aside (Kst.Two cf ix d1 M e b) := by have h := Kst.two_right HT.out HC1.out H2.out; rwa [HSE.out] at h
     have LW : Aside (∀ i j, a ≤ i → i < M → M ≤ j → j < b → Kst.stl cf ix d1[j]! d1[i]! = false) := by have h := Kst.low HT.out HC1.out H2.out; rwa [HSE.out] at h
     clear H2 S1
     generalize wc = w2 at *
     apply_assumption
     refine wp_seq_k fun K hK => ?_
     go_cut [] from 192 to 205 (fun wx => ∃ d2 : Array α, d2.size = N ∧ Aside (SWK enc k w0 blk off d2 wx) ∧ Aside (PermIn a M d1 d2) ∧ Aside (SortedIn (Kst.stl cf ix) a M d2))
     case first =>
      by_cases cB : a < s
      ·by_cases cB2 : s < M
       ·have kB : decide ((a : Int) < (s : Int)) = true := by simp; omega
        have lB : decide ((s : Int) < (M : Int)) = true := by simp; omega
        go_wp2_with (go_at_call 139; refine (HIH.out a s M d1 w2 omg cB cB2 omg hd1 S2.out TL.out).mono ?_; rintro _ w3 ⟨rfl, d2, hd2, h2, h3, h4⟩; have S3 : Aside _ := h4; have P2 : Aside (PermIn a M d1 d2) := h2; have Q2 : Aside (SortedIn (Kst.stl cf ix) a M d2) := h3; clear h2 h3 h4 S2)
        go_meet
        case rel => exact ⟨d2, hd2, S3, P2, Q2⟩
       ·have kB : decide ((a : Int) < (s : Int)) = true := by simp; omega
        have lB : decide ((s : Int) < (M : Int)) = false := by simp; omega
        have nB : decide (s < M) = false := by simp; omega
        have Q2 : Aside (SortedIn (Kst.stl cf ix) a M d1) := by have h := TL.out.left; rw [show s = M by omega] at h; exact h
        go_wp2_with fail
        go_meet
        case rel => exact ⟨d1, hd1, S2, permIn_refl d1 a M, Q2⟩
      ·have kB : decide ((a : Int) < (s : Int)) = false := by simp; omega
       have nB : decide (a < s) = false := by simp; omega
       have Q2 : Aside (SortedIn (Kst.stl cf ix) a M d1) := by have h := TL.out.right; rw [show s = a by omega] at h; exact h
       go_wp2_with fail
       go_meet
       case rel => exact ⟨d1, hd1, S2, permIn_refl d1 a M, Q2⟩
     case rest =>
      obtain ⟨d2, hd2, S3, P2, Q2⟩ := hcut
      have TR2 : Aside (Kst.Two cf ix d2 M e b) := Kst.two_same hMe P2.out TR.out
      have FIN : Aside (∀ d3 : Array α, PermIn M b d2 d3 → SortedIn (Kst.stl cf ix) M b d3 → PermIn a b d d3 ∧ SortedIn (Kst.stl cf ix) a b d3) := fun d3 p3 q3 => ⟨permIn_trans _ _ _ _ _ H3.out (Kst.perm_halves omg omg omg P2.out p3), Kst.halves omg omg omg LW.out P2.out Q2.out p3 q3⟩
      clear TL TR LW P2 Q2 H3 S2
      generalize wc = w3 at *
      by_cases cC : M < e
      ·by_cases cC2 : e < b
       ·have kC : decide ((M : Int) < (e : Int)) = true := by simp; omega
        have lC : decide ((e : Int) < (b : Int)) = true := by simp; omega
        go_wp2_with (go_at_call 139; refine (HIH.out M e b d2 w3 omg cC cC2 omg hd2 S3.out TR2.out).mono ?_; rintro _ w4 ⟨rfl, d3, hd3, h2, h3, h4⟩; have S4 : Aside _ := h4; have P3 : Aside (PermIn M b d2 d3) := h2; have Q3 : Aside (SortedIn (Kst.stl cf ix) M b d3) := h3; clear h2 h3 h4 S3)
        go_end0
        exact ⟨rfl, d3, hd3, (FIN.out d3 P3.out Q3.out).1, (FIN.out d3 P3.out Q3.out).2, S4.out⟩
       ·have kC : decide ((M : Int) < (e : Int)) = true := by simp; omega
        have lC : decide ((e : Int) < (b : Int)) = false := by simp; omega
        have nC : decide (e < b) = false := by simp; omega
        have Q3 : SortedIn (Kst.stl cf ix) M b d2 := by have h := TR2.out.left; rw [show e = b by omega] at h; exact h
        have FF : Aside _ := FIN.out d2 (permIn_refl d2 M b) Q3
        clear Q3
        go_wp2
        go_end0
        exact ⟨rfl, d2, hd2, FF.out.1, FF.out.2, S3.out⟩
      ·have kC : decide ((M : Int) < (e : Int)) = false := by simp; omega
       have nC : decide (M < e) = false := by simp; omega
       have Q3 : SortedIn (Kst.stl cf ix) M b d2 := by have h := TR2.out.right; rw [show e = M by omega] at h; exact h
       have FF : Aside _ := FIN.out d2 (permIn_refl d2 M b) Q3
       clear Q3
       go_wp2
       go_end0
       exact ⟨rfl, d2, hd2, FF.out.1, FF.out.2, S3.out⟩
theorem Sts.sm4 {P : Program} {α : Type} [Inhabited α] {k : Nat} (L : Sts.Lay P k) (enc : α → List Value) (g : Nat) (cb : Array Value) (blk off cap : Nat) (d0 : Array α) (w0 : World) (N : Nat)
  (R : RowK enc k w0 blk off d0) (h0 : d0.size = N) (hsz : N < 4611686018427387904)
  (cf : α → α → Int) (ix : α → Nat) (eg : ∀ args w, (callFunc g args).run P w = .ok (.enter g args) w) (hcmp : CmpLays P g cb enc k cf blk off N w0) (hcf : Kst.Cmp cf) (a m b : Nat) (d : Array α) (w : World) (ham : a < m) (hmb : m < b) (hbN : b ≤ N) (hd : d.size = N) (S : SWK enc k w0 blk off d w) (T : Kst.Two cf ix d a m b) (z : Nat) (hz : b - a ≤ z + 1) (IH : ∀ (a m b : Nat) (d : Array α) (w : World), b - a ≤ z → a < m → m < b → b ≤ N → d.size = N → SWK enc k w0 blk off d w → Kst.Two cf ix d a m b → Calls P 139 #[.slice (some ⟨blk, off, none⟩) N cap, .int .i64 a, .int .i64 m, .int .i64 b, .func (.func g) #[] cb] w (Sts.SmQ enc k w0 blk off N cf ix a b d)) (hma : a + 2 ≤ m) (hmb2 : m + 2 ≤ b) (hw : m ≤ (a + b) / 2) :
  Calls P 139 #[.slice (some ⟨blk, off, none⟩) N cap, .int .i64 a, .int .i64 m, .int .i64 b, .func (.func g) #[] cb] w (Sts.SmQ enc k w0 blk off N cf ix a b d) := by
 have HC : Aside _ := hcmp
 have HT : Aside (Kst.Two cf ix d a m b) := T
 have HCF : Aside (Kst.Cmp cf) := hcf
 have S0 : Aside (SWK enc k w0 blk off d w) := S
 clear S T hcmp hcf
 obtain ⟨mixed, -, -, -, -, t0, a0, z0, v0, t3, a3, z3, v3, t4, a4, z4, v4, t39, a39, z39, v39, t22, a22, z22, v22, t25, a25, z25, v25, aE, zE⟩ := id L
 have u0 := run_underlying t0; have u3 := run_underlying t3; have u4 := run_underlying t4; have u39 := run_underlying t39; have u22 := run_underlying t22; have u25 := run_underlying t25
 have eSw := Sts.eSw L
 have eRo := Sts.eRo L
 have eSy := Sts.eSy L
 have eSt := Sts.eSt L
 have FG := L.fSy
 have HRO : Aside _ := fun (d : Array α) (w : World) (S : SWK enc k w0 blk off d w) (h : d.size = N) (a m b : Nat) h1 h2 h3 => Sts.rotate L enc g cb blk off cap d0 d w0 w N R h0 h S hsz a m b h1 h2 h3
 have HIH : Aside _ := IH
 clear IH
 have q0 : ((m : Int) - (a : Int) == 1) = false := by simp; omega
 have q1 : ((b : Int) - (m : Int) == 1) = false := by simp; omega
 obtain ⟨M, hM⟩ : ∃ M, M = (a + b) / 2 := ⟨_, rfl⟩
 rw [← hM] at hw
 have hMz : ((a : Int) + (b : Int)) / 2 = (M : Int) := by omega
 have hM1 : 2 * M ≤ a + b := by omega
 have hM2 : a + b ≤ 2 * M + 1 := by omega
 clear hM
 have hw2 : ¬ M < m := by omega
 have j2 : decide (M < m) = false := by simp; omega
 have j1 : decide ((M : Int) < (m : Int)) = false := by simp; omega
 go_enter FG, Tryz.ntmps139
 go_wp2_with fail
 go_loopg [20, 21] (m - (a)) (fun kx s20 s21 wr => ∃ (s r : Nat), s20 = .int .i64 s ∧ s21 = .int .i64 r ∧ a ≤ s ∧ s ≤ r ∧ r ≤ m ∧ r - s ≤ kx ∧ Aside (SWK enc k w0 blk off d wr) ∧ Aside (s = a ∨ 0 ≤ cf d[M + m - s]! d[s - 1]!) ∧ Aside (r = m ∨ cf d[M + m - 1 - r]! d[r]! < 0))
 case atStart => exact ⟨a, m, by first | rfl | (congr 1; omega), by first | rfl | (congr 1; omega), by omega, by omega, by omega, by omega, S0, (Or.inl rfl : a = a ∨ _), (Or.inl rfl : m = m ∨ _)⟩
 case round =>
  clear S0
  obtain ⟨s, r, rfl, rfl, hs0, hsr, hr0, hkx, S1, HI, HJ⟩ := hrel
  by_cases hlt : s < r
  ·have hltz : (s : Int) < (r : Int) := by omega
   obtain ⟨cc, hcc⟩ : ∃ cc, cc = (s + r) / 2 := ⟨_, rfl⟩
   have hcz : ((s : Int) + (r : Int)) / 2 = (cc : Int) := by omega
   have hc1 : 2 * cc ≤ s + r := by omega
   have hc2 : s + r ≤ 2 * cc + 1 := by omega
   obtain ⟨pp, hpp⟩ : ∃ pp, pp = M + m - 1 - cc := ⟨_, rfl⟩
   have hpz : (M : Int) + (m : Int) - 1 - (cc : Int) = (pp : Int) := by omega
   have hp1 : pp + cc + 1 ≤ M + m := by omega
   have hp2 : M + m ≤ pp + cc + 1 := by omega
   clear hcc hpp
   by_cases hL : cf d[pp]! d[cc]! < 0
   ·have ea67 : ((pp : Int)).toNat = pp := by omega
    have pa67 : (0 : Int) ≤ (pp : Int) := by omega
    have ba67 : (pp : Int) < (N : Int) := by omega
    have ra67 : IntKind.i64.wrap ((pp : Int)) = (pp : Int) := by rw [IntKind.wrap_i64]; omega
    have ec67 : ((cc : Int)).toNat = cc := by omega
    have pc67 : (0 : Int) ≤ (cc : Int) := by omega
    have bc67 : (cc : Int) < (N : Int) := by omega
    have rc67 : IntKind.i64.wrap ((cc : Int)) = (cc : Int) := by rw [IntKind.wrap_i64]; omega
    obtain ⟨x67, hx67⟩ : ∃ x, x = d[pp]! := ⟨_, rfl⟩
    obtain ⟨y67, hy67⟩ : ∃ x, x = d[cc]! := ⟨_, rfl⟩
    have l67a := S1.out.ld R omg P (pp) omg
    have l67b := S1.out.ld R omg P (cc) omg
    rw [← hx67] at l67a
    rw [← hy67] at l67b
    have hc67 := S1.out.cmp HC.out omg x67 y67
    have hv67 : cf x67 y67 < 0 := by rw [hx67, hy67]; exact hL
    have hd67 : decide (cf x67 y67 < 0) = true := decide_eq_true hv67
    clear hx67 hy67
    go_wp2_with fail
    go_quiet_grown (first | (go_at_fn g; refine Calls.grown_of (hc67 _ _)))
    have S2 : Aside (SWK enc k w0 blk off d (grow (wr.drewN nq) osq)) := S1.out.grown nq osq
    clear l67a l67b hc67 S1
    generalize grow (wr.drewN nq) osq = w2 at S2 ⊢
    clear nq osq
    go_wp2_with fail
    go_roundg (cc - s)
    case measure => omega
    case rel => exact ⟨s, cc, rfl, rfl, by omega, by omega, by omega, Nat.le_refl _, S2, HI, (Or.inr (by rw [show M + m - 1 - cc = pp by omega]; exact hL) : cc = m ∨ cf d[M + m - 1 - cc]! d[cc]! < 0)⟩
   ·have ea68 : ((pp : Int)).toNat = pp := by omega
    have pa68 : (0 : Int) ≤ (pp : Int) := by omega
    have ba68 : (pp : Int) < (N : Int) := by omega
    have ra68 : IntKind.i64.wrap ((pp : Int)) = (pp : Int) := by rw [IntKind.wrap_i64]; omega
    have ec68 : ((cc : Int)).toNat = cc := by omega
    have pc68 : (0 : Int) ≤ (cc : Int) := by omega
    have bc68 : (cc : Int) < (N : Int) := by omega
    have rc68 : IntKind.i64.wrap ((cc : Int)) = (cc : Int) := by rw [IntKind.wrap_i64]; omega
    obtain ⟨x68, hx68⟩ : ∃ x, x = d[pp]! := ⟨_, rfl⟩
    obtain ⟨y68, hy68⟩ : ∃ x, x = d[cc]! := ⟨_, rfl⟩
    have l68a := S1.out.ld R omg P (pp) omg
    have l68b := S1.out.ld R omg P (cc) omg
    rw [← hx68] at l68a
    rw [← hy68] at l68b
    have hc68 := S1.out.cmp HC.out omg x68 y68
    have hv68 : ¬ cf x68 y68 < 0 := by rw [hx68, hy68]; exact hL
    have hd68 : decide (cf x68 y68 < 0) = false := decide_eq_false hv68
    clear hx68 hy68
    go_wp2_with fail
    go_quiet_grown (first | (go_at_fn g; refine Calls.grown_of (hc68 _ _)))
    have S2 : Aside (SWK enc k w0 blk off d (grow (wr.drewN nq) osq)) := S1.out.grown nq osq
    clear l68a l68b hc68 S1
    generalize grow (wr.drewN nq) osq = w2 at S2 ⊢
    clear nq osq
    go_wp2_with fail
    go_roundg (r - (cc + 1))
    case measure => omega
    case rel => exact ⟨cc + 1, r, by first | rfl | go_num | simp, rfl, by omega, by omega, by omega, Nat.le_refl _, S2, (Or.inr (by rw [Nat.add_sub_cancel, show M + m - (cc + 1) = pp by omega]; omega) : cc + 1 = a ∨ 0 ≤ cf d[M + m - (cc + 1)]! d[cc + 1 - 1]!), HJ⟩
  ·obtain rfl : s = r := by omega
   obtain ⟨e, he⟩ : ∃ e, e = M + m - s := ⟨_, rfl⟩
   have hez : (M : Int) + (m : Int) - (s : Int) = (e : Int) := by omega
   have has_ : a ≤ s := by omega
   have sm : s ≤ m := by omega
   have me : m ≤ e := by omega
   have eb : e ≤ b := by omega
   have C : Kst.Cut cf ix d a m b s e := Kst.cut_of HCF.out HT.out has_ sm me eb (by rcases HI.out with h | h; exact .inl (.inl omg); exact .inr (by rw [he]; omega)) (by rcases HJ.out with h | h; exact .inl (.inl omg); exact .inr (by rw [he, show M + m - s - 1 = M + m - 1 - s by omega]; exact h))
   have HC1 : Aside (Kst.Cut cf ix d a m b s e) := C
   have hse : s + (e - m) = M := by omega
   have HSE : Aside (s + (e - m) = M) := hse
   have hsM : s ≤ M := by omega
   have hMe : M ≤ e := by omega
   have hMa : a < M := by omega
   have hMb : M < b := by omega
   clear C hse HI HJ he
   go_upto_region 38 with fail
   go_cut [24] from 175 to 177 (fun v24 wx => v24 = .int .i64 e ∧ Aside (wx = wr))
   case first =>
    go_wp2_with fail
    go_meet
    case rel => exact ⟨rfl, rfl⟩
   case rest =>
    obtain ⟨rfl, HWX⟩ := hcut
    obtain rfl := HWX.out
    clear HWX
    generalize wc = wr at *
    apply_assumption
    refine wp_seq_k fun K hK => ?_
    go_cut [] from 178 to 191 (fun wx => ∃ d1 : Array α, d1.size = N ∧ Aside (SWK enc k w0 blk off d1 wx) ∧ Aside (Kst.Idx d d1 (Kst.rotf s m e)) ∧ Aside (PermIn a b d d1))
    case first =>
     by_cases cA : s < m
     ·by_cases cA2 : m < e
      ·have kA : decide ((s : Int) < (m : Int)) = true := by simp; omega
       have lA : decide ((m : Int) < (e : Int)) = true := by simp; omega
       go_wp2_with (go_at_call 168; refine (HRO.out d wr S1.out hd s m e cA cA2 omg).mono ?_; rintro _ w2 ⟨rfl, d1, hd1, h2, h3, h4⟩; have S2 : Aside _ := h4; have H2 : Aside (Kst.Idx d d1 (Kst.rotf s m e)) := h2; have H3 : Aside (PermIn a b d d1) := permIn_mono d d1 s e a b has_ eb omg h3; clear h2 h3 h4 S1)
       go_meet
       case rel => exact ⟨d1, hd1, S2, H2, H3⟩
      ·have kA : decide ((s : Int) < (m : Int)) = true := by simp; omega
       have lA : decide ((m : Int) < (e : Int)) = false := by simp; omega
       have nA : decide (m < e) = false := by simp; omega
       go_wp2_with fail
       go_meet
       case rel => exact ⟨d, hd, S1, (Kst.Idx.refl d).congr (fun k => (Kst.rot_id s m e k (.inr omg)).symm), permIn_refl d a b⟩
     ·have kA : decide ((s : Int) < (m : Int)) = false := by simp; omega
      have nA : decide (s < m) = false := by simp; omega
      go_wp2_with fail
      go_meet
      case rel => exact ⟨d, hd, S1, (Kst.Idx.refl d).congr (fun k => (Kst.rot_id s m e k (.inl omg)).symm), permIn_refl d a b⟩
    case rest =>
     obtain ⟨d1, hd1, S2, H2, H3⟩ := hcut
     have TL : Aside (Kst.Two cf ix d1 a s M) := by have h := Kst.two_left HT.out HC1.out H2.out; rwa [HSE.out] at h
     have TR : Aside (Kst.Two cf ix d1 M e b) := by have h := Kst.two_right HT.out HC1.out H2.out; rwa [HSE.out] at h
     have LW : Aside (∀ i j, a ≤ i → i < M → M ≤ j → j < b → Kst.stl cf ix d1[j]! d1[i]! = false) := by have h := Kst.low HT.out HC1.out H2.out; rwa [HSE.out] at h
     clear H2 S1
     generalize wc = w2 at *
     apply_assumption
     refine wp_seq_k fun K hK => ?_
     go_cut [] from 192 to 205 (fun wx => ∃ d2 : Array α, d2.size = N ∧ Aside (SWK enc k w0 blk off d2 wx) ∧ Aside (PermIn a M d1 d2) ∧ Aside (SortedIn (Kst.stl cf ix) a M d2))
     case first =>
      by_cases cB : a < s
      ·by_cases cB2 : s < M
       ·have kB : decide ((a : Int) < (s : Int)) = true := by simp; omega
        have lB : decide ((s : Int) < (M : Int)) = true := by simp; omega
        go_wp2_with (go_at_call 139; refine (HIH.out a s M d1 w2 omg cB cB2 omg hd1 S2.out TL.out).mono ?_; rintro _ w3 ⟨rfl, d2, hd2, h2, h3, h4⟩; have S3 : Aside _ := h4; have P2 : Aside (PermIn a M d1 d2) := h2; have Q2 : Aside (SortedIn (Kst.stl cf ix) a M d2) := h3; clear h2 h3 h4 S2)
        go_meet
        case rel => exact ⟨d2, hd2, S3, P2, Q2⟩
       ·have kB : decide ((a : Int) < (s : Int)) = true := by simp; omega
        have lB : decide ((s : Int) < (M : Int)) = false := by simp; omega
        have nB : decide (s < M) = false := by simp; omega
        have Q2 : Aside (SortedIn (Kst.stl cf ix) a M d1) := by have h := TL.out.left; rw [show s = M by omega] at h; exact h
        go_wp2_with fail
        go_meet
        case rel => exact ⟨d1, hd1, S2, permIn_refl d1 a M, Q2⟩
      ·have kB : decide ((a : Int) < (s : Int)) = false := by simp; omega
       have nB : decide (a < s) = false := by simp; omega
       have Q2 : Aside (SortedIn (Kst.stl cf ix) a M d1) := by have h := TL.out.right; rw [show s = a by omega] at h; exact h
       go_wp2_with fail
       go_meet
       case rel => exact ⟨d1, hd1, S2, permIn_refl d1 a M, Q2⟩
     case rest =>
      obtain ⟨d2, hd2, S3, P2, Q2⟩ := hcut
      have TR2 : Aside (Kst.Two cf ix d2 M e b) := Kst.two_same hMe P2.out TR.out
      have FIN : Aside (∀ d3 : Array α, PermIn M b d2 d3 → SortedIn (Kst.stl cf ix) M b d3 → PermIn a b d d3 ∧ SortedIn (Kst.stl cf ix) a b d3) := fun d3 p3 q3 => ⟨permIn_trans _ _ _ _ _ H3.out (Kst.perm_halves omg omg omg P2.out p3), Kst.halves omg omg omg LW.out P2.out Q2.out p3 q3⟩
      clear TL TR LW P2 Q2 H3 S2
      generalize wc = w3 at *
      by_cases cC : M < e
      ·by_cases cC2 : e < b
       ·have kC : decide ((M : Int) < (e : Int)) = true := by simp; omega
        have lC : decide ((e : Int) < (b : Int)) = true := by simp; omega
        go_wp2_with (go_at_call 139; refine (HIH.out M e b d2 w3 omg cC cC2 omg hd2 S3.out TR2.out).mono ?_; rintro _ w4 ⟨rfl, d3, hd3, h2, h3, h4⟩; have S4 : Aside _ := h4; have P3 : Aside (PermIn M b d2 d3) := h2; have Q3 : Aside (SortedIn (Kst.stl cf ix) M b d3) := h3; clear h2 h3 h4 S3)
        go_end0
        exact ⟨rfl, d3, hd3, (FIN.out d3 P3.out Q3.out).1, (FIN.out d3 P3.out Q3.out).2, S4.out⟩
       ·have kC : decide ((M : Int) < (e : Int)) = true := by simp; omega
        have lC : decide ((e : Int) < (b : Int)) = false := by simp; omega
        have nC : decide (e < b) = false := by simp; omega
        have Q3 : SortedIn (Kst.stl cf ix) M b d2 := by have h := TR2.out.left; rw [show e = b by omega] at h; exact h
        have FF : Aside _ := FIN.out d2 (permIn_refl d2 M b) Q3
        clear Q3
        go_wp2
        go_end0
        exact ⟨rfl, d2, hd2, FF.out.1, FF.out.2, S3.out⟩
      ·have kC : decide ((M : Int) < (e : Int)) = false := by simp; omega
       have nC : decide (M < e) = false := by simp; omega
       have Q3 : SortedIn (Kst.stl cf ix) M b d2 := by have h := TR2.out.right; rw [show e = M by omega] at h; exact h
       have FF : Aside _ := FIN.out d2 (permIn_refl d2 M b) Q3
       clear Q3
       go_wp2
       go_end0
       exact ⟨rfl, d2, hd2, FF.out.1, FF.out.2, S3.out⟩
theorem Sts.symMerge {P : Program} {α : Type} [Inhabited α] {k : Nat} (L : Sts.Lay P k) (enc : α → List Value) (g : Nat) (cb : Array Value) (blk off cap : Nat) (d0 : Array α) (w0 : World) (N : Nat)
  (R : RowK enc k w0 blk off d0) (h0 : d0.size = N) (hsz : N < 4611686018427387904)
  (cf : α → α → Int) (ix : α → Nat) (eg : ∀ args w, (callFunc g args).run P w = .ok (.enter g args) w) (hcmp : CmpLays P g cb enc k cf blk off N w0) (hcf : Kst.Cmp cf) : ∀ (z : Nat) (a m b : Nat) (d : Array α) (w : World), b - a ≤ z → a < m → m < b → b ≤ N → d.size = N → SWK enc k w0 blk off d w → Kst.Two cf ix d a m b →
  Calls P 139 #[.slice (some ⟨blk, off, none⟩) N cap, .int .i64 a, .int .i64 m, .int .i64 b, .func (.func g) #[] cb] w (Sts.SmQ enc k w0 blk off N cf ix a b d)
 | 0, a, m, b, d, w, hz, ham, hmb, hbN, hd, S, T => by omega
 | z + 1, a, m, b, d, w, hz, ham, hmb, hbN, hd, S, T => by
  by_cases h1 : m = a + 1
  ·exact Sts.sm1 L enc g cb blk off cap d0 w0 N R h0 hsz cf ix eg hcmp hcf a m b d w ham hmb hbN hd S T h1
  ·by_cases h2 : b = m + 1
   ·exact Sts.sm2 L enc g cb blk off cap d0 w0 N R h0 hsz cf ix eg hcmp hcf a m b d w ham hmb hbN hd S T omg h2
   ·by_cases h3 : (a + b) / 2 < m
    ·exact Sts.sm3 L enc g cb blk off cap d0 w0 N R h0 hsz cf ix eg hcmp hcf a m b d w ham hmb hbN hd S T z hz (Sts.symMerge L enc g cb blk off cap d0 w0 N R h0 hsz cf ix eg hcmp hcf z) omg omg h3
    ·exact Sts.sm4 L enc g cb blk off cap d0 w0 N R h0 hsz cf ix eg hcmp hcf a m b d w ham hmb hbN hd S T z hz (Sts.symMerge L enc g cb blk off cap d0 w0 N R h0 hsz cf ix eg hcmp hcf z) omg omg omg
theorem Sts.swo {α : Type} [Inhabited α] {cf : α → α → Int} (h : Kst.Cmp cf) : SWO (ltOf cf) := by
 have := Kst.swo (ix := fun _ => 0) h
 have e : Kst.stl cf (fun _ => 0) = ltOf cf := by funext x y; unfold Kst.stl ltOf; simp
 rwa [e] at this
theorem Sts.ins {P : Program} {α : Type} [Inhabited α] {k : Nat} (L : Sts.Lay P k) (enc : α → List Value) (g : Nat) (cb : Array Value) (blk off cap : Nat) (d0 : Array α) (w0 : World) (N : Nat)
  (R : RowK enc k w0 blk off d0) (h0 : d0.size = N) (hsz : N < 4611686018427387904)
  (cf : α → α → Int) (ix : α → Nat) (eg : ∀ args w, (callFunc g args).run P w = .ok (.enter g args) w) (hcmp : CmpLays P g cb enc k cf blk off N w0) (hcf : Kst.Cmp cf) (ρ : Ren) (L20 : SlLaysF0.n20 P ρ) (e20 : ρ.f 20 = 138) (e24 : ρ.t 24 = 60) (a b : Nat) (az bz : Int) (ea : az = a) (eb : bz = b) (d : Array α) (w : World) (hab : a ≤ b) (hb : b ≤ N) (hd : d.size = N) (S : SWK enc k w0 blk off d w)
  (hi : ∀ k l, a ≤ k → k < l → l < b → ix d[k]! < ix d[l]!) : Calls P 138 #[.slice (some ⟨blk, off, none⟩) N cap, .int .i64 az, .int .i64 bz, .func (.func g) #[] cb] w (Sts.SmQ enc k w0 blk off N cf ix a b d) := by
 subst ea eb
 have h := AnyQ.insertionSortCmpFunc_w L20 k (by rw [e24]; exact L.aE) (by rw [e24]; exact L.zE) enc cf g cb blk off cap a b d0 d w0 w eg (by rw [h0]; exact hcmp) R omg S (Sts.swo hcf) hab omg omg
 rw [e20, hd] at h
 refine h.mono ?_
 rintro e w' ⟨rfl, S'⟩
 have hs := Kst.ins_stable (ix := ix) hcf d a b hab omg hi
 exact ⟨rfl, _, hs.1.1.trans hd, hs.1, hs.2, S'⟩
theorem Sts.symMergeZ {P : Program} {α : Type} [Inhabited α] {k : Nat} (L : Sts.Lay P k) (enc : α → List Value) (g : Nat) (cb : Array Value) (blk off cap : Nat) (d0 : Array α) (w0 : World) (N : Nat)
  (R : RowK enc k w0 blk off d0) (h0 : d0.size = N) (hsz : N < 4611686018427387904)
  (cf : α → α → Int) (ix : α → Nat) (eg : ∀ args w, (callFunc g args).run P w = .ok (.enter g args) w) (hcmp : CmpLays P g cb enc k cf blk off N w0) (hcf : Kst.Cmp cf) (a m b : Nat) (az mz bz : Int) (ea : az = a) (em : mz = m) (eb : bz = b) (d : Array α) (w : World) (ham : a < m) (hmb : m < b) (hbN : b ≤ N) (hd : d.size = N) (S : SWK enc k w0 blk off d w) (T : Kst.Two cf ix d a m b) :
  Calls P 139 #[.slice (some ⟨blk, off, none⟩) N cap, .int .i64 az, .int .i64 mz, .int .i64 bz, .func (.func g) #[] cb] w (Sts.SmQ enc k w0 blk off N cf ix a b d) := by
 subst ea em eb
 exact Sts.symMerge L enc g cb blk off cap d0 w0 N R h0 hsz cf ix eg hcmp hcf (b - a) a m b d w nlr ham hmb hbN hd S T
theorem Sts.stable {P : Program} {α : Type} [Inhabited α] {k : Nat} (L : Sts.Lay P k) (enc : α → List Value) (g : Nat) (cb : Array Value) (blk off cap : Nat) (d0 : Array α) (w0 : World) (N : Nat)
  (R : RowK enc k w0 blk off d0) (h0 : d0.size = N) (hsz : N < 4611686018427387904)
  (cf : α → α → Int) (ix : α → Nat) (eg : ∀ args w, (callFunc g args).run P w = .ok (.enter g args) w) (hcmp : CmpLays P g cb enc k cf blk off N w0) (hcf : Kst.Cmp cf) (ρ : Ren) (L20 : SlLaysF0.n20 P ρ) (e20 : ρ.f 20 = 138) (e24 : ρ.t 24 = 60) (hN : N ≤ 1000000000) (d : Array α) (w : World) (hd : d.size = N) (S : SWK enc k w0 blk off d w) (hi : ∀ k l, k < l → l < N → ix d[k]! < ix d[l]!) :
  Calls P 105 #[.slice (some ⟨blk, off, none⟩) N cap, .int .i64 N, .func (.func g) #[] cb] w (Sts.SmQ enc k w0 blk off N cf ix 0 N d) := by
 have HIN : Aside _ := Sts.ins L enc g cb blk off cap d0 w0 N R h0 hsz cf ix eg hcmp hcf ρ L20 e20 e24
 have HSY : Aside _ := Sts.symMergeZ L enc g cb blk off cap d0 w0 N R h0 hsz cf ix eg hcmp hcf
 have HCF : Aside (Kst.Cmp cf) := hcf
 have S0 : Aside (SWK enc k w0 blk off d w) := S
 have I0 : Aside (Kst.Ins cf ix N 0 d) := Kst.ins_start hd hi
 have P0 : Aside (PermIn 0 N d d) := permIn_refl d 0 N
 clear S hcmp hcf hi
 obtain ⟨mixed, -, -, -, -, t0, a0, z0, v0, t3, a3, z3, v3, t4, a4, z4, v4, t39, a39, z39, v39, t22, a22, z22, v22, t25, a25, z25, v25, aE, zE⟩ := id L
 have u0 := run_underlying t0; have u3 := run_underlying t3; have u4 := run_underlying t4; have u39 := run_underlying t39; have u22 := run_underlying t22; have u25 := run_underlying t25
 have eSw := Sts.eSw L
 have eRo := Sts.eRo L
 have eSy := Sts.eSy L
 have eSt := Sts.eSt L
 have eIn : ∀ args w, (callFunc 138 args).run P w = .ok (.enter 138 args) w := by have h := Bears.enters L20.f20 rfl; rw [e20] at h; exact h
 clear e20 e24
 have FG := L.fSt
 go_enter FG, Tryz.ntmps105
 go_wp2_with fail
 go_loopg [7, 8] N (fun kx s7 s8 wr => ∃ (a : Nat) (dk : Array α), s7 = .int .i64 a ∧ s8 = .int .i64 ((a : Int) + 20) ∧ a ≤ N ∧ N - a ≤ kx ∧ Aside (Kst.Ins cf ix N a dk) ∧ Aside (PermIn 0 N d dk) ∧ Aside (SWK enc k w0 blk off dk wr))
 case atStart => exact ⟨0, d, rfl, by first | rfl | simp, by omega, by omega, I0, P0, S0⟩
 case round =>
  clear S0 I0 P0
  obtain ⟨a, dk, rfl, rfl, haN, hkx, HI, HP, S1⟩ := hrel
  by_cases hlt : a + 20 ≤ N
  ·have hltz : (a : Int) + 20 ≤ (N : Int) := by omega
   go_wp2_with (go_at_call 138; refine (HIN.out a (a + 20) (a : Int) ((a : Int) + 20) rfl omg dk wr omg hlt HI.out.size S1.out (HI.out.incr hlt)).mono ?_; rintro _ w2 ⟨rfl, d2, h1, h2, h3, h4⟩; have S2 : Aside _ := h4; have I2 : Aside (Kst.Ins cf ix N (a + 20) d2) := HI.out.step hlt h2 h3; have P2 : Aside (PermIn 0 N d d2) := permIn_trans _ _ _ _ _ HP.out (permIn_mono _ _ _ _ 0 N omg hlt (by rw [HI.out.size]; exact Nat.le_refl _) h2); clear h2 h3 h4)
   go_roundg (N - (a + 20))
   case measure => omega
   case rel => exact ⟨a + 20, d2, by first | rfl | go_num | simp, by first | rfl | go_num | simp, hlt, Nat.le_refl _, I2, P2, S2⟩
  ·have hltz : ¬ (a : Int) + 20 ≤ (N : Int) := by omega
   go_wp2_with (go_at_call 138; refine (HIN.out a N (a : Int) (N : Int) rfl rfl dk wr haN nlr HI.out.size S1.out (HI.out.incr nlr)).mono ?_; rintro _ w2 ⟨rfl, d2, h1, h2, h3, h4⟩; have S2 : Aside (SWK enc k w0 blk off d2 w2) := h4; have I2 : Aside (Kst.Runs cf ix N 20 0 d2) := HI.out.finish omg h2 h3; have P2 : Aside (PermIn 0 N d d2) := permIn_trans _ _ _ _ _ HP.out (permIn_mono _ _ _ _ 0 N omg nlr (by rw [HI.out.size]; exact Nat.le_refl _) h2); clear h2 h3 h4)
   clear HI HP S1
   go_loopg [6] N (fun kx s6 wr => ∃ (B : Nat) (dk : Array α), s6 = .int .i64 B ∧ 0 < B ∧ N - B ≤ kx ∧ Aside (Kst.Runs cf ix N B 0 dk) ∧ Aside (PermIn 0 N d dk) ∧ Aside (SWK enc k w0 blk off dk wr))
   case atStart => exact ⟨20, d2, rfl, by omega, by omega, I2, P2, S2⟩
   case round =>
    clear S2 I2 P2
    obtain ⟨B, dk, rfl, hB0, hkB, HR, HP, S1⟩ := hrel
    by_cases hBN : B < N
    ·have hBz : (B : Int) < (N : Int) := by omega
     go_wp2_with fail
     go_loopg [7, 8] N (fun kx s7 s8 wr => ∃ (a : Nat) (dk : Array α), s7 = .int .i64 a ∧ s8 = .int .i64 ((a : Int) + 2 * (B : Int)) ∧ a ≤ N ∧ N - a ≤ kx ∧ Aside (Kst.Runs cf ix N B a dk) ∧ Aside (PermIn 0 N d dk) ∧ Aside (SWK enc k w0 blk off dk wr))
     case atStart => exact ⟨0, dk, rfl, by first | rfl | simp, by omega, by omega, HR, HP, S1⟩
     case round =>
      clear S1 HR HP
      obtain ⟨a, dk, rfl, rfl, haN, hka, HR, HP, S1⟩ := hrel
      by_cases hle : a + 2 * B ≤ N
      ·have hlz : (a : Int) + 2 * (B : Int) ≤ (N : Int) := by omega
       go_wp2_with (go_at_call 139; refine (HSY.out a (a + B) (a + 2 * B) (a : Int) ((a : Int) + (B : Int)) ((a : Int) + 2 * (B : Int)) rfl omg omg dk _ omg omg hle HR.out.size S1.out (Kst.two_of HCF.out HR.out omg omg)).mono ?_; rintro _ w3 ⟨rfl, d3, h1, h2, h3, h4⟩; have S3 : Aside _ := h4; have R3 : Aside (Kst.Runs cf ix N B (a + 2 * B) d3) := HR.out.step hle h2 h3; have P3 : Aside (PermIn 0 N d d3) := permIn_trans _ _ _ _ _ HP.out (permIn_mono _ _ _ _ 0 N omg hle (by rw [HR.out.size]; exact Nat.le_refl _) h2); clear h2 h3 h4)
       go_roundg (N - (a + 2 * B))
       case measure => omega
       case rel => exact ⟨a + 2 * B, d3, by first | rfl | (congr 1; omega), by first | rfl | (congr 1; omega), hle, Nat.le_refl _, R3, P3, S3⟩
      ·have hlz : ¬ (a : Int) + 2 * (B : Int) ≤ (N : Int) := by omega
       by_cases hm : a + B < N
       ·have hmz : (a : Int) + (B : Int) < (N : Int) := by omega
        go_wp2_with (go_at_call 139; refine (HSY.out a (a + B) N (a : Int) ((a : Int) + (B : Int)) (N : Int) rfl omg rfl dk _ omg hm nlr HR.out.size S1.out (Kst.two_of HCF.out HR.out omg omg)).mono ?_; rintro _ w3 ⟨rfl, d3, h1, h2, h3, h4⟩; have S3 : Aside _ := h4; have R3 : Aside (Kst.Runs cf ix N (2 * B) 0 d3) := HR.out.finish omg h2 h3; have P3 : Aside (PermIn 0 N d d3) := permIn_trans _ _ _ _ _ HP.out (permIn_mono _ _ _ _ 0 N omg nlr (by rw [HR.out.size]; exact Nat.le_refl _) h2); clear h2 h3 h4)
        go_roundg (N - 2 * B)
        case measure => omega
        case rel => exact ⟨2 * B, d3, by first | rfl | (congr 1; omega), by omega, Nat.le_refl _, R3, P3, S3⟩
       ·have hmz : ¬ (a : Int) + (B : Int) < (N : Int) := by omega
        have R3 : Aside (Kst.Runs cf ix N (2 * B) 0 dk) := HR.out.finish0 omg
        go_wp2_with fail
        go_roundg (N - 2 * B)
        case measure => omega
        case rel => exact ⟨2 * B, dk, by first | rfl | (congr 1; omega), by omega, Nat.le_refl _, R3, HP, S1⟩
    ·have hBz : ¬ (B : Int) < (N : Int) := by omega
     have SZ : Aside (dk.size = N) := HR.out.size
     have SO : Aside (SortedIn (Kst.stl cf ix) 0 N dk) := HR.out.all omg
     clear HR
     go_wp2
     go_end0
     exact ⟨rfl, dk, SZ.out, HP.out, SO.out, S1.out⟩
theorem Sts.stable_none {P : Program} {k : Nat} (L : Sts.Lay P k) (ρ : Ren) (L20 : SlLaysF0.n20 P ρ) (e20 : ρ.f 20 = 138) (p : Option Addr) (cap : Nat) (fv : Value) (w : World) :
  Calls P 105 #[.slice p 0 cap, .int .i64 0, fv] w fun e w' => e = .returned (.tuple #[]) ∧ w' = w := by
 obtain ⟨mixed, -, -, -, -, t0, a0, z0, v0, t3, a3, z3, v3, t4, a4, z4, v4, t39, a39, z39, v39, t22, a22, z22, v22, t25, a25, z25, v25, aE, zE⟩ := id L
 have u0 := run_underlying t0; have u3 := run_underlying t3; have u4 := run_underlying t4; have u39 := run_underlying t39; have u22 := run_underlying t22; have u25 := run_underlying t25
 have eSw := Sts.eSw L
 have eRo := Sts.eRo L
 have eSy := Sts.eSy L
 have eSt := Sts.eSt L
 have eIn : ∀ args w, (callFunc 138 args).run P w = .ok (.enter 138 args) w := by have h := Bears.enters L20.f20 rfl; rw [e20] at h; exact h
 have hi := fun W => AnyF.insertionSortCmpFunc_none L20 p cap fv W
 simp only [e20] at hi
 clear e20
 have FG := L.fSt
 go_enter FG, Tryz.ntmps105
 go_wp2
 refine wp_loop_rounds 1 ?_
 rw [rounds_succ]
 go_wp2_with (go_at_fn 138; refine (hi _).mono ?_; rintro e w' ⟨rfl, rfl⟩)
 refine wp_loop_rounds 1 ?_
 rw [rounds_succ]
 go_wp2
 go_end0
 exact ⟨rfl, rfl⟩
theorem Sts.sort_none {P : Program} {k : Nat} (L : Sts.Lay P k) (FS : P.funcs[60]? = some Tryz.f60) (ρ : Ren) (L20 : SlLaysF0.n20 P ρ) (e20 : ρ.f 20 = 138) (p : Option Addr) (cap : Nat) (fv : Value) (w : World) :
  Calls P 60 #[.slice p 0 cap, fv] w fun e w' => e = .returned (.tuple #[]) ∧ w' = w := by
 have hi := fun W => Sts.stable_none L ρ L20 e20 p cap fv W
 obtain ⟨mixed, -, -, -, -, t0, a0, z0, v0, t3, a3, z3, v3, t4, a4, z4, v4, t39, a39, z39, v39, t22, a22, z22, v22, t25, a25, z25, v25, aE, zE⟩ := id L
 have u0 := run_underlying t0; have u3 := run_underlying t3; have u4 := run_underlying t4; have u39 := run_underlying t39; have u22 := run_underlying t22; have u25 := run_underlying t25
 have eSw := Sts.eSw L
 have eRo := Sts.eRo L
 have eSy := Sts.eSy L
 have eSt := Sts.eSt L
 have FG := FS
 go_enter FG, Tryz.ntmps60
 go_wp2_with (go_at_fn 105; refine (hi _).mono ?_; rintro e w' ⟨rfl, rfl⟩)
 go_end0
 exact ⟨rfl, rfl⟩
theorem Sts.sort {P : Program} {α : Type} [Inhabited α] {k : Nat} (L : Sts.Lay P k) (enc : α → List Value) (g : Nat) (cb : Array Value) (blk off cap : Nat) (d0 : Array α) (w0 : World) (N : Nat)
  (R : RowK enc k w0 blk off d0) (h0 : d0.size = N) (hsz : N < 4611686018427387904)
  (cf : α → α → Int) (ix : α → Nat) (eg : ∀ args w, (callFunc g args).run P w = .ok (.enter g args) w) (hcmp : CmpLays P g cb enc k cf blk off N w0) (hcf : Kst.Cmp cf) (FS : P.funcs[60]? = some Tryz.f60) (ρ : Ren) (L20 : SlLaysF0.n20 P ρ) (e20 : ρ.f 20 = 138) (e24 : ρ.t 24 = 60) (hN : N ≤ 1000000000) (d : Array α) (w : World) (hd : d.size = N) (S : SWK enc k w0 blk off d w) (hi : ∀ k l, k < l → l < N → ix d[k]! < ix d[l]!) :
  Calls P 60 #[.slice (some ⟨blk, off, none⟩) N cap, .func (.func g) #[] cb] w (Sts.SmQ enc k w0 blk off N cf ix 0 N d) := by
 have hst : Aside _ := fun W (S : SWK enc k w0 blk off d W) => Sts.stable L enc g cb blk off cap d0 w0 N R h0 hsz cf ix eg hcmp hcf ρ L20 e20 e24 hN d W hd S hi
 have S0 : Aside (SWK enc k w0 blk off d w) := S
 clear S hi hcmp hcf e20 e24
 obtain ⟨mixed, -, -, -, -, t0, a0, z0, v0, t3, a3, z3, v3, t4, a4, z4, v4, t39, a39, z39, v39, t22, a22, z22, v22, t25, a25, z25, v25, aE, zE⟩ := id L
 have u0 := run_underlying t0; have u3 := run_underlying t3; have u4 := run_underlying t4; have u39 := run_underlying t39; have u22 := run_underlying t22; have u25 := run_underlying t25
 have eSw := Sts.eSw L
 have eRo := Sts.eRo L
 have eSy := Sts.eSy L
 have eSt := Sts.eSt L
 have FG := FS
 go_enter FG, Tryz.ntmps60
 go_wp2_with (go_at_fn 105; refine (hst.out _ (by first | exact S0.out | exact S0.out.drew)).mono ?_; rintro e w' ⟨rfl, h'⟩; have HH : Aside _ := h'; clear h')
 go_end0
 exact ⟨rfl, HH.out⟩
theorem Sts.sort_own {P : Program} {k : Nat} {β : Type} [Inhabited β] (L : Sts.Lay P k) (FS : P.funcs[60]? = some Tryz.f60) (ρ : Ren) (L20 : SlLaysF0.n20 P ρ) (e20 : ρ.f 20 = 138) (e24 : ρ.t 24 = 60) (enc : β → List Value) (hk : ∀ x, (enc x).length = k) (h1 : ∀ x, ∀ v ∈ enc x, v.oneCell' = true)
  (cf : β → β → Int) (hO : Kst.Cmp cf) (g0 : Nat) (cb : Array Value) (eg : ∀ args w, (callFunc g0 args).run P w = .ok (.enter g0 args) w)
  (hcmp : ∀ (x y : β) (W : World), Calls P g0 (#[.agg (enc x).toArray, .agg (enc y).toArray] ++ cb) W fun e w' => e = .returned (.int .i64 (cf x y)) ∧ RowKit.Below W.heap.size W w')
  (v : Value) (s : Nat) (T : TypeId) (l : List β) (w : World) (hb : l.length ≤ 1000000000) (hS : w.ownsRow s T k v l.length (l.flatMap enc)) :
  Calls P 60 #[v, .func (.func g0) #[] cb] w
   fun e w' => e = .returned (.tuple #[]) ∧ w'.ownsRow s T k v l.length ((l.mergeSort fun x y => decide (cf x y ≤ 0)).flatMap enc) ∧ Kit.Exc (fun q => v.ownBlock = some q) w w' := by
 rcases hS.2 with ⟨rfl, hl⟩ | ⟨g, cap, cur, rfl, hg, hh, h2, h3, h4, h5⟩
 ·obtain rfl := List.eq_nil_of_length_eq_zero hl
  refine (Sts.sort_none L FS ρ L20 e20 none 0 _ w).mono ?_
  rintro e w' ⟨rfl, rfl⟩
  exact ⟨rfl, by simpa using hS, Kit.Exc.refl _ _⟩
 ·have hlt := (Array.getElem?_eq_some_iff.1 hh).1
  obtain ⟨d, hdd⟩ : ∃ d : Array (β × Nat), d = l.zipIdx.toArray := ⟨_, rfl⟩
  have hds : d.size = l.length := by rw [hdd]; simp
  have hfe : d.toList.flatMap (fun p => enc p.1) = l.flatMap enc := by
   rw [hdd]
   have e1 : (l.zipIdx.map Prod.fst).flatMap enc = l.zipIdx.flatMap (fun p => enc p.1) := by rw [List.flatMap_map]
   rw [List.zipIdx_map_fst] at e1
   simpa using e1.symm
  have hfl := Kit.flat_len (fun p : β × Nat => enc p.1) k (fun p => hk p.1) d.toList
  have hH : HoldsK (fun p : β × Nat => enc p.1) k w g 0 d := fun j hj => by
   rw [size_flatK] at hj
   refine ⟨?_, frozen_of_row _ _ _ _ _ hh⟩
   have e1 := Kit.flatK_get' (fun p : β × Nat => enc p.1) k (fun p => hk p.1) d j (by simpa using hj)
   simp only [World.cell?, hh, Nat.zero_add]
   rw [hfe, ← h5] at e1
   rw [show id ((flatK (fun p : β × Nat => enc p.1) k d)[j]!) = (flatK (fun p : β × Nat => enc p.1) k d)[j]! from rfl, e1, List.getElem?_take_of_lt (by rw [hds] at hj; omega)]
   simp
  have hcmp' : CmpLays P g0 cb (fun p : β × Nat => enc p.1) k (fun p q => cf p.1 q.1) g 0 l.length w := fun _ _ _ _ x y => Dr.calls_lays (hcmp x.1 y.1 _)
  have hix : ∀ i j, i < j → j < l.length → (d[i]!).2 < (d[j]!).2 := fun i j hij hj => by
   rw [hdd, getElem!_pos l.zipIdx.toArray i (by simp; omega), getElem!_pos l.zipIdx.toArray j (by simp; omega)]
   simpa using hij
  have hS0 : SWK (fun p : β × Nat => enc p.1) k w g 0 d w := ⟨0, #[], by unfold sortWorldK; rw [grow_empty]; exact (putRowK_self (fun p : β × Nat => enc p.1) k w g 0 d hH).symm⟩
  refine (Sts.sort L (fun p : β × Nat => enc p.1) g0 cb g 0 cap d w l.length ⟨fun p => hk p.1, fun p => h1 p.1, hH, hlt⟩ hds omg (fun p q => cf p.1 q.1) Prod.snd eg hcmp' (Kst.cmp_fst hO) FS ρ L20 e20 e24 hb d w hds hS0 hix).mono ?_
  rintro e w' ⟨rfl, d', hsz, hp, hs, n, os, rfl⟩
  have hex := Kit.row_exc (fun p : β × Nat => enc p.1) k w g n d' os
  have hpl : d'.toList.Perm l.zipIdx := by
   have := hp.2.2
   have e1 : d'.extract 0 l.length = d' := by rw [← hsz]; simp
   have e2 : d.extract 0 l.length = d := by rw [← hds]; simp
   rw [e1, e2] at this
   rw [hdd] at this
   simpa using this
  have hpw := Kit.sorted_pair (Kst.stl (fun p q : β × Nat => cf p.1 q.1) Prod.snd) d' (by rw [hsz]; exact hs)
  have hst := Kst.stab_eq hO l d'.toList hpl hpw
  have hfe' : d'.toList.flatMap (fun p => enc p.1) = (l.mergeSort fun x y => decide (cf x y ≤ 0)).flatMap enc := by
   rw [← hst, List.flatMap_map]
  have hfl' := Kit.flat_len (fun p : β × Nat => enc p.1) k (fun p => hk p.1) d'.toList
  rw [hfe'] at hfl'
  refine ⟨rfl, ⟨by rw [hfl']; simp [hsz], .inr ⟨g, cap, putCells id 0 (flatK (fun p : β × Nat => enc p.1) k d') cur, rfl, hg, Kit.row_sorted (fun p : β × Nat => enc p.1) k hh, h2, h3, by simp [putCells, h4], ?_⟩⟩, hex.mono (fun q _ e => by simp [Value.ownBlock, e])⟩
  apply List.ext_getElem?
  intro p
  simp only [Array.length_toList] at hfl'
  have hmul : d'.size * k = l.length * k := by rw [hsz]
  by_cases hpp : p < d'.size * k
  ·have e1 := Kit.flatK_get' (fun p : β × Nat => enc p.1) k (fun p => hk p.1) d' p hpp
   rw [List.getElem?_take_of_lt omg, ← hfe', ← e1]
   have e2 : p < cur.size := by have := Nat.mul_le_mul_right k h2; omega
   simp [putCells, e2, hpp]
  ·rw [List.getElem?_take_eq_none omg, List.getElem?_eq_none (by rw [hfl']; omega)]
theorem Sts.laid : Sts.Lay Tryz.prog 14 where
 mixed := by kernel_rfl
 fSw := Tryz.func182
 fRo := Tryz.func168
 fSy := Tryz.func139
 fSt := Tryz.func105
 t0 := Tryz.underlying0
 a0 := Tryz.isAgg0
 z0 := Tryz.sizeOf0
 v0 := Tryz.zeroValue0
 t3 := Tryz.underlying3
 a3 := Tryz.isAgg3
 z3 := Tryz.sizeOf3
 v3 := Tryz.zeroValue3
 t4 := Tryz.underlying4
 a4 := Tryz.isAgg4
 z4 := Tryz.sizeOf4
 v4 := Tryz.zeroValue4
 t39 := Tryz.underlying190
 a39 := Tryz.isAgg190
 z39 := Tryz.sizeOf190
 v39 := Tryz.zeroValue190
 t22 := Tryz.underlying30
 a22 := Tryz.isAgg30
 z22 := Tryz.sizeOf30
 v22 := Tryz.zeroValue30
 t25 := Tryz.underlying137
 a25 := Tryz.isAgg137
 z25 := Tryz.sizeOf137
 v25 := Tryz.zeroValue137
 aE := Tryz.isAgg60
 zE := Tryz.sizeOf60
def Sts.ren : Go.Shelf.Ren := ⟨fun | 20 => 138 | n => n, fun | 22 => 30 | 24 => 60 | 25 => 137 | 3 => 3 | 0 => 0 | 4 => 4 | n => n, fun | n => n⟩
theorem Sts.laid20 : SlLaysF0.n20 Tryz.prog Sts.ren where
 mixed := by kernel_rfl
 f20 := ⟨Tryz.f138.name, by decide, Tryz.func138.trans (congrArg some (by kernel_rfl))⟩
 t0 := Tryz.underlying0
 a0 := Tryz.isAgg0
 z0 := Tryz.sizeOf0
 v0 := Tryz.zeroValue0
 t3 := Tryz.underlying3
 a3 := Tryz.isAgg3
 z3 := Tryz.sizeOf3
 v3 := Tryz.zeroValue3
 t4 := Tryz.underlying4
 a4 := Tryz.isAgg4
 z4 := Tryz.sizeOf4
 v4 := Tryz.zeroValue4
 t22 := Tryz.underlying30
 a22 := Tryz.isAgg30
 z22 := Tryz.sizeOf30
 v22 := Tryz.zeroValue30
 t25 := Tryz.underlying137
 a25 := Tryz.isAgg137
 z25 := Tryz.sizeOf137
 v25 := Tryz.zeroValue137
theorem Sts.laidS : Tryz.prog.funcs[60]? = some Tryz.f60 := Tryz.func60
end Go.Proofs.YtedolbjgdedoaaaGreatDoor

namespace Go.Proofs.YtedolbjgdedoaaaGreatDoor
open Go.Shelf
def sortSign_ren : Go.Shelf.Ren := ⟨fun | 6 => 68 | 15 => 118 | 14 => 117 | 28 => 152 | 29 => 153 | 20 => 138 | 21 => 145 | 22 => 146 | 23 => 147 | 24 => 148 | 25 => 149 | 26 => 150 | 27 => 151 | 46 => 171 | 47 => 172 | 48 => 173 | 49 => 174 | 50 => 175 | 57 => 184 | n => n, fun | 22 => 30 | 24 => 60 | 25 => 137 | 3 => 3 | 39 => 190 | 0 => 0 | 53 => 218 | 55 => 220 | 4 => 4 | 46 => 211 | 45 => 210 | 50 => 215 | 5 => 5 | 9 => 9 | 66 => 231 | 70 => 128 | 76 => 236 | 77 => 237 | n => n, fun | n => n⟩
theorem sortSign : Go.Proofs.SlLaysF0.n6 Tryz.prog sortSign_ren where
 mixed := by kernel_rfl
 f6 := ⟨Tryz.f68.name, by decide, Tryz.func68.trans (congrArg some (by kernel_rfl))⟩
 f14 := ⟨Tryz.f117.name, by decide, Tryz.func117.trans (congrArg some (by kernel_rfl))⟩
 f15 := Tryz.func118.trans (congrArg some (by kernel_rfl))
 f20 := ⟨Tryz.f138.name, by decide, Tryz.func138.trans (congrArg some (by kernel_rfl))⟩
 f21 := ⟨Tryz.f145.name, by decide, Tryz.func145.trans (congrArg some (by kernel_rfl))⟩
 f22 := ⟨Tryz.f146.name, by decide, Tryz.func146.trans (congrArg some (by kernel_rfl))⟩
 f23 := ⟨Tryz.f147.name, by decide, Tryz.func147.trans (congrArg some (by kernel_rfl))⟩
 f24 := ⟨Tryz.f148.name, by decide, Tryz.func148.trans (congrArg some (by kernel_rfl))⟩
 f25 := ⟨Tryz.f149.name, by decide, Tryz.func149.trans (congrArg some (by kernel_rfl))⟩
 f26 := ⟨Tryz.f150.name, by decide, Tryz.func150.trans (congrArg some (by kernel_rfl))⟩
 f27 := ⟨Tryz.f151.name, by decide, Tryz.func151.trans (congrArg some (by kernel_rfl))⟩
 f28 := Tryz.func152.trans (congrArg some (by kernel_rfl))
 f29 := Tryz.func153.trans (congrArg some (by kernel_rfl))
 f46 := ⟨Tryz.f171.name, by decide, Tryz.func171.trans (congrArg some (by kernel_rfl))⟩
 f47 := Tryz.func172.trans (congrArg some (by kernel_rfl))
 f48 := Tryz.func173.trans (congrArg some (by kernel_rfl))
 f49 := ⟨Tryz.f174.name, by decide, Tryz.func174.trans (congrArg some (by kernel_rfl))⟩
 f50 := ⟨Tryz.f175.name, by decide, Tryz.func175.trans (congrArg some (by kernel_rfl))⟩
 f57 := ⟨Tryz.f184.name, by decide, Tryz.func184.trans (congrArg some (by kernel_rfl))⟩
 t0 := Tryz.underlying0
 a0 := Tryz.isAgg0
 z0 := Tryz.sizeOf0
 v0 := Tryz.zeroValue0
 t3 := Tryz.underlying3
 a3 := Tryz.isAgg3
 z3 := Tryz.sizeOf3
 v3 := Tryz.zeroValue3
 t4 := Tryz.underlying4
 a4 := Tryz.isAgg4
 z4 := Tryz.sizeOf4
 v4 := Tryz.zeroValue4
 t5 := Tryz.underlying5
 a5 := Tryz.isAgg5
 z5 := Tryz.sizeOf5
 v5 := Tryz.zeroValue5
 t9 := Tryz.underlying9
 a9 := Tryz.isAgg9
 z9 := Tryz.sizeOf9
 v9 := Tryz.zeroValue9
 t22 := Tryz.underlying30
 a22 := Tryz.isAgg30
 z22 := Tryz.sizeOf30
 v22 := Tryz.zeroValue30
 t25 := Tryz.underlying137
 a25 := Tryz.isAgg137
 z25 := Tryz.sizeOf137
 v25 := Tryz.zeroValue137
 t39 := Tryz.underlying190
 a39 := Tryz.isAgg190
 z39 := Tryz.sizeOf190
 v39 := Tryz.zeroValue190
 t45 := Tryz.underlying210
 a45 := Tryz.isAgg210
 z45 := Tryz.sizeOf210
 v45 := Tryz.zeroValue210
 t46 := Tryz.underlying211
 a46 := Tryz.isAgg211
 z46 := Tryz.sizeOf211
 v46 := Tryz.zeroValue211
 t50 := Tryz.underlying215
 a50 := Tryz.isAgg215
 z50 := Tryz.sizeOf215
 v50 := Tryz.zeroValue215
 t53 := Tryz.underlying218
 a53 := Tryz.isAgg218
 z53 := Tryz.sizeOf218
 v53 := Tryz.zeroValue218
 t55 := Tryz.underlying220
 a55 := Tryz.isAgg220
 z55 := Tryz.sizeOf220
 v55 := Tryz.zeroValue220
 t66 := Tryz.underlying231
 a66 := Tryz.isAgg231
 z66 := Tryz.sizeOf231
 v66 := Tryz.zeroValue231
 t70 := Tryz.underlying128
 a70 := Tryz.isAgg128
 z70 := Tryz.sizeOf128
 v70 := Tryz.zeroValue128
 t76 := Tryz.underlying236
 a76 := Tryz.isAgg236
 z76 := Tryz.sizeOf236
 v76 := Tryz.zeroValue236
 t77 := Tryz.underlying237
 a77 := Tryz.isAgg237
 z77 := Tryz.sizeOf237
 v77 := Tryz.zeroValue237
end Go.Proofs.YtedolbjgdedoaaaGreatDoor
