/- Cells of signs. Walks: package pose: within, Check. Walks: package pose: kinds. Plain: what a kind's row asks of a right sign and of a real in form for it. -/
import Derived.Test.YtedolbjgdedoaaaGreatDoorMox
import Derived.Test.YtedolbjgdedoaaaGreatDoorTp
import Derived.Deep.LoopGhost
import Derived.Deep.CutRange
import Derived.Laws.StructEq
import Derived.Test.YtedolbjgdedoaaaGreatDoorKxb
import Derived.Laws.EntriesVeiled
set_option linter.unusedSimpArgs false
set_option linter.unusedVariables false
set_option maxRecDepth 100000
set_option maxHeartbeats 4000000
namespace Go.Proofs.YtedolbjgdedoaaaGreatDoor
open Go.RowKit Go.Shelf
namespace Mo
def sgC (s : Ex.Sg) : List Value := [.int .i64 s.id, .int .i64 s.role, .int .i64 s.bar, .int .i64 s.mark, .int .i64 s.kind, .int .i64 s.side, .int .i64 s.dir, .int .i64 s.level, .int .i64 s.size, .int .i64 s.wth, .int .i64 s.fn, .int .i64 s.fd, .int .i64 s.tn, .int .i64 s.td]
theorem sgC_len (s : Ex.Sg) : (sgC s).length = 14 := rfl
theorem sgC_one (s : Ex.Sg) : ∀ v ∈ sgC s, v.oneCell' = true := by simp [sgC, Value.oneCell']
end Mo
end Go.Proofs.YtedolbjgdedoaaaGreatDoor

namespace Go.Proofs.YtedolbjgdedoaaaGreatDoor
open Go.RowKit Go.Shelf
namespace Mo
abbrev stA (s : St) : Array Value := #[.int .i64 s.x, .int .i64 s.y, .int .i64 s.f, .int .i64 s.d0, .int .i64 s.v0, .int .i64 s.d1, .int .i64 s.v1, .int .i64 s.d2, .int .i64 s.v2, .int .i64 s.d3, .int .i64 s.v3, .int .i64 s.d4, .int .i64 s.v4]
theorem eq_lb (d v : Int) (w : World) : (Op.equalIn 10000 34 (.agg #[.int .i64 d, .int .i64 v]) (.agg #[.int .i64 0, .int .i64 0])).run Tryz.prog w = .ok (d == 0 && v == 0) w := by
 simp [go_sem]
 by_cases h : d = 0
 case neg => simp [h]
 subst h
 by_cases h : v = 0
 case neg => simp [h]
 subst h
 simp
theorem lb_ix (a b c d e f g h k l : Int) (W : World) (i : Nat) (hi : i < 5) : (Instr.index 35 (.agg #[.int .i64 a, .int .i64 b, .int .i64 c, .int .i64 d, .int .i64 e, .int .i64 f, .int .i64 g, .int .i64 h, .int .i64 k, .int .i64 l]) (.int .i64 i)).run Tryz.prog W = .ok (.agg #[.int .i64 ([a, c, e, g, k].getD i 0), .int .i64 ([b, d, f, h, l].getD i 0)]) W := by
 obtain rfl | rfl | rfl | rfl | rfl : i = 0 ∨ i = 1 ∨ i = 2 ∨ i = 3 ∨ i = 4 := by omega
 all_goals kernel_rfl
def limL (s : St) : List (Int × Int) := [(s.d0, s.v0), (s.d1, s.v1), (s.d2, s.v2), (s.d3, s.v3), (s.d4, s.v4)]
theorem ok_list (s : St) : ok s = (Tp.inb s.x (-1073741824) 1073741824 && Tp.inb s.y (-1073741824) 1073741824 && Tp.inb s.f 0 7 && (limL s).all fun p => okL p.1 p.2) := by
 unfold ok okP okF limL
 simp [Bool.and_assoc]
end Mo
theorem po_within (n lo hi : Int) (w : World) : Calls Tryz.prog 58 #[.int .i64 n, .int .i64 lo, .int .i64 hi] w fun e w' => e = .returned (.bool (Tp.inb n lo hi)) ∧ w' = w := by
 unfold Tp.inb
 rcases d1 : decide (lo ≤ n) with _ | _ <;> rcases d2 : decide (n ≤ hi) with _ | _
 all_goals
  go_enter Tryz.func58, Tryz.ntmps58
  go_wp2_with fail
  go_ret
  exact ⟨rfl, rfl⟩
theorem po_check (s : Mo.St) (w : World) : Calls Tryz.prog 25 #[.agg (Mo.stA s)] w fun e w' => e = .returned (.int .i64 (if Mo.ok s = true then 0 else 260)) ∧ Below w.heap.size w w' := by
 obtain ⟨er, her⟩ : ∃ er : Int, (if Mo.ok s = true then 0 else 260) = er := ⟨_, rfl⟩
 rw [her]
 rw [Mo.ok_list] at her
 have HI := qh (fun n lo hi W => po_within n lo hi W)
 obtain ⟨b1, hb1⟩ : ∃ b, Tp.inb s.x (-1073741824) 1073741824 = b := ⟨_, rfl⟩
 obtain ⟨b2, hb2⟩ : ∃ b, Tp.inb s.y (-1073741824) 1073741824 = b := ⟨_, rfl⟩
 obtain ⟨b3, hb3⟩ : ∃ b, Tp.inb s.f 0 7 = b := ⟨_, rfl⟩
 have HI1 := qh (fun W => hb1 ▸ HI.out s.x (-1073741824) 1073741824 W)
 have HI2 := qh (fun W => hb2 ▸ HI.out s.y (-1073741824) 1073741824 W)
 have HI3 := qh (fun W => hb3 ▸ HI.out s.f 0 7 W)
 rw [hb1, hb2, hb3] at her
 have HER := qh her
 have HIX := qh (fun W i hi => Mo.lb_ix s.d0 s.v0 s.d1 s.v1 s.d2 s.v2 s.d3 s.v3 s.d4 s.v4 W i hi)
 clear hb1 hb2 hb3 her
 rcases b1 with _ | _
 case' true =>
  rcases b2 with _ | _
  case' true => rcases b3 with _ | _
 case true.true.false | true.false | false =>
  have HE := qh (show er = 260 by rw [← HER.out]; rfl)
  go_enter Tryz.func25, Tryz.ntmps25
  go_wp2_with (first | (with_reducible refine (HI1.out _).mono ?_; rintro _ w' ⟨rfl, hw⟩; subst w') | (with_reducible refine (HI2.out _).mono ?_; rintro _ w' ⟨rfl, hw⟩; subst w') | (with_reducible refine (HI3.out _).mono ?_; rintro _ w' ⟨rfl, hw⟩; subst w'))
  go_ret
  exact ⟨by rw [HE.out]; rfl, by exact Kit.gr⟩
 replace HER := qh (show (if ((Mo.limL s).all fun p => Mo.okL p.1 p.2) = true then (0 : Int) else 260) = er from HER.out)
 go_enter Tryz.func25, Tryz.ntmps25
 go_wp2_with (first | (with_reducible refine (HI1.out _).mono ?_; rintro _ w' ⟨rfl, hw⟩; subst w') | (with_reducible refine (HI2.out _).mono ?_; rintro _ w' ⟨rfl, hw⟩; subst w') | (with_reducible refine (HI3.out _).mono ?_; rintro _ w' ⟨rfl, hw⟩; subst w'))
 clear HI1 HI2 HI3
 go_loopg [23] 5 (fun kx v23 wr => ∃ i : Nat, v23 = .int .i64 i ∧ i ≤ 5 ∧ 5 - i ≤ kx ∧ Hid (((Mo.limL s).take i).all (fun p => Mo.okL p.1 p.2) = true) ∧ Hid (Below w.heap.size w wr))
 case atStart => exact ⟨0, rfl, by omega, by omega, qh rfl, qh (by exact Kit.gr)⟩
 case round =>
  obtain ⟨i, rfl, hi, hk, HA, HB⟩ := hrel
  by_cases hlt : i < 5
  ·have hltz : (i : Int) < 5 := by omega
   have hix := HIX.out (wr) i hlt
   obtain ⟨d, hd⟩ : ∃ d, [s.d0, s.d1, s.d2, s.d3, s.d4].getD i 0 = d := ⟨_, rfl⟩
   obtain ⟨v, hv⟩ : ∃ d, [s.v0, s.v1, s.v2, s.v3, s.v4].getD i 0 = d := ⟨_, rfl⟩
   rw [hd, hv] at hix
   have HST := qh (show ((Mo.limL s).take (i + 1)).all (fun p => Mo.okL p.1 p.2) = Mo.okL d v by
    have e : ((Mo.limL s).take (i + 1)).all (fun p => Mo.okL p.1 p.2) = (((Mo.limL s).take i).all (fun p => Mo.okL p.1 p.2) && Mo.okL d v) := by
     rw [← hd, ← hv]
     obtain rfl | rfl | rfl | rfl | rfl : i = 0 ∨ i = 1 ∨ i = 2 ∨ i = 3 ∨ i = 4 := by omega
     all_goals simp [Mo.limL, Bool.and_assoc]
    rw [e, HA.out, Bool.true_and])
   have HSX := qh (show Mo.okL d v = false → ((Mo.limL s).all fun p => Mo.okL p.1 p.2) = false from fun h => by
    rw [List.all_eq_false]
    refine ⟨(d, v), ?_, by simp [h]⟩
    rw [← hd, ← hv]
    obtain rfl | rfl | rfl | rfl | rfl : i = 0 ∨ i = 1 ∨ i = 2 ∨ i = 3 ∨ i = 4 := by omega
    all_goals simp [Mo.limL])
   clear hd hv HIX
   have heq := fun W => Mo.eq_lb d v W
   obtain ⟨bz, hbz⟩ : ∃ b, (d == 0 && v == 0) = b := ⟨_, rfl⟩
   obtain ⟨bd, hbd⟩ : ∃ b, Tp.inb d 0 8 = b := ⟨_, rfl⟩
   obtain ⟨bv, hbv⟩ : ∃ b, Tp.inb v 1 3 = b := ⟨_, rfl⟩
   have HJ1 := qh (fun W => hbd ▸ HI.out d 0 8 W)
   have HJ2 := qh (fun W => hbv ▸ HI.out v 1 3 W)
   have HOK := qh (show Mo.okL d v = (bz || (bd && bv)) by unfold Mo.okL; rw [hbz, hbd, hbv])
   simp only [hbz] at heq
   clear hbz hbd hbv
   rcases bz with _ | _
   case' false =>
    rcases bd with _ | _
    case' true => rcases bv with _ | _
   case false.true.false | false.false =>
    have HE := qh (show er = 260 by rw [← HER.out, HSX.out (by rw [HOK.out]; rfl)]; rfl)
    go_wp2_with (first | (with_reducible refine (HJ1.out _).mono ?_; rintro _ w' ⟨rfl, hw⟩; subst w') | (with_reducible refine (HJ2.out _).mono ?_; rintro _ w' ⟨rfl, hw⟩; subst w'))
    go_ret
    exact ⟨by rw [HE.out]; rfl, HB.out.alloc HB.out.size _⟩
   all_goals
    have HE := qh (show ((Mo.limL s).take (i + 1)).all (fun p => Mo.okL p.1 p.2) = true from HST.out.trans (HOK.out.trans rfl))
    go_wp2_with (first | (with_reducible refine (HJ1.out _).mono ?_; rintro _ w' ⟨rfl, hw⟩; subst w') | (with_reducible refine (HJ2.out _).mono ?_; rintro _ w' ⟨rfl, hw⟩; subst w'))
    go_roundg (5 - (i + 1))
    case measure => omega
    case rel => exact ⟨i + 1, by go_num, by omega, Nat.le_refl _, HE, qh (HB.out.alloc HB.out.size _)⟩
  ·obtain rfl : i = 5 := by omega
   have HE := qh (show er = 0 by rw [← HER.out, if_pos (show ((Mo.limL s).all fun p => Mo.okL p.1 p.2) = true from HA.out)])
   go_wp2_with fail
   go_ret
   exact ⟨by rw [HE.out]; rfl, HB.out⟩
end Go.Proofs.YtedolbjgdedoaaaGreatDoor

namespace Go.Proofs.YtedolbjgdedoaaaGreatDoor
open Go.RowKit Go.Shelf
namespace Mo
def kv (a b c d e f g h i j k l : Int) (fn : Nat) : Value := .agg #[.int .i64 a, .int .i64 b, .int .i64 c, .int .i64 d, .int .i64 e, .int .i64 f, .int .i64 g, .int .i64 h, .int .i64 i, .int .i64 j, .int .i64 k, .int .i64 l, .func (.func fn) #[] #[]]
def kF : Int → Option Value := fun x =>
 if x = 9 then some (kv 1 2 0 0 1 3 0 0 0 0 1 3 116)
 else if x = 8 then some (kv 0 0 0 0 0 0 0 0 0 0 0 0 115)
 else if x = 7 then some (kv 0 0 0 0 0 0 0 0 0 0 0 0 114)
 else if x = 6 then some (kv 0 0 0 0 0 0 1 7 0 0 0 0 113)
 else if x = 5 then some (kv 0 0 0 8 1 3 0 0 0 8 1 3 112)
 else if x = 4 then some (kv 1 2 0 8 1 3 0 0 0 8 1 3 111)
 else if x = 3 then some (kv 1 2 0 8 1 3 0 0 0 8 1 3 110)
 else if x = 2 then some (kv 0 0 1 8 0 0 1 16 0 0 0 0 109)
 else if x = 1 then some (kv 1 2 1 8 0 0 1 16 0 0 0 0 108)
 else none
abbrev kZ : Value := .agg #[.int .i64 0, .int .i64 0, .int .i64 0, .int .i64 0, .int .i64 0, .int .i64 0, .int .i64 0, .int .i64 0, .int .i64 0, .int .i64 0, .int .i64 0, .int .i64 0, .nilFunc]
theorem mk : Kit.MTypes Tryz.prog 148 3 146 kZ := ⟨Tryz.underlying3, Tryz.underlying148, fun _ => by kernel_rfl⟩
structure Km (w W : World) (B n : Nat) (f : Int → Option Value) : Prop where
 map : Kit.IMap Tryz.prog 3 W B n f
 bel : Below w.heap.size w W
 hB : w.heap.size + 1 ≤ B
 lim : ∀ j, W.cell? ⟨w.heap.size, j, none⟩ = #[Value.int .i64 0, .int .i64 8, .int .i64 1, .int .i64 3][j]?
theorem Km.put {w W W' : World} {B n n' : Nat} {f : Int → Option Value} (h : Km w W B n f) {p : Int} {u : Value} (hm : Kit.IMap Tryz.prog 3 W' B n' (Kit.putI f p u)) (hg : W.grownBy W' (some B)) : Km w W' B n' (Kit.putI f p u) := by
 have hB := h.hB
 have hl := h.map.lt
 exact ⟨hm, h.bel.grown hg h.bel.size (fun q hq => by cases hq; omega), hB, fun j => (World.cell?_of_block (hg.block w.heap.size omg (fun e => by injection e with e; omega))).trans (h.lim j)⟩
end Mo
theorem po_kinds (w : World) : Calls Tryz.prog 64 #[] w fun e w' => (∃ B, e = .returned (.map (some B)) ∧ w.heap.size ≤ B ∧ Kit.IMap Tryz.prog 3 w' B 9 Mo.kF) ∧ Below w.heap.size w w' := by
 have hmm := @run_makeMap Tryz.prog
 go_enter Tryz.func64, Tryz.ntmps64
 go_upto_region 2 with fail
 refine Kit.wp_name ?_
 intro W1 hW1
 have HK := qh (show Mo.Km w (W1.alloc (.map #[] 0)) W1.heap.size 0 (fun _ => none) by
  rw [hW1]
  refine ⟨Kit.IMap.made _ _ _, by exact Kit.gr, by simp, fun j => by simp [go_sem]⟩)
 have hz : w.heap.size + 1 = W1.heap.size := by rw [hW1]; simp
 clear hW1
 have hl := HK.out.lim
 go_wp2_with (refine Kit.wpList_put_imap _ rfl _ _ _ _ (.inr rfl) 3 146 Mo.kZ Mo.mk _ _ _ rfl HK.out.map ?hn _ rfl _ rfl ?wf ?_; (case hn => (unfold maxLen; omega)); (case wf => rfl); intro w1 hm hg; have HK2 := qh (HK.out.put hm hg); clear HK hm hg hl; have HK := HK2; clear HK2; have hl := HK.out.lim)
 go_ret
 have hm := HK.out.map
 exact ⟨⟨W1.heap.size, rfl, by omega, hm⟩, HK.out.bel⟩
end Go.Proofs.YtedolbjgdedoaaaGreatDoor

namespace Go.Proofs.YtedolbjgdedoaaaGreatDoor
open Go.RowKit
namespace Mo
def fnK (n : Int) : Nat :=
 if n = 9 then 116
 else if n = 8 then 115
 else if n = 7 then 114
 else if n = 6 then 113
 else if n = 5 then 112
 else if n = 4 then 111
 else if n = 3 then 110
 else if n = 2 then 109
 else 108
structure Row (k : Ex.Sg) (r : Uo.Re) (a b c d e f g h i j u v : Int) : Prop where
 row : kF k.kind = some (kv a b c d e f g h i j u v (fnK k.kind))
 side : Tp.inb k.side a b = true
 dir : Tp.inb k.dir c d = true
 level : Tp.inb k.level e f = true
 size : Tp.inb k.size g h = true
 rdir : r.2.2.2 = false → Tp.inb r.2.1 i j = true
 rlev : r.2.2.2 = false → Tp.inb r.2.2.1 u v = true
theorem row_of {k : Ex.Sg} {r : Uo.Re} (hk : Fit k) (hf : form k r = true) : ∃ a b c d e f g h i j u v, Row k r a b c d e f g h i j u v := by
 have c9 : k.kind = 1 ∨ k.kind = 2 ∨ k.kind = 3 ∨ k.kind = 4 ∨ k.kind = 5 ∨ k.kind = 6 ∨ k.kind = 7 ∨ k.kind = 8 ∨ k.kind = 9 := by have := hk.kind; omega
 have h1 := hk.side
 have h2 := hk.dir
 have h3 := hk.level
 have h4 := hk.size
 unfold form at hf
 rw [Bool.and_eq_true] at hf
 replace hf := hf.2
 have X : ∀ {a lo hi : Int}, lo ≤ a → a ≤ hi → Tp.inb a lo hi = true := fun h k => (Tp.inb_iff _ _ _).2 ⟨h, k⟩
 rcases c9 with e | e | e | e | e | e | e | e | e
 all_goals
  rw [e] at hf
  simp [e] at h1 h2 h3 h4
  refine ⟨_, _, _, _, _, _, _, _, _, _, _, _, by rw [e]; rfl, ?_, ?_, ?_, ?_, fun hd => ?_, fun hd => ?_⟩
  iterate 4 (first | exact X omg omg | (rw [h1]; rfl) | (rw [h2]; rfl) | (rw [h3]; rfl) | (rw [h4]; rfl))
  all_goals
   rw [hd] at hf
   simp at hf
   first | exact hf.1 | exact hf.2 | exact X omg omg
end Mo
end Go.Proofs.YtedolbjgdedoaaaGreatDoor
