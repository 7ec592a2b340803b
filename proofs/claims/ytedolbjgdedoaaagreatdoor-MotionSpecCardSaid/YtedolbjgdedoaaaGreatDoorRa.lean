/- Walks: package ratio: the magnitude of a number; Euclid's numbers, one after the other. Walks: package ratio: Euclid's numbers as an iterator. Walks: package ratio: the greatest common divisor. Walks: package ratio: valid ratios; which of two is less. Walks: package ratio: which of two ratios is less. -/
import Derived.Test.YtedolbjgdedoaaaGreatDoorKit
import Derived.Test.YtedolbjgdedoaaaGreatDoorProg
import Derived.RangeFuncNested
import Derived.RangeFuncBound
import Derived.RangeFuncCalls
import Derived.RangeFuncLeaves
import Derived.Shelf.Abstract
import Derived.WalkKit
import Derived.OwnWalkIn
import Derived.TacticsInMore
import Derived.LoopNIn
import Derived.LoopIn
import Derived.WalkSpells
import Derived.WalkLawsBesides
import Derived.Lib.Hide
import Derived.IntWalk
set_option linter.unusedSimpArgs false
set_option linter.unusedVariables false
set_option maxRecDepth 100000
set_option maxHeartbeats 1000000
namespace Go.Proofs.YtedolbjgdedoaaaGreatDoor
open Go.RowKit Go.Shelf

namespace Ra
theorem u64_neg (n : Int) (h1 : -4611686018427387904 ≤ n) (h : n < 0) : IntKind.u64.wrap (-IntKind.u64.wrap n) = n.natAbs := by
 simp only [IntKind.wrap, IntKind.signed, IntKind.bits]
 simp
 omega
def rems (a b : Nat) : List Nat := if h : b = 0 then [] else a :: (if a % b = 0 then [b] else rems b (a % b))
termination_by b
decreasing_by exact Nat.mod_lt _ (Nat.pos_of_ne_zero h)
theorem rems_end (a b : Nat) (h : b ≠ 0) (h2 : a % b = 0) : rems a b = [a, b] := by rw [rems, dif_neg h, if_pos h2]
theorem rems_on (a b : Nat) (h : b ≠ 0) (h2 : a % b ≠ 0) : rems a b = a :: rems b (a % b) := by rw [rems, dif_neg h, if_neg h2]
theorem rems_last (d : Nat) : ∀ (b a : Nat), b ≠ 0 → (rems a b).getLastD d = Nat.gcd a b := by
 intro b
 induction b using Nat.strongRecOn generalizing d with
 | ind b ih =>
  intro a h
  by_cases h2 : a % b = 0
  ·rw [rems_end a b h h2, Nat.gcd_comm, Nat.gcd_rec b a, h2, Nat.gcd_zero_left]
   simp
  ·rw [rems_on a b h h2, Nat.gcd_comm, Nat.gcd_rec b a, Nat.gcd_comm, List.getLastD_cons]
   exact ih (a % b) (Nat.mod_lt _ (Nat.pos_of_ne_zero h)) a b h2
end Ra

theorem ra_mag (n : Int) (w : World) (h1 : -4611686018427387904 ≤ n) (h2 : n ≤ 4611686018427387904) :
  Calls Tryz.prog 141 #[.int .i64 n] w fun e w' => e = .returned (.int .u64 n.natAbs) ∧ w = w' := by
 by_cases h : n < 0
 ·have hn := Ra.u64_neg n h1 h
  go_enter Tryz.func141, Tryz.ntmps141
  go_wp2
  go_ret
  exact ⟨by simp [hn], rfl⟩
 ·have hn : n = n.natAbs := by omega
  have HN := qh hn; clear hn
  go_enter Tryz.func141, Tryz.ntmps141
  go_wp2
  go_ret
  exact ⟨by simp [← HN.out], rfl⟩

theorem ra_rems (a b : Int) (w : World) :
  Calls Tryz.prog 169 #[.int .u64 a, .int .u64 b] w fun e w' => e = .returned (.func (.func 183) #[] #[.pointer (some ⟨w.heap.size, 0, none⟩), .pointer (some ⟨w.heap.size + 1, 0, none⟩)]) ∧
   w' = (w.alloc (.cells #[.int .u64 a] 190)).alloc (.cells #[.int .u64 b] 190) := by
 go_enter Tryz.func169, Tryz.ntmps169
 go_wp2
 go_ret
 exact ⟨rfl, rfl⟩
end Go.Proofs.YtedolbjgdedoaaaGreatDoor

namespace Go.Proofs.YtedolbjgdedoaaaGreatDoor
open Go.RowKit Go.Shelf

def Ra.cellN (W : World) (b : Nat) : Nat := match W.cell? ⟨b, 0, none⟩ with | some (.int _ n) => n.toNat | _ => 0
theorem Ra.cellN_eq {W : World} {b : Nat} {t : TypeId} {n : Nat} (h : Boxed W b t (.int .u64 n)) : Ra.cellN W b = n := by
 simp [Ra.cellN, h.cell]

theorem ra_iter (n : Nat) (hn : 1 ≤ n) (Ba Bb : Nat) (hne : Ba ≠ Bb) (a b : Nat) (ha : a ≠ 0) (hb : b ≠ 0) (hla : a < 18446744073709551616) (hlb : b < 18446744073709551616) (w : World)
  (bA : Boxed w Ba 190 (.int .u64 a)) (bB : Boxed w Bb 190 (.int .u64 b)) :
  Kit.SeqE Fence.wide n Tryz.prog 183 #[.pointer (some ⟨Ba, 0, none⟩), .pointer (some ⟨Bb, 0, none⟩)] (fun x : Nat => #[.int .u64 x]) (fun k => k = Ba ∨ k = Bb) (fun xs => xs = Ra.rems a b) (fun _ => True) (fun _ _ => True) w := by
 intro l J Jx Y0 W hW hl1 hl2 hY0 hJ hJx hY h0
 have zA := bA.lt
 have zB := bB.lt
 replace bA : Boxed W Ba _ _ := (hW.block Ba bA.lt).trans bA
 replace bB : Boxed W Bb _ _ := (hW.block Bb bB.lt).trans bB
 refine callsIn_of_wp Tryz.func183 rfl trivial ?_ rfl
 simp only [Tryz.ntmps183, List.size_toArray, List.length_cons, List.length_nil, Nat.reduceAdd, Nat.reduceSub, Array.replicate_succ, Array.replicate_zero, List.push_toArray, List.append_toArray, List.nil_append, List.cons_append]
 gi_wp2
 gi_loopw [6] (fun _ wr => ∃ (pre : List Nat) (x y : Nat) (Y : Nat → Prop), Boxed wr Ba 190 (.int .u64 x) ∧ Boxed wr Bb 190 (.int .u64 y) ∧ x ≠ 0 ∧ y ≠ 0 ∧ x < 18446744073709551616 ∧ y < 18446744073709551616 ∧ Ra.rems a b = pre ++ Ra.rems x y ∧ J pre Y wr ∧ (∀ k, Y k → k ≠ Ba ∧ k ≠ Bb) ∧ w.heap.size ≤ wr.heap.size)
  (fun _ wr => Ra.cellN wr Bb)
 case atStart =>
  exact ⟨[], a, b, Y0, bA, bB, ha, hb, hla, hlb, rfl, h0, fun k hk => ⟨fun e => (hY0 k hk).2 (.inl e), fun e => (hY0 k hk).2 (.inr e)⟩, hW.size⟩
 case round =>
  obtain ⟨pre, x, y, Y, bA, bB, hx, hy, hlx, hly, he, hj, hYk, hsz⟩ := hrel
  have HE := qh he; clear he
  have nla : Ba ≠ l := by omega
  have nlb : Bb ≠ l := by omega
  obtain ⟨fn, tmps, assign, body, hyy, hR⟩ := hY pre x Y wr hj trivial
  have cA := bA.cell
  have cB := bB.cell
  have dx : ((x : Int) == 0) = false := by simp; omega
  have dx' : ((x : Int) != 0) = true := by simp; omega
  have HJ := qh hj; clear hj
  replace hY := qh hY
  replace hJ := qh hJ
  replace hJx := qh hJx
  replace hYk := qh hYk
  replace hY0 := qh hY0
  gi_wp2
  refine hR.mono ?_
  rintro e W3 ⟨Y3, hx3, hy3, (⟨rfl, hj3⟩ | ⟨rfl, hj3⟩)⟩
  ·clear cA cB hyy
   have n3a : ¬ (Y Ba ∨ Ba = l) := fun h => h.elim (fun h => (hYk.out _ h).1 rfl) nla
   have n3b : ¬ (Y Bb ∨ Bb = l) := fun h => h.elim (fun h => (hYk.out _ h).2 rfl) nlb
   have bA3 := hx3.boxed bA n3a
   have bB3 := hx3.boxed bB n3b
   have cA3 := bA3.cell
   have cB3 := bB3.cell
   have fA3 := bA3.frozen
   have fB3 := bB3.frozen
   replace bA3 := qh bA3
   replace bB3 := qh bB3
   replace hx3 := qh hx3
   replace hy3 := qh hy3
   replace hj3 := qh hj3
   gi_wp2
   have dy : decide ((y : Int) < 1) = false := by simp; omega
   gi_region
   all_goals try (exfalso; omega)
   all_goals
    obtain ⟨W4, hW4⟩ : ∃ W4, W4 = ((W3.setCell ⟨Ba, 0, none⟩ (.int .u64 y)).setCell ⟨Bb, 0, none⟩ (.int .u64 ((x : Int) % (y : Int)))).drew := ⟨_, rfl⟩
    rw [← hW4]
    have e4 : Kit.Exc (fun b => (b = Ba ∨ b = Bb) ∨ W.heap.size ≤ b ∧ ¬Y3 b) W3 W4 := by
     rw [hW4]
     exact (((Kit.Exc.refl _ W3).setCell (.inl (.inl (.inl rfl))) _).setCell (.inl (.inl (.inr rfl))) _).drew
    have j4 := hJ.out _ _ _ _ hj3.out e4
    have bA4 : Boxed W4 Ba 190 (.int .u64 y) := by
     rw [hW4]; exact ((bA3.out.set _).other hne _)
    have bB4 : Boxed W4 Bb 190 (.int .u64 ((x % y : Nat) : Int)) := by
     rw [hW4]; exact Boxed.set _ (bB3.out.other (Ne.symm hne) _)
    have Y4 : ∀ k, Y3 k → k ≠ Ba ∧ k ≠ Bb := fun k hk => by
     rcases (hy3.out k hk).1 with h | h
     ·exact hYk.out k h
     ·have := bA.lt; have := bB.lt; exact ⟨by omega, by omega⟩
    have s4 : w.heap.size ≤ W4.heap.size := by have h5 := hx3.out.size; have h6 := e4.size; omega
    obtain ⟨fn, tmps, assign, body, hyy, hR⟩ := hY.out (pre ++ [x]) y Y3 W4 j4 trivial
    have hlm : x % y < y := Nat.mod_lt _ (Nat.pos_of_ne_zero hy)
    have ex : ((x : Int) % (y : Int)) = ((x % y : Nat) : Int) := by simp
    rw [ex]
    generalize hz : x % y = z at *
    have cA := bA4.cell
    have cB := bB4.cell
    clear cA3 cB3 fA3 fB3 bA3 bB3 ex e4 hW4 n3a n3b
    replace bA4 := qh bA4
    replace bB4 := qh bB4
    replace Y4 := qh Y4
    replace j4 := qh j4
    replace hz := qh hz
    by_cases hz0 : z = 0
    ·subst hz0
     gi_wp2
     refine hR.mono ?_
     have hend : Ra.rems a b = (pre ++ [x]) ++ [y] := by rw [HE.out, Ra.rems_end x y hy hz.out]; simp
     rintro e W5 ⟨Y5, hx5, hy5, (⟨rfl, hj5⟩ | ⟨rfl, hj5⟩)⟩
     ·gi_wp2
      refine bodyPost_ret (results_none rfl _ _ _) rfl ?_
      exact ⟨⟨_, rfl⟩, Y5, .inl ⟨_, hend.symm, hj5⟩⟩
     ·gi_wp2
      refine bodyPost_ret (results_none rfl _ _ _) rfl ?_
      exact ⟨⟨_, rfl⟩, Y5, .inr ⟨_, trivial, hj5⟩⟩
    ·have dz : ((z : Int) == 0) = false := by simp; omega
     clear hyy hR
     gi_wp2
     go_roundw
     case rel => exact ⟨pre ++ [x], y, z, Y3, bA4.out, bB4.out, hy, hz0, hly, by omega, by rw [HE.out, Ra.rems_on x y hy (by rw [hz.out]; exact hz0), hz.out]; simp, j4.out, Y4.out, s4⟩
     case measure => rw [Ra.cellN_eq bB4.out, Ra.cellN_eq bB]; exact hlm
  ·gi_wp2
   go_end0
   exact ⟨⟨_, rfl⟩, Y3, .inr ⟨_, trivial, hj3⟩⟩
attribute [local go_sem] Oper.semAt_some

def Ra.lst (l : List Nat) (d : Nat) : Nat := l.getLastD d
theorem Ra.lst_snoc (l : List Nat) (x d : Nat) : Ra.lst (l ++ [x]) d = x := by simp [Ra.lst]

theorem ra_divisor_0 (a : Nat) (w : World) :
  Calls Tryz.prog 140 #[.int .u64 a, .int .u64 0] w fun e w' => e = .returned (.int .u64 a) ∧ Below w.heap.size w w' := by
 go_enter Tryz.func140, Tryz.ntmps140
 go_wp2
 (refine bodyPost_ret (by simp [results, Tryz.results140, go_sem, Kit.cell_set]; try rfl) rfl ?_)
 exact ⟨rfl, by exact Kit.gr⟩

theorem ra_iter0 (n : Nat) (Ba Bb : Nat) (b : Nat) (w : World) (bA : Boxed w Ba 190 (.int .u64 0)) :
  Kit.SeqE Fence.wide n Tryz.prog 183 #[.pointer (some ⟨Ba, 0, none⟩), .pointer (some ⟨Bb, 0, none⟩)] (fun x : Nat => #[.int .u64 x]) (fun k => k = Ba ∨ k = Bb) (fun xs => xs = []) (fun _ => True) (fun _ _ => True) w := by
 intro l J Jx Y0 W hW hl1 hl2 hY0 hJ hJx hY h0
 replace bA : Boxed W Ba _ _ := (hW.block Ba bA.lt).trans bA
 have cA := bA.cell
 replace hY := qh hY
 replace hJ := qh hJ
 replace hJx := qh hJx
 replace hY0 := qh hY0
 refine callsIn_of_wp Tryz.func183 rfl trivial ?_ rfl
 simp only [Tryz.ntmps183, List.size_toArray, List.length_cons, List.length_nil, Nat.reduceAdd, Nat.reduceSub, Array.replicate_succ, Array.replicate_zero, List.push_toArray, List.append_toArray, List.nil_append, List.cons_append]
 refine wpIn_wide.2 ?_
 go_wp2
 refine wp_loop_rounds 1 ?_
 rw [rounds_succ]
 go_wp2
 go_end0
 exact ⟨⟨_, rfl⟩, Y0, .inl ⟨_, rfl, h0⟩⟩

theorem ra_divisor_any (a b : Nat) (hb : b ≠ 0) (xs : List Nat) (w : World)
  (hseq : ∀ W, Boxed W (w.heap.size + 1) 190 (.int .u64 a) → Boxed W (w.heap.size + 1 + 1) 190 (.int .u64 b) → Kit.SeqE Fence.wide 2 Tryz.prog 183 #[.pointer (some ⟨w.heap.size + 1, 0, none⟩), .pointer (some ⟨w.heap.size + 1 + 1, 0, none⟩)] (fun x : Nat => #[.int .u64 x]) (fun k => k = w.heap.size + 1 ∨ k = w.heap.size + 1 + 1) (fun ys => ys = xs) (fun _ => True) (fun _ _ => True) W) :
  Calls Tryz.prog 140 #[.int .u64 a, .int .u64 b] w fun e w' => e = .returned (.int .u64 (Ra.lst xs b : Nat)) ∧ Below w.heap.size w w' := by
 have db : ((b : Int) == 0) = false := by simp; omega
 refine Kit.calls_of_wp_marks Tryz.func140 rfl ?_
 simp only [Tryz.ntmps140, List.size_toArray, List.length_cons, List.length_nil, Nat.reduceAdd, Nat.reduceSub, Array.replicate_succ, Array.replicate_zero, List.push_toArray, List.append_toArray, List.nil_append, List.cons_append]
 go_wp2_with fail
 refine (ra_rems _ _ _).mono ?_
 rintro e w' ⟨rfl, rfl⟩
 go_wp2
 obtain ⟨W0, hW0⟩ : ∃ W0, W0 = ((w.alloc (Obj.cells #[Value.int IntKind.u64 ↑b] 190)).alloc (Obj.cells #[Value.int IntKind.u64 ↑a] 190)).alloc (Obj.cells #[Value.int IntKind.u64 ↑b] 190) := ⟨_, rfl⟩
 rw [← hW0]
 have s0 : W0.heap.size = w.heap.size + 3 := by rw [hW0]; simp
 have b0 : Below w.heap.size w W0 := by rw [hW0]; exact (((Below.refl _ w).alloc (by simp) _).alloc (by simp) _).alloc (by simp; omega) _
 have bd : Boxed W0 w.heap.size 190 (.int .u64 b) := by rw [hW0]; exact ((Boxed.new w _ _).alloc _).alloc _
 have ba : Boxed W0 (w.heap.size + 1) 190 (.int .u64 a) := by
  rw [hW0]; have := (Boxed.new (w.alloc (Obj.cells #[Value.int IntKind.u64 ↑b] 190)) 190 (.int .u64 a)).alloc (Obj.cells #[Value.int IntKind.u64 ↑b] 190); simpa using this
 have bb : Boxed W0 (w.heap.size + 1 + 1) 190 (.int .u64 b) := by
  rw [hW0]; have := Boxed.new ((w.alloc (Obj.cells #[Value.int IntKind.u64 ↑b] 190)).alloc (Obj.cells #[Value.int IntKind.u64 ↑a] 190)) 190 (.int .u64 b); simpa using this
 clear hW0
 refine Kit.wp_range rfl (enters_of Tryz.func183 (by kernel_rfl) rfl) (hseq W0 ba bb) (fun _ => rfl)
  (fun pre Y W => Y = (fun k => k = w.heap.size) ∧ Boxed W w.heap.size 190 (.int .u64 ((Ra.lst pre b : Nat))) ∧ Below w.heap.size w W)
  (fun _ _ _ _ => False)
  (fun pre x a' Y W => (Y = (fun k => k = w.heap.size) ∧ Boxed W w.heap.size 190 (.int .u64 ((Ra.lst pre b : Nat))) ∧ Below w.heap.size w W) ∧
   a' = { tmps := #[.int .u64 a, .int .u64 b, undef, undef, .pointer (some ⟨w.heap.size, 0, none⟩), .int .u64 x, .int .u64 b, .bool false, undef, .int .u64 b, .int .u64 a, .int .u64 b, .func (.func 183) #[] #[.pointer (some ⟨w.heap.size + 1, 0, none⟩), .pointer (some ⟨w.heap.size + 1 + 1, 0, none⟩)], .int .u64 x, undef, undef], defers := [] })
  (fun k => k = w.heap.size) (fun k hk => by omega) (fun k hk => by subst hk; exact ⟨by omega, by omega⟩)
  (fun pre Y A B hs hx => ⟨hs.1, hx.boxed hs.2.1 (by rw [hs.1]; omega), hs.2.2.trans (hx.below (hs.2.2.size) (fun k hk => by omega))⟩)
  (fun _ _ _ _ _ h _ => h)
  (fun pre x a' Y A B hs hx => ⟨⟨hs.1.1, hx.boxed hs.1.2.1 omg, hs.1.2.2.trans (hx.below (hs.1.2.2.size) (fun k hk => by omega))⟩, hs.2⟩)
  ⟨rfl, bd, b0⟩ ?assign ?body ?done ?stop
 case assign =>
  intro l pre x Y W hs _ hY
  gi_wp2
  exact ⟨Y, Kit.Exc.refl _ _, fun k hk => ⟨.inl hk, hY k hk⟩, hs, trivial⟩
 case body =>
  rintro l pre x a' Y W hl hr ⟨⟨rfl, hb, hB⟩, rfl⟩ _ hY
  have cD := hb.cell
  have fD := hb.frozen
  have HB := qh hb
  have HBB := qh hB
  clear hb hB
  gi_wp2
  refine ⟨_, Kit.Exc.setCell (S := fun k => k = w.heap.size) (Kit.Exc.refl _ W) (p := ⟨w.heap.size, 0, none⟩) (.inl rfl) _, fun k hk => ⟨.inl hk, ?_⟩, rfl, ?_, ?_⟩
  ·have := (hY k hk).1
   simpa [World.setCell] using this
  ·rw [Ra.lst_snoc]; exact HB.out.set (.int .u64 x)
  ·exact HBB.out.setCell nlr _
 case done =>
  rintro D ys Y W hD hYD rfl ⟨rfl, hb, hB⟩ hK
  have cD := hb.cell
  have fD := hb.frozen
  have HB := qh hb
  have HBB := qh hB
  clear hb hB
  go_wp2
  have hb := HB.out.set (.int .u64 ((Ra.lst ys b : Nat) : Int))
  have hK' := Kit.mark_other hK ⟨w.heap.size, 0, none⟩ (.int .u64 ((Ra.lst ys b : Nat) : Int)) (by simp; omega)
  have hc' := (Kit.boxed_putObj hb (.deferred none) (Ne.symm hYD)).cell
  exact Kit.post_mark hK' (by simp [results, Tryz.results140, go_sem, hc']; try rfl) ⟨rfl, Kit.below_putObj (HBB.out.setCell nlr _) _ _ omg⟩
 case stop =>
  rintro D c pre Y W _ _ _ h _
  exact h.elim

theorem ra_divisor (a b : Nat) (w : World) (ha : a < 18446744073709551616) (hb : b < 18446744073709551616) :
  Calls Tryz.prog 140 #[.int .u64 a, .int .u64 b] w fun e w' => e = .returned (.int .u64 (Nat.gcd a b : Nat)) ∧ Below w.heap.size w w' := by
 by_cases h : b = 0
 ·subst h
  simpa using ra_divisor_0 a w
 ·by_cases h0 : a = 0
  ·subst h0
   simpa [Ra.lst] using ra_divisor_any 0 b h [] w (fun W b1 b2 => ra_iter0 2 _ _ b W b1)
  ·have := ra_divisor_any a b h (Ra.rems a b) w (fun W b1 b2 => ra_iter 2 omg _ _ omg a b h0 h ha hb W b1 b2)
   rwa [Ra.lst, Ra.rems_last _ _ _ h] at this
end Go.Proofs.YtedolbjgdedoaaaGreatDoor

namespace Go.Proofs.YtedolbjgdedoaaaGreatDoor
open Go.RowKit

namespace Ra
def ok (n d : Int) : Bool := decide (1 ≤ d) && decide (d ≤ 1073741824) && decide (-1073741824 ≤ n) && decide (n ≤ 1073741824) && decide (Nat.gcd n.natAbs d.natAbs = 1)
theorem ok_iff (n d : Int) : ok n d = true ↔ 1 ≤ d ∧ d ≤ 1073741824 ∧ -1073741824 ≤ n ∧ n ≤ 1073741824 ∧ Nat.gcd n.natAbs d.natAbs = 1 := by simp [ok, and_assoc]
abbrev V (n d : Int) : Value := .agg #[.int .i64 n, .int .i64 d]
def Chk (n d r : Int) (w : World) : Prop := Calls Tryz.prog 106 #[V n d] w fun e w' => e = .returned (.int .i64 r) ∧ Below w.heap.size w w'
end Ra

theorem ra_mag_b (n : Int) (w : World) (h1 : -4611686018427387904 ≤ n) (h2 : n ≤ 4611686018427387904) :
  Calls Tryz.prog 141 #[.int .i64 n] w fun e w' => e = .returned (.int .u64 n.natAbs) ∧ Below w.heap.size w w' :=
 (ra_mag n w h1 h2).mono fun _ _ ⟨a, b⟩ => ⟨a, b ▸ Below.refl _ _⟩
theorem ra_div_b (n d g : Int) (w : World) (h1 : -4611686018427387904 ≤ n) (h2 : n ≤ 4611686018427387904) (h3 : 0 ≤ d) (h4 : d ≤ 4611686018427387904) (hg : Hid (g = Nat.gcd n.natAbs d.natAbs)) :
  Calls Tryz.prog 140 #[.int .u64 n.natAbs, .int .u64 d] w fun e w' => e = .returned (.int .u64 g) ∧ Below w.heap.size w w' := by
 have h := ra_divisor n.natAbs d.natAbs w omg omg
 rw [show ((d.natAbs : Nat) : Int) = d by omega] at h
 rw [hg.out]
 exact h

theorem ra_check_1 (n d : Int) (w : World) (h1 : d < 1) : Ra.Chk n d 120 w := by
 unfold Ra.Chk
 have d1 : decide (d < 1) = true := by simpa using h1
 go_enter Tryz.func106, Tryz.ntmps106
 go_wp2
 (refine Kit.wp_name ?_; intro W hW_; have bW_ : Below w.heap.size w W := (by rw [hW_]; exact Kit.gr); have kW_w_0 : ∀ x : Kit.Wd W, x.val.cell? ⟨w.heap.size, 0, none⟩ = some (.int .i64 n) := fun x => x.cell (by rw [hW_]; first | assumption | (simp [go_sem]; done) | (simp [go_sem, *]; done)) (by rw [hW_]; first | assumption | (simp; done) | (simp; omega)); have kW_w_1 : ∀ x : Kit.Wd W, x.val.cell? ⟨w.heap.size, 1, none⟩ = some (.int .i64 d) := fun x => x.cell (by rw [hW_]; first | assumption | (simp [go_sem]; done) | (simp [go_sem, *]; done)) (by rw [hW_]; first | assumption | (simp; done) | (simp; omega)); have HW_ := qh hW_; clear hW_; refine Kit.wp_region_cls (by kernel_rfl) (by kernel_rfl) ?_; (repeat (go_big_quiet_step (fail))); refine wpQuiet_nil ?_; intro x; have bx_ : Below w.heap.size w x.val := bW_.trans (x.below.mono bW_.size))
 go_wp2
 go_ret
 exact ⟨rfl, bx_⟩
theorem ra_check_2 (n d : Int) (w : World) (h1 : 1 ≤ d) (h2 : 1073741824 < d) : Ra.Chk n d 120 w := by
 unfold Ra.Chk
 have d1 : decide (d < 1) = false := by simpa using h1
 have d2 : decide (1073741824 < d) = true := by simpa using h2
 go_enter Tryz.func106, Tryz.ntmps106
 go_wp2
 (refine Kit.wp_name ?_; intro W hW_; have bW_ : Below w.heap.size w W := (by rw [hW_]; exact Kit.gr); have kW_w_0 : ∀ x : Kit.Wd W, x.val.cell? ⟨w.heap.size, 0, none⟩ = some (.int .i64 n) := fun x => x.cell (by rw [hW_]; first | assumption | (simp [go_sem]; done) | (simp [go_sem, *]; done)) (by rw [hW_]; first | assumption | (simp; done) | (simp; omega)); have kW_w_1 : ∀ x : Kit.Wd W, x.val.cell? ⟨w.heap.size, 1, none⟩ = some (.int .i64 d) := fun x => x.cell (by rw [hW_]; first | assumption | (simp [go_sem]; done) | (simp [go_sem, *]; done)) (by rw [hW_]; first | assumption | (simp; done) | (simp; omega)); have HW_ := qh hW_; clear hW_; refine Kit.wp_region_cls (by kernel_rfl) (by kernel_rfl) ?_; (repeat (go_big_quiet_step (fail))); refine wpQuiet_nil ?_; intro x; have bx_ : Below w.heap.size w x.val := bW_.trans (x.below.mono bW_.size))
 go_wp2
 go_ret
 exact ⟨rfl, bx_⟩
theorem ra_check_3 (n d : Int) (w : World) (h1 : 1 ≤ d) (h2 : d ≤ 1073741824) (h3 : n < -1073741824) : Ra.Chk n d 120 w := by
 unfold Ra.Chk
 have d1 : decide (d < 1) = false := by simpa using h1
 have d2 : decide (1073741824 < d) = false := by simpa using h2
 have d3 : decide (n < -1073741824) = true := by simpa using h3
 go_enter Tryz.func106, Tryz.ntmps106
 go_wp2
 (refine Kit.wp_name ?_; intro W hW_; have bW_ : Below w.heap.size w W := (by rw [hW_]; exact Kit.gr); have kW_w_0 : ∀ x : Kit.Wd W, x.val.cell? ⟨w.heap.size, 0, none⟩ = some (.int .i64 n) := fun x => x.cell (by rw [hW_]; first | assumption | (simp [go_sem]; done) | (simp [go_sem, *]; done)) (by rw [hW_]; first | assumption | (simp; done) | (simp; omega)); have kW_w_1 : ∀ x : Kit.Wd W, x.val.cell? ⟨w.heap.size, 1, none⟩ = some (.int .i64 d) := fun x => x.cell (by rw [hW_]; first | assumption | (simp [go_sem]; done) | (simp [go_sem, *]; done)) (by rw [hW_]; first | assumption | (simp; done) | (simp; omega)); have HW_ := qh hW_; clear hW_; refine Kit.wp_region_cls (by kernel_rfl) (by kernel_rfl) ?_; (repeat (go_big_quiet_step (fail))); refine wpQuiet_nil ?_; intro x; have bx_ : Below w.heap.size w x.val := bW_.trans (x.below.mono bW_.size))
 go_wp2
 go_ret
 exact ⟨rfl, bx_⟩
theorem ra_check_4 (n d : Int) (w : World) (h1 : 1 ≤ d) (h2 : d ≤ 1073741824) (h3 : -1073741824 ≤ n) (h4 : 1073741824 < n) : Ra.Chk n d 120 w := by
 unfold Ra.Chk
 have d1 : decide (d < 1) = false := by simpa using h1
 have d2 : decide (1073741824 < d) = false := by simpa using h2
 have d3 : decide (n < -1073741824) = false := by simpa using h3
 have d4 : decide (1073741824 < n) = true := by simpa using h4
 go_enter Tryz.func106, Tryz.ntmps106
 go_wp2
 (refine Kit.wp_name ?_; intro W hW_; have bW_ : Below w.heap.size w W := (by rw [hW_]; exact Kit.gr); have kW_w_0 : ∀ x : Kit.Wd W, x.val.cell? ⟨w.heap.size, 0, none⟩ = some (.int .i64 n) := fun x => x.cell (by rw [hW_]; first | assumption | (simp [go_sem]; done) | (simp [go_sem, *]; done)) (by rw [hW_]; first | assumption | (simp; done) | (simp; omega)); have kW_w_1 : ∀ x : Kit.Wd W, x.val.cell? ⟨w.heap.size, 1, none⟩ = some (.int .i64 d) := fun x => x.cell (by rw [hW_]; first | assumption | (simp [go_sem]; done) | (simp [go_sem, *]; done)) (by rw [hW_]; first | assumption | (simp; done) | (simp; omega)); have HW_ := qh hW_; clear hW_; refine Kit.wp_region_cls (by kernel_rfl) (by kernel_rfl) ?_; (repeat (go_big_quiet_step (fail))); refine wpQuiet_nil ?_; intro x; have bx_ : Below w.heap.size w x.val := bW_.trans (x.below.mono bW_.size))
 go_wp2
 go_ret
 exact ⟨rfl, bx_⟩
theorem ra_check_5 (n d : Int) (w : World) (g : Int) (h1 : 1 ≤ d) (h2 : d ≤ 1073741824) (h3 : -1073741824 ≤ n) (h4 : n ≤ 1073741824) (hg : Hid (g = Nat.gcd n.natAbs d.natAbs)) (h5 : (g != 1) = true) : Ra.Chk n d 120 w := by
 unfold Ra.Chk
 have d1 : decide (d < 1) = false := by simpa using h1
 have d2 : decide (1073741824 < d) = false := by simpa using h2
 have d3 : decide (n < -1073741824) = false := by simpa using h3
 have d4 : decide (1073741824 < n) = false := by simpa using h4
 go_enter Tryz.func106, Tryz.ntmps106
 go_wp2
 (refine Kit.wp_name ?_; intro W hW_; have bW_ : Below w.heap.size w W := (by rw [hW_]; exact Kit.gr); have kW_w_0 : ∀ x : Kit.Wd W, x.val.cell? ⟨w.heap.size, 0, none⟩ = some (.int .i64 n) := fun x => x.cell (by rw [hW_]; first | assumption | (simp [go_sem]; done) | (simp [go_sem, *]; done)) (by rw [hW_]; first | assumption | (simp; done) | (simp; omega)); have kW_w_1 : ∀ x : Kit.Wd W, x.val.cell? ⟨w.heap.size, 1, none⟩ = some (.int .i64 d) := fun x => x.cell (by rw [hW_]; first | assumption | (simp [go_sem]; done) | (simp [go_sem, *]; done)) (by rw [hW_]; first | assumption | (simp; done) | (simp; omega)); have HW_ := qh hW_; clear hW_; refine Kit.wp_region_cls (by kernel_rfl) (by kernel_rfl) ?_; (repeat (go_big_quiet_step (first | exact Kit.calls_cls _ (ra_mag_b n _ omg omg) | exact Kit.calls_cls _ (ra_div_b n d g _ omg omg omg omg hg)))); refine wpQuiet_nil ?_; intro x; have bx_ : Below w.heap.size w x.val := bW_.trans (x.below.mono bW_.size))
 go_wp2
 go_ret
 exact ⟨rfl, bx_⟩
theorem ra_check_6 (n d : Int) (w : World) (g : Int) (h1 : 1 ≤ d) (h2 : d ≤ 1073741824) (h3 : -1073741824 ≤ n) (h4 : n ≤ 1073741824) (hg : Hid (g = Nat.gcd n.natAbs d.natAbs)) (h5 : (g != 1) = false) : Ra.Chk n d 0 w := by
 unfold Ra.Chk
 have d1 : decide (d < 1) = false := by simpa using h1
 have d2 : decide (1073741824 < d) = false := by simpa using h2
 have d3 : decide (n < -1073741824) = false := by simpa using h3
 have d4 : decide (1073741824 < n) = false := by simpa using h4
 go_enter Tryz.func106, Tryz.ntmps106
 go_wp2
 (refine Kit.wp_name ?_; intro W hW_; have bW_ : Below w.heap.size w W := (by rw [hW_]; exact Kit.gr); have kW_w_0 : ∀ x : Kit.Wd W, x.val.cell? ⟨w.heap.size, 0, none⟩ = some (.int .i64 n) := fun x => x.cell (by rw [hW_]; first | assumption | (simp [go_sem]; done) | (simp [go_sem, *]; done)) (by rw [hW_]; first | assumption | (simp; done) | (simp; omega)); have kW_w_1 : ∀ x : Kit.Wd W, x.val.cell? ⟨w.heap.size, 1, none⟩ = some (.int .i64 d) := fun x => x.cell (by rw [hW_]; first | assumption | (simp [go_sem]; done) | (simp [go_sem, *]; done)) (by rw [hW_]; first | assumption | (simp; done) | (simp; omega)); have HW_ := qh hW_; clear hW_; refine Kit.wp_region_cls (by kernel_rfl) (by kernel_rfl) ?_; (repeat (go_big_quiet_step (first | exact Kit.calls_cls _ (ra_mag_b n _ omg omg) | exact Kit.calls_cls _ (ra_div_b n d g _ omg omg omg omg hg)))); refine wpQuiet_nil ?_; intro x; have bx_ : Below w.heap.size w x.val := bW_.trans (x.below.mono bW_.size))
 go_wp2
 go_ret
 exact ⟨rfl, bx_⟩

theorem ra_check (n d : Int) (w : World) : Ra.Chk n d (if Ra.ok n d = true then 0 else 120) w := by
 by_cases h1 : d < 1
 ·rw [if_neg (by rw [Ra.ok_iff]; omega)]; exact ra_check_1 n d w h1
 by_cases h2 : 1073741824 < d
 ·rw [if_neg (by rw [Ra.ok_iff]; omega)]; exact ra_check_2 n d w omg h2
 by_cases h3 : n < -1073741824
 ·rw [if_neg (by rw [Ra.ok_iff]; omega)]; exact ra_check_3 n d w omg omg h3
 by_cases h4 : 1073741824 < n
 ·rw [if_neg (by rw [Ra.ok_iff]; omega)]; exact ra_check_4 n d w omg omg omg h4
 by_cases h5 : Nat.gcd n.natAbs d.natAbs = 1
 ·rw [if_pos (by rw [Ra.ok_iff]; omega)]
  exact ra_check_6 n d w _ omg omg omg omg rfl (by simp [h5])
 ·rw [if_neg (by rw [Ra.ok_iff]; omega)]
  exact ra_check_5 n d w _ omg omg omg omg rfl (by simp; omega)
end Go.Proofs.YtedolbjgdedoaaaGreatDoor

namespace Go.Proofs.YtedolbjgdedoaaaGreatDoor
open Go.RowKit

def Ra.sg (x y : Int) : Int := if x < y then -1 else if y < x then 1 else 0

theorem cm_nan (x : Int) (w : World) : Calls Tryz.prog 119 #[.int .i64 x] w fun e w' => e = .returned (.bool false) ∧ w = w' := by
 go_enter Tryz.func119, Tryz.ntmps119
 go_wp2
 go_ret
 exact ⟨rfl, rfl⟩
theorem cm_cmp (x y : Int) (w : World) : Calls Tryz.prog 70 #[.int .i64 x, .int .i64 y] w fun e w' => e = .returned (.int .i64 (Ra.sg x y)) ∧ w = w' := by
 unfold Ra.sg
 by_cases h1 : x < y
 ·rw [if_pos h1]
  go_enter Tryz.func70, Tryz.ntmps70
  go_wp2_with (go_at_call 119; refine (cm_nan _ _).mono ?_; rintro e w' ⟨rfl, rfl⟩)
  go_ret
  exact ⟨rfl, rfl⟩
 ·rw [if_neg h1]
  by_cases h2 : y < x
  ·rw [if_pos h2]
   go_enter Tryz.func70, Tryz.ntmps70
   go_wp2_with (go_at_call 119; refine (cm_nan _ _).mono ?_; rintro e w' ⟨rfl, rfl⟩)
   go_ret
   exact ⟨rfl, rfl⟩
  ·rw [if_neg h2]
   go_enter Tryz.func70, Tryz.ntmps70
   go_wp2_with (go_at_call 119; refine (cm_nan _ _).mono ?_; rintro e w' ⟨rfl, rfl⟩)
   go_ret
   exact ⟨rfl, rfl⟩
theorem cm_cmp_b (x y : Int) (w : World) : Calls Tryz.prog 70 #[.int .i64 x, .int .i64 y] w fun e w' => e = .returned (.int .i64 (Ra.sg x y)) ∧ Below w.heap.size w w' :=
 (cm_cmp x y w).mono fun _ _ ⟨a, b⟩ => ⟨a, b ▸ Below.refl _ _⟩
theorem ra_check_t (n d : Int) (w : World) (h : Ra.ok n d = true) : Ra.Chk n d 0 w := by have := ra_check n d w; rwa [if_pos h] at this
theorem ra_check_f (n d : Int) (w : World) (h : Ra.ok n d = false) : Ra.Chk n d 120 w := by have := ra_check n d w; rwa [if_neg (by simp [h])] at this

def Ra.Cmp (n d n' d' c r : Int) (w : World) : Prop := Calls Tryz.prog 62 #[Ra.V n d, Ra.V n' d'] w fun e w' => e = .returned (.tuple #[.int .i64 c, .int .i64 r]) ∧ Below w.heap.size w w'

theorem ra_cmp_1 (n d n' d' : Int) (w : World) (h : Ra.ok n d = false) : Ra.Cmp n d n' d' 0 120 w := by
 unfold Ra.Cmp
 have H := qh h; clear h
 go_enter Tryz.func62, Tryz.ntmps62
 skip
 (go_wp2_with (fail); refine ((ra_check_f n d _ H.out : Ra.Chk _ _ _ _)).mono ?_; rintro e w1_ ⟨rfl, hb1_⟩; have hp1_ : Below w.heap.size w w1_ := Below.trans (by exact Kit.gr) (hb1_.mono (by first | assumption | (simp; done) | (simp; omega) | omega)); have hw1_ : Below w.heap.size w w1_ := hp1_; obtain ⟨hc1_, hf1_⟩ := Kit.bcell hb1_; have z1_w : w.heap.size < w1_.heap.size := (by have := hb1_.size; first | omega | (simp at this; omega)); obtain ⟨g1_w_0, g1_w_1⟩ : w1_.cell? ⟨w.heap.size, 0, none⟩ = some (.int .i64 n) ∧ w1_.cell? ⟨w.heap.size, 1, none⟩ = some (.int .i64 d) := (by refine ⟨?_, ?_⟩ <;> (rw [hc1_ _ _ (by first | assumption | (simp; done) | (simp; omega) | omega)]; first | assumption | (simp [go_sem]; done) | (simp [go_sem, *]; done))); have z1_w_1 : w.heap.size + 1 < w1_.heap.size := (by have := hb1_.size; first | omega | (simp at this; omega)); obtain ⟨g1_w_1_0, g1_w_1_1⟩ : w1_.cell? ⟨w.heap.size + 1, 0, none⟩ = some (.int .i64 n') ∧ w1_.cell? ⟨w.heap.size + 1, 1, none⟩ = some (.int .i64 d') := (by refine ⟨?_, ?_⟩ <;> (rw [hc1_ _ _ (by first | assumption | (simp; done) | (simp; omega) | omega)]; first | assumption | (simp [go_sem]; done) | (simp [go_sem, *]; done))); clear hc1_ hf1_; clear hb1_ hp1_)
 go_wp2
 go_ret2
 exact ⟨rfl, by exact Kit.gr⟩
theorem ra_cmp_2 (n d n' d' : Int) (w : World) (h : Ra.ok n d = true) (h' : Ra.ok n' d' = false) : Ra.Cmp n d n' d' 0 120 w := by
 unfold Ra.Cmp
 have H := qh h; clear h
 have H' := qh h'; clear h'
 go_enter Tryz.func62, Tryz.ntmps62
 skip
 (go_wp2_with (fail); refine ((ra_check_t n d _ H.out : Ra.Chk _ _ _ _)).mono ?_; rintro e w1_ ⟨rfl, hb1_⟩; have hp1_ : Below w.heap.size w w1_ := Below.trans (by exact Kit.gr) (hb1_.mono (by first | assumption | (simp; done) | (simp; omega) | omega)); have hw1_ : Below w.heap.size w w1_ := hp1_; obtain ⟨hc1_, hf1_⟩ := Kit.bcell hb1_; have z1_w : w.heap.size < w1_.heap.size := (by have := hb1_.size; first | omega | (simp at this; omega)); obtain ⟨g1_w_0, g1_w_1⟩ : w1_.cell? ⟨w.heap.size, 0, none⟩ = some (.int .i64 n) ∧ w1_.cell? ⟨w.heap.size, 1, none⟩ = some (.int .i64 d) := (by refine ⟨?_, ?_⟩ <;> (rw [hc1_ _ _ (by first | assumption | (simp; done) | (simp; omega) | omega)]; first | assumption | (simp [go_sem]; done) | (simp [go_sem, *]; done))); have z1_w_1 : w.heap.size + 1 < w1_.heap.size := (by have := hb1_.size; first | omega | (simp at this; omega)); obtain ⟨g1_w_1_0, g1_w_1_1⟩ : w1_.cell? ⟨w.heap.size + 1, 0, none⟩ = some (.int .i64 n') ∧ w1_.cell? ⟨w.heap.size + 1, 1, none⟩ = some (.int .i64 d') := (by refine ⟨?_, ?_⟩ <;> (rw [hc1_ _ _ (by first | assumption | (simp; done) | (simp; omega) | omega)]; first | assumption | (simp [go_sem]; done) | (simp [go_sem, *]; done))); clear hc1_ hf1_; clear hb1_ hp1_)
 (go_wp2_with (fail); refine ((ra_check_f n' d' _ H'.out : Ra.Chk _ _ _ _)).mono ?_; rintro e w2_ ⟨rfl, hb2_⟩; have hp2_ : Below w1_.heap.size w1_ w2_ := Below.trans (by exact Kit.gr) (hb2_.mono (by first | assumption | (simp; done) | (simp; omega) | omega)); have hw2_ : Below w.heap.size w w2_ := hw1_.trans (hp2_.mono hw1_.size); have z2_w : w.heap.size < w2_.heap.size := Nat.lt_of_lt_of_le z1_w hp2_.size; have g2_w_0 := Kit.ck hp2_ g1_w_0 z1_w; have g2_w_1 := Kit.ck hp2_ g1_w_1 z1_w; have z2_w_1 : w.heap.size + 1 < w2_.heap.size := Nat.lt_of_lt_of_le z1_w_1 hp2_.size; have g2_w_1_0 := Kit.ck hp2_ g1_w_1_0 z1_w_1; have g2_w_1_1 := Kit.ck hp2_ g1_w_1_1 z1_w_1; clear z1_w g1_w_0 g1_w_1 z1_w_1 g1_w_1_0 g1_w_1_1 hw1_ hb2_ hp2_)
 go_wp2
 go_ret2
 exact ⟨rfl, by exact Kit.gr⟩
theorem Ra.mul_in (a b : Int) (h1 : -1073741824 ≤ a) (h2 : a ≤ 1073741824) (h3 : 0 ≤ b) (h4 : b ≤ 1073741824) : -1152921504606846976 ≤ a * b ∧ a * b ≤ 1152921504606846976 := by
 constructor
 ·have := Int.mul_le_mul_of_nonneg_right h1 h3
  omega
 ·have := Int.mul_le_mul_of_nonneg_right h2 h3
  omega
theorem ra_cmp_3 (n d n' d' : Int) (w : World) (h : Ra.ok n d = true) (h' : Ra.ok n' d' = true) : Ra.Cmp n d n' d' (Ra.sg (n * d') (n' * d)) 0 w := by
 unfold Ra.Cmp
 obtain ⟨r1, r2, r3, r4, _⟩ := (Ra.ok_iff _ _).1 h
 obtain ⟨s1, s2, s3, s4, _⟩ := (Ra.ok_iff _ _).1 h'
 obtain ⟨m1, m2⟩ := Ra.mul_in n d' r3 r4 omg s2
 obtain ⟨m3, m4⟩ := Ra.mul_in n' d s3 s4 omg r2
 have H := qh h; clear h
 have H' := qh h'; clear h'
 go_enter Tryz.func62, Tryz.ntmps62
 skip
 (go_wp2_with (fail); refine ((ra_check_t n d _ H.out : Ra.Chk _ _ _ _)).mono ?_; rintro e w1_ ⟨rfl, hb1_⟩; have hp1_ : Below w.heap.size w w1_ := Below.trans (by exact Kit.gr) (hb1_.mono (by first | assumption | (simp; done) | (simp; omega) | omega)); have hw1_ : Below w.heap.size w w1_ := hp1_; obtain ⟨hc1_, hf1_⟩ := Kit.bcell hb1_; have z1_w : w.heap.size < w1_.heap.size := (by have := hb1_.size; first | omega | (simp at this; omega)); obtain ⟨g1_w_0, g1_w_1⟩ : w1_.cell? ⟨w.heap.size, 0, none⟩ = some (.int .i64 n) ∧ w1_.cell? ⟨w.heap.size, 1, none⟩ = some (.int .i64 d) := (by refine ⟨?_, ?_⟩ <;> (rw [hc1_ _ _ (by first | assumption | (simp; done) | (simp; omega) | omega)]; first | assumption | (simp [go_sem]; done) | (simp [go_sem, *]; done))); have z1_w_1 : w.heap.size + 1 < w1_.heap.size := (by have := hb1_.size; first | omega | (simp at this; omega)); obtain ⟨g1_w_1_0, g1_w_1_1⟩ : w1_.cell? ⟨w.heap.size + 1, 0, none⟩ = some (.int .i64 n') ∧ w1_.cell? ⟨w.heap.size + 1, 1, none⟩ = some (.int .i64 d') := (by refine ⟨?_, ?_⟩ <;> (rw [hc1_ _ _ (by first | assumption | (simp; done) | (simp; omega) | omega)]; first | assumption | (simp [go_sem]; done) | (simp [go_sem, *]; done))); clear hc1_ hf1_; clear hb1_ hp1_)
 (go_wp2_with (fail); refine ((ra_check_t n' d' _ H'.out : Ra.Chk _ _ _ _)).mono ?_; rintro e w2_ ⟨rfl, hb2_⟩; have hp2_ : Below w1_.heap.size w1_ w2_ := Below.trans (by exact Kit.gr) (hb2_.mono (by first | assumption | (simp; done) | (simp; omega) | omega)); have hw2_ : Below w.heap.size w w2_ := hw1_.trans (hp2_.mono hw1_.size); have z2_w : w.heap.size < w2_.heap.size := Nat.lt_of_lt_of_le z1_w hp2_.size; have g2_w_0 := Kit.ck hp2_ g1_w_0 z1_w; have g2_w_1 := Kit.ck hp2_ g1_w_1 z1_w; have z2_w_1 : w.heap.size + 1 < w2_.heap.size := Nat.lt_of_lt_of_le z1_w_1 hp2_.size; have g2_w_1_0 := Kit.ck hp2_ g1_w_1_0 z1_w_1; have g2_w_1_1 := Kit.ck hp2_ g1_w_1_1 z1_w_1; clear z1_w g1_w_0 g1_w_1 z1_w_1 g1_w_1_0 g1_w_1_1 hw1_ hb2_ hp2_)
 (go_wp2_with (fail); refine (cm_cmp_b (n * d') (n' * d) _).mono ?_; rintro e w3_ ⟨rfl, hb3_⟩; have hp3_ : Below w2_.heap.size w2_ w3_ := Below.trans (by exact Kit.gr) (hb3_.mono (by first | assumption | (simp; done) | (simp; omega) | omega)); have hw3_ : Below w.heap.size w w3_ := hw2_.trans (hp3_.mono hw2_.size); have z3_w : w.heap.size < w3_.heap.size := Nat.lt_of_lt_of_le z2_w hp3_.size; have g3_w_0 := Kit.ck hp3_ g2_w_0 z2_w; have g3_w_1 := Kit.ck hp3_ g2_w_1 z2_w; have z3_w_1 : w.heap.size + 1 < w3_.heap.size := Nat.lt_of_lt_of_le z2_w_1 hp3_.size; have g3_w_1_0 := Kit.ck hp3_ g2_w_1_0 z2_w_1; have g3_w_1_1 := Kit.ck hp3_ g2_w_1_1 z2_w_1; clear z2_w g2_w_0 g2_w_1 z2_w_1 g2_w_1_0 g2_w_1_1 hw2_ hb3_ hp3_)
 go_wp2
 go_ret2
 exact ⟨rfl, by exact Kit.gr⟩
end Go.Proofs.YtedolbjgdedoaaaGreatDoor
