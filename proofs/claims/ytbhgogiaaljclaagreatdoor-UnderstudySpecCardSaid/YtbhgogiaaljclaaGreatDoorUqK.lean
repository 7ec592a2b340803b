/- Walks: the law UnderstudySpec. -/
import Derived.Test.YtbhgogiaaljclaaGreatDoorUqw
import Derived.Test.YtbhgogiaaljclaaGreatDoorUxC
set_option linter.unusedSimpArgs false
set_option linter.unusedVariables false
namespace Go.Proofs.YtbhgogiaaljclaaGreatDoor
open Go.RowKit Go.Shelf
set_option maxRecDepth 100000 in
set_option maxHeartbeats 8000000 in
theorem lw_spec (x : Ex.Wk) (p : Ex.Wa) (w : World) (hL : Ex.Laid w) (hF : Uo.Flat w) (ha : Ex.At w x p) (bs : List Un.Bd) (a : Option Addr) (c : Nat) (hS : Tp.Sl w a bs.length 17 (Un.bdF bs)) (hl : bs.length ≤ 4611686018427387904) (hns : ∀ b ∈ bs, b.name.size ≤ 9223372036854775807)
  (B : Un.Bd) (hn : B.name.size ≤ 9223372036854775807) (role bar : Int) :
  Calls Tryz.prog 3 #[Ex.workV x p, .slice a bs.length c, .agg (Un.bdA B), .int .i64 role, .int .i64 bar] w fun e w' => e = .returned (.bool true) ∧ Below w.heap.size w w' := by
 have HI := Lib.hid (show (Tryz.prog.info? 36).map (·.size) = some (Un.bdA B).toList.length by kernel_rfl)
 have HSN := Lib.hid (fun W (hb : Below w.heap.size w W) => lw_sane W (hL.kept hb (Nat.le_refl _)) (hF.kept hb (Nat.le_refl _)))
 have HFW := Lib.hid (fun W => lw_few x p bs.length 0 c 0 a none W)
 have H1 := Lib.hid (fun W (hb : Below w.heap.size w W) => un_able x p W (hL.kept hb (Nat.le_refl _)) (hF.kept hb (Nat.le_refl _)) (ha.kept hb (Nat.le_refl _)) B hn role bar)
 have H2 := Lib.hid (fun W (hb : Below w.heap.size w W) => ru_Able x p B role bar W (ha.kept hb (Nat.le_refl _)) hn)
 have H3 := Lib.hid (fun W (hb : Below w.heap.size w W) => un_lifts x p W (hL.kept hb (Nat.le_refl _)) (ha.kept hb (Nat.le_refl _)) bs a c (hS.kept hb (Nat.le_refl _)) hl hns B hn role bar)
 have H4 := Lib.hid (fun W (hb : Below w.heap.size w W) => ru_Lifts x p bs a c B role bar W (ha.kept hb (Nat.le_refl _)) (hS.kept hb (Nat.le_refl _)) hl hns hn)
 unfold Un.Able at H1
 generalize Un.ableA x B role bar = r at *
 generalize Un.liftsA x bs B role bar = q at *
 obtain ⟨r0, r1, r2⟩ := r
 obtain ⟨q0, q1, q2⟩ := q
 dsimp only [Ex.workV, Ex.wv] at HFW H1 H2 H3 H4
 clear hL hF ha hS hns
 go_enter Tryz.func3, Tryz.ntmps3
 go_upto_region 1 with fail
 refine Kit.wp_name ?_
 intro W1 hW1
 have HW1 := Lib.hid (show Un.WG w x p B W1 by
  rw [hW1]
  exact ⟨by exact Kit.gr, fun j => by simp [go_sem], Un.range_alloc2 w (.cells (Un.wkC x p) 32) (Un.bdA B) 36, by simp⟩)
 clear hW1
 go_wp2_with fail
 refine (HSN.out _ HW1.out.bel).mono ?_
 rintro _ W2 ⟨rfl, hb⟩
 have HW2 := Lib.hid (HW1.out.then hb)
 clear hb HW1
 have wk2 := HW2.out.wk
 go_wp2_with fail
 refine (HFW.out _).mono ?_
 rintro _ W3 ⟨⟨fb, rfl, _⟩, hb⟩
 have HW3 := Lib.hid (HW2.out.then hb)
 clear hb HW2 wk2
 rcases fb with _ | _
 ·go_wp2_with fail
  go_ret
  exact ⟨rfl, HW3.out.bel⟩
 have wk3 := HW3.out.wk
 go_wp2_with ((with_reducible refine wpList_load_mid ?_ 36 (.tmp 7) ?_ (w.heap.size + 1) 0 ?_ (Un.bdA B).toList _ HW3.out.row Tryz.underlying36 rfl HI.out ?_); rfl; rfl; rfl)
 refine (H1.out _ HW3.out.bel).mono ?_
 rintro _ W4 ⟨rfl, hb⟩
 have HW4 := Lib.hid (HW3.out.then hb)
 clear hb HW3 wk3
 have wk4 := HW4.out.wk
 go_wp2_with ((with_reducible refine wpList_load_mid ?_ 36 (.tmp 7) ?_ (w.heap.size + 1) 0 ?_ (Un.bdA B).toList _ HW4.out.row Tryz.underlying36 rfl HI.out ?_); rfl; rfl; rfl)
 refine (H2.out _ HW4.out.bel).mono ?_
 rintro _ W5 ⟨rfl, hb⟩
 have HW5 := Lib.hid (HW4.out.then hb)
 clear hb HW4 wk4
 have wk5 := HW5.out.wk
 go_wp2_with ((with_reducible refine wpList_load_mid ?_ 36 (.tmp 7) ?_ (w.heap.size + 1) 0 ?_ (Un.bdA B).toList _ HW5.out.row Tryz.underlying36 rfl HI.out ?_); rfl; rfl; rfl)
 refine (H3.out _ HW5.out.bel).mono ?_
 rintro _ W6 ⟨rfl, hb⟩
 have HW6 := Lib.hid (HW5.out.then hb)
 clear hb HW5 wk5
 have wk6 := HW6.out.wk
 go_wp2_with ((with_reducible refine wpList_load_mid ?_ 36 (.tmp 7) ?_ (w.heap.size + 1) 0 ?_ (Un.bdA B).toList _ HW6.out.row Tryz.underlying36 rfl HI.out ?_); rfl; rfl; rfl)
 refine (H4.out _ HW6.out.bel).mono ?_
 rintro _ W7 ⟨rfl, hb⟩
 have HW7 := Lib.hid (HW6.out.then hb)
 clear hb HW6 wk6
 go_wp2_with fail
 go_ret
 exact ⟨(by first | rfl | simp), HW7.out.bel⟩
end Go.Proofs.YtbhgogiaaljclaaGreatDoor
