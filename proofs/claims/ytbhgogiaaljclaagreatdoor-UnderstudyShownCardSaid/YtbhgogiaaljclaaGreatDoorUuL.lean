/- Walks: package understudy: Able, of whatever arguments; kinespherelaw48.strong. -/
import Derived.Test.YtbhgogiaaljclaaGreatDoorUuK
set_option linter.unusedSimpArgs false
set_option linter.unusedVariables false
namespace Go.Proofs.YtbhgogiaaljclaaGreatDoor
open Go.RowKit
theorem un_able (x : Ex.Wk) (p : Ex.Wa) (w : World) (hL : Ex.Laid w) (hF : Uo.Flat w) (ha : Ex.At w x p) (B : Un.Bd) (hn : B.name.size ≤ 9223372036854775807) (role bar : Int) : Un.Able x p B role bar w (Un.ableA x B role bar) := by
 by_cases h : Un.ableE x B role bar = 0
 ·exact un_able_0 x p w hL hF ha B hn role bar h
 ·exact un_able_e x p w hL hF ha B hn role bar h
def Un.strongB : Un.Bd := ⟨⟨#[98]⟩, 50, 60, 1, 3, 2, 1, 1, 1, 90, 90, 90, 3, 3, 3, 100, 30⟩
set_option maxRecDepth 100000 in
theorem lw_strong (w : World) : Calls Tryz.prog 26 #[] w fun e w' => e = .returned (.agg (Un.bdA Un.strongB)) ∧ Below w.heap.size w w' := by
 go_enter Tryz.func26, Tryz.ntmps26
 have HRG := Lib.hid (Kit.range_alloc w (Un.bdA Un.strongB) 36)
 have HIA := Lib.hid (show (Tryz.prog.info? 36).map (·.size) = some (Un.bdA Un.strongB).size by kernel_rfl)
 go_wp2
 refine Kit.ret_row (s := 0) rfl rfl rfl HRG.out Tryz.underlying36 rfl HIA.out ?_
 exact ⟨rfl, (Below.refl _ _).alloc (Nat.le_refl _) _⟩
end Go.Proofs.YtbhgogiaaljclaaGreatDoor
