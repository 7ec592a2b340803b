/- Plain: a body that a cap lowers. -/
import Derived.Test.YtbhgogiaaljclaaGreatDoorUna
set_option linter.unusedSimpArgs false
set_option linter.unusedVariables false
namespace Go.Proofs.YtbhgogiaaljclaaGreatDoor
open Go.RowKit
namespace Un
def setB (b : Bd) (i : Nat) (v : Int) : Bd := match i with
 | 1 => { b with weight := v } | 2 => { b with lift := v } | 3 => { b with girth := v } | 4 => { b with step := v } | 5 => { b with jump := v } | 6 => { b with r0 := v } | 7 => { b with r1 := v } | 8 => { b with r2 := v }
 | 9 => { b with s0 := v } | 10 => { b with s1 := v } | 11 => { b with s2 := v } | 12 => { b with t0 := v } | 13 => { b with t1 := v } | 14 => { b with t2 := v } | 15 => { b with effort := v } | _ => { b with recover := v }
def vld (k l n : Int) : Bool := if 1 ≤ k ∧ k ≤ 6 then Tp.inb l 0 (rM (k - 1).toNat) && Tp.inb n (rLo (k - 1).toNat) (rUp (k - 1).toNat) else false
def fld (k l : Int) : Nat := rB (k - 1).toNat + l.toNat
def mn (x y : Int) : Int := if y < x then y else x
def low (b : Bd) (k l n : Int) : Bd := setB b (fld k l) (mn (bdN b (fld k l)) n)
end Un
end Go.Proofs.YtbhgogiaaljclaaGreatDoor
