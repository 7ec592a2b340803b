/- Plain: what a body's options are (package options). Plain: who is able, which lift is too heavy, who is ready (package understudy). Plain: whoever is ready is ready later; stronger bodies; signs that do not matter. -/
import Derived.Test.YtedolbjgdedoaaaGreatDoorUna
import Derived.Test.YtedolbjgdedoaaaGreatDoorEx
set_option linter.unusedSimpArgs false
set_option linter.unusedVariables false
namespace Go.Proofs.YtedolbjgdedoaaaGreatDoor
open Go.RowKit
namespace Uo
def fl : Nat → Int × Int
 | 0 => (0, 29)
 | 1 => (20, 21)
 | 2 => (29, 0)
 | 3 => (20, -21)
 | 4 => (0, -29)
 | 5 => (-20, -21)
 | 6 => (-29, 0)
 | _ => (-20, 21)
def sc (v : Nat) : Int := if v = 2 then 29 else 20
def vx (d v : Nat) : Int := if d = 0 then 0 else sc v * (fl (d - 1)).1
def vy (d v : Nat) : Int := if d = 0 then 0 else sc v * (fl (d - 1)).2
def vz (d v : Nat) : Int := if d = 0 then 841 * ((v : Int) - 2) else 609 * ((v : Int) - 2)
def dt (a b d v : Nat) : Int := vx a b * vx d v + vy a b * vy d v + vz a b * vz d v
def nz (d v : Nat) : Bool := !(d == 0 && v == 2)
abbrev Re := Int × Int × Int × Bool
def own (a b d v : Nat) : Bool := d == a && v == b
def tol (A C : Int) (a b d v : Nat) : Bool := own a b d v || ((nz a b && nz d v) && decide (A * 841 * 841 ≤ dt a b d v * C))
def val (a b d v : Nat) : Int := if own a b d v = true then 1073741824 else dt a b d v
def one (id : Int) (a b d v : Nat) : Re × Int := ((id, (d : Int), (v : Int), false), val a b d v)
def it (A C id : Int) (a b d v : Nat) : List (Re × Int) := if tol A C a b d v = true then [one id a b d v] else []
def row (A C id : Int) (a b d n : Nat) : List (Re × Int) := (List.range n).flatMap fun v => it A C id a b d (v + 1)
def pre (A C id : Int) (a b m n : Nat) : List (Re × Int) := (List.range n).flatMap fun d => row A C id a b d m
def prs (A C id : Int) (a b m : Nat) : List (Re × Int) := pre A C id a b m 9
def rc (x : Re) : List Value := [.int .i64 x.1, .int .i64 x.2.1, .int .i64 x.2.2.1, .bool x.2.2.2]
def cs (x : Re × Int) : List Value := [.int .i64 x.1.1, .int .i64 x.1.2.1, .int .i64 x.1.2.2.1, .bool x.1.2.2.2, .int .i64 x.2]
def fall (l : List (Re × Int)) : List (Re × Int) := l.mergeSort fun x y => decide (Ra.sg y.2 x.2 ≤ 0)
def limb (k : Ex.Sg) : Option Nat := if k.kind = 3 then some 0 else if k.kind = 4 then some 1 else if k.kind = 5 then some 2 else none
def limbs (A C : Int) (k : Ex.Sg) (t : Int) : List Re := (fall (prs A C k.id k.dir.toNat k.level.toNat t.toNat)).map (·.1)
def mnI (x y : Int) : Int := if y < x then y else x
def base (A C : Int) (k : Ex.Sg) (b : Un.Bd) : List Re :=
 if k.kind = 1 then (if b.step < k.size then [] else [(k.id, 0, 0, false)])
 else if k.kind = 2 then (if b.jump < k.size then [] else [(k.id, 0, 0, false)])
 else if k.kind = 3 then limbs A C k b.t0
 else if k.kind = 4 then limbs A C k b.t1
 else if k.kind = 5 then limbs A C k b.t2
 else if k.kind = 9 then [(k.id, 0, mnI k.level b.t1, false)]
 else [(k.id, 0, 0, false)]
def opts (A C : Int) (k : Ex.Sg) (b : Un.Bd) : List Re := base A C k b ++ (if k.mark = 1 then [] else [(k.id, 0, 0, true)])
end Uo
end Go.Proofs.YtedolbjgdedoaaaGreatDoor

namespace Go.Proofs.YtedolbjgdedoaaaGreatDoor
open Go.RowKit
instance : Inhabited Un.Bd := ⟨⟨.empty, 0, 0, 0, 0, 0, 0, 0, 0, 0, 0, 0, 0, 0, 0, 0, 0⟩⟩
namespace Un
def mine (bar role : Int) (k : Ex.Sg) : Bool := decide (bar ≤ k.bar) && (k.role == role)
def lift (bar : Int) (k : Ex.Sg) : Bool := decide (bar ≤ k.bar) && (k.kind == 7)
def none? (x : Ex.Wk) (b : Bd) (k : Ex.Sg) : Bool := (Uo.opts x.ta x.tc k b).isEmpty
def ableR (x : Ex.Wk) (b : Bd) (role bar : Int) : Int × Bool :=
 match (x.sg.filter (mine bar role)).find? (none? x b) with
 | some k => (k.id, false)
 | none => (0, true)
def who (bs : List Bd) (b : Bd) (role r : Int) : Bd := if r = role then b else bs.getD r.toNat default
def heavy (bs : List Bd) (b : Bd) (role : Int) (k : Ex.Sg) : Bool :=
 (k.role == role || k.wth - 1 == role) && decide ((who bs b role k.role).lift < (who bs b role (k.wth - 1)).weight)
def heavyR (x : Ex.Wk) (bs : List Bd) (b : Bd) (role bar : Int) : Int × Bool :=
 match (x.sg.filter (lift bar)).find? (heavy bs b role) with
 | some k => (k.id, true)
 | none => (0, false)
def within (x : Ex.Wk) (role bar : Int) : Bool := decide (0 ≤ role) && decide (role < x.ro.length) && decide (0 ≤ bar) && decide (bar < x.n)
def cost (k : Ex.Sg) (r : Uo.Re) : Int :=
 if r.2.2.2 = true then (if k.mark = 3 then 4 else if k.mark = 2 then 16 else 64)
 else if (k.kind = 3 ∨ k.kind = 4 ∨ k.kind = 5) ∧ (r.2.1 ≠ k.dir ∨ r.2.2.1 ≠ k.level) then 1 else 0
def price (x : Ex.Wk) (b : Bd) (role bar : Int) : Int :=
 ((x.sg.filter (mine bar role)).map fun k => cost k ((Uo.opts x.ta x.tc k b).headD (0, 0, 0, false))).sum
def fits (x : Ex.Wk) (bs : List Bd) (cast : List Int) (role bar : Int) (p : Nat) : Bool :=
 let b := bs.getD p default
 (ableR x b role bar).2 && !(cast.contains (p : Int)) && !(heavyR x (cast.map fun q => bs.getD q.toNat default) b role bar).2
def before (x : Ex.Wk) (bs : List Bd) (role bar : Int) (p q : Nat) : Prop :=
 price x (bs.getD p default) role bar < price x (bs.getD q default) role bar ∨ (price x (bs.getD p default) role bar = price x (bs.getD q default) role bar ∧ p ≤ q)
structure Ready (x : Ex.Wk) (bs : List Bd) (cast : List Int) (role bar : Int) (l : List Nat) : Prop where
 perm : l.Perm ((List.range bs.length).filter (fits x bs cast role bar))
 srt : l.Pairwise (before x bs role bar)
end Un
end Go.Proofs.YtedolbjgdedoaaaGreatDoor

namespace Go.Proofs.YtedolbjgdedoaaaGreatDoor
open Go.RowKit
namespace Un
def only (x : Ex.Wk) (bar role : Int) : Ex.Wk := { x with sg := x.sg.filter (mine bar role) }
structure Le (a b : Bd) : Prop where
 step : a.step ≤ b.step
 jump : a.jump ≤ b.jump
 t0 : a.t0 ≤ b.t0
 t1 : a.t1 ≤ b.t1
 t2 : a.t2 ≤ b.t2
end Un
end Go.Proofs.YtedolbjgdedoaaaGreatDoor
