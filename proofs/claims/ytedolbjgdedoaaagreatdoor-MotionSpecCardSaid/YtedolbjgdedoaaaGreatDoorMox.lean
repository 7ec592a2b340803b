/- Plain: how performers stand: states, what a sign does, motions, ways (packages pose and motion). Plain: boxes, figures, sweeps and extents (packages pose and motion); who stays within (the law MotionInside). Plain: within the sweep: all states on the way (the laws MotionInside, MotionSlim, MotionDropped). Plain: mirrored motions end in mirrored states (the law MotionMirror). Plain: works with fewer, or with mirrored signs; the reals of a motion (the laws MotionAlone, MotionMirror, MotionDropped). -/
import Derived.Test.YtedolbjgdedoaaaGreatDoorUoa
set_option linter.unusedSimpArgs false
set_option linter.unusedVariables false
namespace Go.Proofs.YtedolbjgdedoaaaGreatDoor
open Go.RowKit
namespace Mo
structure St where
 x : Int
 y : Int
 f : Int
 d0 : Int
 v0 : Int
 d1 : Int
 v1 : Int
 d2 : Int
 v2 : Int
 d3 : Int
 v3 : Int
 d4 : Int
 v4 : Int
instance : Inhabited St := ⟨⟨0, 0, 0, 0, 0, 0, 0, 0, 0, 0, 0, 0, 0⟩⟩
def St.zero : St := ⟨0, 0, 0, 0, 0, 0, 0, 0, 0, 0, 0, 0, 0⟩
def lim (s : St) : Nat → Int × Int
 | 0 => (s.d0, s.v0)
 | 1 => (s.d1, s.v1)
 | 2 => (s.d2, s.v2)
 | 3 => (s.d3, s.v3)
 | _ => (s.d4, s.v4)
def put (s : St) (i : Nat) (d v : Int) : St := match i with
 | 0 => { s with d0 := d, v0 := v }
 | 1 => { s with d1 := d, v1 := v }
 | 2 => { s with d2 := d, v2 := v }
 | 3 => { s with d3 := d, v3 := v }
 | _ => { s with d4 := d, v4 := v }
def okL (d v : Int) : Bool := (d == 0 && v == 0) || (Tp.inb d 0 8 && Tp.inb v 1 3)
def okF (s : St) : Bool := Tp.inb s.f 0 7 && okL s.d0 s.v0 && okL s.d1 s.v1 && okL s.d2 s.v2 && okL s.d3 s.v3 && okL s.d4 s.v4
def okP (x y : Int) : Bool := Tp.inb x (-1073741824) 1073741824 && Tp.inb y (-1073741824) 1073741824
def ok (s : St) : Bool := okP s.x s.y && okF s
def turned (d f : Int) : Int := if d = 0 then 0 else if 8 < d + f then d + f - 8 else d + f
def fx (d : Int) : Int := if d = 2 ∨ d = 4 then 20 else if d = 3 then 29 else if d = 6 ∨ d = 8 then -20 else if d = 7 then -29 else 0
def fy (d : Int) : Int := if d = 1 then 29 else if d = 2 ∨ d = 8 then 21 else if d = 4 ∨ d = 6 then -21 else if d = 5 then -29 else 0
def travel (s : St) (dir n : Int) : St := { s with x := s.x + n * fx (turned dir s.f), y := s.y + n * fy (turned dir s.f) }
def act1 (s : St) (k : Ex.Sg) (r : Uo.Re) : St :=
 if k.kind = 1 then put (travel s k.dir k.size) (k.side - 1).toNat 0 0
 else if k.kind = 2 then put (put (travel s k.dir k.size) 0 0 0) 1 0 0
 else if k.kind = 3 then put s (k.side - 1).toNat r.2.1 r.2.2.1
 else if k.kind = 4 then put s (k.side + 1).toNat r.2.1 r.2.2.1
 else if k.kind = 5 then put s 4 r.2.1 r.2.2.1
 else if k.kind = 6 then { s with f := (s.f + k.size) % 8 }
 else if k.kind = 7 then put (put s 2 0 0) 3 0 0
 else if k.kind = 8 then put (put s 0 0 0) 1 0 0
 else put s (k.side + 1).toNat 0 0
def act (s : St) (k : Ex.Sg) (r : Uo.Re) : St := if r.2.2.2 = true then s else act1 s k r
def form (k : Ex.Sg) (r : Uo.Re) : Bool :=
 r.1 == k.id && (if r.2.2.2 = true then r.2.1 == 0 && r.2.2.1 == 0 else if k.kind = 3 ∨ k.kind = 4 ∨ k.kind = 5 then Tp.inb r.2.1 0 8 && Tp.inb r.2.2.1 1 3 else if k.kind = 9 then r.2.1 == 0 && Tp.inb r.2.2.1 1 3 else r.2.1 == 0 && r.2.2.1 == 0)
structure Fit (k : Ex.Sg) : Prop where
 kind : 1 ≤ k.kind ∧ k.kind ≤ 9
 mark : 1 ≤ k.mark ∧ k.mark ≤ 3
 side : if k.kind = 1 ∨ k.kind = 3 ∨ k.kind = 4 ∨ k.kind = 9 then 1 ≤ k.side ∧ k.side ≤ 2 else k.side = 0
 dir : if k.kind = 1 ∨ k.kind = 2 then 1 ≤ k.dir ∧ k.dir ≤ 8 else if k.kind = 3 ∨ k.kind = 4 ∨ k.kind = 5 then 0 ≤ k.dir ∧ k.dir ≤ 8 else k.dir = 0
 level : if k.kind = 3 ∨ k.kind = 4 ∨ k.kind = 5 ∨ k.kind = 9 then 1 ≤ k.level ∧ k.level ≤ 3 else k.level = 0
 size : if k.kind = 1 ∨ k.kind = 2 then 1 ≤ k.size ∧ k.size ≤ 16 else if k.kind = 6 then 1 ≤ k.size ∧ k.size ≤ 7 else k.size = 0
theorem fit_of {k : Ex.Sg} {r n : Int} (h : Ex.okSign k r n = true) : Fit k := by
 unfold Ex.okSign Ex.ok1 Ex.ok2 at h
 simp only [Bool.and_eq_true] at h
 obtain ⟨⟨⟨⟨⟨⟨⟨h1, _⟩, _⟩, h4⟩, ⟨⟨⟨⟨h5, h6⟩, h7⟩, h8⟩, _⟩⟩, _⟩, _⟩, _⟩ := h
 have hk := (Tp.inb_iff _ _ _).1 h1
 have m := (Tp.inb_iff _ _ _).1 h4
 have cases9 : k.kind = 1 ∨ k.kind = 2 ∨ k.kind = 3 ∨ k.kind = 4 ∨ k.kind = 5 ∨ k.kind = 6 ∨ k.kind = 7 ∨ k.kind = 8 ∨ k.kind = 9 := by omega
 have X : ∀ {a : Int} {lo hi : Int}, Tp.inb a lo hi = true → lo ≤ a ∧ a ≤ hi := fun h => (Tp.inb_iff _ _ _).1 h
 refine ⟨hk, m, ?_, ?_, ?_, ?_⟩
 all_goals
  rcases cases9 with e | e | e | e | e | e | e | e | e <;> rw [e] at h5 h6 h7 h8 <;> simp [e] <;> first | exact X h5 | exact X h6 | exact X h7 | exact X h8 | exact of_decide_eq_true h5 | exact of_decide_eq_true h6 | exact of_decide_eq_true h7 | exact of_decide_eq_true h8 | simpa using h5 | simpa using h6 | simpa using h7 | simpa using h8
/-! ### Motions -/
def mine (bar role : Int) (k : Ex.Sg) : Bool := (k.role == role) && (k.bar == bar)
def ofI (x : Ex.Wk) (role bar : Int) : List Ex.Sg := x.sg.filter (mine bar role)
def bef (a b : Ex.Sg) : Prop := a.fn * b.fd < b.fn * a.fd ∨ (a.fn * b.fd = b.fn * a.fd ∧ a.id < b.id)
structure Of (x : Ex.Wk) (role bar : Int) (l : List Ex.Sg) : Prop where
 perm : l.Perm (ofI x role bar)
 srt : l.Pairwise bef
def real (r : List Uo.Re) (id : Int) : Uo.Re := (r.find? fun y => y.1 == id).getD (0, 0, 0, false)
def mot (l : List Ex.Sg) (r : List Uo.Re) : Bool := l.length == r.length && (l.zip r).all fun p => form p.1 p.2
def way (r : List Uo.Re) : List Ex.Sg → St → List St
 | [], s => [s]
 | k :: l, s => s :: (if ok (act s k (real r k.id)) = true then way r l (act s k (real r k.id)) else [])
def fine (r : List Uo.Re) : List Ex.Sg → St → Bool
 | [], _ => true
 | k :: l, s => ok (act s k (real r k.id)) && fine r l (act s k (real r k.id))
def last (r : List Uo.Re) : List Ex.Sg → St → St
 | [], s => s
 | k :: l, s => last r l (act s k (real r k.id))
end Mo
end Go.Proofs.YtedolbjgdedoaaaGreatDoor

namespace Go.Proofs.YtedolbjgdedoaaaGreatDoor
open Go.RowKit
namespace Mo
structure Bx where
 xl : Int
 xh : Int
 yl : Int
 yh : Int
def mnI (a b : Int) : Int := if b < a then b else a
def mxI (a b : Int) : Int := if a < b then b else a
def join (a b : Bx) : Bx := ⟨mnI a.xl b.xl, mxI a.xh b.xh, mnI a.yl b.yl, mxI a.yh b.yh⟩
def shift (a : Bx) (x y : Int) : Bx := ⟨a.xl + x, a.xh + x, a.yl + y, a.yh + y⟩
def sq (n : Int) : Bx := ⟨-n, n, -n, n⟩
def pt (x y : Int) : Bx := ⟨x, x, y, y⟩
def Ins (a b : Bx) : Prop := b.xl ≤ a.xl ∧ a.xh ≤ b.xh ∧ b.yl ≤ a.yl ∧ a.yh ≤ b.yh
theorem Ins.refl (a : Bx) : Ins a a := ⟨Int.le_refl _, Int.le_refl _, Int.le_refl _, Int.le_refl _⟩
theorem Ins.trans {a b c : Bx} (h : Ins a b) (k : Ins b c) : Ins a c := by unfold Ins at *; omega
theorem Ins.shift {a b : Bx} (h : Ins a b) (x y : Int) : Ins (shift a x y) (shift b x y) := by unfold Ins Mo.shift at *; dsimp only; omega
/-! ### Limbs -/
def vx (d v : Int) : Int := if d = 0 then 0 else (if v = 2 then 29 else 20) * fx d
def vy (d v : Int) : Int := if d = 0 then 0 else (if v = 2 then 29 else 20) * fy d
theorem fx_bd (d : Int) : -29 ≤ fx d ∧ fx d ≤ 29 := by unfold fx; repeat' split <;> omega
theorem fy_bd (d : Int) : -29 ≤ fy d ∧ fy d ≤ 29 := by unfold fy; repeat' split <;> omega
theorem vx_bd (d v : Int) : -841 ≤ vx d v ∧ vx d v ≤ 841 := by
 have := fx_bd d
 unfold vx
 split
 ·omega
 ·split <;> omega
theorem vy_bd (d v : Int) : -841 ≤ vy d v ∧ vy d v ≤ 841 := by
 have := fy_bd d
 unfold vy
 split
 ·omega
 ·split <;> omega
def reach (b : Un.Bd) (i : Nat) : Int := if i < 2 then b.r0 else if i < 4 then b.r1 else b.r2
def tip (b : Un.Bd) (f : Int) (i : Nat) (l : Int × Int) : Bx := pt (reach b i * vx (turned l.1 f) l.2) (reach b i * vy (turned l.1 f) l.2)
theorem mul_bd {r a : Int} (hr : 0 ≤ r) (h : -841 ≤ a ∧ a ≤ 841) : -(841 * r) ≤ r * a ∧ r * a ≤ 841 * r := by
 have h1 := Int.mul_le_mul_of_nonneg_left h.1 hr
 have h2 := Int.mul_le_mul_of_nonneg_left h.2 hr
 have e1 : r * (-841) = -(841 * r) := by omega
 have e2 : r * 841 = 841 * r := by omega
 omega
def moves (k : Ex.Sg) (i : Nat) : Bool :=
 if k.kind = 1 ∨ k.kind = 3 then (k.side - 1).toNat == i
 else if k.kind = 4 ∨ k.kind = 9 then (k.side + 1).toNat == i
 else if k.kind = 2 ∨ k.kind = 8 then i == 0 || i == 1
 else if k.kind = 7 then i == 2 || i == 3
 else if k.kind = 5 then i == 4
 else false
def movedB (r : List Uo.Re) (l : List Ex.Sg) (i : Nat) : Bool := l.any fun k => !(real r k.id).2.2.2 && moves k i
def turnsB (r : List Uo.Re) (l : List Ex.Sg) : Bool := l.any fun k => !(real r k.id).2.2.2 && k.kind == 6
def five : List Nat := [0, 1, 2, 3, 4]
def addF (r : List Uo.Re) (l : List Ex.Sg) (s : St) (b : Un.Bd) (box : Bx) (i : Nat) : Bx :=
 if movedB r l i = true ∨ (turnsB r l = true ∧ (lim s i).2 ≠ 0) then join box (sq (841 * reach b i))
 else if (lim s i).2 ≠ 0 then join box (tip b s.f i (lim s i)) else box
def figure (r : List Uo.Re) (l : List Ex.Sg) (s : St) (b : Un.Bd) : Bx := five.foldl (addF r l s b) (sq (841 * b.girth))
def here (g : Bx) (s : St) : Bx := shift g (29 * s.x) (29 * s.y)
def hull (g : Bx) (x : Bx) (l : List St) : Bx := l.foldl (fun b s => join b (here g s)) x
def sweep (r : List Uo.Re) (l : List Ex.Sg) (s : St) (b : Un.Bd) : Bx := hull (figure r l s b) (here (figure r l s b) s) ((way r l s).drop 1)
theorem way_head (r : List Uo.Re) : ∀ (l : List Ex.Sg) (s : St), way r l s = s :: (way r l s).drop 1
 | [], _ => rfl
 | _ :: _, _ => rfl
/-! ### What a sign leaves as it was -/
end Mo
end Go.Proofs.YtedolbjgdedoaaaGreatDoor

namespace Go.Proofs.YtedolbjgdedoaaaGreatDoor
open Go.RowKit
namespace Mo
/-! ### A slimmer body -/
/-! ### All dropped -/
theorem join_self (a : Bx) : join a a = a := by
 obtain ⟨a1, a2, a3, a4⟩ := a
 simp [join, mnI, mxI]
end Mo
end Go.Proofs.YtedolbjgdedoaaaGreatDoor

namespace Go.Proofs.YtedolbjgdedoaaaGreatDoor
open Go.RowKit
namespace Mo
def mirD (d : Int) : Int := if d ≤ 1 then d else 10 - d
def mirR (r : Uo.Re) : Uo.Re := (r.1, mirD r.2.1, r.2.2.1, r.2.2.2)
theorem okP_iff (x y : Int) : okP x y = true ↔ (-1073741824 ≤ x ∧ x ≤ 1073741824) ∧ -1073741824 ≤ y ∧ y ≤ 1073741824 := by
 unfold okP
 rw [Bool.and_eq_true, Tp.inb_iff, Tp.inb_iff]
theorem okF_of {s : St} (h : ok s = true) : okF s = true := by unfold ok at h; exact (Bool.and_eq_true _ _ ▸ h).2
theorem ok_iff {s : St} (hF : okF s = true) : ok s = true ↔ (-1073741824 ≤ s.x ∧ s.x ≤ 1073741824) ∧ -1073741824 ≤ s.y ∧ s.y ≤ 1073741824 := by
 unfold ok
 rw [hF, Bool.and_true, okP_iff]
end Mo
end Go.Proofs.YtedolbjgdedoaaaGreatDoor

namespace Go.Proofs.YtedolbjgdedoaaaGreatDoor
open Go.RowKit
namespace Mo
def wsg (x : Ex.Wk) (l : List Ex.Sg) : Ex.Wk := { x with sg := l }
theorem chk_iff (x : Ex.Wk) : Ex.chk x = 0 ↔ (x.ro.length ≤ 64 ∧ x.sg.length ≤ 4096) ∧ Tp.chk x.n x.ts x.ps x.ss = 0 ∧ Ex.okW x = true := by
 unfold Ex.chk
 by_cases h1 : 64 < x.ro.length ∨ 4096 < x.sg.length
 ·rw [if_pos h1]; constructor
  ·intro h; cases h
  ·rintro ⟨h, _⟩; omega
 ·rw [if_neg h1]
  by_cases h2 : Tp.chk x.n x.ts x.ps x.ss ≠ 0
  ·rw [if_pos h2]; constructor
   ·intro h; exact absurd h h2
   ·rintro ⟨_, h, _⟩; exact absurd h h2
  ·rw [if_neg h2]
   by_cases h3 : Ex.okW x = true
   ·rw [if_pos h3]
    exact ⟨fun _ => ⟨by omega, by omega, h3⟩, fun _ => rfl⟩
   ·rw [if_neg h3]
    exact ⟨fun h => (by cases h), fun h => absurd h.2.2 h3⟩
def alone (x : Ex.Wk) (role bar : Int) : Ex.Wk := wsg x (ofI x role bar)
/-! ### Mirrored signs -/
/-! ### The reals of a motion -/
theorem form_id {k : Ex.Sg} {r : Uo.Re} (h : form k r = true) : r.1 = k.id := by
 unfold form at h
 simp only [Bool.and_eq_true, beq_iff_eq] at h
 exact h.1
theorem mot_real : ∀ (l : List Ex.Sg) (r : List Uo.Re), l.Pairwise (fun a b => a.id < b.id) → mot l r = true → ∀ k ∈ l, form k (real r k.id) = true
 | [], _, _, _, k, h => by cases h
 | k0 :: l, [], _, hm, _, _ => by unfold mot at hm; simp at hm
 | k0 :: l, r0 :: r, hp, hm, k, h => by
  unfold mot at hm
  simp only [List.length_cons, List.zip_cons_cons, List.all_cons, Bool.and_eq_true] at hm
  have h0 := form_id hm.2.1
  rcases List.mem_cons.1 h with rfl | h
  ·have e : real (r0 :: r) k.id = r0 := by unfold real; rw [List.find?_cons_of_pos (by simp [h0])]; rfl
   rw [e]; exact hm.2.1
  ·have hlt := (List.pairwise_cons.1 hp).1 k h
   have e : real (r0 :: r) k.id = real r k.id := by unfold real; rw [List.find?_cons_of_neg (by simp [h0]; omega)]
   rw [e]
   exact mot_real l r (List.pairwise_cons.1 hp).2 (by unfold mot; rw [Bool.and_eq_true]; exact ⟨by simpa using hm.1, hm.2.2⟩) k h
end Mo
end Go.Proofs.YtedolbjgdedoaaaGreatDoor
