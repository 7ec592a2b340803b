/- Plain: how performers stand: states, what a sign does, motions, ways (packages pose and motion). Plain: boxes, figures, sweeps and extents (packages pose and motion); who stays within (the law MotionInside). Plain: within the sweep: all states on the way (the laws MotionInside, MotionSlim, MotionDropped). Plain: mirrored motions end in mirrored states (the law MotionMirror). Plain: works with fewer, or with mirrored signs; the reals of a motion (the laws MotionAlone, MotionMirror, MotionDropped). -/
import Derived.Test.YtedolbjgdedoaaaGreatDoorUoa
set_option linter.unusedSimpArgs false
set_option linter.unusedVariables false
namespace Go.Proofs.YtedolbjgdedoaaaGreatDoor
open Go.RowKit
namespace Mo
structure St where
 x : Int
 y : Int
 f : Int
 d0 : Int
 v0 : Int
 d1 : Int
 v1 : Int
 d2 : Int
 v2 : Int
 d3 : Int
 v3 : Int
 d4 : Int
 v4 : Int
instance : Inhabited St := ⟨⟨0, 0, 0, 0, 0, 0, 0, 0, 0, 0, 0, 0, 0⟩⟩
def St.zero : St := ⟨0, 0, 0, 0, 0, 0, 0, 0, 0, 0, 0, 0, 0⟩
def lim (s : St) : Nat → Int × Int
 | 0 => (s.d0, s.v0)
 | 1 => (s.d1, s.v1)
 | 2 => (s.d2, s.v2)
 | 3 => (s.d3, s.v3)
 | _ => (s.d4, s.v4)
def put (s : St) (i : Nat) (d v : Int) : St := match i with
 | 0 => { s with d0 := d, v0 := v }
 | 1 => { s with d1 := d, v1 := v }
 | 2 => { s with d2 := d, v2 := v }
 | 3 => { s with d3 := d, v3 := v }
 | _ => { s with d4 := d, v4 := v }
def okL (d v : Int) : Bool := (d == 0 && v == 0) || (Tp.inb d 0 8 && Tp.inb v 1 3)
def okF (s : St) : Bool := Tp.inb s.f 0 7 && okL s.d0 s.v0 && okL s.d1 s.v1 && okL s.d2 s.v2 && okL s.d3 s.v3 && okL s.d4 s.v4
def okP (x y : Int) : Bool := Tp.inb x (-1073741824) 1073741824 && Tp.inb y (-1073741824) 1073741824
def ok (s : St) : Bool := okP s.x s.y && okF s
def turned (d f : Int) : Int := if d = 0 then 0 else if 8 < d + f then d + f - 8 else d + f
def fx (d : Int) : Int := if d = 2 ∨ d = 4 then 20 else if d = 3 then 29 else if d = 6 ∨ d = 8 then -20 else if d = 7 then -29 else 0
def fy (d : Int) : Int := if d = 1 then 29 else if d = 2 ∨ d = 8 then 21 else if d = 4 ∨ d = 6 then -21 else if d = 5 then -29 else 0
def travel (s : St) (dir n : Int) : St := { s with x := s.x + n * fx (turned dir s.f), y := s.y + n * fy (turned dir s.f) }
def act1 (s : St) (k : Ex.Sg) (r : Uo.Re) : St :=
 if k.kind = 1 then put (travel s k.dir k.size) (k.side - 1).toNat 0 0
 else if k.kind = 2 then put (put (travel s k.dir k.size) 0 0 0) 1 0 0
 else if k.kind = 3 then put s (k.side - 1).toNat r.2.1 r.2.2.1
 else if k.kind = 4 then put s (k.side + 1).toNat r.2.1 r.2.2.1
 else if k.kind = 5 then put s 4 r.2.1 r.2.2.1
 else if k.kind = 6 then { s with f := (s.f + k.size) % 8 }
 else if k.kind = 7 then put (put s 2 0 0) 3 0 0
 else if k.kind = 8 then put (put s 0 0 0) 1 0 0
 else put s (k.side + 1).toNat 0 0
def act (s : St) (k : Ex.Sg) (r : Uo.Re) : St := if r.2.2.2 = true then s else act1 s k r
def form (k : Ex.Sg) (r : Uo.Re) : Bool :=
 r.1 == k.id && (if r.2.2.2 = true then r.2.1 == 0 && r.2.2.1 == 0 else if k.kind = 3 ∨ k.kind = 4 ∨ k.kind = 5 then Tp.inb r.2.1 0 8 && Tp.inb r.2.2.1 1 3 else if k.kind = 9 then r.2.1 == 0 && Tp.inb r.2.2.1 1 3 else r.2.1 == 0 && r.2.2.1 == 0)
structure Fit (k : Ex.Sg) : Prop where
 kind : 1 ≤ k.kind ∧ k.kind ≤ 9
 mark : 1 ≤ k.mark ∧ k.mark ≤ 3
 side : if k.kind = 1 ∨ k.kind = 3 ∨ k.kind = 4 ∨ k.kind = 9 then 1 ≤ k.side ∧ k.side ≤ 2 else k.side = 0
 dir : if k.kind = 1 ∨ k.kind = 2 then 1 ≤ k.dir ∧ k.dir ≤ 8 else if k.kind = 3 ∨ k.kind = 4 ∨ k.kind = 5 then 0 ≤ k.dir ∧ k.dir ≤ 8 else k.dir = 0
 level : if k.kind = 3 ∨ k.kind = 4 ∨ k.kind = 5 ∨ k.kind = 9 then 1 ≤ k.level ∧ k.level ≤ 3 else k.level = 0
 size : if k.kind = 1 ∨ k.kind = 2 then 1 ≤ k.size ∧ k.size ≤ 16 else if k.kind = 6 then 1 ≤ k.size ∧ k.size ≤ 7 else k.size = 0
theorem fit_of {k : Ex.Sg} {r n : Int} (h : Ex.okSign k r n = true) : Fit k := by
 unfold Ex.okSign Ex.ok1 Ex.ok2 at h
 simp only [Bool.and_eq_true] at h
 obtain ⟨⟨⟨⟨⟨⟨⟨h1, _⟩, _⟩, h4⟩, ⟨⟨⟨⟨h5, h6⟩, h7⟩, h8⟩, _⟩⟩, _⟩, _⟩, _⟩ := h
 have hk := (Tp.inb_iff _ _ _).1 h1
 have m := (Tp.inb_iff _ _ _).1 h4
 have cases9 : k.kind = 1 ∨ k.kind = 2 ∨ k.kind = 3 ∨ k.kind = 4 ∨ k.kind = 5 ∨ k.kind = 6 ∨ k.kind = 7 ∨ k.kind = 8 ∨ k.kind = 9 := by omega
 have X : ∀ {a : Int} {lo hi : Int}, Tp.inb a lo hi = true → lo ≤ a ∧ a ≤ hi := fun h => (Tp.inb_iff _ _ _).1 h
 refine ⟨hk, m, ?_, ?_, ?_, ?_⟩
 all_goals
  rcases cases9 with e | e | e | e | e | e | e | e | e <;> rw [e] at h5 h6 h7 h8 <;> simp [e] <;> first | exact X h5 | exact X h6 | exact X h7 | exact X h8 | exact of_decide_eq_true h5 | exact of_decide_eq_true h6 | exact of_decide_eq_true h7 | exact of_decide_eq_true h8 | simpa using h5 | simpa using h6 | simpa using h7 | simpa using h8
/-! ### Motions -/
def mine (bar role : Int) (k : Ex.Sg) : Bool := (k.role == role) && (k.bar == bar)
def ofI (x : Ex.Wk) (role bar : Int) : List Ex.Sg := x.sg.filter (mine bar role)
def bef (a b : Ex.Sg) : Prop := a.fn * b.fd < b.fn * a.fd ∨ (a.fn * b.fd = b.fn * a.fd ∧ a.id < b.id)
structure Of (x : Ex.Wk) (role bar : Int) (l : List Ex.Sg) : Prop where
 perm : l.Perm (ofI x role bar)
 srt : l.Pairwise bef
def real (r : List Uo.Re) (id : Int) : Uo.Re := (r.find? fun y => y.1 == id).getD (0, 0, 0, false)
def mot (l : List Ex.Sg) (r : List Uo.Re) : Bool := l.length == r.length && (l.zip r).all fun p => form p.1 p.2
def way (r : List Uo.Re) : List Ex.Sg → St → List St
 | [], s => [s]
 | k :: l, s => s :: (if ok (act s k (real r k.id)) = true then way r l (act s k (real r k.id)) else [])
def fine (r : List Uo.Re) : List Ex.Sg → St → Bool
 | [], _ => true
 | k :: l, s => ok (act s k (real r k.id)) && fine r l (act s k (real r k.id))
def last (r : List Uo.Re) : List Ex.Sg → St → St
 | [], s => s
 | k :: l, s => last r l (act s k (real r k.id))
end Mo
end Go.Proofs.YtedolbjgdedoaaaGreatDoor

namespace Go.Proofs.YtedolbjgdedoaaaGreatDoor
open Go.RowKit
namespace Mo
structure Bx where
 xl : Int
 xh : Int
 yl : Int
 yh : Int
def mnI (a b : Int) : Int := if b < a then b else a
def mxI (a b : Int) : Int := if a < b then b else a
def join (a b : Bx) : Bx := ⟨mnI a.xl b.xl, mxI a.xh b.xh, mnI a.yl b.yl, mxI a.yh b.yh⟩
def shift (a : Bx) (x y : Int) : Bx := ⟨a.xl + x, a.xh + x, a.yl + y, a.yh + y⟩
def sq (n : Int) : Bx := ⟨-n, n, -n, n⟩
def pt (x y : Int) : Bx := ⟨x, x, y, y⟩
def Ins (a b : Bx) : Prop := b.xl ≤ a.xl ∧ a.xh ≤ b.xh ∧ b.yl ≤ a.yl ∧ a.yh ≤ b.yh
theorem Ins.refl (a : Bx) : Ins a a := ⟨Int.le_refl _, Int.le_refl _, Int.le_refl _, Int.le_refl _⟩
theorem Ins.trans {a b c : Bx} (h : Ins a b) (k : Ins b c) : Ins a c := by unfold Ins at *; omega
theorem mn_le (a b : Int) : mnI a b ≤ a ∧ mnI a b ≤ b := by unfold mnI; split <;> omega
theorem mx_le (a b : Int) : a ≤ mxI a b ∧ b ≤ mxI a b := by unfold mxI; split <;> omega
theorem le_mn {a b c : Int} (h : c ≤ a) (k : c ≤ b) : c ≤ mnI a b := by unfold mnI; split <;> omega
theorem le_mx {a b c : Int} (h : a ≤ c) (k : b ≤ c) : mxI a b ≤ c := by unfold mxI; split <;> omega
theorem ins_left (a b : Bx) : Ins a (join a b) := ⟨(mn_le _ _).1, (mx_le _ _).1, (mn_le _ _).1, (mx_le _ _).1⟩
theorem ins_right (a b : Bx) : Ins b (join a b) := ⟨(mn_le _ _).2, (mx_le _ _).2, (mn_le _ _).2, (mx_le _ _).2⟩
theorem join_ins {a b c : Bx} (h : Ins a c) (k : Ins b c) : Ins (join a b) c :=
 ⟨le_mn h.1 k.1, le_mx h.2.1 k.2.1, le_mn h.2.2.1 k.2.2.1, le_mx h.2.2.2 k.2.2.2⟩
theorem Ins.shift {a b : Bx} (h : Ins a b) (x y : Int) : Ins (shift a x y) (shift b x y) := by unfold Ins Mo.shift at *; dsimp only; omega
theorem shift_join (a b : Bx) (x y : Int) : shift (join a b) x y = join (shift a x y) (shift b x y) := by
 unfold Mo.shift join mnI mxI
 dsimp only
 congr 1 <;> (repeat' split) <;> omega
theorem ins_between {a c : Bx} {x0 y0 x1 y1 x y : Int} (h0 : Ins (shift a x0 y0) c) (h1 : Ins (shift a x1 y1) c) (hx : (x0 ≤ x ∧ x ≤ x1) ∨ (x1 ≤ x ∧ x ≤ x0)) (hy : (y0 ≤ y ∧ y ≤ y1) ∨ (y1 ≤ y ∧ y ≤ y0)) : Ins (shift a x y) c := by
 unfold Ins shift at *; dsimp only at *; omega
/-! ### Limbs -/
def vx (d v : Int) : Int := if d = 0 then 0 else (if v = 2 then 29 else 20) * fx d
def vy (d v : Int) : Int := if d = 0 then 0 else (if v = 2 then 29 else 20) * fy d
theorem fx_bd (d : Int) : -29 ≤ fx d ∧ fx d ≤ 29 := by unfold fx; repeat' split <;> omega
theorem fy_bd (d : Int) : -29 ≤ fy d ∧ fy d ≤ 29 := by unfold fy; repeat' split <;> omega
theorem vx_bd (d v : Int) : -841 ≤ vx d v ∧ vx d v ≤ 841 := by
 have := fx_bd d
 unfold vx
 split
 ·omega
 ·split <;> omega
theorem vy_bd (d v : Int) : -841 ≤ vy d v ∧ vy d v ≤ 841 := by
 have := fy_bd d
 unfold vy
 split
 ·omega
 ·split <;> omega
def reach (b : Un.Bd) (i : Nat) : Int := if i < 2 then b.r0 else if i < 4 then b.r1 else b.r2
def tip (b : Un.Bd) (f : Int) (i : Nat) (l : Int × Int) : Bx := pt (reach b i * vx (turned l.1 f) l.2) (reach b i * vy (turned l.1 f) l.2)
theorem mul_bd {r a : Int} (hr : 0 ≤ r) (h : -841 ≤ a ∧ a ≤ 841) : -(841 * r) ≤ r * a ∧ r * a ≤ 841 * r := by
 have h1 := Int.mul_le_mul_of_nonneg_left h.1 hr
 have h2 := Int.mul_le_mul_of_nonneg_left h.2 hr
 have e1 : r * (-841) = -(841 * r) := by omega
 have e2 : r * 841 = 841 * r := by omega
 omega
theorem tip_sq (b : Un.Bd) (f : Int) (i : Nat) (l : Int × Int) (h : 0 ≤ reach b i) : Ins (tip b f i l) (sq (841 * reach b i)) := by
 have h1 := mul_bd h (vx_bd (turned l.1 f) l.2)
 have h2 := mul_bd h (vy_bd (turned l.1 f) l.2)
 unfold Ins tip pt sq
 dsimp only
 omega
def moves (k : Ex.Sg) (i : Nat) : Bool :=
 if k.kind = 1 ∨ k.kind = 3 then (k.side - 1).toNat == i
 else if k.kind = 4 ∨ k.kind = 9 then (k.side + 1).toNat == i
 else if k.kind = 2 ∨ k.kind = 8 then i == 0 || i == 1
 else if k.kind = 7 then i == 2 || i == 3
 else if k.kind = 5 then i == 4
 else false
def movedB (r : List Uo.Re) (l : List Ex.Sg) (i : Nat) : Bool := l.any fun k => !(real r k.id).2.2.2 && moves k i
def turnsB (r : List Uo.Re) (l : List Ex.Sg) : Bool := l.any fun k => !(real r k.id).2.2.2 && k.kind == 6
def five : List Nat := [0, 1, 2, 3, 4]
def addF (r : List Uo.Re) (l : List Ex.Sg) (s : St) (b : Un.Bd) (box : Bx) (i : Nat) : Bx :=
 if movedB r l i = true ∨ (turnsB r l = true ∧ (lim s i).2 ≠ 0) then join box (sq (841 * reach b i))
 else if (lim s i).2 ≠ 0 then join box (tip b s.f i (lim s i)) else box
def figure (r : List Uo.Re) (l : List Ex.Sg) (s : St) (b : Un.Bd) : Bx := five.foldl (addF r l s b) (sq (841 * b.girth))
def addE (s : St) (b : Un.Bd) (box : Bx) (i : Nat) : Bx := if (lim s i).2 ≠ 0 then join box (tip b s.f i (lim s i)) else box
def ext0 (s : St) (b : Un.Bd) : Bx := five.foldl (addE s b) (sq (841 * b.girth))
def extent (s : St) (b : Un.Bd) : Bx := shift (ext0 s b) (29 * s.x) (29 * s.y)
def here (g : Bx) (s : St) : Bx := shift g (29 * s.x) (29 * s.y)
def hull (g : Bx) (x : Bx) (l : List St) : Bx := l.foldl (fun b s => join b (here g s)) x
def sweep (r : List Uo.Re) (l : List Ex.Sg) (s : St) (b : Un.Bd) : Bx := hull (figure r l s b) (here (figure r l s b) s) ((way r l s).drop 1)
theorem fold_ins {f : Bx → Nat → Bx} (hf : ∀ b i, Ins b (f b i)) : ∀ (l : List Nat) (x : Bx), Ins x (l.foldl f x)
 | [], x => Ins.refl x
 | i :: l, x => (hf x i).trans (fold_ins hf l (f x i))
theorem addF_up (r : List Uo.Re) (l : List Ex.Sg) (s : St) (b : Un.Bd) (x : Bx) (i : Nat) : Ins x (addF r l s b x i) := by
 unfold addF
 split
 ·exact ins_left _ _
 ·split
  ·exact ins_left _ _
  ·exact Ins.refl _
theorem fold_has {f : Bx → Nat → Bx} (hf : ∀ b i, Ins b (f b i)) {y : Bx} {j : Nat} (hj : ∀ b, Ins y (f b j)) : ∀ (l : List Nat) (x : Bx), j ∈ l → Ins y (l.foldl f x)
 | i :: l, x, h => by
  rcases List.mem_cons.1 h with rfl | h
  ·exact (hj x).trans (fold_ins hf l _)
  ·exact fold_has hf hj l (f x i) h
theorem fold_le {f : Bx → Nat → Bx} {c : Bx} : ∀ (l : List Nat) (x : Bx), Ins x c → (∀ b i, i ∈ l → Ins b c → Ins (f b i) c) → Ins (l.foldl f x) c
 | [], _, h, _ => h
 | i :: l, x, h, hf => fold_le l (f x i) (hf x i (List.mem_cons_self ..) h) (fun b j hj hb => hf b j (List.mem_cons_of_mem _ hj) hb)
theorem ext0_figure (r : List Uo.Re) (l : List Ex.Sg) (s t : St) (b : Un.Bd) (hr : ∀ i, 0 ≤ reach b i) (hl : ∀ i ∈ five, movedB r l i = true ∨ lim t i = lim s i) (hf : turnsB r l = true ∨ t.f = s.f) : Ins (ext0 t b) (figure r l s b) := by
 refine fold_le five _ (fold_ins (addF_up r l s b) five _) fun x i hi hx => ?_
 unfold addE
 split
 ·rename_i hv
  refine join_ins hx ?_
  by_cases hm : movedB r l i = true ∨ (turnsB r l = true ∧ (lim s i).2 ≠ 0)
  ·refine (tip_sq b t.f i (lim t i) (hr i)).trans (fold_has (addF_up r l s b) (fun x => ?_) five _ hi)
   unfold addF
   rw [if_pos hm]
   exact ins_right _ _
  ·have h1 : lim t i = lim s i := by
    rcases hl i hi with h | h
    ·exact absurd (.inl h) hm
    ·exact h
   rw [h1] at hv
   have h2 : t.f = s.f := by
    rcases hf with h | h
    ·exact absurd (.inr ⟨h, hv⟩) hm
    ·exact h
   rw [h1, h2]
   refine fold_has (addF_up r l s b) (fun x => ?_) five _ hi
   unfold addF
   rw [if_neg hm, if_pos hv]
   exact ins_right _ _
 ·exact hx
theorem hull_up (g : Bx) : ∀ (l : List St) (x : Bx), Ins x (hull g x l)
 | [], x => Ins.refl x
 | s :: l, x => (ins_left x (here g s)).trans (hull_up g l (join x (here g s)))
theorem hull_has (g : Bx) {t : St} : ∀ (l : List St) (x : Bx), t ∈ l → Ins (here g t) (hull g x l)
 | s :: l, x, h => by
  rcases List.mem_cons.1 h with rfl | h
  ·exact (ins_right x (here g t)).trans (hull_up g l _)
  ·exact hull_has g l _ h
theorem hull_le (g : Bx) {c : Bx} : ∀ (l : List St) (x : Bx), Ins x c → (∀ t ∈ l, Ins (here g t) c) → Ins (hull g x l) c
 | [], _, h, _ => h
 | s :: l, x, h, hl => hull_le g l _ (join_ins h (hl s (List.mem_cons_self ..))) (fun t ht => hl t (List.mem_cons_of_mem _ ht))
theorem way_head (r : List Uo.Re) : ∀ (l : List Ex.Sg) (s : St), way r l s = s :: (way r l s).drop 1
 | [], _ => rfl
 | _ :: _, _ => rfl
theorem sweep_has (r : List Uo.Re) (l : List Ex.Sg) (s t : St) (b : Un.Bd) (h : t ∈ way r l s) : Ins (here (figure r l s b) t) (sweep r l s b) := by
 unfold sweep
 rw [way_head] at h
 rcases List.mem_cons.1 h with rfl | h
 ·exact hull_up _ _ _
 ·exact hull_has _ _ _ h
/-! ### What a sign leaves as it was -/
theorem lim_put (s : St) (i j : Nat) (d v : Int) (hi : i < 5) (hj : j < 5) : lim (put s i d v) j = if i = j then (d, v) else lim s j := by
 obtain rfl | rfl | rfl | rfl | rfl : i = 0 ∨ i = 1 ∨ i = 2 ∨ i = 3 ∨ i = 4 := by omega
 all_goals
  obtain rfl | rfl | rfl | rfl | rfl : j = 0 ∨ j = 1 ∨ j = 2 ∨ j = 3 ∨ j = 4 := by omega
  all_goals rfl
theorem act_keeps (s : St) (k : Ex.Sg) (r : Uo.Re) (hk : Fit k) (j : Nat) (hj : j < 5) (h : r.2.2.2 = true ∨ moves k j = false) : lim (act s k r) j = lim s j := by
 unfold act
 by_cases hd : r.2.2.2 = true
 ·rw [if_pos hd]
 ·rw [if_neg hd]
  have hm : moves k j = false := by
   rcases h with h | h
   ·exact absurd h hd
   ·exact h
  have h1 := hk.kind
  have h2 := hk.side
  have tr : ∀ d n, lim (travel s d n) j = lim s j := fun d n => by
   obtain rfl | rfl | rfl | rfl | rfl : j = 0 ∨ j = 1 ∨ j = 2 ∨ j = 3 ∨ j = 4 := by omega
   all_goals rfl
  have c9 : k.kind = 1 ∨ k.kind = 2 ∨ k.kind = 3 ∨ k.kind = 4 ∨ k.kind = 5 ∨ k.kind = 6 ∨ k.kind = 7 ∨ k.kind = 8 ∨ k.kind = 9 := by omega
  unfold moves at hm
  unfold act1
  rcases c9 with e | e | e | e | e | e | e | e | e
  all_goals
   simp [e] at hm h2 ⊢
  ·rw [lim_put _ _ _ _ _ omg hj, if_neg omg, tr]
  ·rw [lim_put _ _ _ _ _ omg hj, if_neg omg, lim_put _ _ _ _ _ omg hj, if_neg omg, tr]
  ·rw [lim_put _ _ _ _ _ omg hj, if_neg omg]
  ·rw [lim_put _ _ _ _ _ omg hj, if_neg omg]
  ·rw [lim_put _ _ _ _ _ omg hj, if_neg omg]
  ·obtain rfl | rfl | rfl | rfl | rfl : j = 0 ∨ j = 1 ∨ j = 2 ∨ j = 3 ∨ j = 4 := by omega
   all_goals rfl
  ·rw [lim_put _ _ _ _ _ omg hj, if_neg omg, lim_put _ _ _ _ _ omg hj, if_neg omg]
  ·rw [lim_put _ _ _ _ _ omg hj, if_neg omg, lim_put _ _ _ _ _ omg hj, if_neg omg]
  ·rw [lim_put _ _ _ _ _ omg hj, if_neg omg]
end Mo
end Go.Proofs.YtedolbjgdedoaaaGreatDoor

namespace Go.Proofs.YtedolbjgdedoaaaGreatDoor
open Go.RowKit
namespace Mo
theorem act_face (s : St) (k : Ex.Sg) (r : Uo.Re) (h : r.2.2.2 = true ∨ (k.kind == 6) = false) : (act s k r).f = s.f := by
 have pf : ∀ (t : St) (i : Nat) (d v : Int), (put t i d v).f = t.f := fun t i d v => by unfold put; split <;> rfl
 unfold act
 by_cases hd : r.2.2.2 = true
 ·rw [if_pos hd]
 ·rw [if_neg hd]
  have h6 : k.kind ≠ 6 := by
   rcases h with h | h
   ·exact absurd h hd
   ·simpa using h
  unfold act1
  repeat' split
  all_goals first
   | exact absurd (by assumption) h6
   | (simp only [pf]; done)
   | (simp only [pf]; rfl)
theorem moved_cons (r : List Uo.Re) (k : Ex.Sg) (l : List Ex.Sg) (i : Nat) : movedB r (k :: l) i = ((!(real r k.id).2.2.2 && moves k i) || movedB r l i) := rfl
theorem turns_cons (r : List Uo.Re) (k : Ex.Sg) (l : List Ex.Sg) : turnsB r (k :: l) = ((!(real r k.id).2.2.2 && k.kind == 6) || turnsB r l) := rfl
theorem way_lims (r : List Uo.Re) : ∀ (l : List Ex.Sg) (s t : St), (∀ k ∈ l, Fit k) → t ∈ way r l s → (∀ i, i < 5 → movedB r l i = true ∨ lim t i = lim s i) ∧ (turnsB r l = true ∨ t.f = s.f)
 | [], s, t, _, h => by
  rcases List.mem_cons.1 h with rfl | h
  ·exact ⟨fun _ _ => .inr rfl, .inr rfl⟩
  ·cases h
 | k :: l, s, t, hk, h => by
  rcases List.mem_cons.1 h with rfl | h
  ·exact ⟨fun _ _ => .inr rfl, .inr rfl⟩
  ·split at h
   ·obtain ⟨h1, h2⟩ := way_lims r l _ t (fun k' hk' => hk k' (List.mem_cons_of_mem _ hk')) h
    have hf := hk k (List.mem_cons_self ..)
    refine ⟨fun i hi => ?_, ?_⟩
    ·rw [moved_cons]
     rcases h1 i hi with h | h
     ·exact .inl (by rw [h, Bool.or_true])
     ·rcases hm : (!(real r k.id).2.2.2 && moves k i) with _ | _
      ·refine .inr (h.trans (act_keeps s k _ hf i hi ?_))
       rcases hd : (real r k.id).2.2.2 with _ | _
       ·exact .inr (by rw [hd] at hm; simpa using hm)
       ·exact .inl rfl
      ·exact .inl rfl
    ·rw [turns_cons]
     rcases h2 with h | h
     ·exact .inl (by rw [h, Bool.or_true])
     ·rcases hm : (!(real r k.id).2.2.2 && k.kind == 6) with _ | _
      ·refine .inr (h.trans (act_face s k _ ?_))
       rcases hd : (real r k.id).2.2.2 with _ | _
       ·exact .inr (by rw [hd] at hm; simpa using hm)
       ·exact .inl rfl
      ·exact .inl rfl
   ·cases h
theorem lt_five {i : Nat} (h : i ∈ five) : i < 5 := by unfold five at h; simp at h; omega
theorem inside_way (r : List Uo.Re) (l : List Ex.Sg) (s t : St) (b : Un.Bd) (hr : ∀ i, 0 ≤ reach b i) (hk : ∀ k ∈ l, Fit k) (h : t ∈ way r l s) : Ins (extent t b) (sweep r l s b) := by
 obtain ⟨h1, h2⟩ := way_lims r l s t hk h
 exact ((ext0_figure r l s t b hr (fun i hi => h1 i (lt_five hi)) h2).shift _ _).trans (sweep_has r l s t b h)
theorem inside_mid (r : List Uo.Re) (l : List Ex.Sg) (s u v t : St) (b : Un.Bd) (hr : ∀ i, 0 ≤ reach b i) (hk : ∀ k ∈ l, Fit k) (hu : u ∈ way r l s) (hv : v ∈ way r l s) (hl : ∀ i, i < 5 → movedB r l i = true ∨ lim t i = lim v i) (hf : t.f = v.f)
  (hx : (u.x ≤ t.x ∧ t.x ≤ v.x) ∨ (v.x ≤ t.x ∧ t.x ≤ u.x)) (hy : (u.y ≤ t.y ∧ t.y ≤ v.y) ∨ (v.y ≤ t.y ∧ t.y ≤ u.y)) : Ins (extent t b) (sweep r l s b) := by
 obtain ⟨h1, h2⟩ := way_lims r l s v hk hv
 have hfig : Ins (ext0 t b) (figure r l s b) := ext0_figure r l s t b hr (fun i hi => by
  rcases hl i (lt_five hi) with h | h
  ·exact .inl h
  ·rcases h1 i (lt_five hi) with h' | h'
   ·exact .inl h'
   ·exact .inr (h.trans h')) (by
  rcases h2 with h | h
  ·exact .inl h
  ·exact .inr (hf.trans h))
 exact (hfig.shift _ _).trans (ins_between (sweep_has r l s u b hu) (sweep_has r l s v b hv) omg omg)
/-! ### A slimmer body -/
theorem mul_mid {a c d : Int} (h0 : 0 ≤ c) (h1 : c ≤ d) : (0 ≤ c * a ∧ c * a ≤ d * a) ∨ (d * a ≤ c * a ∧ c * a ≤ 0) := by
 rcases Int.le_total 0 a with h | h
 ·exact .inl ⟨Int.mul_nonneg h0 h, Int.mul_le_mul_of_nonneg_right h1 h⟩
 ·exact .inr ⟨Int.mul_le_mul_of_nonpos_right h1 h, by have := Int.mul_nonneg h0 (show 0 ≤ -a by omega); rw [Int.mul_neg] at this; omega⟩
theorem figure_slim (r : List Uo.Re) (l : List Ex.Sg) (s : St) (b b' : Un.Bd) (hg : 0 ≤ b'.girth) (hg2 : b'.girth ≤ b.girth) (hr : ∀ i, 0 ≤ reach b' i) (hr2 : ∀ i, reach b' i ≤ reach b i) : Ins (figure r l s b') (figure r l s b) := by
 have hsq : Ins (sq (841 * b.girth)) (figure r l s b) := fold_ins (addF_up r l s b) five _
 have h0 : Ins (pt 0 0) (figure r l s b) := Ins.trans (by unfold Ins pt sq; dsimp only; omega) hsq
 refine fold_le five _ (Ins.trans (by unfold Ins sq; dsimp only; omega) hsq) fun x i hi hx => ?_
 unfold addF
 split
 ·rename_i hm
  refine join_ins hx (Ins.trans (b := sq (841 * reach b i)) (by have h1 := hr i; have h2 := hr2 i; unfold Ins sq; dsimp only; omega) (fold_has (addF_up r l s b) (fun x => ?_) five _ hi))
  unfold addF
  rw [if_pos hm]
  exact ins_right _ _
 ·rename_i hm
  split
  ·rename_i hv
   have ht : Ins (tip b s.f i (lim s i)) (figure r l s b) := fold_has (addF_up r l s b) (fun x => by
    unfold addF
    rw [if_neg hm, if_pos hv]
    exact ins_right _ _) five _ hi
   refine join_ins hx ?_
   have hx1 := mul_mid (a := vx (turned (lim s i).1 s.f) (lim s i).2) (hr i) (hr2 i)
   have hy1 := mul_mid (a := vy (turned (lim s i).1 s.f) (lim s i).2) (hr i) (hr2 i)
   unfold Ins tip pt at *
   dsimp only at *
   omega
  ·exact hx
theorem hull_slim {g g' : Bx} (hg : Ins g' g) : ∀ (l : List St) (x x' : Bx), Ins x' x → Ins (hull g' x' l) (hull g x l)
 | [], _, _, h => h
 | s :: l, x, x', h => hull_slim hg l _ _ (join_ins (h.trans (ins_left _ _)) ((hg.shift _ _).trans (ins_right _ _)))
theorem sweep_slim (r : List Uo.Re) (l : List Ex.Sg) (s : St) (b b' : Un.Bd) (hg : 0 ≤ b'.girth) (hg2 : b'.girth ≤ b.girth) (hr : ∀ i, 0 ≤ reach b' i) (hr2 : ∀ i, reach b' i ≤ reach b i) : Ins (sweep r l s b') (sweep r l s b) :=
 hull_slim (figure_slim r l s b b' hg hg2 hr hr2) _ _ _ ((figure_slim r l s b b' hg hg2 hr hr2).shift _ _)
/-! ### All dropped -/
theorem join_self (a : Bx) : join a a = a := by
 obtain ⟨a1, a2, a3, a4⟩ := a
 simp [join, mnI, mxI]
theorem way_drop (r : List Uo.Re) (s : St) (hs : ok s = true) : ∀ (l : List Ex.Sg), (∀ k ∈ l, (real r k.id).2.2.2 = true) → (∀ t ∈ way r l s, t = s) ∧ fine r l s = true ∧ last r l s = s
 | [], _ => ⟨fun t h => by simpa [way] using h, rfl, rfl⟩
 | k :: l, h => by
  obtain ⟨h1, h2, h3⟩ := way_drop r s hs l (fun k' hk' => h k' (List.mem_cons_of_mem _ hk'))
  have ha : act s k (real r k.id) = s := by unfold act; rw [if_pos (h k (List.mem_cons_self ..))]
  refine ⟨fun t ht => ?_, ?_, ?_⟩
  ·unfold way at ht
   rw [ha, if_pos hs] at ht
   rcases List.mem_cons.1 ht with rfl | ht
   ·rfl
   ·exact h1 t ht
  ·unfold fine; rw [ha, hs, h2]; rfl
  ·unfold last; rw [ha]; exact h3
theorem hull_same (g : Bx) (s : St) : ∀ (l : List St), (∀ t ∈ l, t = s) → hull g (here g s) l = here g s
 | [], _ => rfl
 | t :: l, h => by
  obtain rfl := h t (List.mem_cons_self ..)
  show hull g (join (here g t) (here g t)) l = here g t
  rw [join_self]
  exact hull_same g t l (fun u hu => h u (List.mem_cons_of_mem _ hu))
theorem sweep_drop (r : List Uo.Re) (l : List Ex.Sg) (s : St) (b : Un.Bd) (hs : ok s = true) (h : ∀ k ∈ l, (real r k.id).2.2.2 = true) : sweep r l s b = extent s b := by
 have hm : ∀ i, movedB r l i = false := fun i => by
  unfold movedB
  rw [List.any_eq_false]
  intro k hk
  rw [h k hk]; simp
 have ht : turnsB r l = false := by
  unfold turnsB
  rw [List.any_eq_false]
  intro k hk
  rw [h k hk]; simp
 have hf : figure r l s b = ext0 s b := by
  unfold figure ext0
  congr 1
  funext x i
  unfold addF addE
  rw [hm i, ht]
  simp
 unfold sweep
 rw [hull_same _ s _ (fun t ht => (way_drop r s hs l h).1 t (List.mem_of_mem_drop ht)), hf]
 rfl
end Mo
end Go.Proofs.YtedolbjgdedoaaaGreatDoor

namespace Go.Proofs.YtedolbjgdedoaaaGreatDoor
open Go.RowKit
namespace Mo
def mirD (d : Int) : Int := if d ≤ 1 then d else 10 - d
def mirK (k : Ex.Sg) : Ex.Sg := { k with dir := mirD k.dir, side := if k.side = 0 then 0 else 3 - k.side, size := if k.kind = 6 then 8 - k.size else k.size }
def mirR (r : Uo.Re) : Uo.Re := (r.1, mirD r.2.1, r.2.2.1, r.2.2.2)
def mirS (W : Int) (s : St) : St := ⟨29 * W - s.x, s.y, (8 - s.f) % 8, mirD s.d1, s.v1, mirD s.d0, s.v0, mirD s.d3, s.v3, mirD s.d2, s.v2, mirD s.d4, s.v4⟩
theorem okL_mir {d v : Int} (h : okL d v = true) : okL (mirD d) v = true := by
 unfold okL at *
 simp only [Bool.or_eq_true, Bool.and_eq_true, beq_iff_eq, Tp.inb_iff] at *
 unfold mirD
 rcases h with h | h
 ·left; rw [if_pos omg]; exact h
 ·right; split <;> omega
theorem okF_mir {W : Int} {s : St} (h : okF s = true) : okF (mirS W s) = true := by
 unfold okF at *
 simp only [Bool.and_eq_true, Tp.inb_iff] at h
 obtain ⟨⟨⟨⟨⟨h0, h1⟩, h2⟩, h3⟩, h4⟩, h5⟩ := h
 unfold mirS
 simp only [Bool.and_eq_true, Tp.inb_iff]
 exact ⟨⟨⟨⟨⟨by omega, okL_mir h2⟩, okL_mir h1⟩, okL_mir h4⟩, okL_mir h3⟩, okL_mir h5⟩
theorem okP_iff (x y : Int) : okP x y = true ↔ (-1073741824 ≤ x ∧ x ≤ 1073741824) ∧ -1073741824 ≤ y ∧ y ≤ 1073741824 := by
 unfold okP
 rw [Bool.and_eq_true, Tp.inb_iff, Tp.inb_iff]
theorem turn_tab : ∀ (d : Fin 8) (f : Fin 8), fx (turned (mirD (d.val + 1)) ((8 - (f.val : Int)) % 8)) = -fx (turned (d.val + 1) f.val) ∧ fy (turned (mirD (d.val + 1)) ((8 - (f.val : Int)) % 8)) = fy (turned (d.val + 1) f.val) := by decide
theorem turn_mir {d f : Int} (hd : 1 ≤ d ∧ d ≤ 8) (hf : 0 ≤ f ∧ f ≤ 7) : fx (turned (mirD d) ((8 - f) % 8)) = -fx (turned d f) ∧ fy (turned (mirD d) ((8 - f) % 8)) = fy (turned d f) := by
 have h := turn_tab ⟨(d - 1).toNat, by omega⟩ ⟨f.toNat, by omega⟩
 simp only [show (((d - 1).toNat : Nat) : Int) + 1 = d by omega, show ((f.toNat : Nat) : Int) = f by omega] at h
 exact h
theorem travel_mir (W : Int) (s : St) (d n : Int) (hd : 1 ≤ d ∧ d ≤ 8) (hf : 0 ≤ s.f ∧ s.f ≤ 7) : mirS W (travel s d n) = travel (mirS W s) (mirD d) n := by
 obtain ⟨h1, h2⟩ := turn_mir hd hf
 unfold travel mirS
 dsimp only
 rw [h1, h2, Int.mul_neg]
 congr 1
 omega
def oth : Nat → Nat
 | 0 => 1
 | 1 => 0
 | 2 => 3
 | 3 => 2
 | _ => 4
theorem put_mir (W : Int) (s : St) (i : Nat) (d v : Int) (hi : i < 5) : mirS W (put s i d v) = put (mirS W s) (oth i) (mirD d) v := by
 obtain rfl | rfl | rfl | rfl | rfl : i = 0 ∨ i = 1 ∨ i = 2 ∨ i = 3 ∨ i = 4 := by omega
 all_goals rfl
theorem put_swap (s : St) (i j : Nat) (d v d' v' : Int) (hij : i ≠ j) (hi : i < 5) (hj : j < 5) : put (put s i d v) j d' v' = put (put s j d' v') i d v := by
 obtain rfl | rfl | rfl | rfl | rfl : i = 0 ∨ i = 1 ∨ i = 2 ∨ i = 3 ∨ i = 4 := by omega
 all_goals
  obtain rfl | rfl | rfl | rfl | rfl : j = 0 ∨ j = 1 ∨ j = 2 ∨ j = 3 ∨ j = 4 := by omega
  all_goals first | rfl | exact absurd rfl hij
theorem mirD_zero : mirD 0 = 0 := by decide
theorem act_mir (W : Int) (s : St) (k : Ex.Sg) (r : Uo.Re) (hk : Fit k) (hf : 0 ≤ s.f ∧ s.f ≤ 7) : mirS W (act s k r) = act (mirS W s) (mirK k) (mirR r) := by
 unfold act
 by_cases hd : r.2.2.2 = true
 ·rw [if_pos hd, if_pos (show (mirR r).2.2.2 = true from hd)]
 ·rw [if_neg hd, if_neg (show ¬ (mirR r).2.2.2 = true from hd)]
  have h1 := hk.kind
  have h2 := hk.side
  have h3 := hk.dir
  have h4 := hk.size
  have c9 : k.kind = 1 ∨ k.kind = 2 ∨ k.kind = 3 ∨ k.kind = 4 ∨ k.kind = 5 ∨ k.kind = 6 ∨ k.kind = 7 ∨ k.kind = 8 ∨ k.kind = 9 := by omega
  have o1 : (k.side = 1 ∨ k.side = 2) → oth (k.side.toNat - 1) = (3 - k.side).toNat - 1 := fun h => by rcases h with e | e <;> rw [e] <;> rfl
  have o2 : (k.side = 1 ∨ k.side = 2) → oth (k.side + 1).toNat = (3 - k.side + 1).toNat := fun h => by rcases h with e | e <;> rw [e] <;> rfl
  have ek : (mirK k).kind = k.kind := rfl
  have er : (mirR r).2.2.1 = r.2.2.1 := rfl
  have er2 : (mirR r).2.1 = mirD r.2.1 := rfl
  unfold act1
  rw [ek, er, er2]
  rcases c9 with e | e | e | e | e | e | e | e | e
  all_goals simp [e] at h2 h3 h4 ⊢
  ·have es : (mirK k).side = 3 - k.side := by unfold mirK; dsimp only; rw [if_neg omg]
   have ed : (mirK k).dir = mirD k.dir := rfl
   have ez : (mirK k).size = k.size := by unfold mirK; dsimp only; rw [if_neg omg]
   rw [put_mir _ _ _ _ _ omg, travel_mir _ _ _ _ h3 hf, o1 omg, es, ed, ez, mirD_zero]
  ·have ed : (mirK k).dir = mirD k.dir := rfl
   have ez : (mirK k).size = k.size := by unfold mirK; dsimp only; rw [if_neg omg]
   rw [put_mir _ _ _ _ _ omg, put_mir _ _ _ _ _ omg, travel_mir _ _ _ _ h3 hf, ed, ez, mirD_zero]
   exact put_swap _ _ _ _ _ _ _ (by decide) (by decide) (by decide)
  ·have es : (mirK k).side = 3 - k.side := by unfold mirK; dsimp only; rw [if_neg omg]
   rw [put_mir _ _ _ _ _ omg, o1 omg, es]
  ·have es : (mirK k).side = 3 - k.side := by unfold mirK; dsimp only; rw [if_neg omg]
   rw [put_mir _ _ _ _ _ omg, o2 omg, es]
  ·rw [put_mir _ _ _ _ _ omg]; rfl
  ·have ez : (mirK k).size = 8 - k.size := by unfold mirK; dsimp only; rw [if_pos omg]
   rw [ez]
   unfold mirS
   dsimp only
   congr 1
   omega
  ·rw [put_mir _ _ _ _ _ omg, put_mir _ _ _ _ _ omg, mirD_zero]
   exact put_swap _ _ _ _ _ _ _ (by decide) (by decide) (by decide)
  ·rw [put_mir _ _ _ _ _ omg, put_mir _ _ _ _ _ omg, mirD_zero]
   exact put_swap _ _ _ _ _ _ _ (by decide) (by decide) (by decide)
  ·have es : (mirK k).side = 3 - k.side := by unfold mirK; dsimp only; rw [if_neg omg]
   rw [put_mir _ _ _ _ _ omg, o2 omg, es, mirD_zero]
theorem act_step (s : St) (k : Ex.Sg) (r : Uo.Re) (hk : Fit k) : (s.x - 464 ≤ (act s k r).x ∧ (act s k r).x ≤ s.x + 464) ∧ s.y - 464 ≤ (act s k r).y ∧ (act s k r).y ≤ s.y + 464 := by
 have px : ∀ (t : St) (i : Nat) (d v : Int), (put t i d v).x = t.x := fun t i d v => by unfold put; split <;> rfl
 have py : ∀ (t : St) (i : Nat) (d v : Int), (put t i d v).y = t.y := fun t i d v => by unfold put; split <;> rfl
 have mb : ∀ {n a : Int}, 1 ≤ n ∧ n ≤ 16 → -29 ≤ a ∧ a ≤ 29 → -464 ≤ n * a ∧ n * a ≤ 464 := fun {n a} hn ha => by
  have h1 := Int.mul_le_mul_of_nonneg_left ha.1 (show 0 ≤ n by omega)
  have h2 := Int.mul_le_mul_of_nonneg_left ha.2 (show 0 ≤ n by omega)
  omega
 have h4 := hk.size
 unfold act
 split
 ·omega
 ·unfold act1
  repeat' split
  all_goals
   simp only [px, py, travel]
  all_goals first
   | omega
   | (rename_i e; rw [if_pos (by first | exact .inl e | exact .inr e)] at h4; have h5 := mb h4 (fx_bd (turned k.dir s.f)); have h6 := mb h4 (fy_bd (turned k.dir s.f)); omega)
   | (rename_i e0 e; rw [if_pos (by first | exact .inl e | exact .inr e)] at h4; have h5 := mb h4 (fx_bd (turned k.dir s.f)); have h6 := mb h4 (fy_bd (turned k.dir s.f)); omega)
theorem okF_of {s : St} (h : ok s = true) : okF s = true := by unfold ok at h; exact (Bool.and_eq_true _ _ ▸ h).2
theorem ok_iff {s : St} (hF : okF s = true) : ok s = true ↔ (-1073741824 ≤ s.x ∧ s.x ≤ 1073741824) ∧ -1073741824 ≤ s.y ∧ s.y ≤ 1073741824 := by
 unfold ok
 rw [hF, Bool.and_true, okP_iff]
theorem face_bd {s : St} (h : okF s = true) : 0 ≤ s.f ∧ s.f ≤ 7 := by
 unfold okF at h
 simp only [Bool.and_eq_true, Tp.inb_iff] at h
 exact h.1.1.1.1.1
theorem okF_put {s : St} {i : Nat} {d v : Int} (h : okF s = true) (hl : okL d v = true) : okF (put s i d v) = true := by
 unfold okF at *
 simp only [Bool.and_eq_true] at *
 obtain ⟨⟨⟨⟨⟨h0, h1⟩, h2⟩, h3⟩, h4⟩, h5⟩ := h
 unfold put
 split <;> simp only [] <;> exact ⟨⟨⟨⟨⟨by assumption, by assumption⟩, by assumption⟩, by assumption⟩, by assumption⟩, by assumption⟩
theorem act_form (s : St) (k : Ex.Sg) (r : Uo.Re) (hk : Fit k) (hr : form k r = true) (h : okF s = true) : okF (act s k r) = true := by
 unfold act
 split
 ·exact h
 ·rename_i hd
  have hz : okL 0 0 = true := by decide
  have ht : ∀ d n, okF (travel s d n) = true := fun d n => h
  unfold form at hr
  rw [if_neg hd] at hr
  simp only [Bool.and_eq_true, beq_iff_eq] at hr
  have hlim : (k.kind = 3 ∨ k.kind = 4 ∨ k.kind = 5) → okL r.2.1 r.2.2.1 = true := fun e => by
   have h2 := hr.2
   rw [if_pos e, Bool.and_eq_true] at h2
   unfold okL
   rw [h2.1, h2.2]
   simp
  unfold act1
  repeat' split
  ·exact okF_put (ht _ _) hz
  ·exact okF_put (okF_put (ht _ _) hz) hz
  ·exact okF_put h (hlim omg)
  ·exact okF_put h (hlim omg)
  ·exact okF_put h (hlim omg)
  ·have hf := face_bd h
   unfold okF at *
   simp only [Bool.and_eq_true] at *
   obtain ⟨⟨⟨⟨⟨h0, h1⟩, h2⟩, h3⟩, h4⟩, h5⟩ := h
   exact ⟨⟨⟨⟨⟨by rw [Tp.inb_iff]; omega, h1⟩, h2⟩, h3⟩, h4⟩, h5⟩
  ·exact okF_put (okF_put h hz) hz
  ·exact okF_put (okF_put h hz) hz
  ·exact okF_put h hz
theorem way_mir (W : Int) (hW : 1 ≤ W ∧ W ≤ 1000) (N : Int) (hN : N ≤ 4096) (r r' : List Uo.Re) : ∀ (l : List Ex.Sg) (s : St), (∀ k ∈ l, Fit k) → (∀ k ∈ l, form k (real r k.id) = true) → (∀ k ∈ l, real r' k.id = mirR (real r k.id)) → (l.length : Int) ≤ N → okF s = true →
  (-536870912 - 464 * (N - l.length) ≤ s.x ∧ s.x ≤ 536870912 + 464 * (N - l.length)) → (-536870912 - 464 * (N - l.length) ≤ s.y ∧ s.y ≤ 536870912 + 464 * (N - l.length)) →
  fine r' (l.map mirK) (mirS W s) = true ∧ last r' (l.map mirK) (mirS W s) = mirS W (last r l s) ∧ ok (mirS W (last r l s)) = true ∧ fine r l s = true
 | [], s, _, _, _, _, hF, hx, hy => by
  simp only [List.length_nil] at hx hy
  refine ⟨rfl, rfl, ?_, rfl⟩
  show ok (mirS W s) = true
  rw [ok_iff (okF_mir hF)]
  unfold mirS
  dsimp only
  omega
 | k :: l, s, hk, hm, hr, hl, hF, hx, hy => by
  have hf := hk k (List.mem_cons_self ..)
  have hq := hr k (List.mem_cons_self ..)
  have hst := act_step s k (real r k.id) hf
  have hF' := act_form s k (real r k.id) hf (hm k (List.mem_cons_self ..)) hF
  simp only [List.length_cons, Int.natCast_add, Int.natCast_one] at hl hx hy
  obtain ⟨h1, h2, h3, h4⟩ := way_mir W hW N hN r r' l (act s k (real r k.id)) (fun k' h => hk k' (List.mem_cons_of_mem _ h)) (fun k' h => hm k' (List.mem_cons_of_mem _ h)) (fun k' h => hr k' (List.mem_cons_of_mem _ h)) omg hF' omg omg
  have ha : act (mirS W s) (mirK k) (real r' (mirK k).id) = mirS W (act s k (real r k.id)) := by
   rw [show (mirK k).id = k.id from rfl, hq, act_mir W s k _ hf (face_bd hF)]
  refine ⟨?_, ?_, h3, ?_⟩
  ·show (ok (act (mirS W s) (mirK k) (real r' (mirK k).id)) && fine r' (l.map mirK) (act (mirS W s) (mirK k) (real r' (mirK k).id))) = true
   rw [ha, h1, Bool.and_true, ok_iff (okF_mir hF')]
   unfold mirS
   dsimp only
   omega
  ·show last r' (l.map mirK) (act (mirS W s) (mirK k) (real r' (mirK k).id)) = _
   rw [ha, h2]; rfl
  ·show (ok (act s k (real r k.id)) && fine r l (act s k (real r k.id))) = true
   rw [h4, Bool.and_true, ok_iff hF']
   omega
end Mo
end Go.Proofs.YtedolbjgdedoaaaGreatDoor

namespace Go.Proofs.YtedolbjgdedoaaaGreatDoor
open Go.RowKit
namespace Mo
def wsg (x : Ex.Wk) (l : List Ex.Sg) : Ex.Wk := { x with sg := l }
theorem vG_down {roles n : Int} {l : List Ex.Sg} {last last' : Int} (h : last' ≤ last) (hv : Ex.vG roles n last l = true) : Ex.vG roles n last' l = true := by
 rcases l with _ | ⟨s, l⟩
 ·rfl
 ·rw [Ex.vG, Bool.and_eq_true] at hv ⊢
  refine ⟨?_, hv.2⟩
  have h1 := hv.1
  unfold Ex.okG1 at h1 ⊢
  simp only [Bool.and_eq_true, decide_eq_true_eq] at h1 ⊢
  exact ⟨⟨by omega, h1.1.2⟩, h1.2⟩
theorem vG_filter {roles n : Int} (f : Ex.Sg → Bool) : ∀ (l : List Ex.Sg) (last : Int), Ex.vG roles n last l = true → Ex.vG roles n last (l.filter f) = true
 | [], _, _ => rfl
 | s :: l, last, hv => by
  have hv' := hv
  rw [Ex.vG, Bool.and_eq_true] at hv
  have ih := vG_filter f l s.id hv.2
  by_cases h : f s = true
  ·rw [List.filter_cons_of_pos h, Ex.vG, Bool.and_eq_true]
   exact ⟨hv.1, ih⟩
  ·rw [List.filter_cons_of_neg h]
   have h1 := hv.1
   unfold Ex.okG1 at h1
   simp only [Bool.and_eq_true, decide_eq_true_eq] at h1
   exact vG_down omg ih
theorem chk_iff (x : Ex.Wk) : Ex.chk x = 0 ↔ (x.ro.length ≤ 64 ∧ x.sg.length ≤ 4096) ∧ Tp.chk x.n x.ts x.ps x.ss = 0 ∧ Ex.okW x = true := by
 unfold Ex.chk
 by_cases h1 : 64 < x.ro.length ∨ 4096 < x.sg.length
 ·rw [if_pos h1]; constructor
  ·intro h; cases h
  ·rintro ⟨h, _⟩; omega
 ·rw [if_neg h1]
  by_cases h2 : Tp.chk x.n x.ts x.ps x.ss ≠ 0
  ·rw [if_pos h2]; constructor
   ·intro h; exact absurd h h2
   ·rintro ⟨_, h, _⟩; exact absurd h h2
  ·rw [if_neg h2]
   by_cases h3 : Ex.okW x = true
   ·rw [if_pos h3]
    exact ⟨fun _ => ⟨by omega, by omega, h3⟩, fun _ => rfl⟩
   ·rw [if_neg h3]
    exact ⟨fun h => (by cases h), fun h => absurd h.2.2 h3⟩
theorem chk_wsg {x : Ex.Wk} (h : Ex.chk x = 0) {l : List Ex.Sg} (hl : l.length ≤ x.sg.length) (hv : Ex.vG x.ro.length x.n (-1) l = true) : Ex.chk (wsg x l) = 0 := by
 obtain ⟨⟨h1, h2⟩, h3, h4⟩ := (chk_iff x).1 h
 refine (chk_iff _).2 ⟨⟨h1, Nat.le_trans hl h2⟩, h3, ?_⟩
 unfold Ex.okW at h4 ⊢
 simp only [Bool.and_eq_true] at h4 ⊢
 exact ⟨h4.1, hv⟩
theorem vG_of {x : Ex.Wk} (h : Ex.chk x = 0) : Ex.vG x.ro.length x.n (-1) x.sg = true := by
 have h4 := ((chk_iff x).1 h).2.2
 unfold Ex.okW at h4
 simp only [Bool.and_eq_true] at h4
 exact h4.2
def alone (x : Ex.Wk) (role bar : Int) : Ex.Wk := wsg x (ofI x role bar)
theorem chk_alone {x : Ex.Wk} (h : Ex.chk x = 0) (role bar : Int) : Ex.chk (alone x role bar) = 0 :=
 chk_wsg h (List.length_filter_le _ _) (vG_filter _ _ _ (vG_of h))
theorem ofI_alone (x : Ex.Wk) (role bar : Int) : ofI (alone x role bar) role bar = ofI x role bar := by
 unfold ofI alone wsg
 show (x.sg.filter (mine bar role)).filter (mine bar role) = _
 rw [List.filter_filter]; simp
theorem of_alone {x : Ex.Wk} {role bar : Int} {l : List Ex.Sg} (h : Of x role bar l) : Of (alone x role bar) role bar l := ⟨by rw [ofI_alone]; exact h.perm, h.srt⟩
/-! ### Mirrored signs -/
def mirB (role bar : Int) (k : Ex.Sg) : Ex.Sg := if mine bar role k = true then mirK k else k
def mirW (x : Ex.Wk) (role bar : Int) : Ex.Wk := wsg x (x.sg.map (mirB role bar))
theorem fld_mir {a : Int} {u : Bool} (h : Ex.fld a u 1 2 = true) : Ex.fld (if a = 0 then 0 else 3 - a) u 1 2 = true := by
 unfold Ex.fld at *
 cases u
 ·simp at h; simp [h]
 ·simp only [if_true, Tp.inb_iff] at *
  rw [if_neg omg]; omega
theorem ok_mir {k : Ex.Sg} {roles n : Int} (h : Ex.okSign k roles n = true) : Ex.okSign (mirK k) roles n = true := by
 have hf := fit_of h
 unfold Ex.okSign Ex.ok1 Ex.ok2 at h ⊢
 simp only [Bool.and_eq_true] at h ⊢
 obtain ⟨⟨⟨⟨⟨⟨⟨h1, h2⟩, h3⟩, h4⟩, ⟨⟨⟨⟨h5, h6⟩, h7⟩, h8⟩, h9⟩⟩, hb0⟩, hb1⟩, hb2⟩ := h
 refine ⟨⟨⟨⟨⟨⟨⟨h1, h2⟩, h3⟩, h4⟩, ⟨⟨⟨⟨fld_mir h5, ?_⟩, h7⟩, ?_⟩, h9⟩⟩, hb0⟩, hb1⟩, hb2⟩
 ·have hd := hf.dir
  have hk := hf.kind
  have c9 : k.kind = 1 ∨ k.kind = 2 ∨ k.kind = 3 ∨ k.kind = 4 ∨ k.kind = 5 ∨ k.kind = 6 ∨ k.kind = 7 ∨ k.kind = 8 ∨ k.kind = 9 := by omega
  show Ex.fld (mirD k.dir) (Ex.rule k.kind.toNat).dr (Ex.rule k.kind.toNat).pl 8 = true
  unfold mirD
  rcases c9 with e | e | e | e | e | e | e | e | e
  all_goals
   rw [e] at h6 hd ⊢
   simp at hd
   simp [Ex.rule, Ex.fld, Tp.inb_iff] at h6 ⊢
   first
    | (split <;> omega)
    | (rw [hd]; simp; done)
    | (rw [hd]; rfl)
    | (rw [if_pos omg]; exact hd)
 ·have hs := hf.size
  have hk := hf.kind
  show Ex.fld (if k.kind = 6 then 8 - k.size else k.size) (decide (0 < (Ex.rule k.kind.toNat).sz)) 1 (Ex.rule k.kind.toNat).sz = true
  by_cases h6 : k.kind = 6
  ·rw [if_pos h6]
   rw [h6] at h8 ⊢
   simp [Ex.rule, Ex.fld, Tp.inb_iff] at h8 ⊢
   omega
  ·rw [if_neg h6]; exact h8
theorem vG_mir {roles n : Int} (role bar : Int) : ∀ (l : List Ex.Sg) (last : Int), Ex.vG roles n last l = true → Ex.vG roles n last (l.map (mirB role bar)) = true
 | [], _, _ => rfl
 | s :: l, last, hv => by
  rw [Ex.vG, Bool.and_eq_true] at hv
  have ei : (mirB role bar s).id = s.id := by unfold mirB; split <;> rfl
  rw [List.map_cons, Ex.vG, Bool.and_eq_true, ei]
  refine ⟨?_, vG_mir role bar l s.id hv.2⟩
  have h1 := hv.1
  unfold Ex.okG1 at h1 ⊢
  simp only [Bool.and_eq_true] at h1 ⊢
  rw [ei]
  refine ⟨h1.1, ?_⟩
  unfold mirB
  split
  ·exact ok_mir h1.2
  ·exact h1.2
theorem chk_mir {x : Ex.Wk} (h : Ex.chk x = 0) (role bar : Int) : Ex.chk (mirW x role bar) = 0 :=
 chk_wsg h (by simp) (vG_mir role bar _ _ (vG_of h))
theorem mine_mir (role bar : Int) (k : Ex.Sg) : mine bar role (mirB role bar k) = mine bar role k := by
 unfold mirB
 split <;> rfl
theorem ofI_mir (x : Ex.Wk) (role bar : Int) : ofI (mirW x role bar) role bar = (ofI x role bar).map mirK := by
 unfold ofI mirW wsg
 show (x.sg.map (mirB role bar)).filter (mine bar role) = _
 induction x.sg with
 | nil => rfl
 | cons k l ih =>
  rw [List.map_cons]
  by_cases h : mine bar role k = true
  ·rw [List.filter_cons_of_pos (by rw [mine_mir]; exact h), List.filter_cons_of_pos h, List.map_cons, ih]
   congr 1
   unfold mirB
   rw [if_pos h]
  ·rw [List.filter_cons_of_neg (by rw [mine_mir]; exact h), List.filter_cons_of_neg h, ih]
theorem of_mir {x : Ex.Wk} {role bar : Int} {l : List Ex.Sg} (h : Of x role bar l) : Of (mirW x role bar) role bar (l.map mirK) := by
 refine ⟨by rw [ofI_mir]; exact h.perm.map _, ?_⟩
 rw [List.pairwise_map]
 exact h.srt
/-! ### The reals of a motion -/
theorem form_id {k : Ex.Sg} {r : Uo.Re} (h : form k r = true) : r.1 = k.id := by
 unfold form at h
 simp only [Bool.and_eq_true, beq_iff_eq] at h
 exact h.1
theorem form_mir {k : Ex.Sg} {r : Uo.Re} (h : form k r = true) : form (mirK k) (mirR r) = true := by
 unfold form at *
 simp only [Bool.and_eq_true] at *
 refine ⟨h.1, ?_⟩
 have h2 := h.2
 show (if r.2.2.2 = true then (mirD r.2.1 == 0 && r.2.2.1 == 0) else if k.kind = 3 ∨ k.kind = 4 ∨ k.kind = 5 then Tp.inb (mirD r.2.1) 0 8 && Tp.inb r.2.2.1 1 3 else if k.kind = 9 then mirD r.2.1 == 0 && Tp.inb r.2.2.1 1 3 else mirD r.2.1 == 0 && r.2.2.1 == 0) = true
 have z : ∀ {d : Int}, (d == 0) = true → (mirD d == 0) = true := fun h => by
  have e := beq_iff_eq.1 h
  rw [e]; decide
 split at h2
 ·rename_i hc
  rw [if_pos hc]
  rw [Bool.and_eq_true] at h2 ⊢
  exact ⟨z h2.1, h2.2⟩
 ·rename_i hc
  rw [if_neg hc]
  split at h2
  ·rename_i hc
   rw [if_pos hc]
   rw [Bool.and_eq_true] at h2 ⊢
   refine ⟨?_, h2.2⟩
   have := (Tp.inb_iff _ _ _).1 h2.1
   rw [Tp.inb_iff]
   unfold mirD
   split <;> omega
  ·rename_i hc
   rw [if_neg hc]
   split at h2
   ·rename_i hc
    rw [if_pos hc]
    rw [Bool.and_eq_true] at h2 ⊢
    exact ⟨z h2.1, h2.2⟩
   ·rename_i hc
    rw [if_neg hc]
    rw [Bool.and_eq_true] at h2 ⊢
    exact ⟨z h2.1, h2.2⟩
theorem mot_real : ∀ (l : List Ex.Sg) (r : List Uo.Re), l.Pairwise (fun a b => a.id < b.id) → mot l r = true → ∀ k ∈ l, form k (real r k.id) = true
 | [], _, _, _, k, h => by cases h
 | k0 :: l, [], _, hm, _, _ => by unfold mot at hm; simp at hm
 | k0 :: l, r0 :: r, hp, hm, k, h => by
  unfold mot at hm
  simp only [List.length_cons, List.zip_cons_cons, List.all_cons, Bool.and_eq_true] at hm
  have h0 := form_id hm.2.1
  rcases List.mem_cons.1 h with rfl | h
  ·have e : real (r0 :: r) k.id = r0 := by unfold real; rw [List.find?_cons_of_pos (by simp [h0])]; rfl
   rw [e]; exact hm.2.1
  ·have hlt := (List.pairwise_cons.1 hp).1 k h
   have e : real (r0 :: r) k.id = real r k.id := by unfold real; rw [List.find?_cons_of_neg (by simp [h0]; omega)]
   rw [e]
   exact mot_real l r (List.pairwise_cons.1 hp).2 (by unfold mot; rw [Bool.and_eq_true]; exact ⟨by simpa using hm.1, hm.2.2⟩) k h
end Mo
end Go.Proofs.YtedolbjgdedoaaaGreatDoor
