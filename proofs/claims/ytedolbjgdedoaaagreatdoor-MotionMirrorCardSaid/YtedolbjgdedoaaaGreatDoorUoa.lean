/- Plain: what a body's options are (package options). Plain: who is able, which lift is too heavy, who is ready (package understudy). Plain: whoever is ready is ready later; stronger bodies; signs that do not matter. -/
import Derived.Test.YtedolbjgdedoaaaGreatDoorUna
import Derived.Test.YtedolbjgdedoaaaGreatDoorEx
set_option linter.unusedSimpArgs false
set_option linter.unusedVariables false
namespace Go.Proofs.YtedolbjgdedoaaaGreatDoor
open Go.RowKit
namespace Uo
def fl : Nat → Int × Int
 | 0 => (0, 29)
 | 1 => (20, 21)
 | 2 => (29, 0)
 | 3 => (20, -21)
 | 4 => (0, -29)
 | 5 => (-20, -21)
 | 6 => (-29, 0)
 | _ => (-20, 21)
def sc (v : Nat) : Int := if v = 2 then 29 else 20
def vx (d v : Nat) : Int := if d = 0 then 0 else sc v * (fl (d - 1)).1
def vy (d v : Nat) : Int := if d = 0 then 0 else sc v * (fl (d - 1)).2
def vz (d v : Nat) : Int := if d = 0 then 841 * ((v : Int) - 2) else 609 * ((v : Int) - 2)
def dt (a b d v : Nat) : Int := vx a b * vx d v + vy a b * vy d v + vz a b * vz d v
def nz (d v : Nat) : Bool := !(d == 0 && v == 2)
theorem v_bd : ∀ d, d < 9 → ∀ v, v < 4 → 0 < v → (-841 ≤ vx d v ∧ vx d v ≤ 841) ∧ (-841 ≤ vy d v ∧ vy d v ≤ 841) ∧ (-841 ≤ vz d v ∧ vz d v ≤ 841) := by decide +kernel
theorem nz_eq : ∀ d, d < 9 → ∀ v, v < 4 → 0 < v → nz d v = !(vx d v == 0 && vy d v == 0 && vz d v == 0) := by decide +kernel
theorem dt_bd27 : ∀ q, q < 27 → ∀ r, r < 27 → -707281 ≤ dt (q / 3) (q % 3 + 1) (r / 3) (r % 3 + 1) ∧ dt (q / 3) (q % 3 + 1) (r / 3) (r % 3 + 1) ≤ 707281 := by decide +kernel
theorem dt_bd (a : Nat) (ha : a < 9) (b : Nat) (hb : b < 4) (hb0 : 0 < b) (d : Nat) (hd : d < 9) (v : Nat) (hv : v < 4) (hv0 : 0 < v) : -707281 ≤ dt a b d v ∧ dt a b d v ≤ 707281 := by
 have h := dt_bd27 (3 * a + (b - 1)) omg (3 * d + (v - 1)) omg
 rwa [show (3 * a + (b - 1)) / 3 = a by omega, show (3 * a + (b - 1)) % 3 + 1 = b by omega, show (3 * d + (v - 1)) / 3 = d by omega, show (3 * d + (v - 1)) % 3 + 1 = v by omega] at h
abbrev Re := Int × Int × Int × Bool
def own (a b d v : Nat) : Bool := d == a && v == b
def tol (A C : Int) (a b d v : Nat) : Bool := own a b d v || ((nz a b && nz d v) && decide (A * 841 * 841 ≤ dt a b d v * C))
def val (a b d v : Nat) : Int := if own a b d v = true then 1073741824 else dt a b d v
def one (id : Int) (a b d v : Nat) : Re × Int := ((id, (d : Int), (v : Int), false), val a b d v)
def it (A C id : Int) (a b d v : Nat) : List (Re × Int) := if tol A C a b d v = true then [one id a b d v] else []
def row (A C id : Int) (a b d n : Nat) : List (Re × Int) := (List.range n).flatMap fun v => it A C id a b d (v + 1)
def pre (A C id : Int) (a b m n : Nat) : List (Re × Int) := (List.range n).flatMap fun d => row A C id a b d m
def prs (A C id : Int) (a b m : Nat) : List (Re × Int) := pre A C id a b m 9
theorem row_succ (A C id : Int) (a b d n : Nat) : row A C id a b d (n + 1) = row A C id a b d n ++ it A C id a b d (n + 1) := by simp [row, List.range_succ]
theorem pre_succ (A C id : Int) (a b m n : Nat) : pre A C id a b m (n + 1) = pre A C id a b m n ++ row A C id a b n m := by simp [pre, List.range_succ]
theorem row_zero (A C id : Int) (a b d : Nat) : row A C id a b d 0 = [] := rfl
theorem it_len (A C id : Int) (a b d v : Nat) : (it A C id a b d v).length ≤ 1 := by unfold it; split <;> simp
theorem row_len (A C id : Int) (a b d n : Nat) : (row A C id a b d n).length ≤ n := by
 induction n with
 | zero => simp [row]
 | succ n ih => rw [row_succ, List.length_append]; have := it_len A C id a b d (n + 1); omega
theorem pre_len (A C id : Int) (a b m n : Nat) : (pre A C id a b m n).length ≤ n * m := by
 induction n with
 | zero => simp [pre]
 | succ n ih => rw [pre_succ, List.length_append, Nat.succ_mul]; have := row_len A C id a b n m; omega
theorem mem_row {A C id : Int} {a b d n : Nat} {x : Re × Int} : x ∈ row A C id a b d n ↔ ∃ v, v < n ∧ tol A C a b d (v + 1) = true ∧ x = one id a b d (v + 1) := by
 unfold row
 rw [List.mem_flatMap]
 constructor
 ·rintro ⟨v, hv, hx⟩
  unfold it at hx
  split at hx
  ·rename_i h
   exact ⟨v, List.mem_range.1 hv, h, by simpa using hx⟩
  ·simp at hx
 ·rintro ⟨v, hv, h, rfl⟩
  exact ⟨v, List.mem_range.2 hv, by unfold it; rw [if_pos h]; simp⟩
theorem mem_prs {A C id : Int} {a b m : Nat} {x : Re × Int} : x ∈ prs A C id a b m ↔ ∃ d v, d < 9 ∧ v < m ∧ tol A C a b d (v + 1) = true ∧ x = one id a b d (v + 1) := by
 unfold prs pre
 rw [List.mem_flatMap]
 constructor
 ·rintro ⟨d, hd, hx⟩
  obtain ⟨v, hv, h1, h2⟩ := mem_row.1 hx
  exact ⟨d, v, List.mem_range.1 hd, hv, h1, h2⟩
 ·rintro ⟨d, v, hd, hv, h1, h2⟩
  exact ⟨d, List.mem_range.2 hd, mem_row.2 ⟨v, hv, h1, h2⟩⟩
def rc (x : Re) : List Value := [.int .i64 x.1, .int .i64 x.2.1, .int .i64 x.2.2.1, .bool x.2.2.2]
def cs (x : Re × Int) : List Value := [.int .i64 x.1.1, .int .i64 x.1.2.1, .int .i64 x.1.2.2.1, .bool x.1.2.2.2, .int .i64 x.2]
def fall (l : List (Re × Int)) : List (Re × Int) := l.mergeSort fun x y => decide (Ra.sg y.2 x.2 ≤ 0)
theorem le_iff (x y : Re × Int) : decide (Ra.sg y.2 x.2 ≤ 0) = true ↔ y.2 ≤ x.2 := by
 unfold Ra.sg
 split
 ·simp; omega
 ·split
  ·simp; omega
  ·simp; omega
theorem fall_perm (l : List (Re × Int)) : (fall l).Perm l := List.mergeSort_perm _ _
theorem fall_sorted (l : List (Re × Int)) : (fall l).Pairwise fun x y => y.2 ≤ x.2 := by
 have h := List.pairwise_mergeSort (le := fun x y : Re × Int => decide (Ra.sg y.2 x.2 ≤ 0)) (fun a b c h1 h2 => (le_iff _ _).2 (Int.le_trans ((le_iff _ _).1 h2) ((le_iff _ _).1 h1)))
  (fun a b => by
   rcases Int.le_total b.2 a.2 with h | h
   ·rw [(le_iff a b).2 h]; rfl
   ·rw [(le_iff b a).2 h]; simp) l
 exact h.imp fun h => (le_iff _ _).1 h
theorem fall_len (l : List (Re × Int)) : (fall l).length = l.length := (fall_perm l).length_eq
theorem fall_own (A C id : Int) (a b m : Nat) (ha : a < 9) (hb : 0 < b) (hb3 : b < 4) (hm : b ≤ m) (hm3 : m < 4) : ∃ r, fall (prs A C id a b m) = one id a b a b :: r := by
 have hmem : one id a b a b ∈ prs A C id a b m := mem_prs.2 ⟨a, b - 1, ha, by omega, by rw [Nat.sub_add_cancel hb]; simp [tol, own], by rw [Nat.sub_add_cancel hb]⟩
 rcases hf : fall (prs A C id a b m) with _ | ⟨h, t⟩
 ·have := (fall_perm (prs A C id a b m)).mem_iff.2 hmem
  rw [hf] at this
  cases this
 ·have hs := fall_sorted (prs A C id a b m)
  have hin := (fall_perm (prs A C id a b m)).mem_iff.2 hmem
  have hh : h ∈ prs A C id a b m := (fall_perm (prs A C id a b m)).mem_iff.1 (by rw [hf]; simp)
  rw [hf] at hs hin
  refine ⟨t, ?_⟩
  congr 1
  obtain ⟨d, v, hd, hv, _, rfl⟩ := mem_prs.1 hh
  rcases List.mem_cons.1 hin with e | e
  ·exact e.symm
  ·have hle := (List.pairwise_cons.1 hs).1 _ e
   by_cases ho : own a b d (v + 1) = true
   ·simp only [own, Bool.and_eq_true, beq_iff_eq] at ho
    rw [ho.1, ho.2]
   ·have h1 : (one id a b a b).2 = 1073741824 := by simp [one, val, own]
    have h2 : (one id a b d (v + 1)).2 = dt a b d (v + 1) := by simp only [one, val]; rw [if_neg ho]
    rw [h1, h2] at hle
    have := dt_bd a ha b hb3 hb d hd (v + 1) omg omg
    omega
theorem prs_mono {A C id : Int} {a b m m' : Nat} (h : m ≤ m') (hne : prs A C id a b m ≠ []) : prs A C id a b m' ≠ [] := by
 obtain ⟨x, hx⟩ := List.exists_mem_of_ne_nil _ hne
 obtain ⟨d, v, hd, hv, h1, h2⟩ := mem_prs.1 hx
 intro h0
 have := mem_prs.2 ⟨d, v, hd, Nat.lt_of_lt_of_le hv h, h1, h2⟩
 rw [h0] at this
 cases this
def limb (k : Ex.Sg) : Option Nat := if k.kind = 3 then some 0 else if k.kind = 4 then some 1 else if k.kind = 5 then some 2 else none
def top (b : Un.Bd) : Nat → Int
 | 0 => b.t0
 | 1 => b.t1
 | _ => b.t2
def limbs (A C : Int) (k : Ex.Sg) (t : Int) : List Re := (fall (prs A C k.id k.dir.toNat k.level.toNat t.toNat)).map (·.1)
def mnI (x y : Int) : Int := if y < x then y else x
def base (A C : Int) (k : Ex.Sg) (b : Un.Bd) : List Re :=
 if k.kind = 1 then (if b.step < k.size then [] else [(k.id, 0, 0, false)])
 else if k.kind = 2 then (if b.jump < k.size then [] else [(k.id, 0, 0, false)])
 else if k.kind = 3 then limbs A C k b.t0
 else if k.kind = 4 then limbs A C k b.t1
 else if k.kind = 5 then limbs A C k b.t2
 else if k.kind = 9 then [(k.id, 0, mnI k.level b.t1, false)]
 else [(k.id, 0, 0, false)]
def opts (A C : Int) (k : Ex.Sg) (b : Un.Bd) : List Re := base A C k b ++ (if k.mark = 1 then [] else [(k.id, 0, 0, true)])
end Uo
end Go.Proofs.YtedolbjgdedoaaaGreatDoor

namespace Go.Proofs.YtedolbjgdedoaaaGreatDoor
open Go.RowKit
instance : Inhabited Un.Bd := ⟨⟨.empty, 0, 0, 0, 0, 0, 0, 0, 0, 0, 0, 0, 0, 0, 0, 0, 0⟩⟩
namespace Un
def mine (bar role : Int) (k : Ex.Sg) : Bool := decide (bar ≤ k.bar) && (k.role == role)
def lift (bar : Int) (k : Ex.Sg) : Bool := decide (bar ≤ k.bar) && (k.kind == 7)
def none? (x : Ex.Wk) (b : Bd) (k : Ex.Sg) : Bool := (Uo.opts x.ta x.tc k b).isEmpty
def ableR (x : Ex.Wk) (b : Bd) (role bar : Int) : Int × Bool :=
 match (x.sg.filter (mine bar role)).find? (none? x b) with
 | some k => (k.id, false)
 | none => (0, true)
def who (bs : List Bd) (b : Bd) (role r : Int) : Bd := if r = role then b else bs.getD r.toNat default
def heavy (bs : List Bd) (b : Bd) (role : Int) (k : Ex.Sg) : Bool :=
 (k.role == role || k.wth - 1 == role) && decide ((who bs b role k.role).lift < (who bs b role (k.wth - 1)).weight)
def heavyR (x : Ex.Wk) (bs : List Bd) (b : Bd) (role bar : Int) : Int × Bool :=
 match (x.sg.filter (lift bar)).find? (heavy bs b role) with
 | some k => (k.id, true)
 | none => (0, false)
def within (x : Ex.Wk) (role bar : Int) : Bool := decide (0 ≤ role) && decide (role < x.ro.length) && decide (0 ≤ bar) && decide (bar < x.n)
def cost (k : Ex.Sg) (r : Uo.Re) : Int :=
 if r.2.2.2 = true then (if k.mark = 3 then 4 else if k.mark = 2 then 16 else 64)
 else if (k.kind = 3 ∨ k.kind = 4 ∨ k.kind = 5) ∧ (r.2.1 ≠ k.dir ∨ r.2.2.1 ≠ k.level) then 1 else 0
def price (x : Ex.Wk) (b : Bd) (role bar : Int) : Int :=
 ((x.sg.filter (mine bar role)).map fun k => cost k ((Uo.opts x.ta x.tc k b).headD (0, 0, 0, false))).sum
def fits (x : Ex.Wk) (bs : List Bd) (cast : List Int) (role bar : Int) (p : Nat) : Bool :=
 let b := bs.getD p default
 (ableR x b role bar).2 && !(cast.contains (p : Int)) && !(heavyR x (cast.map fun q => bs.getD q.toNat default) b role bar).2
def before (x : Ex.Wk) (bs : List Bd) (role bar : Int) (p q : Nat) : Prop :=
 price x (bs.getD p default) role bar < price x (bs.getD q default) role bar ∨ (price x (bs.getD p default) role bar = price x (bs.getD q default) role bar ∧ p ≤ q)
def okCast (n : Nat) : List Int → List Int → Bool
 | _, [] => true
 | pre, p :: l => decide (0 ≤ p) && decide (p < n) && !(pre.contains p) && okCast n (pre ++ [p]) l
def readyE (x : Ex.Wk) (bs : List Bd) (cast : List Int) (role bar : Int) : Int :=
 if Ex.chk x ≠ 0 then Ex.chk x
 else if 16 < bs.length then 2
 else if bs.all bok = false then 250
 else if okCast bs.length [] cast = false then 480
 else if cast.length ≠ x.ro.length then 480
 else if within x role bar = false then 1
 else 0
structure Ready (x : Ex.Wk) (bs : List Bd) (cast : List Int) (role bar : Int) (l : List Nat) : Prop where
 perm : l.Perm ((List.range bs.length).filter (fits x bs cast role bar))
 srt : l.Pairwise (before x bs role bar)
end Un
end Go.Proofs.YtedolbjgdedoaaaGreatDoor

namespace Go.Proofs.YtedolbjgdedoaaaGreatDoor
open Go.RowKit
namespace Un
theorem able_iff (x : Ex.Wk) (b : Bd) (role bar : Int) : (ableR x b role bar).2 = true ↔ ∀ k ∈ x.sg, mine bar role k = true → none? x b k = false := by
 unfold ableR
 rcases h : (x.sg.filter (mine bar role)).find? (none? x b) with _ | k
 ·simp only [true_iff]
  intro k hk hm
  have := List.find?_eq_none.1 h k (List.mem_filter.2 ⟨hk, hm⟩)
  simpa using this
 ·simp only [Bool.false_eq_true, false_iff]
  intro hh
  have h1 := List.find?_some h
  have h2 := List.mem_filter.1 (List.mem_of_find?_eq_some h)
  rw [hh k h2.1 h2.2] at h1
  cases h1
theorem light_iff (x : Ex.Wk) (bs : List Bd) (b : Bd) (role bar : Int) : (heavyR x bs b role bar).2 = false ↔ ∀ k ∈ x.sg, lift bar k = true → heavy bs b role k = false := by
 unfold heavyR
 rcases h : (x.sg.filter (lift bar)).find? (heavy bs b role) with _ | k
 ·simp only [true_iff]
  intro k hk hm
  have := List.find?_eq_none.1 h k (List.mem_filter.2 ⟨hk, hm⟩)
  simpa using this
 ·simp only [Bool.true_eq_false, false_iff]
  intro hh
  have h1 := List.find?_some h
  have h2 := List.mem_filter.1 (List.mem_of_find?_eq_some h)
  rw [hh k h2.1 h2.2] at h1
  cases h1
theorem mine_later {bar later role : Int} (h : bar ≤ later) {k : Ex.Sg} (hk : mine later role k = true) : mine bar role k = true := by
 unfold mine at hk ⊢
 simp only [Bool.and_eq_true, decide_eq_true_eq] at hk ⊢
 exact ⟨by omega, hk.2⟩
theorem lift_later {bar later : Int} (h : bar ≤ later) {k : Ex.Sg} (hk : lift later k = true) : lift bar k = true := by
 unfold lift at hk ⊢
 simp only [Bool.and_eq_true, decide_eq_true_eq] at hk ⊢
 exact ⟨by omega, hk.2⟩
theorem fits_later {x : Ex.Wk} {bs : List Bd} {cast : List Int} {role bar later : Int} (h : bar ≤ later) {p : Nat} (hp : fits x bs cast role bar p = true) : fits x bs cast role later p = true := by
 unfold fits at hp ⊢
 simp only [Bool.and_eq_true, Bool.not_eq_true'] at hp ⊢
 obtain ⟨⟨h1, h2⟩, h3⟩ := hp
 refine ⟨⟨?_, h2⟩, ?_⟩
 ·rw [able_iff] at h1 ⊢
  exact fun k hk hm => h1 k hk (mine_later h hm)
 ·rw [light_iff] at h3 ⊢
  exact fun k hk hm => h3 k hk (lift_later h hm)
theorem ready_later {x : Ex.Wk} {bs : List Bd} {cast : List Int} {role bar later : Int} (h : bar ≤ later) {l m : List Nat} (hl : Ready x bs cast role bar l) (hm : Ready x bs cast role later m) : ∀ p ∈ l, p ∈ m := fun p hp => by
 have h1 := List.mem_filter.1 (hl.perm.mem_iff.1 hp)
 exact hm.perm.mem_iff.2 (List.mem_filter.2 ⟨h1.1, fits_later h h1.2⟩)

def only (x : Ex.Wk) (bar role : Int) : Ex.Wk := { x with sg := x.sg.filter (mine bar role) }
theorem vG_down {roles n : Int} {l : List Ex.Sg} {last last' : Int} (h : last' ≤ last) (hv : Ex.vG roles n last l = true) : Ex.vG roles n last' l = true := by
 rcases l with _ | ⟨s, l⟩
 ·rfl
 ·rw [Ex.vG, Bool.and_eq_true] at hv ⊢
  refine ⟨?_, hv.2⟩
  have h1 := hv.1
  unfold Ex.okG1 at h1 ⊢
  simp only [Bool.and_eq_true, decide_eq_true_eq] at h1 ⊢
  exact ⟨⟨by omega, h1.1.2⟩, h1.2⟩
theorem vG_filter {roles n : Int} (f : Ex.Sg → Bool) : ∀ (l : List Ex.Sg) (last : Int), Ex.vG roles n last l = true → Ex.vG roles n last (l.filter f) = true
 | [], _, _ => rfl
 | s :: l, last, hv => by
  have hv' := hv
  rw [Ex.vG, Bool.and_eq_true] at hv
  have ih := vG_filter f l s.id hv.2
  by_cases h : f s = true
  ·rw [List.filter_cons_of_pos h, Ex.vG, Bool.and_eq_true]
   exact ⟨hv.1, ih⟩
  ·rw [List.filter_cons_of_neg h]
   have h1 := hv.1
   unfold Ex.okG1 at h1
   simp only [Bool.and_eq_true, decide_eq_true_eq] at h1
   exact vG_down omg ih
theorem chk_only {x : Ex.Wk} (h : Ex.chk x = 0) (bar role : Int) : Ex.chk (only x bar role) = 0 := by
 unfold Ex.chk at h
 split at h
 ·cases h
 ·rename_i h1
  split at h
  ·rename_i h2
   exact absurd h h2
  ·rename_i h2
   split at h
   ·rename_i h3
    have hl : (x.sg.filter (mine bar role)).length ≤ x.sg.length := List.length_filter_le _ _
    unfold Ex.chk
    rw [if_neg (by show ¬ (64 < x.ro.length ∨ 4096 < (x.sg.filter (mine bar role)).length); omega), if_neg (show ¬ Tp.chk (only x bar role).n (only x bar role).ts (only x bar role).ps (only x bar role).ss ≠ 0 from h2), if_pos]
    unfold Ex.okW at h3 ⊢
    simp only [Bool.and_eq_true] at h3 ⊢
    exact ⟨⟨h3.1.1, h3.1.2⟩, vG_filter _ _ _ h3.2⟩
   ·cases h
theorem able_only (x : Ex.Wk) (b : Bd) (role bar : Int) : ableR (only x bar role) b role bar = ableR x b role bar := by
 unfold ableR only
 have e : (x.sg.filter (mine bar role)).filter (mine bar role) = x.sg.filter (mine bar role) := by
  rw [List.filter_filter]; simp
 show (match ((x.sg.filter (mine bar role)).filter (mine bar role)).find? (none? x b) with | some k => (k.id, false) | none => (0, true)) = _
 rw [e]
 all_goals rfl
structure Le (a b : Bd) : Prop where
 step : a.step ≤ b.step
 jump : a.jump ≤ b.jump
 t0 : a.t0 ≤ b.t0
 t1 : a.t1 ≤ b.t1
 t2 : a.t2 ≤ b.t2
theorem limbs_mono {A C : Int} {k : Ex.Sg} {t t' : Int} (h : t ≤ t') (hn : Uo.limbs A C k t ≠ []) : Uo.limbs A C k t' ≠ [] := by
 unfold Uo.limbs at hn ⊢
 rw [ne_eq, List.map_eq_nil_iff, ← List.length_eq_zero_iff, Uo.fall_len, List.length_eq_zero_iff] at hn ⊢
 exact Uo.prs_mono (Int.toNat_le_toNat h) hn
theorem opts_mono {A C : Int} {k : Ex.Sg} {a b : Bd} (h : Le a b) (hn : Uo.opts A C k a ≠ []) : Uo.opts A C k b ≠ [] := by
 unfold Uo.opts at hn ⊢
 rw [ne_eq, List.append_eq_nil_iff, Classical.not_and_iff_not_or_not] at hn ⊢
 rcases hn with hn | hn
 ·left
  unfold Uo.base at hn ⊢
  split at hn
  ·rename_i h1
   rw [if_pos h1]
   split at hn
   ·exact absurd rfl hn
   ·rw [if_neg (by have := h.step; omega)]; simp
  rename_i h1
  rw [if_neg h1]
  split at hn
  ·rename_i h2
   rw [if_pos h2]
   split at hn
   ·exact absurd rfl hn
   ·rw [if_neg (by have := h.jump; omega)]; simp
  rename_i h2
  rw [if_neg h2]
  split at hn
  ·rename_i h3
   rw [if_pos h3]; exact limbs_mono h.t0 hn
  rename_i h3
  rw [if_neg h3]
  split at hn
  ·rename_i h4
   rw [if_pos h4]; exact limbs_mono h.t1 hn
  rename_i h4
  rw [if_neg h4]
  split at hn
  ·rename_i h5
   rw [if_pos h5]; exact limbs_mono h.t2 hn
  rename_i h5
  rw [if_neg h5]
  split
  ·simp
  ·simp
 ·exact Or.inr hn
theorem able_mono {x : Ex.Wk} {a b : Bd} (h : Le a b) {role bar : Int} (ha : (ableR x a role bar).2 = true) : (ableR x b role bar).2 = true := by
 rw [able_iff] at ha ⊢
 intro k hk hm
 have h1 := ha k hk hm
 unfold none? at h1 ⊢
 rw [List.isEmpty_eq_false_iff] at h1 ⊢
 exact opts_mono h h1
end Un
end Go.Proofs.YtedolbjgdedoaaaGreatDoor
