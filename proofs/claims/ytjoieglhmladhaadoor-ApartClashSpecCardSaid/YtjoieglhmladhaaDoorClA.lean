/- Plain facts: package apart: Clashes. -/
import Derived.Test.YtjoieglhmladhaaDoorApL
import Derived.Test.YtjoieglhmladhaaDoorApM
import Derived.Test.YtjoieglhmladhaaDoorApE
namespace Go.Proofs.YtjoieglhmladhaaDoor
set_option linter.unusedVariables false
set_option linter.unusedSimpArgs false
open Go.RowKit Go.Shelf

namespace Ap
/-- A clash: kind, A, B. -/
abbrev C3 := Int × Int × Int

def meet (p q : Bx) : Bool := Sp.meets p.1 p.2.1 p.2.2.1 p.2.2.2 q.1 q.2.1 q.2.2.1 q.2.2.2
def ins (p q : Bx) : Bool := Sp.inside p.1 p.2.1 p.2.2.1 p.2.2.2 q.1 q.2.1 q.2.2.1 q.2.2.2
def has (P : List (Int × Int)) (a b : Int) : Bool := decide ((a, b) ∈ P)
theorem has_congr {M M' : List (Int × Int)} (h : ∀ p, p ∈ M ↔ p ∈ M') : has M = has M' := by
  funext a b
  simp [has, h]
/-- Does role a clash with role b? -/
def hit (h : Int → Int → Bool) (p : Bx) (v : List Bx) (a b : Nat) : Bool := !h a b && meet p (v.getD b (0, 0, 0, 0))
/-- The clashes of role a with the roles from b on. -/
def rowC (h : Int → Int → Bool) (kd : Int) (p : Bx) (v : List Bx) (a : Nat) : Nat → Nat → List C3
  | _, 0 => []
  | b, n + 1 => if hit h p v a b = true then (kd, (a : Int), (b : Int)) :: rowC h kd p v a (b + 1) n else rowC h kd p v a (b + 1) n
def allC (h : Int → Int → Bool) (kd : Int) (u v : List Bx) (R : Nat) : Nat → Nat → List C3
  | _, 0 => []
  | a, n + 1 => rowC h kd (u.getD a (0, 0, 0, 0)) v a (a + 1) (R - (a + 1)) ++ allC h kd u v R (a + 1) n
/-- Whose boxes kind k compares. -/
def one (mv hd : List Bx) (k : Nat) : List Bx := if k = 0 then [] else if k ≤ 2 then mv else hd
def two (mv hd : List Bx) (k : Nat) : List Bx := if k = 0 then [] else if k = 1 ∨ k = 3 then mv else hd
def ksC (h : Int → Int → Bool) (mv hd : List Bx) (R : Nat) : Nat → Nat → List C3
  | _, 0 => []
  | k, n + 1 => allC h k (one mv hd k) (two mv hd k) R 0 (one mv hd k).length ++ ksC h mv hd R (k + 1) n
def hitW (p q x : Bx) : Bool := meet p x || meet q x
def rowW (p q : Bx) (ps : List Bx) (a : Nat) : Nat → Nat → List C3
  | _, 0 => []
  | b, n + 1 => if hitW p q (ps.getD b (0, 0, 0, 0)) = true then (5, (a : Int), (b : Int)) :: rowW p q ps a (b + 1) n else rowW p q ps a (b + 1) n
def allW (mv hd ps : List Bx) : Nat → Nat → List C3
  | _, 0 => []
  | a, n + 1 => rowW (mv.getD a (0, 0, 0, 0)) (hd.getD a (0, 0, 0, 0)) ps a 0 ps.length ++ allW mv hd ps (a + 1) n
def hitE (p q f : Bx) : Bool := !ins p f || !ins q f
def allE (f : Bx) (mv hd : List Bx) : Nat → Nat → List C3
  | _, 0 => []
  | a, n + 1 => if hitE (mv.getD a (0, 0, 0, 0)) (hd.getD a (0, 0, 0, 0)) f = true then (6, (a : Int), 0) :: allE f mv hd (a + 1) n else allE f mv hd (a + 1) n

theorem rowC_step (h : Int → Int → Bool) (kd : Int) (p : Bx) (v : List Bx) (a b R : Nat) (hb : b < R) : rowC h kd p v a b (R - b) = if hit h p v a b = true then (kd, (a : Int), (b : Int)) :: rowC h kd p v a (b + 1) (R - (b + 1)) else rowC h kd p v a (b + 1) (R - (b + 1)) := by
  rw [show R - b = (R - (b + 1)) + 1 by omega]; rfl
theorem allC_step (h : Int → Int → Bool) (kd : Int) (u v : List Bx) (R a N : Nat) (ha : a < N) : allC h kd u v R a (N - a) = rowC h kd (u.getD a (0, 0, 0, 0)) v a (a + 1) (R - (a + 1)) ++ allC h kd u v R (a + 1) (N - (a + 1)) := by
  rw [show N - a = (N - (a + 1)) + 1 by omega]; rfl
theorem ksC_step (h : Int → Int → Bool) (mv hd : List Bx) (R k N : Nat) (hk : k < N) : ksC h mv hd R k (N - k) = allC h k (one mv hd k) (two mv hd k) R 0 (one mv hd k).length ++ ksC h mv hd R (k + 1) (N - (k + 1)) := by
  rw [show N - k = (N - (k + 1)) + 1 by omega]; rfl
theorem rowW_step (p q : Bx) (ps : List Bx) (a b R : Nat) (hb : b < R) : rowW p q ps a b (R - b) = if hitW p q (ps.getD b (0, 0, 0, 0)) = true then (5, (a : Int), (b : Int)) :: rowW p q ps a (b + 1) (R - (b + 1)) else rowW p q ps a (b + 1) (R - (b + 1)) := by
  rw [show R - b = (R - (b + 1)) + 1 by omega]; rfl
theorem allW_step (mv hd ps : List Bx) (a R : Nat) (ha : a < R) : allW mv hd ps a (R - a) = rowW (mv.getD a (0, 0, 0, 0)) (hd.getD a (0, 0, 0, 0)) ps a 0 ps.length ++ allW mv hd ps (a + 1) (R - (a + 1)) := by
  rw [show R - a = (R - (a + 1)) + 1 by omega]; rfl
theorem allE_step (f : Bx) (mv hd : List Bx) (a R : Nat) (ha : a < R) : allE f mv hd a (R - a) = if hitE (mv.getD a (0, 0, 0, 0)) (hd.getD a (0, 0, 0, 0)) f = true then (6, (a : Int), 0) :: allE f mv hd (a + 1) (R - (a + 1)) else allE f mv hd (a + 1) (R - (a + 1)) := by
  rw [show R - a = (R - (a + 1)) + 1 by omega]; rfl

def toB (r : Sp.BE) : Bx := (r.1, r.2.1, r.2.2.1, r.2.2.2.1)
def badP (R : Int) (p : Int × Int) : Bool := decide (p.1 < 0) || decide (p.2 ≤ p.1) || decide (R ≤ p.2)
/-- The error of the first wagon that has no path. -/
def pthE (bar : Int) : List Wg → Int
  | [] => 0
  | g :: l => if (pathR g bar).2.2.2.2 = 0 then pthE bar l else (pathR g bar).2.2.2.2
def pths (bar : Int) (l : List Wg) : List Bx := l.map fun g => toB (pathR g bar)
def flo (x : Ex.Wk) : Bx := (0, 841 * x.wd, 0, 841 * x.dp)
/-- The error of Clashes. -/
def clE (x : Ex.Wk) (gs : List Wg) (bar : Int) (mv hd : List Bx) (P : List (Int × Int)) : Int :=
  if Ex.chk x = 0 then
    if gs.length ≤ 8 then
      if Tp.inb bar 0 (x.n - 1) = true then
        if mv.length = x.ro.length ∧ hd.length = x.ro.length then
          if (mv.any fun b => !okB b) = false ∧ (hd.any fun b => !okB b) = false then
            if P.any (badP x.ro.length) = false then pthE bar gs else 290
          else 290
        else 290
      else 1
    else 2
  else Ex.chk x
/-- The clashes. -/
def cls (x : Ex.Wk) (gs : List Wg) (bar : Int) (mv hd : List Bx) (P : List (Int × Int)) : List C3 :=
  ksC (has P) mv hd x.ro.length 0 5 ++ (allW mv hd (pths bar gs) 0 x.ro.length ++ allE (flo x) mv hd 0 x.ro.length)

def flB (l : List Bx) : List Value := l.flatMap fun x => [.int .i64 x.1, .int .i64 x.2.1, .int .i64 x.2.2.1, .int .i64 x.2.2.2]
theorem flB_snoc (l : List Bx) (x : Bx) : flB (l ++ [x]) = flB l ++ [.int .i64 x.1, .int .i64 x.2.1, .int .i64 x.2.2.1, .int .i64 x.2.2.2] := by simp [flB]
def flC (l : List C3) : List Value := l.flatMap fun x => [.int .i64 x.1, .int .i64 x.2.1, .int .i64 x.2.2]
theorem flC_snoc (l : List C3) (x : C3) : flC (l ++ [x]) = flC l ++ [.int .i64 x.1, .int .i64 x.2.1, .int .i64 x.2.2] := by simp [flC]
def wgc (l : List Wg) (i j : Nat) : Value :=
  let g := l.getD i ⟨0, 0, 0, 0, 0, 0, 0, 0⟩
  .int .i64 (match j with | 0 => g.a | 1 => g.b | 2 => g.c | 3 => g.d | 4 => g.f | 5 => g.l | 6 => g.x | _ => g.y)
def c3c (l : List C3) (i j : Nat) : Value := .int .i64 (match j with | 0 => (l.getD i (0, 0, 0)).1 | 1 => (l.getD i (0, 0, 0)).2.1 | _ => (l.getD i (0, 0, 0)).2.2)
theorem flB_at : ∀ (L : List Bx) (i j : Nat), i < L.length → j < 4 → (flB L)[i * 4 + j]? = some (bxc L i j)
  | p :: L, 0, j, _, hj => by
    rcases j with _ | _ | _ | _ | j <;> first | omega | simp [flB, bxc]
  | p :: L, i + 1, j, h, hj => by
    have h1 := flB_at L i j (by simpa using h) hj
    have e : flB (p :: L) = .int .i64 p.1 :: .int .i64 p.2.1 :: .int .i64 p.2.2.1 :: .int .i64 p.2.2.2 :: flB L := by simp [flB]
    rw [e, show (i + 1) * 4 + j = i * 4 + j + 1 + 1 + 1 + 1 by omega]
    simpa [bxc] using h1
theorem flC_at : ∀ (L : List C3) (i j : Nat), i < L.length → j < 3 → (flC L)[i * 3 + j]? = some (c3c L i j)
  | p :: L, 0, j, _, hj => by
    rcases j with _ | _ | _ | j <;> first | omega | simp [flC, c3c]
  | p :: L, i + 1, j, h, hj => by
    have h1 := flC_at L i j (by simpa using h) hj
    have e : flC (p :: L) = .int .i64 p.1 :: .int .i64 p.2.1 :: .int .i64 p.2.2 :: flC L := by simp [flC]
    rw [e, show (i + 1) * 3 + j = i * 3 + j + 1 + 1 + 1 by omega]
    simpa [c3c] using h1
/-- A slice of one's own, as the walk reads it. -/
theorem own_sl {w : World} {base : Nat} {t : TypeId} {v : Value} {k n : Nat} {xs : List Value} {f : Nat → Nat → Value} (h : w.ownsRow base t k v n xs) (hf : ∀ i j, i < n → j < k → xs[i * k + j]? = some (f i j)) :
    ∃ ad c, v = .slice ad n c ∧ Tp.Sl w ad n k f ∧ ∀ b, ad = some b → base ≤ b.block := by
  have hc := h
  rcases h.2 with ⟨rfl, hn⟩ | ⟨g, cap, cur, rfl, hb, hg, _⟩
  · exact ⟨none, 0, by rw [hn], .inl hn, fun _ h => by cases h⟩
  · refine ⟨some ⟨g, 0, none⟩, cap, rfl, .inr ⟨⟨g, 0, none⟩, rfl, (hc.lt g rfl).2, fun i j hi hj => ?_⟩, fun b h => by cases h; exact hb⟩
    have h1 := hf i j hi hj
    have hl : i * k + j < xs.length := (List.getElem?_eq_some_iff.1 h1).1
    have hik : i * k + j < n * k := by
      have h4 : (i + 1) * k ≤ n * k := Nat.mul_le_mul_right k hi
      rw [Nat.succ_mul] at h4
      omega
    have h3 := (hc.cellAt (i * k + j) hik).trans h1
    have e : ∀ m : Nat, (⟨g, 0, none⟩ : Addr).add m = ⟨g, m, none⟩ := fun m => by simp [Addr.add]; exact fun h => h.symm
    rw [e]; exact h3
theorem rowC_len (h : Int → Int → Bool) (kd : Int) (p : Bx) (v : List Bx) (a : Nat) : ∀ (n b : Nat), (rowC h kd p v a b n).length ≤ n
  | 0, _ => by simp [rowC]
  | n + 1, b => by
    have := rowC_len h kd p v a n (b + 1)
    unfold rowC
    split
    · simp; omega
    · omega
/-- The path of a wagon is a valid box. -/
theorem joR_ok {a b c d a' b' c' d' : Int} (h : (Sp.joR a b c d a' b' c' d').2.2.2.2 = 0) : Sp.okBox (Sp.joR a b c d a' b' c' d').1 (Sp.joR a b c d a' b' c' d').2.1 (Sp.joR a b c d a' b' c' d').2.2.1 (Sp.joR a b c d a' b' c' d').2.2.2.1 = true := by
  unfold Sp.joR at h ⊢
  rcases h1 : Sp.okBox a b c d with _ | _
  · simp [h1] at h
  · rcases h2 : Sp.okBox a' b' c' d' with _ | _
    · simp [h1, h2] at h
    · simp only [if_true]
      simp [Sp.okBox, Sp.inB] at h1 h2 ⊢
      unfold Kit.mn2 Kit.mx2
      repeat' split
      all_goals omega
theorem pathR_ok {g : Wg} {bar : Int} (h : (pathR g bar).2.2.2.2 = 0) : okB (toB (pathR g bar)) = true := by
  unfold pathR at h ⊢
  split at h
  · split at h
    · split at h
      · rename_i h1 h2 h3
        rw [if_pos h1, if_pos h2, if_pos h3]
        exact joR_ok h
      · simp at h
    · simp at h
  · simp at h
end Ap
end Go.Proofs.YtjoieglhmladhaaDoor
