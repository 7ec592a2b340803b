/- Plain facts: pairs of signs at one time, in the program's order; the groups' rows. -/
import Derived.Test.YtggfeblfhabmkaaGreatDoorTyD
import Derived.Test.YtggfeblfhabmkaaGreatDoorTyK
namespace Go.Proofs.YtggfeblfhabmkaaGreatDoor
set_option linter.unusedVariables false
set_option linter.unusedSimpArgs false
open Go.RowKit
namespace Ty
def overB (a k : Ex.Sg) : Bool := bf a.fn a.fd k.tn k.td && bf k.fn k.fd a.tn a.td
def key (s : Ex.Sg) : List Int := [s.role, s.bar]
/-- The signs of a group. -/
def grp (l : List Ex.Sg) (xs : List Int) : List Ex.Sg := l.filter fun a => key a == xs
def row1 (G : List Ex.Sg) (k : Ex.Sg) : List (Ex.Sg × Ex.Sg) := (G.filter fun a => overB a k).map fun a => (a, k)
/-- The pairs, in the program's order. -/
def prs : List Ex.Sg → List Ex.Sg → List (Ex.Sg × Ex.Sg)
  | _, [] => []
  | seen, k :: l => row1 (grp seen (key k)) k ++ prs (seen ++ [k]) l
theorem prs_app : ∀ (l m seen : List Ex.Sg), prs seen (l ++ m) = prs seen l ++ prs (seen ++ l) m
  | [], m, seen => by simp [prs]
  | k :: l, m, seen => by simp [prs, prs_app l m (seen ++ [k])]
theorem grp_snoc (l : List Ex.Sg) (k : Ex.Sg) (xs : List Int) : grp (l ++ [k]) xs = if xs = key k then grp l xs ++ [k] else grp l xs := by
  unfold grp
  rw [List.filter_append]
  by_cases h : xs = key k
  · rw [if_pos h]; simp [h]
  · rw [if_neg h]
    have : (key k == xs) = false := by simpa using fun e => h e.symm
    simp [List.filter, this]
theorem row1_snoc (G : List Ex.Sg) (a k : Ex.Sg) : row1 (G ++ [a]) k = if overB a k = true then row1 G k ++ [(a, k)] else row1 G k := by
  unfold row1
  rw [List.filter_append, List.map_append]
  rcases h : overB a k with _ | _ <;> simp [List.filter, h]
theorem row1_app (G H : List Ex.Sg) (k : Ex.Sg) : row1 (G ++ H) k = row1 G k ++ row1 H k := by simp [row1]
theorem row1_cons (G : List Ex.Sg) (a k : Ex.Sg) (h : overB a k = true) : row1 (a :: G) k = (a, k) :: row1 G k := by simp [row1, h]
/-- Where the program stands in the pairs. -/
theorem prs_at (l : List Ex.Sg) (i : Nat) (k : Ex.Sg) (hi : l[i]? = some k) : prs [] l = prs [] (l.take i) ++ (row1 (grp (l.take i) (key k)) k ++ prs (l.take (i + 1)) (l.drop (i + 1))) := by
  have hlt : i < l.length := (List.getElem?_eq_some_iff.1 hi).1
  have hk := (List.getElem?_eq_some_iff.1 hi).2
  have h1 : l = l.take i ++ k :: l.drop (i + 1) := by
    rw [← hk, List.getElem_cons_drop hlt, List.take_append_drop]
  have h2 : l.take (i + 1) = l.take i ++ [k] := by rw [List.take_add_one, hi]; rfl
  conv => lhs; rw [h1]
  rw [prs_app, h2]
  simp [prs]
theorem prs_take (l : List Ex.Sg) (i : Nat) (k : Ex.Sg) (hi : l[i]? = some k) : prs [] (l.take (i + 1)) = prs [] (l.take i) ++ row1 (grp (l.take i) (key k)) k := by
  have h2 : l.take (i + 1) = l.take i ++ [k] := by rw [List.take_add_one, hi]; rfl
  rw [h2, prs_app]
  simp [prs]
theorem prs_ok (l : List Ex.Sg) (i j : Nat) (k a : Ex.Sg) (hi : l[i]? = some k) (hj : (grp (l.take i) (key k))[j]? = some a) (ho : overB a k = true) :
    ∃ rest, prs [] l = (prs [] (l.take i) ++ row1 ((grp (l.take i) (key k)).take j) k) ++ (a, k) :: rest := by
  have hlt := (List.getElem?_eq_some_iff.1 hj).1
  have hk := (List.getElem?_eq_some_iff.1 hj).2
  refine ⟨row1 ((grp (l.take i) (key k)).drop (j + 1)) k ++ prs (l.take (i + 1)) (l.drop (i + 1)), ?_⟩
  rw [prs_at l i k hi]
  conv => lhs; rw [← List.take_append_drop j (grp (l.take i) (key k))]
  rw [row1_app, ← List.getElem_cons_drop hlt, hk, row1_cons _ _ _ ho]
  simp
theorem row1_take (G : List Ex.Sg) (j : Nat) (k a : Ex.Sg) (hj : G[j]? = some a) : row1 (G.take (j + 1)) k = if overB a k = true then row1 (G.take j) k ++ [(a, k)] else row1 (G.take j) k := by
  rw [List.take_add_one, hj]
  exact row1_snoc _ _ _

def sc (s : Ex.Sg) : List Value := [.int .i64 s.id, .int .i64 s.role, .int .i64 s.bar, .int .i64 s.mark, .int .i64 s.kind, .int .i64 s.side, .int .i64 s.dir, .int .i64 s.level, .int .i64 s.size, .int .i64 s.wth, .int .i64 s.fn, .int .i64 s.fd, .int .i64 s.tn, .int .i64 s.td]
def flatS (l : List Ex.Sg) : List Value := l.flatMap sc
theorem flatS_snoc (l : List Ex.Sg) (s : Ex.Sg) : flatS (l ++ [s]) = flatS l ++ sc s := by simp [flatS]
theorem flatS_get : ∀ (l : List Ex.Sg) (i j : Nat), i < l.length → j < 14 → (flatS l)[i * 14 + j]? = some (Ex.sgc l i j)
  | s :: l, 0, j, _, hj => by
    have h : (flatS (s :: l)) = sc s ++ flatS l := by simp [flatS]
    rw [h, List.getElem?_append_left (by simp [sc]; omega)]
    rcases j with _ | _ | _ | _ | _ | _ | _ | _ | _ | _ | _ | _ | _ | _ | j <;> first | (simp [sc, Ex.sgc]; done) | omega
  | s :: l, i + 1, j, hi, hj => by
    have h : (flatS (s :: l)) = sc s ++ flatS l := by simp [flatS]
    rw [h, List.getElem?_append_right (by simp [sc]; omega)]
    have h2 : (i + 1) * 14 + j - (sc s).length = i * 14 + j := by simp [sc]; omega
    rw [h2, flatS_get l i j (by simpa using hi) hj]
    simp [Ex.sgc]
/-- A row of signs of one's own reads as a slice. -/
theorem row_sl {W : World} {s : Nat} {v : Value} {G : List Ex.Sg} (h : W.ownsRow s 44 14 v G.length (flatS G)) :
    (G = [] ∧ v = .slice none 0 0) ∨ ∃ g c, v = .slice (some ⟨g, 0, none⟩) G.length c ∧ s ≤ g ∧ g < W.heap.size ∧ Tp.Sl W (some ⟨g, 0, none⟩) G.length 14 (Ex.sgc G) := by
  have h' := h
  rcases h.2 with ⟨e1, e2⟩ | ⟨g, cap, cur, rfl, hg, hh, r⟩
  · exact .inl ⟨List.eq_nil_of_length_eq_zero e2, e1⟩
  · have hl := h'.lt g rfl
    refine .inr ⟨g, cap, rfl, hl.1, hl.2, .inr ⟨_, rfl, hl.2, fun i j hi hj => ?_⟩⟩
    have := h'.cells (g := g) rfl (i * 14 + j) (Ex.sgc G i j) (flatS_get G i j hi hj)
    exact this
/-- The groups: M: the map's block; each slice owns its row, at s or above; no row in Y. -/
structure Grp (s M : Nat) (l : List Ex.Sg) (W : World) (f : List Int → Value) : Prop where
  map : Kit.VMap Tryz.prog 83 2 (.slice none 0 0) W M l.length f
  row : ∀ xs, W.ownsRow s 44 14 (f xs) (grp l xs).length (flatS (grp l xs))
  apart : ∀ xs ys g, xs ≠ ys → (f xs).ownBlock = some g → (f ys).ownBlock ≠ some g
  notM : ∀ xs, (f xs).ownBlock ≠ some M
  low : s ≤ M
theorem Grp.keep {s M : Nat} {l : List Ex.Sg} {A W : World} {f : List Int → Value} {S : Nat → Prop} (h : Grp s M l A f) (hx : Kit.Exc S A W) (hM : ¬ S M) (hr : ∀ xs g, (f xs).ownBlock = some g → ¬ S g) : Grp s M l W f := by
  refine ⟨h.map.kept (hx.block M h.map.lt hM), fun xs => ?_, h.apart, h.notM, h.low⟩
  obtain ⟨hlen, hv⟩ := h.row xs
  refine ⟨hlen, ?_⟩
  rcases hv with h1 | ⟨g, cap, cur, e, hg, hh, r⟩
  · exact .inl h1
  · exact .inr ⟨g, cap, cur, e, hg, (hx.block g (Array.getElem?_eq_some_iff.1 hh).1 (hr xs g (by rw [e]; rfl))).trans hh, r⟩
theorem own_keep {W W' : World} {s e k n : Nat} {v : Value} {xs : List Value} (h : W.ownsRow s e k v n xs) (hk : ∀ g, v.ownBlock = some g → W'.heap[g]? = W.heap[g]?) : W'.ownsRow s e k v n xs := by
  obtain ⟨hlen, hv⟩ := h
  refine ⟨hlen, ?_⟩
  rcases hv with h1 | ⟨g, cap, cur, rfl, hg, hh, r⟩
  · exact .inl h1
  · exact .inr ⟨g, cap, cur, rfl, hg, (hk g rfl).trans hh, r⟩
/-- A sign more in its group. -/
theorem Grp.step {s M : Nat} {l : List Ex.Sg} {A w1 w2 w3 : World} {f : List Int → Value} {x : Ex.Sg} {v' : Value} (h : Grp s M l A f) (h1 : A.grownBy w1 (some M)) (h2 : w1.grownBy w2 (f (key x)).ownBlock)
    (hrow : w2.ownsRow s 44 14 v' ((grp l (key x)).length + 1) (flatS (grp l (key x)) ++ sc x)) (hwh : ∀ k, v'.ownBlock = some k → (f (key x)).ownBlock = some k ∨ w1.heap.size ≤ k) (h3 : w2.grownBy w3 (some M))
    (hm : Kit.VMap Tryz.prog 83 2 (.slice none 0 0) w3 M (l.length + 1) (fun ys => if ys = key x then v' else f ys)) : Grp s M (l ++ [x]) w3 (fun ys => if ys = key x then v' else f ys) := by
  have hML : M < A.heap.size := h.map.lt
  have s1 := h1.size
  have s2 := h2.size
  have hnM : ∀ k, v'.ownBlock = some k → k ≠ M := fun k hk e => by
    rcases hwh k hk with h4 | h4
    · exact h.notM _ (e ▸ h4)
    · omega
  have keep : ∀ ys g, ys ≠ key x → (f ys).ownBlock = some g → w3.heap[g]? = A.heap[g]? := fun ys g hne hg => by
    have hgl := ((h.row ys).lt g hg).2
    have hgM : g ≠ M := fun e => h.notM ys (e ▸ hg)
    have hgk : (f (key x)).ownBlock ≠ some g := h.apart ys (key x) g hne hg
    exact ((h3.block g (by omega) (fun e => by cases e; exact hgM rfl)).trans (h2.block g (by omega) (fun e => hgk e.symm))).trans (h1.block g hgl (fun e => by cases e; exact hgM rfl))
  refine ⟨by simpa using hm, fun ys => ?_, fun xs ys g hne => ?_, fun ys => ?_, h.low⟩
  · rw [grp_snoc]
    by_cases e : ys = key x
    · subst e
      rw [if_pos rfl, if_pos rfl, List.length_append, flatS_snoc]
      exact own_keep hrow (fun g hg => h3.block g (hrow.lt g hg).2 (fun e => hnM g hg (Option.some.inj e)))
    · rw [if_neg e, if_neg e]
      exact own_keep (h.row ys) (fun g hg => keep ys g e hg)
  · have hnew : ∀ zs g, zs ≠ key x → v'.ownBlock = some g → (f zs).ownBlock ≠ some g := fun zs g hz hg hc => by
      rcases hwh g hg with h4 | h4
      · exact h.apart zs (key x) g hz hc h4
      · have := ((h.row zs).lt g hc).2
        omega
    by_cases e1 : xs = key x
    · by_cases e2 : ys = key x
      · exact absurd (e1.trans e2.symm) hne
      · rw [if_pos e1, if_neg e2]; exact fun hg => hnew ys g e2 hg
    · by_cases e2 : ys = key x
      · rw [if_neg e1, if_pos e2]; exact fun hg hc => hnew xs g e1 hc hg
      · rw [if_neg e1, if_neg e2]; exact h.apart xs ys g hne
  · by_cases e : ys = key x
    · rw [if_pos e]; exact fun hc => hnM M hc rfl
    · rw [if_neg e]; exact h.notM ys
end Ty
end Go.Proofs.YtggfeblfhabmkaaGreatDoor
