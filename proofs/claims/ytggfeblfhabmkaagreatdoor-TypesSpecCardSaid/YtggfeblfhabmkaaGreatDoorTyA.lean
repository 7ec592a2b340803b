/- Plain facts: the faults of a work: the program's list, sorted, is the reference's. -/
import Derived.Test.YtggfeblfhabmkaaGreatDoorEx
namespace Go.Proofs.YtggfeblfhabmkaaGreatDoor
set_option linter.unusedVariables false
set_option linter.unusedSimpArgs false
namespace Ty
/-- A fault: kind, A, B. -/
abbrev F3 := Int × Int × Int
def bef (n d n' d' : Int) : Bool := decide (n * d' < n' * d)
def over (a k : Ex.Sg) : Bool := bef a.fn a.fd k.tn k.td && bef k.fn k.fd a.tn a.td
def sim (a k : Ex.Sg) : Bool := a.role == k.role && a.bar == k.bar && over a k
/-- The columns of a sign, as bits. -/
def cols (kind side : Int) : Nat :=
  if kind = 1 ∨ kind = 3 then (if side = 2 then 2 else 1) else if kind = 2 then 3 else if kind = 4 ∨ kind = 9 then (if side = 2 then 8 else 4) else if kind = 5 then 16 else if kind = 6 then 32 else if kind = 7 then 12 else if kind = 8 then 35 else 0
def com (a b : Ex.Sg) : Bool := (cols a.kind a.side &&& cols b.kind b.side) != 0
def leg (s : Ex.Sg) : Bool := s.kind == 1 || s.kind == 3
def are (a b : Ex.Sg) (x y : Int) : Bool := (a.kind == x && b.kind == y) || (a.kind == y && b.kind == x)
def sup (a b : Ex.Sg) : Bool := (leg a && leg b && a.side != b.side) || are a b 7 2
def tow (a b : Ex.Sg) : Bool := are a b 7 8
def one (k a b : Int) (c : Bool) : List F3 := if c = true then [(k, a, b)] else []
/-- The faults of two signs at one time. -/
def fk (a b : Ex.Sg) : List F3 := one 1 a.id b.id (com a b) ++ (one 2 a.id b.id (sup a b) ++ one 4 a.id b.id (tow a b))
/-- The faults of pairs, in the program's order. -/
def prP : List Ex.Sg → List Ex.Sg → List F3
  | _, [] => []
  | seen, k :: l => (seen.filter fun a => sim a k).flatMap (fun a => fk a k) ++ prP (seen ++ [k]) l
def held (s : Ex.Sg) : Bool := s.kind == 7 || s.kind == 8
def fits (r l : Ex.Sg) : Bool := r.kind == 8 && l.kind == 7 && r.bar == l.bar && (r.fn == l.fn && r.fd == l.fd) && (r.tn == l.tn && r.td == l.td) && r.wth == l.role + 1 && l.wth == r.role + 1
def alone (all : List Ex.Sg) (k : Ex.Sg) : Bool := held k && (k.wth == k.role + 1 || !all.any fun s => fits k s || fits s k)
def lifP (all : List Ex.Sg) : List F3 := (all.filter (alone all)).map fun s => (3, s.id, s.id)
/-- What the program collects. -/
def progL (l : List Ex.Sg) : List F3 := prP [] l ++ lifP l
def pairK (kind : Int) (a b : Ex.Sg) : Bool := sim a b && (if kind = 1 then com a b else if kind = 2 then sup a b else if kind = 4 then tow a b else false)
/-- The reference's row of faults of a kind. -/
def rowK (kind : Int) (a : Ex.Sg) (l : List Ex.Sg) : List F3 := (l.filter (pairK kind a)).map fun b => (kind, a.id, b.id)
def selfK (kind : Int) (all : List Ex.Sg) (a : Ex.Sg) : List F3 := if (decide (kind = 3) && alone all a) = true then [(kind, a.id, a.id)] else []
def rK (kind : Int) (all : List Ex.Sg) : List Ex.Sg → List F3
  | [] => []
  | a :: l => selfK kind all a ++ rowK kind a l ++ rK kind all l
/-- The reference's list. -/
def refL (l : List Ex.Sg) : List F3 := rK 1 l l ++ (rK 2 l l ++ (rK 3 l l ++ rK 4 l l))

def lt3 (x y : F3) : Prop := x.1 < y.1 ∨ x.1 = y.1 ∧ (x.2.1 < y.2.1 ∨ x.2.1 = y.2.1 ∧ x.2.2 < y.2.2)
def ltB (x y : F3) : Prop := x.2.2 < y.2.2 ∨ x.2.2 = y.2.2 ∧ (x.2.1 < y.2.1 ∨ x.2.1 = y.2.1 ∧ x.1 < y.1)
theorem lt3_irrefl (x : F3) : ¬ lt3 x x := by unfold lt3; omega
theorem lt3_trans {x y z : F3} (h : lt3 x y) (k : lt3 y z) : lt3 x z := by unfold lt3 at *; omega
theorem lt3_asymm {x y : F3} (h : lt3 x y) : ¬ lt3 y x := by unfold lt3 at *; omega
/-- Two lists in order with the same elements are one. -/
theorem uniq : ∀ {l m : List F3}, l.Pairwise lt3 → m.Pairwise lt3 → (∀ x, x ∈ l ↔ x ∈ m) → l = m
  | [], [], _, _, _ => rfl
  | [], y :: m, _, _, h => by have := (h y).2 (List.mem_cons_self ..); simp at this
  | x :: l, [], _, _, h => by have := (h x).1 (List.mem_cons_self ..); simp at this
  | x :: l, y :: m, hl, hm, h => by
    rw [List.pairwise_cons] at hl hm
    have hxy : x = y := by
      have h1 := (h x).1 (List.mem_cons_self ..)
      have h2 := (h y).2 (List.mem_cons_self ..)
      rcases List.mem_cons.1 h1 with e | h1
      · exact e
      · rcases List.mem_cons.1 h2 with e | h2
        · exact e.symm
        · exact absurd (hl.1 y h2) (lt3_asymm (hm.1 x h1))
    subst hxy
    rw [uniq hl.2 hm.2 (fun z => ?_)]
    have hz := h z
    simp only [List.mem_cons] at hz
    constructor
    · intro hzl
      rcases hz.1 (.inr hzl) with e | e
      · subst e; exact absurd (hl.1 z hzl) (lt3_irrefl z)
      · exact e
    · intro hzm
      rcases hz.2 (.inr hzm) with e | e
      · subst e; exact absurd (hm.1 z hzm) (lt3_irrefl z)
      · exact e

/-- a stands ahead of b in the list. -/
def Bf (a b : Ex.Sg) : List Ex.Sg → Prop
  | [] => False
  | c :: l => (a = c ∧ b ∈ l) ∨ Bf a b l
theorem mem_one {k a b : Int} {c : Bool} {x : F3} : x ∈ one k a b c ↔ c = true ∧ x = (k, a, b) := by
  unfold one
  split
  · rename_i h; simp [h]
  · rename_i h; simp [h]
theorem mem_fk {a b : Ex.Sg} {x : F3} : x ∈ fk a b ↔ (com a b = true ∧ x = (1, a.id, b.id)) ∨ (sup a b = true ∧ x = (2, a.id, b.id)) ∨ (tow a b = true ∧ x = (4, a.id, b.id)) := by
  simp only [fk, List.mem_append, mem_one]
theorem mem_prP {x : F3} : ∀ (l seen : List Ex.Sg), x ∈ prP seen l ↔ (∃ a b, (a ∈ seen ∧ b ∈ l ∨ Bf a b l) ∧ sim a b = true ∧ x ∈ fk a b)
  | [], seen => by simp [prP, Bf]
  | k :: l, seen => by
    simp only [prP, List.mem_append, List.mem_flatMap, List.mem_filter, mem_prP l]
    constructor
    · rintro (⟨a, ⟨ha, hs⟩, hx⟩ | ⟨a, b, h, hs, hx⟩)
      · exact ⟨a, k, .inl ⟨ha, List.mem_cons_self ..⟩, hs, hx⟩
      · refine ⟨a, b, ?_, hs, hx⟩
        rcases h with ⟨h1, h2⟩ | h
        · rcases h1 with h1 | h1
          · exact .inl ⟨h1, List.mem_cons_of_mem _ h2⟩
          · simp at h1
            exact .inr (.inl ⟨h1, h2⟩)
        · exact .inr (.inr h)
    · rintro ⟨a, b, h, hs, hx⟩
      rcases h with ⟨h1, h2⟩ | h
      · rcases List.mem_cons.1 h2 with rfl | h2
        · exact .inl ⟨a, ⟨h1, hs⟩, hx⟩
        · exact .inr ⟨a, b, .inl ⟨.inl h1, h2⟩, hs, hx⟩
      · rcases h with ⟨rfl, h2⟩ | h
        · exact .inr ⟨a, b, .inl ⟨.inr (by simp), h2⟩, hs, hx⟩
        · exact .inr ⟨a, b, .inr h, hs, hx⟩
theorem mem_rK {x : F3} (kind : Int) (all : List Ex.Sg) : ∀ l, x ∈ rK kind all l ↔ (kind = 3 ∧ ∃ a ∈ l, alone all a = true ∧ x = (3, a.id, a.id)) ∨ ∃ a b, Bf a b l ∧ pairK kind a b = true ∧ x = (kind, a.id, b.id)
  | [] => by simp [rK, Bf]
  | c :: l => by
    simp only [rK, List.mem_append, mem_rK kind all l, rowK, selfK, List.mem_map, List.mem_filter]
    constructor
    · rintro ((h | ⟨b, ⟨hb, hp⟩, rfl⟩) | h)
      · split at h
        · rename_i hk
          simp only [Bool.and_eq_true, decide_eq_true_eq] at hk
          obtain ⟨rfl, ha⟩ := hk
          simp at h
          exact .inl ⟨rfl, c, List.mem_cons_self .., ha, h⟩
        · simp at h
      · exact .inr ⟨c, b, .inl ⟨rfl, hb⟩, hp, rfl⟩
      · rcases h with ⟨h3, a, ha, h1, h2⟩ | ⟨a, b, h1, h2, h3⟩
        · exact .inl ⟨h3, a, List.mem_cons_of_mem _ ha, h1, h2⟩
        · exact .inr ⟨a, b, .inr h1, h2, h3⟩
    · rintro (⟨rfl, a, ha, h1, h2⟩ | ⟨a, b, h1, h2, h3⟩)
      · rcases List.mem_cons.1 ha with rfl | ha
        · refine .inl (.inl ?_)
          simp [h1, h2]
        · exact .inr (.inl ⟨rfl, a, ha, h1, h2⟩)
      · rcases h1 with ⟨rfl, h1⟩ | h1
        · exact .inl (.inr ⟨b, ⟨h1, h2⟩, h3.symm⟩)
        · exact .inr (.inr ⟨a, b, h1, h2, h3⟩)
/-- Both lists have the same elements. -/
theorem mem_both (l : List Ex.Sg) (x : F3) : x ∈ progL l ↔ x ∈ refL l := by
  simp only [progL, refL, List.mem_append, mem_prP, mem_rK, lifP, List.mem_map, List.mem_filter, List.not_mem_nil, false_and, false_or, mem_fk]
  constructor
  · rintro (⟨a, b, h, hs, hx⟩ | ⟨a, ⟨ha, hl⟩, rfl⟩)
    · rcases hx with ⟨hc, rfl⟩ | ⟨hc, rfl⟩ | ⟨hc, rfl⟩
      · exact .inl (.inr ⟨a, b, h, by simp [pairK, hs, hc], rfl⟩)
      · exact .inr (.inl (.inr ⟨a, b, h, by simp [pairK, hs, hc], rfl⟩))
      · exact .inr (.inr (.inr (.inr ⟨a, b, h, by simp [pairK, hs, hc], rfl⟩)))
    · exact .inr (.inr (.inl (.inl ⟨trivial, a, ha, hl, rfl⟩)))
  · rintro ((⟨h, _⟩ | ⟨a, b, h, hp, rfl⟩) | (⟨h, _⟩ | ⟨a, b, h, hp, rfl⟩) | (⟨_, a, ha, hl, rfl⟩ | ⟨a, b, h, hp, rfl⟩) | (⟨h, _⟩ | ⟨a, b, h, hp, rfl⟩))
    · omega
    · simp only [pairK, Bool.and_eq_true, if_true] at hp
      exact .inl ⟨a, b, h, hp.1, .inl ⟨hp.2, rfl⟩⟩
    · omega
    · simp [pairK] at hp
      exact .inl ⟨a, b, h, hp.1, .inr (.inl ⟨hp.2, rfl⟩)⟩
    · exact .inr ⟨a, ⟨ha, hl⟩, rfl⟩
    · simp [pairK] at hp
    · omega
    · simp [pairK] at hp
      exact .inl ⟨a, b, h, hp.1, .inr (.inr ⟨hp.2, rfl⟩)⟩

abbrev Inc (l : List Ex.Sg) : Prop := l.Pairwise fun a b => a.id < b.id
theorem Bf_mem {a b : Ex.Sg} : ∀ {l : List Ex.Sg}, Bf a b l → a ∈ l ∧ b ∈ l
  | c :: l, h => by
    rcases h with ⟨rfl, h⟩ | h
    · exact ⟨List.mem_cons_self .., List.mem_cons_of_mem _ h⟩
    · exact ⟨List.mem_cons_of_mem _ (Bf_mem h).1, List.mem_cons_of_mem _ (Bf_mem h).2⟩
theorem rowK_srt (kind : Int) (a : Ex.Sg) {l : List Ex.Sg} (h : Inc l) : (rowK kind a l).Pairwise lt3 := by
  unfold rowK
  rw [List.pairwise_map]
  exact (h.filter _).imp fun {x y} hxy => .inr ⟨rfl, .inr ⟨rfl, hxy⟩⟩
theorem rK_srt (kind : Int) (all : List Ex.Sg) : ∀ {l : List Ex.Sg}, Inc l → (rK kind all l).Pairwise lt3
  | [], _ => List.Pairwise.nil
  | a :: l, h => by
    have h' := List.pairwise_cons.1 h
    simp only [rK]
    rw [List.pairwise_append, List.pairwise_append]
    refine ⟨⟨?_, rowK_srt kind a h'.2, ?_⟩, rK_srt kind all h'.2, ?_⟩
    · unfold selfK
      split <;> simp
    · intro x hx y hy
      unfold selfK at hx
      split at hx
      · simp at hx
        subst hx
        simp only [rowK, List.mem_map, List.mem_filter] at hy
        obtain ⟨b, ⟨hb, _⟩, rfl⟩ := hy
        exact .inr ⟨rfl, .inr ⟨rfl, h'.1 b hb⟩⟩
      · simp at hx
    · intro x hx y hy
      have hxa : x.1 = kind ∧ x.2.1 = a.id := by
        rcases List.mem_append.1 hx with hx | hx
        · unfold selfK at hx
          split at hx
          · simp at hx; subst hx; exact ⟨rfl, rfl⟩
          · simp at hx
        · simp only [rowK, List.mem_map, List.mem_filter] at hx
          obtain ⟨b, _, rfl⟩ := hx
          exact ⟨rfl, rfl⟩
      rcases (mem_rK kind all l).1 hy with ⟨rfl, c, hc, _, rfl⟩ | ⟨c, b, hb, _, rfl⟩
      · exact .inr ⟨hxa.1, .inl (by rw [hxa.2]; exact h'.1 c hc)⟩
      · exact .inr ⟨hxa.1, .inl (by rw [hxa.2]; exact h'.1 c (Bf_mem hb).1)⟩
theorem rK_kind {kind : Int} {all l : List Ex.Sg} {x : F3} (h : x ∈ rK kind all l) : x.1 = kind := by
  rcases (mem_rK kind all l).1 h with ⟨rfl, c, hc, _, rfl⟩ | ⟨c, b, hb, _, rfl⟩ <;> rfl
theorem refL_srt {l : List Ex.Sg} (h : Inc l) : (refL l).Pairwise lt3 := by
  have key : ∀ (k : Int) (m : List F3), m.Pairwise lt3 → (∀ y ∈ m, k < y.1) → (rK k l l ++ m).Pairwise lt3 := fun k m hm hy => by
    rw [List.pairwise_append]
    exact ⟨rK_srt k l h, hm, fun x hx y hy' => .inl (by rw [rK_kind hx]; exact hy y hy')⟩
  refine key 1 _ (key 2 _ (key 3 _ (rK_srt 4 l h) ?_) ?_) ?_
  · intro y hy; rw [rK_kind hy]; omega
  · intro y hy
    rcases List.mem_append.1 hy with hy | hy <;> rw [rK_kind hy] <;> omega
  · intro y hy
    rcases List.mem_append.1 hy with hy | hy
    · rw [rK_kind hy]; omega
    · rcases List.mem_append.1 hy with hy | hy <;> rw [rK_kind hy] <;> omega
theorem fk_srt (a b : Ex.Sg) : (fk a b).Pairwise ltB := by
  unfold fk one
  cases com a b <;> cases sup a b <;> cases tow a b <;> simp [ltB]
theorem fk_id {a b : Ex.Sg} {x : F3} (h : x ∈ fk a b) : x.2.1 = a.id ∧ x.2.2 = b.id ∧ x.1 ≠ 3 := by
  rcases mem_fk.1 h with ⟨_, rfl⟩ | ⟨_, rfl⟩ | ⟨_, rfl⟩ <;> exact ⟨rfl, rfl, by simp⟩
theorem flat_srt (k : Ex.Sg) : ∀ {l : List Ex.Sg}, Inc l → (l.flatMap fun a => fk a k).Pairwise ltB
  | [], _ => List.Pairwise.nil
  | a :: l, h => by
    have h' := List.pairwise_cons.1 h
    rw [List.flatMap_cons, List.pairwise_append]
    refine ⟨fk_srt a k, flat_srt k h'.2, fun x hx y hy => ?_⟩
    obtain ⟨b, hb, hy⟩ := List.mem_flatMap.1 hy
    have h1 := fk_id hx
    have h2 := fk_id hy
    have h3 := h'.1 b hb
    unfold ltB
    omega
theorem prP_srt : ∀ (l seen : List Ex.Sg), Inc (seen ++ l) → (prP seen l).Pairwise ltB
  | [], _, _ => List.Pairwise.nil
  | k :: l, seen, h => by
    have h0 := List.pairwise_append.1 h
    have h1 := List.pairwise_cons.1 h0.2.1
    have h2 : Inc ((seen ++ [k]) ++ l) := by simpa using h
    simp only [prP]
    rw [List.pairwise_append]
    refine ⟨flat_srt k (h0.1.filter _), prP_srt l (seen ++ [k]) h2, fun x hx y hy => ?_⟩
    obtain ⟨a, _, hx⟩ := List.mem_flatMap.1 hx
    obtain ⟨c, b, hcb, _, hy⟩ := (mem_prP l (seen ++ [k])).1 hy
    have e1 := fk_id hx
    have e2 := fk_id hy
    have hb : b ∈ l := by
      rcases hcb with ⟨_, hb⟩ | hb
      · exact hb
      · exact (Bf_mem hb).2
    have h3 := h1.1 b hb
    unfold ltB
    omega
theorem ltB_ne {x y : F3} (h : ltB x y) : x ≠ y := by rintro rfl; unfold ltB at h; omega
theorem progL_nodup {l : List Ex.Sg} (h : Inc l) : (progL l).Nodup := by
  unfold progL
  rw [List.nodup_append]
  refine ⟨(prP_srt l [] (by simpa using h)).imp ltB_ne, ?_, fun x hx y hy e => ?_⟩
  · unfold lifP
    unfold List.Nodup
    rw [List.pairwise_map]
    exact (h.filter _).imp fun {a b} hab e => by
      simp only [Prod.mk.injEq, true_and] at e
      omega
  · obtain ⟨a, b, _, _, hx⟩ := (mem_prP l []).1 hx
    obtain ⟨s, _, rfl⟩ := List.mem_map.1 hy
    have := fk_id hx
    rw [e] at this
    exact this.2.2 rfl
def le3 (x y : F3) : Prop := lt3 x y ∨ x = y
/-- The program's list, sorted, is the reference's. -/
theorem sorted_eq {l : List Ex.Sg} (h : Inc l) {S : List F3} (hp : S.Perm (progL l)) (hs : S.Pairwise le3) : S = refL l := by
  have hn : S.Nodup := hp.nodup_iff.2 (progL_nodup h)
  refine uniq ?_ (refL_srt h) (fun x => (hp.mem_iff).trans (mem_both l x))
  exact (List.pairwise_and_iff.2 ⟨hs, hn⟩).imp fun {x y} hxy => hxy.1.resolve_right hxy.2
end Ty
end Go.Proofs.YtggfeblfhabmkaaGreatDoor
