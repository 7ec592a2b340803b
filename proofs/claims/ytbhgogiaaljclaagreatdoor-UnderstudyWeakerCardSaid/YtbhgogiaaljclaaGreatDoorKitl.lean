/- Opening data: types made of integers; slices as lists. -/
import Derived.Test.YtbhgogiaaljclaaGreatDoorKitk
import Derived.Test.YtbhgogiaaljclaaGreatDoorTp
import Derived.Deep.Slices
namespace Go.Proofs.YtbhgogiaaljclaaGreatDoor.Kit
set_option linter.unusedVariables false
set_option linter.unusedSimpArgs false
open Go.ChangeShapes Go.WideShapes Go.ChangeAt Go.RowKit Go.Joins Go.Deep
variable {H : Type} {enc : TypeId × Value → H} {P : Program} {w : World} {base : Nat} {spare : Nat → Bool} {held : Bool} {fuel : Nat} {t : TypeId} {cs : List Value} {x : DataW H × List MemPlace}

/-- Is a type made of integers alone? -/
def flat (P : Program) : Nat → TypeId → Bool
  | 0, _ => false
  | n + 1, t => match P.underlying t with
    | some (.int k) => decide (k = .i64) && decide (P.cellsOf t = 1)
    | some (.struct fs) => fs.toList.all (fun f => flat P n f.type) && (List.range (P.cellsOf t)).all fun j => fs.toList.any fun f => decide (f.offset ≤ j) && decide (j < f.offset + P.cellsOf f.type)
    | some (.array m e) => flat P n e && decide (P.cellsOf t = m * P.cellsOf e)
    | _ => false
theorem flat_at : ∀ (n : Nat) {fuel : Nat} {t : TypeId} {cs : List Value} {x : DataW H × List MemPlace}, flat P n t = true → DataW.trod enc P w base spare held fuel t cs = some x →
    cs.length = P.cellsOf t ∧ ∀ j, j < P.cellsOf t → ∃ z : Int, cs[j]? = some (.int .i64 z) ∧ (Lit.int .i64 z).wf = true
  | 0, _, _, _, _, h, _ => by simp [flat] at h
  | n + 1, fuel, t, cs, x, h, hd => by
    unfold flat at h
    split at h
    · rename_i k ht
      simp only [Bool.and_eq_true, decide_eq_true_eq] at h
      obtain ⟨rfl, hc⟩ := h
      obtain ⟨z, rfl, _, hw⟩ := DataW.trod_int ht hd
      refine ⟨by simp [hc], fun j hj => ⟨z, ?_, hw⟩⟩
      obtain rfl : j = 0 := by omega
      rfl
    · rename_i fs ht
      simp only [Bool.and_eq_true, List.all_eq_true, List.any_eq_true, decide_eq_true_eq, List.mem_range] at h
      obtain ⟨_, _, _, hc, hf⟩ := sub_trod ht hd
      refine ⟨hc, fun j hj => ?_⟩
      obtain ⟨f, hfm, h1, h2⟩ := h.2 j hj
      obtain ⟨i, hi⟩ := List.getElem?_of_mem hfm
      obtain ⟨m, y, hy, _⟩ := hf i f (by simpa using hi)
      obtain ⟨_, hz⟩ := flat_at n (h.1 f hfm) hy
      obtain ⟨z, e, hw⟩ := hz (j - f.offset) (by omega)
      refine ⟨z, ?_, hw⟩
      rw [List.getElem?_take_of_lt (by omega), List.getElem?_drop, show f.offset + (j - f.offset) = j by omega] at e
      exact e
    · rename_i m e ht
      simp only [Bool.and_eq_true, decide_eq_true_eq] at h
      obtain ⟨_, _, _, hc, hf⟩ := arr_trod ht hd
      refine ⟨hc, fun j hj => ?_⟩
      have hpos : 0 < P.cellsOf e := by
        rcases Nat.eq_zero_or_pos (P.cellsOf e) with h0 | h0
        · rw [h.2, h0] at hj; omega
        · exact h0
      have hdm := Nat.div_add_mod j (P.cellsOf e)
      have hml := Nat.mod_lt j hpos
      have hi : j / P.cellsOf e < m := Nat.div_lt_of_lt_mul (by rw [Nat.mul_comm, ← h.2]; exact hj)
      obtain ⟨q, y, hy, _⟩ := hf _ hi
      obtain ⟨_, hz⟩ := flat_at n h.1 hy
      obtain ⟨z, e2, hw⟩ := hz (j % P.cellsOf e) hml
      refine ⟨z, ?_, hw⟩
      rw [List.getElem?_take_of_lt hml, List.getElem?_drop] at e2
      rw [Nat.mul_comm] at hdm
      rwa [hdm] at e2
    · simp at h
/-- .. as a list of integers. -/
theorem flat_ints {n : Nat} (h : flat P n t = true) (hd : DataW.trod enc P w base spare held fuel t cs = some x) :
    ∃ zs : List Int, zs.length = P.cellsOf t ∧ cs = zs.map (.int .i64) ∧ ∀ z ∈ zs, (Lit.int .i64 z).wf = true := by
  obtain ⟨hl, hc⟩ := flat_at n h hd
  rw [← hl] at hc
  clear hd h
  suffices hk : ∀ l : List Value, (∀ j, j < l.length → ∃ z : Int, l[j]? = some (.int .i64 z) ∧ (Lit.int .i64 z).wf = true) → ∃ zs : List Int, l = zs.map (.int .i64) ∧ ∀ z ∈ zs, (Lit.int .i64 z).wf = true by
    obtain ⟨zs, rfl, hw⟩ := hk cs hc
    exact ⟨zs, by rw [← hl]; simp, rfl, hw⟩
  intro l
  induction l with
  | nil => exact fun _ => ⟨[], rfl, fun _ h => by cases h⟩
  | cons a l ih =>
    intro h
    obtain ⟨z, e, hw⟩ := h 0 (by simp)
    obtain ⟨zs, rfl, hws⟩ := ih (fun j hj => by have := h (j + 1) (by simpa using hj); simpa using this)
    refine ⟨z :: zs, ?_, fun y hy => ?_⟩
    · have : a = .int .i64 z := by simpa using e
      rw [this]; rfl
    · rcases List.mem_cons.1 hy with rfl | hy
      · exact hw
      · exact hws y hy

theorem sl_congr {a : Option Addr} {n k : Nat} {f g : Nat → Nat → Value} (h : ∀ i j, i < n → j < k → f i j = g i j) (hs : Tp.Sl w a n k f) : Tp.Sl w a n k g := by
  rcases hs with h0 | ⟨ad, h1, h2, h3⟩
  · exact .inl h0
  · exact .inr ⟨ad, h1, h2, fun i j hi hj => by rw [h3 i j hi hj, h i j hi hj]⟩

/-- A slice as a list of what its elements are. -/
theorem slice_list {α : Type} (dflt : α) {e : TypeId} (ht : P.underlying t = some (.slice e)) {k : Nat} (hk : P.cellsOf e = k) (hk0 : 0 < k) (hB : 0 < P.bytesOf e) (F : α → List Value)
    (hF : ∀ (n : Nat) (cs : List Value) (y : DataW H × List MemPlace), DataW.trod enc P w base spare held n e cs = some y → ∃ a, cs = F a)
    (h : DataW.trod enc P w base spare held fuel t cs = some x) (hw : ∀ m ∈ x.1.weights P t, m ≤ reachBytes) :
    ∃ (ad : Option Addr) (l : List α) (cap : Nat), cs = [.slice ad l.length cap] ∧ l.length ≤ cap ∧ Tp.Sl w ad l.length k (fun i j => (F (l.getD i dflt)).getD j (.bool false)) ∧ l.length ≤ 4611686018427387904 := by
  haveI : Inhabited α := ⟨dflt⟩
  rcases open_slice ht h with ⟨rfl, rfl⟩ | ⟨a, len, cap, m, n, D, Pl, rfl, _, hl, hm, hmm, rfl, hx⟩
  · exact ⟨none, [], 0, rfl, Nat.le_refl _, .inl rfl, by simp⟩
  · have hlm : len ≤ m := by rw [hmm]; split <;> omega
    have hbound : len ≤ 4611686018427387904 := by
      have h1 := hw _ (by rw [DataW.weights]; simp only [ht]; exact List.mem_cons_self ..)
      simp only [List.length_map, List.length_range] at h1
      have h2 : len ≤ reachBytes := Nat.le_trans (Nat.le_trans (by omega) (Nat.le_mul_of_pos_right _ hB)) h1
      exact Nat.le_trans h2 (by decide)
    obtain ⟨A, hA⟩ := choose_lt (α := α) (p := fun i v => w.cells? base (a.add (i * P.cellsOf e)) (P.cellsOf e) = some (F v)) (fun i hi => by
      obtain ⟨cs', h1, h2⟩ := hx i hi
      obtain ⟨v, rfl⟩ := hF _ _ _ h2
      exact ⟨v, h1⟩)
    refine ⟨some a, (List.range len).map A, cap, by simp, by simpa using hl, ?_, by simpa using hbound⟩
    rw [List.length_map, List.length_range]
    rcases Nat.eq_zero_or_pos len with h0 | h0
    · exact .inl h0
    have cell : ∀ i j, i < len → j < k → w.cell? (a.add (i * k + j)) = some ((F (((List.range len).map A).getD i dflt)).getD j (.bool false)) := by
      intro i j hi hj
      obtain ⟨_, hlen, hget⟩ := World.cells?_some (hA i (by omega))
      rw [hk] at hlen hget
      have hg := hget j hj
      have hadd : (a.add (i * k)).add j = a.add (i * k + j) := by
        rcases Nat.eq_zero_or_pos j with hj0 | hj0
        · subst hj0; simp [Addr.add]
        · rw [Tp.add_pos _ _ _ (by omega)]
          rw [Addr.add, if_neg (by omega)]
      rw [hadd] at hg
      rw [hg]
      simp [List.getD, hi, hj, hlen]
    refine .inr ⟨a, rfl, ?_, cell⟩
    have hc := cell 0 0 h0 hk0
    have : (a.add (0 * k + 0)).block = a.block := Tp.add_block _ _
    unfold World.cell? at hc
    rw [this] at hc
    rcases Nat.lt_or_ge a.block w.heap.size with hlt | hge
    · exact hlt
    · rw [Array.getElem?_eq_none hge] at hc
      simp at hc

/-- The weights of a part are weights of the whole. -/
theorem weightsEach_at : ∀ {ts : List TypeId} {ds : List (DataW H)} {i : Nat} {u : TypeId} {d : DataW H}, ts[i]? = some u → ds[i]? = some d → ∀ m ∈ d.weights P u, m ∈ DataW.weightsEach P ts ds
  | [], _, _, _, _, h, _ => by simp at h
  | _ :: _, [], _, _, _, _, h => by simp at h
  | t :: ts, d :: ds, 0, u, d', h1, h2 => by
    simp only [List.getElem?_cons_zero, Option.some.injEq] at h1 h2
    subst h1 h2
    intro m hm
    rw [DataW.weightsEach]
    exact List.mem_append_left _ hm
  | t :: ts, d :: ds, i + 1, u, d', h1, h2 => by
    intro m hm
    rw [DataW.weightsEach]
    exact List.mem_append_right _ (weightsEach_at (ts := ts) (ds := ds) (by simpa using h1) (by simpa using h2) m hm)
theorem weights_part {fs : Array Field} (ht : P.underlying t = some (.struct fs)) {ds : List (DataW H)} {N : Nat} (h : ∀ m ∈ (DataW.agg ds).weights P t, m ≤ N) {i : Nat} {f : Field} (hf : fs[i]? = some f) {d : DataW H} (hd : ds[i]? = some d) :
    ∀ m ∈ d.weights P f.type, m ≤ N := fun m hm => h m (by
  rw [DataW.weights]
  simp only [ht]
  exact weightsEach_at (ts := fs.toList.map (·.type)) (i := i) (by simp [hf]) hd m hm)
end Go.Proofs.YtbhgogiaaljclaaGreatDoor.Kit
