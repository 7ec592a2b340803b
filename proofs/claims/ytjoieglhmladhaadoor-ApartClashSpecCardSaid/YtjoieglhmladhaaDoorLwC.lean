/- Walks: the laws of layer 29: the calls of sane. -/
import Derived.Test.YtjoieglhmladhaaDoorLwA
namespace Go.Proofs.YtjoieglhmladhaaDoor
set_option linter.unusedVariables false
set_option linter.unusedSimpArgs false
open Go.RowKit Go.Shelf
namespace Lw
def gW : Ap.Wg := ⟨0, 841, 0, 841, 2, 3, 100, 0⟩
def bx1 : List Ap.Bx := [(0, 841, 0, 841), (4000, 4841, 0, 841), (841, 1682, 841, 1682)]
def bx2 : List Ap.Bx := [(0, 841, 0, 841), (8000, 8841, 0, 841), (2000, 2841, 0, 841)]
def wg1 : List Ap.Wg := [⟨5000, 5841, 0, 841, 0, 0, 0, 0⟩]
def wg2 : List Ap.Wg := [⟨5000, 5841, 0, 841, 0, 0, 0, 0⟩, ⟨0, 841, 1000, 1841, 0, 0, 0, 0⟩]
/-- The cells of a block. -/
def Cs (w : World) (b : Nat) (l : List Value) : Prop := b < w.heap.size ∧ ∀ j v, l[j]? = some v → w.cell? ⟨b, j, none⟩ = some v
theorem Cs.kept {w w' : World} {b : Nat} {l : List Value} (h : Cs w b l) {B : Nat} (hb : Below B w w') (hB : w.heap.size ≤ B) : Cs w' b l :=
  ⟨Nat.lt_of_lt_of_le h.1 hb.size, fun j v hv => (hb.cell (p := ⟨b, j, none⟩) (Nat.lt_of_lt_of_le h.1 hB)).trans (h.2 j v hv)⟩
theorem Cs.new {w : World} {b : Nat} {l : List Value} {t : TypeId} {p : Nat × Nat} (h : w.heap[b]? = some (.cells l.toArray t p)) : Cs w b l :=
  ⟨(Array.getElem?_eq_some_iff.1 h).1, fun j v hv => by simp [World.cell?, h, hv]⟩
theorem addr0 (b m : Nat) : (⟨b, 0, none⟩ : Addr).add m = ⟨b, m, none⟩ := by simp [Addr.add]; exact fun h => h.symm
/-- A block as a slice. -/
theorem cs_sl {w : World} {b : Nat} {l : List Value} {n k : Nat} {f : Nat → Nat → Value} (h : Cs w b l) (hf : ∀ i j, i < n → j < k → l[i * k + j]? = some (f i j)) : Tp.Sl w (some ⟨b, 0, none⟩) n k f := by
  refine .inr ⟨_, rfl, h.1, fun i j hi hj => ?_⟩
  rw [addr0]
  exact h.2 _ _ (hf i j hi hj)
/-- A row just made, as a slice. -/
theorem new_sl {w : World} {l : List Value} {t : TypeId} {n k : Nat} {f : Nat → Nat → Value} (hf : ∀ i j, i < n → j < k → l[i * k + j]? = some (f i j)) : Tp.Sl (w.alloc (.cells l.toArray t)) (some ⟨w.heap.size, 0, none⟩) n k f :=
  cs_sl (Cs.new (p := (0, 0)) (World.alloc_heap_new w (.cells l.toArray t))) hf
theorem new_sl2 {w : World} {o : Obj} {l : List Value} {t : TypeId} {n k : Nat} {f : Nat → Nat → Value} (hf : ∀ i j, i < n → j < k → l[i * k + j]? = some (f i j)) : Tp.Sl ((w.alloc o).alloc (.cells l.toArray t)) (some ⟨w.heap.size + 1, 0, none⟩) n k f := by
  have h := new_sl (w := w.alloc o) (t := t) hf
  rwa [World.size_alloc] at h
end Lw

theorem lw_pairs (p : Ex.Wa) (w : World) (ha : Ex.At w Lw.wk p) (hl : Ex.Laid w) : Calls Tryd.prog 15 #[Ex.workV Lw.wk p, .int .i64 0] w fun e w' =>
    ∃ ad c, e = .returned (.tuple #[.slice ad 2 c, .int .i64 0]) ∧ Tp.Sl w' ad 2 2 (Ap.prc [(0, 2), (1, 2)]) ∧ Below w.heap.size w w' := by
  have h := ap_pairs Lw.wk p 0 w ha hl
  unfold Ap.Pairs at h
  simp only [show Ap.chk Lw.wk 0 = 0 by decide +kernel, if_true, show Ap.prs Lw.wk 0 = [(0, 2), (1, 2)] by decide +kernel] at h
  refine h.mono ?_
  rintro e w' ⟨v, rfl, ho, hb⟩
  obtain ⟨ad, c, rfl, hs, _⟩ := Ap.row_sl ho
  exact ⟨ad, c, rfl, hs, hb⟩

theorem lw_groups (p : Ex.Wa) (bar : Int) (l : List Int) (w : World) (ha : Ex.At w Lw.wk p) (hl : Ex.Laid w) (h0 : Ap.chk Lw.wk bar = 0) (hg : ∀ j, j < 3 → Ap.grp (Ap.prs Lw.wk bar) j = l.getD j 0) : Calls Tryd.prog 17 #[Ex.workV Lw.wk p, .int .i64 bar] w fun e w' =>
    ∃ ad c, e = .returned (.tuple #[.slice ad 3 c, .int .i64 0]) ∧ Tp.Sl w' ad 3 1 (Rf.intc l) ∧ Below w.heap.size w w' := by
  have h := ap_groups Lw.wk p bar w ha hl
  unfold Ap.Groups at h
  simp only [h0, if_true] at h
  refine h.mono ?_
  rintro e w' ⟨g, cap, rfl, _, hg1, hc, hb⟩
  refine ⟨_, _, rfl, .inr ⟨_, rfl, hg1, fun i j hi hj => ?_⟩, hb⟩
  obtain rfl : j = 0 := by omega
  rw [Lw.addr0, show i * 1 + 0 = i by omega, hc i hi, hg i hi]
  rfl

theorem lw_clash (L : List Ap.C3) (p : Ex.Wa) (aW : Option Addr) (gs : List Ap.Wg) (cW : Nat) (bar : Int) (aM : Option Addr) (mv : List Ap.Bx) (cM : Nat) (aH : Option Addr) (hd : List Ap.Bx) (cH : Nat) (aQ : Option Addr) (P : List (Int × Int)) (cQ : Nat) (w : World)
    (hE : Ap.clE Lw.wk gs bar mv hd P = 0) (hL : Ap.cls Lw.wk gs bar mv hd P = L) (h1 : decide (gs.length ≤ 4 ∧ mv.length ≤ 4 ∧ hd.length ≤ 4 ∧ P.length ≤ 4) = true)
    (ha : Ex.At w Lw.wk p) (hl : Ex.Laid w) (sW : Tp.Sl w aW gs.length 8 (Ap.wgc gs)) (sM : Tp.Sl w aM mv.length 4 (Ap.bxc mv)) (sH : Tp.Sl w aH hd.length 4 (Ap.bxc hd)) (sQ : Tp.Sl w aQ P.length 2 (Ap.prc P)) :
    Calls Tryd.prog 21 #[Ex.workV Lw.wk p, .agg #[.slice aW gs.length cW], .int .i64 bar, .slice aM mv.length cM, .slice aH hd.length cH, .slice aQ P.length cQ] w fun e w' =>
      ∃ ad c, e = .returned (.tuple #[.slice ad L.length c, .int .i64 0]) ∧ Tp.Sl w' ad L.length 3 (Ap.c3c L) ∧ Below w.heap.size w w' := by
  have hh := of_decide_eq_true h1
  have h := ap_clash Lw.wk p aW gs cW bar aM mv cM aH hd cH aQ P cQ w ha hl sW sM sH sQ (by omega) (by omega) (by omega) (by omega)
  rw [hE, hL] at h
  refine h.mono ?_
  intro e w' hh
  unfold Ap.CPost at hh
  rw [if_pos rfl] at hh
  obtain ⟨v, rfl, ho, hb⟩ := hh
  obtain ⟨ad, c, rfl, hs, _⟩ := Ap.own_sl (f := Ap.c3c L) ho (fun i j hi hj => Ap.flC_at L i j hi hj)
  exact ⟨ad, c, rfl, hs, hb⟩
theorem lw_clash_e (p : Ex.Wa) (aM : Option Addr) (mv : List Ap.Bx) (cM : Nat) (aH : Option Addr) (hd : List Ap.Bx) (cH : Nat) (aQ : Option Addr) (P : List (Int × Int)) (cQ : Nat) (w : World)
    (hE : Ap.clE Lw.wk [] 0 mv hd P = 290) (h1 : decide (mv.length ≤ 4 ∧ hd.length ≤ 4 ∧ P.length ≤ 4) = true)
    (ha : Ex.At w Lw.wk p) (hl : Ex.Laid w) (sM : Tp.Sl w aM mv.length 4 (Ap.bxc mv)) (sH : Tp.Sl w aH hd.length 4 (Ap.bxc hd)) (sQ : Tp.Sl w aQ P.length 2 (Ap.prc P)) :
    Calls Tryd.prog 21 #[Ex.workV Lw.wk p, .agg #[.slice none 0 0], .int .i64 0, .slice aM mv.length cM, .slice aH hd.length cH, .slice aQ P.length cQ] w fun e w' =>
      e = .returned (.tuple #[.slice none 0 0, .int .i64 290]) ∧ Below w.heap.size w w' := by
  have hh := of_decide_eq_true h1
  have h := ap_clash Lw.wk p none [] 0 0 aM mv cM aH hd cH aQ P cQ w ha hl (.inl rfl) sM sH sQ (by simp) (by omega) (by omega) (by omega)
  rw [hE] at h
  refine h.mono ?_
  intro e w' hh
  unfold Ap.CPost at hh
  rw [if_neg (by decide)] at hh
  exact hh
end Go.Proofs.YtjoieglhmladhaaDoor
