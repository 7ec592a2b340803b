/- Walks: package types: the list of faults in its box; add. -/
import Derived.Test.YtggfeblfhabmkaaGreatDoorTyC
import Derived.Test.YtggfeblfhabmkaaGreatDoorKito
import Derived.Test.YtggfeblfhabmkaaGreatDoorKit
import Derived.Maps.AppendAt
namespace Go.Proofs.YtggfeblfhabmkaaGreatDoor
set_option linter.unusedVariables false
set_option linter.unusedSimpArgs false
open Go.RowKit
attribute [local go_sem] Oper.semAt_some

theorem Ty.infoF : (Tryz.prog.info? 48).map (fun i => (i.zero, i.size, i.bytes)) = some (some (.agg #[.int .i64 0, .int .i64 0, .int .i64 0]), 3, 24) := by kernel_rfl
abbrev Ty.fs (x : Ty.F3) : List Value := [.int .i64 x.1, .int .i64 x.2.1, .int .i64 x.2.2]
def Ty.flatF (l : List Ty.F3) : List Value := l.flatMap Ty.fs
theorem Ty.flatF_snoc (l : List Ty.F3) (x : Ty.F3) : Ty.flatF (l ++ [x]) = Ty.flatF l ++ Ty.fs x := by simp [Ty.flatF]
/-- The list of faults lies in the box B, its row at s or above. -/
structure Ty.Got (s B : Nat) (l : List Ty.F3) (v : Value) (W : World) : Prop where
  box : Boxed W B 35 v
  own : W.ownsRow s 48 3 v l.length (Ty.flatF l)
theorem Ty.Got.keep {s B : Nat} {l : List Ty.F3} {v : Value} {A W : World} {S : Nat → Prop} (h : Ty.Got s B l v A) (hx : Kit.Exc S A W) (hB : ¬ S B) (hv : ∀ g, v.ownBlock = some g → ¬ S g) : Ty.Got s B l v W := by
  refine ⟨hx.boxed h.box hB, ?_⟩
  obtain ⟨hlen, hv'⟩ := h.own
  refine ⟨hlen, ?_⟩
  rcases hv' with h1 | ⟨g, cap, cur, rfl, hg, hh, r⟩
  · exact .inl h1
  · exact .inr ⟨g, cap, cur, rfl, hg, (hx.block g (Array.getElem?_eq_some_iff.1 hh).1 (hv g rfl)).trans hh, r⟩
/-- What a round of add has done. -/
def Ty.Add (s B : Nat) (l : List Ty.F3) (v : Value) (m : List Ty.F3) (W W' : World) : Prop :=
  ∃ v', Ty.Got s B (l ++ m) v' W' ∧ Kit.Exc (fun k => k = B ∨ v.ownBlock = some k) W W' ∧ (∀ k, v'.ownBlock = some k → v.ownBlock = some k ∨ W.heap.size ≤ k)

set_option maxRecDepth 100000 in
set_option maxHeartbeats 1000000 in
theorem ty_add (k : Int) (c : Bool) (a b : Ex.Sg) (s B Ba Bb : Nat) (l : List Ty.F3) (v : Value) (w : World) (hg : Ty.Got s B l v w) (ha : Ty.SgAt w Ba a) (hb : Ty.SgAt w Bb b) (hl : l.length ≤ 1000000000) (hs : s ≤ w.heap.size) :
    Calls Tryz.prog 16 #[.int .i64 k, .bool c, .pointer (some ⟨B, 0, none⟩), .pointer (some ⟨Ba, 0, none⟩), .pointer (some ⟨Bb, 0, none⟩)] w
      fun e w' => e = .returned (.tuple #[]) ∧ Ty.Add s B l v (Ty.one k a.id b.id c) w w' := by
  obtain ⟨a0, _, _⟩ := ha.cellAt
  obtain ⟨b0, _, _⟩ := hb.cellAt
  cases c
  · have HG := Lib.hid hg; clear hg
    go_enter Tryz.func16, Tryz.ntmps16
    go_wp2
    go_returns
    exact ⟨rfl, v, by simpa [Ty.one] using HG.out, Kit.Exc.refl _ _, fun k h => .inl h⟩
  · have v0 := hg.box.cell
    have vf := hg.box.frozen
    have HG := Lib.hid hg; clear hg ha hb
    obtain ⟨i0, hi, hz0, hz1, hz2⟩ := info_parts Ty.infoF
    have hcell : ∀ j u, (Ty.fs (k, a.id, b.id))[j]? = some u → (w.alloc (.cells #[.int .i64 k, .int .i64 a.id, .int .i64 b.id] 48)).cell? ((⟨w.heap.size, 0, none⟩ : Addr).add j) = some u := by
      intro j u hu
      rcases j with _ | _ | _ | j <;> simp [Ty.fs] at hu <;> subst hu <;> simp [Addr.add, go_sem]
    have HCELL := Lib.hid hcell; clear hcell
    go_enter Tryz.func16, Tryz.ntmps16
    go_wp2_with (at_builtin; refine Kit.wpList_append_own' _ rfl _ _ 35 rfl s 48 i0 (.agg #[.int .i64 0, .int .i64 0, .int .i64 0]) 3 24 Tryz.underlying35 hi hz0 hz1 hz2 rfl (by decide) v _ _ rfl (HG.out.own.alloc _) ⟨w.heap.size, 0, none⟩ 1 1 (Ty.fs (k, a.id, b.id)) rfl rfl HCELL.out (by simp [Value.oneCell']) (by unfold maxLen; omega) (by omega) (by simp; omega) ?_; intro v' w1 hown' hgrow _ hwhere; obtain ⟨g', cap', rfl⟩ := ownsRow_succ hown'; have hv1 := (HG.out.box.alloc _).kept hgrow (HG.out.box.not_row (by decide) HG.out.own); have hc1 := hv1.cell; have hf1 := hv1.frozen; have HV1 := Lib.hid hv1; have HGROW := Lib.hid hgrow; have HWH := Lib.hid hwhere; have HOWN := Lib.hid hown'; clear hv1 hgrow hwhere hown')
    go_returns
    have hv2 := HOWN.out.kept (grownBy_setCell' w1 B (.slice (some ⟨g', 0, none⟩) (l.length + 1) cap')) (.inr (HV1.out.not_row (by decide) HOWN.out).symm)
    refine ⟨rfl, .slice (some ⟨g', 0, none⟩) (l.length + 1) cap', ⟨HV1.out.set _, ?_⟩, ?_, fun j hj => ?_⟩
    · simpa [Ty.one, Ty.flatF_snoc] using hv2
    · exact (((Kit.Exc.refl _ w).alloc _).grown HGROW.out (fun k hk => .inl (.inr hk))).setCell (p := ⟨B, 0, none⟩) (.inl (.inl rfl)) _
    · rcases HWH.out j hj with h | h
      · exact .inl h
      · exact .inr (by simp at h; omega)
end Go.Proofs.YtggfeblfhabmkaaGreatDoor
