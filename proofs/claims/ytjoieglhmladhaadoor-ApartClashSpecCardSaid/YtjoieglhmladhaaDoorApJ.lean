/- Walks: package apart: least (the closure of Groups that calls itself). -/
import Derived.Test.YtjoieglhmladhaaDoorApI
namespace Go.Proofs.YtjoieglhmladhaaDoor
set_option linter.unusedVariables false
set_option linter.unusedSimpArgs false
open Go.RowKit Go.Shelf

/-- What the closure, and each region of it, may do to the world. -/
def Ap.LE (B4 B8 Bg R cap : Nat) (A B : World) : Prop :=
  Kit.Exc (fun k => k = Bg) A B ∧ ∀ G, (∀ j, j < R → G j ≤ j) → Ap.LAt B4 B8 Bg R cap A G → ∃ G', Ap.LAt B4 B8 Bg R cap B G' ∧ Ap.Cmp R G G'
theorem Ap.LE.refl (B4 B8 Bg R cap : Nat) (A : World) : Ap.LE B4 B8 Bg R cap A A := ⟨Kit.Exc.refl _ _, fun G _ h => ⟨G, h, Ap.Cmp.refl _ _⟩⟩
theorem Ap.LE.trans {B4 B8 Bg R cap : Nat} {A B C : World} (h : Ap.LE B4 B8 Bg R cap A B) (k : Ap.LE B4 B8 Bg R cap B C) : Ap.LE B4 B8 Bg R cap A C :=
  ⟨h.1.trans k.1, fun G hG hA => by
    obtain ⟨G1, h1, c1⟩ := h.2 G hG hA
    obtain ⟨G2, h2, c2⟩ := k.2 G1 (c1.le hG) h1
    exact ⟨G2, h2, c1.trans c2⟩⟩
theorem Ap.LAt.uniq {B4 B8 Bg R cap : Nat} {w : World} {G G' : Nat → Nat} (h : Ap.LAt B4 B8 Bg R cap w G) (h' : Ap.LAt B4 B8 Bg R cap w G') : Ap.Cmp R G G' := by
  intro j hj
  have := (h.cell j hj).symm.trans (h'.cell j hj)
  simp at this
  exact .inl (by omega)
def Ap.Least (B4 B8 Bg R cap i : Nat) (G : Nat → Nat) (w : World) : Prop :=
  Calls Tryd.prog 47 #[.int .i64 i, .pointer (some ⟨B4, 0, none⟩), .pointer (some ⟨B8, 0, none⟩)] w fun e w' => e = .returned (.int .i64 (Ap.rt G i)) ∧ ∃ G', Ap.LAt B4 B8 Bg R cap w' G' ∧ Ap.Cmp R G G' ∧ G' i = Ap.rt G i ∧ Kit.Exc (fun k => k = Bg) w w'

set_option maxRecDepth 100000 in
set_option maxHeartbeats 1000000 in
theorem ap_least_1 (B4 B8 Bg R cap i : Nat) (hi : i < R) (hR : R ≤ 64) (G : Nat → Nat) (w : World) (h : Ap.LAt B4 B8 Bg R cap w G) (hG : G i = i) : Ap.Least B4 B8 Bg R cap i G w := by
  unfold Ap.Least
  have c4 := h.slice
  have ci := h.cell i hi
  rw [hG] at ci
  have H := Lib.hid h; clear h
  have hrt := Lib.hid (Ap.rt_ge (G := G) (i := i) (by omega))
  have hg := Lib.hid hG; clear hG
  go_enter Tryd.func47, Tryd.ntmps47
  go_wp2
  go_ret
  exact ⟨by rw [hrt.out]; rfl, G, H.out, Ap.Cmp.refl _ _, by rw [hrt.out]; exact hg.out, Kit.Exc.refl _ _⟩

set_option maxRecDepth 100000 in
set_option maxHeartbeats 2000000 in
theorem ap_least_2 (B4 B8 Bg R cap i : Nat) (hi : i < R) (hR : R ≤ 64) (n4 : B4 ≠ Bg) (n8 : B8 ≠ Bg) (G : Nat → Nat) (w : World) (h : Ap.LAt B4 B8 Bg R cap w G) (hle : ∀ j, j < R → G j ≤ j) (hG : G i < i)
    (ih : ∀ k, k < i → ∀ G w, Ap.LAt B4 B8 Bg R cap w G → (∀ j, j < R → G j ≤ j) → Ap.Least B4 B8 Bg R cap k G w) : Ap.Least B4 B8 Bg R cap i G w := by
  unfold Ap.Least
  have c4 := h.slice
  have ci := h.cell i hi
  have H := Lib.hid h; clear h
  have hne : ((G i : Int) != (i : Int)) = true := by simp; omega
  have hg := Lib.hid hG; clear hG
  have HLE := Lib.hid hle; clear hle
  have IH := Lib.hid ih; clear ih
  go_enter Tryd.func47, Tryd.ntmps47
  ((go_wp2_with (refine Kit.veil ?_; intro X HX)); rw [HX.out]; clear HX)
  refine Kit.wp_region_vals 9 [([(1, none)], none, true), ([(0, none)], none, true), ([(2, none)], none, true), ([(1, none)], none, true), ([(0, none)], none, true), ([(14, some 3), (15, some 4)], none, true), ([(16, some 5)], none, true), ([(13, some 2), (17, some 6)], none, true), ([(11, some 0), (12, some 1)], none, true)]
    [some 11, some 12, some 13, some 14, some 15, some 16, some 17, some 18, some 19] rfl (by kernel_rfl) (by kernel_rfl) (Ap.LE B4 B8 Bg R cap) (fun i' v w' => match i' with
    | 0 => v = .slice (some ⟨Bg, 0, none⟩) R cap
    | 1 => v = .int .i64 i
    | 2 => v = .func (.func 47) #[] #[.pointer (some ⟨B4, 0, none⟩), .pointer (some ⟨B8, 0, none⟩)]
    | 3 => v = .slice (some ⟨Bg, 0, none⟩) R cap
    | 4 => v = .int .i64 i
    | 5 => v = .pointer (some ⟨Bg, i, none⟩)
    | 6 => ∃ k : Nat, v = .int .i64 k ∧ k < i ∧ Ap.rt G k = Ap.rt G i
    | 7 => v = .int .i64 (Ap.rt G i)
    | _ => v = .pointer (some ⟨Bg, i, none⟩))
    (fun h k => h.trans k) ⟨(Kit.Exc.refl _ _).drew, fun G hG hA => ⟨G, hA.drawn rfl (fun _ => rfl), Ap.Cmp.refl _ _⟩⟩ (fun _ => Ap.LE.refl _ _ _ _ _ _) ?_ ?_ ?_
  · intro i' v A B h1 h2 h3
    split at h3 <;> exact h3
  · simp only [List.take_succ_cons, List.take_zero, Kit.StepsV, Kit.VOp, Kit.RdP, true_and, if_true, and_true]
    refine ⟨?_, ?_, ?_, ?_, ?_, ?_, ?_, ?_, ?_⟩
    all_goals intro ev w1 hx hv hc hf hg'
    all_goals obtain ⟨G1, L1, C1⟩ := hx.2 G HLE.out H.out
    all_goals (have s1 := L1.slice; have s2 := L1.fn)
    · simp at hv; simp [execOp, hv, go_sem, Kit.UponV, Ap.LE.refl, s1]
    · simp at hv; simp [execOp, hv, go_sem, Kit.UponV, Ap.LE.refl]
    · simp at hv; simp [execOp, hv, go_sem, Kit.UponV, Ap.LE.refl, s2]
    · simp at hv; simp [execOp, hv, go_sem, Kit.UponV, Ap.LE.refl, s1]
    · simp at hv; simp [execOp, hv, go_sem, Kit.UponV, Ap.LE.refl]
    · simp [execOp, hv, hc, go_sem, Kit.UponV, Ap.LE.refl, hi]
    · have ci1 := L1.cell i hi
      simp [execOp, hv, hc, go_sem, Kit.UponV, Ap.LE.refl, ci1]
      have g1 := hg.out
      have g2 := Ap.rt_lt g1
      have g3 := Ap.rt_le G (G i)
      rcases C1 i hi with e | e
      · exact ⟨G i, by rw [e], g1, g2.symm⟩
      · exact ⟨Ap.rt G i, by rw [e], by omega, Ap.rt_idem _ _⟩
    · obtain ⟨hv1, k, hv2, hk, hrk⟩ := hv
      simp [execOp, hv1, hv2, go_sem, Kit.UponV]
      refine (IH.out k hk G1 w1 L1 (C1.le HLE.out)).mono ?_
      rintro e w' ⟨rfl, G', L', C', _, hE⟩
      refine ⟨_, rfl, by rw [C1.rt k (by omega), hrk], hE, fun G0 h0 L0 => ⟨G', L', (L0.uniq L1).trans C'⟩⟩
    · simp [execOp, hv, hc, go_sem, Kit.UponV, Ap.LE.refl, hi]
  · intro vs w1 hv hx
    have v0 : vs 0 = _ := hv 0 (by omega)
    have v1 : vs 1 = _ := hv 1 (by omega)
    have v2 : vs 2 = _ := hv 2 (by omega)
    have v3 : vs 3 = _ := hv 3 (by omega)
    have v4 : vs 4 = _ := hv 4 (by omega)
    have v5 : vs 5 = _ := hv 5 (by omega)
    obtain ⟨k, v6, hk, hrk⟩ := hv 6 (by omega)
    have v7 : vs 7 = _ := hv 7 (by omega)
    have v8 : vs 8 = _ := hv 8 (by omega)
    clear hv
    simp only [Kit.putD, List.getD_cons_zero, List.getD_cons_succ, Act.put, v0, v1, v2, v3, v4, v5, v6, v7, v8, List.drop_succ_cons, List.drop_zero]
    go_simp
    obtain ⟨G1, L1, C1⟩ := hx.2 G HLE.out H.out
    have ci1 := L1.cell i hi
    have fi1 := L1.free i hi
    have s1 := L1.slice
    have HX := Lib.hid hx
    have HL1 := Lib.hid L1
    have HC1 := Lib.hid C1
    clear hx L1 C1 c4 ci
    go_wp2
    go_ret
    exact ⟨rfl, _, HL1.out.set n4 n8 i _ hi, HC1.out.set i, by simp, HX.out.1.setCell (.inl rfl) _⟩

theorem ap_least (B4 B8 Bg R cap : Nat) (hR : R ≤ 64) (n4 : B4 ≠ Bg) (n8 : B8 ≠ Bg) (i : Nat) : i < R → ∀ (G : Nat → Nat) (w : World), Ap.LAt B4 B8 Bg R cap w G → (∀ j, j < R → G j ≤ j) → Ap.Least B4 B8 Bg R cap i G w := by
  induction i using Nat.strongRecOn with
  | ind i ih =>
    intro hi G w h hle
    by_cases hG : G i < i
    · exact ap_least_2 B4 B8 Bg R cap i hi hR n4 n8 G w h hle hG (fun k hk G w h hle => ih k hk (by omega) G w h hle)
    · exact ap_least_1 B4 B8 Bg R cap i hi hR G w h (by have := hle i hi; omega)
end Go.Proofs.YtjoieglhmladhaaDoor
