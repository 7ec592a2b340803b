/- Walks: package apart: the search for a box that is not valid (slices.ContainsFunc over Clashes' first closure). -/
import Derived.Test.YtjoieglhmladhaaDoorApF
namespace Go.Proofs.YtjoieglhmladhaaDoor
set_option linter.unusedVariables false
set_option linter.unusedSimpArgs false
open Go.RowKit Go.Shelf

namespace Ap
abbrev Bx := Int × Int × Int × Int
def okB (x : Bx) : Bool := Sp.okBox x.1 x.2.1 x.2.2.1 x.2.2.2
def bxc (l : List Bx) (i j : Nat) : Value := .int .i64 (match j with | 0 => (l.getD i (0, 0, 0, 0)).1 | 1 => (l.getD i (0, 0, 0, 0)).2.1 | 2 => (l.getD i (0, 0, 0, 0)).2.2.1 | _ => (l.getD i (0, 0, 0, 0)).2.2.2)
/-- Where the first box is that is not valid. -/
def ixB : Nat → List Bx → Int
  | _, [] => -1
  | k, x :: l => if okB x = true then ixB (k + 1) l else k
theorem ixB_any : ∀ (l : List Bx) (k : Nat), decide (0 ≤ ixB k l) = l.any (fun x => !okB x)
  | [], _ => rfl
  | x :: l, k => by
    unfold ixB
    rcases h : okB x with _ | _
    · simp [h]
    · rw [if_pos rfl, ixB_any l (k + 1)]; simp [h]
end Ap

set_option maxHeartbeats 1000000 in
theorem ap_wrong (a b c d : Int) (w : World) : Calls Tryd.prog 50 #[Sp.boxV a b c d] w fun e w' => e = .returned (.bool (!Sp.okBox a b c d)) ∧ Below w.heap.size w w' := by
  go_enter Tryd.func50, Tryd.ntmps50
  skip
  (go_wp2_with (fail); refine (ap_valid a b c d _).mono ?_; rintro e w1_ ⟨rfl, hb1_⟩; have hp1_ : Below w.heap.size w w1_ := Below.trans (by (repeat' first | (with_reducible first | exact Below.refl _ _ | assumption | refine Kit.below_drewN ?_ _ | refine Below.drew ?_ | refine Below.alloc ?_ ?_ _ | refine Below.setCell ?_ ?_ _ | exact Nat.le_refl _) | omega | (simp; omega) | (simp; done) | (apply Below.size; assumption))) (hb1_.mono (by first | assumption | (simp; done) | (simp; omega) | omega)); have hw1_ : Below w.heap.size w w1_ := hp1_; obtain ⟨hc1_, hf1_⟩ := Kit.bcell hb1_; have z1_w : w.heap.size < w1_.heap.size := (by have := hb1_.size; first | omega | (simp at this; omega)); obtain ⟨g1_w_0, g1_w_1, g1_w_2, g1_w_3⟩ : w1_.cell? ⟨w.heap.size, 0, none⟩ = some (.int .i64 a) ∧ w1_.cell? ⟨w.heap.size, 1, none⟩ = some (.int .i64 b) ∧ w1_.cell? ⟨w.heap.size, 2, none⟩ = some (.int .i64 c) ∧ w1_.cell? ⟨w.heap.size, 3, none⟩ = some (.int .i64 d) := (by refine ⟨?_, ?_, ?_, ?_⟩ <;> (rw [hc1_ _ _ (by first | assumption | (simp; done) | (simp; omega) | omega)]; first | assumption | (simp [go_sem]; done) | (simp [go_sem, *]; done))); clear hc1_ hf1_; clear hb1_ hp1_)
  go_wp2
  go_ret
  exact ⟨rfl, by (repeat' first | (with_reducible first | exact Below.refl _ _ | assumption | refine Kit.below_drewN ?_ _ | refine Below.drew ?_ | refine Below.alloc ?_ ?_ _ | refine Below.setCell ?_ ?_ _ | exact Nat.le_refl _) | omega | (simp; omega) | (simp; done) | (apply Below.size; assumption))⟩

set_option maxRecDepth 100000 in
set_option maxHeartbeats 1000000 in
theorem ap_index (a : Option Addr) (l : List Ap.Bx) (cap : Nat) (w : World) (hl : l.length ≤ 4611686018427387904) (h : Tp.Sl w a l.length 4 (Ap.bxc l)) :
    Calls Tryd.prog 74 #[.slice a l.length cap, .func (.func 50) #[] #[]] w fun e w' => e = .returned (.int .i64 (Ap.ixB 0 l)) ∧ Below w.heap.size w w' := by
  have H := Lib.hid h; clear h
  go_enter Tryd.func74, Tryd.ntmps74
  go_wp2
  go_loopw [8] (fun v8 wr => ∃ k : Nat, v8 = .int .i64 k ∧ k ≤ l.length ∧ Hid (Ap.ixB 0 l = Ap.ixB k (l.drop k)) ∧ Hid (Below w.heap.size w wr))
    (fun v8 _ => l.length - (intOf v8).toNat)
  case atStart => exact ⟨0, rfl, Nat.zero_le _, Lib.hid (by simp), Lib.hid (Below.refl _ _)⟩
  case round =>
    obtain ⟨k, rfl, hk, HI, HB⟩ := hrel
    by_cases hlt : k < l.length
    · obtain ⟨ad, rfl, had, _⟩ := H.out.at hlt
      have HSl := H.out.kept HB.out (Nat.le_refl _)
      have e0 := HSl.head hlt (by omega)
      have e1 := HSl.field hlt (j := 1) (by omega) (by omega)
      have e2 := HSl.field hlt (j := 2) (by omega) (by omega)
      have e3 := HSl.field hlt (j := 3) (by omega) (by omega)
      clear HSl
      have hdrop := Tp.drop_cons l (0, 0, 0, 0) k hlt
      generalize hx : l.getD k (0, 0, 0, 0) = x at hdrop
      simp only [Ap.bxc, hx] at e0 e1 e2 e3
      obtain ⟨xa, xb, xc, xd⟩ := x
      dsimp only at e0 e1 e2 e3
      have hI : Ap.ixB 0 l = if Ap.okB (xa, xb, xc, xd) = true then Ap.ixB (k + 1) (l.drop (k + 1)) else k := by rw [HI.out, hdrop]; rfl
      have HI2 := Lib.hid hI
      clear hI hdrop hx HI
      go_wp2_with fail
      refine (ap_wrong xa xb xc xd _).mono ?_
      rintro e wz ⟨rfl, hbz⟩
      have HBz := Lib.hid (HB.out.trans (hbz.mono HB.out.size))
      clear hbz e0 e1 e2 e3
      rcases d : Sp.okBox xa xb xc xd with _ | _
      · have hres := Lib.hid (show Ap.ixB 0 l = k by rw [HI2.out, if_neg (by simp [Ap.okB, d])])
        go_wp2
        go_ret
        exact ⟨by rw [hres.out]; rfl, HBz.out⟩
      · have hres := Lib.hid (show Ap.ixB 0 l = Ap.ixB (k + 1) (l.drop (k + 1)) by rw [HI2.out, if_pos (by simp [Ap.okB, d])])
        go_wp2
        go_roundw
        case rel => exact ⟨k + 1, by go_num, by omega, hres, HBz⟩
        case measure => simp [intOf]; omega
    · have hres := Lib.hid (show Ap.ixB 0 l = -1 by rw [HI.out, List.drop_of_length_le (by omega)]; rfl)
      go_wp2
      go_ret
      exact ⟨by rw [hres.out]; rfl, HB.out⟩

set_option maxHeartbeats 1000000 in
theorem ap_contains (a : Option Addr) (l : List Ap.Bx) (cap : Nat) (w : World) (hl : l.length ≤ 4611686018427387904) (h : Tp.Sl w a l.length 4 (Ap.bxc l)) :
    Calls Tryd.prog 51 #[.slice a l.length cap, .func (.func 50) #[] #[]] w fun e w' => e = .returned (.bool (l.any fun x => !Ap.okB x)) ∧ Below w.heap.size w w' := by
  have H := Lib.hid h; clear h
  have hany := Lib.hid (Ap.ixB_any l 0)
  go_enter Tryd.func51, Tryd.ntmps51
  go_wp2_with fail
  refine (ap_index a l cap _ hl H.out).mono ?_
  rintro e wz ⟨rfl, hbz⟩
  go_wp2
  go_ret
  exact ⟨by rw [← hany.out]; rfl, hbz⟩
end Go.Proofs.YtjoieglhmladhaaDoor
