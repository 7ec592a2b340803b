/- Walks: the law ApartSafe: whose box holds; plain facts. -/
import Derived.Test.YtjoieglhmladhaaDoorLwG
import Derived.Test.YtjoieglhmladhaaDoorLwB
import Derived.Test.YtjoieglhmladhaaDoorRsA
import Derived.Test.YtjoieglhmladhaaDoorRfG
import Derived.Test.YtjoieglhmladhaaDoorPpC
namespace Go.Proofs.YtjoieglhmladhaaDoor
set_option linter.unusedVariables false
set_option linter.unusedSimpArgs false
open Go.RowKit Go.Shelf

set_option maxRecDepth 100000 in
set_option maxHeartbeats 1000000 in
/-- The box of a role: the one in which it moves, or the one in which it holds. -/
theorem lw_is (i : Nat) (m : Int) (p1 p2 p3 : Nat) (aM : Option Addr) (mv : List Ap.Bx) (cM : Nat) (aH : Option Addr) (hd : List Ap.Bx) (cH : Nat) (w : World) (hi : i < 64) (h1 : i < mv.length) (h2 : i < hd.length) (m0 : 0 ≤ m) (m1 : m < 18446744073709551616)
    (l1 : mv.length ≤ 64) (l2 : hd.length ≤ 64) (z1 : p1 < w.heap.size) (z2 : p2 < w.heap.size) (z3 : p3 < w.heap.size)
    (c1 : w.cell? ⟨p1, 0, none⟩ = some (.int .u64 m)) (c2 : w.cell? ⟨p2, 0, none⟩ = some (.slice aM mv.length cM)) (c3 : w.cell? ⟨p3, 0, none⟩ = some (.slice aH hd.length cH))
    (sM : Tp.Sl w aM mv.length 4 (Ap.bxc mv)) (sH : Tp.Sl w aH hd.length 4 (Ap.bxc hd)) :
    Calls Tryd.prog 24 #[.int .i64 i, .pointer (some ⟨p1, 0, none⟩), .pointer (some ⟨p2, 0, none⟩), .pointer (some ⟨p3, 0, none⟩)] w fun e w' =>
      ∃ b : Ap.Bx, (b = mv.getD i Ap.bz ∨ b = hd.getD i Ap.bz) ∧ e = .returned (Sp.boxV b.1 b.2.1 b.2.2.1 b.2.2.2) ∧ Below w.heap.size w w' := by
  obtain ⟨aM, rfl, haM, _⟩ := sM.at h1
  obtain ⟨aH, rfl, haH, _⟩ := sH.at h2
  have a0 := sM.head h1 (by omega)
  have a1 := sM.field h1 (j := 1) (by omega) (by omega)
  have a2 := sM.field h1 (j := 2) (by omega) (by omega)
  have a3 := sM.field h1 (j := 3) (by omega) (by omega)
  have b0 := sH.head h2 (by omega)
  have b1 := sH.field h2 (j := 1) (by omega) (by omega)
  have b2 := sH.field h2 (j := 2) (by omega) (by omega)
  have b3 := sH.field h2 (j := 3) (by omega) (by omega)
  generalize hx : mv.getD i Ap.bz = x at *
  generalize hy : hd.getD i Ap.bz = y at *
  obtain ⟨x1, x2, x3, x4⟩ := x
  obtain ⟨y1, y2, y3, y4⟩ := y
  simp only [Ap.bxc, hx, hy] at a0 a1 a2 a3 b0 b1 b2 b3
  clear sM sH hx hy
  generalize mv.length = nM at *
  generalize hd.length = nH at *
  have t0 : ((i : Int).tmod 64) = i := by rw [Int.tmod_eq_emod_of_nonneg (by omega)]; omega
  have hbA : (aM.add (i * 4)).block < w.heap.size := by rw [Tp.add_block]; exact haM
  have hbH : (aH.add (i * 4)).block < w.heap.size := by rw [Tp.add_block]; exact haH
  rcases t : (bits BinOp.and IntKind.u64 (m / 2 ^ i) 1 == 1) with _ | _
  · go_enter Tryd.func24, Tryd.ntmps24
    go_wp2
    (refine bodyPost_ret (by simp [results, Tryd.results24, go_sem, Kit.cell_set]; try rfl) rfl ?_)
    exact ⟨(y1, y2, y3, y4), .inr rfl, rfl, by (repeat' (first | (with_reducible exact Below.refl _ _) | (with_reducible assumption) | (with_reducible refine Kit.below_drewN ?_ _) | (with_reducible refine Below.drew ?_) | (with_reducible refine Below.alloc ?_ ?_ _) | (with_reducible refine Below.setCell ?_ ?_ _) | (with_reducible exact Nat.le_refl _) | omega | (simp; omega) | (simp; done) | (apply Below.size; assumption)))⟩
  · go_enter Tryd.func24, Tryd.ntmps24
    go_wp2
    (refine bodyPost_ret (by simp [results, Tryd.results24, go_sem, Kit.cell_set]; try rfl) rfl ?_)
    exact ⟨(x1, x2, x3, x4), .inl rfl, rfl, by (repeat' (first | (with_reducible exact Below.refl _ _) | (with_reducible assumption) | (with_reducible refine Kit.below_drewN ?_ _) | (with_reducible refine Below.drew ?_) | (with_reducible refine Below.alloc ?_ ?_ _) | (with_reducible refine Below.setCell ?_ ?_ _) | (with_reducible exact Nat.le_refl _) | omega | (simp; omega) | (simp; done) | (apply Below.size; assumption)))⟩
end Go.Proofs.YtjoieglhmladhaaDoor
