/- Walks: package understudy: Ready, of whatever arguments; the law Later. -/
import Derived.Test.YtbhgogiaaljclaaGreatDoorUxC
import Derived.Test.YtbhgogiaaljclaaGreatDoorKxb
set_option linter.unusedSimpArgs false
set_option linter.unusedVariables false
set_option maxRecDepth 100000
set_option maxHeartbeats 4000000
namespace Go.Proofs.YtbhgogiaaljclaaGreatDoor
open Go.RowKit Go.Shelf
namespace Uy
def nc (l : List Nat) (i _ : Nat) : Value := .int .i64 (l.getD i 0 : Nat)
def RdP (x : Ex.Wk) (bs : List Un.Bd) (cast : List Int) (role bar : Int) (a : Option Addr) (n : Nat) (w : World) : Prop :=
 (Un.readyE x bs cast role bar ≠ 0 ∧ n = 0) ∨ (Un.readyE x bs cast role bar = 0 ∧ ∃ l : List Nat, n = l.length ∧ n ≤ 16 ∧ Un.Ready x bs cast role bar l ∧ Tp.Sl w a l.length 1 (nc l))
theorem RdP.kept {x : Ex.Wk} {bs : List Un.Bd} {cast : List Int} {role bar : Int} {a : Option Addr} {n : Nat} {w w' : World} (h : RdP x bs cast role bar a n w) (hb : Below w.heap.size w w') : RdP x bs cast role bar a n w' := by
 rcases h with h | ⟨h1, l, h2, h3, h4, h5⟩
 ·exact .inl h
 ·exact .inr ⟨h1, l, h2, h3, h4, h5.kept hb nlr⟩
theorem mb : Kit.MTypes Tryz.prog 56 3 4 (.bool false) := ⟨Tryz.underlying3, Tryz.underlying56, fun _ => by kernel_rfl⟩
end Uy
theorem un_ready (x : Ex.Wk) (p : Ex.Wa) (w : World) (hL : Ex.Laid w) (hF : Uo.Flat w) (ha : Ex.At w x p) (bs : List Un.Bd) (a : Option Addr) (c : Nat) (hS : Tp.Sl w a bs.length 17 (Un.bdF bs)) (hl : bs.length ≤ 4611686018427387904) (hns : ∀ b ∈ bs, b.name.size ≤ 9223372036854775807)
  (cast : List Int) (ac : Option Addr) (cc : Nat) (hC : Tp.Sl w ac cast.length 1 (Un.ic cast)) (hlc : cast.length ≤ 1000000000) (hcc : cast.length ≤ cc) (role bar : Int) :
  Calls Tryz.prog 16 #[Ex.workV x p, .slice a bs.length c, .slice ac cast.length cc, .int .i64 role, .int .i64 bar] w fun e w' => (∃ a n c, e = .returned (.tuple #[.slice a n c, .int .i64 (Un.readyE x bs cast role bar)]) ∧ Uy.RdP x bs cast role bar a n w') ∧ Below w.heap.size w w' := by
 by_cases hE : Un.readyE x bs cast role bar = 0
 ·refine (un_ready_0 x p w hL ha bs a c hS hns cast ac cc hC hlc hcc role bar hF hE).mono ?_
  rintro _ w' ⟨v, l, rfl, hr, ho, hb⟩
  have hn : l.length ≤ 16 := by
   have h1 := hr.perm.length_eq
   have h2 := List.length_filter_le (Un.fits x bs cast role bar) (List.range bs.length)
   have h3 : bs.length ≤ 16 := by
    have h := hE
    unfold Un.readyE at h
    by_cases h0 : Ex.chk x = 0
    ·rw [if_neg (by simp [h0])] at h
     by_cases hn : 16 < bs.length
     ·rw [if_pos hn] at h; cases h
     ·omega
    ·rw [if_pos h0] at h; exact absurd h h0
   simp at h2; omega
  obtain ⟨a, c, rfl, h⟩ := Kit.own_sl (f := Uy.nc l) ho (fun i j hi hj => by
   obtain rfl : j = 0 := by omega
   rw [Nat.mul_one, Nat.add_zero]
   unfold Un.ints Uy.nc
   simp [hi, List.getD])
  exact ⟨⟨a, _, c, by rw [hE], .inr ⟨hE, l, rfl, hn, hr, h⟩⟩, hb⟩
 ·refine (un_ready_e x p w hL ha bs a c hS hl hns cast ac cc hC hlc hcc role bar hE).mono ?_
  rintro _ w' ⟨rfl, hb⟩
  exact ⟨⟨none, 0, 0, rfl, .inl ⟨hE, rfl⟩⟩, hb⟩
end Go.Proofs.YtbhgogiaaljclaaGreatDoor
