/- Walks: the examples of layer 45. -/
import Derived.Test.YtdaedjmkolcliaaJaC
namespace Go.Proofs.Ytdaedjmkolcliaa
set_option linter.unusedVariables false
set_option linter.unusedSimpArgs false
open Go.RowKit Go.Shelf

namespace Id
theorem lit_ic {W : World} {b : Nat} {t : TypeId} (L : List Int) (hb : b = W.heap.size) : Tp.Sl (W.alloc (.cells (ints L).toArray t)) (some ⟨b, 0, none⟩) L.length 1 (ic L) :=
  blk_new W hb (ints L) t (ints_ic L)
theorem lit_bc {W : World} {b : Nat} {t : TypeId} (L : List Bool) (hb : b = W.heap.size) : Tp.Sl (W.alloc (.cells (bools L).toArray t)) (some ⟨b, 0, none⟩) L.length 1 (bc L) :=
  blk_new W hb (bools L) t (bools_bc L)
theorem nil_sl (w : World) (k : Nat) (f : Nat → Nat → Value) : Tp.Sl w none 0 k f := .inl rfl
theorem nc_ic (N : List Nat) (i j : Nat) : nc N i j = ic (N.map fun k : Nat => (k : Int)) i j := by
  unfold nc ic
  congr 1
  simp only [List.getD_eq_getElem?_getD, List.getElem?_map]
  cases N[i]? <;> rfl
theorem three_sls {W : World} {B : Nat} {t : TypeId} {q : Nat × Nat} {a b c : List Sg} {aA : Option Addr} {cA : Nat} {aB : Option Addr} {cB : Nat} {aC : Option Addr} {cC : Nat} (h : W.heap[B]? = some (.cells #[.slice aA a.length cA, .slice aB b.length cB, .slice aC c.length cC] t q)) (sa : Tp.Sl W aA a.length 14 (sgc a)) (sb : Tp.Sl W aB b.length 14 (sgc b)) (sc : Tp.Sl W aC c.length 14 (sgc c)) : Sls W (some ⟨B, 0, none⟩) 14 sgc [a, b, c] := by
  have e : ∀ m : Nat, (⟨B, 0, none⟩ : Addr).add m = ⟨B, m, none⟩ := fun m => by simp [Addr.add]; exact fun h => h.symm
  refine .inr ⟨_, rfl, (Array.getElem?_eq_some_iff.1 h).1, fun i hi => ?_⟩
  obtain rfl | rfl | rfl : i = 0 ∨ i = 1 ∨ i = 2 := by simp at hi; omega
  · exact ⟨aA, cA, by rw [e]; simp [World.cell?, h], sa⟩
  · exact ⟨aB, cB, by rw [e]; simp [World.cell?, h], sb⟩
  · exact ⟨aC, cC, by rw [e]; simp [World.cell?, h], sc⟩
theorem sls_two {W : World} {a : Option Addr} {x y z : List Sg} (h : Sls W a 14 sgc [x, y, z]) : Sls W a 14 sgc [x, y] := by
  rcases h with h | ⟨ad, h1, h2, h3⟩
  · cases h
  · refine .inr ⟨ad, h1, h2, fun i hi => ?_⟩
    obtain rfl | rfl : i = 0 ∨ i = 1 := by simp at hi; omega
    · exact h3 0 (by simp)
    · exact h3 1 (by simp)
end Id
theorem sn_ess1 (a : Option Addr) (c : Nat) (W : World) (hs : Tp.Sl W a 3 14 (Id.sgc Id.ea)) : Calls Try.prog 12 #[.slice a 3 c] W fun e w' => (∃ a c, e = .returned (.tuple #[.slice a 2 c, .int .i64 0]) ∧ Tp.Sl w' a 2 1 (Id.ic [8388736, 8388864])) ∧ Below W.heap.size W w' := by
  refine (id_essence a Id.ea c W hs (by simp [Id.edl_len])).mono ?_
  rintro e w' ⟨hb, he⟩
  rw [if_pos Id.x_ess1.1, Id.x_ess1.2] at he
  obtain ⟨a', c', rfl, ho⟩ := he
  exact ⟨⟨a', c', rfl, (Id.own_sl ho (Id.ints_ic _)).1⟩, hb⟩
theorem sn_ess2 (W : World) : Calls Try.prog 12 #[.slice none 0 0] W fun e w' => (∃ a c, e = .returned (.tuple #[.slice a 0 c, .int .i64 0])) ∧ Below W.heap.size W w' := by
  refine (id_essence none [] 0 W (Id.nil_sl _ _ _) (by simp)).mono ?_
  rintro e w' ⟨hb, he⟩
  rw [if_pos Id.x_ess2.1, Id.x_ess2.2] at he
  obtain ⟨a', c', rfl, ho⟩ := he
  exact ⟨⟨a', c', rfl⟩, hb⟩
theorem sn_near1 (a : Option Addr) (c : Nat) (W : World) (hs : Tp.Sl W a 1 14 (Id.sgc Id.eb)) : Calls Try.prog 14 #[.slice none 0 0, .slice a 1 c, .int .i64 0] W fun e w' => e = .returned (.tuple #[.bool true, .int .i64 0]) ∧ Below W.heap.size W w' := by
  have h := id_near [] Id.eb none 0 a c 0 W (Id.nil_sl _ _ _) hs (by simp) (by simp [Id.edl_len])
  rw [Id.x_near1.1, Id.x_near1.2] at h
  exact h
theorem sn_near2 (a : Option Addr) (c : Nat) (W : World) (hs : Tp.Sl W a 1 14 (Id.sgc Id.ec)) : Calls Try.prog 14 #[.slice none 0 0, .slice a 1 c, .int .i64 999] W fun e w' => e = .returned (.tuple #[.bool false, .int .i64 0]) ∧ Below W.heap.size W w' := by
  have h := id_near [] Id.ec none 0 a c 999 W (Id.nil_sl _ _ _) hs (by simp) (by simp [Id.edl_len])
  rw [Id.x_near2.1, Id.x_near2.2] at h
  exact h
theorem sn_near3 (a : Option Addr) (c : Nat) (W : World) (hs : Tp.Sl W a 1 14 (Id.sgc Id.ec)) : Calls Try.prog 14 #[.slice none 0 0, .slice a 1 c, .int .i64 1000] W fun e w' => e = .returned (.tuple #[.bool true, .int .i64 0]) ∧ Below W.heap.size W w' := by
  have h := id_near [] Id.ec none 0 a c 1000 W (Id.nil_sl _ _ _) hs (by simp) (by simp [Id.edl_len])
  rw [Id.x_near3.1, Id.x_near3.2] at h
  exact h
theorem sn_near4 (W : World) : Calls Try.prog 14 #[.slice none 0 0, .slice none 0 0, .int .i64 1001] W fun e w' => e = .returned (.tuple #[.bool false, .int .i64 450]) ∧ Below W.heap.size W w' := by
  have h := id_near [] [] none 0 none 0 1001 W (Id.nil_sl _ _ _) (Id.nil_sl _ _ _) (by simp) (by simp)
  rw [Id.x_near4.1, Id.x_near4.2] at h
  exact h
theorem Id.len3 : ∀ x ∈ Id.three, x.length ≤ 4611686018427387904 := by
  intro x hx
  simp at hx
  rcases hx with rfl | rfl | rfl <;> simp [Id.edl_len]
theorem sn_same1 (a : Option Addr) (c : Nat) (W : World) (hs : Id.Sls W a 14 Id.sgc Id.three) : Calls Try.prog 18 #[.slice a 3 c, .int .i64 200, .int .i64 0, .int .i64 2] W fun e w' => (∃ a c, e = .returned (.tuple #[.slice a 3 c, .bool true, .int .i64 0]) ∧ Tp.Sl w' a 3 1 (Id.ic [0, 1, 2])) ∧ Below W.heap.size W w' := by
  refine (id_same 200 a Id.three c 0 2 W hs (by simp) Id.len3).mono ?_
  rintro e w' ⟨hb, he⟩
  rw [if_pos Id.x_same1.1, Id.x_same1.2] at he
  obtain ⟨a', c', rfl, ho⟩ := he
  exact ⟨⟨a', c', rfl, Id.sl_congr ho fun i j _ _ => Id.nc_ic _ _ _⟩, hb⟩
theorem sn_same3 (a : Option Addr) (c : Nat) (W : World) (hs : Id.Sls W a 14 Id.sgc Id.three) : Calls Try.prog 18 #[.slice a 3 c, .int .i64 0, .int .i64 1, .int .i64 1] W fun e w' => (∃ a c, e = .returned (.tuple #[.slice a 1 c, .bool true, .int .i64 0]) ∧ Tp.Sl w' a 1 1 (Id.ic [1])) ∧ Below W.heap.size W w' := by
  refine (id_same 0 a Id.three c 1 1 W hs (by simp) Id.len3).mono ?_
  rintro e w' ⟨hb, he⟩
  rw [if_pos Id.x_same3.1, Id.x_same3.2] at he
  obtain ⟨a', c', rfl, ho⟩ := he
  exact ⟨⟨a', c', rfl, Id.sl_congr ho fun i j _ _ => Id.nc_ic _ _ _⟩, hb⟩
theorem sn_same2 (a : Option Addr) (c : Nat) (W : World) (hs : Id.Sls W a 14 Id.sgc Id.three) : Calls Try.prog 18 #[.slice a 3 c, .int .i64 180, .int .i64 0, .int .i64 2] W fun e w' => e = .returned (.tuple #[.slice none 0 0, .bool false, .int .i64 0]) ∧ Below W.heap.size W w' := by
  refine (id_same 180 a Id.three c 0 2 W hs (by simp) Id.len3).mono ?_
  rintro e w' ⟨hb, he⟩
  rw [if_neg (by rw [Id.x_same2.1]; simp), Id.x_same2.2] at he
  exact ⟨he, hb⟩
theorem sn_apart1 (a : Option Addr) (c : Nat) (W : World) (hs : Id.Sls W a 14 Id.sgc Id.three) : Calls Try.prog 20 #[.slice a 3 c, .int .i64 200, .int .i64 0, .int .i64 2] W fun e w' => e = .returned (.tuple #[.slice none 0 0, .bool false, .int .i64 0]) ∧ Below W.heap.size W w' := by
  refine (id_apart 200 a Id.three c 0 2 W hs (by simp) Id.len3).mono ?_
  rintro e w' ⟨hb, he⟩
  rw [if_neg (by rw [Id.x_apart1.1]; simp), Id.x_apart1.2] at he
  exact ⟨he, hb⟩
theorem sn_apart2 (a : Option Addr) (c : Nat) (W : World) (hs : Id.Sls W a 14 Id.sgc Id.three) : Calls Try.prog 20 #[.slice a 3 c, .int .i64 180, .int .i64 0, .int .i64 2] W fun e w' => (∃ a c, e = .returned (.tuple #[.slice a 3 c, .bool true, .int .i64 0]) ∧ Tp.Sl w' a 3 1 (Id.bc [true, false, false])) ∧ Below W.heap.size W w' := by
  refine (id_apart 180 a Id.three c 0 2 W hs (by simp) Id.len3).mono ?_
  rintro e w' ⟨hb, he⟩
  rw [if_pos Id.x_apart2.1] at he
  obtain ⟨a', c', rfl, ho⟩ := he
  have h2 : Id.side Id.three.length (Id.gr 180 Id.three) (0 : Int).toNat = [true, false, false] := Id.x_apart2.2
  rw [h2] at ho
  exact ⟨⟨a', c', rfl, ho⟩, hb⟩
theorem sn_works1 (a : Option Addr) (c : Nat) (W : World) (hs : Id.Sls W a 14 Id.sgc Id.three) : Calls Try.prog 22 #[.slice a 3 c, .int .i64 200] W fun e w' => (∃ a c, e = .returned (.tuple #[.slice a 3 c, .int .i64 0]) ∧ Tp.Sl w' a 3 1 (Id.ic [0, 0, 0])) ∧ Below W.heap.size W w' := by
  refine (id_works 200 a Id.three c W hs (by simp) Id.len3).mono ?_
  rintro e w' ⟨hb, he⟩
  rw [if_pos Id.x_works1.1] at he
  obtain ⟨a', c', rfl, ho⟩ := he
  have h2 : Id.wrks Id.three.length (Id.gr 200 Id.three) = [0, 0, 0] := Id.x_works1.2
  rw [h2] at ho
  exact ⟨⟨a', c', rfl, Id.sl_congr ho fun i j _ _ => Id.nc_ic _ _ _⟩, hb⟩
theorem sn_works2 (a : Option Addr) (c : Nat) (W : World) (hs : Id.Sls W a 14 Id.sgc Id.three) : Calls Try.prog 22 #[.slice a 3 c, .int .i64 180] W fun e w' => (∃ a c, e = .returned (.tuple #[.slice a 3 c, .int .i64 0]) ∧ Tp.Sl w' a 3 1 (Id.ic [0, 1, 2])) ∧ Below W.heap.size W w' := by
  refine (id_works 180 a Id.three c W hs (by simp) Id.len3).mono ?_
  rintro e w' ⟨hb, he⟩
  rw [if_pos Id.x_works2.1] at he
  obtain ⟨a', c', rfl, ho⟩ := he
  have h2 : Id.wrks Id.three.length (Id.gr 180 Id.three) = [0, 1, 2] := Id.x_works2.2
  rw [h2] at ho
  exact ⟨⟨a', c', rfl, Id.sl_congr ho fun i j _ _ => Id.nc_ic _ _ _⟩, hb⟩
theorem sn_same4 (a : Option Addr) (c : Nat) (W : World) (hs : Id.Sls W a 14 Id.sgc [Id.edl 0 [1, 2, 3, 4], Id.edl 0 [1, 2, 3, 9]]) : Calls Try.prog 18 #[.slice a 2 c, .int .i64 0, .int .i64 0, .int .i64 2] W fun e w' => e = .returned (.tuple #[.slice none 0 0, .bool false, .int .i64 1]) ∧ Below W.heap.size W w' := by
  refine (id_same 0 a [Id.edl 0 [1, 2, 3, 4], Id.edl 0 [1, 2, 3, 9]] c 0 2 W hs (by simp) (by intro x hx; simp at hx; rcases hx with rfl | rfl <;> simp [Id.edl_len])).mono ?_
  rintro e w' ⟨hb, he⟩
  rw [if_neg (by rw [Id.x_same4.1]; simp), Id.x_same4.2] at he
  exact ⟨he, hb⟩
end Go.Proofs.Ytdaedjmkolcliaa
