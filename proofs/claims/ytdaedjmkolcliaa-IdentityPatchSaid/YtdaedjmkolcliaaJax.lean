/- Walks of what the laws of layer 45 ask: edition. The examples of layer 45, reckoned by the kernel. Walks: the examples of layer 45. Walks: sane of layer 45. -/
import Derived.Test.YtdaedjmkolcliaaJaA
namespace Go.Proofs.Ytdaedjmkolcliaa
set_option linter.unusedVariables false
set_option linter.unusedSimpArgs false
open Go.RowKit Go.Shelf

namespace Id
/-- A sign of an edition. -/
def edS (i : Nat) (n : Int) : Sg := ⟨i, 0, i, if n < 0 then 2 else 1, 1, 0, 0, 0, max n (-n), 0, 0, 1, 1, 1⟩
def edl : Nat → List Int → List Sg
  | _, [] => []
  | i, n :: l => edS i n :: edl (i + 1) l
theorem edl_len : ∀ (l : List Int) (i : Nat), (edl i l).length = l.length
  | [], _ => rfl
  | _ :: l, i => by simp [edl, edl_len l]
theorem edl_get : ∀ (l : List Int) (i k : Nat), k < l.length → (edl i l).getD k default = edS (i + k) (l.getD k 0)
  | n :: l, i, 0, _ => by simp [edl]
  | n :: l, i, k + 1, h => by
    have := edl_get l (i + 1) k (by simpa using h)
    simp only [edl, List.getD_cons_succ]
    rw [this]
    congr 1
    omega
end Id
set_option maxRecDepth 100000 in
set_option maxHeartbeats 2000000 in
theorem ja_edition (l : List Int) (aA : Option Addr) (cA : Nat) (w : World) (hS : Tp.Sl w aA l.length 1 (Id.ic l)) (hl : l.length ≤ 100) (hb : ∀ x ∈ l, -1000 ≤ x ∧ x ≤ 1000) :
    Calls Try.prog 28 #[.slice aA l.length cA] w fun e w' => (∃ a c, e = .returned (.slice a l.length c) ∧ Tp.Sl w' a l.length 14 (Id.sgc (Id.edl 0 l))) ∧ Below w.heap.size w w' := by
  have HS := Lib.hid hS
  have HBD := Lib.hid hb
  have HT := Lib.hid (show ∀ k, k < l.length → (Id.edl 0 l).take (k + 1) = (Id.edl 0 l).take k ++ [Id.edS k (l.getD k 0)] from fun k hk => Id.take_snoc _ k (by rw [Id.edl_len]; exact hk) _ (by have := Id.edl_get l 0 k hk; rw [Nat.zero_add] at this; exact this))
  clear hS hb
  go_enter Try.func28, Try.ntmps28
  go_wp2_with fail
  go_loopw [2, 8] (fun v2 v8 wr => ∃ k : Nat, v8 = .int .i64 k ∧ k ≤ l.length ∧ Hid (Kit.Gw w 49 14 v2 k (Id.flatS ((Id.edl 0 l).take k)) wr))
    (fun _ v8 _ => l.length - (intOf v8).toNat)
  case atStart => exact ⟨0, rfl, Nat.zero_le _, Kit.Gw.start _ _ _⟩
  case round =>
    obtain ⟨k, rfl, hk, HO⟩ := hrel
    by_cases hlt : k < l.length
    · obtain ⟨ad, rfl, had, _⟩ := HS.out.at hlt
      have e0 : wr.cell? (ad.add k) = some (.int .i64 (l.getD k 0)) := by
        have h := (HS.out.kept HO.out.bel (Nat.le_refl _)).head hlt (by omega)
        rw [Nat.mul_one] at h; exact h
      have hbn := HBD.out (l.getD k 0) (by rw [List.getD_eq_getElem?_getD, List.getElem?_eq_getElem hlt]; exact List.getElem_mem hlt)
      have HTK := Lib.hid (HT.out k hlt)
      generalize l.getD k 0 = n at e0 hbn HTK
      have hes : Id.edS k n = ⟨k, 0, k, if n < 0 then 2 else 1, 1, 0, 0, 0, max n (-n), 0, 0, 1, 1, 1⟩ := rfl
      obtain ⟨mx, hmx⟩ : ∃ mx, max n (-n) = mx := ⟨_, rfl⟩
      rw [hmx] at hes
      have hmx2 : (if n < -n then -n else n) = mx := by rw [← hmx]; split <;> omega
      rcases hd : decide (n < 0) with _ | _
      · have hes2 : Id.edS k n = ⟨k, 0, k, 1, 1, 0, 0, 0, mx, 0, 0, 1, 1, 1⟩ := by rw [hes, if_neg (by simpa using hd)]
        rw [hes2] at HTK
        have HMX := Lib.hid hmx
        clear hes hes2
        go_wp2_with (at_builtin; refine Kit.wpList_app Id.elS _ rfl _ _ rfl _ _ _ ((HO.out.alloc _).alloc _) rfl (by omega) ⟨wr.heap.size + 1, 0, none⟩ 1 (Id.sc ⟨k, 0, k, 1, 1, 0, 0, 0, mx, 0, 0, 1, 1, 1⟩) rfl rfl (fun j u hu => Kit.lit_at _ (Id.sc ⟨k, 0, k, 1, 1, 0, 0, 0, mx, 0, 0, 1, 1, 1⟩) _ (by simp) j u hu) (by simp [Id.sc, Value.oneCell']) ?_; intro v' w2 ho hg; have HO2 := Lib.hid ho; clear ho hg)
        go_roundw
        case rel => exact ⟨k + 1, by go_num, by omega, by rw [HTK.out, Id.flatS_snoc]; exact HO2.out⟩
        case measure => simp [intOf]; omega
      · have hes2 : Id.edS k n = ⟨k, 0, k, 2, 1, 0, 0, 0, mx, 0, 0, 1, 1, 1⟩ := by rw [hes, if_pos (by simpa using hd)]
        rw [hes2] at HTK
        have HMX := Lib.hid hmx
        clear hes hes2
        go_wp2_with (at_builtin; refine Kit.wpList_app Id.elS _ rfl _ _ rfl _ _ _ ((HO.out.alloc _).alloc _) rfl (by omega) ⟨wr.heap.size + 1, 0, none⟩ 1 (Id.sc ⟨k, 0, k, 2, 1, 0, 0, 0, mx, 0, 0, 1, 1, 1⟩) rfl rfl (fun j u hu => Kit.lit_at _ (Id.sc ⟨k, 0, k, 2, 1, 0, 0, 0, mx, 0, 0, 1, 1, 1⟩) _ (by simp) j u hu) (by simp [Id.sc, Value.oneCell']) ?_; intro v' w2 ho hg; have HO2 := Lib.hid ho; clear ho hg)
        go_roundw
        case rel => exact ⟨k + 1, by go_num, by omega, by rw [HTK.out, Id.flatS_snoc]; exact HO2.out⟩
        case measure => simp [intOf]; omega
    · obtain rfl : k = l.length := by omega
      rw [List.take_of_length_le (by rw [Id.edl_len]; exact Nat.le_refl _)] at HO
      obtain ⟨aX, cX, rfl⟩ := HO.out.shape
      have hq := Id.flatS_get (Id.edl 0 l)
      rw [Id.edl_len] at hq
      have HSB := Lib.hid (Id.own_sl HO.out.own (fun i j hi hj => hq i j hi hj)).1
      clear hq
      go_wp2
      go_ret
      exact ⟨⟨aX, cX, rfl, HSB.out⟩, HO.out.bel⟩
end Go.Proofs.Ytdaedjmkolcliaa

namespace Go.Proofs.Ytdaedjmkolcliaa
set_option linter.unusedVariables false
set_option linter.unusedSimpArgs false
open Go.RowKit Go.Shelf

namespace Id
abbrev ea : List Sg := edl 0 [1, -5, 2]
abbrev eb : List Sg := edl 0 [-1]
abbrev ec : List Sg := edl 0 [1]
abbrev three : List (List Sg) := [edl 0 [1, 2, 3, 4], edl 0 [1, 2, 3, 9], edl 0 [1, 2, 8, 9]]
theorem x_ess1 : essE ea = 0 ∧ ess ea = [8388736, 8388864] := by decide +kernel
theorem x_ess2 : essE [] = 0 ∧ ess [] = [] := by decide +kernel
theorem x_near1 : nearB [] eb 0 = true ∧ eE 0 [[], eb] = 0 := by decide +kernel
theorem x_near2 : nearB [] ec 999 = false ∧ eE 999 [[], ec] = 0 := by decide +kernel
theorem x_near3 : nearB [] ec 1000 = true ∧ eE 1000 [[], ec] = 0 := by decide +kernel
theorem x_near4 : nearB [] [] 1001 = false ∧ eE 1001 [[], []] = 450 := by decide +kernel
theorem x_same1 : smB 200 three 0 2 = true ∧ chain 200 three 0 2 = [0, 1, 2] := by decide +kernel
theorem x_apart1 : apB 200 three 0 2 = false ∧ aE 200 three 0 2 = 0 := by decide +kernel
theorem x_apart2 : apB 180 three 0 2 = true ∧ side 3 (gr 180 three) 0 = [true, false, false] := by decide +kernel
theorem x_same2 : smB 180 three 0 2 = false ∧ aE 180 three 0 2 = 0 := by decide +kernel
theorem x_works1 : tE 200 three = 0 ∧ wrks 3 (gr 200 three) = [0, 0, 0] := by decide +kernel
theorem x_works2 : tE 180 three = 0 ∧ wrks 3 (gr 180 three) = [0, 1, 2] := by decide +kernel
theorem x_same3 : smB 0 three 1 1 = true ∧ chain 0 three 1 1 = [1] := by decide +kernel
theorem x_same4 : smB 0 [edl 0 [1, 2, 3, 4], edl 0 [1, 2, 3, 9]] 0 2 = false ∧ aE 0 [edl 0 [1, 2, 3, 4], edl 0 [1, 2, 3, 9]] 0 2 = 1 := by decide +kernel
end Id
end Go.Proofs.Ytdaedjmkolcliaa

namespace Go.Proofs.Ytdaedjmkolcliaa
set_option linter.unusedVariables false
set_option linter.unusedSimpArgs false
open Go.RowKit Go.Shelf

namespace Id
theorem lit_ic {W : World} {b : Nat} {t : TypeId} (L : List Int) (hb : b = W.heap.size) : Tp.Sl (W.alloc (.cells (ints L).toArray t)) (some ⟨b, 0, none⟩) L.length 1 (ic L) :=
  blk_new W hb (ints L) t (ints_ic L)
theorem lit_bc {W : World} {b : Nat} {t : TypeId} (L : List Bool) (hb : b = W.heap.size) : Tp.Sl (W.alloc (.cells (bools L).toArray t)) (some ⟨b, 0, none⟩) L.length 1 (bc L) :=
  blk_new W hb (bools L) t (bools_bc L)
theorem nil_sl (w : World) (k : Nat) (f : Nat → Nat → Value) : Tp.Sl w none 0 k f := .inl rfl
theorem nc_ic (N : List Nat) (i j : Nat) : nc N i j = ic (N.map fun k : Nat => (k : Int)) i j := by
  unfold nc ic
  congr 1
  simp only [List.getD_eq_getElem?_getD, List.getElem?_map]
  cases N[i]? <;> rfl
theorem three_sls {W : World} {B : Nat} {t : TypeId} {q : Nat × Nat} {a b c : List Sg} {aA : Option Addr} {cA : Nat} {aB : Option Addr} {cB : Nat} {aC : Option Addr} {cC : Nat} (h : W.heap[B]? = some (.cells #[.slice aA a.length cA, .slice aB b.length cB, .slice aC c.length cC] t q)) (sa : Tp.Sl W aA a.length 14 (sgc a)) (sb : Tp.Sl W aB b.length 14 (sgc b)) (sc : Tp.Sl W aC c.length 14 (sgc c)) : Sls W (some ⟨B, 0, none⟩) 14 sgc [a, b, c] := by
  have e : ∀ m : Nat, (⟨B, 0, none⟩ : Addr).add m = ⟨B, m, none⟩ := fun m => by simp [Addr.add]; exact fun h => h.symm
  refine .inr ⟨_, rfl, (Array.getElem?_eq_some_iff.1 h).1, fun i hi => ?_⟩
  obtain rfl | rfl | rfl : i = 0 ∨ i = 1 ∨ i = 2 := by simp at hi; omega
  · exact ⟨aA, cA, by rw [e]; simp [World.cell?, h], sa⟩
  · exact ⟨aB, cB, by rw [e]; simp [World.cell?, h], sb⟩
  · exact ⟨aC, cC, by rw [e]; simp [World.cell?, h], sc⟩
theorem sls_two {W : World} {a : Option Addr} {x y z : List Sg} (h : Sls W a 14 sgc [x, y, z]) : Sls W a 14 sgc [x, y] := by
  rcases h with h | ⟨ad, h1, h2, h3⟩
  · cases h
  · refine .inr ⟨ad, h1, h2, fun i hi => ?_⟩
    obtain rfl | rfl : i = 0 ∨ i = 1 := by simp at hi; omega
    · exact h3 0 (by simp)
    · exact h3 1 (by simp)
end Id
theorem sn_ess1 (a : Option Addr) (c : Nat) (W : World) (hs : Tp.Sl W a 3 14 (Id.sgc Id.ea)) : Calls Try.prog 12 #[.slice a 3 c] W fun e w' => (∃ a c, e = .returned (.tuple #[.slice a 2 c, .int .i64 0]) ∧ Tp.Sl w' a 2 1 (Id.ic [8388736, 8388864])) ∧ Below W.heap.size W w' := by
  refine (id_essence a Id.ea c W hs (by simp [Id.edl_len])).mono ?_
  rintro e w' ⟨hb, he⟩
  rw [if_pos Id.x_ess1.1, Id.x_ess1.2] at he
  obtain ⟨a', c', rfl, ho⟩ := he
  exact ⟨⟨a', c', rfl, (Id.own_sl ho (Id.ints_ic _)).1⟩, hb⟩
theorem sn_ess2 (W : World) : Calls Try.prog 12 #[.slice none 0 0] W fun e w' => (∃ a c, e = .returned (.tuple #[.slice a 0 c, .int .i64 0])) ∧ Below W.heap.size W w' := by
  refine (id_essence none [] 0 W (Id.nil_sl _ _ _) (by simp)).mono ?_
  rintro e w' ⟨hb, he⟩
  rw [if_pos Id.x_ess2.1, Id.x_ess2.2] at he
  obtain ⟨a', c', rfl, ho⟩ := he
  exact ⟨⟨a', c', rfl⟩, hb⟩
theorem sn_near1 (a : Option Addr) (c : Nat) (W : World) (hs : Tp.Sl W a 1 14 (Id.sgc Id.eb)) : Calls Try.prog 14 #[.slice none 0 0, .slice a 1 c, .int .i64 0] W fun e w' => e = .returned (.tuple #[.bool true, .int .i64 0]) ∧ Below W.heap.size W w' := by
  have h := id_near [] Id.eb none 0 a c 0 W (Id.nil_sl _ _ _) hs (by simp) (by simp [Id.edl_len])
  rw [Id.x_near1.1, Id.x_near1.2] at h
  exact h
theorem sn_near2 (a : Option Addr) (c : Nat) (W : World) (hs : Tp.Sl W a 1 14 (Id.sgc Id.ec)) : Calls Try.prog 14 #[.slice none 0 0, .slice a 1 c, .int .i64 999] W fun e w' => e = .returned (.tuple #[.bool false, .int .i64 0]) ∧ Below W.heap.size W w' := by
  have h := id_near [] Id.ec none 0 a c 999 W (Id.nil_sl _ _ _) hs (by simp) (by simp [Id.edl_len])
  rw [Id.x_near2.1, Id.x_near2.2] at h
  exact h
theorem sn_near3 (a : Option Addr) (c : Nat) (W : World) (hs : Tp.Sl W a 1 14 (Id.sgc Id.ec)) : Calls Try.prog 14 #[.slice none 0 0, .slice a 1 c, .int .i64 1000] W fun e w' => e = .returned (.tuple #[.bool true, .int .i64 0]) ∧ Below W.heap.size W w' := by
  have h := id_near [] Id.ec none 0 a c 1000 W (Id.nil_sl _ _ _) hs (by simp) (by simp [Id.edl_len])
  rw [Id.x_near3.1, Id.x_near3.2] at h
  exact h
theorem sn_near4 (W : World) : Calls Try.prog 14 #[.slice none 0 0, .slice none 0 0, .int .i64 1001] W fun e w' => e = .returned (.tuple #[.bool false, .int .i64 450]) ∧ Below W.heap.size W w' := by
  have h := id_near [] [] none 0 none 0 1001 W (Id.nil_sl _ _ _) (Id.nil_sl _ _ _) (by simp) (by simp)
  rw [Id.x_near4.1, Id.x_near4.2] at h
  exact h
theorem Id.len3 : ∀ x ∈ Id.three, x.length ≤ 4611686018427387904 := by
  intro x hx
  simp at hx
  rcases hx with rfl | rfl | rfl <;> simp [Id.edl_len]
theorem sn_same1 (a : Option Addr) (c : Nat) (W : World) (hs : Id.Sls W a 14 Id.sgc Id.three) : Calls Try.prog 18 #[.slice a 3 c, .int .i64 200, .int .i64 0, .int .i64 2] W fun e w' => (∃ a c, e = .returned (.tuple #[.slice a 3 c, .bool true, .int .i64 0]) ∧ Tp.Sl w' a 3 1 (Id.ic [0, 1, 2])) ∧ Below W.heap.size W w' := by
  refine (id_same 200 a Id.three c 0 2 W hs (by simp) Id.len3).mono ?_
  rintro e w' ⟨hb, he⟩
  rw [if_pos Id.x_same1.1, Id.x_same1.2] at he
  obtain ⟨a', c', rfl, ho⟩ := he
  exact ⟨⟨a', c', rfl, Id.sl_congr ho fun i j _ _ => Id.nc_ic _ _ _⟩, hb⟩
theorem sn_same3 (a : Option Addr) (c : Nat) (W : World) (hs : Id.Sls W a 14 Id.sgc Id.three) : Calls Try.prog 18 #[.slice a 3 c, .int .i64 0, .int .i64 1, .int .i64 1] W fun e w' => (∃ a c, e = .returned (.tuple #[.slice a 1 c, .bool true, .int .i64 0]) ∧ Tp.Sl w' a 1 1 (Id.ic [1])) ∧ Below W.heap.size W w' := by
  refine (id_same 0 a Id.three c 1 1 W hs (by simp) Id.len3).mono ?_
  rintro e w' ⟨hb, he⟩
  rw [if_pos Id.x_same3.1, Id.x_same3.2] at he
  obtain ⟨a', c', rfl, ho⟩ := he
  exact ⟨⟨a', c', rfl, Id.sl_congr ho fun i j _ _ => Id.nc_ic _ _ _⟩, hb⟩
theorem sn_same2 (a : Option Addr) (c : Nat) (W : World) (hs : Id.Sls W a 14 Id.sgc Id.three) : Calls Try.prog 18 #[.slice a 3 c, .int .i64 180, .int .i64 0, .int .i64 2] W fun e w' => e = .returned (.tuple #[.slice none 0 0, .bool false, .int .i64 0]) ∧ Below W.heap.size W w' := by
  refine (id_same 180 a Id.three c 0 2 W hs (by simp) Id.len3).mono ?_
  rintro e w' ⟨hb, he⟩
  rw [if_neg (by rw [Id.x_same2.1]; simp), Id.x_same2.2] at he
  exact ⟨he, hb⟩
theorem sn_apart1 (a : Option Addr) (c : Nat) (W : World) (hs : Id.Sls W a 14 Id.sgc Id.three) : Calls Try.prog 20 #[.slice a 3 c, .int .i64 200, .int .i64 0, .int .i64 2] W fun e w' => e = .returned (.tuple #[.slice none 0 0, .bool false, .int .i64 0]) ∧ Below W.heap.size W w' := by
  refine (id_apart 200 a Id.three c 0 2 W hs (by simp) Id.len3).mono ?_
  rintro e w' ⟨hb, he⟩
  rw [if_neg (by rw [Id.x_apart1.1]; simp), Id.x_apart1.2] at he
  exact ⟨he, hb⟩
theorem sn_apart2 (a : Option Addr) (c : Nat) (W : World) (hs : Id.Sls W a 14 Id.sgc Id.three) : Calls Try.prog 20 #[.slice a 3 c, .int .i64 180, .int .i64 0, .int .i64 2] W fun e w' => (∃ a c, e = .returned (.tuple #[.slice a 3 c, .bool true, .int .i64 0]) ∧ Tp.Sl w' a 3 1 (Id.bc [true, false, false])) ∧ Below W.heap.size W w' := by
  refine (id_apart 180 a Id.three c 0 2 W hs (by simp) Id.len3).mono ?_
  rintro e w' ⟨hb, he⟩
  rw [if_pos Id.x_apart2.1] at he
  obtain ⟨a', c', rfl, ho⟩ := he
  have h2 : Id.side Id.three.length (Id.gr 180 Id.three) (0 : Int).toNat = [true, false, false] := Id.x_apart2.2
  rw [h2] at ho
  exact ⟨⟨a', c', rfl, ho⟩, hb⟩
theorem sn_works1 (a : Option Addr) (c : Nat) (W : World) (hs : Id.Sls W a 14 Id.sgc Id.three) : Calls Try.prog 22 #[.slice a 3 c, .int .i64 200] W fun e w' => (∃ a c, e = .returned (.tuple #[.slice a 3 c, .int .i64 0]) ∧ Tp.Sl w' a 3 1 (Id.ic [0, 0, 0])) ∧ Below W.heap.size W w' := by
  refine (id_works 200 a Id.three c W hs (by simp) Id.len3).mono ?_
  rintro e w' ⟨hb, he⟩
  rw [if_pos Id.x_works1.1] at he
  obtain ⟨a', c', rfl, ho⟩ := he
  have h2 : Id.wrks Id.three.length (Id.gr 200 Id.three) = [0, 0, 0] := Id.x_works1.2
  rw [h2] at ho
  exact ⟨⟨a', c', rfl, Id.sl_congr ho fun i j _ _ => Id.nc_ic _ _ _⟩, hb⟩
theorem sn_works2 (a : Option Addr) (c : Nat) (W : World) (hs : Id.Sls W a 14 Id.sgc Id.three) : Calls Try.prog 22 #[.slice a 3 c, .int .i64 180] W fun e w' => (∃ a c, e = .returned (.tuple #[.slice a 3 c, .int .i64 0]) ∧ Tp.Sl w' a 3 1 (Id.ic [0, 1, 2])) ∧ Below W.heap.size W w' := by
  refine (id_works 180 a Id.three c W hs (by simp) Id.len3).mono ?_
  rintro e w' ⟨hb, he⟩
  rw [if_pos Id.x_works2.1] at he
  obtain ⟨a', c', rfl, ho⟩ := he
  have h2 : Id.wrks Id.three.length (Id.gr 180 Id.three) = [0, 1, 2] := Id.x_works2.2
  rw [h2] at ho
  exact ⟨⟨a', c', rfl, Id.sl_congr ho fun i j _ _ => Id.nc_ic _ _ _⟩, hb⟩
theorem sn_same4 (a : Option Addr) (c : Nat) (W : World) (hs : Id.Sls W a 14 Id.sgc [Id.edl 0 [1, 2, 3, 4], Id.edl 0 [1, 2, 3, 9]]) : Calls Try.prog 18 #[.slice a 2 c, .int .i64 0, .int .i64 0, .int .i64 2] W fun e w' => e = .returned (.tuple #[.slice none 0 0, .bool false, .int .i64 1]) ∧ Below W.heap.size W w' := by
  refine (id_same 0 a [Id.edl 0 [1, 2, 3, 4], Id.edl 0 [1, 2, 3, 9]] c 0 2 W hs (by simp) (by intro x hx; simp at hx; rcases hx with rfl | rfl <;> simp [Id.edl_len])).mono ?_
  rintro e w' ⟨hb, he⟩
  rw [if_neg (by rw [Id.x_same4.1]; simp), Id.x_same4.2] at he
  exact ⟨he, hb⟩
end Go.Proofs.Ytdaedjmkolcliaa

namespace Go.Proofs.Ytdaedjmkolcliaa
set_option linter.unusedVariables false
set_option linter.unusedSimpArgs false
open Go.RowKit Go.Shelf

set_option maxRecDepth 100000 in
set_option maxHeartbeats 8000000 in
theorem ja_sane (w : World) : Calls Try.prog 10 #[] w fun e w' => e = .returned (.bool true) ∧ Below w.heap.size w w' := by
  go_enter Try.func10, Try.ntmps10
  have HW := Lib.hid (Below.refl w.heap.size w)
  go_wp2_with fail
  refine (ja_edition [1, -5, 2] _ _ _ (Id.lit_ic [1, -5, 2] rfl) (by decide) (by decide)).mono ?_
  rintro _ x1 ⟨⟨a1, ca1, rfl, e1⟩, hb⟩
  have st : Below w.heap.size w x1 := Below.trans ((Below.refl _ _).alloc (by first | exact Nat.le_refl _ | (simp; done) | (simp; omega)) _) (hb.mono (by first | exact Nat.le_refl _ | (simp; done) | (simp; omega)))
  replace HW := Lib.hid (HW.out.trans (st.mono HW.out.size))
  have He1 := Lib.hid e1
  clear hb st e1
  go_wp2_with fail
  refine (sn_ess1 _ _ _ He1.out).mono ?_
  rintro _ x2 ⟨⟨al, cl, rfl, hl⟩, hb⟩
  have st : Below x1.heap.size x1 x2 := Below.trans (Below.refl _ _) (hb.mono (by first | exact Nat.le_refl _ | (simp; done) | (simp; omega)))
  replace HW := Lib.hid (HW.out.trans (st.mono HW.out.size))
  replace He1 := Lib.hid (He1.out.kept st (Nat.le_refl _))
  have Hl := Lib.hid hl
  clear hb st hl
  clear He1
  go_wp2_with fail
  refine (sn_ess2 _).mono ?_
  rintro _ x3 ⟨⟨an, cn, rfl⟩, hb⟩
  have st : Below x2.heap.size x2 x3 := Below.trans (Below.refl _ _) (hb.mono (by first | exact Nat.le_refl _ | (simp; done) | (simp; omega)))
  replace HW := Lib.hid (HW.out.trans (st.mono HW.out.size))
  replace Hl := Lib.hid (Hl.out.kept st (Nat.le_refl _))
  clear hb st
  go_wp2_with fail
  refine (ja_edition [-1] _ _ _ (Id.lit_ic [-1] rfl) (by decide) (by decide)).mono ?_
  rintro _ x4 ⟨⟨a2, ca2, rfl, e2⟩, hb⟩
  have st : Below x3.heap.size x3 x4 := Below.trans ((Below.refl _ _).alloc (by first | exact Nat.le_refl _ | (simp; done) | (simp; omega)) _) (hb.mono (by first | exact Nat.le_refl _ | (simp; done) | (simp; omega)))
  replace HW := Lib.hid (HW.out.trans (st.mono HW.out.size))
  replace Hl := Lib.hid (Hl.out.kept st (Nat.le_refl _))
  have He2 := Lib.hid e2
  clear hb st e2
  go_wp2_with fail
  refine (sn_near1 _ _ _ He2.out).mono ?_
  rintro _ x5 ⟨rfl, hb⟩
  have st : Below x4.heap.size x4 x5 := Below.trans (Below.refl _ _) (hb.mono (by first | exact Nat.le_refl _ | (simp; done) | (simp; omega)))
  replace HW := Lib.hid (HW.out.trans (st.mono HW.out.size))
  replace Hl := Lib.hid (Hl.out.kept st (Nat.le_refl _))
  replace He2 := Lib.hid (He2.out.kept st (Nat.le_refl _))
  clear hb st
  clear He2
  go_wp2_with fail
  refine (ja_edition [1] _ _ _ (Id.lit_ic [1] rfl) (by decide) (by decide)).mono ?_
  rintro _ x6 ⟨⟨a3, ca3, rfl, e3⟩, hb⟩
  have st : Below x5.heap.size x5 x6 := Below.trans ((Below.refl _ _).alloc (by first | exact Nat.le_refl _ | (simp; done) | (simp; omega)) _) (hb.mono (by first | exact Nat.le_refl _ | (simp; done) | (simp; omega)))
  replace HW := Lib.hid (HW.out.trans (st.mono HW.out.size))
  replace Hl := Lib.hid (Hl.out.kept st (Nat.le_refl _))
  have He3 := Lib.hid e3
  clear hb st e3
  go_wp2_with fail
  refine (sn_near2 _ _ _ He3.out).mono ?_
  rintro _ x7 ⟨rfl, hb⟩
  have st : Below x6.heap.size x6 x7 := Below.trans (Below.refl _ _) (hb.mono (by first | exact Nat.le_refl _ | (simp; done) | (simp; omega)))
  replace HW := Lib.hid (HW.out.trans (st.mono HW.out.size))
  replace Hl := Lib.hid (Hl.out.kept st (Nat.le_refl _))
  replace He3 := Lib.hid (He3.out.kept st (Nat.le_refl _))
  clear hb st
  clear He3
  go_wp2_with fail
  refine (ja_edition [1] _ _ _ (Id.lit_ic [1] rfl) (by decide) (by decide)).mono ?_
  rintro _ x8 ⟨⟨a4, ca4, rfl, e4⟩, hb⟩
  have st : Below x7.heap.size x7 x8 := Below.trans ((Below.refl _ _).alloc (by first | exact Nat.le_refl _ | (simp; done) | (simp; omega)) _) (hb.mono (by first | exact Nat.le_refl _ | (simp; done) | (simp; omega)))
  replace HW := Lib.hid (HW.out.trans (st.mono HW.out.size))
  replace Hl := Lib.hid (Hl.out.kept st (Nat.le_refl _))
  have He4 := Lib.hid e4
  clear hb st e4
  go_wp2_with fail
  refine (sn_near3 _ _ _ He4.out).mono ?_
  rintro _ x9 ⟨rfl, hb⟩
  have st : Below x8.heap.size x8 x9 := Below.trans (Below.refl _ _) (hb.mono (by first | exact Nat.le_refl _ | (simp; done) | (simp; omega)))
  replace HW := Lib.hid (HW.out.trans (st.mono HW.out.size))
  replace Hl := Lib.hid (Hl.out.kept st (Nat.le_refl _))
  replace He4 := Lib.hid (He4.out.kept st (Nat.le_refl _))
  clear hb st
  clear He4
  go_wp2_with fail
  refine (sn_near4 _).mono ?_
  rintro _ x10 ⟨rfl, hb⟩
  have st : Below x9.heap.size x9 x10 := Below.trans (Below.refl _ _) (hb.mono (by first | exact Nat.le_refl _ | (simp; done) | (simp; omega)))
  replace HW := Lib.hid (HW.out.trans (st.mono HW.out.size))
  replace Hl := Lib.hid (Hl.out.kept st (Nat.le_refl _))
  clear hb st
  go_wp2_with fail
  refine (ja_edition [1, 2, 3, 4] _ _ _ (Id.lit_ic [1, 2, 3, 4] rfl) (by decide) (by decide)).mono ?_
  rintro _ x11 ⟨⟨b1, cb1, rfl, t1⟩, hb⟩
  have st : Below x10.heap.size x10 x11 := Below.trans ((Below.refl _ _).alloc (by first | exact Nat.le_refl _ | (simp; done) | (simp; omega)) _) (hb.mono (by first | exact Nat.le_refl _ | (simp; done) | (simp; omega)))
  replace HW := Lib.hid (HW.out.trans (st.mono HW.out.size))
  replace Hl := Lib.hid (Hl.out.kept st (Nat.le_refl _))
  have Ht1 := Lib.hid t1
  clear hb st t1
  go_wp2_with fail
  refine (ja_edition [1, 2, 3, 9] _ _ _ (Id.lit_ic [1, 2, 3, 9] rfl) (by decide) (by decide)).mono ?_
  rintro _ x12 ⟨⟨b2, cb2, rfl, t2⟩, hb⟩
  have st : Below x11.heap.size x11 x12 := Below.trans ((Below.refl _ _).alloc (by first | exact Nat.le_refl _ | (simp; done) | (simp; omega)) _) (hb.mono (by first | exact Nat.le_refl _ | (simp; done) | (simp; omega)))
  replace HW := Lib.hid (HW.out.trans (st.mono HW.out.size))
  replace Hl := Lib.hid (Hl.out.kept st (Nat.le_refl _))
  replace Ht1 := Lib.hid (Ht1.out.kept st (Nat.le_refl _))
  have Ht2 := Lib.hid t2
  clear hb st t2
  go_wp2_with fail
  refine (ja_edition [1, 2, 8, 9] _ _ _ (Id.lit_ic [1, 2, 8, 9] rfl) (by decide) (by decide)).mono ?_
  rintro _ x13 ⟨⟨b3, cb3, rfl, t3⟩, hb⟩
  have st : Below x12.heap.size x12 x13 := Below.trans ((Below.refl _ _).alloc (by first | exact Nat.le_refl _ | (simp; done) | (simp; omega)) _) (hb.mono (by first | exact Nat.le_refl _ | (simp; done) | (simp; omega)))
  replace HW := Lib.hid (HW.out.trans (st.mono HW.out.size))
  replace Hl := Lib.hid (Hl.out.kept st (Nat.le_refl _))
  replace Ht1 := Lib.hid (Ht1.out.kept st (Nat.le_refl _))
  replace Ht2 := Lib.hid (Ht2.out.kept st (Nat.le_refl _))
  have Ht3 := Lib.hid t3
  clear hb st t3
  have HT := Lib.hid (Id.three_sls (a := Id.edl 0 [1, 2, 3, 4]) (b := Id.edl 0 [1, 2, 3, 9]) (c := Id.edl 0 [1, 2, 8, 9]) (World.alloc_heap_new x13 (.cells #[.slice b1 4 cb1, .slice b2 4 cb2, .slice b3 4 cb3] 22)) (Ht1.out.kept ((Below.refl _ _).alloc (Nat.le_refl _) _) (Nat.le_refl _)) (Ht2.out.kept ((Below.refl _ _).alloc (Nat.le_refl _) _) (Nat.le_refl _)) (Ht3.out.kept ((Below.refl _ _).alloc (Nat.le_refl _) _) (Nat.le_refl _)))
  clear Ht1 Ht2 Ht3
  go_wp2_with fail
  refine (sn_same1 _ _ _ HT.out).mono ?_
  rintro _ x14 ⟨⟨ac, cc, rfl, hc⟩, hb⟩
  have st : Below x13.heap.size x13 x14 := Below.trans ((Below.refl _ _).alloc (by first | exact Nat.le_refl _ | (simp; done) | (simp; omega)) _) (hb.mono (by first | exact Nat.le_refl _ | (simp; done) | (simp; omega)))
  replace HW := Lib.hid (HW.out.trans (st.mono HW.out.size))
  replace Hl := Lib.hid (Hl.out.kept st (Nat.le_refl _))
  replace HT := Lib.hid (HT.out.kept hb (Nat.le_refl _))
  have Hc := Lib.hid hc
  clear hb st hc
  go_wp2_with fail
  refine (sn_apart1 _ _ _ HT.out).mono ?_
  rintro _ x15 ⟨rfl, hb⟩
  have st : Below x14.heap.size x14 x15 := Below.trans (Below.refl _ _) (hb.mono (by first | exact Nat.le_refl _ | (simp; done) | (simp; omega)))
  replace HW := Lib.hid (HW.out.trans (st.mono HW.out.size))
  replace Hl := Lib.hid (Hl.out.kept st (Nat.le_refl _))
  replace HT := Lib.hid (HT.out.kept st (Nat.le_refl _))
  replace Hc := Lib.hid (Hc.out.kept st (Nat.le_refl _))
  clear hb st
  go_wp2_with fail
  refine (sn_apart2 _ _ _ HT.out).mono ?_
  rintro _ x16 ⟨⟨as_, cs, rfl, hs⟩, hb⟩
  have st : Below x15.heap.size x15 x16 := Below.trans (Below.refl _ _) (hb.mono (by first | exact Nat.le_refl _ | (simp; done) | (simp; omega)))
  replace HW := Lib.hid (HW.out.trans (st.mono HW.out.size))
  replace Hl := Lib.hid (Hl.out.kept st (Nat.le_refl _))
  replace HT := Lib.hid (HT.out.kept st (Nat.le_refl _))
  replace Hc := Lib.hid (Hc.out.kept st (Nat.le_refl _))
  have Hs := Lib.hid hs
  clear hb st hs
  go_wp2_with fail
  refine (sn_same2 _ _ _ HT.out).mono ?_
  rintro _ x17 ⟨rfl, hb⟩
  have st : Below x16.heap.size x16 x17 := Below.trans (Below.refl _ _) (hb.mono (by first | exact Nat.le_refl _ | (simp; done) | (simp; omega)))
  replace HW := Lib.hid (HW.out.trans (st.mono HW.out.size))
  replace Hl := Lib.hid (Hl.out.kept st (Nat.le_refl _))
  replace HT := Lib.hid (HT.out.kept st (Nat.le_refl _))
  replace Hc := Lib.hid (Hc.out.kept st (Nat.le_refl _))
  replace Hs := Lib.hid (Hs.out.kept st (Nat.le_refl _))
  clear hb st
  go_wp2_with fail
  refine (sn_works1 _ _ _ HT.out).mono ?_
  rintro _ x18 ⟨⟨ao, co, rfl, ho⟩, hb⟩
  have st : Below x17.heap.size x17 x18 := Below.trans (Below.refl _ _) (hb.mono (by first | exact Nat.le_refl _ | (simp; done) | (simp; omega)))
  replace HW := Lib.hid (HW.out.trans (st.mono HW.out.size))
  replace Hl := Lib.hid (Hl.out.kept st (Nat.le_refl _))
  replace HT := Lib.hid (HT.out.kept st (Nat.le_refl _))
  replace Hc := Lib.hid (Hc.out.kept st (Nat.le_refl _))
  replace Hs := Lib.hid (Hs.out.kept st (Nat.le_refl _))
  have Ho := Lib.hid ho
  clear hb st ho
  go_wp2_with fail
  refine (sn_works2 _ _ _ HT.out).mono ?_
  rintro _ x19 ⟨⟨ae, ce, rfl, he⟩, hb⟩
  have st : Below x18.heap.size x18 x19 := Below.trans (Below.refl _ _) (hb.mono (by first | exact Nat.le_refl _ | (simp; done) | (simp; omega)))
  replace HW := Lib.hid (HW.out.trans (st.mono HW.out.size))
  replace Hl := Lib.hid (Hl.out.kept st (Nat.le_refl _))
  replace HT := Lib.hid (HT.out.kept st (Nat.le_refl _))
  replace Hc := Lib.hid (Hc.out.kept st (Nat.le_refl _))
  replace Hs := Lib.hid (Hs.out.kept st (Nat.le_refl _))
  replace Ho := Lib.hid (Ho.out.kept st (Nat.le_refl _))
  have He := Lib.hid he
  clear hb st he
  go_wp2_with fail
  refine (sn_same3 _ _ _ HT.out).mono ?_
  rintro _ x20 ⟨⟨aw, cw, rfl, hw⟩, hb⟩
  have st : Below x19.heap.size x19 x20 := Below.trans (Below.refl _ _) (hb.mono (by first | exact Nat.le_refl _ | (simp; done) | (simp; omega)))
  replace HW := Lib.hid (HW.out.trans (st.mono HW.out.size))
  replace Hl := Lib.hid (Hl.out.kept st (Nat.le_refl _))
  replace HT := Lib.hid (HT.out.kept st (Nat.le_refl _))
  replace Hc := Lib.hid (Hc.out.kept st (Nat.le_refl _))
  replace Hs := Lib.hid (Hs.out.kept st (Nat.le_refl _))
  replace Ho := Lib.hid (Ho.out.kept st (Nat.le_refl _))
  replace He := Lib.hid (He.out.kept st (Nat.le_refl _))
  have Hw := Lib.hid hw
  clear hb st hw
  go_wp2_with fail
  refine (sn_same4 _ _ _ (Id.sls_two HT.out)).mono ?_
  rintro _ x21 ⟨rfl, hb⟩
  have st : Below x20.heap.size x20 x21 := Below.trans (Below.refl _ _) (hb.mono (by first | exact Nat.le_refl _ | (simp; done) | (simp; omega)))
  replace HW := Lib.hid (HW.out.trans (st.mono HW.out.size))
  replace Hl := Lib.hid (Hl.out.kept st (Nat.le_refl _))
  replace HT := Lib.hid (HT.out.kept st (Nat.le_refl _))
  replace Hc := Lib.hid (Hc.out.kept st (Nat.le_refl _))
  replace Hs := Lib.hid (Hs.out.kept st (Nat.le_refl _))
  replace Ho := Lib.hid (Ho.out.kept st (Nat.le_refl _))
  replace He := Lib.hid (He.out.kept st (Nat.le_refl _))
  replace Hw := Lib.hid (Hw.out.kept st (Nat.le_refl _))
  clear hb st
  clear HT
  go_wp2_with fail
  refine (ja_sameints [8388736, 8388864] [8388736, 8388864] _ _ _ _ _ ((Hl).out.kept ((Below.refl _ _).alloc (Nat.le_refl _) _) (Nat.le_refl _)) (Id.lit_ic [8388736, 8388864] rfl) (by simp) (by simp)).mono ?_
  rintro _ x22 ⟨rfl, hb⟩
  have st : Below x21.heap.size x21 x22 := Below.trans ((Below.refl _ _).alloc (by first | exact Nat.le_refl _ | (simp; done) | (simp; omega)) _) (hb.mono (by first | exact Nat.le_refl _ | (simp; done) | (simp; omega)))
  replace HW := Lib.hid (HW.out.trans (st.mono HW.out.size))
  replace Hl := Lib.hid (Hl.out.kept st (Nat.le_refl _))
  replace Hc := Lib.hid (Hc.out.kept st (Nat.le_refl _))
  replace Hs := Lib.hid (Hs.out.kept st (Nat.le_refl _))
  replace Ho := Lib.hid (Ho.out.kept st (Nat.le_refl _))
  replace He := Lib.hid (He.out.kept st (Nat.le_refl _))
  replace Hw := Lib.hid (Hw.out.kept st (Nat.le_refl _))
  clear hb st
  clear Hl
  go_wp2_with fail
  refine (ja_sameints [0, 1, 2] [0, 1, 2] _ _ _ _ _ ((Hc).out.kept ((Below.refl _ _).alloc (Nat.le_refl _) _) (Nat.le_refl _)) (Id.lit_ic [0, 1, 2] rfl) (by simp) (by simp)).mono ?_
  rintro _ x23 ⟨rfl, hb⟩
  have st : Below x22.heap.size x22 x23 := Below.trans ((Below.refl _ _).alloc (by first | exact Nat.le_refl _ | (simp; done) | (simp; omega)) _) (hb.mono (by first | exact Nat.le_refl _ | (simp; done) | (simp; omega)))
  replace HW := Lib.hid (HW.out.trans (st.mono HW.out.size))
  replace Hc := Lib.hid (Hc.out.kept st (Nat.le_refl _))
  replace Hs := Lib.hid (Hs.out.kept st (Nat.le_refl _))
  replace Ho := Lib.hid (Ho.out.kept st (Nat.le_refl _))
  replace He := Lib.hid (He.out.kept st (Nat.le_refl _))
  replace Hw := Lib.hid (Hw.out.kept st (Nat.le_refl _))
  clear hb st
  clear Hc
  go_wp2_with fail
  refine (ja_samebools [true, false, false] [true, false, false] _ _ _ _ _ ((Hs).out.kept ((Below.refl _ _).alloc (Nat.le_refl _) _) (Nat.le_refl _)) (Id.lit_bc [true, false, false] rfl) (by simp) (by simp)).mono ?_
  rintro _ x24 ⟨rfl, hb⟩
  have st : Below x23.heap.size x23 x24 := Below.trans ((Below.refl _ _).alloc (by first | exact Nat.le_refl _ | (simp; done) | (simp; omega)) _) (hb.mono (by first | exact Nat.le_refl _ | (simp; done) | (simp; omega)))
  replace HW := Lib.hid (HW.out.trans (st.mono HW.out.size))
  replace Hs := Lib.hid (Hs.out.kept st (Nat.le_refl _))
  replace Ho := Lib.hid (Ho.out.kept st (Nat.le_refl _))
  replace He := Lib.hid (He.out.kept st (Nat.le_refl _))
  replace Hw := Lib.hid (Hw.out.kept st (Nat.le_refl _))
  clear hb st
  clear Hs
  go_wp2_with fail
  refine (ja_sameints [0, 0, 0] [0, 0, 0] _ _ _ _ _ ((Ho).out.kept ((Below.refl _ _).alloc (Nat.le_refl _) _) (Nat.le_refl _)) (Id.lit_ic [0, 0, 0] rfl) (by simp) (by simp)).mono ?_
  rintro _ x25 ⟨rfl, hb⟩
  have st : Below x24.heap.size x24 x25 := Below.trans ((Below.refl _ _).alloc (by first | exact Nat.le_refl _ | (simp; done) | (simp; omega)) _) (hb.mono (by first | exact Nat.le_refl _ | (simp; done) | (simp; omega)))
  replace HW := Lib.hid (HW.out.trans (st.mono HW.out.size))
  replace Ho := Lib.hid (Ho.out.kept st (Nat.le_refl _))
  replace He := Lib.hid (He.out.kept st (Nat.le_refl _))
  replace Hw := Lib.hid (Hw.out.kept st (Nat.le_refl _))
  clear hb st
  clear Ho
  go_wp2_with fail
  refine (ja_sameints [0, 1, 2] [0, 1, 2] _ _ _ _ _ ((He).out.kept ((Below.refl _ _).alloc (Nat.le_refl _) _) (Nat.le_refl _)) (Id.lit_ic [0, 1, 2] rfl) (by simp) (by simp)).mono ?_
  rintro _ x26 ⟨rfl, hb⟩
  have st : Below x25.heap.size x25 x26 := Below.trans ((Below.refl _ _).alloc (by first | exact Nat.le_refl _ | (simp; done) | (simp; omega)) _) (hb.mono (by first | exact Nat.le_refl _ | (simp; done) | (simp; omega)))
  replace HW := Lib.hid (HW.out.trans (st.mono HW.out.size))
  replace He := Lib.hid (He.out.kept st (Nat.le_refl _))
  replace Hw := Lib.hid (Hw.out.kept st (Nat.le_refl _))
  clear hb st
  clear He
  go_wp2_with fail
  refine (ja_sameints [1] [1] _ _ _ _ _ ((Hw).out.kept ((Below.refl _ _).alloc (Nat.le_refl _) _) (Nat.le_refl _)) (Id.lit_ic [1] rfl) (by simp) (by simp)).mono ?_
  rintro _ x27 ⟨rfl, hb⟩
  have st : Below x26.heap.size x26 x27 := Below.trans ((Below.refl _ _).alloc (by first | exact Nat.le_refl _ | (simp; done) | (simp; omega)) _) (hb.mono (by first | exact Nat.le_refl _ | (simp; done) | (simp; omega)))
  replace HW := Lib.hid (HW.out.trans (st.mono HW.out.size))
  replace Hw := Lib.hid (Hw.out.kept st (Nat.le_refl _))
  clear hb st
  clear Hw
  go_wp2
  go_ret
  exact ⟨rfl, HW.out⟩
end Go.Proofs.Ytdaedjmkolcliaa
