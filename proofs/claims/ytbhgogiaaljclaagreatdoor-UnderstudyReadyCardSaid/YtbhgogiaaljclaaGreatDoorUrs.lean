/- The library's slices.SortFunc, laid at a slice of ints: each body, each type, compared by the kernel. Walks: the library's SortFunc at ints, as Ready uses it. -/
import Derived.Test.YtbhgogiaaljclaaGreatDoorProg
import Derived.Shelf.SlSortCmp.Whole1
import Derived.Test.YtbhgogiaaljclaaGreatDoorUux
import Derived.Shelf.SlSortCmp.NoneTotal
set_option linter.unusedSimpArgs false
set_option linter.unusedVariables false
set_option maxHeartbeats 1000000
namespace Go.Proofs.YtbhgogiaaljclaaGreatDoor
open Go.Shelf
def sortInts_ren : Go.Shelf.Ren := ⟨fun | 6 => 43 | 15 => 82 | 14 => 81 | 28 => 138 | 29 => 139 | 20 => 130 | 21 => 131 | 22 => 132 | 23 => 133 | 24 => 134 | 25 => 135 | 26 => 136 | 27 => 137 | 46 => 188 | 47 => 189 | 48 => 190 | 49 => 191 | 50 => 192 | 57 => 229 | n => n, fun | 22 => 44 | 24 => 3 | 25 => 107 | 3 => 3 | 39 => 147 | 0 => 0 | 53 => 213 | 55 => 215 | 4 => 4 | 46 => 207 | 45 => 206 | 50 => 99 | 5 => 5 | 9 => 9 | 66 => 259 | 70 => 161 | 76 => 286 | 77 => 287 | n => n, fun | n => n⟩
theorem sortInts : Go.Proofs.SlLaysF.n6 Tryz.prog sortInts_ren where
 mixed := by kernel_rfl
 f6 := ⟨Tryz.f43.name, by decide, Tryz.func43.trans (congrArg some (by kernel_rfl))⟩
 f14 := ⟨Tryz.f81.name, by decide, Tryz.func81.trans (congrArg some (by kernel_rfl))⟩
 f15 := Tryz.func82.trans (congrArg some (by kernel_rfl))
 f20 := ⟨Tryz.f130.name, by decide, Tryz.func130.trans (congrArg some (by kernel_rfl))⟩
 f21 := ⟨Tryz.f131.name, by decide, Tryz.func131.trans (congrArg some (by kernel_rfl))⟩
 f22 := ⟨Tryz.f132.name, by decide, Tryz.func132.trans (congrArg some (by kernel_rfl))⟩
 f23 := ⟨Tryz.f133.name, by decide, Tryz.func133.trans (congrArg some (by kernel_rfl))⟩
 f24 := ⟨Tryz.f134.name, by decide, Tryz.func134.trans (congrArg some (by kernel_rfl))⟩
 f25 := ⟨Tryz.f135.name, by decide, Tryz.func135.trans (congrArg some (by kernel_rfl))⟩
 f26 := ⟨Tryz.f136.name, by decide, Tryz.func136.trans (congrArg some (by kernel_rfl))⟩
 f27 := ⟨Tryz.f137.name, by decide, Tryz.func137.trans (congrArg some (by kernel_rfl))⟩
 f28 := Tryz.func138.trans (congrArg some (by kernel_rfl))
 f29 := Tryz.func139.trans (congrArg some (by kernel_rfl))
 f46 := ⟨Tryz.f188.name, by decide, Tryz.func188.trans (congrArg some (by kernel_rfl))⟩
 f47 := Tryz.func189.trans (congrArg some (by kernel_rfl))
 f48 := Tryz.func190.trans (congrArg some (by kernel_rfl))
 f49 := ⟨Tryz.f191.name, by decide, Tryz.func191.trans (congrArg some (by kernel_rfl))⟩
 f50 := ⟨Tryz.f192.name, by decide, Tryz.func192.trans (congrArg some (by kernel_rfl))⟩
 f57 := ⟨Tryz.f229.name, by decide, Tryz.func229.trans (congrArg some (by kernel_rfl))⟩
 t0 := Tryz.underlying0
 a0 := Tryz.isAgg0
 z0 := Tryz.sizeOf0
 v0 := Tryz.zeroValue0
 t3 := Tryz.underlying3
 a3 := Tryz.isAgg3
 z3 := Tryz.sizeOf3
 v3 := Tryz.zeroValue3
 t4 := Tryz.underlying4
 a4 := Tryz.isAgg4
 z4 := Tryz.sizeOf4
 v4 := Tryz.zeroValue4
 t5 := Tryz.underlying5
 a5 := Tryz.isAgg5
 z5 := Tryz.sizeOf5
 v5 := Tryz.zeroValue5
 t9 := Tryz.underlying9
 a9 := Tryz.isAgg9
 z9 := Tryz.sizeOf9
 v9 := Tryz.zeroValue9
 t22 := Tryz.underlying44
 a22 := Tryz.isAgg44
 z22 := Tryz.sizeOf44
 v22 := Tryz.zeroValue44
 a24 := Tryz.isAgg3
 z24 := Tryz.sizeOf3
 t25 := Tryz.underlying107
 a25 := Tryz.isAgg107
 z25 := Tryz.sizeOf107
 v25 := Tryz.zeroValue107
 t39 := Tryz.underlying147
 a39 := Tryz.isAgg147
 z39 := Tryz.sizeOf147
 v39 := Tryz.zeroValue147
 t45 := Tryz.underlying206
 a45 := Tryz.isAgg206
 z45 := Tryz.sizeOf206
 v45 := Tryz.zeroValue206
 t46 := Tryz.underlying207
 a46 := Tryz.isAgg207
 z46 := Tryz.sizeOf207
 v46 := Tryz.zeroValue207
 t50 := Tryz.underlying99
 a50 := Tryz.isAgg99
 z50 := Tryz.sizeOf99
 v50 := Tryz.zeroValue99
 t53 := Tryz.underlying213
 a53 := Tryz.isAgg213
 z53 := Tryz.sizeOf213
 v53 := Tryz.zeroValue213
 t55 := Tryz.underlying215
 a55 := Tryz.isAgg215
 z55 := Tryz.sizeOf215
 v55 := Tryz.zeroValue215
 t66 := Tryz.underlying259
 a66 := Tryz.isAgg259
 z66 := Tryz.sizeOf259
 v66 := Tryz.zeroValue259
 t70 := Tryz.underlying161
 a70 := Tryz.isAgg161
 z70 := Tryz.sizeOf161
 v70 := Tryz.zeroValue161
 t76 := Tryz.underlying286
 a76 := Tryz.isAgg286
 z76 := Tryz.sizeOf286
 v76 := Tryz.zeroValue286
 t77 := Tryz.underlying287
 a77 := Tryz.isAgg287
 z77 := Tryz.sizeOf287
 v77 := Tryz.zeroValue287
end Go.Proofs.YtbhgogiaaljclaaGreatDoor

namespace Go.Proofs.YtbhgogiaaljclaaGreatDoor
open Go.RowKit Go.Shelf Go.Lib Go.Sort
namespace Un
abbrev Who (pr : List Int) := { p : Nat // p < pr.length }
def whoV (pr : List Int) (p : Who pr) : Value := .int .i64 p.1
def whoC (pr : List Int) (p q : Who pr) : Int := byC pr p.1 q.1
theorem byC_lt (pr : List Int) (p q : Nat) : (byC pr p q < 0) ↔ (pr.getD p 0 < pr.getD q 0 ∨ (pr.getD p 0 = pr.getD q 0 ∧ p < q)) := by
 unfold byC Ra.sg
 generalize pr.getD p 0 = a
 generalize pr.getD q 0 = b
 by_cases a1 : a < b <;> by_cases a2 : b < a <;> by_cases b1 : (p : Int) < q <;> by_cases b2 : (q : Int) < p <;> simp [a1, a2, b1, b2] <;> omega
theorem who_swo (pr : List Int) : SWO (ltOf (whoC pr)) where
 irrefl x := by unfold ltOf whoC; apply decide_eq_false; rw [byC_lt]; omega
 trans x y z h1 h2 := by unfold ltOf whoC at *; simp only [decide_eq_true_eq] at *; rw [byC_lt] at *; omega
 ntrans x y z h1 h2 := by unfold ltOf whoC at *; simp only [decide_eq_false_iff_not] at *; rw [byC_lt] at *; omega
theorem srt_row {α : Type} [Inhabited α] {enc : α → Value} {w : World} {g n : Nat} {cur : Array Value} {t : TypeId} {d : Array α} {os : Array Obj} (hg : w.heap[g]? = some (.cells cur t (0, 0))) :
  (sortWorld enc w g 0 n d os).heap[g]? = some (.cells (putCells enc 0 d cur) t (0, 0)) := by
 have hlt := (Array.getElem?_eq_some_iff.1 hg).1
 show ((w.heap.modify g (onCells (putCells enc 0 d))) ++ os)[g]? = _
 rw [Array.getElem?_append_left (by simpa using hlt), Array.getElem?_modify, if_pos rfl, hg]
 rfl
theorem srt_exc {α : Type} [Inhabited α] (enc : α → Value) (w : World) (g n : Nat) (d : Array α) (os : Array Obj) : Kit.Exc (fun k => k = g) w (sortWorld enc w g 0 n d os) := by
 refine ⟨rfl, rfl, rfl, ?_, fun k hk hn => ?_⟩
 ·show w.heap.size ≤ ((w.heap.modify g (onCells (putCells enc 0 d))) ++ os).size
  simp
 ·show ((w.heap.modify g (onCells (putCells enc 0 d))) ++ os)[k]? = _
  rw [Array.getElem?_append_left (by simpa using hk), Array.getElem?_modify, if_neg (fun e => hn e.symm)]
theorem sl_exc {w w' : World} {a : Option Addr} {n k : Nat} {f : Nat → Nat → Value} (h : Tp.Sl w a n k f) {S : Nat → Prop} (hx : Kit.Exc S w w') (hS : ∀ ad, a = some ad → n ≠ 0 → ¬ S ad.block) : Tp.Sl w' a n k f := by
 rcases h with h | ⟨ad, h1, h2, h3⟩
 ·exact .inl h
 ·by_cases hn : n = 0
  ·exact .inl hn
  ·exact .inr ⟨ad, h1, Nat.lt_of_lt_of_le h2 hx.size, fun i j hi hj => (World.cell?_of_block (hx.block _ (by rw [Tp.add_block]; exact h2) (by rw [Tp.add_block]; exact hS ad h1 hn))).trans (h3 i j hi hj)⟩
def ints (l : List Nat) : List Value := l.map fun p => .int .i64 (p : Nat)
end Un
theorem un_sort (pr : List Int) (a : Option Addr) (c b bb bl k : Nat) (v : Value) (s : Nat) (l : List Nat) (w : World) (hlt : ∀ p ∈ l, p < pr.length) (hlp : pr.length ≤ 4611686018427387904) (hbl : l.length ≤ 1000000000) (hO : w.ownsRow s 3 1 v l.length (Un.ints l))
  (hb : w.cell? ⟨b, 0, none⟩ = some (.slice a pr.length c)) (hS : Tp.Sl w a pr.length 1 (Un.ic pr)) (hbb : w.cell? ⟨bb, 0, none⟩ = some (.slice (some ⟨bl, 0, none⟩) 2 k)) (h0 : w.cell? ⟨bl, 0, none⟩ = some (.func (.func 45) #[] #[.pointer (some ⟨b, 0, none⟩)])) (h1 : w.cell? ⟨bl, 1, none⟩ = some (.func (.func 46) #[] #[]))
  (zb : b < w.heap.size ∧ bb < w.heap.size ∧ bl < w.heap.size) (hne : ∀ g, v.ownBlock = some g → g ≠ b ∧ g ≠ bb ∧ g ≠ bl ∧ ∀ ad, a = some ad → pr.length ≠ 0 → ad.block ≠ g) :
  Calls Tryz.prog 43 #[v, .func (.func 83) #[] #[.pointer (some ⟨bb, 0, none⟩)]] w
   fun e w' => e = .returned (.tuple #[]) ∧ ∃ l' : List Nat, l'.Perm l ∧ l'.Pairwise (fun p q => pr.getD p 0 < pr.getD q 0 ∨ (pr.getD p 0 = pr.getD q 0 ∧ p ≤ q)) ∧ w'.ownsRow s 3 1 v l'.length (Un.ints l') ∧ Kit.Exc (fun g => v.ownBlock = some g) w w' := by
 by_cases hz : l = []
 ·subst hz
  rcases hO.2 with ⟨rfl, hl⟩ | ⟨g, cap, cur, rfl, hg, hh, h1, h2, h3, h4⟩
  ·refine (AnyF.slices_SortFunc_none { sortInts with } none 0 _ w).mono ?_
   rintro e w' ⟨rfl, rfl⟩
   exact ⟨rfl, [], List.Perm.refl _, List.Pairwise.nil, hO, Kit.Exc.refl _ _⟩
  ·refine (AnyF.slices_SortFunc_none { sortInts with } _ _ _ w).mono ?_
   rintro e w' ⟨rfl, rfl⟩
   exact ⟨rfl, [], List.Perm.refl _, List.Pairwise.nil, hO, Kit.Exc.refl _ _⟩
 ·obtain ⟨p0, hp0⟩ := List.exists_mem_of_ne_nil l hz
  haveI : Inhabited (Un.Who pr) := ⟨⟨p0, hlt p0 hp0⟩⟩
  have hpos : 0 < l.length := List.length_pos_of_mem hp0
  rcases hO.2 with ⟨rfl, hl⟩ | ⟨g, cap, cur, rfl, hg, hh, h1c, h2, h3, h4⟩
  ·omega
  ·have hgl := (Array.getElem?_eq_some_iff.1 hh).1
   obtain ⟨hgb, hgbb, hgbl, hga⟩ := hne g rfl
   obtain ⟨d, hd⟩ : ∃ d : List (Un.Who pr), d.map (·.1) = l := ⟨l.attachWith (fun p => p < pr.length) hlt, by simp⟩
   have hdl : d.length = l.length := by rw [← hd]; simp
   have hints : Un.ints l = d.map (Un.whoV pr) := by unfold Un.ints; rw [← hd, List.map_map]; rfl
   have hH : Holds (Un.whoV pr) w g 0 d.toArray := fun j hj => by
    have hj' : j < d.length := by simpa using hj
    refine ⟨?_, frozen_of_row _ _ _ _ _ hh⟩
    simp only [World.cell?, hh, Nat.zero_add]
    have e1 : (cur.toList.take (l.length * 1))[j]? = some (Un.whoV pr d[j]) := by rw [h4, hints]; simp [hj']
    rw [List.getElem?_take_of_lt omg] at e1
    have e2 : d.toArray[j]! = d[j] := by simp [hj']
    rw [e2, ← e1]
    simp
   have hcmp : CmpLays1 Tryz.prog 83 #[.pointer (some ⟨bb, 0, none⟩)] (Un.whoV pr) (Un.whoC pr) g 0 d.toArray.size w := fun m os dk _ x y => by
    have hx := Un.srt_exc (Un.whoV pr) w g m dk os
    refine (un_by pr a c x.1 y.1 b bb bl k _ x.2 y.2 hlp (hx.cell hb (fun e => hgb e.symm) zb.1) (Un.sl_exc hS hx (fun ad e hn => hga ad e hn)) (hx.cell hbb (fun e => hgbb e.symm) zb.2.1) (hx.cell h0 (fun e => hgbl e.symm) zb.2.2) (hx.cell h1 (fun e => hgbl e.symm) zb.2.2)).mono ?_
    rintro e w' ⟨rfl, rfl⟩
    exact ⟨rfl, 0, #[], by rw [grow_empty]; rfl⟩
   have hcon := Any.slices_SortFunc sortInts (Un.whoV pr) (fun _ => rfl) (Un.whoC pr) (Un.who_swo pr) 83 #[.pointer (some ⟨bb, 0, none⟩)] g 0 cap d.toArray w
    (enters_of Tryz.func83 (by kernel_rfl) rfl) hcmp hH hgl (by simp; omega)
   rw [show d.toArray.size = l.length by simpa using hdl] at hcon
   refine hcon.mono ?_
   rintro e w' ⟨rfl, d', n, os, hp, hs, rfl⟩
   have hsz : d'.size = l.length := by have := hp.1; simp at this; omega
   have hex := Un.srt_exc (Un.whoV pr) w g n d' os
   have hlen : (d'.toList.map (·.1)).length = l.length := by simp [hsz]
   refine ⟨rfl, d'.toList.map (·.1), ?_, ?_, ⟨by unfold Un.ints; simp, .inr ⟨g, cap, putCells (Un.whoV pr) 0 d' cur, by rw [hlen], hg, Un.srt_row hh, by rw [hlen]; exact h1c, h2, by simp [putCells, h3], ?_⟩⟩, hex.mono (fun k _ e => by simp [Value.ownBlock, e])⟩
   ·have h := hp.2.2
    have e1 : d'.extract 0 l.length = d' := by rw [← hsz]; simp
    have e2 : d.toArray.extract 0 l.length = d.toArray := by rw [← hdl]; simp
    rw [e1, e2] at h
    rw [← hd]
    exact (by simpa using h : d'.toList.Perm d).map _
   ·rw [List.pairwise_map, List.pairwise_iff_getElem]
    intro i j hi hj hij
    have hi' : i < d'.size := by simpa using hi
    have hj' : j < d'.size := by simpa using hj
    have h := hs i j (Nat.zero_le _) hij omg
    rw [getElem!_pos d' i hi', getElem!_pos d' j hj'] at h
    unfold ltOf Un.whoC at h
    have h' := of_decide_eq_false h
    rw [Un.byC_lt] at h'
    simp only [Array.getElem_toList]
    omega
   ·rw [hlen]
    apply List.ext_getElem?
    intro p
    by_cases hpp : p < l.length
    ·rw [List.getElem?_take_of_lt omg]
     have e2 : p < cur.size := by omega
     have e3 : p < d'.size := by omega
     simp [putCells, e2, e3, Un.ints, Un.whoV]
    ·rw [List.getElem?_take_eq_none omg, List.getElem?_eq_none (by simp [Un.ints]; omega)]
end Go.Proofs.YtbhgogiaaljclaaGreatDoor
