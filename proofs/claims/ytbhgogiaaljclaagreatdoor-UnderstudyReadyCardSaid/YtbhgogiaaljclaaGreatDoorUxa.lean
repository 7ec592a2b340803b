/- Walks: the laws of layer 48: work. Walks: the laws of layer 48: sane. Walks: the laws of layer 48: SameInts, Few. -/
import Derived.Test.YtbhgogiaaljclaaGreatDoorUuj
import Derived.Test.YtbhgogiaaljclaaGreatDoorKxb
import Derived.Test.YtbhgogiaaljclaaGreatDoorUrz
import Derived.Test.YtbhgogiaaljclaaGreatDoorUux
import Derived.Test.YtbhgogiaaljclaaGreatDoorEx
set_option linter.unusedSimpArgs false
set_option linter.unusedVariables false
set_option maxRecDepth 100000
set_option maxHeartbeats 2000000
namespace Go.Proofs.YtbhgogiaaljclaaGreatDoor
open Go.RowKit Go.Shelf

def Ux.fin (l : List Ex.Sg) : List Ex.Sg := l.mapIdx fun i s => { s with id := i, mark := 1, fn := 0, fd := 1, tn := 1, td := 1 }
def Ux.one (i q : Nat) : Option Value := if q = 0 then some (.int .i64 i) else if q = 3 then some (.int .i64 1) else if q = 10 then some (.int .i64 0) else if 11 ≤ q then some (.int .i64 1) else none
def Ux.uv (l : List Ex.Sg) (k i q : Nat) : Value := if i < k then (Ux.one i q).getD (Ex.sgc l i q) else Ex.sgc l i q
def Ux.WR (W : World) (b : Nat) (l : List Ex.Sg) (k : Nat) : Prop :=
 ∃ cur : Array Value, W.heap[b]? = some (.cells cur 52 (0, 0)) ∧ cur.size = l.length * 14 ∧ ∀ i q, i < l.length → q < 14 → cur[i * 14 + q]? = some (Ux.uv l k i q)
theorem Ux.WR.there {W : World} {b k : Nat} {l : List Ex.Sg} (h : Ux.WR W b l k) {o : Nat} (ho : o < l.length * 14) : (∃ u, W.cell? ⟨b, o, none⟩ = some u) ∧ W.frozen? ⟨b, o, none⟩ = false := by
 obtain ⟨cur, h1, h2, h3⟩ := h
 refine ⟨Option.isSome_iff_exists.1 ?_, frozen_of_row _ _ _ _ _ h1⟩
 simp only [World.cell?, h1]
 have : o < cur.size := by omega
 simp [this]
theorem Ux.WR.lt {W : World} {b k : Nat} {l : List Ex.Sg} (h : Ux.WR W b l k) : b < W.heap.size := by
 obtain ⟨cur, h1, h2, h3⟩ := h
 exact (Array.getElem?_eq_some_iff.1 h1).1
theorem Ux.WR.keep {W W' : World} {b k : Nat} {l : List Ex.Sg} (h : Ux.WR W b l k) (hb : b < W.heap.size → W'.heap[b]? = W.heap[b]?) : Ux.WR W' b l k := by
 obtain ⟨cur, h1, h2, h3⟩ := h
 exact ⟨cur, (hb (Array.getElem?_eq_some_iff.1 h1).1).trans h1, h2, h3⟩
theorem Ux.WR.step {W : World} {b k : Nat} {l : List Ex.Sg} (h : Ux.WR W b l k) (hk : k < l.length) : Ux.WR ((((((W.setCell ⟨b, k * 14, none⟩ (.int .i64 k)).setCell ⟨b, k * 14 + 3, none⟩ (.int .i64 1)).setCell ⟨b, k * 14 + 10, none⟩ (.int .i64 0)).setCell ⟨b, k * 14 + 11, none⟩ (.int .i64 1)).setCell ⟨b, k * 14 + 12, none⟩ (.int .i64 1)).setCell ⟨b, k * 14 + 13, none⟩ (.int .i64 1)) b l (k + 1) := by
 obtain ⟨cur, h1, h2, h3⟩ := h
 refine ⟨_, heap_setCell_same _ b _ _ _ _ (heap_setCell_same _ b _ _ _ _ (heap_setCell_same _ b _ _ _ _ (heap_setCell_same _ b _ _ _ _ (heap_setCell_same _ b _ _ _ _ (heap_setCell_same W b _ _ _ _ h1))))), by simpa using h2, fun i q hi hq => ?_⟩
 have h4 := h3 i q hi hq
 have hsz : k * 14 + 13 < cur.size := by omega
 simp only [Array.getElem?_setIfInBounds, Array.size_setIfInBounds]
 unfold Ux.uv Ux.one at h4 ⊢
 by_cases hik : i = k
 ·subst hik
  rw [if_neg (Nat.lt_irrefl i)] at h4
  have hl : i < i + 1 := by omega
  have z0 : i * 14 < cur.size := by omega
  have z3 : i * 14 + 3 < cur.size := by omega
  have z10 : i * 14 + 10 < cur.size := by omega
  have z11 : i * 14 + 11 < cur.size := by omega
  have z12 : i * 14 + 12 < cur.size := by omega
  simp only [hl, if_true]
  rcases (by omega : q = 0 ∨ q = 1 ∨ q = 2 ∨ q = 3 ∨ q = 4 ∨ q = 5 ∨ q = 6 ∨ q = 7 ∨ q = 8 ∨ q = 9 ∨ q = 10 ∨ q = 11 ∨ q = 12 ∨ q = 13) with rfl | rfl | rfl | rfl | rfl | rfl | rfl | rfl | rfl | rfl | rfl | rfl | rfl | rfl <;> simp [z0, z3, z10, z11, z12, hsz, h4]
 ·have n0 : ¬ k * 14 = i * 14 + q := by omega
  have n3 : ¬ k * 14 + 3 = i * 14 + q := by omega
  have n10 : ¬ k * 14 + 10 = i * 14 + q := by omega
  have n11 : ¬ k * 14 + 11 = i * 14 + q := by omega
  have n12 : ¬ k * 14 + 12 = i * 14 + q := by omega
  have n13 : ¬ k * 14 + 13 = i * 14 + q := by omega
  rw [if_neg n13, if_neg n12, if_neg n11, if_neg n10, if_neg n3, if_neg n0, h4]
  by_cases hlt : i < k
  ·have hl2 : i < k + 1 := by omega
   simp only [hlt, hl2, if_true]
  ·have hl2 : ¬ i < k + 1 := by omega
   simp only [hlt, hl2, if_false]
theorem Ux.fin_len (l : List Ex.Sg) : (Ux.fin l).length = l.length := by simp [Ux.fin]
theorem Ux.fin_sl {W : World} {b : Nat} {l : List Ex.Sg} (h : Ux.WR W b l l.length) : Tp.Sl W (some ⟨b, 0, none⟩) (Ux.fin l).length 14 (Ex.sgc (Ux.fin l)) := by
 have hlt := h.lt
 obtain ⟨cur, h1, h2, h3⟩ := h
 refine .inr ⟨_, rfl, hlt, fun i j hi hj => ?_⟩
 rw [Ux.fin_len] at hi
 rw [Addr.add_lit, Nat.zero_add]
 simp only [World.cell?, h1]
 rw [h3 i j hi hj]
 have e : (Ux.fin l).getD i default = { (l.getD i default) with id := i, mark := 1, fn := 0, fd := 1, tn := 1, td := 1 } := by
  simp [Ux.fin, List.getD, hi]
 unfold Ux.uv Ux.one Ex.sgc
 rw [if_pos hi, e]
 rcases j with _ | _ | _ | _ | _ | _ | _ | _ | _ | _ | _ | _ | _ | _ | j <;> first | rfl | omega
def Ux.wk (l : List Ex.Sg) : Ex.Wk := ⟨20, 20, 1, 0, 1, 3, [(⟨#[97]⟩, 5, 5, 0), (⟨#[98]⟩, 15, 5, 0)], [(0, 1000, 0)], [], [], Ux.fin l⟩
theorem Ux.blk_sl {W : World} {b : Nat} {l : Array Value} {t : TypeId} {n k : Nat} {f : Nat → Nat → Value} (h : W.heap[b]? = some (.cells l t (0, 0))) (hf : ∀ i j, i < n → j < k → l[i * k + j]? = some (f i j)) : Tp.Sl W (some ⟨b, 0, none⟩) n k f := by
 refine .inr ⟨_, rfl, (Array.getElem?_eq_some_iff.1 h).1, fun i j hi hj => ?_⟩
 rw [Addr.add_lit, Nat.zero_add]
 simp only [World.cell?, h]
 exact hf i j hi hj
theorem Ux.exc_tr {S T : Nat → Prop} {A B C : World} (h : Kit.Exc S A B) (k : Kit.Exc T B C) (hT : ∀ b, T b → S b ∨ A.heap.size ≤ b) : Kit.Exc S A C :=
 ⟨k.os.trans h.os, k.tape.trans h.tape, k.output.trans h.output, Nat.le_trans h.size k.size, fun i hi hn => (k.block i (Nat.lt_of_lt_of_le hi h.size) (fun e => by
  rcases hT i e with h | h
  ·exact hn h
  ·omega)).trans (h.block i hi hn)⟩
theorem Ux.wpList_name {P : Program} {ops : Array Oper} {Q : Exit → Act → World → Prop} {l : List Oper} {a : Act} {w : World} (h : ∀ W, W = w → wpList P ops Q l a W) : wpList P ops Q l a w := h w rfl
abbrev Ux.cA (r b n : Nat) : Array Value := #[.int .i64 20, .int .i64 20, .int .i64 1, .int .i64 0, .int .i64 1, .slice (some ⟨r, 0, none⟩) 2 2, .int .i64 3, .slice (some ⟨r + 1, 0, none⟩) 1 1, .slice none 0 0, .slice none 0 0, .slice (some ⟨b, 0, none⟩) n n]
theorem Ux.cA_one (r b n : Nat) : (Ux.cA r b n).all (·.oneCell') = true := by simp [Value.oneCell']
abbrev Ux.z32 : Array Value := #[.int .i64 0, .int .i64 0, .int .i64 0, .int .i64 0, .int .i64 0, .slice none 0 0, .int .i64 0, .slice none 0 0, .slice none 0 0, .slice none 0 0, .slice none 0 0]
theorem Ux.r32 {W : World} {b : Nat} (h : W.heap[b]? = some (.cells Ux.z32 32 (0, 0))) : (∀ q, q < 11 → W.cell? ⟨b, q, none⟩ = some (Ux.z32[q]!)) ∧ ∀ q, W.frozen? ⟨b, q, none⟩ = false := by
 refine ⟨fun q hq => ?_, fun q => by simp [World.frozen?, h]⟩
 simp only [World.cell?, h]
 rcases q with _ | _ | _ | _ | _ | _ | _ | _ | _ | _ | _ | q <;> first | rfl | omega
theorem lw_work (l : List Ex.Sg) (b : Nat) (w : World) (hl : l.length ≤ 1000) (h : Ux.WR w b l 0) :
  Calls Tryz.prog 25 #[.slice (some ⟨b, 0, none⟩) l.length l.length] w fun e w' => ∃ p, e = .returned (Ex.workV (Ux.wk l) p) ∧ Ex.At w' (Ux.wk l) p ∧ Kit.Exc (fun k => k = b) w w' := by
 have H := qh h
 have zb := h.lt
 clear h
 go_enter Tryz.func25, Tryz.ntmps25
 go_wp2
 go_loopw [6] (fun v6 wr => ∃ k : Nat, v6 = .int .i64 k ∧ k ≤ l.length ∧ Hid (Ux.WR wr b l k) ∧ Hid (Kit.Exc (fun k => k = b) w wr) ∧ Hid (wr.heap[w.heap.size]? = some (.cells Ux.z32 32 (0, 0))) ∧ w.heap.size < wr.heap.size)
  (fun v6 _ => l.length - (intOf v6).toNat)
 case atStart => exact ⟨0, rfl, Nat.zero_le _, H.out.keep (fun hl => Below.heap_alloc _ _ _ hl), (Kit.Exc.refl _ w).alloc _, World.alloc_heap_new _ _, by simp⟩
 case round =>
  obtain ⟨k, rfl, hk, HW, HX, HR, hsz⟩ := hrel
  by_cases hlt : k < l.length
  ·obtain ⟨⟨u0, c0⟩, f0⟩ := HW.out.there (o := k * 14) omg
   obtain ⟨⟨u3, c3⟩, f3⟩ := HW.out.there (o := k * 14 + 3) omg
   obtain ⟨⟨u10, c10⟩, f10⟩ := HW.out.there (o := k * 14 + 10) omg
   obtain ⟨⟨u11, c11⟩, f11⟩ := HW.out.there (o := k * 14 + 11) omg
   obtain ⟨⟨u12, c12⟩, f12⟩ := HW.out.there (o := k * 14 + 12) omg
   obtain ⟨⟨u13, c13⟩, f13⟩ := HW.out.there (o := k * 14 + 13) omg
   go_wp2
   go_roundw
   case rel =>
    refine ⟨k + 1, by go_num, by omega, HW.out.step hlt, (((((HX.out.setCell (p := ⟨b, _, none⟩) (.inl rfl) _).setCell (p := ⟨b, _, none⟩) (.inl rfl) _).setCell (p := ⟨b, _, none⟩) (.inl rfl) _).setCell (p := ⟨b, _, none⟩) (.inl rfl) _).setCell (p := ⟨b, _, none⟩) (.inl rfl) _).setCell (p := ⟨b, _, none⟩) (.inl rfl) _, ?_, by simpa using hsz⟩
    iterate 6 (refine (Below.heap_setCell _ _ _ _ (by show w.heap.size ≠ b; omega)).trans ?_)
    exact HR.out
   case measure => simp [intOf]; omega
  ·obtain rfl : k = l.length := by omega
   obtain ⟨X0, hX0⟩ : ∃ X0, X0 = (wr.alloc (.cells #[.string ⟨#[97]⟩, .int .i64 5, .int .i64 5, .int .i64 0, .string ⟨#[98]⟩, .int .i64 15, .int .i64 5, .int .i64 0] 69)).alloc (.cells #[.int .i64 0, .int .i64 1000, .int .i64 0] 136) := ⟨_, rfl⟩
   have E0 : ∀ S, Kit.Exc S wr X0 := fun S => by rw [hX0]; exact ((Kit.Exc.refl S wr).alloc _).alloc _
   have hR0 := (E0 (fun _ => False)).heap HR.out (fun h => h)
   have HTH := qh (show X0.there w.heap.size 0 (Ux.cA wr.heap.size b l.length).size from fun q hq => by
    obtain ⟨h1, h2⟩ := Ux.r32 hR0
    exact ⟨by rw [Nat.zero_add, h1 q hq]; rfl, by rw [Nat.zero_add]; exact h2 q⟩)
   have HIZ : (Tryz.prog.info? 32).map (·.size) = some (Ux.cA wr.heap.size b l.length).size := by kernel_rfl
   have HX0 := qh hX0
   have HRO := qh (show X0.heap[wr.heap.size]? = some (.cells #[.string ⟨#[97]⟩, .int .i64 5, .int .i64 5, .int .i64 0, .string ⟨#[98]⟩, .int .i64 15, .int .i64 5, .int .i64 0] 69) by rw [hX0]; exact (Below.heap_alloc _ _ _ (by simp)).trans (World.alloc_heap_new wr _))
   have HTE := qh (show X0.heap[wr.heap.size + 1]? = some (.cells #[.int .i64 0, .int .i64 1000, .int .i64 0] 136) by
    have := World.alloc_heap_new (wr.alloc (.cells #[.string ⟨#[97]⟩, .int .i64 5, .int .i64 5, .int .i64 0, .string ⟨#[98]⟩, .int .i64 15, .int .i64 5, .int .i64 0] 69)) (.cells #[.int .i64 0, .int .i64 1000, .int .i64 0] 136)
    rw [World.size_alloc] at this
    rw [hX0]; exact this)
   have HW0 := qh (HW.out.keep (W' := X0) (fun hl => (E0 (fun _ => False)).block b hl (fun h => h)))
   have HR0 := qh hR0
   have HX1 := qh (HX.out.trans (E0 _))
   clear E0 hR0 hX0 HW HX HR
   go_wp2_with (first | (at_region 6; fail) | (rw [← HX0.out]; (with_reducible refine Kit.wpList_store_at (ty := 32) (x := .tmp 2) (y := .tmp 37) (p := ⟨w.heap.size, 0, none⟩) (b := w.heap.size) (o := 0) (cells := Ux.cA wr.heap.size b l.length) ?_ ?_ ?_ rfl ?_ HTH.out HIZ (Ux.cA_one _ _ _) ?_); rfl; rfl; rfl; rfl; refine Ux.wpList_name ?_; intro X1 hX1; have HXX := qh hX1; clear hX1))
   have hx1 : Kit.Exc (fun k => k = w.heap.size) X0 X1 := by rw [HXX.out]; exact Kit.Exc.setCells (S := fun k => k = w.heap.size) rfl _ _ (Kit.Exc.refl _ _)
   obtain ⟨cur', hc1, hc2, hc3, hc4⟩ := Kit.heap_setCells w.heap.size _ (Ux.cA wr.heap.size b l.length).toList 0 X0 _ HR0.out
   rw [← HXX.out] at hc1
   have hrd : ∀ q, q < 11 → X1.cell? ⟨w.heap.size, q, none⟩ = (Ux.cA wr.heap.size b l.length).toList[q]? := fun q hq => by
    simp only [World.cell?, hc1]
    have := hc4 q hq (by show 0 + q < 11; omega)
    rwa [Nat.zero_add] at this
   have r0 : X1.cell? ⟨w.heap.size, 0, none⟩ = some (.int .i64 20) := hrd 0 omg
   have r1 : X1.cell? ⟨w.heap.size, 1, none⟩ = some (.int .i64 20) := hrd 1 omg
   have r2 : X1.cell? ⟨w.heap.size, 2, none⟩ = some (.int .i64 1) := hrd 2 omg
   have r3 : X1.cell? ⟨w.heap.size, 3, none⟩ = some (.int .i64 0) := hrd 3 omg
   have r4 : X1.cell? ⟨w.heap.size, 4, none⟩ = some (.int .i64 1) := hrd 4 omg
   have r5 : X1.cell? ⟨w.heap.size, 5, none⟩ = some (.slice (some ⟨wr.heap.size, 0, none⟩) 2 2) := hrd 5 omg
   have r6 : X1.cell? ⟨w.heap.size, 6, none⟩ = some (.int .i64 3) := hrd 6 omg
   have r7 : X1.cell? ⟨w.heap.size, 7, none⟩ = some (.slice (some ⟨wr.heap.size + 1, 0, none⟩) 1 1) := hrd 7 omg
   have r8 : X1.cell? ⟨w.heap.size, 8, none⟩ = some (.slice none 0 0) := hrd 8 omg
   have r9 : X1.cell? ⟨w.heap.size, 9, none⟩ = some (.slice none 0 0) := hrd 9 omg
   have r10 : X1.cell? ⟨w.heap.size, 10, none⟩ = some (.slice (some ⟨b, 0, none⟩) l.length l.length) := hrd 10 omg
   have hH := qh hx1
   clear hrd hc1 hc2 hc3 hc4 hx1
   (refine bodyPost_ret (by simp [results, Tryz.results25, go_sem, Kit.cell_set, r0, r1, r2, r3, r4, r5, r6, r7, r8, r9, r10]; try rfl) rfl ?_)
   have hx1 := hH.out
   refine ⟨⟨some ⟨wr.heap.size, 0, none⟩, 2, some ⟨wr.heap.size + 1, 0, none⟩, 1, none, 0, none, 0, some ⟨b, 0, none⟩, l.length⟩, ?_, ⟨?_, ?_, .inl rfl, .inl rfl, Ux.fin_sl (HW0.out.keep (fun hl => hx1.block b hl omg)), (by show 2 ≤ _; omega), (by show 1 ≤ _; omega), (by show 0 ≤ _; omega), (by show 0 ≤ _; omega), ?_⟩, Ux.exc_tr HX1.out hx1 (fun k e => .inr omg)⟩
   ·show _ = Ending.returned (Ex.wv 20 20 1 0 1 _ _ _ _ _ _ _ _ _ _ _ _ _ _ (Ux.fin l).length _)
    rw [Ux.fin_len]
    rfl
   ·refine Ux.blk_sl (hx1.heap HRO.out omg) (fun i j hi hj => ?_)
    have hi' : i < 2 := hi
    rcases i with _ | _ | i <;> rcases j with _ | _ | _ | _ | j <;> first | omega | rfl
   ·refine Ux.blk_sl (hx1.heap HTE.out omg) (fun i j hi hj => ?_)
    have hi' : i < 1 := hi
    rcases i with _ | i <;> rcases j with _ | _ | _ | j <;> first | omega | rfl
   ·show (Ux.fin l).length ≤ _
    rw [Ux.fin_len]; omega
namespace Kit
theorem setCells_past (w : World) (o : Obj) (n : Nat) (hn : n < w.heap.size) : ∀ (cs : List Value) (i : Nat), (w.alloc o).setCells n i cs = (w.setCells n i cs).alloc o
 | [], _ => rfl
 | v :: r, i => by
  rw [World.setCells, World.setCell_alloc_past _ _ _ _ hn, World.setCells]
  have h : ∀ (cs : List Value) (i : Nat) (w : World), n < w.heap.size → (w.alloc o).setCells n i cs = (w.setCells n i cs).alloc o := by
   intro cs
   induction cs with
   | nil => intro i w _; rfl
   | cons u cs ih => intro i w hw; rw [World.setCells, World.setCell_alloc_past _ _ _ _ hw, World.setCells]; exact ih _ _ (by simpa [World.setCell] using hw)
  exact h r (i + 1) _ (by simpa [World.setCell] using hn)
theorem wpList_store_fresh2 {P : Program} {ops : Array Oper} {rest : List Oper} {op : Oper} {a : Act} {w : World} {o : Obj} {Q : Exit → Act → World → Prop} {ty T : TypeId} {x y : Operand} {b : Nat} {z cells : Array Value} (hgd : op.guard = none) (ho : op.op = .store ty x y)
  (hx : a.eval x = .pointer (some ⟨b, 0, none⟩)) (hb : b = w.heap.size) (hy : a.eval y = .agg cells) (hz : z.size = cells.size)
  (hi : (P.info? ty).map (·.size) = some cells.size) (h1 : cells.all (·.oneCell') = true)
  (h : wpList P ops Q rest (a.put op.dst undef) ((w.alloc (.cells cells T)).alloc o)) : wpList P ops Q (op :: rest) a ((w.alloc (.cells z T)).alloc o) := by
 subst hb
 refine wpList_store_mid hgd ty x y ho w.heap.size 0 cells hx hy (fun j hj => ?_) hi h1 ?_
 ·obtain ⟨c1, c2⟩ := there_alloc w T z j omg
  have hb : ((w.alloc (.cells z T)).alloc o).heap[w.heap.size]? = (w.alloc (.cells z T)).heap[w.heap.size]? := Below.heap_alloc _ _ _ (by simp)
  exact ⟨by simp only [World.cell?, hb] at c1 ⊢; exact c1, by simp only [World.frozen?, hb] at c2 ⊢; exact c2⟩
 ·rw [setCells_past _ _ _ (by simp), alloc_set w T cells z hz]
  exact h
end Kit
namespace Ux
def sgs : List Ex.Sg := [⟨0, 0, 0, 0, 1, 1, 1, 0, 3, 0, 0, 0, 0, 0⟩, ⟨0, 0, 1, 0, 1, 1, 1, 0, 4, 0, 0, 0, 0, 0⟩, ⟨0, 1, 1, 0, 7, 0, 0, 0, 0, 1, 0, 0, 0, 0⟩, ⟨0, 0, 1, 0, 8, 0, 0, 0, 0, 2, 0, 0, 0, 0⟩]
def H : Un.Bd := { Un.strongB with weight := 61 }
def L : Un.Bd := { Un.strongB with step := 4 }
structure Facts (X : Ex.Wk) (S H L : Un.Bd) : Prop where
 a0 : Un.ableA X S 0 0 = (1, false, 0)
 a1 : Un.ableA X S 0 2 = (0, true, 0)
 a2 : Un.ableA X L 0 0 = (0, true, 0)
 a3 : Un.ableA X S (-1) 0 = (0, false, 1)
 b0 : Un.liftsA X [S, S] H 0 1 = (2, false, 0)
 b1 : Un.liftsA X [S, S] L 0 1 = (0, true, 0)
 b2 : Un.liftsA X [] S 0 0 = (0, false, 480)
 r0 : Un.readyE X [S, S, H, L] [0, 1] 0 1 = 0 ∧ (List.range 4).filter (Un.fits X [S, S, H, L] [0, 1] 0 1) = [3]
 r1 : Un.readyE X [S, S] [1, 0] 0 0 = 0 ∧ (List.range 2).filter (Un.fits X [S, S] [1, 0] 0 0) = []
 r2 : Un.readyE X [S, S] [1, 1] 0 0 = 480
 ns : S.name.size ≤ 9223372036854775807
 nh : H.name.size ≤ 9223372036854775807
 nl : L.name.size ≤ 9223372036854775807
theorem facts : Facts (wk sgs) Un.strongB H L := by
 constructor <;> decide +kernel
theorem rdy1 {X : Ex.Wk} {bs : List Un.Bd} {cast : List Int} {role bar : Int} {l : List Nat} {w : World} {s : Nat} {v : Value} (hr : Un.Ready X bs cast role bar l) (hf : (List.range bs.length).filter (Un.fits X bs cast role bar) = [3]) (ho : w.ownsRow s 3 1 v l.length (Un.ints l)) :
  ∃ a c, Ending.returned (.tuple #[v, .int .i64 0]) = .returned (.tuple #[.slice a 1 c, .int .i64 0]) ∧ Tp.Sl w a 1 1 (Un.ic [3]) := by
 have hp := hr.perm
 rw [hf] at hp
 obtain rfl := List.perm_singleton.1 hp
 obtain ⟨a, c, rfl, h⟩ := Kit.own_sl (f := Un.ic [3]) ho (fun i j hi hj => by
  have h0 : i = 0 := by simpa using hi
  have h1 : j = 0 := by omega
  subst h0 h1; rfl)
 exact ⟨a, c, rfl, h⟩
theorem rdy0 {X : Ex.Wk} {bs : List Un.Bd} {cast : List Int} {role bar : Int} {l : List Nat} {w : World} {s : Nat} {v : Value} (hr : Un.Ready X bs cast role bar l) (hf : (List.range bs.length).filter (Un.fits X bs cast role bar) = []) (ho : w.ownsRow s 3 1 v l.length (Un.ints l)) :
  ∃ a c, Ending.returned (.tuple #[v, .int .i64 0]) = .returned (.tuple #[.slice a 0 c, .int .i64 0]) := by
 have hp := hr.perm
 rw [hf] at hp
 obtain rfl := List.perm_nil.1 hp
 obtain ⟨a, c, rfl, h⟩ := Kit.own_sl (f := Un.ic []) ho (fun i j hi hj => by simp at hi)
 exact ⟨a, c, rfl⟩
theorem sl_new {w : World} {cs : Array Value} {t : TypeId} {n k : Nat} {f : Nat → Nat → Value} (h : ∀ i j, i < n → j < k → cs[i * k + j]? = some (f i j)) : Tp.Sl (w.alloc (.cells cs t)) (some ⟨w.heap.size, 0, none⟩) n k f := by
 refine .inr ⟨_, rfl, by simp, fun i j hi hj => ?_⟩
 rw [Addr.add_lit, Nat.zero_add]
 simp only [World.cell?, World.alloc_heap_new]
 exact h i j hi hj
theorem sl4 (S H L : Un.Bd) (w : World) : Tp.Sl (w.alloc (.cells (Un.bdA S ++ Un.bdA S ++ Un.bdA H ++ Un.bdA L) 36)) (some ⟨w.heap.size, 0, none⟩) 4 17 (Un.bdF [S, S, H, L]) := sl_new fun i j hi hj => by
 have e : (Un.bdA S ++ Un.bdA S ++ Un.bdA H ++ Un.bdA L).toList = Un.bdsV [S, S, H, L] := by simp [Un.bdsV]
 have h := Un.bdsV_at [S, S, H, L] i j hi hj
 rw [← e] at h
 rw [← h]
 exact (Array.getElem?_toList ..).symm
theorem sl01 (w : World) : Tp.Sl (w.alloc (.cells #[.int .i64 0, .int .i64 1] 3)) (some ⟨w.heap.size, 0, none⟩) 2 1 (Un.ic [0, 1]) := sl_new fun i j hi hj => by
 obtain rfl : j = 0 := by omega
 rcases (by omega : i = 0 ∨ i = 1) with rfl | rfl <;> rfl
theorem sl10 (w : World) : Tp.Sl (w.alloc (.cells #[.int .i64 1, .int .i64 0] 3)) (some ⟨w.heap.size, 0, none⟩) 2 1 (Un.ic [1, 0]) := sl_new fun i j hi hj => by
 obtain rfl : j = 0 := by omega
 rcases (by omega : i = 0 ∨ i = 1) with rfl | rfl <;> rfl
theorem sl11 (w : World) : Tp.Sl (w.alloc (.cells #[.int .i64 1, .int .i64 1] 3)) (some ⟨w.heap.size, 0, none⟩) 2 1 (Un.ic [1, 1]) := sl_new fun i j hi hj => by
 obtain rfl : j = 0 := by omega
 rcases (by omega : i = 0 ∨ i = 1) with rfl | rfl <;> rfl
theorem sl3 (w : World) : Tp.Sl (w.alloc (.cells #[.int .i64 3] 3)) (some ⟨w.heap.size, 0, none⟩) 1 1 (Un.ic [3]) := sl_new fun i j hi hj => by
 obtain rfl : i = 0 := by omega
 obtain rfl : j = 0 := by omega
 rfl
end Ux
end Go.Proofs.YtbhgogiaaljclaaGreatDoor

namespace Go.Proofs.YtbhgogiaaljclaaGreatDoor
open Go.RowKit
theorem Rf.dec_cons {α : Type} [DecidableEq α] (a b : α) (l m : List α) : decide (a :: l = b :: m) = (decide (a = b) && decide (l = m)) := by
 by_cases h : a = b <;> by_cases k : l = m <;> simp [h, k]
theorem rf_sameints (aA : Option Addr) (l : List (Int)) (cA : Nat) (aB : Option Addr) (m : List (Int)) (cB : Nat) (w : World) (lA : l.length ≤ 4611686018427387904) (lB : m.length ≤ 4611686018427387904)
  (sA : Tp.Sl w aA l.length 1 (Un.ic l)) (sB : Tp.Sl w aB m.length 1 (Un.ic m)) :
  Calls Tryz.prog 18 #[.slice aA l.length cA, .slice aB m.length cB] w fun e w' => e = .returned (.bool (decide (l = m))) ∧ Below w.heap.size w w' := by
 have SA := qh sA; clear sA
 have SB := qh sB; clear sB
 by_cases hlen : l.length = m.length
 ·have dl : ((l.length : Int) != (m.length : Int)) = false := by simp; omega
  have HLEN := qh hlen; clear hlen
  go_enter Tryz.func18, Tryz.ntmps18
  go_wp2
  clear dl
  go_loopw [5] (fun v5 wr => ∃ k : Nat, v5 = .int .i64 k ∧ k ≤ l.length ∧ Hid (decide (l = m) = decide (l.drop k = m.drop k)) ∧ Hid (Below w.heap.size w wr))
   (fun v5 _ => l.length - (intOf v5).toNat)
  case atStart => exact ⟨0, rfl, Nat.zero_le _, qh (by simp), qh (Below.refl _ _)⟩
  case round =>
   obtain ⟨k, rfl, hk, HI, HB⟩ := hrel
   by_cases hlt : k < l.length
   ·have hlm : k < m.length := by have := HLEN.out; omega
    obtain ⟨aa, rfl, haa, _⟩ := SA.out.at hlt
    obtain ⟨ab, rfl, hab, _⟩ := SB.out.at hlm
    have hse : ∀ z : Kit.Wd wr, Tp.Sl z.val (some aa) l.length 1 (Un.ic l) := fun z => SA.out.kept (HB.out.trans (z.below.mono HB.out.size)) nlr
    have e0 : ∀ z : Kit.Wd wr, z.val.cell? (aa.add k) = some (Un.ic l k 0) := fun z => by simpa using (hse z).head hlt omg
    clear hse
    have hsi : ∀ z : Kit.Wd wr, Tp.Sl z.val (some ab) m.length 1 (Un.ic m) := fun z => SB.out.kept (HB.out.trans (z.below.mono HB.out.size)) nlr
    have i0 : ∀ z : Kit.Wd wr, z.val.cell? (ab.add k) = some (Un.ic m k 0) := fun z => by simpa using (hsi z).head hlm omg
    clear hsi
    have hd1 := Tp.drop_cons l 0 k hlt
    have hd2 := Tp.drop_cons m 0 k hlm
    generalize hx : l.getD k 0 = x at hd1
    generalize hy : m.getD k 0 = y at hd2
    obtain ⟨x1, rfl⟩ : ∃ x1, x1 = x := ⟨_, rfl⟩
    obtain ⟨y1, rfl⟩ : ∃ y1, y1 = y := ⟨_, rfl⟩
    simp only [Un.ic, hx, hy, if_true, if_false, Nat.one_ne_zero] at e0 i0
    have hI : decide (l = m) = (decide ((x1) = (y1)) && decide (l.drop (k + 1) = m.drop (k + 1))) := by rw [HI.out, hd1, hd2, Rf.dec_cons]
    have HI2 := qh hI
    clear hI hd1 hd2 hx hy HI
    rcases c0 : (x1 == y1) with _ | _
    ·have b0 : (x1 != y1) = true := by simpa using c0
     have HR := qh (show decide (l = m) = false by
      have c0x : ¬ x1 = y1 := by simpa using c0
      rw [HI2.out]; simp [c0x])
     clear HI2
     go_wp2
     (refine Kit.wp_region_cls (by kernel_rfl) (by kernel_rfl) ?_; (repeat (go_big_quiet_step (fail))); refine wpQuiet_nil ?_; intro z)
     have HZ := qh (HB.out.trans (z.below.mono HB.out.size))
     generalize z.val = Z at *
     clear e0 i0
     go_wp2
     go_ret
     exact ⟨by rw [HR.out]; rfl, HZ.out⟩
    ·have b0 : (x1 != y1) = false := by simpa using c0
     have HR := qh (show decide (l = m) = decide (l.drop (k + 1) = m.drop (k + 1)) by
      have c0x : x1 = y1 := by simpa using c0
      rw [HI2.out]; simp [c0x])
     clear HI2
     go_wp2
     (refine Kit.wp_region_cls (by kernel_rfl) (by kernel_rfl) ?_; (repeat (go_big_quiet_step (fail))); refine wpQuiet_nil ?_; intro z)
     have HZ := qh (HB.out.trans (z.below.mono HB.out.size))
     generalize z.val = Z at *
     clear e0 i0
     go_wp2
     go_roundw
     case rel => exact ⟨k + 1, by go_num, by omega, HR, HZ⟩
     case measure => simp [intOf]; omega
   ·have HR := qh (show decide (l = m) = true by have := HLEN.out; rw [HI.out, List.drop_of_length_le omg, List.drop_of_length_le omg]; simp)
    clear HI
    go_wp2
    go_ret
    exact ⟨by rw [HR.out]; rfl, HB.out⟩
 ·have dl : ((l.length : Int) != (m.length : Int)) = true := by simp; omega
  have HR := qh (show decide (l = m) = false by have : ¬ l = m := (fun h => hlen (by rw [h])); simp [this])
  clear hlen
  go_enter Tryz.func18, Tryz.ntmps18
  go_wp2
  go_ret
  exact ⟨by rw [HR.out]; rfl, Below.refl _ _⟩
def Ux.IsB (e : Ending) : Prop := ∃ b, e = .returned (.bool b)
def Ux.FewP (n m : Nat) (e : Ending) : Prop := ∃ b, e = .returned (.bool b) ∧ (b = true → n ≤ 100 ∧ m ≤ 100)
theorem lw_few19 (x : Ex.Wk) (p : Ex.Wa) (w : World) : Calls Tryz.prog 27 #[Ex.workV x p] w fun e w' => Ux.IsB e ∧ Below w.heap.size w w' := by
 obtain ⟨wd, dp, ta, tb, tc, n, ro, ts, ps, ss, sg⟩ := x
 obtain ⟨aR, cR, aT, cT, aP, cP, aS, cS, aG, cG⟩ := p
 generalize hR : ro.length = nR
 generalize hT : ts.length = nT
 generalize hP : ps.length = nP
 generalize hS : ss.length = nS
 generalize hG : sg.length = nG
 unfold Ex.workV
 dsimp only
 rw [hR, hT, hP, hS, hG]
 clear hR hT hP hS hG
 go_enter Tryz.func27, Tryz.ntmps27
 go_wp2
 all_goals (go_ret; exact ⟨⟨_, rfl⟩, by exact Kit.gr⟩)
theorem lw_few (x : Ex.Wk) (p : Ex.Wa) (n m cn cm : Nat) (a a2 : Option Addr) (w : World) : Calls Tryz.prog 11 #[Ex.workV x p, .slice a n cn, .slice a2 m cm] w fun e w' => Ux.FewP n m e ∧ Below w.heap.size w w' := by
 have HF := qh (fun W => lw_few19 x p W)
 dsimp only [Ex.workV, Ex.wv] at HF
 go_enter Tryz.func11, Tryz.ntmps11
 go_wp2_with fail
 refine (HF.out _).mono ?_
 rintro _ w1 ⟨⟨b, rfl⟩, hb⟩
 have HB := qh (show Below w.heap.size w w1 from ((Below.refl _ w).alloc nlr _).trans (hb.mono (by simp)))
 clear hb
 rcases b with _ | _
 ·go_wp2_with fail
  go_ret
  exact ⟨⟨false, rfl, fun h => by cases h⟩, HB.out⟩
 ·rcases d1 : decide ((n : Int) ≤ 100) with _ | _
  ·have d1n : decide (n ≤ 100) = false := by simp at d1 ⊢; omega
   go_wp2_with fail
   go_ret
   exact ⟨⟨false, rfl, fun h => by cases h⟩, HB.out⟩
  ·have d1n : decide (n ≤ 100) = true := by simp at d1 ⊢; omega
   rcases d2 : decide ((m : Int) ≤ 100) with _ | _
   ·have d2n : decide (m ≤ 100) = false := by simp at d2 ⊢; omega
    go_wp2_with fail
    go_ret
    exact ⟨⟨false, rfl, fun h => by cases h⟩, HB.out⟩
   ·have d2n : decide (m ≤ 100) = true := by simp at d2 ⊢; omega
    have HNM := qh (show n ≤ 100 ∧ m ≤ 100 by simp at d1n d2n; exact ⟨d1n, d2n⟩)
    go_wp2_with fail
    go_ret
    exact ⟨⟨true, rfl, fun _ => HNM.out⟩, HB.out⟩
end Go.Proofs.YtbhgogiaaljclaaGreatDoor
