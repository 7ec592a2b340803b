/- Walks: the laws of layer 20: work. -/
import Derived.Test.YtggfeblfhabmkaaGreatDoorTyQ
namespace Go.Proofs.YtggfeblfhabmkaaGreatDoor
set_option linter.unusedVariables false
set_option linter.unusedSimpArgs false
open Go.RowKit Go.Shelf

/-- The signs of 'work': IDs in order, essential. -/
def Ty.fin (l : List Ex.Sg) : List Ex.Sg := l.mapIdx fun i s => { s with id := i, mark := 1 }
def Ty.uv (l : List Ex.Sg) (k i q : Nat) : Value := if i < k then (if q = 0 then .int .i64 i else if q = 3 then .int .i64 1 else Ex.sgc l i q) else Ex.sgc l i q
/-- A block of signs of which k have been numbered. -/
def Ty.WR (W : World) (b : Nat) (l : List Ex.Sg) (k : Nat) : Prop :=
  ∃ cur : Array Value, W.heap[b]? = some (.cells cur 44 (0, 0)) ∧ cur.size = l.length * 14 ∧ ∀ i q, i < l.length → q < 14 → cur[i * 14 + q]? = some (Ty.uv l k i q)
theorem Ty.WR.there {W : World} {b k : Nat} {l : List Ex.Sg} (h : Ty.WR W b l k) {o : Nat} (ho : o < l.length * 14) : (∃ u, W.cell? ⟨b, o, none⟩ = some u) ∧ W.frozen? ⟨b, o, none⟩ = false := by
  obtain ⟨cur, h1, h2, h3⟩ := h
  refine ⟨Option.isSome_iff_exists.1 ?_, frozen_of_row _ _ _ _ _ h1⟩
  simp only [World.cell?, h1]
  have : o < cur.size := by omega
  simp [this]
theorem Ty.WR.lt {W : World} {b k : Nat} {l : List Ex.Sg} (h : Ty.WR W b l k) : b < W.heap.size := by
  obtain ⟨cur, h1, h2, h3⟩ := h
  exact (Array.getElem?_eq_some_iff.1 h1).1
theorem Ty.WR.keep {W W' : World} {b k : Nat} {l : List Ex.Sg} (h : Ty.WR W b l k) (hb : b < W.heap.size → W'.heap[b]? = W.heap[b]?) : Ty.WR W' b l k := by
  obtain ⟨cur, h1, h2, h3⟩ := h
  exact ⟨cur, (hb (Array.getElem?_eq_some_iff.1 h1).1).trans h1, h2, h3⟩
theorem Ty.WR.step {W : World} {b k : Nat} {l : List Ex.Sg} (h : Ty.WR W b l k) (hk : k < l.length) : Ty.WR ((W.setCell ⟨b, k * 14, none⟩ (.int .i64 k)).setCell ⟨b, k * 14 + 3, none⟩ (.int .i64 1)) b l (k + 1) := by
  obtain ⟨cur, h1, h2, h3⟩ := h
  refine ⟨_, heap_setCell_same _ b _ _ _ _ (heap_setCell_same W b _ _ _ _ h1), by simpa using h2, fun i q hi hq => ?_⟩
  rw [Array.getElem?_setIfInBounds, Array.getElem?_setIfInBounds]
  have h4 := h3 i q hi hq
  unfold Ty.uv at h4 ⊢
  by_cases e1 : k * 14 + 3 = i * 14 + q
  · have e2 : i = k := by omega
    have e3 : q = 3 := by omega
    subst e2 e3
    have : i * 14 + 3 < cur.size := by omega
    simp [this]
  · rw [if_neg e1]
    by_cases e2 : k * 14 = i * 14 + q
    · have e3 : i = k := by omega
      have e4 : q = 0 := by omega
      subst e3 e4
      have : i * 14 < cur.size := by omega
      simp [this]
    · rw [if_neg e2, h4]
      by_cases e3 : i < k
      · rw [if_pos e3, if_pos (show i < k + 1 by omega)]
      · rw [if_neg e3]
        by_cases e4 : i < k + 1
        · have e5 : i = k := by omega
          subst e5
          rw [if_pos e4, if_neg (show ¬ q = 0 by omega), if_neg (show ¬ q = 3 by omega)]
        · rw [if_neg e4]
theorem Ty.fin_len (l : List Ex.Sg) : (Ty.fin l).length = l.length := by simp [Ty.fin]
theorem Ty.fin_sl {W : World} {b : Nat} {l : List Ex.Sg} (h : Ty.WR W b l l.length) : Tp.Sl W (some ⟨b, 0, none⟩) (Ty.fin l).length 14 (Ex.sgc (Ty.fin l)) := by
  have hlt := h.lt
  obtain ⟨cur, h1, h2, h3⟩ := h
  refine .inr ⟨_, rfl, hlt, fun i j hi hj => ?_⟩
  rw [Ty.fin_len] at hi
  rw [Addr.add_lit, Nat.zero_add]
  simp only [World.cell?, h1]
  rw [h3 i j hi hj]
  have e : (Ty.fin l).getD i default = { (l.getD i default) with id := i, mark := 1 } := by
    simp [Ty.fin, List.getD, hi]
  unfold Ty.uv Ex.sgc
  rw [if_pos hi, e]
  rcases j with _ | _ | _ | _ | _ | _ | _ | _ | _ | _ | _ | _ | _ | _ | j <;> first | rfl | omega
/-- The work of 'work'. -/
def Ty.wk (l : List Ex.Sg) : Ex.Wk := ⟨10, 10, 1, 0, 1, 1, [(⟨#[97]⟩, 2, 2, 0), (⟨#[98]⟩, 8, 8, 0)], [(0, 1000, 0)], [], [], Ty.fin l⟩
theorem Ty.blk_sl {W : World} {b : Nat} {l : Array Value} {t : TypeId} {n k : Nat} {f : Nat → Nat → Value} (h : W.heap[b]? = some (.cells l t (0, 0))) (hf : ∀ i j, i < n → j < k → l[i * k + j]? = some (f i j)) : Tp.Sl W (some ⟨b, 0, none⟩) n k f := by
  refine .inr ⟨_, rfl, (Array.getElem?_eq_some_iff.1 h).1, fun i j hi hj => ?_⟩
  rw [Addr.add_lit, Nat.zero_add]
  simp only [World.cell?, h]
  exact hf i j hi hj
theorem Ty.exc_tr {S T : Nat → Prop} {A B C : World} (h : Kit.Exc S A B) (k : Kit.Exc T B C) (hT : ∀ b, T b → S b ∨ A.heap.size ≤ b) : Kit.Exc S A C :=
  ⟨k.os.trans h.os, k.tape.trans h.tape, k.output.trans h.output, Nat.le_trans h.size k.size, fun i hi hn => (k.block i (Nat.lt_of_lt_of_le hi h.size) (fun e => by
    rcases hT i e with h | h
    · exact hn h
    · omega)).trans (h.block i hi hn)⟩
theorem Ty.wpList_name {P : Program} {ops : Array Oper} {Q : Exit → Act → World → Prop} {l : List Oper} {a : Act} {w : World} (h : ∀ W, W = w → wpList P ops Q l a W) : wpList P ops Q l a w := h w rfl
abbrev Ty.cA (r b n : Nat) : Array Value := #[.int .i64 10, .int .i64 10, .int .i64 1, .int .i64 0, .int .i64 1, .slice (some ⟨r, 0, none⟩) 2 2, .int .i64 1, .slice (some ⟨r + 1, 0, none⟩) 1 1, .slice none 0 0, .slice none 0 0, .slice (some ⟨b, 0, none⟩) n n]
theorem Ty.cA_one (r b n : Nat) : (Ty.cA r b n).all (·.oneCell') = true := by simp [Value.oneCell']
abbrev Ty.z32 : Array Value := #[.int .i64 0, .int .i64 0, .int .i64 0, .int .i64 0, .int .i64 0, .slice none 0 0, .int .i64 0, .slice none 0 0, .slice none 0 0, .slice none 0 0, .slice none 0 0]
theorem Ty.r32 {W : World} {b : Nat} (h : W.heap[b]? = some (.cells Ty.z32 32 (0, 0))) : (∀ q, q < 11 → W.cell? ⟨b, q, none⟩ = some (Ty.z32[q]!)) ∧ ∀ q, W.frozen? ⟨b, q, none⟩ = false := by
  refine ⟨fun q hq => ?_, fun q => by simp [World.frozen?, h]⟩
  simp only [World.cell?, h]
  rcases q with _ | _ | _ | _ | _ | _ | _ | _ | _ | _ | _ | q <;> first | rfl | omega
set_option maxRecDepth 100000 in
set_option maxHeartbeats 1000000 in
theorem lw_work (l : List Ex.Sg) (b : Nat) (w : World) (hl : l.length ≤ 1000) (h : Ty.WR w b l 0) :
    Calls Tryz.prog 13 #[.slice (some ⟨b, 0, none⟩) l.length l.length] w fun e w' => ∃ p, e = .returned (Ex.workV (Ty.wk l) p) ∧ Ex.At w' (Ty.wk l) p ∧ Kit.Exc (fun k => k = b) w w' := by
  have H := Lib.hid h
  have zb := h.lt
  clear h
  go_enter Tryz.func13, Tryz.ntmps13
  go_wp2
  go_loopw [6] (fun v6 wr => ∃ k : Nat, v6 = .int .i64 k ∧ k ≤ l.length ∧ Hid (Ty.WR wr b l k) ∧ Hid (Kit.Exc (fun k => k = b) w wr) ∧ Hid (wr.heap[w.heap.size]? = some (.cells Ty.z32 32 (0, 0))) ∧ w.heap.size < wr.heap.size)
    (fun v6 _ => l.length - (intOf v6).toNat)
  case atStart => exact ⟨0, rfl, Nat.zero_le _, H.out.keep (fun hl => Below.heap_alloc _ _ _ hl), (Kit.Exc.refl _ w).alloc _, World.alloc_heap_new _ _, by simp⟩
  case round =>
    obtain ⟨k, rfl, hk, HW, HX, HR, hsz⟩ := hrel
    by_cases hlt : k < l.length
    · obtain ⟨⟨u0, c0⟩, f0⟩ := HW.out.there (o := k * 14) (by omega)
      obtain ⟨⟨u3, c3⟩, f3⟩ := HW.out.there (o := k * 14 + 3) (by omega)
      go_wp2
      go_roundw
      case rel =>
        refine ⟨k + 1, by go_num, by omega, HW.out.step hlt, (HX.out.setCell (p := ⟨b, _, none⟩) (.inl rfl) _).setCell (p := ⟨b, _, none⟩) (.inl rfl) _, ?_, by simpa using hsz⟩
        exact (Below.heap_setCell _ _ _ _ (by show w.heap.size ≠ b; omega)).trans ((Below.heap_setCell _ _ _ _ (by show w.heap.size ≠ b; omega)).trans HR.out)
      case measure => simp [intOf]; omega
    · obtain rfl : k = l.length := by omega
      obtain ⟨X0, hX0⟩ : ∃ X0, X0 = (wr.alloc (.cells #[.string ⟨#[97]⟩, .int .i64 2, .int .i64 2, .int .i64 0, .string ⟨#[98]⟩, .int .i64 8, .int .i64 8, .int .i64 0] 73)).alloc (.cells #[.int .i64 0, .int .i64 1000, .int .i64 0] 75) := ⟨_, rfl⟩
      have E0 : ∀ S, Kit.Exc S wr X0 := fun S => by rw [hX0]; exact ((Kit.Exc.refl S wr).alloc _).alloc _
      have hR0 := (E0 (fun _ => False)).heap HR.out (fun h => h)
      have HTH := Lib.hid (show X0.there w.heap.size 0 (Ty.cA wr.heap.size b l.length).size from fun q hq => by
        obtain ⟨h1, h2⟩ := Ty.r32 hR0
        exact ⟨by rw [Nat.zero_add, h1 q hq]; rfl, by rw [Nat.zero_add]; exact h2 q⟩)
      have HIZ : (Tryz.prog.info? 32).map (·.size) = some (Ty.cA wr.heap.size b l.length).size := by kernel_rfl
      have HX0 := Lib.hid hX0
      have HRO := Lib.hid (show X0.heap[wr.heap.size]? = some (.cells #[.string ⟨#[97]⟩, .int .i64 2, .int .i64 2, .int .i64 0, .string ⟨#[98]⟩, .int .i64 8, .int .i64 8, .int .i64 0] 73) by rw [hX0]; exact (Below.heap_alloc _ _ _ (by simp)).trans (World.alloc_heap_new wr _))
      have HTE := Lib.hid (show X0.heap[wr.heap.size + 1]? = some (.cells #[.int .i64 0, .int .i64 1000, .int .i64 0] 75) by
        have := World.alloc_heap_new (wr.alloc (.cells #[.string ⟨#[97]⟩, .int .i64 2, .int .i64 2, .int .i64 0, .string ⟨#[98]⟩, .int .i64 8, .int .i64 8, .int .i64 0] 73)) (.cells #[.int .i64 0, .int .i64 1000, .int .i64 0] 75)
        rw [World.size_alloc] at this
        rw [hX0]; exact this)
      have HW0 := Lib.hid (HW.out.keep (W' := X0) (fun hl => (E0 (fun _ => False)).block b hl (fun h => h)))
      have HR0 := Lib.hid hR0
      have HX1 := Lib.hid (HX.out.trans (E0 _))
      clear E0 hR0 hX0 HW HX HR
      go_wp2_with (first | (at_region 6; fail) | (rw [← HX0.out]; (with_reducible refine Kit.wpList_store_at (ty := 32) (x := .tmp 2) (y := .tmp 27) (p := ⟨w.heap.size, 0, none⟩) (b := w.heap.size) (o := 0) (cells := Ty.cA wr.heap.size b l.length) ?_ ?_ ?_ rfl ?_ HTH.out HIZ (Ty.cA_one _ _ _) ?_); rfl; rfl; rfl; rfl; refine Ty.wpList_name ?_; intro X1 hX1; have HXX := Lib.hid hX1; clear hX1))
      have hx1 : Kit.Exc (fun k => k = w.heap.size) X0 X1 := by rw [HXX.out]; exact Kit.Exc.setCells (S := fun k => k = w.heap.size) rfl _ _ (Kit.Exc.refl _ _)
      obtain ⟨cur', hc1, hc2, hc3, hc4⟩ := Kit.heap_setCells w.heap.size _ (Ty.cA wr.heap.size b l.length).toList 0 X0 _ HR0.out
      rw [← HXX.out] at hc1
      have hrd : ∀ q, q < 11 → X1.cell? ⟨w.heap.size, q, none⟩ = (Ty.cA wr.heap.size b l.length).toList[q]? := fun q hq => by
        simp only [World.cell?, hc1]
        have := hc4 q hq (by show 0 + q < 11; omega)
        rwa [Nat.zero_add] at this
      have r0 : X1.cell? ⟨w.heap.size, 0, none⟩ = some (.int .i64 10) := hrd 0 (by omega)
      have r1 : X1.cell? ⟨w.heap.size, 1, none⟩ = some (.int .i64 10) := hrd 1 (by omega)
      have r2 : X1.cell? ⟨w.heap.size, 2, none⟩ = some (.int .i64 1) := hrd 2 (by omega)
      have r3 : X1.cell? ⟨w.heap.size, 3, none⟩ = some (.int .i64 0) := hrd 3 (by omega)
      have r4 : X1.cell? ⟨w.heap.size, 4, none⟩ = some (.int .i64 1) := hrd 4 (by omega)
      have r5 : X1.cell? ⟨w.heap.size, 5, none⟩ = some (.slice (some ⟨wr.heap.size, 0, none⟩) 2 2) := hrd 5 (by omega)
      have r6 : X1.cell? ⟨w.heap.size, 6, none⟩ = some (.int .i64 1) := hrd 6 (by omega)
      have r7 : X1.cell? ⟨w.heap.size, 7, none⟩ = some (.slice (some ⟨wr.heap.size + 1, 0, none⟩) 1 1) := hrd 7 (by omega)
      have r8 : X1.cell? ⟨w.heap.size, 8, none⟩ = some (.slice none 0 0) := hrd 8 (by omega)
      have r9 : X1.cell? ⟨w.heap.size, 9, none⟩ = some (.slice none 0 0) := hrd 9 (by omega)
      have r10 : X1.cell? ⟨w.heap.size, 10, none⟩ = some (.slice (some ⟨b, 0, none⟩) l.length l.length) := hrd 10 (by omega)
      have hH := Lib.hid hx1
      clear hrd hc1 hc2 hc3 hc4 hx1
      (refine bodyPost_ret (by simp [results, Tryz.results13, go_sem, Kit.cell_set, r0, r1, r2, r3, r4, r5, r6, r7, r8, r9, r10]; try rfl) rfl ?_)
      have hx1 := hH.out
      refine ⟨⟨some ⟨wr.heap.size, 0, none⟩, 2, some ⟨wr.heap.size + 1, 0, none⟩, 1, none, 0, none, 0, some ⟨b, 0, none⟩, l.length⟩, ?_, ⟨?_, ?_, .inl rfl, .inl rfl, Ty.fin_sl (HW0.out.keep (fun hl => hx1.block b hl (by omega))), (by show 2 ≤ _; omega), (by show 1 ≤ _; omega), (by show 0 ≤ _; omega), (by show 0 ≤ _; omega), ?_⟩, Ty.exc_tr HX1.out hx1 (fun k e => .inr (by omega))⟩
      · show _ = Ending.returned (Ex.wv 10 10 1 0 1 _ _ _ _ _ _ _ _ _ _ _ _ _ _ (Ty.fin l).length _)
        rw [Ty.fin_len]
        rfl
      · refine Ty.blk_sl (hx1.heap HRO.out (by omega)) (fun i j hi hj => ?_)
        have hi' : i < 2 := hi
        rcases i with _ | _ | i <;> rcases j with _ | _ | _ | _ | j <;> first | omega | rfl
      · refine Ty.blk_sl (hx1.heap HTE.out (by omega)) (fun i j hi hj => ?_)
        have hi' : i < 1 := hi
        rcases i with _ | i <;> rcases j with _ | _ | _ | j <;> first | omega | rfl
      · show (Ty.fin l).length ≤ _
        rw [Ty.fin_len]; omega
end Go.Proofs.YtggfeblfhabmkaaGreatDoor
