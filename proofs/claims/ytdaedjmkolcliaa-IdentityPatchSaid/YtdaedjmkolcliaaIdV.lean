/- Walks: package identity: steps. -/
import Derived.Test.YtdaedjmkolcliaaIdT
import Derived.Test.YtdaedjmkolcliaaIdR
import Derived.Test.YtdaedjmkolcliaaIdq
import Derived.WalkMore
import Derived.Deep.LoopGhost
namespace Go.Proofs.Ytdaedjmkolcliaa
set_option linter.unusedVariables false
set_option linter.unusedSimpArgs false
open Go.RowKit Go.Shelf

namespace Id
/-- A row of numbers, told by a function. -/
def rowA (n : Nat) (a : Nat → Int) : List Value := (List.range n).map fun k => .int .i64 (a k)
theorem rowA_set (n : Nat) (a : Nat → Int) (k : Nat) (v : Int) : (rowA n a).set k (.int .i64 v) = rowA n (upd a k v) := by
  apply List.ext_getElem?
  intro j
  rw [List.getElem?_set]
  unfold rowA
  simp only [List.getElem?_map, List.length_map, List.length_range, List.getElem?_range]
  by_cases e : k = j
  · subst e
    by_cases h : k < n
    · simp [h, upd]
    · simp [h]
  · rw [if_neg e]
    by_cases h : j < n
    · simp [h, upd, Ne.symm e]
    · simp [h]
theorem rowA_get (n : Nat) (a : Nat → Int) (k : Nat) (h : k < n) : (rowA n a)[k]? = some (.int .i64 (a k)) := by simp [rowA, h]
theorem rowA_congr (n : Nat) (a b : Nat → Int) (h : ∀ k, k < n → a k = b k) : rowA n a = rowA n b := by
  unfold rowA
  apply List.map_congr_left
  intro k hk
  rw [h k (by simpa using hk)]
theorem rowA_rep (n : Nat) (x : Int) : ints (List.replicate n x) = rowA n (fun _ => x) := by
  simp [ints, rowA, List.map_const']
/-- A block that is a row of numbers. -/
def AtA (w : World) (G n : Nat) (a : Nat → Int) : Prop := w.heap[G]? = some (.cells (rowA n a).toArray 3 (0, 0))
namespace AtA
variable {w w' : World} {G n : Nat} {a : Nat → Int}
theorem cell (h : AtA w G n a) {k : Nat} (hk : k < n) : w.cell? ⟨G, k, none⟩ = some (.int .i64 (a k)) := by
  have h1 : w.heap[G]? = some (.cells (rowA n a).toArray 3 (0, 0)) := h
  simp only [World.cell?, h1]
  simpa using rowA_get n a k hk
theorem frozen (h : AtA w G n a) (k : Nat) : w.frozen? ⟨G, k, none⟩ = false := frozen_of_row _ _ _ _ _ h
theorem lt (h : AtA w G n a) : G < w.heap.size := (Array.getElem?_eq_some_iff.1 h).1
theorem set (h : AtA w G n a) (k : Nat) (v : Int) : AtA (w.setCell ⟨G, k, none⟩ (.int .i64 v)) G n (upd a k v) := by
  have h1 := heap_setCell_same w G k _ _ (.int .i64 v) h
  unfold AtA
  rw [← rowA_set]
  simpa using h1
theorem kept (h : AtA w G n a) (hb : w'.heap[G]? = w.heap[G]?) : AtA w' G n a := hb.trans h
theorem congr {b : Nat → Int} (h : AtA w G n a) (e : ∀ k, k < n → a k = b k) : AtA w G n b := by unfold AtA at *; rw [← rowA_congr n a b e]; exact h
end AtA
/-- The cells of indices. -/
def nc (N : List Nat) (i _j : Nat) : Value := .int .i64 ((N.getD i 0 : Nat) : Int)
def nats (N : List Nat) : List Value := N.map fun k => .int .i64 ((k : Nat) : Int)
theorem nats_nc (l : List Nat) : ∀ i j, i < l.length → j < 1 → (nats l)[i * 1 + j]? = some (nc l i j) := by
  intro i j hi hj
  obtain rfl : j = 0 := by omega
  simp [nats, nc, List.getElem?_map, hi]
/-- How far each edition is from one. -/
def dsts (n : Nat) (g : Nat → Nat → Bool) (t0 : Nat) : List Int := (List.range n).map (dst n g t0)
theorem dsts_len (n : Nat) (g : Nat → Nat → Bool) (t0 : Nat) : (dsts n g t0).length = n := by simp [dsts]
theorem aw_zero (n : Nat) (g : Nat → Nat → Bool) (t0 : Nat) : upd (fun _ => -1) t0 0 = aw n g t0 0 := by
  funext k
  simp [upd, aw]
theorem AtA.sl {w : World} {G n : Nat} {g : Nat → Nat → Bool} {t0 : Nat} (h : AtA w G n (dst n g t0)) : Tp.Sl w (some ⟨G, 0, none⟩) n 1 (ic (dsts n g t0)) := by
  refine .inr ⟨_, rfl, h.lt, fun i j hi hj => ?_⟩
  obtain rfl : j = 0 := by omega
  have e : (⟨G, 0, none⟩ : Addr).add (i * 1 + 0) = ⟨G, i, none⟩ := by unfold Addr.add; split <;> simp_all
  rw [e, h.cell hi]
  simp [ic, dsts, hi]
theorem sl_exc' {w w' : World} {S : Nat → Prop} {a : Option Addr} {n k : Nat} {f : Nat → Nat → Value} (h : Tp.Sl w a n k f) (hx : Kit.Exc S w w') (hs : ∀ ad, a = some ad → ¬ S ad.block) : Tp.Sl w' a n k f := sl_exc h hx (fun ad e => .inr (hs ad e))
end Id
set_option maxRecDepth 100000 in
set_option maxHeartbeats 8000000 in
theorem id_steps (n : Nat) (g : Nat → Nat → Bool) (t0 : Nat) (a : Option Addr) (c : Nat) (w : World) (hG : Id.Gr w a n g) (hn : n ≤ 16) (hto : t0 < n) :
    Calls Try.prog 47 #[.slice a n c, .int .i64 t0] w fun e w' => (∃ G, e = .returned (.slice (some ⟨G, 0, none⟩) n n) ∧ w.heap.size ≤ G ∧ Id.AtA w' G n (Id.dst n g t0)) ∧ Below w.heap.size w w' := by
  have HGR := Lib.hid hG
  have HLT := Lib.hid (fun d (h : Id.Live n g t0 d) => Id.live_lt hto h)
  clear hG
  go_enter Try.func47, Try.ntmps47
  go_wp2
  go_step3
  go_wp2_with fail
  refine (sl_repeat (-1) n (by omega) (by omega) ⟨w.heap.size, 0, none⟩ _ (w.alloc (.cells #[.int .i64 (-1)] 3)) (by simp [go_sem]) (by simp)).mono ?_
  rintro e w1 ⟨rfl, h1, hb⟩
  have hz : (w.alloc (.cells #[.int .i64 (-1)] 3)).heap.size = w.heap.size + 1 := by simp
  rw [hz] at h1 ⊢
  obtain ⟨G, hGe⟩ : ∃ G, G = w.heap.size + 1 := ⟨_, rfl⟩
  rw [← hGe] at h1 ⊢
  have hwG : w.heap.size ≤ G := by omega
  have HB1 := Lib.hid (show Below w.heap.size w w1 from ((Below.refl _ _).alloc (Nat.le_refl _) _).trans (hb.mono (by simp)))
  have HA1 := Lib.hid (show Id.AtA w1 G n (fun _ => -1) by rw [Id.rowA_rep] at h1; exact h1)
  have fc := HA1.out.cell hto
  have ff := HA1.out.frozen t0
  have hlG := HA1.out.lt
  clear h1 hb hz hGe
  go_wp2_with fail
  go_step3
  go_wp2_with fail
  refine Kit.wp_name ?_
  intro W0 hW0
  have hsz1 : w1.heap.size < W0.heap.size := by rw [hW0]; simp
  have HA0 := Lib.hid (show Id.AtA W0 G n (Id.aw n g t0 0) by
    rw [hW0, ← Id.aw_zero]
    exact (HA1.out.set t0 0).kept (Kit.Exc.heap ((Kit.Exc.refl (fun _ => False) _).alloc _) (HA1.out.set t0 0) (fun h => h) |>.trans (HA1.out.set t0 0).symm))
  have HB0 := Lib.hid (show Below w.heap.size w W0 by rw [hW0]; exact (HB1.out.setCell hwG _).alloc (by simp; exact HB1.out.size) _)
  have HN0 := Lib.hid (show Tp.Sl W0 (some ⟨w1.heap.size, 0, none⟩) [t0].length 1 (Id.nc [t0]) by
    rw [hW0]
    exact Id.blk_new _ (by simp) [.int .i64 (t0 : Int)] _ (fun i j hi hj => by
      obtain rfl : i = 0 := by simpa using hi
      obtain rfl : j = 0 := by omega
      rfl))
  clear hW0 fc ff
  have hz2 : G ≠ w1.heap.size := by omega
  go_loopw [6, 7] (fun v6 v7 wr => ∃ (d : Nat) (N : List Nat) (aN : Option Addr) (cN : Nat) (b : Nat → Int), v7 = .int .i64 ((d : Int) + 1) ∧ v6 = .slice aN N.length cN ∧ N.length ≤ n ∧ G < wr.heap.size ∧ Hid (Id.AtA wr G n b) ∧ Hid (∀ k, k < n → b k = Id.aw n g t0 d k) ∧ Hid (∀ k, k ∈ N ↔ k < n ∧ Id.aw n g t0 d k = d) ∧ Hid (Id.Live n g t0 d) ∧ Hid (Below w.heap.size w wr) ∧ Hid (Tp.Sl wr aN N.length 1 (Id.nc N)) ∧ Hid (∀ ad, aN = some ad → ad.block ≠ G))
    (fun _ v7 _ => n - (intOf v7).toNat)
  case atStart => exact ⟨0, [t0], some ⟨w1.heap.size, 0, none⟩, 1, Id.aw n g t0 0, rfl, rfl, by simp; omega, by omega, HA0.out, (fun _ _ => rfl), (fun k => by simp [Id.aw]; intro e; omega), ⟨t0, hto, by simp [Id.aw]⟩, HB0.out, HN0.out, fun ad e => by cases e; exact hz2.symm⟩
  case round =>
    obtain ⟨d, N, aN, cN, b, rfl, rfl, hNl, hGr, HA, HAB, HM, HL, HB, HN, HNG⟩ := hrel
    clear HA0 HB0 HN0 HA1 HB1 hsz1
    have hdn : d < n := HLT.out d HL.out
    have HS0 := Lib.hid (Id.StI.start (N := N) HAB.out)
    go_wp2_with fail
    go_loopw [8, 26] (fun v8 v26 wx => ∃ (q : Nat) (b : Nat → Int) (X : List Nat), v26 = .int .i64 q ∧ q ≤ N.length ∧ Hid (Id.StI n g t0 d N q 0 b X) ∧ Hid (Id.AtA wx G n b) ∧ Hid (wx.ownsRow wr.heap.size 3 1 v8 X.length (Id.nats X)) ∧ Hid (Kit.Exc (fun p => p = G) wr wx))
      (fun _ v26 _ => N.length - (intOf v26).toNat)
    case atStart => exact ⟨0, b, [], rfl, Nat.zero_le _, HS0.out, HA.out, World.ownsRow_nil _ _ _ _, Kit.Exc.refl _ _⟩
    case round =>
      obtain ⟨q, b2, X, rfl, hq, HS, HA2, HO, HX⟩ := hrel
      rename World => wx
      have HBX := Lib.hid (HB.out.trans (HX.out.below HB.out.size (fun p hp => by rw [hp]; exact hwG)))
      by_cases hqn : q < N.length
      · have hnx := Id.sl_exc' HN.out HX.out HNG.out
        obtain ⟨adn, rfl, hadn, _⟩ := hnx.at hqn
        have e0 : wx.cell? (adn.add q) = some (.int .i64 ((N.getD q 0 : Nat) : Int)) := by
          have h := hnx.head hqn (by omega); rw [Nat.mul_one] at h; exact h
        obtain ⟨i, hi⟩ : ∃ i, N.getD q 0 = i := ⟨_, rfl⟩
        have hin : i < n := ((HM.out i).1 (by rw [← hi, List.getD_eq_getElem?_getD, List.getElem?_eq_getElem hqn]; exact List.getElem_mem hqn)).1
        rw [hi] at e0
        have HI := Lib.hid hi
        obtain ⟨adg, rfl, hadg, ai, ci, e1, hsl⟩ := HGR.out.at (i := i) (by rw [Id.tabB_len]; exact hin)
        rw [Id.tabB_get _ _ _ _ hin, Id.rowB_len] at e1 hsl
        have e1' : wx.cell? (adg.add i) = some (.slice ai n ci) := (HBX.out.cell (by rw [Tp.add_block]; exact hadg)).trans e1
        have HSL := Lib.hid hsl
        clear hnx hi e1 hsl
        go_wp2_with fail
        go_loopw [8, 35] (fun v8 v35 wy => ∃ (k : Nat) (b : Nat → Int) (X : List Nat), v35 = .int .i64 k ∧ k ≤ n ∧ Hid (Id.StI n g t0 d N q k b X) ∧ Hid (Id.AtA wy G n b) ∧ Hid (wy.ownsRow wr.heap.size 3 1 v8 X.length (Id.nats X)) ∧ Hid (Kit.Exc (fun p => p = G) wr wy))
          (fun _ v35 _ => n - (intOf v35).toNat)
        case atStart => exact ⟨0, b2, X, rfl, Nat.zero_le _, HS.out, HA2.out, HO.out, HX.out⟩
        case round =>
          obtain ⟨k, b3, X3, rfl, hk, HS3, HA3, HO3, HX3⟩ := hrel
          rename World => wy
          by_cases hkn : k < n
          · have HBY := Lib.hid (HB.out.trans (HX3.out.below HB.out.size (fun p hp => by rw [hp]; exact hwG)))
            obtain ⟨adr, rfl, hadr, _⟩ := HSL.out.at hkn
            have e2 : wy.cell? (adr.add k) = some (.bool (g i k)) := by
              have h := (HSL.out.kept HBY.out (Nat.le_refl _)).head hkn (by omega)
              rw [Nat.mul_one] at h
              rw [h]
              show some (Value.bool ((Id.rowB n g i).getD k false)) = _
              rw [Id.rowB_get _ _ _ _ hkn]
            have fc := HA3.out.cell hkn
            have ff := HA3.out.frozen k
            rcases hg : g i k with _ | _
            · rw [hg] at e2
              have HS4 := Lib.hid (HS3.out.no hkn (by rw [HI.out, hg]; simp))
              clear hg
              go_wp2_with fail
              go_roundw
              case rel => exact ⟨k + 1, b3, X3, by go_num, by omega, HS4.out, HA3.out, HO3.out, HX3.out⟩
              case measure => simp [intOf]; omega
            rw [hg] at e2
            rcases hd : decide (b3 k < 0) with _ | _
            · have HS4 := Lib.hid (HS3.out.no hkn (fun h => by simp [h.2] at hd))
              clear hg
              go_wp2_with fail
              go_roundw
              case rel => exact ⟨k + 1, b3, X3, by go_num, by omega, HS4.out, HA3.out, HO3.out, HX3.out⟩
              case measure => simp [intOf]; omega
            · have HS4 := Lib.hid (HS3.out.yes hkn (by rw [HI.out]; exact hg) (of_decide_eq_true hd))
              have hxl := HS3.out.len
              obtain ⟨aX, cX, rfl⟩ := Id.own_slice HO3.out
              have hzy : wr.heap.size ≤ wy.heap.size := HX3.out.size
              have HO4 := Lib.hid (Id.own_kept HO3.out (w' := wy.setCell ⟨G, k, none⟩ (.int .i64 ((d : Int) + 1))) (fun p hp => heap_setCell_other _ _ _ _ (by have := (HO3.out.lt p hp).1; show p ≠ G; omega)))
              obtain ⟨i0, hi0, hz0, hz1, hz2'⟩ := info_parts Id.intInfo
              clear hg
              go_wp2_with (at_builtin; refine Kit.wpList_append_own' _ rfl _ _ 25 rfl wr.heap.size 3 i0 (.int .i64 0) 1 8 Try.underlying25 hi0 hz0 hz1 hz2' rfl (by decide) (.slice aX X3.length cX) _ _ rfl (HO4.out.alloc _) ⟨wy.heap.size, 0, none⟩ 1 1 [.int .i64 (k : Int)] rfl rfl (fun j u hu => Kit.lit_at _ _ _ (by simp) j u hu) (by simp [Value.oneCell']) (by unfold maxLen; omega) (by omega) (by simp; omega) ?_; intro v' w5 hown' hgrow _ _; have HO5 := Lib.hid hown'; have HG5 := Lib.hid hgrow; clear hown' hgrow)
              go_roundw
              case rel =>
                have h1 : Id.AtA w5 G n (Id.upd b3 k ((d : Int) + 1)) := (HA3.out.set k ((d : Int) + 1)).kept ((HG5.out.block G (by simp; have := HA3.out.lt; omega) (fun e => by have := (HO4.out.lt G e.symm).1; omega)).trans (Kit.Exc.heap ((Kit.Exc.refl (fun _ => False) _).alloc _) (HA3.out.set k ((d : Int) + 1)) (fun h => h) |>.trans (HA3.out.set k ((d : Int) + 1)).symm))
                exact ⟨k + 1, _, X3 ++ [k], by go_num, by omega, HS4.out, h1, by rw [List.length_append]; exact Lib.hid (by simpa [Id.nats] using HO5.out), ((HX3.out.setCell (.inl rfl) _).alloc _).grown HG5.out (fun p hp => .inr (HO4.out.lt p hp).1)⟩
              case measure => simp [intOf]; omega
          · obtain rfl : k = n := by omega
            have HS4 := Lib.hid (HS3.out.row hqn)
            go_wp2_with fail
            go_roundw
            case rel => exact ⟨q + 1, b3, X3, by go_num, by omega, HS4.out, HA3.out, HO3.out, HX3.out⟩
            case measure => simp [intOf]; omega
      · obtain rfl : q = N.length := by omega
        have HD := Lib.hid (HS.out.done HM.out)
        obtain ⟨aX, cX, rfl⟩ := Id.own_slice HO.out
        have hxl := HS.out.len
        have hlx := HA2.out.lt
        by_cases hX : X = []
        · subst hX
          have HDD := Lib.hid (show Id.AtA wx G n (Id.dst n g t0) from HA2.out.congr fun k hk => by
            rw [HD.out.1 k hk]
            exact Id.aw_dst hto (fun ⟨i, h1, h2⟩ => by have := (HD.out.2 i).2 ⟨h1, h2⟩; simp at this) k)
          go_wp2
          try rw [Exit.noGoto_ret]
          go_ret
          exact ⟨⟨G, rfl, hwG, HDD.out⟩, HBX.out⟩
        · have hx0 : ((X.length : Int) == 0) = false := by
            have : X.length ≠ 0 := fun h => hX (List.eq_nil_of_length_eq_zero h)
            simp; omega
          have HL2 := Lib.hid (show Id.Live n g t0 (d + 1) by
            obtain ⟨x, hx⟩ := List.exists_mem_of_ne_nil X hX
            exact ⟨x, (HD.out.2 x).1 hx⟩)
          have HXX := Lib.hid (Id.own_sl HO.out (Id.nats_nc X))
          have hln : (Id.nats X).length = X.length := by simp [Id.nats]
          clear hX
          have h3 := HXX.out.2.2
          have HNE := Lib.hid (show ∀ ad, aX = some ad → ad.block ≠ G from fun ad e => by have := h3 ad e; omega)
          clear h3 hln
          go_wp2_with fail
          go_roundw
          case rel => exact ⟨d + 1, X, aX, cX, b2, by go_num, rfl, hxl, hlx, HA2.out, HD.out.1, HD.out.2, HL2.out, HBX.out, HXX.out.1, HNE.out⟩
          case measure =>
            have t1 : ((d : Int) + 1 + 1).toNat = d + 2 := by omega
            have t2 : ((d : Int) + 1).toNat = d + 1 := by omega
            have hdn2 := HLT.out (d + 1) HL2.out
            simp only [intOf, t1, t2]; omega
end Go.Proofs.Ytdaedjmkolcliaa
