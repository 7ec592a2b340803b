/- Walks: package apart: Groups. -/
import Derived.Test.YtjoieglhmladhaaDoorApK
import Derived.Deep.Onto
import Derived.Laws.EntriesVeiled
namespace Go.Proofs.YtjoieglhmladhaaDoor
set_option linter.unusedVariables false
set_option linter.unusedSimpArgs false
open Go.RowKit Go.Shelf

theorem Ap.under51 : Tryd.prog.underlying 51 = some (.slice 3) := by kernel_rfl
theorem Ap.info3 : (Tryd.prog.info? 3).map (fun i => (i.zero, i.size, i.bytes)) = some (some (.int .i64 0), 1, 8) := by kernel_rfl
namespace Ap
def prc (L : List (Int × Int)) (i j : Nat) : Value := .int .i64 (if j = 0 then (L.getD i (0, 0)).1 else (L.getD i (0, 0)).2)
theorem fl2_at : ∀ (L : List (Int × Int)) (i : Nat), i < L.length → (fl2 L)[i * 2]? = some (.int .i64 (L.getD i (0, 0)).1) ∧ (fl2 L)[i * 2 + 1]? = some (.int .i64 (L.getD i (0, 0)).2)
  | p :: L, 0, _ => by simp [fl2]
  | p :: L, i + 1, h => by
    obtain ⟨h1, h2⟩ := fl2_at L i (by simpa using h)
    have e : fl2 (p :: L) = .int .i64 p.1 :: .int .i64 p.2 :: fl2 L := by simp [fl2]
    rw [e, show (i + 1) * 2 = i * 2 + 1 + 1 by omega]
    simpa using ⟨h1, h2⟩
/-- The pairs' slice, as the walk reads it. -/
theorem row_sl {w : World} {base : Nat} {v : Value} {L : List (Int × Int)} (h : w.ownsRow base 75 2 v L.length (fl2 L)) :
    ∃ ad c, v = .slice ad L.length c ∧ Tp.Sl w ad L.length 2 (prc L) ∧ ∀ b, ad = some b → base ≤ b.block := by
  have hc := h
  rcases h.2 with ⟨rfl, hn⟩ | ⟨g, cap, cur, rfl, hb, hg, _⟩
  · exact ⟨none, 0, by rw [hn], .inl hn, fun _ h => by cases h⟩
  · refine ⟨some ⟨g, 0, none⟩, cap, rfl, .inr ⟨⟨g, 0, none⟩, rfl, (hc.lt g rfl).2, fun i j hi hj => ?_⟩, fun b h => by cases h; exact hb⟩
    obtain ⟨h1, h2⟩ := fl2_at L i hi
    rcases j with _ | _ | j
    · have h3 := (hc.cellAt (i * 2) (by omega)).trans h1
      rcases i with _ | i
      · simpa [Addr.add, prc] using h3
      · simpa [Addr.add, prc, show (i + 1) * 2 ≠ 0 by omega] using h3
    · simpa [Addr.add, prc] using (hc.cellAt (i * 2 + 1) (by omega)).trans h2
    · omega
def ints (k : Nat) : List Value := (List.range k).map fun j : Nat => Value.int .i64 (j : Int)
theorem ints_snoc (k : Nat) : ints (k + 1) = ints k ++ [.int .i64 k] := by simp [ints, List.range_succ]
end Ap
theorem Ap.Sl_keptS {w w' : World} {a : Option Addr} {n k : Nat} {f : Nat → Nat → Value} (h : Tp.Sl w a n k f) (hs : w.heap.size ≤ w'.heap.size) (hk : ∀ ad, a = some ad → w'.heap[ad.block]? = w.heap[ad.block]?) : Tp.Sl w' a n k f := by
  rcases h with h | ⟨ad, h1, h2, h3⟩
  · exact .inl h
  · exact .inr ⟨ad, h1, Nat.lt_of_lt_of_le h2 hs, fun i j hi hj => (World.cell?_of_block (by rw [Tp.add_block]; exact hk ad h1)).trans (h3 i j hi hj)⟩

theorem Kit.exc_then {S T : Nat → Prop} {A B C : World} (h : Kit.Exc S A B) (k : Kit.Exc T B C) (hn : ∀ i, i < A.heap.size → T i → S i) : Kit.Exc S A C :=
  ⟨k.os.trans h.os, k.tape.trans h.tape, k.output.trans h.output, Nat.le_trans h.size k.size, fun i hi hs => (k.block i (Nat.lt_of_lt_of_le hi h.size) (fun ht => hs (hn i hi ht))).trans (h.block i hi hs)⟩
/-- A goal under a name, so that the walk lets it stand. -/
theorem Kit.hold {p : Prop} (h : ∀ X : Prop, Hid (X = p) → X) : p := h p rfl

/-- What Groups leaves: the list of the groups. -/
def Ap.GPost (L : List (Int × Int)) (R : Nat) (w : World) (e : Ending) (w' : World) : Prop :=
  ∃ g cap, e = .returned (.tuple #[.slice (some ⟨g, 0, none⟩) R cap, .int .i64 0]) ∧ w.heap.size ≤ g ∧ g < w'.heap.size ∧ (∀ j, j < R → w'.cell? ⟨g, j, none⟩ = some (.int .i64 (Ap.grp L j))) ∧ Below w.heap.size w w'

set_option maxRecDepth 100000 in
set_option maxHeartbeats 2000000 in
theorem ap_groups_2a (wd dp ta tb tc : Int) (aR : Option Addr) (nR cR : Nat) (n : Int) (aT : Option Addr) (nT cT : Nat) (aP : Option Addr) (nP cP : Nat) (aS : Option Addr) (nS cS : Nat) (aG : Option Addr) (nG cG : Nat) (bar : Int) (w : World)
    (lR : nR ≤ 64) (lR0 : 0 < nR) (L : List (Int × Int)) (hLl : L.length ≤ 4096) (hL : ∀ p ∈ L, (∃ c : Nat, p.1 = c ∧ c < nR) ∧ ∃ c : Nat, p.2 = c ∧ c < nR)
    (hc : ∀ W, Below w.heap.size w W → Calls Tryd.prog 15 #[Ex.wv wd dp ta tb tc aR nR cR n aT nT cT aP nP cP aS nS cS aG nG cG, .int .i64 bar] W fun e w' => ∃ v, e = .returned (.tuple #[v, .int .i64 0]) ∧ w'.ownsRow W.heap.size 75 2 v L.length (Ap.fl2 L) ∧ Below W.heap.size W w') :
    Calls Tryd.prog 17 #[Ex.wv wd dp ta tb tc aR nR cR n aT nT cT aP nP cP aS nS cS aG nG cG, .int .i64 bar] w (Ap.GPost L nR w) := by
  have HC := Lib.hid hc; clear hc
  have HL := Lib.hid hL; clear hL
  go_enter Tryd.func17, Tryd.ntmps17
  go_wp2_with fail
  refine (HC.out _ (by (repeat' first | (with_reducible first | exact Below.refl _ _ | assumption | refine Kit.below_drewN ?_ _ | refine Below.drew ?_ | refine Below.alloc ?_ ?_ _ | refine Below.setCell ?_ ?_ _ | exact Nat.le_refl _) | omega | (simp; omega) | (simp; done) | (apply Below.size; assumption)))).mono ?_
  rintro e w1 ⟨v, rfl, hown, hb1⟩
  obtain ⟨ap, cp, rfl, hsl, hblk⟩ := Ap.row_sl hown
  obtain ⟨hc1, hf1⟩ := Kit.bcell hb1
  have k5 : w1.cell? ⟨w.heap.size, 5, none⟩ = some (.slice aR nR cR) := by rw [hc1 _ _ (by simp; omega)]; simp [go_sem]
  have s1 : w.heap.size + 2 ≤ w1.heap.size := by have := hb1.size; simpa using this
  have bx : Boxed w1 (w.heap.size + 1) 51 (.slice none 0 0) := by
    have := hb1.block (w.heap.size + 1) (by simp)
    have h2 := Boxed.new (w.alloc (Obj.cells #[Value.int IntKind.i64 wd, Value.int IntKind.i64 dp, Value.int IntKind.i64 ta, Value.int IntKind.i64 tb, Value.int IntKind.i64 tc, Value.slice aR nR cR, Value.int IntKind.i64 n, Value.slice aT nT cT, Value.slice aP nP cP, Value.slice aS nS cS, Value.slice aG nG cG] 43)) 51 (.slice none 0 0)
    rw [World.size_alloc] at h2
    exact this.trans h2
  have b1 : Below w.heap.size w w1 := (((Below.refl _ _).alloc (Nat.le_refl _) _).alloc (by simp) _).trans (hb1.mono (by simp; omega))
  have hblk2 : ∀ b, ap = some b → w.heap.size + 2 ≤ b.block := fun b h => by have := hblk b h; simpa using this
  have HSL := Lib.hid hsl
  have HBLK := Lib.hid hblk2
  have K5 := Lib.hid k5
  have BX := Lib.hid bx
  have HB1 := Lib.hid b1
  clear hsl hblk hblk2 hown hb1 hc1 hf1 bx b1 HC
  go_wp2
  clear k5
  go_loopw [26] (fun v26 wr => ∃ (k : Nat) (v : Value), v26 = .int .i64 k ∧ k ≤ nR ∧ Hid (Boxed wr (w.heap.size + 1) 51 v) ∧ Hid (wr.ownsRow w1.heap.size 3 1 v k (Ap.ints k)) ∧ Hid (Kit.Exc (fun k => k = w.heap.size + 1) w1 wr))
    (fun v26 _ => nR - (intOf v26).toNat)
  case atStart => exact ⟨0, _, rfl, Nat.zero_le _, BX, Lib.hid (World.ownsRow_nil _ _ _ _), Lib.hid (Kit.Exc.refl _ _)⟩
  case round =>
    obtain ⟨k, v, rfl, hk, HBX, HO, HX⟩ := hrel
    by_cases hlt : k < nR
    · have v0 := HBX.out.cell
      have vf := HBX.out.frozen
      have vl := HBX.out.lt
      have zx := HX.out.size
      obtain ⟨i0, hi, hz0, hz1, hz2⟩ := info_parts Ap.info3
      have hcell : ∀ (W : World) (N : Nat), N = W.heap.size → ∀ j u, [Value.int .i64 k][j]? = some u → (W.alloc (.cells #[.int .i64 k] 3)).cell? ((⟨N, 0, none⟩ : Addr).add j) = some u := by
        rintro W N rfl j u hu
        rcases j with _ | j <;> simp at hu <;> subst hu <;> simp [Addr.add, go_sem]
      have HCELL := Lib.hid hcell; clear hcell
      go_wp2_with (at_builtin; refine Kit.hold ?_; intro X HX)
      rw [HX.out]; clear HX X
      refine Kit.wpList_append_own' _ rfl _ _ 51 rfl w1.heap.size 3 i0 (.int .i64 0) 1 8 Ap.under51 hi hz0 hz1 hz2 rfl (by decide) v _ _ rfl (HO.out.alloc _) ⟨wr.heap.size, 0, none⟩ 1 1 [.int .i64 k] rfl rfl (HCELL.out _ _ (by simp)) (by simp [Value.oneCell']) (by unfold maxLen; omega) (by omega) (by simp; omega) ?_
      intro v' w2 hown' hgrow _ _
      obtain ⟨g', cap', rfl⟩ := ownsRow_succ hown'
      have HV2 := Lib.hid (((HBX.out.alloc _).kept hgrow (HBX.out.not_row (by decide) HO.out)))
      have u0 := HV2.out.cell
      have u1 := HV2.out.frozen
      have u2 := HV2.out.lt
      have HOWN := Lib.hid hown'
      have HGR := Lib.hid hgrow
      clear hown' hgrow
      go_wp2
      go_roundw
      case rel => exact ⟨k + 1, _, by go_num, by omega, Lib.hid (HV2.out.set _), Lib.hid (by rw [Ap.ints_snoc]; exact HOWN.out.kept (grownBy_setCell' _ _ _) (.inr (HV2.out.not_row (by decide) HOWN.out).symm)),
        Lib.hid (((HX.out.alloc _).grown HGR.out (fun k hk => .inr (HO.out.lt k hk).1)).setCell (.inl rfl) _)⟩
      case measure => simp [intOf]; omega
    · obtain rfl : nR = k := by omega
      have hv : ∃ g cap, v = .slice (some ⟨g, 0, none⟩) nR cap := by
        rcases HO.out.2 with ⟨_, h⟩ | ⟨g, cap, cur, h, _⟩
        · omega
        · exact ⟨g, cap, h⟩
      obtain ⟨Bg, cap, rfl⟩ := hv
      have hz := HX.out.size
      have hg := HO.out.lt Bg rfl
      have hgB : Bg ≠ w.heap.size + 1 := by omega
      have hfree : ∀ j, wr.frozen? ⟨Bg, j, none⟩ = false := by
        intro j
        rcases HO.out.2 with ⟨h, _⟩ | ⟨g, cap, cur, h, _, hh, _⟩
        · cases h
        · cases h
          simp [World.frozen?, hh]
      have hbA' : ∀ o, (wr.alloc o).frozen? ⟨w.heap.size + 1, 0, none⟩ = wr.frozen? ⟨w.heap.size + 1, 0, none⟩ := fun o => ((Below.refl _ _).alloc (Nat.le_refl _) _).frozen (by have := HBX.out.lt; exact this)
      have hL1 : Ap.LAt (w.heap.size + 1) wr.heap.size Bg nR cap (wr.alloc (.cells #[.func (.func 47) #[] #[.pointer (some ⟨w.heap.size + 1, 0, none⟩), .pointer (some ⟨wr.heap.size, 0, none⟩)]] 98)) id := by
        have hbA : ∀ o, Below wr.heap.size wr (wr.alloc o) := fun o => (Below.refl _ _).alloc (Nat.le_refl _) _
        refine ⟨fun j hj => ?_, fun j hj => ?_, ?_, ?_, ?_, ?_, ?_⟩
        · refine ((hbA _).cell hg.2).trans ((HO.out.cellAt j (by omega)).trans ?_)
          simp [Ap.ints, hj]
        · exact ((hbA _).frozen hg.2).trans (hfree j)
        · exact ((hbA _).cell HBX.out.lt).trans HBX.out.cell
        · simp [go_sem]
        · simp; omega
        · simp; omega
        · simp
      have HL1 := Lib.hid hL1
      have HX2 := Lib.hid (show Kit.Exc (fun k => k = w.heap.size + 1) w1 (wr.alloc (.cells #[.func (.func 47) #[] #[.pointer (some ⟨w.heap.size + 1, 0, none⟩), .pointer (some ⟨wr.heap.size, 0, none⟩)]] 98)) from HX.out.alloc _)
      have HF2 := Lib.hid (show (wr.alloc (.cells #[.func (.func 47) #[] #[.pointer (some ⟨w.heap.size + 1, 0, none⟩), .pointer (some ⟨wr.heap.size, 0, none⟩)]] 98)).frozen? ⟨w.heap.size + 1, 0, none⟩ = false from (hbA' _).trans HBX.out.frozen)
      have v0 := HBX.out.cell
      clear hL1 hfree hbA'
      go_wp2
      obtain ⟨B8, hB8⟩ : ∃ B8, B8 = wr.heap.size := ⟨_, rfl⟩
      obtain ⟨W2, hW2⟩ : ∃ W2, W2 = wr.alloc (.cells #[.func (.func 47) #[] #[.pointer (some ⟨w.heap.size + 1, 0, none⟩), .pointer (some ⟨wr.heap.size, 0, none⟩)]] 98) := ⟨_, rfl⟩
      have hz2 : W2.heap.size = wr.heap.size + 1 := by rw [hW2]; simp
      rw [← hW2] at HL1 HX2 HF2 ⊢
      rw [← hB8] at HL1 ⊢
      have hz8 : w1.heap.size ≤ B8 := by omega
      have hg8 : Bg < B8 := by omega
      have hgl := hg.1
      have hr0 := Lib.hid (show Ap.grp L = L.foldl Ap.uni id from rfl)
      clear hW2 hB8 hz2 v0 HO HBX HX BX hz hg hk hlt
      go_loopw [37] (fun v37 wq => ∃ (k : Nat) (G r : Nat → Nat), v37 = .int .i64 k ∧ k ≤ L.length ∧ Hid (Ap.LAt (w.heap.size + 1) B8 Bg nR cap wq G) ∧ Hid (∀ j, j < nR → G j ≤ j) ∧ Hid (∀ j, j < nR → Ap.rt G j = r j) ∧ Hid (Ap.grp L = (L.drop k).foldl Ap.uni r) ∧ Hid (Kit.Exc (fun k => k = w.heap.size + 1) w1 wq) ∧ Hid (wq.frozen? ⟨w.heap.size + 1, 0, none⟩ = false))
        (fun v37 _ => L.length - (intOf v37).toNat)
      case atStart => exact ⟨0, id, id, rfl, Nat.zero_le _, HL1, Lib.hid (fun _ _ => Nat.le_refl _), Lib.hid (fun j _ => Ap.rt_id j), Lib.hid (by simpa using hr0.out), HX2, HF2⟩
      case round =>
        obtain ⟨k, G, r, rfl, hk, HLA, HGL, HR, HGR, HX, HF⟩ := hrel
        by_cases hlt : k < L.length
        · obtain ⟨ad, rfl, had, _⟩ := HSL.out.at hlt
          have hadb := HBLK.out ad rfl
          have HSl := Ap.Sl_keptS HSL.out HX.out.size (fun b hb => by cases hb; exact HX.out.block ad.block had (by omega))
          have e0 := HSl.head hlt (by omega)
          have e1 := HSl.field hlt (j := 1) (by omega) (by omega)
          clear HSl
          have hdrop := Tp.drop_cons L (0, 0) k hlt
          have hmem : L.getD k (0, 0) ∈ L := by
            have : L.getD k (0, 0) ∈ L.drop k := by rw [hdrop]; exact List.mem_cons_self ..
            exact List.mem_of_mem_drop this
          obtain ⟨⟨a, ha, han⟩, b, hb, hbn⟩ := HL.out _ hmem
          generalize hx : L.getD k (0, 0) = x at hdrop ha hb
          simp only [Ap.prc, hx, if_true, if_false, ha, Nat.one_ne_zero] at e0 e1
          rw [hb] at e1
          have hx2 : x = ((a : Int), (b : Int)) := Prod.ext ha hb
          have hgr : Ap.grp L = (L.drop (k + 1)).foldl Ap.uni (Ap.uni r ((a : Int), (b : Int))) := by rw [HGR.out, hdrop, hx2]; rfl
          have HGR2 := Lib.hid hgr
          have zx := HX.out.size
          have hbk : (ad.add (k * 2)).block < wr.heap.size := by rw [Tp.add_block]; omega
          have n4 : w.heap.size + 1 ≠ Bg := Ne.symm hgB
          have n8 : B8 ≠ Bg := by omega
          have f8 := HLA.out.fn
          have l8 := HLA.out.l8
          have l4 := HLA.out.l4
          have lg := HLA.out.lg
          clear hgr hdrop hmem hx hx2 ha hb HGR
          ((go_wp2_with (refine Kit.veil ?_; intro X HX)); rw [HX.out]; clear HX)
          refine Kit.wp_name ?_
          intro W3 hW3
          have zW : W3.heap.size = wr.heap.size + 1 := by rw [hW3]; simp
          have X3 : ∀ S, Kit.Exc S wr W3 := fun S => by rw [hW3]; exact (Kit.Exc.refl _ _).alloc _
          have p0 : W3.cell? ⟨wr.heap.size, 0, none⟩ = some (.int .i64 a) := by rw [hW3]; simp [go_sem]
          have p1 : W3.cell? ⟨wr.heap.size, 1, none⟩ = some (.int .i64 b) := by rw [hW3]; simp [go_sem]
          have hL3 : Ap.LAt (w.heap.size + 1) B8 Bg nR cap W3 G := by
            have h := HLA.out
            exact ⟨fun j hj => (X3 (fun _ => False)).cell (h.cell j hj) (by simp) h.lg, fun j hj => (X3 (fun _ => False)).frozen (h.free j hj) (by simp) h.lg, (X3 (fun _ => False)).cell h.slice (by simp) h.l4, (X3 (fun _ => False)).cell h.fn (by simp) h.l8,
              by rw [zW]; have := h.lg; omega, by rw [zW]; have := h.l4; omega, by rw [zW]; have := h.l8; omega⟩
          have HL3 := Lib.hid hL3
          have HF3 := Lib.hid ((X3 (fun _ => False)).frozen HF.out (by simp) l4)
          have HX3 := Lib.hid (HX.out.trans (X3 _))
          clear hW3 X3 hL3 f8 e0 e1
          refine Kit.wp_region_vals 10 [([(8, none)], none, true), ([(10, none)], none, true), ([(42, some 1)], none, true), ([(41, some 0), (43, some 2)], none, true), ([(8, none)], none, true), ([(10, none)], none, true), ([(46, some 5)], none, true), ([(45, some 4), (47, some 6)], none, true), ([(44, some 3)], none, true), ([(48, some 7)], none, true)]
            [some 41, some 42, some 43, some 44, some 45, some 46, some 47, some 48, some 11, some 12] rfl (by kernel_rfl) (by kernel_rfl) (Ap.LE (w.heap.size + 1) B8 Bg nR cap) (fun i' v w' => match i' with
            | 0 => v = .func (.func 47) #[] #[.pointer (some ⟨w.heap.size + 1, 0, none⟩), .pointer (some ⟨B8, 0, none⟩)]
            | 1 => v = .pointer (some ⟨wr.heap.size, 0, none⟩)
            | 2 => v = .int .i64 a
            | 3 => v = .int .i64 (Ap.rt G a)
            | 4 => v = .func (.func 47) #[] #[.pointer (some ⟨w.heap.size + 1, 0, none⟩), .pointer (some ⟨B8, 0, none⟩)]
            | 5 => v = .pointer (some ⟨wr.heap.size, 1, none⟩)
            | 6 => v = .int .i64 b
            | 7 => v = .int .i64 (Ap.rt G b)
            | 8 => v = .int .i64 (Ap.rt G a)
            | _ => v = .int .i64 (Ap.rt G b))
            (fun h k => h.trans k) ⟨(Kit.Exc.refl _ _).drew, fun G hG hA => ⟨G, hA.drawn rfl (fun _ => rfl), Ap.Cmp.refl _ _⟩⟩ (fun _ => Ap.LE.refl _ _ _ _ _ _) ?_ ?_ ?_
          · intro i' v A B h1 h2 h3
            split at h3 <;> exact h3
          · simp only [List.take_succ_cons, List.take_zero, Kit.StepsV, Kit.VOp, Kit.RdP, true_and, if_true, and_true]
            refine ⟨?_, ?_, ?_, ?_, ?_, ?_, ?_, ?_, ?_, ?_⟩
            all_goals intro ev wz hx hv hc hf hg'
            all_goals obtain ⟨G1, L1, C1⟩ := hx.2 G HGL.out HL3.out
            all_goals (have s1 := L1.slice; have s2 := L1.fn; have q0 := hx.1.cell p0 (by simp; omega) (by simp; omega); have q1 := hx.1.cell p1 (by simp; omega) (by simp; omega))
            · simp at hv; simp [execOp, hv, go_sem, Kit.UponV, Ap.LE.refl, s2]
            · simp at hv; simp [execOp, hv, hc, go_sem, Kit.UponV, Ap.LE.refl]
            · simp [execOp, hv, hc, go_sem, Kit.UponV, Ap.LE.refl, q0]
            · obtain ⟨hv1, hv2⟩ := hv
              simp [execOp, hv1, hv2, go_sem, Kit.UponV]
              refine (ap_least (w.heap.size + 1) B8 Bg nR cap lR n4 n8 a han G1 wz L1 (C1.le HGL.out)).mono ?_
              rintro e w' ⟨rfl, G', L', C', _, hE⟩
              exact ⟨_, rfl, by rw [C1.rt a han], hE, fun G0 h0 L0 => ⟨G', L', (L0.uniq L1).trans C'⟩⟩
            · simp at hv; simp [execOp, hv, go_sem, Kit.UponV, Ap.LE.refl, s2]
            · simp at hv; simp [execOp, hv, hc, go_sem, Kit.UponV, Ap.LE.refl]
            · simp [execOp, hv, hc, go_sem, Kit.UponV, Ap.LE.refl, q1]
            · obtain ⟨hv1, hv2⟩ := hv
              simp [execOp, hv1, hv2, go_sem, Kit.UponV]
              refine (ap_least (w.heap.size + 1) B8 Bg nR cap lR n4 n8 b hbn G1 wz L1 (C1.le HGL.out)).mono ?_
              rintro e w' ⟨rfl, G', L', C', _, hE⟩
              exact ⟨_, rfl, by rw [C1.rt b hbn], hE, fun G0 h0 L0 => ⟨G', L', (L0.uniq L1).trans C'⟩⟩
            · simp [execOp, hv, hc, go_sem, Kit.UponV, Ap.LE.refl]
            · simp [execOp, hv, hc, go_sem, Kit.UponV, Ap.LE.refl]
          · intro vs wz hv hx
            have v0 : vs 0 = _ := hv 0 (by omega)
            have v1 : vs 1 = _ := hv 1 (by omega)
            have v2 : vs 2 = _ := hv 2 (by omega)
            have v3 : vs 3 = _ := hv 3 (by omega)
            have v4 : vs 4 = _ := hv 4 (by omega)
            have v5 : vs 5 = _ := hv 5 (by omega)
            have v6 : vs 6 = _ := hv 6 (by omega)
            have v7 : vs 7 = _ := hv 7 (by omega)
            have v8 : vs 8 = _ := hv 8 (by omega)
            have v9 : vs 9 = _ := hv 9 (by omega)
            clear hv
            simp only [Kit.putD, List.getD_cons_zero, List.getD_cons_succ, Act.put, v0, v1, v2, v3, v4, v5, v6, v7, v8, v9, List.drop_succ_cons, List.drop_zero]
            go_simp
            obtain ⟨G1, L1, C1⟩ := hx.2 G HGL.out HL3.out
            have la := Ap.rt_le G a
            have lb := Ap.rt_le G b
            have ea := C1.rt a han
            have eb := C1.rt b hbn
            have hnew := Lib.hid (fun j hj => Ap.uni_rt (R := nR) (G := G1) (r := r) (fun j hj => (C1.rt j hj).trans (HR.out j hj)) han hbn j hj)
            rw [ea, eb] at hnew
            have HC1 := Lib.hid (C1.le HGL.out)
            have HL4 := Lib.hid L1
            have HF4 := Lib.hid (hx.1.frozen HF3.out (by simpa using n4) (by simp; omega))
            have HX4 := Lib.hid (Kit.exc_then HX3.out hx.1 (fun i hi h => by omega))
            generalize Ap.rt G a = A at *
            generalize Ap.rt G b = B at *
            have hM : max A B < nR := by omega
            have m1 : (if A < B then (B : Int) else (A : Int)) = ((max A B : Nat) : Int) := by split <;> omega
            have m2 : (if B < A then (B : Int) else (A : Int)) = ((min A B : Nat) : Int) := by split <;> omega
            have s1 := L1.slice
            have ci1 := L1.cell _ hM
            have fi1 := L1.free _ hM
            clear hx L1 C1 v0 v1 v2 v3 v4 v5 v6 v7 v8 v9 ea eb HR HLA HL3 HX3
            generalize hMx : max A B = M at *
            generalize hMn : min A B = m at *
            go_wp2
            exact ⟨⟨k + 1, _, Ap.uni r ((a : Int), (b : Int)), by go_num, by omega, Lib.hid (HL4.out.set n4 n8 M m hM), Lib.hid (fun j hj => by
                have := HC1.out j hj
                show (if j = M then m else G1 j) ≤ j
                split <;> omega), hnew, HGR2, Lib.hid (HX4.out.setCell (.inr hgl) _), Lib.hid (by rw [World.frozen?_setCell]; exact HF4.out)⟩, by simp [intOf]; omega⟩
        · have hgr : Ap.grp L = r := by rw [HGR.out, List.drop_of_length_le (by omega)]; rfl
          have HR2 := Lib.hid (show ∀ j, j < nR → Ap.rt G j = Ap.grp L j from fun j hj => by rw [hgr]; exact HR.out j hj)
          have s4 := HLA.out.slice
          clear hgr HR HGR HL1 HX2 HF2 hr0
          go_wp2
          clear s4
          go_loopw [60] (fun v60 wq => ∃ (k : Nat) (G : Nat → Nat), v60 = .int .i64 k ∧ k ≤ nR ∧ Hid (Ap.LAt (w.heap.size + 1) B8 Bg nR cap wq G) ∧ Hid (∀ j, j < nR → G j ≤ j) ∧ Hid (∀ j, j < nR → Ap.rt G j = Ap.grp L j) ∧ Hid (∀ j, j < k → G j = Ap.grp L j) ∧ Hid (Kit.Exc (fun k => k = w.heap.size + 1) w1 wq) ∧ Hid (wq.frozen? ⟨w.heap.size + 1, 0, none⟩ = false))
            (fun v60 _ => nR - (intOf v60).toNat)
          case atStart => exact ⟨0, G, rfl, Nat.zero_le _, HLA, HGL, HR2, Lib.hid (fun j hj => by omega), HX, HF⟩
          case round =>
            clear HLA HGL HR2 HX HF
            obtain ⟨i, G, rfl, hi, HLA, HGL, HR, HD, HX, HF⟩ := hrel
            have n4 : w.heap.size + 1 ≠ Bg := Ne.symm hgB
            have n8 : B8 ≠ Bg := by omega
            have f8 := HLA.out.fn
            have s4 := HLA.out.slice
            have l4 := HLA.out.l4
            have l8 := HLA.out.l8
            by_cases hlt3 : i < nR
            · go_wp2_with fail
              refine (ap_least (w.heap.size + 1) B8 Bg nR cap lR n4 n8 i hlt3 G _ HLA.out HGL.out).mono ?_
              rintro e wz ⟨rfl, G', L', C', hi', hE⟩
              have HF' := Lib.hid (hE.frozen HF.out (by simpa using n4) l4)
              have HX' := Lib.hid (Kit.exc_then HX.out hE (fun i hi h => by omega))
              have HL' := Lib.hid L'
              have HGL' := Lib.hid (C'.le HGL.out)
              have HR' := Lib.hid (show ∀ j, j < nR → Ap.rt G' j = Ap.grp L j from fun j hj => (C'.rt j hj).trans (HR.out j hj))
              have HD' := Lib.hid (show ∀ j, j < i + 1 → G' j = Ap.grp L j from fun j hj => by
                by_cases e : j = i
                · subst e; rw [hi']; exact HR.out j hlt3
                · rcases C' j (by omega) with h | h
                  · rw [h]; exact HD.out j (by omega)
                  · rw [h]; exact HR.out j (by omega))
              clear L' C' hi' hE HLA HGL HR HD HX HF f8 s4
              go_wp2
              go_roundw
              case rel => exact ⟨i + 1, G', by go_num, by omega, HL', HGL', HR', HD', HX', HF'⟩
              case measure => simp [intOf]; omega
            · obtain rfl : nR = i := by omega
              have hf := HF.out
              go_wp2
              (refine bodyPost_ret (by simp [results, Tryd.results17, go_sem, Kit.cell_set, s4]; try rfl) rfl ?_)
              refine ⟨Bg, cap, rfl, by omega, by have := HLA.out.lg; simpa [World.setCell] using this, fun j hj => ?_, HB1.out.trans ((HX.out.below HB1.out.size (fun k hk => by omega)).setCell (by simp) _)⟩
              rw [Kit.cell_set, if_neg (by first | (simp; omega) | (simp; done)), HLA.out.cell j hj, HD.out j hj]

namespace Ap
theorem rowP_len (M : List (Int × Int)) (a : Nat) : ∀ (n b : Nat), (rowP M a b n).length ≤ n
  | 0, _ => by simp [rowP]
  | n + 1, b => by
    have := rowP_len M a n (b + 1)
    unfold rowP
    split
    · simp; omega
    · omega
theorem allP_len (M : List (Int × Int)) (R : Nat) : ∀ (n a : Nat), (allP M R a n).length ≤ n * R
  | 0, _ => by simp [allP]
  | n + 1, a => by
    have h1 := allP_len M R n (a + 1)
    have h2 := rowP_len M a R 0
    rw [allP, List.length_append, Nat.succ_mul]
    omega
def Groups (x : Ex.Wk) (p : Ex.Wa) (bar : Int) (w : World) : Prop :=
  Calls Tryd.prog 17 #[Ex.workV x p, .int .i64 bar] w fun e w' =>
    if chk x bar = 0 then GPost (prs x bar) x.ro.length w e w'
    else e = .returned (.tuple #[.slice none 0 0, .int .i64 (chk x bar)]) ∧ Below w.heap.size w w'
end Ap
/-- Groups, of whatever work and bar. -/
theorem ap_groups (x : Ex.Wk) (p : Ex.Wa) (bar : Int) (w : World) (ha : Ex.At w x p) (hl : Ex.Laid w) : Ap.Groups x p bar w := by
  unfold Ap.Groups
  have hc : ∀ W, Below w.heap.size w W → Ap.Pairs x p bar W := fun W hB => ap_pairs x p bar W (ha.kept hB (Nat.le_refl _)) (hl.kept hB (Nat.le_refl _))
  unfold Ap.Pairs at hc
  by_cases h : Ap.chk x bar = 0
  · simp only [if_pos h] at hc ⊢
    have h0 : Ex.chk x = 0 := by
      unfold Ap.chk at h
      split at h
      · assumption
      · exact h
    obtain ⟨r1, r2, r3⟩ := Ex.roles h0
    exact ap_groups_2a _ _ _ _ _ _ _ _ _ _ _ _ _ _ _ _ _ _ _ _ _ bar w r1 r3 (Ap.prs x bar)
      (Nat.le_trans (Ap.allP_len _ _ _ _) (Nat.le_trans (Nat.mul_le_mul r1 r1) (by omega))) (fun p hp => Ap.allP_bd _ _ _ _ (by omega) p hp) hc
  · simp only [if_neg h] at hc ⊢
    exact ap_groups_1a _ _ _ _ _ _ _ _ _ _ _ _ _ _ _ _ _ _ _ _ _ bar w _ (by simpa using h) hc
end Go.Proofs.YtjoieglhmladhaaDoor
