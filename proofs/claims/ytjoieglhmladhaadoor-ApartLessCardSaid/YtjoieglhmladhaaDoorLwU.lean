/- Walks: the law ApartLess: inside; plain facts. -/
import Derived.Test.YtjoieglhmladhaaDoorLwQ
import Derived.Test.YtjoieglhmladhaaDoorPpD
namespace Go.Proofs.YtjoieglhmladhaaDoor
set_option linter.unusedVariables false
set_option linter.unusedSimpArgs false
open Go.RowKit Go.Shelf

namespace Lw
/-- Does one valid box lie within another valid one? -/
def in1 (p q : Ap.Bx) : Bool := Ap.okB p && Ap.okB q && Ap.ins p q
def insD (n : Nat) (a b : List Ap.Bx) : Nat → Bool
  | 0 => true
  | f + 1 => in1 (a.getD (n - (f + 1)) Ap.bz) (b.getD (n - (f + 1)) Ap.bz) && insD n a b f
/-- Each box of a within that of b. -/
def insB (a b : List Ap.Bx) : Bool := decide (a.length = b.length) && insD a.length a b a.length
theorem insD_at {n : Nat} {a b : List Ap.Bx} : ∀ {f : Nat}, f ≤ n → insD n a b f = true → ∀ i, n - f ≤ i → i < n → in1 (a.getD i Ap.bz) (b.getD i Ap.bz) = true
  | 0, _, _, i, h1, h2 => by omega
  | f + 1, hf, h, i, h1, h2 => by
    simp only [insD, Bool.and_eq_true] at h
    by_cases e : i = n - (f + 1)
    · subst e; exact h.1
    · exact insD_at (by omega) h.2 i (by omega) h2
theorem insB_at {a b : List Ap.Bx} (h : insB a b = true) : a.length = b.length ∧ ∀ i, i < a.length → in1 (a.getD i Ap.bz) (b.getD i Ap.bz) = true := by
  simp only [insB, Bool.and_eq_true, decide_eq_true_eq] at h
  exact ⟨h.1, fun i hi => insD_at (Nat.le_refl _) h.2 i (by omega) hi⟩
/-- What Inside answers. -/
theorem sp_in1 (p q : Ap.Bx) : ∃ (r : Bool) (e : Int), (in1 p q = true → r = true ∧ e = 0) ∧ (in1 p q = false → r = false ∧ (e = 0 ∨ e = 150)) ∧
    ∀ W, Calls Tryd.prog 30 #[Sp.boxV p.1 p.2.1 p.2.2.1 p.2.2.2, Sp.boxV q.1 q.2.1 q.2.2.1 q.2.2.2] W fun x w' => x = .returned (.tuple #[.bool r, .int .i64 e]) ∧ Below W.heap.size W w' := by
  unfold in1
  rcases h1 : Ap.okB p with _ | _
  · exact ⟨false, 150, by simp, by simp, fun W => sp_inside_1 _ _ _ _ _ _ _ _ W h1⟩
  · rcases h2 : Ap.okB q with _ | _
    · exact ⟨false, 150, by simp, by simp, fun W => sp_inside_2 _ _ _ _ _ _ _ _ W h1 h2⟩
    · exact ⟨Ap.ins p q, 0, by simp, by simp, fun W => sp_inside_3 _ _ _ _ _ _ _ _ W h1 h2⟩
end Lw

set_option maxRecDepth 100000 in
set_option maxHeartbeats 2000000 in
theorem lw_inside (aA : Option Addr) (l : List Ap.Bx) (cA : Nat) (aB : Option Addr) (m : List Ap.Bx) (cB : Nat) (w : World) (lA : l.length ≤ 4611686018427387904) (lB : m.length ≤ 4611686018427387904)
    (sA : Tp.Sl w aA l.length 4 (Ap.bxc l)) (sB : Tp.Sl w aB m.length 4 (Ap.bxc m)) :
    Calls Tryd.prog 31 #[.slice aA l.length cA, .slice aB m.length cB] w fun e w' => e = .returned (.bool (Lw.insB l m)) ∧ Below w.heap.size w w' := by
  have SA := Lib.hid sA; clear sA
  have SB := Lib.hid sB; clear sB
  by_cases hlen : l.length = m.length
  · have dl : ((l.length : Int) != (m.length : Int)) = false := by simp; omega
    have hI : Lw.insB l m = Lw.insD l.length l m l.length := by simp [Lw.insB, hlen]
    rw [hI]
    have HLEN := Lib.hid hlen; clear hlen hI
    go_enter Tryd.func31, Tryd.ntmps31
    go_wp2
    clear dl
    go_loopw [15] (fun v15 wr => ∃ k : Nat, v15 = .int .i64 k ∧ k ≤ l.length ∧ Hid (Lw.insD l.length l m l.length = Lw.insD l.length l m (l.length - k)) ∧ Hid (Below w.heap.size w wr)) (fun v15 _ => l.length - (intOf v15).toNat)
    case atStart => exact ⟨0, rfl, Nat.zero_le _, Lib.hid rfl, Lib.hid (Below.refl _ _)⟩
    case round =>
      obtain ⟨k, rfl, hk, HI, HB⟩ := hrel
      by_cases hlt : k < l.length
      · have hlm : k < m.length := by have := HLEN.out; omega
        obtain ⟨aa, rfl, haa, _⟩ := SA.out.at hlt
        obtain ⟨ab, rfl, hab, _⟩ := SB.out.at hlm
        have hse : ∀ z : Kit.Wd wr, Tp.Sl z.val (some aa) l.length 4 (Ap.bxc l) := fun z => SA.out.kept (HB.out.trans (z.below.mono HB.out.size)) (Nat.le_refl _)
        have hsi : ∀ z : Kit.Wd wr, Tp.Sl z.val (some ab) m.length 4 (Ap.bxc m) := fun z => SB.out.kept (HB.out.trans (z.below.mono HB.out.size)) (Nat.le_refl _)
        have e0 := fun z => (hse z).head hlt (by omega)
        have e1 := fun z => (hse z).field hlt (j := 1) (by omega) (by omega)
        have e2 := fun z => (hse z).field hlt (j := 2) (by omega) (by omega)
        have e3 := fun z => (hse z).field hlt (j := 3) (by omega) (by omega)
        have i0 := fun z => (hsi z).head hlm (by omega)
        have i1 := fun z => (hsi z).field hlm (j := 1) (by omega) (by omega)
        have i2 := fun z => (hsi z).field hlm (j := 2) (by omega) (by omega)
        have i3 := fun z => (hsi z).field hlm (j := 3) (by omega) (by omega)
        clear hse hsi
        have hI : Lw.insD l.length l m l.length = (Lw.in1 (l.getD k Ap.bz) (m.getD k Ap.bz) && Lw.insD l.length l m (l.length - (k + 1))) := by
          rw [HI.out, show l.length - k = (l.length - (k + 1)) + 1 by omega, Lw.insD, show l.length - (l.length - (k + 1) + 1) = k by omega]
        have HI2 := Lib.hid hI
        simp only [Ap.bxc] at e0 e1 e2 e3 i0 i1 i2 i3
        generalize l.getD k (0, 0, 0, 0) = p at *
        generalize m.getD k (0, 0, 0, 0) = q at *
        obtain ⟨r, e, h1, h2, hc⟩ := Lw.sp_in1 p q
        have TG := Lib.hid hc
        clear hI HI hc
        rcases c : Lw.in1 p q with _ | _
        · obtain ⟨rfl, he⟩ := h2 c
          have HR := Lib.hid (show Lw.insD l.length l m l.length = false by rw [HI2.out, c]; rfl)
          clear h1 h2 HI2 c
          rcases he with rfl | rfl
          · go_wp2
            (refine Kit.wp_region_cls (by kernel_rfl) (by kernel_rfl) ?_; (repeat (go_big_quiet_step (exact Kit.calls_cls _ (TG.out _)))); refine wpQuiet_nil ?_; intro z)
            have HZ := Lib.hid (HB.out.trans (z.below.mono HB.out.size))
            generalize z.val = Z at *
            clear e0 e1 e2 e3 i0 i1 i2 i3 z
            go_wp2
            go_ret
            exact ⟨by rw [HR.out]; rfl, HZ.out⟩
          · go_wp2
            (refine Kit.wp_region_cls (by kernel_rfl) (by kernel_rfl) ?_; (repeat (go_big_quiet_step (exact Kit.calls_cls _ (TG.out _)))); refine wpQuiet_nil ?_; intro z)
            have HZ := Lib.hid (HB.out.trans (z.below.mono HB.out.size))
            generalize z.val = Z at *
            clear e0 e1 e2 e3 i0 i1 i2 i3 z
            go_wp2
            go_ret
            exact ⟨by rw [HR.out]; rfl, HZ.out⟩
        · obtain ⟨rfl, rfl⟩ := h1 c
          have HR := Lib.hid (show Lw.insD l.length l m l.length = Lw.insD l.length l m (l.length - (k + 1)) by rw [HI2.out, c]; rfl)
          clear h1 h2 HI2 c
          go_wp2
          (refine Kit.wp_region_cls (by kernel_rfl) (by kernel_rfl) ?_; (repeat (go_big_quiet_step (exact Kit.calls_cls _ (TG.out _)))); refine wpQuiet_nil ?_; intro z)
          have HZ := Lib.hid (HB.out.trans (z.below.mono HB.out.size))
          generalize z.val = Z at *
          clear e0 e1 e2 e3 i0 i1 i2 i3 z
          go_wp2
          go_roundw
          case rel => exact ⟨k + 1, by go_num, by omega, HR, HZ⟩
          case measure => simp [intOf]; omega
      · have HR := Lib.hid (show Lw.insD l.length l m l.length = true by rw [HI.out, show l.length - k = 0 by omega]; rfl)
        clear HI
        go_wp2
        go_ret
        exact ⟨by rw [HR.out]; rfl, HB.out⟩
  · have dl : ((l.length : Int) != (m.length : Int)) = true := by simp; omega
    have hI : Lw.insB l m = false := by simp [Lw.insB, hlen]
    rw [hI]
    clear hlen hI
    go_enter Tryd.func31, Tryd.ntmps31
    go_wp2
    go_ret
    exact ⟨rfl, Below.refl _ _⟩
namespace Lw
/-- Wagons, cell by cell. -/
def wgL (g : Ap.Wg) : List Value := [.int .i64 g.a, .int .i64 g.b, .int .i64 g.c, .int .i64 g.d, .int .i64 g.f, .int .i64 g.l, .int .i64 g.x, .int .i64 g.y]
def wfl (l : List Ap.Wg) : List Value := l.flatMap wgL
theorem wfl_len (l : List Ap.Wg) : (wfl l).length = l.length * 8 := by
  induction l with
  | nil => rfl
  | cons g l ih =>
    have : wfl (g :: l) = wgL g ++ wfl l := rfl
    rw [this, List.length_append, ih, List.length_cons, Nat.succ_mul]
    simp [wgL]; omega
theorem wfl_at : ∀ (L : List Ap.Wg) (i j : Nat), i < L.length → j < 8 → (wfl L)[i * 8 + j]? = some (Ap.wgc L i j)
  | g :: L, 0, j, _, hj => by
    rcases j with _ | _ | _ | _ | _ | _ | _ | _ | j <;> first | omega | simp [wfl, wgL, Ap.wgc]
  | g :: L, i + 1, j, h, hj => by
    have h1 := wfl_at L i j (by simpa using h) hj
    have e : wfl (g :: L) = .int .i64 g.a :: .int .i64 g.b :: .int .i64 g.c :: .int .i64 g.d :: .int .i64 g.f :: .int .i64 g.l :: .int .i64 g.x :: .int .i64 g.y :: wfl L := rfl
    rw [e, show (i + 1) * 8 + j = i * 8 + j + 1 + 1 + 1 + 1 + 1 + 1 + 1 + 1 by omega]
    simpa [Ap.wgc] using h1
theorem fl2_len (l : List (Int × Int)) : (Ap.fl2 l).length = l.length * 2 := by
  induction l with
  | nil => rfl
  | cons g l ih =>
    have : Ap.fl2 (g :: l) = .int .i64 g.1 :: .int .i64 g.2 :: Ap.fl2 l := rfl
    rw [this, List.length_cons, List.length_cons, ih, List.length_cons]
    omega
theorem one_wfl (l : List Ap.Wg) : ∀ u ∈ wfl l, u.oneCell' = true := by
  intro u hu
  obtain ⟨g, _, hg⟩ := List.mem_flatMap.1 hu
  simp only [wgL, List.mem_cons, List.not_mem_nil, or_false] at hg
  rcases hg with rfl | rfl | rfl | rfl | rfl | rfl | rfl | rfl <;> rfl
theorem one_fl2 (l : List (Int × Int)) : ∀ u ∈ Ap.fl2 l, u.oneCell' = true := by
  intro u hu
  obtain ⟨g, _, hg⟩ := List.mem_flatMap.1 hu
  simp only [List.mem_cons, List.not_mem_nil, or_false] at hg
  rcases hg with rfl | rfl <;> rfl
theorem add_add (a : Addr) (x y : Nat) : (a.add x).add y = a.add (x + y) := by
  rcases Nat.eq_zero_or_pos y with h | h
  · subst h; simp [Addr.add]
  · rw [Tp.add_pos _ _ _ (by omega)]
    rw [Addr.add, if_neg (by omega)]
/-- Some wagons of a slice, to be appended. -/
theorem sl_news {w : World} {a : Addr} {gs : List Ap.Wg} (s : Tp.Sl w (some a) gs.length 8 (Ap.wgc gs)) (k m : Nat) (h : k + m ≤ gs.length) : ∀ j u, (wfl ((gs.drop k).take m))[j]? = some u → w.cell? (a.add (k * 8 + j)) = some u := by
  intro j u hu
  have hl : ((gs.drop k).take m).length = m := by simp; omega
  have hj : j < m * 8 := by
    have := (List.getElem?_eq_some_iff.1 hu).1
    rwa [wfl_len, hl] at this
  have hdm : j / 8 * 8 + j % 8 = j := by omega
  have hi : j / 8 < m := by omega
  have h1 := wfl_at ((gs.drop k).take m) (j / 8) (j % 8) (by omega) (by omega)
  rw [hdm, hu] at h1
  rcases s with h0 | ⟨b, e, _, hc⟩
  · omega
  · cases e
    have := hc (k + j / 8) (j % 8) (by omega) (by omega)
    rw [show (k + j / 8) * 8 + j % 8 = k * 8 + j by omega] at this
    rw [this, Option.some.inj h1]
    have hg : ((gs.drop k).take m).getD (j / 8) ⟨0, 0, 0, 0, 0, 0, 0, 0⟩ = gs.getD (k + j / 8) ⟨0, 0, 0, 0, 0, 0, 0, 0⟩ := by
      simp [List.getD_eq_getElem?_getD, List.getElem?_take_of_lt hi, List.getElem?_drop]
    simp only [Ap.wgc, hg]
/-- All pairs of a slice, to be appended. -/
theorem sl_news2 {w : World} {ad : Option Addr} {P : List (Int × Int)} (s : Tp.Sl w ad P.length 2 (Ap.prc P)) : ∀ a, ad = some a → ∀ j u, (Ap.fl2 P)[j]? = some u → w.cell? (a.add j) = some u := by
  rintro a rfl j u hu
  have hj : j < P.length * 2 := by
    have := (List.getElem?_eq_some_iff.1 hu).1
    rwa [fl2_len] at this
  rcases s with h0 | ⟨b, e, _, hc⟩
  · omega
  · cases e
    obtain ⟨h1, h2⟩ := Ap.fl2_at P (j / 2) (by omega)
    have := hc (j / 2) (j % 2) (by omega) (by omega)
    rw [show j / 2 * 2 + j % 2 = j by omega] at this
    rw [this]
    rcases Nat.mod_two_eq_zero_or_one j with e | e
    · rw [show j / 2 * 2 = j by omega, hu] at h1
      rw [Option.some.inj h1, e]
      rfl
    · rw [show j / 2 * 2 + 1 = j by omega, hu] at h2
      rw [Option.some.inj h2, e]
      rfl
end Lw
end Go.Proofs.YtjoieglhmladhaaDoor
