/- Walks: package types: Faults and Check, of whatever work. -/
import Derived.Test.YtggfeblfhabmkaaGreatDoorTyH
namespace Go.Proofs.YtggfeblfhabmkaaGreatDoor
set_option linter.unusedVariables false
set_option linter.unusedSimpArgs false
open Go.RowKit

theorem Ty.of_vG {roles n : Int} : ∀ {l : List Ex.Sg} {last : Int}, Ex.vG roles n last l = true → (∀ s ∈ l, last < s.id ∧ Ty.Rt s roles n) ∧ Ty.Inc l
  | [], _, _ => ⟨by simp, List.Pairwise.nil⟩
  | s :: l, last, h => by
    simp only [Ex.vG, Ex.okG1, Bool.and_eq_true, decide_eq_true_eq] at h
    obtain ⟨⟨⟨h1, _⟩, h2⟩, h3⟩ := h
    obtain ⟨h4, h5⟩ := Ty.of_vG h3
    refine ⟨fun x hx => ?_, List.Pairwise.cons (fun x hx => (h4 x hx).1) h5⟩
    rcases List.mem_cons.1 hx with e | hx
    · subst e; exact ⟨h1, Ty.rt_of h2⟩
    · exact ⟨Int.lt_trans h1 (h4 x hx).1, (h4 x hx).2⟩
theorem Ty.of_chk {x : Ex.Wk} (h : Ex.chk x = 0) : x.ro.length ≤ 64 ∧ x.sg.length ≤ 4096 ∧ (1 ≤ x.n ∧ x.n ≤ 4096) ∧ Ty.Inc x.sg ∧ ∀ s ∈ x.sg, Ty.Rt s x.ro.length x.n := by
  unfold Ex.chk at h
  split at h
  · omega
  · rename_i h0
    split at h
    · rename_i h1; exact absurd h h1
    · rename_i h1
      split at h
      · rename_i h2
        have hok : Tp.okC x.n x.ts x.ps x.ss = true := by
          have h3 : Tp.chk x.n x.ts x.ps x.ss = 0 := by omega
          unfold Tp.chk at h3
          split at h3
          · rcases hc : Tp.okC x.n x.ts x.ps x.ss with _ | _
            · simp [hc] at h3
            · rfl
          · omega
        simp only [Tp.okC, Bool.and_eq_true] at hok
        have hn := (Tp.inb_iff _ _ _).1 hok.1.1.1.1.1.1
        simp only [Ex.okW, Bool.and_eq_true] at h2
        obtain ⟨h4, h5⟩ := Ty.of_vG h2.2
        exact ⟨by omega, by omega, hn, h5, fun s hs => (h4 s hs).2⟩
      · omega
/-- The faults that are handed back. -/
def Ty.lst (x : Ex.Wk) : List Ty.F3 := if Ex.chk x = 0 then Ty.refL x.sg else []
def Ty.Fl (x : Ex.Wk) (p : Ex.Wa) (w : World) : Prop := Calls Tryz.prog 6 #[Ex.workV x p] w fun e w' => ∃ v, e = .returned (.tuple #[v, .int .i64 (Ex.chk x)]) ∧ w'.ownsRow w.heap.size 48 3 v (Ty.lst x).length (Ty.flatF (Ty.lst x)) ∧ Below w.heap.size w w'
theorem ty_faults (x : Ex.Wk) (p : Ex.Wa) (w : World) (ha : Ex.At w x p) (hl : Ex.Laid w) : Ty.Fl x p w := by
  unfold Ty.Fl Ty.lst
  have hc : ∀ W, Below w.heap.size w W → Ex.Chk x p W (Ex.chk x) := fun W hb => ex_check x p W (ha.kept hb (Nat.le_refl _)) (hl.kept hb (Nat.le_refl _))
  by_cases h : Ex.chk x = 0
  · rw [if_pos h, h]
    obtain ⟨h1, h2, h3, h4, h5⟩ := Ty.of_chk h
    rw [h] at hc
    exact ty_faults_2a x.wd x.dp x.ta x.tb x.tc p.aR x.ro.length p.cR x.n p.aT _ p.cT p.aP _ p.cP p.aS _ p.cS p.aG x.sg p.cG w h4 h5 h1 h2 h3.2 ha.sg hc
  · rw [if_neg h]
    refine (ty_faults_1a x.wd x.dp x.ta x.tb x.tc p.aR x.ro.length p.cR x.n p.aT _ p.cT p.aP _ p.cP p.aS _ p.cS p.aG _ p.cG w (Ex.chk x) (by simpa using h) hc).mono ?_
    rintro e w' ⟨rfl, hb⟩
    exact ⟨_, rfl, World.ownsRow_nil _ _ _ _, hb⟩
/-- What Check says. -/
def Ty.ck20 (x : Ex.Wk) : Int := if Ex.chk x = 0 then (if (Ty.refL x.sg).length = 0 then 0 else 200) else Ex.chk x
theorem Ty.own_slice {W : World} {e k n s : Nat} {v : Value} {xs : List Value} (h : W.ownsRow s e k v n xs) : ∃ a c, v = .slice a n c := by
  rcases h.2 with ⟨h1, h2⟩ | ⟨g, cap, cur, h1, _⟩
  · exact ⟨none, 0, by rw [h1, h2]⟩
  · exact ⟨_, _, h1⟩
set_option maxHeartbeats 1000000 in
theorem ty_check (x : Ex.Wk) (p : Ex.Wa) (w : World) (ha : Ex.At w x p) (hl : Ex.Laid w) :
    Calls Tryz.prog 9 #[Ex.workV x p] w fun e w' => e = .returned (.int .i64 (Ty.ck20 x)) ∧ Below w.heap.size w w' := by
  have hc : ∀ W, Below w.heap.size w W → Ty.Fl x p W := fun W hb => ty_faults x p W (ha.kept hb (Nat.le_refl _)) (hl.kept hb (Nat.le_refl _))
  have HC := Lib.hid hc
  clear hc ha hl
  have hr : Ty.ck20 x = if Ex.chk x = 0 then (if (0 : Int) < (Ty.lst x).length then 200 else 0) else Ex.chk x := by
    unfold Ty.ck20 Ty.lst
    by_cases h : Ex.chk x = 0
    · rw [if_pos h, if_pos h, if_pos h]
      by_cases h2 : (Ty.refL x.sg).length = 0
      · rw [if_pos h2, if_neg (by omega)]
      · rw [if_neg h2, if_pos (by omega)]
    · rw [if_neg h, if_neg h]
  rw [hr]
  clear hr
  unfold Ty.Fl at HC
  generalize Ex.chk x = r at *
  generalize Ty.lst x = l at *
  obtain ⟨wd, dp, ta, tb, tc, n, ro, ts, ps, ss, sg⟩ := x
  obtain ⟨aR, cR, aT, cT, aP, cP, aS, cS, aG, cG⟩ := p
  go_enter Tryz.func9, Tryz.ntmps9
  go_wp2_with fail
  refine (HC.out _ ((Kit.Exc.refl (fun _ => False) w).alloc _ |>.below (Nat.le_refl _) (fun _ h => h.elim))).mono ?_
  rintro _ w1 ⟨v, rfl, ho, hb⟩
  obtain ⟨a, c, rfl⟩ := Ty.own_slice ho
  have HB := Lib.hid (show Below w.heap.size w w1 from (((Kit.Exc.refl (fun _ => False) w).alloc _).below (Nat.le_refl _) (fun _ h => h.elim)).trans (hb.mono (by simp)))
  clear ho hb
  rcases d : (r == 0) with _ | _
  · have hne : r ≠ 0 := by simpa using d
    go_wp2
    go_ret
    exact ⟨rfl, HB.out⟩
  · obtain rfl : r = 0 := by simpa using d
    by_cases h2 : (0 : Int) < l.length
    · go_wp2
      go_ret
      exact ⟨rfl, HB.out⟩
    · go_wp2
      go_ret
      exact ⟨rfl, HB.out⟩
end Go.Proofs.YtggfeblfhabmkaaGreatDoor
