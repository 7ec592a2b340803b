/- Walks: the references of layer 29: boxes, paired, between. Walks: the reference of Clashes. Walks: the reference of Clashes: its loops. Walks: the reference of Clashes, of whatever it is handed. -/
import Derived.Test.YtjoieglhmladhaaDoorRfB
import Derived.Test.YtjoieglhmladhaaDoorClC
import Derived.Test.YtjoieglhmladhaaDoorRsA
import Derived.Test.YtjoieglhmladhaaDoorKitm
import Derived.Test.YtjoieglhmladhaaDoorRqN
import Derived.Test.YtjoieglhmladhaaDoorRfF
namespace Go.Proofs.YtjoieglhmladhaaDoor
set_option linter.unusedVariables false
set_option linter.unusedSimpArgs false
open Go.RowKit Go.Shelf

set_option maxRecDepth 100000 in
set_option maxHeartbeats 2000000 in
theorem rn_boxes (aB : Option Addr) (bs : List Ap.Bx) (cB : Nat) (n : Nat) (w : World) (lB : bs.length ≤ 4611686018427387904) (ln : n ≤ 4611686018427387904) (sB : Tp.Sl w aB bs.length 4 (Ap.bxc bs)) :
    Calls Tryd.prog 54 #[.slice aB bs.length cB, .int .i64 n] w fun e w' => e = .returned (.bool (decide (bs.length = n) && !(bs.any fun b => !Ap.okB b))) ∧ Below w.heap.size w w' := by
  have SB := Lib.hid sB; clear sB
  by_cases hlen : bs.length = n
  · have dl : ((bs.length : Int) != (n : Int)) = false := by simp; omega
    rw [decide_eq_true hlen, Bool.true_and]
    have HLEN := Lib.hid hlen; clear hlen
    go_enter Tryd.func54, Tryd.ntmps54
    go_wp2
    clear dl
    go_loopw [5] (fun v5 wr => ∃ k : Nat, v5 = .int .i64 k ∧ k ≤ n ∧ Hid ((bs.any fun b => !Ap.okB b) = ((bs.drop k).any fun b => !Ap.okB b)) ∧ Hid (Below w.heap.size w wr))
      (fun v5 _ => n - (intOf v5).toNat)
    case atStart => exact ⟨0, rfl, Nat.zero_le _, Lib.hid (by simp), Lib.hid (Below.refl _ _)⟩
    case round =>
      obtain ⟨k, rfl, hk, HI, HB⟩ := hrel
      by_cases hlt : k < n
      · have hlb : k < bs.length := by have := HLEN.out; omega
        obtain ⟨ad, rfl, had, _⟩ := SB.out.at hlb
        have HSl := SB.out.kept HB.out (Nat.le_refl _)
        have e0 := HSl.head hlb (by omega)
        have e1 := HSl.field hlb (j := 1) (by omega) (by omega)
        have e2 := HSl.field hlb (j := 2) (by omega) (by omega)
        have e3 := HSl.field hlb (j := 3) (by omega) (by omega)
        clear HSl
        have hdrop := Tp.drop_cons bs (0, 0, 0, 0) k hlb
        simp only [Ap.bxc] at e0 e1 e2 e3
        generalize hx : bs.getD k (0, 0, 0, 0) = x at *
        have hI : (bs.any fun b => !Ap.okB b) = (!Ap.okB x || ((bs.drop (k + 1)).any fun b => !Ap.okB b)) := by rw [HI.out, hdrop]; rfl
        have HI2 := Lib.hid hI
        have hv := fun W => rf_valid x.1 x.2.1 x.2.2.1 x.2.2.2 W
        have hok : Sp.okBox x.1 x.2.1 x.2.2.1 x.2.2.2 = Ap.okB x := rfl
        rw [hok] at hv
        clear hI hdrop hx HI hok
        generalize Ap.okB x = ok at *
        have HV := Lib.hid hv; clear hv
        cases ok
        · have HN := Lib.hid (show (bs.any fun b => !Ap.okB b) = true by rw [HI2.out]; simp)
          clear HI2
          go_wp2_with fail
          refine (HV.out _).mono ?_
          rintro e w2 ⟨rfl, hb2⟩
          have HB2 := Lib.hid (HB.out.trans (hb2.mono HB.out.size))
          clear hb2 e0 e1 e2 e3
          dsimp only
          go_wp2
          go_ret
          exact ⟨by rw [HN.out]; rfl, HB2.out⟩
        · have HN := Lib.hid (show (bs.any fun b => !Ap.okB b) = ((bs.drop (k + 1)).any fun b => !Ap.okB b) by rw [HI2.out]; simp)
          clear HI2
          go_wp2_with fail
          refine (HV.out _).mono ?_
          rintro e w2 ⟨rfl, hb2⟩
          have HB2 := Lib.hid (HB.out.trans (hb2.mono HB.out.size))
          clear hb2 e0 e1 e2 e3
          dsimp only
          go_wp2
          go_roundw
          case rel => exact ⟨k + 1, by go_num, by omega, HN, HB2⟩
          case measure => simp [intOf]; omega
      · have HN := Lib.hid (show (bs.any fun b => !Ap.okB b) = false by rw [HI.out, List.drop_of_length_le (by have := HLEN.out; omega)]; rfl)
        clear HI
        go_wp2
        go_ret
        exact ⟨by rw [HN.out]; rfl, HB.out⟩
  · have dl : ((bs.length : Int) != (n : Int)) = true := by simp; omega
    rw [decide_eq_false hlen, Bool.false_and]
    clear hlen
    go_enter Tryd.func54, Tryd.ntmps54
    go_wp2
    go_ret
    exact ⟨rfl, by (repeat' first | (with_reducible first | exact Below.refl _ _ | assumption | refine Kit.below_drewN ?_ _ | refine Below.drew ?_ | refine Below.alloc ?_ ?_ _ | refine Below.setCell ?_ ?_ _ | exact Nat.le_refl _) | omega | (simp; omega) | (simp; done) | (apply Below.size; assumption))⟩

set_option maxRecDepth 100000 in
set_option maxHeartbeats 2000000 in
theorem rn_paired (aQ : Option Addr) (P : List (Int × Int)) (cQ : Nat) (n : Nat) (w : World) (lQ : P.length ≤ 4611686018427387904) (ln : n ≤ 4611686018427387904) (sQ : Tp.Sl w aQ P.length 2 (Ap.prc P)) :
    Calls Tryd.prog 55 #[.slice aQ P.length cQ, .int .i64 n] w fun e w' => e = .returned (.bool (!P.any (Ap.badP n))) ∧ Below w.heap.size w w' := by
  have SQ := Lib.hid sQ; clear sQ
  go_enter Tryd.func55, Tryd.ntmps55
  go_wp2
  go_loopw [5] (fun v5 wr => ∃ k : Nat, v5 = .int .i64 k ∧ k ≤ P.length ∧ Hid (P.any (Ap.badP n) = (P.drop k).any (Ap.badP n)) ∧ Hid (Below w.heap.size w wr))
    (fun v5 _ => P.length - (intOf v5).toNat)
  case atStart => exact ⟨0, rfl, Nat.zero_le _, Lib.hid (by simp), Lib.hid (Below.refl _ _)⟩
  case round =>
    obtain ⟨k, rfl, hk, HI, HB⟩ := hrel
    by_cases hlt : k < P.length
    · obtain ⟨ad, rfl, had, _⟩ := SQ.out.at hlt
      have hs : ∀ z : Kit.Wd wr, Tp.Sl z.val (some ad) P.length 2 (Ap.prc P) := fun z => SQ.out.kept (HB.out.trans (z.below.mono HB.out.size)) (Nat.le_refl _)
      have e0 := fun z => (hs z).head hlt (by omega)
      have e1 := fun z => (hs z).field hlt (j := 1) (by omega) (by omega)
      clear hs
      have hdrop := Tp.drop_cons P (0, 0) k hlt
      generalize hx : P.getD k (0, 0) = x at hdrop
      obtain ⟨p, q⟩ := x
      simp only [Ap.prc, hx, if_true, if_false, Nat.one_ne_zero] at e0 e1
      have hI : P.any (Ap.badP n) = (Ap.badP n (p, q) || (P.drop (k + 1)).any (Ap.badP n)) := by rw [HI.out, hdrop]; rfl
      have HI2 := Lib.hid hI
      clear hI hdrop hx HI

      rcases c1 : decide (p < 0) with _ | _
      · rcases c2 : decide (q ≤ p) with _ | _
        · rcases c3 : decide ((n : Int) ≤ q) with _ | _
          · have HN := Lib.hid (show P.any (Ap.badP n) = (P.drop (k + 1)).any (Ap.badP n) by rw [HI2.out]; simp [Ap.badP, c1, c2, c3])
            clear HI2
            go_wp2
            (refine Kit.wp_region_cls (by kernel_rfl) (by kernel_rfl) ?_; (repeat (go_big_quiet_step (fail))); refine wpQuiet_nil ?_; intro z)
            have HZ := Lib.hid (HB.out.trans (z.below.mono HB.out.size))
            generalize z.val = Z at *
            clear e0 e1 z
            go_wp2
            go_roundw
            case rel => exact ⟨k + 1, by go_num, by omega, HN, HZ⟩
            case measure => simp [intOf]; omega
          · have HN := Lib.hid (show P.any (Ap.badP n) = true by rw [HI2.out]; simp [Ap.badP, c3])
            clear HI2
            go_wp2
            (refine Kit.wp_region_cls (by kernel_rfl) (by kernel_rfl) ?_; (repeat (go_big_quiet_step (fail))); refine wpQuiet_nil ?_; intro z)
            have HZ := Lib.hid (HB.out.trans (z.below.mono HB.out.size))
            generalize z.val = Z at *
            clear e0 e1 z
            go_wp2
            go_ret
            exact ⟨by rw [HN.out]; rfl, HZ.out⟩
        · have HN := Lib.hid (show P.any (Ap.badP n) = true by rw [HI2.out]; simp [Ap.badP, c2])
          clear HI2
          go_wp2
          (refine Kit.wp_region_cls (by kernel_rfl) (by kernel_rfl) ?_; (repeat (go_big_quiet_step (fail))); refine wpQuiet_nil ?_; intro z)
          have HZ := Lib.hid (HB.out.trans (z.below.mono HB.out.size))
          generalize z.val = Z at *
          clear e0 e1 z
          go_wp2
          go_ret
          exact ⟨by rw [HN.out]; rfl, HZ.out⟩
      · have HN := Lib.hid (show P.any (Ap.badP n) = true by rw [HI2.out]; simp [Ap.badP, c1])
        clear HI2
        go_wp2
        (refine Kit.wp_region_cls (by kernel_rfl) (by kernel_rfl) ?_; (repeat (go_big_quiet_step (fail))); refine wpQuiet_nil ?_; intro z)
        have HZ := Lib.hid (HB.out.trans (z.below.mono HB.out.size))
        generalize z.val = Z at *
        clear e0 e1 z
        go_wp2
        go_ret
        exact ⟨by rw [HN.out]; rfl, HZ.out⟩
    · have HN := Lib.hid (show P.any (Ap.badP n) = false by rw [HI.out, List.drop_of_length_le (by omega)]; rfl)
      clear HI
      go_wp2
      go_ret
      exact ⟨by rw [HN.out]; rfl, HB.out⟩

set_option maxRecDepth 100000 in
set_option maxHeartbeats 4000000 in
theorem rn_between (kd : Int) (aU aV : Option Addr) (U V : List Ap.Bx) (cU cV : Nat) (aQ : Option Addr) (P : List (Int × Int)) (cQ : Nat) (nR : Nat) (w : World) (hR : nR ≤ 64) (lU : U.length = nR) (lV : V.length = nR) (lQ : P.length ≤ 4611686018427387904)
    (sU : Tp.Sl w aU nR 4 (Ap.bxc U)) (sV : Tp.Sl w aV nR 4 (Ap.bxc V)) (sQ : Tp.Sl w aQ P.length 2 (Ap.prc P)) (oU : ∀ x ∈ U, Ap.okB x = true) (oV : ∀ x ∈ V, Ap.okB x = true) (L : List Ap.C3) (hL : Hid (L = Ap.allC (Ap.has P) kd U V nR 0 nR)) :
    Calls Tryd.prog 56 #[.int .i64 kd, .slice aU nR cU, .slice aV nR cV, .slice aQ P.length cQ] w fun e w' => ∃ v, e = .returned v ∧ w'.ownsRow w.heap.size 73 3 v L.length (Ap.flC L) ∧ Below w.heap.size w w' := by
  have LU := Lib.hid lU; clear lU
  have LV := Lib.hid lV; clear lV
  have SU := Lib.hid sU; clear sU
  have SV := Lib.hid sV; clear sV
  have SQ := Lib.hid sQ; clear sQ
  have OU := Lib.hid oU; clear oU
  have OV := Lib.hid oV; clear oV
  go_enter Tryd.func56, Tryd.ntmps56
  go_wp2
  go_loopw [9, 10] (fun v9 v10 wq => ∃ (a : Nat) (ds : List Ap.C3) (v' : Value), v10 = .int .i64 a ∧ v' = v9 ∧ a ≤ nR ∧ Hid (wq.ownsRow w.heap.size 73 3 v' ds.length (Ap.flC ds)) ∧ ds.length ≤ a * 64 ∧ Hid (L = ds ++ Ap.allC (Ap.has P) kd U V nR a (nR - a)) ∧ Hid (Below w.heap.size w wq))
    (fun _ v10 _ => nR - (intOf v10).toNat)
  case atStart => exact ⟨0, [], _, rfl, rfl, Nat.zero_le _, Lib.hid (World.ownsRow_nil _ _ _ _), by simp, Lib.hid (by simpa using hL.out), Lib.hid (Below.refl _ _)⟩
  case round =>
    clear hL
    obtain ⟨a, ds, v', rfl, rfl, ha, HO, hdl, HL, HB⟩ := hrel
    by_cases hla : a < nR
    · have hstep := Ap.allC_step (Ap.has P) kd U V nR a nR hla
      obtain ⟨T, hT⟩ : ∃ T, T = Ap.allC (Ap.has P) kd U V nR (a + 1) (nR - (a + 1)) := ⟨_, rfl⟩
      have HL2 := Lib.hid (show L = ds ++ (Ap.rowC (Ap.has P) kd (U.getD a (0, 0, 0, 0)) V a (a + 1) (nR - (a + 1)) ++ T) by rw [HL.out, hstep, hT])
      have HT := Lib.hid hT
      clear hstep hT HL
      have ha1 : a + 1 ≤ nR := by omega
      go_wp2
      go_loopw [9, 11] (fun v9 v11 wq => ∃ (b : Nat) (es : List Ap.C3) (v'' : Value), v11 = .int .i64 b ∧ v'' = v9 ∧ a + 1 ≤ b ∧ b ≤ nR ∧ Hid (wq.ownsRow w.heap.size 73 3 v'' es.length (Ap.flC es)) ∧ es.length ≤ a * 64 + b ∧ Hid (L = es ++ (Ap.rowC (Ap.has P) kd (U.getD a (0, 0, 0, 0)) V a b (nR - b) ++ T)) ∧ Hid (Below w.heap.size w wq))
        (fun _ v11 _ => nR - (intOf v11).toNat)
      case atStart => exact ⟨a + 1, ds, v', by go_num, rfl, Nat.le_refl _, ha1, HO, by omega, HL2, HB⟩
      case round =>
        clear HO HL2 HB hdl
        obtain ⟨b, es, v'', rfl, rfl, hab, hb, HO, hel, HL2, HB⟩ := hrel
        have zr := HB.out.size
        by_cases hlb : b < nR
        · have hstep := Ap.rowC_step (Ap.has P) kd (U.getD a (0, 0, 0, 0)) V a b nR hlb
          obtain ⟨ua, rfl, hua, _⟩ := SU.out.at hla
          obtain ⟨va, rfl, hva, _⟩ := SV.out.at hlb
          have hsu : ∀ z : Kit.Wd wr, Tp.Sl z.val (some ua) nR 4 (Ap.bxc U) := fun z => SU.out.kept (HB.out.trans (z.below.mono HB.out.size)) (Nat.le_refl _)
          have hsv : ∀ z : Kit.Wd wr, Tp.Sl z.val (some va) nR 4 (Ap.bxc V) := fun z => SV.out.kept (HB.out.trans (z.below.mono HB.out.size)) (Nat.le_refl _)
          have e0 := fun z => (hsu z).head hla (by omega)
          have e1 := fun z => (hsu z).field hla (j := 1) (by omega) (by omega)
          have e2 := fun z => (hsu z).field hla (j := 2) (by omega) (by omega)
          have e3 := fun z => (hsu z).field hla (j := 3) (by omega) (by omega)
          have i0 := fun z => (hsv z).head hlb (by omega)
          have i1 := fun z => (hsv z).field hlb (j := 1) (by omega) (by omega)
          have i2 := fun z => (hsv z).field hlb (j := 2) (by omega) (by omega)
          have i3 := fun z => (hsv z).field hlb (j := 3) (by omega) (by omega)
          simp only [Ap.bxc] at e0 e1 e2 e3 i0 i1 i2 i3
          clear hsu hsv
          have hua' : a < U.length := by have := LU.out; omega
          have hvb' : b < V.length := by have := LV.out; omega
          have m1 : U.getD a (0, 0, 0, 0) ∈ U := List.mem_of_mem_drop (show U.getD a (0, 0, 0, 0) ∈ U.drop a by rw [Tp.drop_cons U _ a hua']; exact List.mem_cons_self ..)
          have m2 : V.getD b (0, 0, 0, 0) ∈ V := List.mem_of_mem_drop (show V.getD b (0, 0, 0, 0) ∈ V.drop b by rw [Tp.drop_cons V _ b hvb']; exact List.mem_cons_self ..)
          have ok1 := OU.out _ m1
          have ok2 := OV.out _ m2
          unfold Ap.hit at hstep
          clear m1 m2 hua' hvb'
          generalize hgu : U.getD a (0, 0, 0, 0) = p at *
          generalize hgv : V.getD b (0, 0, 0, 0) = q at *
          have tg1 := fun (x : Kit.Wd wr) => rf_has aQ P cQ a b x.val lQ (SQ.out.kept (HB.out.trans (x.below.mono HB.out.size)) (Nat.le_refl _))
          have tg2 := fun W => rf_Meet p.1 p.2.1 p.2.2.1 p.2.2.2 q.1 q.2.1 q.2.2.1 q.2.2.2 W ok1 ok2
          have hmt : Ap.meet p q = Sp.meets p.1 p.2.1 p.2.2.1 p.2.2.2 q.1 q.2.1 q.2.2.1 q.2.2.2 := rfl
          rw [← hmt] at tg2
          have HGU := Lib.hid hgu
          clear hmt ok1 ok2 hgv hgu
          generalize Ap.has P a b = h1 at *
          generalize Ap.meet p q = h2 at *
          have TG1 := Lib.hid tg1
          have TG2 := Lib.hid tg2
          have MISS := Lib.hid (show (!h1 && h2) = false → L = es ++ (Ap.rowC (Ap.has P) kd p V a (b + 1) (nR - (b + 1)) ++ T) from fun hh => by rw [HL2.out, hstep, if_neg (by simp [hh])])
          have HITS := Lib.hid (show (!h1 && h2) = true → L = (es ++ [(kd, (a : Int), (b : Int))]) ++ (Ap.rowC (Ap.has P) kd p V a (b + 1) (nR - (b + 1)) ++ T) from fun hh => by rw [HL2.out, hstep, if_pos hh]; simp)
          clear tg1 tg2 hstep HL2
          cases h1
          · cases h2
            · have HM2 := Lib.hid (MISS.out rfl)
              clear MISS HITS
              go_wp2
              (refine Kit.wp_region_cls (by kernel_rfl) (by kernel_rfl) ?_; (repeat (go_big_quiet_step (first | (with_reducible exact Kit.calls_cls _ (TG2.out _)) | (with_reducible exact Kit.calls_cls _ (TG1.out _))))); refine wpQuiet_nil ?_; intro z)
              have HZ := Lib.hid (HB.out.trans (z.below.mono HB.out.size))
              have HOZ := Lib.hid (Kit.ownsRow_thn HO.out z.below)
              have zz := HZ.out.size
              generalize z.val = Z at *
              clear e0 e1 e2 e3 i0 i1 i2 i3 TG1 TG2 HO HB z
              go_wp2
              go_roundw
              case rel => exact ⟨b + 1, es, v'', by go_num, rfl, by omega, by omega, HOZ, by omega, (by first | exact Lib.hid (by rw [HGU.out]; exact HM2.out) | exact HM2), HZ⟩
              case measure => simp [intOf]; omega
            · have HM2 := Lib.hid (HITS.out rfl)
              clear MISS HITS
              go_wp2
              (refine Kit.wp_region_cls (by kernel_rfl) (by kernel_rfl) ?_; (repeat (go_big_quiet_step (first | (with_reducible exact Kit.calls_cls _ (TG2.out _)) | (with_reducible exact Kit.calls_cls _ (TG1.out _))))); refine wpQuiet_nil ?_; intro z)
              have HZ := Lib.hid (HB.out.trans (z.below.mono HB.out.size))
              have HOZ := Lib.hid (Kit.ownsRow_thn HO.out z.below)
              have zz := HZ.out.size
              generalize z.val = Z at *
              clear e0 e1 e2 e3 i0 i1 i2 i3 TG1 TG2 HO HB z
              obtain ⟨i0, hi, hz0, hz1, hz2⟩ := info_parts Ap.infoC
              have hcell : ∀ (W : World) (N : Nat), N = W.heap.size → ∀ j u, [Value.int .i64 kd, .int .i64 a, .int .i64 b][j]? = some u → (W.alloc (.cells #[.int .i64 kd, .int .i64 a, .int .i64 b] 73)).cell? ((⟨N, 0, none⟩ : Addr).add j) = some u := by
                rintro W N rfl j u hu
                rcases j with _ | _ | _ | j <;> simp at hu <;> subst hu <;> simp [Addr.add, go_sem]
              have HCELL := Lib.hid hcell; clear hcell
              go_wp2_with (first | (at_builtin; refine Kit.wpList_append_own' _ rfl _ _ 58 rfl w.heap.size 73 i0 (.agg #[.int .i64 0, .int .i64 0, .int .i64 0]) 3 24 Ap.underC hi hz0 hz1 hz2 rfl (by decide) _ _ _ rfl (HOZ.out.alloc _) ⟨Z.heap.size, 0, none⟩ 1 1 [.int .i64 kd, .int .i64 a, .int .i64 b] rfl rfl (HCELL.out _ _ (by simp)) (by simp [Value.oneCell']) (by unfold maxLen; omega) (by omega) (by simp; omega) ?_; intro v3 w2 hown' hgrow _ _; have HOWN := Lib.hid hown'; have HGR := Lib.hid hgrow; clear hown' hgrow) | go_in)
              exact ⟨⟨b + 1, es ++ [(kd, (a : Int), (b : Int))], v3, by go_num, rfl, by omega, by omega, Lib.hid (by rw [Ap.flC_snoc, List.length_append]; exact HOWN.out), by simp; omega, (by first | exact Lib.hid (by rw [HGU.out]; exact HM2.out) | exact HM2), Lib.hid (Below.grown (HZ.out.alloc (by omega) _) HGR.out (by simp; omega) (fun j hj => (HOZ.out.lt _ hj).1))⟩, by simp [intOf]; omega⟩
          · have HM2 := Lib.hid (MISS.out rfl)
            clear MISS HITS
            go_wp2
            (refine Kit.wp_region_cls (by kernel_rfl) (by kernel_rfl) ?_; (repeat (go_big_quiet_step (first | (with_reducible exact Kit.calls_cls _ (TG2.out _)) | (with_reducible exact Kit.calls_cls _ (TG1.out _))))); refine wpQuiet_nil ?_; intro z)
            have HZ := Lib.hid (HB.out.trans (z.below.mono HB.out.size))
            have HOZ := Lib.hid (Kit.ownsRow_thn HO.out z.below)
            have zz := HZ.out.size
            generalize z.val = Z at *
            clear e0 e1 e2 e3 i0 i1 i2 i3 TG1 TG2 HO HB z
            go_wp2
            go_roundw
            case rel => exact ⟨b + 1, es, v'', by go_num, rfl, by omega, by omega, HOZ, by omega, (by first | exact Lib.hid (by rw [HGU.out]; exact HM2.out) | exact HM2), HZ⟩
            case measure => simp [intOf]; omega
        · have HL3 := Lib.hid (show L = es ++ Ap.allC (Ap.has P) kd U V nR (a + 1) (nR - (a + 1)) by rw [HL2.out, show nR - b = 0 by omega, HT.out]; rfl)
          clear HL2
          go_wp2
          go_roundw
          case rel => exact ⟨a + 1, es, v'', by go_num, rfl, by omega, HO, by omega, HL3, HB⟩
          case measure => simp [intOf]; omega
    · have HL3 := Lib.hid (show L = ds by rw [HL.out, show nR - a = 0 by omega]; simp [Ap.allC])
      clear HL
      go_wp2
      go_ret
      exact ⟨_, rfl, by rw [HL3.out]; exact HO.out, HB.out⟩
end Go.Proofs.YtjoieglhmladhaaDoor

namespace Go.Proofs.YtjoieglhmladhaaDoor
set_option linter.unusedVariables false
set_option linter.unusedSimpArgs false
open Go.RowKit Go.Shelf

namespace Kit
/-- Append of a whole slice, nil too. -/
theorem wpList_append_sl {P : Program} (w : World) {ops : Array Oper} {rest : List Oper} {o : Oper} {a : Act} {Q : Exit → Act → World → Prop} (hgd : o.guard = none) (s x : Operand) (t : TypeId)
    (ho : o.op = .call { callee := .builtin .append, args := #[s, x], argTypes := #[t, t] })
    (base : Nat) (e : TypeId) (i : TypeInfo) (z : Value) (size bytes : Nat) (ht : P.underlying t = some (.slice e)) (hi : P.info? e = some i) (hz : i.zero = some z)
    (hsize : i.size = size) (hby : i.bytes = bytes) (hzs : z.cells.size = size) (hsz : 0 < size)
    (v : Value) (n : Nat) (xs : List Value) (hs : a.eval s = v) (hown : w.ownsRow base e size v n xs)
    (ad : Option Addr) (m c : Nat) (news : List Value) (hx : a.eval x = .slice ad m c) (hl : news.length = m * size) (hnews : ∀ a, ad = some a → ∀ j u, news[j]? = some u → w.cell? (a.add j) = some u) (hnil : ad = none → m = 0) (h1 : ∀ u ∈ news, u.oneCell' = true)
    (h63 : n + m ≤ maxLen) (hbytes : (n + m) * bytes ≤ 140737488355328) (hbase : base ≤ w.heap.size)
    (h : ∀ v' w', w'.ownsRow base e size v' (n + m) (xs ++ news) → w.grownBy w' v.ownBlock → (∀ k, v'.ownBlock = some k → v.ownBlock = some k ∨ w.heap.size ≤ k) → wpList P ops Q rest (a.put o.dst v') w') : wpList P ops Q (o :: rest) a w :=
  wpList_plain hgd fun K hK => by
    obtain ⟨v', w', hr, h2, h3, h5⟩ := run_append_sl (P := P) w base t o.type e i z size bytes ht hi hz hsize hby hzs hsz v n xs hown ad m c news hl hnews hnil h1 h63 hbytes hbase
    unfold Oper.wp execOp
    simp only [ho, resolve, invoke, builtin, Sem.run_bind, Sem.run_pure, Result.andThen_ok, List.map_toArray, List.map_cons, List.map_nil, hs, hx, hr]
    exact hK _ _ (h v' w' h2 h3 h5)
/-- A slice of one's own as an append's source. -/
theorem own_src {w : World} {base : Nat} {t : TypeId} {k n : Nat} {v : Value} {xs : List Value} (h : w.ownsRow base t k v n xs) : ∃ ad c, v = .slice ad n c ∧ (∀ a, ad = some a → ∀ j u, xs[j]? = some u → w.cell? (a.add j) = some u) ∧ (ad = none → n = 0) := by
  have hc := h
  rcases h.2 with ⟨rfl, hn⟩ | ⟨g, cap, cur, rfl, hb, hg, _⟩
  · exact ⟨none, 0, by rw [hn], fun a h => (by cases h), fun _ => hn⟩
  · exact ⟨some ⟨g, 0, none⟩, cap, rfl, fun a h => (by cases h; exact hc.cells (g := g) rfl), fun h => (by cases h)⟩
end Kit
namespace Ap
theorem allC_lenR (h : Int → Int → Bool) (kd : Int) (u v : List Bx) (R : Nat) : ∀ (n a : Nat), (allC h kd u v R a n).length ≤ n * R
  | 0, _ => by simp [allC]
  | n + 1, a => by
    have h1 := allC_lenR h kd u v R n (a + 1)
    have h2 := rowC_len h kd (u.getD a (0, 0, 0, 0)) v a (R - (a + 1)) (a + 1)
    rw [Nat.succ_mul]
    simp only [allC, List.length_append]
    omega
theorem one_flC (l : List C3) : ∀ u ∈ flC l, u.oneCell' = true := by
  intro u hu
  simp only [flC, List.mem_flatMap] at hu
  obtain ⟨x, _, hx⟩ := hu
  simp at hx
  rcases hx with rfl | rfl | rfl <;> simp [Value.oneCell']
theorem flC_len (l : List C3) : (flC l).length = l.length * 3 := by
  induction l with
  | nil => rfl
  | cons x l ih =>
    have e : flC (x :: l) = .int .i64 x.1 :: .int .i64 x.2.1 :: .int .i64 x.2.2 :: flC l := by simp [flC]
    rw [e]; simp only [List.length_cons, ih]; omega
theorem flC_app (l m : List C3) : flC l ++ flC m = flC (l ++ m) := by simp [flC]
theorem ks_four (h : Int → Int → Bool) (mv hd : List Bx) (R : Nat) (lm : mv.length = R) (lh : hd.length = R) :
    ksC h mv hd R 0 5 = allC h 1 mv mv R 0 R ++ allC h 2 mv hd R 0 R ++ allC h 3 hd mv R 0 R ++ allC h 4 hd hd R 0 R := by
  simp [ksC, one, two, allC, lm, lh]
end Ap
theorem rn_floor (wd dp ta tb tc : Int) (aR : Option Addr) (nR cR : Nat) (n : Int) (aT : Option Addr) (nT cT : Nat) (aP : Option Addr) (nP cP : Nat) (aS : Option Addr) (nS cS : Nat) (aG : Option Addr) (nG cG : Nat) (w : World) (h1 : 1 ≤ wd) (h2 : wd ≤ 1000) (h3 : 1 ≤ dp) (h4 : dp ≤ 1000) :
    Calls Tryd.prog 27 #[Ex.wv wd dp ta tb tc aR nR cR n aT nT cT aP nP cP aS nS cS aG nG cG] w fun e w' => e = .returned (Sp.boxV 0 (841 * wd) 0 (841 * dp)) ∧ Below w.heap.size w w' := by
  go_enter Tryd.func27, Tryd.ntmps27
  go_wp2
  (refine bodyPost_ret (by simp [results, Tryd.results27, go_sem, Kit.cell_set]; try rfl) rfl ?_)
  exact ⟨rfl, by (repeat' first | (with_reducible first | exact Below.refl _ _ | assumption | refine Kit.below_drewN ?_ _ | refine Below.drew ?_ | refine Below.alloc ?_ ?_ _ | refine Below.setCell ?_ ?_ _ | exact Nat.le_refl _) | omega | (simp; omega) | (simp; done) | (apply Below.size; assumption))⟩

set_option maxRecDepth 100000 in
set_option maxHeartbeats 1000000 in
theorem rn_clash_1 (wd dp ta tb tc : Int) (aR : Option Addr) (nR cR : Nat) (n : Int) (aT : Option Addr) (nT cT : Nat) (aP : Option Addr) (nP cP : Nat) (aS : Option Addr) (nS cS : Nat) (aG : Option Addr) (nG cG : Nat) (aW : Option Addr) (gs : List Ap.Wg) (cW : Nat) (bar : Int) (aM : Option Addr) (mv : List Ap.Bx) (cM : Nat) (aH : Option Addr) (hd : List Ap.Bx) (cH : Nat) (aQ : Option Addr) (P : List (Int × Int)) (cQ : Nat) (w : World) (r : Int) (hr : (r != 0) = true) (hc : ∀ W, Below w.heap.size w W → Calls Tryd.prog 53 #[Ex.wv wd dp ta tb tc aR nR cR n aT nT cT aP nP cP aS nS cS aG nG cG] W fun e w' => e = .returned (.int .i64 r) ∧ Below W.heap.size W w') :
    Calls Tryd.prog 22 #[Ex.wv wd dp ta tb tc aR nR cR n aT nT cT aP nP cP aS nS cS aG nG cG, .agg #[.slice aW gs.length cW], .int .i64 bar, .slice aM mv.length cM, .slice aH hd.length cH, .slice aQ P.length cQ] w fun e w' => e = .returned (.tuple #[.slice none 0 0, .int .i64 r]) ∧ Below w.heap.size w w' := by
  have HC := Lib.hid hc; clear hc
  go_enter Tryd.func22, Tryd.ntmps22
  skip
  (go_wp2_with (fail); refine (HC.out _ (by (repeat' first | (with_reducible first | exact Below.refl _ _ | assumption | refine Kit.below_drewN ?_ _ | refine Below.drew ?_ | refine Below.alloc ?_ ?_ _ | refine Below.setCell ?_ ?_ _ | exact Nat.le_refl _) | omega | (simp; omega) | (simp; done) | (apply Below.size; assumption)))).mono ?_; rintro e w1_ ⟨rfl, hb1_⟩; have hp1_ : Below w.heap.size w w1_ := Below.trans (by (repeat' first | (with_reducible first | exact Below.refl _ _ | assumption | refine Kit.below_drewN ?_ _ | refine Below.drew ?_ | refine Below.alloc ?_ ?_ _ | refine Below.setCell ?_ ?_ _ | exact Nat.le_refl _) | omega | (simp; omega) | (simp; done) | (apply Below.size; assumption))) (hb1_.mono (by first | assumption | (simp; done) | (simp; omega) | omega)); have hw1_ : Below w.heap.size w w1_ := hp1_; obtain ⟨hc1_, hf1_⟩ := Kit.bcell hb1_; have z1_w : w.heap.size < w1_.heap.size := (by have := hb1_.size; first | omega | (simp at this; omega)); obtain ⟨g1_w_0, g1_w_1, g1_w_2, g1_w_3, g1_w_4, g1_w_5, g1_w_6, g1_w_7, g1_w_8, g1_w_9, g1_w_10⟩ : w1_.cell? ⟨w.heap.size, 0, none⟩ = some (.int .i64 wd) ∧ w1_.cell? ⟨w.heap.size, 1, none⟩ = some (.int .i64 dp) ∧ w1_.cell? ⟨w.heap.size, 2, none⟩ = some (.int .i64 ta) ∧ w1_.cell? ⟨w.heap.size, 3, none⟩ = some (.int .i64 tb) ∧ w1_.cell? ⟨w.heap.size, 4, none⟩ = some (.int .i64 tc) ∧ w1_.cell? ⟨w.heap.size, 5, none⟩ = some (.slice aR nR cR) ∧ w1_.cell? ⟨w.heap.size, 6, none⟩ = some (.int .i64 n) ∧ w1_.cell? ⟨w.heap.size, 7, none⟩ = some (.slice aT nT cT) ∧ w1_.cell? ⟨w.heap.size, 8, none⟩ = some (.slice aP nP cP) ∧ w1_.cell? ⟨w.heap.size, 9, none⟩ = some (.slice aS nS cS) ∧ w1_.cell? ⟨w.heap.size, 10, none⟩ = some (.slice aG nG cG) := (by refine ⟨?_, ?_, ?_, ?_, ?_, ?_, ?_, ?_, ?_, ?_, ?_⟩ <;> (rw [hc1_ _ _ (by first | assumption | (simp; done) | (simp; omega) | omega)]; first | assumption | (simp [go_sem]; done) | (simp [go_sem, *]; done))); have z1_w_1 : w.heap.size + 1 < w1_.heap.size := (by have := hb1_.size; first | omega | (simp at this; omega)); have g1_w_1_0 : w1_.cell? ⟨w.heap.size + 1, 0, none⟩ = some (.slice aW gs.length cW) := (by rw [hc1_ _ _ (by first | assumption | (simp; done) | (simp; omega) | omega)]; first | assumption | (simp [go_sem]; done) | (simp [go_sem, *]; done)); clear hc1_ hf1_; clear hb1_ hp1_)
  go_wp2
  go_ret2
  exact ⟨rfl, by (repeat' first | (with_reducible first | exact Below.refl _ _ | assumption | refine Kit.below_drewN ?_ _ | refine Below.drew ?_ | refine Below.alloc ?_ ?_ _ | refine Below.setCell ?_ ?_ _ | exact Nat.le_refl _) | omega | (simp; omega) | (simp; done) | (apply Below.size; assumption))⟩

set_option maxRecDepth 100000 in
set_option maxHeartbeats 1000000 in
theorem rn_clash_2 (wd dp ta tb tc : Int) (aR : Option Addr) (nR cR : Nat) (n : Int) (aT : Option Addr) (nT cT : Nat) (aP : Option Addr) (nP cP : Nat) (aS : Option Addr) (nS cS : Nat) (aG : Option Addr) (nG cG : Nat) (aW : Option Addr) (gs : List Ap.Wg) (cW : Nat) (bar : Int) (aM : Option Addr) (mv : List Ap.Bx) (cM : Nat) (aH : Option Addr) (hd : List Ap.Bx) (cH : Nat) (aQ : Option Addr) (P : List (Int × Int)) (cQ : Nat) (w : World) (hg : 8 < gs.length) (hg2 : gs.length ≤ 4611686018427387904) (hc : ∀ W, Below w.heap.size w W → Calls Tryd.prog 53 #[Ex.wv wd dp ta tb tc aR nR cR n aT nT cT aP nP cP aS nS cS aG nG cG] W fun e w' => e = .returned (.int .i64 0) ∧ Below W.heap.size W w') :
    Calls Tryd.prog 22 #[Ex.wv wd dp ta tb tc aR nR cR n aT nT cT aP nP cP aS nS cS aG nG cG, .agg #[.slice aW gs.length cW], .int .i64 bar, .slice aM mv.length cM, .slice aH hd.length cH, .slice aQ P.length cQ] w fun e w' => e = .returned (.tuple #[.slice none 0 0, .int .i64 2]) ∧ Below w.heap.size w w' := by
  have HC := Lib.hid hc; clear hc
  go_enter Tryd.func22, Tryd.ntmps22
  skip
  (go_wp2_with (fail); refine (HC.out _ (by (repeat' first | (with_reducible first | exact Below.refl _ _ | assumption | refine Kit.below_drewN ?_ _ | refine Below.drew ?_ | refine Below.alloc ?_ ?_ _ | refine Below.setCell ?_ ?_ _ | exact Nat.le_refl _) | omega | (simp; omega) | (simp; done) | (apply Below.size; assumption)))).mono ?_; rintro e w1_ ⟨rfl, hb1_⟩; have hp1_ : Below w.heap.size w w1_ := Below.trans (by (repeat' first | (with_reducible first | exact Below.refl _ _ | assumption | refine Kit.below_drewN ?_ _ | refine Below.drew ?_ | refine Below.alloc ?_ ?_ _ | refine Below.setCell ?_ ?_ _ | exact Nat.le_refl _) | omega | (simp; omega) | (simp; done) | (apply Below.size; assumption))) (hb1_.mono (by first | assumption | (simp; done) | (simp; omega) | omega)); have hw1_ : Below w.heap.size w w1_ := hp1_; obtain ⟨hc1_, hf1_⟩ := Kit.bcell hb1_; have z1_w : w.heap.size < w1_.heap.size := (by have := hb1_.size; first | omega | (simp at this; omega)); obtain ⟨g1_w_0, g1_w_1, g1_w_2, g1_w_3, g1_w_4, g1_w_5, g1_w_6, g1_w_7, g1_w_8, g1_w_9, g1_w_10⟩ : w1_.cell? ⟨w.heap.size, 0, none⟩ = some (.int .i64 wd) ∧ w1_.cell? ⟨w.heap.size, 1, none⟩ = some (.int .i64 dp) ∧ w1_.cell? ⟨w.heap.size, 2, none⟩ = some (.int .i64 ta) ∧ w1_.cell? ⟨w.heap.size, 3, none⟩ = some (.int .i64 tb) ∧ w1_.cell? ⟨w.heap.size, 4, none⟩ = some (.int .i64 tc) ∧ w1_.cell? ⟨w.heap.size, 5, none⟩ = some (.slice aR nR cR) ∧ w1_.cell? ⟨w.heap.size, 6, none⟩ = some (.int .i64 n) ∧ w1_.cell? ⟨w.heap.size, 7, none⟩ = some (.slice aT nT cT) ∧ w1_.cell? ⟨w.heap.size, 8, none⟩ = some (.slice aP nP cP) ∧ w1_.cell? ⟨w.heap.size, 9, none⟩ = some (.slice aS nS cS) ∧ w1_.cell? ⟨w.heap.size, 10, none⟩ = some (.slice aG nG cG) := (by refine ⟨?_, ?_, ?_, ?_, ?_, ?_, ?_, ?_, ?_, ?_, ?_⟩ <;> (rw [hc1_ _ _ (by first | assumption | (simp; done) | (simp; omega) | omega)]; first | assumption | (simp [go_sem]; done) | (simp [go_sem, *]; done))); have z1_w_1 : w.heap.size + 1 < w1_.heap.size := (by have := hb1_.size; first | omega | (simp at this; omega)); have g1_w_1_0 : w1_.cell? ⟨w.heap.size + 1, 0, none⟩ = some (.slice aW gs.length cW) := (by rw [hc1_ _ _ (by first | assumption | (simp; done) | (simp; omega) | omega)]; first | assumption | (simp [go_sem]; done) | (simp [go_sem, *]; done)); clear hc1_ hf1_; clear hb1_ hp1_)
  go_wp2
  go_ret2
  exact ⟨rfl, by (repeat' first | (with_reducible first | exact Below.refl _ _ | assumption | refine Kit.below_drewN ?_ _ | refine Below.drew ?_ | refine Below.alloc ?_ ?_ _ | refine Below.setCell ?_ ?_ _ | exact Nat.le_refl _) | omega | (simp; omega) | (simp; done) | (apply Below.size; assumption))⟩

set_option maxRecDepth 100000 in
set_option maxHeartbeats 1000000 in
theorem rn_clash_3 (wd dp ta tb tc : Int) (aR : Option Addr) (nR cR : Nat) (n : Int) (aT : Option Addr) (nT cT : Nat) (aP : Option Addr) (nP cP : Nat) (aS : Option Addr) (nS cS : Nat) (aG : Option Addr) (nG cG : Nat) (aW : Option Addr) (gs : List Ap.Wg) (cW : Nat) (bar : Int) (aM : Option Addr) (mv : List Ap.Bx) (cM : Nat) (aH : Option Addr) (hd : List Ap.Bx) (cH : Nat) (aQ : Option Addr) (P : List (Int × Int)) (cQ : Nat) (w : World) (hg : gs.length ≤ 8) (n1 : 1 ≤ n) (n2 : n ≤ 4096) (hb : Tp.inb bar 0 (n - 1) = false) (hc : ∀ W, Below w.heap.size w W → Calls Tryd.prog 53 #[Ex.wv wd dp ta tb tc aR nR cR n aT nT cT aP nP cP aS nS cS aG nG cG] W fun e w' => e = .returned (.int .i64 0) ∧ Below W.heap.size W w') :
    Calls Tryd.prog 22 #[Ex.wv wd dp ta tb tc aR nR cR n aT nT cT aP nP cP aS nS cS aG nG cG, .agg #[.slice aW gs.length cW], .int .i64 bar, .slice aM mv.length cM, .slice aH hd.length cH, .slice aQ P.length cQ] w fun e w' => e = .returned (.tuple #[.slice none 0 0, .int .i64 1]) ∧ Below w.heap.size w w' := by
  have HC := Lib.hid hc; clear hc
  go_enter Tryd.func22, Tryd.ntmps22
  skip
  (go_wp2_with (fail); refine (HC.out _ (by (repeat' first | (with_reducible first | exact Below.refl _ _ | assumption | refine Kit.below_drewN ?_ _ | refine Below.drew ?_ | refine Below.alloc ?_ ?_ _ | refine Below.setCell ?_ ?_ _ | exact Nat.le_refl _) | omega | (simp; omega) | (simp; done) | (apply Below.size; assumption)))).mono ?_; rintro e w1_ ⟨rfl, hb1_⟩; have hp1_ : Below w.heap.size w w1_ := Below.trans (by (repeat' first | (with_reducible first | exact Below.refl _ _ | assumption | refine Kit.below_drewN ?_ _ | refine Below.drew ?_ | refine Below.alloc ?_ ?_ _ | refine Below.setCell ?_ ?_ _ | exact Nat.le_refl _) | omega | (simp; omega) | (simp; done) | (apply Below.size; assumption))) (hb1_.mono (by first | assumption | (simp; done) | (simp; omega) | omega)); have hw1_ : Below w.heap.size w w1_ := hp1_; obtain ⟨hc1_, hf1_⟩ := Kit.bcell hb1_; have z1_w : w.heap.size < w1_.heap.size := (by have := hb1_.size; first | omega | (simp at this; omega)); obtain ⟨g1_w_0, g1_w_1, g1_w_2, g1_w_3, g1_w_4, g1_w_5, g1_w_6, g1_w_7, g1_w_8, g1_w_9, g1_w_10⟩ : w1_.cell? ⟨w.heap.size, 0, none⟩ = some (.int .i64 wd) ∧ w1_.cell? ⟨w.heap.size, 1, none⟩ = some (.int .i64 dp) ∧ w1_.cell? ⟨w.heap.size, 2, none⟩ = some (.int .i64 ta) ∧ w1_.cell? ⟨w.heap.size, 3, none⟩ = some (.int .i64 tb) ∧ w1_.cell? ⟨w.heap.size, 4, none⟩ = some (.int .i64 tc) ∧ w1_.cell? ⟨w.heap.size, 5, none⟩ = some (.slice aR nR cR) ∧ w1_.cell? ⟨w.heap.size, 6, none⟩ = some (.int .i64 n) ∧ w1_.cell? ⟨w.heap.size, 7, none⟩ = some (.slice aT nT cT) ∧ w1_.cell? ⟨w.heap.size, 8, none⟩ = some (.slice aP nP cP) ∧ w1_.cell? ⟨w.heap.size, 9, none⟩ = some (.slice aS nS cS) ∧ w1_.cell? ⟨w.heap.size, 10, none⟩ = some (.slice aG nG cG) := (by refine ⟨?_, ?_, ?_, ?_, ?_, ?_, ?_, ?_, ?_, ?_, ?_⟩ <;> (rw [hc1_ _ _ (by first | assumption | (simp; done) | (simp; omega) | omega)]; first | assumption | (simp [go_sem]; done) | (simp [go_sem, *]; done))); have z1_w_1 : w.heap.size + 1 < w1_.heap.size := (by have := hb1_.size; first | omega | (simp at this; omega)); have g1_w_1_0 : w1_.cell? ⟨w.heap.size + 1, 0, none⟩ = some (.slice aW gs.length cW) := (by rw [hc1_ _ _ (by first | assumption | (simp; done) | (simp; omega) | omega)]; first | assumption | (simp [go_sem]; done) | (simp [go_sem, *]; done)); clear hc1_ hf1_; clear hb1_ hp1_)
  go_wp2_with (go_at_call 40; refine (rf_within _ _ _ _).mono ?_; rintro e w' ⟨rfl, rfl⟩)
  go_ret2
  exact ⟨rfl, by (repeat' first | (with_reducible first | exact Below.refl _ _ | assumption | refine Kit.below_drewN ?_ _ | refine Below.drew ?_ | refine Below.alloc ?_ ?_ _ | refine Below.setCell ?_ ?_ _ | exact Nat.le_refl _) | omega | (simp; omega) | (simp; done) | (apply Below.size; assumption))⟩

set_option maxRecDepth 100000 in
set_option maxHeartbeats 1000000 in
theorem rn_clash_4 (wd dp ta tb tc : Int) (aR : Option Addr) (nR cR : Nat) (n : Int) (aT : Option Addr) (nT cT : Nat) (aP : Option Addr) (nP cP : Nat) (aS : Option Addr) (nS cS : Nat) (aG : Option Addr) (nG cG : Nat) (aW : Option Addr) (gs : List Ap.Wg) (cW : Nat) (bar : Int) (aM : Option Addr) (mv : List Ap.Bx) (cM : Nat) (aH : Option Addr) (hd : List Ap.Bx) (cH : Nat) (aQ : Option Addr) (P : List (Int × Int)) (cQ : Nat) (w : World) (hg : gs.length ≤ 8) (n1 : 1 ≤ n) (n2 : n ≤ 4096) (hb : Tp.inb bar 0 (n - 1) = true) (hR : nR ≤ 64) (b1 b2 b3 : Bool) (hb1 : ∀ W, Below w.heap.size w W → Calls Tryd.prog 54 #[.slice aM mv.length cM, .int .i64 nR] W fun e w' => e = .returned (.bool b1) ∧ Below W.heap.size W w') (hb2 : ∀ W, Below w.heap.size w W → Calls Tryd.prog 54 #[.slice aH hd.length cH, .int .i64 nR] W fun e w' => e = .returned (.bool b2) ∧ Below W.heap.size W w') (hb3 : ∀ W, Below w.heap.size w W → Calls Tryd.prog 55 #[.slice aQ P.length cQ, .int .i64 nR] W fun e w' => e = .returned (.bool b3) ∧ Below W.heap.size W w') (hbb : (b1 && b2 && b3) = false) (hc : ∀ W, Below w.heap.size w W → Calls Tryd.prog 53 #[Ex.wv wd dp ta tb tc aR nR cR n aT nT cT aP nP cP aS nS cS aG nG cG] W fun e w' => e = .returned (.int .i64 0) ∧ Below W.heap.size W w') :
    Calls Tryd.prog 22 #[Ex.wv wd dp ta tb tc aR nR cR n aT nT cT aP nP cP aS nS cS aG nG cG, .agg #[.slice aW gs.length cW], .int .i64 bar, .slice aM mv.length cM, .slice aH hd.length cH, .slice aQ P.length cQ] w fun e w' => e = .returned (.tuple #[.slice none 0 0, .int .i64 290]) ∧ Below w.heap.size w w' := by
  have HB1 := Lib.hid hb1; clear hb1
  have HB2 := Lib.hid hb2; clear hb2
  have HB3 := Lib.hid hb3; clear hb3
  have HC := Lib.hid hc; clear hc
  generalize mv.length = lm' at *
  generalize hd.length = lh' at *
  cases b1
  · clear hbb
    go_enter Tryd.func22, Tryd.ntmps22
    skip
    (go_wp2_with (fail); refine (HC.out _ (by (repeat' first | (with_reducible first | exact Below.refl _ _ | assumption | refine Kit.below_drewN ?_ _ | refine Below.drew ?_ | refine Below.alloc ?_ ?_ _ | refine Below.setCell ?_ ?_ _ | exact Nat.le_refl _) | omega | (simp; omega) | (simp; done) | (apply Below.size; assumption)))).mono ?_; rintro e w1_ ⟨rfl, hb1_⟩; have hp1_ : Below w.heap.size w w1_ := Below.trans (by (repeat' first | (with_reducible first | exact Below.refl _ _ | assumption | refine Kit.below_drewN ?_ _ | refine Below.drew ?_ | refine Below.alloc ?_ ?_ _ | refine Below.setCell ?_ ?_ _ | exact Nat.le_refl _) | omega | (simp; omega) | (simp; done) | (apply Below.size; assumption))) (hb1_.mono (by first | assumption | (simp; done) | (simp; omega) | omega)); have hw1_ : Below w.heap.size w w1_ := hp1_; obtain ⟨hc1_, hf1_⟩ := Kit.bcell hb1_; have z1_w : w.heap.size < w1_.heap.size := (by have := hb1_.size; first | omega | (simp at this; omega)); obtain ⟨g1_w_0, g1_w_1, g1_w_2, g1_w_3, g1_w_4, g1_w_5, g1_w_6, g1_w_7, g1_w_8, g1_w_9, g1_w_10⟩ : w1_.cell? ⟨w.heap.size, 0, none⟩ = some (.int .i64 wd) ∧ w1_.cell? ⟨w.heap.size, 1, none⟩ = some (.int .i64 dp) ∧ w1_.cell? ⟨w.heap.size, 2, none⟩ = some (.int .i64 ta) ∧ w1_.cell? ⟨w.heap.size, 3, none⟩ = some (.int .i64 tb) ∧ w1_.cell? ⟨w.heap.size, 4, none⟩ = some (.int .i64 tc) ∧ w1_.cell? ⟨w.heap.size, 5, none⟩ = some (.slice aR nR cR) ∧ w1_.cell? ⟨w.heap.size, 6, none⟩ = some (.int .i64 n) ∧ w1_.cell? ⟨w.heap.size, 7, none⟩ = some (.slice aT nT cT) ∧ w1_.cell? ⟨w.heap.size, 8, none⟩ = some (.slice aP nP cP) ∧ w1_.cell? ⟨w.heap.size, 9, none⟩ = some (.slice aS nS cS) ∧ w1_.cell? ⟨w.heap.size, 10, none⟩ = some (.slice aG nG cG) := (by refine ⟨?_, ?_, ?_, ?_, ?_, ?_, ?_, ?_, ?_, ?_, ?_⟩ <;> (rw [hc1_ _ _ (by first | assumption | (simp; done) | (simp; omega) | omega)]; first | assumption | (simp [go_sem]; done) | (simp [go_sem, *]; done))); have z1_w_1 : w.heap.size + 1 < w1_.heap.size := (by have := hb1_.size; first | omega | (simp at this; omega)); have g1_w_1_0 : w1_.cell? ⟨w.heap.size + 1, 0, none⟩ = some (.slice aW gs.length cW) := (by rw [hc1_ _ _ (by first | assumption | (simp; done) | (simp; omega) | omega)]; first | assumption | (simp [go_sem]; done) | (simp [go_sem, *]; done)); clear hc1_ hf1_; clear hb1_ hp1_)
    (go_wp2_with ((go_at_call 40; refine (rf_within _ _ _ _).mono ?_; rintro e w' ⟨rfl, rfl⟩)); refine (HB1.out _ (by (repeat' first | (with_reducible first | exact Below.refl _ _ | assumption | refine Kit.below_drewN ?_ _ | refine Below.drew ?_ | refine Below.alloc ?_ ?_ _ | refine Below.setCell ?_ ?_ _ | exact Nat.le_refl _) | omega | (simp; omega) | (simp; done) | (apply Below.size; assumption)))).mono ?_; rintro e w2_ ⟨rfl, hb2_⟩; have hp2_ : Below w1_.heap.size w1_ w2_ := Below.trans (by (repeat' first | (with_reducible first | exact Below.refl _ _ | assumption | refine Kit.below_drewN ?_ _ | refine Below.drew ?_ | refine Below.alloc ?_ ?_ _ | refine Below.setCell ?_ ?_ _ | exact Nat.le_refl _) | omega | (simp; omega) | (simp; done) | (apply Below.size; assumption))) (hb2_.mono (by first | assumption | (simp; done) | (simp; omega) | omega)); have hw2_ : Below w.heap.size w w2_ := hw1_.trans (hp2_.mono hw1_.size); have z2_w : w.heap.size < w2_.heap.size := Nat.lt_of_lt_of_le z1_w hp2_.size; have g2_w_0 := Kit.ck hp2_ g1_w_0 z1_w; have g2_w_1 := Kit.ck hp2_ g1_w_1 z1_w; have g2_w_2 := Kit.ck hp2_ g1_w_2 z1_w; have g2_w_3 := Kit.ck hp2_ g1_w_3 z1_w; have g2_w_4 := Kit.ck hp2_ g1_w_4 z1_w; have g2_w_5 := Kit.ck hp2_ g1_w_5 z1_w; have g2_w_6 := Kit.ck hp2_ g1_w_6 z1_w; have g2_w_7 := Kit.ck hp2_ g1_w_7 z1_w; have g2_w_8 := Kit.ck hp2_ g1_w_8 z1_w; have g2_w_9 := Kit.ck hp2_ g1_w_9 z1_w; have g2_w_10 := Kit.ck hp2_ g1_w_10 z1_w; have z2_w_1 : w.heap.size + 1 < w2_.heap.size := Nat.lt_of_lt_of_le z1_w_1 hp2_.size; have g2_w_1_0 := Kit.ck hp2_ g1_w_1_0 z1_w_1; clear z1_w g1_w_0 g1_w_1 g1_w_2 g1_w_3 g1_w_4 g1_w_5 g1_w_6 g1_w_7 g1_w_8 g1_w_9 g1_w_10 z1_w_1 g1_w_1_0 hw1_ hb2_ hp2_)
    go_wp2
    go_ret2
    exact ⟨rfl, by (repeat' first | (with_reducible first | exact Below.refl _ _ | assumption | refine Kit.below_drewN ?_ _ | refine Below.drew ?_ | refine Below.alloc ?_ ?_ _ | refine Below.setCell ?_ ?_ _ | exact Nat.le_refl _) | omega | (simp; omega) | (simp; done) | (apply Below.size; assumption))⟩
  · cases b2
    · clear hbb
      go_enter Tryd.func22, Tryd.ntmps22
      skip
      (go_wp2_with (fail); refine (HC.out _ (by (repeat' first | (with_reducible first | exact Below.refl _ _ | assumption | refine Kit.below_drewN ?_ _ | refine Below.drew ?_ | refine Below.alloc ?_ ?_ _ | refine Below.setCell ?_ ?_ _ | exact Nat.le_refl _) | omega | (simp; omega) | (simp; done) | (apply Below.size; assumption)))).mono ?_; rintro e w1_ ⟨rfl, hb1_⟩; have hp1_ : Below w.heap.size w w1_ := Below.trans (by (repeat' first | (with_reducible first | exact Below.refl _ _ | assumption | refine Kit.below_drewN ?_ _ | refine Below.drew ?_ | refine Below.alloc ?_ ?_ _ | refine Below.setCell ?_ ?_ _ | exact Nat.le_refl _) | omega | (simp; omega) | (simp; done) | (apply Below.size; assumption))) (hb1_.mono (by first | assumption | (simp; done) | (simp; omega) | omega)); have hw1_ : Below w.heap.size w w1_ := hp1_; obtain ⟨hc1_, hf1_⟩ := Kit.bcell hb1_; have z1_w : w.heap.size < w1_.heap.size := (by have := hb1_.size; first | omega | (simp at this; omega)); obtain ⟨g1_w_0, g1_w_1, g1_w_2, g1_w_3, g1_w_4, g1_w_5, g1_w_6, g1_w_7, g1_w_8, g1_w_9, g1_w_10⟩ : w1_.cell? ⟨w.heap.size, 0, none⟩ = some (.int .i64 wd) ∧ w1_.cell? ⟨w.heap.size, 1, none⟩ = some (.int .i64 dp) ∧ w1_.cell? ⟨w.heap.size, 2, none⟩ = some (.int .i64 ta) ∧ w1_.cell? ⟨w.heap.size, 3, none⟩ = some (.int .i64 tb) ∧ w1_.cell? ⟨w.heap.size, 4, none⟩ = some (.int .i64 tc) ∧ w1_.cell? ⟨w.heap.size, 5, none⟩ = some (.slice aR nR cR) ∧ w1_.cell? ⟨w.heap.size, 6, none⟩ = some (.int .i64 n) ∧ w1_.cell? ⟨w.heap.size, 7, none⟩ = some (.slice aT nT cT) ∧ w1_.cell? ⟨w.heap.size, 8, none⟩ = some (.slice aP nP cP) ∧ w1_.cell? ⟨w.heap.size, 9, none⟩ = some (.slice aS nS cS) ∧ w1_.cell? ⟨w.heap.size, 10, none⟩ = some (.slice aG nG cG) := (by refine ⟨?_, ?_, ?_, ?_, ?_, ?_, ?_, ?_, ?_, ?_, ?_⟩ <;> (rw [hc1_ _ _ (by first | assumption | (simp; done) | (simp; omega) | omega)]; first | assumption | (simp [go_sem]; done) | (simp [go_sem, *]; done))); have z1_w_1 : w.heap.size + 1 < w1_.heap.size := (by have := hb1_.size; first | omega | (simp at this; omega)); have g1_w_1_0 : w1_.cell? ⟨w.heap.size + 1, 0, none⟩ = some (.slice aW gs.length cW) := (by rw [hc1_ _ _ (by first | assumption | (simp; done) | (simp; omega) | omega)]; first | assumption | (simp [go_sem]; done) | (simp [go_sem, *]; done)); clear hc1_ hf1_; clear hb1_ hp1_)
      (go_wp2_with ((go_at_call 40; refine (rf_within _ _ _ _).mono ?_; rintro e w' ⟨rfl, rfl⟩)); refine (HB1.out _ (by (repeat' first | (with_reducible first | exact Below.refl _ _ | assumption | refine Kit.below_drewN ?_ _ | refine Below.drew ?_ | refine Below.alloc ?_ ?_ _ | refine Below.setCell ?_ ?_ _ | exact Nat.le_refl _) | omega | (simp; omega) | (simp; done) | (apply Below.size; assumption)))).mono ?_; rintro e w2_ ⟨rfl, hb2_⟩; have hp2_ : Below w1_.heap.size w1_ w2_ := Below.trans (by (repeat' first | (with_reducible first | exact Below.refl _ _ | assumption | refine Kit.below_drewN ?_ _ | refine Below.drew ?_ | refine Below.alloc ?_ ?_ _ | refine Below.setCell ?_ ?_ _ | exact Nat.le_refl _) | omega | (simp; omega) | (simp; done) | (apply Below.size; assumption))) (hb2_.mono (by first | assumption | (simp; done) | (simp; omega) | omega)); have hw2_ : Below w.heap.size w w2_ := hw1_.trans (hp2_.mono hw1_.size); have z2_w : w.heap.size < w2_.heap.size := Nat.lt_of_lt_of_le z1_w hp2_.size; have g2_w_0 := Kit.ck hp2_ g1_w_0 z1_w; have g2_w_1 := Kit.ck hp2_ g1_w_1 z1_w; have g2_w_2 := Kit.ck hp2_ g1_w_2 z1_w; have g2_w_3 := Kit.ck hp2_ g1_w_3 z1_w; have g2_w_4 := Kit.ck hp2_ g1_w_4 z1_w; have g2_w_5 := Kit.ck hp2_ g1_w_5 z1_w; have g2_w_6 := Kit.ck hp2_ g1_w_6 z1_w; have g2_w_7 := Kit.ck hp2_ g1_w_7 z1_w; have g2_w_8 := Kit.ck hp2_ g1_w_8 z1_w; have g2_w_9 := Kit.ck hp2_ g1_w_9 z1_w; have g2_w_10 := Kit.ck hp2_ g1_w_10 z1_w; have z2_w_1 : w.heap.size + 1 < w2_.heap.size := Nat.lt_of_lt_of_le z1_w_1 hp2_.size; have g2_w_1_0 := Kit.ck hp2_ g1_w_1_0 z1_w_1; clear z1_w g1_w_0 g1_w_1 g1_w_2 g1_w_3 g1_w_4 g1_w_5 g1_w_6 g1_w_7 g1_w_8 g1_w_9 g1_w_10 z1_w_1 g1_w_1_0 hw1_ hb2_ hp2_)
      (go_wp2_with (fail); refine (HB2.out _ (by (repeat' first | (with_reducible first | exact Below.refl _ _ | assumption | refine Kit.below_drewN ?_ _ | refine Below.drew ?_ | refine Below.alloc ?_ ?_ _ | refine Below.setCell ?_ ?_ _ | exact Nat.le_refl _) | omega | (simp; omega) | (simp; done) | (apply Below.size; assumption)))).mono ?_; rintro e w3_ ⟨rfl, hb3_⟩; have hp3_ : Below w2_.heap.size w2_ w3_ := Below.trans (by (repeat' first | (with_reducible first | exact Below.refl _ _ | assumption | refine Kit.below_drewN ?_ _ | refine Below.drew ?_ | refine Below.alloc ?_ ?_ _ | refine Below.setCell ?_ ?_ _ | exact Nat.le_refl _) | omega | (simp; omega) | (simp; done) | (apply Below.size; assumption))) (hb3_.mono (by first | assumption | (simp; done) | (simp; omega) | omega)); have hw3_ : Below w.heap.size w w3_ := hw2_.trans (hp3_.mono hw2_.size); have z3_w : w.heap.size < w3_.heap.size := Nat.lt_of_lt_of_le z2_w hp3_.size; have g3_w_0 := Kit.ck hp3_ g2_w_0 z2_w; have g3_w_1 := Kit.ck hp3_ g2_w_1 z2_w; have g3_w_2 := Kit.ck hp3_ g2_w_2 z2_w; have g3_w_3 := Kit.ck hp3_ g2_w_3 z2_w; have g3_w_4 := Kit.ck hp3_ g2_w_4 z2_w; have g3_w_5 := Kit.ck hp3_ g2_w_5 z2_w; have g3_w_6 := Kit.ck hp3_ g2_w_6 z2_w; have g3_w_7 := Kit.ck hp3_ g2_w_7 z2_w; have g3_w_8 := Kit.ck hp3_ g2_w_8 z2_w; have g3_w_9 := Kit.ck hp3_ g2_w_9 z2_w; have g3_w_10 := Kit.ck hp3_ g2_w_10 z2_w; have z3_w_1 : w.heap.size + 1 < w3_.heap.size := Nat.lt_of_lt_of_le z2_w_1 hp3_.size; have g3_w_1_0 := Kit.ck hp3_ g2_w_1_0 z2_w_1; clear z2_w g2_w_0 g2_w_1 g2_w_2 g2_w_3 g2_w_4 g2_w_5 g2_w_6 g2_w_7 g2_w_8 g2_w_9 g2_w_10 z2_w_1 g2_w_1_0 hw2_ hb3_ hp3_)
      go_wp2
      go_ret2
      exact ⟨rfl, by (repeat' first | (with_reducible first | exact Below.refl _ _ | assumption | refine Kit.below_drewN ?_ _ | refine Below.drew ?_ | refine Below.alloc ?_ ?_ _ | refine Below.setCell ?_ ?_ _ | exact Nat.le_refl _) | omega | (simp; omega) | (simp; done) | (apply Below.size; assumption))⟩
    · cases b3
      · clear hbb
        go_enter Tryd.func22, Tryd.ntmps22
        skip
        (go_wp2_with (fail); refine (HC.out _ (by (repeat' first | (with_reducible first | exact Below.refl _ _ | assumption | refine Kit.below_drewN ?_ _ | refine Below.drew ?_ | refine Below.alloc ?_ ?_ _ | refine Below.setCell ?_ ?_ _ | exact Nat.le_refl _) | omega | (simp; omega) | (simp; done) | (apply Below.size; assumption)))).mono ?_; rintro e w1_ ⟨rfl, hb1_⟩; have hp1_ : Below w.heap.size w w1_ := Below.trans (by (repeat' first | (with_reducible first | exact Below.refl _ _ | assumption | refine Kit.below_drewN ?_ _ | refine Below.drew ?_ | refine Below.alloc ?_ ?_ _ | refine Below.setCell ?_ ?_ _ | exact Nat.le_refl _) | omega | (simp; omega) | (simp; done) | (apply Below.size; assumption))) (hb1_.mono (by first | assumption | (simp; done) | (simp; omega) | omega)); have hw1_ : Below w.heap.size w w1_ := hp1_; obtain ⟨hc1_, hf1_⟩ := Kit.bcell hb1_; have z1_w : w.heap.size < w1_.heap.size := (by have := hb1_.size; first | omega | (simp at this; omega)); obtain ⟨g1_w_0, g1_w_1, g1_w_2, g1_w_3, g1_w_4, g1_w_5, g1_w_6, g1_w_7, g1_w_8, g1_w_9, g1_w_10⟩ : w1_.cell? ⟨w.heap.size, 0, none⟩ = some (.int .i64 wd) ∧ w1_.cell? ⟨w.heap.size, 1, none⟩ = some (.int .i64 dp) ∧ w1_.cell? ⟨w.heap.size, 2, none⟩ = some (.int .i64 ta) ∧ w1_.cell? ⟨w.heap.size, 3, none⟩ = some (.int .i64 tb) ∧ w1_.cell? ⟨w.heap.size, 4, none⟩ = some (.int .i64 tc) ∧ w1_.cell? ⟨w.heap.size, 5, none⟩ = some (.slice aR nR cR) ∧ w1_.cell? ⟨w.heap.size, 6, none⟩ = some (.int .i64 n) ∧ w1_.cell? ⟨w.heap.size, 7, none⟩ = some (.slice aT nT cT) ∧ w1_.cell? ⟨w.heap.size, 8, none⟩ = some (.slice aP nP cP) ∧ w1_.cell? ⟨w.heap.size, 9, none⟩ = some (.slice aS nS cS) ∧ w1_.cell? ⟨w.heap.size, 10, none⟩ = some (.slice aG nG cG) := (by refine ⟨?_, ?_, ?_, ?_, ?_, ?_, ?_, ?_, ?_, ?_, ?_⟩ <;> (rw [hc1_ _ _ (by first | assumption | (simp; done) | (simp; omega) | omega)]; first | assumption | (simp [go_sem]; done) | (simp [go_sem, *]; done))); have z1_w_1 : w.heap.size + 1 < w1_.heap.size := (by have := hb1_.size; first | omega | (simp at this; omega)); have g1_w_1_0 : w1_.cell? ⟨w.heap.size + 1, 0, none⟩ = some (.slice aW gs.length cW) := (by rw [hc1_ _ _ (by first | assumption | (simp; done) | (simp; omega) | omega)]; first | assumption | (simp [go_sem]; done) | (simp [go_sem, *]; done)); clear hc1_ hf1_; clear hb1_ hp1_)
        (go_wp2_with ((go_at_call 40; refine (rf_within _ _ _ _).mono ?_; rintro e w' ⟨rfl, rfl⟩)); refine (HB1.out _ (by (repeat' first | (with_reducible first | exact Below.refl _ _ | assumption | refine Kit.below_drewN ?_ _ | refine Below.drew ?_ | refine Below.alloc ?_ ?_ _ | refine Below.setCell ?_ ?_ _ | exact Nat.le_refl _) | omega | (simp; omega) | (simp; done) | (apply Below.size; assumption)))).mono ?_; rintro e w2_ ⟨rfl, hb2_⟩; have hp2_ : Below w1_.heap.size w1_ w2_ := Below.trans (by (repeat' first | (with_reducible first | exact Below.refl _ _ | assumption | refine Kit.below_drewN ?_ _ | refine Below.drew ?_ | refine Below.alloc ?_ ?_ _ | refine Below.setCell ?_ ?_ _ | exact Nat.le_refl _) | omega | (simp; omega) | (simp; done) | (apply Below.size; assumption))) (hb2_.mono (by first | assumption | (simp; done) | (simp; omega) | omega)); have hw2_ : Below w.heap.size w w2_ := hw1_.trans (hp2_.mono hw1_.size); have z2_w : w.heap.size < w2_.heap.size := Nat.lt_of_lt_of_le z1_w hp2_.size; have g2_w_0 := Kit.ck hp2_ g1_w_0 z1_w; have g2_w_1 := Kit.ck hp2_ g1_w_1 z1_w; have g2_w_2 := Kit.ck hp2_ g1_w_2 z1_w; have g2_w_3 := Kit.ck hp2_ g1_w_3 z1_w; have g2_w_4 := Kit.ck hp2_ g1_w_4 z1_w; have g2_w_5 := Kit.ck hp2_ g1_w_5 z1_w; have g2_w_6 := Kit.ck hp2_ g1_w_6 z1_w; have g2_w_7 := Kit.ck hp2_ g1_w_7 z1_w; have g2_w_8 := Kit.ck hp2_ g1_w_8 z1_w; have g2_w_9 := Kit.ck hp2_ g1_w_9 z1_w; have g2_w_10 := Kit.ck hp2_ g1_w_10 z1_w; have z2_w_1 : w.heap.size + 1 < w2_.heap.size := Nat.lt_of_lt_of_le z1_w_1 hp2_.size; have g2_w_1_0 := Kit.ck hp2_ g1_w_1_0 z1_w_1; clear z1_w g1_w_0 g1_w_1 g1_w_2 g1_w_3 g1_w_4 g1_w_5 g1_w_6 g1_w_7 g1_w_8 g1_w_9 g1_w_10 z1_w_1 g1_w_1_0 hw1_ hb2_ hp2_)
        (go_wp2_with (fail); refine (HB2.out _ (by (repeat' first | (with_reducible first | exact Below.refl _ _ | assumption | refine Kit.below_drewN ?_ _ | refine Below.drew ?_ | refine Below.alloc ?_ ?_ _ | refine Below.setCell ?_ ?_ _ | exact Nat.le_refl _) | omega | (simp; omega) | (simp; done) | (apply Below.size; assumption)))).mono ?_; rintro e w3_ ⟨rfl, hb3_⟩; have hp3_ : Below w2_.heap.size w2_ w3_ := Below.trans (by (repeat' first | (with_reducible first | exact Below.refl _ _ | assumption | refine Kit.below_drewN ?_ _ | refine Below.drew ?_ | refine Below.alloc ?_ ?_ _ | refine Below.setCell ?_ ?_ _ | exact Nat.le_refl _) | omega | (simp; omega) | (simp; done) | (apply Below.size; assumption))) (hb3_.mono (by first | assumption | (simp; done) | (simp; omega) | omega)); have hw3_ : Below w.heap.size w w3_ := hw2_.trans (hp3_.mono hw2_.size); have z3_w : w.heap.size < w3_.heap.size := Nat.lt_of_lt_of_le z2_w hp3_.size; have g3_w_0 := Kit.ck hp3_ g2_w_0 z2_w; have g3_w_1 := Kit.ck hp3_ g2_w_1 z2_w; have g3_w_2 := Kit.ck hp3_ g2_w_2 z2_w; have g3_w_3 := Kit.ck hp3_ g2_w_3 z2_w; have g3_w_4 := Kit.ck hp3_ g2_w_4 z2_w; have g3_w_5 := Kit.ck hp3_ g2_w_5 z2_w; have g3_w_6 := Kit.ck hp3_ g2_w_6 z2_w; have g3_w_7 := Kit.ck hp3_ g2_w_7 z2_w; have g3_w_8 := Kit.ck hp3_ g2_w_8 z2_w; have g3_w_9 := Kit.ck hp3_ g2_w_9 z2_w; have g3_w_10 := Kit.ck hp3_ g2_w_10 z2_w; have z3_w_1 : w.heap.size + 1 < w3_.heap.size := Nat.lt_of_lt_of_le z2_w_1 hp3_.size; have g3_w_1_0 := Kit.ck hp3_ g2_w_1_0 z2_w_1; clear z2_w g2_w_0 g2_w_1 g2_w_2 g2_w_3 g2_w_4 g2_w_5 g2_w_6 g2_w_7 g2_w_8 g2_w_9 g2_w_10 z2_w_1 g2_w_1_0 hw2_ hb3_ hp3_)
        (go_wp2_with (fail); refine (HB3.out _ (by (repeat' first | (with_reducible first | exact Below.refl _ _ | assumption | refine Kit.below_drewN ?_ _ | refine Below.drew ?_ | refine Below.alloc ?_ ?_ _ | refine Below.setCell ?_ ?_ _ | exact Nat.le_refl _) | omega | (simp; omega) | (simp; done) | (apply Below.size; assumption)))).mono ?_; rintro e w4_ ⟨rfl, hb4_⟩; have hp4_ : Below w3_.heap.size w3_ w4_ := Below.trans (by (repeat' first | (with_reducible first | exact Below.refl _ _ | assumption | refine Kit.below_drewN ?_ _ | refine Below.drew ?_ | refine Below.alloc ?_ ?_ _ | refine Below.setCell ?_ ?_ _ | exact Nat.le_refl _) | omega | (simp; omega) | (simp; done) | (apply Below.size; assumption))) (hb4_.mono (by first | assumption | (simp; done) | (simp; omega) | omega)); have hw4_ : Below w.heap.size w w4_ := hw3_.trans (hp4_.mono hw3_.size); have z4_w : w.heap.size < w4_.heap.size := Nat.lt_of_lt_of_le z3_w hp4_.size; have g4_w_0 := Kit.ck hp4_ g3_w_0 z3_w; have g4_w_1 := Kit.ck hp4_ g3_w_1 z3_w; have g4_w_2 := Kit.ck hp4_ g3_w_2 z3_w; have g4_w_3 := Kit.ck hp4_ g3_w_3 z3_w; have g4_w_4 := Kit.ck hp4_ g3_w_4 z3_w; have g4_w_5 := Kit.ck hp4_ g3_w_5 z3_w; have g4_w_6 := Kit.ck hp4_ g3_w_6 z3_w; have g4_w_7 := Kit.ck hp4_ g3_w_7 z3_w; have g4_w_8 := Kit.ck hp4_ g3_w_8 z3_w; have g4_w_9 := Kit.ck hp4_ g3_w_9 z3_w; have g4_w_10 := Kit.ck hp4_ g3_w_10 z3_w; have z4_w_1 : w.heap.size + 1 < w4_.heap.size := Nat.lt_of_lt_of_le z3_w_1 hp4_.size; have g4_w_1_0 := Kit.ck hp4_ g3_w_1_0 z3_w_1; clear z3_w g3_w_0 g3_w_1 g3_w_2 g3_w_3 g3_w_4 g3_w_5 g3_w_6 g3_w_7 g3_w_8 g3_w_9 g3_w_10 z3_w_1 g3_w_1_0 hw3_ hb4_ hp4_)
        go_wp2
        go_ret2
        exact ⟨rfl, by (repeat' first | (with_reducible first | exact Below.refl _ _ | assumption | refine Kit.below_drewN ?_ _ | refine Below.drew ?_ | refine Below.alloc ?_ ?_ _ | refine Below.setCell ?_ ?_ _ | exact Nat.le_refl _) | omega | (simp; omega) | (simp; done) | (apply Below.size; assumption))⟩
      · simp at hbb

end Go.Proofs.YtjoieglhmladhaaDoor

namespace Go.Proofs.YtjoieglhmladhaaDoor
set_option linter.unusedVariables false
set_option linter.unusedSimpArgs false
open Go.RowKit Go.Shelf

set_option maxRecDepth 100000 in
set_option maxHeartbeats 8000000 in
theorem rn_clash_5 (wd dp ta tb tc : Int) (aR : Option Addr) (nR cR : Nat) (n : Int) (aT : Option Addr) (nT cT : Nat) (aP : Option Addr) (nP cP : Nat) (aS : Option Addr) (nS cS : Nat) (aG : Option Addr) (nG cG : Nat) (aW : Option Addr) (gs : List Ap.Wg) (cW : Nat) (bar : Int) (aM : Option Addr) (mv : List Ap.Bx) (cM : Nat) (aH : Option Addr) (hd : List Ap.Bx) (cH : Nat) (aQ : Option Addr) (P : List (Int × Int)) (cQ : Nat) (w : World)
    (hg : gs.length ≤ 8) (n1 : 1 ≤ n) (n2 : n ≤ 4096) (hb : Tp.inb bar 0 (n - 1) = true) (hR : nR ≤ 64) (lP : P.length ≤ 1099511627776) (d1 : 1 ≤ wd) (d2 : wd ≤ 1000) (d3 : 1 ≤ dp) (d4 : dp ≤ 1000)
    (lm : mv.length = nR) (lh : hd.length = nR) (sM : Tp.Sl w aM nR 4 (Ap.bxc mv)) (sH : Tp.Sl w aH nR 4 (Ap.bxc hd)) (sW : Tp.Sl w aW gs.length 8 (Ap.wgc gs)) (sQ : Tp.Sl w aQ P.length 2 (Ap.prc P))
    (oM : ∀ x ∈ mv, Ap.okB x = true) (oH : ∀ x ∈ hd, Ap.okB x = true) (hb1 : ∀ W, Below w.heap.size w W → Calls Tryd.prog 54 #[.slice aM nR cM, .int .i64 nR] W fun e w' => e = .returned (.bool true) ∧ Below W.heap.size W w') (hb2 : ∀ W, Below w.heap.size w W → Calls Tryd.prog 54 #[.slice aH nR cH, .int .i64 nR] W fun e w' => e = .returned (.bool true) ∧ Below W.heap.size W w') (hb3 : ∀ W, Below w.heap.size w W → Calls Tryd.prog 55 #[.slice aQ P.length cQ, .int .i64 nR] W fun e w' => e = .returned (.bool true) ∧ Below W.heap.size W w') (hc : ∀ W, Below w.heap.size w W → Calls Tryd.prog 53 #[Ex.wv wd dp ta tb tc aR nR cR n aT nT cT aP nP cP aS nS cS aG nG cG] W fun e w' => e = .returned (.int .i64 0) ∧ Below W.heap.size W w')
    (E : Int) (hE : Hid (E = Ap.pthE bar gs)) (L : List Ap.C3)
    (hL : Hid (L = Ap.ksC (Ap.has P) mv hd nR 0 5 ++ (Ap.allW mv hd (Ap.pths bar gs) 0 nR ++ Ap.allE (0, 841 * wd, 0, 841 * dp) mv hd 0 nR))) :
    Calls Tryd.prog 22 #[Ex.wv wd dp ta tb tc aR nR cR n aT nT cT aP nP cP aS nS cS aG nG cG, .agg #[.slice aW gs.length cW], .int .i64 bar, .slice aM nR cM, .slice aH nR cH, .slice aQ P.length cQ] w (Ap.CPost L E w) := by
  have HC := Lib.hid hc; clear hc
  have HB1 := Lib.hid hb1; clear hb1
  have HB2 := Lib.hid hb2; clear hb2
  have HB3 := Lib.hid hb3; clear hb3
  have LM := Lib.hid lm; clear lm
  have LH := Lib.hid lh; clear lh
  have SM := Lib.hid sM; clear sM
  have SH := Lib.hid sH; clear sH
  have SW := Lib.hid sW; clear sW
  have SQ := Lib.hid sQ; clear sQ
  have OM := Lib.hid oM; clear oM
  have OH := Lib.hid oH; clear oH
  go_enter Tryd.func22, Tryd.ntmps22
  skip
  (go_wp2_with (fail); refine (HC.out _ (by (repeat' first | (with_reducible first | exact Below.refl _ _ | assumption | refine Kit.below_drewN ?_ _ | refine Below.drew ?_ | refine Below.alloc ?_ ?_ _ | refine Below.setCell ?_ ?_ _ | exact Nat.le_refl _) | omega | (simp; omega) | (simp; done) | (apply Below.size; assumption)))).mono ?_; rintro e w1_ ⟨rfl, hb1_⟩; have hp1_ : Below w.heap.size w w1_ := Below.trans (by (repeat' first | (with_reducible first | exact Below.refl _ _ | assumption | refine Kit.below_drewN ?_ _ | refine Below.drew ?_ | refine Below.alloc ?_ ?_ _ | refine Below.setCell ?_ ?_ _ | exact Nat.le_refl _) | omega | (simp; omega) | (simp; done) | (apply Below.size; assumption))) (hb1_.mono (by first | assumption | (simp; done) | (simp; omega) | omega)); have hw1_ : Below w.heap.size w w1_ := hp1_; obtain ⟨hc1_, hf1_⟩ := Kit.bcell hb1_; have z1_w : w.heap.size < w1_.heap.size := (by have := hb1_.size; first | omega | (simp at this; omega)); obtain ⟨g1_w_0, g1_w_1, g1_w_2, g1_w_3, g1_w_4, g1_w_5, g1_w_6, g1_w_7, g1_w_8, g1_w_9, g1_w_10⟩ : w1_.cell? ⟨w.heap.size, 0, none⟩ = some (.int .i64 wd) ∧ w1_.cell? ⟨w.heap.size, 1, none⟩ = some (.int .i64 dp) ∧ w1_.cell? ⟨w.heap.size, 2, none⟩ = some (.int .i64 ta) ∧ w1_.cell? ⟨w.heap.size, 3, none⟩ = some (.int .i64 tb) ∧ w1_.cell? ⟨w.heap.size, 4, none⟩ = some (.int .i64 tc) ∧ w1_.cell? ⟨w.heap.size, 5, none⟩ = some (.slice aR nR cR) ∧ w1_.cell? ⟨w.heap.size, 6, none⟩ = some (.int .i64 n) ∧ w1_.cell? ⟨w.heap.size, 7, none⟩ = some (.slice aT nT cT) ∧ w1_.cell? ⟨w.heap.size, 8, none⟩ = some (.slice aP nP cP) ∧ w1_.cell? ⟨w.heap.size, 9, none⟩ = some (.slice aS nS cS) ∧ w1_.cell? ⟨w.heap.size, 10, none⟩ = some (.slice aG nG cG) := (by refine ⟨?_, ?_, ?_, ?_, ?_, ?_, ?_, ?_, ?_, ?_, ?_⟩ <;> (rw [hc1_ _ _ (by first | assumption | (simp; done) | (simp; omega) | omega)]; first | assumption | (simp [go_sem]; done) | (simp [go_sem, *]; done))); have z1_w_1 : w.heap.size + 1 < w1_.heap.size := (by have := hb1_.size; first | omega | (simp at this; omega)); have g1_w_1_0 : w1_.cell? ⟨w.heap.size + 1, 0, none⟩ = some (.slice aW gs.length cW) := (by rw [hc1_ _ _ (by first | assumption | (simp; done) | (simp; omega) | omega)]; first | assumption | (simp [go_sem]; done) | (simp [go_sem, *]; done)); clear hc1_ hf1_; clear hb1_ hp1_)
  (go_wp2_with ((go_at_call 40; refine (rf_within _ _ _ _).mono ?_; rintro e w' ⟨rfl, rfl⟩)); refine (HB1.out _ (by (repeat' first | (with_reducible first | exact Below.refl _ _ | assumption | refine Kit.below_drewN ?_ _ | refine Below.drew ?_ | refine Below.alloc ?_ ?_ _ | refine Below.setCell ?_ ?_ _ | exact Nat.le_refl _) | omega | (simp; omega) | (simp; done) | (apply Below.size; assumption)))).mono ?_; rintro e w2_ ⟨rfl, hb2_⟩; have hp2_ : Below w1_.heap.size w1_ w2_ := Below.trans (by (repeat' first | (with_reducible first | exact Below.refl _ _ | assumption | refine Kit.below_drewN ?_ _ | refine Below.drew ?_ | refine Below.alloc ?_ ?_ _ | refine Below.setCell ?_ ?_ _ | exact Nat.le_refl _) | omega | (simp; omega) | (simp; done) | (apply Below.size; assumption))) (hb2_.mono (by first | assumption | (simp; done) | (simp; omega) | omega)); have hw2_ : Below w.heap.size w w2_ := hw1_.trans (hp2_.mono hw1_.size); have z2_w : w.heap.size < w2_.heap.size := Nat.lt_of_lt_of_le z1_w hp2_.size; have g2_w_0 := Kit.ck hp2_ g1_w_0 z1_w; have g2_w_1 := Kit.ck hp2_ g1_w_1 z1_w; have g2_w_2 := Kit.ck hp2_ g1_w_2 z1_w; have g2_w_3 := Kit.ck hp2_ g1_w_3 z1_w; have g2_w_4 := Kit.ck hp2_ g1_w_4 z1_w; have g2_w_5 := Kit.ck hp2_ g1_w_5 z1_w; have g2_w_6 := Kit.ck hp2_ g1_w_6 z1_w; have g2_w_7 := Kit.ck hp2_ g1_w_7 z1_w; have g2_w_8 := Kit.ck hp2_ g1_w_8 z1_w; have g2_w_9 := Kit.ck hp2_ g1_w_9 z1_w; have g2_w_10 := Kit.ck hp2_ g1_w_10 z1_w; have z2_w_1 : w.heap.size + 1 < w2_.heap.size := Nat.lt_of_lt_of_le z1_w_1 hp2_.size; have g2_w_1_0 := Kit.ck hp2_ g1_w_1_0 z1_w_1; clear z1_w g1_w_0 g1_w_1 g1_w_2 g1_w_3 g1_w_4 g1_w_5 g1_w_6 g1_w_7 g1_w_8 g1_w_9 g1_w_10 z1_w_1 g1_w_1_0 hw1_ hb2_ hp2_)
  (go_wp2_with (fail); refine (HB2.out _ (by (repeat' first | (with_reducible first | exact Below.refl _ _ | assumption | refine Kit.below_drewN ?_ _ | refine Below.drew ?_ | refine Below.alloc ?_ ?_ _ | refine Below.setCell ?_ ?_ _ | exact Nat.le_refl _) | omega | (simp; omega) | (simp; done) | (apply Below.size; assumption)))).mono ?_; rintro e w3_ ⟨rfl, hb3_⟩; have hp3_ : Below w2_.heap.size w2_ w3_ := Below.trans (by (repeat' first | (with_reducible first | exact Below.refl _ _ | assumption | refine Kit.below_drewN ?_ _ | refine Below.drew ?_ | refine Below.alloc ?_ ?_ _ | refine Below.setCell ?_ ?_ _ | exact Nat.le_refl _) | omega | (simp; omega) | (simp; done) | (apply Below.size; assumption))) (hb3_.mono (by first | assumption | (simp; done) | (simp; omega) | omega)); have hw3_ : Below w.heap.size w w3_ := hw2_.trans (hp3_.mono hw2_.size); have z3_w : w.heap.size < w3_.heap.size := Nat.lt_of_lt_of_le z2_w hp3_.size; have g3_w_0 := Kit.ck hp3_ g2_w_0 z2_w; have g3_w_1 := Kit.ck hp3_ g2_w_1 z2_w; have g3_w_2 := Kit.ck hp3_ g2_w_2 z2_w; have g3_w_3 := Kit.ck hp3_ g2_w_3 z2_w; have g3_w_4 := Kit.ck hp3_ g2_w_4 z2_w; have g3_w_5 := Kit.ck hp3_ g2_w_5 z2_w; have g3_w_6 := Kit.ck hp3_ g2_w_6 z2_w; have g3_w_7 := Kit.ck hp3_ g2_w_7 z2_w; have g3_w_8 := Kit.ck hp3_ g2_w_8 z2_w; have g3_w_9 := Kit.ck hp3_ g2_w_9 z2_w; have g3_w_10 := Kit.ck hp3_ g2_w_10 z2_w; have z3_w_1 : w.heap.size + 1 < w3_.heap.size := Nat.lt_of_lt_of_le z2_w_1 hp3_.size; have g3_w_1_0 := Kit.ck hp3_ g2_w_1_0 z2_w_1; clear z2_w g2_w_0 g2_w_1 g2_w_2 g2_w_3 g2_w_4 g2_w_5 g2_w_6 g2_w_7 g2_w_8 g2_w_9 g2_w_10 z2_w_1 g2_w_1_0 hw2_ hb3_ hp3_)
  (go_wp2_with (fail); refine (HB3.out _ (by (repeat' first | (with_reducible first | exact Below.refl _ _ | assumption | refine Kit.below_drewN ?_ _ | refine Below.drew ?_ | refine Below.alloc ?_ ?_ _ | refine Below.setCell ?_ ?_ _ | exact Nat.le_refl _) | omega | (simp; omega) | (simp; done) | (apply Below.size; assumption)))).mono ?_; rintro e w4_ ⟨rfl, hb4_⟩; have hp4_ : Below w3_.heap.size w3_ w4_ := Below.trans (by (repeat' first | (with_reducible first | exact Below.refl _ _ | assumption | refine Kit.below_drewN ?_ _ | refine Below.drew ?_ | refine Below.alloc ?_ ?_ _ | refine Below.setCell ?_ ?_ _ | exact Nat.le_refl _) | omega | (simp; omega) | (simp; done) | (apply Below.size; assumption))) (hb4_.mono (by first | assumption | (simp; done) | (simp; omega) | omega)); have hw4_ : Below w.heap.size w w4_ := hw3_.trans (hp4_.mono hw3_.size); have z4_w : w.heap.size < w4_.heap.size := Nat.lt_of_lt_of_le z3_w hp4_.size; have g4_w_0 := Kit.ck hp4_ g3_w_0 z3_w; have g4_w_1 := Kit.ck hp4_ g3_w_1 z3_w; have g4_w_2 := Kit.ck hp4_ g3_w_2 z3_w; have g4_w_3 := Kit.ck hp4_ g3_w_3 z3_w; have g4_w_4 := Kit.ck hp4_ g3_w_4 z3_w; have g4_w_5 := Kit.ck hp4_ g3_w_5 z3_w; have g4_w_6 := Kit.ck hp4_ g3_w_6 z3_w; have g4_w_7 := Kit.ck hp4_ g3_w_7 z3_w; have g4_w_8 := Kit.ck hp4_ g3_w_8 z3_w; have g4_w_9 := Kit.ck hp4_ g3_w_9 z3_w; have g4_w_10 := Kit.ck hp4_ g3_w_10 z3_w; have z4_w_1 : w.heap.size + 1 < w4_.heap.size := Nat.lt_of_lt_of_le z3_w_1 hp4_.size; have g4_w_1_0 := Kit.ck hp4_ g3_w_1_0 z3_w_1; clear z3_w g3_w_0 g3_w_1 g3_w_2 g3_w_3 g3_w_4 g3_w_5 g3_w_6 g3_w_7 g3_w_8 g3_w_9 g3_w_10 z3_w_1 g3_w_1_0 hw3_ hb4_ hp4_)
  go_wp2
  have K0 := Lib.hid g4_w_0
  have K1 := Lib.hid g4_w_1
  have K2 := Lib.hid g4_w_2
  have K3 := Lib.hid g4_w_3
  have K4 := Lib.hid g4_w_4
  have K5 := Lib.hid g4_w_5
  have K6 := Lib.hid g4_w_6
  have K7 := Lib.hid g4_w_7
  have K8 := Lib.hid g4_w_8
  have K9 := Lib.hid g4_w_9
  have K10 := Lib.hid g4_w_10
  have KH := Lib.hid g4_w_1_0
  have B0 := Lib.hid hw4_
  have s0 : w.heap.size + 1 < w4_.heap.size := z4_w_1
  clear g4_w_0 g4_w_1 g4_w_2 g4_w_3 g4_w_4 g4_w_5 g4_w_6 g4_w_7 g4_w_8 g4_w_9 g4_w_10 g4_w_1_0 hw4_ HC HB1 HB2 HB3
  go_loopw [15, 16] (fun v15 v16 wq => ∃ (k : Nat) (acc : List Ap.Bx), v16 = .int .i64 k ∧ k ≤ gs.length ∧ acc.length = k ∧ Hid (wq.ownsRow w4_.heap.size 25 4 v15 acc.length (Ap.flB acc)) ∧ Hid (Ap.pths bar gs = acc ++ Ap.pths bar (gs.drop k)) ∧ Hid (∀ x ∈ acc, Ap.okB x = true) ∧ Hid (Ap.pthE bar gs = Ap.pthE bar (gs.drop k)) ∧ Hid (Below w4_.heap.size w4_ wq))
    (fun _ v16 _ => gs.length - (intOf v16).toNat)
  case atStart => exact ⟨0, [], rfl, Nat.zero_le _, rfl, Lib.hid (World.ownsRow_nil _ _ _ _), Lib.hid (by simp), Lib.hid (by simp), Lib.hid (by simp), Lib.hid (Below.refl _ _)⟩
  case round =>
    obtain ⟨k, acc, rfl, hk, hal, HO, HPT, HOK, HPE, HB⟩ := hrel
    have hwr : Below w.heap.size w wr := B0.out.trans (HB.out.mono B0.out.size)
    have kh : wr.cell? ⟨w.heap.size + 1, 0, none⟩ = some (.slice aW gs.length cW) := (HB.out.cell (by simpa using s0)).trans KH.out
    have zq := HB.out.size
    by_cases hlt : k < gs.length
    · obtain ⟨ay, rfl, hay, _⟩ := SW.out.at hlt
      have HSl := SW.out.kept hwr (Nat.le_refl _)
      have e0 := HSl.head hlt (by omega)
      have e1 := HSl.field hlt (j := 1) (by omega) (by omega)
      have e2 := HSl.field hlt (j := 2) (by omega) (by omega)
      have e3 := HSl.field hlt (j := 3) (by omega) (by omega)
      have e4 := HSl.field hlt (j := 4) (by omega) (by omega)
      have e5 := HSl.field hlt (j := 5) (by omega) (by omega)
      have e6 := HSl.field hlt (j := 6) (by omega) (by omega)
      have e7 := HSl.field hlt (j := 7) (by omega) (by omega)
      clear HSl
      have hdrop := Tp.drop_cons gs ⟨0, 0, 0, 0, 0, 0, 0, 0⟩ k hlt
      generalize hx : gs.getD k ⟨0, 0, 0, 0, 0, 0, 0, 0⟩ = x at hdrop
      simp only [Ap.wgc, hx] at e0 e1 e2 e3 e4 e5 e6 e7
      have hpt : Ap.pths bar gs = acc ++ (Ap.toB (Ap.pathR x bar) :: Ap.pths bar (gs.drop (k + 1))) := by rw [HPT.out, hdrop]; rfl
      have hpe : Ap.pthE bar gs = if (Ap.pathR x bar).2.2.2.2 = 0 then Ap.pthE bar (gs.drop (k + 1)) else (Ap.pathR x bar).2.2.2.2 := by rw [HPE.out, hdrop]; rfl
      have hok : (Ap.pathR x bar).2.2.2.2 = 0 → Ap.okB (Ap.toB (Ap.pathR x bar)) = true := Ap.pathR_ok
      have hp : ∀ W, Rf.PathIs x bar W (Ap.pathR x bar) := fun W => rf_path x bar W
      generalize Ap.pathR x bar = r at hpt hpe hok hp
      obtain ⟨r1, r2, r3, r4, r5⟩ := r
      obtain ⟨ga, gb, gc, gd, gf, gl, gx, gy⟩ := x
      dsimp only [Ap.toB] at hpt hpe hok e0 e1 e2 e3 e4 e5 e6 e7
      have HPA := Lib.hid hp
      have HPT2 := Lib.hid hpt
      have HPE2 := Lib.hid hpe
      have HOK2 := Lib.hid hok
      have hbk : (ay.add (k * 8)).block < wr.heap.size := by rw [Tp.add_block]; have := hwr.size; omega
      clear hpt hpe hok hp hdrop hx HPT HPE hwr
      go_wp2_with fail
      refine (show Rf.PathIs ⟨ga, gb, gc, gd, gf, gl, gx, gy⟩ bar _ _ from HPA.out _).mono ?_
      rintro e wz ⟨rfl, hbz⟩
      have HB2 := Lib.hid (HB.out.trans (hbz.mono HB.out.size))
      have HO2 := Lib.hid (Kit.ownsRow_thn HO.out hbz)
      have HWZ := Lib.hid (B0.out.trans (HB2.out.mono B0.out.size))
      have zz := HB2.out.size
      clear hbz e0 e1 e2 e3 e4 e5 e6 e7 HO HB kh
      dsimp only
      rcases d5 : (r5 != 0) with _ | _
      · have r0 : r5 = 0 := by simpa using d5
        have HPE3 := Lib.hid (show Ap.pthE bar gs = Ap.pthE bar (gs.drop (k + 1)) by rw [HPE2.out, if_pos r0])
        have HOK3 := Lib.hid (show ∀ x ∈ acc ++ [(r1, r2, r3, r4)], Ap.okB x = true by
          intro x hx
          rcases List.mem_append.1 hx with h | h
          · exact HOK.out x h
          · simp at h; subst h; exact HOK2.out r0)
        have HPT3 := Lib.hid (show Ap.pths bar gs = (acc ++ [(r1, r2, r3, r4)]) ++ Ap.pths bar (gs.drop (k + 1)) by rw [HPT2.out]; simp)
        clear HPE2 HOK2 HPT2 HOK r0
        obtain ⟨i0, hi, hz0, hz1, hz2⟩ := info_parts Ap.infoB
        have hcell : ∀ (W : World) (N : Nat), N = W.heap.size → ∀ j u, [Value.int .i64 r1, .int .i64 r2, .int .i64 r3, .int .i64 r4][j]? = some u → (W.alloc (.cells #[.int .i64 r1, .int .i64 r2, .int .i64 r3, .int .i64 r4] 25)).cell? ((⟨N, 0, none⟩ : Addr).add j) = some u := by
          rintro W N rfl j u hu
          rcases j with _ | _ | _ | _ | j <;> simp at hu <;> subst hu <;> simp [Addr.add, go_sem]
        have HCELL := Lib.hid hcell; clear hcell
        go_wp2_with (first | (at_builtin; refine Kit.wpList_append_own' _ rfl _ _ 57 rfl w4_.heap.size 25 i0 (.agg #[.int .i64 0, .int .i64 0, .int .i64 0, .int .i64 0]) 4 32 Ap.underB hi hz0 hz1 hz2 rfl (by decide) _ _ _ rfl ((HO2.out.alloc _).alloc _) ⟨wz.heap.size + 1, 0, none⟩ 1 1 [.int .i64 r1, .int .i64 r2, .int .i64 r3, .int .i64 r4] rfl rfl (HCELL.out _ _ (by simp)) (by simp [Value.oneCell']) (by unfold maxLen; omega) (by omega) (by simp; omega) ?_; intro v' w2 hown' hgrow _ _; have HOWN := Lib.hid hown'; have HGR := Lib.hid hgrow; clear hown' hgrow) | go_in)
        exact ⟨⟨k + 1, acc ++ [(r1, r2, r3, r4)], by go_num, by omega, by simp; omega, Lib.hid (by rw [Ap.flB_snoc, List.length_append]; exact HOWN.out), HPT3, HOK3, HPE3,
          Lib.hid (Below.grown ((HB2.out.alloc (by omega) _).alloc (by simp; omega) _) HGR.out (by simp; omega) (fun j hj => (HO2.out.lt _ hj).1))⟩, by simp [intOf]; omega⟩
      · have r0 : r5 ≠ 0 := by simpa using d5
        have HE2 := Lib.hid (show E = r5 by rw [hE.out, HPE2.out, if_neg r0])
        have HR0 := Lib.hid r0
        clear HPE2 HOK2 HPT2 HOK r0 HO2
        go_wp2
        go_ret2
        exact Ap.CPost.err HE2.out HR0.out (by have := HWZ.out; (repeat' first | (with_reducible first | exact Below.refl _ _ | assumption | refine Kit.below_drewN ?_ _ | refine Below.drew ?_ | refine Below.alloc ?_ ?_ _ | refine Below.setCell ?_ ?_ _ | exact Nat.le_refl _) | omega | (simp; omega) | (simp; done) | (apply Below.size; assumption)))
    · have HPT2 := Lib.hid (show Ap.pths bar gs = acc by rw [HPT.out, List.drop_of_length_le (by omega)]; simp [Ap.pths])
      have HE2 := Lib.hid (show E = 0 by rw [hE.out, HPE.out, List.drop_of_length_le (by omega)]; rfl)
      have HL2 := Lib.hid (show L = Ap.allC (Ap.has P) 1 mv mv nR 0 nR ++ Ap.allC (Ap.has P) 2 mv hd nR 0 nR ++ Ap.allC (Ap.has P) 3 hd mv nR 0 nR ++ Ap.allC (Ap.has P) 4 hd hd nR 0 nR ++ (Ap.allW mv hd acc 0 nR ++ Ap.allE (0, 841 * wd, 0, 841 * dp) mv hd 0 nR) by rw [hL.out, HPT2.out, Ap.ks_four _ _ _ _ LM.out LH.out])
      obtain ⟨ap, cp, rfl, hsl, _⟩ := Ap.own_sl (f := Ap.bxc acc) HO.out (fun i j hi hj => Ap.flB_at acc i j hi hj)
      have SP := Lib.hid hsl
      have la : acc.length ≤ 8 := by omega
      have HWS := Lib.hid hwr
      have Q0 := Lib.hid ((HB.out.cell (p := ⟨w.heap.size, 0, none⟩) (by simp; omega)).trans K0.out)
      have Q1 := Lib.hid ((HB.out.cell (p := ⟨w.heap.size, 1, none⟩) (by simp; omega)).trans K1.out)
      have Q2 := Lib.hid ((HB.out.cell (p := ⟨w.heap.size, 2, none⟩) (by simp; omega)).trans K2.out)
      have Q3 := Lib.hid ((HB.out.cell (p := ⟨w.heap.size, 3, none⟩) (by simp; omega)).trans K3.out)
      have Q4 := Lib.hid ((HB.out.cell (p := ⟨w.heap.size, 4, none⟩) (by simp; omega)).trans K4.out)
      have Q5 := Lib.hid ((HB.out.cell (p := ⟨w.heap.size, 5, none⟩) (by simp; omega)).trans K5.out)
      have Q6 := Lib.hid ((HB.out.cell (p := ⟨w.heap.size, 6, none⟩) (by simp; omega)).trans K6.out)
      have Q7 := Lib.hid ((HB.out.cell (p := ⟨w.heap.size, 7, none⟩) (by simp; omega)).trans K7.out)
      have Q8 := Lib.hid ((HB.out.cell (p := ⟨w.heap.size, 8, none⟩) (by simp; omega)).trans K8.out)
      have Q9 := Lib.hid ((HB.out.cell (p := ⟨w.heap.size, 9, none⟩) (by simp; omega)).trans K9.out)
      have Q10 := Lib.hid ((HB.out.cell (p := ⟨w.heap.size, 10, none⟩) (by simp; omega)).trans K10.out)
      clear HPT HPE hE hL HPT2 HO hsl hal hk hwr SW KH K0 K1 K2 K3 K4 K5 K6 K7 K8 K9 K10
      have hll : ∀ kd u v, (Ap.allC (Ap.has P) kd u v nR 0 nR).length ≤ 4096 := fun kd u v => Nat.le_trans (Ap.allC_lenR _ _ _ _ _ _ _) (Nat.le_trans (Nat.mul_le_mul hR hR) (by omega))
      have l1 := hll 1 mv mv
      have l2 := hll 2 mv hd
      have l3 := hll 3 hd mv
      have l4 := hll 4 hd hd
      have HW2 : ∀ W, Below w.heap.size w W → Tp.Sl W aM nR 4 (Ap.bxc mv) ∧ Tp.Sl W aH nR 4 (Ap.bxc hd) ∧ Tp.Sl W aQ P.length 2 (Ap.prc P) := fun W hB => ⟨SM.out.kept hB (Nat.le_refl _), SH.out.kept hB (Nat.le_refl _), SQ.out.kept hB (Nat.le_refl _)⟩
      have C1 := Lib.hid (fun W hB => rn_between 1 aM aM mv mv cM cM aQ P cQ nR W hR LM.out LM.out (by omega) (HW2 W hB).1 (HW2 W hB).1 (HW2 W hB).2.2 OM.out OM.out _ rfl)
      have C2 := Lib.hid (fun W hB => rn_between 2 aM aH mv hd cM cH aQ P cQ nR W hR LM.out LH.out (by omega) (HW2 W hB).1 (HW2 W hB).2.1 (HW2 W hB).2.2 OM.out OH.out _ rfl)
      have C3 := Lib.hid (fun W hB => rn_between 3 aH aM hd mv cH cM aQ P cQ nR W hR LH.out LM.out (by omega) (HW2 W hB).2.1 (HW2 W hB).1 (HW2 W hB).2.2 OH.out OM.out _ rfl)
      have C4 := Lib.hid (fun W hB => rn_between 4 aH aH hd hd cH cH aQ P cQ nR W hR LH.out LH.out (by omega) (HW2 W hB).2.1 (HW2 W hB).2.1 (HW2 W hB).2.2 OH.out OH.out _ rfl)
      generalize Ap.allC (Ap.has P) 1 mv mv nR 0 nR = L1 at *
      generalize Ap.allC (Ap.has P) 2 mv hd nR 0 nR = L2 at *
      generalize Ap.allC (Ap.has P) 3 hd mv nR 0 nR = L3 at *
      generalize Ap.allC (Ap.has P) 4 hd hd nR 0 nR = L4 at *
      clear hll HW2
      obtain ⟨W2, rfl⟩ : ∃ W2, W2 = wr := ⟨_, rfl⟩
      obtain ⟨i0, hi, hz0, hz1, hz2⟩ := info_parts Ap.infoC
      go_wp2_with fail
      refine (C1.out _ HWS.out).mono ?_
      rintro e x1 ⟨v1, rfl, ho1, hb1⟩
      have HO1 := Lib.hid ho1
      have HLR1 := Lib.hid (show Kit.LR W2 (.slice none 0 0) v1 x1 from ⟨((Kit.LR.refl W2 (.slice none 0 0)).then hb1).1, fun b hb => .inr (ho1.lt b hb).1⟩)
      have HX1 := Lib.hid (HWS.out.trans (hb1.mono HWS.out.size))
      clear ho1 hb1 C1
      dsimp only
      go_wp2_with fail
      refine (C2.out _ HX1.out).mono ?_
      rintro e t2 ⟨v2, rfl, ho, hb'⟩
      have HOP := Lib.hid (Kit.ownsRow_thn HO1.out hb')
      have HLP := Lib.hid (HLR1.out.then hb')
      have HXP := Lib.hid (HX1.out.trans (hb'.mono HX1.out.size))
      obtain ⟨ar, ca, rfl, hns, hnn⟩ := Kit.own_src ho
      have HNS := Lib.hid hns
      have HNN := Lib.hid hnn
      have zb := HLP.out.size
      clear ho hb' hns hnn C2 HO1 HLR1 HX1
      dsimp only
      go_wp2_with (at_builtin; refine Kit.hold ?_; intro X HX)
      rw [HX.out]; clear HX X
      refine Kit.wpList_append_sl _ rfl _ _ 58 rfl W2.heap.size 73 i0 (.agg #[.int .i64 0, .int .i64 0, .int .i64 0]) 3 24 Ap.underC hi hz0 hz1 hz2 rfl (by decide) v1 _ _ rfl HOP.out ar L2.length ca (Ap.flC L2) rfl (Ap.flC_len _) HNS.out HNN.out (Ap.one_flC _) (by (try simp only [List.length_append]); unfold maxLen; omega) (by (try simp only [List.length_append]); omega) zb ?_
      intro y2 u2 ho hgr hwh
      rw [Ap.flC_app, ← List.length_append] at ho
      have HO2 := Lib.hid ho
      have HLR2 := Lib.hid (HLP.out.grown hgr hwh)
      have HX2 := Lib.hid (HWS.out.trans ((HLP.out.grown hgr hwh).below (Nat.le_refl _) (fun _ h => by cases h) |>.mono HWS.out.size))
      clear ho hgr hwh HOP HLP HXP HNS HNN zb
      go_wp2_with fail
      refine (C3.out _ HX2.out).mono ?_
      rintro e t3 ⟨v3, rfl, ho, hb'⟩
      have HOP := Lib.hid (Kit.ownsRow_thn HO2.out hb')
      have HLP := Lib.hid (HLR2.out.then hb')
      have HXP := Lib.hid (HX2.out.trans (hb'.mono HX2.out.size))
      obtain ⟨ar, ca, rfl, hns, hnn⟩ := Kit.own_src ho
      have HNS := Lib.hid hns
      have HNN := Lib.hid hnn
      have zb := HLP.out.size
      clear ho hb' hns hnn C3 HO2 HLR2 HX2
      dsimp only
      go_wp2_with (at_builtin; refine Kit.hold ?_; intro X HX)
      rw [HX.out]; clear HX X
      refine Kit.wpList_append_sl _ rfl _ _ 58 rfl W2.heap.size 73 i0 (.agg #[.int .i64 0, .int .i64 0, .int .i64 0]) 3 24 Ap.underC hi hz0 hz1 hz2 rfl (by decide) y2 _ _ rfl HOP.out ar L3.length ca (Ap.flC L3) rfl (Ap.flC_len _) HNS.out HNN.out (Ap.one_flC _) (by (try simp only [List.length_append]); unfold maxLen; omega) (by (try simp only [List.length_append]); omega) zb ?_
      intro y3 u3 ho hgr hwh
      rw [Ap.flC_app, ← List.length_append] at ho
      have HO3 := Lib.hid ho
      have HLR3 := Lib.hid (HLP.out.grown hgr hwh)
      have HX3 := Lib.hid (HWS.out.trans ((HLP.out.grown hgr hwh).below (Nat.le_refl _) (fun _ h => by cases h) |>.mono HWS.out.size))
      clear ho hgr hwh HOP HLP HXP HNS HNN zb
      go_wp2_with fail
      refine (C4.out _ HX3.out).mono ?_
      rintro e t4 ⟨v4, rfl, ho, hb'⟩
      have HOP := Lib.hid (Kit.ownsRow_thn HO3.out hb')
      have HLP := Lib.hid (HLR3.out.then hb')
      have HXP := Lib.hid (HX3.out.trans (hb'.mono HX3.out.size))
      obtain ⟨ar, ca, rfl, hns, hnn⟩ := Kit.own_src ho
      have HNS := Lib.hid hns
      have HNN := Lib.hid hnn
      have zb := HLP.out.size
      clear ho hb' hns hnn C4 HO3 HLR3 HX3
      dsimp only
      go_wp2_with (at_builtin; refine Kit.hold ?_; intro X HX)
      rw [HX.out]; clear HX X
      refine Kit.wpList_append_sl _ rfl _ _ 58 rfl W2.heap.size 73 i0 (.agg #[.int .i64 0, .int .i64 0, .int .i64 0]) 3 24 Ap.underC hi hz0 hz1 hz2 rfl (by decide) y3 _ _ rfl HOP.out ar L4.length ca (Ap.flC L4) rfl (Ap.flC_len _) HNS.out HNN.out (Ap.one_flC _) (by (try simp only [List.length_append]); unfold maxLen; omega) (by (try simp only [List.length_append]); omega) zb ?_
      intro y4 u4 ho hgr hwh
      rw [Ap.flC_app, ← List.length_append] at ho
      have HO4 := Lib.hid ho
      have HLR4 := Lib.hid (HLP.out.grown hgr hwh)
      have HX4 := Lib.hid (HWS.out.trans ((HLP.out.grown hgr hwh).below (Nat.le_refl _) (fun _ h => by cases h) |>.mono HWS.out.size))
      clear ho hgr hwh HOP HLP HXP HNS HNN zb
      go_wp2_with fail
      obtain ⟨T6, hT6⟩ : ∃ T6, T6 = Ap.allE (0, 841 * wd, 0, 841 * dp) mv hd 0 nR := ⟨_, rfl⟩
      rw [← hT6] at HL2
      have HT6 := Lib.hid hT6
      obtain ⟨cs, hcs⟩ : ∃ cs, cs = L1 ++ L2 ++ L3 ++ L4 := ⟨_, rfl⟩
      have hcl : cs.length ≤ 4 * 4096 := by rw [hcs]; simp; omega
      rw [← hcs] at HL2 HO4
      clear hcs hT6 l1 l2 l3 l4
      have HL3 := HL2
      have HO := HO4
      have HLR := HLR4
      clear HL2 HO4 HLR4 HX4
      go_loopw [19, 20] (fun v19 v20 wq => ∃ (a : Nat) (ds : List Ap.C3) (v' : Value), v20 = .int .i64 a ∧ v' = v19 ∧ a ≤ nR ∧ Hid (wq.ownsRow W2.heap.size 73 3 v' ds.length (Ap.flC ds)) ∧ ds.length ≤ 4 * 4096 + a * 8 ∧ Hid (L = ds ++ (Ap.allW mv hd acc a (nR - a) ++ T6)) ∧ Hid (Kit.LR W2 (.slice none 0 0) v' wq))
        (fun _ v20 _ => nR - (intOf v20).toNat)
      case atStart => exact ⟨0, cs, _, rfl, rfl, Nat.zero_le _, HO, by omega, HL3, HLR⟩
      case round =>
        clear HO HLR HL3 hcl
        obtain ⟨a, ds, v', rfl, rfl, ha, HO, hdl, HL4, HLR⟩ := hrel
        by_cases hla : a < nR
        · have hstep := Ap.allW_step mv hd acc a nR hla
          obtain ⟨T7, hT7⟩ : ∃ T7, T7 = Ap.allW mv hd acc (a + 1) (nR - (a + 1)) ++ T6 := ⟨_, rfl⟩
          have hl4 : L = ds ++ (Ap.rowW (mv.getD a (0, 0, 0, 0)) (hd.getD a (0, 0, 0, 0)) acc a 0 (acc.length - 0) ++ T7) := by rw [HL4.out, hstep, hT7]; simp
          have HL5 := Lib.hid hl4
          have HT7 := Lib.hid hT7
          clear hl4 hT7 hstep HL4
          have da : decide ((a : Int) < (nR : Int)) = true := by simp; omega
          go_wp2
          clear da
          go_loopw [19, 21] (fun v19 v21 wq => ∃ (b : Nat) (es : List Ap.C3) (v' : Value), v21 = .int .i64 b ∧ v' = v19 ∧ b ≤ acc.length ∧ Hid (wq.ownsRow W2.heap.size 73 3 v' es.length (Ap.flC es)) ∧ es.length ≤ 4 * 4096 + a * 8 + b ∧ Hid (L = es ++ (Ap.rowW (mv.getD a (0, 0, 0, 0)) (hd.getD a (0, 0, 0, 0)) acc a b (acc.length - b) ++ T7)) ∧ Hid (Kit.LR W2 (.slice none 0 0) v' wq))
            (fun _ v21 _ => acc.length - (intOf v21).toNat)
          case atStart => exact ⟨0, ds, v', rfl, rfl, Nat.zero_le _, HO, by omega, HL5, HLR⟩
          case round =>
            clear HO HL5 HLR hdl
            obtain ⟨b, es, v', rfl, rfl, hb', HO, hel, HL5, HLR⟩ := hrel
            have zr := HLR.out.size
            by_cases hlb : b < acc.length
            · have hbz := HLR.out.below (Nat.le_refl _) (fun _ h => by cases h)
              have hwr : Below w.heap.size w wr := HWS.out.trans (hbz.mono HWS.out.size)
              obtain ⟨pa, rfl, hpa, _⟩ := SP.out.at hlb
              obtain ⟨ma, rfl, hma, _⟩ := SM.out.at hla
              obtain ⟨ha', rfl, hha, _⟩ := SH.out.at hla
              have hsp : ∀ z : Kit.Wd wr, Tp.Sl z.val (some pa) acc.length 4 (Ap.bxc acc) := fun z => SP.out.kept (hbz.trans (z.below.mono hbz.size)) (Nat.le_refl _)
              have r0 := fun z => (hsp z).head hlb (by omega)
              have r1 := fun z => (hsp z).field hlb (j := 1) (by omega) (by omega)
              have r2 := fun z => (hsp z).field hlb (j := 2) (by omega) (by omega)
              have r3 := fun z => (hsp z).field hlb (j := 3) (by omega) (by omega)
              simp only [Ap.bxc] at r0 r1 r2 r3
              clear hsp
              have hma' : a < mv.length := by have := LM.out; omega
              have hha' : a < hd.length := by have := LH.out; omega
              have m1 : mv.getD a (0, 0, 0, 0) ∈ mv := List.mem_of_mem_drop (show mv.getD a (0, 0, 0, 0) ∈ mv.drop a by rw [Tp.drop_cons mv _ a hma']; exact List.mem_cons_self ..)
              have m2 : hd.getD a (0, 0, 0, 0) ∈ hd := List.mem_of_mem_drop (show hd.getD a (0, 0, 0, 0) ∈ hd.drop a by rw [Tp.drop_cons hd _ a hha']; exact List.mem_cons_self ..)
              have m3 : acc.getD b (0, 0, 0, 0) ∈ acc := List.mem_of_mem_drop (show acc.getD b (0, 0, 0, 0) ∈ acc.drop b by rw [Tp.drop_cons acc _ b hlb]; exact List.mem_cons_self ..)
              have okm := OM.out _ m1
              have okh := OH.out _ m2
              have okx := HOK.out _ m3
              have hstep := Ap.rowW_step (mv.getD a (0, 0, 0, 0)) (hd.getD a (0, 0, 0, 0)) acc a b acc.length hlb
              have hsp : ∀ z : Kit.Wd wr, Tp.Sl z.val (some ma) nR 4 (Ap.bxc mv) := fun z => SM.out.kept (hwr.trans (z.below.mono hwr.size)) (Nat.le_refl _)
              have p0 := fun z => (hsp z).head hla (by omega)
              have p1 := fun z => (hsp z).field hla (j := 1) (by omega) (by omega)
              have p2 := fun z => (hsp z).field hla (j := 2) (by omega) (by omega)
              have p3 := fun z => (hsp z).field hla (j := 3) (by omega) (by omega)
              simp only [Ap.bxc] at p0 p1 p2 p3
              clear hsp
              have hsq : ∀ z : Kit.Wd wr, Tp.Sl z.val (some ha') nR 4 (Ap.bxc hd) := fun z => SH.out.kept (hwr.trans (z.below.mono hwr.size)) (Nat.le_refl _)
              have q0 := fun z => (hsq z).head hla (by omega)
              have q1 := fun z => (hsq z).field hla (j := 1) (by omega) (by omega)
              have q2 := fun z => (hsq z).field hla (j := 2) (by omega) (by omega)
              have q3 := fun z => (hsq z).field hla (j := 3) (by omega) (by omega)
              simp only [Ap.bxc] at q0 q1 q2 q3
              clear hsq
              clear m1 m2 m3 hbz hwr hma' hha'
              generalize hx : acc.getD b (0, 0, 0, 0) = x at *
              unfold Ap.hitW at hstep
              have HST := Lib.hid hstep
              clear hstep
              generalize hgm : mv.getD a (0, 0, 0, 0) = pm at *
              generalize hgh : hd.getD a (0, 0, 0, 0) = ph at *
              have tg1 := fun W => rf_Meet pm.1 pm.2.1 pm.2.2.1 pm.2.2.2 x.1 x.2.1 x.2.2.1 x.2.2.2 W okm okx
              have tg2 := fun W => rf_Meet ph.1 ph.2.1 ph.2.2.1 ph.2.2.2 x.1 x.2.1 x.2.2.1 x.2.2.2 W okh okx
              have hmt1 : Ap.meet pm x = Sp.meets pm.1 pm.2.1 pm.2.2.1 pm.2.2.2 x.1 x.2.1 x.2.2.1 x.2.2.2 := rfl
              have hmt2 : Ap.meet ph x = Sp.meets ph.1 ph.2.1 ph.2.2.1 ph.2.2.2 x.1 x.2.1 x.2.2.1 x.2.2.2 := rfl
              rw [← hmt1] at tg1
              rw [← hmt2] at tg2
              have HGM := Lib.hid hgm
              have HGH := Lib.hid hgh
              clear hmt1 hmt2 okm okh okx hx hgm hgh
              generalize Ap.meet pm x = b1 at *
              generalize Ap.meet ph x = b2 at *
              have TG1 := Lib.hid tg1
              have TG2 := Lib.hid tg2
              clear tg1 tg2
              have MISS := Lib.hid (show (b1 || b2) = false → L = es ++ (Ap.rowW pm ph acc a (b + 1) (acc.length - (b + 1)) ++ T7) from fun hh => by rw [HL5.out, HST.out, if_neg (by simp [hh])])
              have HITS := Lib.hid (show (b1 || b2) = true → L = (es ++ [((5 : Int), (a : Int), (b : Int))]) ++ (Ap.rowW pm ph acc a (b + 1) (acc.length - (b + 1)) ++ T7) from fun hh => by rw [HL5.out, HST.out, if_pos hh]; simp)
              clear HST HL5
              cases b1
              · cases b2
                · have HM2 := Lib.hid (MISS.out rfl)
                  clear MISS HITS
                  go_wp2
                  (refine Kit.wp_region_cls (by kernel_rfl) (by kernel_rfl) ?_; (repeat (go_big_quiet_step (first | (with_reducible exact Kit.calls_cls _ (TG1.out _)) | (with_reducible exact Kit.calls_cls _ (TG2.out _))))); refine wpQuiet_nil ?_; intro z)
                  have HLZ := Lib.hid (HLR.out.then z.below)
                  have HOZ := Lib.hid (Kit.ownsRow_thn HO.out z.below)
                  have zz := z.below.size
                  generalize z.val = Z at *
                  clear p0 p1 p2 p3 q0 q1 q2 q3 r0 r1 r2 r3 TG1 TG2 z
                  go_wp2
                  go_roundw
                  case rel => exact ⟨b + 1, es, v', by go_num, rfl, by omega, HOZ, by omega, (by first | exact Lib.hid (by rw [HGM.out, HGH.out]; exact HM2.out) | exact HM2), HLZ⟩
                  case measure => simp [intOf]; omega
                · have HM2 := Lib.hid (HITS.out rfl)
                  clear MISS HITS
                  go_wp2
                  (refine Kit.wp_region_cls (by kernel_rfl) (by kernel_rfl) ?_; (repeat (go_big_quiet_step (first | (with_reducible exact Kit.calls_cls _ (TG1.out _)) | (with_reducible exact Kit.calls_cls _ (TG2.out _))))); refine wpQuiet_nil ?_; intro z)
                  have HLZ := Lib.hid (HLR.out.then z.below)
                  have HOZ := Lib.hid (Kit.ownsRow_thn HO.out z.below)
                  have zz := z.below.size
                  generalize z.val = Z at *
                  clear p0 p1 p2 p3 q0 q1 q2 q3 r0 r1 r2 r3 TG1 TG2 z
                  obtain ⟨i0, hi, hz0, hz1, hz2⟩ := info_parts Ap.infoC
                  have hcell : ∀ (W : World) (N : Nat), N = W.heap.size → ∀ j u, [Value.int .i64 5, .int .i64 a, .int .i64 b][j]? = some u → (W.alloc (.cells #[.int .i64 5, .int .i64 a, .int .i64 b] 73)).cell? ((⟨N, 0, none⟩ : Addr).add j) = some u := by
                    rintro W N rfl j u hu
                    rcases j with _ | _ | _ | j <;> simp at hu <;> subst hu <;> simp [Addr.add, go_sem]
                  have HCELL := Lib.hid hcell; clear hcell
                  go_wp2_with (first | (at_builtin; refine Kit.wpList_append_own' _ rfl _ _ 58 rfl W2.heap.size 73 i0 (.agg #[.int .i64 0, .int .i64 0, .int .i64 0]) 3 24 Ap.underC hi hz0 hz1 hz2 rfl (by decide) _ _ _ rfl (HOZ.out.alloc _) ⟨Z.heap.size, 0, none⟩ 1 1 [.int .i64 5, .int .i64 a, .int .i64 b] rfl rfl (HCELL.out _ _ (by simp)) (by simp [Value.oneCell']) (by unfold maxLen; omega) (by omega) (by simp; omega) ?_; intro v3 w2 hown' hgrow _ hwhere; have HOWN := Lib.hid hown'; have HGR := Lib.hid hgrow; have HWH := Lib.hid hwhere; clear hown' hgrow hwhere) | go_in)
                  exact ⟨⟨b + 1, es ++ [(5, (a : Int), (b : Int))], v3, by go_num, rfl, by omega, Lib.hid (by rw [Ap.flC_snoc, List.length_append]; exact HOWN.out), by simp; omega, (by first | exact Lib.hid (by rw [HGM.out, HGH.out]; exact HM2.out) | exact HM2), Lib.hid ((HLZ.out.alloc _).grown HGR.out HWH.out)⟩, by simp [intOf]; omega⟩
              · have HM2 := Lib.hid (HITS.out (by simp))
                clear MISS HITS
                go_wp2
                (refine Kit.wp_region_cls (by kernel_rfl) (by kernel_rfl) ?_; (repeat (go_big_quiet_step (first | (with_reducible exact Kit.calls_cls _ (TG1.out _)) | (with_reducible exact Kit.calls_cls _ (TG2.out _))))); refine wpQuiet_nil ?_; intro z)
                have HLZ := Lib.hid (HLR.out.then z.below)
                have HOZ := Lib.hid (Kit.ownsRow_thn HO.out z.below)
                have zz := z.below.size
                generalize z.val = Z at *
                clear p0 p1 p2 p3 q0 q1 q2 q3 r0 r1 r2 r3 TG1 TG2 z
                obtain ⟨i0, hi, hz0, hz1, hz2⟩ := info_parts Ap.infoC
                have hcell : ∀ (W : World) (N : Nat), N = W.heap.size → ∀ j u, [Value.int .i64 5, .int .i64 a, .int .i64 b][j]? = some u → (W.alloc (.cells #[.int .i64 5, .int .i64 a, .int .i64 b] 73)).cell? ((⟨N, 0, none⟩ : Addr).add j) = some u := by
                  rintro W N rfl j u hu
                  rcases j with _ | _ | _ | j <;> simp at hu <;> subst hu <;> simp [Addr.add, go_sem]
                have HCELL := Lib.hid hcell; clear hcell
                go_wp2_with (first | (at_builtin; refine Kit.wpList_append_own' _ rfl _ _ 58 rfl W2.heap.size 73 i0 (.agg #[.int .i64 0, .int .i64 0, .int .i64 0]) 3 24 Ap.underC hi hz0 hz1 hz2 rfl (by decide) _ _ _ rfl (HOZ.out.alloc _) ⟨Z.heap.size, 0, none⟩ 1 1 [.int .i64 5, .int .i64 a, .int .i64 b] rfl rfl (HCELL.out _ _ (by simp)) (by simp [Value.oneCell']) (by unfold maxLen; omega) (by omega) (by simp; omega) ?_; intro v3 w2 hown' hgrow _ hwhere; have HOWN := Lib.hid hown'; have HGR := Lib.hid hgrow; have HWH := Lib.hid hwhere; clear hown' hgrow hwhere) | go_in)
                exact ⟨⟨b + 1, es ++ [(5, (a : Int), (b : Int))], v3, by go_num, rfl, by omega, Lib.hid (by rw [Ap.flC_snoc, List.length_append]; exact HOWN.out), by simp; omega, (by first | exact Lib.hid (by rw [HGM.out, HGH.out]; exact HM2.out) | exact HM2), Lib.hid ((HLZ.out.alloc _).grown HGR.out HWH.out)⟩, by simp [intOf]; omega⟩
            · have hl5 : L = es ++ (Ap.allW mv hd acc (a + 1) (nR - (a + 1)) ++ T6) := by rw [HL5.out, show acc.length - b = 0 by omega, HT7.out]; rfl
              have HL6 := Lib.hid hl5
              clear hl5 HL5
              go_wp2
              go_roundw
              case rel => exact ⟨a + 1, es, v', by go_num, rfl, by omega, HO, by omega, HL6, HLR⟩
              case measure => simp [intOf]; omega
        · have HL5 := Lib.hid (show L = ds ++ Ap.allE (0, 841 * wd, 0, 841 * dp) mv hd 0 (nR - 0) by rw [HL4.out, HT6.out, show nR - a = 0 by omega]; rfl)
          have okf : Sp.okBox 0 (841 * wd) 0 (841 * dp) = true := by simp [Sp.okBox, Sp.inB]; omega
          have OKF := Lib.hid okf
          clear HL4 okf
          go_wp2
          go_loopw [19, 22] (fun v19 v22 wq => ∃ (a : Nat) (es : List Ap.C3) (v' : Value), v22 = .int .i64 a ∧ v' = v19 ∧ a ≤ nR ∧ Hid (wq.ownsRow W2.heap.size 73 3 v' es.length (Ap.flC es)) ∧ es.length ≤ 4 * 4096 + 64 * 8 + a ∧ Hid (L = es ++ Ap.allE (0, 841 * wd, 0, 841 * dp) mv hd a (nR - a)) ∧ Hid (Kit.LR W2 (.slice none 0 0) v' wq))
            (fun _ v22 _ => nR - (intOf v22).toNat)
          case atStart => exact ⟨0, ds, v', rfl, rfl, Nat.zero_le _, HO, by omega, HL5, HLR⟩
          case round =>
            clear HO HL5 HLR hdl hla ha
            obtain ⟨a, es, v', rfl, rfl, ha, HO, hel, HL5, HLR⟩ := hrel
            have zr := HLR.out.size
            have hbz := HLR.out.below (Nat.le_refl _) (fun _ h => by cases h)
            by_cases hla : a < nR
            · have hwr : Below w.heap.size w wr := HWS.out.trans (hbz.mono HWS.out.size)
              obtain ⟨ma, rfl, hma, _⟩ := SM.out.at hla
              obtain ⟨ha', rfl, hha, _⟩ := SH.out.at hla
              have hma' : a < mv.length := by have := LM.out; omega
              have hha' : a < hd.length := by have := LH.out; omega
              have m1 : mv.getD a (0, 0, 0, 0) ∈ mv := List.mem_of_mem_drop (show mv.getD a (0, 0, 0, 0) ∈ mv.drop a by rw [Tp.drop_cons mv _ a hma']; exact List.mem_cons_self ..)
              have m2 : hd.getD a (0, 0, 0, 0) ∈ hd := List.mem_of_mem_drop (show hd.getD a (0, 0, 0, 0) ∈ hd.drop a by rw [Tp.drop_cons hd _ a hha']; exact List.mem_cons_self ..)
              have okm := OM.out _ m1
              have okh := OH.out _ m2
              have hstep := Ap.allE_step (0, 841 * wd, 0, 841 * dp) mv hd a nR hla
              have hsp : ∀ z : Kit.Wd wr, Tp.Sl z.val (some ma) nR 4 (Ap.bxc mv) := fun z => SM.out.kept (hwr.trans (z.below.mono hwr.size)) (Nat.le_refl _)
              have p0 := fun z => (hsp z).head hla (by omega)
              have p1 := fun z => (hsp z).field hla (j := 1) (by omega) (by omega)
              have p2 := fun z => (hsp z).field hla (j := 2) (by omega) (by omega)
              have p3 := fun z => (hsp z).field hla (j := 3) (by omega) (by omega)
              simp only [Ap.bxc] at p0 p1 p2 p3
              clear hsp
              have hsq : ∀ z : Kit.Wd wr, Tp.Sl z.val (some ha') nR 4 (Ap.bxc hd) := fun z => SH.out.kept (hwr.trans (z.below.mono hwr.size)) (Nat.le_refl _)
              have q0 := fun z => (hsq z).head hla (by omega)
              have q1 := fun z => (hsq z).field hla (j := 1) (by omega) (by omega)
              have q2 := fun z => (hsq z).field hla (j := 2) (by omega) (by omega)
              have q3 := fun z => (hsq z).field hla (j := 3) (by omega) (by omega)
              simp only [Ap.bxc] at q0 q1 q2 q3
              clear hsq
              have zW2 := HWS.out.size
              have szw : w.heap.size < wr.heap.size := by omega
              have k0 : ∀ z : Kit.Wd wr, z.val.cell? ⟨w.heap.size, 0, none⟩ = some (.int .i64 wd) := fun z => z.cell ((hbz.cell (p := ⟨w.heap.size, 0, none⟩) (by have := HWS.out.size; have := B0.out.size; simp; omega)).trans Q0.out) szw
              have k1 : ∀ z : Kit.Wd wr, z.val.cell? ⟨w.heap.size, 1, none⟩ = some (.int .i64 dp) := fun z => z.cell ((hbz.cell (p := ⟨w.heap.size, 1, none⟩) (by have := HWS.out.size; have := B0.out.size; simp; omega)).trans Q1.out) szw
              have k2 : ∀ z : Kit.Wd wr, z.val.cell? ⟨w.heap.size, 2, none⟩ = some (.int .i64 ta) := fun z => z.cell ((hbz.cell (p := ⟨w.heap.size, 2, none⟩) (by have := HWS.out.size; have := B0.out.size; simp; omega)).trans Q2.out) szw
              have k3 : ∀ z : Kit.Wd wr, z.val.cell? ⟨w.heap.size, 3, none⟩ = some (.int .i64 tb) := fun z => z.cell ((hbz.cell (p := ⟨w.heap.size, 3, none⟩) (by have := HWS.out.size; have := B0.out.size; simp; omega)).trans Q3.out) szw
              have k4 : ∀ z : Kit.Wd wr, z.val.cell? ⟨w.heap.size, 4, none⟩ = some (.int .i64 tc) := fun z => z.cell ((hbz.cell (p := ⟨w.heap.size, 4, none⟩) (by have := HWS.out.size; have := B0.out.size; simp; omega)).trans Q4.out) szw
              have k5 : ∀ z : Kit.Wd wr, z.val.cell? ⟨w.heap.size, 5, none⟩ = some (.slice aR nR cR) := fun z => z.cell ((hbz.cell (p := ⟨w.heap.size, 5, none⟩) (by have := HWS.out.size; have := B0.out.size; simp; omega)).trans Q5.out) szw
              have k6 : ∀ z : Kit.Wd wr, z.val.cell? ⟨w.heap.size, 6, none⟩ = some (.int .i64 n) := fun z => z.cell ((hbz.cell (p := ⟨w.heap.size, 6, none⟩) (by have := HWS.out.size; have := B0.out.size; simp; omega)).trans Q6.out) szw
              have k7 : ∀ z : Kit.Wd wr, z.val.cell? ⟨w.heap.size, 7, none⟩ = some (.slice aT nT cT) := fun z => z.cell ((hbz.cell (p := ⟨w.heap.size, 7, none⟩) (by have := HWS.out.size; have := B0.out.size; simp; omega)).trans Q7.out) szw
              have k8 : ∀ z : Kit.Wd wr, z.val.cell? ⟨w.heap.size, 8, none⟩ = some (.slice aP nP cP) := fun z => z.cell ((hbz.cell (p := ⟨w.heap.size, 8, none⟩) (by have := HWS.out.size; have := B0.out.size; simp; omega)).trans Q8.out) szw
              have k9 : ∀ z : Kit.Wd wr, z.val.cell? ⟨w.heap.size, 9, none⟩ = some (.slice aS nS cS) := fun z => z.cell ((hbz.cell (p := ⟨w.heap.size, 9, none⟩) (by have := HWS.out.size; have := B0.out.size; simp; omega)).trans Q9.out) szw
              have k10 : ∀ z : Kit.Wd wr, z.val.cell? ⟨w.heap.size, 10, none⟩ = some (.slice aG nG cG) := fun z => z.cell ((hbz.cell (p := ⟨w.heap.size, 10, none⟩) (by have := HWS.out.size; have := B0.out.size; simp; omega)).trans Q10.out) szw
              clear m1 m2 hbz hwr hma' hha'
              unfold Ap.hitE at hstep
              generalize hgm : mv.getD a (0, 0, 0, 0) = pm at *
              generalize hgh : hd.getD a (0, 0, 0, 0) = ph at *
              obtain ⟨fw, hfw⟩ : ∃ fw, fw = 841 * wd := ⟨_, rfl⟩
              obtain ⟨fd, hfd⟩ : ∃ fd, fd = 841 * dp := ⟨_, rfl⟩
              have tg1 := fun W => rf_off pm.1 pm.2.1 pm.2.2.1 pm.2.2.2 0 fw 0 fd W okm (by rw [hfw, hfd]; exact OKF.out)
              have tg2 := fun W => rf_off ph.1 ph.2.1 ph.2.2.1 ph.2.2.2 0 fw 0 fd W okh (by rw [hfw, hfd]; exact OKF.out)
              have tf : ∀ W, Calls Tryd.prog 27 #[Ex.wv wd dp ta tb tc aR nR cR n aT nT cT aP nP cP aS nS cS aG nG cG] W fun e w' => e = .returned (Sp.boxV 0 fw 0 fd) ∧ Below W.heap.size W w' := fun W => by rw [hfw, hfd]; exact rn_floor wd dp ta tb tc aR nR cR n aT nT cT aP nP cP aS nS cS aG nG cG W d1 d2 d3 d4
              have hmt1 : Sp.inside pm.1 pm.2.1 pm.2.2.1 pm.2.2.2 0 fw 0 fd = Ap.ins pm (0, 841 * wd, 0, 841 * dp) := by rw [hfw, hfd]; rfl
              have hmt2 : Sp.inside ph.1 ph.2.1 ph.2.2.1 ph.2.2.2 0 fw 0 fd = Ap.ins ph (0, 841 * wd, 0, 841 * dp) := by rw [hfw, hfd]; rfl
              rw [hmt1] at tg1
              rw [hmt2] at tg2
              clear hmt1 hmt2 okm okh hgm hgh hfw hfd
              generalize (!Ap.ins pm (0, 841 * wd, 0, 841 * dp)) = b1 at *
              generalize (!Ap.ins ph (0, 841 * wd, 0, 841 * dp)) = b2 at *
              obtain ⟨m1, m2, m3, m4⟩ := pm
              obtain ⟨h1, h2, h3, h4⟩ := ph
              dsimp only at p0 p1 p2 p3 q0 q1 q2 q3 tg1 tg2
              have TG1 := Lib.hid tg1
              have TG2 := Lib.hid tg2
              have TF := Lib.hid tf
              clear tf
              have MISS := Lib.hid (show (b1 || b2) = false → L = es ++ Ap.allE (0, 841 * wd, 0, 841 * dp) mv hd (a + 1) (nR - (a + 1)) from fun hh => by rw [HL5.out, hstep, if_neg (by simp [hh])])
              have HITS := Lib.hid (show (b1 || b2) = true → L = (es ++ [((6 : Int), (a : Int), (0 : Int))]) ++ Ap.allE (0, 841 * wd, 0, 841 * dp) mv hd (a + 1) (nR - (a + 1)) from fun hh => by rw [HL5.out, hstep, if_pos hh]; simp)
              clear tg1 tg2 hstep HL5
              cases b1
              · cases b2
                · have HM2 := Lib.hid (MISS.out rfl)
                  clear MISS HITS
                  go_wp2
                  (refine Kit.wp_region_cls (by kernel_rfl) (by kernel_rfl) ?_; (repeat (go_big_quiet_step (first | (with_reducible exact Kit.calls_cls _ (TG1.out _)) | (with_reducible exact Kit.calls_cls _ (TG2.out _)) | (with_reducible exact Kit.calls_cls _ (TF.out _))))); refine wpQuiet_nil ?_; intro z)
                  have HLZ := Lib.hid (HLR.out.then z.below)
                  have HOZ := Lib.hid (Kit.ownsRow_thn HO.out z.below)
                  have zz := z.below.size
                  generalize z.val = Z at *
                  clear p0 p1 p2 p3 q0 q1 q2 q3 k0 k1 k2 k3 k4 k5 k6 k7 k8 k9 k10 TG1 TG2 TF z
                  go_wp2
                  go_roundw
                  case rel => exact ⟨a + 1, es, v', by go_num, rfl, by omega, HOZ, by omega, HM2, HLZ⟩
                  case measure => simp [intOf]; omega
                · have HM2 := Lib.hid (HITS.out rfl)
                  clear MISS HITS
                  go_wp2
                  (refine Kit.wp_region_cls (by kernel_rfl) (by kernel_rfl) ?_; (repeat (go_big_quiet_step (first | (with_reducible exact Kit.calls_cls _ (TG1.out _)) | (with_reducible exact Kit.calls_cls _ (TG2.out _)) | (with_reducible exact Kit.calls_cls _ (TF.out _))))); refine wpQuiet_nil ?_; intro z)
                  have HLZ := Lib.hid (HLR.out.then z.below)
                  have HOZ := Lib.hid (Kit.ownsRow_thn HO.out z.below)
                  have zz := z.below.size
                  generalize z.val = Z at *
                  clear p0 p1 p2 p3 q0 q1 q2 q3 k0 k1 k2 k3 k4 k5 k6 k7 k8 k9 k10 TG1 TG2 TF z
                  obtain ⟨i0, hi, hz0, hz1, hz2⟩ := info_parts Ap.infoC
                  have hcell : ∀ (W : World) (N : Nat), N = W.heap.size → ∀ j u, [Value.int .i64 6, .int .i64 a, .int .i64 0][j]? = some u → (W.alloc (.cells #[.int .i64 6, .int .i64 a, .int .i64 0] 73)).cell? ((⟨N, 0, none⟩ : Addr).add j) = some u := by
                    rintro W N rfl j u hu
                    rcases j with _ | _ | _ | j <;> simp at hu <;> subst hu <;> simp [Addr.add, go_sem]
                  have HCELL := Lib.hid hcell; clear hcell
                  go_wp2_with (first | (at_builtin; refine Kit.wpList_append_own' _ rfl _ _ 58 rfl W2.heap.size 73 i0 (.agg #[.int .i64 0, .int .i64 0, .int .i64 0]) 3 24 Ap.underC hi hz0 hz1 hz2 rfl (by decide) _ _ _ rfl (HOZ.out.alloc _) ⟨Z.heap.size, 0, none⟩ 1 1 [.int .i64 6, .int .i64 a, .int .i64 0] rfl rfl (HCELL.out _ _ (by simp)) (by simp [Value.oneCell']) (by unfold maxLen; omega) (by omega) (by simp; omega) ?_; intro v3 w2 hown' hgrow _ hwhere; have HOWN := Lib.hid hown'; have HGR := Lib.hid hgrow; have HWH := Lib.hid hwhere; clear hown' hgrow hwhere) | go_in)
                  exact ⟨⟨a + 1, es ++ [(6, (a : Int), 0)], v3, by go_num, rfl, by omega, Lib.hid (by rw [Ap.flC_snoc, List.length_append]; exact HOWN.out), by simp; omega, HM2, Lib.hid ((HLZ.out.alloc _).grown HGR.out HWH.out)⟩, by simp [intOf]; omega⟩
              · have HM2 := Lib.hid (HITS.out (by simp))
                clear MISS HITS
                go_wp2
                (refine Kit.wp_region_cls (by kernel_rfl) (by kernel_rfl) ?_; (repeat (go_big_quiet_step (first | (with_reducible exact Kit.calls_cls _ (TG1.out _)) | (with_reducible exact Kit.calls_cls _ (TG2.out _)) | (with_reducible exact Kit.calls_cls _ (TF.out _))))); refine wpQuiet_nil ?_; intro z)
                have HLZ := Lib.hid (HLR.out.then z.below)
                have HOZ := Lib.hid (Kit.ownsRow_thn HO.out z.below)
                have zz := z.below.size
                generalize z.val = Z at *
                clear p0 p1 p2 p3 q0 q1 q2 q3 k0 k1 k2 k3 k4 k5 k6 k7 k8 k9 k10 TG1 TG2 TF z
                obtain ⟨i0, hi, hz0, hz1, hz2⟩ := info_parts Ap.infoC
                have hcell : ∀ (W : World) (N : Nat), N = W.heap.size → ∀ j u, [Value.int .i64 6, .int .i64 a, .int .i64 0][j]? = some u → (W.alloc (.cells #[.int .i64 6, .int .i64 a, .int .i64 0] 73)).cell? ((⟨N, 0, none⟩ : Addr).add j) = some u := by
                  rintro W N rfl j u hu
                  rcases j with _ | _ | _ | j <;> simp at hu <;> subst hu <;> simp [Addr.add, go_sem]
                have HCELL := Lib.hid hcell; clear hcell
                go_wp2_with (first | (at_builtin; refine Kit.wpList_append_own' _ rfl _ _ 58 rfl W2.heap.size 73 i0 (.agg #[.int .i64 0, .int .i64 0, .int .i64 0]) 3 24 Ap.underC hi hz0 hz1 hz2 rfl (by decide) _ _ _ rfl (HOZ.out.alloc _) ⟨Z.heap.size, 0, none⟩ 1 1 [.int .i64 6, .int .i64 a, .int .i64 0] rfl rfl (HCELL.out _ _ (by simp)) (by simp [Value.oneCell']) (by unfold maxLen; omega) (by omega) (by simp; omega) ?_; intro v3 w2 hown' hgrow _ hwhere; have HOWN := Lib.hid hown'; have HGR := Lib.hid hgrow; have HWH := Lib.hid hwhere; clear hown' hgrow hwhere) | go_in)
                exact ⟨⟨a + 1, es ++ [(6, (a : Int), 0)], v3, by go_num, rfl, by omega, Lib.hid (by rw [Ap.flC_snoc, List.length_append]; exact HOWN.out), by simp; omega, HM2, Lib.hid ((HLZ.out.alloc _).grown HGR.out HWH.out)⟩, by simp [intOf]; omega⟩
            · have HL6 := Lib.hid (show L = es by rw [HL5.out, show nR - a = 0 by omega]; simp [Ap.allE])
              have HLW := Lib.hid hbz
              clear HL5 hbz
              go_wp2
              go_ret2
              exact Ap.CPost.ok HE2.out (by rw [HL6.out]; exact HO.out.mono HWS.out.size) (HWS.out.trans (HLW.out.mono HWS.out.size))

end Go.Proofs.YtjoieglhmladhaaDoor

namespace Go.Proofs.YtjoieglhmladhaaDoor
set_option linter.unusedVariables false
set_option linter.unusedSimpArgs false
open Go.RowKit Go.Shelf

theorem rn_clash (x : Ex.Wk) (p : Ex.Wa) (aW : Option Addr) (gs : List Ap.Wg) (cW : Nat) (bar : Int) (aM : Option Addr) (mv : List Ap.Bx) (cM : Nat) (aH : Option Addr) (hd : List Ap.Bx) (cH : Nat) (aQ : Option Addr) (P : List (Int × Int)) (cQ : Nat) (w : World)
    (ha : Ex.At w x p) (sW : Tp.Sl w aW gs.length 8 (Ap.wgc gs)) (sM : Tp.Sl w aM mv.length 4 (Ap.bxc mv)) (sH : Tp.Sl w aH hd.length 4 (Ap.bxc hd)) (sQ : Tp.Sl w aQ P.length 2 (Ap.prc P))
    (lW : gs.length ≤ 1099511627776) (lM : mv.length ≤ 1099511627776) (lH : hd.length ≤ 1099511627776) (lQ : P.length ≤ 1099511627776) :
    Calls Tryd.prog 22 #[Ex.workV x p, .agg #[.slice aW gs.length cW], .int .i64 bar, .slice aM mv.length cM, .slice aH hd.length cH, .slice aQ P.length cQ] w (Ap.CPost (Ap.cls x gs bar mv hd P) (Ap.clE x gs bar mv hd P) w) := by
  have hc : ∀ W, Below w.heap.size w W → Calls Tryd.prog 53 #[Ex.workV x p] W fun e w' => e = .returned (.int .i64 (Ex.chk x)) ∧ Below W.heap.size W w' := fun W hB => rq_check19 x p W (ha.kept hB (Nat.le_refl _))
  have err : ∀ (r : Int), r ≠ 0 → Ap.clE x gs bar mv hd P = r →
      (Calls Tryd.prog 22 #[Ex.workV x p, .agg #[.slice aW gs.length cW], .int .i64 bar, .slice aM mv.length cM, .slice aH hd.length cH, .slice aQ P.length cQ] w fun e w' => e = .returned (.tuple #[.slice none 0 0, .int .i64 r]) ∧ Below w.heap.size w w') →
      Calls Tryd.prog 22 #[Ex.workV x p, .agg #[.slice aW gs.length cW], .int .i64 bar, .slice aM mv.length cM, .slice aH hd.length cH, .slice aQ P.length cQ] w (Ap.CPost (Ap.cls x gs bar mv hd P) (Ap.clE x gs bar mv hd P) w) := by
    intro r hr he h
    refine h.mono ?_
    rintro e w' ⟨rfl, hb⟩
    exact Ap.CPost.err he hr hb
  by_cases h0 : Ex.chk x = 0
  · rw [h0] at hc
    obtain ⟨n1, n2⟩ := Ex.bars h0
    obtain ⟨r1, _, r3⟩ := Ex.roles h0
    by_cases hg : gs.length ≤ 8
    · by_cases hb : Tp.inb bar 0 (x.n - 1) = true
      · have hb1 : ∀ W, Below w.heap.size w W → Calls Tryd.prog 54 #[.slice aM mv.length cM, .int .i64 x.ro.length] W fun e w' => e = .returned (.bool (decide (mv.length = x.ro.length) && !(mv.any fun b => !Ap.okB b))) ∧ Below W.heap.size W w' :=
          fun W hB => rn_boxes aM mv cM x.ro.length W (by omega) (by omega) (sM.kept hB (Nat.le_refl _))
        have hb2 : ∀ W, Below w.heap.size w W → Calls Tryd.prog 54 #[.slice aH hd.length cH, .int .i64 x.ro.length] W fun e w' => e = .returned (.bool (decide (hd.length = x.ro.length) && !(hd.any fun b => !Ap.okB b))) ∧ Below W.heap.size W w' :=
          fun W hB => rn_boxes aH hd cH x.ro.length W (by omega) (by omega) (sH.kept hB (Nat.le_refl _))
        have hb3 : ∀ W, Below w.heap.size w W → Calls Tryd.prog 55 #[.slice aQ P.length cQ, .int .i64 x.ro.length] W fun e w' => e = .returned (.bool (!P.any (Ap.badP x.ro.length))) ∧ Below W.heap.size W w' :=
          fun W hB => rn_paired aQ P cQ x.ro.length W (by omega) (by omega) (sQ.kept hB (Nat.le_refl _))
        rcases hbb : ((decide (mv.length = x.ro.length) && !(mv.any fun b => !Ap.okB b)) && (decide (hd.length = x.ro.length) && !(hd.any fun b => !Ap.okB b)) && !P.any (Ap.badP x.ro.length)) with _ | _
        · refine err 290 (by decide) ?_ ?_
          · unfold Ap.clE
            rw [if_pos h0, if_pos hg, if_pos hb]
            by_cases c1 : mv.length = x.ro.length ∧ hd.length = x.ro.length
            · rw [if_pos c1]
              by_cases c2 : (mv.any fun b => !Ap.okB b) = false ∧ (hd.any fun b => !Ap.okB b) = false
              · rw [if_pos c2]
                by_cases c3 : P.any (Ap.badP x.ro.length) = false
                · rw [decide_eq_true c1.1, decide_eq_true c1.2, c2.1, c2.2, c3] at hbb
                  simp at hbb
                · rw [if_neg c3]
              · rw [if_neg c2]
            · rw [if_neg c1]
          · exact rn_clash_4 x.wd x.dp x.ta x.tb x.tc p.aR x.ro.length p.cR x.n p.aT x.ts.length p.cT p.aP x.ps.length p.cP p.aS x.ss.length p.cS p.aG x.sg.length p.cG aW gs cW bar aM mv cM aH hd cH aQ P cQ w
              hg n1 n2 hb r1 _ _ _ hb1 hb2 hb3 hbb hc
        · simp only [Bool.and_eq_true, decide_eq_true_eq, Bool.not_eq_true'] at hbb
          obtain ⟨⟨⟨a1, a2⟩, a3, a4⟩, a5⟩ := hbb
          have hE : Ap.clE x gs bar mv hd P = Ap.pthE bar gs := by
            unfold Ap.clE
            rw [if_pos h0, if_pos hg, if_pos hb, if_pos ⟨a1, a3⟩, if_pos ⟨a2, a4⟩, if_pos a5]
          have hwd : 1 ≤ x.wd ∧ x.wd ≤ 1000 ∧ 1 ≤ x.dp ∧ x.dp ≤ 1000 := by
            unfold Ex.chk at h0
            split at h0
            · omega
            split at h0
            · omega
            split at h0
            · rename_i h1 h2 h3
              simp only [Ex.okW, Ex.okH, Bool.and_eq_true] at h3
              have a1 := (Tp.inb_iff _ _ _).1 h3.1.1.1.1.1.1.1
              have a2 := (Tp.inb_iff _ _ _).1 h3.1.1.1.1.1.1.2
              omega
            · omega
          have oM : ∀ b ∈ mv, Ap.okB b = true := fun b hb => by
            have := List.any_eq_false.1 a2 b hb
            simpa using this
          have oH : ∀ b ∈ hd, Ap.okB b = true := fun b hb => by
            have := List.any_eq_false.1 a4 b hb
            simpa using this
          rw [a2, a1, decide_eq_true rfl] at hb1
          rw [a4, a3, decide_eq_true rfl] at hb2
          rw [a5] at hb3
          have sM' := sM
          have sH' := sH
          rw [a1] at sM'
          rw [a3] at sH'
          rw [a1, a3]
          exact rn_clash_5 x.wd x.dp x.ta x.tb x.tc p.aR x.ro.length p.cR x.n p.aT x.ts.length p.cT p.aP x.ps.length p.cP p.aS x.ss.length p.cS p.aG x.sg.length p.cG aW gs cW bar aM mv cM aH hd cH aQ P cQ w
            hg n1 n2 hb r1 lQ hwd.1 hwd.2.1 hwd.2.2.1 hwd.2.2.2 a1 a3 sM' sH' sW sQ oM oH hb1 hb2 hb3 hc _ hE _ rfl
      · refine err 1 (by decide) (by unfold Ap.clE; rw [if_pos h0, if_pos hg, if_neg hb]) ?_
        exact rn_clash_3 x.wd x.dp x.ta x.tb x.tc p.aR x.ro.length p.cR x.n p.aT x.ts.length p.cT p.aP x.ps.length p.cP p.aS x.ss.length p.cS p.aG x.sg.length p.cG aW gs cW bar aM mv cM aH hd cH aQ P cQ w
          hg n1 n2 (by simpa using hb) hc
    · refine err 2 (by decide) (by unfold Ap.clE; rw [if_pos h0, if_neg hg]) ?_
      exact rn_clash_2 x.wd x.dp x.ta x.tb x.tc p.aR x.ro.length p.cR x.n p.aT x.ts.length p.cT p.aP x.ps.length p.cP p.aS x.ss.length p.cS p.aG x.sg.length p.cG aW gs cW bar aM mv cM aH hd cH aQ P cQ w
        (by omega) (by omega) hc
  · refine err (Ex.chk x) h0 (by unfold Ap.clE; rw [if_neg h0]) ?_
    exact rn_clash_1 x.wd x.dp x.ta x.tb x.tc p.aR x.ro.length p.cR x.n p.aT x.ts.length p.cT p.aP x.ps.length p.cP p.aS x.ss.length p.cS p.aG x.sg.length p.cG aW gs cW bar aM mv cM aH hd cH aQ P cQ w
      _ (by simpa using h0) hc
end Go.Proofs.YtjoieglhmladhaaDoor
