/- Walks: package identity: similar, essences, Near. -/
import Derived.Test.YtdaedjmkolcliaaIdO
import Derived.Test.YtdaedjmkolcliaaIdH
namespace Go.Proofs.Ytdaedjmkolcliaa
set_option linter.unusedVariables false
set_option linter.unusedSimpArgs false
open Go.RowKit Go.Shelf

theorem Id.elJ : Kit.El Try.prog 67 25 (.slice none 0 0) 1 24 := ⟨Try.underlying67, by kernel_rfl, rfl, by omega, by omega⟩
set_option maxHeartbeats 1000000 in
theorem id_similar (a b : List Int) (aA : Option Addr) (cA : Nat) (aB : Option Addr) (cB : Nat) (lim : Int) (w : World) (sa : Tp.Sl w aA a.length 1 (Id.ic a)) (sb : Tp.Sl w aB b.length 1 (Id.ic b)) (la : a.length ≤ 64) (lb : b.length ≤ 64) (ha : Id.Cod a) (hb : Id.Cod b) (l0 : 0 ≤ lim) (l1 : lim ≤ 1000) :
    Calls Try.prog 38 #[.slice aA a.length cA, .slice aB b.length cB, .int .i64 lim] w fun e w' => e = .returned (.bool (Id.simi lim a b)) ∧ Below w.heap.size w w' := by
  have HP := Lib.hid (fun W => co_pair a b aA cA aB cB W)
  have SA := Lib.hid sa
  have SB := Lib.hid sb
  have h1 := Id.cst_nonneg a b
  have h2 := Id.cst_le a b
  have HA := Lib.hid ha
  have HB := Lib.hid hb
  have HR := Lib.hid (show Id.simi lim a b = decide (1000 * Id.cst a b ≤ 2 * lim * ((a.length : Int) + b.length)) from rfl)
  have hn : 0 ≤ 2 * lim * ((a.length : Int) + b.length) ∧ 2 * lim * ((a.length : Int) + b.length) ≤ 256000 := by
    have e1 : (2 * lim) * ((a.length : Int) + b.length) ≤ 2000 * 128 := Int.mul_le_mul (by omega) (by omega) (by omega) (by omega)
    exact ⟨Int.mul_nonneg (by omega) (by omega), by omega⟩
  clear sa sb ha hb
  generalize Id.simi lim a b = r at HR
  generalize Id.cst a b = q at HP h1 h2 HR
  go_enter Try.func38, Try.ntmps38
  go_wp2_with fail
  refine (HP.out _ SA.out SB.out la lb HA.out HB.out).mono ?_
  rintro _ w1 ⟨⟨p, rfl⟩, hb⟩
  have HB1 := Lib.hid hb; clear hb
  go_wp2
  go_ret
  exact ⟨by rw [HR.out]; rfl, HB1.out⟩
namespace Id
def limE (lim : Int) : Int := if lim < 0 ∨ 1000 < lim then 450 else 0
/-- What essences says besides. -/
def eE (lim : Int) : List (List Sg) → Int
  | [] => limE lim
  | x :: L => if essE x = 0 then eE lim L else essE x
def EsP (lim : Int) (L : List (List Sg)) (W : World) (e : Ending) (w' : World) : Prop := Below W.heap.size W w' ∧ if eE lim L = 0 then ∃ a c, e = .returned (.tuple #[.slice a L.length c, .int .i64 0]) ∧ Sls w' a 1 ic (L.map ess) else e = .returned (.tuple #[.slice none 0 0, .int .i64 (eE lim L)])
end Id
set_option maxRecDepth 100000 in
set_option maxHeartbeats 2000000 in
theorem id_essences (lim : Int) (a : Option Addr) (L : List (List Id.Sg)) (c : Nat) (w : World) (hS : Id.Sls w a 14 Id.sgc L) (hl : L.length ≤ 1000000) (hl2 : ∀ x ∈ L, x.length ≤ 4611686018427387904) :
    Calls Try.prog 37 #[.int .i64 lim, .slice a L.length c] w (Id.EsP lim L w) := by
  have HS := Lib.hid hS
  have HL2 := Lib.hid hl2
  clear hS hl2
  go_enter Try.func37, Try.ntmps37
  go_wp2_with fail
  go_loopw [4, 12] (fun v4 v12 wr => ∃ (k : Nat) (vs : List Value), v12 = .int .i64 k ∧ k ≤ L.length ∧ Hid (Kit.Gw w 25 1 v4 k vs wr) ∧ Hid (Id.Rows w.heap.size wr 3 vs (((L.take k).map Id.ess).map Id.ints)) ∧ Hid (Id.eE lim L = Id.eE lim (L.drop k)))
    (fun _ v12 _ => L.length - (intOf v12).toNat)
  case atStart => exact ⟨0, [], rfl, Nat.zero_le _, Kit.Gw.start _ _ _, Id.Rows.nil _ _ _, rfl⟩
  case round =>
    obtain ⟨k, vs, rfl, hk, HO, HR, HE⟩ := hrel
    by_cases hlt : k < L.length
    · obtain ⟨ad, rfl, had, ai, ci, e0, hsl⟩ := (HS.out.kept HO.out.bel (Nat.le_refl _)).at hlt
      have hE := HE.out
      rw [Tp.drop_cons L [] k hlt] at hE
      have HT := Lib.hid (Id.take_snoc L k hlt (L.getD k []) rfl)
      have hm : L.getD k [] ∈ L := by rw [List.getD_eq_getElem?_getD, List.getElem?_eq_getElem hlt]; exact List.getElem_mem hlt
      have hx2 := HL2.out _ hm
      generalize L.getD k [] = x at hE HT e0 hsl hx2
      have HSL := Lib.hid hsl
      have HE2 := Lib.hid (show Id.eE lim L = if Id.essE x = 0 then Id.eE lim (L.drop (k + 1)) else Id.essE x from hE)
      clear hE HE hsl hm
      go_wp2_with fail
      refine (id_essence ai x ci _ HSL.out hx2).mono ?_
      rintro e w2 ⟨hb, he⟩
      have HB2 := Lib.hid hb
      clear hb
      by_cases h0 : Id.essE x = 0
      · rw [if_pos h0] at he HE2
        obtain ⟨aV, cV, rfl, ho⟩ := he
        have HN := Lib.hid ho
        have HO2 := Lib.hid (HO.out.thn HB2.out)
        have HR2 := Lib.hid (HR.out.thn HB2.out)
        have hsz := HO.out.size
        have HH := Lib.hid h0
        clear ho h0 e0
        go_wp2_with (at_builtin; refine Kit.wpList_app Id.elJ _ rfl _ _ rfl _ _ _ (HO2.out.alloc _) rfl (by omega) ⟨w2.heap.size, 0, none⟩ 1 [.slice aV (Id.ess x).length cV] rfl rfl (fun j u hu => Kit.lit_at _ _ _ rfl j u hu) (by simp [Value.oneCell']) ?_; intro v' w5 ho hg; have HO3 := Lib.hid ho; have HG3 := Lib.hid hg; clear ho hg)
        go_roundw
        case rel =>
          have h1 := (HR2.out.thn ((Below.refl _ _).alloc (Nat.le_refl _) _)).grown (HO2.out.alloc _).own (by decide) HG3.out
          have h2 := ((HN.out.alloc _).kept HG3.out (Id.own_ne (HN.out.alloc _) (HO2.out.alloc (.cells #[.slice aV (Id.ess x).length cV] 25)).own (by decide))).mono hsz
          have h3 := h1.snoc (m := Id.ints (Id.ess x)) (by rw [Id.ints_len]; exact h2)
          rw [Id.ints_len] at h3
          exact ⟨k + 1, _, by go_num, by omega, HO3.out, by rw [HT.out]; exact Lib.hid (by simpa using h3), HE2.out⟩
        case measure => simp [intOf]; omega
      · rw [if_neg h0] at he HE2
        subst he
        have q1 : (Id.essE x != 0) = true := by simpa using h0
        have HH := Lib.hid h0
        clear h0
        generalize Id.essE x = q at q1 HE2 HH
        go_wp2
        go_ret2
        refine ⟨HO.out.bel.trans (HB2.out.mono HO.out.size), ?_⟩
        rw [HE2.out, if_neg HH.out]
        rfl
    · obtain rfl : k = L.length := by omega
      have HE2 := Lib.hid (show Id.eE lim L = Id.limE lim by rw [HE.out, List.drop_length]; rfl)
      clear HE
      rw [List.take_length] at HR
      obtain ⟨aV, cV, rfl⟩ := HO.out.shape
      by_cases h0 : lim < 0
      · have HH := Lib.hid (show Id.limE lim = 450 by unfold Id.limE; rw [if_pos (.inl h0)])
        go_wp2
        go_ret2
        refine ⟨HO.out.bel, ?_⟩
        rw [HE2.out, HH.out, if_neg (by decide)]
        rfl
      by_cases h1 : 1000 < lim
      · have HH := Lib.hid (show Id.limE lim = 450 by unfold Id.limE; rw [if_pos (.inr h1)])
        go_wp2
        go_ret2
        refine ⟨HO.out.bel, ?_⟩
        rw [HE2.out, HH.out, if_neg (by decide)]
        rfl
      · have HH := Lib.hid (show Id.limE lim = 0 by unfold Id.limE; rw [if_neg (by omega)])
        go_wp2
        go_ret2
        refine ⟨HO.out.bel, ?_⟩
        rw [HE2.out, HH.out, if_pos rfl]
        exact ⟨aV, cV, rfl, Id.rows_sls HO.out.own HR.out (by simp) (fun l => Id.ints_len l) (fun l => Id.ints_ic l)⟩
namespace Id
theorem ess_le {l : List Sg} (h : essE l = 0) : chk l = 0 ∧ (ess l).length ≤ 64 := by
  unfold essE at h
  split at h
  · rename_i h1
    split at h
    · cases h
    · exact ⟨h1, by rw [ess_len]; omega⟩
  · rename_i h1; exact absurd h h1
theorem eE_all : ∀ {lim : Int} {L : List (List Sg)}, eE lim L = 0 → (∀ x ∈ L, essE x = 0) ∧ 0 ≤ lim ∧ lim ≤ 1000
  | lim, [], h => by
    simp only [eE, limE] at h
    split at h
    · cases h
    · exact ⟨by simp, by omega, by omega⟩
  | lim, x :: L, h => by
    unfold eE at h
    split at h
    · rename_i h1
      obtain ⟨h2, h3⟩ := eE_all h
      exact ⟨fun y hy => by rcases List.mem_cons.1 hy with rfl | hy; exact h1; exact h2 y hy, h3⟩
    · rename_i h1; exact absurd h h1
theorem add_1 (ad : Addr) : ad.add 1 = ⟨ad.block, ad.off + 1, none⟩ := by unfold Addr.add; simp
/-- The literal of two slices, as a slice of slices. -/
theorem two_sls {W : World} {B : Nat} {t : TypeId} {q : Nat × Nat} {a b : List Sg} {aA : Option Addr} {cA : Nat} {aB : Option Addr} {cB : Nat} (h : W.heap[B]? = some (.cells #[.slice aA a.length cA, .slice aB b.length cB] t q)) (sa : Tp.Sl W aA a.length 14 (sgc a)) (sb : Tp.Sl W aB b.length 14 (sgc b)) : Sls W (some ⟨B, 0, none⟩) 14 sgc [a, b] := by
  have e : ∀ m : Nat, (⟨B, 0, none⟩ : Addr).add m = ⟨B, m, none⟩ := fun m => by simp [Addr.add]; exact fun h => h.symm
  refine .inr ⟨_, rfl, (Array.getElem?_eq_some_iff.1 h).1, fun i hi => ?_⟩
  obtain rfl | rfl : i = 0 ∨ i = 1 := by simp at hi; omega
  · exact ⟨aA, cA, by rw [e]; simp [World.cell?, h], sa⟩
  · exact ⟨aB, cB, by rw [e]; simp [World.cell?, h], sb⟩
/-- Are two editions near each other? -/
def nearB (a b : List Sg) (lim : Int) : Bool := decide (eE lim [a, b] = 0) && simi lim (ess a) (ess b)
end Id
set_option maxRecDepth 100000 in
set_option maxHeartbeats 2000000 in
theorem id_near (a b : List Id.Sg) (aA : Option Addr) (cA : Nat) (aB : Option Addr) (cB : Nat) (lim : Int) (w : World) (sa : Tp.Sl w aA a.length 14 (Id.sgc a)) (sb : Tp.Sl w aB b.length 14 (Id.sgc b)) (la : a.length ≤ 4611686018427387904) (lb : b.length ≤ 4611686018427387904) :
    Calls Try.prog 14 #[.slice aA a.length cA, .slice aB b.length cB, .int .i64 lim] w fun e w' => e = .returned (.tuple #[.bool (Id.nearB a b lim), .int .i64 (Id.eE lim [a, b])]) ∧ Below w.heap.size w w' := by
  have SA := Lib.hid sa
  have SB := Lib.hid sb
  have HN := Lib.hid (show Id.nearB a b lim = (decide (Id.eE lim [a, b] = 0) && Id.simi lim (Id.ess a) (Id.ess b)) from rfl)
  clear sa sb
  go_enter Try.func14, Try.ntmps14
  go_wp2_with fail
  have hbl : ∀ o, Below w.heap.size w (w.alloc o) := fun o => (Below.refl _ _).alloc (Nat.le_refl _) o
  refine (id_essences lim _ [a, b] 2 _ (Id.two_sls (World.alloc_heap_new _ _) (SA.out.kept (hbl _) (Nat.le_refl _)) (SB.out.kept (hbl _) (Nat.le_refl _))) (by simp) (by intro x hx; simp at hx; rcases hx with rfl | rfl <;> assumption)).mono ?_
  rintro e w2 ⟨hb, he⟩
  have HB2 := Lib.hid (show Below w.heap.size w w2 from (hbl _).trans (hb.mono (by simp)))
  clear hb hbl
  by_cases h0 : Id.eE lim [a, b] = 0
  · rw [if_pos h0] at he
    obtain ⟨aV, cV, he, hs⟩ := he
    replace he : e = .returned (.tuple #[.slice aV 2 cV, .int .i64 0]) := he
    subst he
    obtain ⟨ad, rfl, had, a0, c0, e0, s0⟩ := hs.at (i := 0) (by simp)
    obtain ⟨ad', hq, _, a1, c1, e1, s1⟩ := hs.at (i := 1) (by simp)
    obtain rfl : ad = ad' := by simpa using hq
    obtain ⟨h1, h2, h3⟩ := Id.eE_all h0
    have g1 := Id.ess_le (h1 a (by simp))
    have g2 := Id.ess_le (h1 b (by simp))
    have HM := Lib.hid (fun W s0 s1 => id_similar (Id.ess a) (Id.ess b) a0 c0 a1 c1 lim W s0 s1 g1.2 g2.2 (Id.ess_cod g1.1) (Id.ess_cod g2.1) h2 h3)
    have k0 : ∀ z : Kit.Wd w2, z.val.cell? ad = some (.slice a0 (Id.ess a).length c0) := fun z => z.cell (by simpa [go_sem] using e0) had
    have k1 : ∀ z : Kit.Wd w2, z.val.cell? ⟨ad.block, ad.off + 1, none⟩ = some (.slice a1 (Id.ess b).length c1) := fun z => z.cell (by rw [← Id.add_1]; exact e1) had
    have K0 := Lib.hid (fun z : Kit.Wd w2 => (show Tp.Sl w2 a0 (Id.ess a).length 1 (Id.ic (Id.ess a)) from s0).kept z.below (Nat.le_refl _))
    have K1 := Lib.hid (fun z : Kit.Wd w2 => (show Tp.Sl w2 a1 (Id.ess b).length 1 (Id.ic (Id.ess b)) from s1).kept z.below (Nat.le_refl _))
    have HE := Lib.hid h0
    have HN2 := Lib.hid (show Id.nearB a b lim = Id.simi lim (Id.ess a) (Id.ess b) by rw [HN.out, h0]; simp)
    clear hs hq e0 e1 s0 s1 h1 g1 g2 h0 HN
    generalize Id.simi lim (Id.ess a) (Id.ess b) = r2 at HM HN2
    go_wp2_with fail
    (refine Kit.wp_region_cls (by kernel_rfl) (by kernel_rfl) ?_; (repeat (go_big_quiet_step (exact Kit.calls_cls _ (HM.out _ (K0.out _) (K1.out _))))); refine wpQuiet_nil ?_; intro z)
    go_wp2
    go_ret2
    exact ⟨by rw [HE.out, HN2.out]; rfl, HB2.out.trans (z.below.mono HB2.out.size)⟩
  · rw [if_neg h0] at he
    subst he
    have HN2 := Lib.hid (show Id.nearB a b lim = false by rw [HN.out]; simp [h0])
    have q1 : (Id.eE lim [a, b] == 0) = false := by simpa using h0
    clear h0 HN
    obtain ⟨q, hq⟩ : ∃ q, Id.eE lim [a, b] = q := ⟨_, rfl⟩
    rw [hq] at q1
    rw [hq]
    have HQ := Lib.hid hq
    clear hq
    go_wp2_with fail
    (refine Kit.wp_region_cls (by kernel_rfl) (by kernel_rfl) ?_; (repeat (go_big_quiet_step (fail))); refine wpQuiet_nil ?_; intro z)
    go_wp2
    go_ret2
    exact ⟨by rw [HQ.out, HN2.out]; rfl, HB2.out.trans (z.below.mono HB2.out.size)⟩
end Go.Proofs.Ytdaedjmkolcliaa
