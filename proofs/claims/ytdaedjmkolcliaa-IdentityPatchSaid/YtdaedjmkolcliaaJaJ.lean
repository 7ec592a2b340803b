/- Walks: the law IdentityMore. -/
import Derived.Test.YtdaedjmkolcliaaJaI
import Derived.Laws.OwnMore
namespace Go.Proofs.Ytdaedjmkolcliaa
set_option linter.unusedVariables false
set_option linter.unusedSimpArgs false
open Go.RowKit Go.Shelf

namespace Kit
section
variable {P : Program} {w : World}
theorem run_app_none (base : Nat) (t ty e : TypeId) (i : TypeInfo) (size : Nat) (ht : P.underlying t = some (.slice e)) (hi : P.info? e = some i)
    (v : Value) (n : Nat) (xs : List Value) (hown : w.ownsRow base e size v n xs) (c : Nat) :
    (Builtin.append_ #[t, t] ty #[v, .slice none 0 c]).run P w = .ok v w := by
  rcases hown.2 with ⟨rfl, rfl⟩ | ⟨g, cap, cur, rfl, _, _, hnc, _⟩
  · simp [Builtin.append_, run_underlying ht, sizeOf, typeInfo, hi, Builtin.lenOf, Builtin.firstCells]
  · simp [Builtin.append_, run_underlying ht, sizeOf, typeInfo, hi, Builtin.lenOf, Builtin.firstCells, hnc, storeCells]
end
/-- The append of a slice, none of whose cells the call owns, to a slice of one's own. -/
theorem wpList_apps {P : Program} {t e : TypeId} {z : Value} {size bytes : Nat} (E : El P t e z size bytes) {W0 : World} (w : World) {ops : Array Oper} {rest : List Oper} {o : Oper} {a : Act} {Q : Exit → Act → World → Prop} (hgd : o.guard = none) (s x : Operand)
    (ho : o.op = .call { callee := .builtin .append, args := #[s, x], argTypes := #[t, t] }) (v : Value) (n : Nat) (xs : List Value) (h : Gw W0 e size v n xs w) (hs : a.eval s = v) (hn : n ≤ 1000000000)
    (a0 : Option Addr) (m c : Nat) (news : List Value) (hm : m ≤ 1000000000) (hx : a.eval x = .slice a0 m c) (hl : news.length = m * size) (h0 : m ≠ 0 → ∃ ad, a0 = some ad ∧ ∀ j u, news[j]? = some u → w.cell? (ad.add j) = some u) (h1 : ∀ u ∈ news, u.oneCell' = true)
    (cont : ∀ v' w', Gw W0 e size v' (n + m) (xs ++ news) w' → wpList P ops Q rest (a.put o.dst v') w') : wpList P ops Q (o :: rest) a w := by
  obtain ⟨i, hi, hz, hsz, hby⟩ := info_parts E.info
  rcases a0 with _ | ad
  · obtain rfl : m = 0 := Classical.byContradiction fun h => by obtain ⟨ad, h, _⟩ := h0 h; cases h
    obtain rfl : news = [] := List.eq_nil_of_length_eq_zero (by simpa using hl)
    refine wpList_plain hgd fun K hK => ?_
    have hrun := run_app_none (P := P) (w := w) W0.heap.size t o.type e i size E.under hi v n xs h.own c
    unfold Oper.wp
    simp [execOp, ho, resolve, invoke, builtin, hs, hx, hrun, Result.andThen]
    exact hK _ _ (cont v w (by simpa using h))
  · have hb : (n + m) * bytes ≤ 140737488355328 := Nat.le_trans (Nat.mul_le_mul (show n + m ≤ 2000000000 by omega) E.small) (by omega)
    refine wpList_append_own w hgd s x t ho W0.heap.size e i z size bytes E.under hi hz hsz hby E.cells E.pos v n xs hs h.own ad m c news hx hl (fun j u hu => ?_) h1 (by unfold maxLen; omega) hb h.size
      fun v' w' ho hg _ => cont v' w' (h.app ho hg)
    obtain ⟨ad', e, h2⟩ := h0 (fun hm0 => by
      subst hm0
      rw [List.eq_nil_of_length_eq_zero (show news.length = 0 by simpa using hl)] at hu
      cases hu)
    cases e
    exact h2 j u hu
end Kit
namespace Id
/-- The headers of a slice of slices. -/
theorem Sls.heads {α : Type} {w : World} {a : Option Addr} {k : Nat} {f : List α → Nat → Nat → Value} {L : List (List α)} (h : Sls w a k f L) :
    ∃ vs : List Value, vs.length = L.length ∧ (∀ u ∈ vs, u.oneCell' = true) ∧ (L.length ≠ 0 → ∃ ad, a = some ad ∧ ad.block < w.heap.size ∧ ∀ j u, vs[j]? = some u → w.cell? (ad.add j) = some u) ∧
      ∀ i, i < L.length → ∃ ai ci, vs[i]? = some (.slice ai (L.getD i []).length ci) ∧ Tp.Sl w ai (L.getD i []).length k (f (L.getD i [])) := by
  rcases h with h | ⟨ad, h1, h2, h3⟩
  · exact ⟨[], by rw [h]; rfl, fun u hu => (by cases hu), fun hn => absurd h hn, fun i hi => (by omega)⟩
  · have hg : ∀ j, j < L.length → ((List.range L.length).map fun i => (w.cell? (ad.add i)).getD undef)[j]? = w.cell? (ad.add j) := fun j hj => by
      obtain ⟨ai, ci, h4, _⟩ := h3 j hj
      simp [hj, h4]
    refine ⟨(List.range L.length).map fun i => (w.cell? (ad.add i)).getD undef, by simp, fun u hu => ?_, fun _ => ⟨ad, h1, h2, fun j u hu => ?_⟩, fun i hi => ?_⟩
    · obtain ⟨j, hj, rfl⟩ := List.mem_map.1 hu
      obtain ⟨ai, ci, h4, _⟩ := h3 j (List.mem_range.1 hj)
      rw [h4]; rfl
    · have hj : j < L.length := by
        have := (List.getElem?_eq_some_iff.1 hu).1
        simpa using this
      rw [← hg j hj]; exact hu
    · obtain ⟨ai, ci, h4, h5⟩ := h3 i hi
      exact ⟨ai, ci, by rw [hg i hi, h4], h5⟩
/-- Headers of one's own, as a slice of slices. -/
theorem own_sls {α : Type} {w : World} {s e' n c m k : Nat} {a : Option Addr} {vs : List Value} {f : List α → Nat → Nat → Value} {L : List (List α)} (ho : w.ownsRow s e' 1 (.slice a m c) n vs) (hn : n = L.length)
    (hv : ∀ i, i < L.length → ∃ ai ci, vs[i]? = some (.slice ai (L.getD i []).length ci) ∧ Tp.Sl w ai (L.getD i []).length k (f (L.getD i []))) : Sls w a k f L := by
  subst hn
  rcases Nat.eq_zero_or_pos L.length with h0 | h0
  · exact .inl h0
  have h1 := (own_sl ho (f := fun i j => vs.getD (i * 1 + j) undef) (fun i j hi hj => by
    obtain ⟨ai, ci, h4, _⟩ := hv i hi
    obtain rfl : j = 0 := by omega
    simp only [Nat.mul_one, Nat.add_zero, List.getD, h4, Option.getD_some])).1
  rcases h1 with h1 | ⟨ad, h1, h2, h3⟩
  · omega
  · refine .inr ⟨ad, h1, h2, fun i hi => ?_⟩
    obtain ⟨ai, ci, h4, h5⟩ := hv i hi
    refine ⟨ai, ci, ?_, h5⟩
    have h6 := h3 i 0 hi (by omega)
    simpa only [Nat.mul_one, Nat.add_zero, List.getD, h4, Option.getD_some] using h6
/-- The headers, and one more. -/
theorem snoc_sls {α : Type} {x2 w4 : World} {e' c m k : Nat} {a2 am : Option Addr} {cm : Nat} {vs : List Value} {f : List α → Nat → Nat → Value} {L : List (List α)} {M : List α} (hv1 : vs.length = L.length)
    (hv : ∀ i, i < L.length → ∃ ai ci, vs[i]? = some (.slice ai (L.getD i []).length ci) ∧ Tp.Sl x2 ai (L.getD i []).length k (f (L.getD i []))) (hm : Tp.Sl x2 am M.length k (f M)) (ho : Kit.Gw x2 e' 1 (.slice a2 m c) (L.length + 1) (vs ++ [.slice am M.length cm]) w4) : Sls w4 a2 k f (L ++ [M]) := by
  refine own_sls ho.own (by simp) fun i hi => ?_
  by_cases hlt : i < L.length
  · obtain ⟨ai, ci, h1, h2⟩ := hv i hlt
    have e : (L ++ [M]).getD i [] = L.getD i [] := by simp [List.getD, List.getElem?_append_left hlt]
    rw [e]
    exact ⟨ai, ci, by rw [List.getElem?_append_left (by rw [hv1]; exact hlt)]; exact h1, h2.kept ho.bel (Nat.le_refl _)⟩
  · obtain rfl : i = L.length := by simp at hi; omega
    have e : (L ++ [M]).getD L.length [] = M := by simp [List.getD]
    rw [e]
    exact ⟨am, cm, by simp [← hv1], hm.kept ho.bel (Nat.le_refl _)⟩
theorem elE : Kit.El Try.prog 33 22 (.slice none 0 0) 1 24 := ⟨Try.underlying33, by kernel_rfl, rfl, by omega, by omega⟩
theorem simi_mono {lim lim' : Int} (h : lim ≤ lim') {a b : List Int} (hs : simi lim a b = true) : simi lim' a b = true := by
  unfold simi at *
  simp only [decide_eq_true_eq] at *
  have h1 : 2 * lim * ((a.length : Int) + b.length) ≤ 2 * lim' * ((a.length : Int) + b.length) := Int.mul_le_mul_of_nonneg_right (by omega) (by omega)
  omega
theorem more_d (lim : Int) (L : List (List Sg)) (x : List Sg) {i k : Nat} (hi : i < L.length) (hk : k < L.length) (h : wrk L.length (gr lim L) i = wrk L.length (gr lim L) k) :
    wrk (L.length + 1) (gr lim (L ++ [x])) i = wrk (L.length + 1) (gr lim (L ++ [x])) k := by
  refine wrk_mono (gr_comm lim L) (gr_comm lim _) (Nat.le_succ _) (fun i j hi hj hg => ?_) hi hk h
  have e : ∀ i, i < L.length → (L ++ [x]).getD i [] = L.getD i [] := fun i hi => by simp [List.getD, List.getElem?_append_left hi]
  unfold gr at *
  rw [e i hi, e j hj]; exact hg
theorem more_g {lim lim' : Int} (hl : lim ≤ lim') (L : List (List Sg)) {i k : Nat} (hi : i < L.length) (hk : k < L.length) (h : wrk L.length (gr lim L) i = wrk L.length (gr lim L) k) :
    wrk L.length (gr lim' L) i = wrk L.length (gr lim' L) k :=
  wrk_mono (gr_comm lim L) (gr_comm lim' _) (Nat.le_refl _) (fun _ _ _ _ hg => simi_mono hl hg) hi hk h
/-- What Works says, cell by cell. -/
theorem wk_cells {n : Nat} {g : Nat → Nat → Bool} {W : World} {a : Option Addr} (h : Tp.Sl W a n 1 (nc (wrks n g))) (k : Nat) (hk : k < n) :
    ∃ ad, a = some ad ∧ ∀ W', Below W.heap.size W W' → W'.cell? (ad.add k) = some (.int .i64 ((wrk n g k : Nat) : Int)) := by
  obtain ⟨ad, rfl, _, _⟩ := h.at hk
  refine ⟨ad, rfl, fun W' hb => ?_⟩
  have h1 := (h.kept hb (Nat.le_refl _)).head hk (by omega)
  rw [Nat.mul_one] at h1
  rw [h1]
  simp [nc, wrks, List.getD, hk]
theorem id_worksO (lim : Int) (a : Option Addr) (L : List (List Id.Sg)) (n c : Nat) (hn : L.length = n) (w : World) (hS : Id.Sls w a 14 Id.sgc L) (hl : n ≤ 1000000) (hl2 : ∀ x ∈ L, x.length ≤ 4611686018427387904) :
    Calls Try.prog 22 #[.slice a n c, .int .i64 lim] w fun e w' => Below w.heap.size w w' ∧ ∃ a' m' c', e = .returned (.tuple #[.slice a' m' c', .int .i64 (tE lim L)]) ∧
      (tE lim L = 0 → n = m' ∧ ∀ k, k < n → ∃ ad, a' = some ad ∧ ∀ W', Below w'.heap.size w' W' → W'.cell? (ad.add k) = some (.int .i64 ((wrk n (gr lim L) k : Nat) : Int))) := by
  subst hn
  refine (id_works lim a L c w hS hl hl2).mono ?_
  rintro e w' ⟨hb, he⟩
  refine ⟨hb, ?_⟩
  by_cases h0 : tE lim L = 0
  · rw [if_pos h0] at he
    obtain ⟨aC, cC, rfl, hs⟩ := he
    exact ⟨aC, _, cC, by rw [h0], fun _ => ⟨rfl, fun k hk => wk_cells hs k hk⟩⟩
  · rw [if_neg h0] at he
    exact ⟨_, _, _, he, fun h => absurd h h0⟩
end Id

set_option maxRecDepth 100000 in
set_option maxHeartbeats 16000000 in
theorem ja_more (lim lim2 : Int) (a : Option Addr) (L : List (List Id.Sg)) (c : Nat) (am : Option Addr) (M : List Id.Sg) (cm : Nat) (w : World) (hS : Id.Sls w a 14 Id.sgc L) (hl : L.length ≤ 4611686018427387904) (hl2 : ∀ x ∈ L, x.length ≤ 4611686018427387904)
    (hM : Tp.Sl w am M.length 14 (Id.sgc M)) (hlM : M.length ≤ 4611686018427387904) :
    Calls Try.prog 7 #[.slice a L.length c, .slice am M.length cm, .int .i64 lim, .int .i64 lim2] w fun e w' => e = .returned (.bool true) ∧ Below w.heap.size w w' := by
  have HS := Lib.hid hS
  have HM := Lib.hid hM
  have HL2 := Lib.hid hl2
  clear hS hl2 hM
  have HSN := Lib.hid (fun W => ja_sane W)
  go_enter Try.func7, Try.ntmps7
  go_wp2_with fail
  refine (HSN.out _).mono ?_
  rintro _ x1 ⟨rfl, hb⟩
  have HB1 := Lib.hid hb
  clear hb
  by_cases h7 : 7 < L.length
  · have k1 : decide ((7 : Int) < (L.length : Int)) = true := by simp; omega
    have k2 : decide (7 < L.length) = true := by simp; omega
    go_wp2
    go_ret
    exact ⟨rfl, HB1.out⟩
  have k1 : decide ((7 : Int) < (L.length : Int)) = false := by simp; omega
  have k2 : decide (7 < L.length) = false := by simp; omega
  go_wp2_with fail
  refine (ja_few a L c _ (HS.out.kept HB1.out (Nat.le_refl _)) hl HL2.out).mono ?_
  rintro _ w' ⟨rfl, rfl⟩
  rcases hf : Id.few L with _ | _
  · clear hf
    go_wp2
    go_ret
    exact ⟨rfl, HB1.out⟩
  clear hf hl
  go_wp2_with fail
  refine (ja_fews am M cm _ (HM.out.kept HB1.out (Nat.le_refl _)) hlM).mono ?_
  rintro _ w' ⟨rfl, rfl⟩
  rcases hf : Id.fewS M with _ | _
  · clear hf
    go_wp2
    go_ret
    exact ⟨rfl, HB1.out⟩
  clear hf
  by_cases hle : lim2 < lim
  · have k3 : decide (lim2 < lim) = true := by simp; omega
    go_wp2
    go_ret
    exact ⟨rfl, HB1.out⟩
  have k3 : decide (lim2 < lim) = false := by simp; omega
  replace hle : lim ≤ lim2 := by omega
  go_wp2_with fail
  refine (Id.id_worksO lim a L _ c rfl _ (HS.out.kept HB1.out (Nat.le_refl _)) (by omega) HL2.out).mono ?_
  rintro _ x2 ⟨hb2, aC, mC, cC, rfl, he2⟩
  have HB2 := Lib.hid (HB1.out.trans (hb2.mono HB1.out.size))
  have HQC := Lib.hid he2
  clear hb2 he2
  obtain ⟨vs, hv1, hv2, hv3, hv4⟩ := Id.Sls.heads (HS.out.kept HB2.out (Nat.le_refl _))
  have HV4 := Lib.hid hv4
  have HV3 := Lib.hid (show ∀ o : Obj, L.length ≠ 0 → ∃ ad, a = some ad ∧ ∀ j u, vs[j]? = some u → (x2.alloc o).cell? (ad.add j) = some u from fun o h0 => by
    obtain ⟨ad, h1, h2, h3⟩ := hv3 h0
    exact ⟨ad, h1, fun j u hu => (((Below.refl x2.heap.size x2).alloc (Nat.le_refl _) o).cell (by rw [Tp.add_block]; exact h2)).trans (h3 j u hu)⟩)
  clear hv4 hv3
  have hn1 : L.length ≤ 7 := by omega
  have HSX := Lib.hid (HS.out.kept HB2.out (Nat.le_refl _))
  have HMX := Lib.hid (HM.out.kept HB2.out (Nat.le_refl _))
  go_wp2_with (at_builtin; first | (refine Kit.wpList_apps Id.elE _ rfl _ _ rfl _ _ _ (⟨World.ownsRow_lit _ _ _ (Nat.le_refl _) (by unfold maxLen; omega) rfl, (Below.refl _ _).alloc (Nat.le_refl _) _⟩ : Kit.Gw x2 22 1 _ 0 _ _) rfl (by omega) a L.length c vs (by omega) rfl (by rw [hv1]; omega) (HV3.out _) hv2 ?_; rw [Nat.zero_add]; intro v1 w3 ho; have HO := Lib.hid ho; clear ho) | (refine Kit.wpList_app Id.elE _ rfl _ _ rfl _ _ _ (HO.out.alloc _) rfl (by omega) ⟨w3.heap.size, 0, none⟩ 1 [.slice am M.length cm] rfl rfl (fun j u hu => Kit.lit_at _ _ _ rfl j u hu) (by simp [Value.oneCell']) ?_; intro v2 w4 ho hg; obtain ⟨a2, c2, rfl⟩ := ho.shape; have HO2 := Lib.hid ho; clear ho hg))
  have HSD := Lib.hid (Id.snoc_sls hv1 HV4.out HMX.out (show Kit.Gw x2 _ 1 (.slice a2 (L.length + 1) c2) (L.length + 1) (vs ++ [.slice am M.length cm]) w4 from HO2.out))
  have HB4 := Lib.hid HO2.out.bel
  clear HO2 HO HV3 HV4 hv1 hv2
  have hl3 : ∀ x ∈ L ++ [M], x.length ≤ 4611686018427387904 := fun x hx => by
    rcases List.mem_append.1 hx with h | h
    · exact HL2.out x h
    · rw [List.mem_singleton.1 h]; exact hlM
  refine (Id.id_worksO lim a2 (L ++ [M]) (L.length + 1) c2 (by simp) _ HSD.out (by omega) hl3).mono ?_
  rintro _ x4 ⟨hb2, aD, mD, cD, rfl, he2⟩
  have HB5 := Lib.hid (HB4.out.trans (hb2.mono HB4.out.size))
  have HQD := Lib.hid he2
  clear hb2 he2 hl3 HB4 HSD
  go_wp2_with fail
  refine (Id.id_worksO lim2 a L _ c rfl _ (HSX.out.kept HB5.out (Nat.le_refl _)) (by omega) HL2.out).mono ?_
  rintro _ x5 ⟨hb2, aG, mG, cG, rfl, he2⟩
  have HB6 := Lib.hid hb2
  have HQG := Lib.hid he2
  have HM1 := Lib.hid (fun (i k : Nat) (hi : i < L.length) (hk : k < L.length) => Id.more_d lim L M hi hk)
  have HM2 := Lib.hid (fun (i k : Nat) (hi : i < L.length) (hk : k < L.length) => Id.more_g hle L hi hk)
  clear hb2 he2 hle
  generalize Id.tE lim L = qC at HQC ⊢
  generalize Id.tE lim (L ++ [M]) = qD at HQD ⊢
  generalize Id.tE lim2 L = qG at HQG ⊢
  generalize Id.gr lim (L ++ [M]) = gD at HQD HM1
  generalize Id.gr lim2 L = gG at HQG HM2
  generalize Id.gr lim L = gC at HQC HM1 HM2
  have HBW := Lib.hid (HB2.out.trans ((HB5.out.trans (HB6.out.mono HB5.out.size)).mono HB2.out.size))
  clear HS HSX HL2 HM HMX h7 k1 k2 HSN
  generalize L.length = n at *
  generalize Id.wrk n gC = fc at HQC HM1 HM2
  generalize Id.wrk (n + 1) gD = fd at HQD HM1
  generalize Id.wrk n gG = fg at HQG HM2
  have n1 : ((n : Int) != (n : Int)) = false := by simp
  have n2 : (((n + 1 : Nat) : Int) != (n : Int) + 1) = false := by simp
  have n3 : ((n : Int) + 1 != (n : Int) + 1) = false := by simp
  by_cases hC : qC = 0
  · obtain ⟨rfl, hc⟩ := HQC.out hC
    have HC := Lib.hid (fun k hk => (hc k hk).imp fun ad h => (⟨h.1, fun W hb => h.2 W ((HB5.out.trans (HB6.out.mono HB5.out.size)).trans (hb.mono (Nat.le_trans HB5.out.size HB6.out.size)))⟩ : aC = some ad ∧ ∀ W, Below x5.heap.size x5 W → W.cell? (ad.add k) = some (.int .i64 ((fc k : Nat) : Int))))
    clear hc HQC
    subst hC
    by_cases hD : qD = 0
    · obtain ⟨rfl, hd⟩ := HQD.out hD
      have HD := Lib.hid (fun k (hk : k < n) => (hd k (by omega)).imp fun ad h => (⟨h.1, fun W hb => h.2 W (HB6.out.trans (hb.mono HB6.out.size))⟩ : aD = some ad ∧ ∀ W, Below x5.heap.size x5 W → W.cell? (ad.add k) = some (.int .i64 ((fd k : Nat) : Int))))
      clear hd HQD
      subst hD
      by_cases hG : qG = 0
      · obtain ⟨rfl, hg⟩ := HQG.out hG
        have HG := Lib.hid hg
        clear hg HQG
        subst hG
        go_wp2_with fail
        go_loopw [96] (fun v96 wr => ∃ k : Nat, v96 = .int .i64 k ∧ k ≤ n ∧ Hid (Below x5.heap.size x5 wr))
          (fun v96 _ => n - (intOf v96).toNat)
        case atStart => exact ⟨0, rfl, Nat.zero_le _, Below.refl _ _⟩
        case round =>
          obtain ⟨k, rfl, hk, HX⟩ := hrel
          by_cases hkn : k < n
          · go_wp2_with fail
            go_loopw [101] (fun v101 wy => ∃ r : Nat, v101 = .int .i64 r ∧ r ≤ n ∧ Hid (Below x5.heap.size x5 wy))
              (fun v101 _ => n - (intOf v101).toNat)
            case atStart => exact ⟨0, rfl, Nat.zero_le _, HX.out⟩
            case round =>
              obtain ⟨r, rfl, hr, HY⟩ := hrel
              rename World => wy
              by_cases hrn : r < n
              · have hz := HY.out.size
                obtain ⟨adc, rfl, e0⟩ := HC.out k hkn
                obtain ⟨adc_, hq, e1⟩ := HC.out r hrn
                obtain rfl : adc = adc_ := by simpa using hq
                clear hq
                replace e0 := fun z : Kit.Wd wy => e0 _ (HY.out.trans (z.below.mono hz))
                replace e1 := fun z : Kit.Wd wy => e1 _ (HY.out.trans (z.below.mono hz))
                obtain ⟨add, rfl, e2⟩ := HD.out k hkn
                obtain ⟨add_, hq, e3⟩ := HD.out r hrn
                obtain rfl : add = add_ := by simpa using hq
                clear hq
                replace e2 := fun z : Kit.Wd wy => e2 _ (HY.out.trans (z.below.mono hz))
                replace e3 := fun z : Kit.Wd wy => e3 _ (HY.out.trans (z.below.mono hz))
                obtain ⟨adg, rfl, e4⟩ := HG.out k hkn
                obtain ⟨adg_, hq, e5⟩ := HG.out r hrn
                obtain rfl : adg = adg_ := by simpa using hq
                clear hq
                replace e4 := fun z : Kit.Wd wy => e4 _ (HY.out.trans (z.below.mono hz))
                replace e5 := fun z : Kit.Wd wy => e5 _ (HY.out.trans (z.below.mono hz))
                by_cases hxy : fc k = fc r
                · have m1 := HM1.out k r hkn hrn hxy
                  have m2 := HM2.out k r hkn hrn hxy
                  rw [hxy] at e0
                  rw [m1] at e2
                  rw [m2] at e4
                  clear m1 m2 hxy
                  generalize fc r = x at e0 e1
                  generalize fd r = x2 at e2 e3
                  generalize fg r = x3 at e4 e5
                  go_wp2_with fail
                  (refine Kit.wp_region_cls (by kernel_rfl) (by kernel_rfl) ?_; (repeat (go_big_quiet_step (fail))); refine wpQuiet_nil ?_; intro z)
                  have HZ := Lib.hid (HY.out.trans (z.below.mono hz))
                  clear e0 e1 e2 e3 e4 e5
                  go_wp2_with fail
                  go_roundw
                  case rel => exact ⟨r + 1, by go_num, by omega, HZ.out⟩
                  case measure => simp [intOf]; omega
                · generalize fc k = x at e0 hxy
                  generalize fc r = y at e1 hxy
                  have d3 : ((x : Int) == (y : Int)) = false := by simp; omega
                  have d4 : (x == y) = false := by simp; omega
                  generalize fd k = x2 at e2
                  generalize fd r = y2 at e3
                  generalize fg k = x3 at e4
                  generalize fg r = y3 at e5
                  go_wp2_with fail
                  (refine Kit.wp_region_cls (by kernel_rfl) (by kernel_rfl) ?_; (repeat (go_big_quiet_step (fail))); refine wpQuiet_nil ?_; intro z)
                  have HZ := Lib.hid (HY.out.trans (z.below.mono hz))
                  clear e0 e1 e2 e3 e4 e5
                  go_wp2_with fail
                  go_roundw
                  case rel => exact ⟨r + 1, by go_num, by omega, HZ.out⟩
                  case measure => simp [intOf]; omega
              · obtain rfl : r = n := by omega
                go_wp2_with fail
                go_roundw
                case rel => exact ⟨k + 1, by go_num, by omega, HY.out⟩
                case measure => simp [intOf]; omega
          · obtain rfl : k = n := by omega
            go_wp2
            go_ret
            exact ⟨rfl, HBW.out.trans (HX.out.mono HBW.out.size)⟩
      · have q1 : (qG == 0) = false := by simpa using hG
        clear hG HQG
        go_wp2_with fail
        go_loopw [96] (fun v96 wr => ∃ k : Nat, v96 = .int .i64 k ∧ k ≤ n ∧ Hid (Below x5.heap.size x5 wr))
          (fun v96 _ => n - (intOf v96).toNat)
        case atStart => exact ⟨0, rfl, Nat.zero_le _, Below.refl _ _⟩
        case round =>
          obtain ⟨k, rfl, hk, HX⟩ := hrel
          by_cases hkn : k < n
          · go_wp2_with fail
            go_loopw [101] (fun v101 wy => ∃ r : Nat, v101 = .int .i64 r ∧ r ≤ n ∧ Hid (Below x5.heap.size x5 wy))
              (fun v101 _ => n - (intOf v101).toNat)
            case atStart => exact ⟨0, rfl, Nat.zero_le _, HX.out⟩
            case round =>
              obtain ⟨r, rfl, hr, HY⟩ := hrel
              rename World => wy
              by_cases hrn : r < n
              · have hz := HY.out.size
                obtain ⟨adc, rfl, e0⟩ := HC.out k hkn
                obtain ⟨adc_, hq, e1⟩ := HC.out r hrn
                obtain rfl : adc = adc_ := by simpa using hq
                clear hq
                replace e0 := fun z : Kit.Wd wy => e0 _ (HY.out.trans (z.below.mono hz))
                replace e1 := fun z : Kit.Wd wy => e1 _ (HY.out.trans (z.below.mono hz))
                obtain ⟨add, rfl, e2⟩ := HD.out k hkn
                obtain ⟨add_, hq, e3⟩ := HD.out r hrn
                obtain rfl : add = add_ := by simpa using hq
                clear hq
                replace e2 := fun z : Kit.Wd wy => e2 _ (HY.out.trans (z.below.mono hz))
                replace e3 := fun z : Kit.Wd wy => e3 _ (HY.out.trans (z.below.mono hz))
                by_cases hxy : fc k = fc r
                · have m1 := HM1.out k r hkn hrn hxy
                  have m2 := HM2.out k r hkn hrn hxy
                  rw [hxy] at e0
                  rw [m1] at e2
                  clear m1 m2 hxy
                  generalize fc r = x at e0 e1
                  generalize fd r = x2 at e2 e3
                  go_wp2_with fail
                  (refine Kit.wp_region_cls (by kernel_rfl) (by kernel_rfl) ?_; (repeat (go_big_quiet_step (fail))); refine wpQuiet_nil ?_; intro z)
                  have HZ := Lib.hid (HY.out.trans (z.below.mono hz))
                  clear e0 e1 e2 e3
                  go_wp2_with fail
                  go_roundw
                  case rel => exact ⟨r + 1, by go_num, by omega, HZ.out⟩
                  case measure => simp [intOf]; omega
                · generalize fc k = x at e0 hxy
                  generalize fc r = y at e1 hxy
                  have d3 : ((x : Int) == (y : Int)) = false := by simp; omega
                  have d4 : (x == y) = false := by simp; omega
                  generalize fd k = x2 at e2
                  generalize fd r = y2 at e3
                  go_wp2_with fail
                  (refine Kit.wp_region_cls (by kernel_rfl) (by kernel_rfl) ?_; (repeat (go_big_quiet_step (fail))); refine wpQuiet_nil ?_; intro z)
                  have HZ := Lib.hid (HY.out.trans (z.below.mono hz))
                  clear e0 e1 e2 e3
                  go_wp2_with fail
                  go_roundw
                  case rel => exact ⟨r + 1, by go_num, by omega, HZ.out⟩
                  case measure => simp [intOf]; omega
              · obtain rfl : r = n := by omega
                go_wp2_with fail
                go_roundw
                case rel => exact ⟨k + 1, by go_num, by omega, HY.out⟩
                case measure => simp [intOf]; omega
          · obtain rfl : k = n := by omega
            go_wp2
            go_ret
            exact ⟨rfl, HBW.out.trans (HX.out.mono HBW.out.size)⟩
    · have q2 : (qD == 0) = false := by simpa using hD
      clear hD HQD
      by_cases hG : qG = 0
      · obtain ⟨rfl, hg⟩ := HQG.out hG
        have HG := Lib.hid hg
        clear hg HQG
        subst hG
        go_wp2_with fail
        go_loopw [96] (fun v96 wr => ∃ k : Nat, v96 = .int .i64 k ∧ k ≤ n ∧ Hid (Below x5.heap.size x5 wr))
          (fun v96 _ => n - (intOf v96).toNat)
        case atStart => exact ⟨0, rfl, Nat.zero_le _, Below.refl _ _⟩
        case round =>
          obtain ⟨k, rfl, hk, HX⟩ := hrel
          by_cases hkn : k < n
          · go_wp2_with fail
            go_loopw [101] (fun v101 wy => ∃ r : Nat, v101 = .int .i64 r ∧ r ≤ n ∧ Hid (Below x5.heap.size x5 wy))
              (fun v101 _ => n - (intOf v101).toNat)
            case atStart => exact ⟨0, rfl, Nat.zero_le _, HX.out⟩
            case round =>
              obtain ⟨r, rfl, hr, HY⟩ := hrel
              rename World => wy
              by_cases hrn : r < n
              · have hz := HY.out.size
                obtain ⟨adc, rfl, e0⟩ := HC.out k hkn
                obtain ⟨adc_, hq, e1⟩ := HC.out r hrn
                obtain rfl : adc = adc_ := by simpa using hq
                clear hq
                replace e0 := fun z : Kit.Wd wy => e0 _ (HY.out.trans (z.below.mono hz))
                replace e1 := fun z : Kit.Wd wy => e1 _ (HY.out.trans (z.below.mono hz))
                obtain ⟨adg, rfl, e4⟩ := HG.out k hkn
                obtain ⟨adg_, hq, e5⟩ := HG.out r hrn
                obtain rfl : adg = adg_ := by simpa using hq
                clear hq
                replace e4 := fun z : Kit.Wd wy => e4 _ (HY.out.trans (z.below.mono hz))
                replace e5 := fun z : Kit.Wd wy => e5 _ (HY.out.trans (z.below.mono hz))
                by_cases hxy : fc k = fc r
                · have m1 := HM1.out k r hkn hrn hxy
                  have m2 := HM2.out k r hkn hrn hxy
                  rw [hxy] at e0
                  rw [m2] at e4
                  clear m1 m2 hxy
                  generalize fc r = x at e0 e1
                  generalize fg r = x3 at e4 e5
                  go_wp2_with fail
                  (refine Kit.wp_region_cls (by kernel_rfl) (by kernel_rfl) ?_; (repeat (go_big_quiet_step (fail))); refine wpQuiet_nil ?_; intro z)
                  have HZ := Lib.hid (HY.out.trans (z.below.mono hz))
                  clear e0 e1 e4 e5
                  go_wp2_with fail
                  go_roundw
                  case rel => exact ⟨r + 1, by go_num, by omega, HZ.out⟩
                  case measure => simp [intOf]; omega
                · generalize fc k = x at e0 hxy
                  generalize fc r = y at e1 hxy
                  have d3 : ((x : Int) == (y : Int)) = false := by simp; omega
                  have d4 : (x == y) = false := by simp; omega
                  generalize fg k = x3 at e4
                  generalize fg r = y3 at e5
                  go_wp2_with fail
                  (refine Kit.wp_region_cls (by kernel_rfl) (by kernel_rfl) ?_; (repeat (go_big_quiet_step (fail))); refine wpQuiet_nil ?_; intro z)
                  have HZ := Lib.hid (HY.out.trans (z.below.mono hz))
                  clear e0 e1 e4 e5
                  go_wp2_with fail
                  go_roundw
                  case rel => exact ⟨r + 1, by go_num, by omega, HZ.out⟩
                  case measure => simp [intOf]; omega
              · obtain rfl : r = n := by omega
                go_wp2_with fail
                go_roundw
                case rel => exact ⟨k + 1, by go_num, by omega, HY.out⟩
                case measure => simp [intOf]; omega
          · obtain rfl : k = n := by omega
            go_wp2
            go_ret
            exact ⟨rfl, HBW.out.trans (HX.out.mono HBW.out.size)⟩
      · have q1 : (qG == 0) = false := by simpa using hG
        clear hG HQG
        go_wp2_with fail
        go_loopw [96] (fun v96 wr => ∃ k : Nat, v96 = .int .i64 k ∧ k ≤ n ∧ Hid (Below x5.heap.size x5 wr))
          (fun v96 _ => n - (intOf v96).toNat)
        case atStart => exact ⟨0, rfl, Nat.zero_le _, Below.refl _ _⟩
        case round =>
          obtain ⟨k, rfl, hk, HX⟩ := hrel
          by_cases hkn : k < n
          · go_wp2_with fail
            go_loopw [101] (fun v101 wy => ∃ r : Nat, v101 = .int .i64 r ∧ r ≤ n ∧ Hid (Below x5.heap.size x5 wy))
              (fun v101 _ => n - (intOf v101).toNat)
            case atStart => exact ⟨0, rfl, Nat.zero_le _, HX.out⟩
            case round =>
              obtain ⟨r, rfl, hr, HY⟩ := hrel
              rename World => wy
              by_cases hrn : r < n
              · have hz := HY.out.size
                obtain ⟨adc, rfl, e0⟩ := HC.out k hkn
                obtain ⟨adc_, hq, e1⟩ := HC.out r hrn
                obtain rfl : adc = adc_ := by simpa using hq
                clear hq
                replace e0 := fun z : Kit.Wd wy => e0 _ (HY.out.trans (z.below.mono hz))
                replace e1 := fun z : Kit.Wd wy => e1 _ (HY.out.trans (z.below.mono hz))
                by_cases hxy : fc k = fc r
                · have m1 := HM1.out k r hkn hrn hxy
                  have m2 := HM2.out k r hkn hrn hxy
                  rw [hxy] at e0
                  clear m1 m2 hxy
                  generalize fc r = x at e0 e1
                  go_wp2_with fail
                  (refine Kit.wp_region_cls (by kernel_rfl) (by kernel_rfl) ?_; (repeat (go_big_quiet_step (fail))); refine wpQuiet_nil ?_; intro z)
                  have HZ := Lib.hid (HY.out.trans (z.below.mono hz))
                  clear e0 e1
                  go_wp2_with fail
                  go_roundw
                  case rel => exact ⟨r + 1, by go_num, by omega, HZ.out⟩
                  case measure => simp [intOf]; omega
                · generalize fc k = x at e0 hxy
                  generalize fc r = y at e1 hxy
                  have d3 : ((x : Int) == (y : Int)) = false := by simp; omega
                  have d4 : (x == y) = false := by simp; omega
                  go_wp2_with fail
                  (refine Kit.wp_region_cls (by kernel_rfl) (by kernel_rfl) ?_; (repeat (go_big_quiet_step (fail))); refine wpQuiet_nil ?_; intro z)
                  have HZ := Lib.hid (HY.out.trans (z.below.mono hz))
                  clear e0 e1
                  go_wp2_with fail
                  go_roundw
                  case rel => exact ⟨r + 1, by go_num, by omega, HZ.out⟩
                  case measure => simp [intOf]; omega
              · obtain rfl : r = n := by omega
                go_wp2_with fail
                go_roundw
                case rel => exact ⟨k + 1, by go_num, by omega, HY.out⟩
                case measure => simp [intOf]; omega
          · obtain rfl : k = n := by omega
            go_wp2
            go_ret
            exact ⟨rfl, HBW.out.trans (HX.out.mono HBW.out.size)⟩
  · have q3 : (qC != 0) = true := by simpa using hC
    clear hC
    go_wp2
    go_ret
    exact ⟨rfl, HBW.out⟩
end Go.Proofs.Ytdaedjmkolcliaa
