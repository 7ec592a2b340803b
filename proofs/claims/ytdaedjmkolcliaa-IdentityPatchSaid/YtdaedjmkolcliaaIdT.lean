/- Walks: package identity: table. -/
import Derived.Test.YtdaedjmkolcliaaIdP
import Derived.OwnWalk
namespace Go.Proofs.Ytdaedjmkolcliaa
set_option linter.unusedVariables false
set_option linter.unusedSimpArgs false
open Go.RowKit Go.Shelf

namespace Id
theorem elB : Kit.El Try.prog 72 37 (.slice none 0 0) 1 24 := ⟨Try.underlying72, by kernel_rfl, rfl, by omega, by omega⟩
theorem boolInfo : (Try.prog.info? 4).map (fun i => (i.zero, i.size, i.bytes)) = some (some (.bool false), 1, 1) := by kernel_rfl
def bools (l : List Bool) : List Value := l.map (.bool ·)
def bc (l : List Bool) (i _j : Nat) : Value := .bool (l.getD i false)
theorem bools_bc (l : List Bool) : ∀ i j, i < l.length → j < 1 → (bools l)[i * 1 + j]? = some (bc l i j) := by
  intro i j hi hj
  obtain rfl : j = 0 := by omega
  simp [bools, bc, List.getElem?_map, hi]
theorem bools_len (l : List Bool) : (bools l).length = l.length := by simp [bools]
/-- Which editions are near each other. -/
def gr (lim : Int) (L : List (List Sg)) (i k : Nat) : Bool := simi lim (ess (L.getD i [])) (ess (L.getD k []))
theorem gr_comm (lim : Int) (L : List (List Sg)) (i k : Nat) : gr lim L i k = gr lim L k i := simi_comm _ _ _
theorem gr_self (lim : Int) (L : List (List Sg)) (h : 0 ≤ lim) (i : Nat) : gr lim L i i = true := simi_self _ h _
/-- A row of the table. -/
def rowB (n : Nat) (g : Nat → Nat → Bool) (i : Nat) : List Bool := (List.range n).map (g i)
def tabB (n : Nat) (g : Nat → Nat → Bool) (m : Nat) : List (List Bool) := (List.range m).map (rowB n g)
theorem rowB_len (n : Nat) (g : Nat → Nat → Bool) (i : Nat) : (rowB n g i).length = n := by simp [rowB]
theorem tabB_len (n : Nat) (g : Nat → Nat → Bool) (m : Nat) : (tabB n g m).length = m := by simp [tabB]
theorem tabB_get (n : Nat) (g : Nat → Nat → Bool) (m i : Nat) (h : i < m) : (tabB n g m).getD i [] = rowB n g i := by simp [tabB, List.getD, h]
theorem tabB_succ (n : Nat) (g : Nat → Nat → Bool) (m : Nat) : tabB n g (m + 1) = tabB n g m ++ [rowB n g m] := by simp [tabB, List.range_succ]
theorem rowB_get (n : Nat) (g : Nat → Nat → Bool) (i k : Nat) (h : k < n) : (rowB n g i).getD k false = g i k := by simp [rowB, List.getD, h]
/-- A row under way. -/
def rw_ (n : Nat) (g : Nat → Nat → Bool) (i k : Nat) : List Value := bools ((List.range k).map (g i) ++ List.replicate (n - k) false)
theorem rw_0 (n : Nat) (g : Nat → Nat → Bool) (i : Nat) : rw_ n g i 0 = List.replicate n (.bool false) := by simp [rw_, bools]
theorem rw_n (n : Nat) (g : Nat → Nat → Bool) (i : Nat) : rw_ n g i n = bools (rowB n g i) := by simp [rw_, rowB]
theorem rw_set (n : Nat) (g : Nat → Nat → Bool) (i k : Nat) (h : k < n) : (rw_ n g i k).set k (.bool (g i k)) = rw_ n g i (k + 1) := by
  obtain ⟨m, hm⟩ : ∃ m, n - k = m + 1 := ⟨n - k - 1, by omega⟩
  have e : n - (k + 1) = m := by omega
  have hl : ((List.range k).map (g i)).length = k := by simp
  unfold rw_ bools
  rw [hm, e, List.range_succ]
  simp only [List.map_append, List.map_map, List.map_cons, List.map_nil, List.replicate_succ, List.append_assoc, List.cons_append, List.nil_append]
  rw [List.set_append_right _ _ (by simp)]
  simp
/-- What table says besides. -/
def tE (lim : Int) (L : List (List Sg)) : Int := if 16 < L.length then 2 else eE lim L
/-- A graph, as it lies. -/
def Gr (w : World) (a : Option Addr) (n : Nat) (g : Nat → Nat → Bool) : Prop := Sls w a 1 bc (tabB n g n)
def TbP (lim : Int) (L : List (List Sg)) (W : World) (e : Ending) (w' : World) : Prop := Below W.heap.size W w' ∧ if tE lim L = 0 then ∃ a c, e = .returned (.tuple #[.slice a L.length c, .int .i64 0]) ∧ Gr w' a L.length (gr lim L) else e = .returned (.tuple #[.slice none 0 0, .int .i64 (tE lim L)])
/-- A cell of rows of one's own. -/
theorem rows_cell {w : World} {s B e e' m c : Nat} {a : Option Addr} {vs : List Value} {M : List (List Bool)} (ho : w.ownsRow s e' 1 (.slice a m c) m vs) (hr : Rows B w e vs (M.map bools)) (hm : m = M.length) {i k : Nat} (hi : i < m) (hk : k < (M.getD i []).length) :
    ∃ ad ai ci, a = some ad ∧ w.cell? (ad.add i) = some (.slice (some ai) (M.getD i []).length ci) ∧ w.cell? (ai.add k) = some (.bool ((M.getD i []).getD k false)) := by
  have h1 := rows_sls ho hr hm (fun l => bools_len l) (fun l => bools_bc l)
  obtain ⟨ad, e1, _, ai, ci, e2, e3⟩ := h1.at (i := i) (by omega)
  obtain ⟨ad2, rfl, _, e4⟩ := e3.at hk
  have h5 := e4 0 (by omega)
  exact ⟨ad, ad2, ci, e1, e2, by rw [Nat.mul_one, Nat.add_zero] at h5; exact h5⟩
end Id
set_option maxRecDepth 100000 in
set_option maxHeartbeats 8000000 in
theorem id_table (lim : Int) (a : Option Addr) (L : List (List Id.Sg)) (c : Nat) (w : World) (hS : Id.Sls w a 14 Id.sgc L) (hl : L.length ≤ 1000000) (hl2 : ∀ x ∈ L, x.length ≤ 4611686018427387904) :
    Calls Try.prog 46 #[.slice a L.length c, .int .i64 lim] w (Id.TbP lim L w) := by
  have HS := Lib.hid hS
  have HL2 := Lib.hid hl2
  clear hS hl2
  by_cases h16 : 16 < L.length
  · have HE := Lib.hid (show Id.tE lim L = 2 by unfold Id.tE; rw [if_pos h16])
    go_enter Try.func46, Try.ntmps46
    go_wp2
    go_ret2
    refine ⟨Below.refl _ _, ?_⟩
    rw [HE.out, if_neg (by decide)]
    rfl
  have HE := Lib.hid (show Id.tE lim L = Id.eE lim L by unfold Id.tE; rw [if_neg h16])
  go_enter Try.func46, Try.ntmps46
  go_wp2_with fail
  refine (id_essences lim a L c _ HS.out hl HL2.out).mono ?_
  rintro e w1 ⟨hb, he⟩
  have HB1 := Lib.hid hb
  clear hb
  by_cases h0 : Id.eE lim L = 0
  · rw [if_pos h0] at he
    obtain ⟨aV, cV, rfl, hs⟩ := he
    obtain ⟨h1, h2, h3⟩ := Id.eE_all h0
    have HAL := Lib.hid hs
    have HES := Lib.hid (fun i (hi : i < L.length) => Id.ess_le (h1 (L.getD i []) (by rw [List.getD_eq_getElem?_getD, List.getElem?_eq_getElem hi]; exact List.getElem_mem hi)))
    have HH := Lib.hid h0
    have hget : ∀ i, i < L.length → (L.map Id.ess).getD i [] = Id.ess (L.getD i []) := fun i hi => by simp [List.getD, List.getElem?_map, List.getElem?_eq_getElem hi]
    have HGT := Lib.hid hget
    have HSL := Lib.hid (fun i => Id.gr_self lim L h2 i)
    have HCM := Lib.hid (fun i k => Id.gr_comm lim L i k)
    have HSM := Lib.hid (fun i k (hi : i < L.length) (hk : k < L.length) aA cA aB cB W s0 s1 => id_similar (Id.ess (L.getD i [])) (Id.ess (L.getD k [])) aA cA aB cB lim W s0 s1 (HES.out i hi).2 (HES.out k hk).2 (Id.ess_cod (HES.out i hi).1) (Id.ess_cod (HES.out k hk).1) h2 h3)
    have HSM2 := Lib.hid (show ∀ i k (hi : i < L.length) (hk : k < L.length) aA cA aB cB W, Tp.Sl W aA (Id.ess (L.getD i [])).length 1 (Id.ic (Id.ess (L.getD i []))) → Tp.Sl W aB (Id.ess (L.getD k [])).length 1 (Id.ic (Id.ess (L.getD k []))) →
      Calls Try.prog 38 #[.slice aA (Id.ess (L.getD i [])).length cA, .slice aB (Id.ess (L.getD k [])).length cB, .int .i64 lim] W fun e w' => e = .returned (.bool (Id.gr lim L i k)) ∧ Below W.heap.size W w' from fun i k hi hk aA cA aB cB W s0 s1 => HSM.out i k hi hk aA cA aB cB W s0 s1)
    clear hs h1 h0 hget HES HSM h2 h3
    obtain ⟨g, hg⟩ : ∃ g, Id.gr lim L = g := ⟨_, rfl⟩
    rw [hg] at HSL HCM HSM2
    have HG := Lib.hid hg
    clear hg
    obtain ⟨n, hn⟩ : ∃ n, n = L.length := ⟨_, rfl⟩
    rw [← hn] at HGT HSM2 hl h16
    rw [← hn]
    have HN := Lib.hid hn
    clear hn
    obtain ⟨i0, hi, hz0, hz1, hz2⟩ := info_parts Id.boolInfo
    go_wp2_with fail
    go_loopw [4, 26] (fun v4 v26 wr => ∃ (i : Nat) (vs : List Value), v26 = .int .i64 i ∧ i ≤ n ∧ Hid (Kit.Gw w1 37 1 v4 i vs wr) ∧ Hid (Id.Rows w1.heap.size wr 4 vs ((Id.tabB n g i).map Id.bools)))
      (fun _ v26 _ => n - (intOf v26).toNat)
    case atStart => exact ⟨0, [], rfl, Nat.zero_le _, Kit.Gw.start _ _ _, Id.Rows.nil _ _ _⟩
    case round =>
      obtain ⟨i, vs, rfl, hi', HO, HR⟩ := hrel
      obtain ⟨aG, cG, rfl⟩ := HO.out.shape
      by_cases hlt : i < n
      · obtain ⟨ad, rfl, had, ai, ci, e0, hsl⟩ := (HAL.out.kept HO.out.bel (Nat.le_refl _)).at (i := i) (by rw [List.length_map, ← HN.out]; exact hlt)
        rw [HGT.out i hlt] at e0 hsl
        have HSI := Lib.hid hsl
        clear hsl
        obtain ⟨E, hE⟩ : ∃ E, Id.ess (L.getD i []) = E := ⟨_, rfl⟩
        rw [hE] at e0 HSI
        have HEE := Lib.hid hE
        clear hE
        go_wp2_with ((with_reducible show wpList _ _ _ (⟨some 33, _, _, _, _, _⟩ :: _) _ _); refine Kit.hold ?_; intro X HX)
        rw [HX.out]; clear HX X
        refine wpList_make_full _ rfl _ _ 37 rfl wr.heap.size 4 i0 (.bool false) 1 Try.underlying37 hi hz0 hz1 _ _ _ _ n rfl rfl rfl rfl (by rw [hz2]; omega) (by unfold maxLen; omega) (Nat.le_refl _) ?_
        intro w2 ho hg2
        have HBW := Lib.hid (show Below wr.heap.size wr w2 from (Below.refl _ _).grown hg2 (Nat.le_refl _) (fun q hq => by cases hq))
        have HRW := Lib.hid (show w2.ownsRow w1.heap.size 4 1 (.slice (some ⟨wr.heap.size, 0, none⟩) n n) n (Id.rw_ n g i 0) by
          rw [Id.rw_0]
          have e : (madeCells (Value.bool false).cells (n * 1)).toList = List.replicate n (.bool false) := by
            rw [Nat.mul_one]; exact toList_madeCells_one _ _
          rw [e] at ho
          exact ho.mono HO.out.size)
        have hzG : wr.heap.size < w2.heap.size := (ho.lt _ rfl).2
        clear ho hg2 e0
        go_wp2_with fail
        go_loopw [36] (fun v36 wx => ∃ k : Nat, v36 = .int .i64 k ∧ k ≤ n ∧ wr.heap.size < wx.heap.size ∧ Hid (wx.ownsRow w1.heap.size 4 1 (.slice (some ⟨wr.heap.size, 0, none⟩) n n) n (Id.rw_ n g i k)) ∧ Hid (Below wr.heap.size wr wx))
          (fun v36 _ => n - (intOf v36).toNat)
        case atStart => exact ⟨0, rfl, Nat.zero_le _, hzG, HRW.out, HBW.out⟩
        case round =>
          obtain ⟨k, rfl, hk, hzx, HRK, HBX⟩ := hrel
          rename World => wx
          by_cases hkn : k < n
          · have HOX := Lib.hid (HO.out.thn HBX.out)
            obtain ⟨ad', hq, _, ak, ck, e1, hslk⟩ := (HAL.out.kept HOX.out.bel (Nat.le_refl _)).at (i := k) (by rw [List.length_map, ← HN.out]; exact hkn)
            obtain rfl : ad = ad' := by simpa using hq
            rw [HGT.out k hkn] at e1 hslk
            have HSK := Lib.hid hslk
            clear hslk hq
            have HST := Lib.hid (Id.rw_set n g i k hkn)
            have hlen : (Id.rw_ n g i k).length = n := by have := HRK.out.1; omega
            have fc : wx.cell? ⟨wr.heap.size, k, none⟩ = some ((Id.rw_ n g i k).getD k undef) := by
              rw [HRK.out.cellAt k (by omega), List.getD_eq_getElem?_getD, List.getElem?_eq_getElem (by omega)]; rfl
            have ff : wx.frozen? ⟨wr.heap.size, k, none⟩ = false := HRK.out.frozenAt k
            have HSX := Lib.hid (HSI.out.kept HBX.out (Nat.le_refl _))
            clear hlen
            generalize (Id.rw_ n g i k).getD k undef = old at fc
            rcases Nat.lt_trichotomy k i with hki | hki | hki
            · have HRX := Lib.hid (HR.out.thn HBX.out)
              obtain ⟨adg, ag, cg, rfl, e2, e3⟩ := Id.rows_cell HOX.out.own HRX.out (Id.tabB_len _ _ _).symm (i := k) (k := i) hki (by rw [Id.tabB_get _ _ _ _ hki, Id.rowB_len]; exact hlt)
              rw [Id.tabB_get _ _ _ _ hki] at e2 e3
              rw [Id.rowB_get _ _ _ _ hlt, HCM.out] at e3
              rw [Id.rowB_len] at e2
              have d1 : ((i : Int) == (k : Int)) = false := by simp; omega
              have d2 : decide ((k : Int) < (i : Int)) = true := by simp; omega
              have d3 : decide ((i : Int) < (k : Int)) = false := by simp; omega
              generalize g i k = gv at e3 HST
              rcases gv with _ | _
              all_goals
                go_wp2_with fail
                go_roundw
                case rel => exact ⟨k + 1, by go_num, by omega, by first | (simp; omega) | omega, by rw [← HST.out]; exact (HRK.out.stored k _).1, HBX.out.setCell (by first | exact Nat.le_refl _ | simp) _⟩
                case measure => simp [intOf]; omega
            · have d1 : ((i : Int) == (k : Int)) = true := by simp; omega
              have HKI := Lib.hid hki
              rw [show g i k = true by rw [hki]; exact HSL.out i] at HST
              clear hki
              go_wp2_with fail
              go_roundw
              case rel => exact ⟨k + 1, by go_num, by omega, by first | (simp; omega) | omega, by rw [← HST.out]; exact (HRK.out.stored k _).1, HBX.out.setCell (by first | exact Nat.le_refl _ | simp) _⟩
              case measure => simp [intOf]; omega
            · have d1 : ((i : Int) == (k : Int)) = false := by simp; omega
              have d2 : decide ((k : Int) < (i : Int)) = false := by simp; omega
              have d3 : decide ((i : Int) < (k : Int)) = true := by simp; omega
              have HCALL := Lib.hid (fun W s0 s1 => HSM2.out i k hlt hkn ai ci ak ck W s0 s1)
              rw [HEE.out] at HCALL
              generalize g i k = gv at HCALL HST
              go_wp2_with fail
              refine (HCALL.out _ HSX.out HSK.out).mono ?_
              rintro _ w5 ⟨rfl, hb5⟩
              have HB5 := Lib.hid hb5
              have HR5 := Lib.hid (Id.own_below HRK.out hb5)
              have fc5 : w5.cell? ⟨wr.heap.size, k, none⟩ = some old := (hb5.cell (by exact hzx)).trans fc
              have ff5 : w5.frozen? ⟨wr.heap.size, k, none⟩ = false := HR5.out.frozenAt k
              have hz5 : wr.heap.size < w5.heap.size := Nat.lt_of_lt_of_le hzx hb5.size
              clear hb5 fc ff e1
              rcases gv with _ | _
              all_goals
                go_wp2_with fail
                go_roundw
                case rel => exact ⟨k + 1, by go_num, by omega, by first | (simp; omega) | omega, by rw [← HST.out]; exact (HR5.out.stored k _).1, (HBX.out.trans (HB5.out.mono HBX.out.size)).setCell (by first | exact Nat.le_refl _ | simp) _⟩
                case measure => simp [intOf]; omega
          · obtain rfl : k = n := by omega
            have HOX := Lib.hid (HO.out.thn HBX.out)
            have HRX := Lib.hid (HR.out.thn HBX.out)
            rw [Id.rw_n] at HRK
            have HTS := Lib.hid (Id.tabB_succ k g i)
            go_wp2_with (at_builtin; refine Kit.wpList_app Id.elB _ rfl _ _ rfl _ _ _ (HOX.out.alloc _) rfl (by omega) ⟨wx.heap.size, 0, none⟩ 1 [.slice (some ⟨wr.heap.size, 0, none⟩) k k] rfl rfl (fun j u hu => Kit.lit_at _ _ _ rfl j u hu) (by simp [Value.oneCell']) ?_; intro v' w5 ho hg5; have HO3 := Lib.hid ho; have HG3 := Lib.hid hg5; clear ho hg5)
            go_roundw
            case rel =>
              have h1 := (HRX.out.thn ((Below.refl _ _).alloc (Nat.le_refl _) _)).grown (HOX.out.alloc _).own (by decide) HG3.out
              have h2 := ((HRK.out.alloc _).kept HG3.out (Id.own_ne (HRK.out.alloc _) (HOX.out.alloc (.cells #[.slice (some ⟨wr.heap.size, 0, none⟩) k k] 37)).own (by decide)))
              have hl : (Id.bools (Id.rowB k g i)).length = k := by rw [Id.bools_len, Id.rowB_len]
              have h3 := h1.snoc (m := Id.bools (Id.rowB k g i)) (a := some ⟨wr.heap.size, 0, none⟩) (c := k) (by rw [hl]; exact h2)
              rw [hl] at h3
              exact ⟨i + 1, _, by go_num, by omega, HO3.out, by rw [HTS.out, List.map_append]; exact h3⟩
            case measure => simp [intOf]; omega
      · obtain rfl : i = n := by omega
        go_wp2
        go_ret2
        refine ⟨HB1.out.trans (HO.out.bel.mono HB1.out.size), ?_⟩
        rw [HE.out, HH.out, if_pos rfl, ← HN.out]
        refine ⟨aG, cG, rfl, ?_⟩
        rw [HG.out]
        exact Id.rows_sls HO.out.own HR.out (Id.tabB_len _ _ _).symm (fun l => Id.bools_len l) (fun l => Id.bools_bc l)
  · rw [if_neg h0] at he
    subst he
    obtain ⟨q, hq⟩ : ∃ q, Id.eE lim L = q := ⟨_, rfl⟩
    rw [hq] at h0
    rw [hq]
    have q1 : (q != 0) = true := by simpa using h0
    have HQ := Lib.hid hq
    have HH := Lib.hid h0
    clear hq h0
    go_wp2
    go_ret2
    refine ⟨HB1.out, ?_⟩
    rw [HE.out, HQ.out, if_neg HH.out]
    rfl
end Go.Proofs.Ytdaedjmkolcliaa
