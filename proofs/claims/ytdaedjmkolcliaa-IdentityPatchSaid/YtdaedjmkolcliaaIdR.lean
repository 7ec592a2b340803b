/- Walks: slices.Repeat of one number. -/
import Derived.Test.YtdaedjmkolcliaaIdO
import Derived.Test.YtdaedjmkolcliaaIdMul
import Derived.Laws.CopyOwn
import Derived.Deep.RegionLaw
namespace Go.Proofs.Ytdaedjmkolcliaa
set_option linter.unusedVariables false
set_option linter.unusedSimpArgs false
open Go.RowKit Go.Shelf

theorem Id.row_full {w : World} {base g n : Nat} {e : TypeId} {xs : List Value} (h : w.ownsRow base e 1 (.slice (some ⟨g, 0, none⟩) n n) n xs) : w.heap[g]? = some (.cells xs.toArray e (0, 0)) := by
  rcases h.2 with ⟨e0, _⟩ | ⟨g', cap, cur, e0, _, hg, _, _, hcs, ht⟩
  · cases e0
  · cases e0
    rw [hg, ← ht]
    have : cur.toList.take (n * 1) = cur.toList := List.take_of_length_le (by simp; omega)
    rw [this]
theorem Id.intSize : (Try.prog.info? 3).map (·.size) = some 1 := by kernel_rfl
theorem Id.intInfo : (Try.prog.info? 3).map (fun i => (i.zero, i.size, i.bytes)) = some (some (.int .i64 0), 1, 8) := by kernel_rfl
def Id.rp (x : Int) (m n : Nat) : List Value := Id.ints (List.replicate m x ++ List.replicate (n - m) 0)
theorem Id.rp_len (x : Int) (m n : Nat) (h : m ≤ n) : (Id.rp x m n).length = n := by simp [Id.rp, Id.ints]; omega
theorem Id.rp_splice (x : Int) (m n k q : Nat) (h : m + k ≤ n) (h1 : m ≤ q) (h2 : q ≤ m + k) : splice (Id.rp x q n) m (Id.ints (List.replicate k x)) = Id.rp x (m + k) n := by
  unfold splice Id.rp Id.ints
  have e1 : n - q - (m + k - q) = n - (m + k) := by omega
  have e2 : min m q = m := by omega
  have e3 : m - q = 0 := by omega
  have e4 : q - (m + k) = 0 := by omega
  simp [List.take_append, List.drop_append, e1, e2, e3, e4]
  rw [← List.append_assoc, List.replicate_append_replicate]
theorem Id.rp_get (x : Int) (m n j : Nat) (h : j < m) : (Id.rp x m n)[j]? = some (.int .i64 x) := by
  simp [Id.rp, Id.ints, List.getElem?_append, h]
/-- What the region of Repeat may do to the world. -/
structure Id.RE (x : Int) (m n k G : Nat) (A B : World) : Prop where
  exc : Kit.Exc (fun q => q = G) A B
  row : B.heap[G]? = A.heap[G]? ∨ B.heap[G]? = some (.cells (Id.rp x (m + k) n).toArray 3 (0, 0))
namespace Id.RE
variable {x : Int} {m n k G : Nat} {A B C : World}
theorem refl (A : World) : RE x m n k G A A := ⟨Kit.Exc.refl _ _, .inl rfl⟩
theorem drew (A : World) : RE x m n k G A { A with drawn := A.drawn + 1 } := ⟨(Kit.Exc.refl _ _).drew, .inl rfl⟩
theorem keep (h : RE x m n k G A B) (ha : A.heap[G]? = some (.cells (Id.rp x (m + k) n).toArray 3 (0, 0))) : B.heap[G]? = some (.cells (Id.rp x (m + k) n).toArray 3 (0, 0)) := by
  rcases h.row with h1 | h1
  · rw [h1, ha]
  · exact h1
theorem trans (h : RE x m n k G A B) (h' : RE x m n k G B C) : RE x m n k G A C := by
  refine ⟨h.exc.trans h'.exc, ?_⟩
  rcases h'.row with h1 | h1
  · rcases h.row with h2 | h2
    · exact .inl (h1.trans h2)
    · exact .inr (h1.trans h2)
  · exact .inr h1
end Id.RE
/-- Copying a row's head behind it. -/
theorem Id.copy_run (w1 : World) (G m n k : Nat) (x : Int) (ty : TypeId) (hm : m < n) (hk : k ≤ m) (hkn : k ≤ n - m) (hmin : k = Nat.min m (n - m)) (h : w1.heap[G]? = some (.cells (Id.rp x m n).toArray 3 (0, 0)) ∨ w1.heap[G]? = some (.cells (Id.rp x (m + k) n).toArray 3 (0, 0))) :
    ∃ w2, (Builtin.copy_ #[25, 25] ty #[.slice (some ⟨G, m, none⟩) (n - m) (n - m), .slice (some ⟨G, 0, none⟩) m n]).run Try.prog w1 = .ok (.int .i64 k) w2 ∧ w2.heap[G]? = some (.cells (Id.rp x (m + k) n).toArray 3 (0, 0)) ∧ Id.RE x m n k G w1 w2 := by
  have hkl : (Id.ints (List.replicate k x)).length = k := by simp [Id.ints]
  obtain ⟨q, hq1, hq2, hg⟩ : ∃ q, m ≤ q ∧ (q = m ∨ q = m + k) ∧ w1.heap[G]? = some (.cells (Id.rp x q n).toArray 3 (0, 0)) := by
    rcases h with h | h
    · exact ⟨m, Nat.le_refl _, .inl rfl, h⟩
    · exact ⟨m + k, by omega, .inr rfl, h⟩
  have hqn : q ≤ n := by omega
  have hrun := run_copy_row (P := Try.prog) w1 25 25 ty 3 G m (n - m) (n - m) ⟨G, 0, none⟩ m n (Id.rp x q n).toArray 3 (Id.ints (List.replicate k x)) Try.underlying25 Id.intSize hg (by rw [hkl]; exact hmin)
    (fun j v hj => by
      have hj2 : j < k := by have := (List.getElem?_eq_some_iff.1 hj).1; omega
      have hv : v = .int .i64 x := by
        rw [Id.ints, List.getElem?_map, List.getElem?_replicate, if_pos hj2] at hj
        exact (Option.some.inj hj).symm
      have e : (⟨G, 0, none⟩ : Addr).add j = ⟨G, j, none⟩ := by unfold Addr.add; split <;> simp_all
      rw [e, hv]
      simp only [World.cell?, hg]
      simpa using Id.rp_get x q n j (by omega))
    (by rw [hkl]; simp [Id.rp_len x q n hqn]; omega) (by intro v hv; simp [Id.ints] at hv; rw [hv.2]; rfl)
  have hcs : ((Id.rp x q n).toArray.toList.take m ++ Id.ints (List.replicate k x) ++ (Id.rp x q n).toArray.toList.drop (m + (Id.ints (List.replicate k x)).length)) = Id.rp x (m + k) n := by
    rw [List.append_assoc]
    exact Id.rp_splice x m n k q (by omega) hq1 (by omega)
  rw [hcs] at hrun
  refine ⟨_, by rw [hrun, hkl]; rfl, setRow_heap _ _ _ _ _ _ hg, ⟨⟨rfl, rfl, rfl, by simp [World.setRow], fun p hp hne => setRow_other _ _ _ _ hne⟩, .inr (setRow_heap _ _ _ _ _ _ hg)⟩⟩
set_option maxRecDepth 100000 in
set_option maxHeartbeats 1000000 in
theorem sl_repeat (x : Int) (n : Nat) (h1 : 1 ≤ n) (hn : n ≤ 1000) (ad : Addr) (c : Nat) (w : World) (hc : w.cell? ad = some (.int .i64 x)) (had : ad.block < w.heap.size) :
    Calls Try.prog 41 #[.slice (some ad) 1 c, .int .i64 n] w fun e w' => e = .returned (.slice (some ⟨w.heap.size, 0, none⟩) n n) ∧ w'.heap[w.heap.size]? = some (.cells (Id.ints (List.replicate n x)).toArray 3 (0, 0)) ∧ Below w.heap.size w w' := by
  have HM := Lib.hid (show ∀ W, Calls Try.prog 66 #[.int .u64 1, .int .u64 n] W fun e w' => e = .returned (.tuple #[.int .u64 0, .int .u64 n]) ∧ W = w' by
    intro W
    have h := bi_mul 1 n (by omega) (by omega) W
    rw [Nat.one_mul, Nat.div_eq_of_lt (by omega), Nat.mod_eq_of_lt (by omega)] at h
    exact h.mono fun _ _ ⟨a, b⟩ => ⟨a, b.symm⟩)
  have HC := Lib.hid hc
  obtain ⟨i0, hi, hz0, hz1, hz2⟩ := info_parts Id.intInfo
  have d0 : decide ((n : Int) < 0) = false := by simp
  have d1 : decide (9223372036854775807 < (n : Int)) = false := by simp; omega
  clear hc
  go_enter Try.func41, Try.ntmps41
  go_wp2_with (first | (go_at_call 66; refine (HM.out _).mono ?_; rintro e w' ⟨rfl, rfl⟩) | ((with_reducible show wpList _ _ _ (⟨some 30, _, _, _, _, _⟩ :: _) _ _); refine Kit.hold ?_; intro X HX))
  rw [HX.out]; clear HX X
  refine wpList_make_full _ rfl _ _ 25 rfl w.heap.size 3 i0 (.int .i64 0) 1 Try.underlying25 hi hz0 hz1 _ _ _ _ n rfl rfl rfl rfl (by rw [hz2]; omega) (by unfold maxLen; omega) (Nat.le_refl _) ?_
  intro w1 ho hg
  have HO := Lib.hid (show w1.heap[w.heap.size]? = some (.cells (Id.rp x 0 n).toArray 3 (0, 0)) by
    rw [Id.row_full ho]
    have e : (madeCells (Value.int .i64 0).cells (n * 1)).toList = Id.rp x 0 n := by
      simp [madeCells, Id.rp, Id.ints, Value.cells, Nat.mod_one, List.map_const']
    rw [e])
  have HB1 := Lib.hid (show Below w.heap.size w w1 from (Below.refl _ _).grown hg (Nat.le_refl _) (fun k hk => by cases hk))
  have HC1 := Lib.hid (show w1.cell? ad = some (.int .i64 x) from (HB1.out.cell had).trans HC.out)
  clear ho hg
  have hmin : Nat.min 1 n = 1 := Nat.min_eq_left h1
  go_wp2_with ((with_reducible show wpList _ _ _ (⟨some 33, _, _, _, _, _⟩ :: _) _ _); refine Kit.hold ?_; intro X HX)
  rw [HX.out]; clear HX X
  refine wpList_copy_splice rfl _ _ _ _ rfl 3 Try.underlying25 Id.intSize _ _ _ _ _ _ rfl rfl w.heap.size 0 (Id.rp x 0 n) 3 HO.out (Id.ints (List.replicate 1 x)) hmin.symm
    (fun _ => ⟨rfl, ad, rfl, fun j v hj => ?a1⟩) ?a2 ?a3 w.heap.size w HB1.out (Nat.le_refl _) ?_
  case a1 =>
    rcases j with _ | j
    · have : v = .int .i64 x := by simpa [Id.ints] using hj.symm
      rw [this]; simpa [go_sem] using HC1.out
    · simp [Id.ints] at hj
  case a2 => rw [Id.rp_len _ _ _ (Nat.zero_le _)]; simp [Id.ints]; omega
  case a3 => intro v hv; simp [Id.ints] at hv; rw [hv]; rfl
  intro w2 h2 hb2
  have H2 := Lib.hid (show w2.heap[w.heap.size]? = some (.cells (Id.rp x 1 n).toArray 3 (0, 0)) by
    have h := h2.out
    rw [Id.rp_splice x 0 n 1 0 (by omega) (by omega) (by omega)] at h
    exact h)
  have HB2 := Lib.hid hb2
  clear h2 hb2 hmin
  simp only [Id.ints, List.length_map, List.length_replicate, goInt]
  go_wp2_with fail
  go_loopw [8] (fun v8 wr => ∃ m : Nat, v8 = .int .i64 m ∧ 1 ≤ m ∧ m ≤ n ∧ Hid (wr.heap[w.heap.size]? = some (.cells (Id.rp x m n).toArray 3 (0, 0))) ∧ Hid (Below w.heap.size w wr))
    (fun v8 _ => n - (intOf v8).toNat)
  case atStart => exact ⟨1, rfl, Nat.le_refl _, h1, H2.out, HB2.out⟩
  case round =>
    obtain ⟨m, rfl, hm1, hm, HG, HB⟩ := hrel
    by_cases hlt : m < n
    · obtain ⟨k, hk⟩ : ∃ k, k = Nat.min m (n - m) := ⟨_, rfl⟩
      have hk1 : 1 ≤ k ∧ k ≤ m ∧ k ≤ n - m := by have : Nat.min m (n - m) = min m (n - m) := rfl; omega
      have HK := Lib.hid hk
      have hkl : (Id.ints (List.replicate k x)).length = k := by simp [Id.ints]
      have HKL := Lib.hid hkl
      clear hk hkl
      go_wp2_with fail
      obtain ⟨G, hG⟩ : ∃ G, G = w.heap.size := ⟨_, rfl⟩
      rw [← hG] at HG
      rw [← hG]
      have HGL := Lib.hid hG
      clear hG
      refine Kit.wp_region_vals 9 [([(8, none)], none, true), ([(7, none)], none, true), ([(8, none)], none, true), ([(39, some 1), (40, some 2)], none, true), ([(7, none)], none, true), ([(8, none)], none, true), ([(42, some 4), (43, some 5)], none, true), ([(41, some 3), (44, some 6)], none, true), ([(38, some 0), (45, some 7)], none, true)]
        [some 38, some 39, some 40, some 41, some 42, some 43, some 44, some 45, some 46] rfl (by kernel_rfl) (by kernel_rfl) (Id.RE x m n k G) (fun i' v w' => match i' with
        | 0 => v = .int .i64 m
        | 1 => v = .slice (some ⟨G, 0, none⟩) n n
        | 2 => v = .int .i64 m
        | 3 => v = .slice (some ⟨G, m, none⟩) (n - m) (n - m)
        | 4 => v = .slice (some ⟨G, 0, none⟩) n n
        | 5 => v = .int .i64 m
        | 6 => v = .slice (some ⟨G, 0, none⟩) m n
        | 7 => v = .int .i64 k ∧ w'.heap[G]? = some (.cells (Id.rp x (m + k) n).toArray 3 (0, 0))
        | _ => v = .int .i64 ((m + k : Nat) : Int))
        (fun h k => h.trans k) (Id.RE.drew _) (fun _ => Id.RE.refl _) ?_ ?_ ?_
      · intro i' v A B h1 h2 h3
        split at h3 <;> first | exact h3 | exact ⟨h3.1, h2.keep h3.2⟩
      · simp only [List.take_succ_cons, List.take_zero, Kit.StepsV, Kit.VOp, Kit.RdP, true_and, if_true, and_true]
        refine ⟨?_, ?_, ?_, ?_, ?_, ?_, ?_, ?_, ?_⟩
        all_goals intro ev w1 hx1 hv hc hf hg'
        · simp at hv; simp [execOp, hv, go_sem, Kit.UponV, Id.RE.refl]
        · simp at hv; simp [execOp, hv, go_sem, Kit.UponV, Id.RE.refl]
        · simp at hv; simp [execOp, hv, go_sem, Kit.UponV, Id.RE.refl]
        · simp [execOp, hv, hc, go_sem, Kit.UponV, Id.RE.refl]
          rw [if_pos hm, if_neg (by omega)]
          exact ⟨rfl, Id.RE.refl _⟩
        · simp at hv; simp [execOp, hv, go_sem, Kit.UponV, Id.RE.refl]
        · simp at hv; simp [execOp, hv, go_sem, Kit.UponV, Id.RE.refl]
        · simp [execOp, hv, hc, go_sem, Kit.UponV, Id.RE.refl]
          rw [if_pos hm]
          exact ⟨rfl, Id.RE.refl _⟩
        · simp [execOp, hv, hc, go_sem, Kit.UponV, Id.RE.refl]
          have h7 : w1.heap[G]? = some (.cells (Id.rp x m n).toArray 3 (0, 0)) ∨ w1.heap[G]? = some (.cells (Id.rp x (m + k) n).toArray 3 (0, 0)) := by
            rcases hx1.row with h | h
            · exact .inl (h.trans HG.out)
            · exact .inr h
          obtain ⟨w2, e1, e2, e3⟩ := Id.copy_run w1 G m n k x 3 hlt hk1.2.1 hk1.2.2 HK.out h7
          rw [e1]
          exact ⟨⟨rfl, e2⟩, e3⟩
        · simp [execOp, hv, hc, go_sem, Kit.UponV, Id.RE.refl, IntKind.wrap_i64] <;> omega
      · intro vs w1 hv hx1
        have v0 : vs 0 = _ := hv 0 (by omega)
        have v1 : vs 1 = _ := hv 1 (by omega)
        have v2 : vs 2 = _ := hv 2 (by omega)
        have v3 : vs 3 = _ := hv 3 (by omega)
        have v4 : vs 4 = _ := hv 4 (by omega)
        have v5 : vs 5 = _ := hv 5 (by omega)
        have v6 : vs 6 = _ := hv 6 (by omega)
        obtain ⟨v7, h7⟩ := hv 7 (by omega)
        have v8 : vs 8 = _ := hv 8 (by omega)
        clear hv
        simp only [Kit.putD, List.getD_cons_zero, List.getD_cons_succ, Act.put, v0, v1, v2, v3, v4, v5, v6, v7, v8, List.drop_succ_cons, List.drop_zero]
        go_simp
        clear v0 v1 v2 v3 v4 v5 v6 v7 v8
        have H7 := Lib.hid h7
        have HX := Lib.hid hx1
        clear h7 hx1
        obtain rfl := HGL.out
        go_wp2
        go_roundw
        case rel => exact ⟨m + k, by go_num, by omega, by omega, H7.out, HB.out.trans (HX.out.exc.below HB.out.size (fun q hq => by rw [hq]; exact Nat.le_refl _))⟩
        case measure => simp [intOf]; omega
    · obtain rfl : m = n := by omega
      go_wp2
      go_ret
      refine ⟨rfl, ?_, HB.out⟩
      rw [HG.out]
      simp [Id.rp]
end Go.Proofs.Ytdaedjmkolcliaa
