/- Walks: package identity: Works. -/
import Derived.Test.YtdaedjmkolcliaaIdW
import Derived.Test.YtdaedjmkolcliaaIdq
namespace Go.Proofs.Ytdaedjmkolcliaa
set_option linter.unusedVariables false
set_option linter.unusedSimpArgs false
open Go.RowKit Go.Shelf

namespace Id
theorem fst_range (f : Nat → Int) (p : Int → Bool) : ∀ m s : Nat, fst p s ((List.range' s m).map f) = match (List.range' s m).find? (fun k => p (f k)) with | some k => (k : Int) | none => -1
  | 0, s => rfl
  | m + 1, s => by
    rw [List.range'_succ]
    simp only [List.map_cons, fst, List.find?_cons]
    rcases h : p (f s) with _ | _
    · simp only [Bool.false_eq_true, if_false]
      exact fst_range f p m (s + 1)
    · simp
theorem fst_dsts (n : Nat) (g : Nat → Nat → Bool) (i : Nat) (hi : i < n) : fst (fun d => decide (0 ≤ d)) 0 (dsts n g i) = (wrk n g i : Nat) := by
  have h := fst_range (dst n g i) (fun d => decide (0 ≤ d)) n 0
  rw [show dsts n g i = (List.range' 0 n).map (dst n g i) from by rw [← List.range_eq_range']; rfl, h]
  unfold wrk
  rw [List.range_eq_range']
  rcases hf : (List.range' 0 n).find? (fun k => decide (0 ≤ dst n g i k)) with _ | k
  · exfalso
    rw [List.find?_eq_none] at hf
    exact hf i (by simp; omega) (by simp [dst_to])
  · rfl
theorem first_d (n : Nat) (g : Nat → Nat → Bool) (i G : Nat) (w : World) (h : AtA w G n (dst n g i)) (hn : n ≤ 1000000) (hi : i < n) :
    Calls Try.prog 42 #[.slice (some ⟨G, 0, none⟩) n n, .func (.func 48) #[] #[]] w fun e w' => e = .returned (.int .i64 (wrk n g i : Nat)) ∧ w = w' := by
  have h1 := id_first_w (dsts n g i) (some ⟨G, 0, none⟩) n w (by rw [dsts_len]; exact h.sl) (by rw [dsts_len]; exact hn)
  rw [dsts_len, fst_dsts n g i hi] at h1
  exact h1
/-- What Works says. -/
def wrks (n : Nat) (g : Nat → Nat → Bool) : List Nat := (List.range n).map (wrk n g)
theorem wrks_len (n : Nat) (g : Nat → Nat → Bool) : (wrks n g).length = n := by simp [wrks]
def WkP (lim : Int) (L : List (List Sg)) (W : World) (e : Ending) (w' : World) : Prop := Below W.heap.size W w' ∧ if tE lim L = 0 then ∃ a c, e = .returned (.tuple #[.slice a L.length c, .int .i64 0]) ∧ Tp.Sl w' a L.length 1 (nc (wrks L.length (gr lim L)))
  else e = .returned (.tuple #[.slice none 0 0, .int .i64 (tE lim L)])
end Id
set_option maxRecDepth 100000 in
set_option maxHeartbeats 4000000 in
theorem id_works (lim : Int) (a : Option Addr) (L : List (List Id.Sg)) (c : Nat) (w : World) (hS : Id.Sls w a 14 Id.sgc L) (hl : L.length ≤ 1000000) (hl2 : ∀ x ∈ L, x.length ≤ 4611686018427387904) :
    Calls Try.prog 22 #[.slice a L.length c, .int .i64 lim] w (Id.WkP lim L w) := by
  have HT := Lib.hid (fun W hS => id_table lim a L c W hS hl hl2)
  have HS := Lib.hid hS
  clear hS hl2
  go_enter Try.func22, Try.ntmps22
  go_wp2_with fail
  refine (HT.out _ HS.out).mono ?_
  rintro e w1 ⟨hb, he⟩
  have HB1 := Lib.hid hb
  clear hb HT
  by_cases h0 : Id.tE lim L = 0
  · rw [if_pos h0] at he
    obtain ⟨aV, cV, rfl, hs⟩ := he
    have HG := Lib.hid hs
    have hn16 : L.length ≤ 16 := by
      unfold Id.tE at h0
      split at h0
      · cases h0
      · omega
    have HE := Lib.hid h0
    clear h0 hs
    generalize hgg : Id.gr lim L = g at HG
    have HGG := Lib.hid hgg
    clear hgg
    generalize hnn : L.length = n at HG hn16 hl ⊢
    have HNN := Lib.hid hnn
    clear hnn
    have HWT := Lib.hid (show ∀ k, k < n → (Id.wrks n g).take (k + 1) = (Id.wrks n g).take k ++ [Id.wrk n g k] from fun k hk => by
      rw [Id.take_snoc _ k (by rw [Id.wrks_len]; exact hk) (Id.wrk n g k) (by simp [Id.wrks, List.getD, hk])])
    go_wp2_with fail
    go_loopw [4, 19] (fun v4 v19 wr => ∃ k : Nat, v19 = .int .i64 k ∧ k ≤ n ∧ Hid (Kit.Gw w1 3 1 v4 k (Id.nats ((Id.wrks n g).take k)) wr))
      (fun _ v19 _ => n - (intOf v19).toNat)
    case atStart => exact ⟨0, rfl, Nat.zero_le _, Kit.Gw.start _ _ _⟩
    case round =>
      obtain ⟨k, rfl, hk, HO⟩ := hrel
      by_cases hlt : k < n
      · have HTT := Lib.hid (HWT.out k hlt)
        go_wp2_with fail
        refine (id_steps n g k aV cV _ (HG.out.kept HO.out.bel (Nat.le_refl _)) hn16 hlt).mono ?_
        rintro _ w2 ⟨⟨G, rfl, hzG, hA⟩, hb2⟩
        have HO2 := Lib.hid (HO.out.thn hb2)
        have HAA := Lib.hid hA
        clear hb2 hA
        go_wp2_with fail
        refine (Id.first_d n g k G _ HAA.out hl hlt).mono ?_
        rintro _ w3 ⟨rfl, rfl⟩
        generalize Id.wrk n g k = x at HTT ⊢
        go_wp2_with (at_builtin; refine Kit.wpList_app Id.elI _ rfl _ _ rfl _ _ _ (HO2.out.alloc _) rfl (by omega) ⟨w2.heap.size, 0, none⟩ 1 [.int .i64 (x : Nat)] rfl rfl (fun j u hu => Kit.lit_at _ _ _ rfl j u hu) (by simp [Value.oneCell']) ?_; intro v' w5 ho hg; have HO3 := Lib.hid ho; clear ho hg)
        go_roundw
        case rel => exact ⟨k + 1, by go_num, by omega, by rw [HTT.out]; exact Lib.hid (by simpa [Id.nats] using HO3.out)⟩
        case measure => simp [intOf]; omega
      · obtain rfl : k = n := by omega
        have HL := Lib.hid (Id.wrks_len k g)
        rw [show (Id.wrks k g).take k = Id.wrks k g from List.take_of_length_le (by rw [HL.out]; exact Nat.le_refl _)] at HO
        obtain ⟨aX, cX, rfl⟩ := HO.out.shape
        have ho := HO.out.own
        have hq := Id.nats_nc (Id.wrks k g)
        rw [HL.out] at hq
        have HSB := Lib.hid (Id.own_sl ho hq).1
        clear ho hq
        go_wp2
        go_ret2
        refine ⟨HB1.out.trans (HO.out.bel.mono HB1.out.size), ?_⟩
        rw [HE.out, if_pos rfl, HNN.out, HGG.out]
        exact ⟨aX, cX, rfl, HSB.out⟩
  · rw [if_neg h0] at he
    subst he
    obtain ⟨q, hq⟩ : ∃ q, Id.tE lim L = q := ⟨_, rfl⟩
    rw [hq] at h0
    rw [hq]
    have HQ := Lib.hid hq
    have q1 : (q != 0) = true := by simpa using h0
    have HH := Lib.hid h0
    clear hq h0
    go_wp2
    go_ret2
    refine ⟨HB1.out, ?_⟩
    rw [HQ.out, if_neg HH.out]
    rfl
end Go.Proofs.Ytdaedjmkolcliaa
