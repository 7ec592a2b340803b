/- Walks: package identity: Same. -/
import Derived.Test.YtdaedjmkolcliaaIdX
import Derived.WalkMore
import Derived.Deep.LoopGhost
namespace Go.Proofs.Ytdaedjmkolcliaa
set_option linter.unusedVariables false
set_option linter.unusedSimpArgs false
open Go.RowKit Go.Shelf

namespace Id
/-- What stands in the list of distances of those that are near. -/
def nx (n : Nat) (g : Nat → Nat → Bool) (j at_ kk k : Nat) : Int := if (decide (k < kk) && g at_ k) = true then dst n g j k else n
theorem nx_upd (n : Nat) (g : Nat → Nat → Bool) (j at_ kk : Nat) (h : g at_ kk = true) : upd (nx n g j at_ kk) kk (dst n g j kk) = nx n g j at_ (kk + 1) := by
  funext k
  unfold upd nx
  by_cases e : k = kk
  · subst e; simp [h]
  · have : decide (k < kk + 1) = decide (k < kk) := by apply decide_eq_decide.2; omega
    simp [e, this]
theorem nx_same (n : Nat) (g : Nat → Nat → Bool) (j at_ kk : Nat) (h : g at_ kk = false) : nx n g j at_ kk = nx n g j at_ (kk + 1) := by
  funext k
  unfold nx
  by_cases e : k = kk
  · subst e; simp [h]
  · have : decide (k < kk + 1) = decide (k < kk) := by apply decide_eq_decide.2; omega
    simp [this]
theorem find_congr {α : Type} {p q : α → Bool} : ∀ {l : List α}, (∀ x ∈ l, p x = q x) → l.find? p = l.find? q
  | [], _ => rfl
  | x :: l, h => by
    rw [List.find?_cons, List.find?_cons, h x (by simp), find_congr (fun y hy => h y (by simp [hy]))]
theorem fst_nx (n : Nat) (g : Nat → Nat → Bool) (hs : ∀ i j, g i j = g j i) (j at_ d : Nat) (hd : d < n) (h : dst n g j at_ = (d : Int) + 1) :
    fst (fun x => x == (d : Int)) 0 ((List.range n).map (nx n g j at_ n)) = (nxt n g j at_ d : Nat) := by
  have h1 := fst_range (nx n g j at_ n) (fun x => x == (d : Int)) n 0
  rw [← List.range_eq_range'] at h1
  rw [h1]
  have e : (List.range n).find? (fun k => nx n g j at_ n k == (d : Int)) = (List.range n).find? (fun k => g at_ k && decide (dst n g j k = (d : Int))) := by
    refine find_congr fun k hk => ?_
    have hk' : k < n := by simpa using hk
    unfold nx
    rcases hg : g at_ k with _ | _
    · simp; omega
    · simp [hk', Bool.beq_eq_decide_eq]
  rw [e]
  unfold nxt
  rcases hf : (List.range n).find? (fun k => g at_ k && decide (dst n g j k = (d : Int))) with _ | k
  · exfalso
    obtain ⟨i, hi, e1, hg⟩ := dst_pred h
    have := List.find?_eq_none.1 hf i (List.mem_range.2 hi)
    rw [hs at_ i, hg, e1] at this
    simp at this
  · rfl
/-- The chain so far, and where it goes on. -/
structure Ch (n : Nat) (g : Nat → Nat → Bool) (j i D d at_ : Nat) (C : List Nat) : Prop where
  all : chn n g j D i = C ++ chn n g j d at_
  dst : Id.dst n g j at_ = (d : Int)
  lt : at_ < n
  len : C.length + d = D
theorem Ch.step {n : Nat} {g : Nat → Nat → Bool} {j i D d at_ : Nat} {C : List Nat} (hs : ∀ i j, g i j = g j i) (h : Ch n g j i D (d + 1) at_ C) : Ch n g j i D d (nxt n g j at_ d) (C ++ [at_]) := by
  have h1 := nxt_ok hs (show Id.dst n g j at_ = (d : Int) + 1 by have := h.dst; simpa using this)
  refine ⟨?_, h1.2.2, h1.1, ?_⟩
  · rw [h.all]; simp [chn]
  · have := h.len; simp; omega
/-- What Same says. -/
def smB (lim : Int) (L : List (List Sg)) (i j : Int) : Bool := decide (aE lim L i j = 0) && decide (0 ≤ Id.dst L.length (gr lim L) j.toNat i.toNat)
def chain (lim : Int) (L : List (List Sg)) (i j : Int) : List Nat := chn L.length (gr lim L) j.toNat (Id.dst L.length (gr lim L) j.toNat i.toNat).toNat i.toNat
def SmP (lim : Int) (L : List (List Sg)) (i j : Int) (W : World) (e : Ending) (w' : World) : Prop := Below W.heap.size W w' ∧ if smB lim L i j = true then ∃ a c, e = .returned (.tuple #[.slice a (chain lim L i j).length c, .bool true, .int .i64 0]) ∧ Tp.Sl w' a (chain lim L i j).length 1 (nc (chain lim L i j))
  else e = .returned (.tuple #[.slice none 0 0, .bool false, .int .i64 (aE lim L i j)])
theorem first_s (n : Nat) (b : Nat → Int) (G : Nat) (w : World) (h : AtA w G n b) (hn : n ≤ 1000000) (left : Int) (B : Nat) (hc : w.cell? ⟨B, 0, none⟩ = some (.int .i64 left)) :
    Calls Try.prog 42 #[.slice (some ⟨G, 0, none⟩) n n, .func (.func 43) #[] #[.pointer (some ⟨B, 0, none⟩)]] w fun e w' => e = .returned (.int .i64 (fst (fun x => x == left) 0 ((List.range n).map b))) ∧ w = w' := by
  have hl : ((List.range n).map b).length = n := by simp
  have hs : Tp.Sl w (some ⟨G, 0, none⟩) n 1 (ic ((List.range n).map b)) := by
    refine .inr ⟨_, rfl, h.lt, fun i j hi hj => ?_⟩
    obtain rfl : j = 0 := by omega
    have e : (⟨G, 0, none⟩ : Addr).add (i * 1 + 0) = ⟨G, i, none⟩ := by unfold Addr.add; split <;> simp_all
    rw [e, h.cell hi]
    simp [ic, hi]
  have h1 := id_first_s ((List.range n).map b) (some ⟨G, 0, none⟩) n w (by rw [hl]; exact hs) (by rw [hl]; exact hn) left B hc
  rw [hl] at h1
  exact h1
end Id
set_option maxRecDepth 100000 in
set_option maxHeartbeats 8000000 in
theorem id_same (lim : Int) (a : Option Addr) (L : List (List Id.Sg)) (c : Nat) (i j : Int) (w : World) (hS : Id.Sls w a 14 Id.sgc L) (hl : L.length ≤ 1000000) (hl2 : ∀ x ∈ L, x.length ≤ 4611686018427387904) :
    Calls Try.prog 18 #[.slice a L.length c, .int .i64 lim, .int .i64 i, .int .i64 j] w (Id.SmP lim L i j w) := by
  have HA := Lib.hid (fun W hS => id_ask lim a L c i j j (.inr rfl) W hS hl hl2)
  have HS := Lib.hid hS
  clear hS hl2
  go_enter Try.func18, Try.ntmps18
  go_wp2_with fail
  refine (HA.out _ HS.out).mono ?_
  rintro e w1 ⟨hb, he⟩
  have HB1 := Lib.hid hb
  clear hb HA
  by_cases h0 : Id.aE lim L i j = 0
  · rw [if_pos h0] at he
    obtain ⟨aV, cV, G, rfl, hg, hA, hz⟩ := he
    have hr : 0 ≤ i ∧ i < L.length ∧ 0 ≤ j ∧ j < L.length ∧ L.length ≤ 16 := by
      unfold Id.aE at h0
      split at h0
      · rename_i ht
        have : L.length ≤ 16 := by
          unfold Id.tE at ht
          split at ht
          · cases ht
          · omega
        split at h0
        · rename_i h; simp only [Id.inR, Bool.and_eq_true, decide_eq_true_eq] at h; omega
        · cases h0
      · rename_i h; exact absurd h0 h
    obtain ⟨q, rfl⟩ : ∃ q : Nat, i = q := ⟨i.toNat, by omega⟩
    obtain ⟨r, rfl⟩ : ∃ r : Nat, j = r := ⟨j.toNat, by omega⟩
    simp only [Int.toNat_natCast] at hA
    obtain ⟨_, hqn, _, hrn, hn16⟩ := hr
    have HSM := Lib.hid (show Id.smB lim L q r = decide (0 ≤ Id.dst L.length (Id.gr lim L) r q) by simp [Id.smB, h0])
    have HCH := Lib.hid (show Id.chain lim L q r = Id.chn L.length (Id.gr lim L) r (Id.dst L.length (Id.gr lim L) r q).toNat q by simp [Id.chain])
    have HE := Lib.hid h0
    have HCM := Lib.hid (fun i k => Id.gr_comm lim L i k)
    have HG := Lib.hid hg
    have HAT := Lib.hid hA
    clear h0 hg hA
    generalize hgg : Id.gr lim L = g at HG HAT HSM HCH HCM
    have HGG := Lib.hid hgg
    clear hgg
    generalize hnn : L.length = n at HG HAT hn16 hl HSM HCH hqn hrn ⊢
    have HNN := Lib.hid hnn
    clear hnn
    have hqn' : q < n := by omega
    have hrn' : r < n := by omega
    have e0 := HAT.out.cell hqn'
    rcases hd : decide (Id.dst n g r q < 0) with _ | _
    case true =>
      have h1 : decide (0 ≤ Id.dst n g r q) = false := by simp at hd ⊢; exact hd
      rw [h1] at HSM
      clear h1
      go_wp2
      go_ret3
      refine ⟨HB1.out, ?_⟩
      rw [HSM.out, if_neg (by simp), HE.out]
      rfl
    case false =>
      have h1 : decide (0 ≤ Id.dst n g r q) = true := by simp at hd ⊢; exact hd
      rw [h1] at HSM
      have h2 := of_decide_eq_true h1
      have h3 := Id.dst_lt (g := g) hrn' hqn'
      obtain ⟨D, hD⟩ : ∃ D : Nat, Id.dst n g r q = D := ⟨(Id.dst n g r q).toNat, by omega⟩
      have HC0 := Lib.hid (show Id.Ch n g r q D D q [] from ⟨by simp, hD, hqn', by simp⟩)
      rw [hD] at e0 HCH h3
      have HDD := Lib.hid hD
      clear h1 h2 hd hD
      have d1 : decide ((D : Int) < 0) = false := by simp
      have hbD : D < n := by omega
      simp only [Int.toNat_natCast] at HCH
      have hzG := HAT.out.lt
      go_wp2_with fail
      refine Kit.wp_name ?_
      intro W0 hW0
      have hsz0 : W0.heap.size = w1.heap.size + 2 := by rw [hW0]; simp
      have HO0 := Lib.hid (show Kit.Gw w1 3 1 (.slice (some ⟨w1.heap.size, 0, none⟩) 1 1) 1 (Id.nats [q]) W0 by
        rw [hW0]
        exact (show Kit.Gw w1 3 1 (.slice (some ⟨w1.heap.size, 0, none⟩) 1 1) 1 (Id.nats [q]) (w1.alloc (.cells #[.int .i64 (q : Int)] 3)) from ⟨World.ownsRow_lit w1 #[.int .i64 (q : Int)] 1 (Nat.le_refl _) (by unfold maxLen; omega) rfl, (Below.refl _ _).alloc (Nat.le_refl _) _⟩).alloc _)
      have HCB := Lib.hid (show W0.cell? ⟨w1.heap.size + 1, 0, none⟩ = some (.int .i64 ((D : Int) - 1)) by rw [hW0]; simp [go_sem])
      have HFB := Lib.hid (show W0.frozen? ⟨w1.heap.size + 1, 0, none⟩ = false by rw [hW0]; simp [go_sem])
      clear hW0
      go_loopg [8, 13] D (fun m v8 v13 wr => ∃ (at_ : Nat) (C : List Nat) (B gC cC : Nat), v8 = .slice (some ⟨gC, 0, none⟩) (C.length + 1) cC ∧ v13 = .pointer (some ⟨B, 0, none⟩) ∧ B < wr.heap.size ∧ gC ≠ B ∧ w1.heap.size ≤ B ∧ Hid (Id.Ch n g r q D m at_ C) ∧ Hid (Kit.Gw w1 3 1 v8 (C.length + 1) (Id.nats (C ++ [at_])) wr) ∧ Hid (wr.cell? ⟨B, 0, none⟩ = some (.int .i64 ((m : Int) - 1))) ∧ Hid (wr.frozen? ⟨B, 0, none⟩ = false))
      case atStart => exact ⟨q, [], w1.heap.size + 1, w1.heap.size, 1, rfl, rfl, by omega, by omega, by omega, HC0.out, HO0.out, HCB.out, HFB.out⟩
      case round =>
        obtain ⟨at_, C, B, gC, cC, rfl, rfl, hBs, hgB, hBw, HCC, HO, HBX, HFX⟩ := hrel
        rcases gk with _ | d
        · have cB : wr.cell? ⟨B, 0, none⟩ = some (.int .i64 (-1)) := by rw [HBX.out]; rfl
          have HAL := Lib.hid (show Id.chn n g r D q = C ++ [at_] by rw [HCC.out.all]; rfl)
          have hq := Id.nats_nc (C ++ [at_])
          rw [show (C ++ [at_]).length = C.length + 1 by simp] at hq
          have HSB := Lib.hid (Id.own_sl HO.out.own hq).1
          clear hq
          go_wp2
          go_ret3
          refine ⟨HB1.out.trans (HO.out.bel.mono HB1.out.size), ?_⟩
          rw [HSM.out, if_pos rfl, HCH.out, HAL.out, List.length_append]
          exact ⟨_, cC, rfl, HSB.out⟩
        · have cB : wr.cell? ⟨B, 0, none⟩ = some (.int .i64 (d : Int)) := by rw [HBX.out]; congr 2; omega
          have hat : at_ < n := HCC.out.lt
          have hcl : C.length + (d + 1) = D := HCC.out.len
          have hcl2 : C.length ≤ 16 := by omega
          have e1 : wr.cell? ⟨gC, C.length, none⟩ = some (.int .i64 (at_ : Int)) := by
            rw [HO.out.own.cellAt C.length (by omega)]; simp [Id.nats]
          obtain ⟨adg, rfl, hadg, ai, ci, e2, hsl⟩ := (HG.out.kept HO.out.bel (Nat.le_refl _)).at (i := at_) (by rw [Id.tabB_len]; exact hat)
          rw [Id.tabB_get _ _ _ _ hat, Id.rowB_len] at e2 hsl
          have HSR := Lib.hid hsl
          clear hsl
          have hrs : w1.heap.size ≤ wr.heap.size := HO.out.size
          go_wp2_with fail
          refine (sl_repeat n n (by omega) (by omega) ⟨wr.heap.size, 0, none⟩ _ (wr.alloc (.cells #[.int .i64 (n : Int)] 3)) (by simp [go_sem]) (by simp)).mono ?_
          rintro e w2 ⟨rfl, hA2, hb2⟩
          have hzz : (wr.alloc (.cells #[.int .i64 (n : Int)] 3)).heap.size = wr.heap.size + 1 := by simp
          rw [hzz] at hA2 ⊢
          obtain ⟨G2, hG2⟩ : ∃ G2, G2 = wr.heap.size + 1 := ⟨_, rfl⟩
          rw [← hG2] at hA2 ⊢
          have hGr : wr.heap.size < G2 := by omega
          have HB2 := Lib.hid (show Below wr.heap.size wr w2 from ((Below.refl _ _).alloc (Nat.le_refl _) _).trans (hb2.mono (by simp)))
          have HA2 := Lib.hid (show Id.AtA w2 G2 n (Id.nx n g r at_ 0) by
            rw [show Id.nx n g r at_ 0 = fun _ => (n : Int) from by funext k; simp [Id.nx]]
            unfold Id.AtA
            rw [← Id.rowA_rep]
            exact hA2)
          have HST := Lib.hid (HCC.out.step HCM.out)
          have HFS := Lib.hid (Id.fst_nx n g HCM.out r at_ d (by omega) (by have := HCC.out.dst; simpa using this))
          clear hA2 hb2 hzz hG2 e1 e2
          go_wp2_with fail
          go_loopw [66] (fun v66 wx => ∃ k : Nat, v66 = .int .i64 k ∧ k ≤ n ∧ Hid (Id.AtA wx G2 n (Id.nx n g r at_ k)) ∧ Hid (Below wr.heap.size wr wx))
            (fun v66 _ => n - (intOf v66).toNat)
          case atStart => exact ⟨0, rfl, Nat.zero_le _, HA2.out, HB2.out⟩
          case round =>
            obtain ⟨k, rfl, hk, HAX, HBY⟩ := hrel
            rename World => wx
            by_cases hkn : k < n
            · obtain ⟨adr, rfl, hadr, _⟩ := HSR.out.at hkn
              have e3 : wx.cell? (adr.add k) = some (.bool (g at_ k)) := by
                have h := (HSR.out.kept HBY.out (Nat.le_refl _)).head hkn (by omega)
                rw [Nat.mul_one] at h
                rw [h]
                show some (Value.bool ((Id.rowB n g at_).getD k false)) = _
                rw [Id.rowB_get _ _ _ _ hkn]
              have hzG2 : G < wr.heap.size := by omega
              have e4 : wx.cell? ⟨G, k, none⟩ = some (.int .i64 (Id.dst n g r k)) := (HBY.out.cell (by exact hzG2)).trans ((HO.out.bel.cell (by exact hzG)).trans (HAT.out.cell hkn))
              have fc := HAX.out.cell hkn
              have ff := HAX.out.frozen k
              rcases hg : g at_ k with _ | _
              · rw [hg] at e3
                have HNX := Lib.hid (Id.nx_same n g r at_ k hg)
                clear hg
                go_wp2_with fail
                go_roundw
                case rel => exact ⟨k + 1, by go_num, by omega, by rw [← HNX.out]; exact HAX.out, HBY.out⟩
                case measure => simp [intOf]; omega
              · rw [hg] at e3
                have HNX := Lib.hid (Id.nx_upd n g r at_ k hg)
                clear hg
                generalize Id.dst n g r k = x at e4 HNX
                go_wp2_with fail
                go_roundw
                case rel => exact ⟨k + 1, by go_num, by omega, by rw [← HNX.out]; exact HAX.out.set k x, HBY.out.setCell (by exact Nat.le_of_lt hGr) _⟩
                case measure => simp [intOf]; omega
            · obtain rfl : k = n := by omega
              have cB2 : wx.cell? ⟨B, 0, none⟩ = some (.int .i64 (d : Int)) := (HBY.out.cell (by exact hBs)).trans cB
              have HOX := Lib.hid (HO.out.thn HBY.out)
              go_wp2_with fail
              refine (Id.first_s k _ G2 _ HAX.out hl (d : Int) B cB2).mono ?_
              rintro _ w3 ⟨rfl, rfl⟩
              rw [HFS.out]
              generalize Id.nxt k g r at_ d = x at HST ⊢
              have hBx : B < wx.heap.size := Nat.lt_of_lt_of_le hBs HBY.out.size
              go_wp2_with (at_builtin; refine Kit.wpList_app Id.elI _ rfl _ _ rfl _ _ _ (HOX.out.alloc _) rfl (by omega) ⟨wx.heap.size, 0, none⟩ 1 [.int .i64 (x : Nat)] rfl rfl (fun j u hu => Kit.lit_at _ _ _ rfl j u hu) (by simp [Value.oneCell']) ?_; intro v' w5 ho hg; have HO3 := Lib.hid ho; have HG3 := Lib.hid hg; clear ho hg; have hb5 : w5.heap[B]? = wx.heap[B]? := (HG3.out.block B (by simp; omega) (fun e => hgB (by have := Option.some.inj e; exact this.symm))).trans (Below.heap_alloc _ _ _ hBx); have cB5 : w5.cell? ⟨B, 0, none⟩ = some (.int .i64 (d : Int)) := (World.cell?_of_block hb5).trans cB2; have hz5 : wx.heap.size < w5.heap.size := (by have := HG3.out.size; simp at this; omega); obtain ⟨g5, c5, rfl⟩ := ownsRow_succ HO3.out.own; have hg5 := (HO3.out.own.lt g5 rfl).2; clear hb5)
              go_roundg d
              case measure => omega
              case rel =>
                have hne : g5 ≠ w5.heap.size := by omega
                refine ⟨x, C ++ [at_], w5.heap.size, g5, c5, by simp, rfl, by simp [World.setCell], hne, by omega, HST.out, ?_, ?_, ?_⟩
                · have h1 := (HO3.out.alloc (.cells #[.int .i64 ((d : Int) - 1)] 3))
                  rw [show (C ++ [at_]).length + 1 = C.length + 1 + 1 by simp]
                  exact Lib.hid (by simpa [Id.nats] using h1)
                · exact Lib.hid (by simp [go_sem])
                · exact Lib.hid (by simp [go_sem])
  · rw [if_neg h0] at he
    subst he
    have HAP := Lib.hid (show Id.smB lim L i j = false by simp [Id.smB, h0])
    obtain ⟨q, hq⟩ : ∃ q, Id.aE lim L i j = q := ⟨_, rfl⟩
    rw [hq] at h0
    rw [hq]
    have HQ := Lib.hid hq
    have q1 : (q != 0) = true := by simpa using h0
    clear hq h0
    go_wp2
    go_ret3
    refine ⟨HB1.out, ?_⟩
    rw [HAP.out, if_neg (by simp), HQ.out]
    rfl
end Go.Proofs.Ytdaedjmkolcliaa
