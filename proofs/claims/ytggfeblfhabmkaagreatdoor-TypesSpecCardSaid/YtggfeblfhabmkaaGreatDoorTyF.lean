/- Walks: package types: the iterator of pairs. -/
import Derived.Test.YtggfeblfhabmkaaGreatDoorTyE
import Derived.Test.YtggfeblfhabmkaaGreatDoorKitp
import Derived.LoopIn
import Derived.Maps.OwnIn
namespace Go.Proofs.YtggfeblfhabmkaaGreatDoor
set_option linter.unusedVariables false
set_option linter.unusedSimpArgs false
open Go.RowKit Go.Shelf
attribute [local go_sem] Oper.semAt_some
theorem Ty.wide_fn (f : FuncId) : Fence.wide.fn f = True := rfl
attribute [local go_sem] Ty.wide_fn

abbrev Ty.zS : Value := .agg #[.int .i64 0, .int .i64 0, .int .i64 0, .int .i64 0, .int .i64 0, .int .i64 0, .int .i64 0, .int .i64 0, .int .i64 0, .int .i64 0, .int .i64 0, .int .i64 0, .int .i64 0, .int .i64 0]
theorem Ty.infoS : (Tryz.prog.info? 44).map (fun i => (i.zero, i.size, i.bytes)) = some (some Ty.zS, 14, 112) := by kernel_rfl
abbrev Ty.encP (x : Ex.Sg × Ex.Sg) : Array Value := #[Ex.sgV x.1, Ex.sgV x.2]
theorem Ty.sl_exc {A W : World} {a : Option Addr} {n k : Nat} {f : Nat → Nat → Value} {S : Nat → Prop} (h : Tp.Sl A a n k f) (hx : Kit.Exc S A W) (hS : n ≠ 0 → ∀ ad, a = some ad → ¬ S ad.block) : Tp.Sl W a n k f := by
  by_cases hn : n = 0
  · exact .inl hn
  replace hS := hS hn
  rcases h with h | ⟨ad, h1, h2, h3⟩
  · exact .inl h
  · exact .inr ⟨ad, h1, Nat.lt_of_lt_of_le h2 hx.size, fun i j hi hj => hx.cell (h3 i j hi hj) (by rw [Tp.add_block]; exact hS ad h1) (by rw [Tp.add_block]; exact h2)⟩
/-- What lies in the iterator's hands between two yields. -/
structure Ty.It (Bl : Nat) (aG : Option Addr) (cG : Nat) (l : List Ex.Sg) (s ln i : Nat) (f : List Int → Value) (Y : Nat → Prop) (W : World) : Prop where
  box : Boxed W Bl 30 (.slice aG l.length cG)
  sl : Tp.Sl W aG l.length 14 (Ex.sgc l)
  grp : Ty.Grp s s (l.take i) W f
  yb : ∀ k, Y k → k ≠ Bl ∧ (l ≠ [] → ∀ ad, aG = some ad → k ≠ ad.block) ∧ k ≠ s ∧ ∀ xs, (f xs).ownBlock ≠ some k
  bl : Bl < s ∧ (l ≠ [] → ∀ ad, aG = some ad → ad.block < s) ∧ ln < s
  yl : ∀ k, Y k → k < W.heap.size
theorem Ty.It.keep {Bl : Nat} {aG : Option Addr} {cG : Nat} {l : List Ex.Sg} {s ln i : Nat} {f : List Int → Value} {Y Y' : Nat → Prop} {A W : World} {S : Nat → Prop} (h : Ty.It Bl aG cG l s ln i f Y A) (hx : Kit.Exc S A W)
    (hS : ∀ k, S k → k ≠ Bl ∧ (l ≠ [] → ∀ ad, aG = some ad → k ≠ ad.block) ∧ k ≠ s ∧ ∀ xs, (f xs).ownBlock ≠ some k) (hY : ∀ k, Y' k → Y k ∨ A.heap.size ≤ k) (hYl : ∀ k, Y' k → k < W.heap.size) : Ty.It Bl aG cG l s ln i f Y' W := by
  refine ⟨hx.boxed h.box (fun k => (hS _ k).1 rfl), Ty.sl_exc h.sl hx (fun hn ad e k => (hS _ k).2.1 (fun e => hn (by rw [e]; rfl)) ad e rfl), h.grp.keep hx (fun k => (hS _ k).2.2.1 rfl) (fun xs g e k => (hS _ k).2.2.2 xs e), fun k hk => ?_, h.bl, hYl⟩
  rcases hY k hk with h1 | h1
  · exact h.yb k h1
  · have h2 := h.grp.map.lt
    have h3 := h.bl
    refine ⟨by omega, fun hn ad e => by have := h3.2.1 hn ad e; omega, by omega, fun xs e => ?_⟩
    have := ((h.grp.row xs).lt k e).2
    omega

set_option maxRecDepth 100000 in
set_option maxHeartbeats 2000000 in
theorem ty_pairs_iter (n : Nat) (hn : 1 ≤ n) (Bl : Nat) (aG : Option Addr) (cG : Nat) (l : List Ex.Sg) (w : World) (hlen : l.length ≤ 4096) (hwf : ∀ s ∈ l, Kit.wfI s.role ∧ Kit.wfI s.bar)
    (bL : Boxed w Bl 30 (.slice aG l.length cG)) (hS : Tp.Sl w aG l.length 14 (Ex.sgc l)) (hb : l ≠ [] → ∀ ad, aG = some ad → ad.block < w.heap.size) :
    Kit.SeqR Fence.wide n Tryz.prog 37 #[.pointer (some ⟨Bl, 0, none⟩)] Ty.encP (fun _ => False) (fun k => k = Bl ∨ (l ≠ [] ∧ ∃ ad, aG = some ad ∧ k = ad.block)) (fun xs => xs = Ty.prs [] l)
      (fun _ => True) (fun pre x => ∃ rest, Ty.prs [] l = pre ++ x :: rest) w := by
  intro ln J Jx Y0 W hW hl1 hl2 hY0 hJ hJx hY h0
  have zB := bL.lt
  have XW : Kit.Exc (fun _ => False) w W := Kit.Exc.of_below hW (fun b h1 h2 => by omega)
  replace bL : Boxed W Bl _ _ := XW.boxed bL (fun h => h)
  replace hS := Ty.sl_exc hS XW (fun _ _ _ h => h)
  have cL := bL.cell
  replace hY := Lib.hid hY
  replace hJ := Lib.hid hJ
  replace hJx := Lib.hid hJx
  replace hY0' := Lib.hid hY0
  have sW := hW.size
  have zBW : Bl < W.heap.size := by omega
  refine callsIn_of_wp Tryz.func37 rfl trivial ?_ rfl
  simp only [Tryz.ntmps37, List.size_toArray, List.length_cons, List.length_nil, Nat.reduceAdd, Nat.reduceSub, Array.replicate_succ, Array.replicate_zero, List.push_toArray, List.append_toArray, List.nil_append, List.cons_append]
  have hmm := @run_makeMap Tryz.prog
  gi_wp2
  clear hmm
  gi_loopw [12] (fun v12 wr => ∃ (i : Nat) (pre : List (Ex.Sg × Ex.Sg)) (Y : Nat → Prop) (f : List Int → Value), v12 = .int .i64 i ∧ i ≤ l.length ∧ J pre Y wr ∧ W.heap.size < wr.heap.size ∧ pre = Ty.prs [] (l.take i) ∧ Ty.It Bl aG cG l W.heap.size ln i f Y wr)
    (fun v12 _ => l.length - (intOf v12).toNat)
  case atStart =>
    have X0 : ∀ S, Kit.Exc S W (W.alloc (.map #[] 0)) := fun S => (Kit.Exc.refl S W).alloc _
    refine ⟨0, [], Y0, fun _ => .slice none 0 0, rfl, Nat.zero_le _, hJ.out _ _ _ _ h0 (X0 _), by simp, rfl, (X0 (fun _ => False)).boxed bL (fun h => h), Ty.sl_exc hS (X0 (fun _ => False)) (fun _ _ _ h => h), ⟨Kit.VMap.made _ _ _ _ _ rfl _, fun xs => ?_, fun _ _ _ _ h => (by cases h), fun _ h => (by cases h), Nat.le_refl _⟩, fun k hk => ?_, ⟨by omega, fun hn ad e => by have := hb hn ad e; omega, by omega⟩, fun k hk => by have := (hY0'.out k hk).1; simp; omega⟩
    · exact World.ownsRow_nil _ _ _ _
    · have h1 := hY0'.out k hk
      refine ⟨fun e => h1.2.2 (.inl e), fun hn ad e e2 => h1.2.2 (.inr ⟨hn, ad, e, e2⟩), by omega, fun _ h => by cases h⟩
  case round =>
    obtain ⟨i, pre, Y, f, rfl, hi, hj, hsz, hpre, hit⟩ := hrel
    by_cases hlt : i < l.length
    · have hln : l ≠ [] := by rintro rfl; simp at hlt
      obtain ⟨ay, rfl, hay, _⟩ := hit.sl.at hlt
      have HSl := hit.sl
      have e0 := HSl.head hlt (by omega)
      have e1 := HSl.field hlt (j := 1) (by omega) (by omega)
      have e2 := HSl.field hlt (j := 2) (by omega) (by omega)
      have e3 := HSl.field hlt (j := 3) (by omega) (by omega)
      have e4 := HSl.field hlt (j := 4) (by omega) (by omega)
      have e5 := HSl.field hlt (j := 5) (by omega) (by omega)
      have e6 := HSl.field hlt (j := 6) (by omega) (by omega)
      have e7 := HSl.field hlt (j := 7) (by omega) (by omega)
      have e8 := HSl.field hlt (j := 8) (by omega) (by omega)
      have e9 := HSl.field hlt (j := 9) (by omega) (by omega)
      have e10 := HSl.field hlt (j := 10) (by omega) (by omega)
      have e11 := HSl.field hlt (j := 11) (by omega) (by omega)
      have e12 := HSl.field hlt (j := 12) (by omega) (by omega)
      have e13 := HSl.field hlt (j := 13) (by omega) (by omega)
      clear HSl
      obtain ⟨x, hx⟩ : ∃ x, l.getD i default = x := ⟨_, rfl⟩
      simp only [Ex.sgc, hx] at e0 e1 e2 e3 e4 e5 e6 e7 e8 e9 e10 e11 e12 e13
      have hxi : l[i]? = some x := by rw [← hx, List.getD_eq_getElem?_getD, List.getElem?_eq_getElem hlt]; rfl
      have hxw := hwf x (List.mem_of_getElem? hxi)
      obtain ⟨va, vc, hv, hvs, hvb⟩ : ∃ va c, f (Ty.key x) = .slice va (Ty.grp (l.take i) (Ty.key x)).length c ∧ Tp.Sl wr va (Ty.grp (l.take i) (Ty.key x)).length 14 (Ex.sgc (Ty.grp (l.take i) (Ty.key x))) ∧ (∀ ad, va = some ad → (f (Ty.key x)).ownBlock = some ad.block) := by
        rcases Ty.row_sl (hit.grp.row (Ty.key x)) with ⟨e1, e2⟩ | ⟨g, c, e1, e2, e3, e4⟩
        · exact ⟨none, 0, by rw [e1]; exact e2, .inl (by rw [e1]; rfl), fun _ h => by cases h⟩
        · exact ⟨_, _, e1, e4, fun ad h => by cases h; rw [e1]; rfl⟩
      obtain ⟨G, hG⟩ : ∃ G, G = Ty.grp (l.take i) (Ty.key x) := ⟨_, rfl⟩
      rw [← hG] at hv hvs
      have hGl : G.length ≤ 4096 := by
        rw [hG]; refine Nat.le_trans (List.length_filter_le _ _) ?_; simp; omega
      have HV := Lib.hid hv
      have HVS := Lib.hid hvs
      have HVB := Lib.hid hvb
      have HGG := Lib.hid hG
      clear hv hvs hvb hG
      have cL := hit.box.cell
      have zBr : Bl < wr.heap.size := hit.box.lt
      have zb : (ay.add (i * 14)).block < wr.heap.size := by rw [Tp.add_block]; exact hay
      have HIT := Lib.hid hit
      have HJ := Lib.hid hj
      have HPRE := Lib.hid hpre
      have HXI := Lib.hid hxi
      have HXW := Lib.hid hxw
      clear hit hj hpre hxi hxw
      gi_wp2_with (gi_at_lookup; refine Kit.wpListIn_lookup_vmap _ rfl _ _ 81 rfl 83 30 2 Ty.keyG Tryz.underlying81 (.slice none 0 0) (by kernel_rfl) W.heap.size _ f rfl (((HIT.out.grp.map).alloc _).alloc _) (Ty.key x) rfl rfl (fun y hy => by simp [Ty.key] at hy; (rcases hy with rfl | rfl <;> first | exact HXW.out.1 | exact HXW.out.2)) ?_; rw [HV.out])
      refine Kit.wpIn_name ?_
      intro W1 hW1
      have s1 : W1.heap.size = wr.heap.size + 2 := by rw [hW1]; simp
      have X1 : ∀ S, Kit.Exc S wr W1 := fun S => by rw [hW1]; exact ((Kit.Exc.refl S wr).alloc _).alloc _
      have hx5 : Ty.SgAt W1 wr.heap.size x := by
        rw [hW1]
        exact (Below.heap_alloc _ _ _ (by simp)).trans (World.alloc_heap_new wr _)
      have hx6 : W1.heap[wr.heap.size + 1]? = some (.cells #[.int .i64 x.role, .int .i64 x.bar] 83 (0, 0)) := by
        rw [hW1]
        have := World.alloc_heap_new (wr.alloc (Obj.cells #[.int .i64 x.id, .int .i64 x.role, .int .i64 x.bar, .int .i64 x.mark, .int .i64 x.kind, .int .i64 x.side, .int .i64 x.dir, .int .i64 x.level, .int .i64 x.size, .int .i64 x.wth, .int .i64 x.fn, .int .i64 x.fd, .int .i64 x.tn, .int .i64 x.td] 44)) (Obj.cells #[.int .i64 x.role, .int .i64 x.bar] 83)
        rwa [World.size_alloc] at this
      have hj1 := hJ.out _ _ _ _ HJ.out (X1 _)
      have hit1 : Ty.It Bl (some ay) cG l W.heap.size ln i f Y W1 := HIT.out.keep (X1 (fun _ => False)) (fun _ h => h.elim) (fun k h => .inl h) (fun k h => Nat.lt_of_lt_of_le (HIT.out.yl k h) (X1 (fun _ => False)).size)
      have hyl : ∀ k, Y k → k < wr.heap.size := HIT.out.yl
      clear hW1 e0 e1 e2 e3 e4 e5 e6 e7 e8 e9 e10 e11 e12 e13 cL zBr zb HJ
      obtain ⟨V0, rfl⟩ : ∃ V0, V0 = wr := ⟨_, rfl⟩
      gi_loopw [25] (fun v25 wr => ∃ (j : Nat) (pre2 : List (Ex.Sg × Ex.Sg)) (Y2 : Nat → Prop), v25 = .int .i64 j ∧ j ≤ G.length ∧ J pre2 Y2 wr ∧ W1.heap.size ≤ wr.heap.size ∧ pre2 = pre ++ Ty.row1 (G.take j) x ∧ Ty.It Bl (some ay) cG l W.heap.size ln i f Y2 wr ∧
          (∀ k, Y2 k → k ≠ V0.heap.size ∧ k ≠ V0.heap.size + 1) ∧ Ty.SgAt wr V0.heap.size x ∧ wr.heap[V0.heap.size + 1]? = some (.cells #[.int .i64 x.role, .int .i64 x.bar] 83 (0, 0)))
        (fun v25 _ => G.length - (intOf v25).toNat)
      case atStart => exact ⟨0, pre, Y, rfl, Nat.zero_le _, hj1, Nat.le_refl _, by simp [Ty.row1], hit1, fun k hk => by have := hyl k hk; omega, hx5, hx6⟩
      case round =>
        obtain ⟨j, pre2, Y2, rfl, hj2, hJ2, hsz2, hpre2, hit2, hy2, h5, h6⟩ := hrel
        by_cases hlt2 : j < G.length
        · obtain ⟨ag, rfl, hS2⟩ : ∃ ag, va = some ag ∧ Tp.Sl wr (some ag) G.length 14 (Ex.sgc G) := by
            have hrow := hit2.grp.row (Ty.key x)
            rw [← HGG.out] at hrow
            rcases Ty.row_sl hrow with ⟨e1, _⟩ | ⟨g, c, e1, _, _, e4⟩
            · rw [e1] at hlt2; simp at hlt2
            · rw [HV.out] at e1; cases e1; exact ⟨_, rfl, e4⟩
          obtain ⟨ag', e', hag, _⟩ := hS2.at hlt2
          cases e'
          have e0 := hS2.head hlt2 (by omega)
          have e1 := hS2.field hlt2 (j := 1) (by omega) (by omega)
          have e2 := hS2.field hlt2 (j := 2) (by omega) (by omega)
          have e3 := hS2.field hlt2 (j := 3) (by omega) (by omega)
          have e4 := hS2.field hlt2 (j := 4) (by omega) (by omega)
          have e5 := hS2.field hlt2 (j := 5) (by omega) (by omega)
          have e6 := hS2.field hlt2 (j := 6) (by omega) (by omega)
          have e7 := hS2.field hlt2 (j := 7) (by omega) (by omega)
          have e8 := hS2.field hlt2 (j := 8) (by omega) (by omega)
          have e9 := hS2.field hlt2 (j := 9) (by omega) (by omega)
          have e10 := hS2.field hlt2 (j := 10) (by omega) (by omega)
          have e11 := hS2.field hlt2 (j := 11) (by omega) (by omega)
          have e12 := hS2.field hlt2 (j := 12) (by omega) (by omega)
          have e13 := hS2.field hlt2 (j := 13) (by omega) (by omega)
          clear hS2
          obtain ⟨a, ha⟩ : ∃ a, G.getD j default = a := ⟨_, rfl⟩
          simp only [Ex.sgc, ha] at e0 e1 e2 e3 e4 e5 e6 e7 e8 e9 e10 e11 e12 e13
          have hai : G[j]? = some a := by rw [← ha, List.getD_eq_getElem?_getD, List.getElem?_eq_getElem hlt2]; rfl
          have zb2 : (ag.add (j * 14)).block < wr.heap.size := by rw [Tp.add_block]; exact hag
          have z5 : V0.heap.size < wr.heap.size := by omega
          have e5c := h5.cells
          obtain ⟨x0, x1, x2, x3, x4, x5, x6, x7, x8, x9, x10, x11, x12, x13⟩ := e5c
          have HIT2 := Lib.hid hit2
          have HJ2 := Lib.hid hJ2
          have HPRE2 := Lib.hid hpre2
          have HAI := Lib.hid hai
          have HY2 := Lib.hid hy2
          have H5 := Lib.hid h5
          have H6 := Lib.hid h6
          have hB : ∀ p q r s W, Ty.Bef p q r s (Ty.bf p q r s) W := fun p q r s W => ty_before p q r s W
          have HB := Lib.hid hB
          clear hit2 hJ2 hpre2 hai hy2 h5 h6 hB
          gi_wp2
          refine CallsIn.mono (callsIn_wide.2 (HB.out _ _ _ _ _ : Ty.Bef _ _ _ _ _ _)) ?_
          rintro e w3 ⟨rfl, hb3⟩
          have E3 : ∀ S, Kit.Exc S wr w3 := fun S => ((Kit.Exc.refl S wr).alloc _).then hb3
          have h8 : Ty.SgAt w3 wr.heap.size a := (hb3.block _ (by simp)).trans (World.alloc_heap_new wr _)
          have s3 : wr.heap.size < w3.heap.size := by have := hb3.size; simp at this; omega
          clear hb3 e0 e1 e2 e3 e4 e5 e6 e7 e8 e9 e10 e11 e12 e13 x0 x1 x2 x3 x4 x5 x6 x7 x8 x9 x10 x11 x12 x13
          have H53 := Lib.hid (show Ty.SgAt w3 V0.heap.size x from (E3 (fun _ => False)).heap H5.out (fun h => h))
          have H63 := Lib.hid ((E3 (fun _ => False)).heap H6.out (fun h => h))
          have HJ3 := Lib.hid (hJ.out _ _ _ _ HJ2.out (E3 _))
          have HIT3 := Lib.hid (show Ty.It Bl (some ay) cG l W.heap.size ln i f Y2 w3 from HIT2.out.keep (E3 (fun _ => False)) (fun _ h => h.elim) (fun k h => .inl h) (fun k h => Nat.lt_of_lt_of_le (HIT2.out.yl k h) (E3 (fun _ => False)).size))
          have SZ3 := Lib.hid (show W1.heap.size ≤ w3.heap.size from Nat.le_trans hsz2 (E3 (fun _ => False)).size)
          obtain ⟨x0, x1, x2, x3, x4, x5, x6, x7, x8, x9, x10, x11, x12, x13⟩ := H53.out.cells
          obtain ⟨a0, a1, a2, a3, a4, a5, a6, a7, a8, a9, a10, a11, a12, a13⟩ := h8.cells
          have H83 := Lib.hid h8
          clear h8 E3 zb2
          rcases d1 : Ty.bf a.fn a.fd x.tn x.td with _ | _
          · gi_wp2
            go_roundw
            case rel => exact ⟨j + 1, pre2, Y2, by go_num, by omega, HJ3.out, SZ3.out, by rw [Ty.row1_take G j x a HAI.out, HPRE2.out]; simp [Ty.overB, d1], HIT3.out, HY2.out, H53.out, H63.out⟩
            case measure => simp [intOf]; omega
          gi_wp2
          refine CallsIn.mono (callsIn_wide.2 (HB.out _ _ _ _ _ : Ty.Bef _ _ _ _ _ _)) ?_
          rintro e w4 ⟨rfl, hb4⟩
          have E4 : ∀ S, Kit.Exc S w3 w4 := fun S => (Kit.Exc.refl S w3).then hb4
          have h84 : Ty.SgAt w4 wr.heap.size a := (hb4.block _ s3).trans H83.out
          have s4 : wr.heap.size < w4.heap.size := Nat.lt_of_lt_of_le s3 hb4.size
          clear hb4 x0 x1 x2 x3 x4 x5 x6 x7 x8 x9 x10 x11 x12 x13 a0 a1 a2 a3 a4 a5 a6 a7 a8 a9 a10 a11 a12 a13
          have H54 := Lib.hid (show Ty.SgAt w4 V0.heap.size x from (E4 (fun _ => False)).heap H53.out (fun h => h))
          have H64 := Lib.hid ((E4 (fun _ => False)).heap H63.out (fun h => h))
          have HJ4 := Lib.hid (hJ.out _ _ _ _ HJ3.out (E4 _))
          have HIT4 := Lib.hid (show Ty.It Bl (some ay) cG l W.heap.size ln i f Y2 w4 from HIT3.out.keep (E4 (fun _ => False)) (fun _ h => h.elim) (fun k h => .inl h) (fun k h => Nat.lt_of_lt_of_le (HIT3.out.yl k h) (E4 (fun _ => False)).size))
          have SZ4 := Lib.hid (show W1.heap.size ≤ w4.heap.size from Nat.le_trans SZ3.out (E4 (fun _ => False)).size)
          obtain ⟨x0, x1, x2, x3, x4, x5, x6, x7, x8, x9, x10, x11, x12, x13⟩ := H54.out.cells
          obtain ⟨a0, a1, a2, a3, a4, a5, a6, a7, a8, a9, a10, a11, a12, a13⟩ := h84.cells
          have z54 : V0.heap.size < w4.heap.size := by omega
          clear h84 E4 H83 H53 H63 HJ3 HIT3 SZ3
          rcases d2 : Ty.bf x.fn x.fd a.tn a.td with _ | _
          · gi_wp2
            go_roundw
            case rel => exact ⟨j + 1, pre2, Y2, by go_num, by omega, HJ4.out, SZ4.out, by rw [Ty.row1_take G j x a HAI.out, HPRE2.out]; simp [Ty.overB, d1, d2], HIT4.out, HY2.out, H54.out, H64.out⟩
            case measure => simp [intOf]; omega
          have hov : Ty.overB a x = true := by simp [Ty.overB, d1, d2]
          obtain ⟨fy, ty, asg, bdy, hyy, hR⟩ := hY.out pre2 (a, x) Y2 w4 HJ4.out (by
            obtain ⟨rest, hr⟩ := Ty.prs_ok l i j x a HXI.out (by rw [← HGG.out]; exact HAI.out) hov
            exact ⟨rest, by rw [HPRE2.out, HPRE.out, HGG.out]; exact hr⟩)
          have HOV := Lib.hid hov
          clear hov
          gi_wp2
          refine hR.mono ?_
          rintro e w5 ⟨Y5, hx5', hy5, hend⟩
          rcases hend with ⟨rfl, hj5⟩ | ⟨rfl, hj5⟩
          · have hlo := HIT4.out.bl
            have hit5 : Ty.It Bl (some ay) cG l W.heap.size ln i f Y5 w5 := HIT4.out.keep hx5' (fun k hk => by
              rcases hk with hk | rfl
              · exact HIT4.out.yb k hk
              · have h1 := hlo.1
                have h2 := hb hln ay rfl
                refine ⟨by omega, fun _ ad e => by cases e; omega, by omega, fun xs e => ?_⟩
                have := ((HIT4.out.grp.row xs).lt k e).1
                omega) (fun k hk => (hy5 k hk).1) (fun k hk => (hy5 k hk).2)
            have h55 : Ty.SgAt w5 V0.heap.size x := hx5'.heap H54.out (fun h => h.elim (fun h => (HY2.out _ h).1 rfl) (fun h => by omega))
            have h65 := hx5'.heap H64.out (fun h => h.elim (fun h => (HY2.out _ h).2 rfl) (fun h => by omega))
            have hy55 : ∀ k, Y5 k → k ≠ V0.heap.size ∧ k ≠ V0.heap.size + 1 := fun k hk => by
              rcases (hy5 k hk).1 with h | h
              · exact HY2.out k h
              · have h1 := SZ4.out
                constructor <;> omega
            have SZ5 : W1.heap.size ≤ w5.heap.size := Nat.le_trans SZ4.out hx5'.size
            have HJ5 := Lib.hid hj5
            have HIT5 := Lib.hid hit5
            have H55 := Lib.hid h55
            have H65 := Lib.hid h65
            have HY55 := Lib.hid hy55
            clear hx5' hy5 hj5 hit5 h55 h65 hy55 x0 x1 x2 x3 x4 x5 x6 x7 x8 x9 x10 x11 x12 x13 a0 a1 a2 a3 a4 a5 a6 a7 a8 a9 a10 a11 a12 a13 hyy hR
            gi_wp2
            go_roundw
            case rel => exact ⟨j + 1, pre2 ++ [(a, x)], Y5, by go_num, by omega, HJ5.out, SZ5, by rw [Ty.row1_take G j x a HAI.out, HPRE2.out, if_pos HOV.out, List.append_assoc], HIT5.out, HY55.out, H55.out, H65.out⟩
            case measure => simp [intOf]; omega
          · have HJ5 := Lib.hid hj5
            clear hx5' hy5 hj5 hyy hR
            gi_wp2
            refine bodyPost_ret (results_none rfl _ _ _) rfl ?_
            exact ⟨⟨_, rfl⟩, Y5, .inr ⟨_, trivial, HJ5.out⟩⟩
        · have hje : j = G.length := by omega
          subst hje
          have hpre3 : pre2 = Ty.prs [] (l.take (i + 1)) := by
            rw [hpre2, HPRE.out, Ty.prs_take l i x HXI.out, ← HGG.out, List.take_length]
          have HPRE3 := Lib.hid hpre3
          have XA : ∀ S, Kit.Exc S wr (wr.alloc (.cells #[.int .i64 x.id, .int .i64 x.role, .int .i64 x.bar, .int .i64 x.mark, .int .i64 x.kind, .int .i64 x.side, .int .i64 x.dir, .int .i64 x.level, .int .i64 x.size, .int .i64 x.wth, .int .i64 x.fn, .int .i64 x.fd, .int .i64 x.tn, .int .i64 x.td] 44)) := fun S => (Kit.Exc.refl S wr).alloc _
          have hgA : Ty.Grp W.heap.size W.heap.size (l.take i) (wr.alloc (.cells #[.int .i64 x.id, .int .i64 x.role, .int .i64 x.bar, .int .i64 x.mark, .int .i64 x.kind, .int .i64 x.side, .int .i64 x.dir, .int .i64 x.level, .int .i64 x.size, .int .i64 x.wth, .int .i64 x.fn, .int .i64 x.fd, .int .i64 x.tn, .int .i64 x.td] 44)) f := hit2.grp.keep (XA (fun _ => False)) (fun h => h) (fun _ _ _ h => h)
          obtain ⟨st, w1e, hme, hg1, hst⟩ := Kit.VMap.entry hgA.map Ty.keyG Tryz.underlying81 (fun _ => by kernel_rfl) (by unfold maxLen; simp; omega) (Ty.key x) rfl (fun y hy => by simp [Ty.key] at hy; (rcases hy with rfl | rfl <;> first | exact HXW.out.1 | exact HXW.out.2))
          have hme' : (Instr.mapEntry 81 (.map (some W.heap.size)) (.agg #[.int .i64 x.role, .int .i64 x.bar])).run Tryz.prog (wr.alloc (.cells #[.int .i64 x.id, .int .i64 x.role, .int .i64 x.bar, .int .i64 x.mark, .int .i64 x.kind, .int .i64 x.side, .int .i64 x.dir, .int .i64 x.level, .int .i64 x.size, .int .i64 x.wth, .int .i64 x.fn, .int .i64 x.fd, .int .i64 x.tn, .int .i64 x.td] 44)) = .ok (.tuple #[.slice va G.length vc, goInt st]) w1e := by
            rw [← HV.out]; exact hme
          obtain ⟨x0, x1, x2, x3, x4, x5, x6, x7, x8, x9, x10, x11, x12, x13⟩ := h5.cells
          have g60 : wr.cell? ⟨V0.heap.size + 1, 0, none⟩ = some (.int .i64 x.role) := by simp [World.cell?, h6]
          have g61 : wr.cell? ⟨V0.heap.size + 1, 1, none⟩ = some (.int .i64 x.bar) := by simp [World.cell?, h6]
          have z5 : V0.heap.size + 1 < wr.heap.size := by omega
          have rowe : w1e.ownsRow W.heap.size 44 14 (.slice va G.length vc) G.length (Ty.flatS G) := by
            have h := Ty.own_keep (W' := w1e) (hgA.row (Ty.key x)) (fun g hg => hg1.block g ((hgA.row (Ty.key x)).lt g hg).2 (fun e => by cases e; exact hgA.notM _ hg))
            rw [← HGG.out, HV.out] at h; exact h
          have ce : ∀ j u, (Ty.sc x)[j]? = some u → w1e.cell? ((⟨wr.heap.size, 0, none⟩ : Addr).add j) = some u := by
            have hb1 : w1e.heap[wr.heap.size]? = some (.cells #[.int .i64 x.id, .int .i64 x.role, .int .i64 x.bar, .int .i64 x.mark, .int .i64 x.kind, .int .i64 x.side, .int .i64 x.dir, .int .i64 x.level, .int .i64 x.size, .int .i64 x.wth, .int .i64 x.fn, .int .i64 x.fd, .int .i64 x.tn, .int .i64 x.td] 44 (0, 0)) := (hg1.block _ (by simp) (fun e => by have h8 := hit2.grp.map.lt; have h9 := Option.some.inj e; omega)).trans (World.alloc_heap_new wr _)
            intro j u hu
            rcases j with _ | _ | _ | _ | _ | _ | _ | _ | _ | _ | _ | _ | _ | _ | j <;> simp [Ty.sc] at hu <;> subst hu <;> simp [Addr.add, World.cell?, hb1]
          obtain ⟨i0, hi0, hz0, hz1, hz2⟩ := info_parts Ty.infoS
          have HME := Lib.hid hme'
          have HST := Lib.hid hst
          have HG1 := Lib.hid hg1
          have HGA := Lib.hid hgA
          have HIT2 := Lib.hid hit2
          have HJ2 := Lib.hid hJ2
          have HY2 := Lib.hid hy2
          have ROWE := Lib.hid rowe
          have CE := Lib.hid ce
          clear hpre2 hpre3 hme hst hg1 hgA hit2 hJ2 hy2 rowe ce h5 h6
          gi_wp2_with (gi_at_builtin; refine Kit.wpListIn_append_own' _ rfl _ _ 30 rfl W.heap.size 44 i0 Ty.zS 14 112 Tryz.underlying30 hi0 hz0 hz1 hz2 rfl (by decide) (.slice va G.length vc) G.length (Ty.flatS G) rfl ROWE.out ⟨wr.heap.size, 0, none⟩ 1 1 (Ty.sc x) rfl rfl CE.out (by simp [Ty.sc, Value.oneCell']) (by unfold maxLen; omega) (by omega) (by have h7 := HG1.out.size; simp at h7; omega) ?_; intro v' w2 hown' hgrow _ hwhere; obtain ⟨g', cap', rfl⟩ := ownsRow_succ hown'; obtain ⟨w3, hes, hm3, hg3⟩ := HST.out w2 (.slice (some ⟨g', 0, none⟩) (G.length + 1) cap') _ (hgrow.block _ (by have h7 := HG1.out.size; have h8 := HGA.out.map.lt; omega) (fun e => HGA.out.notM (Ty.key x) (by rw [HV.out]; exact e.symm))) rfl; have hes' : (Instr.entryStore 81 (.map (some W.heap.size)) (.int .i64 (st : Int)) (.slice (some ⟨g', 0, none⟩) (G.length + 1) cap')).run Tryz.prog w2 = .ok () w3 := hes; have HM3 := Lib.hid hm3; have HG3 := Lib.hid hg3; have HGROW := Lib.hid hgrow; have HWH := Lib.hid hwhere; have HOWN := Lib.hid hown'; clear hm3 hg3 hgrow hwhere hown')
          have hM : ¬ Y2 W.heap.size := fun h => (HIT2.out.yb _ h).2.2.1 rfl
          have hR : ∀ k, (f (Ty.key x)).ownBlock = some k → W.heap.size ≤ k ∧ ¬ Y2 k := fun k hk => ⟨((HIT2.out.grp.row (Ty.key x)).lt k hk).1, fun h => (HIT2.out.yb _ h).2.2.2 _ hk⟩
          have XF : Kit.Exc (fun b => False ∨ (W.heap.size ≤ b ∧ ¬ Y2 b)) wr w3 :=
            ((((Kit.Exc.refl _ wr).alloc _).grown HG1.out (fun k e => by cases e; exact .inl (.inr ⟨Nat.le_refl _, hM⟩))).grown HGROW.out (fun k e => .inl (.inr (hR k (by rw [HV.out]; exact e))))).grown HG3.out (fun k e => by cases e; exact .inl (.inr ⟨Nat.le_refl _, hM⟩))
          have hblr : ∀ k, k < W.heap.size → w3.heap[k]? = wr.heap[k]? := fun k hk => XF.block k (by have := HIT2.out.grp.map.lt; omega) (fun h => by
            rcases h with h | h
            · exact h
            · omega)
          have hbl := HIT2.out.bl
          have htk : l.take (i + 1) = l.take i ++ [x] := by rw [List.take_add_one, HXI.out]; rfl
          have hstep := Ty.Grp.step (v' := .slice (some ⟨g', 0, none⟩) (G.length + 1) cap') HGA.out HG1.out (by rw [HV.out]; exact HGROW.out) (by rw [← HGG.out]; exact HOWN.out) (by rw [HV.out]; exact HWH.out) HG3.out HM3.out
          have sz3 : wr.heap.size ≤ w3.heap.size := XF.size
          have itF : Ty.It Bl (some ay) cG l W.heap.size ln (i + 1) (fun ys => if ys = Ty.key x then .slice (some ⟨g', 0, none⟩) (G.length + 1) cap' else f ys) Y2 w3 := by
            refine ⟨(hblr _ hbl.1).trans HIT2.out.box, Ty.sl_exc HIT2.out.sl XF (fun hn ad e h => ?_), by rw [htk]; exact hstep, fun k hk => ?_, hbl, fun k hk => Nat.lt_of_lt_of_le (HIT2.out.yl k hk) sz3⟩
            · have := hbl.2.1 hln ad e
              rcases h with h | h
              · exact h
              · omega
            · obtain ⟨y1, y2, y3, y4⟩ := HIT2.out.yb k hk
              refine ⟨y1, y2, y3, fun ys => ?_⟩
              by_cases e : ys = Ty.key x
              · rw [if_pos e]
                intro e2
                have h7 := HG1.out.size
                simp at h7
                rcases HWH.out k e2 with h8 | h8
                · exact y4 (Ty.key x) (by rw [HV.out]; exact h8)
                · have := HIT2.out.yl k hk
                  omega
              · rw [if_neg e]; exact y4 ys
          have HJF := Lib.hid (hJ.out _ _ _ _ HJ2.out XF)
          have HITF := Lib.hid itF
          clear itF hstep XF hblr
          gi_wp2
          go_roundw
          case rel => exact ⟨i + 1, pre2, Y2, _, by go_num, by omega, HJF.out, by omega, HPRE3.out, HITF.out⟩
          case measure => simp [intOf]; omega
    · have HJ := Lib.hid hj
      have hi' : i = l.length := by omega
      have hp2 : pre = Ty.prs [] l := by rw [hpre, hi', List.take_length]
      clear hj hit hpre
      gi_wp2
      go_end0
      exact ⟨⟨_, rfl⟩, Y, .inl ⟨_, hp2, HJ.out⟩⟩
end Go.Proofs.YtggfeblfhabmkaaGreatDoor
