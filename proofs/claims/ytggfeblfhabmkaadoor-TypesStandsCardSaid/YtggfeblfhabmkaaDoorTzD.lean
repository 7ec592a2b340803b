/- Walks: the laws of layer 20: look, stands. -/
import Derived.Test.YtggfeblfhabmkaaDoorTyX
import Derived.Test.YtggfeblfhabmkaaDoorTyT
import Derived.Deep.CutRange
import Derived.Test.YtggfeblfhabmkaaDoorTzC
namespace Go.Proofs.YtggfeblfhabmkaaDoor
set_option linter.unusedVariables false
set_option linter.unusedSimpArgs false
open Go.RowKit Go.Shelf

abbrev Ty.c6 (l : List Ex.Sg) (vr vl : Value) : List Value := [.bool false, .bool (Ty.lgs l 1), .bool (Ty.lgs l 2), .bool (Ty.jmp l), vr, vl]
/-- What lies in look's hands: b: its result; the slices own their rows. -/
structure Ty.LkI (s b : Nat) (l : List Ex.Sg) (vr vl : Value) (W : World) : Prop where
  hb : W.heap[b]? = some (.cells (Ty.c6 l vr vl).toArray 44 (0, 0))
  r : W.ownsRow s 41 14 vr (Ty.rds l).length (Ty.flatS (Ty.rds l))
  f : W.ownsRow s 41 14 vl (Ty.lfs l).length (Ty.flatS (Ty.lfs l))
  ap : ∀ g, vr.ownBlock = some g → vl.ownBlock ≠ some g
  low : b < s
namespace Ty.LkI
variable {s b : Nat} {l : List Ex.Sg} {vr vl : Value} {W : World}
theorem lt (h : Ty.LkI s b l vr vl W) : b < W.heap.size := (Array.getElem?_eq_some_iff.1 h.hb).1
theorem below (h : Ty.LkI s b l vr vl W) {W' : World} (hb : Below W.heap.size W W') : Ty.LkI s b l vr vl W' :=
  ⟨(hb.block b h.lt).trans h.hb, Ty.own_keep h.r (fun g hg => hb.block g (h.r.lt g hg).2), Ty.own_keep h.f (fun g hg => hb.block g (h.f.lt g hg).2), h.ap, h.low⟩
theorem cells (h : Ty.LkI s b l vr vl W) : W.cell? ⟨b, 0, none⟩ = some (.bool false) ∧ W.cell? ⟨b, 1, none⟩ = some (.bool (Ty.lgs l 1)) ∧ W.cell? ⟨b, 2, none⟩ = some (.bool (Ty.lgs l 2)) ∧ W.cell? ⟨b, 3, none⟩ = some (.bool (Ty.jmp l)) ∧ W.cell? ⟨b, 4, none⟩ = some vr ∧ W.cell? ⟨b, 5, none⟩ = some vl := by
  simp [World.cell?, h.hb]
theorem frozen (h : Ty.LkI s b l vr vl W) (q : Nat) : W.frozen? ⟨b, q, none⟩ = false := by simp [World.frozen?, h.hb]
/-- A cell stored. -/
theorem set (h : Ty.LkI s b l vr vl W) (j : Nat) (v : Value) (l' : List Ex.Sg) (hc : (Ty.c6 l vr vl).set j v = Ty.c6 l' vr vl) (hr : Ty.rds l' = Ty.rds l) (hf : Ty.lfs l' = Ty.lfs l) : Ty.LkI s b l' vr vl (W.setCell ⟨b, j, none⟩ v) := by
  have nr : ∀ g, vr.ownBlock = some g → g ≠ b := fun g hg => by have := (h.r.lt g hg).1; have := h.low; omega
  have nl : ∀ g, vl.ownBlock = some g → g ≠ b := fun g hg => by have := (h.f.lt g hg).1; have := h.low; omega
  refine ⟨?_, ?_, ?_, h.ap, h.low⟩
  · rw [heap_setCell_same _ _ _ _ _ _ h.hb, ← hc]; simp
  · rw [hr]; exact Ty.own_keep h.r (fun g hg => Below.heap_setCell _ _ _ _ (nr g hg))
  · rw [hf]; exact Ty.own_keep h.f (fun g hg => Below.heap_setCell _ _ _ _ (nl g hg))
theorem still_f (h : Ty.LkI s b l vr vl W) {W1 : World} (hg : W.grownBy W1 vl.ownBlock) : W1.cell? ⟨b, 5, none⟩ = some vl ∧ W1.frozen? ⟨b, 5, none⟩ = false := by
  have n0 : vl.ownBlock ≠ some b := fun e => by have := (h.f.lt b e).1; have := h.low; omega
  have hb1 := (hg.block b h.lt (fun e => n0 e.symm)).trans h.hb
  simp [World.cell?, World.frozen?, hb1]
theorem still_r (h : Ty.LkI s b l vr vl W) {W1 : World} (hg : W.grownBy W1 vr.ownBlock) : W1.cell? ⟨b, 4, none⟩ = some vr ∧ W1.frozen? ⟨b, 4, none⟩ = false := by
  have n0 : vr.ownBlock ≠ some b := fun e => by have := (h.r.lt b e).1; have := h.low; omega
  have hb1 := (hg.block b h.lt (fun e => n0 e.symm)).trans h.hb
  simp [World.cell?, World.frozen?, hb1]
theorem other (h : Ty.LkI s b l vr vl W) {l' : List Ex.Sg} (hc : Ty.c6 l vr vl = Ty.c6 l' vr vl) (hr : Ty.rds l' = Ty.rds l) (hf : Ty.lfs l' = Ty.lfs l) : Ty.LkI s b l' vr vl W :=
  ⟨by rw [← hc]; exact h.hb, by rw [hr]; exact h.r, by rw [hf]; exact h.f, h.ap, h.low⟩
theorem ride (h : Ty.LkI s b l vr vl W) {e : Ex.Sg} {W1 : World} {v' : Value} (hg : W.grownBy W1 vr.ownBlock) (ho : W1.ownsRow s 41 14 v' ((Ty.rds l).length + 1) (Ty.flatS (Ty.rds l) ++ Ty.sc e))
    (hw : ∀ k, v'.ownBlock = some k → vr.ownBlock = some k ∨ W.heap.size ≤ k) (hc : Ty.c6 l v' vl = Ty.c6 (l ++ [e]) v' vl) (hr : Ty.rds (l ++ [e]) = Ty.rds l ++ [e]) (hf : Ty.lfs (l ++ [e]) = Ty.lfs l) : Ty.LkI s b (l ++ [e]) v' vl (W1.setCell ⟨b, 4, none⟩ v') := by
  have nr : ∀ g, v'.ownBlock = some g → g ≠ b := fun g hg => by have := (ho.lt g hg).1; have := h.low; omega
  have nl : ∀ g, vl.ownBlock = some g → g ≠ b := fun g hg => by have := (h.f.lt g hg).1; have := h.low; omega
  have n0 : vr.ownBlock ≠ some b := fun e => by have := (h.r.lt b e).1; have := h.low; omega
  have hb1 : W1.heap[b]? = some (.cells (Ty.c6 l vr vl).toArray 44 (0, 0)) := (hg.block b h.lt (fun e => n0 e.symm)).trans h.hb
  refine ⟨?_, ?_, ?_, ?_, h.low⟩
  · rw [heap_setCell_same _ _ _ _ _ _ hb1, ← hc]; simp
  · rw [hr, List.length_append, Ty.flatS_snoc]; exact Ty.own_keep ho (fun g hg => Below.heap_setCell _ _ _ _ (nr g hg))
  · rw [hf]; exact Ty.own_keep h.f (fun g hg' => (Below.heap_setCell _ _ _ _ (nl g hg')).trans (hg.block g (h.f.lt g hg').2 (fun e => h.ap g e.symm hg')))
  · intro g hg' hc'
    rcases hw g hg' with h1 | h1
    · exact h.ap g h1 hc'
    · have := (h.f.lt g hc').2; omega
theorem lift (h : Ty.LkI s b l vr vl W) {e : Ex.Sg} {W1 : World} {v' : Value} (hg : W.grownBy W1 vl.ownBlock) (ho : W1.ownsRow s 41 14 v' ((Ty.lfs l).length + 1) (Ty.flatS (Ty.lfs l) ++ Ty.sc e))
    (hw : ∀ k, v'.ownBlock = some k → vl.ownBlock = some k ∨ W.heap.size ≤ k) (hc : Ty.c6 l vr v' = Ty.c6 (l ++ [e]) vr v') (hr : Ty.lfs (l ++ [e]) = Ty.lfs l ++ [e]) (hf : Ty.rds (l ++ [e]) = Ty.rds l) : Ty.LkI s b (l ++ [e]) vr v' (W1.setCell ⟨b, 5, none⟩ v') := by
  have nl : ∀ g, v'.ownBlock = some g → g ≠ b := fun g hg => by have := (ho.lt g hg).1; have := h.low; omega
  have nr : ∀ g, vr.ownBlock = some g → g ≠ b := fun g hg => by have := (h.r.lt g hg).1; have := h.low; omega
  have n0 : vl.ownBlock ≠ some b := fun e => by have := (h.f.lt b e).1; have := h.low; omega
  have hb1 : W1.heap[b]? = some (.cells (Ty.c6 l vr vl).toArray 44 (0, 0)) := (hg.block b h.lt (fun e => n0 e.symm)).trans h.hb
  refine ⟨?_, ?_, ?_, ?_, h.low⟩
  · rw [heap_setCell_same _ _ _ _ _ _ hb1, ← hc]; simp
  · rw [hf]; exact Ty.own_keep h.r (fun g hg' => (Below.heap_setCell _ _ _ _ (nr g hg')).trans (hg.block g (h.r.lt g hg').2 (fun e => h.ap g hg' e.symm)))
  · rw [hr, List.length_append, Ty.flatS_snoc]; exact Ty.own_keep ho (fun g hg => Below.heap_setCell _ _ _ _ (nl g hg))
  · intro g hg' hc'
    rcases hw g hc' with h1 | h1
    · exact h.ap g hg' h1
    · have := (h.r.lt g hg').2; omega
end Ty.LkI
theorem Ty.lk_snoc (l : List Ex.Sg) (e : Ex.Sg) (role bar n d : Int) : Ty.lk (l ++ [e]) role bar n d = if (e.role == role && e.bar == bar && Ty.act e n d) = true then Ty.lk l role bar n d ++ [e] else Ty.lk l role bar n d := by
  unfold Ty.lk
  rw [List.filter_append, List.filter_cons]
  split <;> simp
theorem Ty.lit_cell (W : World) (l : List Value) (t : TypeId) (j : Nat) (u : Value) (h : l[j]? = some u) : (W.alloc (.cells l.toArray t)).cell? ((⟨W.heap.size, 0, none⟩ : Addr).add j) = some u := by
  have h1 := World.alloc_heap_new W (.cells l.toArray t)
  have e : (⟨W.heap.size, 0, none⟩ : Addr).add j = ⟨W.heap.size, j, none⟩ := by
    unfold Addr.add; split <;> simp_all
  rw [e]
  simp only [World.cell?, h1]
  simpa using h
theorem Ty.Cs.grown_far {w w' : World} {b : Nat} {l : List Value} {row : Option Nat} (h : Ty.Cs w b l) (hg : w.grownBy w' row) (hne : row ≠ some b) : Ty.Cs w' b l :=
  ⟨Nat.lt_of_lt_of_le h.1 hg.size, fun j v hv => by
    have := h.2 j v hv
    simp only [World.cell?] at this ⊢
    rw [hg.block b h.1 (fun e => hne e.symm)]
    exact this⟩
theorem lw_stands (l : List Ex.Sg) (ar : Option Addr) (cr : Nat) (vl : Value) (w : World) :
    Calls Tryd.prog 13 #[.agg (Ty.c6 l (.slice ar (Ty.rds l).length cr) vl).toArray] w fun e w' => e = .returned (.bool (Ty.std l)) ∧ Below w.heap.size w w' := by
  unfold Ty.std Ty.c6
  generalize Ty.rds l = R
  rcases Ty.jmp l with _ | _ <;> rcases e1 : (R.length == 0) with _ | _ <;> rcases Ty.lgs l 1 with _ | _ <;> rcases Ty.lgs l 2 with _ | _ <;>
  · go_enter Tryd.func13, Tryd.ntmps13
    have e2 : ((R.length : Int) == 0) = (R.length == 0) := by rw [Bool.eq_iff_iff]; simp
    rw [e1] at e2
    go_wp2
    go_ret
    exact ⟨rfl, by (repeat' first | (with_reducible first | exact Below.refl _ _ | assumption | refine Kit.below_drewN ?_ _ | refine Below.drew ?_ | refine Below.alloc ?_ ?_ _ | refine Below.setCell ?_ ?_ _ | exact Nat.le_refl _) | omega | (simp; omega) | (simp; done) | (apply Below.size; assumption))⟩

/-- What look answers. -/
def Ty.LookIs (sg : List Ex.Sg) (role bar n d : Int) (w : World) (e : Ending) (w' : World) : Prop :=
  ∃ ar cr al cl, e = .returned (.agg (Ty.c6 (Ty.lk sg role bar n d) (.slice ar (Ty.rds (Ty.lk sg role bar n d)).length cr) (.slice al (Ty.lfs (Ty.lk sg role bar n d)).length cl)).toArray) ∧
    Tp.Sl w' ar (Ty.rds (Ty.lk sg role bar n d)).length 14 (Ex.sgc (Ty.rds (Ty.lk sg role bar n d))) ∧ Tp.Sl w' al (Ty.lfs (Ty.lk sg role bar n d)).length 14 (Ex.sgc (Ty.lfs (Ty.lk sg role bar n d))) ∧ Below w.heap.size w w'
theorem Ty.slice_of {W : World} {s : Nat} {v : Value} {G : List Ex.Sg} (h : W.ownsRow s 41 14 v G.length (Ty.flatS G)) : ∃ a c, v = .slice a G.length c ∧ Tp.Sl W a G.length 14 (Ex.sgc G) := by
  rcases Ty.row_sl h with ⟨e1, e2⟩ | ⟨g, c, e1, _, _, e4⟩
  · exact ⟨none, 0, by rw [e1]; exact e2, .inl (by rw [e1]; rfl)⟩
  · exact ⟨_, _, e1, e4⟩
theorem Ty.LkI.sl_r {s b : Nat} {l : List Ex.Sg} {ar : Option Addr} {n cr : Nat} {vl : Value} {W : World} (h : Ty.LkI s b l (.slice ar n cr) vl W) : Tp.Sl W ar (Ty.rds l).length 14 (Ex.sgc (Ty.rds l)) := by
  obtain ⟨a, c, e, hs⟩ := Ty.slice_of h.r
  cases e
  exact hs
theorem Ty.LkI.sl_f {s b : Nat} {l : List Ex.Sg} {al : Option Addr} {n cl : Nat} {vr : Value} {W : World} (h : Ty.LkI s b l vr (.slice al n cl) W) : Tp.Sl W al (Ty.lfs l).length 14 (Ex.sgc (Ty.lfs l)) := by
  obtain ⟨a, c, e, hs⟩ := Ty.slice_of h.f
  cases e
  exact hs
set_option maxRecDepth 100000 in
set_option maxHeartbeats 4000000 in
theorem lw_look (x : Ex.Wk) (p : Ex.Wa) (role bar n d : Int) (w : World) (hsl : Tp.Sl w p.aG x.sg.length 14 (Ex.sgc x.sg)) (hrt : ∀ s ∈ x.sg, Ty.Rt s x.ro.length x.n) (hlen : x.sg.length ≤ 4096) (hb : (-1073741824 ≤ n ∧ n ≤ 1073741824) ∧ 0 ≤ d ∧ d ≤ 1073741824) :
    Calls Tryd.prog 12 #[Ex.workV x p, .int .i64 role, .int .i64 bar, Ra.V n d] w fun e w' => Ty.LookIs x.sg role bar n d w e w' := by
  have hA : ∀ (s : Ex.Sg) W, s ∈ x.sg → Calls Tryd.prog 15 #[Ex.sgV s, Ra.V n d] W fun e w' => e = .returned (.bool (Ty.act s n d)) ∧ Below W.heap.size W w' := fun s W hs => lw_active_b s n d W (hrt s hs).fok (hrt s hs).tok hb
  have HA := Lib.hid hA
  have HRT := Lib.hid hrt
  have HSG := Lib.hid hsl
  obtain ⟨wd, dp, ta, tb, tc, nb, ro, ts, ps, ss, sg⟩ := x
  obtain ⟨aR, cR, aT, cT, aP, cP, aS, cS, aG, cG⟩ := p
  dsimp only at HSG HRT HA hlen ⊢
  clear hA hrt hsl hb
  obtain ⟨i0, hI, hz0, hz1, hz2⟩ := info_parts Ty.infoS
  go_enter Tryd.func12, Tryd.ntmps12
  go_wp2_with fail
  refine Kit.wp_name ?_
  intro X hX
  have hXb : Below w.heap.size w X := by rw [hX]; exact ((((Below.refl _ _).alloc (Nat.le_refl _) _).alloc (by simp) _).alloc (by simp; omega) _)
  have hXs : X.heap.size = w.heap.size + 3 := by rw [hX]; simp
  have hCT : Ty.Cs X (w.heap.size + 1) [.int .i64 n, .int .i64 d] := by
    rw [hX]
    exact Ty.Cs.more (Ty.Cs.top (by simp)) _
  have hLK : Ty.LkI (w.heap.size + 3) (w.heap.size + 1 + 1) [] (.slice none 0 0) (.slice none 0 0) X := by
    rw [hX]
    refine ⟨?_, World.ownsRow_nil _ _ _ _, World.ownsRow_nil _ _ _ _, fun g h => (by cases h), by omega⟩
    have h := World.alloc_heap_new ((w.alloc (.cells (Ex.workV ⟨wd, dp, ta, tb, tc, nb, ro, ts, ps, ss, sg⟩ ⟨aR, cR, aT, cT, aP, cP, aS, cS, aG, cG⟩).cells 32)).alloc (.cells (Ra.V n d).cells 39)) (.cells (Ty.c6 [] (.slice none 0 0) (.slice none 0 0)).toArray 44)
    simp only [World.size_alloc] at h
    exact h
  have HXB := Lib.hid hXb
  have HCT := Lib.hid hCT
  have HLK := Lib.hid hLK
  clear hX hXb hCT hLK
  go_loopw [14] (fun v14 wr => ∃ (i : Nat) (vr vl : Value), v14 = .int .i64 i ∧ i ≤ sg.length ∧ Hid (Ty.LkI (w.heap.size + 3) (w.heap.size + 1 + 1) (Ty.lk (sg.take i) role bar n d) vr vl wr) ∧ Hid (Ty.Cs wr (w.heap.size + 1) [.int .i64 n, .int .i64 d]) ∧ Hid (Kit.Exc (fun k => k = w.heap.size + 1 + 1) X wr))
    (fun v14 _ => sg.length - (intOf v14).toNat)
  case atStart => exact ⟨0, _, _, rfl, Nat.zero_le _, HLK.out, HCT.out, Kit.Exc.refl _ _⟩
  case round =>
    obtain ⟨i, vr, vl, rfl, hi, HL, HT, HE⟩ := hrel
    by_cases hlt : i < sg.length
    · have HBX := Lib.hid (HXB.out.trans (HE.out.below (n := w.heap.size) (by omega) (fun k hk => by omega)))
      have h := HSG.out.kept HBX.out (Nat.le_refl _)
      obtain ⟨ay, rfl, hay, _⟩ := HSG.out.at hlt
      have hay2 : (ay.add (i * 14)).block < wr.heap.size := by rw [Tp.add_block]; have := HBX.out.size; omega
      have e0 := h.head hlt (by omega)
      have e1 := h.field hlt (j := 1) (by omega) (by omega)
      have e2 := h.field hlt (j := 2) (by omega) (by omega)
      have e3 := h.field hlt (j := 3) (by omega) (by omega)
      have e4 := h.field hlt (j := 4) (by omega) (by omega)
      have e5 := h.field hlt (j := 5) (by omega) (by omega)
      have e6 := h.field hlt (j := 6) (by omega) (by omega)
      have e7 := h.field hlt (j := 7) (by omega) (by omega)
      have e8 := h.field hlt (j := 8) (by omega) (by omega)
      have e9 := h.field hlt (j := 9) (by omega) (by omega)
      have e10 := h.field hlt (j := 10) (by omega) (by omega)
      have e11 := h.field hlt (j := 11) (by omega) (by omega)
      have e12 := h.field hlt (j := 12) (by omega) (by omega)
      have e13 := h.field hlt (j := 13) (by omega) (by omega)
      obtain ⟨e, hxe⟩ : ∃ e, sg.getD i default = e := ⟨_, rfl⟩
      have hme : e ∈ sg := by rw [← hxe]; simp [List.getD, hlt]
      have hie : sg[i]? = some e := by rw [← hxe]; simp [List.getD, hlt]
      have htk : sg.take (i + 1) = sg.take i ++ [e] := by rw [List.take_add_one, hie]; rfl
      obtain ⟨L, hL⟩ : ∃ L, L = Ty.lk (sg.take i) role bar n d := ⟨_, rfl⟩
      have hnw : Ty.lk (sg.take (i + 1)) role bar n d = if (e.role == role && e.bar == bar && Ty.act e n d) = true then L ++ [e] else L := by rw [htk, Ty.lk_snoc, hL]
      have hLl : L.length ≤ 4096 := by rw [hL]; exact Nat.le_trans (List.length_filter_le _ _) (by simp; omega)
      rw [← hL] at HL
      have hRl : (Ty.rds L).length ≤ 4096 := Nat.le_trans (List.length_filter_le _ _) hLl
      have hFl : (Ty.lfs L).length ≤ 4096 := Nat.le_trans (List.length_filter_le _ _) hLl
      have hre := HRT.out e hme
      have hkd := hre.kind
      have hsd := hre.side
      have HME := Lib.hid hme
      have HNW := Lib.hid hnw
      simp only [Ex.sgc, hxe] at e0 e1 e2 e3 e4 e5 e6 e7 e8 e9 e10 e11 e12 e13
      clear h hxe hme hie htk hnw hre hL
      go_upto_region 4 with fail
      obtain ⟨w7, hw7⟩ : ∃ w7, w7 = wr.alloc (.cells #[.int .i64 e.id, .int .i64 e.role, .int .i64 e.bar, .int .i64 e.mark, .int .i64 e.kind, .int .i64 e.side, .int .i64 e.dir, .int .i64 e.level, .int .i64 e.size, .int .i64 e.wth, .int .i64 e.fn, .int .i64 e.fd, .int .i64 e.tn, .int .i64 e.td] 41) := ⟨_, rfl⟩
      rw [← hw7]
      have b7 : Below wr.heap.size wr w7 := by rw [hw7]; exact (Below.refl _ _).alloc (Nat.le_refl _) _
      have CE := Lib.hid (show Ty.Cs w7 wr.heap.size [.int .i64 e.id, .int .i64 e.role, .int .i64 e.bar, .int .i64 e.mark, .int .i64 e.kind, .int .i64 e.side, .int .i64 e.dir, .int .i64 e.level, .int .i64 e.size, .int .i64 e.wth, .int .i64 e.fn, .int .i64 e.fd, .int .i64 e.tn, .int .i64 e.td] by rw [hw7]; exact Ty.Cs.top rfl)
      have L7 := Lib.hid (HL.out.below b7)
      have T7 := Lib.hid (HT.out.kept b7 (Nat.le_refl _))
      have E7 := Lib.hid (HE.out.then b7)
      obtain ⟨B, hB⟩ : ∃ B, B = wr.heap.size := ⟨_, rfl⟩
      rw [← hB] at CE
      rw [← hB]
      have HBB := Lib.hid (show w.heap.size + 3 ≤ B by rw [hB]; have := HE.out.size; omega)
      clear hw7 b7 hB hay2 e0 e1 e2 e3 e4 e5 e6 e7 e8 e9 e10 e11 e12 e13 HL HT HE HBX
      have q0 := CE.out.2 0 _ rfl
      have q1 := CE.out.2 1 _ rfl
      have q2 := CE.out.2 2 _ rfl
      have q3 := CE.out.2 3 _ rfl
      have q4 := CE.out.2 4 _ rfl
      have q5 := CE.out.2 5 _ rfl
      have q6 := CE.out.2 6 _ rfl
      have q7 := CE.out.2 7 _ rfl
      have q8 := CE.out.2 8 _ rfl
      have q9 := CE.out.2 9 _ rfl
      have q10 := CE.out.2 10 _ rfl
      have q11 := CE.out.2 11 _ rfl
      have q12 := CE.out.2 12 _ rfl
      have q13 := CE.out.2 13 _ rfl
      have t0 := T7.out.2 0 _ rfl
      have t1 := T7.out.2 1 _ rfl
      have zq := CE.out.1
      have zt := T7.out.1
      rcases c1 : (e.role != role) with _ | _
      · rcases c2 : (e.bar != bar) with _ | _
        · go_wp2_with fail
          refine (HA.out e _ HME.out).mono ?_
          rintro _ w8 ⟨rfl, hb8⟩
          have CE8 := Lib.hid (CE.out.kept hb8 (Nat.le_refl _))
          have L8 := Lib.hid (L7.out.below hb8)
          have T8 := Lib.hid (T7.out.kept hb8 (Nat.le_refl _))
          have E8 := Lib.hid (E7.out.then hb8)
          clear hb8 q0 q1 q2 q3 q4 q5 q6 q7 q8 q9 q10 q11 q12 q13 t0 t1 zq zt
          rcases c3 : Ty.act e n d with _ | _
          · go_wp2
            go_roundw
            case rel => exact ⟨i + 1, vr, vl, by go_num, by omega, (by rw [HNW.out, if_neg (by simp [c3])]; exact L8.out), T8.out, E8.out⟩
            case measure => simp [intOf]; omega
          · have HNW' := Lib.hid (show Ty.lk (sg.take (i + 1)) role bar n d = L ++ [e] by
              rw [HNW.out, if_pos]
              simp only [bne_eq_false_iff_eq] at c1 c2
              simp [c1, c2, c3])
            clear c1 c2 c3 HNW
            obtain ⟨ei, er, eb, em, ek, es, ed, el, ez, ew, fn, fd, tn, td⟩ := e
            dsimp only at hkd hsd CE8
            have q0 := CE8.out.2 0 _ rfl
            have q1 := CE8.out.2 1 _ rfl
            have q2 := CE8.out.2 2 _ rfl
            have q3 := CE8.out.2 3 _ rfl
            have q4 := CE8.out.2 4 _ rfl
            have q5 := CE8.out.2 5 _ rfl
            have q6 := CE8.out.2 6 _ rfl
            have q7 := CE8.out.2 7 _ rfl
            have q8 := CE8.out.2 8 _ rfl
            have q9 := CE8.out.2 9 _ rfl
            have q10 := CE8.out.2 10 _ rfl
            have q11 := CE8.out.2 11 _ rfl
            have q12 := CE8.out.2 12 _ rfl
            have q13 := CE8.out.2 13 _ rfl
            have zq := CE8.out.1
            obtain ⟨l0, l1, l2, l3, l4, l5⟩ := L8.out.cells
            have lf := L8.out.frozen
            have zl := L8.out.lt
            have hkk : ek = 1 ∨ ek = 2 ∨ ek = 3 ∨ ek = 4 ∨ ek = 5 ∨ ek = 6 ∨ ek = 7 ∨ ek = 8 ∨ ek = 9 := by omega
            clear hkd
            rcases hkk with rfl | rfl | rfl | rfl | rfl | rfl | rfl | rfl | rfl
            · rcases hsd (by omega) with rfl | rfl
              · clear hsd
                go_wp2
                go_roundw
                case rel => exact ⟨i + 1, vr, vl, by go_num, by omega, (by rw [HNW'.out]; exact L8.out.set 1 (.bool true) _ (by simp [Ty.c6, Ty.lgs, Ty.jmp, Ty.leg]) (by simp [Ty.rds, Ty.lfs]) (by simp [Ty.rds, Ty.lfs])), T8.out.exc (Kit.Exc.setCell (S := fun k => k = w.heap.size + 1 + 1) (Kit.Exc.refl _ _) (.inl rfl) _) (by omega), E8.out.setCell (.inl rfl) _⟩
                case measure => simp [intOf]; omega
              · clear hsd
                go_wp2
                go_roundw
                case rel => exact ⟨i + 1, vr, vl, by go_num, by omega, (by rw [HNW'.out]; exact L8.out.set 2 (.bool true) _ (by simp [Ty.c6, Ty.lgs, Ty.jmp, Ty.leg]) (by simp [Ty.rds, Ty.lfs]) (by simp [Ty.rds, Ty.lfs])), T8.out.exc (Kit.Exc.setCell (S := fun k => k = w.heap.size + 1 + 1) (Kit.Exc.refl _ _) (.inl rfl) _) (by omega), E8.out.setCell (.inl rfl) _⟩
                case measure => simp [intOf]; omega
            · clear hsd
              go_wp2
              go_roundw
              case rel => exact ⟨i + 1, vr, vl, by go_num, by omega, (by rw [HNW'.out]; exact L8.out.set 3 (.bool true) _ (by simp [Ty.c6, Ty.lgs, Ty.jmp, Ty.leg]) (by simp [Ty.rds, Ty.lfs]) (by simp [Ty.rds, Ty.lfs])), T8.out.exc (Kit.Exc.setCell (S := fun k => k = w.heap.size + 1 + 1) (Kit.Exc.refl _ _) (.inl rfl) _) (by omega), E8.out.setCell (.inl rfl) _⟩
              case measure => simp [intOf]; omega
            · rcases hsd (by omega) with rfl | rfl
              · clear hsd
                go_wp2
                go_roundw
                case rel => exact ⟨i + 1, vr, vl, by go_num, by omega, (by rw [HNW'.out]; exact L8.out.set 1 (.bool true) _ (by simp [Ty.c6, Ty.lgs, Ty.jmp, Ty.leg]) (by simp [Ty.rds, Ty.lfs]) (by simp [Ty.rds, Ty.lfs])), T8.out.exc (Kit.Exc.setCell (S := fun k => k = w.heap.size + 1 + 1) (Kit.Exc.refl _ _) (.inl rfl) _) (by omega), E8.out.setCell (.inl rfl) _⟩
                case measure => simp [intOf]; omega
              · clear hsd
                go_wp2
                go_roundw
                case rel => exact ⟨i + 1, vr, vl, by go_num, by omega, (by rw [HNW'.out]; exact L8.out.set 2 (.bool true) _ (by simp [Ty.c6, Ty.lgs, Ty.jmp, Ty.leg]) (by simp [Ty.rds, Ty.lfs]) (by simp [Ty.rds, Ty.lfs])), T8.out.exc (Kit.Exc.setCell (S := fun k => k = w.heap.size + 1 + 1) (Kit.Exc.refl _ _) (.inl rfl) _) (by omega), E8.out.setCell (.inl rfl) _⟩
                case measure => simp [intOf]; omega
            · clear hsd
              go_wp2
              go_roundw
              case rel => exact ⟨i + 1, vr, vl, by go_num, by omega, (by rw [HNW'.out]; exact L8.out.other (by simp [Ty.c6, Ty.lgs, Ty.jmp, Ty.leg]) (by simp [Ty.rds, Ty.lfs]) (by simp [Ty.rds, Ty.lfs])), T8.out, E8.out⟩
              case measure => simp [intOf]; omega
            · clear hsd
              go_wp2
              go_roundw
              case rel => exact ⟨i + 1, vr, vl, by go_num, by omega, (by rw [HNW'.out]; exact L8.out.other (by simp [Ty.c6, Ty.lgs, Ty.jmp, Ty.leg]) (by simp [Ty.rds, Ty.lfs]) (by simp [Ty.rds, Ty.lfs])), T8.out, E8.out⟩
              case measure => simp [intOf]; omega
            · clear hsd
              go_wp2
              go_roundw
              case rel => exact ⟨i + 1, vr, vl, by go_num, by omega, (by rw [HNW'.out]; exact L8.out.other (by simp [Ty.c6, Ty.lgs, Ty.jmp, Ty.leg]) (by simp [Ty.rds, Ty.lfs]) (by simp [Ty.rds, Ty.lfs])), T8.out, E8.out⟩
              case measure => simp [intOf]; omega
            · clear hsd
              have L9 := Lib.hid (L8.out.below ((Below.refl w8.heap.size w8).alloc (Nat.le_refl _) (.cells #[.int .i64 ei, .int .i64 er, .int .i64 eb, .int .i64 em, .int .i64 7, .int .i64 es, .int .i64 ed, .int .i64 el, .int .i64 ez, .int .i64 ew, .int .i64 fn, .int .i64 fd, .int .i64 tn, .int .i64 td] 41)))
              go_wp2_with (at_builtin; refine Kit.wpList_append_own' _ rfl _ _ 30 rfl (w.heap.size + 3) 41 i0 Ty.zS 14 112 Tryd.underlying30 hI hz0 hz1 hz2 rfl (by decide) vl _ _ rfl L9.out.f ⟨w8.heap.size, 0, none⟩ 1 1 (Ty.sc ⟨ei, er, eb, em, 7, es, ed, el, ez, ew, fn, fd, tn, td⟩) rfl rfl (Ty.lit_cell _ _ _) (by simp [Ty.sc, Value.oneCell']) (by unfold maxLen; omega) (by omega) (by simp; have := E8.out.size; omega) ?_; intro v' w9 hown' hgrow _ hwhere; obtain ⟨g', cap', rfl⟩ := ownsRow_succ hown'; have hG9 := Lib.hid hgrow; have hO9 := Lib.hid hown'; have hW9 := Lib.hid hwhere; obtain ⟨g5, gf⟩ := L9.out.still_f hgrow; clear hown' hgrow hwhere)
              go_roundw
              case rel => exact ⟨i + 1, vr, _, by go_num, by omega, (by rw [HNW'.out]; exact L9.out.lift hG9.out hO9.out hW9.out (by simp [Ty.c6, Ty.lgs, Ty.jmp, Ty.leg]) (by simp [Ty.rds, Ty.lfs]) (by simp [Ty.rds, Ty.lfs])), (T8.out.kept ((Below.refl w8.heap.size w8).alloc (Nat.le_refl _) _) (Nat.le_refl _)) |>.grown_far hG9.out (fun e => by have := (L9.out.f.lt _ e).1; omega) |>.exc (Kit.Exc.setCell (S := fun k => k = w.heap.size + 1 + 1) (Kit.Exc.refl _ _) (.inl rfl) _) (by omega), ((E8.out.alloc _).grown hG9.out (fun k hk => .inr (by have := (L9.out.f.lt k hk).1; omega))).setCell (.inl rfl) _⟩
              case measure => simp [intOf]; omega
            · clear hsd
              have L9 := Lib.hid (L8.out.below ((Below.refl w8.heap.size w8).alloc (Nat.le_refl _) (.cells #[.int .i64 ei, .int .i64 er, .int .i64 eb, .int .i64 em, .int .i64 8, .int .i64 es, .int .i64 ed, .int .i64 el, .int .i64 ez, .int .i64 ew, .int .i64 fn, .int .i64 fd, .int .i64 tn, .int .i64 td] 41)))
              go_wp2_with (at_builtin; refine Kit.wpList_append_own' _ rfl _ _ 30 rfl (w.heap.size + 3) 41 i0 Ty.zS 14 112 Tryd.underlying30 hI hz0 hz1 hz2 rfl (by decide) vr _ _ rfl L9.out.r ⟨w8.heap.size, 0, none⟩ 1 1 (Ty.sc ⟨ei, er, eb, em, 8, es, ed, el, ez, ew, fn, fd, tn, td⟩) rfl rfl (Ty.lit_cell _ _ _) (by simp [Ty.sc, Value.oneCell']) (by unfold maxLen; omega) (by omega) (by simp; have := E8.out.size; omega) ?_; intro v' w9 hown' hgrow _ hwhere; obtain ⟨g', cap', rfl⟩ := ownsRow_succ hown'; have hG9 := Lib.hid hgrow; have hO9 := Lib.hid hown'; have hW9 := Lib.hid hwhere; obtain ⟨g5, gf⟩ := L9.out.still_r hgrow; clear hown' hgrow hwhere)
              go_roundw
              case rel => exact ⟨i + 1, _, vl, by go_num, by omega, (by rw [HNW'.out]; exact L9.out.ride hG9.out hO9.out hW9.out (by simp [Ty.c6, Ty.lgs, Ty.jmp, Ty.leg]) (by simp [Ty.rds, Ty.lfs]) (by simp [Ty.rds, Ty.lfs])), (T8.out.kept ((Below.refl w8.heap.size w8).alloc (Nat.le_refl _) _) (Nat.le_refl _)) |>.grown_far hG9.out (fun e => by have := (L9.out.r.lt _ e).1; omega) |>.exc (Kit.Exc.setCell (S := fun k => k = w.heap.size + 1 + 1) (Kit.Exc.refl _ _) (.inl rfl) _) (by omega), ((E8.out.alloc _).grown hG9.out (fun k hk => .inr (by have := (L9.out.r.lt k hk).1; omega))).setCell (.inl rfl) _⟩
              case measure => simp [intOf]; omega
            · clear hsd
              go_wp2
              go_roundw
              case rel => exact ⟨i + 1, vr, vl, by go_num, by omega, (by rw [HNW'.out]; exact L8.out.other (by simp [Ty.c6, Ty.lgs, Ty.jmp, Ty.leg]) (by simp [Ty.rds, Ty.lfs]) (by simp [Ty.rds, Ty.lfs])), T8.out, E8.out⟩
              case measure => simp [intOf]; omega
        · go_wp2
          go_roundw
          case rel => exact ⟨i + 1, vr, vl, by go_num, by omega, (by rw [HNW.out, if_neg (by simp only [bne_iff_ne, ne_eq] at c2; simp [c2])]; exact L7.out), T7.out, E7.out⟩
          case measure => simp [intOf]; omega
      · go_wp2
        go_roundw
        case rel => exact ⟨i + 1, vr, vl, by go_num, by omega, (by rw [HNW.out, if_neg (by simp only [bne_iff_ne, ne_eq] at c1; simp [c1])]; exact L7.out), T7.out, E7.out⟩
        case measure => simp [intOf]; omega
    · obtain rfl : i = sg.length := by omega
      rw [List.take_length] at HL
      obtain ⟨l0, l1, l2, l3, l4, l5⟩ := HL.out.cells
      have lf := HL.out.frozen
      have zl := HL.out.lt
      obtain ⟨ar, cr, rfl, hsr⟩ := Ty.slice_of HL.out.r
      obtain ⟨al, cl, rfl, hsl⟩ := Ty.slice_of HL.out.f
      have HSR := Lib.hid hsr
      have HSL := Lib.hid hsl
      have HB := Lib.hid (HXB.out.trans (HE.out.below (n := w.heap.size) (by omega) (fun k hk => by omega)))
      clear hsr hsl
      go_wp2
      (refine bodyPost_ret (by simp [results, Tryd.results12, go_sem, Kit.cell_set, l0, l1, l2, l3, l4, l5]; try rfl) rfl ?_)
      have L' := Lib.hid ((((((HL.out.set 0 (.bool false) _ rfl rfl rfl).set 1 (.bool (Ty.lgs (Ty.lk sg role bar n d) 1)) _ rfl rfl rfl).set 2 (.bool (Ty.lgs (Ty.lk sg role bar n d) 2)) _ rfl rfl rfl).set 3 (.bool (Ty.jmp (Ty.lk sg role bar n d))) _ rfl rfl rfl).set 4 (.slice ar (Ty.rds (Ty.lk sg role bar n d)).length cr) _ rfl rfl rfl).set 5 (.slice al (Ty.lfs (Ty.lk sg role bar n d)).length cl) _ rfl rfl rfl)
      exact ⟨ar, cr, al, cl, rfl, L'.out.sl_r, L'.out.sl_f, (by
        have hB := HB.out
        exact (((((hB.setCell (p := ⟨w.heap.size + 1 + 1, 0, none⟩) (Nat.le_add_right _ 2) _).setCell (p := ⟨w.heap.size + 1 + 1, 1, none⟩) (Nat.le_add_right _ 2) _).setCell (p := ⟨w.heap.size + 1 + 1, 2, none⟩) (Nat.le_add_right _ 2) _).setCell (p := ⟨w.heap.size + 1 + 1, 3, none⟩) (Nat.le_add_right _ 2) _).setCell (p := ⟨w.heap.size + 1 + 1, 4, none⟩) (Nat.le_add_right _ 2) _).setCell (p := ⟨w.heap.size + 1 + 1, 5, none⟩) (Nat.le_add_right _ 2) _)⟩
end Go.Proofs.YtggfeblfhabmkaaDoor
