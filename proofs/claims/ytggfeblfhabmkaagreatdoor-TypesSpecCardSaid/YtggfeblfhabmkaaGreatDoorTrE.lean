/- Walks: the reference of layer 20: Faults, Check. -/
import Derived.Test.YtggfeblfhabmkaaGreatDoorTrD
import Derived.Test.YtggfeblfhabmkaaGreatDoorTrA
import Derived.Test.YtggfeblfhabmkaaGreatDoorTyQ
import Derived.Deep.RegionHeldLaw
namespace Go.Proofs.YtggfeblfhabmkaaGreatDoor
set_option linter.unusedVariables false
set_option linter.unusedSimpArgs false
open Go.RowKit Go.Shelf

theorem Ty.lit_cell2 (W : World) (l : List Value) (t : TypeId) {b : Nat} (hb : b = W.heap.size) (j : Nat) (u : Value) (h : l[j]? = some u) : (W.alloc (.cells l.toArray t)).cell? ((⟨b, 0, none⟩ : Addr).add j) = some u := by
  subst hb
  have h1 := World.alloc_heap_new W (.cells l.toArray t)
  have e : (⟨W.heap.size, 0, none⟩ : Addr).add j = ⟨W.heap.size, j, none⟩ := by
    unfold Addr.add; split <;> simp_all
  rw [e]
  simp only [World.cell?, h1]
  simpa using h
theorem Kit.wpOp_append_one {P : Program} {ops : Array Oper} {Q : Exit → Act → World → Prop} {ii : Nat} {o : Oper} {Kc : Act → World → Prop} {a : Act} (w : World) (ds : Option Tmp) (hoo : ops[ii]? = some o) (hd : o.dst = ds) (hgd : o.guard = none) (s x : Operand) (t : TypeId)
    (ho : o.op = .call { callee := .builtin .append, args := #[s, x], argTypes := #[t, t] })
    (base : Nat) (e : TypeId) (i : TypeInfo) (z : Value) (size bytes : Nat) (ht : P.underlying t = some (.slice e)) (hi : P.info? e = some i) (hz : i.zero = some z)
    (hsize : i.size = size) (hby : i.bytes = bytes) (hzs : z.cells.size = size) (hsz : 0 < size)
    (v : Value) (n : Nat) (xs : List Value) (hs : a.eval s = v) (hown : w.ownsRow base e size v n xs)
    (ad : Addr) (c : Nat) (news : List Value) (hx : a.eval x = .slice (some ad) 1 c) (hl : news.length = 1 * size) (hnews : ∀ j u, news[j]? = some u → w.cell? (ad.add j) = some u) (h1 : ∀ u ∈ news, u.oneCell' = true)
    (h63 : n + 1 ≤ maxLen) (hbytes : (n + 1) * bytes ≤ 140737488355328) (hbase : base ≤ w.heap.size)
    (h : ∀ v' w', w'.ownsRow base e size v' (n + 1) (xs ++ news) → w.grownBy w' v.ownBlock → (∀ k, v'.ownBlock = some k → v.ownBlock = some k ∨ w.heap.size ≤ k) → Kc (a.put ds v') w') : wpOp P ops Q ii Kc a w := by
  obtain ⟨v', w', hr, h2, h3, _, h5⟩ := Kit.run_append_own' (P := P) w base t o.type e i z size bytes ht hi hz hsize hby hzs hsz v n xs hown ad 1 c news hl hnews h1 h63 hbytes hbase
  refine Kit.wpOp_value2 ds hoo hd hgd ?_ (h v' w' h2 h3 h5)
  unfold execOp
  simp only [ho, resolve, invoke, builtin, Sem.run_bind, Sem.run_pure, Result.andThen_ok, List.map_toArray, List.map_cons, List.map_nil, hs, hx, hr]
theorem Ty.own_empty2 {w : World} {N : Nat} {e : TypeId} {size : Nat} (h : w.heap[N]? = some (.cells #[] e (0, 0))) : w.ownsRow N e size (.slice (some ⟨N, 0, none⟩) 0 0) 0 [] :=
  ⟨by simp, .inr ⟨N, 0, #[], rfl, Nat.le_refl _, h, by simp⟩⟩
/-- The kinds that are left. -/
def Ty.tl (l : List Ex.Sg) : Nat → List Ty.F3
  | 1 => Ty.rK 1 l l ++ (Ty.rK 2 l l ++ (Ty.rK 3 l l ++ Ty.rK 4 l l))
  | 2 => Ty.rK 2 l l ++ (Ty.rK 3 l l ++ Ty.rK 4 l l)
  | 3 => Ty.rK 3 l l ++ Ty.rK 4 l l
  | 4 => Ty.rK 4 l l
  | _ => []
theorem Ty.tl_succ (l : List Ex.Sg) (k : Nat) (h : 1 ≤ k ∧ k ≤ 4) : Ty.tl l k = Ty.rK k l l ++ Ty.tl l (k + 1) := by
  have : k = 1 ∨ k = 2 ∨ k = 3 ∨ k = 4 := by omega
  rcases this with rfl | rfl | rfl | rfl
  · rfl
  · rfl
  · rfl
  · simp [Ty.tl]
theorem Ty.rK_len2 (k : Int) (all : List Ex.Sg) : ∀ l : List Ex.Sg, (Ty.rK k all l).length ≤ (l.length + 1) * l.length
  | [] => by simp [Ty.rK]
  | a :: l => by
    have h1 := Ty.rK_len2 k all l
    have h2 : (Ty.selfK k all a).length ≤ 1 := by unfold Ty.selfK; split <;> simp
    have h3 : (Ty.rowK k a l).length ≤ l.length := by simp only [Ty.rowK, List.length_map]; exact List.length_filter_le _ _
    simp only [Ty.rK, List.length_append, List.length_cons]
    rw [show (l.length + 1 + 1) * (l.length + 1) = (l.length + 1) * l.length + (l.length + 1) + (l.length + 1) by rw [Nat.succ_mul, Nat.mul_succ]]
    omega
theorem Ty.refL_len2 (l : List Ex.Sg) (h : l.length ≤ 4096) : (Ty.refL l).length ≤ 100000000 := by
  have h1 := Ty.rK_len2 1 l l
  have h2 := Ty.rK_len2 2 l l
  have h3 := Ty.rK_len2 3 l l
  have h4 := Ty.rK_len2 4 l l
  have h5 : (l.length + 1) * l.length ≤ 4097 * 4096 := Nat.mul_le_mul (by omega) h
  simp only [Ty.refL, List.length_append]
  omega
theorem Ty.flatF_one (X : List Ty.F3) (x : Ty.F3) : Ty.flatF (X ++ [x]) = Ty.flatF X ++ Ty.fs x := by simp [Ty.flatF]
/-- What the reference answers. -/
def Ty.RefIs (x : Ex.Wk) (w : World) (e : Ending) (w' : World) : Prop :=
  ∃ a c, e = .returned (.tuple #[.slice a (Ty.lst x).length c, .int .i64 (Ex.chk x)]) ∧ Tp.Sl w' a (Ty.lst x).length 3 (Ty.f3c (Ty.lst x)) ∧ Below w.heap.size w w'
set_option maxRecDepth 100000 in
set_option maxHeartbeats 4000000 in
theorem tr_faults (x : Ex.Wk) (p : Ex.Wa) (w : World) (ha : Ex.At w x p) : Calls Tryz.prog 7 #[Ex.workV x p] w fun e w' => Ty.RefIs x w e w' := by
  have HC := Lib.hid (fun W (hb : Below w.heap.size w W) => rq_check19 x p W (ha.kept hb (Nat.le_refl _)))
  have HSG := Lib.hid ha.sg
  unfold Ty.RefIs Ty.lst
  by_cases h0 : Ex.chk x = 0
  · obtain ⟨hrl, hln, _, _, hrt⟩ := Ty.of_chk h0
    rw [if_pos h0, h0]
    rw [h0] at HC
    have hra : ∀ s ∈ x.sg, 0 ≤ s.role ∧ s.role ≤ 64 := fun s hs => by have := (hrt s hs).role; omega
    have HAL := Lib.hid (fun (s : Ex.Sg) (hs : s ∈ x.sg) W (hb : Below w.heap.size w W) => tr_alone p.aG x.sg p.cG s W (ha.sg.kept hb (Nat.le_refl _)) hra (hra s hs) hln)
    have HPR := Lib.hid (fun (s : Ex.Sg) (hs : s ∈ x.sg) (t : Ex.Sg) (ht : t ∈ x.sg) (k : Nat) (hk : 1 ≤ k ∧ k ≤ 4) W => tr_pair s t k x.ro.length x.n (hrt s hs) (hrt t ht) (by omega) W)
    clear ha hrt hra h0
    obtain ⟨wd, dp, ta, tb, tc, n, ro, ts, ps, ss, l⟩ := x
    obtain ⟨aR, cR, aT, cT, aP, cP, aS, cS, aG, cG⟩ := p
    dsimp only at HSG hln hrl ⊢
    have hrn := Ty.refL_len2 l hln
    go_enter Tryz.func7, Tryz.ntmps7
    skip
    (go_wp2_with (fail); refine (HC.out _ (by (repeat' first | (with_reducible first | exact Below.refl _ _ | assumption | refine Kit.below_drewN ?_ _ | refine Below.drew ?_ | refine Below.alloc ?_ ?_ _ | refine Below.setCell ?_ ?_ _ | exact Nat.le_refl _) | omega | (simp; omega) | (simp; done) | (apply Below.size; assumption)))).mono ?_; rintro e w1_ ⟨rfl, hb1_⟩; have hp1_ : Below w.heap.size w w1_ := Below.trans (by (repeat' first | (with_reducible first | exact Below.refl _ _ | assumption | refine Kit.below_drewN ?_ _ | refine Below.drew ?_ | refine Below.alloc ?_ ?_ _ | refine Below.setCell ?_ ?_ _ | exact Nat.le_refl _) | omega | (simp; omega) | (simp; done) | (apply Below.size; assumption))) (hb1_.mono (by first | assumption | (simp; done) | (simp; omega) | omega)); have hw1_ : Below w.heap.size w w1_ := hp1_; obtain ⟨hc1_, hf1_⟩ := Kit.bcell hb1_; have z1_w : w.heap.size < w1_.heap.size := (by have := hb1_.size; first | omega | (simp at this; omega)); obtain ⟨g1_w_0, g1_w_1, g1_w_2, g1_w_3, g1_w_4, g1_w_5, g1_w_6, g1_w_7, g1_w_8, g1_w_9, g1_w_10⟩ : w1_.cell? ⟨w.heap.size, 0, none⟩ = some (.int .i64 wd) ∧ w1_.cell? ⟨w.heap.size, 1, none⟩ = some (.int .i64 dp) ∧ w1_.cell? ⟨w.heap.size, 2, none⟩ = some (.int .i64 ta) ∧ w1_.cell? ⟨w.heap.size, 3, none⟩ = some (.int .i64 tb) ∧ w1_.cell? ⟨w.heap.size, 4, none⟩ = some (.int .i64 tc) ∧ w1_.cell? ⟨w.heap.size, 5, none⟩ = some (.slice aR ro.length cR) ∧ w1_.cell? ⟨w.heap.size, 6, none⟩ = some (.int .i64 n) ∧ w1_.cell? ⟨w.heap.size, 7, none⟩ = some (.slice aT ts.length cT) ∧ w1_.cell? ⟨w.heap.size, 8, none⟩ = some (.slice aP ps.length cP) ∧ w1_.cell? ⟨w.heap.size, 9, none⟩ = some (.slice aS ss.length cS) ∧ w1_.cell? ⟨w.heap.size, 10, none⟩ = some (.slice aG l.length cG) := (by refine ⟨?_, ?_, ?_, ?_, ?_, ?_, ?_, ?_, ?_, ?_, ?_⟩ <;> (rw [hc1_ _ _ (by first | assumption | (simp; done) | (simp; omega) | omega)]; first | assumption | (simp [go_sem]; done) | (simp [go_sem, *]; done))); clear hc1_ hf1_; clear hb1_ hp1_)
    obtain ⟨i0, hI, hz0, hz1, hz2⟩ := info_parts Ty.infoF
    go_wp2_with fail
    refine Kit.wp_name ?_
    intro W1' hW1
    obtain ⟨b6, hb6⟩ : ∃ b6, b6 = w1_.heap.size := ⟨_, rfl⟩
    rw [← hb6]
    obtain ⟨W1, hWW⟩ : ∃ W1, W1 = w1_ := ⟨_, rfl⟩
    have HO := Lib.hid (show W1'.ownsRow W1.heap.size 48 3 (.slice (some ⟨b6, 0, none⟩) 0 0) 0 [] by rw [hW1, hWW, hb6]; exact Ty.own_empty2 (World.alloc_heap_new _ _))
    have HB := Lib.hid (show Below W1.heap.size W1 W1' by rw [hW1, hWW]; exact (Below.refl _ _).alloc (Nat.le_refl _) _)
    have HW1 := Lib.hid (show Below w.heap.size w W1 by rw [hWW]; exact hw1_)
    clear hW1 hb6 hWW g1_w_0 g1_w_1 g1_w_2 g1_w_3 g1_w_4 g1_w_5 g1_w_6 g1_w_7 g1_w_8 g1_w_9 g1_w_10 hw1_ z1_w HC
    go_loopw [6, 7] (fun v6 v7 wr => ∃ (k : Nat) (X : List Ty.F3) (v : Value), v7 = .int .i64 k ∧ v6 = v ∧ 1 ≤ k ∧ k ≤ 5 ∧ Hid (wr.ownsRow W1.heap.size 48 3 v X.length (Ty.flatF X)) ∧ Hid (X ++ Ty.tl l k = Ty.refL l) ∧ Hid (Below W1.heap.size W1 wr))
      (fun _ v7 _ => 5 - (intOf v7).toNat)
    case atStart => exact ⟨1, [], _, rfl, rfl, by omega, by omega, HO.out, rfl, HB.out⟩
    case round =>
      obtain ⟨k, X, v, rfl, rfl, hk1, hk5, HO, HX, HB⟩ := hrel
      by_cases hk4 : k ≤ 4
      · have hk4' : (k : Int) ≤ 4 := by omega
        have HTL := Lib.hid (Ty.tl_succ l k ⟨hk1, hk4⟩)
        go_wp2_with fail
        go_loopw [6, 8] (fun v6 v8 wr => ∃ (i : Nat) (X : List Ty.F3) (v : Value), v8 = .int .i64 i ∧ v6 = v ∧ i ≤ l.length ∧ Hid (wr.ownsRow W1.heap.size 48 3 v X.length (Ty.flatF X)) ∧ Hid (X ++ (Ty.rK k l (l.drop i) ++ Ty.tl l (k + 1)) = Ty.refL l) ∧ Hid (Below W1.heap.size W1 wr))
          (fun _ v8 _ => l.length - (intOf v8).toNat)
        case atStart => exact ⟨0, X, _, rfl, rfl, Nat.zero_le _, HO.out, (by show _ = _; rw [List.drop_zero, ← HTL.out]; exact HX.out), HB.out⟩
        case round =>
          obtain ⟨i, X2, v2, rfl, hv2, hi, HO2, HX2, HB2⟩ := hrel
          replace hv2 := hv2.symm
          subst hv2
          by_cases hlt : i < l.length
          · obtain ⟨ay, rfl, hay, _⟩ := HSG.out.at hlt
            have HSr := Lib.hid (HSG.out.kept (HW1.out.trans (HB2.out.mono HW1.out.size)) (Nat.le_refl _))
            have h := HSr.out
            have hay2 : (ay.add (i * 14)).block < wr.heap.size := by rw [Tp.add_block]; have := HW1.out.size; have := HB2.out.size; omega
            have e0 := h.head hlt (by omega)
            have e1 := h.field hlt (j := 1) (by omega) (by omega)
            have e2 := h.field hlt (j := 2) (by omega) (by omega)
            have e3 := h.field hlt (j := 3) (by omega) (by omega)
            have e4 := h.field hlt (j := 4) (by omega) (by omega)
            have e5 := h.field hlt (j := 5) (by omega) (by omega)
            have e6 := h.field hlt (j := 6) (by omega) (by omega)
            have e7 := h.field hlt (j := 7) (by omega) (by omega)
            have e8 := h.field hlt (j := 8) (by omega) (by omega)
            have e9 := h.field hlt (j := 9) (by omega) (by omega)
            have e10 := h.field hlt (j := 10) (by omega) (by omega)
            have e11 := h.field hlt (j := 11) (by omega) (by omega)
            have e12 := h.field hlt (j := 12) (by omega) (by omega)
            have e13 := h.field hlt (j := 13) (by omega) (by omega)
            obtain ⟨a, hxa⟩ : ∃ a, l.getD i default = a := ⟨_, rfl⟩
            have hia : l[i]? = some a := by rw [← hxa]; simp [List.getD, hlt]
            have HMA := Lib.hid (List.mem_of_getElem? hia)
            have HGA := Lib.hid hxa
            have hdr : l.drop i = a :: l.drop (i + 1) := by
              rw [List.drop_eq_getElem_cons hlt]
              congr 1
              exact (List.getElem?_eq_some_iff.1 hia).2
            have hX2 := HX2.out
            rw [hdr] at hX2
            replace HX2 := Lib.hid (show X2 ++ (Ty.selfK k l a ++ (Ty.rowK k a (l.drop (i + 1)) ++ (Ty.rK k l (l.drop (i + 1)) ++ Ty.tl l (k + 1)))) = Ty.refL l by rw [← hX2, Ty.rK]; simp only [List.append_assoc])
            simp only [Ex.sgc, hxa] at e0 e1 e2 e3 e4 e5 e6 e7 e8 e9 e10 e11 e12 e13
            clear h hxa hia hdr hX2
            go_upto_region 12 with fail
            go_cut [37] from 28 to 36 (fun s37 wx => s37 = .bool (decide ((k : Int) = 3) && Ty.alone l a) ∧ Hid (Below wr.heap.size wr wx))
            case first =>
              by_cases hk3 : (k : Int) = 3
              · have hk3' : ((k : Int) == 3) = true := by simpa using hk3
                have HK3 := Lib.hid hk3
                clear hk3
                rcases hal : Ty.alone l a with _ | _ <;>
                · have G1 := Lib.hid (HAL.out a HMA.out wr (HW1.out.trans (HB2.out.mono HW1.out.size)))
                  rw [hal] at G1
                  go_wp2_with fail
                  refine G1.out.mono ?_
                  rintro _ w9 ⟨rfl, hb9⟩
                  have HB9 := Lib.hid hb9
                  clear hb9
                  go_wp2_with fail
                  go_meet
                  case rel => exact ⟨(by simp [HK3.out, hal]), HB9.out⟩
              · have hk3' : ((k : Int) == 3) = false := by simpa using hk3
                have HK3 := Lib.hid hk3
                clear hk3
                go_wp2_with fail
                go_meet
                case rel => exact ⟨(by simp [HK3.out]), Below.refl _ _⟩
            case rest =>
              obtain ⟨rfl, HB12⟩ := hcut
              obtain ⟨W12, rfl⟩ : ∃ W12, W12 = wc := ⟨_, rfl⟩
              obtain ⟨c12, hc12⟩ : ∃ c12, c12 = (decide ((k : Int) = 3) && Ty.alone l a) := ⟨_, rfl⟩
              rw [← hc12]
              have HS1 := Lib.hid (show ∀ (q : Nat) (u : Int), W1.cell? (ay.add (q * 14)) = some (.int .i64 u) → W1.cell? (ay.add (q * 14)) = some (.int .i64 u) from fun _ _ h => h)
              have hay1 : ay.block < W1.heap.size := by have := HW1.out.size; omega
              have hayW : ay.block < W12.heap.size := by have := HB2.out.size; have := HB12.out.size; omega
              have HB3 := Lib.hid (HB2.out.trans (HB12.out.mono HB2.out.size))
              have HO3 := Lib.hid (Ty.own_keep HO2.out (fun g hg => HB12.out.block g (HO2.out.lt g hg).2))
              have E0 := Lib.hid ((HB12.out.cell (p := ay.add (i * 14)) hay2).trans e0)
              have hXl : X2.length ≤ 100000000 := by have := congrArg List.length HX2.out; simp only [List.length_append] at this; omega
              clear e0 e1 e2 e3 e4 e5 e6 e7 e8 e9 e10 e11 e12 e13 hay2 HO2
              go_upto_if 37 with fail
              go_cut [6] from 37 to 52 (fun s6 wx => Hid (wx.ownsRow W1.heap.size 48 3 s6 (X2 ++ Ty.selfK k l a).length (Ty.flatF (X2 ++ Ty.selfK k l a))) ∧ Hid (Below W1.heap.size W1 wx))
              case first =>
                rcases c12 with _ | _
                · have HSK := Lib.hid (show Ty.selfK k l a = [] by unfold Ty.selfK; rw [← hc12]; rfl)
                  clear hc12
                  go_wp2_with fail
                  go_meet
                  case rel => exact ⟨(by show World.ownsRow _ _ _ _ _ _ _; rw [HSK.out, List.append_nil]; exact HO3.out), HB3.out⟩
                · have HSK := Lib.hid (show Ty.selfK k l a = [((k : Int), a.id, a.id)] by unfold Ty.selfK; rw [← hc12]; rfl)
                  clear hc12
                  have f0 := E0.out
                  go_upto_region 13 with fail
                  have hS : (fun w' : World => w'.cell? (ay.add (i * 14)) = some (.int .i64 a.id) ∧ w'.cell? (ay.add (i * 14)) = some (.int .i64 a.id)) ({ W12 with drawn := W12.drawn + 1 } : World) := ⟨f0, f0⟩
                  refine wp_region_held (S := (fun w' : World => w'.cell? (ay.add (i * 14)) = some (.int .i64 a.id) ∧ w'.cell? (ay.add (i * 14)) = some (.int .i64 a.id))) (by kernel_rfl) ?_
                  refine Kit.take2 (i := 0) (v := v2) (some 38) rfl rfl (by kernel_rfl) (by kernel_rfl) (by kernel_rfl) (fun _ d _ _ h => by cases d <;> exact h) (Or.inl ⟨by rfl, fun wv hwv => by go_simp⟩) hS ?_
                  (try simp only [Act.put, List.setIfInBounds_toArray, List.set_cons_zero, List.set_cons_succ])
                  refine Kit.take2 (i := 1) (v := .int .i64 k) (some 39) rfl rfl (by kernel_rfl) (by kernel_rfl) (by kernel_rfl) (fun _ d _ _ h => by cases d <;> exact h) (Or.inl ⟨by rfl, fun wv hwv => by go_simp⟩) hS ?_
                  (try simp only [Act.put, List.setIfInBounds_toArray, List.set_cons_zero, List.set_cons_succ])
                  refine Kit.take2 (i := 2) (v := .slice (some ay) l.length cG) (some 40) rfl rfl (by kernel_rfl) (by kernel_rfl) (by kernel_rfl) (fun _ d _ _ h => by cases d <;> exact h) (Or.inl ⟨by rfl, fun wv hwv => by go_simp⟩) hS ?_
                  (try simp only [Act.put, List.setIfInBounds_toArray, List.set_cons_zero, List.set_cons_succ])
                  refine Kit.take2 (i := 3) (v := .int .i64 i) (some 41) rfl rfl (by kernel_rfl) (by kernel_rfl) (by kernel_rfl) (fun _ d _ _ h => by cases d <;> exact h) (Or.inl ⟨by rfl, fun wv hwv => by go_simp⟩) hS ?_
                  (try simp only [Act.put, List.setIfInBounds_toArray, List.set_cons_zero, List.set_cons_succ])
                  refine Kit.take2 (i := 4) (v := .pointer (some (ay.add (i * 14)))) (some 42) rfl rfl (by kernel_rfl) (by kernel_rfl) (by kernel_rfl) (fun _ d _ _ h => by cases d <;> exact h) (Or.inl ⟨by rfl, fun wv hwv => by go_simp⟩) hS ?_
                  (try simp only [Act.put, List.setIfInBounds_toArray, List.set_cons_zero, List.set_cons_succ])
                  refine Kit.take2 (i := 5) (v := .pointer (some (ay.add (i * 14)))) (some 43) rfl rfl (by kernel_rfl) (by kernel_rfl) (by kernel_rfl) (fun _ d _ _ h => by cases d <;> exact h) (Or.inl ⟨by rfl, fun wv hwv => by go_simp⟩) hS ?_
                  (try simp only [Act.put, List.setIfInBounds_toArray, List.set_cons_zero, List.set_cons_succ])
                  refine Kit.take2 (i := 6) (v := .int .i64 a.id) (some 44) rfl rfl (by kernel_rfl) (by kernel_rfl) (by kernel_rfl) (fun _ d _ _ h => by cases d <;> exact h) (Or.inl ⟨by rfl, fun wv hwv => by (obtain ⟨hw0, hw1⟩ := hwv; go_simp)⟩) hS ?_
                  (try simp only [Act.put, List.setIfInBounds_toArray, List.set_cons_zero, List.set_cons_succ])
                  refine Kit.take2 (i := 7) (v := .slice (some ay) l.length cG) (some 45) rfl rfl (by kernel_rfl) (by kernel_rfl) (by kernel_rfl) (fun _ d _ _ h => by cases d <;> exact h) (Or.inl ⟨by rfl, fun wv hwv => by go_simp⟩) hS ?_
                  (try simp only [Act.put, List.setIfInBounds_toArray, List.set_cons_zero, List.set_cons_succ])
                  refine Kit.take2 (i := 8) (v := .int .i64 i) (some 46) rfl rfl (by kernel_rfl) (by kernel_rfl) (by kernel_rfl) (fun _ d _ _ h => by cases d <;> exact h) (Or.inl ⟨by rfl, fun wv hwv => by go_simp⟩) hS ?_
                  (try simp only [Act.put, List.setIfInBounds_toArray, List.set_cons_zero, List.set_cons_succ])
                  refine Kit.take2 (i := 9) (v := .pointer (some (ay.add (i * 14)))) (some 47) rfl rfl (by kernel_rfl) (by kernel_rfl) (by kernel_rfl) (fun _ d _ _ h => by cases d <;> exact h) (Or.inl ⟨by rfl, fun wv hwv => by go_simp⟩) hS ?_
                  (try simp only [Act.put, List.setIfInBounds_toArray, List.set_cons_zero, List.set_cons_succ])
                  refine Kit.take2 (i := 10) (v := .pointer (some (ay.add (i * 14)))) (some 48) rfl rfl (by kernel_rfl) (by kernel_rfl) (by kernel_rfl) (fun _ d _ _ h => by cases d <;> exact h) (Or.inl ⟨by rfl, fun wv hwv => by go_simp⟩) hS ?_
                  (try simp only [Act.put, List.setIfInBounds_toArray, List.set_cons_zero, List.set_cons_succ])
                  refine Kit.take2 (i := 11) (v := .int .i64 a.id) (some 49) rfl rfl (by kernel_rfl) (by kernel_rfl) (by kernel_rfl) (fun _ d _ _ h => by cases d <;> exact h) (Or.inl ⟨by rfl, fun wv hwv => by (obtain ⟨hw0, hw1⟩ := hwv; go_simp)⟩) hS ?_
                  (try simp only [Act.put, List.setIfInBounds_toArray, List.set_cons_zero, List.set_cons_succ])
                  refine Kit.take2 (i := 12) (v := .agg #[.int .i64 k, .int .i64 a.id, .int .i64 a.id]) (some 50) rfl rfl (by kernel_rfl) (by kernel_rfl) (by kernel_rfl) (fun _ d _ _ h => by cases d <;> exact h) (Or.inl ⟨by rfl, fun wv hwv => by go_simp⟩) hS ?_
                  (try simp only [Act.put, List.setIfInBounds_toArray, List.set_cons_zero, List.set_cons_succ])
                  refine wpAnyH_all (rs := [13]) (by kernel_rfl) (by simp) fun ii hii => ?_
                  obtain rfl : ii = 13 := by simpa using hii
                  refine Kit.wpOp_value2 (v := .slice (some ⟨W12.heap.size, 0, none⟩) 1 1) (w' := ({ W12 with drawn := W12.drawn + 1 } : World).alloc (.cells #[.int .i64 k, .int .i64 a.id, .int .i64 a.id] 48)) (some 51) rfl rfl rfl (by simp [execOp, go_sem] <;> rfl) ?_
                  obtain ⟨V0, hV0⟩ : ∃ V0, V0 = ({ W12 with drawn := W12.drawn + 1 } : World).alloc (.cells #[.int .i64 k, .int .i64 a.id, .int .i64 a.id] 48) := ⟨_, rfl⟩
                  rw [← hV0]
                  have x0 : Below W12.heap.size W12 V0 := by rw [hV0]; exact ((Below.refl _ _).drew).alloc (Nat.le_refl _) _
                  have o0 := Ty.own_keep HO3.out (W' := V0) (fun g hg => x0.block g (HO3.out.lt g hg).2)
                  have l0 : ∀ j u, (Ty.fs ((k : Int), a.id, a.id))[j]? = some u → V0.cell? ((⟨W12.heap.size, 0, none⟩ : Addr).add j) = some u := fun j u hu => by rw [hV0]; exact Ty.lit_cell2 _ _ _ rfl j u hu
                  have q0 : (fun w' : World => w'.cell? (ay.add (i * 14)) = some (.int .i64 a.id) ∧ w'.cell? (ay.add (i * 14)) = some (.int .i64 a.id)) V0 := ⟨(x0.cell (p := ay.add (i * 14)) (by rw [Tp.add_block]; exact hayW)).trans f0, (x0.cell (p := ay.add (i * 14)) (by rw [Tp.add_block]; exact hayW)).trans f0⟩
                  have HO0 := Lib.hid o0
                  have HX0 := Lib.hid x0
                  have HL0 := Lib.hid l0
                  clear hV0 o0 x0 l0
                  refine ⟨q0, ?_⟩
                  (try simp only [Act.put, List.setIfInBounds_toArray, List.set_cons_zero, List.set_cons_succ])
                  refine wpAnyH_all (rs := [14]) (by kernel_rfl) (by simp) fun ii hii => ?_
                  obtain rfl : ii = 14 := by simpa using hii
                  refine Kit.wpOp_append_one V0 (some 52) rfl rfl rfl (.tmp 38) (.tmp 51) 35 rfl W1.heap.size 48 i0 (.agg #[.int .i64 0, .int .i64 0, .int .i64 0]) 3 24 Tryz.underlying35 hI hz0 hz1 hz2 rfl (by decide) v2 X2.length (Ty.flatF X2) rfl HO0.out ⟨W12.heap.size, 0, none⟩ 1 (Ty.fs ((k : Int), a.id, a.id)) rfl rfl HL0.out (by simp [Value.oneCell']) (by unfold maxLen; omega) (by omega) (Nat.le_trans HB3.out.size HX0.out.size) ?_
                  intro v' V1 o1 g1 _
                  have x1 : Below W1.heap.size W1 V1 := (HB3.out.trans (HX0.out.mono HB3.out.size)).grown g1 (Nat.le_trans HB3.out.size HX0.out.size) (fun k hk => (HO0.out.lt k hk).1)
                  have q1 : (fun w' : World => w'.cell? (ay.add (i * 14)) = some (.int .i64 a.id) ∧ w'.cell? (ay.add (i * 14)) = some (.int .i64 a.id)) V1 := ⟨(x1.cell (p := ay.add (i * 14)) (by rw [Tp.add_block]; exact hay1)).trans (HS1.out i a.id (by rw [← f0]; exact (HB3.out.cell (p := ay.add (i * 14)) (by rw [Tp.add_block]; exact hay1)).symm)), (x1.cell (p := ay.add (i * 14)) (by rw [Tp.add_block]; exact hay1)).trans (HS1.out i a.id (by rw [← f0]; exact (HB3.out.cell (p := ay.add (i * 14)) (by rw [Tp.add_block]; exact hay1)).symm))⟩
                  have HO1 := Lib.hid o1
                  have HX1 := Lib.hid x1
                  clear o1 g1 x1
                  refine ⟨q1, ?_⟩
                  (try simp only [Act.put, List.setIfInBounds_toArray, List.set_cons_zero, List.set_cons_succ])
                  refine Kit.take2 (i := 15) (v := v') (some 6) rfl rfl (by kernel_rfl) (by kernel_rfl) (by kernel_rfl) (fun _ d _ _ h => by cases d <;> exact h) (Or.inl ⟨by rfl, fun wv hwv => by go_simp⟩) q1 ?_
                  (try simp only [Act.put, List.setIfInBounds_toArray, List.set_cons_zero, List.set_cons_succ])
                  refine wpAnyH_done (by kernel_rfl) ?_ _
                  go_wp2_with fail
                  go_meet
                  case rel => exact ⟨(by show World.ownsRow _ _ _ _ _ _ _; rw [HSK.out, List.length_append, Ty.flatF_one]; exact HO1.out), HX1.out⟩
              case rest =>
                obtain ⟨HO4, HB4⟩ := hcut
                obtain ⟨W14, rfl⟩ : ∃ W14, W14 = wc := ⟨_, rfl⟩
                have HX4 := Lib.hid (show (X2 ++ Ty.selfK k l a) ++ (Ty.rowK k a (l.drop (i + 1)) ++ (Ty.rK k l (l.drop (i + 1)) ++ Ty.tl l (k + 1))) = Ty.refL l by rw [← HX2.out]; simp only [List.append_assoc])
                clear HX2 HO3 HB3 E0 hayW hc12 hXl HB12 HSr
                go_wp2_with fail
                go_loopw [6, 9] (fun v6 v9 wr => ∃ (j : Nat) (X : List Ty.F3) (v : Value), v9 = .int .i64 j ∧ v6 = v ∧ i + 1 ≤ j ∧ j ≤ l.length ∧ Hid (wr.ownsRow W1.heap.size 48 3 v X.length (Ty.flatF X)) ∧ Hid (X ++ (Ty.rowK k a (l.drop j) ++ (Ty.rK k l (l.drop (i + 1)) ++ Ty.tl l (k + 1))) = Ty.refL l) ∧ Hid (Below W1.heap.size W1 wr))
                  (fun _ v9 _ => l.length - (intOf v9).toNat)
                case atStart => exact ⟨i + 1, _, _, by go_num, rfl, Nat.le_refl _, by omega, HO4.out, HX4.out, HB4.out⟩
                case round =>
                  obtain ⟨j, X5, v5, rfl, hv5, hij, hj, HO5, HX5, HB5⟩ := hrel
                  replace hv5 := hv5.symm
                  subst hv5
                  by_cases hlt2 : j < l.length
                  · have h := HSG.out.kept (HW1.out.trans (HB5.out.mono HW1.out.size)) (Nat.le_refl _)
                    have hayW : ay.block < wr.heap.size := by have := HB5.out.size; omega
                    have hayi : (ay.add (i * 14)).block < wr.heap.size := by rw [Tp.add_block]; exact hayW
                    have hayj : (ay.add (j * 14)).block < wr.heap.size := by rw [Tp.add_block]; exact hayW
                    have e0 := h.head hlt (by omega)
                    have d0 := h.head hlt2 (by omega)
                    have e1 := h.field hlt (j := 1) (by omega) (by omega)
                    have d1 := h.field hlt2 (j := 1) (by omega) (by omega)
                    have e2 := h.field hlt (j := 2) (by omega) (by omega)
                    have d2 := h.field hlt2 (j := 2) (by omega) (by omega)
                    have e3 := h.field hlt (j := 3) (by omega) (by omega)
                    have d3 := h.field hlt2 (j := 3) (by omega) (by omega)
                    have e4 := h.field hlt (j := 4) (by omega) (by omega)
                    have d4 := h.field hlt2 (j := 4) (by omega) (by omega)
                    have e5 := h.field hlt (j := 5) (by omega) (by omega)
                    have d5 := h.field hlt2 (j := 5) (by omega) (by omega)
                    have e6 := h.field hlt (j := 6) (by omega) (by omega)
                    have d6 := h.field hlt2 (j := 6) (by omega) (by omega)
                    have e7 := h.field hlt (j := 7) (by omega) (by omega)
                    have d7 := h.field hlt2 (j := 7) (by omega) (by omega)
                    have e8 := h.field hlt (j := 8) (by omega) (by omega)
                    have d8 := h.field hlt2 (j := 8) (by omega) (by omega)
                    have e9 := h.field hlt (j := 9) (by omega) (by omega)
                    have d9 := h.field hlt2 (j := 9) (by omega) (by omega)
                    have e10 := h.field hlt (j := 10) (by omega) (by omega)
                    have d10 := h.field hlt2 (j := 10) (by omega) (by omega)
                    have e11 := h.field hlt (j := 11) (by omega) (by omega)
                    have d11 := h.field hlt2 (j := 11) (by omega) (by omega)
                    have e12 := h.field hlt (j := 12) (by omega) (by omega)
                    have d12 := h.field hlt2 (j := 12) (by omega) (by omega)
                    have e13 := h.field hlt (j := 13) (by omega) (by omega)
                    have d13 := h.field hlt2 (j := 13) (by omega) (by omega)
                    obtain ⟨b, hxb⟩ : ∃ b, l.getD j default = b := ⟨_, rfl⟩
                    obtain ⟨a', hxa⟩ : ∃ a', l.getD i default = a' := ⟨_, rfl⟩
                    obtain rfl : a' = a := by rw [← hxa]; exact HGA.out
                    have hib : l[j]? = some b := by rw [← hxb]; simp [List.getD, hlt2]
                    have HMB := Lib.hid (List.mem_of_getElem? hib)
                    have hdr : l.drop j = b :: l.drop (j + 1) := by
                      rw [List.drop_eq_getElem_cons hlt2]
                      congr 1
                      exact (List.getElem?_eq_some_iff.1 hib).2
                    have hX5 := HX5.out
                    rw [hdr] at hX5
                    replace HX5 := Lib.hid (show X5 ++ ((if Ty.pairK k a' b = true then [((k : Int), a'.id, b.id)] else []) ++ (Ty.rowK k a' (l.drop (j + 1)) ++ (Ty.rK k l (l.drop (i + 1)) ++ Ty.tl l (k + 1)))) = Ty.refL l by
                      rw [← hX5]; unfold Ty.rowK; rw [List.filter_cons]; split <;> simp only [List.map_cons, List.cons_append, List.nil_append, List.append_assoc, List.singleton_append])
                    simp only [Ex.sgc, hxa] at e0 e1 e2 e3 e4 e5 e6 e7 e8 e9 e10 e11 e12 e13
                    simp only [Ex.sgc, hxb] at d0 d1 d2 d3 d4 d5 d6 d7 d8 d9 d10 d11 d12 d13
                    have HE0 := Lib.hid e0
                    have HD0 := Lib.hid d0
                    have ze0 : ∀ z : Kit.Wd wr, z.val.cell? (ay.add (i * 14)) = some (.int .i64 a'.id) := fun z => z.cell e0 hayi
                    have ze1 : ∀ z : Kit.Wd wr, z.val.cell? ⟨(ay.add (i * 14)).block, (ay.add (i * 14)).off + 1, none⟩ = some (.int .i64 a'.role) := fun z => z.cell e1 hayi
                    have ze2 : ∀ z : Kit.Wd wr, z.val.cell? ⟨(ay.add (i * 14)).block, (ay.add (i * 14)).off + 2, none⟩ = some (.int .i64 a'.bar) := fun z => z.cell e2 hayi
                    have ze3 : ∀ z : Kit.Wd wr, z.val.cell? ⟨(ay.add (i * 14)).block, (ay.add (i * 14)).off + 3, none⟩ = some (.int .i64 a'.mark) := fun z => z.cell e3 hayi
                    have ze4 : ∀ z : Kit.Wd wr, z.val.cell? ⟨(ay.add (i * 14)).block, (ay.add (i * 14)).off + 4, none⟩ = some (.int .i64 a'.kind) := fun z => z.cell e4 hayi
                    have ze5 : ∀ z : Kit.Wd wr, z.val.cell? ⟨(ay.add (i * 14)).block, (ay.add (i * 14)).off + 5, none⟩ = some (.int .i64 a'.side) := fun z => z.cell e5 hayi
                    have ze6 : ∀ z : Kit.Wd wr, z.val.cell? ⟨(ay.add (i * 14)).block, (ay.add (i * 14)).off + 6, none⟩ = some (.int .i64 a'.dir) := fun z => z.cell e6 hayi
                    have ze7 : ∀ z : Kit.Wd wr, z.val.cell? ⟨(ay.add (i * 14)).block, (ay.add (i * 14)).off + 7, none⟩ = some (.int .i64 a'.level) := fun z => z.cell e7 hayi
                    have ze8 : ∀ z : Kit.Wd wr, z.val.cell? ⟨(ay.add (i * 14)).block, (ay.add (i * 14)).off + 8, none⟩ = some (.int .i64 a'.size) := fun z => z.cell e8 hayi
                    have ze9 : ∀ z : Kit.Wd wr, z.val.cell? ⟨(ay.add (i * 14)).block, (ay.add (i * 14)).off + 9, none⟩ = some (.int .i64 a'.wth) := fun z => z.cell e9 hayi
                    have ze10 : ∀ z : Kit.Wd wr, z.val.cell? ⟨(ay.add (i * 14)).block, (ay.add (i * 14)).off + 10, none⟩ = some (.int .i64 a'.fn) := fun z => z.cell e10 hayi
                    have ze11 : ∀ z : Kit.Wd wr, z.val.cell? ⟨(ay.add (i * 14)).block, (ay.add (i * 14)).off + 11, none⟩ = some (.int .i64 a'.fd) := fun z => z.cell e11 hayi
                    have ze12 : ∀ z : Kit.Wd wr, z.val.cell? ⟨(ay.add (i * 14)).block, (ay.add (i * 14)).off + 12, none⟩ = some (.int .i64 a'.tn) := fun z => z.cell e12 hayi
                    have ze13 : ∀ z : Kit.Wd wr, z.val.cell? ⟨(ay.add (i * 14)).block, (ay.add (i * 14)).off + 13, none⟩ = some (.int .i64 a'.td) := fun z => z.cell e13 hayi
                    have zd0 : ∀ z : Kit.Wd wr, z.val.cell? (ay.add (j * 14)) = some (.int .i64 b.id) := fun z => z.cell d0 hayj
                    have zd1 : ∀ z : Kit.Wd wr, z.val.cell? ⟨(ay.add (j * 14)).block, (ay.add (j * 14)).off + 1, none⟩ = some (.int .i64 b.role) := fun z => z.cell d1 hayj
                    have zd2 : ∀ z : Kit.Wd wr, z.val.cell? ⟨(ay.add (j * 14)).block, (ay.add (j * 14)).off + 2, none⟩ = some (.int .i64 b.bar) := fun z => z.cell d2 hayj
                    have zd3 : ∀ z : Kit.Wd wr, z.val.cell? ⟨(ay.add (j * 14)).block, (ay.add (j * 14)).off + 3, none⟩ = some (.int .i64 b.mark) := fun z => z.cell d3 hayj
                    have zd4 : ∀ z : Kit.Wd wr, z.val.cell? ⟨(ay.add (j * 14)).block, (ay.add (j * 14)).off + 4, none⟩ = some (.int .i64 b.kind) := fun z => z.cell d4 hayj
                    have zd5 : ∀ z : Kit.Wd wr, z.val.cell? ⟨(ay.add (j * 14)).block, (ay.add (j * 14)).off + 5, none⟩ = some (.int .i64 b.side) := fun z => z.cell d5 hayj
                    have zd6 : ∀ z : Kit.Wd wr, z.val.cell? ⟨(ay.add (j * 14)).block, (ay.add (j * 14)).off + 6, none⟩ = some (.int .i64 b.dir) := fun z => z.cell d6 hayj
                    have zd7 : ∀ z : Kit.Wd wr, z.val.cell? ⟨(ay.add (j * 14)).block, (ay.add (j * 14)).off + 7, none⟩ = some (.int .i64 b.level) := fun z => z.cell d7 hayj
                    have zd8 : ∀ z : Kit.Wd wr, z.val.cell? ⟨(ay.add (j * 14)).block, (ay.add (j * 14)).off + 8, none⟩ = some (.int .i64 b.size) := fun z => z.cell d8 hayj
                    have zd9 : ∀ z : Kit.Wd wr, z.val.cell? ⟨(ay.add (j * 14)).block, (ay.add (j * 14)).off + 9, none⟩ = some (.int .i64 b.wth) := fun z => z.cell d9 hayj
                    have zd10 : ∀ z : Kit.Wd wr, z.val.cell? ⟨(ay.add (j * 14)).block, (ay.add (j * 14)).off + 10, none⟩ = some (.int .i64 b.fn) := fun z => z.cell d10 hayj
                    have zd11 : ∀ z : Kit.Wd wr, z.val.cell? ⟨(ay.add (j * 14)).block, (ay.add (j * 14)).off + 11, none⟩ = some (.int .i64 b.fd) := fun z => z.cell d11 hayj
                    have zd12 : ∀ z : Kit.Wd wr, z.val.cell? ⟨(ay.add (j * 14)).block, (ay.add (j * 14)).off + 12, none⟩ = some (.int .i64 b.tn) := fun z => z.cell d12 hayj
                    have zd13 : ∀ z : Kit.Wd wr, z.val.cell? ⟨(ay.add (j * 14)).block, (ay.add (j * 14)).off + 13, none⟩ = some (.int .i64 b.td) := fun z => z.cell d13 hayj
                    clear h hxb hxa hib hdr hX5 e0 e1 e2 e3 e4 e5 e6 e7 e8 e9 e10 e11 e12 e13 d0 d1 d2 d3 d4 d5 d6 d7 d8 d9 d10 d11 d12 d13
                    have hXl : X5.length ≤ 100000000 := by have := congrArg List.length HX5.out; simp only [List.length_append] at this; omega
                    go_upto_region 17 with fail
                    rcases hpk : Ty.pairK k a' b with _ | _
                    ·
                      have G1 := Lib.hid (fun W => HPR.out a' HMA.out b HMB.out k ⟨hk1, hk4⟩ W)
                      rw [hpk] at G1
                      refine Kit.wp_region_cls (by kernel_rfl) (by kernel_rfl) ?_
                      (repeat (go_big_quiet_step (exact Kit.calls_cls _ (G1.out _))))
                      refine wpQuiet_nil ?_
                      intro z
                      have HZ := Lib.hid (HB5.out.trans (z.below.mono HB5.out.size))
                      have HO6 := Lib.hid (Ty.own_keep HO5.out (W' := z.val) (fun g hg => z.below.block g (HO5.out.lt g hg).2))
                      clear ze0 ze1 ze2 ze3 ze4 ze5 ze6 ze7 ze8 ze9 ze10 ze11 ze12 ze13 zd0 zd1 zd2 zd3 zd4 zd5 zd6 zd7 zd8 zd9 zd10 zd11 zd12 zd13
                      go_wp2
                      go_roundw
                      case rel => exact ⟨j + 1, X5, _, by go_num, rfl, by omega, by omega, HO6.out, (by show _ = _; rw [← HX5.out, hpk]; simp), HZ.out⟩
                      case measure => simp [intOf]; omega
                    ·
                      have G1 := Lib.hid (fun W => HPR.out a' HMA.out b HMB.out k ⟨hk1, hk4⟩ W)
                      rw [hpk] at G1
                      refine Kit.wp_region_cls (by kernel_rfl) (by kernel_rfl) ?_
                      (repeat (go_big_quiet_step (exact Kit.calls_cls _ (G1.out _))))
                      refine wpQuiet_nil ?_
                      intro z
                      obtain ⟨W17, hWz⟩ : ∃ W17, W17 = z.val := ⟨_, rfl⟩
                      have bz := z.below
                      rw [← hWz] at bz ⊢
                      have HZ := Lib.hid (HB5.out.trans (bz.mono HB5.out.size))
                      have HO6 := Lib.hid (Ty.own_keep HO5.out (W' := W17) (fun g hg => bz.block g (HO5.out.lt g hg).2))
                      have f0 := (bz.cell (p := ay.add (i * 14)) hayi).trans HE0.out
                      have f1 := (bz.cell (p := ay.add (j * 14)) hayj).trans HD0.out
                      have hayW' : ay.block < W17.heap.size := Nat.lt_of_lt_of_le hayW bz.size
                      clear ze0 ze1 ze2 ze3 ze4 ze5 ze6 ze7 ze8 ze9 ze10 ze11 ze12 ze13 zd0 zd1 zd2 zd3 zd4 zd5 zd6 zd7 zd8 zd9 zd10 zd11 zd12 zd13 hWz bz hayW hayi hayj HE0 HD0
                      have hayW := hayW'
                      go_upto_region 18 with fail
                      have hS : (fun w' : World => w'.cell? (ay.add (i * 14)) = some (.int .i64 a'.id) ∧ w'.cell? (ay.add (j * 14)) = some (.int .i64 b.id)) ({ W17 with drawn := W17.drawn + 1 } : World) := ⟨f0, f1⟩
                      refine wp_region_held (S := (fun w' : World => w'.cell? (ay.add (i * 14)) = some (.int .i64 a'.id) ∧ w'.cell? (ay.add (j * 14)) = some (.int .i64 b.id))) (by kernel_rfl) ?_
                      refine Kit.take2 (i := 0) (v := v5) (some 71) rfl rfl (by kernel_rfl) (by kernel_rfl) (by kernel_rfl) (fun _ d _ _ h => by cases d <;> exact h) (Or.inl ⟨by rfl, fun wv hwv => by go_simp⟩) hS ?_
                      (try simp only [Act.put, List.setIfInBounds_toArray, List.set_cons_zero, List.set_cons_succ])
                      refine Kit.take2 (i := 1) (v := .int .i64 k) (some 72) rfl rfl (by kernel_rfl) (by kernel_rfl) (by kernel_rfl) (fun _ d _ _ h => by cases d <;> exact h) (Or.inl ⟨by rfl, fun wv hwv => by go_simp⟩) hS ?_
                      (try simp only [Act.put, List.setIfInBounds_toArray, List.set_cons_zero, List.set_cons_succ])
                      refine Kit.take2 (i := 2) (v := .slice (some ay) l.length cG) (some 73) rfl rfl (by kernel_rfl) (by kernel_rfl) (by kernel_rfl) (fun _ d _ _ h => by cases d <;> exact h) (Or.inl ⟨by rfl, fun wv hwv => by go_simp⟩) hS ?_
                      (try simp only [Act.put, List.setIfInBounds_toArray, List.set_cons_zero, List.set_cons_succ])
                      refine Kit.take2 (i := 3) (v := .int .i64 i) (some 74) rfl rfl (by kernel_rfl) (by kernel_rfl) (by kernel_rfl) (fun _ d _ _ h => by cases d <;> exact h) (Or.inl ⟨by rfl, fun wv hwv => by go_simp⟩) hS ?_
                      (try simp only [Act.put, List.setIfInBounds_toArray, List.set_cons_zero, List.set_cons_succ])
                      refine Kit.take2 (i := 4) (v := .pointer (some (ay.add (i * 14)))) (some 75) rfl rfl (by kernel_rfl) (by kernel_rfl) (by kernel_rfl) (fun _ d _ _ h => by cases d <;> exact h) (Or.inl ⟨by rfl, fun wv hwv => by go_simp⟩) hS ?_
                      (try simp only [Act.put, List.setIfInBounds_toArray, List.set_cons_zero, List.set_cons_succ])
                      refine Kit.take2 (i := 5) (v := .pointer (some (ay.add (i * 14)))) (some 76) rfl rfl (by kernel_rfl) (by kernel_rfl) (by kernel_rfl) (fun _ d _ _ h => by cases d <;> exact h) (Or.inl ⟨by rfl, fun wv hwv => by go_simp⟩) hS ?_
                      (try simp only [Act.put, List.setIfInBounds_toArray, List.set_cons_zero, List.set_cons_succ])
                      refine Kit.take2 (i := 6) (v := .int .i64 a'.id) (some 77) rfl rfl (by kernel_rfl) (by kernel_rfl) (by kernel_rfl) (fun _ d _ _ h => by cases d <;> exact h) (Or.inl ⟨by rfl, fun wv hwv => by (obtain ⟨hw0, hw1⟩ := hwv; go_simp)⟩) hS ?_
                      (try simp only [Act.put, List.setIfInBounds_toArray, List.set_cons_zero, List.set_cons_succ])
                      refine Kit.take2 (i := 7) (v := .slice (some ay) l.length cG) (some 78) rfl rfl (by kernel_rfl) (by kernel_rfl) (by kernel_rfl) (fun _ d _ _ h => by cases d <;> exact h) (Or.inl ⟨by rfl, fun wv hwv => by go_simp⟩) hS ?_
                      (try simp only [Act.put, List.setIfInBounds_toArray, List.set_cons_zero, List.set_cons_succ])
                      refine Kit.take2 (i := 8) (v := .int .i64 j) (some 79) rfl rfl (by kernel_rfl) (by kernel_rfl) (by kernel_rfl) (fun _ d _ _ h => by cases d <;> exact h) (Or.inl ⟨by rfl, fun wv hwv => by go_simp⟩) hS ?_
                      (try simp only [Act.put, List.setIfInBounds_toArray, List.set_cons_zero, List.set_cons_succ])
                      refine Kit.take2 (i := 9) (v := .pointer (some (ay.add (j * 14)))) (some 80) rfl rfl (by kernel_rfl) (by kernel_rfl) (by kernel_rfl) (fun _ d _ _ h => by cases d <;> exact h) (Or.inl ⟨by rfl, fun wv hwv => by go_simp⟩) hS ?_
                      (try simp only [Act.put, List.setIfInBounds_toArray, List.set_cons_zero, List.set_cons_succ])
                      refine Kit.take2 (i := 10) (v := .pointer (some (ay.add (j * 14)))) (some 81) rfl rfl (by kernel_rfl) (by kernel_rfl) (by kernel_rfl) (fun _ d _ _ h => by cases d <;> exact h) (Or.inl ⟨by rfl, fun wv hwv => by go_simp⟩) hS ?_
                      (try simp only [Act.put, List.setIfInBounds_toArray, List.set_cons_zero, List.set_cons_succ])
                      refine Kit.take2 (i := 11) (v := .int .i64 b.id) (some 82) rfl rfl (by kernel_rfl) (by kernel_rfl) (by kernel_rfl) (fun _ d _ _ h => by cases d <;> exact h) (Or.inl ⟨by rfl, fun wv hwv => by (obtain ⟨hw0, hw1⟩ := hwv; go_simp)⟩) hS ?_
                      (try simp only [Act.put, List.setIfInBounds_toArray, List.set_cons_zero, List.set_cons_succ])
                      refine Kit.take2 (i := 12) (v := .agg #[.int .i64 k, .int .i64 a'.id, .int .i64 b.id]) (some 83) rfl rfl (by kernel_rfl) (by kernel_rfl) (by kernel_rfl) (fun _ d _ _ h => by cases d <;> exact h) (Or.inl ⟨by rfl, fun wv hwv => by go_simp⟩) hS ?_
                      (try simp only [Act.put, List.setIfInBounds_toArray, List.set_cons_zero, List.set_cons_succ])
                      refine wpAnyH_all (rs := [13]) (by kernel_rfl) (by simp) fun ii hii => ?_
                      obtain rfl : ii = 13 := by simpa using hii
                      refine Kit.wpOp_value2 (v := .slice (some ⟨W17.heap.size, 0, none⟩) 1 1) (w' := ({ W17 with drawn := W17.drawn + 1 } : World).alloc (.cells #[.int .i64 k, .int .i64 a'.id, .int .i64 b.id] 48)) (some 84) rfl rfl rfl (by simp [execOp, go_sem] <;> rfl) ?_
                      obtain ⟨V0, hV0⟩ : ∃ V0, V0 = ({ W17 with drawn := W17.drawn + 1 } : World).alloc (.cells #[.int .i64 k, .int .i64 a'.id, .int .i64 b.id] 48) := ⟨_, rfl⟩
                      rw [← hV0]
                      have x0 : Below W17.heap.size W17 V0 := by rw [hV0]; exact ((Below.refl _ _).drew).alloc (Nat.le_refl _) _
                      have o0 := Ty.own_keep HO6.out (W' := V0) (fun g hg => x0.block g (HO6.out.lt g hg).2)
                      have l0 : ∀ j u, (Ty.fs ((k : Int), a'.id, b.id))[j]? = some u → V0.cell? ((⟨W17.heap.size, 0, none⟩ : Addr).add j) = some u := fun j u hu => by rw [hV0]; exact Ty.lit_cell2 _ _ _ rfl j u hu
                      have q0 : (fun w' : World => w'.cell? (ay.add (i * 14)) = some (.int .i64 a'.id) ∧ w'.cell? (ay.add (j * 14)) = some (.int .i64 b.id)) V0 := ⟨(x0.cell (p := ay.add (i * 14)) (by rw [Tp.add_block]; exact hayW)).trans f0, (x0.cell (p := ay.add (j * 14)) (by rw [Tp.add_block]; exact hayW)).trans f1⟩
                      have HO0 := Lib.hid o0
                      have HX0 := Lib.hid x0
                      have HL0 := Lib.hid l0
                      clear hV0 o0 x0 l0
                      refine ⟨q0, ?_⟩
                      (try simp only [Act.put, List.setIfInBounds_toArray, List.set_cons_zero, List.set_cons_succ])
                      refine wpAnyH_all (rs := [14]) (by kernel_rfl) (by simp) fun ii hii => ?_
                      obtain rfl : ii = 14 := by simpa using hii
                      refine Kit.wpOp_append_one V0 (some 85) rfl rfl rfl (.tmp 71) (.tmp 84) 35 rfl W1.heap.size 48 i0 (.agg #[.int .i64 0, .int .i64 0, .int .i64 0]) 3 24 Tryz.underlying35 hI hz0 hz1 hz2 rfl (by decide) v5 X5.length (Ty.flatF X5) rfl HO0.out ⟨W17.heap.size, 0, none⟩ 1 (Ty.fs ((k : Int), a'.id, b.id)) rfl rfl HL0.out (by simp [Value.oneCell']) (by unfold maxLen; omega) (by omega) (Nat.le_trans HZ.out.size HX0.out.size) ?_
                      intro v' V1 o1 g1 _
                      have x1 : Below W1.heap.size W1 V1 := (HZ.out.trans (HX0.out.mono HZ.out.size)).grown g1 (Nat.le_trans HZ.out.size HX0.out.size) (fun k hk => (HO0.out.lt k hk).1)
                      have q1 : (fun w' : World => w'.cell? (ay.add (i * 14)) = some (.int .i64 a'.id) ∧ w'.cell? (ay.add (j * 14)) = some (.int .i64 b.id)) V1 := ⟨(x1.cell (p := ay.add (i * 14)) (by rw [Tp.add_block]; exact hay1)).trans (HS1.out i a'.id (by rw [← f0]; exact (HZ.out.cell (p := ay.add (i * 14)) (by rw [Tp.add_block]; exact hay1)).symm)), (x1.cell (p := ay.add (j * 14)) (by rw [Tp.add_block]; exact hay1)).trans (HS1.out j b.id (by rw [← f1]; exact (HZ.out.cell (p := ay.add (j * 14)) (by rw [Tp.add_block]; exact hay1)).symm))⟩
                      have HO1 := Lib.hid o1
                      have HX1 := Lib.hid x1
                      clear o1 g1 x1
                      refine ⟨q1, ?_⟩
                      (try simp only [Act.put, List.setIfInBounds_toArray, List.set_cons_zero, List.set_cons_succ])
                      refine Kit.take2 (i := 15) (v := v') (some 6) rfl rfl (by kernel_rfl) (by kernel_rfl) (by kernel_rfl) (fun _ d _ _ h => by cases d <;> exact h) (Or.inl ⟨by rfl, fun wv hwv => by go_simp⟩) q1 ?_
                      (try simp only [Act.put, List.setIfInBounds_toArray, List.set_cons_zero, List.set_cons_succ])
                      refine wpAnyH_done (by kernel_rfl) ?_ _
                      go_wp2
                      go_roundw
                      case rel => exact ⟨j + 1, X5 ++ [((k : Int), a'.id, b.id)], _, by go_num, rfl, by omega, by omega, (by show World.ownsRow _ _ _ _ _ _ _; rw [List.length_append, Ty.flatF_one]; exact HO1.out), (by show _ = _; rw [← HX5.out, hpk]; simp), HX1.out⟩
                      case measure => simp [intOf]; omega
                  · obtain rfl : j = l.length := by omega
                    have HX6 := Lib.hid (show X5 ++ (Ty.rK k l (l.drop (i + 1)) ++ Ty.tl l (k + 1)) = Ty.refL l by rw [← HX5.out, List.drop_length]; simp [Ty.rowK])
                    clear HX5
                    go_wp2
                    go_roundw
                    case rel => exact ⟨i + 1, X5, _, by go_num, rfl, by omega, HO5.out, HX6.out, HB5.out⟩
                    case measure => simp [intOf]; omega
          · obtain rfl : i = l.length := by omega
            have HX6 := Lib.hid (show X2 ++ Ty.tl l (k + 1) = Ty.refL l by rw [← HX2.out, List.drop_length]; simp [Ty.rK])
            clear HX2
            go_wp2
            go_roundw
            case rel => exact ⟨k + 1, X2, _, by go_num, rfl, by omega, by omega, HO2.out, HX6.out, HB2.out⟩
            case measure => simp [intOf]; omega
      · obtain rfl : k = 5 := by omega
        have hX : X = Ty.refL l := by have := HX.out; simpa [Ty.tl] using this
        subst hX
        obtain ⟨aO, cO, rfl, hsO⟩ := Ty.own_fl HO.out
        have HSO := Lib.hid hsO
        have HBF := Lib.hid (HW1.out.trans (HB.out.mono HW1.out.size))
        clear hsO
        go_wp2
        go_ret2
        exact ⟨aO, cO, rfl, HSO.out, HBF.out⟩
  · rw [if_neg h0]
    have h1 : (Ex.chk x != 0) = true := by simpa using h0
    clear ha h0
    generalize Ex.chk x = r at *
    obtain ⟨wd, dp, ta, tb, tc, n, ro, ts, ps, ss, l⟩ := x
    obtain ⟨aR, cR, aT, cT, aP, cP, aS, cS, aG, cG⟩ := p
    go_enter Tryz.func7, Tryz.ntmps7
    skip
    (go_wp2_with (fail); refine (HC.out _ (by (repeat' first | (with_reducible first | exact Below.refl _ _ | assumption | refine Kit.below_drewN ?_ _ | refine Below.drew ?_ | refine Below.alloc ?_ ?_ _ | refine Below.setCell ?_ ?_ _ | exact Nat.le_refl _) | omega | (simp; omega) | (simp; done) | (apply Below.size; assumption)))).mono ?_; rintro e w1_ ⟨rfl, hb1_⟩; have hp1_ : Below w.heap.size w w1_ := Below.trans (by (repeat' first | (with_reducible first | exact Below.refl _ _ | assumption | refine Kit.below_drewN ?_ _ | refine Below.drew ?_ | refine Below.alloc ?_ ?_ _ | refine Below.setCell ?_ ?_ _ | exact Nat.le_refl _) | omega | (simp; omega) | (simp; done) | (apply Below.size; assumption))) (hb1_.mono (by first | assumption | (simp; done) | (simp; omega) | omega)); have hw1_ : Below w.heap.size w w1_ := hp1_; obtain ⟨hc1_, hf1_⟩ := Kit.bcell hb1_; have z1_w : w.heap.size < w1_.heap.size := (by have := hb1_.size; first | omega | (simp at this; omega)); obtain ⟨g1_w_0, g1_w_1, g1_w_2, g1_w_3, g1_w_4, g1_w_5, g1_w_6, g1_w_7, g1_w_8, g1_w_9, g1_w_10⟩ : w1_.cell? ⟨w.heap.size, 0, none⟩ = some (.int .i64 wd) ∧ w1_.cell? ⟨w.heap.size, 1, none⟩ = some (.int .i64 dp) ∧ w1_.cell? ⟨w.heap.size, 2, none⟩ = some (.int .i64 ta) ∧ w1_.cell? ⟨w.heap.size, 3, none⟩ = some (.int .i64 tb) ∧ w1_.cell? ⟨w.heap.size, 4, none⟩ = some (.int .i64 tc) ∧ w1_.cell? ⟨w.heap.size, 5, none⟩ = some (.slice aR ro.length cR) ∧ w1_.cell? ⟨w.heap.size, 6, none⟩ = some (.int .i64 n) ∧ w1_.cell? ⟨w.heap.size, 7, none⟩ = some (.slice aT ts.length cT) ∧ w1_.cell? ⟨w.heap.size, 8, none⟩ = some (.slice aP ps.length cP) ∧ w1_.cell? ⟨w.heap.size, 9, none⟩ = some (.slice aS ss.length cS) ∧ w1_.cell? ⟨w.heap.size, 10, none⟩ = some (.slice aG l.length cG) := (by refine ⟨?_, ?_, ?_, ?_, ?_, ?_, ?_, ?_, ?_, ?_, ?_⟩ <;> (rw [hc1_ _ _ (by first | assumption | (simp; done) | (simp; omega) | omega)]; first | assumption | (simp [go_sem]; done) | (simp [go_sem, *]; done))); clear hc1_ hf1_; clear hb1_ hp1_)
    go_wp2
    go_ret2
    exact ⟨none, 0, rfl, .inl rfl, by (repeat' first | (with_reducible first | exact Below.refl _ _ | assumption | refine Kit.below_drewN ?_ _ | refine Below.drew ?_ | refine Below.alloc ?_ ?_ _ | refine Below.setCell ?_ ?_ _ | exact Nat.le_refl _) | omega | (simp; omega) | (simp; done) | (apply Below.size; assumption))⟩
set_option maxHeartbeats 1000000 in
theorem tr_check (x : Ex.Wk) (p : Ex.Wa) (w : World) (ha : Ex.At w x p) : Calls Tryz.prog 10 #[Ex.workV x p] w fun e w' => e = .returned (.int .i64 (Ty.ck20 x)) ∧ Below w.heap.size w w' := by
  have HC := Lib.hid (fun W (hb : Below w.heap.size w W) => tr_faults x p W (ha.kept hb (Nat.le_refl _)))
  clear ha
  have hr : Ty.ck20 x = if Ex.chk x = 0 then (if (0 : Int) < (Ty.lst x).length then 200 else 0) else Ex.chk x := by
    unfold Ty.ck20 Ty.lst
    by_cases h : Ex.chk x = 0
    · rw [if_pos h, if_pos h, if_pos h]
      by_cases h2 : (Ty.refL x.sg).length = 0
      · rw [if_pos h2, if_neg (by omega)]
      · rw [if_neg h2, if_pos (by omega)]
    · rw [if_neg h, if_neg h]
  rw [hr]
  clear hr
  unfold Ty.RefIs at HC
  generalize Ex.chk x = r at *
  generalize Ty.lst x = l at *
  obtain ⟨wd, dp, ta, tb, tc, n, ro, ts, ps, ss, sg⟩ := x
  obtain ⟨aR, cR, aT, cT, aP, cP, aS, cS, aG, cG⟩ := p
  go_enter Tryz.func10, Tryz.ntmps10
  go_wp2_with fail
  refine (HC.out _ ((Kit.Exc.refl (fun _ => False) w).alloc _ |>.below (Nat.le_refl _) (fun _ h => h.elim))).mono ?_
  rintro _ w1 ⟨a, c, rfl, _, hb⟩
  have HB := Lib.hid (show Below w.heap.size w w1 from (((Kit.Exc.refl (fun _ => False) w).alloc _).below (Nat.le_refl _) (fun _ h => h.elim)).trans (hb.mono (by simp)))
  clear hb
  rcases d : (r == 0) with _ | _
  · have hne : r ≠ 0 := by simpa using d
    go_wp2
    go_ret
    exact ⟨rfl, HB.out⟩
  · obtain rfl : r = 0 := by simpa using d
    by_cases h2 : (0 : Int) < l.length
    · go_wp2
      go_ret
      exact ⟨rfl, HB.out⟩
    · go_wp2
      go_ret
      exact ⟨rfl, HB.out⟩
end Go.Proofs.YtggfeblfhabmkaaGreatDoor
