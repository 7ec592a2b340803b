/- Walks: the library's Clone at signs; package patch: apply. -/
import Derived.Test.YtdaedjmkolcliaaPtD
import Derived.Test.YtdaedjmkolcliaaPtA
import Derived.Test.YtdaedjmkolcliaaJaJ
import Derived.ArgAppend
import Derived.Laws.OwnMore
namespace Go.Proofs.Ytdaedjmkolcliaa
set_option linter.unusedVariables false
set_option linter.unusedSimpArgs false
open Go.RowKit Go.Shelf

namespace Id
/-- A list of which some entries from one on are replaced. -/
def setL : List Value → Nat → List Value → List Value
  | R, _, [] => R
  | R, b, v :: vs => setL (R.set b v) (b + 1) vs
def putL : World → Nat → Nat → List Value → World
  | W, _, _, [] => W
  | W, G, b, v :: vs => putL (W.setCell ⟨G, b, none⟩ v) G (b + 1) vs
theorem setL_len : ∀ (vs R : List Value) (b : Nat), (setL R b vs).length = R.length
  | [], _, _ => rfl
  | v :: vs, R, b => by rw [setL, setL_len vs]; simp
theorem setL_get : ∀ (vs R : List Value) (b k : Nat), b + vs.length ≤ R.length → (setL R b vs)[k]? = if b ≤ k ∧ k < b + vs.length then vs[k - b]? else R[k]?
  | [], R, b, k, _ => by rw [setL, if_neg (by rintro ⟨h1, h2⟩; rw [List.length_nil] at h2; omega)]
  | v :: vs, R, b, k, h => by
    rw [setL, setL_get vs (R.set b v) (b + 1) k (by simp at h ⊢; omega)]
    simp only [List.length_cons] at h ⊢
    by_cases h1 : b = k
    · subst h1
      rw [if_neg (by omega), if_pos (by omega), List.getElem?_set_self (by omega)]
      simp
    · by_cases h2 : b + 1 ≤ k ∧ k < b + 1 + vs.length
      · rw [if_pos h2, if_pos (by omega)]
        obtain ⟨m, hm⟩ : ∃ m, k - b = m + 1 := ⟨k - b - 1, by omega⟩
        rw [hm, show k - (b + 1) = m by omega, List.getElem?_cons_succ]
      · rw [if_neg h2, if_neg (by omega), List.getElem?_set_ne (by omega)]
theorem own_putL : ∀ (vs R : List Value) {W : World} {B t k c m G b : Nat}, W.ownsRow B t k (.slice (some ⟨G, 0, none⟩) m c) m R → (putL W G b vs).ownsRow B t k (.slice (some ⟨G, 0, none⟩) m c) m (setL R b vs)
  | [], R, _, _, _, _, _, _, _, _, h => h
  | v :: vs, R, _, _, _, _, _, _, _, _, h => own_putL vs (R.set _ v) (World.ownsRow.stored h _ v).1
theorem bel_putL : ∀ (vs : List Value) {w W : World} {B G b : Nat}, Below B w W → B ≤ G → Below B w (putL W G b vs)
  | [], _, _, _, _, _, h, _ => h
  | v :: vs, _, _, _, _, _, h, hG => bel_putL vs (h.setCell (p := ⟨_, _, none⟩) hG v) hG
theorem flatS_app (A B : List Sg) : flatS (A ++ B) = flatS A ++ flatS B := by simp [flatS]
/-- One sign replaced, cell by cell. -/
theorem setL_flatS (L : List Sg) (i : Nat) (hi : i < L.length) (x : Sg) : ∀ k j, k < (L.set i x).length → j < 14 → (setL (flatS L) (i * 14) (sc x))[k * 14 + j]? = some (sgc (L.set i x) k j) := by
  intro k j hk hj
  have hsc : (sc x).length = 14 := rfl
  rw [List.length_set] at hk
  rw [setL_get _ _ _ _ (by rw [hsc, flatS_len]; omega), hsc]
  by_cases e : k = i
  · subst e
    rw [if_pos (by omega), show k * 14 + j - k * 14 = j by omega]
    have : (L.set k x).getD k default = x := by simp [List.getD, hk]
    unfold sgc
    rw [this]
    rcases j with _ | _ | _ | _ | _ | _ | _ | _ | _ | _ | _ | _ | _ | _ | j <;> first | rfl | omega
  · rw [if_neg (by omega), flatS_get _ _ _ hk hj]
    have : (L.set i x).getD k default = L.getD k default := by
      simp only [List.getD_eq_getElem?_getD]
      rw [List.getElem?_set_ne (by omega)]
    unfold sgc
    rw [this]
theorem flatS_one (l : List Sg) : ∀ u ∈ flatS l, u.oneCell' = true := by
  intro u hu
  simp only [flatS, List.mem_flatMap, sc, List.mem_cons, List.not_mem_nil, or_false] at hu
  obtain ⟨s, _, h⟩ := hu
  rcases h with h | h | h | h | h | h | h | h | h | h | h | h | h | h <;> (subst h; rfl)
/-- Of a slice of signs: the cells of the first ones, and of those from one on. -/
theorem sl_cells {w : World} {ad : Addr} {L : List Sg} (h : Tp.Sl w (some ad) L.length 14 (sgc L)) (i m : Nat) (hm : i + m ≤ L.length) : ∀ j u, (flatS ((L.drop i).take m))[j]? = some u → w.cell? ((ad.add (i * 14)).add j) = some u := by
  intro j u hu
  have hj : j < (flatS ((L.drop i).take m)).length := (List.getElem?_eq_some_iff.1 hu).1
  rw [flatS_len, List.length_take, List.length_drop] at hj
  have hml : min m (L.length - i) = m := by omega
  rw [hml] at hj
  have hq : j / 14 < m := by omega
  have e : j = (j / 14) * 14 + j % 14 := by omega
  rw [e, flatS_get _ _ _ (by rw [List.length_take, List.length_drop]; omega) (by omega)] at hu
  have hgd : ((L.drop i).take m).getD (j / 14) default = L.getD (i + j / 14) default := by
    simp only [List.getD_eq_getElem?_getD]
    rw [List.getElem?_take_of_lt hq, List.getElem?_drop]
  unfold sgc at hu
  rw [hgd] at hu
  have hlt : i + j / 14 < L.length := by omega
  obtain ⟨ad', e1, _, hc⟩ := h.at hlt
  obtain rfl : ad = ad' := by simpa using e1
  have := hc (j % 14) (by omega)
  rw [show (ad.add (i * 14)).add j = ad.add ((i + j / 14) * 14 + j % 14) by rw [Addr.add_add]; congr 1; omega, this, ← hu]
  rfl
end Id
set_option maxRecDepth 100000 in
set_option maxHeartbeats 1000000 in
theorem pa_clone (L : List Id.Sg) (ad : Addr) (c : Nat) (w : World) (hS : Tp.Sl w (some ad) L.length 14 (Id.sgc L)) (hl : L.length ≤ 4096) :
    Calls Try.prog 95 #[.slice (some ad) L.length c] w fun e w' => (∃ v, e = .returned v ∧ w'.ownsRow w.heap.size 49 14 v L.length (Id.flatS L)) ∧ Below w.heap.size w w' := by
  have HS := Lib.hid hS
  have HFL := Lib.hid (Id.flatS_len L)
  clear hS
  have HC := Lib.hid (show ∀ j u, (Id.flatS L)[j]? = some u → (w.alloc (.cells #[] 49)).cell? (ad.add j) = some u from fun j u hu => by
    have h := Id.sl_cells (HS.out.kept ((Below.refl _ _).alloc (Nat.le_refl _) (.cells #[] 49)) (Nat.le_refl _)) 0 L.length (by omega) j u (by simpa using hu)
    simpa [Addr.add] using h)
  have HON := Lib.hid (Id.flatS_one L)
  have q22 : ∀ (w : World) (a : Option Addr) (n c n' c' : Nat), (binOp .eql 22 (.slice a n c) (.slice none n' c')).run Try.prog w = .ok (.bool a.isNone) w := fun w a n c n' c' => Lib.run_eql_slice_nil w _ _ a n c n' c' Try.underlying22
  go_enter Try.func95, Try.ntmps95
  go_wp2_with (at_builtin; refine Kit.hold ?_; intro X HX)
  rw [HX.out]; clear HX X
  refine Kit.wpList_apps Id.elS _ rfl _ _ rfl _ _ _ (⟨World.ownsRow_made w #[] 0 (Nat.le_refl _) (Nat.zero_le _) (by simp), (Below.refl _ _).alloc (Nat.le_refl _) _⟩ : Kit.Gw w 49 14 _ 0 _ _) rfl (by omega) (some ad) L.length c (Id.flatS L) (by omega) rfl (by rw [HFL.out]) (fun _ => ⟨ad, rfl, HC.out⟩) HON.out ?_
  rw [Nat.zero_add]
  intro v' w' ho
  have HO := Lib.hid ho
  clear ho
  go_wp2
  go_ret
  exact ⟨⟨_, rfl, HO.out.own⟩, HO.out.bel⟩
namespace Kit
theorem run_app_zero {P : Program} (w : World) (t ty e : TypeId) (i : TypeInfo) (ht : P.underlying t = some (.slice e)) (hi : P.info? e = some i) (b : Option Addr) (n cap : Nat) (a : Option Addr) (c : Nat) (hn : n ≤ cap) :
    (Builtin.append_ #[t, t] ty #[.slice b n cap, .slice a 0 c]).run P w = .ok (.slice b n cap) w := by
  cases a with
  | none =>
    unfold Builtin.append_
    cases b <;> simp [Builtin.lenOf, Builtin.firstCells, hn, go_sem, run_underlying ht, run_sizeOf w hi]
  | some a =>
    have hfc := run_firstCells_some (P := P) w i.size 0 a 0 c [] (by simp) (by simp)
    cases b <;> simp [Builtin.append_, run_underlying ht, sizeOf, typeInfo, hi, Builtin.lenOf, hn, hfc, storeCells]
/-- Append of some elements to a slice of whomever's without room: a new row. -/
theorem wpList_app_grows {P : Program} {t e : TypeId} {z : Value} {size bytes : Nat} (E : El P t e z size bytes) (w : World) {ops : Array Oper} {rest : List Oper} {o : Oper} {a : Act} {Q : Exit → Act → World → Prop} (hgd : o.guard = none) (s x : Operand)
    (ho : o.op = .call { callee := .builtin .append, args := #[s, x], argTypes := #[t, t] }) (b : Addr) (n cap : Nat) (olds : List Value) (hs : a.eval s = .slice (some b) n cap) (hlo : olds.length = n * size) (holds : ∀ j u, olds[j]? = some u → w.cell? (b.add j) = some u) (hn : n ≤ 1000000000)
    (ad : Addr) (m c : Nat) (news : List Value) (hm : m ≤ 1000000000) (hx : a.eval x = .slice (some ad) m c) (hl : news.length = m * size) (h0 : ∀ j u, news[j]? = some u → w.cell? (ad.add j) = some u) (hg : cap < n + m)
    (cont : ∀ v' w', w'.ownsRow w.heap.size e size v' (n + m) (olds ++ news) → Below w.heap.size w w' → wpList P ops Q rest (a.put o.dst v') w') : wpList P ops Q (o :: rest) a w := by
  obtain ⟨i, hi, hz, hsz, hby⟩ := info_parts E.info
  have hb : (n + m) * bytes ≤ 140737488355328 := Nat.le_trans (Nat.mul_le_mul (show n + m ≤ 2000000000 by omega) E.small) (by omega)
  obtain ⟨v', w', hrun, h1, h2⟩ := run_append_arg_grows (P := P) w t o.type e i z size bytes E.under hi hz hsz hby E.cells E.pos b n cap olds hlo holds ad m c news hl h0 hg (by unfold maxLen; omega) hb
  refine wpList_plain hgd fun K hK => ?_
  unfold Oper.wp
  simp [execOp, ho, resolve, invoke, builtin, hs, hx, hrun, Result.andThen]
  exact hK _ _ (cont _ _ h1 (((Kit.Exc.refl (fun _ => False) w).grown h2 (fun k hk => by cases hk)).below (Nat.le_refl _) (fun _ h => h.elim)))
theorem wpList_app_zero {P : Program} {t e : TypeId} {z : Value} {size bytes : Nat} (E : El P t e z size bytes) (w : World) {ops : Array Oper} {rest : List Oper} {o : Oper} {a : Act} {Q : Exit → Act → World → Prop} (hgd : o.guard = none) (s x : Operand)
    (ho : o.op = .call { callee := .builtin .append, args := #[s, x], argTypes := #[t, t] }) (b : Option Addr) (n cap : Nat) (hs : a.eval s = .slice b n cap) (hn : n ≤ cap) (ad : Option Addr) (c : Nat) (hx : a.eval x = .slice ad 0 c)
    (cont : wpList P ops Q rest (a.put o.dst (.slice b n cap)) w) : wpList P ops Q (o :: rest) a w := by
  obtain ⟨i, hi, hz, hsz, hby⟩ := info_parts E.info
  have hrun := run_app_zero (P := P) w t o.type e i E.under hi b n cap ad c hn
  refine wpList_plain hgd fun K hK => ?_
  unfold Oper.wp
  simp [execOp, ho, resolve, invoke, builtin, hs, hx, hrun, Result.andThen]
  exact hK _ _ cont
end Kit
namespace Id
theorem split_at {L : List Sg} {i : Nat} (h : i < L.length) : L = L.take i ++ L.getD i default :: L.drop (i + 1) := by
  have e : L.getD i default = L[i] := by simp [List.getD_eq_getElem?_getD, List.getElem?_eq_getElem h]
  rw [e, List.getElem_cons_drop, List.take_append_drop]
theorem set_at {L : List Sg} {i : Nat} (h : i < L.length) (x : Sg) : L.set i x = L.take i ++ x :: L.drop (i + 1) := by
  rw [List.set_eq_take_append_cons_drop, if_pos h]
theorem row_cell {W : World} {B G e c : Nat} {L : List Sg} (h : W.ownsRow B e 14 (.slice (some ⟨G, 0, none⟩) L.length c) L.length (flatS L)) {i : Nat} (hi : i < L.length) {x : Sg} (hx : L.getD i default = x) (j : Nat) (hj : j < 14) :
    W.cell? ⟨G, i * 14 + j, none⟩ = some (.int .i64 (sgF x j)) := by
  rw [World.ownsRow.cellAt h (i * 14 + j) (by omega), flatS_get L i j hi hj]
  unfold sgc
  rw [hx]
/-- What a patch makes of signs. -/
def Pd (p : Pt) (L pl : List Sg) : Prop := (∃ A x B, L = A ++ x :: B ∧ x.id = p.sign ∧ (p.kind = 1 ∧ pl = A ++ setF p.field.toNat x p.new :: B ∨ p.kind = 3 ∧ pl = A ++ B)) ∨ (p.kind = 3 ∧ pl = L ∧ ∀ s ∈ L, s.id ≠ p.sign)
def ApR (p : Pt) (L pl : List Sg) (er : Int) : Prop := er = 0 ∧ Pd p L pl ∨ er ≠ 0 ∧ pl = []
def ApQ (p : Pt) (L : List Sg) (W : World) (e : Ending) (w' : World) : Prop := (∃ pl a c er, e = .returned (.tuple #[.slice a pl.length c, .int .i64 er]) ∧ Tp.Sl w' a pl.length 14 (sgc pl) ∧ ApR p L pl er) ∧ Below W.heap.size W w'
end Id
set_option maxRecDepth 100000 in
set_option maxHeartbeats 4000000 in
theorem pa_apply (p : Id.Pt) (aN : Option Addr) (n cN : Nat) (L : List Id.Sg) (a : Option Addr) (c : Nat) (w : World) (hS : Tp.Sl w a L.length 14 (Id.sgc L)) (hlc : L.length ≤ c) (hchk : Id.chk L = 0) (hok : Id.PtOk p) (hkf : p.kind = 1 → 4 ≤ p.field ∧ p.field ≤ 8) :
    Calls Try.prog 68 #[.slice a L.length c, Id.ptV p aN n cN] w (Id.ApQ p L w) := by
  obtain ⟨hl, hf, hp⟩ := Id.chk_ok hchk
  obtain ⟨hsg, hkd⟩ := hok
  have HAT := Lib.hid (fun W s => pa_at L a c p.sign W s hl hf hp hsg)
  have HS := Lib.hid hS
  clear hf hp hS hchk
  go_enter Try.func68, Try.ntmps68
  go_upto_region 1 with fail
  refine Kit.wp_name ?_
  intro W hW
  have q0 : W.cell? ⟨w.heap.size, 0, none⟩ = some (.int .i64 p.id) := by rw [hW]; simp [go_sem]
  have q1 : W.cell? ⟨w.heap.size, 1, none⟩ = some (.int .i64 p.kind) := by rw [hW]; simp [go_sem]
  have q2 : W.cell? ⟨w.heap.size, 2, none⟩ = some (.int .i64 p.sign) := by rw [hW]; simp [go_sem]
  have q3 : W.cell? ⟨w.heap.size, 3, none⟩ = some (.int .i64 p.field) := by rw [hW]; simp [go_sem]
  have q4 : W.cell? ⟨w.heap.size, 4, none⟩ = some (.int .i64 p.new.id) := by rw [hW]; simp [go_sem]
  have q5 : W.cell? ⟨w.heap.size, 5, none⟩ = some (.int .i64 p.new.role) := by rw [hW]; simp [go_sem]
  have q6 : W.cell? ⟨w.heap.size, 6, none⟩ = some (.int .i64 p.new.bar) := by rw [hW]; simp [go_sem]
  have q7 : W.cell? ⟨w.heap.size, 7, none⟩ = some (.int .i64 p.new.mark) := by rw [hW]; simp [go_sem]
  have q8 : W.cell? ⟨w.heap.size, 8, none⟩ = some (.int .i64 p.new.kind) := by rw [hW]; simp [go_sem]
  have q9 : W.cell? ⟨w.heap.size, 9, none⟩ = some (.int .i64 p.new.side) := by rw [hW]; simp [go_sem]
  have q10 : W.cell? ⟨w.heap.size, 10, none⟩ = some (.int .i64 p.new.dir) := by rw [hW]; simp [go_sem]
  have q11 : W.cell? ⟨w.heap.size, 11, none⟩ = some (.int .i64 p.new.level) := by rw [hW]; simp [go_sem]
  have q12 : W.cell? ⟨w.heap.size, 12, none⟩ = some (.int .i64 p.new.size) := by rw [hW]; simp [go_sem]
  have q13 : W.cell? ⟨w.heap.size, 13, none⟩ = some (.int .i64 p.new.wth) := by rw [hW]; simp [go_sem]
  have q14 : W.cell? ⟨w.heap.size, 14, none⟩ = some (.int .i64 p.new.fn) := by rw [hW]; simp [go_sem]
  have q15 : W.cell? ⟨w.heap.size, 15, none⟩ = some (.int .i64 p.new.fd) := by rw [hW]; simp [go_sem]
  have q16 : W.cell? ⟨w.heap.size, 16, none⟩ = some (.int .i64 p.new.tn) := by rw [hW]; simp [go_sem]
  have q17 : W.cell? ⟨w.heap.size, 17, none⟩ = some (.int .i64 p.new.td) := by rw [hW]; simp [go_sem]
  have q18 : W.cell? ⟨w.heap.size, 18, none⟩ = some (.slice aN n cN) := by rw [hW]; simp [go_sem]
  have sW : W.heap.size = w.heap.size + 1 := by rw [hW]; simp
  have HB := Lib.hid (show Below w.heap.size w W by rw [hW]; (repeat' first | (with_reducible first | exact Below.refl _ _ | assumption | refine Kit.below_drewN ?_ _ | refine Below.drew ?_ | refine Below.alloc ?_ ?_ _ | refine Below.setCell ?_ ?_ _ | exact Nat.le_refl _) | omega | (simp; omega) | (simp; done) | (apply Below.size; assumption)))
  have HS1 := Lib.hid (HS.out.kept HB.out (Nat.le_refl _))
  clear hW
  go_wp2_with fail
  refine (HAT.out _ HS1.out).mono ?_
  rintro _ w1 ⟨⟨i, b, rfl, h1, h2⟩, hb⟩
  replace q0 := (hb.cell (show w.heap.size < W.heap.size by omega)).trans q0
  replace q1 := (hb.cell (show w.heap.size < W.heap.size by omega)).trans q1
  replace q2 := (hb.cell (show w.heap.size < W.heap.size by omega)).trans q2
  replace q3 := (hb.cell (show w.heap.size < W.heap.size by omega)).trans q3
  replace q4 := (hb.cell (show w.heap.size < W.heap.size by omega)).trans q4
  replace q5 := (hb.cell (show w.heap.size < W.heap.size by omega)).trans q5
  replace q6 := (hb.cell (show w.heap.size < W.heap.size by omega)).trans q6
  replace q7 := (hb.cell (show w.heap.size < W.heap.size by omega)).trans q7
  replace q8 := (hb.cell (show w.heap.size < W.heap.size by omega)).trans q8
  replace q9 := (hb.cell (show w.heap.size < W.heap.size by omega)).trans q9
  replace q10 := (hb.cell (show w.heap.size < W.heap.size by omega)).trans q10
  replace q11 := (hb.cell (show w.heap.size < W.heap.size by omega)).trans q11
  replace q12 := (hb.cell (show w.heap.size < W.heap.size by omega)).trans q12
  replace q13 := (hb.cell (show w.heap.size < W.heap.size by omega)).trans q13
  replace q14 := (hb.cell (show w.heap.size < W.heap.size by omega)).trans q14
  replace q15 := (hb.cell (show w.heap.size < W.heap.size by omega)).trans q15
  replace q16 := (hb.cell (show w.heap.size < W.heap.size by omega)).trans q16
  replace q17 := (hb.cell (show w.heap.size < W.heap.size by omega)).trans q17
  replace q18 := (hb.cell (show w.heap.size < W.heap.size by omega)).trans q18
  have HB1 := Lib.hid (HB.out.trans (hb.mono HB.out.size))
  have HS2 := Lib.hid (HS1.out.kept hb (Nat.le_refl _))
  have H1 := Lib.hid h1
  have H2 := Lib.hid h2
  have sW1 : w.heap.size < w1.heap.size := by have := hb.size; omega
  clear h1 h2 hb HS1 HAT HB sW
  rcases hkd with ⟨k1, hfm⟩ | k3
  · have j1 : (p.kind == 1) = true := by simp [k1]
    have j3 : (p.kind == 3) = false := by rw [k1]; rfl
    have j2 : (p.kind == 2) = false := by rw [k1]; rfl
    obtain ⟨g1, g2⟩ := hkf k1
    cases b
    · clear hfm
      go_wp2
      go_ret2
      exact ⟨⟨[], none, 0, 370, rfl, .inl rfl, .inr ⟨by decide, rfl⟩⟩, HB1.out⟩
    · obtain ⟨hi, hx⟩ := H1.out rfl
      obtain ⟨f, hff⟩ : ∃ f : Nat, p.field = f := ⟨p.field.toNat, by omega⟩
      have HFF := Lib.hid hff
      have HK := Lib.hid k1
      have HX := Lib.hid hx
      have hfb : 4 ≤ f ∧ f ≤ 8 := by omega
      rw [hff] at q3
      clear k1 hx hff hkf g1 g2
      obtain ⟨ad, rfl, had, _⟩ := HS2.out.at hi
      go_wp2_with fail
      refine (pa_clone L ad c _ HS2.out hl).mono ?_
      rintro _ w2 ⟨⟨v, rfl, ho⟩, hb⟩
      replace q0 := (hb.cell (show w.heap.size < w1.heap.size by omega)).trans q0
      replace q1 := (hb.cell (show w.heap.size < w1.heap.size by omega)).trans q1
      replace q2 := (hb.cell (show w.heap.size < w1.heap.size by omega)).trans q2
      replace q3 := (hb.cell (show w.heap.size < w1.heap.size by omega)).trans q3
      replace q4 := (hb.cell (show w.heap.size < w1.heap.size by omega)).trans q4
      replace q5 := (hb.cell (show w.heap.size < w1.heap.size by omega)).trans q5
      replace q6 := (hb.cell (show w.heap.size < w1.heap.size by omega)).trans q6
      replace q7 := (hb.cell (show w.heap.size < w1.heap.size by omega)).trans q7
      replace q8 := (hb.cell (show w.heap.size < w1.heap.size by omega)).trans q8
      replace q9 := (hb.cell (show w.heap.size < w1.heap.size by omega)).trans q9
      replace q10 := (hb.cell (show w.heap.size < w1.heap.size by omega)).trans q10
      replace q11 := (hb.cell (show w.heap.size < w1.heap.size by omega)).trans q11
      replace q12 := (hb.cell (show w.heap.size < w1.heap.size by omega)).trans q12
      replace q13 := (hb.cell (show w.heap.size < w1.heap.size by omega)).trans q13
      replace q14 := (hb.cell (show w.heap.size < w1.heap.size by omega)).trans q14
      replace q15 := (hb.cell (show w.heap.size < w1.heap.size by omega)).trans q15
      replace q16 := (hb.cell (show w.heap.size < w1.heap.size by omega)).trans q16
      replace q17 := (hb.cell (show w.heap.size < w1.heap.size by omega)).trans q17
      replace q18 := (hb.cell (show w.heap.size < w1.heap.size by omega)).trans q18
      have HB2 := Lib.hid (HB1.out.trans (hb.mono HB1.out.size))
      have sW2 : w.heap.size < w2.heap.size := by have := hb.size; omega
      have hG := HB1.out.size
      clear hb HB1 HS2
      obtain ⟨aV, cV, rfl⟩ := Id.own_slice ho
      obtain ⟨G, rfl⟩ : ∃ G, aV = some ⟨G, 0, none⟩ := by
        rcases ho.2 with ⟨_, h⟩ | ⟨g', cap, cur, e, _⟩
        · omega
        · simp only [Value.slice.injEq] at e
          exact ⟨g', e.1⟩
      obtain ⟨x, hxx⟩ : ∃ x, L.getD i default = x := ⟨_, rfl⟩
      obtain ⟨y, hy⟩ : ∃ y, Id.setF f x p.new = y := ⟨_, rfl⟩
      have HST := Lib.hid (fun W => pa_set x p.new f hfb W)
      rw [hy] at HST
      have HY := Lib.hid hy
      have HXX := Lib.hid hxx
      have hHO : ∀ z : Kit.Wd w2, z.val.ownsRow w1.heap.size 49 14 (.slice (some ⟨G, 0, none⟩) L.length cV) L.length (Id.flatS L) := fun z => Kit.ownsRow_thn ho z.below
      have hG1 : w1.heap.size ≤ G := (World.ownsRow.lt ho G rfl).1
      go_upto_region 13 with fail
      have c0 : ∀ z : Kit.Wd w2, z.val.cell? ⟨G, i * 14, none⟩ = some (.int .i64 x.id) := fun z => Id.row_cell (hHO z) hi hxx 0 (by omega)
      have c1 : ∀ z : Kit.Wd w2, z.val.cell? ⟨G, i * 14 + 1, none⟩ = some (.int .i64 x.role) := fun z => Id.row_cell (hHO z) hi hxx 1 (by omega)
      have c2 : ∀ z : Kit.Wd w2, z.val.cell? ⟨G, i * 14 + 2, none⟩ = some (.int .i64 x.bar) := fun z => Id.row_cell (hHO z) hi hxx 2 (by omega)
      have c3 : ∀ z : Kit.Wd w2, z.val.cell? ⟨G, i * 14 + 3, none⟩ = some (.int .i64 x.mark) := fun z => Id.row_cell (hHO z) hi hxx 3 (by omega)
      have c4 : ∀ z : Kit.Wd w2, z.val.cell? ⟨G, i * 14 + 4, none⟩ = some (.int .i64 x.kind) := fun z => Id.row_cell (hHO z) hi hxx 4 (by omega)
      have c5 : ∀ z : Kit.Wd w2, z.val.cell? ⟨G, i * 14 + 5, none⟩ = some (.int .i64 x.side) := fun z => Id.row_cell (hHO z) hi hxx 5 (by omega)
      have c6 : ∀ z : Kit.Wd w2, z.val.cell? ⟨G, i * 14 + 6, none⟩ = some (.int .i64 x.dir) := fun z => Id.row_cell (hHO z) hi hxx 6 (by omega)
      have c7 : ∀ z : Kit.Wd w2, z.val.cell? ⟨G, i * 14 + 7, none⟩ = some (.int .i64 x.level) := fun z => Id.row_cell (hHO z) hi hxx 7 (by omega)
      have c8 : ∀ z : Kit.Wd w2, z.val.cell? ⟨G, i * 14 + 8, none⟩ = some (.int .i64 x.size) := fun z => Id.row_cell (hHO z) hi hxx 8 (by omega)
      have c9 : ∀ z : Kit.Wd w2, z.val.cell? ⟨G, i * 14 + 9, none⟩ = some (.int .i64 x.wth) := fun z => Id.row_cell (hHO z) hi hxx 9 (by omega)
      have c10 : ∀ z : Kit.Wd w2, z.val.cell? ⟨G, i * 14 + 10, none⟩ = some (.int .i64 x.fn) := fun z => Id.row_cell (hHO z) hi hxx 10 (by omega)
      have c11 : ∀ z : Kit.Wd w2, z.val.cell? ⟨G, i * 14 + 11, none⟩ = some (.int .i64 x.fd) := fun z => Id.row_cell (hHO z) hi hxx 11 (by omega)
      have c12 : ∀ z : Kit.Wd w2, z.val.cell? ⟨G, i * 14 + 12, none⟩ = some (.int .i64 x.tn) := fun z => Id.row_cell (hHO z) hi hxx 12 (by omega)
      have c13 : ∀ z : Kit.Wd w2, z.val.cell? ⟨G, i * 14 + 13, none⟩ = some (.int .i64 x.td) := fun z => Id.row_cell (hHO z) hi hxx 13 (by omega)
      have d0 : ∀ z : Kit.Wd w2, z.val.frozen? ⟨G, i * 14, none⟩ = false := fun z => World.ownsRow.frozenAt (hHO z) _
      have d1 : ∀ z : Kit.Wd w2, z.val.frozen? ⟨G, i * 14 + 1, none⟩ = false := fun z => World.ownsRow.frozenAt (hHO z) _
      have d2 : ∀ z : Kit.Wd w2, z.val.frozen? ⟨G, i * 14 + 2, none⟩ = false := fun z => World.ownsRow.frozenAt (hHO z) _
      have d3 : ∀ z : Kit.Wd w2, z.val.frozen? ⟨G, i * 14 + 3, none⟩ = false := fun z => World.ownsRow.frozenAt (hHO z) _
      have d4 : ∀ z : Kit.Wd w2, z.val.frozen? ⟨G, i * 14 + 4, none⟩ = false := fun z => World.ownsRow.frozenAt (hHO z) _
      have d5 : ∀ z : Kit.Wd w2, z.val.frozen? ⟨G, i * 14 + 5, none⟩ = false := fun z => World.ownsRow.frozenAt (hHO z) _
      have d6 : ∀ z : Kit.Wd w2, z.val.frozen? ⟨G, i * 14 + 6, none⟩ = false := fun z => World.ownsRow.frozenAt (hHO z) _
      have d7 : ∀ z : Kit.Wd w2, z.val.frozen? ⟨G, i * 14 + 7, none⟩ = false := fun z => World.ownsRow.frozenAt (hHO z) _
      have d8 : ∀ z : Kit.Wd w2, z.val.frozen? ⟨G, i * 14 + 8, none⟩ = false := fun z => World.ownsRow.frozenAt (hHO z) _
      have d9 : ∀ z : Kit.Wd w2, z.val.frozen? ⟨G, i * 14 + 9, none⟩ = false := fun z => World.ownsRow.frozenAt (hHO z) _
      have d10 : ∀ z : Kit.Wd w2, z.val.frozen? ⟨G, i * 14 + 10, none⟩ = false := fun z => World.ownsRow.frozenAt (hHO z) _
      have d11 : ∀ z : Kit.Wd w2, z.val.frozen? ⟨G, i * 14 + 11, none⟩ = false := fun z => World.ownsRow.frozenAt (hHO z) _
      have d12 : ∀ z : Kit.Wd w2, z.val.frozen? ⟨G, i * 14 + 12, none⟩ = false := fun z => World.ownsRow.frozenAt (hHO z) _
      have d13 : ∀ z : Kit.Wd w2, z.val.frozen? ⟨G, i * 14 + 13, none⟩ = false := fun z => World.ownsRow.frozenAt (hHO z) _
      have p3 : ∀ z : Kit.Wd w2, z.val.cell? ⟨w.heap.size, 3, none⟩ = some (.int .i64 f) := fun z => z.cell q3 (by simp; omega)
      have p4 : ∀ z : Kit.Wd w2, z.val.cell? ⟨w.heap.size, 4, none⟩ = some (.int .i64 p.new.id) := fun z => z.cell q4 (by simp; omega)
      have p5 : ∀ z : Kit.Wd w2, z.val.cell? ⟨w.heap.size, 5, none⟩ = some (.int .i64 p.new.role) := fun z => z.cell q5 (by simp; omega)
      have p6 : ∀ z : Kit.Wd w2, z.val.cell? ⟨w.heap.size, 6, none⟩ = some (.int .i64 p.new.bar) := fun z => z.cell q6 (by simp; omega)
      have p7 : ∀ z : Kit.Wd w2, z.val.cell? ⟨w.heap.size, 7, none⟩ = some (.int .i64 p.new.mark) := fun z => z.cell q7 (by simp; omega)
      have p8 : ∀ z : Kit.Wd w2, z.val.cell? ⟨w.heap.size, 8, none⟩ = some (.int .i64 p.new.kind) := fun z => z.cell q8 (by simp; omega)
      have p9 : ∀ z : Kit.Wd w2, z.val.cell? ⟨w.heap.size, 9, none⟩ = some (.int .i64 p.new.side) := fun z => z.cell q9 (by simp; omega)
      have p10 : ∀ z : Kit.Wd w2, z.val.cell? ⟨w.heap.size, 10, none⟩ = some (.int .i64 p.new.dir) := fun z => z.cell q10 (by simp; omega)
      have p11 : ∀ z : Kit.Wd w2, z.val.cell? ⟨w.heap.size, 11, none⟩ = some (.int .i64 p.new.level) := fun z => z.cell q11 (by simp; omega)
      have p12 : ∀ z : Kit.Wd w2, z.val.cell? ⟨w.heap.size, 12, none⟩ = some (.int .i64 p.new.size) := fun z => z.cell q12 (by simp; omega)
      have p13 : ∀ z : Kit.Wd w2, z.val.cell? ⟨w.heap.size, 13, none⟩ = some (.int .i64 p.new.wth) := fun z => z.cell q13 (by simp; omega)
      have p14 : ∀ z : Kit.Wd w2, z.val.cell? ⟨w.heap.size, 14, none⟩ = some (.int .i64 p.new.fn) := fun z => z.cell q14 (by simp; omega)
      have p15 : ∀ z : Kit.Wd w2, z.val.cell? ⟨w.heap.size, 15, none⟩ = some (.int .i64 p.new.fd) := fun z => z.cell q15 (by simp; omega)
      have p16 : ∀ z : Kit.Wd w2, z.val.cell? ⟨w.heap.size, 16, none⟩ = some (.int .i64 p.new.tn) := fun z => z.cell q16 (by simp; omega)
      have p17 : ∀ z : Kit.Wd w2, z.val.cell? ⟨w.heap.size, 17, none⟩ = some (.int .i64 p.new.td) := fun z => z.cell q17 (by simp; omega)
      clear q0 q1 q2 q3 q4 q5 q6 q7 q8 q9 q10 q11 q12 q13 q14 q15 q16 q17 q18 hy hxx
      have HHO := Lib.hid hHO
      clear hHO ho
      (refine Kit.wp_region_cls_tail 11 (by kernel_rfl) (by kernel_rfl) ?_; simp only [List.take_succ_cons, List.take_zero, List.drop_succ_cons, List.drop_zero]; (repeat (go_big_quiet_step (exact Kit.calls_cls _ (HST.out _)))); refine wpQuiet_nil ?_; intro z)
      replace c0 := c0 z
      replace d0 := d0 z
      replace c1 := c1 z
      replace d1 := d1 z
      replace c2 := c2 z
      replace d2 := d2 z
      replace c3 := c3 z
      replace d3 := d3 z
      replace c4 := c4 z
      replace d4 := d4 z
      replace c5 := c5 z
      replace d5 := d5 z
      replace c6 := c6 z
      replace d6 := d6 z
      replace c7 := c7 z
      replace d7 := d7 z
      replace c8 := c8 z
      replace d8 := d8 z
      replace c9 := c9 z
      replace d9 := d9 z
      replace c10 := c10 z
      replace d10 := d10 z
      replace c11 := c11 z
      replace d11 := d11 z
      replace c12 := c12 z
      replace d12 := d12 z
      replace c13 := c13 z
      replace d13 := d13 z
      have HO := Lib.hid (HHO.out z)
      have HB3 := Lib.hid (HB2.out.trans (z.below.mono HB2.out.size))
      generalize z.val = Z at *
      clear p3 p4 p5 p6 p7 p8 p9 p10 p11 p12 p13 p14 p15 p16 p17 HHO HST z
      go_wp2
      go_ret2
      refine ⟨⟨L.set i y, some ⟨G, 0, none⟩, cV, 0, ?_, ?_, .inl ⟨rfl, .inl ⟨_, _, _, Id.split_at hi, HX.out, .inl ⟨HK.out, ?_⟩⟩⟩⟩, ?_⟩
      · rw [List.length_set]; rfl
      · have h1 := (Id.own_sl (Id.own_putL (Id.sc y) _ (b := i * 14) HO.out) (fun k j hk hj => Id.setL_flatS L i hi y k j (by rw [List.length_set]; exact hk) hj)).1
        rw [List.length_set]
        exact h1
      · rw [HXX.out, HFF.out, Int.toNat_natCast, HY.out]
        exact Id.set_at hi y
      · exact Id.bel_putL (Id.sc y) (b := i * 14) HB3.out (Nat.le_trans hG hG1)
  · have j1 : (p.kind == 1) = false := by rw [k3]; rfl
    have j3 : (p.kind == 3) = true := by rw [k3]; rfl
    have j2 : (p.kind == 2) = false := by rw [k3]; rfl
    have HK := Lib.hid k3
    clear k3 hkf
    cases b
    · go_wp2
      go_ret2
      exact ⟨⟨L, a, c, 0, rfl, HS2.out, .inl ⟨rfl, .inr ⟨HK.out, rfl, H2.out trivial⟩⟩⟩, HB1.out⟩
    · obtain ⟨hi, hx⟩ := H1.out rfl
      obtain ⟨ad, rfl, had, _⟩ := HS2.out.at hi
      have HX := Lib.hid hx
      go_upto_region 9 with fail
      clear hx H1 H2 q0 q1 q2 q3 q4 q5 q6 q7 q8 q9 q10 q11 q12 q13 q14 q15 q16 q17 q18
      have hic : i ≤ c := by omega
      rcases Nat.lt_or_ge (i + 1) L.length with hlt | hge
      · have hne : ¬ c = i + 1 := by omega
        (refine Kit.wp_region_drew_tail 8 (by kernel_rfl) (by kernel_rfl) ?_; simp only [List.take_succ_cons, List.take_zero, List.drop_succ_cons, List.drop_zero]; (repeat (go_big_quiet_step (fail))); refine wpQuiet_nil ?_; intro _ hw'; obtain ⟨nq, hw''⟩ := hw'; subst hw'')
        have HBD := Lib.hid (Kit.below_drewN (Below.refl w1.heap.size w1) nq)
        have HSD := Lib.hid (HS2.out.kept HBD.out (Nat.le_refl _))
        generalize w1.drewN nq = wd at *
        refine Kit.wpList_app_grows Id.elS _ rfl _ _ rfl ad i i (Id.flatS (L.take i)) (by simp [go_sem, hne]) (by rw [Id.flatS_len, List.length_take]; congr 1; omega) ?_ (by omega) (ad.add ((i + 1) * 14)) (L.length - (i + 1)) (c - (i + 1)) (Id.flatS (L.drop (i + 1))) (by omega) (by simp [go_sem, hne]) (by rw [Id.flatS_len, List.length_drop]) ?_ (by omega) ?_
        · intro j u hu
          have h := Id.sl_cells HSD.out 0 i (by omega) j u (by simpa using hu)
          simpa [Addr.add] using h
        · intro j u hu
          exact Id.sl_cells HSD.out (i + 1) (L.length - (i + 1)) (by omega) j u (by rw [List.take_of_length_le (by rw [List.length_drop]; exact Nat.le_refl _)]; exact hu)
        intro v' w' ho hb
        obtain ⟨aV, cV, rfl⟩ := Id.own_slice ho
        have HO := Lib.hid ho
        have HBW := Lib.hid ((HB1.out.trans (HBD.out.mono HB1.out.size)).trans (hb.mono (Nat.le_trans HB1.out.size HBD.out.size)))
        clear ho hb
        go_wp2
        go_ret2
        have e : (L.take i ++ L.drop (i + 1)).length = i + (L.length - (i + 1)) := by rw [List.length_append, List.length_take, List.length_drop]; congr 1; omega
        refine ⟨⟨L.take i ++ L.drop (i + 1), aV, cV, 0, by rw [e]; rfl, ?_, .inl ⟨rfl, .inl ⟨_, _, _, Id.split_at hi, HX.out, .inr ⟨HK.out, rfl⟩⟩⟩⟩, HBW.out⟩
        have h := HO.out
        rw [← Id.flatS_app] at h
        rw [e]
        exact (Id.own_sl h (fun k j hk hj => Id.flatS_get _ k j (by rw [e]; exact hk) hj)).1
      · have he : L.length = i + 1 := by omega
        have hd : L.drop (i + 1) = [] := List.drop_of_length_le (by omega)
        have hz : L.length - (i + 1) = 0 := by omega
        by_cases hci : c = i + 1
        all_goals
          (refine Kit.wp_region_drew_tail 8 (by kernel_rfl) (by kernel_rfl) ?_; simp only [List.take_succ_cons, List.take_zero, List.drop_succ_cons, List.drop_zero]; (repeat (go_big_quiet_step (fail))); refine wpQuiet_nil ?_; intro _ hw'; obtain ⟨nq, hw''⟩ := hw'; subst hw'')
          have HBD := Lib.hid (Kit.below_drewN (Below.refl w1.heap.size w1) nq)
          have HSD := Lib.hid (HS2.out.kept HBD.out (Nat.le_refl _))
          have HBW := Lib.hid (HB1.out.trans (HBD.out.mono HB1.out.size))
          generalize w1.drewN nq = wd at *
          refine Kit.wpList_app_zero Id.elS _ rfl _ _ rfl (some ad) i i (by simp [go_sem, hci]) (Nat.le_refl _) (if c = i + 1 then some ad else some (ad.add ((i + 1) * 14))) (c - (i + 1)) (by simp [go_sem, hci, hz]) ?_
          go_wp2
          go_ret2
          refine ⟨⟨L.take i, some ad, i, 0, by rw [List.length_take, Nat.min_eq_left (by omega)]; rfl, ?_, .inl ⟨rfl, .inl ⟨_, _, _, Id.split_at hi, HX.out, .inr ⟨HK.out, by rw [hd, List.append_nil]⟩⟩⟩⟩, HBW.out⟩
          rw [List.length_take, Nat.min_eq_left (by omega)]
          refine .inr ⟨ad, rfl, Nat.lt_of_lt_of_le had HBD.out.size, fun k j hk hj => ?_⟩
          obtain ⟨ad', e1, _, hc⟩ := HSD.out.at (show k < L.length by omega)
          obtain rfl : ad = ad' := by simpa using e1
          rw [hc j hj]
          unfold Id.sgc
          rw [List.getD_eq_getElem?_getD, List.getD_eq_getElem?_getD, List.getElem?_take_of_lt hk]
end Go.Proofs.Ytdaedjmkolcliaa
