/- Plain: people in order, one put in (the reference of layer 48). Walks: the reference of layer 48: Ready, where it does not err: its last loop. Walks: the reference of layer 48: Ready, where it does not err. -/
import Derived.Test.YtbhgogiaaljclaaGreatDoorUoa
import Derived.Test.YtbhgogiaaljclaaGreatDoorUqj
import Derived.Test.YtbhgogiaaljclaaGreatDoorKxd
set_option linter.unusedSimpArgs false
set_option linter.unusedVariables false
set_option maxRecDepth 100000
set_option maxHeartbeats 16000000
namespace Go.Proofs.YtbhgogiaaljclaaGreatDoor
open Go.RowKit
namespace Un
section
variable (pr : Nat → Int)
def bef (p q : Nat) : Prop := pr p < pr q ∨ (pr p = pr q ∧ p ≤ q)
theorem bef_anti {p q : Nat} (h1 : bef pr p q) (h2 : bef pr q p) : p = q := by unfold bef at *; omega
theorem ins_sorted {l : List Nat} {p k : Nat} (hs : l.Pairwise (bef pr)) (hp : ∀ q ∈ l, q < p) (hk : k ≤ l.length) (hhi : ∀ j (h : j < l.length), k ≤ j → pr p < pr (l[j]'h)) (hlo : 0 < k → pr (l.getD (k - 1) 0) ≤ pr p) :
  (l.take k ++ p :: l.drop k).Pairwise (bef pr) := by
 have hd : l = l.take k ++ l.drop k := (List.take_append_drop k l).symm
 have hs' := hs
 rw [hd, List.pairwise_append] at hs'
 obtain ⟨h1, h2, h3⟩ := hs'
 have hlow : ∀ a ∈ l.take k, bef pr a p := fun a ha => by
  have hap := hp a (List.mem_of_mem_take ha)
  have hk0 : 0 < k := by
   rcases Nat.eq_zero_or_pos k with h | h
   ·subst h; simp at ha
   ·exact h
  have hl := hlo hk0
  obtain ⟨j, hj, rfl⟩ := List.getElem_of_mem ha
  rw [List.getElem_take]
  rw [List.length_take] at hj
  rw [List.getD_eq_getElem?_getD, List.getElem?_eq_getElem (show k - 1 < l.length by omega)] at hl
  simp only [Option.getD_some] at hl
  rw [List.getElem_take] at hap
  by_cases hjk : j = k - 1
  ·subst hjk; unfold bef; omega
  ·have := List.pairwise_iff_getElem.1 hs j (k - 1) omg omg omg
   unfold bef at this ⊢; omega
 have hhigh : ∀ a ∈ l.drop k, bef pr p a := fun a ha => by
  obtain ⟨j, hj, rfl⟩ := List.getElem_of_mem ha
  rw [List.getElem_drop]
  rw [List.length_drop] at hj
  exact .inl (hhi (k + j) omg omg)
 rw [List.pairwise_append, List.pairwise_cons]
 refine ⟨h1, ⟨hhigh, h2⟩, fun a ha b hb => ?_⟩
 rcases List.mem_cons.1 hb with rfl | hb
 ·exact hlow a ha
 ·exact h3 a ha b hb
theorem ins_perm (l : List Nat) (p k : Nat) : (l.take k ++ p :: l.drop k).Perm (l ++ [p]) := by
 have h1 : (l.take k ++ p :: l.drop k).Perm (p :: (l.take k ++ l.drop k)) := List.perm_middle
 rw [List.take_append_drop] at h1
 exact h1.trans (List.perm_append_singleton p l).symm
theorem bef_unique {l m : List Nat} (hl : l.Pairwise (bef pr)) (hm : m.Pairwise (bef pr)) (h : l.Perm m) : l = m :=
 List.Perm.eq_of_pairwise (fun _ _ _ _ h1 h2 => bef_anti pr h1 h2) hl hm h
end
end Un
end Go.Proofs.YtbhgogiaaljclaaGreatDoor

namespace Go.Proofs.YtbhgogiaaljclaaGreatDoor
open Go.RowKit Go.Shelf
namespace Kit
section
variable {P : Program}
theorem run_app_sl {t e : TypeId} {z : Value} {size bytes : Nat} (E : El P t e z size bytes) (w : World) (ty : TypeId) {B : Nat} (v : Value) (n : Nat) (xs : List Value) (h : w.ownsRow B e size v n xs) (hB : B ≤ w.heap.size) (hn : n ≤ 1000000000)
  (a0 : Option Addr) (m c : Nat) (news : List Value) (hm : m ≤ 1000000000) (hl : news.length = m * size) (hnews : ∀ a, a0 = some a → ∀ j u, news[j]? = some u → w.cell? (a.add j) = some u) (hnil : a0 = none → m = 0) (h1 : ∀ u ∈ news, u.oneCell' = true) :
  ∃ v' w', (Builtin.append_ #[t, t] ty #[v, .slice a0 m c]).run P w = .ok v' w' ∧ w'.ownsRow B e size v' (n + m) (xs ++ news) ∧ w.grownBy w' v.ownBlock := by
 obtain ⟨i, hi, hz, hsz, hby⟩ := info_parts E.info
 have hb : (n + m) * bytes ≤ 140737488355328 := Nat.le_trans (Nat.mul_le_mul (show n + m ≤ 2000000000 by omega) E.small) omg
 obtain ⟨v', w', hr, h2, h3, _⟩ := run_append_sl (P := P) w B t ty e i z size bytes E.under hi hz hsz hby E.cells E.pos v n xs h a0 m c news hl hnews hnil h1 (by unfold maxLen; omega) hb hB
 exact ⟨v', w', hr, h2, h3⟩
theorem wpList_app_sl {t e : TypeId} {z : Value} {size bytes : Nat} (E : El P t e z size bytes) (w : World) {ops : Array Oper} {rest : List Oper} {o : Oper} {a : Act} {Q : Exit → Act → World → Prop} (hgd : o.guard = none) (s x : Operand)
  (ho : o.op = .call { callee := .builtin .append, args := #[s, x], argTypes := #[t, t] }) {B : Nat} (v : Value) (n : Nat) (xs : List Value) (hs : a.eval s = v) (h : w.ownsRow B e size v n xs) (hB : B ≤ w.heap.size) (hn : n ≤ 1000000000)
  (a0 : Option Addr) (m c : Nat) (news : List Value) (hm : m ≤ 1000000000) (hx : a.eval x = .slice a0 m c) (hl : news.length = m * size) (hnews : ∀ a, a0 = some a → ∀ j u, news[j]? = some u → w.cell? (a.add j) = some u) (hnil : a0 = none → m = 0) (h1 : ∀ u ∈ news, u.oneCell' = true)
  (cont : ∀ v' w', w'.ownsRow B e size v' (n + m) (xs ++ news) → w.grownBy w' v.ownBlock → wpList P ops Q rest (a.put o.dst v') w') : wpList P ops Q (o :: rest) a w := by
 obtain ⟨v', w', hrun, h2, h3⟩ := run_app_sl E w o.type v n xs h hB hn a0 m c news hm hl hnews hnil h1
 refine wpList_plain hgd fun K hK => ?_
 unfold Oper.wp
 simp [execOp, ho, resolve, invoke, builtin, hs, hx, hrun, Result.andThen]
 exact hK _ _ (cont _ _ h2 h3)
end
end Kit
namespace Un
def iv (l : List Int) : List Value := l.map fun z => .int .i64 z
theorem iv_len (l : List Int) : (iv l).length = l.length := by simp [iv]
theorem iv_at (l : List Int) (i j : Nat) (hi : i < l.length) (hj : j < 1) : (iv l)[i * 1 + j]? = some (ic l i j) := by
 obtain rfl : j = 0 := by omega
 unfold iv ic
 simp [hi, List.getD]
theorem iv_one (l : List Int) : ∀ u ∈ iv l, u.oneCell' = true := fun u hu => by
 unfold iv at hu
 obtain ⟨z, _, rfl⟩ := List.mem_map.1 hu
 rfl
theorem ic_cell {w : World} {ad : Addr} {l : List Int} (h : Tp.Sl w (some ad) l.length 1 (ic l)) (j : Nat) (hj : j < l.length) : w.cell? (ad.add j) = some (.int .i64 (l.getD j 0)) := by
 rcases h with h | ⟨a, e, h1, h2⟩
 ·omega
 ·cases e
  have := h2 j 0 hj omg
  rwa [Nat.mul_one, Nat.add_zero] at this
theorem ic_head {w : World} {ad : Addr} {l : List Int} (h : Tp.Sl w (some ad) l.length 1 (ic l)) (k : Nat) (j : Nat) (u : Value) (hu : (iv (l.take k))[j]? = some u) : w.cell? (ad.add j) = some u := by
 have hj := (List.getElem?_eq_some_iff.1 hu).1
 rw [iv_len, List.length_take] at hj
 rw [ic_cell h j omg]
 unfold iv at hu
 rw [List.getElem?_map, List.getElem?_take_of_lt omg] at hu
 rw [List.getD_eq_getElem?_getD]
 cases hq : l[j]? with
 | none => rw [hq] at hu; cases hu
 | some z => rw [hq] at hu; exact hu
theorem ic_tail {w : World} {ad : Addr} {l : List Int} (h : Tp.Sl w (some ad) l.length 1 (ic l)) (k c : Nat) (hk : k ≤ l.length) (hc : l.length ≤ c) (a : Addr) (ha : (if c = k then some ad else some (ad.add k)) = some a) (j : Nat) (u : Value) (hu : (iv (l.drop k))[j]? = some u) : w.cell? (a.add j) = some u := by
 have hj := (List.getElem?_eq_some_iff.1 hu).1
 rw [iv_len, List.length_drop] at hj
 rw [if_neg omg] at ha
 cases ha
 have e : (ad.add k).add j = ad.add (k + j) := by
  unfold Addr.add
  split <;> split <;> (try split) <;> simp_all <;> omega
 rw [e, ic_cell h (k + j) omg]
 unfold iv at hu
 rw [List.getElem?_map, List.getElem?_drop] at hu
 rw [List.getD_eq_getElem?_getD]
 cases hq : l[k + j]? with
 | none => rw [hq] at hu; cases hu
 | some z => rw [hq] at hu; exact hu
def prc (x : Ex.Wk) (bs : List Bd) (role bar : Int) (q : Nat) : Int := price x (bs.getD q default) role bar
def nums (l : List Nat) : List Int := l.map fun q : Nat => (q : Int)
def prcs (x : Ex.Wk) (bs : List Bd) (role bar : Int) (l : List Nat) : List Int := l.map (prc x bs role bar)
theorem nums_len (l : List Nat) : (nums l).length = l.length := by simp [nums]
theorem prcs_len (x : Ex.Wk) (bs : List Bd) (role bar : Int) (l : List Nat) : (prcs x bs role bar l).length = l.length := by simp [prcs]
theorem ins_len (l : List Nat) (i k : Nat) (hk : k ≤ l.length) : (l.take k ++ i :: l.drop k).length = l.length + 1 := by simp; omega
structure RL (x : Ex.Wk) (bs : List Bd) (cast : List Int) (role bar : Int) (V : World) (i : Nat) (l : List Nat) (a1 : Addr) (c1 : Nat) (a2 : Addr) (c2 : Nat) (W : World) : Prop where
 bel : Below V.heap.size V W
 perm : l.Perm (frs x bs cast role bar i)
 srt : l.Pairwise (bef (prc x bs role bar))
 s1 : Tp.Sl W (some a1) (nums l).length 1 (ic (nums l))
 s2 : Tp.Sl W (some a2) (prcs x bs role bar l).length 1 (ic (prcs x bs role bar l))
 n1 : l.length ≤ c1
 n2 : l.length ≤ c2
section
variable {x : Ex.Wk} {bs : List Bd} {cast : List Int} {role bar : Int} {V W W' : World} {i : Nat} {l : List Nat} {a1 a2 : Addr} {c1 c2 : Nat}
theorem RL.start (hb : Below V.heap.size V W) (a1 a2 : Addr) (c1 c2 : Nat) : RL x bs cast role bar V 0 [] a1 c1 a2 c2 W := ⟨hb, by simp [frs], List.Pairwise.nil, .inl rfl, .inl rfl, by simp, by simp⟩
theorem RL.thn (h : RL x bs cast role bar V i l a1 c1 a2 c2 W) (hb : Below W.heap.size W W') : RL x bs cast role bar V i l a1 c1 a2 c2 W' := ⟨h.bel.trans (hb.mono h.bel.size), h.perm, h.srt, h.s1.kept hb nlr, h.s2.kept hb nlr, h.n1, h.n2⟩
theorem RL.skip (h : RL x bs cast role bar V i l a1 c1 a2 c2 W) (hf : fits x bs cast role bar i = false) : RL x bs cast role bar V (i + 1) l a1 c1 a2 c2 W := ⟨h.bel, by rw [frs_succ, hf]; simpa using h.perm, h.srt, h.s1, h.s2, h.n1, h.n2⟩
theorem RL.len (h : RL x bs cast role bar V i l a1 c1 a2 c2 W) : l.length ≤ i := by rw [h.perm.length_eq]; exact frs_len ..
theorem RL.put (h : RL x bs cast role bar V i l a1 c1 a2 c2 W) (hf : fits x bs cast role bar i = true) (k : Nat) (hk : k ≤ l.length) (hhi : ∀ j, k ≤ j → j < l.length → prc x bs role bar i < (prcs x bs role bar l).getD j 0) (hlo : 0 < k → (prcs x bs role bar l).getD (k - 1) 0 ≤ prc x bs role bar i)
  {a3 a4 : Addr} {c3 c4 : Nat} (hb : Below W.heap.size W W') (h1 : Tp.Sl W' (some a3) ((nums l).take k ++ [(i : Int)] ++ (nums l).drop k).length 1 (ic ((nums l).take k ++ [(i : Int)] ++ (nums l).drop k))) (h2 : Tp.Sl W' (some a4) ((prcs x bs role bar l).take k ++ [prc x bs role bar i] ++ (prcs x bs role bar l).drop k).length 1 (ic ((prcs x bs role bar l).take k ++ [prc x bs role bar i] ++ (prcs x bs role bar l).drop k)))
  (h3 : l.length + 1 ≤ c3) (h4 : l.length + 1 ≤ c4) : RL x bs cast role bar V (i + 1) (l.take k ++ i :: l.drop k) a3 c3 a4 c4 W' := by
 have e1 : nums (l.take k ++ i :: l.drop k) = (nums l).take k ++ [(i : Int)] ++ (nums l).drop k := by simp [nums, List.map_take, List.map_drop]
 have e2 : prcs x bs role bar (l.take k ++ i :: l.drop k) = (prcs x bs role bar l).take k ++ [prc x bs role bar i] ++ (prcs x bs role bar l).drop k := by simp [prcs, List.map_take, List.map_drop]
 have hln : (l.take k ++ i :: l.drop k).length = l.length + 1 := by simp; omega
 have hg : ∀ j (hj : j < l.length), (prcs x bs role bar l).getD j 0 = prc x bs role bar l[j] := fun j hj => by simp [prcs, List.getD, hj]
 refine ⟨h.bel.trans (hb.mono h.bel.size), ?_, ?_, by rw [e1]; exact h1, by rw [e2]; exact h2, by omega, by omega⟩
 ·rw [frs_succ, hf]
  exact (ins_perm l i k).trans (List.Perm.append_right _ h.perm)
 ·refine ins_sorted _ h.srt (fun q hq => frs_lt (h.perm.mem_iff.1 hq)) hk (fun j hj hkj => ?_) (fun h0 => ?_)
  ·rw [← hg j hj]; exact hhi j hkj hj
  ·have := hlo h0
   rw [hg (k - 1) omg] at this
   simpa [List.getD, show k - 1 < l.length by omega] using this
theorem RL.done (h : RL x bs cast role bar V bs.length l a1 c1 a2 c2 W) : Ready x bs cast role bar l := ⟨h.perm, h.srt⟩
end
theorem own_iv {w : World} {s : Nat} {v : Value} {n m : Nat} {l : List Int} (h : w.ownsRow s 3 1 v n (iv l)) (hn : n = l.length) (hm : l.length = m) (h0 : 0 < n) : ∃ a c, v = .slice (some a) m c ∧ m ≤ c ∧ Tp.Sl w (some a) l.length 1 (ic l) := by
 subst hm
 subst hn
 obtain ⟨a, c, rfl, hs⟩ := Kit.own_sl (f := ic l) h (iv_at l)
 rcases h.2 with ⟨_, hn⟩ | ⟨g, cap, cur, e, _, _, hc, _⟩
 ·omega
 ·injection e with e1 e2 e3
  subst e1 e3
  exact ⟨_, _, rfl, hc, hs⟩
end Un
theorem ru_ready_tail (s0 s1 s2 s3 s4 s5 s6 s7 s8 s9 t1 t2 : Code) (hc : Tryz.f17.body = some (.seq s0 (.seq s1 (.seq s2 (.seq s3 (.seq s4 (.seq s5 (.seq s6 (.seq s7 (.seq s8 (.seq s9 (.seq t1 t2)))))))))))) (x0 x6 x7 x8 x9 x10 x11 x12 x14 x15 x16 x17 x18 x19 x20 x21 x22 x23 x24 x25 x26 x27 x28 x29 x30 x31 x32 x33 x34 x35 x36 x37 x38 x39 x40 x41 x42 x43 x44 x45 x46 x47 x48 x49 x50 x51 x52 x53 x54 x55 x56 x57 x58 x59 x60 x61 x62 x63 x64 x65 x66 x67 x68 x69 x70 x71 x72 x73 x74 x75 x76 x77 x78 x79 x80 x81 x82 x83 x84 x85 x86 x87 x88 x89 x90 x91 x92 x93 x94 x95 x96 x97 x98 x99 x100 x101 x102 x103 x104 x105 x106 x107 x108 x109 x110 x111 x112 x113 x114 x115 x116 x117 x118 x119 x120 x121 x122 x123 x124 x125 x126 x127 x128 x129 x130 x131 x132 x133 x134 x135 x136 x137 x138 x139 x140 x141 x142 x143 x144 x145 x146 x147 x148 x149 x150 x151 x152 x153 x154 x155 x156 x157 x158 : Value)
  (x : Ex.Wk) (p : Ex.Wa) (w V : World) (ha : Ex.At w x p) (hg : Ex.Good x) (bs : List Un.Bd) (a : Option Addr) (c : Nat) (hS : Tp.Sl w a bs.length 17 (Un.bdF bs)) (hl : bs.length ≤ 16) (hbk : ∀ b ∈ bs, Un.bok b = true)
  (cast : List Int) (ac : Option Addr) (cc : Nat) (hC : Tp.Sl w ac cast.length 1 (Un.ic cast)) (hcl : cast.length ≤ 64) (rn : Nat) (hrn : rn < cast.length) (bar : Int) (hln : cast.length = x.ro.length)
  (hW : Un.WH w x p V) (gon : Nat) (con : Nat) (hon : Tp.Sl V (some ⟨gon, 0, none⟩) cast.length 17 (Un.bdF (Un.onL bs cast)))
  (R : Ending → World → Prop) (hR : ∀ a2 c2 l W', Un.Ready x bs cast rn bar l → Tp.Sl W' a2 l.length 1 (Un.ic (Un.nums l)) → Below w.heap.size w W' → R (.returned (.tuple #[.slice a2 l.length c2, .int .i64 0])) W') :
  ∀ K : Act → World → Prop, (∀ a w, t2.wp Tryz.prog (bodyPost Tryz.prog Tryz.f17 R) a w → K a w) → t1.wp Tryz.prog (Exit.then K (bodyPost Tryz.prog Tryz.f17 R)) { tmps := #[x0, .slice a bs.length c, .slice ac cast.length cc, .int .i64 rn, .int .i64 bar, .pointer (some ⟨w.heap.size, 0, none⟩), x6, x7, x8, x9, x10, x11, x12, .slice (some ⟨gon, 0, none⟩) cast.length con, x14, x15, x16, x17, x18, x19, x20, x21, x22, x23, x24, x25, x26, x27, x28, x29, x30, x31, x32, x33, x34, x35, x36, x37, x38, x39, x40, x41, x42, x43, x44, x45, x46, x47, x48, x49, x50, x51, x52, x53, x54, x55, x56, x57, x58, x59, x60, x61, x62, x63, x64, x65, x66, x67, x68, x69, x70, x71, x72, x73, x74, x75, x76, x77, x78, x79, x80, x81, x82, x83, x84, x85, x86, x87, x88, x89, x90, x91, x92, x93, x94, x95, x96, x97, x98, x99, x100, x101, x102, x103, x104, x105, x106, x107, x108, x109, x110, x111, x112, x113, x114, x115, x116, x117, x118, x119, x120, x121, x122, x123, x124, x125, x126, x127, x128, x129, x130, x131, x132, x133, x134, x135, x136, x137, x138, x139, x140, x141, x142, x143, x144, x145, x146, x147, x148, x149, x150, x151, x152, x153, x154, x155, x156, x157, x158], defers := [] } V := by
 have htd := Ex.turn_bd hg
 have HAB := qh (fun W (hb : Below w.heap.size w W) B (hB : Un.bok B = true) s ok (hr : Un.ableR x B rn bar = (s, ok)) => ru_able x p B rn bar W (ha.kept hb nlr) hg hB htd.1 htd.2.1 htd.2.2.1 htd.2.2.2 s ok hr)
 have HDN := qh (fun W (hb : Below V.heap.size V W) B => (by have h := ru_danced (Un.onL bs cast) (some ⟨gon, 0, none⟩) con B rn W (by rw [show (Un.onL bs cast).length = cast.length by simp [Un.onL]]; exact hon.kept hb nlr) (by simp [Un.onL]; omega) (by simpa [Un.onL] using hrn); rwa [show (Un.onL bs cast).length = cast.length by simp [Un.onL]] at h : Calls Tryz.prog 41 #[.slice (some ⟨gon, 0, none⟩) cast.length con, .agg (Un.bdA B), .int .i64 rn] W fun e w' => (∃ a' c', e = .returned (.slice a' cast.length c') ∧ Tp.Sl w' a' cast.length 17 (Un.bdF ((Un.onL bs cast).set rn B))) ∧ Below W.heap.size W w'))
 have HLI := qh (fun W (hb : Below w.heap.size w W) B aD cD (hS : Tp.Sl W aD cast.length 17 (Un.bdF ((Un.onL bs cast).set rn B))) s ok (hr : Un.liftFrom x ((Un.onL bs cast).set rn B) rn bar 0 = (s, ok)) => (by
  have e : ((Un.onL bs cast).set rn B).length = cast.length := by simp [Un.onL]
  have h := ru_lifts x p ((Un.onL bs cast).set rn B) aD cD rn bar W (ha.kept hb nlr) hg (by rw [e]; exact hS) (by rw [e]; exact hln) omg (by rw [e]; omega) s ok hr
  rwa [e] at h : Calls Tryz.prog 40 #[Ex.workV x p, .slice aD cast.length cD, .int .i64 rn, .int .i64 bar] W fun e w' => e = .returned (.tuple #[.int .i64 s, .bool ok]) ∧ Below W.heap.size W w'))
 have HHS := qh (fun W (hb : Below w.heap.size w W) n => ru_has cast ac cc n W (hC.kept hb nlr) omg)
 have HPR := qh (fun W (hb : Below w.heap.size w W) B (hB : Un.bok B = true) (hab : (Un.ableR x B rn bar).2 = true) => ru_price x p B rn bar W (ha.kept hb nlr) hg hB htd.1 htd.2.1 htd.2.2.1 htd.2.2.2 hab)
 have HLF := qh (fun B => Un.liftFrom_heavy x hg (Un.onL bs cast) B rn bar (by simpa [Un.onL] using hln) (by simpa [Un.onL] using hrn))
 have HI := qh (show (Tryz.prog.info? 36).map (·.size) = some (Un.bdA (default : Un.Bd)).toList.length by kernel_rfl)
 have HS := qh hS
 have HBK := qh hbk
 have HV := qh hW
 have HR := qh hR
 dsimp only [Ex.workV, Ex.wv] at HAB HLI HPR
 clear ha hg hS hbk hC hln hW hon hR htd
 dsimp only [Tryz.f17] at hc
 injection hc with hc
 iterate 10 (injection hc with h1 hc; clear h1)
 injection hc with h1 h2
 subst h1
 subst h2
 intro K hK
 go_wp2_with fail
 refine wp_loop_ghost_k (fun k a' w' => (∃ (i : Nat) (l : List Nat) (a1 a2 : Addr) (c1 c2 : Nat), (a'.tmps.getD 17 undef) = .int .i64 i ∧ (a'.tmps.getD 15 undef) = .slice (some a1) l.length c1 ∧ (a'.tmps.getD 16 undef) = .slice (some a2) l.length c2 ∧ i ≤ bs.length ∧ bs.length - i ≤ k ∧ Hid (Un.RL x bs cast rn bar V i l a1 c1 a2 c2 w')) ∧ a' = (fun (t : Nat → Value) => ({ tmps := #[x0, Value.slice a bs.length c, Value.slice ac cast.length cc, Value.int .i64 rn, Value.int .i64 bar, Value.pointer (some ⟨w.heap.size, 0, none⟩), x6, x7, x8, x9, x10, x11, x12, Value.slice (some ⟨gon, 0, none⟩) cast.length con, x14, t 15, t 16, t 17, t 18, t 19, t 20, t 21, t 22, t 23, x24, x25, x26, x27, x28, x29, x30, x31, x32, x33, x34, x35, x36, x37, x38, x39, x40, x41, x42, x43, x44, x45, x46, x47, x48, x49, x50, x51, x52, x53, x54, x55, x56, x57, x58, x59, x60, x61, x62, x63, x64, x65, x66, Value.slice (some ⟨V.heap.size, 0, none⟩) 0 0, Value.slice (some ⟨V.heap.size + 1, 0, none⟩) 0 0, t 69, t 70, t 71, t 72, t 73, t 74, t 75, t 76, t 77, t 78, t 79, t 80, t 81, t 82, t 83, t 84, t 85, t 86, t 87, t 88, t 89, t 90, t 91, t 92, t 93, t 94, t 95, t 96, t 97, t 98, t 99, t 100, t 101, t 102, t 103, t 104, t 105, t 106, t 107, t 108, t 109, t 110, t 111, t 112, t 113, t 114, t 115, t 116, t 117, t 118, t 119, t 120, t 121, t 122, t 123, t 124, t 125, t 126, t 127, t 128, t 129, t 130, t 131, t 132, t 133, t 134, t 135, t 136, t 137, t 138, t 139, t 140, t 141, t 142, t 143, t 144, t 145, t 146, t 147, t 148, t 149, t 150, t 151, t 152, t 153, t 154, t 155, t 156, t 157, x158], defers := [] } : Act)) (fun j => a'.tmps.getD j undef)) bs.length ?atStart ?round
 case atStart => exact ⟨⟨0, [], ⟨V.heap.size, 0, none⟩, ⟨V.heap.size + 1, 0, none⟩, 0, 0, rfl, rfl, rfl, by omega, by omega, qh (Un.RL.start (by exact Kit.gr) _ _ _ _)⟩, by kernel_rfl⟩
 case round =>
  intro gk a' wr hinv
  obtain ⟨hrel, ha⟩ := hinv
  rw [ha]
  clear ha
  obtain ⟨s15, h15_⟩ : ∃ s, a'.tmps.getD 15 undef = s := ⟨_, rfl⟩
  obtain ⟨s16, h16_⟩ : ∃ s, a'.tmps.getD 16 undef = s := ⟨_, rfl⟩
  obtain ⟨s17, h17_⟩ : ∃ s, a'.tmps.getD 17 undef = s := ⟨_, rfl⟩
  rw [h15_, h16_, h17_] at hrel
  generalize ht_ : (fun j => a'.tmps.getD j undef) = t
  have f15_ : t 15 = s15 := by rw [← ht_]; exact h15_
  have f16_ : t 16 = s16 := by rw [← ht_]; exact h16_
  have f17_ : t 17 = s17 := by rw [← ht_]; exact h17_
  clear ht_ h15_ h16_ h17_
  clear a'
  dsimp only
  rw [f15_, f16_, f17_]
  clear f15_ f16_ f17_
  intro _ _ _ _
  obtain ⟨i, l, a1, a2, c1, c2, rfl, rfl, rfl, hi, hk, HL⟩ := hrel
  have HW := qh (HV.out.then HL.out.bel)
  have HVB := qh HL.out.bel
  by_cases hlt : i < bs.length
  ·have hltz : (i : Int) < (bs.length : Int) := by omega
   have hi0 : (0 : Int) ≤ i := by omega
   obtain ⟨ad, rfl, hadb, _⟩ := HS.out.at hlt
   obtain ⟨B, hB⟩ : ∃ B, bs.getD i default = B := ⟨_, rfl⟩
   have HBI := qh (show Un.bok B = true by rw [← hB]; exact HBK.out _ (by rw [List.getD_eq_getElem?_getD, List.getElem?_eq_getElem hlt]; exact List.getElem_mem hlt))
   obtain ⟨s, ok, hso⟩ : ∃ s ok, Un.ableR x B rn bar = (s, ok) := ⟨_, _, rfl⟩
   have HSO := qh hso
   obtain ⟨s2, ok2, hs2⟩ : ∃ s ok, Un.liftFrom x ((Un.onL bs cast).set rn B) rn bar 0 = (s, ok) := ⟨_, _, rfl⟩
   have HS2 := qh hs2
   obtain ⟨hs, hhs⟩ : ∃ b, cast.contains (i : Int) = b := ⟨_, rfl⟩
   have HFT := qh (show Un.fits x bs cast rn bar i = (ok && !hs && ok2) by
    unfold Un.fits
    have e2 := HLF.out B
    rw [hs2] at e2
    injection e2 with e3 e4
    dsimp only
    rw [hB, hso, hhs, show (cast.map fun q => bs.getD q.toNat default) = Un.onL bs cast from rfl, e4])
   have HHI := qh (fun W hb => (by have h := HHS.out W hb i; rw [hhs] at h; exact h.mono fun e w' h => ⟨h.1, h.2.symm⟩ : Calls Tryz.prog 48 #[.slice ac cast.length cc, .int .i64 i] W fun e w' => e = .returned (.bool hs) ∧ w' = W))
   clear hso hs2 hhs
   go_upto_region 23 with fail
   refine Kit.wp_region_vals 13 [([(5, none)], none, true), ([(1, none)], none, true), ([(17, none)], none, true), ([(77, some 1), (78, some 2)], none, true), ([(79, some 3)], none, true), ([(3, none)], none, true), ([(4, none)], none, true), ([(76, some 0), (80, some 4), (81, some 5), (82, some 6)], none, true), ([(83, some 7)], none, true), ([(75, some 8)], none, true), ([(75, some 8)], none, true), ([(84, some 9)], none, true), ([(85, some 10)], none, true)]
    [some 76, some 77, some 78, some 79, some 80, some 81, some 82, some 83, some 75, some 84, some 85, some 18, some 19] rfl (by kernel_rfl) (by kernel_rfl) (fun A B => Below A.heap.size A B) (fun q v w' => match q with
    | 0 => v = .agg (Un.wkC x p)
    | 1 => v = .slice (some ad) bs.length c
    | 2 => v = .int .i64 i
    | 3 => v = .pointer (some (ad.add (i * 17)))
    | 4 => v = .agg (Un.bdA B)
    | 5 => v = .int .i64 rn
    | 6 => v = .int .i64 bar
    | 7 => v = .tuple #[.int .i64 s, .bool ok]
    | 8 => v = .tuple #[.int .i64 s, .bool ok]
    | 9 => v = .int .i64 s
    | 10 => v = .bool ok
    | 11 => v = .int .i64 s
    | _ => v = .bool ok)
    (fun h k => h.trans (k.mono h.size)) (Below.drew (Below.refl _ _)) (fun _ => Below.refl _ _) ?_ ?_ ?_
   ·intro q v A C h1 h2 h3
    split at h3 <;> try exact h3
   ·simp only [List.take_succ_cons, List.take_zero, Kit.StepsV, Kit.VOp, Kit.RdP, true_and, if_true, and_true]
    refine ⟨?_, ?_, ?_, ?_, ?_, ?_, ?_, ?_, ?_, ?_, ?_, ?_, ?_⟩
    all_goals intro ev w' hx hv hc hf hg
    ·have so : ∀ j, w'.cell? ⟨w.heap.size, j, none⟩ = (Un.wkC x p)[j]? := ((HW.out.then hx)).wk
     simp at hv
     simp [execOp, hv, hc, so, go_sem, Kit.UponV, Below.refl]
    ·simp at hv
     simp [execOp, hv, hc, go_sem, Kit.UponV, Below.refl]
    ·simp at hv
     simp [execOp, hv, hc, go_sem, Kit.UponV, Below.refl]
    ·simp [execOp, hv, hc, go_sem, Kit.UponV, Below.refl, hltz, hi0]
    ·have so := (Kit.run_load_sl (P := Tryz.prog) (HS.out.kept ((HW.out.then hx)).bel nlr) hlt 36 (Un.bdA B).toList _ rfl (Un.bdF_at bs i B hB) Tryz.underlying36 rfl HI.out)
     simp only [execOp, hv, Instr.loadAt, Instr.sureAddr, Sem.run_bind, Sem.run_pure, Result.andThen_ok]
     rw [so]
     simp [Kit.UponV, Below.refl]
    ·simp at hv
     simp [execOp, hv, hc, go_sem, Kit.UponV, Below.refl]
    ·simp at hv
     simp [execOp, hv, hc, go_sem, Kit.UponV, Below.refl]
    ·obtain ⟨hv1, hv2, hv3, hv4⟩ := hv
     simp [execOp, hv1, hv2, hv3, hv4, hc, hf, go_sem, Kit.UponV]
     refine (HAB.out w' (HW.out.then hx).bel B HBI.out s ok HSO.out).mono ?_
     rintro e w3 ⟨rfl, hb⟩
     exact ⟨_, rfl, rfl, hb⟩
    ·simp [execOp, hv, hc, go_sem, Kit.UponV, Below.refl]
    ·simp [execOp, hv, hc, go_sem, Kit.UponV, Below.refl]
    ·simp [execOp, hv, hc, go_sem, Kit.UponV, Below.refl]
    ·simp [execOp, hv, hc, go_sem, Kit.UponV, Below.refl]
    ·simp [execOp, hv, hc, go_sem, Kit.UponV, Below.refl]
   intro vs W7 hv hx
   have v11 : vs 11 = .int .i64 s := hv 11 omg
   have v12 : vs 12 = .bool ok := hv 12 omg
   clear hv
   have HL7 := qh (HL.out.thn hx)
   have HW7 := qh (HW.out.then hx)
   have HVB7 := qh HL7.out.bel
   simp only [Kit.putD, List.getD_cons_zero, List.getD_cons_succ, Act.put, v11, v12, List.drop_succ_cons, List.drop_zero]
   clear hx HW HL HVB v11 v12
   generalize vs 0 = z0 at *
   generalize vs 1 = z1 at *
   generalize vs 2 = z2 at *
   generalize vs 3 = z3 at *
   generalize vs 4 = z4 at *
   generalize vs 5 = z5 at *
   generalize vs 6 = z6 at *
   generalize vs 7 = z7 at *
   generalize vs 8 = z8 at *
   generalize vs 9 = z9 at *
   generalize vs 10 = z10 at *
   go_simp
   go_upto_region 24 with fail
   refine Kit.wp_region_vals 16 [([(5, none)], none, true), ([(13, none)], none, true), ([(1, none)], none, true), ([(17, none)], none, true), ([(89, some 2), (90, some 3)], none, true), ([(91, some 4)], none, true), ([(3, none)], none, true), ([(88, some 1), (92, some 5), (93, some 6)], none, true), ([(3, none)], none, true), ([(4, none)], none, true), ([(87, some 0), (94, some 7), (95, some 8), (96, some 9)], none, true), ([(97, some 10)], none, true), ([(86, some 11)], none, true), ([(86, some 11)], none, true), ([(98, some 12)], none, true), ([(99, some 13)], none, true)]
    [some 87, some 88, some 89, some 90, some 91, some 92, some 93, some 94, some 95, some 96, some 97, some 86, some 98, some 99, some 20, some 21] rfl (by kernel_rfl) (by kernel_rfl) (fun A B => Below A.heap.size A B) (fun q v w' => match q with
    | 0 => v = .agg (Un.wkC x p)
    | 1 => v = .slice (some ⟨gon, 0, none⟩) cast.length con
    | 2 => v = .slice (some ad) bs.length c
    | 3 => v = .int .i64 i
    | 4 => v = .pointer (some (ad.add (i * 17)))
    | 5 => v = .agg (Un.bdA B)
    | 6 => v = .int .i64 rn
    | 7 => ∃ a' c', v = .slice a' cast.length c' ∧ Tp.Sl w' a' cast.length 17 (Un.bdF ((Un.onL bs cast).set rn B))
    | 8 => v = .int .i64 rn
    | 9 => v = .int .i64 bar
    | 10 => v = .tuple #[.int .i64 s2, .bool ok2]
    | 11 => v = .tuple #[.int .i64 s2, .bool ok2]
    | 12 => v = .int .i64 s2
    | 13 => v = .bool ok2
    | 14 => v = .int .i64 s2
    | _ => v = .bool ok2)
    (fun h k => h.trans (k.mono h.size)) (Below.drew (Below.refl _ _)) (fun _ => Below.refl _ _) ?_ ?_ ?_
   ·intro q v A C h1 h2 h3
    split at h3 <;> try exact h3
    obtain ⟨a', c', e, hb⟩ := h3
    exact ⟨a', c', e, hb.kept h2 nlr⟩
   ·simp only [List.take_succ_cons, List.take_zero, Kit.StepsV, Kit.VOp, Kit.RdP, true_and, if_true, and_true]
    refine ⟨?_, ?_, ?_, ?_, ?_, ?_, ?_, ?_, ?_, ?_, ?_, ?_, ?_, ?_, ?_, ?_⟩
    all_goals intro ev w' hx hv hc hf hg
    ·have so : ∀ j, w'.cell? ⟨w.heap.size, j, none⟩ = (Un.wkC x p)[j]? := ((HW7.out.then hx)).wk
     simp at hv
     simp [execOp, hv, hc, so, go_sem, Kit.UponV, Below.refl]
    ·simp at hv
     simp [execOp, hv, hc, go_sem, Kit.UponV, Below.refl]
    ·simp at hv
     simp [execOp, hv, hc, go_sem, Kit.UponV, Below.refl]
    ·simp at hv
     simp [execOp, hv, hc, go_sem, Kit.UponV, Below.refl]
    ·simp [execOp, hv, hc, go_sem, Kit.UponV, Below.refl, hltz, hi0]
    ·have so := (Kit.run_load_sl (P := Tryz.prog) (HS.out.kept ((HW7.out.then hx)).bel nlr) hlt 36 (Un.bdA B).toList _ rfl (Un.bdF_at bs i B hB) Tryz.underlying36 rfl HI.out)
     simp only [execOp, hv, Instr.loadAt, Instr.sureAddr, Sem.run_bind, Sem.run_pure, Result.andThen_ok]
     rw [so]
     simp [Kit.UponV, Below.refl]
    ·simp at hv
     simp [execOp, hv, hc, go_sem, Kit.UponV, Below.refl]
    ·obtain ⟨hv1, hv2, hv3⟩ := hv
     simp [execOp, hv1, hv2, hv3, hc, hf, go_sem, Kit.UponV]
     refine (HDN.out w' (HVB7.out.trans (hx.mono HVB7.out.size)) B).mono ?_
     rintro e w3 ⟨⟨a', c', rfl, hs⟩, hbl⟩
     exact ⟨_, rfl, ⟨a', ⟨c', rfl⟩, hs⟩, hbl⟩
    ·simp at hv
     simp [execOp, hv, hc, go_sem, Kit.UponV, Below.refl]
    ·simp at hv
     simp [execOp, hv, hc, go_sem, Kit.UponV, Below.refl]
    ·obtain ⟨hv1, ⟨a', c', hv2, hs⟩, hv3, hv4⟩ := hv
     simp [execOp, hv1, hv2, hv3, hv4, hc, hf, go_sem, Kit.UponV]
     refine (HLI.out w' (HW7.out.then hx).bel B a' c' hs s2 ok2 HS2.out).mono ?_
     rintro e w3 ⟨rfl, hbl⟩
     exact ⟨_, rfl, rfl, hbl⟩
    ·simp [execOp, hv, hc, go_sem, Kit.UponV, Below.refl]
    ·simp [execOp, hv, hc, go_sem, Kit.UponV, Below.refl]
    ·simp [execOp, hv, hc, go_sem, Kit.UponV, Below.refl]
    ·simp [execOp, hv, hc, go_sem, Kit.UponV, Below.refl]
    ·simp [execOp, hv, hc, go_sem, Kit.UponV, Below.refl]
   intro vs W8 hv hx
   have v14 : vs 14 = .int .i64 s2 := hv 14 omg
   have v15 : vs 15 = .bool ok2 := hv 15 omg
   clear hv
   have HL8 := qh (HL7.out.thn hx)
   have HW8 := qh (HW7.out.then hx)
   simp only [Kit.putD, List.getD_cons_zero, List.getD_cons_succ, Act.put, v14, v15, List.drop_succ_cons, List.drop_zero]
   clear hx HW7 HL7 HVB7 v14 v15
   generalize vs 0 = z0 at *
   generalize vs 1 = z1 at *
   generalize vs 2 = z2 at *
   generalize vs 3 = z3 at *
   generalize vs 4 = z4 at *
   generalize vs 5 = z5 at *
   generalize vs 6 = z6 at *
   generalize vs 7 = z7 at *
   generalize vs 8 = z8 at *
   generalize vs 9 = z9 at *
   generalize vs 10 = z10 at *
   generalize vs 11 = z11 at *
   generalize vs 12 = z12 at *
   generalize vs 13 = z13 at *
   go_simp
   go_wp2_with fail
   refine (HHI.out _ HW8.out.bel).mono ?_
   rintro _ W9 ⟨rfl, rfl⟩
   rcases hs with _ | _
   case' true => have HNF := qh (show Un.fits x bs cast rn bar i = false by rw [HFT.out]; cases ok <;> rfl)
   case' false =>
    rcases ok with _ | _
    case' false => have HNF := qh (show Un.fits x bs cast rn bar i = false by rw [HFT.out]; rfl)
    case' true =>
     rcases ok2 with _ | _
     case' false => have HNF := qh (show Un.fits x bs cast rn bar i = false by rw [HFT.out]; rfl)
   case true | false.false | false.true.false =>
    go_wp2_with fail
    (refine Handed.intro (bs.length - (i + 1)) ?_ ?_; omega; go_step; exact ⟨⟨i + 1, l, a1, a2, c1, c2, by show Value.int .i64 _ = _; go_num, rfl, rfl, by omega, Nat.le_refl _, qh (HL8.out.skip HNF.out)⟩, by kernel_rfl⟩)
   have HFI := qh (show Un.fits x bs cast rn bar i = true by rw [HFT.out]; rfl)
   have HAO := qh (show (Un.ableR x B rn bar).2 = true by rw [HSO.out])
   obtain ⟨pz, hpz⟩ : ∃ pz, Un.price x B rn bar = pz := ⟨_, rfl⟩
   have HPZ := qh (show Un.prc x bs rn bar i = pz by unfold Un.prc; rw [hB]; exact hpz)
   have HPB := qh (fun W hb => (by have h := HPR.out W hb B HBI.out HAO.out; rwa [hpz] at h : Calls Tryz.prog 49 #[.agg (Un.wkC x p), .agg (Un.bdA B), .int .i64 rn, .int .i64 bar] W fun e w3 => e = .returned (.int .i64 pz) ∧ Below W.heap.size W w3))
   clear hpz
   go_upto_region 26 with fail
   refine Kit.wp_region_vals 9 [([(5, none)], none, true), ([(1, none)], none, true), ([(17, none)], none, true), ([(112, some 1), (113, some 2)], none, true), ([(114, some 3)], none, true), ([(3, none)], none, true), ([(4, none)], none, true), ([(111, some 0), (115, some 4), (116, some 5), (117, some 6)], none, true), ([(118, some 7)], none, true)]
    [some 111, some 112, some 113, some 114, some 115, some 116, some 117, some 118, some 22] rfl (by kernel_rfl) (by kernel_rfl) (fun A B => Below A.heap.size A B) (fun q v w' => match q with
    | 0 => v = .agg (Un.wkC x p)
    | 1 => v = .slice (some ad) bs.length c
    | 2 => v = .int .i64 i
    | 3 => v = .pointer (some (ad.add (i * 17)))
    | 4 => v = .agg (Un.bdA B)
    | 5 => v = .int .i64 rn
    | 6 => v = .int .i64 bar
    | 7 => v = .int .i64 pz
    | _ => v = .int .i64 pz)
    (fun h k => h.trans (k.mono h.size)) (Below.drew (Below.refl _ _)) (fun _ => Below.refl _ _) ?_ ?_ ?_
   ·intro q v A C h1 h2 h3
    split at h3 <;> try exact h3
   ·simp only [List.take_succ_cons, List.take_zero, Kit.StepsV, Kit.VOp, Kit.RdP, true_and, if_true, and_true]
    refine ⟨?_, ?_, ?_, ?_, ?_, ?_, ?_, ?_, ?_⟩
    all_goals intro ev w' hx hv hc hf hg
    ·have so : ∀ j, w'.cell? ⟨w.heap.size, j, none⟩ = (Un.wkC x p)[j]? := ((HW8.out.then hx)).wk
     simp at hv
     simp [execOp, hv, hc, so, go_sem, Kit.UponV, Below.refl]
    ·simp at hv
     simp [execOp, hv, hc, go_sem, Kit.UponV, Below.refl]
    ·simp at hv
     simp [execOp, hv, hc, go_sem, Kit.UponV, Below.refl]
    ·simp [execOp, hv, hc, go_sem, Kit.UponV, Below.refl, hltz, hi0]
    ·have so := (Kit.run_load_sl (P := Tryz.prog) (HS.out.kept ((HW8.out.then hx)).bel nlr) hlt 36 (Un.bdA B).toList _ rfl (Un.bdF_at bs i B hB) Tryz.underlying36 rfl HI.out)
     simp only [execOp, hv, Instr.loadAt, Instr.sureAddr, Sem.run_bind, Sem.run_pure, Result.andThen_ok]
     rw [so]
     simp [Kit.UponV, Below.refl]
    ·simp at hv
     simp [execOp, hv, hc, go_sem, Kit.UponV, Below.refl]
    ·simp at hv
     simp [execOp, hv, hc, go_sem, Kit.UponV, Below.refl]
    ·obtain ⟨hv1, hv2, hv3, hv4⟩ := hv
     simp [execOp, hv1, hv2, hv3, hv4, hc, hf, go_sem, Kit.UponV]
     refine (HPB.out w' (HW8.out.then hx).bel).mono ?_
     rintro e w3 ⟨rfl, hb⟩
     exact ⟨_, rfl, rfl, hb⟩
    ·simp [execOp, hv, hc, go_sem, Kit.UponV, Below.refl]
   intro vs W10 hv hx
   have v8 : vs 8 = .int .i64 pz := hv 8 omg
   clear hv
   have HL10 := qh (HL8.out.thn hx)
   have HW10 := qh (HW8.out.then hx)
   simp only [Kit.putD, List.getD_cons_zero, List.getD_cons_succ, Act.put, v8, List.drop_succ_cons, List.drop_zero]
   clear hx HW8 HL8 v8
   generalize vs 0 = z0 at *
   generalize vs 1 = z1 at *
   generalize vs 2 = z2 at *
   generalize vs 3 = z3 at *
   generalize vs 4 = z4 at *
   generalize vs 5 = z5 at *
   generalize vs 6 = z6 at *
   generalize vs 7 = z7 at *
   go_simp
   have hll := HL10.out.len
   have hn1 := HL10.out.n1
   have hn2 := HL10.out.n2
   have HSN := qh HL10.out.s1
   have HSP := qh HL10.out.s2
   go_wp2_with fail
   go_loopg [23] l.length (fun kx v23 wr => ∃ k : Nat, v23 = .int .i64 k ∧ k ≤ l.length ∧ k ≤ kx ∧ Hid (∀ j, k ≤ j → j < l.length → pz < (Un.prcs x bs rn bar l).getD j 0) ∧ Hid (wr = W10))
   case atStart => exact ⟨l.length, rfl, Nat.le_refl _, Nat.le_refl _, qh (fun j h1 h2 => absurd h2 omg), qh rfl⟩
   case round =>
    obtain ⟨k, rfl, hkn, hkx, HHJ, HWE⟩ := hrel
    obtain rfl := HWE.out
    rcases Nat.eq_zero_or_pos k with rfl | hk0
    case' inl => have HLO := qh (show 0 < 0 → (Un.prcs x bs rn bar l).getD (0 - 1) 0 ≤ pz from fun h => absurd h omg)
    case' inr =>
     obtain ⟨j, rfl⟩ : ∃ j, k = j + 1 := ⟨k - 1, by omega⟩
     have hj : j < l.length := by omega
     have hjz : (j : Int) < (l.length : Int) := by omega
     have e0 := Un.ic_cell HSP.out j (by rw [Un.prcs_len]; exact hj)
     obtain ⟨pq, hpq⟩ : ∃ pq, (Un.prcs x bs rn bar l).getD j 0 = pq := ⟨_, rfl⟩
     rw [hpq] at e0
     have HPQ := qh hpq
     have hjw : IntKind.i64.wrap (((j + 1 : Nat) : Int) - 1) = (j : Int) := by rw [IntKind.wrap_i64] <;> omega
     have hjw2 : IntKind.i64.wrap ((j : Int) + 1 - 1) = (j : Int) := by rw [IntKind.wrap_i64] <;> omega
     have hj0 : (0 : Int) < (j : Int) + 1 := by omega
     have hj1 : (0 : Int) < ((j + 1 : Nat) : Int) := by omega
     clear hpq
     rcases dq : decide (pz < pq) with _ | _
     case' false => have HLO := qh (show 0 < j + 1 → (Un.prcs x bs rn bar l).getD (j + 1 - 1) 0 ≤ pz from fun _ => by rw [Nat.add_sub_cancel, HPQ.out]; simpa using dq)
    case inr.true =>
     have HHK := qh (show ∀ i, j ≤ i → i < l.length → pz < (Un.prcs x bs rn bar l).getD i 0 from fun i h1 h2 => by
      rcases Nat.lt_or_ge j i with h | h
      ·exact HHJ.out i omg h2
      ·obtain rfl : i = j := by omega
       rw [HPQ.out]; simpa using dq)
     go_wp2_with fail
     go_roundg j
     case measure => omega
     case rel => exact ⟨j, by go_num, by omega, Nat.le_refl _, HHK, qh rfl⟩
    case' inr.false => generalize hkk : j + 1 = k at *
    case' inl =>
     obtain ⟨k, hkk⟩ : ∃ k, 0 = k := ⟨_, rfl⟩
     have HK0 := qh (show (0 : Int) = (k : Int) by omega)
     replace hkn : k ≤ l.length := by omega
     replace HHJ := qh (show ∀ j, k ≤ j → j < l.length → pz < (Un.prcs x bs rn bar l).getD j 0 from fun j _ h => HHJ.out j omg h)
     replace HLO := qh (show 0 < k → (Un.prcs x bs rn bar l).getD (k - 1) 0 ≤ pz from fun h => absurd h omg)
     clear hkk
    all_goals
     have hkl := hkn
     have hkz : (k : Int) ≤ (l.length : Int) := by omega
     have hkc : (k : Int) ≤ (c1 : Int) := by omega
     have hnk : (l.length : Int) ≤ (c1 : Int) := by omega
     go_upto_region 30 with fail
     refine Kit.wp_region_vals2 11 [([], none, true), ([(15, none)], none, true), ([(23, none)], none, true), ([(135, some 1), (136, some 2)], none, true), ([(134, some 0), (137, some 3)], none, true), ([(17, none)], none, true), ([(139, some 5)], none, true), ([(138, some 4), (140, some 6)], none, true), ([(15, none)], none, true), ([(23, none)], none, true), ([(142, some 8), (143, some 9)], none, true)]
      [some 134, some 135, some 136, some 137, some 138, some 139, some 140, some 141, some 142, some 143, some 144] rfl (by kernel_rfl) (by kernel_rfl) (fun X => Below wr.heap.size wr X)
      (fun q A B => if q = 7 then (Below wr.heap.size wr A → Below wr.heap.size wr B) else Below A.heap.size A B) (fun i q => q == 7 && (i == 0 || i == 4 || i == 6)) (fun q v w' => match q with
      | 0 => ∃ b, v = .slice (some ⟨b, 0, none⟩) 0 0 ∧ w'.ownsRow wr.heap.size 3 1 v 0 []
      | 1 => v = .slice (some a1) l.length c1
      | 2 => v = .int .i64 k
      | 3 => v = .slice (some a1) k c1
      | 4 => w'.ownsRow wr.heap.size 3 1 v k (Un.iv ((Un.nums l).take k))
      | 5 => v = .int .i64 i
      | 6 => ∃ b, v = .slice (some ⟨b, 0, none⟩) 1 1 ∧ w'.heap[b]? = some (.cells #[.int .i64 i] 3 (0, 0))
      | 7 => w'.ownsRow wr.heap.size 3 1 v (k + 1) (Un.iv ((Un.nums l).take k) ++ [.int .i64 i])
      | 8 => v = .slice (some a1) l.length c1
      | 9 => v = .int .i64 k
      | _ => v = .slice (if c1 = k then some a1 else some (a1.add k)) (l.length - k) (c1 - k))
      (by kernel_rfl) ?_ (Below.drew (Below.refl _ _)) ?_ ?_ ?_ ?_
     ·intro q A B _ h1 h2
      split at h2
      ·exact h2 h1
      ·exact h1.trans (h2.mono h1.size)
     ·intro q X
      split
      ·exact fun h => h
      ·exact Below.refl _ _
     ·intro q i v A B hq hi hne hD h1 h2 h3
      split at h2
      ·rename_i h7
       subst h7
       split at h3 <;> first | exact h3 | exact absurd rfl hne | (exfalso; revert hD; decide)
      ·split at h3 <;> first
       | exact h3
       | exact h3.imp fun b h => ⟨h.1, Kit.ownsRow_thn h.2 h2⟩
       | exact Kit.ownsRow_thn h3 h2
       | exact h3.imp fun b h => ⟨h.1, (h2.block b (Array.getElem?_eq_some_iff.1 h.2).1).trans h.2⟩
     ·simp only [List.take_succ_cons, List.take_zero, Kit.StepsV2, Kit.VOp2, Kit.RdP, true_and, if_true, and_true]
      refine ⟨?_, ?_, ?_, ?_, ?_, ?_, ?_, ?_, ?_, ?_, ?_⟩
      all_goals intro ev w' hx hv hc hf hg
      ·simp [execOp, hc, go_sem, Kit.UponV]
       exact ⟨Uo.lit_row w' [] _ w'.heap.size wr.heap.size 1 0 rfl hx.size rfl (by unfold maxLen; omega), (Below.refl _ _).alloc nlr _⟩
      ·simp at hv; simp [execOp, hv, go_sem, Kit.UponV, Below.refl]
      ·simp at hv; simp [execOp, hv, go_sem, Kit.UponV, Below.refl]; try exact HK0.out
      ·simp [execOp, hv, hc, go_sem, Kit.UponV, Below.refl, hkz, hkc]
      ·obtain ⟨⟨b0, e0, h0⟩, hv2⟩ := hv
       rw [e0] at h0
       obtain ⟨v4, w4, hrun, ho, hbb⟩ := Kit.run_app_empty Un.elI w' 44 h0 hx.size (some a1) k c1 (Un.iv ((Un.nums l).take k)) omg (by rw [Un.iv_len, List.length_take, Nat.mul_one, Un.nums_len]; omega) (fun _ => ⟨a1, rfl, fun j u hu => Un.ic_head (HSN.out.kept hx nlr) k j u hu⟩)
       simp only [execOp, resolve, invoke, builtin, Sem.run_bind, Sem.run_pure, Result.andThen_ok, List.map_toArray, List.map_cons, List.map_nil, e0, hv2, hrun]
       exact ⟨ho, hbb⟩
      ·simp at hv; simp [execOp, hv, go_sem, Kit.UponV, Below.refl]
      ·simp [execOp, hv, hc, go_sem, Kit.UponV]
       exact ⟨(Array.getElem?_eq_some_iff.1 (World.alloc_heap_new w' (.cells #[.int .i64 i] 3))).2, (Below.refl _ _).alloc nlr _⟩
      ·obtain ⟨h4, b6, e6, h6⟩ := hv
       obtain ⟨v7, w7, hrun, ho, hgr⟩ := Kit.run_app_sl Un.elI w' 44 _ k _ h4 hx.size omg (some ⟨b6, 0, none⟩) 1 1 [.int .i64 i] omg rfl (fun ad e j u hu => by
        cases e
        rcases j with _ | j
        ·simp at hu; subst hu; simp [World.cell?, h6, Addr.add]
        ·simp at hu) (fun e => by cases e) (by simp [Value.oneCell'])
       simp only [execOp, resolve, invoke, builtin, Sem.run_bind, Sem.run_pure, Result.andThen_ok, List.map_toArray, List.map_cons, List.map_nil, e6, hrun]
       exact ⟨ho, fun hh => hh.grown hgr hh.size (fun q hq => (h4.lt q hq).1)⟩
      ·simp at hv; simp [execOp, hv, go_sem, Kit.UponV, Below.refl]
      ·simp at hv; simp [execOp, hv, go_sem, Kit.UponV, Below.refl]; try exact HK0.out
      ·simp [execOp, hv, hc, go_sem, Kit.UponV, Below.refl, hkz, hkc, hkn, hnk]
     intro vs W11 hv hx
     have h7 : W11.ownsRow wr.heap.size 3 1 (vs 7) (k + 1) (Un.iv ((Un.nums l).take k) ++ [.int .i64 i]) := hv 7 omg (fun q _ => by simp)
     have h10 : vs 10 = .slice (if c1 = k then some a1 else some (a1.add k)) (l.length - k) (c1 - k) := hv 10 omg (fun q _ => by simp)
     clear hv
     simp only [Kit.putD, List.getD_cons_zero, List.getD_cons_succ, Act.put, List.drop_succ_cons, List.drop_zero]
     generalize vs 0 = z0 at *
     generalize vs 1 = z1 at *
     generalize vs 2 = z2 at *
     generalize vs 3 = z3 at *
     generalize vs 4 = z4 at *
     generalize vs 5 = z5 at *
     generalize vs 6 = z6 at *
     generalize vs 7 = z7 at *
     generalize vs 8 = z8 at *
     generalize vs 9 = z9 at *
     generalize vs 10 = z10 at *
     have H10 := qh h10
     clear h10
     go_simp
     refine Kit.wpList_app_sl Un.elI _ rfl _ _ rfl z7 (k + 1) _ rfl h7 hx.size omg (if c1 = k then some a1 else some (a1.add k)) (l.length - k) (c1 - k) (Un.iv ((Un.nums l).drop k)) omg H10.out (by rw [Un.iv_len, List.length_drop, Un.nums_len, Nat.mul_one]) (fun a e j u hu => Un.ic_tail (HSN.out.kept hx nlr) k c1 (by rw [Un.nums_len]; omega) (by rw [Un.nums_len]; omega) a e j u hu) (fun e => absurd e (by split <;> simp)) (Un.iv_one _) ?_
     intro v' W12 ho hgr
     rw [show Un.iv ((Un.nums l).take k) ++ [.int .i64 i] ++ Un.iv ((Un.nums l).drop k) = Un.iv ((Un.nums l).take k ++ ([i] : List Int) ++ (Un.nums l).drop k) by simp [Un.iv]] at ho
     obtain ⟨a3, c3, rfl, hc3, hs3⟩ := Un.own_iv (m := l.length + 1) ho (by simp [Un.nums_len]; omega) (by simp [Un.nums_len]; omega) omg
     have HX3 := qh (hx.grown hgr hx.size (fun q hq => (h7.lt q hq).1))
     clear h7 hx ho hgr H10
     have HS3 := qh hs3
     have HSQ := qh (HSP.out.kept HX3.out nlr)
     have hkc2 : (k : Int) ≤ (c2 : Int) := by omega
     have hnk2 : (l.length : Int) ≤ (c2 : Int) := by omega
     clear hs3 hkc hnk
     go_upto_region 31 with fail
     refine Kit.wp_region_vals2 11 [([], none, true), ([(16, none)], none, true), ([(23, none)], none, true), ([(147, some 1), (148, some 2)], none, true), ([(146, some 0), (149, some 3)], none, true), ([(22, none)], none, true), ([(151, some 5)], none, true), ([(150, some 4), (152, some 6)], none, true), ([(16, none)], none, true), ([(23, none)], none, true), ([(154, some 8), (155, some 9)], none, true)]
      [some 146, some 147, some 148, some 149, some 150, some 151, some 152, some 153, some 154, some 155, some 156] rfl (by kernel_rfl) (by kernel_rfl) (fun X => Below W12.heap.size W12 X)
      (fun q A B => if q = 7 then (Below W12.heap.size W12 A → Below W12.heap.size W12 B) else Below A.heap.size A B) (fun i q => q == 7 && (i == 0 || i == 4 || i == 6)) (fun q v w' => match q with
      | 0 => ∃ b, v = .slice (some ⟨b, 0, none⟩) 0 0 ∧ w'.ownsRow W12.heap.size 3 1 v 0 []
      | 1 => v = .slice (some a2) l.length c2
      | 2 => v = .int .i64 k
      | 3 => v = .slice (some a2) k c2
      | 4 => w'.ownsRow W12.heap.size 3 1 v k (Un.iv ((Un.prcs x bs rn bar l).take k))
      | 5 => v = .int .i64 pz
      | 6 => ∃ b, v = .slice (some ⟨b, 0, none⟩) 1 1 ∧ w'.heap[b]? = some (.cells #[.int .i64 pz] 3 (0, 0))
      | 7 => w'.ownsRow W12.heap.size 3 1 v (k + 1) (Un.iv ((Un.prcs x bs rn bar l).take k) ++ [.int .i64 pz])
      | 8 => v = .slice (some a2) l.length c2
      | 9 => v = .int .i64 k
      | _ => v = .slice (if c2 = k then some a2 else some (a2.add k)) (l.length - k) (c2 - k))
      (by kernel_rfl) ?_ (Below.drew (Below.refl _ _)) ?_ ?_ ?_ ?_
     ·intro q A B _ h1 h2
      split at h2
      ·exact h2 h1
      ·exact h1.trans (h2.mono h1.size)
     ·intro q X
      split
      ·exact fun h => h
      ·exact Below.refl _ _
     ·intro q i v A B hq hi hne hD h1 h2 h3
      split at h2
      ·rename_i h7
       subst h7
       split at h3 <;> first | exact h3 | exact absurd rfl hne | (exfalso; revert hD; decide)
      ·split at h3 <;> first
       | exact h3
       | exact h3.imp fun b h => ⟨h.1, Kit.ownsRow_thn h.2 h2⟩
       | exact Kit.ownsRow_thn h3 h2
       | exact h3.imp fun b h => ⟨h.1, (h2.block b (Array.getElem?_eq_some_iff.1 h.2).1).trans h.2⟩
     ·simp only [List.take_succ_cons, List.take_zero, Kit.StepsV2, Kit.VOp2, Kit.RdP, true_and, if_true, and_true]
      refine ⟨?_, ?_, ?_, ?_, ?_, ?_, ?_, ?_, ?_, ?_, ?_⟩
      all_goals intro ev w' hx hv hc hf hg
      ·simp [execOp, hc, go_sem, Kit.UponV]
       exact ⟨Uo.lit_row w' [] _ w'.heap.size W12.heap.size 1 0 rfl hx.size rfl (by unfold maxLen; omega), (Below.refl _ _).alloc nlr _⟩
      ·simp at hv; simp [execOp, hv, go_sem, Kit.UponV, Below.refl]
      ·simp at hv; simp [execOp, hv, go_sem, Kit.UponV, Below.refl]; try exact HK0.out
      ·simp [execOp, hv, hc, go_sem, Kit.UponV, Below.refl, hkz, hkc2]
      ·obtain ⟨⟨b0, e0, h0⟩, hv2⟩ := hv
       rw [e0] at h0
       obtain ⟨v4, w4, hrun, ho, hbb⟩ := Kit.run_app_empty Un.elI w' 44 h0 hx.size (some a2) k c2 (Un.iv ((Un.prcs x bs rn bar l).take k)) omg (by rw [Un.iv_len, List.length_take, Nat.mul_one, Un.prcs_len]; omega) (fun _ => ⟨a2, rfl, fun j u hu => Un.ic_head (HSQ.out.kept hx nlr) k j u hu⟩)
       simp only [execOp, resolve, invoke, builtin, Sem.run_bind, Sem.run_pure, Result.andThen_ok, List.map_toArray, List.map_cons, List.map_nil, e0, hv2, hrun]
       exact ⟨ho, hbb⟩
      ·simp at hv; simp [execOp, hv, go_sem, Kit.UponV, Below.refl]
      ·simp [execOp, hv, hc, go_sem, Kit.UponV]
       exact ⟨(Array.getElem?_eq_some_iff.1 (World.alloc_heap_new w' (.cells #[.int .i64 pz] 3))).2, (Below.refl _ _).alloc nlr _⟩
      ·obtain ⟨h4, b6, e6, h6⟩ := hv
       obtain ⟨v7, w7, hrun, ho, hgr⟩ := Kit.run_app_sl Un.elI w' 44 _ k _ h4 hx.size omg (some ⟨b6, 0, none⟩) 1 1 [.int .i64 pz] omg rfl (fun ad e j u hu => by
        cases e
        rcases j with _ | j
        ·simp at hu; subst hu; simp [World.cell?, h6, Addr.add]
        ·simp at hu) (fun e => by cases e) (by simp [Value.oneCell'])
       simp only [execOp, resolve, invoke, builtin, Sem.run_bind, Sem.run_pure, Result.andThen_ok, List.map_toArray, List.map_cons, List.map_nil, e6, hrun]
       exact ⟨ho, fun hh => hh.grown hgr hh.size (fun q hq => (h4.lt q hq).1)⟩
      ·simp at hv; simp [execOp, hv, go_sem, Kit.UponV, Below.refl]
      ·simp at hv; simp [execOp, hv, go_sem, Kit.UponV, Below.refl]; try exact HK0.out
      ·simp [execOp, hv, hc, go_sem, Kit.UponV, Below.refl, hkz, hkc2, hkn, hnk2]
     intro vs W13 hv hx
     have h7 : W13.ownsRow W12.heap.size 3 1 (vs 7) (k + 1) (Un.iv ((Un.prcs x bs rn bar l).take k) ++ [.int .i64 pz]) := hv 7 omg (fun q _ => by simp)
     have h10 : vs 10 = .slice (if c2 = k then some a2 else some (a2.add k)) (l.length - k) (c2 - k) := hv 10 omg (fun q _ => by simp)
     clear hv
     simp only [Kit.putD, List.getD_cons_zero, List.getD_cons_succ, Act.put, List.drop_succ_cons, List.drop_zero]
     generalize vs 0 = z0 at *
     generalize vs 1 = z1 at *
     generalize vs 2 = z2 at *
     generalize vs 3 = z3 at *
     generalize vs 4 = z4 at *
     generalize vs 5 = z5 at *
     generalize vs 6 = z6 at *
     generalize vs 7 = z7 at *
     generalize vs 8 = z8 at *
     generalize vs 9 = z9 at *
     generalize vs 10 = z10 at *
     have H10 := qh h10
     clear h10
     go_simp
     refine Kit.wpList_app_sl Un.elI _ rfl _ _ rfl z7 (k + 1) _ rfl h7 hx.size omg (if c2 = k then some a2 else some (a2.add k)) (l.length - k) (c2 - k) (Un.iv ((Un.prcs x bs rn bar l).drop k)) omg H10.out (by rw [Un.iv_len, List.length_drop, Un.prcs_len, Nat.mul_one]) (fun a e j u hu => Un.ic_tail (HSQ.out.kept hx nlr) k c2 (by rw [Un.prcs_len]; omega) (by rw [Un.prcs_len]; omega) a e j u hu) (fun e => absurd e (by split <;> simp)) (Un.iv_one _) ?_
     intro v' W14 ho hgr
     rw [show Un.iv ((Un.prcs x bs rn bar l).take k) ++ [.int .i64 pz] ++ Un.iv ((Un.prcs x bs rn bar l).drop k) = Un.iv ((Un.prcs x bs rn bar l).take k ++ ([pz] : List Int) ++ (Un.prcs x bs rn bar l).drop k) by simp [Un.iv]] at ho
     obtain ⟨a4, c4, rfl, hc4, hs4⟩ := Un.own_iv (m := l.length + 1) ho (by simp [Un.prcs_len]; omega) (by simp [Un.prcs_len]; omega) omg
     have HX4 := qh (hx.grown hgr hx.size (fun q hq => (h7.lt q hq).1))
     clear h7 hx ho hgr H10
     have HRN := qh (HL10.out.put HFI.out k hkn (by rw [HPZ.out]; exact HHJ.out) (by rw [HPZ.out]; exact HLO.out) (HX3.out.trans (HX4.out.mono HX3.out.size)) (HS3.out.kept HX4.out nlr) (by rw [HPZ.out]; exact hs4) hc3 hc4)
     clear hs4
     go_wp2_with fail
     (refine Handed.intro (bs.length - (i + 1)) ?_ ?_; omega; go_step; exact ⟨⟨i + 1, l.take k ++ i :: l.drop k, a3, a4, c3, c4, by show Value.int .i64 _ = _; go_num, by rw [Un.ins_len _ _ _ hkn]; rfl, by rw [Un.ins_len _ _ _ hkn]; rfl, by omega, Nat.le_refl _, HRN⟩, by kernel_rfl⟩)
  ·obtain rfl : i = bs.length := by omega
   have HRD := qh HL.out.done
   have HSN := qh HL.out.s1
   go_wp2_with fail
   exact HR.out _ _ _ _ HRD.out (by have h := HSN.out; rwa [Un.nums_len] at h) HW.out.bel
end Go.Proofs.YtbhgogiaaljclaaGreatDoor

namespace Go.Proofs.YtbhgogiaaljclaaGreatDoor
open Go.RowKit Go.Shelf
theorem ru_Ready_0 (x : Ex.Wk) (p : Ex.Wa) (w : World) (ha : Ex.At w x p) (bs : List Un.Bd) (a : Option Addr) (c : Nat) (hS : Tp.Sl w a bs.length 17 (Un.bdF bs)) (hl : bs.length ≤ 4611686018427387904) (hns : ∀ b ∈ bs, b.name.size ≤ 9223372036854775807)
  (cast : List Int) (ac : Option Addr) (cc : Nat) (hC : Tp.Sl w ac cast.length 1 (Un.ic cast)) (hcl : cast.length ≤ 1000000000) (hcc : cast.length ≤ cc) (role bar : Int) (hE : Un.readyE x bs cast role bar = 0) :
  Calls Tryz.prog 17 #[Ex.workV x p, .slice a bs.length c, .slice ac cast.length cc, .int .i64 role, .int .i64 bar] w fun e w' => (∃ a2 c2 l, e = .returned (.tuple #[.slice a2 l.length c2, .int .i64 0]) ∧ Un.Ready x bs cast role bar l ∧ Tp.Sl w' a2 l.length 1 (Un.ic (l.map fun q : Nat => (q : Int)))) ∧ Below w.heap.size w w' := by
 have HCK := qh (fun W (hb : Below w.heap.size w W) => rq_check19 x p W (ha.kept hb nlr))
 have HWI := qh (fun W => ru_within x p role bar W ha.lro)
 have HBD := qh (fun W (hb : Below w.heap.size w W) => ru_bad bs a c W (hS.kept hb nlr) hl hns)
 have HCA := qh (fun W (hb : Below w.heap.size w W) (h1 : x.ro.length ≤ 1000000000) (h2 : bs.length ≤ 1000000000) => ru_cast x.ro.length bs.length cast ac cc W (hC.kept hb nlr) hcl h1 h2 hcc)
 dsimp only [Ex.workV, Ex.wv] at HCK HWI
 obtain ⟨r, hr⟩ : ∃ r, Un.readyE x bs cast role bar = r := ⟨_, rfl⟩
 rw [hr] at hE
 have HR := qh hr
 have HGD := qh (show Ex.chk x = 0 → Ex.Good x from Ex.good_of)
 obtain ⟨k0, hk0⟩ : ∃ c, Ex.chk x = c := ⟨_, rfl⟩
 obtain ⟨k1, hk1⟩ : ∃ c, Un.chkB bs = c := ⟨_, rfl⟩
 obtain ⟨k2, hk2⟩ : ∃ c, (decide (cast.length = x.ro.length) && Un.okCast bs.length [] cast) = c := ⟨_, rfl⟩
 obtain ⟨k3, hk3⟩ : ∃ c, Un.within x role bar = c := ⟨_, rfl⟩
 have HRE := qh (show r = if k0 ≠ 0 then k0 else if 16 < bs.length then 2 else if k1 ≠ 0 then k1 else if k2 = false then 480 else if k3 = false then 1 else 0 by
  rw [← hr, ← hk0, ← hk1, ← hk2, ← hk3]
  unfold Un.readyE Un.chkB
  by_cases h0 : Ex.chk x ≠ 0
  ·rw [if_pos h0, if_pos h0]
  ·rw [if_neg h0, if_neg h0]
   by_cases h1 : 16 < bs.length
   ·rw [if_pos h1, if_pos h1]
   ·rw [if_neg h1, if_neg h1]
    cases h2 : bs.all Un.bok
    ·simp
    ·cases h3 : Un.okCast bs.length [] cast
     ·simp
     ·by_cases h4 : cast.length = x.ro.length <;> simp [h4])
 obtain ⟨rfl, h16, rfl, rfl, rfl⟩ : k0 = 0 ∧ bs.length ≤ 16 ∧ k1 = 0 ∧ k2 = true ∧ k3 = true := by
  have h := HRE.out
  rw [hE] at h
  by_cases h0 : k0 = 0
  ·rw [if_neg (by simp [h0])] at h
   by_cases h1 : 16 < bs.length
   ·rw [if_pos h1] at h; cases h
   ·rw [if_neg h1] at h
    by_cases h2 : k1 = 0
    ·rw [if_neg (by simp [h2])] at h
     cases k2
     ·simp at h
     ·cases k3
      ·simp at h
      ·exact ⟨h0, by omega, h2, rfl, rfl⟩
    ·rw [if_pos h2] at h; exact absurd h.symm h2
  ·rw [if_pos h0] at h; exact absurd h.symm h0
 have hg := HGD.out hk0
 have HG := qh hg
 have hro := hg.roles
 have hln : cast.length = x.ro.length ∧ Un.okCast bs.length [] cast = true := by simpa using hk2
 have HLN := qh hln.1
 have HOC := qh hln.2
 have HWN := qh hk3
 have HBK := qh (show ∀ b ∈ bs, Un.bok b = true by
  have h := hk1
  unfold Un.chkB at h
  cases ha : bs.all Un.bok
  ·simp [ha] at h
  ·simpa using ha)
 rw [hk0] at HCK
 rw [hk1] at HBD
 rw [hk2] at HCA
 rw [hk3] at HWI
 have d1 : decide ((16 : Int) < (bs.length : Int)) = false := by simp; omega
 have d2 : decide (16 < bs.length) = false := by simpa using h16
 obtain ⟨hr0, hr1⟩ : 0 ≤ role ∧ role < x.ro.length := by
  have h := hk3
  unfold Un.within at h
  simp only [Bool.and_eq_true, decide_eq_true_eq] at h
  exact ⟨h.1.1.1, h.1.1.2⟩
 obtain ⟨rn, rfl⟩ : ∃ n : Nat, role = n := ⟨role.toNat, by omega⟩
 have hrn : rn < cast.length := by have := hln.1; omega
 have hc64 : cast.length ≤ 64 := by have := hln.1; omega
 have HRB := qh (show ∀ i, i < bs.length → ∀ B, bs.getD i default = B → ∀ W, Below w.heap.size w W → (loadVar 36 ((a.getD default).add (i * 17))).run Tryz.prog W = .ok (.agg (Un.bdA B)) W from fun i hi B hB W hW => by
  obtain ⟨ad, rfl, _⟩ := hS.at hi
  have HI : (Tryz.prog.info? 36).map (·.size) = some (Un.bdA B).toList.length := by kernel_rfl
  exact Kit.run_load_sl (hS.kept hW nlr) hi 36 (Un.bdA B).toList _ rfl (Un.bdF_at bs i B hB) Tryz.underlying36 rfl HI)
 have HSL := qh hS
 have HCS := qh hC
 have HGG := qh hg
 have HAT := qh ha
 have HLNN := qh hln.1
 clear hr hk0 hk1 hk2 hk3 hns hg hln HRE HR HGD hE hr0 hr1 hS hC ha
 go_enter Tryz.func17, Tryz.ntmps17
 go_upto_region 1 with fail
 refine Kit.wp_name ?_
 intro W1 hW1
 have HW1 := qh (show Un.WH w x p W1 by
  rw [hW1]
  exact ⟨by exact Kit.gr, fun j => by simp [go_sem], by simp⟩)
 clear hW1
 have wk1 := HW1.out.wk
 go_wp2_with fail
 refine (HCK.out _ HW1.out.bel).mono ?_
 rintro _ W2 ⟨rfl, hb⟩
 have HW2 := qh (HW1.out.then hb)
 clear hb HW1 wk1
 go_wp2_with fail
 refine (HBD.out _ HW2.out.bel).mono ?_
 rintro _ W3 ⟨rfl, hb⟩
 have HW3 := qh (HW2.out.then hb)
 clear hb HW2
 have wk3 := HW3.out.wk
 go_wp2_with fail
 refine (HCA.out _ HW3.out.bel omg omg).mono ?_
 rintro _ W4 ⟨rfl, hb⟩
 have HW4 := qh (HW3.out.then hb)
 clear hb HW3 wk3
 have wk4 := HW4.out.wk
 go_wp2_with fail
 refine (HWI.out _).mono ?_
 rintro _ W5 ⟨rfl, hb⟩
 have HW5 := qh (HW4.out.then hb)
 clear hb HW4 wk4
 have wk5 := HW5.out.wk
 clear HCK HBD HCA HWI
 go_upto_region 14 with fail
 have HG0 := qh (show Kit.Gw W5 36 17 (.slice (some ⟨W5.heap.size, 0, none⟩) 0 0) 0 (Un.bdsV (Un.onL bs (cast.take 0))) (W5.alloc (.cells #[] 36)) from ⟨Uo.lit_row W5 [] _ W5.heap.size W5.heap.size 17 0 rfl nlr rfl (by unfold maxLen; omega), (Below.refl _ _).alloc nlr _⟩)
 go_wp2_with fail
 go_loopg [13, 14] cast.length (fun kx v13 v14 wr => ∃ i : Nat, v14 = .int .i64 i ∧ i ≤ cast.length ∧ cast.length - i ≤ kx ∧ Hid (Kit.Gw W5 36 17 v13 i (Un.bdsV (Un.onL bs (cast.take i))) wr))
 case atStart => exact ⟨0, rfl, by omega, by omega, HG0⟩
 case round =>
  obtain ⟨i, rfl, hi, hk, HG⟩ := hrel
  have HBR := qh (HW5.out.bel.trans (HG.out.bel.mono HW5.out.bel.size))
  by_cases hlt : i < cast.length
  ·have hltz : (i : Int) < (cast.length : Int) := by omega
   obtain ⟨pz, hpz⟩ : ∃ pz, cast.getD i 0 = pz := ⟨_, rfl⟩
   obtain ⟨ad, rfl, had, _⟩ := HCS.out.at hlt
   have ci := (HCS.out.kept HBR.out nlr).head hlt omg
   unfold Un.ic at ci
   rw [hpz, Nat.mul_one] at ci
   obtain ⟨h0, h1, _⟩ := Un.okCast_at bs.length cast [] HOC.out i hlt
   have hpe : cast[i] = pz := by rw [← hpz]; simp [List.getD, hlt]
   rw [hpe] at h0 h1
   obtain ⟨pn, rfl⟩ := Int.eq_ofNat_of_zero_le h0
   have hpn : pn < bs.length := by omega
   have e3n : (pn : Int) < (bs.length : Int) := by omega
   obtain ⟨B, hB⟩ : ∃ B, bs.getD pn default = B := ⟨_, rfl⟩
   obtain ⟨adb, rfl, hadb, _⟩ := HSL.out.at hpn
   have HRUN := qh (show (loadVar 36 (adb.add (pn * 17))).run Tryz.prog wr = .ok (.agg (Un.bdA B)) wr from HRB.out pn hpn B hB wr HBR.out)
   have HON := qh (show Un.bdsV (Un.onL bs (cast.take (i + 1))) = Un.bdsV (Un.onL bs (cast.take i)) ++ (Un.bdA B).toList by rw [Un.onL_snoc bs cast i hlt pn hpz, hB, Un.bdsV_snoc])
   have hfold : Array.foldl (fun cs x => cs.setIfInBounds x.snd x.fst) Un.bdZ (Un.bdA B).zipIdx 0 17 = Un.bdA B := by kernel_rfl
   unfold Un.bdZ at hfold
   have hs17 : (Un.bdA B).size = 17 := rfl
   clear hpz hB hpe h1
   go_wp2_with (first
    | ((with_reducible refine Kit.wpList_load_sl ?_ 36 (.tmp 63) ?_ (ad := adb) (k := 17) pn ?_ (Un.bdA B).toList HRUN.out ?_); rfl; rfl; rfl)
    | (at_builtin; refine Kit.wpList_app Un.elB _ rfl _ _ rfl _ _ _ (HG.out.alloc _) rfl omg ⟨wr.heap.size, 0, none⟩ 1 (Un.bdA B).toList rfl rfl (fun j u hu => Kit.lit_at _ (Un.bdA B).toList _ rfl j u hu) (fun u hu => by have := Un.bdA_one B; rw [Array.all_eq_true'] at this; exact this u (by simpa using hu)) ?_; intro v' w5 ho hg; have HG2 := qh ho; clear ho hg))
   go_roundg (cast.length - (i + 1))
   case measure => omega
   case rel => exact ⟨i + 1, by go_num, by omega, Nat.le_refl _, qh (by rw [HON.out]; exact HG2.out)⟩
  ·obtain rfl : i = cast.length := by omega
   obtain ⟨a13, k13, e13, hon⟩ := Kit.own_sl (f := Un.bdF (Un.onL bs cast)) HG.out.own (fun i j hi hj => by
    rw [List.take_length]
    exact Un.bdsV_at (Un.onL bs cast) i j (by simpa [Un.onL] using hi) hj)
   obtain ⟨gon, rfl⟩ : ∃ g, a13 = some ⟨g, 0, none⟩ := by
    rcases HG.out.own.2 with ⟨_, hn⟩ | ⟨g, cap, cur, e, _⟩
    ·omega
    ·rw [e13] at e
     injection e with e1 e2 e3
     exact ⟨g, e1⟩
   subst e13
   have HWR := qh (HW5.out.then HG.out.bel)
   have HON := qh hon
   clear hon HG0
   go_upto_region 18 with fail
   refine ru_ready_tail _ _ _ _ _ _ _ _ _ _ _ _ rfl _ _ _ _ _ _ _ _ _ _ _ _ _ _ _ _ _ _ _ _ _ _ _ _ _ _ _ _ _ _ _ _ _ _ _ _ _ _ _ _ _ _ _ _ _ _ _ _ _ _ _ _ _ _ _ _ _ _ _ _ _ _ _ _ _ _ _ _ _ _ _ _ _ _ _ _ _ _ _ _ _ _ _ _ _ _ _ _ _ _ _ _ _ _ _ _ _ _ _ _ _ _ _ _ _ _ _ _ _ _ _ _ _ _ _ _ _ _ _ _ _ _ _ _ _ _ _ _ _ _ _ _ _ _ _ _ _ _ _ _ _ _ _ _ _ _ _ _ _ _ _ _ _ x p w wr HAT.out HGG.out bs a c HSL.out h16 HBK.out cast ac cc HCS.out hc64 rn hrn bar HLNN.out HWR.out gon k13 HON.out (fun e w' => (∃ a2 c2 l, e = .returned (.tuple #[.slice a2 l.length c2, .int .i64 0]) ∧ Un.Ready x bs cast rn bar l ∧ Tp.Sl w' a2 l.length 1 (Un.ic (l.map fun q : Nat => (q : Int)))) ∧ Below w.heap.size w w') ?_ _ (by assumption)
   intro a2 c2 l W' h1 h2 h3
   exact ⟨⟨a2, c2, l, rfl, h1, h2⟩, h3⟩
end Go.Proofs.YtbhgogiaaljclaaGreatDoor
