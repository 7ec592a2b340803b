/- Plain: signs put in order one by one (references of layers 19 and 27); parts of a slice of signs. Walks: references of layers 15, 18, 26, 27: within, Suits, Turned, Flat, Form. Walks: the reference of layer 26: Check. Walks: the reference of layer 26: moved, After. Walks: the reference of layer 19: Before. Walks: the reference of layer 19: put. -/
import Derived.Test.YtedolbjgdedoaaaGreatDoorMok
import Derived.Test.YtedolbjgdedoaaaGreatDoorMrD
import Derived.Test.YtedolbjgdedoaaaGreatDoorMoH
import Derived.Test.YtedolbjgdedoaaaGreatDoorTrA
import Derived.Test.YtedolbjgdedoaaaGreatDoorKxd
set_option linter.unusedSimpArgs false
set_option linter.unusedVariables false
set_option maxRecDepth 100000
set_option maxHeartbeats 8000000
namespace Go.Proofs.YtedolbjgdedoaaaGreatDoor
open Go.RowKit Go.Shelf
namespace Mo
def befB (a b : Ex.Sg) : Bool := decide (a.fn * b.fd < b.fn * a.fd) || (a.fn * b.fd == b.fn * a.fd && decide (a.id < b.id))
theorem befB_iff (a b : Ex.Sg) : befB a b = true ↔ bef a b := by
 unfold befB bef
 simp only [Bool.or_eq_true, Bool.and_eq_true, decide_eq_true_eq, beq_iff_eq]
def posI (lt : Ex.Sg → Ex.Sg → Bool) (x : Ex.Sg) (L : List Ex.Sg) : Nat → Nat
 | 0 => 0
 | k + 1 => if lt x (L.getD k default) = true then posI lt x L k else k + 1
def putI (lt : Ex.Sg → Ex.Sg → Bool) (x : Ex.Sg) (L : List Ex.Sg) : List Ex.Sg := L.take (posI lt x L L.length) ++ x :: L.drop (posI lt x L L.length)
theorem posI_le (lt : Ex.Sg → Ex.Sg → Bool) (x : Ex.Sg) (L : List Ex.Sg) : ∀ k, posI lt x L k ≤ k
 | 0 => Nat.le_refl _
 | k + 1 => by
  unfold posI
  split
  ·exact Nat.le_succ_of_le (posI_le lt x L k)
  ·exact Nat.le_refl _
theorem posI_spec (lt : Ex.Sg → Ex.Sg → Bool) (x : Ex.Sg) (L : List Ex.Sg) : ∀ k, (∀ j, posI lt x L k ≤ j → j < k → lt x (L.getD j default) = true) ∧ (0 < posI lt x L k → lt x (L.getD (posI lt x L k - 1) default) = false)
 | 0 => ⟨fun j _ h => by omega, fun h => absurd h (by simp [posI])⟩
 | k + 1 => by
  obtain ⟨h1, h2⟩ := posI_spec lt x L k
  unfold posI
  split
  ·rename_i h
   refine ⟨fun j hj hk => ?_, h2⟩
   by_cases e : j = k
   ·subst e; exact h
   ·exact h1 j hj omg
  ·rename_i h
   exact ⟨fun j hj hk => by omega, fun _ => by simpa using h⟩
theorem putI_len (lt : Ex.Sg → Ex.Sg → Bool) (x : Ex.Sg) (L : List Ex.Sg) : (putI lt x L).length = L.length + 1 := by
 have := posI_le lt x L L.length
 unfold putI
 simp
 omega
theorem putI_perm (lt : Ex.Sg → Ex.Sg → Bool) (x : Ex.Sg) (L : List Ex.Sg) : (putI lt x L).Perm (L ++ [x]) := by
 unfold putI
 have h1 : (L.take (posI lt x L L.length) ++ x :: L.drop (posI lt x L L.length)).Perm (x :: (L.take (posI lt x L L.length) ++ L.drop (posI lt x L L.length))) := List.perm_middle
 rw [List.take_append_drop] at h1
 exact h1.trans (List.perm_append_singleton x L).symm
theorem putI_srt {lt : Ex.Sg → Ex.Sg → Bool} {R : Ex.Sg → Ex.Sg → Prop} {x : Ex.Sg} {L : List Ex.Sg} (hs : L.Pairwise R) (h1 : ∀ y ∈ L, lt x y = true → R x y) (h0 : ∀ y ∈ L, lt x y = false → R y x) (ht : ∀ a ∈ L, ∀ b ∈ L, R a b → R b x → R a x) : (putI lt x L).Pairwise R := by
 obtain ⟨g1, g2⟩ := posI_spec lt x L L.length
 have hle := posI_le lt x L L.length
 unfold putI
 obtain ⟨k, hk⟩ : ∃ k, posI lt x L L.length = k := ⟨_, rfl⟩
 rw [hk] at g1 g2 hle ⊢
 have hd : L = L.take k ++ L.drop k := (List.take_append_drop k L).symm
 have hs' := hs
 rw [hd, List.pairwise_append] at hs'
 obtain ⟨s1, s2, s3⟩ := hs'
 rw [List.pairwise_append]
 refine ⟨s1, List.pairwise_cons.2 ⟨fun y hy => ?_, s2⟩, fun a ha b hb => ?_⟩
 ·obtain ⟨j, hj, rfl⟩ := List.mem_iff_getElem.1 hy
  rw [List.length_drop] at hj
  have := g1 (k + j) omg omg
  rw [List.getElem_drop]
  rw [List.getD_eq_getElem?_getD, List.getElem?_eq_getElem omg, Option.getD_some] at this
  exact h1 _ (List.getElem_mem _) this
 ·have hak : R a x := by
   have hk0 : 0 < k := by
    rcases Nat.eq_zero_or_pos k with h | h
    ·subst h; simp at ha
    ·exact h
   have hl := g2 hk0
   rw [List.getD_eq_getElem?_getD, List.getElem?_eq_getElem omg, Option.getD_some] at hl
   have hR := h0 _ (List.getElem_mem (show k - 1 < L.length by omega)) hl
   obtain ⟨j, hj, rfl⟩ := List.mem_iff_getElem.1 ha
   rw [List.length_take] at hj
   rw [List.getElem_take]
   by_cases e : j = k - 1
   ·subst e; exact hR
   ·exact ht _ (List.getElem_mem _) _ (List.getElem_mem _) (List.pairwise_iff_getElem.1 hs j (k - 1) omg omg omg) hR
  rcases List.mem_cons.1 hb with rfl | hb
  ·exact hak
  ·exact s3 a ha b hb
theorem bef_trans {a b c : Ex.Sg} (ha : 0 < a.fd) (hb : 0 < b.fd) (hc : 0 < c.fd) (h : bef a b) (k : bef b c) : bef a c := by
 unfold bef at *
 have h1 : a.fn * b.fd ≤ b.fn * a.fd := by omega
 have k1 : b.fn * c.fd ≤ c.fn * b.fd := by omega
 have hle : a.fn * c.fd ≤ c.fn * a.fd := rat_trans ha hb hc h1 k1
 by_cases e : a.fn * c.fd = c.fn * a.fd
 ·right
  refine ⟨e, ?_⟩
  have e1 : c.fn * a.fd ≤ a.fn * c.fd := by omega
  have g2 : b.fn * a.fd ≤ a.fn * b.fd := rat_trans hb hc ha k1 e1
  have g3 : c.fn * b.fd ≤ b.fn * c.fd := rat_trans hc ha hb e1 h1
  omega
 ·left; omega
structure SgP (x : Ex.Wk) (role bar : Int) (i : Nat) (L : List Ex.Sg) : Prop where
 perm : L.Perm ((x.sg.take i).filter (mine bar role))
 srt : L.Pairwise bef
theorem SgP.zero (x : Ex.Wk) (role bar : Int) : SgP x role bar 0 [] := ⟨by simp, List.Pairwise.nil⟩
theorem SgP.skip {x : Ex.Wk} {role bar : Int} {i : Nat} {L : List Ex.Sg} (h : SgP x role bar i L) (hi : i < x.sg.length) (hm : mine bar role (x.sg.getD i default) = false) : SgP x role bar (i + 1) L := by
 refine ⟨?_, h.srt⟩
 rw [List.take_succ_eq_append_getElem hi, List.filter_append]
 have e : x.sg.getD i default = x.sg[i] := by simp [List.getD, hi]
 rw [e] at hm
 rw [List.filter_cons_of_neg (by rw [hm]; decide), List.filter_nil, List.append_nil]
 exact h.perm
theorem SgP.mem {x : Ex.Wk} {role bar : Int} {i : Nat} {L : List Ex.Sg} (h : SgP x role bar i L) {k : Ex.Sg} (hk : k ∈ L) : k ∈ x.sg := List.mem_of_mem_take (List.mem_filter.1 (h.perm.mem_iff.1 hk)).1
theorem SgP.len {x : Ex.Wk} {role bar : Int} {i : Nat} {L : List Ex.Sg} (h : SgP x role bar i L) : L.length ≤ x.sg.length := by
 rw [h.perm.length_eq]
 exact Nat.le_trans (List.length_filter_le _ _) (by simp; omega)
theorem SgP.put {x : Ex.Wk} {role bar : Int} {i : Nat} {L : List Ex.Sg} (h : SgP x role bar i L) (hg : Ex.Good x) (hi : i < x.sg.length) (y : Ex.Sg) (hy : x.sg.getD i default = y) (hm : mine bar role y = true) : SgP x role bar (i + 1) (putI befB y L) := by
 have e : x.sg[i] = y := by rw [← hy]; simp [List.getD, hi]
 have hfd : ∀ k ∈ x.sg, 0 < k.fd := fun k hk => by have := ((Ra.ok_iff _ _).1 (from_ok (hg.oks k hk))).1; omega
 have hyg : y ∈ x.sg := by rw [← e]; exact List.getElem_mem _
 have hid : ∀ k ∈ L, k.id < y.id := fun k hk => by
  have hk2 := (List.mem_filter.1 (h.perm.mem_iff.1 hk)).1
  obtain ⟨j, hj, rfl⟩ := List.mem_iff_getElem.1 hk2
  rw [List.length_take] at hj
  rw [List.getElem_take, ← e]
  exact List.pairwise_iff_getElem.1 hg.rise j i omg hi omg
 refine ⟨?_, ?_⟩
 ·rw [List.take_succ_eq_append_getElem hi, List.filter_append, e]
  simp only [List.filter_cons, hm, List.filter_nil, if_true]
  exact (putI_perm _ _ _).trans (h.perm.append_right _)
 ·refine putI_srt h.srt (fun k hk hb => (befB_iff _ _).1 hb) (fun k hk hb => ?_) (fun a ha b hb hab hbx => bef_trans (hfd a (h.mem ha)) (hfd b (h.mem hb)) (hfd y hyg) hab hbx)
  have hn : ¬ bef y k := fun q => by rw [(befB_iff _ _).2 q] at hb; cases hb
  have := hid k hk
  unfold bef at hn ⊢
  omega
theorem SgP.done {x : Ex.Wk} {role bar : Int} {L : List Ex.Sg} (h : SgP x role bar x.sg.length L) : Of x role bar L := by
 refine ⟨?_, h.srt⟩
 have := h.perm
 rwa [List.take_length] at this
def ltI (a b : Ex.Sg) : Bool := decide (a.id < b.id)
structure IdP (l : List Ex.Sg) (i : Nat) (L : List Ex.Sg) : Prop where
 perm : L.Perm (l.take i)
 srt : L.Pairwise fun a b => a.id < b.id
theorem IdP.zero (l : List Ex.Sg) : IdP l 0 [] := ⟨by simp, List.Pairwise.nil⟩
theorem IdP.len {l L : List Ex.Sg} {i : Nat} (h : IdP l i L) (hi : i ≤ l.length) : L.length = i := by rw [h.perm.length_eq]; simp; omega
theorem IdP.put {l L : List Ex.Sg} {i : Nat} (h : IdP l i L) (hn : (l.map (·.id)).Nodup) (hi : i < l.length) (y : Ex.Sg) (hy : l.getD i default = y) : IdP l (i + 1) (putI ltI y L) := by
 have e : l[i] = y := by rw [← hy]; simp [List.getD, hi]
 have hid : ∀ k ∈ L, k.id ≠ y.id := fun k hk he => by
  have hk2 := h.perm.mem_iff.1 hk
  obtain ⟨j, hj, rfl⟩ := List.mem_iff_getElem.1 hk2
  rw [List.length_take] at hj
  rw [List.getElem_take, ← e] at he
  have := List.pairwise_iff_getElem.1 (List.nodup_iff_pairwise_ne.1 hn) j i (by simp; omega) (by simp; omega) omg
  simp at this
  exact this he
 refine ⟨?_, ?_⟩
 ·rw [List.take_succ_eq_append_getElem hi, e]
  exact (putI_perm _ _ _).trans (h.perm.append_right _)
 ·refine putI_srt h.srt (fun k hk hb => by simpa [ltI] using hb) (fun k hk hb => ?_) (fun a _ b _ hab hbx => Int.lt_trans hab hbx)
  have := hid k hk
  have h2 : ¬ y.id < k.id := by simpa [ltI] using hb
  show k.id < y.id
  omega
theorem IdP.done {l L : List Ex.Sg} (h : IdP l l.length L) {m : List Ex.Sg} (hm : m.Pairwise fun a b => a.id < b.id) (hp : l.Perm m) : L = m := by
 have h1 := h.perm
 rw [List.take_length] at h1
 exact List.Perm.eq_of_pairwise (fun a b _ _ h1 h2 => absurd (Int.lt_trans h1 h2) (Int.lt_irrefl _)) h.srt hm (h1.trans hp)
theorem of_nodup {x : Ex.Wk} (hg : Ex.Good x) {role bar : Int} {l : List Ex.Sg} (h : Of x role bar l) : (l.map (·.id)).Nodup := by
 have h1 : ((ofI x role bar).map (·.id)).Nodup := by
  rw [List.nodup_iff_pairwise_ne, List.pairwise_map]
  exact (ofI_rise hg role bar).imp fun h => by omega
 exact (h.perm.map _).nodup_iff.2 h1
theorem sg_split (L : List Ex.Sg) (k : Nat) : (L.take k).flatMap sgC ++ (L.drop k).flatMap sgC = L.flatMap sgC := by rw [← List.flatMap_append, List.take_append_drop]
theorem sg_cell {w : World} {ad : Addr} {L : List Ex.Sg} (h : Tp.Sl w (some ad) L.length 14 (Ex.sgc L)) (j : Nat) (u : Value) (hu : (L.flatMap sgC)[j]? = some u) : w.cell? (ad.add j) = some u := by
 have h0 : L.length ≠ 0 := fun e => by
  have hj := (List.getElem?_eq_some_iff.1 hu).1
  rw [sgs_len, e] at hj
  omega
 obtain ⟨ad2, e, hc⟩ := Kit.sl_cells h omg (sgs_len L) (sg_get L) h0
 cases e
 exact hc j u hu
theorem sg_head {w : World} {ad : Addr} {L : List Ex.Sg} (h : Tp.Sl w (some ad) L.length 14 (Ex.sgc L)) (k : Nat) (j : Nat) (u : Value) (hu : ((L.take k).flatMap sgC)[j]? = some u) : w.cell? (ad.add j) = some u := by
 refine sg_cell h j u ?_
 rw [← sg_split L k, List.getElem?_append_left (List.getElem?_eq_some_iff.1 hu).1]
 exact hu
theorem sg_tail {w : World} {ad : Addr} {L : List Ex.Sg} (h : Tp.Sl w (some ad) L.length 14 (Ex.sgc L)) (k c : Nat) (hk : k ≤ L.length) (hc : L.length ≤ c) (a : Addr) (ha : (if c = k then some ad else some (ad.add (k * 14))) = some a) (j : Nat) (u : Value) (hu : ((L.drop k).flatMap sgC)[j]? = some u) : w.cell? (a.add j) = some u := by
 have hj := (List.getElem?_eq_some_iff.1 hu).1
 rw [sgs_len, List.length_drop] at hj
 rw [if_neg omg] at ha
 cases ha
 have e : (ad.add (k * 14)).add j = ad.add (k * 14 + j) := by
  unfold Addr.add
  split <;> split <;> (try split) <;> simp_all <;> omega
 rw [e]
 refine sg_cell h _ u ?_
 rw [← sg_split L k, List.getElem?_append_right (by rw [sgs_len, List.length_take]; omega), sgs_len, List.length_take, Nat.min_eq_left hk, Nat.add_sub_cancel_left]
 exact hu
theorem sg_one (L : List Ex.Sg) : ∀ u ∈ L.flatMap sgC, u.oneCell' = true := fun u hu => by
 obtain ⟨s, _, h⟩ := List.mem_flatMap.1 hu
 exact sgC_one s u h
end Mo
end Go.Proofs.YtedolbjgdedoaaaGreatDoor

namespace Go.Proofs.YtedolbjgdedoaaaGreatDoor
open Go.RowKit Go.Shelf
attribute [local go_sem] Oper.semAt_some
theorem rp_in18 (n lo hi : Int) (w : World) : Calls Tryz.prog 162 #[.int .i64 n, .int .i64 lo, .int .i64 hi] w fun e w' => e = .returned (.bool (Tp.inb n lo hi)) ∧ w' = w := by
 unfold Tp.inb
 rcases d1 : decide (lo ≤ n) with _ | _ <;> rcases d2 : decide (n ≤ hi) with _ | _
 all_goals
  go_enter Tryz.func162, Tryz.ntmps162
  go_wp2_with fail
  go_ret
  exact ⟨rfl, rfl⟩
theorem rp_in26 (n lo hi : Int) (w : World) : Calls Tryz.prog 76 #[.int .i64 n, .int .i64 lo, .int .i64 hi] w fun e w' => e = .returned (.bool (Tp.inb n lo hi)) ∧ w' = w := by
 unfold Tp.inb
 rcases d1 : decide (lo ≤ n) with _ | _ <;> rcases d2 : decide (n ≤ hi) with _ | _
 all_goals
  go_enter Tryz.func76, Tryz.ntmps76
  go_wp2_with fail
  go_ret
  exact ⟨rfl, rfl⟩
theorem rp_in27 (n lo hi : Int) (w : World) : Calls Tryz.prog 124 #[.int .i64 n, .int .i64 lo, .int .i64 hi] w fun e w' => e = .returned (.bool (Tp.inb n lo hi)) ∧ w' = w := by
 unfold Tp.inb
 rcases d1 : decide (lo ≤ n) with _ | _ <;> rcases d2 : decide (n ≤ hi) with _ | _
 all_goals
  go_enter Tryz.func124, Tryz.ntmps124
  go_wp2_with fail
  go_ret
  exact ⟨rfl, rfl⟩
theorem rp_suits (k : Ex.Sg) (w : World) (hk : Mo.Fit k) : Calls Tryz.prog 125 #[.int .i64 k.mark, .int .i64 k.kind, .int .i64 k.side, .int .i64 k.dir, .int .i64 k.level, .int .i64 k.size] w fun e w' => e = .returned (.bool true) ∧ w' = w := by
 obtain ⟨id, role, bar, mark, kind, side, dir, level, size, wth, fn, fd, tn, td⟩ := k
 obtain ⟨h1, h2, h3, h4, h5, h6⟩ := hk
 dsimp only at h1 h2 h3 h4 h5 h6 ⊢
 have HI := qh (fun n lo hi W => (fun h => by have g := rp_in18 n lo hi W; rw [(Tp.inb_iff _ _ _).2 h] at g; exact g : lo ≤ n ∧ n ≤ hi → Calls Tryz.prog 162 #[.int .i64 n, .int .i64 lo, .int .i64 hi] W fun e w' => e = .returned (.bool true) ∧ w' = W))
 have HM := qh (fun W => HI.out mark 1 3 W h2)
 clear h2
 obtain rfl | rfl | rfl | rfl | rfl | rfl | rfl | rfl | rfl : kind = 1 ∨ kind = 2 ∨ kind = 3 ∨ kind = 4 ∨ kind = 5 ∨ kind = 6 ∨ kind = 7 ∨ kind = 8 ∨ kind = 9 := by omega
 all_goals
  clear h1
  simp only [show ∀ a b : Int, (a = b) = (a = b) from fun _ _ => rfl, Int.reduceEq, or_false, false_or, or_true, true_or, if_true, if_false, or_self, reduceIte] at h3 h4 h5 h6
  go_enter Tryz.func125, Tryz.ntmps125
  go_wp2_with (first | (with_reducible refine (HM.out _).mono ?_; rintro _ w' ⟨rfl, hw⟩; subst w') | (go_at_call 162; refine (HI.out _ _ _ _ (by assumption)).mono ?_; rintro _ w' ⟨rfl, hw⟩; subst w'))
  go_ret
  exact ⟨rfl, rfl⟩
theorem rp_flat (d : Int) (w : World) (hd : 1 ≤ d ∧ d ≤ 8) : Calls Tryz.prog 163 #[.int .i64 d] w fun e w' => e = .returned (.tuple #[.int .i64 (Mo.fx d), .int .i64 (Mo.fy d), .int .i64 0]) ∧ w' = w := by
 obtain rfl | rfl | rfl | rfl | rfl | rfl | rfl | rfl : d = 1 ∨ d = 2 ∨ d = 3 ∨ d = 4 ∨ d = 5 ∨ d = 6 ∨ d = 7 ∨ d = 8 := by omega
 all_goals
  clear hd
  go_enter Tryz.func163, Tryz.ntmps163
  go_wp2
  refine bodyPost_ret (by simp [results, Tryz.results163, go_sem]; rfl) rfl ?_
  exact ⟨rfl, rfl⟩
theorem rp_turned (d f : Int) (w : World) (hd : 0 ≤ d ∧ d ≤ 8) (hf : 0 ≤ f ∧ f ≤ 7) : Calls Tryz.prog 130 #[.int .i64 d, .int .i64 f] w fun e w' => e = .returned (.tuple #[.int .i64 (Mo.turned d f), .int .i64 0]) ∧ w' = w := by
 obtain ⟨T, hT⟩ : ∃ T, Mo.turned d f = T := ⟨_, rfl⟩
 rw [hT]
 have HT := qh hT
 have c1 : decide (d < 0) = false := decide_eq_false omg
 have c2 : decide (8 < d) = false := decide_eq_false omg
 have c3 : decide (f < 0) = false := decide_eq_false omg
 have c4 : decide (7 < f) = false := decide_eq_false omg
 by_cases h0 : d = 0
 ·subst h0
  have e : T = 0 := by rw [← hT]; rfl
  subst e
  clear hT HT hd hf
  go_enter Tryz.func130, Tryz.ntmps130
  go_wp2
  go_ret2
  exact ⟨rfl, rfl⟩
 ·have z0 : (d == 0) = false := by simpa using h0
  have e1 : IntKind.i64.wrap (d - 1) = d - 1 := by rw [IntKind.wrap_i64] <;> omega
  have e2 : IntKind.i64.wrap (d - 1 + f) = d - 1 + f := by rw [IntKind.wrap_i64] <;> omega
  have e3 : IntKind.i64.wrap ((d - 1 + f).tmod 8) = T - 1 := by
   rw [Int.tmod_eq_emod_of_nonneg omg, IntKind.wrap_i64] <;> (unfold Mo.turned at hT; rw [if_neg h0] at hT; split at hT <;> omega)
  have e5 : (d - 1 + f).tmod 8 = T - 1 := by
   rw [Int.tmod_eq_emod_of_nonneg omg]
   unfold Mo.turned at hT
   rw [if_neg h0] at hT
   split at hT <;> omega
  have hTb : 1 ≤ T ∧ T ≤ 8 := by unfold Mo.turned at hT; rw [if_neg h0] at hT; split at hT <;> omega
  have e4 : IntKind.i64.wrap (T - 1 + 1) = T := by rw [IntKind.wrap_i64] <;> omega
  have e6 : IntKind.i64.wrap T = T := by rw [IntKind.wrap_i64] <;> omega
  clear hT HT hd hf h0 hTb
  go_enter Tryz.func130, Tryz.ntmps130
  go_wp2
  go_ret2
  exact ⟨rfl, rfl⟩
theorem rp_form26 (k : Ex.Sg) (r : Uo.Re) (w : World) : Calls Tryz.prog 126 #[.agg (Mo.sgC k).toArray, .agg (Mo.reC r).toArray] w fun e w' => e = .returned (.bool (Mo.form k r)) ∧ Below w.heap.size w w' := by
 obtain ⟨F, hF⟩ : ∃ F, Mo.form k r = F := ⟨_, rfl⟩
 rw [hF]
 have HF := qh hF
 clear hF
 obtain ⟨id, role, bar, mark, kind, side, dir, level, size, wth, fn, fd, tn, td⟩ := k
 obtain ⟨z0, z1, z2, z3⟩ := r
 refine (show Calls Tryz.prog 126 #[.agg #[.int .i64 id, .int .i64 role, .int .i64 bar, .int .i64 mark, .int .i64 kind, .int .i64 side, .int .i64 dir, .int .i64 level, .int .i64 size, .int .i64 wth, .int .i64 fn, .int .i64 fd, .int .i64 tn, .int .i64 td], .agg #[.int .i64 z0, .int .i64 z1, .int .i64 z2, .bool z3]] w _ from ?_)
 obtain ⟨p1, hp1⟩ : ∃ p, Tp.inb z1 0 8 = p := ⟨_, rfl⟩
 obtain ⟨p2, hp2⟩ : ∃ p, Tp.inb z2 1 3 = p := ⟨_, rfl⟩
 have H1 := qh (fun W => hp1 ▸ rp_in26 z1 0 8 W)
 have H2 := qh (fun W => hp2 ▸ rp_in26 z2 1 3 W)
 have HG := qh (show ((z0 == id) && (if z3 = true then z1 == 0 && z2 == 0 else if kind = 3 ∨ kind = 4 ∨ kind = 5 then p1 && p2 else if kind = 9 then z1 == 0 && p2 else z1 == 0 && z2 == 0)) = F by
  rw [← hp1, ← hp2]; exact HF.out)
 clear hp1 hp2 HF
 rcases a0 : (z0 == id) with _ | _
 case' true =>
  rcases z3 with _ | _
  case' false =>
   rcases Classical.em (kind = 3) with k3 | k3
   case' inr =>
    rcases Classical.em (kind = 4) with k4 | k4
    case' inr =>
     rcases Classical.em (kind = 5) with k5 | k5
     case' inr => rcases Classical.em (kind = 9) with k9 | k9
 case' false => have HN := qh (show (z0 != id) = true by simp [bne, a0])
 case false =>
  have n0 : (z0 != id) = true := HN.out
  have hr : F = false := by rw [← HG.out, a0]; rfl
  subst hr
  clear HG
  go_enter Tryz.func126, Tryz.ntmps126
  go_wp2_with fail
  go_ret
  exact ⟨rfl, by exact Kit.gr⟩
 all_goals have n0 : (z0 != id) = false := by simp [bne, a0]
 case true.true =>
  rcases b1 : (z1 == 0) with _ | _ <;> rcases b2 : (z2 == 0) with _ | _
  all_goals
   have hr := HG.out
   rw [a0, b1, b2, if_pos rfl] at hr
   subst hr
   clear HG
   go_enter Tryz.func126, Tryz.ntmps126
   go_wp2_with fail
   go_ret
   exact ⟨rfl, by exact Kit.gr⟩
 case true.false.inr.inr.inl | true.false.inr.inl | true.false.inl =>
  have hr : F = (p1 && p2) := by rw [← HG.out, a0, if_neg (by decide), if_pos omg]; rfl
  clear HG
  subst kind
  rcases p1 with _ | _ <;> rcases p2 with _ | _
  all_goals
   subst hr
   go_enter Tryz.func126, Tryz.ntmps126
   go_wp2_with (first | (with_reducible refine (H1.out _).mono ?_; rintro _ w' ⟨rfl, hw⟩; subst w') | (with_reducible refine (H2.out _).mono ?_; rintro _ w' ⟨rfl, hw⟩; subst w'))
   go_ret
   exact ⟨rfl, by exact Kit.gr⟩
 case true.false.inr.inr.inr.inl =>
  subst kind
  rcases b1 : (z1 == 0) with _ | _ <;> rcases p2 with _ | _
  all_goals
   have hr := HG.out
   rw [a0, b1, if_neg (by decide), if_neg (by decide), if_pos rfl] at hr
   subst hr
   clear HG
   go_enter Tryz.func126, Tryz.ntmps126
   go_wp2_with (with_reducible refine (H2.out _).mono ?_; rintro _ w' ⟨rfl, hw⟩; subst w')
   go_ret
   exact ⟨rfl, by exact Kit.gr⟩
 case true.false.inr.inr.inr.inr =>
  have c3 : (kind == 3) = false := by simpa using k3
  have c4 : (kind == 4) = false := by simpa using k4
  have c5 : (kind == 5) = false := by simpa using k5
  have c9 : (kind == 9) = false := by simpa using k9
  rcases b1 : (z1 == 0) with _ | _ <;> rcases b2 : (z2 == 0) with _ | _
  all_goals
   have hr := HG.out
   rw [a0, b1, b2, if_neg (by decide), if_neg omg, if_neg k9] at hr
   subst hr
   clear HG k3 k4 k5 k9
   go_enter Tryz.func126, Tryz.ntmps126
   go_wp2_with fail
   go_ret
   exact ⟨rfl, by exact Kit.gr⟩
theorem rp_form27 (k : Ex.Sg) (r : Uo.Re) (w : World) : Calls Tryz.prog 78 #[.agg (Mo.sgC k).toArray, .agg (Mo.reC r).toArray] w fun e w' => e = .returned (.bool (Mo.form k r)) ∧ Below w.heap.size w w' := by
 obtain ⟨F, hF⟩ : ∃ F, Mo.form k r = F := ⟨_, rfl⟩
 rw [hF]
 have HF := qh hF
 clear hF
 obtain ⟨id, role, bar, mark, kind, side, dir, level, size, wth, fn, fd, tn, td⟩ := k
 obtain ⟨z0, z1, z2, z3⟩ := r
 refine (show Calls Tryz.prog 78 #[.agg #[.int .i64 id, .int .i64 role, .int .i64 bar, .int .i64 mark, .int .i64 kind, .int .i64 side, .int .i64 dir, .int .i64 level, .int .i64 size, .int .i64 wth, .int .i64 fn, .int .i64 fd, .int .i64 tn, .int .i64 td], .agg #[.int .i64 z0, .int .i64 z1, .int .i64 z2, .bool z3]] w _ from ?_)
 obtain ⟨p1, hp1⟩ : ∃ p, Tp.inb z1 0 8 = p := ⟨_, rfl⟩
 obtain ⟨p2, hp2⟩ : ∃ p, Tp.inb z2 1 3 = p := ⟨_, rfl⟩
 have H1 := qh (fun W => hp1 ▸ rp_in27 z1 0 8 W)
 have H2 := qh (fun W => hp2 ▸ rp_in27 z2 1 3 W)
 have HG := qh (show ((z0 == id) && (if z3 = true then z1 == 0 && z2 == 0 else if kind = 3 ∨ kind = 4 ∨ kind = 5 then p1 && p2 else if kind = 9 then z1 == 0 && p2 else z1 == 0 && z2 == 0)) = F by
  rw [← hp1, ← hp2]; exact HF.out)
 clear hp1 hp2 HF
 rcases a0 : (z0 == id) with _ | _
 case' true =>
  rcases z3 with _ | _
  case' false =>
   rcases Classical.em (kind = 3) with k3 | k3
   case' inr =>
    rcases Classical.em (kind = 4) with k4 | k4
    case' inr =>
     rcases Classical.em (kind = 5) with k5 | k5
     case' inr => rcases Classical.em (kind = 9) with k9 | k9
 case' false => have HN := qh (show (z0 != id) = true by simp [bne, a0])
 case false =>
  have n0 : (z0 != id) = true := HN.out
  have hr : F = false := by rw [← HG.out, a0]; rfl
  subst hr
  clear HG
  go_enter Tryz.func78, Tryz.ntmps78
  go_wp2_with fail
  go_ret
  exact ⟨rfl, by exact Kit.gr⟩
 all_goals have n0 : (z0 != id) = false := by simp [bne, a0]
 case true.true =>
  rcases b1 : (z1 == 0) with _ | _ <;> rcases b2 : (z2 == 0) with _ | _
  all_goals
   have hr := HG.out
   rw [a0, b1, b2, if_pos rfl] at hr
   subst hr
   clear HG
   go_enter Tryz.func78, Tryz.ntmps78
   go_wp2_with fail
   go_ret
   exact ⟨rfl, by exact Kit.gr⟩
 case true.false.inr.inr.inl | true.false.inr.inl | true.false.inl =>
  have hr : F = (p1 && p2) := by rw [← HG.out, a0, if_neg (by decide), if_pos omg]; rfl
  clear HG
  subst kind
  rcases p1 with _ | _ <;> rcases p2 with _ | _
  all_goals
   subst hr
   go_enter Tryz.func78, Tryz.ntmps78
   go_wp2_with (first | (with_reducible refine (H1.out _).mono ?_; rintro _ w' ⟨rfl, hw⟩; subst w') | (with_reducible refine (H2.out _).mono ?_; rintro _ w' ⟨rfl, hw⟩; subst w'))
   go_ret
   exact ⟨rfl, by exact Kit.gr⟩
 case true.false.inr.inr.inr.inl =>
  subst kind
  rcases b1 : (z1 == 0) with _ | _ <;> rcases p2 with _ | _
  all_goals
   have hr := HG.out
   rw [a0, b1, if_neg (by decide), if_neg (by decide), if_pos rfl] at hr
   subst hr
   clear HG
   go_enter Tryz.func78, Tryz.ntmps78
   go_wp2_with (with_reducible refine (H2.out _).mono ?_; rintro _ w' ⟨rfl, hw⟩; subst w')
   go_ret
   exact ⟨rfl, by exact Kit.gr⟩
 case true.false.inr.inr.inr.inr =>
  have c3 : (kind == 3) = false := by simpa using k3
  have c4 : (kind == 4) = false := by simpa using k4
  have c5 : (kind == 5) = false := by simpa using k5
  have c9 : (kind == 9) = false := by simpa using k9
  rcases b1 : (z1 == 0) with _ | _ <;> rcases b2 : (z2 == 0) with _ | _
  all_goals
   have hr := HG.out
   rw [a0, b1, b2, if_neg (by decide), if_neg omg, if_neg k9] at hr
   subst hr
   clear HG k3 k4 k5 k9
   go_enter Tryz.func78, Tryz.ntmps78
   go_wp2_with fail
   go_ret
   exact ⟨rfl, by exact Kit.gr⟩
end Go.Proofs.YtedolbjgdedoaaaGreatDoor

namespace Go.Proofs.YtedolbjgdedoaaaGreatDoor
open Go.RowKit Go.Shelf
attribute [local go_sem] Oper.semAt_some
theorem rp_check26 (s : Mo.St) (w : World) : Calls Tryz.prog 36 #[.agg (Mo.stA s)] w fun e w' => e = .returned (.int .i64 (if Mo.ok s = true then 0 else 260)) ∧ Below w.heap.size w w' := by
 obtain ⟨er, her⟩ : ∃ er : Int, (if Mo.ok s = true then 0 else 260) = er := ⟨_, rfl⟩
 rw [her]
 rw [Mo.ok_list] at her
 have HI := qh (fun n lo hi W => rp_in26 n lo hi W)
 obtain ⟨b1, hb1⟩ : ∃ b, Tp.inb s.x (-1073741824) 1073741824 = b := ⟨_, rfl⟩
 obtain ⟨b2, hb2⟩ : ∃ b, Tp.inb s.y (-1073741824) 1073741824 = b := ⟨_, rfl⟩
 obtain ⟨b3, hb3⟩ : ∃ b, Tp.inb s.f 0 7 = b := ⟨_, rfl⟩
 have HI1 := qh (fun W => hb1 ▸ HI.out s.x (-1073741824) 1073741824 W)
 have HI2 := qh (fun W => hb2 ▸ HI.out s.y (-1073741824) 1073741824 W)
 have HI3 := qh (fun W => hb3 ▸ HI.out s.f 0 7 W)
 rw [hb1, hb2, hb3] at her
 have HER := qh her
 clear hb1 hb2 hb3 her
 rcases b1 with _ | _
 case' true =>
  rcases b2 with _ | _
  case' true => rcases b3 with _ | _
 case true.true.false | true.false | false =>
  have HE := qh (show er = 260 by rw [← HER.out]; rfl)
  go_enter Tryz.func36, Tryz.ntmps36
  go_wp2_with (first | (with_reducible refine (HI1.out _).mono ?_; rintro _ w' ⟨rfl, hw⟩; subst w') | (with_reducible refine (HI2.out _).mono ?_; rintro _ w' ⟨rfl, hw⟩; subst w') | (with_reducible refine (HI3.out _).mono ?_; rintro _ w' ⟨rfl, hw⟩; subst w'))
  go_ret
  exact ⟨by rw [HE.out]; rfl, by exact Kit.gr⟩
 replace HER := qh (show (if ((Mo.limL s).all fun p => Mo.okL p.1 p.2) = true then (0 : Int) else 260) = er from HER.out)
 go_enter Tryz.func36, Tryz.ntmps36
 go_upto_region 3 with (first | (with_reducible refine (HI1.out _).mono ?_; rintro _ w' ⟨rfl, hw⟩; subst w') | (with_reducible refine (HI2.out _).mono ?_; rintro _ w' ⟨rfl, hw⟩; subst w') | (with_reducible refine (HI3.out _).mono ?_; rintro _ w' ⟨rfl, hw⟩; subst w'))
 refine Kit.wp_name ?_
 intro W1 hW1
 have HB1 := qh (show Below w.heap.size w W1 by rw [hW1]; exact (Below.refl _ _).alloc nlr _)
 have HS1 := qh (show Kit.Bk W1 w.heap.size 37 (Mo.stA s) by rw [hW1]; exact Kit.Bk.new _ _ _)
 clear hW1 HI1 HI2 HI3
 go_wp2_with fail
 go_loopg [3] 5 (fun kx v3 wr => ∃ i : Nat, v3 = .int .i64 i ∧ i ≤ 5 ∧ 5 - i ≤ kx ∧ Hid (((Mo.limL s).take i).all (fun p => Mo.okL p.1 p.2) = true) ∧ Hid (Below w.heap.size w wr) ∧ Hid (Kit.Bk wr w.heap.size 37 (Mo.stA s)))
 case atStart => exact ⟨0, rfl, by omega, by omega, qh rfl, HB1, HS1⟩
 case round =>
  clear HB1 HS1
  obtain ⟨i, rfl, hi, hk, HA, HB, HS⟩ := hrel
  by_cases hlt : i < 5
  ·have hltz : (i : Int) < 5 := by omega
   obtain ⟨d, hd⟩ : ∃ d, [s.d0, s.d1, s.d2, s.d3, s.d4].getD i 0 = d := ⟨_, rfl⟩
   obtain ⟨v, hv⟩ : ∃ d, [s.v0, s.v1, s.v2, s.v3, s.v4].getD i 0 = d := ⟨_, rfl⟩
   have cd : wr.cell? ⟨w.heap.size, 3 + i * 2, none⟩ = some (.int .i64 d) := by
    rw [HS.out.cell, ← hd]
    obtain rfl | rfl | rfl | rfl | rfl : i = 0 ∨ i = 1 ∨ i = 2 ∨ i = 3 ∨ i = 4 := by omega
    all_goals rfl
   have cv : wr.cell? ⟨w.heap.size, 3 + i * 2 + 1, none⟩ = some (.int .i64 v) := by
    rw [HS.out.cell, ← hv]
    obtain rfl | rfl | rfl | rfl | rfl : i = 0 ∨ i = 1 ∨ i = 2 ∨ i = 3 ∨ i = 4 := by omega
    all_goals rfl
   have HST := qh (show ((Mo.limL s).take (i + 1)).all (fun p => Mo.okL p.1 p.2) = Mo.okL d v by
    have e : ((Mo.limL s).take (i + 1)).all (fun p => Mo.okL p.1 p.2) = (((Mo.limL s).take i).all (fun p => Mo.okL p.1 p.2) && Mo.okL d v) := by
     rw [← hd, ← hv]
     obtain rfl | rfl | rfl | rfl | rfl : i = 0 ∨ i = 1 ∨ i = 2 ∨ i = 3 ∨ i = 4 := by omega
     all_goals simp [Mo.limL, Bool.and_assoc]
    rw [e, HA.out, Bool.true_and])
   have HSX := qh (show Mo.okL d v = false → ((Mo.limL s).all fun p => Mo.okL p.1 p.2) = false from fun h => by
    rw [List.all_eq_false]
    refine ⟨(d, v), ?_, by simp [h]⟩
    rw [← hd, ← hv]
    obtain rfl | rfl | rfl | rfl | rfl : i = 0 ∨ i = 1 ∨ i = 2 ∨ i = 3 ∨ i = 4 := by omega
    all_goals simp [Mo.limL])
   clear hd hv
   obtain ⟨bz, hbz⟩ : ∃ b, (d == 0) = b := ⟨_, rfl⟩
   obtain ⟨by0, hby⟩ : ∃ b, (v == 0) = b := ⟨_, rfl⟩
   obtain ⟨bd, hbd⟩ : ∃ b, Tp.inb d 0 8 = b := ⟨_, rfl⟩
   obtain ⟨bv, hbv⟩ : ∃ b, Tp.inb v 1 3 = b := ⟨_, rfl⟩
   have HJ1 := qh (fun W => hbd ▸ HI.out d 0 8 W)
   have HJ2 := qh (fun W => hbv ▸ HI.out v 1 3 W)
   have HOK := qh (show Mo.okL d v = ((bz && by0) || (bd && bv)) by unfold Mo.okL; rw [hbz, hby, hbd, hbv])
   clear hbd hbv
   rcases bz with _ | _ <;> rcases by0 with _ | _ <;> rcases bd with _ | _ <;> rcases bv with _ | _
   all_goals first | (have HE := qh (show ((Mo.limL s).take (i + 1)).all (fun p => Mo.okL p.1 p.2) = true from HST.out.trans (HOK.out.trans rfl)); (go_wp2_with (first | (with_reducible refine (HJ1.out _).mono ?_; rintro _ w' ⟨rfl, hw⟩; subst w') | (with_reducible refine (HJ2.out _).mono ?_; rintro _ w' ⟨rfl, hw⟩; subst w'))); go_roundg (5 - (i + 1)); (case measure => omega); (case rel => exact ⟨i + 1, by go_num, by omega, Nat.le_refl _, HE, qh (HB.out.alloc HB.out.size _), qh (HS.out.alloc _)⟩)) | (have HE := qh (show er = 260 by rw [← HER.out, HSX.out (by rw [HOK.out]; rfl)]; rfl); (go_wp2_with (first | (with_reducible refine (HJ1.out _).mono ?_; rintro _ w' ⟨rfl, hw⟩; subst w') | (with_reducible refine (HJ2.out _).mono ?_; rintro _ w' ⟨rfl, hw⟩; subst w'))); go_ret; exact ⟨by rw [HE.out]; rfl, HB.out.alloc HB.out.size _⟩)
  ·obtain rfl : i = 5 := by omega
   have HE := qh (show er = 0 by rw [← HER.out, show ((Mo.limL s).all fun p => Mo.okL p.1 p.2) = true from HA.out]; rfl)
   go_wp2_with fail
   go_ret
   exact ⟨by rw [HE.out]; rfl, HB.out⟩
end Go.Proofs.YtedolbjgdedoaaaGreatDoor

namespace Go.Proofs.YtedolbjgdedoaaaGreatDoor
open Go.RowKit Go.Shelf
attribute [local go_sem] Oper.semAt_some
namespace Mo
theorem res_one {P : Program} {fn : Func} {tmps : Array Value} {w : World} {c : Tmp} {ty t : TypeId} {b : Nat} {cs : Array Value} (h : fn.results = #[.cell c ty]) (hc : tmps.getD c undef = .pointer (some ⟨b, 0, none⟩)) (hb : Kit.Bk w b t cs) {d : TypeDesc}
  (hu : P.underlying ty = some d) (hd : d.isRow = true) (hi : (P.info? ty).map (·.size) = some cs.size) : (results fn tmps).run P w = .ok (.agg cs) w := by
 have hl := run_loadVar_mid (P := P) w b 0 ty cs.toList d (hb.range 0 cs (fun j _ => by rw [Nat.zero_add])) hu hd (by simpa using hi)
 simp only [Array.toArray_toList] at hl
 rw [Array.getD_eq_getD_getElem?] at hc
 simp [results, h, hc, asAddr, hl]
theorem szSt (s : St) : (Tryz.prog.info? 37).map (·.size) = some (stA s).size := by kernel_rfl
theorem szSgR (y : Ex.Sg) : (Tryz.prog.info? 60).map (·.size) = some (sgC y).toArray.size := by kernel_rfl
theorem szReR (y : Uo.Re) : (Tryz.prog.info? 69).map (·.size) = some (reC y).toArray.size := by kernel_rfl
theorem stA_oneR (s : St) : (stA s).all (·.oneCell') = true := by simp [stA, Value.oneCell']
structure AR (w W : World) (s t : St) (SA RA : Array Value) : Prop where
 bel : Below w.heap.size w W
 st : Kit.Bk W w.heap.size 37 (stA s)
 sg : Kit.Bk W (w.heap.size + 1) 60 SA
 re : Kit.Bk W (w.heap.size + 2) 69 RA
 rs : Kit.Bk W (w.heap.size + 3) 37 (stA t)
theorem AR.then {w A B : World} {s t : St} {SA RA : Array Value} (h : AR w A s t SA RA) (hb : Below A.heap.size A B) : AR w B s t SA RA :=
 ⟨h.bel.trans (hb.mono h.bel.size), h.st.below hb h.st.lt, h.sg.below hb h.sg.lt, h.re.below hb h.re.lt, h.rs.below hb h.rs.lt⟩
theorem AR.put {w A B : World} {s s' t : St} {SA RA : Array Value} (h : AR w A s t SA RA) (hx : Kit.Exc (fun k => k = w.heap.size) A B) (hs : Kit.Bk B w.heap.size 37 (stA s')) : AR w B s' t SA RA :=
 ⟨h.bel.trans (hx.below h.bel.size (fun k hk => by omega)), hs, h.sg.exc hx omg, h.re.exc hx omg, h.rs.exc hx omg⟩
theorem AR.start (w : World) (s t : St) (SA RA : Array Value) : AR w ((((w.alloc (.cells (stA s) 37)).alloc (.cells SA 60)).alloc (.cells RA 69)).alloc (.cells (stA t) 37)) s t SA RA := by
 obtain ⟨⟨q0, q1, q2, q3⟩, hb, _⟩ := Kit.four w (stA s) SA RA (stA t) 37 60 69 37
 exact ⟨hb, q0, q1, q2, q3⟩
end Mo
theorem rp_moved26 (s : Mo.St) (dir n : Int) (w : World) (hs : Mo.ok s = true) (hd : 1 ≤ dir ∧ dir ≤ 8) (hn : 1 ≤ n ∧ n ≤ 16) : Calls Tryz.prog 127 #[.agg (Mo.stA s), .int .i64 dir, .int .i64 n] w fun e w' => e = .returned (.agg (Mo.stA (Mo.travel s dir n))) ∧ Below w.heap.size w w' := by
 obtain ⟨bx, bY, bf⟩ := Mo.ok_bd hs
 have hT := Mo.turned_bd hd bf
 have HT := qh (fun W => rp_turned dir s.f W omg bf)
 have HFl := qh (fun W => rp_flat (Mo.turned dir s.f) W hT)
 have q1 := Mo.size_bd (n := n) (F := Mo.fx (Mo.turned dir s.f)) omg hn.2 (Mo.fx_bd _)
 have q2 := Mo.size_bd (n := n) (F := Mo.fy (Mo.turned dir s.f)) omg hn.2 (Mo.fy_bd _)
 have HTR := qh (show Mo.travel s dir n = { s with x := s.x + n * Mo.fx (Mo.turned dir s.f), y := s.y + n * Mo.fy (Mo.turned dir s.f) } from rfl)
 obtain ⟨D, hD⟩ : ∃ D, Mo.turned dir s.f = D := ⟨_, rfl⟩
 rw [hD] at HT HFl q1 q2 HTR
 obtain ⟨X, hX⟩ : ∃ X, Mo.fx D = X := ⟨_, rfl⟩
 obtain ⟨Y, hY⟩ : ∃ Y, Mo.fy D = Y := ⟨_, rfl⟩
 rw [hX] at HFl q1 HTR
 rw [hY] at HFl q2 HTR
 obtain ⟨T, hT2⟩ : ∃ T, Mo.travel s dir n = T := ⟨_, rfl⟩
 rw [hT2] at HTR ⊢
 have e1 : IntKind.i64.wrap (n * X) = n * X := by rw [IntKind.wrap_i64] <;> omega
 have e2 : IntKind.i64.wrap (n * Y) = n * Y := by rw [IntKind.wrap_i64] <;> omega
 have e3 : IntKind.i64.wrap (s.x + n * X) = s.x + n * X := by rw [IntKind.wrap_i64] <;> omega
 have e4 : IntKind.i64.wrap (s.y + n * Y) = s.y + n * Y := by rw [IntKind.wrap_i64] <;> omega
 clear hs hd hn bx bY bf hT q1 q2 hD hX hY hT2
 go_enter Tryz.func127, Tryz.ntmps127
 go_upto_region 1 with fail
 refine Kit.wp_name ?_
 intro W1 hW1
 have HQ0 := qh (show Kit.Bk W1 w.heap.size 37 (Mo.stA s) by rw [hW1]; exact (Kit.Bk.new _ _ _).alloc _)
 have HQ1 := qh (show Kit.Bk W1 (w.heap.size + 1) 37 (Mo.stA Mo.St.zero) by
  rw [hW1]
  have h := Kit.Bk.new (w.alloc (.cells (Mo.stA s) 37)) 37 (Mo.stA Mo.St.zero)
  rwa [World.size_alloc] at h)
 have HB1 := qh (show Below w.heap.size w W1 by rw [hW1]; exact ((Below.refl _ _).alloc nlr _).alloc (by simp) _)
 clear hW1
 have c0 : W1.cell? ⟨w.heap.size, 0, none⟩ = some (.int .i64 s.x) := (HQ0.out.cell 0).trans rfl
 have c1 : W1.cell? ⟨w.heap.size, 1, none⟩ = some (.int .i64 s.y) := (HQ0.out.cell 1).trans rfl
 have c2 : W1.cell? ⟨w.heap.size, 2, none⟩ = some (.int .i64 s.f) := (HQ0.out.cell 2).trans rfl
 have f0 := HQ0.out.frozen 0
 have f1 := HQ0.out.frozen 1
 go_upto_region 5 with (first | (with_reducible refine (HT.out _).mono ?_; rintro _ w' ⟨rfl, hw⟩; subst w') | (with_reducible refine (HFl.out _).mono ?_; rintro _ w' ⟨rfl, hw⟩; subst w'))
 refine Kit.wp_name ?_
 intro W2 hW2
 have HX := qh (show Kit.Exc (fun k => k = w.heap.size) W1 W2 by rw [hW2]; exact Kit.Exc.setCell (S := fun k => k = w.heap.size) (p := ⟨w.heap.size, 1, none⟩) (Kit.Exc.setCell (S := fun k => k = w.heap.size) (p := ⟨w.heap.size, 0, none⟩) (Kit.Exc.refl _ W1) (.inl rfl) _) (.inl rfl) _)
 have HQ2 := qh (show Kit.Bk W2 w.heap.size 37 (Mo.stA T) by rw [hW2, HTR.out]; exact (HQ0.out.set 0 _).put 1 _ rfl)
 have HQ3 := qh (HQ1.out.exc HX.out omg)
 have HB2 := qh (HB1.out.trans (HX.out.below HB1.out.size (fun k hk => by omega)))
 clear hW2 HQ0 HQ1 HB1 c0 c1 c2 f0 f1 e1 e2 e3 e4 HX
 refine wp_region_lit ?_
 refine Kit.load_bk0 rfl 37 (.tmp 3) rfl w.heap.size rfl HQ2.out Tryz.underlying37 rfl (Mo.szSt _) ?_
 refine Kit.store_bk0 rfl 37 (.tmp 6) (.tmp 39) rfl (w.heap.size + 1) rfl (Mo.stA T) rfl HQ3.out rfl (Mo.szSt _) (Mo.stA_oneR _) ?_
 intro W3 hb3 hx3
 have HR := qh hb3
 have HB3 := qh (HB2.out.trans (hx3.below HB2.out.size (fun k hk => by omega)))
 clear hb3 hx3
 simp only [Act.put]
 go_simp
 go_wp2_with fail
 refine bodyPost_ret (Mo.res_one rfl rfl HR.out Tryz.underlying37 rfl (Mo.szSt _)) rfl ⟨rfl, HB3.out⟩
theorem rp_after (s : Mo.St) (k : Ex.Sg) (r : Uo.Re) (w : World) (hk : Mo.Fit k) (hf : Mo.form k r = true) (hs : Mo.ok s = true) : Calls Tryz.prog 79 #[.agg (Mo.stA s), .agg (Mo.sgC k).toArray, .agg (Mo.reC r).toArray] w fun e w' => e = .returned (.tuple #[.agg (Mo.stA (if Mo.ok (Mo.act s k r) = true then Mo.act s k r else Mo.St.zero)), .int .i64 (if Mo.ok (Mo.act s k r) = true then 0 else 2)]) ∧ Below w.heap.size w w' := by
 obtain ⟨RT, hRT⟩ : ∃ T, (if Mo.ok (Mo.act s k r) = true then Mo.act s k r else Mo.St.zero) = T := ⟨_, rfl⟩
 obtain ⟨RE_, hRE⟩ : ∃ T : Int, (if Mo.ok (Mo.act s k r) = true then 0 else 2) = T := ⟨_, rfl⟩
 rw [hRT, hRE]
 have HRT := qh hRT
 have HRE := qh hRE
 clear hRT hRE
 have HC0 := qh (fun W => (by have h := rp_check26 s W; rw [if_pos hs] at h; exact h : Calls Tryz.prog 36 #[.agg (Mo.stA s)] W fun e w' => e = .returned (.int .i64 0) ∧ Below W.heap.size W w'))
 have HSU := qh (fun W => rp_suits k W hk)
 have HFO := qh (fun W => hf ▸ rp_form26 k r W)
 have HOK := qh hs
 have HFit := qh hk
 have HFB := qh (Mo.ok_bd hs).2.2
 clear hk hf hs
 go_enter Tryz.func79, Tryz.ntmps79
 go_upto_region 1 with fail
 refine Kit.wp_name ?_
 intro W1 hW1
 have HA1 := qh (show Mo.AR w W1 s Mo.St.zero (Mo.sgC k).toArray (Mo.reC r).toArray by rw [hW1]; exact Mo.AR.start w s Mo.St.zero _ _)
 clear hW1
 refine wp_region_lit ?_
 refine Kit.load_bk0 rfl 37 (.tmp 3) rfl w.heap.size rfl HA1.out.st Tryz.underlying37 rfl (Mo.szSt _) ?_
 simp only [Act.put]
 go_simp
 go_wp2_with fail
 refine (HC0.out _).mono ?_
 rintro _ W2 ⟨rfl, hb⟩
 have HA2 := qh (HA1.out.then hb)
 clear hb HA1 HC0
 obtain ⟨id, role, bar, mark, kind, side, dir, level, size, wth, fn, fd, tn, td⟩ := k
 obtain ⟨z0, z1, z2, z3⟩ := r
 obtain ⟨h1, h2, h3, h4, h5, h6⟩ := HFit.out
 dsimp only at h1 h2 h3 h4 h5 h6
 have s0 : W2.cell? ⟨w.heap.size + 1, 0, none⟩ = some (.int .i64 id) := (HA2.out.sg.cell 0).trans rfl
 have s1 : W2.cell? ⟨w.heap.size + 1, 1, none⟩ = some (.int .i64 role) := (HA2.out.sg.cell 1).trans rfl
 have s2 : W2.cell? ⟨w.heap.size + 1, 2, none⟩ = some (.int .i64 bar) := (HA2.out.sg.cell 2).trans rfl
 have s3 : W2.cell? ⟨w.heap.size + 1, 3, none⟩ = some (.int .i64 mark) := (HA2.out.sg.cell 3).trans rfl
 have s4 : W2.cell? ⟨w.heap.size + 1, 4, none⟩ = some (.int .i64 kind) := (HA2.out.sg.cell 4).trans rfl
 have s5 : W2.cell? ⟨w.heap.size + 1, 5, none⟩ = some (.int .i64 side) := (HA2.out.sg.cell 5).trans rfl
 have s6 : W2.cell? ⟨w.heap.size + 1, 6, none⟩ = some (.int .i64 dir) := (HA2.out.sg.cell 6).trans rfl
 have s7 : W2.cell? ⟨w.heap.size + 1, 7, none⟩ = some (.int .i64 level) := (HA2.out.sg.cell 7).trans rfl
 have s8 : W2.cell? ⟨w.heap.size + 1, 8, none⟩ = some (.int .i64 size) := (HA2.out.sg.cell 8).trans rfl
 have s9 : W2.cell? ⟨w.heap.size + 1, 9, none⟩ = some (.int .i64 wth) := (HA2.out.sg.cell 9).trans rfl
 have s10 : W2.cell? ⟨w.heap.size + 1, 10, none⟩ = some (.int .i64 fn) := (HA2.out.sg.cell 10).trans rfl
 have s11 : W2.cell? ⟨w.heap.size + 1, 11, none⟩ = some (.int .i64 fd) := (HA2.out.sg.cell 11).trans rfl
 have s12 : W2.cell? ⟨w.heap.size + 1, 12, none⟩ = some (.int .i64 tn) := (HA2.out.sg.cell 12).trans rfl
 have s13 : W2.cell? ⟨w.heap.size + 1, 13, none⟩ = some (.int .i64 td) := (HA2.out.sg.cell 13).trans rfl
 have q0 : W2.cell? ⟨w.heap.size + 2, 0, none⟩ = some (.int .i64 z0) := (HA2.out.re.cell 0).trans rfl
 have q1 : W2.cell? ⟨w.heap.size + 2, 1, none⟩ = some (.int .i64 z1) := (HA2.out.re.cell 1).trans rfl
 have q2 : W2.cell? ⟨w.heap.size + 2, 2, none⟩ = some (.int .i64 z2) := (HA2.out.re.cell 2).trans rfl
 have q3 : W2.cell? ⟨w.heap.size + 2, 3, none⟩ = some (.bool z3) := (HA2.out.re.cell 3).trans rfl
 have HFO2 := qh (fun W => (HFO.out W : Calls Tryz.prog 126 #[.agg #[.int .i64 id, .int .i64 role, .int .i64 bar, .int .i64 mark, .int .i64 kind, .int .i64 side, .int .i64 dir, .int .i64 level, .int .i64 size, .int .i64 wth, .int .i64 fn, .int .i64 fd, .int .i64 tn, .int .i64 td], .agg #[.int .i64 z0, .int .i64 z1, .int .i64 z2, .bool z3]] W fun e w' => e = .returned (.bool true) ∧ Below W.heap.size W w'))
 clear HFO
 have HSZ := qh (Mo.szSgR ⟨id, role, bar, mark, kind, side, dir, level, size, wth, fn, fd, tn, td⟩)
 have HRZ := qh (Mo.szReR (z0, z1, z2, z3))
 go_wp2_with (with_reducible refine (HSU.out _).mono ?_; rintro _ w' ⟨rfl, hw⟩; subst w')
 refine (HFO2.out _).mono ?_
 rintro _ W3 ⟨rfl, hb⟩
 have HA3 := qh (HA2.out.then hb)
 clear hb HA2 s0 s1 s2 s3 s4 s5 s6 s7 s8 s9 s10 s11 s12 s13 q0 q1 q2 q3
 have q3 : W3.cell? ⟨w.heap.size + 2, 3, none⟩ = some (.bool z3) := (HA3.out.re.cell 3).trans rfl
 rcases z3 with _ | _
 case true =>
  have HAC := qh (show Mo.act s ⟨id, role, bar, mark, kind, side, dir, level, size, wth, fn, fd, tn, td⟩ (z0, z1, z2, true) = s from rfl)
  go_upto_region 6 with fail
  refine wp_region_lit ?_
  refine Kit.load_bk0 rfl 37 (.tmp 3) rfl w.heap.size rfl HA3.out.st Tryz.underlying37 rfl (Mo.szSt _) ?_
  refine Kit.store_bk0 rfl 37 (.tmp 6) (.tmp 37) rfl (w.heap.size + 3) rfl (Mo.stA s) rfl HA3.out.rs rfl (Mo.szSt _) (Mo.stA_oneR _) ?_
  intro W4 hb4 hx4
  have HR := qh hb4
  have HB := qh (HA3.out.bel.trans (hx4.below HA3.out.bel.size (fun k hk => by omega)))
  have HT := qh (show RT = s ∧ RE_ = 0 by rw [← HRT.out, ← HRE.out, HAC.out, if_pos HOK.out, if_pos HOK.out]; exact ⟨rfl, rfl⟩)
  clear hb4 hx4 HA3 q3
  simp only [Act.put]
  go_simp
  go_wp2_with fail
  refine bodyPost_ret (Kit.res_bk rfl rfl HR.out _ Tryz.underlying37 rfl (Mo.szSt _)) rfl ⟨?_, HB.out⟩
  rw [HT.out.1, HT.out.2]
  rfl
 case false =>
  go_upto_region 8 with fail
  refine Kit.wp_name ?_
  intro U4 hU4
  have hbU : Below W3.heap.size W3 U4 := by rw [hU4]; exact (Below.refl _ _).alloc nlr _
  have HAU := qh (HA3.out.then hbU)
  have HEU := qh (show Kit.Bk U4 W3.heap.size 34 #[.int .i64 0, .int .i64 0] by rw [hU4]; exact Kit.Bk.new _ _ _)
  have HZB := qh (show w.heap.size + 3 < W3.heap.size from HA3.out.rs.lt)
  obtain ⟨B, hB⟩ : ∃ b, W3.heap.size = b := ⟨_, rfl⟩
  rw [hB] at HEU HZB ⊢
  clear hU4 hbU hB HA3 q3
  have q1 : U4.cell? ⟨w.heap.size + 2, 1, none⟩ = some (.int .i64 z1) := (HAU.out.re.cell 1).trans rfl
  have q2 : U4.cell? ⟨w.heap.size + 2, 2, none⟩ = some (.int .i64 z2) := (HAU.out.re.cell 2).trans rfl
  obtain ⟨SA, hSA⟩ : ∃ a, (Mo.sgC ⟨id, role, bar, mark, kind, side, dir, level, size, wth, fn, fd, tn, td⟩).toArray = a := ⟨_, rfl⟩
  have HSA := qh hSA
  rw [hSA] at HAU
  clear hSA
  go_cut [9] from 39 to 43 (fun v9 wx => v9 = .pointer (some ⟨U4.heap.size, 0, none⟩) ∧ Hid (Mo.AR w wx s Mo.St.zero SA (Mo.reC (z0, z1, z2, false)).toArray) ∧ Hid (Kit.Bk wx B 34 #[.int .i64 0, .int .i64 0]) ∧ Hid (Kit.Bk wx U4.heap.size 34 #[.int .i64 z1, .int .i64 z2]))
  case first =>
   go_wp2_with fail
   go_meet
   case rel => exact ⟨rfl, qh (HAU.out.then ((Below.refl _ _).alloc nlr _)), qh (HEU.out.alloc _), qh (Kit.Bk.new _ _ _)⟩
  case rest =>
   obtain ⟨rfl, HA4, HE4, HL4⟩ := hcut
   have HZC := qh (show w.heap.size + 3 < U4.heap.size from HAU.out.rs.lt)
   obtain ⟨C, hC⟩ : ∃ b, U4.heap.size = b := ⟨_, rfl⟩
   rw [hC] at HL4 HZC ⊢
   clear hC HAU HEU q1 q2
   generalize wc = W4 at *
   apply_assumption
   refine wp_seq_k fun K hK => ?_
   go_cut [] from 44 to 127 (fun wx => Hid (Mo.AR w wx (Mo.act s ⟨id, role, bar, mark, kind, side, dir, level, size, wth, fn, fd, tn, td⟩ (z0, z1, z2, false)) Mo.St.zero SA (Mo.reC (z0, z1, z2, false)).toArray))
   case first =>
    have k4 : W4.cell? ⟨w.heap.size + 1, 4, none⟩ = some (.int .i64 kind) := (HA4.out.sg.cell 4).trans (by rw [← HSA.out]; rfl)
    have k5 : W4.cell? ⟨w.heap.size + 1, 5, none⟩ = some (.int .i64 side) := (HA4.out.sg.cell 5).trans (by rw [← HSA.out]; rfl)
    have k6 : W4.cell? ⟨w.heap.size + 1, 6, none⟩ = some (.int .i64 dir) := (HA4.out.sg.cell 6).trans (by rw [← HSA.out]; rfl)
    have k8 : W4.cell? ⟨w.heap.size + 1, 8, none⟩ = some (.int .i64 size) := (HA4.out.sg.cell 8).trans (by rw [← HSA.out]; rfl)
    obtain rfl | rfl | rfl | rfl | rfl | rfl | rfl | rfl | rfl : kind = 1 ∨ kind = 2 ∨ kind = 3 ∨ kind = 4 ∨ kind = 5 ∨ kind = 6 ∨ kind = 7 ∨ kind = 8 ∨ kind = 9 := by omega
    all_goals
     clear h1
     simp only [Int.reduceEq, or_false, false_or, or_true, true_or, if_true, if_false, or_self, reduceIte] at h3 h4 h5 h6
    ·obtain rfl | rfl : side = 1 ∨ side = 2 := by omega
     ·have HMV := qh (fun W => rp_moved26 s dir size W HOK.out h4 h6)
      clear h3 h4 h5 h6
      go_upto_region 11 with fail
      refine wp_region_lit ?_
      refine Kit.load_bk0 rfl 37 (.tmp 3) rfl w.heap.size rfl HA4.out.st Tryz.underlying37 rfl (Mo.szSt _) ?_
      simp only [Act.put]
      go_simp
      go_wp2_with fail
      refine (HMV.out _).mono ?_
      rintro _ W5 ⟨rfl, hb⟩
      dsimp only
      apply_assumption
      have HA5 := qh (HA4.out.then hb)
      have HE5 := qh (HE4.out.below hb HE4.out.lt)
      refine Kit.store_bk0 rfl 37 (.tmp 3) (.tmp 53) rfl w.heap.size rfl (Mo.stA (Mo.travel s dir size)) rfl HA5.out.st rfl (Mo.szSt _) (Mo.stA_oneR _) ?_
      intro W6 hb6 hx6
      have HA6 := qh (HA5.out.put hx6 hb6)
      have HE6 := qh (HE5.out.exc hx6 (by have := HZB.out; omega))
      obtain ⟨S6, hS6⟩ : ∃ S, Mo.travel s dir size = S := ⟨_, rfl⟩
      have HS6 := qh hS6
      rw [hS6] at HA6
      clear hb HA4 HE4 HL4 HMV HA5 HE5 hb6 hx6 hS6 k4 k5 k6 k8
      have k5 : W6.cell? ⟨w.heap.size + 1, 5, none⟩ = some (.int .i64 1) := (HA6.out.sg.cell 5).trans (by rw [← HSA.out]; rfl)
      simp only [Act.put]
      go_simp
      have d0 : W6.cell? ⟨B, 0, none⟩ = some (.int .i64 0) := (HE6.out.cell 0).trans rfl
      have d1 : W6.cell? ⟨B, 1, none⟩ = some (.int .i64 0) := (HE6.out.cell 1).trans rfl
      have c0 : W6.cell? ⟨w.heap.size, 3, none⟩ = (Mo.stA S6)[3]? := HA6.out.st.cell 3
      have c1 : W6.cell? ⟨w.heap.size, 4, none⟩ = (Mo.stA S6)[4]? := HA6.out.st.cell 4
      have f0 := HA6.out.st.frozen 3
      have f1 := HA6.out.st.frozen 4
      go_wp2_with fail
      go_meet
      case rel => exact qh (by
       rw [show Mo.act s ⟨id, role, bar, mark, 1, 1, dir, level, size, wth, fn, fd, tn, td⟩ (z0, z1, z2, false) = Mo.put S6 0 0 0 by rw [← HS6.out]; rfl]
       exact HA6.out.put (Kit.Exc.setCell (S := fun k => k = w.heap.size) (p := ⟨w.heap.size, 4, none⟩) (Kit.Exc.setCell (S := fun k => k = w.heap.size) (p := ⟨w.heap.size, 3, none⟩) (Kit.Exc.refl _ W6) (.inl rfl) _) (.inl rfl) _) ((HA6.out.st.set 3 _).put 4 _ rfl))
     ·have HMV := qh (fun W => rp_moved26 s dir size W HOK.out h4 h6)
      clear h3 h4 h5 h6
      go_upto_region 11 with fail
      refine wp_region_lit ?_
      refine Kit.load_bk0 rfl 37 (.tmp 3) rfl w.heap.size rfl HA4.out.st Tryz.underlying37 rfl (Mo.szSt _) ?_
      simp only [Act.put]
      go_simp
      go_wp2_with fail
      refine (HMV.out _).mono ?_
      rintro _ W5 ⟨rfl, hb⟩
      dsimp only
      apply_assumption
      have HA5 := qh (HA4.out.then hb)
      have HE5 := qh (HE4.out.below hb HE4.out.lt)
      refine Kit.store_bk0 rfl 37 (.tmp 3) (.tmp 53) rfl w.heap.size rfl (Mo.stA (Mo.travel s dir size)) rfl HA5.out.st rfl (Mo.szSt _) (Mo.stA_oneR _) ?_
      intro W6 hb6 hx6
      have HA6 := qh (HA5.out.put hx6 hb6)
      have HE6 := qh (HE5.out.exc hx6 (by have := HZB.out; omega))
      obtain ⟨S6, hS6⟩ : ∃ S, Mo.travel s dir size = S := ⟨_, rfl⟩
      have HS6 := qh hS6
      rw [hS6] at HA6
      clear hb HA4 HE4 HL4 HMV HA5 HE5 hb6 hx6 hS6 k4 k5 k6 k8
      have k5 : W6.cell? ⟨w.heap.size + 1, 5, none⟩ = some (.int .i64 2) := (HA6.out.sg.cell 5).trans (by rw [← HSA.out]; rfl)
      simp only [Act.put]
      go_simp
      have d0 : W6.cell? ⟨B, 0, none⟩ = some (.int .i64 0) := (HE6.out.cell 0).trans rfl
      have d1 : W6.cell? ⟨B, 1, none⟩ = some (.int .i64 0) := (HE6.out.cell 1).trans rfl
      have c0 : W6.cell? ⟨w.heap.size, 5, none⟩ = (Mo.stA S6)[5]? := HA6.out.st.cell 5
      have c1 : W6.cell? ⟨w.heap.size, 6, none⟩ = (Mo.stA S6)[6]? := HA6.out.st.cell 6
      have f0 := HA6.out.st.frozen 5
      have f1 := HA6.out.st.frozen 6
      go_wp2_with fail
      go_meet
      case rel => exact qh (by
       rw [show Mo.act s ⟨id, role, bar, mark, 1, 2, dir, level, size, wth, fn, fd, tn, td⟩ (z0, z1, z2, false) = Mo.put S6 1 0 0 by rw [← HS6.out]; rfl]
       exact HA6.out.put (Kit.Exc.setCell (S := fun k => k = w.heap.size) (p := ⟨w.heap.size, 6, none⟩) (Kit.Exc.setCell (S := fun k => k = w.heap.size) (p := ⟨w.heap.size, 5, none⟩) (Kit.Exc.refl _ W6) (.inl rfl) _) (.inl rfl) _) ((HA6.out.st.set 5 _).put 6 _ rfl))
    ·have HMV := qh (fun W => rp_moved26 s dir size W HOK.out h4 h6)
     clear h3 h4 h5 h6
     go_upto_region 14 with fail
     refine wp_region_lit ?_
     refine Kit.load_bk0 rfl 37 (.tmp 3) rfl w.heap.size rfl HA4.out.st Tryz.underlying37 rfl (Mo.szSt _) ?_
     simp only [Act.put]
     go_simp
     go_wp2_with fail
     refine (HMV.out _).mono ?_
     rintro _ W5 ⟨rfl, hb⟩
     dsimp only
     apply_assumption
     have HA5 := qh (HA4.out.then hb)
     have HE5 := qh (HE4.out.below hb HE4.out.lt)
     refine Kit.store_bk0 rfl 37 (.tmp 3) (.tmp 67) rfl w.heap.size rfl (Mo.stA (Mo.travel s dir size)) rfl HA5.out.st rfl (Mo.szSt _) (Mo.stA_oneR _) ?_
     intro W6 hb6 hx6
     have HA6 := qh (HA5.out.put hx6 hb6)
     have HE6 := qh (HE5.out.exc hx6 (by have := HZB.out; omega))
     obtain ⟨S6, hS6⟩ : ∃ S, Mo.travel s dir size = S := ⟨_, rfl⟩
     have HS6 := qh hS6
     rw [hS6] at HA6
     clear hb HA4 HE4 HL4 HMV HA5 HE5 hb6 hx6 hS6 k4 k5 k6 k8
     have k5 : W6.cell? ⟨w.heap.size + 1, 5, none⟩ = some (.int .i64 side) := (HA6.out.sg.cell 5).trans (by rw [← HSA.out]; rfl)
     simp only [Act.put]
     go_simp
     have d0 : W6.cell? ⟨B, 0, none⟩ = some (.int .i64 0) := (HE6.out.cell 0).trans rfl
     have d1 : W6.cell? ⟨B, 1, none⟩ = some (.int .i64 0) := (HE6.out.cell 1).trans rfl
     have c0 : W6.cell? ⟨w.heap.size, 3, none⟩ = (Mo.stA S6)[3]? := HA6.out.st.cell 3
     have c1 : W6.cell? ⟨w.heap.size, 4, none⟩ = (Mo.stA S6)[4]? := HA6.out.st.cell 4
     have f0 := HA6.out.st.frozen 3
     have f1 := HA6.out.st.frozen 4
     go_upto_region 16 with fail
     refine Kit.wp_name ?_
     intro X7 hX
     have hx : Kit.Exc (fun k => k = w.heap.size) W6 X7 := by rw [hX]; exact (Kit.Exc.setCell (S := fun k => k = w.heap.size) (p := ⟨w.heap.size, 4, none⟩) (Kit.Exc.setCell (S := fun k => k = w.heap.size) (p := ⟨w.heap.size, 3, none⟩) (Kit.Exc.refl _ W6) (.inl rfl) _) (.inl rfl) _)
     have HB7 := qh (HA6.out.put (s' := Mo.put S6 0 0 0) hx (by rw [hX]; exact ((HA6.out.st.set 3 _).put 4 _ rfl)))
     have HF7 := qh (HE6.out.exc hx (by have := HZB.out; have := HZC.out; omega))
     obtain ⟨T7, hT7⟩ : ∃ S, Mo.put S6 0 0 0 = S := ⟨_, rfl⟩
     have HT7 := qh hT7
     rw [hT7] at HB7
     clear hX hx hT7 d0 d1 c0 c1 f0 f1
     have d0 : X7.cell? ⟨B, 0, none⟩ = some (.int .i64 0) := (HF7.out.cell 0).trans rfl
     have d1 : X7.cell? ⟨B, 1, none⟩ = some (.int .i64 0) := (HF7.out.cell 1).trans rfl
     have c0 : X7.cell? ⟨w.heap.size, 5, none⟩ = (Mo.stA T7)[5]? := HB7.out.st.cell 5
     have c1 : X7.cell? ⟨w.heap.size, 6, none⟩ = (Mo.stA T7)[6]? := HB7.out.st.cell 6
     have f0 := HB7.out.st.frozen 5
     have f1 := HB7.out.st.frozen 6
     go_wp2_with fail
     go_meet
     case rel => exact qh (by
      rw [show Mo.act s ⟨id, role, bar, mark, 2, side, dir, level, size, wth, fn, fd, tn, td⟩ (z0, z1, z2, false) = Mo.put T7 1 0 0 by rw [← HT7.out, ← HS6.out]; rfl]
      exact HB7.out.put (Kit.Exc.setCell (S := fun k => k = w.heap.size) (p := ⟨w.heap.size, 6, none⟩) (Kit.Exc.setCell (S := fun k => k = w.heap.size) (p := ⟨w.heap.size, 5, none⟩) (Kit.Exc.refl _ X7) (.inl rfl) _) (.inl rfl) _) ((HB7.out.st.set 5 _).put 6 _ rfl))
    ·obtain rfl | rfl : side = 1 ∨ side = 2 := by omega
     ·clear h3 h4 h5 h6
      have d0 : W4.cell? ⟨C, 0, none⟩ = some (.int .i64 z1) := (HL4.out.cell 0).trans rfl
      have d1 : W4.cell? ⟨C, 1, none⟩ = some (.int .i64 z2) := (HL4.out.cell 1).trans rfl
      have c0 : W4.cell? ⟨w.heap.size, 3, none⟩ = (Mo.stA s)[3]? := HA4.out.st.cell 3
      have c1 : W4.cell? ⟨w.heap.size, 4, none⟩ = (Mo.stA s)[4]? := HA4.out.st.cell 4
      have f0 := HA4.out.st.frozen 3
      have f1 := HA4.out.st.frozen 4
      go_wp2_with fail
      go_meet
      case rel => exact qh (by
       rw [show Mo.act s ⟨id, role, bar, mark, 3, 1, dir, level, size, wth, fn, fd, tn, td⟩ (z0, z1, z2, false) = Mo.put s 0 z1 z2 by rfl]
       exact HA4.out.put (Kit.Exc.setCell (S := fun k => k = w.heap.size) (p := ⟨w.heap.size, 4, none⟩) (Kit.Exc.setCell (S := fun k => k = w.heap.size) (p := ⟨w.heap.size, 3, none⟩) (Kit.Exc.refl _ W4) (.inl rfl) _) (.inl rfl) _) ((HA4.out.st.set 3 _).put 4 _ rfl))
     ·clear h3 h4 h5 h6
      have d0 : W4.cell? ⟨C, 0, none⟩ = some (.int .i64 z1) := (HL4.out.cell 0).trans rfl
      have d1 : W4.cell? ⟨C, 1, none⟩ = some (.int .i64 z2) := (HL4.out.cell 1).trans rfl
      have c0 : W4.cell? ⟨w.heap.size, 5, none⟩ = (Mo.stA s)[5]? := HA4.out.st.cell 5
      have c1 : W4.cell? ⟨w.heap.size, 6, none⟩ = (Mo.stA s)[6]? := HA4.out.st.cell 6
      have f0 := HA4.out.st.frozen 5
      have f1 := HA4.out.st.frozen 6
      go_wp2_with fail
      go_meet
      case rel => exact qh (by
       rw [show Mo.act s ⟨id, role, bar, mark, 3, 2, dir, level, size, wth, fn, fd, tn, td⟩ (z0, z1, z2, false) = Mo.put s 1 z1 z2 by rfl]
       exact HA4.out.put (Kit.Exc.setCell (S := fun k => k = w.heap.size) (p := ⟨w.heap.size, 6, none⟩) (Kit.Exc.setCell (S := fun k => k = w.heap.size) (p := ⟨w.heap.size, 5, none⟩) (Kit.Exc.refl _ W4) (.inl rfl) _) (.inl rfl) _) ((HA4.out.st.set 5 _).put 6 _ rfl))
    ·obtain rfl | rfl : side = 1 ∨ side = 2 := by omega
     ·clear h3 h4 h5 h6
      have d0 : W4.cell? ⟨C, 0, none⟩ = some (.int .i64 z1) := (HL4.out.cell 0).trans rfl
      have d1 : W4.cell? ⟨C, 1, none⟩ = some (.int .i64 z2) := (HL4.out.cell 1).trans rfl
      have c0 : W4.cell? ⟨w.heap.size, 7, none⟩ = (Mo.stA s)[7]? := HA4.out.st.cell 7
      have c1 : W4.cell? ⟨w.heap.size, 8, none⟩ = (Mo.stA s)[8]? := HA4.out.st.cell 8
      have f0 := HA4.out.st.frozen 7
      have f1 := HA4.out.st.frozen 8
      go_wp2_with fail
      go_meet
      case rel => exact qh (by
       rw [show Mo.act s ⟨id, role, bar, mark, 4, 1, dir, level, size, wth, fn, fd, tn, td⟩ (z0, z1, z2, false) = Mo.put s 2 z1 z2 by rfl]
       exact HA4.out.put (Kit.Exc.setCell (S := fun k => k = w.heap.size) (p := ⟨w.heap.size, 8, none⟩) (Kit.Exc.setCell (S := fun k => k = w.heap.size) (p := ⟨w.heap.size, 7, none⟩) (Kit.Exc.refl _ W4) (.inl rfl) _) (.inl rfl) _) ((HA4.out.st.set 7 _).put 8 _ rfl))
     ·clear h3 h4 h5 h6
      have d0 : W4.cell? ⟨C, 0, none⟩ = some (.int .i64 z1) := (HL4.out.cell 0).trans rfl
      have d1 : W4.cell? ⟨C, 1, none⟩ = some (.int .i64 z2) := (HL4.out.cell 1).trans rfl
      have c0 : W4.cell? ⟨w.heap.size, 9, none⟩ = (Mo.stA s)[9]? := HA4.out.st.cell 9
      have c1 : W4.cell? ⟨w.heap.size, 10, none⟩ = (Mo.stA s)[10]? := HA4.out.st.cell 10
      have f0 := HA4.out.st.frozen 9
      have f1 := HA4.out.st.frozen 10
      go_wp2_with fail
      go_meet
      case rel => exact qh (by
       rw [show Mo.act s ⟨id, role, bar, mark, 4, 2, dir, level, size, wth, fn, fd, tn, td⟩ (z0, z1, z2, false) = Mo.put s 3 z1 z2 by rfl]
       exact HA4.out.put (Kit.Exc.setCell (S := fun k => k = w.heap.size) (p := ⟨w.heap.size, 10, none⟩) (Kit.Exc.setCell (S := fun k => k = w.heap.size) (p := ⟨w.heap.size, 9, none⟩) (Kit.Exc.refl _ W4) (.inl rfl) _) (.inl rfl) _) ((HA4.out.st.set 9 _).put 10 _ rfl))
    ·clear h3 h4 h5 h6
     have d0 : W4.cell? ⟨C, 0, none⟩ = some (.int .i64 z1) := (HL4.out.cell 0).trans rfl
     have d1 : W4.cell? ⟨C, 1, none⟩ = some (.int .i64 z2) := (HL4.out.cell 1).trans rfl
     have c0 : W4.cell? ⟨w.heap.size, 11, none⟩ = (Mo.stA s)[11]? := HA4.out.st.cell 11
     have c1 : W4.cell? ⟨w.heap.size, 12, none⟩ = (Mo.stA s)[12]? := HA4.out.st.cell 12
     have f0 := HA4.out.st.frozen 11
     have f1 := HA4.out.st.frozen 12
     go_wp2_with fail
     go_meet
     case rel => exact qh (by
      rw [show Mo.act s ⟨id, role, bar, mark, 5, side, dir, level, size, wth, fn, fd, tn, td⟩ (z0, z1, z2, false) = Mo.put s 4 z1 z2 by rfl]
      exact HA4.out.put (Kit.Exc.setCell (S := fun k => k = w.heap.size) (p := ⟨w.heap.size, 12, none⟩) (Kit.Exc.setCell (S := fun k => k = w.heap.size) (p := ⟨w.heap.size, 11, none⟩) (Kit.Exc.refl _ W4) (.inl rfl) _) (.inl rfl) _) ((HA4.out.st.set 11 _).put 12 _ rfl))
    ·have c2 : W4.cell? ⟨w.heap.size, 2, none⟩ = some (.int .i64 s.f) := (HA4.out.st.cell 2).trans rfl
     have f2 := HA4.out.st.frozen 2
     have hfb := HFB.out
     have e1 : IntKind.i64.wrap (s.f + size) = s.f + size := by rw [IntKind.wrap_i64] <;> omega
     obtain ⟨Q, hQ⟩ : ∃ q, (s.f + size) % 8 = q := ⟨_, rfl⟩
     have e2 : (s.f + size).tmod 8 = Q := by rw [← hQ]; exact Int.tmod_eq_emod_of_nonneg omg
     have e3 : IntKind.i64.wrap Q = Q := by rw [IntKind.wrap_i64] <;> omega
     have HQ := qh hQ
     clear hQ hfb h3 h4 h5 h6
     go_wp2_with fail
     go_meet
     case rel => exact qh (by
      rw [show Mo.act s ⟨id, role, bar, mark, 6, side, dir, level, size, wth, fn, fd, tn, td⟩ (z0, z1, z2, false) = { s with f := Q } by rw [← HQ.out]; rfl]
      exact HA4.out.put (Kit.Exc.setCell (S := fun k => k = w.heap.size) (p := ⟨w.heap.size, 2, none⟩) (Kit.Exc.refl _ W4) (.inl rfl) _) (HA4.out.st.put 2 _ rfl))
    ·clear h3 h4 h5 h6
     have d0 : W4.cell? ⟨B, 0, none⟩ = some (.int .i64 0) := (HE4.out.cell 0).trans rfl
     have d1 : W4.cell? ⟨B, 1, none⟩ = some (.int .i64 0) := (HE4.out.cell 1).trans rfl
     have c0 : W4.cell? ⟨w.heap.size, 7, none⟩ = (Mo.stA s)[7]? := HA4.out.st.cell 7
     have c1 : W4.cell? ⟨w.heap.size, 8, none⟩ = (Mo.stA s)[8]? := HA4.out.st.cell 8
     have f0 := HA4.out.st.frozen 7
     have f1 := HA4.out.st.frozen 8
     go_upto_region 27 with fail
     refine Kit.wp_name ?_
     intro X5 hX
     have hx : Kit.Exc (fun k => k = w.heap.size) W4 X5 := by rw [hX]; exact (Kit.Exc.setCell (S := fun k => k = w.heap.size) (p := ⟨w.heap.size, 8, none⟩) (Kit.Exc.setCell (S := fun k => k = w.heap.size) (p := ⟨w.heap.size, 7, none⟩) (Kit.Exc.refl _ W4) (.inl rfl) _) (.inl rfl) _)
     have HB5 := qh (HA4.out.put (s' := Mo.put s 2 0 0) hx (by rw [hX]; exact ((HA4.out.st.set 7 _).put 8 _ rfl)))
     have HF5 := qh (HE4.out.exc hx (by have := HZB.out; have := HZC.out; omega))
     obtain ⟨T5, hT5⟩ : ∃ S, Mo.put s 2 0 0 = S := ⟨_, rfl⟩
     have HT5 := qh hT5
     rw [hT5] at HB5
     clear hX hx hT5 d0 d1 c0 c1 f0 f1
     have d0 : X5.cell? ⟨B, 0, none⟩ = some (.int .i64 0) := (HF5.out.cell 0).trans rfl
     have d1 : X5.cell? ⟨B, 1, none⟩ = some (.int .i64 0) := (HF5.out.cell 1).trans rfl
     have c0 : X5.cell? ⟨w.heap.size, 9, none⟩ = (Mo.stA T5)[9]? := HB5.out.st.cell 9
     have c1 : X5.cell? ⟨w.heap.size, 10, none⟩ = (Mo.stA T5)[10]? := HB5.out.st.cell 10
     have f0 := HB5.out.st.frozen 9
     have f1 := HB5.out.st.frozen 10
     go_wp2_with fail
     go_meet
     case rel => exact qh (by
      rw [show Mo.act s ⟨id, role, bar, mark, 7, side, dir, level, size, wth, fn, fd, tn, td⟩ (z0, z1, z2, false) = Mo.put T5 3 0 0 by rw [← HT5.out]; rfl]
      exact HB5.out.put (Kit.Exc.setCell (S := fun k => k = w.heap.size) (p := ⟨w.heap.size, 10, none⟩) (Kit.Exc.setCell (S := fun k => k = w.heap.size) (p := ⟨w.heap.size, 9, none⟩) (Kit.Exc.refl _ X5) (.inl rfl) _) (.inl rfl) _) ((HB5.out.st.set 9 _).put 10 _ rfl))
    ·clear h3 h4 h5 h6
     have d0 : W4.cell? ⟨B, 0, none⟩ = some (.int .i64 0) := (HE4.out.cell 0).trans rfl
     have d1 : W4.cell? ⟨B, 1, none⟩ = some (.int .i64 0) := (HE4.out.cell 1).trans rfl
     have c0 : W4.cell? ⟨w.heap.size, 3, none⟩ = (Mo.stA s)[3]? := HA4.out.st.cell 3
     have c1 : W4.cell? ⟨w.heap.size, 4, none⟩ = (Mo.stA s)[4]? := HA4.out.st.cell 4
     have f0 := HA4.out.st.frozen 3
     have f1 := HA4.out.st.frozen 4
     go_upto_region 30 with fail
     refine Kit.wp_name ?_
     intro X5 hX
     have hx : Kit.Exc (fun k => k = w.heap.size) W4 X5 := by rw [hX]; exact (Kit.Exc.setCell (S := fun k => k = w.heap.size) (p := ⟨w.heap.size, 4, none⟩) (Kit.Exc.setCell (S := fun k => k = w.heap.size) (p := ⟨w.heap.size, 3, none⟩) (Kit.Exc.refl _ W4) (.inl rfl) _) (.inl rfl) _)
     have HB5 := qh (HA4.out.put (s' := Mo.put s 0 0 0) hx (by rw [hX]; exact ((HA4.out.st.set 3 _).put 4 _ rfl)))
     have HF5 := qh (HE4.out.exc hx (by have := HZB.out; have := HZC.out; omega))
     obtain ⟨T5, hT5⟩ : ∃ S, Mo.put s 0 0 0 = S := ⟨_, rfl⟩
     have HT5 := qh hT5
     rw [hT5] at HB5
     clear hX hx hT5 d0 d1 c0 c1 f0 f1
     have d0 : X5.cell? ⟨B, 0, none⟩ = some (.int .i64 0) := (HF5.out.cell 0).trans rfl
     have d1 : X5.cell? ⟨B, 1, none⟩ = some (.int .i64 0) := (HF5.out.cell 1).trans rfl
     have c0 : X5.cell? ⟨w.heap.size, 5, none⟩ = (Mo.stA T5)[5]? := HB5.out.st.cell 5
     have c1 : X5.cell? ⟨w.heap.size, 6, none⟩ = (Mo.stA T5)[6]? := HB5.out.st.cell 6
     have f0 := HB5.out.st.frozen 5
     have f1 := HB5.out.st.frozen 6
     go_wp2_with fail
     go_meet
     case rel => exact qh (by
      rw [show Mo.act s ⟨id, role, bar, mark, 8, side, dir, level, size, wth, fn, fd, tn, td⟩ (z0, z1, z2, false) = Mo.put T5 1 0 0 by rw [← HT5.out]; rfl]
      exact HB5.out.put (Kit.Exc.setCell (S := fun k => k = w.heap.size) (p := ⟨w.heap.size, 6, none⟩) (Kit.Exc.setCell (S := fun k => k = w.heap.size) (p := ⟨w.heap.size, 5, none⟩) (Kit.Exc.refl _ X5) (.inl rfl) _) (.inl rfl) _) ((HB5.out.st.set 5 _).put 6 _ rfl))
    ·obtain rfl | rfl : side = 1 ∨ side = 2 := by omega
     ·clear h3 h4 h5 h6
      have d0 : W4.cell? ⟨B, 0, none⟩ = some (.int .i64 0) := (HE4.out.cell 0).trans rfl
      have d1 : W4.cell? ⟨B, 1, none⟩ = some (.int .i64 0) := (HE4.out.cell 1).trans rfl
      have c0 : W4.cell? ⟨w.heap.size, 7, none⟩ = (Mo.stA s)[7]? := HA4.out.st.cell 7
      have c1 : W4.cell? ⟨w.heap.size, 8, none⟩ = (Mo.stA s)[8]? := HA4.out.st.cell 8
      have f0 := HA4.out.st.frozen 7
      have f1 := HA4.out.st.frozen 8
      go_wp2_with fail
      go_meet
      case rel => exact qh (by
       rw [show Mo.act s ⟨id, role, bar, mark, 9, 1, dir, level, size, wth, fn, fd, tn, td⟩ (z0, z1, z2, false) = Mo.put s 2 0 0 by rfl]
       exact HA4.out.put (Kit.Exc.setCell (S := fun k => k = w.heap.size) (p := ⟨w.heap.size, 8, none⟩) (Kit.Exc.setCell (S := fun k => k = w.heap.size) (p := ⟨w.heap.size, 7, none⟩) (Kit.Exc.refl _ W4) (.inl rfl) _) (.inl rfl) _) ((HA4.out.st.set 7 _).put 8 _ rfl))
     ·clear h3 h4 h5 h6
      have d0 : W4.cell? ⟨B, 0, none⟩ = some (.int .i64 0) := (HE4.out.cell 0).trans rfl
      have d1 : W4.cell? ⟨B, 1, none⟩ = some (.int .i64 0) := (HE4.out.cell 1).trans rfl
      have c0 : W4.cell? ⟨w.heap.size, 9, none⟩ = (Mo.stA s)[9]? := HA4.out.st.cell 9
      have c1 : W4.cell? ⟨w.heap.size, 10, none⟩ = (Mo.stA s)[10]? := HA4.out.st.cell 10
      have f0 := HA4.out.st.frozen 9
      have f1 := HA4.out.st.frozen 10
      go_wp2_with fail
      go_meet
      case rel => exact qh (by
       rw [show Mo.act s ⟨id, role, bar, mark, 9, 2, dir, level, size, wth, fn, fd, tn, td⟩ (z0, z1, z2, false) = Mo.put s 3 0 0 by rfl]
       exact HA4.out.put (Kit.Exc.setCell (S := fun k => k = w.heap.size) (p := ⟨w.heap.size, 10, none⟩) (Kit.Exc.setCell (S := fun k => k = w.heap.size) (p := ⟨w.heap.size, 9, none⟩) (Kit.Exc.refl _ W4) (.inl rfl) _) (.inl rfl) _) ((HA4.out.st.set 9 _).put 10 _ rfl))
   case rest =>
    have HAX := hcut
    obtain ⟨S7, hS7⟩ : ∃ S, Mo.act s ⟨id, role, bar, mark, kind, side, dir, level, size, wth, fn, fd, tn, td⟩ (z0, z1, z2, false) = S := ⟨_, rfl⟩
    have HAC := qh hS7
    rw [hS7] at HAX
    clear hS7 hcut HA4 HE4 HL4
    apply_assumption
    go_upto_region 33 with fail
    refine wp_region_lit ?_
    refine Kit.load_bk0 rfl 37 (.tmp 3) rfl w.heap.size rfl HAX.out.st Tryz.underlying37 rfl (Mo.szSt _) ?_
    simp only [Act.put]
    go_simp
    have HCK := qh (fun W => rp_check26 S7 W)
    obtain ⟨ob, hob⟩ : ∃ b, Mo.ok S7 = b := ⟨_, rfl⟩
    rw [hob] at HCK
    have HRS := qh (show RT = (if ob = true then S7 else Mo.St.zero) ∧ RE_ = (if ob = true then 0 else 2) by rw [← HRT.out, ← HRE.out, HAC.out, hob]; exact ⟨rfl, rfl⟩)
    clear hob HAC HRT HRE HOK HFit HFB
    rcases ob with _ | _
    ·have HC := qh (fun W => (HCK.out W : Calls Tryz.prog 36 #[.agg (Mo.stA S7)] W fun e w' => e = .returned (.int .i64 260) ∧ Below W.heap.size W w'))
     go_wp2_with fail
     refine (HC.out _).mono ?_
     rintro _ W9 ⟨rfl, hb⟩
     have HA9 := qh (HAX.out.then hb)
     clear hb HAX
     go_upto_region 34 with fail
     refine wp_region_lit ?_
     refine Kit.wpList_run rfl (.agg (Mo.stA Mo.St.zero)) W9 (by kernel_rfl) ?_
     refine Kit.store_bk0 rfl 37 (.tmp 6) (.tmp 131) rfl (w.heap.size + 3) rfl (Mo.stA Mo.St.zero) rfl HA9.out.rs rfl (Mo.szSt _) (Mo.stA_oneR _) ?_
     intro W10 hb10 hx10
     have HR := qh hb10
     have HB := qh (HA9.out.bel.trans (hx10.below HA9.out.bel.size (fun k hk => by omega)))
     clear hb10 hx10 HA9
     simp only [Act.put]
     go_simp
     go_wp2_with fail
     refine bodyPost_ret (Kit.res_bk rfl rfl HR.out _ Tryz.underlying37 rfl (Mo.szSt _)) rfl ⟨?_, HB.out⟩
     rw [HRS.out.1, HRS.out.2]
     rfl
    ·have HC := qh (fun W => (HCK.out W : Calls Tryz.prog 36 #[.agg (Mo.stA S7)] W fun e w' => e = .returned (.int .i64 0) ∧ Below W.heap.size W w'))
     go_wp2_with fail
     refine (HC.out _).mono ?_
     rintro _ W9 ⟨rfl, hb⟩
     have HA9 := qh (HAX.out.then hb)
     clear hb HAX
     go_upto_region 35 with fail
     refine wp_region_lit ?_
     refine Kit.load_bk0 rfl 37 (.tmp 3) rfl w.heap.size rfl HA9.out.st Tryz.underlying37 rfl (Mo.szSt _) ?_
     refine Kit.store_bk0 rfl 37 (.tmp 6) (.tmp 132) rfl (w.heap.size + 3) rfl (Mo.stA S7) rfl HA9.out.rs rfl (Mo.szSt _) (Mo.stA_oneR _) ?_
     intro W10 hb10 hx10
     have HR := qh hb10
     have HB := qh (HA9.out.bel.trans (hx10.below HA9.out.bel.size (fun k hk => by omega)))
     clear hb10 hx10 HA9
     simp only [Act.put]
     go_simp
     go_wp2_with fail
     refine bodyPost_ret (Kit.res_bk rfl rfl HR.out _ Tryz.underlying37 rfl (Mo.szSt _)) rfl ⟨?_, HB.out⟩
     rw [HRS.out.1, HRS.out.2]
     rfl
end Go.Proofs.YtedolbjgdedoaaaGreatDoor

namespace Go.Proofs.YtedolbjgdedoaaaGreatDoor
open Go.RowKit Go.Shelf
attribute [local go_sem] Oper.semAt_some
theorem rp_before (a b : Ex.Sg) (w : World) (ha : Ra.ok a.fn a.fd = true) (hb : Ra.ok b.fn b.fd = true) : Calls Tryz.prog 161 #[.agg (Mo.sgC a).toArray, .agg (Mo.sgC b).toArray] w fun e w' => e = .returned (.bool (Mo.befB a b)) ∧ Below w.heap.size w w' := by
 have HC := qh (fun W => rq_cmp a.fn a.fd b.fn b.fd W ha hb)
 have HB := qh (show Mo.befB a b = (decide (Ra.sg (a.fn * b.fd) (b.fn * a.fd) < 0) || (Ra.sg (a.fn * b.fd) (b.fn * a.fd) == 0 && decide (a.id < b.id))) by
  unfold Mo.befB
  have e1 : decide (Ra.sg (a.fn * b.fd) (b.fn * a.fd) < 0) = decide (a.fn * b.fd < b.fn * a.fd) := by rw [decide_eq_decide]; exact Mo.sg_lt _ _
  have e2 : (Ra.sg (a.fn * b.fd) (b.fn * a.fd) == 0) = (a.fn * b.fd == b.fn * a.fd) := by
   unfold Ra.sg
   rw [Bool.eq_iff_iff, beq_iff_eq, beq_iff_eq]
   repeat' split
   all_goals omega
  rw [e1, e2])
 obtain ⟨R, hR⟩ : ∃ r, Mo.befB a b = r := ⟨_, rfl⟩
 rw [hR] at HB ⊢
 obtain ⟨c, hc⟩ : ∃ c, Ra.sg (a.fn * b.fd) (b.fn * a.fd) = c := ⟨_, rfl⟩
 simp only [hc] at HC HB
 clear hR hc ha hb
 obtain ⟨id, role, bar, mark, kind, side, dir, level, size, wth, fn, fd, tn, td⟩ := a
 obtain ⟨id2, role2, bar2, mark2, kind2, side2, dir2, level2, size2, wth2, fn2, fd2, tn2, td2⟩ := b
 dsimp only at HC HB
 refine (show Calls Tryz.prog 161 #[.agg #[.int .i64 id, .int .i64 role, .int .i64 bar, .int .i64 mark, .int .i64 kind, .int .i64 side, .int .i64 dir, .int .i64 level, .int .i64 size, .int .i64 wth, .int .i64 fn, .int .i64 fd, .int .i64 tn, .int .i64 td], .agg #[.int .i64 id2, .int .i64 role2, .int .i64 bar2, .int .i64 mark2, .int .i64 kind2, .int .i64 side2, .int .i64 dir2, .int .i64 level2, .int .i64 size2, .int .i64 wth2, .int .i64 fn2, .int .i64 fd2, .int .i64 tn2, .int .i64 td2]] w _ from ?_)
 obtain ⟨p1, hp1⟩ : ∃ p, decide (c < 0) = p := ⟨_, rfl⟩
 obtain ⟨p2, hp2⟩ : ∃ p, (c == 0) = p := ⟨_, rfl⟩
 obtain ⟨p3, hp3⟩ : ∃ p, decide (id < id2) = p := ⟨_, rfl⟩
 rw [hp1, hp2, hp3] at HB
 rcases p1 with _ | _ <;> rcases p2 with _ | _ <;> rcases p3 with _ | _
 all_goals
  have hr := HB.out
  clear HB
  subst hr
  go_enter Tryz.func161, Tryz.ntmps161
  go_upto_region 1 with fail
  refine Kit.wp_name ?_
  intro W1 hW1
  have HB1 := qh (show Below w.heap.size w W1 by rw [hW1]; exact ((Below.refl _ _).alloc nlr _).alloc (by simp) _)
  have HQ0 := qh (show Kit.Bk W1 w.heap.size 60 (Mo.sgC ⟨id, role, bar, mark, kind, side, dir, level, size, wth, fn, fd, tn, td⟩).toArray by rw [hW1]; exact (Kit.Bk.new _ _ _).alloc _)
  have HQ1 := qh (show Kit.Bk W1 (w.heap.size + 1) 60 (Mo.sgC ⟨id2, role2, bar2, mark2, kind2, side2, dir2, level2, size2, wth2, fn2, fd2, tn2, td2⟩).toArray by
   rw [hW1]
   have h := Kit.Bk.new (w.alloc (.cells (Mo.sgC ⟨id, role, bar, mark, kind, side, dir, level, size, wth, fn, fd, tn, td⟩).toArray 60)) 60 (Mo.sgC ⟨id2, role2, bar2, mark2, kind2, side2, dir2, level2, size2, wth2, fn2, fd2, tn2, td2⟩).toArray
   rwa [World.size_alloc] at h)
  clear hW1
  have s0 : W1.cell? ⟨w.heap.size, 10, none⟩ = some (.int .i64 fn) := (HQ0.out.cell 10).trans rfl
  have s1 : W1.cell? ⟨w.heap.size, 11, none⟩ = some (.int .i64 fd) := (HQ0.out.cell 11).trans rfl
  have s2 : W1.cell? ⟨w.heap.size + 1, 10, none⟩ = some (.int .i64 fn2) := (HQ1.out.cell 10).trans rfl
  have s3 : W1.cell? ⟨w.heap.size + 1, 11, none⟩ = some (.int .i64 fd2) := (HQ1.out.cell 11).trans rfl
  go_wp2_with fail
  refine (HC.out _).mono ?_
  rintro _ W2 ⟨rfl, hb⟩
  have HB2 := qh (HB1.out.trans (hb.mono HB1.out.size))
  have t0 : W2.cell? ⟨w.heap.size, 0, none⟩ = some (.int .i64 id) := ((HQ0.out.below hb HQ0.out.lt).cell 0).trans rfl
  have t1 : W2.cell? ⟨w.heap.size + 1, 0, none⟩ = some (.int .i64 id2) := ((HQ1.out.below hb HQ1.out.lt).cell 0).trans rfl
  clear hb HQ0 HQ1 HB1 s0 s1 s2 s3
  go_wp2_with fail
  go_ret
  exact ⟨rfl, HB2.out⟩
end Go.Proofs.YtedolbjgdedoaaaGreatDoor

namespace Go.Proofs.YtedolbjgdedoaaaGreatDoor
open Go.RowKit Go.Shelf
attribute [local go_sem] Oper.semAt_some
namespace Kit
section
variable {P : Program}
theorem wpList_app_slM {t e : TypeId} {z : Value} {size bytes : Nat} (E : El P t e z size bytes) (w : World) {ops : Array Oper} {rest : List Oper} {o : Oper} {a : Act} {Q : Exit → Act → World → Prop} (hgd : o.guard = none) (s x : Operand)
  (ho : o.op = .call { callee := .builtin .append, args := #[s, x], argTypes := #[t, t] }) {B : Nat} (v : Value) (n : Nat) (xs : List Value) (hs : a.eval s = v) (h : w.ownsRow B e size v n xs) (hB : B ≤ w.heap.size) (hn : n ≤ 1000000000)
  (a0 : Option Addr) (m c : Nat) (news : List Value) (hm : m ≤ 1000000000) (hx : a.eval x = .slice a0 m c) (hl : news.length = m * size) (hnews : ∀ a, a0 = some a → ∀ j u, news[j]? = some u → w.cell? (a.add j) = some u) (hnil : a0 = none → m = 0) (h1 : ∀ u ∈ news, u.oneCell' = true)
  (cont : ∀ v' w', w'.ownsRow B e size v' (n + m) (xs ++ news) → w.grownBy w' v.ownBlock → wpList P ops Q rest (a.put o.dst v') w') : wpList P ops Q (o :: rest) a w := by
 obtain ⟨i, hi, hz, hsz, hby⟩ := info_parts E.info
 have hb : (n + m) * bytes ≤ 140737488355328 := Nat.le_trans (Nat.mul_le_mul (show n + m ≤ 2000000000 by omega) E.small) omg
 obtain ⟨v', w', hrun, h2, h3, _⟩ := run_append_sl (P := P) w B t o.type e i z size bytes E.under hi hz hsz hby E.cells E.pos v n xs h a0 m c news hl hnews hnil h1 (by unfold maxLen; omega) hb hB
 refine wpList_plain hgd fun K hK => ?_
 unfold Oper.wp
 simp [execOp, ho, resolve, invoke, builtin, hs, hx, hrun, Result.andThen]
 exact hK _ _ (cont _ _ h2 h3)
end
end Kit
namespace Mo
theorem idx_sgR (ev : Operand → Value) (W : World) (d : Option Tmp) (ty : TypeId) (po : String) (af : Array Edge) (g : Option (Nat × Bool)) (x y : Operand) (ad : Addr) (n c i : Nat) (h1 : ev x = .slice (some ad) n c) (h2 : ev y = .int .i64 i) (hlt : i < n) : (execOp ev { dst := d, op := .indexAddr 30 x y, type := ty, pos := po, after := af, guard := g }).run Tryz.prog W = .ok (.value (.pointer (some (ad.add (i * 14))))) W := by
 have hz : (i : Int) < n := by omega
 simp [execOp, h1, h2, go_sem, hlt, hz]
theorem bs_sgR (x : Ex.Sg) (ev : Operand → Value) (W : World) (d : Option Tmp) (ty : TypeId) (po : String) (af : Array Edge) (t : Tmp) (h : ev (.tmp t) = .agg (sgC x).toArray) : (execOp ev { dst := d, op := .buildSlice 30 1 #[(0, .tmp t)], type := ty, pos := po, after := af, guard := none }).run Tryz.prog W = .ok (.value (.slice (some ⟨W.heap.size, 0, none⟩) 1 1)) (W.alloc (.cells (sgC x).toArray 60)) := by
 simp [execOp, h, go_sem]
 kernel_rfl
theorem slc_sgR (ev : Operand → Value) (W : World) (d : Option Tmp) (ty : TypeId) (po : String) (af : Array Edge) (x y : Operand) (ad : Addr) (n c k : Nat) (h1 : ev x = .slice (some ad) n c) (h2 : ev y = .int .i64 k) (hk : k ≤ n) (hc : n ≤ c) : (execOp ev { dst := d, op := .slice 30 x (some y) none none, type := ty, pos := po, after := af, guard := none }).run Tryz.prog W = .ok (.value (.slice (if c = k then some ad else some (ad.add (k * 14))) (n - k) (c - k))) W := by
 have q1 : (k : Int) ≤ n := by omega
 have q2 : (n : Int) ≤ c := by omega
 have q3 : (k : Int) ≤ c := by omega
 simp [execOp, h1, h2, go_sem, hk, hc, q1, q2, q3]
theorem own_sg {w : World} {s : Nat} {v : Value} {n : Nat} {l : List Ex.Sg} (h : w.ownsRow s 60 14 v n (l.flatMap sgC)) (hn : n = l.length) (h0 : 0 < n) : ∃ a c, v = .slice (some a) n c ∧ n ≤ c ∧ Tp.Sl w (some a) l.length 14 (Ex.sgc l) := by
 subst hn
 obtain ⟨a, c, rfl⟩ := Kit.own_shape h
 obtain ⟨hs, _, _⟩ := Kit.own_sl h (sg_get l)
 rcases h.2 with ⟨_, hn⟩ | ⟨g, cap, cur, e, _, _, hc, _⟩
 ·omega
 ·injection e with e1 e2 e3
  subst e1 e3
  exact ⟨_, _, rfl, hc, hs⟩
end Mo
theorem rp_put (L : List Ex.Sg) (ad : Addr) (c : Nat) (x : Ex.Sg) (w : World) (hS : Tp.Sl w (some ad) L.length 14 (Ex.sgc L)) (hl : L.length ≤ 4096) (hc : L.length ≤ c) (hx : Ra.ok x.fn x.fd = true) (hL : ∀ y ∈ L, Ra.ok y.fn y.fd = true) :
  Calls Tryz.prog 123 #[.slice (some ad) L.length c, .agg (Mo.sgC x).toArray] w fun e w' => (∃ a2 c2, e = .returned (.slice (some a2) (L.length + 1) c2) ∧ L.length + 1 ≤ c2 ∧ Tp.Sl w' (some a2) (L.length + 1) 14 (Ex.sgc (Mo.putI Mo.befB x L))) ∧ Below w.heap.size w w' := by
 have HBF := qh (fun (j : Nat) (hj : j < L.length) W => rp_before x (L.getD j default) W hx (hL _ (by rw [List.getD_eq_getElem?_getD, List.getElem?_eq_getElem hj]; exact List.getElem_mem _)))
 have HS := qh hS
 have HSZ := qh (show (Tryz.prog.info? 60).map (·.size) = some (Mo.sgC x).toArray.size by kernel_rfl)
 have HCP := qh hc
 have HON := qh (Mo.sgC_one x)
 have HLN := qh (show (Mo.sgC x).length = 14 from rfl)
 obtain ⟨SL, hSL⟩ : ∃ a, Mo.sgC x = a := ⟨_, rfl⟩
 have HSX := qh hSL
 rw [hSL] at HSZ HON HLN ⊢
 simp only [hSL] at HBF
 obtain ⟨n, hn⟩ : ∃ n, L.length = n := ⟨_, rfl⟩
 have HNL := qh hn
 have hlz : (n : Int) ≤ (c : Int) := by omega
 rw [hn] at HS hl HCP ⊢
 simp only [hn] at HBF
 clear hS hx hL hc hSL hn
 go_enter Tryz.func123, Tryz.ntmps123
 go_upto_region 1 with fail
 refine Kit.wp_name ?_
 intro W1 hW1
 have HB1 := qh (show Below w.heap.size w W1 by rw [hW1]; exact (Below.refl _ _).alloc nlr _)
 have HX1 := qh (show Kit.Bk W1 w.heap.size 60 SL.toArray by rw [hW1]; exact Kit.Bk.new _ _ _)
 clear hW1
 go_wp2_with fail
 go_loopg [5] n (fun kx v5 wr => ∃ k : Nat, v5 = .int .i64 k ∧ k ≤ n ∧ k ≤ kx ∧ Hid (Mo.posI Mo.befB x L k = Mo.posI Mo.befB x L n) ∧ Hid (Below w.heap.size w wr) ∧ Hid (Kit.Bk wr w.heap.size 60 SL.toArray))
 case atStart => exact ⟨n, rfl, Nat.le_refl _, Nat.le_refl _, qh rfl, HB1, HX1⟩
 case round =>
  clear HB1 HX1
  obtain ⟨k, rfl, hk, hkx, HP, HB, HX⟩ := hrel
  obtain ⟨g, hg⟩ : ∃ g : Bool, (decide (0 < k) && Mo.befB x (L.getD (k - 1) default)) = g := ⟨_, rfl⟩
  go_upto_region 2 with fail
  go_cut [19] from 9 to 18 (fun v19 wx => v19 = .bool g ∧ Hid (Below w.heap.size w wx) ∧ Hid (Kit.Bk wx w.heap.size 60 SL.toArray))
  case first =>
   rcases k with _ | j
   ·obtain rfl : g = false := by rw [← hg]; rfl
    refine Kit.wp_region_vals3 11 [([(5, none)], none, true), ([(9, some 0)], none, true), ([(10, some 1)], none, true), ([(3, none)], some (2, true), false), ([(0, none)], some (2, true), false), ([(5, none)], some (2, true), false), ([(14, some 5)], some (2, true), false), ([(13, some 4), (15, some 6)], some (2, true), false), ([(16, some 7)], some (2, true), false), ([(12, some 3), (17, some 8)], some (2, true), false), ([(11, some 2), (18, some 9)], none, true)]
     [some 9, some 10, some 11, some 12, some 13, some 14, some 15, some 16, some 17, some 18, some 19] rfl (by kernel_rfl) (by kernel_rfl) (fun X => Below wr.heap.size wr X) (fun _ A B => Below A.heap.size A B) (fun _ _ => false) (fun o _ v X => match o with
     | 0 => v = .int .i64 0
     | 1 => v = .bool false
     | 2 => v = .bool false
     | 3 => v = undef
     | 4 => v = undef
     | 5 => v = undef
     | 6 => v = undef
     | 7 => v = undef
     | 8 => v = undef
     | 9 => v = undef
     | _ => v = .bool false
     ) (by decide) (fun _ h k => h.trans (k.mono h.size)) (Below.drew (Below.refl _ _)) (fun _ X => Below.refl _ X) ?hst ?hown ?_ ?_
    case hst =>
     intro o m u u' v A B ho hn hne _ hdep hu hA hE h3
     exact h3
    case hown =>
     intro o u u' v X ho hu h3
     exact h3
    ·simp only [List.take_succ_cons, List.take_zero, Kit.StepsV3, Kit.VOp3, Kit.RdP3, true_and, if_true, and_true, Bool.false_eq_true, if_false]
     refine ⟨?_, ?_, ?_, ⟨fun u v X _ h => ⟨false, h, rfl⟩, ?_⟩, ⟨fun u v X _ h => ⟨false, h, rfl⟩, ?_⟩, ⟨fun u v X _ h => ⟨false, h, rfl⟩, ?_⟩, ⟨fun u v X _ h => ⟨false, h, rfl⟩, ?_⟩, ⟨fun u v X _ h => ⟨false, h, rfl⟩, ?_⟩, ⟨fun u v X _ h => ⟨false, h, rfl⟩, ?_⟩, ⟨fun u v X _ h => ⟨false, h, rfl⟩, ?_⟩, ?_⟩
     all_goals intro ev u X hx hv hc hf hg
     ·have hh : ev (.tmp 5) = .int .i64 0 := hv.trans rfl
      simp [execOp, hh, hc, go_sem, Kit.UponV]
      exact Below.refl _ _
     ·have hh : ev (.tmp 9) = .int .i64 0 := hv.1
      simp [execOp, hh, hc, go_sem, Kit.UponV]
      exact Below.refl _ _
     ·have hh : ev (.tmp 10) = .bool false := hv.1
      simp [execOp, hh, hc, go_sem, Kit.UponV]
      exact Below.refl _ _
     ·trivial
     ·trivial
     ·trivial
     ·trivial
     ·trivial
     ·trivial
     ·trivial
     ·obtain ⟨⟨q1, _⟩, q2, _⟩ := hv
      have hh : ev (.tmp 11) = .bool false := q1
      simp [execOp, hh, hc, go_sem, Kit.UponV]
      exact Below.refl _ _
    intro vs u W3 hy hv hx
    have v10 : vs 10 = .bool false := hv 10 omg (fun _ _ => rfl)
    have HB3 := qh (HB.out.trans (hx.mono HB.out.size))
    have HX3 := qh (HX.out.below hx HX.out.lt)
    clear hv hy hx
    simp only [Kit.putD, List.getD_cons_zero, List.getD_cons_succ, Act.put, v10, List.drop_succ_cons, List.drop_zero, List.drop_nil]
    clear v10
    generalize vs 0 = gg0 at *
    generalize vs 1 = gg1 at *
    generalize vs 2 = gg2 at *
    generalize vs 3 = gg3 at *
    generalize vs 4 = gg4 at *
    generalize vs 5 = gg5 at *
    generalize vs 6 = gg6 at *
    generalize vs 7 = gg7 at *
    generalize vs 8 = gg8 at *
    generalize vs 9 = gg9 at *
    go_simp
    go_wp2_with fail
    go_meet
    case rel => exact ⟨rfl, HB3, HX3⟩
   ·have hj : j < n := by omega
    have hgj : Mo.befB x (L.getD j default) = g := by rw [← hg]; simp
    have HBJ := qh (fun W => hgj ▸ HBF.out j hj W)
    obtain ⟨y, hy⟩ : ∃ y, L.getD j default = y := ⟨_, rfl⟩
    have HY := qh hy
    rw [hy] at HBJ
    have HSR := qh (fun X (hb : Below w.heap.size w X) => (HNL.out ▸ HS.out.kept hb nlr : Tp.Sl X (some ad) L.length 14 (Ex.sgc L)))
    have hjl : j < L.length := by rw [HNL.out]; exact hj
    clear hgj hg hy
    refine Kit.wp_region_vals3 11 [([(5, none)], none, true), ([(9, some 0)], none, true), ([(10, some 1)], none, true), ([(3, none)], some (2, true), true), ([(0, none)], some (2, true), true), ([(5, none)], some (2, true), true), ([(14, some 5)], some (2, true), true), ([(13, some 4), (15, some 6)], some (2, true), true), ([(16, some 7)], some (2, true), true), ([(12, some 3), (17, some 8)], some (2, true), true), ([(11, some 2), (18, some 9)], none, true)]
     [some 9, some 10, some 11, some 12, some 13, some 14, some 15, some 16, some 17, some 18, some 19] rfl (by kernel_rfl) (by kernel_rfl) (fun X => Below wr.heap.size wr X) (fun _ A B => Below A.heap.size A B) (fun _ _ => false) (fun o _ v X => match o with
     | 0 => v = .int .i64 ((j + 1 : Nat) : Int)
     | 1 => v = .bool true
     | 2 => v = .bool true
     | 3 => v = .agg SL.toArray
     | 4 => v = .slice (some ad) n c
     | 5 => v = .int .i64 ((j + 1 : Nat) : Int)
     | 6 => v = .int .i64 (j : Int)
     | 7 => v = .pointer (some (ad.add (j * 14)))
     | 8 => v = .agg (Mo.sgC y).toArray
     | 9 => v = .bool g
     | _ => v = .bool g
     ) (by decide) (fun _ h k => h.trans (k.mono h.size)) (Below.drew (Below.refl _ _)) (fun _ X => Below.refl _ X) ?hst ?hown ?_ ?_
    case hst =>
     intro o m u u' v A B ho hn hne _ hdep hu hA hE h3
     exact h3
    case hown =>
     intro o u u' v X ho hu h3
     exact h3
    ·simp only [List.take_succ_cons, List.take_zero, Kit.StepsV3, Kit.VOp3, Kit.RdP3, true_and, if_true, and_true, Bool.false_eq_true, if_false]
     refine ⟨?_, ?_, ?_, ⟨fun u v X _ h => ⟨true, h, rfl⟩, ?_⟩, ⟨fun u v X _ h => ⟨true, h, rfl⟩, ?_⟩, ⟨fun u v X _ h => ⟨true, h, rfl⟩, ?_⟩, ⟨fun u v X _ h => ⟨true, h, rfl⟩, ?_⟩, ⟨fun u v X _ h => ⟨true, h, rfl⟩, ?_⟩, ⟨fun u v X _ h => ⟨true, h, rfl⟩, ?_⟩, ⟨fun u v X _ h => ⟨true, h, rfl⟩, ?_⟩, ?_⟩
     all_goals intro ev u X hx hv hc hf hg
     ·have hh : ev (.tmp 5) = .int .i64 ((j + 1 : Nat) : Int) := hv.trans rfl
      simp [execOp, hh, hc, go_sem, Kit.UponV]
      exact Below.refl _ _
     ·have hh : ev (.tmp 9) = .int .i64 ((j + 1 : Nat) : Int) := hv.1
      have d : (0 : Int) < ((j + 1 : Nat) : Int) := by omega
      simp [execOp, hh, hc, d, go_sem, Kit.UponV]
      first | exact ⟨by omega, Below.refl _ _⟩ | exact Below.refl _ _
     ·have hh : ev (.tmp 10) = .bool true := hv.1
      simp [execOp, hh, hc, go_sem, Kit.UponV]
      exact Below.refl _ _
     ·rw [Kit.run_load_bk 60 (.tmp 3) rfl w.heap.size (by rw [hv]; rfl) (HX.out.below hx HX.out.lt) Tryz.underlying60 rfl HSZ.out]
      exact ⟨rfl, Below.refl _ _⟩
     ·have hh : ev (.tmp 0) = .slice (some ad) n c := hv.trans rfl
      simp [execOp, hh, hc, go_sem, Kit.UponV]
      exact Below.refl _ _
     ·have hh : ev (.tmp 5) = .int .i64 ((j + 1 : Nat) : Int) := hv.trans rfl
      simp [execOp, hh, hc, go_sem, Kit.UponV]
      exact Below.refl _ _
     ·have hh : ev (.tmp 14) = .int .i64 ((j + 1 : Nat) : Int) := hv.1
      simp [execOp, hh, hc, go_sem, Kit.UponV]
      first | exact ⟨by rw [IntKind.wrap_i64] <;> omega, Below.refl _ _⟩ | exact Below.refl _ _
     ·obtain ⟨⟨q1, _⟩, q2, _⟩ := hv
      rw [Mo.idx_sgR ev X _ _ _ _ _ (.tmp 13) (.tmp 15) ad n c j q1 q2 hj]
      exact ⟨rfl, Below.refl _ _⟩
     ·have hh : ev (.tmp 16) = .pointer (some (ad.add (j * 14))) := hv.1
      have HSL := (HSR.out X (HB.out.trans (hx.mono HB.out.size)))
      have e0 := HSL.head hjl omg
      have e1 := HSL.field hjl (j := 1) omg omg
      have e2 := HSL.field hjl (j := 2) omg omg
      have e3 := HSL.field hjl (j := 3) omg omg
      have e4 := HSL.field hjl (j := 4) omg omg
      have e5 := HSL.field hjl (j := 5) omg omg
      have e6 := HSL.field hjl (j := 6) omg omg
      have e7 := HSL.field hjl (j := 7) omg omg
      have e8 := HSL.field hjl (j := 8) omg omg
      have e9 := HSL.field hjl (j := 9) omg omg
      have e10 := HSL.field hjl (j := 10) omg omg
      have e11 := HSL.field hjl (j := 11) omg omg
      have e12 := HSL.field hjl (j := 12) omg omg
      have e13 := HSL.field hjl (j := 13) omg omg
      simp only [Ex.sgc, HY.out] at e0 e1 e2 e3 e4 e5 e6 e7 e8 e9 e10 e11 e12 e13
      simp [execOp, hh, hc, e0, e1, e2, e3, e4, e5, e6, e7, e8, e9, e10, e11, e12, e13, go_sem, Kit.UponV]
      exact ⟨rfl, Below.refl _ _⟩
     ·obtain ⟨⟨q1, _⟩, q2, _⟩ := hv
      have h12 : ev (.tmp 12) = .agg SL.toArray := q1
      have h17 : ev (.tmp 17) = .agg (Mo.sgC y).toArray := q2
      simp [execOp, h12, h17, hc, hf, go_sem, Kit.UponV]
      refine (HBJ.out X).mono ?_
      rintro e w3 ⟨rfl, hb⟩
      exact ⟨_, rfl, rfl, hb⟩
     ·obtain ⟨⟨q1, _⟩, q2, _⟩ := hv
      have hh : ev (.tmp 11) = .bool true := q1
      have hh2 : ev (.tmp 18) = .bool g := q2
      simp [execOp, hh, hh2, hc, go_sem, Kit.UponV]
      exact Below.refl _ _
    intro vs u W3 hy hv hx
    have v10 : vs 10 = .bool g := hv 10 omg (fun _ _ => rfl)
    have HB3 := qh (HB.out.trans (hx.mono HB.out.size))
    have HX3 := qh (HX.out.below hx HX.out.lt)
    clear hv hy hx
    simp only [Kit.putD, List.getD_cons_zero, List.getD_cons_succ, Act.put, v10, List.drop_succ_cons, List.drop_zero, List.drop_nil]
    clear v10
    generalize vs 0 = gg0 at *
    generalize vs 1 = gg1 at *
    generalize vs 2 = gg2 at *
    generalize vs 3 = gg3 at *
    generalize vs 4 = gg4 at *
    generalize vs 5 = gg5 at *
    generalize vs 6 = gg6 at *
    generalize vs 7 = gg7 at *
    generalize vs 8 = gg8 at *
    generalize vs 9 = gg9 at *
    go_simp
    go_wp2_with fail
    go_meet
    case rel => exact ⟨rfl, HB3, HX3⟩
  case rest =>
   obtain ⟨rfl, HB2, HX2⟩ := hcut
   clear HB HX
   generalize wc = W2 at *
   rcases g with _ | _
   ·have HK := qh (show Mo.posI Mo.befB x L n = k by
     rw [← HP.out]
     rcases k with _ | j
     ·rfl
     ·unfold Mo.posI
      rw [if_neg (by intro h; simp only [Nat.add_sub_cancel] at hg; rw [h] at hg; simp at hg)])
    clear hg HP hkx
    have hkc : (k : Int) ≤ (c : Int) := by omega
    have hkn : (k : Int) ≤ (n : Int) := by omega
    apply_assumption
    go_upto_region 4 with fail
    go_upto_region 5 with (at_builtin; go_loud (refine Kit.wpList_app_emptyM Mo.elS _ rfl _ _ rfl rfl (Kit.lit_rowM W2 [] _ W2.heap.size W2.heap.size 14 0 rfl nlr rfl (by unfold maxLen; omega)) (by simp) (some ad) k c ((L.take k).flatMap Mo.sgC) omg rfl (by rw [Mo.sgs_len, List.length_take, HNL.out, Nat.min_eq_left hk]) (fun _ => ⟨ad, rfl, fun j u hu => Mo.sg_head ((HNL.out ▸ HS.out.kept (HB2.out.alloc HB2.out.size _) nlr : Tp.Sl _ (some ad) L.length 14 (Ex.sgc L))) k j u hu⟩) ?_); intro v2 w5 ho hb)
    have hb2 : Below W2.heap.size W2 w5 := ((Below.refl _ _).alloc nlr (.cells #[] 60)).trans (hb.mono (by simp))
    have HB5 := qh (HB2.out.trans (hb2.mono HB2.out.size))
    have HX5 := qh (HX2.out.below hb2 HX2.out.lt)
    have HW5 := qh (show w.heap.size ≤ W2.heap.size from HB2.out.size)
    have HS5 := qh (show W2.heap.size ≤ w5.heap.size from hb2.size)
    clear hb hb2 HB2 HX2
    refine wp_region_lit ?_
    refine Kit.wpList_run rfl v2 w5 rfl ?_
    refine Kit.load_bk0 rfl 60 (.tmp 3) rfl w.heap.size rfl HX5.out Tryz.underlying60 rfl HSZ.out ?_
    refine Kit.wpList_run rfl (.slice (some ⟨w5.heap.size, 0, none⟩) 1 1) (w5.alloc (.cells (Mo.sgC x).toArray 60)) (Mo.bs_sgR x _ _ _ _ _ _ 28 (by rw [HSX.out]; rfl)) ?_
    refine Kit.wpList_app_slM Mo.elS _ rfl _ _ rfl v2 k _ rfl (ho.alloc _) (by rw [World.size_alloc]; exact Nat.le_succ_of_le HS5.out) omg (some ⟨w5.heap.size, 0, none⟩) 1 1 SL omg rfl (by rw [HLN.out]) (fun a e j u hu => by cases e; exact Kit.lit_at _ (Mo.sgC x) _ (by simp) j u (by rw [HSX.out]; exact hu)) (fun e => by cases e) HON.out ?_
    intro v6 w6 ho6 hg6
    have HB6 := qh (show Below w.heap.size w w6 from (HB5.out.alloc HB5.out.size _).grown hg6 (by rw [World.size_alloc]; exact Nat.le_succ_of_le HB5.out.size) (fun q hq => by have := (ho.lt q hq).1; have := HW5.out; omega))
    have HS6 := qh (show W2.heap.size ≤ w6.heap.size from Nat.le_trans HS5.out (Nat.le_trans (by rw [World.size_alloc]; omega) hg6.size))
    clear ho hg6 HX5 HB5
    simp only [Act.put]
    go_simp
    go_upto_region 6 with fail
    refine wp_region_lit ?_
    refine Kit.wpList_run rfl v6 w6 rfl ?_
    refine Kit.wpList_run rfl (.slice (some ad) n c) w6 rfl ?_
    refine Kit.wpList_run rfl (.int .i64 k) w6 rfl ?_
    refine Kit.wpList_run rfl (.slice (if c = k then some ad else some (ad.add (k * 14))) (n - k) (c - k)) w6 (Mo.slc_sgR _ _ _ _ _ _ _ _ ad n c k rfl rfl hk HCP.out) ?_
    refine Kit.wpList_app_slM Mo.elS _ rfl _ _ rfl v6 (k + 1) _ rfl ho6 HS6.out omg (if c = k then some ad else some (ad.add (k * 14))) (n - k) (c - k) ((L.drop k).flatMap Mo.sgC) omg rfl (by rw [Mo.sgs_len, List.length_drop, HNL.out]) (fun a e j u hu => Mo.sg_tail ((HNL.out ▸ HS.out.kept HB6.out nlr : Tp.Sl _ (some ad) L.length 14 (Ex.sgc L))) k c (by rw [HNL.out]; exact hk) (by rw [HNL.out]; exact HCP.out) a e j u hu) (fun e => absurd e (by split <;> simp)) (Mo.sg_one _) ?_
    intro v7 w7 ho7 hg7
    have HB7 := qh (show Below w.heap.size w w7 from HB6.out.grown hg7 HB6.out.size (fun q hq => by have := (ho6.lt q hq).1; have := HW5.out; omega))
    have hrow : w7.ownsRow W2.heap.size 60 14 v7 (n + 1) ((Mo.putI Mo.befB x L).flatMap Mo.sgC) := by
     have e1 : k + 1 + (n - k) = n + 1 := by omega
     have e2 : (Mo.putI Mo.befB x L).flatMap Mo.sgC = (L.take k).flatMap Mo.sgC ++ SL ++ (L.drop k).flatMap Mo.sgC := by
      unfold Mo.putI
      rw [HNL.out, HK.out, List.flatMap_append, List.flatMap_cons, HSX.out, List.append_assoc]
     rw [e1] at ho7
     rw [e2]
     exact ho7
    obtain ⟨a7, c7, rfl, hc7, hs7⟩ := Mo.own_sg hrow (by rw [Mo.putI_len, HNL.out]) omg
    have HP7 := qh (show n + 1 ≤ c7 ∧ Tp.Sl w7 (some a7) (n + 1) 14 (Ex.sgc (Mo.putI Mo.befB x L)) from ⟨hc7, by rw [Mo.putI_len, HNL.out] at hs7; exact hs7⟩)
    clear ho6 ho7 hg7 hrow hc7 hs7
    simp only [Act.put]
    go_simp
    go_wp2_with fail
    all_goals
     go_ret
     exact ⟨⟨a7, c7, rfl, HP7.out.1, HP7.out.2⟩, HB7.out⟩
   ·obtain ⟨j, rfl⟩ : ∃ j, k = j + 1 := by
     rcases k with _ | j
     ·simp at hg
     ·exact ⟨j, rfl⟩
    have HK := qh (show Mo.posI Mo.befB x L j = Mo.posI Mo.befB x L n by
     rw [← HP.out]
     show _ = if _ then _ else _
     rw [if_pos (by simpa using hg)])
    clear hg
    have e1 : IntKind.i64.wrap ((j : Int) + 1 - 1) = j := by rw [IntKind.wrap_i64] <;> omega
    apply_assumption
    go_wp2_with fail
    go_roundg j
    case measure => omega
    case rel => exact ⟨j, by go_num, by omega, Nat.le_refl _, HK, HB2, HX2⟩
end Go.Proofs.YtedolbjgdedoaaaGreatDoor
