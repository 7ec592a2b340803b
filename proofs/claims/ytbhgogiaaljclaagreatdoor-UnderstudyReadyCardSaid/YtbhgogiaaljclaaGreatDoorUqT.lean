/- Walks: the reference of layer 48: Ready, whole; the law UnderstudyReadySpec. -/
import Derived.Test.YtbhgogiaaljclaaGreatDoorUqs
import Derived.Test.YtbhgogiaaljclaaGreatDoorUyA
set_option linter.unusedSimpArgs false
set_option linter.unusedVariables false
set_option maxRecDepth 100000
set_option maxHeartbeats 4000000
namespace Go.Proofs.YtbhgogiaaljclaaGreatDoor
open Go.RowKit Go.Shelf
theorem Tp.Sl.congr {w : World} {a : Option Addr} {n k : Nat} {f g : Nat → Nat → Value} (h : Tp.Sl w a n k f) (hf : ∀ i j, i < n → j < k → f i j = g i j) : Tp.Sl w a n k g := by
 rcases h with h | ⟨ad, e, h1, h2⟩
 ·exact .inl h
 ·exact .inr ⟨ad, e, h1, fun i j hi hj => by rw [h2 i j hi hj, hf i j hi hj]⟩
theorem Un.nc_nums (l : List Nat) (i j : Nat) (hi : i < l.length) : Un.ic (Un.nums l) i j = Uy.nc l i j := by
 unfold Un.ic Uy.nc Un.nums
 simp [List.getD, hi]
theorem Un.Ready.len {x : Ex.Wk} {bs : List Un.Bd} {cast : List Int} {role bar : Int} {l : List Nat} (hr : Un.Ready x bs cast role bar l) (hE : Un.readyE x bs cast role bar = 0) : l.length ≤ 16 := by
 have h1 := hr.perm.length_eq
 have h2 := List.length_filter_le (Un.fits x bs cast role bar) (List.range bs.length)
 have h3 : bs.length ≤ 16 := by
  have h := hE
  unfold Un.readyE at h
  by_cases h0 : Ex.chk x = 0
  ·rw [if_neg (by simp [h0])] at h
   by_cases hn : 16 < bs.length
   ·rw [if_pos hn] at h; cases h
   ·omega
  ·rw [if_pos h0] at h; exact absurd h h0
 simp at h2; omega
theorem Un.Ready.one {x : Ex.Wk} {bs : List Un.Bd} {cast : List Int} {role bar : Int} {l m : List Nat} (h1 : Un.Ready x bs cast role bar l) (h2 : Un.Ready x bs cast role bar m) : l = m :=
 Un.bef_unique (Un.prc x bs role bar) h1.srt h2.srt (h1.perm.trans h2.perm.symm)
theorem Uy.RdP.both {x : Ex.Wk} {bs : List Un.Bd} {cast : List Int} {role bar : Int} {a a' : Option Addr} {n n' : Nat} {w : World} (h1 : Uy.RdP x bs cast role bar a n w) (h2 : Uy.RdP x bs cast role bar a' n' w) :
  ∃ L : List Int, n = L.length ∧ n' = L.length ∧ L.length ≤ 16 ∧ Tp.Sl w a L.length 1 (Un.ic L) ∧ Tp.Sl w a' L.length 1 (Un.ic L) := by
 rcases h1 with ⟨e1, rfl⟩ | ⟨e1, l, rfl, hl, hr, hs⟩ <;> rcases h2 with ⟨e2, rfl⟩ | ⟨e2, m, rfl, hm, hr2, hs2⟩
 ·exact ⟨[], rfl, rfl, by simp, .inl rfl, .inl rfl⟩
 ·exact absurd e2 e1
 ·exact absurd e1 e2
 ·obtain rfl := hr.one hr2
  refine ⟨Un.nums l, by rw [Un.nums_len], by rw [Un.nums_len], by rw [Un.nums_len]; exact hl, ?_, ?_⟩
  ·rw [Un.nums_len]; exact hs.congr fun i j hi _ => (Un.nc_nums l i j hi).symm
  ·rw [Un.nums_len]; exact hs2.congr fun i j hi _ => (Un.nc_nums l i j hi).symm
theorem ru_Ready (x : Ex.Wk) (p : Ex.Wa) (w : World) (ha : Ex.At w x p) (bs : List Un.Bd) (a : Option Addr) (c : Nat) (hS : Tp.Sl w a bs.length 17 (Un.bdF bs)) (hl : bs.length ≤ 4611686018427387904) (hns : ∀ b ∈ bs, b.name.size ≤ 9223372036854775807)
  (cast : List Int) (ac : Option Addr) (cc : Nat) (hC : Tp.Sl w ac cast.length 1 (Un.ic cast)) (hlc : cast.length ≤ 1000000000) (hcc : cast.length ≤ cc) (role bar : Int) :
  Calls Tryz.prog 17 #[Ex.workV x p, .slice a bs.length c, .slice ac cast.length cc, .int .i64 role, .int .i64 bar] w fun e w' => (∃ a n c, e = .returned (.tuple #[.slice a n c, .int .i64 (Un.readyE x bs cast role bar)]) ∧ Uy.RdP x bs cast role bar a n w') ∧ Below w.heap.size w w' := by
 by_cases hE : Un.readyE x bs cast role bar = 0
 ·refine (ru_Ready_0 x p w ha bs a c hS hl hns cast ac cc hC hlc hcc role bar hE).mono ?_
  rintro _ w' ⟨⟨a2, c2, l, rfl, hr, hs⟩, hb⟩
  refine ⟨⟨a2, _, c2, by rw [hE], .inr ⟨hE, l, rfl, hr.len hE, hr, ?_⟩⟩, hb⟩
  exact hs.congr fun i j hi _ => Un.nc_nums l i j hi
 ·refine (ru_Ready_e x p w ha bs a c hS hl hns cast ac cc hC hlc hcc role bar hE).mono ?_
  rintro _ w' ⟨rfl, hb⟩
  exact ⟨⟨none, 0, 0, rfl, .inl ⟨hE, rfl⟩⟩, hb⟩
theorem lw_readyspec (x : Ex.Wk) (p : Ex.Wa) (w : World) (hL : Ex.Laid w) (hF : Uo.Flat w) (ha : Ex.At w x p) (bs : List Un.Bd) (a : Option Addr) (c : Nat) (hS : Tp.Sl w a bs.length 17 (Un.bdF bs)) (hl : bs.length ≤ 4611686018427387904) (hns : ∀ b ∈ bs, b.name.size ≤ 9223372036854775807)
  (cast : List Int) (ac : Option Addr) (cc : Nat) (hC : Tp.Sl w ac cast.length 1 (Un.ic cast)) (hcc : cast.length ≤ cc) (role bar : Int) :
  Calls Tryz.prog 4 #[Ex.workV x p, .slice a bs.length c, .slice ac cast.length cc, .int .i64 role, .int .i64 bar] w fun e w' => e = .returned (.bool true) ∧ Below w.heap.size w w' := by
 have HSN := qh (fun W (hb : Below w.heap.size w W) => lw_sane W (hL.kept hb nlr) (hF.kept hb nlr))
 have HFW := qh (fun W => lw_few x p bs.length cast.length c cc a ac W)
 have HR := qh (fun W (hb : Below w.heap.size w W) (hlc : cast.length ≤ 1000000000) => un_ready x p W (hL.kept hb nlr) (hF.kept hb nlr) (ha.kept hb nlr) bs a c (hS.kept hb nlr) hl hns cast ac cc (hC.kept hb nlr) hlc hcc role bar)
 have HQ := qh (fun W (hb : Below w.heap.size w W) (hlc : cast.length ≤ 1000000000) => ru_Ready x p W (ha.kept hb nlr) bs a c (hS.kept hb nlr) hl hns cast ac cc (hC.kept hb nlr) hlc hcc role bar)
 dsimp only [Ex.workV, Ex.wv] at HFW HR HQ
 clear hL hF ha hS hns hC
 obtain ⟨r, hr⟩ : ∃ r, Un.readyE x bs cast role bar = r := ⟨_, rfl⟩
 rw [hr] at HR HQ
 clear hr
 go_enter Tryz.func4, Tryz.ntmps4
 go_upto_region 1 with fail
 refine Kit.wp_name ?_
 intro W1 hW1
 have HW1 := qh (show Un.WH w x p W1 by
  rw [hW1]
  exact ⟨by exact Kit.gr, fun j => by simp [go_sem], by simp⟩)
 clear hW1
 go_wp2_with fail
 refine (HSN.out _ HW1.out.bel).mono ?_
 rintro _ W2 ⟨rfl, hb⟩
 have HW2 := qh (HW1.out.then hb)
 clear hb HW1
 have wk2 := HW2.out.wk
 go_wp2_with fail
 refine (HFW.out _).mono ?_
 rintro _ W3 ⟨⟨fb, rfl, hfb⟩, hb⟩
 have HW3 := qh (HW2.out.then hb)
 have HFB := qh hfb
 clear hb HW2 wk2 hfb
 rcases fb with _ | _
 ·go_wp2_with fail
  go_ret
  exact ⟨rfl, HW3.out.bel⟩
 have hlc := (HFB.out (by first | rfl | trivial)).2
 have wk3 := HW3.out.wk
 go_wp2_with fail
 refine (HR.out _ HW3.out.bel omg).mono ?_
 rintro _ W4 ⟨⟨a4, n4, c4, rfl, hr4⟩, hb⟩
 have HW4 := qh (HW3.out.then hb)
 have HR4 := qh hr4
 clear hb HW3 wk3 hr4
 have wk4 := HW4.out.wk
 go_wp2_with fail
 refine (HQ.out _ HW4.out.bel omg).mono ?_
 rintro _ W5 ⟨⟨a5, n5, c5, rfl, hr5⟩, hb⟩
 have HW5 := qh (HW4.out.then hb)
 obtain ⟨L, rfl, rfl, hl16, s1, s2⟩ := (HR4.out.kept hb).both hr5
 have HSM := qh ((by have h := rf_sameints a4 L c4 a5 L c5 W5 omg omg s1 s2; rwa [decide_eq_true rfl] at h : Calls Tryz.prog 18 #[.slice a4 L.length c4, .slice a5 L.length c5] W5 fun e w' => e = .returned (.bool true) ∧ Below W5.heap.size W5 w'))
 clear hb HW4 wk4 hr5 HR4 s1 s2
 go_wp2_with fail
 refine HSM.out.mono ?_
 rintro _ W6 ⟨rfl, hb⟩
 have HW6 := qh (HW5.out.then hb)
 clear hb
 go_wp2_with fail
 go_ret
 exact ⟨by simp, HW6.out.bel⟩
end Go.Proofs.YtbhgogiaaljclaaGreatDoor
