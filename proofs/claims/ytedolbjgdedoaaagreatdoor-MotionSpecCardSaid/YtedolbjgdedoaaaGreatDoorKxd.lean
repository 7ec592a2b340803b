/- Append of a whole slice, nil too, to a slice of one's own, at a step of a region that draws. A region that draws its order, by what is known of each operation's value, where some operations write what others made: an operation need not keep what is no longer wanted behind it. -/
import Derived.Test.YtedolbjgdedoaaaGreatDoorKit
import Derived.Deep.AppendLies
import Derived.Deep.RegionLaw
set_option linter.unusedSimpArgs false
set_option linter.unusedVariables false
namespace Go.Proofs.YtedolbjgdedoaaaGreatDoor.Kit
open Go.RowKit

theorem run_append_nil {P : Program} (w : World) (t ty e : TypeId) (i : TypeInfo) (ht : P.underlying t = some (.slice e)) (hi : P.info? e = some i) (b : Option Addr) (n cap c : Nat) (hn : n ≤ cap) :
  (Builtin.append_ #[t, t] ty #[.slice b n cap, .slice none 0 c]).run P w = .ok (.slice b n cap) w := by
 unfold Builtin.append_
 cases b <;> simp [Builtin.lenOf, Builtin.firstCells, hn, go_sem, run_underlying ht, run_sizeOf w hi]

theorem run_append_sl {P : Program} (w : World) (base : Nat) (t ty e : TypeId) (i : TypeInfo) (z : Value) (size bytes : Nat) (ht : P.underlying t = some (.slice e)) (hi : P.info? e = some i) (hz : i.zero = some z)
  (hsize : i.size = size) (hby : i.bytes = bytes) (hzs : z.cells.size = size) (hsz : 0 < size)
  (v : Value) (n : Nat) (xs : List Value) (hown : w.ownsRow base e size v n xs)
  (ad : Option Addr) (m c : Nat) (news : List Value) (hl : news.length = m * size) (hnews : ∀ a, ad = some a → ∀ j u, news[j]? = some u → w.cell? (a.add j) = some u) (hnil : ad = none → m = 0) (h1 : ∀ u ∈ news, u.oneCell' = true)
  (h63 : n + m ≤ maxLen) (hbytes : (n + m) * bytes ≤ 140737488355328) (hbase : base ≤ w.heap.size) :
  ∃ v' w', (Builtin.append_ #[t, t] ty #[v, .slice ad m c]).run P w = .ok v' w' ∧ w'.ownsRow base e size v' (n + m) (xs ++ news) ∧ w.grownBy w' v.ownBlock ∧
   (∀ k, v'.ownBlock = some k → v.ownBlock = some k ∨ w.heap.size ≤ k) := by
 cases ad with
 | some a =>
  obtain ⟨v', w', hr, h2, h3, _, h5⟩ := run_append_own' (P := P) w base t ty e i z size bytes ht hi hz hsize hby hzs hsz v n xs hown a m c news hl (hnews a rfl) h1 h63 hbytes hbase
  exact ⟨v', w', hr, h2, h3, h5⟩
 | none =>
  obtain rfl := hnil rfl
  obtain rfl : news = [] := List.eq_nil_of_length_eq_zero (by simpa using hl)
  have hv : ∃ b cap, v = .slice b n cap ∧ n ≤ cap := by
   rcases hown.2 with ⟨rfl, rfl⟩ | ⟨g, cap, cur, rfl, _, _, hc, _⟩
   ·exact ⟨none, 0, rfl, Nat.le_refl _⟩
   ·exact ⟨_, cap, rfl, hc⟩
  obtain ⟨b, cap, rfl, hc⟩ := hv
  exact ⟨_, w, run_append_nil w t ty e i ht hi b n cap c hc, by simpa using hown, ⟨rfl, rfl, rfl, Nat.le_refl _, fun k _ _ => rfl⟩, fun k hk => .inl hk⟩

section
variable {P : Program} {ops : Array Oper} {Q : Exit → Act → World → Prop}

def deadB (ops : Array Oper) (n i q : Nat) : Bool :=
 (q != i) && (List.range n).all fun c => match ops[c]? with
  | none => true
  | some o => (o.after.all fun e => !(Region.binds .any e && e.on == i)) || c == q || (match ops[q]? with | none => false | some oq => oq.after.any fun e => Region.binds .any e && e.on == c)
theorem deadB_use {n i q c : Nat} {o : Oper} (h : deadB ops n i q = true) (hc : c < n) (ho : ops[c]? = some o) {e : _} (he : e ∈ o.after) (hb : Region.binds .any e = true) (hi : e.on = i) :
  c = q ∨ ∃ oq, ops[q]? = some oq ∧ ∃ e' ∈ oq.after, Region.binds .any e' = true ∧ e'.on = c := by
 unfold deadB at h
 rw [Bool.and_eq_true] at h
 have h2 := (List.all_eq_true.1 h.2) c (List.mem_range.2 hc)
 simp only [ho] at h2
 rw [Bool.or_eq_true, Bool.or_eq_true] at h2
 rcases h2 with (h2 | h2) | h2
 ·have := Array.all_eq_true_iff_forall_mem.1 h2 e he
  simp [hb, hi] at this
 ·exact .inl (by simpa using h2)
 ·right
  cases hq : ops[q]? with
  | none => simp [hq] at h2
  | some oq =>
   simp only [hq] at h2
   obtain ⟨e', he', hb'⟩ := Array.any_eq_true'.1 h2
   simp only [Bool.and_eq_true, beq_iff_eq] at hb'
   exact ⟨oq, rfl, e', he', hb'.1, hb'.2⟩
structure RInv2 (ops : Array Oper) (n : Nat) (a0 : Act) (E0 : World → Prop) (D : Nat → Nat → Bool) (Φ : Nat → Value → World → Prop) (listed : Array Bool) (a : Act) (w : World) : Prop where
 ext : E0 w
 defs : a.defers = a0.defers
 size : a.tmps.size = a0.tmps.size
 old : ∀ t, (∀ i, i < n → listed.getD i false = true → dstOf ops i ≠ some t) → a.tmps[t]? = a0.tmps[t]?
 new : ∀ i, i < n → listed.getD i false = true → ∃ v, ((∀ q, q < n → listed.getD q false = true → D i q = false) → Φ i v w) ∧ ∀ t, dstOf ops i = some t → a.tmps[t]? = some v

def ROp2 (P : Program) (ops : Array Oper) (Q : Exit → Act → World → Prop) (n : Nat) (a0 : Act) (E0 : World → Prop) (E : Nat → World → World → Prop) (Φ : Nat → Value → World → Prop) (i : Nat) (o : Oper) : Prop :=
 ∀ a w, E0 w → a.defers = a0.defers → a.tmps.size = a0.tmps.size → (∀ t, (∀ j, j < n → dstOf ops j ≠ some t) → a.tmps[t]? = a0.tmps[t]?) →
  (∀ e ∈ o.after, Region.binds .any e = true → ∃ v, Φ e.on v w ∧ ∀ t, dstOf ops e.on = some t → a.tmps[t]? = some v) →
  wpOp P ops Q i (fun a' w' => ∃ v, a' = a.put o.dst v ∧ Φ i v w' ∧ E i w w') a w

theorem wpAny_of_inv2 {n : Nat} {a0 : Act} {E0 : World → Prop} {E : Nat → World → World → Prop} {D : Nat → Nat → Bool} {Φ : Nat → Value → World → Prop} (ok : RegOk ops n a0.tmps.size)
  (hD : ∀ i q, i < n → q < n → D i q = true → deadB ops n i q = true) (hE : ∀ {q A B}, q < n → E0 A → E q A B → E0 B) (hst : ∀ q i v A B, q < n → i < n → q ≠ i → D i q = false → E0 A → E q A B → Φ i v A → Φ i v B)
  (hop : ∀ (i : Nat) (o : Oper), i < n → ops[i]? = some o → ROp2 P ops Q n a0 E0 E Φ i o)
  (hend : ∀ (vs : Nat → Value) w, (∀ i, i < n → (∀ q, q < n → D i q = false) → Φ i (vs i) w) → E0 w → wpList P ops Q (ops.toList.drop n) (putAll ops vs n a0) w) :
  ∀ (f : Nat) (listed : Array Bool) (a : Act) (w : World), listed.size = ops.size → (∀ j oj, ops[j]? = some oj → listed.getD j false = true → ∀ e ∈ oj.after, Region.binds .any e = true → listed.getD e.on false = true) →
   (∀ t, n ≤ t → t < ops.size → listed.getD t true = false) → RInv2 ops n a0 E0 D Φ listed a w → ((List.range n).countP fun i => !listed.getD i false) = f → wpAny P .any ops Q (f + (ops.size - n)) listed a w := by
 intro f
 induction f with
 | zero =>
  intro listed a w hsz hcl htl inv hf
  have hall : ∀ i, i < n → listed.getD i false = true := fun i hi => by
   have := (List.countP_eq_zero.1 hf) i (List.mem_range.2 hi)
   simpa using this
  have hlist : listed = ((List.range ops.size).map fun i => decide (i < n)).toArray := by
   apply Array.ext
   ·simp [hsz]
   ·intro i h1 h2
    simp only [List.getElem_toArray, List.getElem_map, List.getElem_range]
    by_cases hi : i < n
    ·have := hall i hi
     rw [Array.getD_eq_getD_getElem?, Array.getElem?_eq_getElem h1] at this
     simpa [hi] using this
    ·have := htl i omg omg
     rw [Array.getD_eq_getD_getElem?, Array.getElem?_eq_getElem h1] at this
     simpa [hi] using this
  have hch : ∀ i, ∃ v, i < n → ((∀ q, q < n → listed.getD q false = true → D i q = false) → Φ i v w) ∧ ∀ t, dstOf ops i = some t → a.tmps[t]? = some v := fun i => by
   by_cases hi : i < n
   ·obtain ⟨v, hv⟩ := inv.new i hi (hall i hi)
    exact ⟨v, fun _ => hv⟩
   ·exact ⟨undef, fun h => absurd h hi⟩
  obtain ⟨vs, hvs⟩ := Classical.axiomOfChoice hch
  have ha : a = putAll ops vs n a0 := by
   have h1 : a.tmps = (putAll ops vs n a0).tmps := by
    apply Array.ext_getElem?
    intro t
    by_cases hd : ∃ i, i < n ∧ dstOf ops i = some t
    ·obtain ⟨i, hi, hd⟩ := hd
     rw [(hvs i hi).2 t hd, putAll_new vs t i hd n a0 hi (fun j hj hne => fun h => ok.apart j i t hj hi hne h hd) (ok.inn i t hi hd)]
    ·rw [inv.old t (fun i hi _ h => hd ⟨i, hi, h⟩), putAll_old vs t n a0 (fun i hi h => hd ⟨i, hi, h⟩)]
   have h2 : a.defers = (putAll ops vs n a0).defers := by rw [inv.defs, putAll_defers]
   cases a
   cases hp : putAll ops vs n a0
   simp_all
  have hlen : (ops.toList.drop n).length = ops.size - n := by simp
  have := wpAny_of_seq (md := .any) (Q' := Q) (P := P) (ops := ops) (ops.toList.drop n) n listed a w (fun j => by simp) (by rw [hlen, hlist]; exact ok.seq)
   (by rw [ha]; exact hend vs w (fun i hi hq => (hvs i hi).1 (fun q hq2 _ => hq q hq2)) inv.ext)
  rw [Nat.zero_add]
  rwa [hlen] at this
 | succ f ih =>
  intro listed a w hsz hcl htl inv hf
  -- the least that is not listed is ready
  have hex : ∃ i, i < n ∧ listed.getD i false = false := by
   apply Classical.byContradiction
   intro hno
   have : ((List.range n).countP fun i => !listed.getD i false) = 0 := List.countP_eq_zero.2 fun i hi => by
    have hin := List.mem_range.1 hi
    cases h : listed.getD i false with
    | true => simp
    | false => exact absurd ⟨i, hin, h⟩ hno
   omega
  have hready : Region.ready .any ops listed ≠ [] := by
   have hmin : ∀ i, i < n → listed.getD i false = false → ∃ j, j ∈ Region.ready .any ops listed := by
    intro i
    induction i using Nat.strongRecOn with
    | ind i ihi =>
     intro hi hl
     have hio : i < ops.size := Nat.lt_of_lt_of_le hi ok.le
     obtain ⟨o, ho⟩ : ∃ o, ops[i]? = some o := ⟨_, Array.getElem?_eq_getElem hio⟩
     by_cases hp : ∀ e ∈ o.after, Region.binds .any e = true → listed.getD e.on false = true
     ·exact ⟨i, mem_ready.2 ⟨getD_in omg hl, o, ho, hp⟩⟩
     ·obtain ⟨e, he⟩ := Classical.not_forall.1 hp
      obtain ⟨he1, he2⟩ := Classical.not_imp.1 he
      obtain ⟨hb, he3⟩ := Classical.not_imp.1 he2
      have hlt := ok.back i o ho e he1 hb
      exact ihi e.on hlt omg (by simpa using he3)
   obtain ⟨i, hi, hl⟩ := hex
   obtain ⟨j, hj⟩ := hmin i hi hl
   exact fun h => by rw [h] at hj; cases hj
  rw [show f + 1 + (ops.size - n) = (f + (ops.size - n)) + 1 by omega]
  refine ⟨fun h0 => absurd h0 hready, fun i hi => ?_⟩
  obtain ⟨hun, o, ho, hall⟩ := mem_ready.1 hi
  have hio : i < ops.size := (Array.getElem?_eq_some_iff.1 ho).1
  have hin : i < n := by
   rcases Nat.lt_or_ge i n with h | h
   ·exact h
   ·exfalso
    rcases ok.tail with ht | ⟨ht1, ht2⟩
    ·omega
    ·obtain ⟨k, hk, hl⟩ := hex
     have hI : HeadInv .any ops n listed := ⟨hsz, hcl, htl⟩
     exact tail_waits ht1 ht2 omg hI _ k rfl hk (getD_in omg hl) i h hi
  have hpre : ∀ e ∈ o.after, Region.binds .any e = true → ∃ v, Φ e.on v w ∧ ∀ t, dstOf ops e.on = some t → a.tmps[t]? = some v := fun e he hb => by
   obtain ⟨v, hv, hs⟩ := inv.new e.on (Nat.lt_trans (ok.back i o ho e he hb) hin) (hall e he hb)
   refine ⟨v, hv fun q hq hl => ?_, hs⟩
   cases hd : D e.on q with
   | false => rfl
   | true =>
    exfalso
    rcases deadB_use (hD e.on q (Nat.lt_trans (ok.back i o ho e he hb) hin) hq hd) hin ho he hb rfl with h | ⟨oq, hoq, e', he', hb', hi'⟩
    ·subst h
     have h2 := getD_both hun
     rw [hl] at h2; cases h2
    ·have h1 := hcl q oq hoq hl e' he' hb'
     rw [hi'] at h1
     have h2 := getD_both hun
     rw [h1] at h2; cases h2
  refine wpOp_mono ?_ (hop i o hin ho a w inv.ext inv.defs inv.size (fun t ht => inv.old t (fun j hj _ => ht j hj)) hpre)
  rintro a' w' ⟨v, rfl, hv, hx⟩
  have hdo : dstOf ops i = o.dst := by simp [dstOf, ho]
  refine ih _ _ w' (by simp [hsz]) ?_ ?_ ⟨hE hin inv.ext hx, by rw [put_defers, inv.defs], by rw [put_size, inv.size], ?_, ?_⟩ ?_
  ·intro j oj hj hl e he hb
   by_cases hij : i = j
   ·subst hij
    have : oj = o := Option.some.inj (hj.symm.trans ho)
    subst this
    exact getD_set_true (hall e he hb)
   ·rw [getD_set_ne false hij] at hl
    exact getD_set_true (hcl j oj hj hl e he hb)
  ·intro t h1 h2
   rw [getD_set_ne true omg]
   exact htl t h1 h2
  ·intro t ht
   rw [put_get, if_neg]
   ·exact inv.old t (fun j hj hl => ht j hj (getD_set_true hl))
   ·rw [← hdo]
    exact ht i hin (by simp [Array.getD_eq_getD_getElem?, hsz, hio])
  ·intro j hj hl
   by_cases hij : i = j
   ·subst hij
    refine ⟨v, fun _ => hv, fun t ht => ?_⟩
    rw [put_get, if_pos (by rw [← hdo]; exact ht), if_pos (by rw [inv.size]; exact ok.inn i t hin ht)]
   ·rw [getD_set_ne false hij] at hl
    obtain ⟨u, hu, hut⟩ := inv.new j hj hl
    refine ⟨u, fun hP => hst i j u w w' hin hj hij (hP i hin (by simp [Array.getD_eq_getD_getElem?, hsz, hio])) inv.ext hx (hu fun q hq hl2 => hP q hq (getD_set_true hl2)), fun t ht => ?_⟩
    rw [put_get, if_neg (by rw [← hdo]; exact ok.apart j i t hj hin (Ne.symm hij) ht)]
    exact hut t ht
  ·have h1 : ∀ (l : List Nat), l.Nodup → i ∈ l → (l.countP fun j => !listed.getD j false) = (l.countP fun j => !(listed.setIfInBounds i true).getD j false) + 1 := by
    intro l
    induction l with
    | nil => intro _ h; cases h
    | cons x l ihl =>
     intro hnd hmem
     obtain ⟨hx1, hx2⟩ := List.nodup_cons.1 hnd
     rw [List.countP_cons, List.countP_cons]
     by_cases hxi : x = i
     ·subst hxi
      have e1 : (l.countP fun j => !listed.getD j false) = l.countP fun j => !(listed.setIfInBounds x true).getD j false :=
       List.countP_congr fun j hj => by rw [getD_set_ne false (by rintro rfl; exact hx1 hj)]
      have e2 : (listed.setIfInBounds x true).getD x false = true := by simp [Array.getD_eq_getD_getElem?, hsz, hio]
      rw [e1, e2, getD_both hun]
      simp
     ·rw [ihl hx2 (by rcases List.mem_cons.1 hmem with h | h; exact absurd h.symm hxi; exact h), getD_set_ne false (Ne.symm hxi)]
      omega
   have := h1 (List.range n) List.nodup_range (List.mem_range.2 hin)
   omega

theorem wp_region_inv2 {id : Nat} {l : List Oper} {a0 : Act} {w0 : World} (n : Nat) (hm : P.follows .mixedOrders = true) (hB : regB l.toArray n a0.tmps.size = true)
  (E0 : World → Prop) (E : Nat → World → World → Prop) (D : Nat → Nat → Bool) (Φ : Nat → Value → World → Prop)
  (hD : ((List.range n).all fun i => (List.range n).all fun q => !D i q || deadB l.toArray n i q) = true) (hE : ∀ {q A B}, q < n → E0 A → E q A B → E0 B) (hE0 : E0 { w0 with drawn := w0.drawn + 1 }) (hst : ∀ q i v A B, q < n → i < n → q ≠ i → D i q = false → E0 A → E q A B → Φ i v A → Φ i v B)
  (hop : Steps (ROp2 P l.toArray Q n a0 E0 E Φ) 0 (l.take n))
  (hend : ∀ (vs : Nat → Value) w, (∀ i, i < n → (∀ q, q < n → D i q = false) → Φ i (vs i) w) → E0 w → wpList P l.toArray Q (l.drop n) (putAll l.toArray vs n a0) w) :
  (Code.region id l.toArray true).wp P Q a0 w0 := by
 have ok := regOk_of hB
 have hnl : n ≤ l.length := by simpa using ok.le
 refine wp_region_any hm ?_
 have h0 : ((List.range n).countP fun i => !(Array.replicate l.toArray.size false).getD i false) = n := by
  have : ((List.range n).countP fun i => !(Array.replicate l.toArray.size false).getD i false) = (List.range n).length := List.countP_eq_length.2 fun i _ => by rw [getD_replicate_false]; rfl
  simpa using this
 have := wpAny_of_inv2 (P := P) (Q := Q) (E0 := E0) (E := E) (D := D) (Φ := Φ) ok (fun i q hi hq hd => by
   have := (List.all_eq_true.1 ((List.all_eq_true.1 hD) i (List.mem_range.2 hi))) q (List.mem_range.2 hq)
   simpa [hd] using this) (fun h1 h2 h3 => hE h1 h2 h3) hst (fun i o hi ho => by
   have := steps_at _ 0 hop i o (by rw [List.getElem?_take_of_lt hi]; simpa using ho)
   rwa [Nat.zero_add] at this) (by simpa using hend) n (Array.replicate l.toArray.size false) a0 { w0 with drawn := w0.drawn + 1 } (by simp)
   (fun j oj _ hl => by rw [getD_replicate_false] at hl; cases hl) (fun t h1 h2 => getD_in (by simpa using h2) (getD_replicate_false _ _))
   ⟨hE0, rfl, rfl, fun t _ => rfl, fun i _ hl => by rw [getD_replicate_false] at hl; cases hl⟩ h0
 rwa [show n + (l.toArray.size - n) = l.toArray.size by have := ok.le; omega] at this

def VOp2 (P : Program) (a0 : Act) (E0 : World → Prop) (E : Nat → World → World → Prop) (Φ : Nat → Value → World → Prop) (i : Nat) (o : Oper) (rd : List (Tmp × Option Nat)) (g : Option (Nat × Bool)) (run : Bool) : Prop :=
 (match g with | none => True | some (j, want) => ∀ v w, E0 w → Φ j v w → ∃ b, v = .bool b ∧ (b == want) = run) ∧
 ∀ ev w, E0 w → RdP a0 Φ ev w rd → (∀ v, ev (.const v) = v) → (∀ f, ev (.func f) = .func (.func f) #[] #[]) → (∀ g, ev (.global g) = .pointer (some ⟨g, 0, none⟩)) →
  if run then UponV P (fun v w' => Φ i v w' ∧ E i w w') ((execOp ev o).run P w) else Φ i undef w
def StepsV2 (P : Program) (a0 : Act) (E0 : World → Prop) (E : Nat → World → World → Prop) (Φ : Nat → Value → World → Prop) : Nat → List Oper → List (List (Tmp × Option Nat) × Option (Nat × Bool) × Bool) → Prop
 | _, [], [] => True
 | k, o :: l, (rd, g, run) :: m => VOp2 P a0 E0 E Φ k o rd g run ∧ StepsV2 P a0 E0 E Φ (k + 1) l m
 | _, _, _ => False
theorem rop_of_vop2 {Q : Exit → Act → World → Prop} {n i : Nat} {o : Oper} {a0 : Act} {E0 : World → Prop} {E : Nat → World → World → Prop} {Φ : Nat → Value → World → Prop} {rd : List (Tmp × Option Nat)} {g : Option (Nat × Bool)} {run : Bool}
  (hr : ∀ i w, E i w w) (ho : ops[i]? = some o) (hB : rdB ops n i rd = true) (hG : gdB ops i g = true) (hN : g = none → run = true)
  (h : VOp2 P a0 E0 E Φ i o rd g run) : ROp2 P ops Q n a0 E0 E Φ i o := by
 intro a w hx hd hs hold hpre
 obtain ⟨h1, h2⟩ := h
 have hrd := rdP_of ho hold hpre rd hB
 have h3 := h2 a.eval w hx hrd (fun _ => rfl) (fun _ => rfl) (fun _ => rfl)
 have hw : Region.wanted o (yielded ops a.tmps) = run := by
  unfold gdB at hG
  rw [ho] at hG
  cases g with
  | none =>
   cases hg : o.guard with
   | none => rw [hN rfl]; simp [Region.wanted, hg]
   | some x => simp [hg] at hG
  | some x =>
   obtain ⟨j, want⟩ := x
   cases hg : o.guard with
   | none => simp [hg] at hG
   | some y =>
    obtain ⟨k, want'⟩ := y
    simp only [hg, Bool.and_eq_true, beq_iff_eq] at hG
    obtain ⟨⟨⟨rfl, rfl⟩, hsome⟩, hany⟩ := hG
    obtain ⟨e, he, hb⟩ := Array.any_eq_true'.1 hany
    simp only [Bool.and_eq_true, beq_iff_eq] at hb
    obtain ⟨v, hv, ht⟩ := hpre e he hb.1
    rw [hb.2] at hv ht
    obtain ⟨b, rfl, hbw⟩ := h1 v w hx hv
    obtain ⟨t, htd⟩ := Option.isSome_iff_exists.1 hsome
    have htt := ht t htd
    have hy : yielded ops a.tmps j = some b := by
     unfold yielded
     have : (ops[j]?).bind (·.dst) = some t := htd
     rw [this]
     simp [htt]
    simp only [Region.wanted, hg, hy]
    rw [← hbw]
    cases b <;> cases want <;> rfl
 unfold wpOp
 simp only [ho, hw]
 cases run with
 | false => 
  simp only [if_false, Bool.false_eq_true] at h3 ⊢
  exact ⟨undef, rfl, h3, hr i w⟩
 | true =>
  simp only [if_true] at h3 ⊢
  left
  unfold Oper.wp
  generalize (execOp a.eval o).run P w = res at h3 ⊢
  unfold UponV at h3
  unfold Oper.upon
  split at h3
  ·exact ⟨_, rfl, h3.1, h3.2⟩
  ·exact ⟨_, rfl, h3.1, h3.2⟩
  ·refine h3.mono ?_
   rintro e w' ⟨v, rfl, h4, h5⟩
   exact ⟨v, rfl, h4, h5⟩
  ·exact h3.elim

theorem steps_of_stepsV2 {Q : Exit → Act → World → Prop} {n : Nat} {a0 : Act} {E0 : World → Prop} {E : Nat → World → World → Prop} {Φ : Nat → Value → World → Prop} (hr : ∀ i w, E i w w) :
  ∀ (l : List Oper) (m : List (List (Tmp × Option Nat) × Option (Nat × Bool) × Bool)) (k : Nat), (∀ i, i < l.length → ops[k + i]? = l[i]?) → rdsB ops n k m = true → StepsV2 P a0 E0 E Φ k l m → Steps (ROp2 P ops Q n a0 E0 E Φ) k l
 | [], _, _, _, _, _ => trivial
 | o :: l, [], _, _, _, h => h.elim
 | o :: l, (rd, g, run) :: m, k, ho, hB, ⟨h1, h2⟩ => by
  simp only [rdsB, Bool.and_eq_true, Bool.or_eq_true] at hB
  obtain ⟨⟨⟨hb1, hb2⟩, hb3⟩, hb4⟩ := hB
  refine ⟨rop_of_vop2 hr (by have := ho 0 (by simp); simpa using this) hb1 hb2 (fun e => by rw [e] at hb3; simpa using hb3) h1, steps_of_stepsV2 hr l m (k + 1) (fun i hi => by
   have := ho (i + 1) (by simp; omega)
   rw [show k + 1 + i = k + (i + 1) by omega]; simpa using this) hb4 h2⟩


theorem wp_region_vals2 {Q : Exit → Act → World → Prop} {id : Nat} {l : List Oper} {a0 : Act} {w0 : World} (n : Nat) (m : List (List (Tmp × Option Nat) × Option (Nat × Bool) × Bool)) (ds : List (Option Tmp)) (hDs : (l.take n).map (·.dst) = ds) (hm : P.follows .mixedOrders = true)
  (hB : (regB l.toArray n a0.tmps.size && rdsB l.toArray n 0 m) = true)
  (E0 : World → Prop) (E : Nat → World → World → Prop) (D : Nat → Nat → Bool) (Φ : Nat → Value → World → Prop)
  (hD : ((List.range n).all fun i => (List.range n).all fun q => !D i q || deadB l.toArray n i q) = true)
  (hE : ∀ {q A B}, q < n → E0 A → E q A B → E0 B) (hE0 : E0 { w0 with drawn := w0.drawn + 1 }) (hr : ∀ i w, E i w w) (hst : ∀ q i v A B, q < n → i < n → q ≠ i → D i q = false → E0 A → E q A B → Φ i v A → Φ i v B)
  (hop : StepsV2 P a0 E0 E Φ 0 (l.take n) m)
  (hend : ∀ (vs : Nat → Value) w, (∀ i, i < n → (∀ q, q < n → D i q = false) → Φ i (vs i) w) → E0 w → wpList P l.toArray Q (l.drop n) (putD ds vs n a0) w) :
  (Code.region id l.toArray true).wp P Q a0 w0 := by
 rw [Bool.and_eq_true] at hB
 exact wp_region_inv2 n hm hB.1 E0 E D Φ hD (fun h k j => hE h k j) hE0 hst (steps_of_stepsV2 hr _ m 0 (fun i hi => by
  have : i < n := by simp at hi; omega
  rw [Nat.zero_add, List.getElem?_take_of_lt this]; simp) hB.2 hop) (fun vs w h1 h2 => by
   rw [putAll_putD (ds := ds) vs n a0 (fun i hi => by subst hDs; simp [dstOf, List.getD_eq_getElem?_getD, List.getElem?_map, List.getElem?_take_of_lt hi]; cases l[i]? <;> rfl)]
   exact hend vs w h1 h2)
end
end Go.Proofs.YtedolbjgdedoaaaGreatDoor.Kit
