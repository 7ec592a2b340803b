/- A whole slice appended to an empty literal (turned from the text of layer 48, whose other parts do not fill here); signs and reals in rows of one's own that are written in place. -/
import Derived.Test.YtedolbjgdedoaaaGreatDoorMrA
import Derived.Test.YtedolbjgdedoaaaGreatDoorMrB
import Derived.ArgAppend
set_option linter.unusedSimpArgs false
set_option linter.unusedVariables false
namespace Go.Proofs.YtedolbjgdedoaaaGreatDoor
open Go.RowKit Go.Shelf
namespace Kit
section
variable {P : Program}
theorem run_app_zero (w : World) (t ty e : TypeId) (i : TypeInfo) (ht : P.underlying t = some (.slice e)) (hi : P.info? e = some i) (b : Option Addr) (n cap : Nat) (a : Option Addr) (c : Nat) (hn : n ≤ cap) :
  (Builtin.append_ #[t, t] ty #[.slice b n cap, .slice a 0 c]).run P w = .ok (.slice b n cap) w := by
 cases a with
 | none =>
  unfold Builtin.append_
  cases b <;> simp [Builtin.lenOf, Builtin.firstCells, hn, go_sem, run_underlying ht, run_sizeOf w hi]
 | some a =>
  have hfc := run_firstCells_some (P := P) w i.size 0 a 0 c [] (by simp) (by simp)
  cases b <;> simp [Builtin.append_, run_underlying ht, sizeOf, typeInfo, hi, Builtin.lenOf, hn, hfc, storeCells]
theorem run_app_emptyM {t e : TypeId} {z : Value} {size bytes : Nat} (E : El P t e z size bytes) (w : World) (ty : TypeId) {B b : Nat} (h : w.ownsRow B e size (.slice (some ⟨b, 0, none⟩) 0 0) 0 []) (hB : B ≤ w.heap.size)
  (a0 : Option Addr) (m c : Nat) (news : List Value) (hm : m ≤ 1000000000) (hl : news.length = m * size) (h0 : m ≠ 0 → ∃ ad, a0 = some ad ∧ ∀ j u, news[j]? = some u → w.cell? (ad.add j) = some u) :
  ∃ v' w', (Builtin.append_ #[t, t] ty #[.slice (some ⟨b, 0, none⟩) 0 0, .slice a0 m c]).run P w = .ok v' w' ∧ w'.ownsRow B e size v' m news ∧ Below w.heap.size w w' := by
 obtain ⟨i, hi, hz, hsz, hby⟩ := info_parts E.info
 by_cases h1 : m = 0
 ·subst h1
  obtain rfl : news = [] := List.eq_nil_of_length_eq_zero (by simpa using hl)
  exact ⟨_, w, run_app_zero w t ty e i E.under hi _ 0 0 a0 c nlr, h, Below.refl _ _⟩
 ·obtain ⟨ad, rfl, hc⟩ := h0 h1
  have hb : (0 + m) * bytes ≤ 140737488355328 := Nat.le_trans (Nat.mul_le_mul (show 0 + m ≤ 2000000000 by omega) E.small) omg
  obtain ⟨v', w', hrun, h2, h3⟩ := run_append_arg_grows (P := P) w t ty e i z size bytes E.under hi hz hsz hby E.cells E.pos ⟨b, 0, none⟩ 0 0 [] (by simp) (by simp) ad m c news hl hc omg (by unfold maxLen; omega) hb
  refine ⟨v', w', hrun, ?_, ((Kit.Exc.refl (fun _ => False) w).grown h3 (fun k hk => by cases hk)).below nlr (fun _ h => h.elim)⟩
  rw [Nat.zero_add, List.nil_append] at h2
  exact h2.mono hB
theorem wpList_app_emptyM {t e : TypeId} {z : Value} {size bytes : Nat} (E : El P t e z size bytes) (w : World) {ops : Array Oper} {rest : List Oper} {o : Oper} {a : Act} {Q : Exit → Act → World → Prop} (hgd : o.guard = none) (s x : Operand)
  (ho : o.op = .call { callee := .builtin .append, args := #[s, x], argTypes := #[t, t] }) {B b : Nat} (hs : a.eval s = .slice (some ⟨b, 0, none⟩) 0 0) (h : w.ownsRow B e size (.slice (some ⟨b, 0, none⟩) 0 0) 0 []) (hB : B ≤ w.heap.size)
  (a0 : Option Addr) (m c : Nat) (news : List Value) (hm : m ≤ 1000000000) (hx : a.eval x = .slice a0 m c) (hl : news.length = m * size) (h0 : m ≠ 0 → ∃ ad, a0 = some ad ∧ ∀ j u, news[j]? = some u → w.cell? (ad.add j) = some u)
  (cont : ∀ v' w', w'.ownsRow B e size v' m news → Below w.heap.size w w' → wpList P ops Q rest (a.put o.dst v') w') : wpList P ops Q (o :: rest) a w := by
 obtain ⟨v', w', hrun, h1, h2⟩ := run_app_emptyM E w o.type h hB a0 m c news hm hl h0
 refine wpList_plain hgd fun K hK => ?_
 unfold Oper.wp
 simp [execOp, ho, resolve, invoke, builtin, hs, hx, hrun, Result.andThen]
 exact hK _ _ (cont _ _ h1 h2)
end
end Kit
end Go.Proofs.YtedolbjgdedoaaaGreatDoor
