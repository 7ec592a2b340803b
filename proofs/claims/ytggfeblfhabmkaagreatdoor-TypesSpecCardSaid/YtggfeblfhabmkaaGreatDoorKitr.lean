/- A region that draws, whose callees lay blocks, told exactly: so many draws, these blocks behind. -/
import Derived.Test.YtggfeblfhabmkaaGreatDoorKit
import Derived.Shelf.SlSortCmp.WholeK
namespace Go.Proofs.YtggfeblfhabmkaaGreatDoor.Kit
set_option linter.unusedVariables false
set_option linter.unusedSimpArgs false
open Go.RowKit Go.Lib Go.Sort

/-- w' is w, some draws on, with blocks behind. -/
def Lays (w w' : World) : Prop := ∃ q os, w' = grow (w.drewN q) os
theorem Lays.refl (w : World) : Lays w w := ⟨0, #[], by rw [grow_empty]; rfl⟩
theorem Lays.drew {w w' : World} (h : Lays w w') : Lays w w'.drew := by
  obtain ⟨q, os, rfl⟩ := h
  exact ⟨q + 1, os, rfl⟩
theorem Lays.alloc {w w' : World} (h : Lays w w') (o : Obj) : Lays w (w'.alloc o) := by
  obtain ⟨q, os, rfl⟩ := h
  exact ⟨q, os ++ #[o], by rw [alloc_eq_grow, grow_grow]⟩
theorem Lays.trans {w w' w'' : World} (h : Lays w w') (k : Lays w' w'') : Lays w w'' := by
  obtain ⟨q, os, rfl⟩ := h
  obtain ⟨q', os', rfl⟩ := k
  exact ⟨q + q', os ++ os', by simp only [grow, World.drewN, Array.append_assoc, Nat.add_assoc]⟩
theorem Lays.below {w w' : World} (h : Lays w w') : Below w.heap.size w w' := by
  obtain ⟨q, os, rfl⟩ := h
  refine ⟨rfl, rfl, rfl, by simp [grow, World.drewN], fun k hk => ?_⟩
  show (w.heap ++ os)[k]? = w.heap[k]?
  rw [Array.getElem?_append_left hk]
/-- Such a world. -/
structure Ly (w : World) where
  val : World
  lays : Lays w val
instance Ly.is (w : World) : Nonempty (Ly w) := ⟨⟨w, Lays.refl w⟩⟩
theorem Ly.cell {w : World} (x : Ly w) {a : Addr} {v : Value} (h : w.cell? a = some v) (hb : a.block < w.heap.size) : x.val.cell? a = some v := (x.lays.below.cell hb).trans h
theorem wp_region_lay {P : Program} {id : Nat} {Q : Exit → Act → World → Prop} {a : Act} {w : World} {l : List Oper} (hm : P.follows .mixedOrders = true) (hB : Region.lexB .any l.toArray = true)
    (h : wpQuiet P l.toArray (fun w' => ∃ x : Ly w, w' = x.val) (fun a' => ∀ x : Ly w, Q .normal a' x.val) l a) : (Code.region id l.toArray true).wp P Q a w :=
  wp_region_quiet (C := fun w' => ∃ x : Ly w, w' = x.val) hm hB ⟨⟨_, (Lays.refl w).drew⟩, rfl⟩ (by
    have : (fun a' => ∀ x : Ly w, Q .normal a' x.val) = fun a' => ∀ w', (∃ x : Ly w, w' = x.val) → Q .normal a' w' := by
      funext a'; simp
    rw [this] at h; simpa using h)
theorem calls_lay {P : Program} {f : FuncId} {args : Array Value} {w : World} (x : Ly w) {v : Value}
    (h : Calls P f args x.val fun e w' => e = .returned v ∧ Lays x.val w') : Calls P f args x.val fun e w'' => e = .returned v ∧ ∃ y : Ly w, w'' = y.val :=
  h.mono fun _ w' ⟨he, hb⟩ => ⟨he, ⟨w', x.lays.trans hb⟩, rfl⟩
end Go.Proofs.YtggfeblfhabmkaaGreatDoor.Kit
