/- Walks: lex.class. Walk: lex.Name. Walks: body.within, the fields of a contract, the rules. Walk: the rules of the kinds of caps. Plain: a body; what the rules say of it. Walk: body.Check. -/
import Derived.Test.YtedolbjgdedoaaaGreatDoorProg
import Derived.Test.YtedolbjgdedoaaaGreatDoorKit
import Derived.Shelf.Small.Strs
import Derived.Laws.Closers25b
import Derived.Deep.LoopGhost
import Derived.Test.YtedolbjgdedoaaaGreatDoorTp
import Derived.Test.YtedolbjgdedoaaaGreatDoorKxb
import Derived.Deep.CutRange
import Derived.Laws.EntriesVeiled
set_option linter.unusedSimpArgs false
set_option linter.unusedVariables false
set_option maxRecDepth 100000
set_option maxHeartbeats 8000000
namespace Go.Proofs.YtedolbjgdedoaaaGreatDoor
open Go.Shelf Go.RowKit Go.Lib
def Un.signs : ByteArray := ⟨#[123, 125, 40, 41, 59, 44, 61, 58, 46, 60, 62, 33, 43, 45, 42, 47]⟩
def Un.cls (c : Int) : Int :=
 if (97 ≤ c ∧ c ≤ 122) ∨ (65 ≤ c ∧ c ≤ 90) then 2 else if 48 ≤ c ∧ c ≤ 57 then 3 else if c = 95 then 5 else if c = 32 ∨ c = 9 ∨ c = 10 ∨ c = 13 then 1
 else if 0 ≤ Lib.indexByte Un.signs.data.toList c.toNat.toUInt8 then 4 else 0
def Un.nameC (c : Int) : Bool := decide (Un.cls c = 2) || decide (Un.cls c = 3) || decide (Un.cls c = 5)
def Un.nm (s : ByteArray) : Bool := decide (0 < s.size) && decide (s.size ≤ 32) && decide (Un.cls ((s.data.toList.headD 0).toNat : Int) = 2) && s.data.toList.all (fun b => Un.nameC (b.toNat : Int))
def strs_ren : Go.Shelf.Ren := ⟨fun | 137 => 137 | 217 => 167 | 266 => 181 | n => n, fun | 3 => 3 | 5 => 5 | 9 => 9 | n => n, fun | n => n⟩
theorem strs_lay : Go.Proofs.Lays.n137 Tryz.prog strs_ren where
 mixed := by kernel_rfl
 f137 := Tryz.func137.trans (congrArg some (by kernel_rfl))
 f217 := Tryz.func167.trans (congrArg some (by kernel_rfl))
 f266 := Tryz.func181.trans (congrArg some (by kernel_rfl))
 t3 := Tryz.underlying3
 a3 := Tryz.isAgg3
 z3 := Tryz.sizeOf3
 v3 := Tryz.zeroValue3
 t5 := Tryz.underlying5
 a5 := Tryz.isAgg5
 z5 := Tryz.sizeOf5
 v5 := Tryz.zeroValue5
 t9 := Tryz.underlying9
 a9 := Tryz.isAgg9
 z9 := Tryz.sizeOf9
 v9 := Tryz.zeroValue9
theorem st_index (s : ByteArray) (c : Int) (w : World) : Calls Tryz.prog 137 #[.string s, .int .u8 c] w fun e w' => e = .returned (.int .i64 (Lib.indexByte s.data.toList c.toNat.toUInt8)) ∧ w' = w := Any.strings_IndexByte strs_lay s c w
theorem lx_class (c : Int) (w : World) (h0 : 0 ≤ c) (h1 : c < 256) : Calls Tryz.prog 98 #[.int .u8 c] w fun e w' => e = .returned (.int .i64 (Un.cls c)) ∧ w' = w := by
 obtain ⟨S, hS⟩ : ∃ S, S = Un.signs := ⟨_, rfl⟩
 obtain ⟨q, hq⟩ : ∃ q, q = Lib.indexByte S.data.toList c.toNat.toUInt8 := ⟨_, rfl⟩
 have HI : Hid (∀ w, Calls Tryz.prog 137 #[.string ⟨#[123, 125, 40, 41, 59, 44, 61, 58, 46, 60, 62, 33, 43, 45, 42, 47]⟩, .int .u8 c] w fun e w' => e = .returned (.int .i64 q) ∧ w' = w) := fun w => by
  rw [hq, hS]; exact st_index _ _ _
 have HC : Hid (∀ r : Int, r = (if (97 ≤ c ∧ c ≤ 122) ∨ (65 ≤ c ∧ c ≤ 90) then 2 else if 48 ≤ c ∧ c ≤ 57 then 3 else if c = 95 then 5 else if c = 32 ∨ c = 9 ∨ c = 10 ∨ c = 13 then 1 else if 0 ≤ q then 4 else 0) → r = Un.cls c) := fun r hr => by
  rw [hr, hq, hS]; rfl
 clear hq hS
 go_enter Tryz.func98, Tryz.ntmps98
 by_cases hr2 : c < 48
 ·by_cases hr4 : c < 13
  ·by_cases hr6 : c < 10
   ·by_cases hr8 : c < 9
    ·have k0 : ¬ (97 ≤ c) := by omega
     have k1 : (c ≤ 122) := by omega
     have k2 : ¬ (65 ≤ c) := by omega
     have k3 : (c ≤ 90) := by omega
     have k4 : ¬ (48 ≤ c) := by omega
     have k5 : (c ≤ 57) := by omega
     have k6 : ¬ (c = 95) := by omega
     have b6 : (c == 95) = false := by simp; omega
     have k7 : ¬ (c = 32) := by omega
     have b7 : (c == 32) = false := by simp; omega
     have k8 : ¬ (c = 9) := by omega
     have b8 : (c == 9) = false := by simp; omega
     have k9 : ¬ (c = 10) := by omega
     have b9 : (c == 10) = false := by simp; omega
     have k10 : ¬ (c = 13) := by omega
     have b10 : (c == 13) = false := by simp; omega
     by_cases hq : 0 ≤ q
     ·go_wp2_with (go_at_call 137; refine (HI.out _).mono ?_; rintro e w' ⟨rfl, rfl⟩)
      go_ret
      refine ⟨congrArg (fun x => Ending.returned (Value.int .i64 x)) (HC.out _ ?_), rfl⟩
      rw [if_neg omg, if_neg omg, if_neg omg, if_neg omg, if_pos omg]
     ·go_wp2_with (go_at_call 137; refine (HI.out _).mono ?_; rintro e w' ⟨rfl, rfl⟩)
      go_ret
      refine ⟨congrArg (fun x => Ending.returned (Value.int .i64 x)) (HC.out _ ?_), rfl⟩
      rw [if_neg omg, if_neg omg, if_neg omg, if_neg omg, if_neg omg]
    ·have k0 : ¬ (97 ≤ c) := by omega
     have k1 : (c ≤ 122) := by omega
     have k2 : ¬ (65 ≤ c) := by omega
     have k3 : (c ≤ 90) := by omega
     have k4 : ¬ (48 ≤ c) := by omega
     have k5 : (c ≤ 57) := by omega
     have k6 : ¬ (c = 95) := by omega
     have b6 : (c == 95) = false := by simp; omega
     have k7 : ¬ (c = 32) := by omega
     have b7 : (c == 32) = false := by simp; omega
     have k8 : (c = 9) := by omega
     have k9 : ¬ (c = 10) := by omega
     have b9 : (c == 10) = false := by simp; omega
     have k10 : ¬ (c = 13) := by omega
     have b10 : (c == 13) = false := by simp; omega
     clear HI
     go_wp2
     go_ret
     first | exact ⟨rfl, rfl⟩ | (refine ⟨congrArg (fun x => Ending.returned (Value.int .i64 x)) (HC.out _ ?_), rfl⟩; rw [if_neg omg, if_neg omg, if_neg omg, if_pos omg])
   ·by_cases hr8 : c < 11
    ·have k0 : ¬ (97 ≤ c) := by omega
     have k1 : (c ≤ 122) := by omega
     have k2 : ¬ (65 ≤ c) := by omega
     have k3 : (c ≤ 90) := by omega
     have k4 : ¬ (48 ≤ c) := by omega
     have k5 : (c ≤ 57) := by omega
     have k6 : ¬ (c = 95) := by omega
     have b6 : (c == 95) = false := by simp; omega
     have k7 : ¬ (c = 32) := by omega
     have b7 : (c == 32) = false := by simp; omega
     have k8 : ¬ (c = 9) := by omega
     have b8 : (c == 9) = false := by simp; omega
     have k9 : (c = 10) := by omega
     have k10 : ¬ (c = 13) := by omega
     have b10 : (c == 13) = false := by simp; omega
     clear HI
     go_wp2
     go_ret
     first | exact ⟨rfl, rfl⟩ | (refine ⟨congrArg (fun x => Ending.returned (Value.int .i64 x)) (HC.out _ ?_), rfl⟩; rw [if_neg omg, if_neg omg, if_neg omg, if_pos omg])
    ·have k0 : ¬ (97 ≤ c) := by omega
     have k1 : (c ≤ 122) := by omega
     have k2 : ¬ (65 ≤ c) := by omega
     have k3 : (c ≤ 90) := by omega
     have k4 : ¬ (48 ≤ c) := by omega
     have k5 : (c ≤ 57) := by omega
     have k6 : ¬ (c = 95) := by omega
     have b6 : (c == 95) = false := by simp; omega
     have k7 : ¬ (c = 32) := by omega
     have b7 : (c == 32) = false := by simp; omega
     have k8 : ¬ (c = 9) := by omega
     have b8 : (c == 9) = false := by simp; omega
     have k9 : ¬ (c = 10) := by omega
     have b9 : (c == 10) = false := by simp; omega
     have k10 : ¬ (c = 13) := by omega
     have b10 : (c == 13) = false := by simp; omega
     by_cases hq : 0 ≤ q
     ·go_wp2_with (go_at_call 137; refine (HI.out _).mono ?_; rintro e w' ⟨rfl, rfl⟩)
      go_ret
      refine ⟨congrArg (fun x => Ending.returned (Value.int .i64 x)) (HC.out _ ?_), rfl⟩
      rw [if_neg omg, if_neg omg, if_neg omg, if_neg omg, if_pos omg]
     ·go_wp2_with (go_at_call 137; refine (HI.out _).mono ?_; rintro e w' ⟨rfl, rfl⟩)
      go_ret
      refine ⟨congrArg (fun x => Ending.returned (Value.int .i64 x)) (HC.out _ ?_), rfl⟩
      rw [if_neg omg, if_neg omg, if_neg omg, if_neg omg, if_neg omg]
  ·by_cases hr6 : c < 32
   ·by_cases hr8 : c < 14
    ·have k0 : ¬ (97 ≤ c) := by omega
     have k1 : (c ≤ 122) := by omega
     have k2 : ¬ (65 ≤ c) := by omega
     have k3 : (c ≤ 90) := by omega
     have k4 : ¬ (48 ≤ c) := by omega
     have k5 : (c ≤ 57) := by omega
     have k6 : ¬ (c = 95) := by omega
     have b6 : (c == 95) = false := by simp; omega
     have k7 : ¬ (c = 32) := by omega
     have b7 : (c == 32) = false := by simp; omega
     have k8 : ¬ (c = 9) := by omega
     have b8 : (c == 9) = false := by simp; omega
     have k9 : ¬ (c = 10) := by omega
     have b9 : (c == 10) = false := by simp; omega
     have k10 : (c = 13) := by omega
     clear HI
     go_wp2
     go_ret
     first | exact ⟨rfl, rfl⟩ | (refine ⟨congrArg (fun x => Ending.returned (Value.int .i64 x)) (HC.out _ ?_), rfl⟩; rw [if_neg omg, if_neg omg, if_neg omg, if_pos omg])
    ·have k0 : ¬ (97 ≤ c) := by omega
     have k1 : (c ≤ 122) := by omega
     have k2 : ¬ (65 ≤ c) := by omega
     have k3 : (c ≤ 90) := by omega
     have k4 : ¬ (48 ≤ c) := by omega
     have k5 : (c ≤ 57) := by omega
     have k6 : ¬ (c = 95) := by omega
     have b6 : (c == 95) = false := by simp; omega
     have k7 : ¬ (c = 32) := by omega
     have b7 : (c == 32) = false := by simp; omega
     have k8 : ¬ (c = 9) := by omega
     have b8 : (c == 9) = false := by simp; omega
     have k9 : ¬ (c = 10) := by omega
     have b9 : (c == 10) = false := by simp; omega
     have k10 : ¬ (c = 13) := by omega
     have b10 : (c == 13) = false := by simp; omega
     by_cases hq : 0 ≤ q
     ·go_wp2_with (go_at_call 137; refine (HI.out _).mono ?_; rintro e w' ⟨rfl, rfl⟩)
      go_ret
      refine ⟨congrArg (fun x => Ending.returned (Value.int .i64 x)) (HC.out _ ?_), rfl⟩
      rw [if_neg omg, if_neg omg, if_neg omg, if_neg omg, if_pos omg]
     ·go_wp2_with (go_at_call 137; refine (HI.out _).mono ?_; rintro e w' ⟨rfl, rfl⟩)
      go_ret
      refine ⟨congrArg (fun x => Ending.returned (Value.int .i64 x)) (HC.out _ ?_), rfl⟩
      rw [if_neg omg, if_neg omg, if_neg omg, if_neg omg, if_neg omg]
   ·by_cases hr8 : c < 33
    ·have k0 : ¬ (97 ≤ c) := by omega
     have k1 : (c ≤ 122) := by omega
     have k2 : ¬ (65 ≤ c) := by omega
     have k3 : (c ≤ 90) := by omega
     have k4 : ¬ (48 ≤ c) := by omega
     have k5 : (c ≤ 57) := by omega
     have k6 : ¬ (c = 95) := by omega
     have b6 : (c == 95) = false := by simp; omega
     have k7 : (c = 32) := by omega
     have k8 : ¬ (c = 9) := by omega
     have b8 : (c == 9) = false := by simp; omega
     have k9 : ¬ (c = 10) := by omega
     have b9 : (c == 10) = false := by simp; omega
     have k10 : ¬ (c = 13) := by omega
     have b10 : (c == 13) = false := by simp; omega
     clear HI
     go_wp2
     go_ret
     first | exact ⟨rfl, rfl⟩ | (refine ⟨congrArg (fun x => Ending.returned (Value.int .i64 x)) (HC.out _ ?_), rfl⟩; rw [if_neg omg, if_neg omg, if_neg omg, if_pos omg])
    ·have k0 : ¬ (97 ≤ c) := by omega
     have k1 : (c ≤ 122) := by omega
     have k2 : ¬ (65 ≤ c) := by omega
     have k3 : (c ≤ 90) := by omega
     have k4 : ¬ (48 ≤ c) := by omega
     have k5 : (c ≤ 57) := by omega
     have k6 : ¬ (c = 95) := by omega
     have b6 : (c == 95) = false := by simp; omega
     have k7 : ¬ (c = 32) := by omega
     have b7 : (c == 32) = false := by simp; omega
     have k8 : ¬ (c = 9) := by omega
     have b8 : (c == 9) = false := by simp; omega
     have k9 : ¬ (c = 10) := by omega
     have b9 : (c == 10) = false := by simp; omega
     have k10 : ¬ (c = 13) := by omega
     have b10 : (c == 13) = false := by simp; omega
     by_cases hq : 0 ≤ q
     ·go_wp2_with (go_at_call 137; refine (HI.out _).mono ?_; rintro e w' ⟨rfl, rfl⟩)
      go_ret
      refine ⟨congrArg (fun x => Ending.returned (Value.int .i64 x)) (HC.out _ ?_), rfl⟩
      rw [if_neg omg, if_neg omg, if_neg omg, if_neg omg, if_pos omg]
     ·go_wp2_with (go_at_call 137; refine (HI.out _).mono ?_; rintro e w' ⟨rfl, rfl⟩)
      go_ret
      refine ⟨congrArg (fun x => Ending.returned (Value.int .i64 x)) (HC.out _ ?_), rfl⟩
      rw [if_neg omg, if_neg omg, if_neg omg, if_neg omg, if_neg omg]
 ·by_cases hr4 : c < 95
  ·by_cases hr6 : c < 65
   ·by_cases hr8 : c < 58
    ·have k0 : ¬ (97 ≤ c) := by omega
     have k1 : (c ≤ 122) := by omega
     have k2 : ¬ (65 ≤ c) := by omega
     have k3 : (c ≤ 90) := by omega
     have k4 : (48 ≤ c) := by omega
     have k5 : (c ≤ 57) := by omega
     have k6 : ¬ (c = 95) := by omega
     have b6 : (c == 95) = false := by simp; omega
     have k7 : ¬ (c = 32) := by omega
     have b7 : (c == 32) = false := by simp; omega
     have k8 : ¬ (c = 9) := by omega
     have b8 : (c == 9) = false := by simp; omega
     have k9 : ¬ (c = 10) := by omega
     have b9 : (c == 10) = false := by simp; omega
     have k10 : ¬ (c = 13) := by omega
     have b10 : (c == 13) = false := by simp; omega
     clear HI
     go_wp2
     go_ret
     first | exact ⟨rfl, rfl⟩ | (refine ⟨congrArg (fun x => Ending.returned (Value.int .i64 x)) (HC.out _ ?_), rfl⟩; rw [if_neg omg, if_pos omg])
    ·have k0 : ¬ (97 ≤ c) := by omega
     have k1 : (c ≤ 122) := by omega
     have k2 : ¬ (65 ≤ c) := by omega
     have k3 : (c ≤ 90) := by omega
     have k4 : (48 ≤ c) := by omega
     have k5 : ¬ (c ≤ 57) := by omega
     have k6 : ¬ (c = 95) := by omega
     have b6 : (c == 95) = false := by simp; omega
     have k7 : ¬ (c = 32) := by omega
     have b7 : (c == 32) = false := by simp; omega
     have k8 : ¬ (c = 9) := by omega
     have b8 : (c == 9) = false := by simp; omega
     have k9 : ¬ (c = 10) := by omega
     have b9 : (c == 10) = false := by simp; omega
     have k10 : ¬ (c = 13) := by omega
     have b10 : (c == 13) = false := by simp; omega
     by_cases hq : 0 ≤ q
     ·go_wp2_with (go_at_call 137; refine (HI.out _).mono ?_; rintro e w' ⟨rfl, rfl⟩)
      go_ret
      refine ⟨congrArg (fun x => Ending.returned (Value.int .i64 x)) (HC.out _ ?_), rfl⟩
      rw [if_neg omg, if_neg omg, if_neg omg, if_neg omg, if_pos omg]
     ·go_wp2_with (go_at_call 137; refine (HI.out _).mono ?_; rintro e w' ⟨rfl, rfl⟩)
      go_ret
      refine ⟨congrArg (fun x => Ending.returned (Value.int .i64 x)) (HC.out _ ?_), rfl⟩
      rw [if_neg omg, if_neg omg, if_neg omg, if_neg omg, if_neg omg]
   ·by_cases hr8 : c < 91
    ·have k0 : ¬ (97 ≤ c) := by omega
     have k1 : (c ≤ 122) := by omega
     have k2 : (65 ≤ c) := by omega
     have k3 : (c ≤ 90) := by omega
     have k4 : (48 ≤ c) := by omega
     have k5 : ¬ (c ≤ 57) := by omega
     have k6 : ¬ (c = 95) := by omega
     have b6 : (c == 95) = false := by simp; omega
     have k7 : ¬ (c = 32) := by omega
     have b7 : (c == 32) = false := by simp; omega
     have k8 : ¬ (c = 9) := by omega
     have b8 : (c == 9) = false := by simp; omega
     have k9 : ¬ (c = 10) := by omega
     have b9 : (c == 10) = false := by simp; omega
     have k10 : ¬ (c = 13) := by omega
     have b10 : (c == 13) = false := by simp; omega
     clear HI
     go_wp2
     go_ret
     first | exact ⟨rfl, rfl⟩ | (refine ⟨congrArg (fun x => Ending.returned (Value.int .i64 x)) (HC.out _ ?_), rfl⟩; rw [if_pos omg])
    ·have k0 : ¬ (97 ≤ c) := by omega
     have k1 : (c ≤ 122) := by omega
     have k2 : (65 ≤ c) := by omega
     have k3 : ¬ (c ≤ 90) := by omega
     have k4 : (48 ≤ c) := by omega
     have k5 : ¬ (c ≤ 57) := by omega
     have k6 : ¬ (c = 95) := by omega
     have b6 : (c == 95) = false := by simp; omega
     have k7 : ¬ (c = 32) := by omega
     have b7 : (c == 32) = false := by simp; omega
     have k8 : ¬ (c = 9) := by omega
     have b8 : (c == 9) = false := by simp; omega
     have k9 : ¬ (c = 10) := by omega
     have b9 : (c == 10) = false := by simp; omega
     have k10 : ¬ (c = 13) := by omega
     have b10 : (c == 13) = false := by simp; omega
     by_cases hq : 0 ≤ q
     ·go_wp2_with (go_at_call 137; refine (HI.out _).mono ?_; rintro e w' ⟨rfl, rfl⟩)
      go_ret
      refine ⟨congrArg (fun x => Ending.returned (Value.int .i64 x)) (HC.out _ ?_), rfl⟩
      rw [if_neg omg, if_neg omg, if_neg omg, if_neg omg, if_pos omg]
     ·go_wp2_with (go_at_call 137; refine (HI.out _).mono ?_; rintro e w' ⟨rfl, rfl⟩)
      go_ret
      refine ⟨congrArg (fun x => Ending.returned (Value.int .i64 x)) (HC.out _ ?_), rfl⟩
      rw [if_neg omg, if_neg omg, if_neg omg, if_neg omg, if_neg omg]
  ·by_cases hr6 : c < 97
   ·by_cases hr8 : c < 96
    ·have k0 : ¬ (97 ≤ c) := by omega
     have k1 : (c ≤ 122) := by omega
     have k2 : (65 ≤ c) := by omega
     have k3 : ¬ (c ≤ 90) := by omega
     have k4 : (48 ≤ c) := by omega
     have k5 : ¬ (c ≤ 57) := by omega
     have k6 : (c = 95) := by omega
     have k7 : ¬ (c = 32) := by omega
     have b7 : (c == 32) = false := by simp; omega
     have k8 : ¬ (c = 9) := by omega
     have b8 : (c == 9) = false := by simp; omega
     have k9 : ¬ (c = 10) := by omega
     have b9 : (c == 10) = false := by simp; omega
     have k10 : ¬ (c = 13) := by omega
     have b10 : (c == 13) = false := by simp; omega
     clear HI
     go_wp2
     go_ret
     first | exact ⟨rfl, rfl⟩ | (refine ⟨congrArg (fun x => Ending.returned (Value.int .i64 x)) (HC.out _ ?_), rfl⟩; rw [if_neg omg, if_neg omg, if_pos omg])
    ·have k0 : ¬ (97 ≤ c) := by omega
     have k1 : (c ≤ 122) := by omega
     have k2 : (65 ≤ c) := by omega
     have k3 : ¬ (c ≤ 90) := by omega
     have k4 : (48 ≤ c) := by omega
     have k5 : ¬ (c ≤ 57) := by omega
     have k6 : ¬ (c = 95) := by omega
     have b6 : (c == 95) = false := by simp; omega
     have k7 : ¬ (c = 32) := by omega
     have b7 : (c == 32) = false := by simp; omega
     have k8 : ¬ (c = 9) := by omega
     have b8 : (c == 9) = false := by simp; omega
     have k9 : ¬ (c = 10) := by omega
     have b9 : (c == 10) = false := by simp; omega
     have k10 : ¬ (c = 13) := by omega
     have b10 : (c == 13) = false := by simp; omega
     by_cases hq : 0 ≤ q
     ·go_wp2_with (go_at_call 137; refine (HI.out _).mono ?_; rintro e w' ⟨rfl, rfl⟩)
      go_ret
      refine ⟨congrArg (fun x => Ending.returned (Value.int .i64 x)) (HC.out _ ?_), rfl⟩
      rw [if_neg omg, if_neg omg, if_neg omg, if_neg omg, if_pos omg]
     ·go_wp2_with (go_at_call 137; refine (HI.out _).mono ?_; rintro e w' ⟨rfl, rfl⟩)
      go_ret
      refine ⟨congrArg (fun x => Ending.returned (Value.int .i64 x)) (HC.out _ ?_), rfl⟩
      rw [if_neg omg, if_neg omg, if_neg omg, if_neg omg, if_neg omg]
   ·by_cases hr8 : c < 123
    ·have k0 : (97 ≤ c) := by omega
     have k1 : (c ≤ 122) := by omega
     have k2 : (65 ≤ c) := by omega
     have k3 : ¬ (c ≤ 90) := by omega
     have k4 : (48 ≤ c) := by omega
     have k5 : ¬ (c ≤ 57) := by omega
     have k6 : ¬ (c = 95) := by omega
     have b6 : (c == 95) = false := by simp; omega
     have k7 : ¬ (c = 32) := by omega
     have b7 : (c == 32) = false := by simp; omega
     have k8 : ¬ (c = 9) := by omega
     have b8 : (c == 9) = false := by simp; omega
     have k9 : ¬ (c = 10) := by omega
     have b9 : (c == 10) = false := by simp; omega
     have k10 : ¬ (c = 13) := by omega
     have b10 : (c == 13) = false := by simp; omega
     clear HI
     go_wp2
     go_ret
     first | exact ⟨rfl, rfl⟩ | (refine ⟨congrArg (fun x => Ending.returned (Value.int .i64 x)) (HC.out _ ?_), rfl⟩; rw [if_pos omg])
    ·have k0 : (97 ≤ c) := by omega
     have k1 : ¬ (c ≤ 122) := by omega
     have k2 : (65 ≤ c) := by omega
     have k3 : ¬ (c ≤ 90) := by omega
     have k4 : (48 ≤ c) := by omega
     have k5 : ¬ (c ≤ 57) := by omega
     have k6 : ¬ (c = 95) := by omega
     have b6 : (c == 95) = false := by simp; omega
     have k7 : ¬ (c = 32) := by omega
     have b7 : (c == 32) = false := by simp; omega
     have k8 : ¬ (c = 9) := by omega
     have b8 : (c == 9) = false := by simp; omega
     have k9 : ¬ (c = 10) := by omega
     have b9 : (c == 10) = false := by simp; omega
     have k10 : ¬ (c = 13) := by omega
     have b10 : (c == 13) = false := by simp; omega
     by_cases hq : 0 ≤ q
     ·go_wp2_with (go_at_call 137; refine (HI.out _).mono ?_; rintro e w' ⟨rfl, rfl⟩)
      go_ret
      refine ⟨congrArg (fun x => Ending.returned (Value.int .i64 x)) (HC.out _ ?_), rfl⟩
      rw [if_neg omg, if_neg omg, if_neg omg, if_neg omg, if_pos omg]
     ·go_wp2_with (go_at_call 137; refine (HI.out _).mono ?_; rintro e w' ⟨rfl, rfl⟩)
      go_ret
      refine ⟨congrArg (fun x => Ending.returned (Value.int .i64 x)) (HC.out _ ?_), rfl⟩
      rw [if_neg omg, if_neg omg, if_neg omg, if_neg omg, if_neg omg]
theorem lx_name (s : ByteArray) (w : World) (hs : s.size ≤ 9223372036854775807) : Calls Tryz.prog 52 #[.string s] w fun e w' => e = .returned (.bool (Un.nm s)) ∧ w' = w := by
 have HN : Hid (∀ b : Bool, (b = true ↔ 0 < s.size ∧ s.size ≤ 32 ∧ (∀ h : 0 < s.size, Un.cls ((s[0]'h).toNat : Int) = 2) ∧ ∀ j (h : j < s.size), Un.nameC ((s[j]'h).toNat : Int) = true) → b = Un.nm s) := fun b hb => by
  apply Bool.eq_iff_iff.2
  rw [hb]
  unfold Un.nm
  simp only [Bool.and_eq_true, decide_eq_true_eq, List.all_eq_true, and_assoc]
  refine and_congr_right fun h1 => and_congr_right fun h2 => and_congr ?_ ?_
  ·have e : s.data.toList.headD 0 = s[0]'h1 := by
    have : 0 < s.data.toList.length := by simpa using h1
    cases hl : s.data.toList with
    | nil => rw [hl] at this; simp at this
    | cons x t => show x = s.data[0]; rw [← Array.getElem_toList]; simp [hl]
   rw [e]
   exact ⟨fun h => h h1, fun h _ => h⟩
  ·constructor
   ·intro h x hx
    obtain ⟨j, hj, rfl⟩ := List.getElem_of_mem hx
    exact h j (by simpa using hj)
   ·intro h j hj
    exact h _ (by show s.data[j] ∈ s.data.toList; simp)
 have HC : Hid (∀ (c : Int) (w : World), 0 ≤ c → c < 256 → Calls Tryz.prog 98 #[.int .u8 c] w fun e w' => e = .returned (.int .i64 (Un.cls c)) ∧ w' = w) := fun c w h0 h1 => lx_class c w h0 h1
 have HB : Hid (∀ j (h : j < s.size), (0 : Int) ≤ ((s[j]'h).toNat : Int) ∧ ((s[j]'h).toNat : Int) < 256) := fun j h => by have := (s[j]'h).toNat_lt; omega
 go_enter Tryz.func52, Tryz.ntmps52
 by_cases h0 : s.size = 0
 ·have hse : s = ⟨#[]⟩ := by
   cases s with
   | mk d => congr 1; exact Array.eq_empty_of_size_eq_zero h0
  subst hse
  go_wp2
  go_ret
  exact ⟨congrArg (fun x => Ending.returned (Value.bool x)) (HN.out false (by simp; decide)), rfl⟩
 ·have hne : s.toList.isEmpty = false := by
   rw [← Bool.not_eq_true, List.isEmpty_iff, toList_nil_iff_emptyBytes]
   intro h; rw [h] at h0; exact h0 rfl
  have hpos : 0 < s.size := by omega
  by_cases h32 : s.size ≤ 32
  ·have hz : decide ((32 : Int) < (s.size : Int)) = false := by simp; omega
   obtain ⟨c0, hc0⟩ : ∃ c0, c0 = Un.cls ((s[0]'hpos).toNat : Int) := ⟨_, rfl⟩
   have HC0 : Hid (∀ w : World, Calls Tryz.prog 98 #[.int .u8 ((s[0]'hpos).toNat : Int)] w fun e w' => e = .returned (.int .i64 c0) ∧ w' = w) := fun w => by rw [hc0]; exact HC.out _ w (HB.out 0 hpos).1 (HB.out 0 hpos).2
   have HC0e : Hid (c0 = Un.cls ((s[0]'hpos).toNat : Int)) := hc0
   clear hc0
   by_cases hl : c0 = 2
   ·subst hl
    go_wp2_with (go_at_call 98; refine (HC0.out _).mono ?_; rintro e w ⟨rfl, rfl⟩)
    go_loopg [20] s.size (fun kx s20 wr => ∃ i : Nat, s20 = .int .i64 i ∧ i ≤ s.size ∧ s.size - i ≤ kx ∧ wr = w ∧ Hid (∀ j (h : j < s.size), j < i → Un.nameC ((s[j]'h).toNat : Int) = true))
    case atStart => exact ⟨0, rfl, by omega, by omega, rfl, fun j _ h => absurd h (Nat.not_lt_zero _)⟩
    case round =>
     obtain ⟨i, rfl, hi, hk, rfl, HA⟩ := hrel
     by_cases hlt : i < s.size
     ·have hltz : (i : Int) < (s.size : Int) := by omega
      obtain ⟨ci, hci⟩ : ∃ ci, ci = Un.cls ((s[i]'hlt).toNat : Int) := ⟨_, rfl⟩
      have HCi : Hid (∀ w : World, Calls Tryz.prog 98 #[.int .u8 ((s[i]'hlt).toNat : Int)] w fun e w' => e = .returned (.int .i64 ci) ∧ w' = w) := fun w => by rw [hci]; exact HC.out _ w (HB.out i hlt).1 (HB.out i hlt).2
      have HCe : Hid (ci = Un.cls ((s[i]'hlt).toNat : Int)) := hci
      clear hci
      by_cases hg : ci = 2 ∨ ci = 3 ∨ ci = 5
      ·rcases hg with rfl | rfl | rfl
       all_goals (
        go_wp2_with (go_at_call 98; refine (HCi.out _).mono ?_; rintro e w ⟨rfl, rfl⟩)
        go_roundg (s.size - (i + 1))
        case measure => omega
        case rel => exact ⟨i + 1, by first | rfl | go_num | simp, by omega, Nat.le_refl _, rfl, fun j h hj => (by
         rcases Nat.lt_or_ge j i with h' | h'
         ·exact HA.out j h h'
         ·obtain rfl : j = i := by omega
          unfold Un.nameC
          rw [← HCe.out]
          rfl)⟩)
      ·have g2 : (ci != 2) = true := by simp; omega
       have g3 : (ci != 3) = true := by simp; omega
       have g5 : (ci != 5) = true := by simp; omega
       have HNg : Hid (Un.nameC ((s[i]'hlt).toNat : Int) = false) := by
        show _ = _
        unfold Un.nameC
        rw [← HCe.out]
        simp
        omega
       clear hg
       go_wp2_with (go_at_call 98; refine (HCi.out _).mono ?_; rintro e w ⟨rfl, rfl⟩)
       go_ret
       exact ⟨congrArg (fun x => Ending.returned (Value.bool x)) (HN.out false ⟨fun h => (by cases h), fun h => (by have := h.2.2.2 i hlt; rw [HNg.out] at this; cases this)⟩), rfl⟩
     ·obtain rfl : i = s.size := by omega
      go_wp2
      go_ret
      exact ⟨congrArg (fun x => Ending.returned (Value.bool x)) (HN.out true ⟨fun _ => ⟨hpos, h32, fun _ => HC0e.out.symm, fun j h => HA.out j h h⟩, fun _ => rfl⟩), rfl⟩
   ·have hlz : (c0 != 2) = true := by simp; omega
    clear hl
    go_wp2_with (go_at_call 98; refine (HC0.out _).mono ?_; rintro e w ⟨rfl, rfl⟩)
    go_ret
    exact ⟨congrArg (fun x => Ending.returned (Value.bool x)) (HN.out false ⟨fun h => (by cases h), fun h => (by have := h.2.2.1 hpos; rw [← HC0e.out] at this; simp [this] at hlz)⟩), rfl⟩
  ·have hz : decide ((32 : Int) < (s.size : Int)) = true := by simp; omega
   go_wp2
   go_ret
   exact ⟨congrArg (fun x => Ending.returned (Value.bool x)) (HN.out false ⟨fun h => (by cases h), fun h => absurd h.2.1 h32⟩), rfl⟩
end Go.Proofs.YtedolbjgdedoaaaGreatDoor

namespace Go.Proofs.YtedolbjgdedoaaaGreatDoor
open Go.RowKit

theorem bd_within (lo up : Int) (b o cap : Nat) (xs : List Int) (w : World) (hn : xs.length ≤ 1000) (hx : ∀ i (h : i < xs.length), w.cell? ⟨b, o + i, none⟩ = some (.int .i64 (xs[i]'h))) :
  Calls Tryz.prog 53 #[.int .i64 lo, .int .i64 up, .slice (some ⟨b, o, none⟩) xs.length cap] w fun e w' => e = .returned (.bool (xs.all fun n => Tp.inb n lo up)) ∧ w' = w := by
 have HN : Hid (∀ r : Bool, (r = true ↔ ∀ i (h : i < xs.length), lo ≤ xs[i]'h ∧ xs[i]'h ≤ up) → r = xs.all fun n => Tp.inb n lo up) := fun r hr => by
  apply Bool.eq_iff_iff.2
  rw [hr, List.all_eq_true]
  unfold Tp.inb
  simp only [Bool.and_eq_true, decide_eq_true_eq]
  constructor
  ·intro h x hx
   obtain ⟨i, hi, rfl⟩ := List.getElem_of_mem hx
   exact h i hi
  ·intro h i hi
   exact h _ (List.getElem_mem hi)
 have HX := qh hx
 clear hx
 go_enter Tryz.func53, Tryz.ntmps53
 go_wp2_with fail
 go_loopg [11] xs.length (fun kx s11 wr => ∃ i : Nat, s11 = .int .i64 i ∧ i ≤ xs.length ∧ xs.length - i ≤ kx ∧ wr = w ∧ Hid (∀ j (h : j < xs.length), j < i → lo ≤ xs[j]'h ∧ xs[j]'h ≤ up))
 case atStart => exact ⟨0, rfl, by omega, by omega, rfl, fun j _ h => absurd h (Nat.not_lt_zero _)⟩
 case round =>
  obtain ⟨i, rfl, hi, hk, rfl, HA⟩ := hrel
  by_cases hlt : i < xs.length
  ·have hltz : (i : Int) < (xs.length : Int) := by omega
   have hc := HX.out i hlt
   obtain ⟨x, hxe⟩ : ∃ x, x = xs[i]'hlt := ⟨_, rfl⟩
   rw [← hxe] at hc
   have HXE := qh hxe
   clear hxe
   by_cases h1 : lo ≤ x
   ·by_cases h2 : x ≤ up
    ·have HI1 : Hid (∀ j (h : j < xs.length), j < i + 1 → lo ≤ xs[j]'h ∧ xs[j]'h ≤ up) := fun j h hj => by
      rcases Nat.lt_or_ge j i with h' | h'
      ·exact HA.out j h h'
      ·obtain rfl : j = i := by omega
       rw [← HXE.out]
       exact ⟨h1, h2⟩
     go_wp2
     go_roundg (xs.length - (i + 1))
     case measure => omega
     case rel => exact ⟨i + 1, by first | rfl | go_num | simp, by omega, Nat.le_refl _, rfl, HI1⟩
    ·have HB : Hid (¬ (lo ≤ xs[i]'hlt ∧ xs[i]'hlt ≤ up)) := by
      show ¬ _
      rw [← HXE.out]; omega
     go_wp2
     go_ret
     exact ⟨congrArg (fun r => Ending.returned (Value.bool r)) (HN.out false ⟨fun h => (by cases h), fun h => absurd (h i hlt) HB.out⟩), rfl⟩
   ·have HB : Hid (¬ (lo ≤ xs[i]'hlt ∧ xs[i]'hlt ≤ up)) := by
     show ¬ _
     rw [← HXE.out]; omega
    go_wp2
    go_ret
    exact ⟨congrArg (fun r => Ending.returned (Value.bool r)) (HN.out false ⟨fun h => (by cases h), fun h => absurd (h i hlt) HB.out⟩), rfl⟩
  ·obtain rfl : i = xs.length := by omega
   go_wp2
   go_ret
   exact ⟨congrArg (fun r => Ending.returned (Value.bool r)) (HN.out true ⟨fun _ j h => HA.out j h h, fun _ => rfl⟩), rfl⟩
theorem bd_top (c j : Nat) (h : j < 3) (w : World) : Calls Tryz.prog 99 #[.pointer (some ⟨c, 0, none⟩), .int .i64 j] w fun e w' => e = .returned (.pointer (some ⟨c, 12 + j, none⟩)) ∧ w' = w := by
 go_enter Tryz.func99, Tryz.ntmps99
 go_wp2
 go_ret
 exact ⟨by simp, rfl⟩
theorem bd_speed (c j : Nat) (h : j < 3) (w : World) : Calls Tryz.prog 100 #[.pointer (some ⟨c, 0, none⟩), .int .i64 j] w fun e w' => e = .returned (.pointer (some ⟨c, 9 + j, none⟩)) ∧ w' = w := by
 go_enter Tryz.func100, Tryz.ntmps100
 go_wp2
 go_ret
 exact ⟨by simp, rfl⟩
theorem bd_step (c : Nat) (v : Value) (w : World) : Calls Tryz.prog 101 #[.pointer (some ⟨c, 0, none⟩), v] w fun e w' => e = .returned (.pointer (some ⟨c, 4, none⟩)) ∧ w' = w := by
 go_enter Tryz.func101, Tryz.ntmps101
 go_wp2
 go_ret
 exact ⟨by simp, rfl⟩
theorem bd_jump (c : Nat) (v : Value) (w : World) : Calls Tryz.prog 102 #[.pointer (some ⟨c, 0, none⟩), v] w fun e w' => e = .returned (.pointer (some ⟨c, 5, none⟩)) ∧ w' = w := by
 go_enter Tryz.func102, Tryz.ntmps102
 go_wp2
 go_ret
 exact ⟨by simp, rfl⟩
theorem bd_lift (c : Nat) (v : Value) (w : World) : Calls Tryz.prog 103 #[.pointer (some ⟨c, 0, none⟩), v] w fun e w' => e = .returned (.pointer (some ⟨c, 2, none⟩)) ∧ w' = w := by
 go_enter Tryz.func103, Tryz.ntmps103
 go_wp2
 go_ret
 exact ⟨by simp, rfl⟩
theorem bd_effort (c : Nat) (v : Value) (w : World) : Calls Tryz.prog 104 #[.pointer (some ⟨c, 0, none⟩), v] w fun e w' => e = .returned (.pointer (some ⟨c, 15, none⟩)) ∧ w' = w := by
 go_enter Tryz.func104, Tryz.ntmps104
 go_wp2
 go_ret
 exact ⟨by simp, rfl⟩
namespace Un
def ruA : Array Value := #[.nilFunc, .int .i64 0, .int .i64 0, .int .i64 0,
 .func (.func 99) #[] #[], .int .i64 1, .int .i64 3, .int .i64 2,
 .func (.func 100) #[] #[], .int .i64 1, .int .i64 1048576, .int .i64 2,
 .func (.func 101) #[] #[], .int .i64 1, .int .i64 16, .int .i64 0,
 .func (.func 102) #[] #[], .int .i64 0, .int .i64 16, .int .i64 0,
 .func (.func 103) #[] #[], .int .i64 0, .int .i64 500, .int .i64 0,
 .func (.func 104) #[] #[], .int .i64 0, .int .i64 1048576, .int .i64 0]
end Un
theorem bd_rules (w : World) : Calls Tryz.prog 54 #[] w fun e w' => e = .returned (.agg Un.ruA) ∧ Below w.heap.size w w' := by
 have HI := qh (show (Tryz.prog.info? 125).map (·.size) = some Un.ruA.size by kernel_rfl)
 have H1 := qh (show Un.ruA.all (·.oneCell') = true by simp [Un.ruA, Value.oneCell'])
 have HR := qh (Kit.range_alloc w Un.ruA 125)
 go_enter Tryz.func54, Tryz.ntmps54
 go_wp2_with ((with_reducible refine Kit.wpList_store_fresh (x := .tmp 0) (y := .tmp 7) (b := w.heap.size) (cells := Un.ruA) ?_ ?_ ?_ ?_ ?_ ?_ HI.out H1.out ?_); rfl; rfl; rfl; rfl; rfl; rfl)
 refine Kit.ret_row (s := 0) rfl rfl rfl HR.out Tryz.underlying125 rfl HI.out ?_
 exact ⟨rfl, (Below.refl _ _).alloc nlr _⟩
end Go.Proofs.YtedolbjgdedoaaaGreatDoor

namespace Go.Proofs.YtedolbjgdedoaaaGreatDoor
open Go.RowKit
namespace Un
structure Bd where
 (name : ByteArray) (weight lift girth step jump r0 r1 r2 s0 s1 s2 t0 t1 t2 effort recover : Int)
def bdA (b : Bd) : Array Value := #[.string b.name, .int .i64 b.weight, .int .i64 b.lift, .int .i64 b.girth, .int .i64 b.step, .int .i64 b.jump, .int .i64 b.r0, .int .i64 b.r1, .int .i64 b.r2,
 .int .i64 b.s0, .int .i64 b.s1, .int .i64 b.s2, .int .i64 b.t0, .int .i64 b.t1, .int .i64 b.t2, .int .i64 b.effort, .int .i64 b.recover]
theorem bdA_one (b : Bd) : (bdA b).all (·.oneCell') = true := by simp [bdA, Value.oneCell']
def bdZ : Array Value := #[.string ⟨#[]⟩, .int .i64 0, .int .i64 0, .int .i64 0, .int .i64 0, .int .i64 0, .int .i64 0, .int .i64 0, .int .i64 0, .int .i64 0, .int .i64 0, .int .i64 0, .int .i64 0, .int .i64 0, .int .i64 0, .int .i64 0, .int .i64 0]
def bdN (b : Bd) : Nat → Int
 | 1 => b.weight | 2 => b.lift | 3 => b.girth | 4 => b.step | 5 => b.jump | 6 => b.r0 | 7 => b.r1 | 8 => b.r2 | 9 => b.s0 | 10 => b.s1 | 11 => b.s2 | 12 => b.t0 | 13 => b.t1 | 14 => b.t2 | 15 => b.effort | _ => b.recover
theorem bdA_get (b : Bd) (p : Nat) (h0 : 0 < p) (h : p < 17) : (bdA b).toList[p]? = some (.int .i64 (bdN b p)) := by
 rcases (by omega : p = 1 ∨ p = 2 ∨ p = 3 ∨ p = 4 ∨ p = 5 ∨ p = 6 ∨ p = 7 ∨ p = 8 ∨ p = 9 ∨ p = 10 ∨ p = 11 ∨ p = 12 ∨ p = 13 ∨ p = 14 ∨ p = 15 ∨ p = 16) with h | h | h | h | h | h | h | h | h | h | h | h | h | h | h | h <;> subst h <;> rfl
def rF : Nat → Nat | 0 => 99 | 1 => 100 | 2 => 101 | 3 => 102 | 4 => 103 | _ => 104
def rLo : Nat → Int | 0 => 1 | 1 => 1 | 2 => 1 | _ => 0
def rUp : Nat → Int | 0 => 3 | 1 => 1048576 | 2 => 16 | 3 => 16 | 4 => 500 | _ => 1048576
def rM : Nat → Nat | 0 => 2 | 1 => 2 | _ => 0
def rB : Nat → Nat | 0 => 12 | 1 => 9 | 2 => 4 | 3 => 5 | 4 => 2 | _ => 15
def okAt (b : Bd) (i j : Nat) : Bool := Tp.inb (bdN b (rB i + j)) (rLo i) (rUp i)
def ruok (b : Bd) : Bool := (List.range 6).all fun i => (List.range (rM i + 1)).all fun j => okAt b i j
def bok (b : Bd) : Bool := nm b.name && Tp.inb b.weight 1 500 && Tp.inb b.girth 1 4 && (Tp.inb b.r0 1 8 && Tp.inb b.r1 1 8 && Tp.inb b.r2 1 8) && Tp.inb b.recover 0 1048576 && ruok b
theorem ruok_all (b : Bd) (h : ∀ k, k < 6 → ∀ j, j ≤ rM k → okAt b k j = true) : ruok b = true := by
 unfold ruok
 simp only [List.all_eq_true, List.mem_range]
 exact fun k hk j hj => h k hk j omg
theorem ruok_not (b : Bd) (k j : Nat) (hk : k < 6) (hj : j ≤ rM k) (h : okAt b k j = false) : ruok b = false := by
 rw [← Bool.not_eq_true]
 intro hh
 unfold ruok at hh
 simp only [List.all_eq_true, List.mem_range] at hh
 have := hh k hk j omg
 rw [h] at this
 cases this
theorem six {i : Nat} (h : i < 6) : i = 0 ∨ i = 1 ∨ i = 2 ∨ i = 3 ∨ i = 4 ∨ i = 5 := by omega
theorem rule_enters (i : Nat) (h : i < 6) : ∀ args W, (callFunc (rF i) args).run Tryz.prog W = .ok (.enter (rF i) args) W := by
 rcases six h with rfl | rfl | rfl | rfl | rfl | rfl
 ·exact enters_of Tryz.func99 (by kernel_rfl) rfl
 ·exact enters_of Tryz.func100 (by kernel_rfl) rfl
 ·exact enters_of Tryz.func101 (by kernel_rfl) rfl
 ·exact enters_of Tryz.func102 (by kernel_rfl) rfl
 ·exact enters_of Tryz.func103 (by kernel_rfl) rfl
 ·exact enters_of Tryz.func104 (by kernel_rfl) rfl
theorem rule_calls (i j c : Nat) (h : i < 6) (hj : j ≤ rM i) (W : World) : Calls Tryz.prog (rF i) #[.pointer (some ⟨c, 0, none⟩), .int .i64 j] W fun e w' => e = .returned (.pointer (some ⟨c, rB i + j, none⟩)) ∧ w' = W := by
 rcases six h with rfl | rfl | rfl | rfl | rfl | rfl
 ·exact bd_top c j (by have : j ≤ 2 := hj; omega) W
 ·exact bd_speed c j (by have : j ≤ 2 := hj; omega) W
 ·obtain rfl : j = 0 := Nat.le_zero.1 hj
  exact bd_step c _ W
 ·obtain rfl : j = 0 := Nat.le_zero.1 hj
  exact bd_jump c _ W
 ·obtain rfl : j = 0 := Nat.le_zero.1 hj
  exact bd_lift c _ W
 ·obtain rfl : j = 0 := Nat.le_zero.1 hj
  exact bd_effort c _ W
theorem rule_in (i j : Nat) (h : i < 6) (hj : j ≤ rM i) : 0 < rB i + j ∧ rB i + j < 17 ∧ rM i ≤ 2 := by
 rcases six h with rfl | rfl | rfl | rfl | rfl | rfl <;> simp only [rM] at hj <;> simp only [rB, rM] <;> omega
def ruL (i : Nat) : List Value := [.func (.func (rF i)) #[] #[], .int .i64 (rLo i), .int .i64 (rUp i), .int .i64 (rM i)]
theorem rule_row (i : Nat) (h : i < 6) (q : Nat) (v : Value) (hq : (ruL i)[q]? = some v) : ruA.toList[4 + i * 4 + q]? = some v := by
 have hq4 : q < 4 := (List.getElem?_eq_some_iff.1 hq).1
 rcases six h with rfl | rfl | rfl | rfl | rfl | rfl <;> rcases (by omega : q = 0 ∨ q = 1 ∨ q = 2 ∨ q = 3) with rfl | rfl | rfl | rfl <;> (rw [← hq]; rfl)
theorem rule_range {w : World} {b : Nat} (h : w.rangeAt b 0 ruA.toList) (i : Nat) (hi : i < 6) : w.rangeAt b (4 + i * 4) (ruL i) := fun q v hq => by
 have := h (4 + i * 4 + q) v (rule_row i hi q v hq)
 rwa [Nat.zero_add] at this
theorem bd_cell {w : World} {c : Nat} {b : Bd} (h : w.rangeAt c 0 (bdA b).toList) (p : Nat) (h0 : 0 < p) (hp : p < 17) : w.cell? ⟨c, p, none⟩ = some (.int .i64 (bdN b p)) := by
 have := h p _ (bdA_get b p h0 hp)
 rwa [Nat.zero_add] at this
end Un
theorem bd_within1 (lo up x : Int) (b cap : Nat) (w : World) (hx : w.cell? ⟨b, 0, none⟩ = some (.int .i64 x)) :
  Calls Tryz.prog 53 #[.int .i64 lo, .int .i64 up, .slice (some ⟨b, 0, none⟩) 1 cap] w fun e w' => e = .returned (.bool (Tp.inb x lo up)) ∧ w' = w := by
 have h := bd_within lo up b 0 cap [x] w (by simp) (fun i hi => by
  obtain rfl : i = 0 := by simpa using hi
  exact hx)
 simpa using h
theorem bd_within3 (lo up x y z : Int) (b o cap : Nat) (w : World) (hx : w.cell? ⟨b, o, none⟩ = some (.int .i64 x)) (hy : w.cell? ⟨b, o + 1, none⟩ = some (.int .i64 y)) (hz : w.cell? ⟨b, o + 2, none⟩ = some (.int .i64 z)) :
  Calls Tryz.prog 53 #[.int .i64 lo, .int .i64 up, .slice (some ⟨b, o, none⟩) 3 cap] w fun e w' => e = .returned (.bool (Tp.inb x lo up && Tp.inb y lo up && Tp.inb z lo up)) ∧ w' = w := by
 have h := bd_within lo up b o cap [x, y, z] w (by simp) (fun i hi => by
  rcases (by have : i < 3 := hi; omega : i = 0 ∨ i = 1 ∨ i = 2) with rfl | rfl | rfl
  ·exact hx
  ·exact hy
  ·exact hz)
 simp only [List.all_cons, List.all_nil, Bool.and_true] at h
 rw [← Bool.and_assoc] at h
 exact h
end Go.Proofs.YtedolbjgdedoaaaGreatDoor

namespace Go.Proofs.YtedolbjgdedoaaaGreatDoor
open Go.RowKit
theorem bd_check (B : Un.Bd) (w : World) (hs : B.name.size ≤ 9223372036854775807) : Calls Tryz.prog 19 #[.agg (Un.bdA B)] w fun e w' => e = .returned (.int .i64 (if Un.bok B = true then 0 else 250)) ∧ Below w.heap.size w w' := by
 obtain ⟨r, hr⟩ : ∃ r, (if Un.bok B = true then (0 : Int) else 250) = r := ⟨_, rfl⟩
 rw [hr]
 have HRR := qh hr
 clear hr
 have HI := qh (show (Tryz.prog.info? 48).map (·.size) = some (Un.bdA B).toList.length by kernel_rfl)
 have HIc := qh (show (Tryz.prog.info? 119).map (·.size) = some (Un.bdA B).size by kernel_rfl)
 have HIr := qh (show (Tryz.prog.info? 125).map (·.size) = some Un.ruA.size by kernel_rfl)
 have H1r := qh (show Un.ruA.all (·.oneCell') = true by simp [Un.ruA, Value.oneCell'])
 have HA := qh (Kit.range_alloc w (Un.bdA B) 48)
 have hfold : Array.foldl (fun cs x => cs.setIfInBounds x.snd x.fst) Un.bdZ (Un.bdA B).zipIdx 0 17 = Un.bdA B := by kernel_rfl
 unfold Un.bdZ at hfold
 have hs17 : (Un.bdA B).size = 17 := rfl
 go_enter Tryz.func19, Tryz.ntmps19
 go_upto_region 2 with (first | ((with_reducible refine wpList_load_mid ?_ 48 (.tmp 1) ?_ w.heap.size 0 ?_ (Un.bdA B).toList _ HA.out Tryz.underlying48 rfl HI.out ?_); rfl; rfl; rfl) | ((with_reducible refine Kit.wpList_store_fresh (x := .tmp 3) (y := .tmp 9) (b := w.heap.size + 1) (cells := Un.bdA B) ?_ ?_ ?_ ?_ ?_ ?_ HIc.out (Un.bdA_one B) ?_); rfl; rfl; rfl; simp; rfl; rfl))
 refine Kit.wp_name ?_
 intro W1 hW1
 have hb1 : Below w.heap.size w W1 := by rw [hW1]; exact ((Below.refl _ _).alloc nlr _).alloc (by simp) _
 have hz1 : w.heap.size + 1 < W1.heap.size := by rw [hW1]; simp
 have hz0 : w.heap.size < W1.heap.size := by omega
 have hrC : W1.rangeAt (w.heap.size + 1) 0 (Un.bdA B).toList := by
  have h := Kit.range_alloc (w.alloc (.cells (Un.bdA B) 48)) (Un.bdA B) 119
  rw [hW1]
  simpa using h
 have hrA : W1.rangeAt w.heap.size 0 (Un.bdA B).toList := by
  rw [hW1]
  exact Kit.range_kept HA.out ((Below.refl _ _).alloc nlr _) (by simp)
 have g0 : W1.cell? ⟨w.heap.size, 0, none⟩ = some (.string B.name) := hrA 0 _ rfl
 have g1 : W1.cell? ⟨w.heap.size, 1, none⟩ = some (.int .i64 B.weight) := Un.bd_cell hrA 1 omg omg
 have g3 : W1.cell? ⟨w.heap.size, 3, none⟩ = some (.int .i64 B.girth) := Un.bd_cell hrA 3 omg omg
 have g16 : W1.cell? ⟨w.heap.size, 16, none⟩ = some (.int .i64 B.recover) := Un.bd_cell hrA 16 omg omg
 have HRC := qh hrC
 have HRA := qh hrA
 clear hW1 hrC hrA HA HI HIc hfold hs17
 obtain ⟨b0, hb0_⟩ : ∃ b, Un.nm B.name = b := ⟨_, rfl⟩
 obtain ⟨b1, hb1_⟩ : ∃ b, Tp.inb B.weight 1 500 = b := ⟨_, rfl⟩
 obtain ⟨b2, hb2_⟩ : ∃ b, Tp.inb B.girth 1 4 = b := ⟨_, rfl⟩
 obtain ⟨b3, hb3_⟩ : ∃ b, (Tp.inb B.r0 1 8 && Tp.inb B.r1 1 8 && Tp.inb B.r2 1 8) = b := ⟨_, rfl⟩
 obtain ⟨b4, hb4_⟩ : ∃ b, Tp.inb B.recover 0 1048576 = b := ⟨_, rfl⟩
 have HBK := qh (show Un.bok B = (b0 && b1 && b2 && b3 && b4 && Un.ruok B) by unfold Un.bok; rw [hb0_, hb1_, hb2_, hb3_, hb4_])
 have K0 := qh (fun W => (hb0_ ▸ lx_name B.name W hs : Calls Tryz.prog 52 #[.string B.name] W fun e w' => e = .returned (.bool b0) ∧ w' = W))
 have K1 := qh (fun W q c (hx : World.cell? W ⟨q, 0, none⟩ = some (.int .i64 B.weight)) => (hb1_ ▸ bd_within1 1 500 B.weight q c W hx : Calls Tryz.prog 53 #[.int .i64 1, .int .i64 500, .slice (some ⟨q, 0, none⟩) 1 c] W fun e w' => e = .returned (.bool b1) ∧ w' = W))
 have K2 := qh (fun W q c (hx : World.cell? W ⟨q, 0, none⟩ = some (.int .i64 B.girth)) => (hb2_ ▸ bd_within1 1 4 B.girth q c W hx : Calls Tryz.prog 53 #[.int .i64 1, .int .i64 4, .slice (some ⟨q, 0, none⟩) 1 c] W fun e w' => e = .returned (.bool b2) ∧ w' = W))
 have K4 := qh (fun W q c (hx : World.cell? W ⟨q, 0, none⟩ = some (.int .i64 B.recover)) => (hb4_ ▸ bd_within1 0 1048576 B.recover q c W hx : Calls Tryz.prog 53 #[.int .i64 0, .int .i64 1048576, .slice (some ⟨q, 0, none⟩) 1 c] W fun e w' => e = .returned (.bool b4) ∧ w' = W))
 have K3 := qh (fun W c (hx : World.rangeAt W w.heap.size 0 (Un.bdA B).toList) => (hb3_ ▸ bd_within3 1 8 B.r0 B.r1 B.r2 w.heap.size 6 c W (Un.bd_cell hx 6 omg omg) (Un.bd_cell hx 7 omg omg) (Un.bd_cell hx 8 omg omg) : Calls Tryz.prog 53 #[.int .i64 1, .int .i64 8, .slice (some ⟨w.heap.size, 6, none⟩) 3 c] W fun e w' => e = .returned (.bool b3) ∧ w' = W))
 clear hb0_ hb1_ hb2_ hb3_ hb4_
 go_wp2_with fail
 refine (K0.out _).mono ?_
 rintro _ w' ⟨rfl, hww⟩
 subst w'
 rcases b0 with _ | _
 ·have HF := qh (show r = 250 by rw [← HRR.out, HBK.out]; rfl)
  go_wp2_with fail
  go_ret
  exact ⟨by rw [HF.out]; rfl, by exact Kit.gr⟩
 go_wp2_with fail
 refine (K1.out _ _ _ (by simp)).mono ?_
 rintro _ w' ⟨rfl, hww⟩
 subst w'
 rcases b1 with _ | _
 ·have HF := qh (show r = 250 by rw [← HRR.out, HBK.out]; rfl)
  go_wp2_with fail
  go_ret
  exact ⟨by rw [HF.out]; rfl, by exact Kit.gr⟩
 go_wp2_with fail
 refine (K2.out _ _ _ (by simp)).mono ?_
 rintro _ w' ⟨rfl, hww⟩
 subst w'
 rcases b2 with _ | _
 ·have HF := qh (show r = 250 by rw [← HRR.out, HBK.out]; rfl)
  go_wp2_with fail
  go_ret
  exact ⟨by rw [HF.out]; rfl, by exact Kit.gr⟩
 go_wp2_with fail
 refine (K3.out _ _ (Kit.range_kept HRA.out (by exact Kit.gr) omg)).mono ?_
 rintro _ w' ⟨rfl, hww⟩
 subst w'
 rcases b3 with _ | _
 ·have HF := qh (show r = 250 by rw [← HRR.out, HBK.out]; rfl)
  go_wp2_with fail
  go_ret
  exact ⟨by rw [HF.out]; rfl, by exact Kit.gr⟩
 go_wp2_with fail
 refine (K4.out _ _ _ (by simp [go_sem])).mono ?_
 rintro _ w' ⟨rfl, hww⟩
 subst w'
 rcases b4 with _ | _
 ·have HF := qh (show r = 250 by rw [← HRR.out, HBK.out]; rfl)
  go_wp2_with fail
  go_ret
  exact ⟨by rw [HF.out]; rfl, by exact Kit.gr⟩
 go_upto_region 5 with (first | (go_at_call 54; refine (bd_rules _).mono ?_; rintro _ w2 ⟨rfl, hb2⟩) | ((with_reducible refine Kit.wpList_store_fresh (x := .tmp 4) (y := .tmp 41) (b := w2.heap.size) (cells := Un.ruA) ?_ ?_ ?_ ?_ ?_ ?_ HIr.out H1r.out ?_); rfl; rfl; rfl; rfl; rfl; rfl))
 refine Kit.wp_name ?_
 intro W3 hW3
 have hb2' : Below w.heap.size w w2 := Below.trans (B := w.heap.size) (by exact Kit.gr) (hb2.mono (by simp; omega))
 have hb3 : Below w.heap.size w W3 := by rw [hW3]; exact hb2'.alloc hb2'.size _
 have hb13 : Below W1.heap.size W1 W3 := by rw [hW3]; exact Below.alloc (Below.trans (B := W1.heap.size) (by exact Kit.gr) (hb2.mono (by simp; omega))) (by have := hb2.size; simp at this; omega) _
 have hrC : W3.rangeAt (w.heap.size + 1) 0 (Un.bdA B).toList := Kit.range_kept HRC.out hb13 hz1
 have hrB : W3.rangeAt w2.heap.size 0 Un.ruA.toList := by rw [hW3]; exact Kit.range_alloc w2 Un.ruA _
 have hz3 : w2.heap.size < W3.heap.size := by rw [hW3]; simp
 have hzC : w.heap.size + 1 < W3.heap.size := by have := hb13.size; omega
 clear hW3 hb2 hb2' hb13 HRC HRA K0 K1 K2 K3 K4 g0 g1 g3 g16 hb1 hz1 hz0
 obtain ⟨bq, hbq⟩ : ∃ bq, bq = w2.heap.size := ⟨_, rfl⟩
 rw [← hbq] at hrB hz3 ⊢
 obtain ⟨cq, hcq⟩ : ∃ cq, cq = w.heap.size + 1 := ⟨_, rfl⟩
 rw [← hcq] at hrC hzC ⊢
 have HRC := qh hrC
 have HRB := qh hrB
 have HB3 := qh hb3
 clear hrC hrB hb3 hbq hcq HIr H1r
 have HIu := qh (show (Tryz.prog.info? 124).map (·.size) = some 4 by kernel_rfl)
 have HRN := qh (show ∀ i j, i < 6 → j ≤ Un.rM i → Un.okAt B i j = false → r = 250 from fun i j h1 h2 h3 => by rw [← HRR.out, HBK.out, Un.ruok_not B i j h1 h2 h3]; rfl)
 have HRA2 := qh (show (∀ k j, k < 6 → j ≤ Un.rM k → Un.okAt B k j = true) → r = 0 from fun h => by rw [← HRR.out, HBK.out, Un.ruok_all B (fun k hk j hj => h k j hk hj)]; rfl)
 have HB3' := qh HB3.out.size
 clear HRR HBK
 go_wp2_with fail
 go_loopg [44] 6 (fun kx v44 wr => ∃ i : Nat, v44 = .int .i64 i ∧ i ≤ 6 ∧ 6 - i ≤ kx ∧ Hid (∀ k j, k < i → j ≤ Un.rM k → Un.okAt B k j = true) ∧ Hid (Below W3.heap.size W3 wr))
 case atStart => exact ⟨0, rfl, by omega, by omega, qh (fun k j h => absurd h (Nat.not_lt_zero _)), qh (Below.refl _ _)⟩
 case round =>
  obtain ⟨i, rfl, hi, hk, HA, HB⟩ := hrel
  by_cases hlt : i < 6
  ·have hiz : (i : Int) < 6 := by omega
   have hrr := Un.rule_range (Kit.range_kept HRB.out HB.out hz3) i hlt
   unfold Un.ruL at hrr
   have HM := qh (show ∀ j, j ≤ Un.rM i → 0 < Un.rB i + j ∧ Un.rB i + j < 17 from fun j hj => ⟨(Un.rule_in i j hlt hj).1, (Un.rule_in i j hlt hj).2.1⟩)
   have hm2 : Un.rM i ≤ 2 := (Un.rule_in i 0 hlt (Nat.zero_le _)).2.2
   have HCF := qh (fun j hj W => Un.rule_calls i j cq hlt hj W)
   have eF := Un.rule_enters i hlt
   have HOK := qh (show ∀ j, Un.okAt B i j = Tp.inb (Un.bdN B (Un.rB i + j)) (Un.rLo i) (Un.rUp i) from fun j => rfl)
   have HWI := qh (fun (j : Nat) q c W hx => bd_within1 (Un.rLo i) (Un.rUp i) (Un.bdN B (Un.rB i + j)) q c W hx)
   generalize Un.rF i = F at *
   generalize Un.rLo i = lo at *
   generalize Un.rUp i = up at *
   obtain ⟨m, hm⟩ : ∃ m, m = Un.rM i := ⟨_, rfl⟩
   rw [← hm] at hrr hm2 HM HCF
   have HMM := qh hm
   clear hm
   have c0 : wr.cell? ⟨bq, 4 + i * 4, none⟩ = some (.func (.func F) #[] #[]) := hrr 0 _ rfl
   have c1 : wr.cell? ⟨bq, 4 + i * 4 + 1, none⟩ = some (.int .i64 lo) := hrr 1 _ rfl
   have c2 : wr.cell? ⟨bq, 4 + i * 4 + 2, none⟩ = some (.int .i64 up) := hrr 2 _ rfl
   have c3 : wr.cell? ⟨bq, 4 + i * 4 + 3, none⟩ = some (.int .i64 m) := hrr 3 _ rfl
   clear hrr
   have hzB : W3.heap.size ≤ wr.heap.size := HB.out.size
   go_wp2_with fail
   refine Kit.wp_name ?_
   intro W4 hW4
   obtain ⟨R, hR⟩ : ∃ R, R = wr.heap.size := ⟨_, rfl⟩
   rw [← hR]
   have r0 : W4.cell? ⟨R, 0, none⟩ = some (.func (.func F) #[] #[]) := by rw [hW4, hR]; simp [go_sem]
   have r1 : W4.cell? ⟨R, 1, none⟩ = some (.int .i64 lo) := by rw [hW4, hR]; simp [go_sem]
   have r2 : W4.cell? ⟨R, 2, none⟩ = some (.int .i64 up) := by rw [hW4, hR]; simp [go_sem]
   have h4 : W4.heap.size = R + 1 := by rw [hW4, hR]; simp
   have HB4 := qh (show Below W3.heap.size W3 W4 from by rw [hW4]; exact HB.out.alloc hzB _)
   clear hW4 c0 c1 c2 c3 hR hzB
   go_loopg [51] (m + 1) (fun kx v51 wx => ∃ j : Nat, v51 = .int .i64 j ∧ j ≤ m + 1 ∧ m + 1 - j ≤ kx ∧ Hid (∀ q, q < j → Un.okAt B i q = true) ∧ Hid (Below W4.heap.size W4 wx))
   case atStart => exact ⟨0, rfl, by omega, by omega, qh (fun q h => absurd h (Nat.not_lt_zero _)), qh (Below.refl _ _)⟩
   case round =>
    obtain ⟨j, rfl, hj, hkj, HJ, HX⟩ := hrel
    by_cases hlj : j < m + 1
    ·have hljz : (j : Int) < (m : Int) + 1 := by omega
     obtain ⟨o, ho⟩ : ∃ o, o = Un.rB i + j := ⟨_, rfl⟩
     have ho2 := HM.out j omg
     have hC := HCF.out j omg
     have hW := HWI.out j
     have hO := HOK.out j
     rw [← ho] at ho2 hC hW hO
     have hxc : ∀ X, Below W4.heap.size W4 X → X.cell? ⟨R, 0, none⟩ = some (.func (.func F) #[] #[]) ∧ X.cell? ⟨R, 1, none⟩ = some (.int .i64 lo) ∧ X.cell? ⟨R, 2, none⟩ = some (.int .i64 up) ∧ X.cell? ⟨cq, o, none⟩ = some (.int .i64 (Un.bdN B o)) := fun X hX =>
      ⟨(hX.cell (by simp; omega)).trans r0, (hX.cell (by simp; omega)).trans r1, (hX.cell (by simp; omega)).trans r2, Un.bd_cell (Kit.range_kept HRC.out (HB4.out.trans (hX.mono HB4.out.size)) hzC) o ho2.1 ho2.2⟩
     generalize Un.bdN B o = x at hW hO hxc
     generalize hok : Tp.inb x lo up = ok at hW hO
     have HO := qh hO
     have HC := qh hC
     have HW := qh hW
     have HXC := qh hxc
     clear hC hW hO hxc hok ho
     go_wp2_with fail
     refine Kit.wp_region_vals 13 [([(6, none)], none, true), ([(54, some 0)], none, true), ([(6, none)], none, true), ([(56, some 2)], none, true), ([(6, none)], none, true), ([(58, some 4)], none, true), ([(7, none)], none, true), ([(59, some 5), (3, none), (60, some 6)], none, true), ([(61, some 7)], none, true), ([(62, some 8)], none, true), ([(63, some 9)], none, true), ([(55, some 1), (57, some 3), (64, some 10)], none, true), ([(65, some 11)], none, true)]
      [some 54, some 55, some 56, some 57, some 58, some 59, some 60, some 61, some 62, some 63, some 64, some 65, some 66] rfl (by kernel_rfl) (by kernel_rfl) (fun A B => Below A.heap.size A B) (fun q v w' => match q with
      | 0 => v = .pointer (some ⟨R, 1, none⟩)
      | 1 => v = .int .i64 lo
      | 2 => v = .pointer (some ⟨R, 2, none⟩)
      | 3 => v = .int .i64 up
      | 4 => v = .pointer (some ⟨R, 0, none⟩)
      | 5 => v = .func (.func F) #[] #[]
      | 6 => v = .int .i64 j
      | 7 => v = .pointer (some ⟨cq, o, none⟩)
      | 8 => v = .pointer (some ⟨cq, o, none⟩)
      | 9 => v = .int .i64 x
      | 10 => ∃ b, v = .slice (some ⟨b, 0, none⟩) 1 1 ∧ w'.cell? ⟨b, 0, none⟩ = some (.int .i64 x) ∧ b < w'.heap.size
      | 11 => v = .bool ok
      | _ => v = .bool (!ok))
      (fun h k => h.trans (k.mono h.size)) (Below.drew (Below.refl _ _)) (fun _ => Below.refl _ _) ?_ ?_ ?_
     ·intro q v A B h1 h2 h3
      split at h3 <;> try exact h3
      obtain ⟨b, e, h5, h6⟩ := h3
      exact ⟨b, e, (h2.cell h6).trans h5, Nat.lt_of_lt_of_le h6 h2.size⟩
     ·simp only [List.take_succ_cons, List.take_zero, Kit.StepsV, Kit.VOp, Kit.RdP, true_and, if_true, and_true]
      refine ⟨?_, ?_, ?_, ?_, ?_, ?_, ?_, ?_, ?_, ?_, ?_, ?_, ?_⟩
      all_goals intro ev w1 hx hv hc hf hg
      ·simp at hv; simp [execOp, hv, hc, go_sem, Kit.UponV, Below.refl]
      ·have so := HXC.out w1 (HX.out.trans (hx.mono HX.out.size))
       simp [execOp, hv, hc, so.2.1, go_sem, Kit.UponV, Below.refl]
      ·simp at hv; simp [execOp, hv, hc, go_sem, Kit.UponV, Below.refl]
      ·have so := HXC.out w1 (HX.out.trans (hx.mono HX.out.size))
       simp [execOp, hv, hc, so.2.2.1, go_sem, Kit.UponV, Below.refl]
      ·simp at hv; simp [execOp, hv, hc, go_sem, Kit.UponV, Below.refl]
      ·have so := HXC.out w1 (HX.out.trans (hx.mono HX.out.size))
       simp [execOp, hv, hc, so.1, go_sem, Kit.UponV, Below.refl]
      ·simp at hv; simp [execOp, hv, hc, go_sem, Kit.UponV, Below.refl]
      ·obtain ⟨hv1, hv2, hv3⟩ := hv
       simp at hv2
       simp [execOp, hv1, hv2, hv3, hc, eF, go_sem, Kit.UponV]
       refine (HC.out w1).mono ?_
       rintro e w' ⟨rfl, rfl⟩
       exact ⟨_, rfl, rfl, Below.refl _ _⟩
      ·simp [execOp, hv, hc, go_sem, Kit.UponV, Below.refl]
      ·have so := HXC.out w1 (HX.out.trans (hx.mono HX.out.size))
       simp [execOp, hv, hc, so.2.2.2, go_sem, Kit.UponV, Below.refl]
      ·simp [execOp, hv, hc, go_sem, Kit.UponV]
       exact (Below.refl _ _).alloc nlr _
      ·obtain ⟨hv1, hv2, b, hv3, hb1, hb2⟩ := hv
       simp [execOp, hv1, hv2, hv3, hc, hf, go_sem, Kit.UponV]
       refine (HW.out b 1 w1 hb1).mono ?_
       rintro e w' ⟨rfl, rfl⟩
       exact ⟨_, rfl, rfl, Below.refl _ _⟩
      ·simp [execOp, hv, hc, go_sem, Kit.UponV, Below.refl]
     ·intro vs w1 hv hx
      have v12 : vs 12 = .bool (!ok) := hv 12 omg
      clear hv
      have HXB := qh (HX.out.trans (hx.mono HX.out.size))
      clear hx
      simp only [Kit.putD, List.getD_cons_zero, List.getD_cons_succ, Act.put, v12, List.drop_succ_cons, List.drop_zero]
      go_simp
      cases ok
      ·have HF := qh (HRN.out i j hlt (by rw [← HMM.out]; omega) HO.out)
       have HBW := qh (HB3.out.trans ((HB4.out.trans (HXB.out.mono HB4.out.size)).mono HB3.out.size))
       go_wp2_with fail
       go_ret
       exact ⟨by rw [HF.out]; rfl, HBW.out⟩
      ·go_wp2_with fail
       go_roundg (m + 1 - (j + 1))
       case measure => omega
       case rel => exact ⟨j + 1, by go_num, by omega, Nat.le_refl _, qh (fun q hq => by
        rcases Nat.lt_or_ge q j with h | h
        ·exact HJ.out q h
        ·obtain rfl : q = j := by omega
         exact HO.out), HXB.out⟩
    ·obtain rfl : j = m + 1 := by omega
     have HBX := qh (HB4.out.trans (HX.out.mono HB4.out.size))
     go_wp2_with fail
     go_roundg (6 - (i + 1))
     case measure => omega
     case rel => exact ⟨i + 1, by go_num, by omega, Nat.le_refl _, qh (fun k q hk hq => by
      rcases Nat.lt_or_ge k i with h | h
      ·exact HA.out k q h hq
      ·obtain rfl : k = i := by omega
       rw [← HMM.out] at hq
       exact HJ.out q omg), HBX.out⟩
  ·obtain rfl : i = 6 := by omega
   have HF := qh (HRA2.out (fun k j h1 h2 => HA.out k j h1 h2))
   have HBW := qh (HB3.out.trans (HB.out.mono HB3.out.size))
   go_wp2_with fail
   go_ret
   exact ⟨by rw [HF.out]; rfl, HBW.out⟩
end Go.Proofs.YtedolbjgdedoaaaGreatDoor
