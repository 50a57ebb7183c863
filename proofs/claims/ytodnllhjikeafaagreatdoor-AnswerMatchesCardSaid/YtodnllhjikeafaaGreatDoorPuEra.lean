/- Eras: the number near a pivot, by the program and by its reference. -/
import Derived.Test.YtodnllhjikeafaaGreatDoorPuBig
import Derived.Test.YtodnllhjikeafaaGreatDoorPuNum
import Derived.Test.YtodnllhjikeafaaGreatDoorPuSizeU32
namespace Go.Proofs.YtodnllhjikeafaaGreatDoor.Ev
open Go
set_option linter.unusedVariables false
set_option linter.unusedSimpArgs false
/-- The number near p with the lowest 32 bits n. -/
def nearV (n p : Int) : Int := if 2147483648 ≤ (n - p) % 4294967296 then p + ((n - p) % 4294967296 - 4294967296) else p + (n - p) % 4294967296
def i64V (a : Int) : Int := if i64 a then a else 0
def i64E (a : Int) : Int := if i64 a then 0 else 5
theorem num_add' (a b : Int) (ha : i64 a) (hb : i64 b) : g_num_Add ((), ((a, ()), ((b, ()), ()))) = some ((), ((i64V (a + b), ()), ((errOf (i64E (a + b)), ()), ()))) := by
  rw [num_add a b ha hb]
  unfold i64V i64E
  by_cases h : i64 (a + b)
  · rw [if_pos h, if_pos h, if_pos h]; rfl
  · rw [if_neg h, if_neg h, if_neg h]; rfl
theorem sm_pow {i : Nat} (h : i ≤ 62) : sm ((2 : Int) ^ i) := by
  have h1 : ∀ i : Nat, i ≤ 62 → (0 : Int) ≤ 2 ^ i ∧ (2 : Int) ^ i ≤ 4611686018427387904 := by decide
  have := h1 i h
  exact sm_of (by omega)
end Go.Proofs.YtodnllhjikeafaaGreatDoor.Ev
