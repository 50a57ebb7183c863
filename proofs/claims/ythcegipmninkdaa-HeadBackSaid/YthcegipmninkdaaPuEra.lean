/- Eras: the number near a pivot, by the program and by its reference. -/
import Derived.Test.YthcegipmninkdaaPuBig
import Derived.Test.YthcegipmninkdaaPuNum
import Derived.Test.YthcegipmninkdaaPuSizeU32
namespace Go.Proofs.Ythcegipmninkdaa.Ev
open Go
set_option linter.unusedVariables false
set_option linter.unusedSimpArgs false
/-- The number near p with the lowest 32 bits n. -/
def nearV (n p : Int) : Int := if 2147483648 ≤ (n - p) % 4294967296 then p + ((n - p) % 4294967296 - 4294967296) else p + (n - p) % 4294967296
def i64V (a : Int) : Int := if i64 a then a else 0
def i64E (a : Int) : Int := if i64 a then 0 else 5
theorem sm_pow {i : Nat} (h : i ≤ 62) : sm ((2 : Int) ^ i) := by
  have h1 : ∀ i : Nat, i ≤ 62 → (0 : Int) ≤ 2 ^ i ∧ (2 : Int) ^ i ≤ 4611686018427387904 := by decide
  have := h1 i h
  exact sm_of (by omega)
end Go.Proofs.Ythcegipmninkdaa.Ev
