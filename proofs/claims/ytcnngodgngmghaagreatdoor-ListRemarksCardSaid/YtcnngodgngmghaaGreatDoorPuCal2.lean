/- The calendar's reference: years and months counted one by one come to the closed form. -/
import Derived.Test.YtcnngodgngmghaaGreatDoorPuCal
namespace Go.Proofs.YtcnngodgngmghaaGreatDoor.Ev
open Go
set_option linter.unusedVariables false
set_option linter.unusedSimpArgs false
theorem ylen_eq (y : Int) : dnum (y + 1) 1 1 = dnum y 1 1 + ylen y := by
  unfold ylen dnum
  simp only [show (1 : Int) ≤ 2 by decide, if_true]
  by_cases h : isLeap y
  · rw [if_pos h]; unfold isLeap at h; omega
  · rw [if_neg h]; unfold isLeap at h; omega
theorem ystart_400 (y : Int) : dnum (y + 400) 1 1 = dnum y 1 1 + 146097 := by
  unfold dnum
  simp only [show (1 : Int) ≤ 2 by decide, if_true]
  omega
theorem mlen_eq (y m : Int) (h : 1 ≤ m ∧ m ≤ 11) : dnum y (m + 1) 1 = dnum y m 1 + mlen y m := by
  have : m = 1 ∨ m = 2 ∨ m = 3 ∨ m = 4 ∨ m = 5 ∨ m = 6 ∨ m = 7 ∨ m = 8 ∨ m = 9 ∨ m = 10 ∨ m = 11 := by omega
  rcases this with rfl | rfl | rfl | rfl | rfl | rfl | rfl | rfl | rfl | rfl | rfl <;> simp [dnum, mlen]
  all_goals first | omega | (by_cases h : isLeap y <;> simp only [h, if_true, if_false] <;> unfold isLeap at h <;> omega)
theorem dnum_day (y m d : Int) : dnum y m d = dnum y m 1 + d - 1 := by
  unfold dnum; split <;> omega
theorem ystart_range (y : Int) (h : -30000 ≤ y ∧ y ≤ 30000) : -12000000 ≤ dnum y 1 1 ∧ dnum y 1 1 ≤ 12000000 := by
  unfold dnum; rw [if_pos (by decide)]; omega
theorem dnum_range (y m d : Int) (hy : -30000 ≤ y ∧ y ≤ 30000) (hm : 1 ≤ m ∧ m ≤ 12) (hd : 1 ≤ d ∧ d ≤ 31) : -12000000 ≤ dnum y m d ∧ dnum y m d ≤ 12000000 := by
  unfold dnum; split <;> omega
/-- Which date a number has. -/
def IsDate (n y m d : Int) : Prop := (1 ≤ m ∧ m ≤ 12) ∧ (1 ≤ d ∧ d ≤ mlen y m) ∧ dnum y m d = n
theorem mstart (y m : Int) (hm : 1 ≤ m ∧ m ≤ 12) : dnum y 1 1 + 28 * (m - 1) ≤ dnum y m 1 ∧ dnum y m 1 + mlen y m ≤ dnum (y + 1) 1 1 := by
  rw [ylen_eq]
  have : m = 1 ∨ m = 2 ∨ m = 3 ∨ m = 4 ∨ m = 5 ∨ m = 6 ∨ m = 7 ∨ m = 8 ∨ m = 9 ∨ m = 10 ∨ m = 11 ∨ m = 12 := by omega
  rcases this with rfl | rfl | rfl | rfl | rfl | rfl | rfl | rfl | rfl | rfl | rfl | rfl <;> simp [dnum, mlen, ylen]
  all_goals (by_cases h : isLeap y <;> simp only [h, if_true, if_false] <;> unfold isLeap at h <;> omega)
end Go.Proofs.YtcnngodgngmghaaGreatDoor.Ev
