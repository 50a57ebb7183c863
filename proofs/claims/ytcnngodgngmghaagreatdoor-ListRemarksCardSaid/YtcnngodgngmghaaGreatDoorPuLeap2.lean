/- Leap tables: what the reference's functions tell of them. -/
import Derived.Test.YtcnngodgngmghaaGreatDoorPuLeap
namespace Go.Proofs.YtcnngodgngmghaaGreatDoor.Ev
open Go
set_option linter.unusedVariables false
set_option linter.unusedSimpArgs false
/-- A table as the reference's functions take it. -/
@[reducible] def tbR (l : List (Int × Int)) (u e : Int) : (List (Int × Int)) × (Int × (Int × Unit)) := (l, (u, (e, ())))
theorem first_iff {n y m d : Int} (h : IsDate n y m d) : first n ↔ d = 1 := by
  constructor
  · rintro ⟨y', m', h'⟩; exact (isDate_unique h h').2.2
  · rintro rfl; exact ⟨y, m, h⟩
theorem R_eq {l : List (Int × Int)} {i : Nat} (h : i < l.length) : gd_i64_i64 l i = l[i] := by simp [gd_i64_i64, gd, h]
end Go.Proofs.YtcnngodgngmghaaGreatDoor.Ev
