/- Bytes cloned. -/
import Derived.Test.YtcnngodgngmghaaGreatDoorEvG
import Derived.Test.YtcnngodgngmghaaGreatDoorEvE
namespace Go.Proofs.YtcnngodgngmghaaGreatDoor.Ev
open Go
set_option linter.unusedVariables false
set_option linter.unusedSimpArgs false
theorem clone (l : List Int) (h : l.length ≤ 140737488355328) : g_slices_Clone_byte_byte ((), ((l, ()), ())) = some ((l, ()), ((), ())) := by
  unfold g_slices_Clone_byte_byte f_slices_Clone_byte_byte_m
  simp only [List.length_nil, List.nil_append]
  rw [decide_eq_true (show (0 + l.length) * 1 ≤ 140737488355328 by omega), decide_eq_true (show 0 + l.length ≤ 9223372036854775807 by omega)]
  simp only [Bool.and_self, cond_true]
  cases l with
  | nil => simp [agree]
  | cons x l => rfl
end Go.Proofs.YtcnngodgngmghaaGreatDoor.Ev
