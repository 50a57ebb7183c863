/- Time lines: the reference's writer, the line that the laws try first. -/
import Derived.Test.YtddnfappkfiidaaGreatPuNist
namespace Go.Proofs.YtddnfappkfiidaaGreat.Ev
open Go
set_option linter.unusedVariables false
set_option linter.unusedSimpArgs false
theorem if_len (n : Nat) (h : n ≤ 1000000) {α : Type} (a b : α) : (if (n : Int) ≤ 9223372036854775807 then a else b) = a := if_pos (by omega)
end Go.Proofs.YtddnfappkfiidaaGreat.Ev
