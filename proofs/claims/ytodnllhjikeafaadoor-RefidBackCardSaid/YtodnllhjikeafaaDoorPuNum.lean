/- Sums that may be too large; bytes that are the same; an error's number. -/
import Derived.Test.YtodnllhjikeafaaDoorEvG
import Derived.Test.YtodnllhjikeafaaDoorEvE
namespace Go.Proofs.YtodnllhjikeafaaDoor.Ev
open Go
set_option linter.unusedVariables false
set_option linter.unusedSimpArgs false
@[reducible] def i64 (a : Int) : Prop := -9223372036854775808 ≤ a ∧ a ≤ 9223372036854775807
theorem be_byte (w : Int) : ∀ (n : Nat), ∀ x ∈ be w n, 0 ≤ x ∧ x < 256
  | 0, x, h => by simp [be] at h
  | n + 1, x, h => by
    rcases List.mem_cons.1 h with rfl | h
    · omega
    · exact be_byte w n x h
end Go.Proofs.YtodnllhjikeafaaDoor.Ev
