/- Network seconds of machine seconds, and a number folded, by the reference. -/
import Derived.Test.YthcegipmninkdaaPuBig
import Derived.Test.YthcegipmninkdaaPuNum
namespace Go.Proofs.Ythcegipmninkdaa.Ev
open Go
set_option linter.unusedVariables false
set_option linter.unusedSimpArgs false
end Go.Proofs.Ythcegipmninkdaa.Ev
