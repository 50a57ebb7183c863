/- Network seconds of machine seconds, and a number folded, by the reference. -/
import Derived.Test.YtodnllhjikeafaaPuBig
import Derived.Test.YtodnllhjikeafaaPuNum
namespace Go.Proofs.Ytodnllhjikeafaa.Ev
open Go
set_option linter.unusedVariables false
set_option linter.unusedSimpArgs false
end Go.Proofs.Ytodnllhjikeafaa.Ev
