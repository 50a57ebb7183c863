/- An error's number. -/
import Derived.Test.YtddnfappkfiidaaGreatEvG
import Derived.Test.YtddnfappkfiidaaGreatEvE
namespace Go.Proofs.YtddnfappkfiidaaGreat.Ev
open Go
set_option linter.unusedVariables false
set_option linter.unusedSimpArgs false
end Go.Proofs.YtddnfappkfiidaaGreat.Ev
