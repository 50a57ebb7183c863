/- An error's number. -/
import Derived.Test.YtignndakgibpaaaDoorEvG
import Derived.Test.YtignndakgibpaaaDoorEvE
namespace Go.Proofs.YtignndakgibpaaaDoor.Ev
open Go
set_option linter.unusedVariables false
set_option linter.unusedSimpArgs false
end Go.Proofs.YtignndakgibpaaaDoor.Ev
