/- The law HeadParses, plain. -/
import Derived.Test.YtodnllhjikeafaaGreatDoorPuHeadP
namespace Go.Proofs.YtodnllhjikeafaaGreatDoor.Ev
open Go
set_option linter.unusedVariables false
set_option linter.unusedSimpArgs false
set_option maxRecDepth 4000
end Go.Proofs.YtodnllhjikeafaaGreatDoor.Ev
