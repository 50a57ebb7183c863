/- Network seconds of machine seconds, and a number folded, by the reference. -/
import Derived.Test.YtodnllhjikeafaaGreatDoorPuBig
import Derived.Test.YtodnllhjikeafaaGreatDoorPuNum
namespace Go.Proofs.YtodnllhjikeafaaGreatDoor.Ev
open Go
set_option linter.unusedVariables false
set_option linter.unusedSimpArgs false
end Go.Proofs.YtodnllhjikeafaaGreatDoor.Ev
