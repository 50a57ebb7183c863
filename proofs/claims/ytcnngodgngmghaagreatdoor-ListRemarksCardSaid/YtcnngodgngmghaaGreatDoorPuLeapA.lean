/- Leap tables: layer 10's fixed fact. -/
import Derived.Test.YtcnngodgngmghaaGreatDoorPuLeap2
namespace Go.Proofs.YtcnngodgngmghaaGreatDoor.Ev
open Go
set_option linter.unusedVariables false
set_option linter.unusedSimpArgs false
end Go.Proofs.YtcnngodgngmghaaGreatDoor.Ev
