/- A part of the proof. -/
import Derived.Test.YtidjhgajglebnaaGreatDoorAx19
set_option linter.unusedVariables false
set_option linter.unusedSimpArgs false
namespace Go.Proofs.YtidjhgajglebnaaGreatDoor
open Go Go.Ax Go.Proofs Tryz
set_option maxRecDepth 100000
set_option maxHeartbeats 16000000
end Go.Proofs.YtidjhgajglebnaaGreatDoor
namespace Go.Ax
open Go
end Go.Ax
