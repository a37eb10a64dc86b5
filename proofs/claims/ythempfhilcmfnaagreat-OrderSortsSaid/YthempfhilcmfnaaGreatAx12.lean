/- A part of the proof. -/
import Derived.Test.YthempfhilcmfnaaGreatAx11
set_option linter.unusedVariables false
namespace Go.Proofs.YthempfhilcmfnaaGreat
open Go Go.Ax Go.Proofs
set_option maxRecDepth 100000
set_option maxHeartbeats 8000000
end Go.Proofs.YthempfhilcmfnaaGreat
