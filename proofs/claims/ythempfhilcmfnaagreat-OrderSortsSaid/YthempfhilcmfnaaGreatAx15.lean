/- A part of the proof. -/
import Derived.Test.YthempfhilcmfnaaGreatAx14
import Derived.Test.YthempfhilcmfnaaGreatProg
set_option linter.unusedVariables false
namespace Go.Proofs.YthempfhilcmfnaaGreat
open Go Go.Ax Go.Proofs
set_option maxRecDepth 100000
set_option maxHeartbeats 16000000
end Go.Proofs.YthempfhilcmfnaaGreat
namespace Go.Proofs.YthempfhilcmfnaaGreat
open Go Go.Ax Go.Proofs
set_option maxRecDepth 100000
set_option maxHeartbeats 4000000
section
variable {mem : Mem} {σ : List (Nat × Nat)}
end
end Go.Proofs.YthempfhilcmfnaaGreat
namespace Go.Proofs.YthempfhilcmfnaaGreat
open Go Go.Ax Go.Proofs
set_option maxRecDepth 100000
set_option maxHeartbeats 4000000
section
variable {mem : Mem} {σ : List (Nat × Nat)}
end
end Go.Proofs.YthempfhilcmfnaaGreat
namespace Go.Ax
open Go
end Go.Ax
namespace Go.Ax
open Go
end Go.Ax
