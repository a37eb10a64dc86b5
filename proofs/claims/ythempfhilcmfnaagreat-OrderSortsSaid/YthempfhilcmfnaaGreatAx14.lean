/- A part of the proof. -/
import Derived.Test.YthempfhilcmfnaaGreatAx13
import Derived.Test.YthempfhilcmfnaaGreatProg
import Derived.KernelRfl
import Derived.Lib.ItoaMem
import Derived.Lib.AtoiAllCases
set_option linter.unusedVariables false
namespace Go.Proofs.YthempfhilcmfnaaGreat
open Go Go.Ax Go.Proofs
set_option maxRecDepth 100000
set_option maxHeartbeats 8000000
set_option maxHeartbeats 8000000
end Go.Proofs.YthempfhilcmfnaaGreat
namespace Go.Proofs.YthempfhilcmfnaaGreat
open Go Go.Ax Go.Proofs
set_option maxRecDepth 100000
set_option maxHeartbeats 4000000
set_option maxHeartbeats 8000000
set_option maxHeartbeats 8000000
set_option maxHeartbeats 8000000
set_option maxHeartbeats 8000000
set_option maxHeartbeats 8000000
set_option maxHeartbeats 8000000
set_option maxHeartbeats 8000000
set_option maxHeartbeats 8000000
end Go.Proofs.YthempfhilcmfnaaGreat
namespace Go.Ax
open Go
structure OptN (x : Nd) : Prop where
 ok : okN x
 rng : x.lo ≤ x.hi ∧ -4611686018427387904 ≤ x.lo ∧ x.hi ≤ 4611686018427387904 ∧ x.hi < x.lo + 1099511627776
 klen : x.kids.length ≤ 2000
 kl2 : x.kind = 2 → x.kids.length ≤ 1000
 ch : x.kind = 2 → 1 ≤ x.kids.length ∧ (x.labels.length = 0 ∨ x.labels.length = x.kids.length)
structure LawN (LB : List (List UInt8)) (x : Nd) : Prop where
 opt : OptN x
 lab : ∀ s ∈ x.labels, s ∈ LB
 ll : x.labels.length ≤ 1000
end Go.Ax
