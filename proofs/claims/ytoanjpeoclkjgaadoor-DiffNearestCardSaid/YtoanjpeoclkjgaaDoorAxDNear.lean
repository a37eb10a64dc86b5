/- A part of the proof: DNear. -/
import Derived.Test.YtoanjpeoclkjgaaDoorAxDMain
namespace Go.Proofs.YtoanjpeoclkjgaaDoor
open Go Go.Ax Go.Proofs
set_option maxRecDepth 1000000

theorem lives31 : ((fdeep Tryd.prog [] 60).call 9 [] [] 0 fun r _ _ => saysTrue r) = True := by kernel_rfl
end Go.Proofs.YtoanjpeoclkjgaaDoor
