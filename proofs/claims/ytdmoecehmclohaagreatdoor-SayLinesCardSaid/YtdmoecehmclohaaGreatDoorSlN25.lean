/- The example of the laws of layer 25, as the kernel runs it. No condition. -/
import Derived.Test.YtdmoecehmclohaaGreatDoorSlVT
import Derived.Test.YtdmoecehmclohaaGreatDoorSlViK2
namespace Go.Proofs.YtdmoecehmclohaaGreatDoor
open Go.Vi
set_option linter.unusedSimpArgs false
set_option linter.unusedVariables false
theorem run4 : (callK T0 2000 (.f 4) [] { next := 6, t := .nil }).map (fun q => q.1) = some (.b true) := by kernel_rfl
end Go.Proofs.YtdmoecehmclohaaGreatDoor
