/- The example of the laws on trees, as the kernel runs it. No condition. -/
import Derived.Test.YtnbdamdcmofafaaGreatDoorGwVT
import Derived.Test.YtnbdamdcmofafaaGreatDoorGwViK2
namespace Go.Proofs.YtnbdamdcmofafaaGreatDoor
open Go.Vi
set_option linter.unusedSimpArgs false
set_option linter.unusedVariables false

theorem run21 : (callK T0 2000 (.f 21) [] { next := 6, t := .nil }).map (fun q => q.1) = some (.b true) := by kernel_rfl

end Go.Proofs.YtnbdamdcmofafaaGreatDoor
