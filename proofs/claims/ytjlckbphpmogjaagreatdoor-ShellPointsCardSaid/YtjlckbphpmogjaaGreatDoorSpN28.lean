/- The example of the laws of layer 28, as the kernel runs it. No condition. -/
import Derived.Test.YtjlckbphpmogjaaGreatDoorSpVT
import Derived.Test.YtjlckbphpmogjaaGreatDoorSpViK2
namespace Go.Proofs.YtjlckbphpmogjaaGreatDoor
open Go.Vi
set_option linter.unusedSimpArgs false
set_option linter.unusedVariables false

theorem run18 : (callK T0 2000 (.f 18) [] { next := 8, t := .nil }).map (fun q => q.1) = some (.b true) := by kernel_rfl

end Go.Proofs.YtjlckbphpmogjaaGreatDoor
