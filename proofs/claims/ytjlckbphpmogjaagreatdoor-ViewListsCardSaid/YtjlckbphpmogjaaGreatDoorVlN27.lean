/- The example of the laws of layer 27, as the kernel runs it. No condition. -/
import Derived.Test.YtjlckbphpmogjaaGreatDoorVlVT
import Derived.Test.YtjlckbphpmogjaaGreatDoorVlViK2
namespace Go.Proofs.YtjlckbphpmogjaaGreatDoor
open Go.Vi
set_option linter.unusedSimpArgs false
set_option linter.unusedVariables false

theorem run11 : (callK T0 2000 (.f 11) [] { next := 8, t := .nil }).map (fun q => q.1) = some (.b true) := by kernel_rfl

end Go.Proofs.YtjlckbphpmogjaaGreatDoor
