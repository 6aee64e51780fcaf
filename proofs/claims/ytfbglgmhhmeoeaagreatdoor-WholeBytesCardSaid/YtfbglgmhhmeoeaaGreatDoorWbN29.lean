/- The example of the laws of the top, as the kernel runs it. No condition. -/
import Derived.Test.YtfbglgmhhmeoeaaGreatDoorWbVT
import Derived.Test.YtfbglgmhhmeoeaaGreatDoorWbViK2
namespace Go.Proofs.YtfbglgmhhmeoeaaGreatDoor
open Go.Vi
set_option linter.unusedSimpArgs false
set_option linter.unusedVariables false
theorem run4 : (callK T0 2000 (.f 4) [] { next := 8, t := .nil }).map (fun q => q.1) = some (.b true) := by kernel_rfl
end Go.Proofs.YtfbglgmhhmeoeaaGreatDoor
