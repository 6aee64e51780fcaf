/- A law's argument, a row of pairs of numbers, in a memory whose objects' numbers are known. No condition. -/
import Derived.Test.YtfbglgmhhmeoeaaGreatDoorWbViGlob
import Derived.Test.YtfbglgmhhmeoeaaGreatDoorWbViRows
import Derived.Test.YtfbglgmhhmeoeaaGreatDoorWbViRow2
namespace Go.Vi
open Go.RowKit Go.WideShapes
set_option linter.unusedSimpArgs false
set_option linter.unusedVariables false
def AV.num : AV → Bool
  | .i _ _ => true
  | _ => false
def flat2 (L : List (Int × Int)) : List AV := L.flatMap fun p => [.i .i64 p.1, .i .i64 p.2]
def InI64 (x : Int) : Prop := -9223372036854775808 ≤ x ∧ x ≤ 9223372036854775807
end Go.Vi
