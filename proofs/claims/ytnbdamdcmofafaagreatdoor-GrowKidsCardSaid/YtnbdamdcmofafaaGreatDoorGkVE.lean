/- The functions without a text, for the interpreter. No condition. -/
import Derived.Test.YtnbdamdcmofafaaGreatDoorGkViExt
namespace Go.Proofs.YtnbdamdcmofafaaGreatDoor
open Go.Vi

def ext (f : Nat) : VFn :=
  if f = 329 then .ext xIndexString else
  if f = 332 then .ext xIndexByte else
  .none

end Go.Proofs.YtnbdamdcmofafaaGreatDoor
