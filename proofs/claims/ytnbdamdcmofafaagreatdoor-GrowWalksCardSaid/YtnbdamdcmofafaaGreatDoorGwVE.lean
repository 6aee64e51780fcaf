/- The functions without a text, for the interpreter. No condition. -/
import Derived.Test.YtnbdamdcmofafaaGreatDoorGwViExt
import Derived.Test.YtnbdamdcmofafaaGreatDoorProg
namespace Go.Proofs.YtnbdamdcmofafaaGreatDoor
open Go.Vi

def ext (f : Nat) : VFn :=
  if f = 329 then .ext xIndexString else
  if f = 332 then .ext xIndexByte else
  .none

noncomputable abbrev F (f : Nat) : VFn := fnOf Tryz.prog Tryz.prog.globals.size ext f

end Go.Proofs.YtnbdamdcmofafaaGreatDoor
