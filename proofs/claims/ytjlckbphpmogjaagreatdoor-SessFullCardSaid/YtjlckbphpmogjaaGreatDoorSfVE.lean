/- The functions without a text, for the interpreter. No condition. -/
import Derived.Test.YtjlckbphpmogjaaGreatDoorSfViExt2
import Derived.Test.YtjlckbphpmogjaaGreatDoorProg
namespace Go.Proofs.YtjlckbphpmogjaaGreatDoor
open Go.Vi

def ext (f : Nat) : VFn :=
  if f = 240 then .ext xIndexByte else
  if f = 409 then .ext xIndexString else
  .none

noncomputable abbrev F (f : Nat) : VFn := fnOf Tryz.prog Tryz.prog.globals.size ext f

end Go.Proofs.YtjlckbphpmogjaaGreatDoor
