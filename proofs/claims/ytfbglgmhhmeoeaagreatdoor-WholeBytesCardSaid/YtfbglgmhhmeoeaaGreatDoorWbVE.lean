/- The functions without a text, for the interpreter. No condition. -/
import Derived.Test.YtfbglgmhhmeoeaaGreatDoorWbViExt3
import Derived.Test.YtfbglgmhhmeoeaaGreatDoorProg
namespace Go.Proofs.YtfbglgmhhmeoeaaGreatDoor
open Go Go.Vi
def ext (f : Nat) : VFn :=
 if f = 121 then .ext xFindByte else
 if f = 321 then .ext xSame else
 .none
noncomputable abbrev F (f : Nat) : VFn := fnOf Tryz.prog Tryz.prog.globals.size ext f
def oa (d n : Nat) : VOper := ⟨some d, none, .mv (.t n)⟩
def ol (d n : Nat) : VOper := ⟨some d, none, .ld (.t n)⟩
def of (d o n : Nat) : VOper := ⟨some d, none, .fa o (.t n)⟩
def oc (d n : Nat) : VOper := ⟨some d, none, .nc (.t n)⟩
def oe (d n k : Nat) : VOper := ⟨some d, none, .ext (.t n) k⟩
def od (d k n : Nat) : VOper := ⟨some d, none, .ldn k (.t n)⟩
def ot (d g n : Nat) : VOper := ⟨some d, some (g, true), .mv (.t n)⟩
def on (d g n : Nat) : VOper := ⟨some d, some (g, false), .mv (.t n)⟩
def oi (d : Nat) (n : Int) : VOper := ⟨some d, none, .mv (.c (.i .i64 n))⟩
def xi (n : Int) : X := .c (.i .i64 n)
def xt (n : Nat) : X := .t n
def os (k a b : Nat) : VOper := ⟨none, none, .st k (.t a) (.t b)⟩
def ob (d : Nat) (o : BinOp) (a b : Nat) : VOper := ⟨some d, none, .bin o (.t a) (.t b)⟩
def oz (d n : Nat) : VOper := ⟨some d, none, .len 1 (.t n)⟩
def z0 : AV := .i .i64 0
def ow (d : Nat) (o : VO) : VOper := ⟨some d, none, o⟩
def ov (d g : Nat) (o : VO) : VOper := ⟨some d, some (g, true), o⟩
def ou (d g : Nat) (o : VO) : VOper := ⟨some d, some (g, false), o⟩
end Go.Proofs.YtfbglgmhhmeoeaaGreatDoor
