/- The session that the law ShellPoints begins with, as the kernel makes it. No condition. -/
import Derived.Test.YtjlckbphpmogjaaGreatDoorSpVT
import Derived.Test.YtjlckbphpmogjaaGreatDoorSpViK2
import Derived.Test.YtjlckbphpmogjaaGreatDoorSpViLaw
namespace Go.Proofs.YtjlckbphpmogjaaGreatDoor
open Go.Vi
set_option linter.unusedSimpArgs false
set_option linter.unusedVariables false

def powO : AObj := .cells ((List.range 20).map fun i : Nat => .i .u64 ((10 ^ i : Nat) : Int)) false ⟨1, none⟩
def mem28 (o : AObj) : AMem := ((mkM 9 [(8, o), (0, powO)]).new (.cells [.i .u8 40, .i .u8 97, .i .u8 41, .i .u8 98, .i .u8 42] true ⟨1, none⟩)).new (.cells [.i .u8 97, .i .u8 98] true ⟨1, none⟩)

theorem beg28 (o : AObj) : (callK T 2000 (.f 19) [.sl (some (9, 0)) 5 5 true, .sl (some (10, 0)) 2 2 true, .agg [.i .i64 99, .i .i64 9, .i .i64 999, .i .i64 4]] (mem28 o)).map (fun q => (q.1, q.2.next, q.2.get 1037, rd q.2 262 0 12, (q.2.get 413).map (fun x => match x with | .cells c _ _ => c[4]? | _ => none), q.2.get 1075, q.2.get 0, q.2.get 8, q.2.ds, q.2.ro)) =
    some (.tup [.p (some (1037, 0)), .p (some (1081, 0))], 1125, some (.cells [(.p (some (262, 0))), (.i .i64 0), (.i .i64 1), (.i .i64 0), (.i .i64 0), (.i .i64 0), (.i .i64 0), (.i .i64 0), (.i .i64 (-1)), (.sl (some (1075, 0)) 4 4 false), (.sl none 0 0 true), (.i .i64 1)] true ⟨12, none⟩),
      some [(.sl (some (198, 0)) 5 5 false), (.sl (some (139, 0)) 5 5 false), (.i .i64 1), (.sl (some (31, 0)) 2 2 false), (.sl (some (261, 0)) 11 11 false), (.sl (some (255, 0)) 2 2 false), (.sl (some (241, 0)) 1 1 false), (.i .i64 1), (.sl (some (195, 0)) 2 2 false), (.p (some (413, 0))), (.i .i64 1), (.i .i64 2)],
      some (some (.sl (some (1029, 0)) 10 10 false)), some (.cells [(.i .i64 (-1)), (.i .i64 (-1)), (.i .i64 (-1)), (.i .i64 (-1))] true ⟨1, some 3⟩), some powO, some o, [], none) := by kernel_rfl

end Go.Proofs.YtjlckbphpmogjaaGreatDoor
