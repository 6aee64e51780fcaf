/- The session that the law SessFull begins with, as the kernel makes it. No condition. -/
import Derived.Test.YtjlckbphpmogjaaGreatDoorSfVT
import Derived.Test.YtjlckbphpmogjaaGreatDoorSfViK2
namespace Go.Proofs.YtjlckbphpmogjaaGreatDoor
open Go.Vi
set_option linter.unusedSimpArgs false
set_option linter.unusedVariables false

def mem23 : AMem := (({ next := 8, t := .nil } : AMem).new (.cells [.i .u8 97] true ⟨1, none⟩)).new (.cells [.i .u8 97] true ⟨1, none⟩)

theorem beg23 : (callK T 2000 (.f 8) [.sl (some (8, 0)) 1 1 true, .sl (some (9, 0)) 1 1 true, .agg [.i .i64 9, .i .i64 9, .i .i64 999, .i .i64 1]] mem23).map (fun q => (q.1, q.2.next, q.2.get 441, rd q.2 88 1 3, q.2.ds, q.2.ro)) =
    some (.tup [.p (some (441, 0)), .sl (some (440, 0)) 3 3 false], 477, some (.cells [(.p (some (88, 0))), (.i .i64 0), (.i .i64 1), (.i .i64 0), (.i .i64 0), (.i .i64 0), (.i .i64 0), (.i .i64 0), (.i .i64 (-1)), (.sl (some (471, 0)) 2 2 false), (.sl none 0 0 true), (.i .i64 1)] true ⟨12, none⟩), some [.sl (some (51, 0)) 1 1 false, .i .i64 0, .sl (some (15, 0)) 1 1 true], [], none) := by kernel_rfl

end Go.Proofs.YtjlckbphpmogjaaGreatDoor
