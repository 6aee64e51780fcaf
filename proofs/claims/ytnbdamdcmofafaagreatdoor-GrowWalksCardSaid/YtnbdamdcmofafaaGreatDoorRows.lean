/-
  NARROWER THAN 'FOR EVERY INPUT', by the rows' own cells (each row's printed sentence says how): VmPrograms: laid · VmRefuses: laid · GrowUps: laid · GrowKids: laid · GrowPaths: laid · GrowWalks: laid · SayLines: laid · SayQuotes: laid.
  DERIVED. THE GIVEN ROWS OF THIS SEAT. 8 by the template 'for every input the law returns true; each argument reads behind the call as it read before'; 0 by the template 'total and deterministic' (their statements: YtnbdamdcmofafaaGreatDoorTotals.lean).
  GIVEN WITH THE SEED: the statements are not yours to turn. If you find one false, say at which input.
  Laid BY PROGRAM, IN A SANDBOX (cutbox-rows.mjs): the forced cells as the released guide's own fill.sh prints them over the translation 0b8c186c8ee8e48d… (all of the seat's roots in one cut). By AI agents, Wed Nov 11 2026. No macro, syntax, notation, axiom, sorry.
-/
import Derived.Test.YtnbdamdcmofafaaGreatDoorChecked
import GoSem.PinnedTables
import GoSem.Claim
import GoSem.ClaimJoined
import GoSem.ClaimMapViews
import Derived.JoinedTies
import Derived.KernelRfl
namespace Go.Proofs.YtnbdamdcmofafaaGreatDoor
/- THE CELL 'sum', in the pinned program and in every row, IS THE sha256 OF THE DUMP (.gsa) THAT YtnbdamdcmofafaaGreatDoorProg.lean LOADS. Nothing in Lean hashes anything: it is a label: what it is worth is what the hold of that sum in a sandbox is worth. -/
noncomputable def Tryz.pinned : Pinned := { name := "ytnbdamdcmofafaagreatdoor", sum := "0b8c186c8ee8e48d28d07c840a1f7128ef544513c9b4313cc92765c4eb25fb5c", checked := Tryz.checked }
namespace Rows
def none {H : Type} : Left H := { results := [], args := [] }

/- WHAT THE LISTED PACKAGE-LEVEL VARIABLES READ AS WHEN THE CALL BEGINS. Each datum BY PROGRAM (the guide's laid-datum.mjs) off the statement by which the dump's own 'gosem.cut.vars' lays the variable. In a bare row this is a premise. The card (YtnbdamdcmofafaaGreatDoorCards.lean) ties it to the program's text. -/
def laid_unicode_utf8_acceptRanges {H : Type} : DataW H := .agg [.agg [.lit (.int .u8 128), .lit (.int .u8 191)], .agg [.lit (.int .u8 160), .lit (.int .u8 191)], .agg [.lit (.int .u8 128), .lit (.int .u8 159)], .agg [.lit (.int .u8 144), .lit (.int .u8 191)], .agg [.lit (.int .u8 128), .lit (.int .u8 143)], .agg [.lit (.int .u8 0), .lit (.int .u8 0)], .agg [.lit (.int .u8 0), .lit (.int .u8 0)], .agg [.lit (.int .u8 0), .lit (.int .u8 0)], .agg [.lit (.int .u8 0), .lit (.int .u8 0)], .agg [.lit (.int .u8 0), .lit (.int .u8 0)], .agg [.lit (.int .u8 0), .lit (.int .u8 0)], .agg [.lit (.int .u8 0), .lit (.int .u8 0)], .agg [.lit (.int .u8 0), .lit (.int .u8 0)], .agg [.lit (.int .u8 0), .lit (.int .u8 0)], .agg [.lit (.int .u8 0), .lit (.int .u8 0)], .agg [.lit (.int .u8 0), .lit (.int .u8 0)]]
/-- One of Go's own tables, pinned by name: the form's constant. -/
def laid_unicode_utf8_first : DataW Unit := Go.Pinned.utf8First
def laid_math_bits_deBruijn32tab {H : Type} : DataW H := .agg [.lit (.int .u8 0), .lit (.int .u8 1), .lit (.int .u8 28), .lit (.int .u8 2), .lit (.int .u8 29), .lit (.int .u8 14), .lit (.int .u8 24), .lit (.int .u8 3), .lit (.int .u8 30), .lit (.int .u8 22), .lit (.int .u8 20), .lit (.int .u8 15), .lit (.int .u8 25), .lit (.int .u8 17), .lit (.int .u8 4), .lit (.int .u8 8), .lit (.int .u8 31), .lit (.int .u8 27), .lit (.int .u8 13), .lit (.int .u8 23), .lit (.int .u8 21), .lit (.int .u8 19), .lit (.int .u8 16), .lit (.int .u8 7), .lit (.int .u8 26), .lit (.int .u8 12), .lit (.int .u8 18), .lit (.int .u8 6), .lit (.int .u8 11), .lit (.int .u8 5), .lit (.int .u8 10), .lit (.int .u8 9)]
def laid_math_bits_deBruijn64tab {H : Type} : DataW H := .agg [.lit (.int .u8 0), .lit (.int .u8 1), .lit (.int .u8 56), .lit (.int .u8 2), .lit (.int .u8 57), .lit (.int .u8 49), .lit (.int .u8 28), .lit (.int .u8 3), .lit (.int .u8 61), .lit (.int .u8 58), .lit (.int .u8 42), .lit (.int .u8 50), .lit (.int .u8 38), .lit (.int .u8 29), .lit (.int .u8 17), .lit (.int .u8 4), .lit (.int .u8 62), .lit (.int .u8 47), .lit (.int .u8 59), .lit (.int .u8 36), .lit (.int .u8 45), .lit (.int .u8 43), .lit (.int .u8 51), .lit (.int .u8 22), .lit (.int .u8 53), .lit (.int .u8 39), .lit (.int .u8 33), .lit (.int .u8 30), .lit (.int .u8 24), .lit (.int .u8 18), .lit (.int .u8 12), .lit (.int .u8 5), .lit (.int .u8 63), .lit (.int .u8 55), .lit (.int .u8 48), .lit (.int .u8 27), .lit (.int .u8 60), .lit (.int .u8 41), .lit (.int .u8 37), .lit (.int .u8 16), .lit (.int .u8 46), .lit (.int .u8 35), .lit (.int .u8 44), .lit (.int .u8 21), .lit (.int .u8 52), .lit (.int .u8 32), .lit (.int .u8 23), .lit (.int .u8 11), .lit (.int .u8 54), .lit (.int .u8 26), .lit (.int .u8 40), .lit (.int .u8 15), .lit (.int .u8 34), .lit (.int .u8 20), .lit (.int .u8 31), .lit (.int .u8 10), .lit (.int .u8 25), .lit (.int .u8 14), .lit (.int .u8 19), .lit (.int .u8 9), .lit (.int .u8 13), .lit (.int .u8 8), .lit (.int .u8 7), .lit (.int .u8 6)]
def laid_internal_strconv_uint64pow10 {H : Type} : DataW H := .agg [.lit (.int .u64 1), .lit (.int .u64 10), .lit (.int .u64 100), .lit (.int .u64 1000), .lit (.int .u64 10000), .lit (.int .u64 100000), .lit (.int .u64 1000000), .lit (.int .u64 10000000), .lit (.int .u64 100000000), .lit (.int .u64 1000000000), .lit (.int .u64 10000000000), .lit (.int .u64 100000000000), .lit (.int .u64 1000000000000), .lit (.int .u64 10000000000000), .lit (.int .u64 100000000000000), .lit (.int .u64 1000000000000000), .lit (.int .u64 10000000000000000), .lit (.int .u64 100000000000000000), .lit (.int .u64 1000000000000000000), .lit (.int .u64 10000000000000000000)]

/-- 'clewlaw17.VmPrograms': WHATEVER THE INPUT: true; the input reads as it did. -/
def vmProgramsSpec : ChangeSpec := { name := "vmPrograms", fn := fun _ => fun
  | [d1, d2, d3] => { results := [.lit (.bool true)], args := [d1, d2, d3] }
  | _ => none }
def vmProgramsRow : OpenClaim := { program := "ytnbdamdcmofafaagreatdoor", sum := "0b8c186c8ee8e48d28d07c840a1f7128ef544513c9b4313cc92765c4eb25fb5c", func := "clew/clewlaw17.VmPrograms", spec := "vmPrograms", inPlace := ["internal/bytealg.IndexByteString", "internal/bytealg.IndexString"], unfollowed := true, recurses := true, named := ["internal/bytealg.MaxLen", "unicode/utf8.first", "unicode/utf8.acceptRanges"], apart := false, laid := [("unicode/utf8.acceptRanges", laid_unicode_utf8_acceptRanges), ("unicode/utf8.first", laid_unicode_utf8_first)] }
def VmProgramsSaid : Prop := vmProgramsRow.holds Tryz.pinned (OpenSpec.ofChange vmProgramsSpec)

/-- ITS FALSE NEIGHBOUR: 'it returns false'. Refute it at one input. -/
def vmProgramsWrong : ChangeSpec := { name := "vmPrograms", fn := fun _ => fun
  | [d1, d2, d3] => { results := [.lit (.bool false)], args := [d1, d2, d3] }
  | _ => none }
def VmProgramsWrongFalsely : Prop := vmProgramsRow.holds Tryz.pinned (OpenSpec.ofChange vmProgramsWrong)

/-- 'clewlaw17.VmRefuses': WHATEVER THE INPUT: true; the input reads as it did. -/
def vmRefusesSpec : ChangeSpec := { name := "vmRefuses", fn := fun _ => fun
  | [d1, d2, d3] => { results := [.lit (.bool true)], args := [d1, d2, d3] }
  | _ => none }
def vmRefusesRow : OpenClaim := { program := "ytnbdamdcmofafaagreatdoor", sum := "0b8c186c8ee8e48d28d07c840a1f7128ef544513c9b4313cc92765c4eb25fb5c", func := "clew/clewlaw17.VmRefuses", spec := "vmRefuses", inPlace := ["internal/bytealg.IndexByteString", "internal/bytealg.IndexString"], unfollowed := true, recurses := true, named := ["internal/bytealg.MaxLen", "unicode/utf8.first", "unicode/utf8.acceptRanges"], apart := false, laid := [("unicode/utf8.acceptRanges", laid_unicode_utf8_acceptRanges), ("unicode/utf8.first", laid_unicode_utf8_first)] }
def VmRefusesSaid : Prop := vmRefusesRow.holds Tryz.pinned (OpenSpec.ofChange vmRefusesSpec)

/-- ITS FALSE NEIGHBOUR: 'it returns false'. Refute it at one input. -/
def vmRefusesWrong : ChangeSpec := { name := "vmRefuses", fn := fun _ => fun
  | [d1, d2, d3] => { results := [.lit (.bool false)], args := [d1, d2, d3] }
  | _ => none }
def VmRefusesWrongFalsely : Prop := vmRefusesRow.holds Tryz.pinned (OpenSpec.ofChange vmRefusesWrong)

/-- 'clewlaw24.GrowUps': WHATEVER THE INPUT: true; the input reads as it did. -/
def growUpsSpec : ChangeSpec := { name := "growUps", fn := fun _ => fun
  | [d] => { results := [.lit (.bool true)], args := [d] }
  | _ => none }
def growUpsRow : OpenClaim := { program := "ytnbdamdcmofafaagreatdoor", sum := "0b8c186c8ee8e48d28d07c840a1f7128ef544513c9b4313cc92765c4eb25fb5c", func := "clew/clewlaw24.GrowUps", spec := "growUps", inPlace := ["internal/bytealg.IndexByteString", "internal/bytealg.IndexString"], unfollowed := true, recurses := true, named := ["internal/bytealg.MaxLen", "unicode/utf8.first", "unicode/utf8.acceptRanges"], apart := false, laid := [("unicode/utf8.acceptRanges", laid_unicode_utf8_acceptRanges), ("unicode/utf8.first", laid_unicode_utf8_first)] }
def GrowUpsSaid : Prop := growUpsRow.holds Tryz.pinned (OpenSpec.ofChange growUpsSpec)

/-- ITS FALSE NEIGHBOUR: 'it returns false'. Refute it at one input. -/
def growUpsWrong : ChangeSpec := { name := "growUps", fn := fun _ => fun
  | [d] => { results := [.lit (.bool false)], args := [d] }
  | _ => none }
def GrowUpsWrongFalsely : Prop := growUpsRow.holds Tryz.pinned (OpenSpec.ofChange growUpsWrong)

/-- 'clewlaw24.GrowKids': WHATEVER THE INPUT: true; the input reads as it did. -/
def growKidsSpec : ChangeSpec := { name := "growKids", fn := fun _ => fun
  | [d] => { results := [.lit (.bool true)], args := [d] }
  | _ => none }
def growKidsRow : OpenClaim := { program := "ytnbdamdcmofafaagreatdoor", sum := "0b8c186c8ee8e48d28d07c840a1f7128ef544513c9b4313cc92765c4eb25fb5c", func := "clew/clewlaw24.GrowKids", spec := "growKids", inPlace := ["internal/bytealg.IndexByteString", "internal/bytealg.IndexString"], unfollowed := true, recurses := true, named := ["internal/bytealg.MaxLen", "unicode/utf8.first", "unicode/utf8.acceptRanges"], apart := false, laid := [("unicode/utf8.acceptRanges", laid_unicode_utf8_acceptRanges), ("unicode/utf8.first", laid_unicode_utf8_first)] }
def GrowKidsSaid : Prop := growKidsRow.holds Tryz.pinned (OpenSpec.ofChange growKidsSpec)

/-- ITS FALSE NEIGHBOUR: 'it returns false'. Refute it at one input. -/
def growKidsWrong : ChangeSpec := { name := "growKids", fn := fun _ => fun
  | [d] => { results := [.lit (.bool false)], args := [d] }
  | _ => none }
def GrowKidsWrongFalsely : Prop := growKidsRow.holds Tryz.pinned (OpenSpec.ofChange growKidsWrong)

/-- 'clewlaw24.GrowPaths': WHATEVER THE INPUT: true; the input reads as it did. -/
def growPathsSpec : ChangeSpec := { name := "growPaths", fn := fun _ => fun
  | [d1, d2] => { results := [.lit (.bool true)], args := [d1, d2] }
  | _ => none }
def growPathsRow : OpenClaim := { program := "ytnbdamdcmofafaagreatdoor", sum := "0b8c186c8ee8e48d28d07c840a1f7128ef544513c9b4313cc92765c4eb25fb5c", func := "clew/clewlaw24.GrowPaths", spec := "growPaths", inPlace := ["internal/bytealg.IndexByteString", "internal/bytealg.IndexString"], unfollowed := true, recurses := true, named := ["internal/bytealg.MaxLen", "unicode/utf8.first", "unicode/utf8.acceptRanges"], apart := false, laid := [("unicode/utf8.acceptRanges", laid_unicode_utf8_acceptRanges), ("unicode/utf8.first", laid_unicode_utf8_first)] }
def GrowPathsSaid : Prop := growPathsRow.holds Tryz.pinned (OpenSpec.ofChange growPathsSpec)

/-- ITS FALSE NEIGHBOUR: 'it returns false'. Refute it at one input. -/
def growPathsWrong : ChangeSpec := { name := "growPaths", fn := fun _ => fun
  | [d1, d2] => { results := [.lit (.bool false)], args := [d1, d2] }
  | _ => none }
def GrowPathsWrongFalsely : Prop := growPathsRow.holds Tryz.pinned (OpenSpec.ofChange growPathsWrong)

/-- 'clewlaw24.GrowWalks': WHATEVER THE INPUT: true; the input reads as it did. -/
def growWalksSpec : ChangeSpec := { name := "growWalks", fn := fun _ => fun
  | [d1, d2] => { results := [.lit (.bool true)], args := [d1, d2] }
  | _ => none }
def growWalksRow : OpenClaim := { program := "ytnbdamdcmofafaagreatdoor", sum := "0b8c186c8ee8e48d28d07c840a1f7128ef544513c9b4313cc92765c4eb25fb5c", func := "clew/clewlaw24.GrowWalks", spec := "growWalks", inPlace := ["internal/bytealg.IndexByteString", "internal/bytealg.IndexString"], unfollowed := true, recurses := true, named := ["internal/bytealg.MaxLen", "unicode/utf8.first", "unicode/utf8.acceptRanges"], apart := false, laid := [("unicode/utf8.acceptRanges", laid_unicode_utf8_acceptRanges), ("unicode/utf8.first", laid_unicode_utf8_first)] }
def GrowWalksSaid : Prop := growWalksRow.holds Tryz.pinned (OpenSpec.ofChange growWalksSpec)

/-- ITS FALSE NEIGHBOUR: 'it returns false'. Refute it at one input. -/
def growWalksWrong : ChangeSpec := { name := "growWalks", fn := fun _ => fun
  | [d1, d2] => { results := [.lit (.bool false)], args := [d1, d2] }
  | _ => none }
def GrowWalksWrongFalsely : Prop := growWalksRow.holds Tryz.pinned (OpenSpec.ofChange growWalksWrong)

/-- 'clewlaw25.SayLines': WHATEVER THE INPUT: true; the input reads as it did. -/
def sayLinesSpec : ChangeSpec := { name := "sayLines", fn := fun _ => fun
  | [d1, d2, d3, d4] => { results := [.lit (.bool true)], args := [d1, d2, d3, d4] }
  | _ => none }
def sayLinesRow : OpenClaim := { program := "ytnbdamdcmofafaagreatdoor", sum := "0b8c186c8ee8e48d28d07c840a1f7128ef544513c9b4313cc92765c4eb25fb5c", func := "clew/clewlaw25.SayLines", spec := "sayLines", inPlace := ["internal/bytealg.IndexByteString", "internal/bytealg.IndexString", "internal/abi.NoEscape"], unfollowed := true, recurses := true, named := ["internal/bytealg.MaxLen", "unicode/utf8.first", "unicode/utf8.acceptRanges", "internal/strconv.uint64pow10", "math/bits.deBruijn32tab", "math/bits.deBruijn64tab"], apart := false, laid := [("math/bits.deBruijn32tab", laid_math_bits_deBruijn32tab), ("math/bits.deBruijn64tab", laid_math_bits_deBruijn64tab), ("internal/strconv.uint64pow10", laid_internal_strconv_uint64pow10), ("unicode/utf8.acceptRanges", laid_unicode_utf8_acceptRanges), ("unicode/utf8.first", laid_unicode_utf8_first)] }
def SayLinesSaid : Prop := sayLinesRow.holds Tryz.pinned (OpenSpec.ofChange sayLinesSpec)

/-- ITS FALSE NEIGHBOUR: 'it returns false'. Refute it at one input. -/
def sayLinesWrong : ChangeSpec := { name := "sayLines", fn := fun _ => fun
  | [d1, d2, d3, d4] => { results := [.lit (.bool false)], args := [d1, d2, d3, d4] }
  | _ => none }
def SayLinesWrongFalsely : Prop := sayLinesRow.holds Tryz.pinned (OpenSpec.ofChange sayLinesWrong)

/-- 'clewlaw25.SayQuotes': WHATEVER THE INPUT: true; the input reads as it did. -/
def sayQuotesSpec : ChangeSpec := { name := "sayQuotes", fn := fun _ => fun
  | [d1, d2] => { results := [.lit (.bool true)], args := [d1, d2] }
  | _ => none }
def sayQuotesRow : OpenClaim := { program := "ytnbdamdcmofafaagreatdoor", sum := "0b8c186c8ee8e48d28d07c840a1f7128ef544513c9b4313cc92765c4eb25fb5c", func := "clew/clewlaw25.SayQuotes", spec := "sayQuotes", inPlace := ["internal/bytealg.IndexByteString", "internal/bytealg.IndexString", "internal/abi.NoEscape"], unfollowed := true, recurses := true, named := ["internal/bytealg.MaxLen", "unicode/utf8.first", "unicode/utf8.acceptRanges", "internal/strconv.uint64pow10", "math/bits.deBruijn32tab", "math/bits.deBruijn64tab"], apart := false, laid := [("math/bits.deBruijn32tab", laid_math_bits_deBruijn32tab), ("math/bits.deBruijn64tab", laid_math_bits_deBruijn64tab), ("internal/strconv.uint64pow10", laid_internal_strconv_uint64pow10), ("unicode/utf8.acceptRanges", laid_unicode_utf8_acceptRanges), ("unicode/utf8.first", laid_unicode_utf8_first)] }
def SayQuotesSaid : Prop := sayQuotesRow.holds Tryz.pinned (OpenSpec.ofChange sayQuotesSpec)

/-- ITS FALSE NEIGHBOUR: 'it returns false'. Refute it at one input. -/
def sayQuotesWrong : ChangeSpec := { name := "sayQuotes", fn := fun _ => fun
  | [d1, d2] => { results := [.lit (.bool false)], args := [d1, d2] }
  | _ => none }
def SayQuotesWrongFalsely : Prop := sayQuotesRow.holds Tryz.pinned (OpenSpec.ofChange sayQuotesWrong)

/- THE SECOND FORM. 'bulk': how many values and letters a reading holds, each counted each time it is reached (what is shared counts as often as it is met; a slice's spare places count too). A statement '..UptoSaid' is the law's where the arguments, and the package variables that the reading takes, are together of bulk at most 1048576: NARROWER than '..Said'. Prove '..Said' where nothing that the law and all that it calls make is longer than what came in: it says more and counts as full. Else prove '..UptoSaid'. A law counts once. -/
mutual
def uptoBulk {H : Type} : DataW H → Nat
  | .lit (.string bytes) => bytes.length + 1
  | .lit _ => 1
  | .nil => 1
  | .ptr d => uptoBulk d + 1
  | .slice elems spare => uptoBulkAll elems + uptoBulkAll spare + 1
  | .agg parts => uptoBulkAll parts + 1
  | .iface _ d => uptoBulk d + 1
  | .map entries => uptoBulkEntries entries + 1
  | .held _ => 1
def uptoBulkAll {H : Type} : List (DataW H) → Nat
  | [] => 0
  | d :: r => uptoBulk d + uptoBulkAll r
def uptoBulkEntries {H : Type} : List (Lit × DataW H) → Nat
  | [] => 0
  | x :: r => uptoBulkEntry x + uptoBulkEntries r
def uptoBulkEntry {H : Type} : Lit × DataW H → Nat
  | (.string bytes, d) => bytes.length + uptoBulk d + 1
  | (_, d) => uptoBulk d + 1
 end
def uptoSmall : (H : Type) → List (DataW H) → Bool := fun _ ds => decide (uptoBulkAll ds ≤ 1048576)
def OpenSpec.upto (s : _root_.Go.ChangeSpec) : _root_.Go.OpenSpec := { _root_.Go.OpenSpec.ofChange s with cond := some uptoSmall }

/-- 'clewlaw17.VmPrograms', WHERE WHAT IT READS IS OF BULK AT MOST 1048576: true; the input reads as it did. -/
def vmProgramsUptoRow : OpenClaim := { program := "ytnbdamdcmofafaagreatdoor", sum := "0b8c186c8ee8e48d28d07c840a1f7128ef544513c9b4313cc92765c4eb25fb5c", func := "clew/clewlaw17.VmPrograms", spec := "vmPrograms", inPlace := ["internal/bytealg.IndexByteString", "internal/bytealg.IndexString"], unfollowed := true, recurses := true, named := ["internal/bytealg.MaxLen", "unicode/utf8.first", "unicode/utf8.acceptRanges"], apart := false, laid := [("unicode/utf8.acceptRanges", laid_unicode_utf8_acceptRanges), ("unicode/utf8.first", laid_unicode_utf8_first)], narrowed := true }
def VmProgramsUptoSaid : Prop := vmProgramsUptoRow.holds Tryz.pinned (OpenSpec.upto vmProgramsSpec)

/-- 'clewlaw17.VmRefuses', WHERE WHAT IT READS IS OF BULK AT MOST 1048576: true; the input reads as it did. -/
def vmRefusesUptoRow : OpenClaim := { program := "ytnbdamdcmofafaagreatdoor", sum := "0b8c186c8ee8e48d28d07c840a1f7128ef544513c9b4313cc92765c4eb25fb5c", func := "clew/clewlaw17.VmRefuses", spec := "vmRefuses", inPlace := ["internal/bytealg.IndexByteString", "internal/bytealg.IndexString"], unfollowed := true, recurses := true, named := ["internal/bytealg.MaxLen", "unicode/utf8.first", "unicode/utf8.acceptRanges"], apart := false, laid := [("unicode/utf8.acceptRanges", laid_unicode_utf8_acceptRanges), ("unicode/utf8.first", laid_unicode_utf8_first)], narrowed := true }
def VmRefusesUptoSaid : Prop := vmRefusesUptoRow.holds Tryz.pinned (OpenSpec.upto vmRefusesSpec)

/-- 'clewlaw24.GrowUps', WHERE WHAT IT READS IS OF BULK AT MOST 1048576: true; the input reads as it did. -/
def growUpsUptoRow : OpenClaim := { program := "ytnbdamdcmofafaagreatdoor", sum := "0b8c186c8ee8e48d28d07c840a1f7128ef544513c9b4313cc92765c4eb25fb5c", func := "clew/clewlaw24.GrowUps", spec := "growUps", inPlace := ["internal/bytealg.IndexByteString", "internal/bytealg.IndexString"], unfollowed := true, recurses := true, named := ["internal/bytealg.MaxLen", "unicode/utf8.first", "unicode/utf8.acceptRanges"], apart := false, laid := [("unicode/utf8.acceptRanges", laid_unicode_utf8_acceptRanges), ("unicode/utf8.first", laid_unicode_utf8_first)], narrowed := true }
def GrowUpsUptoSaid : Prop := growUpsUptoRow.holds Tryz.pinned (OpenSpec.upto growUpsSpec)

/-- 'clewlaw24.GrowKids', WHERE WHAT IT READS IS OF BULK AT MOST 1048576: true; the input reads as it did. -/
def growKidsUptoRow : OpenClaim := { program := "ytnbdamdcmofafaagreatdoor", sum := "0b8c186c8ee8e48d28d07c840a1f7128ef544513c9b4313cc92765c4eb25fb5c", func := "clew/clewlaw24.GrowKids", spec := "growKids", inPlace := ["internal/bytealg.IndexByteString", "internal/bytealg.IndexString"], unfollowed := true, recurses := true, named := ["internal/bytealg.MaxLen", "unicode/utf8.first", "unicode/utf8.acceptRanges"], apart := false, laid := [("unicode/utf8.acceptRanges", laid_unicode_utf8_acceptRanges), ("unicode/utf8.first", laid_unicode_utf8_first)], narrowed := true }
def GrowKidsUptoSaid : Prop := growKidsUptoRow.holds Tryz.pinned (OpenSpec.upto growKidsSpec)

/-- 'clewlaw24.GrowPaths', WHERE WHAT IT READS IS OF BULK AT MOST 1048576: true; the input reads as it did. -/
def growPathsUptoRow : OpenClaim := { program := "ytnbdamdcmofafaagreatdoor", sum := "0b8c186c8ee8e48d28d07c840a1f7128ef544513c9b4313cc92765c4eb25fb5c", func := "clew/clewlaw24.GrowPaths", spec := "growPaths", inPlace := ["internal/bytealg.IndexByteString", "internal/bytealg.IndexString"], unfollowed := true, recurses := true, named := ["internal/bytealg.MaxLen", "unicode/utf8.first", "unicode/utf8.acceptRanges"], apart := false, laid := [("unicode/utf8.acceptRanges", laid_unicode_utf8_acceptRanges), ("unicode/utf8.first", laid_unicode_utf8_first)], narrowed := true }
def GrowPathsUptoSaid : Prop := growPathsUptoRow.holds Tryz.pinned (OpenSpec.upto growPathsSpec)

/-- 'clewlaw24.GrowWalks', WHERE WHAT IT READS IS OF BULK AT MOST 1048576: true; the input reads as it did. -/
def growWalksUptoRow : OpenClaim := { program := "ytnbdamdcmofafaagreatdoor", sum := "0b8c186c8ee8e48d28d07c840a1f7128ef544513c9b4313cc92765c4eb25fb5c", func := "clew/clewlaw24.GrowWalks", spec := "growWalks", inPlace := ["internal/bytealg.IndexByteString", "internal/bytealg.IndexString"], unfollowed := true, recurses := true, named := ["internal/bytealg.MaxLen", "unicode/utf8.first", "unicode/utf8.acceptRanges"], apart := false, laid := [("unicode/utf8.acceptRanges", laid_unicode_utf8_acceptRanges), ("unicode/utf8.first", laid_unicode_utf8_first)], narrowed := true }
def GrowWalksUptoSaid : Prop := growWalksUptoRow.holds Tryz.pinned (OpenSpec.upto growWalksSpec)

/-- 'clewlaw25.SayLines', WHERE WHAT IT READS IS OF BULK AT MOST 1048576: true; the input reads as it did. -/
def sayLinesUptoRow : OpenClaim := { program := "ytnbdamdcmofafaagreatdoor", sum := "0b8c186c8ee8e48d28d07c840a1f7128ef544513c9b4313cc92765c4eb25fb5c", func := "clew/clewlaw25.SayLines", spec := "sayLines", inPlace := ["internal/bytealg.IndexByteString", "internal/bytealg.IndexString", "internal/abi.NoEscape"], unfollowed := true, recurses := true, named := ["internal/bytealg.MaxLen", "unicode/utf8.first", "unicode/utf8.acceptRanges", "internal/strconv.uint64pow10", "math/bits.deBruijn32tab", "math/bits.deBruijn64tab"], apart := false, laid := [("math/bits.deBruijn32tab", laid_math_bits_deBruijn32tab), ("math/bits.deBruijn64tab", laid_math_bits_deBruijn64tab), ("internal/strconv.uint64pow10", laid_internal_strconv_uint64pow10), ("unicode/utf8.acceptRanges", laid_unicode_utf8_acceptRanges), ("unicode/utf8.first", laid_unicode_utf8_first)], narrowed := true }
def SayLinesUptoSaid : Prop := sayLinesUptoRow.holds Tryz.pinned (OpenSpec.upto sayLinesSpec)

/-- 'clewlaw25.SayQuotes', WHERE WHAT IT READS IS OF BULK AT MOST 1048576: true; the input reads as it did. -/
def sayQuotesUptoRow : OpenClaim := { program := "ytnbdamdcmofafaagreatdoor", sum := "0b8c186c8ee8e48d28d07c840a1f7128ef544513c9b4313cc92765c4eb25fb5c", func := "clew/clewlaw25.SayQuotes", spec := "sayQuotes", inPlace := ["internal/bytealg.IndexByteString", "internal/bytealg.IndexString", "internal/abi.NoEscape"], unfollowed := true, recurses := true, named := ["internal/bytealg.MaxLen", "unicode/utf8.first", "unicode/utf8.acceptRanges", "internal/strconv.uint64pow10", "math/bits.deBruijn32tab", "math/bits.deBruijn64tab"], apart := false, laid := [("math/bits.deBruijn32tab", laid_math_bits_deBruijn32tab), ("math/bits.deBruijn64tab", laid_math_bits_deBruijn64tab), ("internal/strconv.uint64pow10", laid_internal_strconv_uint64pow10), ("unicode/utf8.acceptRanges", laid_unicode_utf8_acceptRanges), ("unicode/utf8.first", laid_unicode_utf8_first)], narrowed := true }
def SayQuotesUptoSaid : Prop := sayQuotesUptoRow.holds Tryz.pinned (OpenSpec.upto sayQuotesSpec)

end Rows
end Go.Proofs.YtnbdamdcmofafaaGreatDoor
