/-
  DERIVED. GIVEN WITH THE SEED: THE CARDS: each row of YtdmoecehmclohaaGreatDoorRows.lean that lists a variable, with what it lists TIED to the program's text (the seventh form; the later family's looks); each row that meets fmt, with fmt's text TOLD by the authors' own Lean function (tested against real Go, not proved from fmt's source: count such statements apart). THE CARD IS WHAT COUNTS. Prove the row's statement (the work); the ties are given (YtdmoecehmclohaaGreatDoorTie.lean); close each card by the builder's one call (the guide's Derived/Test/ToyasCard.lean, 'card_holds'). Laid BY PROGRAM, IN A SANDBOX (cutbox-door.mjs). By AI agents, Wed Nov 11 2026. No macro, syntax, notation, axiom, sorry.
-/
import Derived.Test.YtdmoecehmclohaaGreatDoorRows
import GoSem.ClaimSeven
namespace Go.Proofs.YtdmoecehmclohaaGreatDoor
namespace Rows

/-- THE TIED CARD OF 'clewlaw25.SayLines'. -/
def sayLinesCard : Claim7 := { stood := { row := sayLinesRow, standIns := [], harness := (true, "5b977fa5f922f2260014e9dc5733bd8c40d64b094f203d46608318d39ba38faa"), looks := false }, kinds := [], alts := [], laidByText := true, laidKinds := [.data, .data, .data, .data, .pinned], laidTests := true, laidLooks := .later }
def SayLinesCardSaid : Prop := Claim7.holds Tryz.pinned (.plain (OpenSpec.ofChange sayLinesSpec)) sayLinesCard

/-- THE SECOND FORM's CARD OF 'clewlaw25.SayLines'. -/
def sayLinesUptoCard : Claim7 := { stood := { row := sayLinesUptoRow, standIns := [], harness := (true, "5b977fa5f922f2260014e9dc5733bd8c40d64b094f203d46608318d39ba38faa"), looks := false }, kinds := [], alts := [], laidByText := true, laidKinds := [.data, .data, .data, .data, .pinned], laidTests := true, laidLooks := .later }
def SayLinesUptoCardSaid : Prop := Claim7.holds Tryz.pinned (.plain (OpenSpec.upto sayLinesSpec)) sayLinesUptoCard
end Rows
end Go.Proofs.YtdmoecehmclohaaGreatDoor
