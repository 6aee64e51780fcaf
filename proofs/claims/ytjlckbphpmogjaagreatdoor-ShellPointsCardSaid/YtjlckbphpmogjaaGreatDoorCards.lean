/-
  DERIVED. GIVEN WITH THE SEED: THE CARDS: each row of YtjlckbphpmogjaaGreatDoorRows.lean that lists a variable, with what it lists TIED to the program's text (the seventh form; the later family's looks); each row that meets fmt, with fmt's text TOLD by the authors' own Lean function (tested against real Go, not proved from fmt's source: count such statements apart). THE CARD IS WHAT COUNTS. Prove the row's statement (the work); the ties are given (YtjlckbphpmogjaaGreatDoorTie.lean); close each card by the builder's one call (the guide's Derived/Test/ToyasCard.lean, 'card_holds'). Laid BY PROGRAM, IN A SANDBOX (cutbox-door.mjs). By AI agents, Wed Nov 11 2026. No macro, syntax, notation, axiom, sorry.
-/
import Derived.Test.YtjlckbphpmogjaaGreatDoorRows
import GoSem.ClaimSeven
namespace Go.Proofs.YtjlckbphpmogjaaGreatDoor
namespace Rows

/-- THE TIED CARD OF 'clewlaw23.SessFull'. -/
def sessFullCard : Claim7 := { stood := { row := sessFullRow, standIns := [], harness := (true, "7f7ee37e321328c804ed0f057257cfc414b6af93d4dfd1304d36b57ebb3ff431"), looks := true }, kinds := [], alts := [], laidByText := true, laidKinds := [.data, .pinned], laidTests := true, laidLooks := .later }
def SessFullCardSaid : Prop := Claim7.holds Tryz.pinned (.plain (OpenSpec.ofChange sessFullSpec)) sessFullCard

/-- THE TIED CARD OF 'clewlaw27.ViewLists'. -/
def viewListsCard : Claim7 := { stood := { row := viewListsRow, standIns := [], harness := (true, "7f7ee37e321328c804ed0f057257cfc414b6af93d4dfd1304d36b57ebb3ff431"), looks := true }, kinds := [], alts := [], laidByText := true, laidKinds := [.data, .data, .data, .data, .pinned], laidTests := true, laidLooks := .later }
def ViewListsCardSaid : Prop := Claim7.holds Tryz.pinned (.plain (OpenSpec.ofChange viewListsSpec)) viewListsCard

/-- THE TIED CARD OF 'clewlaw28.ShellPoints'. -/
def shellPointsCard : Claim7 := { stood := { row := shellPointsRow, standIns := [], harness := (true, "7f7ee37e321328c804ed0f057257cfc414b6af93d4dfd1304d36b57ebb3ff431"), looks := true }, kinds := [], alts := [], laidByText := true, laidKinds := [.data, .data, .data, .data, .sentinel, .sentinel, .pinned], laidTests := true, laidLooks := .later }
def ShellPointsCardSaid : Prop := Claim7.holds Tryz.pinned (.plain (OpenSpec.ofChange shellPointsSpec)) shellPointsCard

/-- THE TIED CARD OF 'clewtop.WholeBytes'. -/
def wholeBytesCard : Claim7 := { stood := { row := wholeBytesRow, standIns := [], harness := (true, "7f7ee37e321328c804ed0f057257cfc414b6af93d4dfd1304d36b57ebb3ff431"), looks := true }, kinds := [], alts := [], laidByText := true, laidKinds := [.data, .data, .data, .data, .sentinel, .sentinel, .pinned], laidTests := true, laidLooks := .later }
def WholeBytesCardSaid : Prop := Claim7.holds Tryz.pinned (.plain (OpenSpec.ofChange wholeBytesSpec)) wholeBytesCard

/-- THE SECOND FORM's CARD OF 'clewlaw23.SessFull'. -/
def sessFullUptoCard : Claim7 := { stood := { row := sessFullUptoRow, standIns := [], harness := (true, "7f7ee37e321328c804ed0f057257cfc414b6af93d4dfd1304d36b57ebb3ff431"), looks := true }, kinds := [], alts := [], laidByText := true, laidKinds := [.data, .pinned], laidTests := true, laidLooks := .later }
def SessFullUptoCardSaid : Prop := Claim7.holds Tryz.pinned (.plain (OpenSpec.upto sessFullSpec)) sessFullUptoCard

/-- THE SECOND FORM's CARD OF 'clewlaw27.ViewLists'. -/
def viewListsUptoCard : Claim7 := { stood := { row := viewListsUptoRow, standIns := [], harness := (true, "7f7ee37e321328c804ed0f057257cfc414b6af93d4dfd1304d36b57ebb3ff431"), looks := true }, kinds := [], alts := [], laidByText := true, laidKinds := [.data, .data, .data, .data, .pinned], laidTests := true, laidLooks := .later }
def ViewListsUptoCardSaid : Prop := Claim7.holds Tryz.pinned (.plain (OpenSpec.upto viewListsSpec)) viewListsUptoCard

/-- THE SECOND FORM's CARD OF 'clewlaw28.ShellPoints'. -/
def shellPointsUptoCard : Claim7 := { stood := { row := shellPointsUptoRow, standIns := [], harness := (true, "7f7ee37e321328c804ed0f057257cfc414b6af93d4dfd1304d36b57ebb3ff431"), looks := true }, kinds := [], alts := [], laidByText := true, laidKinds := [.data, .data, .data, .data, .sentinel, .sentinel, .pinned], laidTests := true, laidLooks := .later }
def ShellPointsUptoCardSaid : Prop := Claim7.holds Tryz.pinned (.plain (OpenSpec.upto shellPointsSpec)) shellPointsUptoCard

/-- THE SECOND FORM's CARD OF 'clewtop.WholeBytes'. -/
def wholeBytesUptoCard : Claim7 := { stood := { row := wholeBytesUptoRow, standIns := [], harness := (true, "7f7ee37e321328c804ed0f057257cfc414b6af93d4dfd1304d36b57ebb3ff431"), looks := true }, kinds := [], alts := [], laidByText := true, laidKinds := [.data, .data, .data, .data, .sentinel, .sentinel, .pinned], laidTests := true, laidLooks := .later }
def WholeBytesUptoCardSaid : Prop := Claim7.holds Tryz.pinned (.plain (OpenSpec.upto wholeBytesSpec)) wholeBytesUptoCard
end Rows
end Go.Proofs.YtjlckbphpmogjaaGreatDoor
