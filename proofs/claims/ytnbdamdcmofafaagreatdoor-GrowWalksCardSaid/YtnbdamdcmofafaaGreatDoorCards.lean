/-
  DERIVED. GIVEN WITH THE SEED: THE CARDS: each row of YtnbdamdcmofafaaGreatDoorRows.lean that lists a variable, with what it lists TIED to the program's text (the seventh form; the later family's looks); each row that meets fmt, with fmt's text TOLD by the authors' own Lean function (tested against real Go, not proved from fmt's source: count such statements apart). THE CARD IS WHAT COUNTS. Prove the row's statement (the work); the ties are given (YtnbdamdcmofafaaGreatDoorTie.lean); close each card by the builder's one call (the guide's Derived/Test/ToyasCard.lean, 'card_holds'). Laid BY PROGRAM, IN A SANDBOX (cutbox-door.mjs). By AI agents, Wed Nov 11 2026. No macro, syntax, notation, axiom, sorry.
-/
import Derived.Test.YtnbdamdcmofafaaGreatDoorRows
import GoSem.ClaimSeven
namespace Go.Proofs.YtnbdamdcmofafaaGreatDoor
namespace Rows

/-- THE TIED CARD OF 'clewlaw17.VmPrograms'. -/
def vmProgramsCard : Claim7 := { stood := { row := vmProgramsRow, standIns := [], harness := (true, "614878c383fc0b3bfce015e5c90b1705f8d5bde7ee6db2a312f27ec85d6ce15e"), looks := false }, kinds := [], alts := [], laidByText := true, laidKinds := [.data, .pinned], laidTests := true, laidLooks := .later }
def VmProgramsCardSaid : Prop := Claim7.holds Tryz.pinned (.plain (OpenSpec.ofChange vmProgramsSpec)) vmProgramsCard

/-- THE TIED CARD OF 'clewlaw17.VmRefuses'. -/
def vmRefusesCard : Claim7 := { stood := { row := vmRefusesRow, standIns := [], harness := (true, "614878c383fc0b3bfce015e5c90b1705f8d5bde7ee6db2a312f27ec85d6ce15e"), looks := false }, kinds := [], alts := [], laidByText := true, laidKinds := [.data, .pinned], laidTests := true, laidLooks := .later }
def VmRefusesCardSaid : Prop := Claim7.holds Tryz.pinned (.plain (OpenSpec.ofChange vmRefusesSpec)) vmRefusesCard

/-- THE TIED CARD OF 'clewlaw24.GrowUps'. -/
def growUpsCard : Claim7 := { stood := { row := growUpsRow, standIns := [], harness := (true, "614878c383fc0b3bfce015e5c90b1705f8d5bde7ee6db2a312f27ec85d6ce15e"), looks := false }, kinds := [], alts := [], laidByText := true, laidKinds := [.data, .pinned], laidTests := true, laidLooks := .later }
def GrowUpsCardSaid : Prop := Claim7.holds Tryz.pinned (.plain (OpenSpec.ofChange growUpsSpec)) growUpsCard

/-- THE TIED CARD OF 'clewlaw24.GrowKids'. -/
def growKidsCard : Claim7 := { stood := { row := growKidsRow, standIns := [], harness := (true, "614878c383fc0b3bfce015e5c90b1705f8d5bde7ee6db2a312f27ec85d6ce15e"), looks := false }, kinds := [], alts := [], laidByText := true, laidKinds := [.data, .pinned], laidTests := true, laidLooks := .later }
def GrowKidsCardSaid : Prop := Claim7.holds Tryz.pinned (.plain (OpenSpec.ofChange growKidsSpec)) growKidsCard

/-- THE TIED CARD OF 'clewlaw24.GrowPaths'. -/
def growPathsCard : Claim7 := { stood := { row := growPathsRow, standIns := [], harness := (true, "614878c383fc0b3bfce015e5c90b1705f8d5bde7ee6db2a312f27ec85d6ce15e"), looks := false }, kinds := [], alts := [], laidByText := true, laidKinds := [.data, .pinned], laidTests := true, laidLooks := .later }
def GrowPathsCardSaid : Prop := Claim7.holds Tryz.pinned (.plain (OpenSpec.ofChange growPathsSpec)) growPathsCard

/-- THE TIED CARD OF 'clewlaw24.GrowWalks'. -/
def growWalksCard : Claim7 := { stood := { row := growWalksRow, standIns := [], harness := (true, "614878c383fc0b3bfce015e5c90b1705f8d5bde7ee6db2a312f27ec85d6ce15e"), looks := false }, kinds := [], alts := [], laidByText := true, laidKinds := [.data, .pinned], laidTests := true, laidLooks := .later }
def GrowWalksCardSaid : Prop := Claim7.holds Tryz.pinned (.plain (OpenSpec.ofChange growWalksSpec)) growWalksCard

/-- THE TIED CARD OF 'clewlaw25.SayLines'. -/
def sayLinesCard : Claim7 := { stood := { row := sayLinesRow, standIns := [], harness := (true, "614878c383fc0b3bfce015e5c90b1705f8d5bde7ee6db2a312f27ec85d6ce15e"), looks := false }, kinds := [], alts := [], laidByText := true, laidKinds := [.data, .data, .data, .data, .pinned], laidTests := true, laidLooks := .later }
def SayLinesCardSaid : Prop := Claim7.holds Tryz.pinned (.plain (OpenSpec.ofChange sayLinesSpec)) sayLinesCard

/-- THE TIED CARD OF 'clewlaw25.SayQuotes'. -/
def sayQuotesCard : Claim7 := { stood := { row := sayQuotesRow, standIns := [], harness := (true, "614878c383fc0b3bfce015e5c90b1705f8d5bde7ee6db2a312f27ec85d6ce15e"), looks := false }, kinds := [], alts := [], laidByText := true, laidKinds := [.data, .data, .data, .data, .pinned], laidTests := true, laidLooks := .later }
def SayQuotesCardSaid : Prop := Claim7.holds Tryz.pinned (.plain (OpenSpec.ofChange sayQuotesSpec)) sayQuotesCard

/-- THE SECOND FORM's CARD OF 'clewlaw17.VmPrograms'. -/
def vmProgramsUptoCard : Claim7 := { stood := { row := vmProgramsUptoRow, standIns := [], harness := (true, "614878c383fc0b3bfce015e5c90b1705f8d5bde7ee6db2a312f27ec85d6ce15e"), looks := false }, kinds := [], alts := [], laidByText := true, laidKinds := [.data, .pinned], laidTests := true, laidLooks := .later }
def VmProgramsUptoCardSaid : Prop := Claim7.holds Tryz.pinned (.plain (OpenSpec.upto vmProgramsSpec)) vmProgramsUptoCard

/-- THE SECOND FORM's CARD OF 'clewlaw17.VmRefuses'. -/
def vmRefusesUptoCard : Claim7 := { stood := { row := vmRefusesUptoRow, standIns := [], harness := (true, "614878c383fc0b3bfce015e5c90b1705f8d5bde7ee6db2a312f27ec85d6ce15e"), looks := false }, kinds := [], alts := [], laidByText := true, laidKinds := [.data, .pinned], laidTests := true, laidLooks := .later }
def VmRefusesUptoCardSaid : Prop := Claim7.holds Tryz.pinned (.plain (OpenSpec.upto vmRefusesSpec)) vmRefusesUptoCard

/-- THE SECOND FORM's CARD OF 'clewlaw24.GrowUps'. -/
def growUpsUptoCard : Claim7 := { stood := { row := growUpsUptoRow, standIns := [], harness := (true, "614878c383fc0b3bfce015e5c90b1705f8d5bde7ee6db2a312f27ec85d6ce15e"), looks := false }, kinds := [], alts := [], laidByText := true, laidKinds := [.data, .pinned], laidTests := true, laidLooks := .later }
def GrowUpsUptoCardSaid : Prop := Claim7.holds Tryz.pinned (.plain (OpenSpec.upto growUpsSpec)) growUpsUptoCard

/-- THE SECOND FORM's CARD OF 'clewlaw24.GrowKids'. -/
def growKidsUptoCard : Claim7 := { stood := { row := growKidsUptoRow, standIns := [], harness := (true, "614878c383fc0b3bfce015e5c90b1705f8d5bde7ee6db2a312f27ec85d6ce15e"), looks := false }, kinds := [], alts := [], laidByText := true, laidKinds := [.data, .pinned], laidTests := true, laidLooks := .later }
def GrowKidsUptoCardSaid : Prop := Claim7.holds Tryz.pinned (.plain (OpenSpec.upto growKidsSpec)) growKidsUptoCard

/-- THE SECOND FORM's CARD OF 'clewlaw24.GrowPaths'. -/
def growPathsUptoCard : Claim7 := { stood := { row := growPathsUptoRow, standIns := [], harness := (true, "614878c383fc0b3bfce015e5c90b1705f8d5bde7ee6db2a312f27ec85d6ce15e"), looks := false }, kinds := [], alts := [], laidByText := true, laidKinds := [.data, .pinned], laidTests := true, laidLooks := .later }
def GrowPathsUptoCardSaid : Prop := Claim7.holds Tryz.pinned (.plain (OpenSpec.upto growPathsSpec)) growPathsUptoCard

/-- THE SECOND FORM's CARD OF 'clewlaw24.GrowWalks'. -/
def growWalksUptoCard : Claim7 := { stood := { row := growWalksUptoRow, standIns := [], harness := (true, "614878c383fc0b3bfce015e5c90b1705f8d5bde7ee6db2a312f27ec85d6ce15e"), looks := false }, kinds := [], alts := [], laidByText := true, laidKinds := [.data, .pinned], laidTests := true, laidLooks := .later }
def GrowWalksUptoCardSaid : Prop := Claim7.holds Tryz.pinned (.plain (OpenSpec.upto growWalksSpec)) growWalksUptoCard

/-- THE SECOND FORM's CARD OF 'clewlaw25.SayLines'. -/
def sayLinesUptoCard : Claim7 := { stood := { row := sayLinesUptoRow, standIns := [], harness := (true, "614878c383fc0b3bfce015e5c90b1705f8d5bde7ee6db2a312f27ec85d6ce15e"), looks := false }, kinds := [], alts := [], laidByText := true, laidKinds := [.data, .data, .data, .data, .pinned], laidTests := true, laidLooks := .later }
def SayLinesUptoCardSaid : Prop := Claim7.holds Tryz.pinned (.plain (OpenSpec.upto sayLinesSpec)) sayLinesUptoCard

/-- THE SECOND FORM's CARD OF 'clewlaw25.SayQuotes'. -/
def sayQuotesUptoCard : Claim7 := { stood := { row := sayQuotesUptoRow, standIns := [], harness := (true, "614878c383fc0b3bfce015e5c90b1705f8d5bde7ee6db2a312f27ec85d6ce15e"), looks := false }, kinds := [], alts := [], laidByText := true, laidKinds := [.data, .data, .data, .data, .pinned], laidTests := true, laidLooks := .later }
def SayQuotesUptoCardSaid : Prop := Claim7.holds Tryz.pinned (.plain (OpenSpec.upto sayQuotesSpec)) sayQuotesUptoCard
end Rows
end Go.Proofs.YtnbdamdcmofafaaGreatDoor
