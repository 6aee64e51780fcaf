/- What the row and the card of GrowKids ask of the program's text, each fact by the kernel. No condition. -/
import Derived.Test.YtnbdamdcmofafaaGreatDoorTie
import Derived.Test.YtnbdamdcmofafaaGreatDoorCards
import Derived.JoinedOf
import Derived.SevenTiedAt
import Derived.KernelRfl
namespace Go.Proofs.YtnbdamdcmofafaaGreatDoor
open Go
set_option linter.unusedSimpArgs false
set_option linter.unusedVariables false

namespace GrowKids
theorem j0 : (Rows.growKidsRow.wf (OpenSpec.ofChange Rows.growKidsSpec)) = true := by kernel_rfl
theorem j1 : (laidOutB Tryz.prog) = true := by kernel_rfl
theorem j2 : (mapsRowed Tryz.prog) = true := by kernel_rfl
theorem j3 : (Tryz.f6.params.all (Tryz.prog.readableRec ·)) = true := by kernel_rfl
theorem j4 : (namedTie Tryz.prog Rows.growKidsRow.named Rows.growKidsSpec.vars) = true := by kernel_rfl
theorem j5 : ((Rows.growKidsRow.stops == [])) = true := by kernel_rfl
theorem j6 : ((Tryz.prog.stops == [])) = true := by kernel_rfl
theorem j7 : ((Rows.growKidsRow.knobs == [])) = true := by kernel_rfl
theorem j8 : ((Tryz.prog.stopKnobs == [])) = true := by kernel_rfl
theorem j9 : ((Rows.growKidsRow.inPlace == Tryz.prog.inPlace 6)) = true := by kernel_rfl
theorem j10 : ((Rows.growKidsRow.unfollowed == Tryz.prog.unfollowed 6)) = true := by kernel_rfl
theorem j11 : ((Rows.growKidsRow.recurses == Tryz.prog.recurses 6)) = true := by kernel_rfl
theorem j12 : ((Rows.growKidsRow.named == Tryz.prog.varsNamed 6)) = true := by kernel_rfl
theorem j13 : ((Rows.growKidsRow.maps == (Tryz.f6.params.toList ++ Rows.growKidsSpec.plain.varTypes Tryz.prog).any (Tryz.prog.mapsRec ·))) = true := by kernel_rfl
theorem j14 : ((Rows.growKidsRow.ifaces == (Tryz.f6.params.toList ++ Rows.growKidsSpec.plain.varTypes Tryz.prog).any (Tryz.prog.ifacesRec ·))) = true := by kernel_rfl
theorem j15 : ((Rows.growKidsRow.mapsOut == Tryz.prog.mapsAmong Tryz.f6.resultTypes.toList)) = true := by kernel_rfl
theorem j16 : ((Rows.growKidsRow.loops == (Tryz.f6.params.toList ++ Rows.growKidsSpec.plain.varTypes Tryz.prog).any (Tryz.prog.loopsFrom ·))) = true := by kernel_rfl
theorem j17 : ((Rows.growKidsRow.wideKeys == (Tryz.f6.params.toList ++ Rows.growKidsSpec.plain.varTypes Tryz.prog ++ Tryz.f6.resultTypes.toList).any (Tryz.prog.wideKeysFrom ·))) = true := by kernel_rfl
theorem j18 : (Rows.growKidsSpec.vars.all (Tryz.prog.varReadable ·)) = true := by kernel_rfl
theorem j19 : (Tryz.f6.resultTypes.all (fun t => Tryz.prog.readableRec t && decide (t < Tryz.prog.types.size))) = true := by kernel_rfl
theorem j20 : ((Rows.growKidsRow.ifacesOut == Tryz.f6.resultTypes.toList.any (Tryz.prog.ifacesRec ·))) = true := by kernel_rfl
theorem j21 : ((Rows.growKidsRow.loopsOut == Tryz.f6.resultTypes.toList.any (Tryz.prog.loopsFrom ·))) = true := by kernel_rfl
theorem j22 : ((Rows.growKidsRow.plainKeys == Tryz.prog.plainKeys)) = true := by kernel_rfl
theorem j23 : (Rows.growKidsRow.shortTexts.isNone) = true := by kernel_rfl
theorem j24 : (Tryz.prog.stopsHeard) = true := by kernel_rfl
theorem j25 : (Tryz.prog.mayEnter) = true := by kernel_rfl
theorem j26 : ((Rows.growKidsRow.lifted == Tryz.prog.liftsFinal)) = true := by kernel_rfl
theorem j27 : ((Tryz.prog.make == some Rows.growKidsRow.make)) = true := by kernel_rfl
theorem j29 : ((Rows.growKidsRow.pinned == Rows.growKidsRow.pinnedBy)) = true := by kernel_rfl
theorem j30 : ((Rows.growKidsRow.veiled == (Tryz.f6.params.toList ++ Rows.growKidsSpec.plain.varTypes Tryz.prog ++ Tryz.f6.resultTypes.toList).any (Tryz.prog.veiledRec ·))) = true := by kernel_rfl
theorem j31 : (Rows.growKidsRow.veiledFits Tryz.prog Tryz.f6.params.toList (Tryz.f6.params.toList ++ Rows.growKidsSpec.plain.varTypes Tryz.prog ++ Tryz.f6.resultTypes.toList)) = true := by kernel_rfl
set_option maxRecDepth 100000 in
theorem joined : joinedFacts Tryz.prog 6 Tryz.f6 Rows.growKidsSpec Rows.growKidsRow = true := by
  simp only [joinedFacts, j0, j1, j2, j3, j4, j5, j6, j7, j8, j9, j10, j11, j12, j13, j14, j15, j16, j17, j18, j19, j20, j21, j22, j23, j24, j25, j26, j27, j29, j30, j31, Bool.and_self, Bool.true_and, Bool.and_true]
  kernel_rfl

theorem named : Tryz.prog.funcNamed "clew/clewlaw24.GrowKids" = some 6 := by kernel_rfl
theorem inst : Tryz.f6.isInstance Tryz.prog Rows.growKidsRow.origin Rows.growKidsRow.targs := of_decide_eq_true (by kernel_rfl)
theorem wrap : Tryz.f6.isWrapper Tryz.prog Rows.growKidsRow.wrapper Rows.growKidsRow.mainSum := by
  unfold Func.isWrapper
  first
    | (rw [if_pos (by decide +kernel)]; kernel_rfl)
    | (rw [if_neg (by decide +kernel)]; exact ⟨rfl, rfl⟩)

theorem cw : Rows.growKidsRow.wfByText (OpenSpec.ofChange Rows.growKidsSpec) = true := by kernel_rfl
theorem cm : Tryz.prog.mainIs = some (true, "614878c383fc0b3bfce015e5c90b1705f8d5bde7ee6db2a312f27ec85d6ce15e".toList) := by kernel_rfl
theorem cl : false = Tryz.prog.looks [] := by kernel_rfl
theorem cg : false = Rows.growKidsRow.goesBy Tryz.prog := by kernel_rfl
theorem ct : ([64].all fun u => !Tryz.prog.wantsStandIn u) = true := by kernel_rfl
end GrowKids
end Go.Proofs.YtnbdamdcmofafaaGreatDoor
