/- What the row and the card of GrowUps ask of the program's text, each fact by the kernel. No condition. -/
import Derived.Test.YtnbdamdcmofafaaGreatDoorTie
import Derived.Test.YtnbdamdcmofafaaGreatDoorCards
import Derived.JoinedOf
import Derived.SevenTiedAt
import Derived.KernelRfl
namespace Go.Proofs.YtnbdamdcmofafaaGreatDoor
open Go
set_option linter.unusedSimpArgs false
set_option linter.unusedVariables false

namespace GrowUps
theorem j0 : (Rows.growUpsRow.wf (OpenSpec.ofChange Rows.growUpsSpec)) = true := by kernel_rfl
theorem j1 : (laidOutB Tryz.prog) = true := by kernel_rfl
theorem j2 : (mapsRowed Tryz.prog) = true := by kernel_rfl
theorem j3 : (Tryz.f5.params.all (Tryz.prog.readableRec ·)) = true := by kernel_rfl
theorem j4 : (namedTie Tryz.prog Rows.growUpsRow.named Rows.growUpsSpec.vars) = true := by kernel_rfl
theorem j5 : ((Rows.growUpsRow.stops == [])) = true := by kernel_rfl
theorem j6 : ((Tryz.prog.stops == [])) = true := by kernel_rfl
theorem j7 : ((Rows.growUpsRow.knobs == [])) = true := by kernel_rfl
theorem j8 : ((Tryz.prog.stopKnobs == [])) = true := by kernel_rfl
theorem j9 : ((Rows.growUpsRow.inPlace == Tryz.prog.inPlace 5)) = true := by kernel_rfl
theorem j10 : ((Rows.growUpsRow.unfollowed == Tryz.prog.unfollowed 5)) = true := by kernel_rfl
theorem j11 : ((Rows.growUpsRow.recurses == Tryz.prog.recurses 5)) = true := by kernel_rfl
theorem j12 : ((Rows.growUpsRow.named == Tryz.prog.varsNamed 5)) = true := by kernel_rfl
theorem j13 : ((Rows.growUpsRow.maps == (Tryz.f5.params.toList ++ Rows.growUpsSpec.plain.varTypes Tryz.prog).any (Tryz.prog.mapsRec ·))) = true := by kernel_rfl
theorem j14 : ((Rows.growUpsRow.ifaces == (Tryz.f5.params.toList ++ Rows.growUpsSpec.plain.varTypes Tryz.prog).any (Tryz.prog.ifacesRec ·))) = true := by kernel_rfl
theorem j15 : ((Rows.growUpsRow.mapsOut == Tryz.prog.mapsAmong Tryz.f5.resultTypes.toList)) = true := by kernel_rfl
theorem j16 : ((Rows.growUpsRow.loops == (Tryz.f5.params.toList ++ Rows.growUpsSpec.plain.varTypes Tryz.prog).any (Tryz.prog.loopsFrom ·))) = true := by kernel_rfl
theorem j17 : ((Rows.growUpsRow.wideKeys == (Tryz.f5.params.toList ++ Rows.growUpsSpec.plain.varTypes Tryz.prog ++ Tryz.f5.resultTypes.toList).any (Tryz.prog.wideKeysFrom ·))) = true := by kernel_rfl
theorem j18 : (Rows.growUpsSpec.vars.all (Tryz.prog.varReadable ·)) = true := by kernel_rfl
theorem j19 : (Tryz.f5.resultTypes.all (fun t => Tryz.prog.readableRec t && decide (t < Tryz.prog.types.size))) = true := by kernel_rfl
theorem j20 : ((Rows.growUpsRow.ifacesOut == Tryz.f5.resultTypes.toList.any (Tryz.prog.ifacesRec ·))) = true := by kernel_rfl
theorem j21 : ((Rows.growUpsRow.loopsOut == Tryz.f5.resultTypes.toList.any (Tryz.prog.loopsFrom ·))) = true := by kernel_rfl
theorem j22 : ((Rows.growUpsRow.plainKeys == Tryz.prog.plainKeys)) = true := by kernel_rfl
theorem j23 : (Rows.growUpsRow.shortTexts.isNone) = true := by kernel_rfl
theorem j24 : (Tryz.prog.stopsHeard) = true := by kernel_rfl
theorem j25 : (Tryz.prog.mayEnter) = true := by kernel_rfl
theorem j26 : ((Rows.growUpsRow.lifted == Tryz.prog.liftsFinal)) = true := by kernel_rfl
theorem j27 : ((Tryz.prog.make == some Rows.growUpsRow.make)) = true := by kernel_rfl
theorem j29 : ((Rows.growUpsRow.pinned == Rows.growUpsRow.pinnedBy)) = true := by kernel_rfl
theorem j30 : ((Rows.growUpsRow.veiled == (Tryz.f5.params.toList ++ Rows.growUpsSpec.plain.varTypes Tryz.prog ++ Tryz.f5.resultTypes.toList).any (Tryz.prog.veiledRec ·))) = true := by kernel_rfl
theorem j31 : (Rows.growUpsRow.veiledFits Tryz.prog Tryz.f5.params.toList (Tryz.f5.params.toList ++ Rows.growUpsSpec.plain.varTypes Tryz.prog ++ Tryz.f5.resultTypes.toList)) = true := by kernel_rfl
set_option maxRecDepth 100000 in
theorem joined : joinedFacts Tryz.prog 5 Tryz.f5 Rows.growUpsSpec Rows.growUpsRow = true := by
  simp only [joinedFacts, j0, j1, j2, j3, j4, j5, j6, j7, j8, j9, j10, j11, j12, j13, j14, j15, j16, j17, j18, j19, j20, j21, j22, j23, j24, j25, j26, j27, j29, j30, j31, Bool.and_self, Bool.true_and, Bool.and_true]
  kernel_rfl

theorem named : Tryz.prog.funcNamed "clew/clewlaw24.GrowUps" = some 5 := by kernel_rfl
theorem inst : Tryz.f5.isInstance Tryz.prog Rows.growUpsRow.origin Rows.growUpsRow.targs := of_decide_eq_true (by kernel_rfl)
theorem wrap : Tryz.f5.isWrapper Tryz.prog Rows.growUpsRow.wrapper Rows.growUpsRow.mainSum := by
  unfold Func.isWrapper
  first
    | (rw [if_pos (by decide +kernel)]; kernel_rfl)
    | (rw [if_neg (by decide +kernel)]; exact ⟨rfl, rfl⟩)

theorem cw : Rows.growUpsRow.wfByText (OpenSpec.ofChange Rows.growUpsSpec) = true := by kernel_rfl
theorem cm : Tryz.prog.mainIs = some (true, "614878c383fc0b3bfce015e5c90b1705f8d5bde7ee6db2a312f27ec85d6ce15e".toList) := by kernel_rfl
theorem cl : false = Tryz.prog.looks [] := by kernel_rfl
theorem cg : false = Rows.growUpsRow.goesBy Tryz.prog := by kernel_rfl
theorem ct : ([64].all fun u => !Tryz.prog.wantsStandIn u) = true := by kernel_rfl
end GrowUps
end Go.Proofs.YtnbdamdcmofafaaGreatDoor
