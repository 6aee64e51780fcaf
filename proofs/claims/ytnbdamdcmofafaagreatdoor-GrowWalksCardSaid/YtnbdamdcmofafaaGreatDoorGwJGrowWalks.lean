/- What the row and the card of GrowWalks ask of the program's text, each fact by the kernel. No condition. -/
import Derived.Test.YtnbdamdcmofafaaGreatDoorTie
import Derived.Test.YtnbdamdcmofafaaGreatDoorCards
import Derived.JoinedOf
import Derived.SevenTiedAt
import Derived.KernelRfl
namespace Go.Proofs.YtnbdamdcmofafaaGreatDoor
open Go
set_option linter.unusedSimpArgs false
set_option linter.unusedVariables false

namespace GrowWalks
theorem j0 : (Rows.growWalksRow.wf (OpenSpec.ofChange Rows.growWalksSpec)) = true := by kernel_rfl
theorem j1 : (laidOutB Tryz.prog) = true := by kernel_rfl
theorem j2 : (mapsRowed Tryz.prog) = true := by kernel_rfl
theorem j3 : (Tryz.f8.params.all (Tryz.prog.readableRec ·)) = true := by kernel_rfl
theorem j4 : (namedTie Tryz.prog Rows.growWalksRow.named Rows.growWalksSpec.vars) = true := by kernel_rfl
theorem j5 : ((Rows.growWalksRow.stops == [])) = true := by kernel_rfl
theorem j6 : ((Tryz.prog.stops == [])) = true := by kernel_rfl
theorem j7 : ((Rows.growWalksRow.knobs == [])) = true := by kernel_rfl
theorem j8 : ((Tryz.prog.stopKnobs == [])) = true := by kernel_rfl
theorem j9 : ((Rows.growWalksRow.inPlace == Tryz.prog.inPlace 8)) = true := by kernel_rfl
theorem j10 : ((Rows.growWalksRow.unfollowed == Tryz.prog.unfollowed 8)) = true := by kernel_rfl
theorem j11 : ((Rows.growWalksRow.recurses == Tryz.prog.recurses 8)) = true := by kernel_rfl
theorem j12 : ((Rows.growWalksRow.named == Tryz.prog.varsNamed 8)) = true := by kernel_rfl
theorem j13 : ((Rows.growWalksRow.maps == (Tryz.f8.params.toList ++ Rows.growWalksSpec.plain.varTypes Tryz.prog).any (Tryz.prog.mapsRec ·))) = true := by kernel_rfl
theorem j14 : ((Rows.growWalksRow.ifaces == (Tryz.f8.params.toList ++ Rows.growWalksSpec.plain.varTypes Tryz.prog).any (Tryz.prog.ifacesRec ·))) = true := by kernel_rfl
theorem j15 : ((Rows.growWalksRow.mapsOut == Tryz.prog.mapsAmong Tryz.f8.resultTypes.toList)) = true := by kernel_rfl
theorem j16 : ((Rows.growWalksRow.loops == (Tryz.f8.params.toList ++ Rows.growWalksSpec.plain.varTypes Tryz.prog).any (Tryz.prog.loopsFrom ·))) = true := by kernel_rfl
theorem j17 : ((Rows.growWalksRow.wideKeys == (Tryz.f8.params.toList ++ Rows.growWalksSpec.plain.varTypes Tryz.prog ++ Tryz.f8.resultTypes.toList).any (Tryz.prog.wideKeysFrom ·))) = true := by kernel_rfl
theorem j18 : (Rows.growWalksSpec.vars.all (Tryz.prog.varReadable ·)) = true := by kernel_rfl
theorem j19 : (Tryz.f8.resultTypes.all (fun t => Tryz.prog.readableRec t && decide (t < Tryz.prog.types.size))) = true := by kernel_rfl
theorem j20 : ((Rows.growWalksRow.ifacesOut == Tryz.f8.resultTypes.toList.any (Tryz.prog.ifacesRec ·))) = true := by kernel_rfl
theorem j21 : ((Rows.growWalksRow.loopsOut == Tryz.f8.resultTypes.toList.any (Tryz.prog.loopsFrom ·))) = true := by kernel_rfl
theorem j22 : ((Rows.growWalksRow.plainKeys == Tryz.prog.plainKeys)) = true := by kernel_rfl
theorem j23 : (Rows.growWalksRow.shortTexts.isNone) = true := by kernel_rfl
theorem j24 : (Tryz.prog.stopsHeard) = true := by kernel_rfl
theorem j25 : (Tryz.prog.mayEnter) = true := by kernel_rfl
theorem j26 : ((Rows.growWalksRow.lifted == Tryz.prog.liftsFinal)) = true := by kernel_rfl
theorem j27 : ((Tryz.prog.make == some Rows.growWalksRow.make)) = true := by kernel_rfl
theorem j29 : ((Rows.growWalksRow.pinned == Rows.growWalksRow.pinnedBy)) = true := by kernel_rfl
theorem j30 : ((Rows.growWalksRow.veiled == (Tryz.f8.params.toList ++ Rows.growWalksSpec.plain.varTypes Tryz.prog ++ Tryz.f8.resultTypes.toList).any (Tryz.prog.veiledRec ·))) = true := by kernel_rfl
theorem j31 : (Rows.growWalksRow.veiledFits Tryz.prog Tryz.f8.params.toList (Tryz.f8.params.toList ++ Rows.growWalksSpec.plain.varTypes Tryz.prog ++ Tryz.f8.resultTypes.toList)) = true := by kernel_rfl
set_option maxRecDepth 100000 in
theorem joined : joinedFacts Tryz.prog 8 Tryz.f8 Rows.growWalksSpec Rows.growWalksRow = true := by
  simp only [joinedFacts, j0, j1, j2, j3, j4, j5, j6, j7, j8, j9, j10, j11, j12, j13, j14, j15, j16, j17, j18, j19, j20, j21, j22, j23, j24, j25, j26, j27, j29, j30, j31, Bool.and_self, Bool.true_and, Bool.and_true]
  kernel_rfl

theorem named : Tryz.prog.funcNamed "clew/clewlaw24.GrowWalks" = some 8 := by kernel_rfl
theorem inst : Tryz.f8.isInstance Tryz.prog Rows.growWalksRow.origin Rows.growWalksRow.targs := of_decide_eq_true (by kernel_rfl)
theorem wrap : Tryz.f8.isWrapper Tryz.prog Rows.growWalksRow.wrapper Rows.growWalksRow.mainSum := by
  unfold Func.isWrapper
  first
    | (rw [if_pos (by decide +kernel)]; kernel_rfl)
    | (rw [if_neg (by decide +kernel)]; exact ⟨rfl, rfl⟩)

theorem cw : Rows.growWalksRow.wfByText (OpenSpec.ofChange Rows.growWalksSpec) = true := by kernel_rfl
theorem cm : Tryz.prog.mainIs = some (true, "614878c383fc0b3bfce015e5c90b1705f8d5bde7ee6db2a312f27ec85d6ce15e".toList) := by kernel_rfl
theorem cl : false = Tryz.prog.looks [] := by kernel_rfl
theorem cg : false = Rows.growWalksRow.goesBy Tryz.prog := by kernel_rfl
theorem ct : ([64, 3].all fun u => !Tryz.prog.wantsStandIn u) = true := by kernel_rfl
end GrowWalks
end Go.Proofs.YtnbdamdcmofafaaGreatDoor
