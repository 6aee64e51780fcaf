/- What the row and the card of SayLines ask of the program's text, each fact by the kernel. No condition. -/
import Derived.Test.YtdmoecehmclohaaGreatDoorTie
import Derived.Test.YtdmoecehmclohaaGreatDoorCards
import Derived.JoinedOf
import Derived.SevenTiedAt
import Derived.KernelRfl
namespace Go.Proofs.YtdmoecehmclohaaGreatDoor
open Go
set_option linter.unusedSimpArgs false
set_option linter.unusedVariables false
namespace SayLines
theorem j0 : (Rows.sayLinesRow.wf (OpenSpec.ofChange Rows.sayLinesSpec)) = true := by kernel_rfl
theorem j1 : (laidOutB Tryz.prog) = true := by kernel_rfl
theorem j2 : (mapsRowed Tryz.prog) = true := by kernel_rfl
theorem j3 : (Tryz.f3.params.all (Tryz.prog.readableRec ·)) = true := by kernel_rfl
theorem j4 : (namedTie Tryz.prog Rows.sayLinesRow.named Rows.sayLinesSpec.vars) = true := by kernel_rfl
theorem j5 : ((Rows.sayLinesRow.stops == [])) = true := by kernel_rfl
theorem j6 : ((Tryz.prog.stops == [])) = true := by kernel_rfl
theorem j7 : ((Rows.sayLinesRow.knobs == [])) = true := by kernel_rfl
theorem j8 : ((Tryz.prog.stopKnobs == [])) = true := by kernel_rfl
theorem j9 : ((Rows.sayLinesRow.inPlace == Tryz.prog.inPlace 3)) = true := by kernel_rfl
theorem j10 : ((Rows.sayLinesRow.unfollowed == Tryz.prog.unfollowed 3)) = true := by kernel_rfl
theorem j11 : ((Rows.sayLinesRow.recurses == Tryz.prog.recurses 3)) = true := by kernel_rfl
theorem j12 : ((Rows.sayLinesRow.named == Tryz.prog.varsNamed 3)) = true := by kernel_rfl
theorem j13 : ((Rows.sayLinesRow.maps == (Tryz.f3.params.toList ++ Rows.sayLinesSpec.plain.varTypes Tryz.prog).any (Tryz.prog.mapsRec ·))) = true := by kernel_rfl
theorem j14 : ((Rows.sayLinesRow.ifaces == (Tryz.f3.params.toList ++ Rows.sayLinesSpec.plain.varTypes Tryz.prog).any (Tryz.prog.ifacesRec ·))) = true := by kernel_rfl
theorem j15 : ((Rows.sayLinesRow.mapsOut == Tryz.prog.mapsAmong Tryz.f3.resultTypes.toList)) = true := by kernel_rfl
theorem j16 : ((Rows.sayLinesRow.loops == (Tryz.f3.params.toList ++ Rows.sayLinesSpec.plain.varTypes Tryz.prog).any (Tryz.prog.loopsFrom ·))) = true := by kernel_rfl
theorem j17 : ((Rows.sayLinesRow.wideKeys == (Tryz.f3.params.toList ++ Rows.sayLinesSpec.plain.varTypes Tryz.prog ++ Tryz.f3.resultTypes.toList).any (Tryz.prog.wideKeysFrom ·))) = true := by kernel_rfl
theorem j18 : (Rows.sayLinesSpec.vars.all (Tryz.prog.varReadable ·)) = true := by kernel_rfl
theorem j19 : (Tryz.f3.resultTypes.all (fun t => Tryz.prog.readableRec t && decide (t < Tryz.prog.types.size))) = true := by kernel_rfl
theorem j20 : ((Rows.sayLinesRow.ifacesOut == Tryz.f3.resultTypes.toList.any (Tryz.prog.ifacesRec ·))) = true := by kernel_rfl
theorem j21 : ((Rows.sayLinesRow.loopsOut == Tryz.f3.resultTypes.toList.any (Tryz.prog.loopsFrom ·))) = true := by kernel_rfl
theorem j22 : ((Rows.sayLinesRow.plainKeys == Tryz.prog.plainKeys)) = true := by kernel_rfl
theorem j23 : (Rows.sayLinesRow.shortTexts.isNone) = true := by kernel_rfl
theorem j24 : (Tryz.prog.stopsHeard) = true := by kernel_rfl
theorem j25 : (Tryz.prog.mayEnter) = true := by kernel_rfl
theorem j26 : ((Rows.sayLinesRow.lifted == Tryz.prog.liftsFinal)) = true := by kernel_rfl
theorem j27 : ((Tryz.prog.make == some Rows.sayLinesRow.make)) = true := by kernel_rfl
theorem j29 : ((Rows.sayLinesRow.pinned == Rows.sayLinesRow.pinnedBy)) = true := by kernel_rfl
theorem j30 : ((Rows.sayLinesRow.veiled == (Tryz.f3.params.toList ++ Rows.sayLinesSpec.plain.varTypes Tryz.prog ++ Tryz.f3.resultTypes.toList).any (Tryz.prog.veiledRec ·))) = true := by kernel_rfl
theorem j31 : (Rows.sayLinesRow.veiledFits Tryz.prog Tryz.f3.params.toList (Tryz.f3.params.toList ++ Rows.sayLinesSpec.plain.varTypes Tryz.prog ++ Tryz.f3.resultTypes.toList)) = true := by kernel_rfl
set_option maxRecDepth 100000 in
theorem joined : joinedFacts Tryz.prog 3 Tryz.f3 Rows.sayLinesSpec Rows.sayLinesRow = true := by
  simp only [joinedFacts, j0, j1, j2, j3, j4, j5, j6, j7, j8, j9, j10, j11, j12, j13, j14, j15, j16, j17, j18, j19, j20, j21, j22, j23, j24, j25, j26, j27, j29, j30, j31, Bool.and_self, Bool.true_and, Bool.and_true]
  kernel_rfl
theorem named : Tryz.prog.funcNamed "clew/clewlaw25.SayLines" = some 3 := by kernel_rfl
theorem inst : Tryz.f3.isInstance Tryz.prog Rows.sayLinesRow.origin Rows.sayLinesRow.targs := of_decide_eq_true (by kernel_rfl)
theorem wrap : Tryz.f3.isWrapper Tryz.prog Rows.sayLinesRow.wrapper Rows.sayLinesRow.mainSum := by
  unfold Func.isWrapper
  first
    | (rw [if_pos (by decide +kernel)]; kernel_rfl)
    | (rw [if_neg (by decide +kernel)]; exact ⟨rfl, rfl⟩)
theorem cw : Rows.sayLinesRow.wfByText (OpenSpec.ofChange Rows.sayLinesSpec) = true := by kernel_rfl
theorem cm : Tryz.prog.mainIs = some (true, "5b977fa5f922f2260014e9dc5733bd8c40d64b094f203d46608318d39ba38faa".toList) := by kernel_rfl
theorem cl : false = Tryz.prog.looks [] := by kernel_rfl
theorem cg : false = Rows.sayLinesRow.goesBy Tryz.prog := by kernel_rfl
theorem ct : ([22, 26, 3, 29].all fun u => !Tryz.prog.wantsStandIn u) = true := by kernel_rfl
end SayLines
end Go.Proofs.YtdmoecehmclohaaGreatDoor
