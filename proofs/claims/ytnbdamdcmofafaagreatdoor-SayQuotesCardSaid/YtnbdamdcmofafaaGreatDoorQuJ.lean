/- What the row and the card of SayQuotes ask of the program's text, each fact by the kernel. No condition. -/
import Derived.Test.YtnbdamdcmofafaaGreatDoorTie
import Derived.Test.YtnbdamdcmofafaaGreatDoorCards
import Derived.JoinedOf
import Derived.SevenTiedAt
import Derived.KernelRfl
namespace Go.Proofs.YtnbdamdcmofafaaGreatDoor
open Go
set_option linter.unusedSimpArgs false
set_option linter.unusedVariables false
namespace SayQ
theorem j0 : (Rows.sayQuotesRow.wf (OpenSpec.ofChange Rows.sayQuotesSpec)) = true := by kernel_rfl
theorem j1 : (laidOutB Tryz.prog) = true := by kernel_rfl
theorem j2 : (mapsRowed Tryz.prog) = true := by kernel_rfl
theorem j3 : (Tryz.f10.params.all (Tryz.prog.readableRec ·)) = true := by kernel_rfl
theorem j4 : (namedTie Tryz.prog Rows.sayQuotesRow.named Rows.sayQuotesSpec.vars) = true := by kernel_rfl
theorem j5 : ((Rows.sayQuotesRow.stops == [])) = true := by kernel_rfl
theorem j6 : ((Tryz.prog.stops == [])) = true := by kernel_rfl
theorem j7 : ((Rows.sayQuotesRow.knobs == [])) = true := by kernel_rfl
theorem j8 : ((Tryz.prog.stopKnobs == [])) = true := by kernel_rfl
theorem j9 : ((Rows.sayQuotesRow.inPlace == Tryz.prog.inPlace 10)) = true := by kernel_rfl
theorem j10 : ((Rows.sayQuotesRow.unfollowed == Tryz.prog.unfollowed 10)) = true := by kernel_rfl
theorem j11 : ((Rows.sayQuotesRow.recurses == Tryz.prog.recurses 10)) = true := by kernel_rfl
theorem j12 : ((Rows.sayQuotesRow.named == Tryz.prog.varsNamed 10)) = true := by kernel_rfl
theorem j13 : ((Rows.sayQuotesRow.maps == (Tryz.f10.params.toList ++ Rows.sayQuotesSpec.plain.varTypes Tryz.prog).any (Tryz.prog.mapsRec ·))) = true := by kernel_rfl
theorem j14 : ((Rows.sayQuotesRow.ifaces == (Tryz.f10.params.toList ++ Rows.sayQuotesSpec.plain.varTypes Tryz.prog).any (Tryz.prog.ifacesRec ·))) = true := by kernel_rfl
theorem j15 : ((Rows.sayQuotesRow.mapsOut == Tryz.prog.mapsAmong Tryz.f10.resultTypes.toList)) = true := by kernel_rfl
theorem j16 : ((Rows.sayQuotesRow.loops == (Tryz.f10.params.toList ++ Rows.sayQuotesSpec.plain.varTypes Tryz.prog).any (Tryz.prog.loopsFrom ·))) = true := by kernel_rfl
theorem j17 : ((Rows.sayQuotesRow.wideKeys == (Tryz.f10.params.toList ++ Rows.sayQuotesSpec.plain.varTypes Tryz.prog ++ Tryz.f10.resultTypes.toList).any (Tryz.prog.wideKeysFrom ·))) = true := by kernel_rfl
theorem j18 : (Rows.sayQuotesSpec.vars.all (Tryz.prog.varReadable ·)) = true := by kernel_rfl
theorem j19 : (Tryz.f10.resultTypes.all (fun t => Tryz.prog.readableRec t && decide (t < Tryz.prog.types.size))) = true := by kernel_rfl
theorem j20 : ((Rows.sayQuotesRow.ifacesOut == Tryz.f10.resultTypes.toList.any (Tryz.prog.ifacesRec ·))) = true := by kernel_rfl
theorem j21 : ((Rows.sayQuotesRow.loopsOut == Tryz.f10.resultTypes.toList.any (Tryz.prog.loopsFrom ·))) = true := by kernel_rfl
theorem j22 : ((Rows.sayQuotesRow.plainKeys == Tryz.prog.plainKeys)) = true := by kernel_rfl
theorem j23 : (Rows.sayQuotesRow.shortTexts.isNone) = true := by kernel_rfl
theorem j24 : (Tryz.prog.stopsHeard) = true := by kernel_rfl
theorem j25 : (Tryz.prog.mayEnter) = true := by kernel_rfl
theorem j26 : ((Rows.sayQuotesRow.lifted == Tryz.prog.liftsFinal)) = true := by kernel_rfl
theorem j27 : ((Tryz.prog.make == some Rows.sayQuotesRow.make)) = true := by kernel_rfl
theorem j29 : ((Rows.sayQuotesRow.pinned == Rows.sayQuotesRow.pinnedBy)) = true := by kernel_rfl
theorem j30 : ((Rows.sayQuotesRow.veiled == (Tryz.f10.params.toList ++ Rows.sayQuotesSpec.plain.varTypes Tryz.prog ++ Tryz.f10.resultTypes.toList).any (Tryz.prog.veiledRec ·))) = true := by kernel_rfl
theorem j31 : (Rows.sayQuotesRow.veiledFits Tryz.prog Tryz.f10.params.toList (Tryz.f10.params.toList ++ Rows.sayQuotesSpec.plain.varTypes Tryz.prog ++ Tryz.f10.resultTypes.toList)) = true := by kernel_rfl
set_option maxRecDepth 100000 in
theorem joined : joinedFacts Tryz.prog 10 Tryz.f10 Rows.sayQuotesSpec Rows.sayQuotesRow = true := by
  simp only [joinedFacts, j0, j1, j2, j3, j4, j5, j6, j7, j8, j9, j10, j11, j12, j13, j14, j15, j16, j17, j18, j19, j20, j21, j22, j23, j24, j25, j26, j27, j29, j30, j31, Bool.and_self, Bool.true_and, Bool.and_true]
  kernel_rfl

theorem named10 : Tryz.prog.funcNamed "clew/clewlaw25.SayQuotes" = some 10 := by kernel_rfl
theorem inst10 : Tryz.f10.isInstance Tryz.prog Rows.sayQuotesRow.origin Rows.sayQuotesRow.targs := of_decide_eq_true (by kernel_rfl)
theorem wrap10 : Tryz.f10.isWrapper Tryz.prog Rows.sayQuotesRow.wrapper Rows.sayQuotesRow.mainSum := by
  unfold Func.isWrapper
  first
    | (rw [if_pos (by decide +kernel)]; kernel_rfl)
    | (rw [if_neg (by decide +kernel)]; exact ⟨rfl, rfl⟩)

theorem cw10 : Rows.sayQuotesRow.wfByText (OpenSpec.ofChange Rows.sayQuotesSpec) = true := by kernel_rfl
theorem cm10 : Tryz.prog.mainIs = some (true, "614878c383fc0b3bfce015e5c90b1705f8d5bde7ee6db2a312f27ec85d6ce15e".toList) := by kernel_rfl
theorem cl10 : false = Tryz.prog.looks [] := by kernel_rfl
theorem cg10 : false = Rows.sayQuotesRow.goesBy Tryz.prog := by kernel_rfl
theorem ct10 : ([27, 27].all fun u => !Tryz.prog.wantsStandIn u) = true := by kernel_rfl
end SayQ
end Go.Proofs.YtnbdamdcmofafaaGreatDoor
