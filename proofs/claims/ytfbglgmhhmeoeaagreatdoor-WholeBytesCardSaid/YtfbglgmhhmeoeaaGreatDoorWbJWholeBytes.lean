/- What the row and the card of WholeBytes ask of the program's text, each fact by the kernel. No condition. -/
import Derived.Test.YtfbglgmhhmeoeaaGreatDoorTie
import Derived.Test.YtfbglgmhhmeoeaaGreatDoorCards
import Derived.JoinedOf
import Derived.SevenTiedAt
import Derived.KernelRfl
namespace Go.Proofs.YtfbglgmhhmeoeaaGreatDoor
open Go
set_option linter.unusedSimpArgs false
set_option linter.unusedVariables false
namespace WholeBytes
theorem j0 : (Rows.wholeBytesRow.wf (OpenSpec.ofChange Rows.wholeBytesSpec)) = true := by kernel_rfl
theorem j1 : (laidOutB Tryz.prog) = true := by kernel_rfl
theorem j2 : (mapsRowed Tryz.prog) = true := by kernel_rfl
theorem j3 : (Tryz.f3.params.all (Tryz.prog.readableRec ·)) = true := by kernel_rfl
theorem j4 : (namedTie Tryz.prog Rows.wholeBytesRow.named Rows.wholeBytesSpec.vars) = true := by kernel_rfl
theorem j5 : ((Rows.wholeBytesRow.stops == [])) = true := by kernel_rfl
theorem j6 : ((Tryz.prog.stops == [])) = true := by kernel_rfl
theorem j7 : ((Rows.wholeBytesRow.knobs == [])) = true := by kernel_rfl
theorem j8 : ((Tryz.prog.stopKnobs == [])) = true := by kernel_rfl
theorem j9 : ((Rows.wholeBytesRow.inPlace == Tryz.prog.inPlace 3)) = true := by kernel_rfl
theorem j10 : ((Rows.wholeBytesRow.unfollowed == Tryz.prog.unfollowed 3)) = true := by kernel_rfl
theorem j11 : ((Rows.wholeBytesRow.recurses == Tryz.prog.recurses 3)) = true := by kernel_rfl
theorem j12 : ((Rows.wholeBytesRow.named == Tryz.prog.varsNamed 3)) = true := by kernel_rfl
theorem j13 : ((Rows.wholeBytesRow.maps == (Tryz.f3.params.toList ++ Rows.wholeBytesSpec.plain.varTypes Tryz.prog).any (Tryz.prog.mapsRec ·))) = true := by kernel_rfl
theorem j14 : ((Rows.wholeBytesRow.ifaces == (Tryz.f3.params.toList ++ Rows.wholeBytesSpec.plain.varTypes Tryz.prog).any (Tryz.prog.ifacesRec ·))) = true := by kernel_rfl
theorem j15 : ((Rows.wholeBytesRow.mapsOut == Tryz.prog.mapsAmong Tryz.f3.resultTypes.toList)) = true := by kernel_rfl
theorem j16 : ((Rows.wholeBytesRow.loops == (Tryz.f3.params.toList ++ Rows.wholeBytesSpec.plain.varTypes Tryz.prog).any (Tryz.prog.loopsFrom ·))) = true := by kernel_rfl
theorem j17 : ((Rows.wholeBytesRow.wideKeys == (Tryz.f3.params.toList ++ Rows.wholeBytesSpec.plain.varTypes Tryz.prog ++ Tryz.f3.resultTypes.toList).any (Tryz.prog.wideKeysFrom ·))) = true := by kernel_rfl
theorem j18 : (Rows.wholeBytesSpec.vars.all (Tryz.prog.varReadable ·)) = true := by kernel_rfl
theorem j19 : (Tryz.f3.resultTypes.all (fun t => Tryz.prog.readableRec t && decide (t < Tryz.prog.types.size))) = true := by kernel_rfl
theorem j20 : ((Rows.wholeBytesRow.ifacesOut == Tryz.f3.resultTypes.toList.any (Tryz.prog.ifacesRec ·))) = true := by kernel_rfl
theorem j21 : ((Rows.wholeBytesRow.loopsOut == Tryz.f3.resultTypes.toList.any (Tryz.prog.loopsFrom ·))) = true := by kernel_rfl
theorem j22 : ((Rows.wholeBytesRow.plainKeys == Tryz.prog.plainKeys)) = true := by kernel_rfl
theorem j23 : (Rows.wholeBytesRow.shortTexts.isNone) = true := by kernel_rfl
theorem j24 : (Tryz.prog.stopsHeard) = true := by kernel_rfl
theorem j25 : (Tryz.prog.mayEnter) = true := by kernel_rfl
theorem j26 : ((Rows.wholeBytesRow.lifted == Tryz.prog.liftsFinal)) = true := by kernel_rfl
theorem j27 : ((Tryz.prog.make == some Rows.wholeBytesRow.make)) = true := by kernel_rfl
theorem j29 : ((Rows.wholeBytesRow.pinned == Rows.wholeBytesRow.pinnedBy)) = true := by kernel_rfl
theorem j30 : ((Rows.wholeBytesRow.veiled == (Tryz.f3.params.toList ++ Rows.wholeBytesSpec.plain.varTypes Tryz.prog ++ Tryz.f3.resultTypes.toList).any (Tryz.prog.veiledRec ·))) = true := by kernel_rfl
theorem j31 : (Rows.wholeBytesRow.veiledFits Tryz.prog Tryz.f3.params.toList (Tryz.f3.params.toList ++ Rows.wholeBytesSpec.plain.varTypes Tryz.prog ++ Tryz.f3.resultTypes.toList)) = true := by kernel_rfl
set_option maxRecDepth 100000 in
theorem joined : joinedFacts Tryz.prog 3 Tryz.f3 Rows.wholeBytesSpec Rows.wholeBytesRow = true := by
 simp only [joinedFacts, j0, j1, j2, j3, j4, j5, j6, j7, j8, j9, j10, j11, j12, j13, j14, j15, j16, j17, j18, j19, j20, j21, j22, j23, j24, j25, j26, j27, j29, j30, j31, Bool.and_self, Bool.true_and, Bool.and_true]
 kernel_rfl
theorem named : Tryz.prog.funcNamed "clew/clewtop.WholeBytes" = some 3 := by kernel_rfl
theorem inst : Tryz.f3.isInstance Tryz.prog Rows.wholeBytesRow.origin Rows.wholeBytesRow.targs := of_decide_eq_true (by kernel_rfl)
theorem wrap : Tryz.f3.isWrapper Tryz.prog Rows.wholeBytesRow.wrapper Rows.wholeBytesRow.mainSum := by
 unfold Func.isWrapper
 first
  | (rw [if_pos (by decide +kernel)]; kernel_rfl)
  | (rw [if_neg (by decide +kernel)]; exact ⟨rfl, rfl⟩)
theorem cw : Rows.wholeBytesRow.wfByText (OpenSpec.ofChange Rows.wholeBytesSpec) = true := by kernel_rfl
theorem cm : Tryz.prog.mainIs = some (true, "a1244351b0fd149c08a69a46153a5ced76ffdd840130163004bd6a3e95db99fb".toList) := by kernel_rfl
theorem cl : true = Tryz.prog.looks [] := by kernel_rfl
theorem cg : false = Rows.wholeBytesRow.goesBy Tryz.prog := by kernel_rfl
theorem ct : ([22].all fun u => !Tryz.prog.wantsStandIn u) = true := by kernel_rfl
end WholeBytes
end Go.Proofs.YtfbglgmhhmeoeaaGreatDoor
