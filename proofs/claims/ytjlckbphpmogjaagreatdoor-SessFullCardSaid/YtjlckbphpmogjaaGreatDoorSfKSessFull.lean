/- The law SessFull: the row's statement, and the card. No condition. -/
import Derived.Test.YtjlckbphpmogjaaGreatDoorSfC
import Derived.Test.YtjlckbphpmogjaaGreatDoorSfJSessFull
import Derived.Test.YtjlckbphpmogjaaGreatDoorSfPC
import Derived.Test.YtjlckbphpmogjaaGreatDoorSfViStart
import Derived.WalkKit
import Derived.ProofKit
import Derived.ShutString
import Derived.ChangeOld
import Derived.Below
import Derived.SizedLaws
import Derived.Lay
import Derived.LaidMore
namespace Go.Proofs.YtjlckbphpmogjaaGreatDoor
open Go Go.Vi Go.RowKit
set_option linter.unusedSimpArgs false
set_option linter.unusedVariables false

namespace SessFull
open Go.ChangeShapes Go.WideShapes Go.ChangeAt
def laidL : List (String × DataW Unit) := [("unicode/utf8.acceptRanges", Rows.laid_unicode_utf8_acceptRanges), ("unicode/utf8.first", Rows.laid_unicode_utf8_first)]
theorem own : ownKnob Tryz.prog.godebug = none := by kernel_rfl

theorem calls {H : Type} {enc : TypeId × Value → H} {W : World} {args : Array Value} {ds : List (DataW H)} {p : List MemPlace} (hA : DataW.TrodAll enc Tryz.prog W 0 (fun _ => true) true [3] args.toList ds p)
    (hok : ∀ (j : Nat) t v, [3][j]? = some t → args.toList[j]? = some v → ∃ b0, Value.okWide Tryz.prog W .any b0 t v) :
    Calls Tryz.prog 3 args W fun e W' => e = .returned (.bool true) ∧ Below W.heap.size W W' := by
  refine int_law (ext := ext) (T := T) Tryz.underlying3 hA hok (ext_ok _) ext_not ext_sum (tableOk W) mixed T3 fun x => ?_
  rw [gSize]
  exact law3 x

set_option maxRecDepth 100000 in
theorem lifted (os : Os) (started : os.Started) (H : Type) (enc : TypeId × Value → H) :
    ReturnsInHanded {} Tryz.checked os 3 .any (fun w args => (Rows.sessFullSpec.pre enc Tryz.prog Tryz.f3 [] false w args ∧ laidMetH Tryz.prog laidL w) ∧ sizedMet enc Tryz.prog Tryz.f3 (OpenSpec.ofChange Rows.sessFullSpec) false w args)
      (Rows.sessFullSpec.post enc Tryz.prog Tryz.f3 false true false false) := by
  refine returnsInHanded_of_change_and (C := Tryz.checked) (X := fun w _ => laidMetH Tryz.prog laidL w) (fun _ _ _ hh h => h.of_heap hh) own started (by kernel_rfl) Tryz.func3
    (ChangeSpec.witness_shaped (enc := enc) (C := Tryz.checked) (os := os) (X := fun w _ => laidMetH Tryz.prog laidL w) false (World.laidAll Tryz.prog os laidL) #[.int .i64 0] 8 (World.laidAll_os _ _ _)
      (World.shaped_of_ZipB (by kernel_rfl) (by kernel_rfl)) (by kernel_rfl) (by kernel_rfl) (by kernel_rfl)
      (by rw [MakeChecks.laidMetH_plain _ _ _ (by kernel_rfl)]; exact laidMet_laidAll _ (by kernel_rfl) (by kernel_rfl))) ?_
  intro W base args ds gs before hval0 hW _ _ hL _
  have hval : ∀ (j : Nat) t v, Tryz.f3.params[j]? = some t → args[j]? = some v → Value.okWide Tryz.prog W .any base t v := hval0
  have hW' := hW
  obtain ⟨p, q, hA0, hV, rfl, _, _⟩ := hW
  have hA : DataW.TrodAll enc Tryz.prog W 0 (fun _ => true) true Tryz.f3.params.toList args.toList ds p := hA0
  rw [Tryz.params3] at hA hval
  obtain ⟨rfl, rfl⟩ := trodVars_none hV
  have hc := calls hA (fun j t v hj hv => ⟨base, hval j t v (by simpa using hj) (by simpa using hv)⟩)
  obtain ⟨d0, rfl⟩ := trodAll_1ds hA
  refine hc.mono fun e W' ⟨he, bel⟩ => ?_
  subst he
  exact ⟨_, rfl, _, _, _, [], _, [], hW', trodAll_mk1 (shut_bool Tryz.underlying4 _), (trodAll_below j1 bel (by kernel_rfl) hA), rfl, bel.frame _, fun h => by cases h⟩

theorem holds : Rows.SessFullSaid :=
  OpenClaim.holds_of_wide 3 Tryz.f3 rfl rfl rfl rfl rfl rfl rfl ⟨rfl, rfl, rfl, rfl, rfl⟩ rfl rfl rfl rfl rfl named Tryz.func3 joined inst wrap
    (fun os started H enc _ => lifted os started H enc)
end SessFull

theorem sessFull_card : Rows.SessFullCardSaid :=
  Claim7.holds_tied_plain_at .later [] [.data, .pinned] true (true, "7f7ee37e321328c804ed0f057257cfc414b6af93d4dfd1304d36b57ebb3ff431") true SessFull.holds (fun _ h => by cases h) SessFull.cw (fun _ h => by cases h) sessFull_row_tie rfl ⟨rfl, rfl⟩ SessFull.cm rfl
    (fun f fn hf hfn => by
      obtain rfl : f = 3 := (Option.some.inj (SessFull.named.symm.trans hf)).symm
      obtain rfl : fn = Tryz.f3 := (Option.some.inj (Tryz.func3.symm.trans hfn)).symm
      exact ⟨SessFull.cl, fun j t ht => by
        rw [Tryz.params3] at ht
        have hm : t ∈ [3] := by simpa using Array.mem_of_getElem? ht
        exact (show Tryz.prog.wantsStandIn t = false by simpa using List.all_eq_true.1 SessFull.ct t hm)⟩)
    SessFull.cg
#print axioms sessFull_card

end Go.Proofs.YtjlckbphpmogjaaGreatDoor
