/- The law GrowWalks: the row's statement, and the card. No condition. -/
import Derived.Test.YtnbdamdcmofafaaGreatDoorGwC
import Derived.Test.YtnbdamdcmofafaaGreatDoorGwJGrowWalks
import Derived.Test.YtnbdamdcmofafaaGreatDoorGwGV
import Derived.Test.YtnbdamdcmofafaaGreatDoorGwViRows
import Derived.WalkKit
import Derived.ProofKit
import Derived.ShutString
import Derived.ChangeOld
import Derived.Below
import Derived.SizedLaws
import Derived.Lay
import Derived.LaidMore
namespace Go.Proofs.YtnbdamdcmofafaaGreatDoor
open Go Go.Vi Go.RowKit
set_option linter.unusedSimpArgs false
set_option linter.unusedVariables false

namespace GrowWalks
open Go.ChangeShapes Go.WideShapes Go.ChangeAt
def laidL : List (String × DataW Unit) := [("unicode/utf8.acceptRanges", Rows.laid_unicode_utf8_acceptRanges), ("unicode/utf8.first", Rows.laid_unicode_utf8_first)]
theorem own : ownKnob Tryz.prog.godebug = none := by kernel_rfl

theorem calls {H : Type} {enc : TypeId × Value → H} {W : World} {args : Array Value} {ds : List (DataW H)} {p : List MemPlace} (hA : DataW.TrodAll enc Tryz.prog W 0 (fun _ => true) true [64, 3] args.toList ds p)
    (hok : ∀ (j : Nat) t v, [64, 3][j]? = some t → args.toList[j]? = some v → ∃ b0, Value.okWide Tryz.prog W .any b0 t v) :
    Calls Tryz.prog 8 args W fun e W' => e = .returned (.bool true) ∧ Below W.heap.size W W' := by
  obtain ⟨m, ρ, avs, hR, ha, hlen, _, _, _, ht⟩ := args_start (G := Tryz.prog.globals.size) 8 (by kernel_rfl) hA hok
  refine law_calls (ext := ext) (T := T) (ext_ok _) ext_not ext_sum (tableOk W) mixed hR ha T8 ?_
  have hl : avs.length = 2 := by
    rw [hlen]
    have := (trodAll_len hA).1
    simpa using this
  exact law8_at m avs hl ht

set_option maxRecDepth 100000 in
theorem lifted (os : Os) (started : os.Started) (H : Type) (enc : TypeId × Value → H) :
    ReturnsInHanded {} Tryz.checked os 8 .any (fun w args => (Rows.growWalksSpec.pre enc Tryz.prog Tryz.f8 [] false w args ∧ laidMetH Tryz.prog laidL w) ∧ sizedMet enc Tryz.prog Tryz.f8 (OpenSpec.ofChange Rows.growWalksSpec) false w args)
      (Rows.growWalksSpec.post enc Tryz.prog Tryz.f8 false true false false) := by
  refine returnsInHanded_of_change_and (C := Tryz.checked) (X := fun w _ => laidMetH Tryz.prog laidL w) (fun _ _ _ hh h => h.of_heap hh) own started (by kernel_rfl) Tryz.func8
    (ChangeSpec.witness_shaped (enc := enc) (C := Tryz.checked) (os := os) (X := fun w _ => laidMetH Tryz.prog laidL w) false (World.laidAll Tryz.prog os laidL) #[.slice none 0 0, .int .i64 0] 8 (World.laidAll_os _ _ _)
      (World.shaped_of_ZipB (by kernel_rfl) (by kernel_rfl)) (by kernel_rfl) (by kernel_rfl) (by kernel_rfl)
      (by rw [MakeChecks.laidMetH_plain _ _ _ (by kernel_rfl)]; exact laidMet_laidAll _ (by kernel_rfl) (by kernel_rfl))) ?_
  intro W base args ds gs before hval0 hW _ _ hL _
  have hval : ∀ (j : Nat) t v, Tryz.f8.params[j]? = some t → args[j]? = some v → Value.okWide Tryz.prog W .any base t v := hval0
  have hW' := hW
  obtain ⟨p, q, hA0, hV, rfl, _, _⟩ := hW
  have hA : DataW.TrodAll enc Tryz.prog W 0 (fun _ => true) true Tryz.f8.params.toList args.toList ds p := hA0
  rw [Tryz.params8] at hA hval
  obtain ⟨rfl, rfl⟩ := trodVars_none hV
  have hc := calls hA (fun j t v hj hv => ⟨base, hval j t v (by simpa using hj) (by simpa using hv)⟩)
  obtain ⟨d0, d1, rfl⟩ := trodAll_2ds hA
  refine hc.mono fun e W' ⟨he, bel⟩ => ?_
  subst he
  exact ⟨_, rfl, _, _, _, [], _, [], hW', trodAll_mk1 (shut_bool Tryz.underlying4 _), (trodAll_below j1 bel (by kernel_rfl) hA), rfl, bel.frame _, fun h => by cases h⟩

theorem holds : Rows.GrowWalksSaid :=
  OpenClaim.holds_of_wide 8 Tryz.f8 rfl rfl rfl rfl rfl rfl rfl ⟨rfl, rfl, rfl, rfl, rfl⟩ rfl rfl rfl rfl rfl named Tryz.func8 joined inst wrap
    (fun os started H enc _ => lifted os started H enc)
end GrowWalks

theorem growWalks_card : Rows.GrowWalksCardSaid :=
  Claim7.holds_tied_plain_at .later [] [.data, .pinned] true (true, "614878c383fc0b3bfce015e5c90b1705f8d5bde7ee6db2a312f27ec85d6ce15e") false GrowWalks.holds (fun _ h => by cases h) GrowWalks.cw (fun _ h => by cases h) growWalks_row_tie rfl ⟨rfl, rfl⟩ GrowWalks.cm rfl
    (fun f fn hf hfn => by
      obtain rfl : f = 8 := (Option.some.inj (GrowWalks.named.symm.trans hf)).symm
      obtain rfl : fn = Tryz.f8 := (Option.some.inj (Tryz.func8.symm.trans hfn)).symm
      exact ⟨GrowWalks.cl, fun j t ht => by
        rw [Tryz.params8] at ht
        have hm : t ∈ [64, 3] := by simpa using Array.mem_of_getElem? ht
        exact (show Tryz.prog.wantsStandIn t = false by simpa using List.all_eq_true.1 GrowWalks.ct t hm)⟩)
    GrowWalks.cg
#print axioms growWalks_card

end Go.Proofs.YtnbdamdcmofafaaGreatDoor
