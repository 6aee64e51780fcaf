/- The law ShellPoints: the row's statement, and the card. No condition. -/
import Derived.Test.YtjlckbphpmogjaaGreatDoorSpC
import Derived.Test.YtjlckbphpmogjaaGreatDoorSpJShellPoints
import Derived.Test.YtjlckbphpmogjaaGreatDoorSpSPA
import Derived.Test.YtjlckbphpmogjaaGreatDoorSpViStart
import Derived.Test.YtjlckbphpmogjaaGreatDoorSpViGlob
import Derived.WalkKit
import Derived.ProofKit
import Derived.ShutString
import Derived.ChangeOld
import Derived.Below
import Derived.SizedLaws
import Derived.Lay
import Derived.LaidMore
namespace Go.Proofs.YtjlckbphpmogjaaGreatDoor
open Go Go.Vi Go.RowKit
set_option linter.unusedSimpArgs false
set_option linter.unusedVariables false

namespace ShellPoints
open Go.ChangeShapes Go.WideShapes Go.ChangeAt
def laidL : List (String × DataW Unit) := [("math/bits.deBruijn32tab", Rows.laid_math_bits_deBruijn32tab), ("math/bits.deBruijn64tab", Rows.laid_math_bits_deBruijn64tab), ("internal/strconv.uint64pow10", Rows.laid_internal_strconv_uint64pow10), ("unicode/utf8.acceptRanges", Rows.laid_unicode_utf8_acceptRanges), ("strconv.ErrRange", Rows.laid_strconv_ErrRange), ("strconv.ErrSyntax", Rows.laid_strconv_ErrSyntax), ("unicode/utf8.first", Rows.laid_unicode_utf8_first)]
theorem own : ownKnob Tryz.prog.godebug = none := by kernel_rfl
def pow10L : List Int := (List.range 20).map fun i : Nat => ((10 ^ i : Nat) : Int)

theorem calls {H : Type} {enc : TypeId × Value → H} {W : World} {args : Array Value} {ds : List (DataW H)} {p : List MemPlace} (hA : DataW.TrodAll enc Tryz.prog W 0 (fun _ => true) true [34] args.toList ds p)
    (hok : ∀ (j : Nat) t v, [34][j]? = some t → args.toList[j]? = some v → ∃ b0, Value.okWide Tryz.prog W .any b0 t v) (hLm : laidMet Tryz.prog laidL W) :
    Calls Tryz.prog 5 args W fun e W' => e = .returned (.bool true) ∧ Below W.heap.size W W' := by
  obtain ⟨m, ρ, avs, hR, ha, hlen, hG, _, _, hg, ht⟩ := args_startG (G := Tryz.prog.globals.size) 8 (by kernel_rfl) hA hok
  have h10 : (Rows.laid_internal_strconv_uint64pow10 : DataW Unit) = DataW.agg (pow10L.map fun x => .lit (.int .u64 x)) := by kernel_rfl
  obtain ⟨arr, e', fz, hw, hns⟩ := laid_ints (k := .u64) (ns := pow10L) (g := 0) (t := 323) (e := 161) (N := 20) hLm (n := "internal/strconv.uint64pow10") (by rw [← h10]; exact List.mem_cons_of_mem _ (List.mem_cons_of_mem _ (List.mem_cons_self ..))) (by kernel_rfl) (by kernel_rfl) (by kernel_rfl) (by kernel_rfl) (by kernel_rfl) (by kernel_rfl)
  rw [gSize] at hR
  have hl : avs.length = 1 := by
    rw [hlen]
    have := (trodAll_len hA).1
    simpa using this
  obtain ⟨ρ', m', avs', hR', ha', hC⟩ := row5 hR ha hw hns hl ht
  exact law_calls (G := Tryz.prog.globals.size) (ext := ext) (T := T) (ext_ok _) ext_not ext_sum (tableOk W) mixed (by rw [gSize]; exact hR') ha' T5 hC

set_option maxRecDepth 100000 in
theorem lifted (os : Os) (started : os.Started) (H : Type) (enc : TypeId × Value → H) :
    ReturnsInHanded {} Tryz.checked os 5 .any (fun w args => (Rows.shellPointsSpec.pre enc Tryz.prog Tryz.f5 [] false w args ∧ laidMetH Tryz.prog laidL w) ∧ sizedMet enc Tryz.prog Tryz.f5 (OpenSpec.ofChange Rows.shellPointsSpec) false w args)
      (Rows.shellPointsSpec.post enc Tryz.prog Tryz.f5 false true false false) := by
  refine returnsInHanded_of_change_and (C := Tryz.checked) (X := fun w _ => laidMetH Tryz.prog laidL w) (fun _ _ _ hh h => h.of_heap hh) own started (by kernel_rfl) Tryz.func5
    (ChangeSpec.witness_shaped (enc := enc) (C := Tryz.checked) (os := os) (X := fun w _ => laidMetH Tryz.prog laidL w) false (World.laidAll Tryz.prog os laidL) #[.slice none 0 0] 8 (World.laidAll_os _ _ _)
      (World.shaped_of_ZipB (by kernel_rfl) (by kernel_rfl)) (by kernel_rfl) (by kernel_rfl) (by kernel_rfl)
      (by rw [MakeChecks.laidMetH_plain _ _ _ (by kernel_rfl)]; exact laidMet_laidAll _ (by kernel_rfl) (by kernel_rfl))) ?_
  intro W base args ds gs before hval0 hW _ _ hL _
  have hval : ∀ (j : Nat) t v, Tryz.f5.params[j]? = some t → args[j]? = some v → Value.okWide Tryz.prog W .any base t v := hval0
  have hW' := hW
  obtain ⟨p, q, hA0, hV, rfl, _, _⟩ := hW
  have hA : DataW.TrodAll enc Tryz.prog W 0 (fun _ => true) true Tryz.f5.params.toList args.toList ds p := hA0
  rw [Tryz.params5] at hA hval
  obtain ⟨rfl, rfl⟩ := trodVars_none hV
  have hc := calls hA (fun j t v hj hv => ⟨base, hval j t v (by simpa using hj) (by simpa using hv)⟩) (by rw [← MakeChecks.laidMetH_plain _ _ _ (by kernel_rfl)]; exact hL)
  obtain ⟨d0, rfl⟩ := trodAll_1ds hA
  refine hc.mono fun e W' ⟨he, bel⟩ => ?_
  subst he
  exact ⟨_, rfl, _, _, _, [], _, [], hW', trodAll_mk1 (shut_bool Tryz.underlying4 _), (trodAll_below j1 bel (by kernel_rfl) hA), rfl, bel.frame _, fun h => by cases h⟩

theorem holds : Rows.ShellPointsSaid :=
  OpenClaim.holds_of_wide 5 Tryz.f5 rfl rfl rfl rfl rfl rfl rfl ⟨rfl, rfl, rfl, rfl, rfl⟩ rfl rfl rfl rfl rfl named Tryz.func5 joined inst wrap
    (fun os started H enc _ => lifted os started H enc)
end ShellPoints

theorem shellPoints_card : Rows.ShellPointsCardSaid :=
  Claim7.holds_tied_plain_at .later [] [.data, .data, .data, .data, .sentinel, .sentinel, .pinned] true (true, "7f7ee37e321328c804ed0f057257cfc414b6af93d4dfd1304d36b57ebb3ff431") true ShellPoints.holds (fun _ h => by cases h) ShellPoints.cw (fun _ h => by cases h) shellPoints_row_tie rfl ⟨rfl, rfl⟩ ShellPoints.cm rfl
    (fun f fn hf hfn => by
      obtain rfl : f = 5 := (Option.some.inj (ShellPoints.named.symm.trans hf)).symm
      obtain rfl : fn = Tryz.f5 := (Option.some.inj (Tryz.func5.symm.trans hfn)).symm
      exact ⟨ShellPoints.cl, fun j t ht => by
        rw [Tryz.params5] at ht
        have hm : t ∈ [34] := by simpa using Array.mem_of_getElem? ht
        exact (show Tryz.prog.wantsStandIn t = false by simpa using List.all_eq_true.1 ShellPoints.ct t hm)⟩)
    ShellPoints.cg
#print axioms shellPoints_card

end Go.Proofs.YtjlckbphpmogjaaGreatDoor
