/- The law WholeBytes: the row's statement, and the card. No condition. -/
import Derived.Test.YtfbglgmhhmeoeaaGreatDoorWbC
import Derived.Test.YtfbglgmhhmeoeaaGreatDoorWbJWholeBytes
import Derived.Test.YtfbglgmhhmeoeaaGreatDoorWbWY
import Derived.Test.YtfbglgmhhmeoeaaGreatDoorWbViStart
import Derived.Test.YtfbglgmhhmeoeaaGreatDoorWbViGlob
import Derived.WalkKit
import Derived.ProofKit
import Derived.ShutString
import Derived.ChangeOld
import Derived.Below
import Derived.SizedLaws
import Derived.Lay
import Derived.LaidMore
namespace Go.Proofs.YtfbglgmhhmeoeaaGreatDoor
open Go Go.Vi Go.RowKit
set_option linter.unusedSimpArgs false
set_option linter.unusedVariables false
namespace WholeBytes
open Go.ChangeShapes Go.WideShapes Go.ChangeAt
def laidL : List (String × DataW Unit) := [("math/bits.deBruijn32tab", Rows.laid_math_bits_deBruijn32tab), ("math/bits.deBruijn64tab", Rows.laid_math_bits_deBruijn64tab), ("internal/strconv.uint64pow10", Rows.laid_internal_strconv_uint64pow10), ("unicode/utf8.acceptRanges", Rows.laid_unicode_utf8_acceptRanges), ("strconv.ErrRange", Rows.laid_strconv_ErrRange), ("strconv.ErrSyntax", Rows.laid_strconv_ErrSyntax), ("unicode/utf8.first", Rows.laid_unicode_utf8_first)]
theorem own : ownKnob Tryz.prog.godebug = none := by kernel_rfl
theorem calls {H : Type} {enc : TypeId × Value → H} {W : World} {args : Array Value} {ds : List (DataW H)} {p : List MemPlace} (hA : DataW.TrodAll enc Tryz.prog W 0 (fun _ => true) true [22] args.toList ds p)
  (hok : ∀ (j : Nat) t v, [22][j]? = some t → args.toList[j]? = some v → ∃ b0, Value.okWide Tryz.prog W .any b0 t v) :
  Calls Tryz.prog 3 args W fun e W' => e = .returned (.bool true) ∧ Below W.heap.size W W' := by
 obtain ⟨m, ρ, avs, hR, ha, hlen, _, _, _, ht⟩ := args_start (G := Tryz.prog.globals.size) 8 (by kernel_rfl) hA hok
 refine law_calls (ext := ext) (T := T) (ext_ok _) ext_not ext_sum (tableOk W) mixed hR ha T3 ?_
 have hl : avs.length = 1 := by
  rw [hlen]
  have := (trodAll_len hA).1
  simpa using this
 exact row3 m avs hl ht
set_option maxRecDepth 100000 in
theorem lifted (os : Os) (started : os.Started) (H : Type) (enc : TypeId × Value → H) :
  ReturnsInHanded {} Tryz.checked os 3 .any (fun w args => (Rows.wholeBytesSpec.pre enc Tryz.prog Tryz.f3 [] false w args ∧ laidMetH Tryz.prog laidL w) ∧ sizedMet enc Tryz.prog Tryz.f3 (OpenSpec.ofChange Rows.wholeBytesSpec) false w args)
   (Rows.wholeBytesSpec.post enc Tryz.prog Tryz.f3 false true false false) := by
 refine returnsInHanded_of_change_and (C := Tryz.checked) (X := fun w _ => laidMetH Tryz.prog laidL w) (fun _ _ _ hh h => h.of_heap hh) own started (by kernel_rfl) Tryz.func3
  (ChangeSpec.witness_shaped (enc := enc) (C := Tryz.checked) (os := os) (X := fun w _ => laidMetH Tryz.prog laidL w) false (World.laidAll Tryz.prog os laidL) #[.slice none 0 0] 8 (World.laidAll_os _ _ _)
    (World.shaped_of_ZipB (by kernel_rfl) (by kernel_rfl)) (by kernel_rfl) (by kernel_rfl) (by kernel_rfl)
    (by rw [MakeChecks.laidMetH_plain _ _ _ (by kernel_rfl)]; exact laidMet_laidAll _ (by kernel_rfl) (by kernel_rfl))) ?_
 intro W base args ds gs before hval0 hW _ _ hL _
 have hval : ∀ (j : Nat) t v, Tryz.f3.params[j]? = some t → args[j]? = some v → Value.okWide Tryz.prog W .any base t v := hval0
 have hW' := hW
 obtain ⟨p, q, hA0, hV, rfl, _, _⟩ := hW
 have hA : DataW.TrodAll enc Tryz.prog W 0 (fun _ => true) true Tryz.f3.params.toList args.toList ds p := hA0
 rw [Tryz.params3] at hA hval
 obtain ⟨rfl, rfl⟩ := trodVars_none hV
 have hc := calls hA (fun j t v hj hv => ⟨base, hval j t v (by simpa using hj) (by simpa using hv)⟩)
 obtain ⟨d0, rfl⟩ := trodAll_1ds hA
 refine hc.mono fun e W' ⟨he, bel⟩ => ?_
 subst he
 exact ⟨_, rfl, _, _, _, [], _, [], hW', trodAll_mk1 (shut_bool Tryz.underlying4 _), (trodAll_below j1 bel (by kernel_rfl) hA), rfl, bel.frame _, fun h => by cases h⟩
theorem holds : Rows.WholeBytesSaid :=
 OpenClaim.holds_of_wide 3 Tryz.f3 rfl rfl rfl rfl rfl rfl rfl ⟨rfl, rfl, rfl, rfl, rfl⟩ rfl rfl rfl rfl rfl named Tryz.func3 joined inst wrap
  (fun os started H enc _ => lifted os started H enc)
end WholeBytes
theorem wholeBytes_card : Rows.WholeBytesCardSaid :=
 Claim7.holds_tied_plain_at .later [] [.data, .data, .data, .data, .sentinel, .sentinel, .pinned] true (true, "a1244351b0fd149c08a69a46153a5ced76ffdd840130163004bd6a3e95db99fb") true WholeBytes.holds (fun _ h => by cases h) WholeBytes.cw (fun _ h => by cases h) wholeBytes_row_tie rfl ⟨rfl, rfl⟩ WholeBytes.cm rfl
  (fun f fn hf hfn => by
    obtain rfl : f = 3 := (Option.some.inj (WholeBytes.named.symm.trans hf)).symm
    obtain rfl : fn = Tryz.f3 := (Option.some.inj (Tryz.func3.symm.trans hfn)).symm
    exact ⟨WholeBytes.cl, fun j t ht => by
     rw [Tryz.params3] at ht
     have hm : t ∈ [22] := by simpa using Array.mem_of_getElem? ht
     exact (show Tryz.prog.wantsStandIn t = false by simpa using List.all_eq_true.1 WholeBytes.ct t hm)⟩)
  WholeBytes.cg
#print axioms wholeBytes_card
end Go.Proofs.YtfbglgmhhmeoeaaGreatDoor
