/- The law SayLines: the row's statement, and the card. No condition. -/
import Derived.Test.YtdmoecehmclohaaGreatDoorSlC
import Derived.Test.YtdmoecehmclohaaGreatDoorSlJSayLines
import Derived.Test.YtdmoecehmclohaaGreatDoorSlSLP
import Derived.Test.YtdmoecehmclohaaGreatDoorSlViStart
import Derived.Test.YtdmoecehmclohaaGreatDoorSlViArgC
import Derived.Test.YtdmoecehmclohaaGreatDoorSlViGlob
import Derived.WalkKit
import Derived.ProofKit
import Derived.ShutString
import Derived.ChangeOld
import Derived.Below
import Derived.SizedLaws
import Derived.Lay
import Derived.LaidMore
namespace Go.Proofs.YtdmoecehmclohaaGreatDoor
open Go Go.Vi Go.RowKit
set_option linter.unusedSimpArgs false
set_option linter.unusedVariables false
namespace SayLines
open Go.ChangeShapes Go.WideShapes Go.ChangeAt
def laidL : List (String × DataW Unit) := [("math/bits.deBruijn32tab", Rows.laid_math_bits_deBruijn32tab), ("math/bits.deBruijn64tab", Rows.laid_math_bits_deBruijn64tab), ("internal/strconv.uint64pow10", Rows.laid_internal_strconv_uint64pow10), ("unicode/utf8.acceptRanges", Rows.laid_unicode_utf8_acceptRanges), ("unicode/utf8.first", Rows.laid_unicode_utf8_first)]
theorem own : ownKnob Tryz.prog.godebug = none := by kernel_rfl
def pow10L : List Int := (List.range 20).map fun i : Nat => ((10 ^ i : Nat) : Int)
theorem calls {H : Type} {enc : TypeId × Value → H} {W : World} {args : Array Value} {ds : List (DataW H)} {p : List MemPlace} (hA : DataW.TrodAll enc Tryz.prog W 0 (fun _ => true) true [22, 26, 3, 29] args.toList ds p)
    (hok : ∀ (j : Nat) t v, [22, 26, 3, 29][j]? = some t → args.toList[j]? = some v → ∃ b0, Value.okWide Tryz.prog W .any b0 t v) (hLm : laidMet Tryz.prog laidL W) (hwB : ∀ n ∈ DataW.weightsEach Tryz.prog [22, 26, 3, 29] ds, n ≤ reachBytes) :
    Calls Tryz.prog 3 args W fun e W' => e = .returned (.bool true) ∧ Below W.heap.size W W' := by
  obtain ⟨m, ρ, avs, hR, ha, hlen, hG, _, _, hg, ht⟩ := args_startB (G := Tryz.prog.globals.size) (B := reachBytes) 8 (by kernel_rfl) hA hwB hok
  have h10 : (Rows.laid_internal_strconv_uint64pow10 : DataW Unit) = DataW.agg (pow10L.map fun x => .lit (.int .u64 x)) := by kernel_rfl
  obtain ⟨arr, e', fz, hw, hns⟩ := laid_ints (k := .u64) (ns := pow10L) (g := 0) (t := 232) (e := 177) (N := 20) hLm (n := "internal/strconv.uint64pow10") (by rw [← h10]; exact List.mem_cons_of_mem _ (List.mem_cons_of_mem _ (List.mem_cons_self ..))) (by kernel_rfl) (by kernel_rfl) (by kernel_rfl) (by kernel_rfl) (by kernel_rfl) (by kernel_rfl)
  have hP : P10 m := ⟨false, ⟨1, none⟩, (hg 0 arr e' fz (by rw [gSize]; omega) hw .u64 pow10L hns).trans (by simp only [pow10L, List.map_map]; rfl), by rw [gSize] at hG; omega⟩
  refine law_calls (ext := ext) (T := T) (ext_ok _) ext_not ext_sum (tableOk W) mixed hR ha T3 ?_
  have hl : avs.length = 4 := by
    rw [hlen]
    have := (trodAll_len hA).1
    simpa using this
  exact row3 m hP avs hl (by decide) ht
set_option maxRecDepth 100000 in
theorem lifted (os : Os) (started : os.Started) (H : Type) (enc : TypeId × Value → H) :
    ReturnsInHanded {} Tryz.checked os 3 .any (fun w args => (Rows.sayLinesSpec.pre enc Tryz.prog Tryz.f3 [] false w args ∧ laidMetH Tryz.prog laidL w) ∧ sizedMet enc Tryz.prog Tryz.f3 (OpenSpec.ofChange Rows.sayLinesSpec) false w args)
      (Rows.sayLinesSpec.post enc Tryz.prog Tryz.f3 false true false false) := by
  refine returnsInHanded_of_change_and (C := Tryz.checked) (X := fun w _ => laidMetH Tryz.prog laidL w) (fun _ _ _ hh h => h.of_heap hh) own started (by kernel_rfl) Tryz.func3
    (ChangeSpec.witness_shaped (enc := enc) (C := Tryz.checked) (os := os) (X := fun w _ => laidMetH Tryz.prog laidL w) false (World.laidAll Tryz.prog os laidL) #[.slice none 0 0, .agg #[.slice none 0 0, .int .i64 0, .slice none 0 0], .int .i64 0, .agg #[.int .i64 0, .int .i64 0, .int .i64 0, .int .i64 0, .int .i64 0, .int .i64 0, .int .i64 0, .slice none 0 0]] 8 (World.laidAll_os _ _ _)
      (World.shaped_of_ZipB (by kernel_rfl) (by kernel_rfl)) (by kernel_rfl) (by kernel_rfl) (by kernel_rfl)
      (by rw [MakeChecks.laidMetH_plain _ _ _ (by kernel_rfl)]; exact laidMet_laidAll _ (by kernel_rfl) (by kernel_rfl))) ?_
  intro W base args ds gs before hval0 hW _ hw2 hL _
  have hval : ∀ (j : Nat) t v, Tryz.f3.params[j]? = some t → args[j]? = some v → Value.okWide Tryz.prog W .any base t v := hval0
  have hW' := hW
  obtain ⟨p, q, hA0, hV, rfl, _, _⟩ := hW
  have hA : DataW.TrodAll enc Tryz.prog W 0 (fun _ => true) true Tryz.f3.params.toList args.toList ds p := hA0
  rw [Tryz.params3] at hA hval
  obtain ⟨rfl, rfl⟩ := trodVars_none hV
  have hwB : ∀ n ∈ DataW.weightsEach Tryz.prog [22, 26, 3, 29] ds, n ≤ reachBytes := by
    have hw3 : (DataW.weightsEach Tryz.prog (Tryz.f3.params.toList ++ []) (ds ++ [])).all (· ≤ reachBytes) = true := hw2
    rw [Tryz.params3, List.append_nil, List.append_nil] at hw3
    intro n hn
    exact of_decide_eq_true (List.all_eq_true.1 hw3 n hn)
  have hc := calls hA (fun j t v hj hv => ⟨base, hval j t v (by simpa using hj) (by simpa using hv)⟩) (by rw [← MakeChecks.laidMetH_plain _ _ _ (by kernel_rfl)]; exact hL) hwB
  obtain ⟨d0, d1, d2, d3, rfl⟩ := trodAll_4ds hA
  refine hc.mono fun e W' ⟨he, bel⟩ => ?_
  subst he
  exact ⟨_, rfl, _, _, _, [], _, [], hW', trodAll_mk1 (shut_bool Tryz.underlying4 _), (trodAll_below j1 bel (by kernel_rfl) hA), rfl, bel.frame _, fun h => by cases h⟩
theorem holds : Rows.SayLinesSaid :=
  OpenClaim.holds_of_wide 3 Tryz.f3 rfl rfl rfl rfl rfl rfl rfl ⟨rfl, rfl, rfl, rfl, rfl⟩ rfl rfl rfl rfl rfl named Tryz.func3 joined inst wrap
    (fun os started H enc _ => lifted os started H enc)
end SayLines
theorem sayLines_card : Rows.SayLinesCardSaid :=
  Claim7.holds_tied_plain_at .later [] [.data, .data, .data, .data, .pinned] true (true, "5b977fa5f922f2260014e9dc5733bd8c40d64b094f203d46608318d39ba38faa") false SayLines.holds (fun _ h => by cases h) SayLines.cw (fun _ h => by cases h) sayLines_row_tie rfl ⟨rfl, rfl⟩ SayLines.cm rfl
    (fun f fn hf hfn => by
      obtain rfl : f = 3 := (Option.some.inj (SayLines.named.symm.trans hf)).symm
      obtain rfl : fn = Tryz.f3 := (Option.some.inj (Tryz.func3.symm.trans hfn)).symm
      exact ⟨SayLines.cl, fun j t ht => by
        rw [Tryz.params3] at ht
        have hm : t ∈ [22, 26, 3, 29] := by simpa using Array.mem_of_getElem? ht
        exact (show Tryz.prog.wantsStandIn t = false by simpa using List.all_eq_true.1 SayLines.ct t hm)⟩)
    SayLines.cg
#print axioms sayLines_card
end Go.Proofs.YtdmoecehmclohaaGreatDoor
