/- The law SayQuotes: the row's statement, and the card. No condition beyond the given statement. -/
import Derived.Test.YtnbdamdcmofafaaGreatDoorQuA
import Derived.Test.YtnbdamdcmofafaaGreatDoorQuJ
import Derived.JoinedOf
import Derived.WalkKit
import Derived.ProofKit
import Derived.OpenShut
import Derived.ShutString
import Derived.ChangeOld
import Derived.Below
import Derived.SizedLaws
import Derived.Lay
import Derived.LaidMore
import Derived.SevenTiedAt
namespace Go.Proofs.YtnbdamdcmofafaaGreatDoor
open Go.Vi Go.RowKit
set_option linter.unusedSimpArgs false
set_option linter.unusedVariables false

theorem ext_ok (E : Env) : ExtOk E Tryz.prog ext := by
  intro f g hf args m v m' hg ρ w args' ha hR
  unfold ext at hf
  split at hf
  · rename_i h161
    subst h161
    simp only [VFn.ext.injEq] at hf; subst hf
    unfold xSame at hg
    split at hg
    · simp only [Option.some.injEq, Prod.mk.injEq] at hg
      obtain ⟨rfl, rfl⟩ := hg
      obtain ⟨v', vs, e, hv, hn⟩ := ha
      simp only [VRL] at hn; subst hn
      obtain rfl : args' = #[v'] := by cases args'; simp_all
      exact ⟨v', ρ, w, by kernel_rfl, hv, hR, Ext.refl _ _⟩
    · simp at hg
  · split at hf
    · simp only [VFn.ext.injEq] at hf; subst hf
      simp [xIndexString] at hg
    · split at hf
      · simp only [VFn.ext.injEq] at hf; subst hf
        simp [xIndexByte] at hg
      · simp at hf

theorem ext_not (f nt : Nat) (res : List VRes) (b : VC) : ext f ≠ .go nt res b := by
  unfold ext
  split
  · simp
  · split
    · simp
    · split <;> simp

/-- A row of bytes, as the argument has it. -/
def IsRow (w : World) (a : Option Addr) (len cap : Nat) (zs : List Int) : Prop :=
  (a = none ∧ len = 0 ∧ cap = 0 ∧ zs = []) ∨
  ∃ x, a = some x ∧ len ≤ cap ∧ cap ≤ maxLen ∧ zs.length = cap ∧ (∀ i, i < zs.length → w.cell? (x.add i) = some (.int .u8 (zs.getD i 0))) ∧ ∀ n ∈ zs, (Lit.int .u8 n).wf = true

/-- How an argument stands in the interpreter's memory, by the number j. -/
theorem arg_bytes {W : World} {a : Option Addr} {len cap : Nat} {zs : List Int} (h : IsRow W a len cap zs) (j : Nat) : ∃ (av : AV) (o : AObj) (tg : Option Tgt) (l : List UInt8), o.wr = false ∧
    (∀ ρ : Rho, ρ j = tg → VR ρ av (.slice a len cap)) ∧ (∀ (E : Env) (ρ : Rho) (t : Tgt), E.B = W.heap.size → tg = some t → ObjAt E ρ W t o) ∧ (∀ m : AMem, j < m.next → m.get j = some o → Bytes m av l) := by
  rcases h with ⟨rfl, rfl, rfl, rfl⟩ | ⟨x, rfl, hl, hm, hz, hc, hw⟩
  · exact ⟨.sl none 0 0 true, .cells [] false ⟨1, none⟩, none, [], rfl, fun ρ _ => by simp [VR], fun _ _ _ _ h => by simp at h, fun m _ _ => ⟨rfl, rfl⟩⟩
  · by_cases h0 : cap = 0
    · subst h0
      obtain rfl : len = 0 := by omega
      exact ⟨.es, .cells [] false ⟨1, none⟩, none, [], rfl, fun ρ _ => ⟨x, 0, rfl⟩, fun _ _ _ _ h => by simp at h, fun m _ _ => rfl⟩
    · have hc0 := hc 0 (by omega)
      obtain ⟨b, o, sp⟩ := x
      have hsp : sp = none := by
        cases sp with
        | none => rfl
        | some s =>
          exfalso
          rw [show (⟨b, o, some s⟩ : Addr).add 0 = ⟨b, o, some s⟩ from rfl] at hc0
          unfold World.cell? at hc0
          split at hc0 <;> simp at hc0
      subst hsp
      have hcell : ∀ i, i < cap → W.cell? ⟨b, o + i, none⟩ = some (.int .u8 (zs.getD i 0)) := fun i hi => by
        have := hc i (by omega)
        rwa [addr_add] at this
      have h1 := hcell 0 (by omega)
      have hb : ∃ arr e fz, W.heap[b]? = some (.cells arr e fz) := by
        unfold World.cell? at h1
        split at h1
        · rename_i arr e fz hh; exact ⟨arr, e, fz, hh⟩
        · simp at h1
      obtain ⟨arr, e, fz, hh⟩ := hb
      have harr : ∀ i, i < cap → arr[o + i]? = some (.int .u8 (zs.getD i 0)) := fun i hi => by
        have := hcell i hi
        simp only [World.cell?, hh] at this
        simpa using this
      have hsize : o + cap ≤ arr.size := by
        have := harr (cap - 1) (by omega)
        have := (Array.getElem?_eq_some_iff.1 this).1
        omega
      have hblk : b < W.heap.size := (Array.getElem?_eq_some_iff.1 hh).1
      have hw8 : ∀ n ∈ zs, ((UInt8.ofNat n.toNat).toNat : Int) = n := fun n hn => by
        have := hw n hn
        simp only [Lit.wf, IntKind.min, IntKind.max, IntKind.signed, IntKind.bits] at this
        simp at this
        rw [UInt8.toNat_ofNat']
        have : n.toNat % 2 ^ 8 = n.toNat := Nat.mod_eq_of_lt (by omega)
        omega
      refine ⟨.sl (some (j, 0)) len cap true, .cells (zs.map fun n => .i .u8 n) false ⟨1, none⟩, some ⟨b, o, 0⟩, (zs.take len).map fun n => UInt8.ofNat n.toNat, rfl, fun ρ hρ => ⟨_, hρ, by simp⟩, fun E ρ t hE ht => ?_, fun m hj hg => ?_⟩
      · simp only [Option.some.injEq] at ht; subst ht
        refine ⟨by simpa [hE] using hblk, arr, e, fz, hh, by simp [hz]; omega, fun k q hk => ?_, fun h => by simp at h, nofun⟩
        rw [List.getElem?_map] at hk
        obtain ⟨n, hn, rfl⟩ := Option.map_eq_some_iff.1 hk
        have hkl := (List.getElem?_eq_some_iff.1 hn).1
        refine ⟨rfl, _, harr k (by omega), ?_⟩
        rw [List.getD_eq_getElem?_getD, hn]
        exact VR.mkI _ _
      · refine ⟨by simp; omega, hj, _, _, _, hg, by simp; omega, ?_⟩
        simp only [List.drop_zero, cellsOfBytes, List.map_map, ← List.map_take]
        refine List.map_congr_left fun n hn => ?_
        simp only [Function.comp]
        rw [hw8 n (List.mem_of_mem_take hn)]

theorem gSize : Tryz.prog.globals.size = 6 := by kernel_rfl
theorem mixed : Tryz.prog.follows .mixedOrders = true := by kernel_rfl

theorem law10_calls {W : World} {a0 a1 : Option Addr} {len0 cap0 len1 cap1 : Nat} {z0 z1 : List Int} (h0 : IsRow W a0 len0 cap0 z0) (h1 : IsRow W a1 len1 cap1 z1) :
    Calls Tryz.prog 10 #[.slice a0 len0 cap0, .slice a1 len1 cap1] W fun e W' => e = .returned (.bool true) ∧ Below W.heap.size W W' := by
  obtain ⟨av0, o0, t0, l0, w0, v0, ob0, by0⟩ := arg_bytes h0 6
  obtain ⟨av1, o1, t1, l1, w1, v1, ob1, by1⟩ := arg_bytes h1 7
  have r6 : rho0 Tryz.prog.globals.size (fun j => if j = 6 then t0 else if j = 7 then t1 else none) 6 = t0 := by simp [rho0]
  have r7 : rho0 Tryz.prog.globals.size (fun j => if j = 6 then t0 else if j = 7 then t1 else none) 7 = t1 := by simp [rho0]
  have hR := rep_start Tryz.prog W Tryz.prog.globals.size 8 (by rw [gSize]; decide) (fun j => if j = 6 then t0 else if j = 7 then t1 else none) (fun j hj => (if_neg (by omega)).trans (if_neg (by omega))) [(6, o0), (7, o1)] (by
    intro q hq
    simp only [List.mem_cons, List.not_mem_nil, or_false] at hq
    rcases hq with rfl | rfl
    · exact ⟨(by decide : 6 < 8), w0, fun t ht => ob0 _ _ t rfl (by rw [r6] at ht; exact ht)⟩
    · exact ⟨(by decide : 7 < 8), w1, fun t ht => ob1 _ _ t rfl (by rw [r7] at ht; exact ht)⟩)
  have g6 : (mkM 8 [(6, o0), (7, o1)]).get 6 = some o0 := by simp [mkM, AMem.get_put]
  have g7 : (mkM 8 [(6, o0), (7, o1)]).get 7 = some o1 := by simp [mkM, AMem.get_put]
  have hA : VRL (rho0 Tryz.prog.globals.size fun j => if j = 6 then t0 else if j = 7 then t1 else none) [av0, av1] (#[.slice a0 len0 cap0, .slice a1 len1 cap1] : Array Value).toList := by
    show VRL _ [av0, av1] [.slice a0 len0 cap0, .slice a1 len1 cap1]
    simp only [VRL]
    exact ⟨_, _, rfl, v0 _ r6, _, _, rfl, v1 _ r7, rfl⟩
  refine law_calls (ext := ext) (T := T) (ext_ok _) ext_not T_ok mixed hR hA T10 ?_
  refine law10 (la := l0) (lb := l1) ?_ (by0 _ (by simp) g6) (by1 _ (by simp) g7)
  show Vi.Call T 29 [] (mkM 8 [(6, o0), (7, o1)]) _
  exact (call29 o0 o1).mono fun v m' ⟨q1, q2, q3, q4⟩ => ⟨q1, by0 _ (by omega) q2, by1 _ (by omega) q3⟩

namespace SayQ
open Go.ChangeShapes Go.WideShapes Go.ChangeAt
def laid5 : List (String × DataW Unit) := [("math/bits.deBruijn32tab", Rows.laid_math_bits_deBruijn32tab), ("math/bits.deBruijn64tab", Rows.laid_math_bits_deBruijn64tab), ("internal/strconv.uint64pow10", Rows.laid_internal_strconv_uint64pow10), ("unicode/utf8.acceptRanges", Rows.laid_unicode_utf8_acceptRanges), ("unicode/utf8.first", Rows.laid_unicode_utf8_first)]
theorem own : ownKnob Tryz.prog.godebug = none := by kernel_rfl
theorem laidOut : laidOutB Tryz.prog = true := by kernel_rfl

theorem row_of {W : World} {H : Type} {enc : TypeId × Value → H} {t e : TypeId} {spare : Nat → Bool} {held : Bool} {a : Option Addr} {len cap : Nat} {x : DataW H × List MemPlace} (ht : Tryz.prog.underlying t = some (.slice e)) (he : Tryz.prog.underlying e = some (.int .u8)) (hc : Tryz.prog.cellsOf e = 1) (hs : ∀ b, spare b = true)
    (h : ∃ fuel, DataW.trod enc Tryz.prog W 0 spare held fuel t (Value.slice a len cap).cells.toList = some x) : ∃ zs, IsRow W a len cap zs := by
  obtain ⟨fuel, hf⟩ := h
  rcases open_ints ht he hc hf with ⟨hcs, _⟩ | ⟨y, l, c, zs, hcs, _, hl, hm, hz, _, hcell, hwz⟩
  · simp [Value.cells] at hcs
    obtain ⟨rfl, rfl, rfl⟩ := hcs
    exact ⟨[], .inl ⟨rfl, rfl, rfl, rfl⟩⟩
  · simp [Value.cells] at hcs
    obtain ⟨rfl, rfl, rfl⟩ := hcs
    exact ⟨zs, .inr ⟨_, rfl, hl, hm, by simpa [hs] using hz, hcell, hwz⟩⟩

set_option maxRecDepth 100000 in
theorem lifted (os : Os) (started : os.Started) (H : Type) (enc : TypeId × Value → H) :
    ReturnsInHanded {} Tryz.checked os 10 .any (fun w args => (Rows.sayQuotesSpec.pre enc Tryz.prog Tryz.f10 [] false w args ∧ laidMetH Tryz.prog laid5 w) ∧ sizedMet enc Tryz.prog Tryz.f10 (OpenSpec.ofChange Rows.sayQuotesSpec) false w args)
      (Rows.sayQuotesSpec.post enc Tryz.prog Tryz.f10 false true false false) := by
  refine returnsInHanded_of_change_and (C := Tryz.checked) (X := fun w _ => laidMetH Tryz.prog laid5 w) (fun _ _ _ hh h => h.of_heap hh) own started (by kernel_rfl) Tryz.func10
    (ChangeSpec.witness_shaped (enc := enc) (C := Tryz.checked) (os := os) (X := fun w _ => laidMetH Tryz.prog laid5 w) false (World.laidAll Tryz.prog os laid5) #[.slice none 0 0, .slice none 0 0] 8 (World.laidAll_os _ _ _)
      (World.shaped_of_ZipB (by kernel_rfl) (by kernel_rfl)) (by kernel_rfl) (by kernel_rfl) (by kernel_rfl)
      (by rw [MakeChecks.laidMetH_plain _ _ _ (by kernel_rfl)]; exact laidMet_laidAll _ (by kernel_rfl) (by kernel_rfl))) ?_
  intro W base args ds gs before hval0 hW _ _ hL _
  have hval : ∀ (j : Nat) t v, Tryz.f10.params[j]? = some t → args[j]? = some v → Value.okWide Tryz.prog W .any base t v := hval0
  have hW' := hW
  obtain ⟨p, q, hA0, hV, rfl, _, _⟩ := hW
  have hA : DataW.TrodAll enc Tryz.prog W 0 (fun _ => true) true Tryz.f10.params.toList args.toList ds p := hA0
  rw [Tryz.params10] at hA hval
  obtain ⟨x0, vs0, d0, ds0, p0, q0, hargs, rfl, rfl, k0, r0⟩ := trodAll_cons hA
  obtain ⟨x1, vs1, d1, ds1, p1, q1, rfl, rfl, rfl, k1, r1⟩ := trodAll_cons r0
  obtain ⟨rfl, rfl, rfl⟩ := trodAll_nil r1
  obtain rfl : args = #[x0, x1] := by cases args; simp_all
  obtain ⟨rfl, rfl⟩ := trodVars_none hV
  obtain ⟨a0, len0, cap0, rfl⟩ := okWide_slice Tryz.underlying27 (hval 0 27 x0 rfl rfl)
  obtain ⟨a1, len1, cap1, rfl⟩ := okWide_slice Tryz.underlying27 (hval 1 27 x1 rfl rfl)
  have lt0 : ∀ x ∈ p0, x.block < W.heap.size := by obtain ⟨n, hn⟩ := k0; exact DataW.trod_lt n _ _ _ hn
  have lt1 : ∀ x ∈ p1, x.block < W.heap.size := by obtain ⟨n, hn⟩ := k1; exact DataW.trod_lt n _ _ _ hn
  obtain ⟨z0, w0⟩ := row_of Tryz.underlying27 Tryz.underlying5 (by kernel_rfl) (fun _ => rfl) k0
  obtain ⟨z1, w1⟩ := row_of Tryz.underlying27 Tryz.underlying5 (by kernel_rfl) (fun _ => rfl) k1
  clear hA0 hval0
  refine (law10_calls w0 w1).mono fun e W' ⟨he, bel⟩ => ?_
  subst he
  exact ⟨_, rfl, _, _, _, [], _, [], hW', trodAll_mk1 (shut_bool Tryz.underlying4 _), (trodAll_cons_mk (Below.trod laidOut (by kernel_rfl) (of_decide_eq_true (by kernel_rfl)) k0 bel lt0) (trodAll_cons_mk (Below.trod laidOut (by kernel_rfl) (of_decide_eq_true (by kernel_rfl)) k1 bel lt1) trodAll_mk0)), rfl, bel.frame _, fun h => by cases h⟩

theorem holds : Rows.SayQuotesSaid :=
  OpenClaim.holds_of_wide 10 Tryz.f10 rfl rfl rfl rfl rfl rfl rfl ⟨rfl, rfl, rfl, rfl, rfl⟩ rfl rfl rfl rfl rfl named10 Tryz.func10 joined inst10 wrap10
    (fun os started H enc _ => lifted os started H enc)
end SayQ

theorem sayQuotes_card : Rows.SayQuotesCardSaid :=
  Claim7.holds_tied_plain_at .later [] [.data, .data, .data, .data, .pinned] true (true, "614878c383fc0b3bfce015e5c90b1705f8d5bde7ee6db2a312f27ec85d6ce15e") false SayQ.holds (fun _ h => by cases h) SayQ.cw10 (fun _ h => by cases h) sayQuotes_row_tie rfl ⟨rfl, rfl⟩ SayQ.cm10 rfl
    (fun f fn hf hfn => by
      obtain rfl : f = 10 := (Option.some.inj (SayQ.named10.symm.trans hf)).symm
      obtain rfl : fn = Tryz.f10 := (Option.some.inj (Tryz.func10.symm.trans hfn)).symm
      exact ⟨SayQ.cl10, fun j t ht => by
        rw [Tryz.params10] at ht
        have hm : t ∈ [27, 27] := by simpa using Array.mem_of_getElem? ht
        exact (show Tryz.prog.wantsStandIn t = false by simpa using List.all_eq_true.1 SayQ.ct10 t hm)⟩)
    SayQ.cg10
#print axioms sayQuotes_card

end Go.Proofs.YtnbdamdcmofafaaGreatDoor
