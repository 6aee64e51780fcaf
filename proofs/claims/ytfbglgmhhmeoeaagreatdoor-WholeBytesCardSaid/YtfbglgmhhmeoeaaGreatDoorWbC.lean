/- What holds of the functions without a text, and of the laws' examples. No condition. -/
import Derived.Test.YtfbglgmhhmeoeaaGreatDoorWbN29
import Derived.Test.YtfbglgmhhmeoeaaGreatDoorWbViExt3
namespace Go.Proofs.YtfbglgmhhmeoeaaGreatDoor
open Go Go.Vi Go.RowKit
set_option linter.unusedSimpArgs false
set_option linter.unusedVariables false
theorem ext_ok (E : Env) : ExtOk E Tryz.prog ext := by
 intro f g hf args m v m' hg ρ w args' ha hR
 unfold ext at hf
 repeat' split at hf
 all_goals first
  | (simp at hf; done)
  | (simp only [VFn.ext.injEq] at hf; subst hf; simp [xIndexString] at hg; done)
  | (simp only [VFn.ext.injEq] at hf; subst hf; simp [xIndexByte] at hg; done)
  | (rename_i h161
     subst h161
     simp only [VFn.ext.injEq] at hf; subst hf
     unfold xSame at hg
     split at hg
     ·simp only [Option.some.injEq, Prod.mk.injEq] at hg
      obtain ⟨rfl, rfl⟩ := hg
      obtain ⟨v', vs, e, hv, hn⟩ := ha
      simp only [VRL] at hn; subst hn
      obtain rfl : args' = #[v'] := by cases args'; simp_all
      exact ⟨v', ρ, w, by kernel_rfl, hv, hR, Ext.refl _ _⟩
     ·simp at hg)
  | (rename_i hmz
     subst hmz
     simp only [VFn.ext.injEq] at hf; subst hf
     unfold xMakeNoZero at hg
     split at hg
     ·rename_i n
      split at hg
      ·rename_i hh
       simp only [Option.some.injEq, Prod.mk.injEq] at hg
       obtain ⟨rfl, rfl⟩ := hg
       obtain ⟨v', vs, e, hv, hn⟩ := ha
       simp only [VRL] at hn; subst hn
       obtain rfl : args' = #[v'] := by cases args'; simp_all
       simp only [VR] at hv; subst hv
       obtain ⟨u, ρ', w', h1, h2, h3, h4⟩ := noZero_sound (P := Tryz.prog) #[3] 22 (by kernel_rfl) hh.1 hh.2 hR
       refine ⟨u, ρ', w', ?_, h2, h3, h4⟩
       have e : (callFunc 338 #[.int .i64 n]).run Tryz.prog w = ((Extern.BytealgMakeNoZero.makeNoZero #[3] #[22] #[.int .i64 n]).run Tryz.prog w).andThen fun v w' => .ok (.value v) w' := callFunc_ext Tryz.func338 (by decide +kernel) rfl (by kernel_rfl) (by kernel_rfl)
       rw [e, h1]
       rfl
      ·simp at hg
     ·simp at hg)
  | (rename_i hfb
     subst hfb
     simp only [VFn.ext.injEq] at hf; subst hf
     unfold xFindByte at hg
     split at hg
     ·rename_i x n
      simp only [Option.some.injEq, Prod.mk.injEq] at hg
      obtain ⟨rfl, rfl⟩ := hg
      obtain ⟨v1, vs1, e1, hv1, v2, vs2, e2, hv2, hn⟩ := ha
      simp only [VRL] at hn; subst hn; subst e2
      obtain rfl : args' = #[v1, v2] := by cases args'; simp_all
      simp only [VR] at hv1 hv2; subst hv1; subst hv2
      have e : (callFunc 121 #[.string x, .int .u8 n]).run Tryz.prog w = ((Extern.BytealgIndexByte.indexByte #[.string x, .int .u8 n]).run Tryz.prog w).andThen fun v w' => .ok (.value v) w' := callFunc_ext Tryz.func121 (by decide +kernel) rfl (by kernel_rfl) (by kernel_rfl)
      exact ⟨.int .i64 (findByte x n.toNat.toUInt8), ρ, w, by rw [e, findByte_run]; rfl, rfl, hR, Ext.refl _ _⟩
     ·simp at hg)
theorem ext_not (f nt : Nat) (res : List VRes) (b : VC) : ext f ≠ .go nt res b := by
 unfold ext
 repeat' split
 all_goals simp
theorem ext_sum (f : Nat) (g : List AV → AMem → Option (AV × AMem)) : ext f ≠ .sum g := by
 unfold ext
 repeat' split
 all_goals simp
theorem gSize : Tryz.prog.globals.size = 8 := by kernel_rfl
theorem mixed : Tryz.prog.follows .mixedOrders = true := by kernel_rfl
theorem anc_eq : anc = fun args m => match args with | [] => some (.b true, m) | _ => none := by
 funext args m
 cases args <;> rfl
theorem sum4 (W : World) : SumOk (envOf Tryz.prog Tryz.prog.globals.size W) Tryz.prog 4 anc := by
 obtain ⟨⟨v, m'⟩, h1, h2⟩ := Option.map_eq_some_iff.1 run4
 simp only at h2
 subst h2
 rw [anc_eq]
 refine sum_of_run (T0 := T0) (n := 2000) (m0' := m') (fun w => ext_ok _) ext_not ext_sum T0_ok mixed T0_4 ?_
 rw [gSize]
 exact callK_sound 2000 _ _ _ _ h1
theorem tableOk (W : World) (f : Nat) : T f = .none ∨ T f = fnOf Tryz.prog Tryz.prog.globals.size ext f ∨ ∃ g, T f = .sum g ∧ SumOk (envOf Tryz.prog Tryz.prog.globals.size W) Tryz.prog f g := by
 rcases T_ok (Q := fun f => SumOk (envOf Tryz.prog Tryz.prog.globals.size W) Tryz.prog f anc) (by exact sum4 W) f with h | h | ⟨g, h, rfl, hq⟩
 ·exact .inl h
 ·exact .inr (.inl h)
 ·exact .inr (.inr ⟨_, h, hq⟩)
end Go.Proofs.YtfbglgmhhmeoeaaGreatDoor
