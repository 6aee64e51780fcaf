/- What holds of the functions without a text, and of the laws' examples. No condition. -/
import Derived.Test.YtjlckbphpmogjaaGreatDoorSfN23
import Derived.Test.YtjlckbphpmogjaaGreatDoorSfViExt2
namespace Go.Proofs.YtjlckbphpmogjaaGreatDoor
open Go Go.Vi Go.RowKit
set_option linter.unusedSimpArgs false
set_option linter.unusedVariables false

theorem ext_ok (E : Env) : ExtOk E Tryz.prog ext := by
  intro f g hf args m v m' hg ρ w args' ha hR
  unfold ext at hf
  repeat' split at hf
  all_goals first
    | (simp at hf; done)
    | (simp only [VFn.ext.injEq] at hf; subst hf; simp [xIndexString] at hg; done)
    | (simp only [VFn.ext.injEq] at hf; subst hf; simp [xIndexByte] at hg; done)
    | (rename_i h161
       subst h161
       simp only [VFn.ext.injEq] at hf; subst hf
       unfold xSame at hg
       split at hg
       · simp only [Option.some.injEq, Prod.mk.injEq] at hg
         obtain ⟨rfl, rfl⟩ := hg
         obtain ⟨v', vs, e, hv, hn⟩ := ha
         simp only [VRL] at hn; subst hn
         obtain rfl : args' = #[v'] := by cases args'; simp_all
         exact ⟨v', ρ, w, by kernel_rfl, hv, hR, Ext.refl _ _⟩
       · simp at hg)

theorem ext_not (f nt : Nat) (res : List VRes) (b : VC) : ext f ≠ .go nt res b := by
  unfold ext
  repeat' split
  all_goals simp

theorem ext_sum (f : Nat) (g : List AV → AMem → Option (AV × AMem)) : ext f ≠ .sum g := by
  unfold ext
  repeat' split
  all_goals simp

theorem gSize : Tryz.prog.globals.size = 8 := by kernel_rfl
theorem mixed : Tryz.prog.follows .mixedOrders = true := by kernel_rfl
theorem anc_eq : anc = fun args m => match args with | [] => some (.b true, m) | _ => none := by
  funext args m
  cases args <;> rfl

theorem sum7 (W : World) : SumOk (envOf Tryz.prog Tryz.prog.globals.size W) Tryz.prog 7 anc := by
  obtain ⟨⟨v, m'⟩, h1, h2⟩ := Option.map_eq_some_iff.1 run7
  simp only at h2
  subst h2
  rw [anc_eq]
  refine sum_of_run (T0 := T0) (n := 2000) (m0' := m') (fun w => ext_ok _) ext_not ext_sum T0_ok mixed T0_7 ?_
  rw [gSize]
  exact callK_sound 2000 _ _ _ _ h1

theorem tableOk (W : World) (f : Nat) : T f = .none ∨ T f = fnOf Tryz.prog Tryz.prog.globals.size ext f ∨ ∃ g, T f = .sum g ∧ SumOk (envOf Tryz.prog Tryz.prog.globals.size W) Tryz.prog f g := by
  rcases T_ok (Q := fun f => SumOk (envOf Tryz.prog Tryz.prog.globals.size W) Tryz.prog f anc) (by exact sum7 W) f with h | h | ⟨g, h, rfl, hq⟩
  · exact .inl h
  · exact .inr (.inl h)
  · exact .inr (.inr ⟨_, h, hq⟩)

end Go.Proofs.YtjlckbphpmogjaaGreatDoor
