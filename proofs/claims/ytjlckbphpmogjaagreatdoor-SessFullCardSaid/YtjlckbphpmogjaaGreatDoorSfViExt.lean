/- Functions without a text, as the interpreter has them; and tables of functions. No condition. -/
import Derived.Test.YtjlckbphpmogjaaGreatDoorSfViLaw
namespace Go.Vi
open Go.RowKit
set_option linter.unusedSimpArgs false
set_option linter.unusedVariables false

def xSame : List AV → AMem → Option (AV × AMem)
  | [v], m => some (v, m)
  | _, _ => none

def xIndexByte : List AV → AMem → Option (AV × AMem) := fun _ _ => none

def xIndexString : List AV → AMem → Option (AV × AMem) := fun _ _ => none

def AllOk (P : Program) (G : Nat) (ext : Nat → VFn) : Nat → List VFn → Prop
  | _, [] => True
  | i, x :: l => (x = .none ∨ x = fnOf P G ext i) ∧ AllOk P G ext (i + 1) l

theorem AllOk.get {P : Program} {G : Nat} {ext : Nat → VFn} : ∀ {i : Nat} {l : List VFn}, AllOk P G ext i l → ∀ k, l.getD k .none = .none ∨ l.getD k .none = fnOf P G ext (i + k)
  | _, [], _, _ => .inl rfl
  | i, x :: l, h, 0 => h.1
  | i, x :: l, h, k + 1 => by
    have := AllOk.get h.2 k
    rw [show i + (k + 1) = i + 1 + k by omega]
    exact this

end Go.Vi
