/- A law's argument, a row of pairs of numbers, in a memory whose objects' numbers are known. No condition. -/
import Derived.Test.YtdmoecehmclohaaGreatDoorSlViGlob
import Derived.Test.YtdmoecehmclohaaGreatDoorSlViRows
import Derived.Test.YtdmoecehmclohaaGreatDoorSlViRow2
namespace Go.Vi
open Go.RowKit Go.WideShapes
set_option linter.unusedSimpArgs false
set_option linter.unusedVariables false
def AV.num : AV → Bool
  | .i _ _ => true
  | _ => false
def flat2 (L : List (Int × Int)) : List AV := L.flatMap fun p => [.i .i64 p.1, .i .i64 p.2]
theorem flat2_app (a b : List (Int × Int)) : flat2 (a ++ b) = flat2 a ++ flat2 b := by simp [flat2]
theorem flat2_drop : ∀ (i : Nat) (L : List (Int × Int)), (flat2 L).drop (i * 2) = flat2 (L.drop i)
  | 0, L => by simp
  | i + 1, [] => by simp [flat2]
  | i + 1, p :: L => by
    have e : flat2 (p :: L) = AV.i .i64 p.1 :: AV.i .i64 p.2 :: flat2 L := rfl
    rw [e, show (i + 1) * 2 = i * 2 + 1 + 1 by omega, List.drop_succ_cons, List.drop_succ_cons, flat2_drop i L]
    rfl
theorem flat2_at {L : List (Int × Int)} {i : Nat} {p : Int × Int} (h : L[i]? = some p) : ((flat2 L).drop (i * 2)).take 2 = [.i .i64 p.1, .i .i64 p.2] := by
  obtain ⟨hi, rfl⟩ := List.getElem?_eq_some_iff.1 h
  rw [flat2_drop, List.drop_eq_getElem_cons hi]
  rfl
def InI64 (x : Int) : Prop := -9223372036854775808 ≤ x ∧ x ≤ 9223372036854775807
theorem inI64_wf {x : Int} (h : (Lit.int .i64 x).wf = true) : InI64 x := by
  simp only [Lit.wf, IntKind.min, IntKind.max, IntKind.signed, IntKind.bits, Bool.and_eq_true, decide_eq_true_eq] at h
  unfold InI64
  simp at h
  omega
end Go.Vi
