/- Numbers in decimal digits, in plain Lean. No condition. -/
import Derived.Test.YtfbglgmhhmeoeaaGreatDoorWbViRow2
namespace Go.Vi
set_option linter.unusedSimpArgs false
set_option linter.unusedVariables false
def nd (u : Nat) : Nat := if u < 10 then 1 else nd (u / 10) + 1
termination_by u
decreasing_by omega
end Go.Vi
namespace Go.Vi
open Go.RowKit
set_option linter.unusedSimpArgs false
set_option linter.unusedVariables false
theorem wr_i64 {n : Int} (h1 : -9223372036854775808 ≤ n) (h2 : n ≤ 9223372036854775807) : IntKind.i64.wrap n = n := by
  by_cases h0 : 0 ≤ n
  · have e1 : n % (2 ^ 64 : Int) = n := Int.emod_eq_of_lt h0 (by omega)
    simp only [IntKind.wrap, IntKind.bits, IntKind.signed, e1]
    rw [if_neg]
    simp; omega
  · have e1 : n % (2 ^ 64 : Int) = n + 2 ^ 64 := by omega
    simp only [IntKind.wrap, IntKind.bits, IntKind.signed, e1]
    rw [if_pos]
    · omega
    · simp; omega
theorem wr_u64 {n : Nat} (h : n < 18446744073709551616) : IntKind.u64.wrap (n : Int) = n := by
  have e1 : (n : Int) % (2 ^ 64 : Int) = n := Int.emod_eq_of_lt (by omega) (by omega)
  simp only [IntKind.wrap, IntKind.bits, IntKind.signed, e1]
  simp
theorem wr_u8 {n : Nat} (h : n < 256) : IntKind.u8.wrap (n : Int) = n := by
  have e1 : (n : Int) % (2 ^ 8 : Int) = n := Int.emod_eq_of_lt (by omega) (by omega)
  simp only [IntKind.wrap, IntKind.bits, IntKind.signed, e1]
  simp
theorem bytes_one (l : List UInt8) : (cellsOfBytes l).all AV.one = true := by
  simp [cellsOfBytes, AV.one]
theorem bytes_len (l : List UInt8) : (cellsOfBytes l).length = l.length := by simp [cellsOfBytes]
theorem bytes_app (a b : List UInt8) : cellsOfBytes (a ++ b) = cellsOfBytes a ++ cellsOfBytes b := by simp [cellsOfBytes]
theorem bytesOf_cells : ∀ (l : List UInt8), bytesOfCells (cellsOfBytes l) = some l
  | [] => rfl
  | b :: l => by
    have ih := bytesOf_cells l
    simp only [cellsOfBytes, List.map_cons, bytesOfCells] at ih ⊢
    rw [ih]
    simp
def isSt : VO → Bool
  | .st .. => true
  | _ => false
section
variable {T : Nat → VFn} {nt : Nat} {Q : (Nat → AV) → AMem → Prop} {K : List KI} {g : Nat → AV} {m : AMem}
theorem W_opS {d : Option Nat} {vo : VO} {l : List VOper} {hh : Hist} (hc : vo.isCall = false) (_hb : isSt vo = false) (hd : dOk nt d = true) (h : Wo T nt Q (.o l (hh.push g m) :: K) g d (execE vo (X.at g) m)) : W T nt Q (.o (⟨d, none, vo⟩ :: l) hh :: K) g m := W_op hc hd h
end
end Go.Vi
