/- Texts put together: how long they are at most, found by their form. No condition. -/
import Derived.Test.YtjlckbphpmogjaaGreatDoorSfViAuto
import Derived.Test.YtjlckbphpmogjaaGreatDoorSfViStart
namespace Go.Vi
open Go.RowKit
set_option linter.unusedSimpArgs false
set_option linter.unusedVariables false

class Sm (l : List UInt8) (n : outParam Nat) : Prop where
  le : l.length ≤ n

instance : Sm [] 0 := ⟨Nat.le_refl _⟩
instance {a : UInt8} {l : List UInt8} {n : Nat} [h : Sm l n] : Sm (a :: l) (n + 1) := ⟨Nat.succ_le_succ h.le⟩
instance {a b : List UInt8} {n k : Nat} [h : Sm a n] [h2 : Sm b k] : Sm (a ++ b) (n + k) := ⟨by rw [List.length_append]; exact Nat.add_le_add h.le h2.le⟩

theorem digI_len {x : Int} (h : InI64 x) : (digI x).length ≤ 21 := by
  unfold InI64 at h
  have hk : ∀ u : Nat, u < 18446744073709551616 → (dig u).length ≤ 20 := fun u hu => by
    rw [dig_len]
    by_cases h0 : 0 < u
    · have h1 := nd_le u h0
      refine Nat.le_of_not_lt fun h2 => ?_
      have : 10 ^ 20 ≤ 10 ^ (nd u - 1) := Nat.pow_le_pow_right (by omega) (by omega)
      omega
    · obtain rfl : u = 0 := by omega
      rw [nd_lt (by omega)]; omega
  unfold digI
  split
  · have := hk x.natAbs (by omega)
    simp only [List.length_cons]; omega
  · have := hk x.natAbs (by omega); omega

theorem sm_digI {x : Int} (h : InI64 x) : Sm (digI x) 21 := ⟨digI_len h⟩

theorem strcatI {a b : List UInt8} {n k : Nat} [h : Sm a n] [h2 : Sm b k] (hn : n + k ≤ 4611686018427387904) : strBin .add ⟨a.toArray⟩ ⟨b.toArray⟩ = some (.s ⟨(a ++ b).toArray⟩) :=
  strcat a b (Nat.le_trans (Nat.add_le_add h.le h2.le) hn)

theorem str_size (l : List UInt8) : (⟨l.toArray⟩ : ByteArray).size = l.length := by
  show l.toArray.size = _
  simp

theorem str_eq {a b : List UInt8} : (⟨a.toArray⟩ : ByteArray) = ⟨b.toArray⟩ ↔ a = b := by
  constructor
  · intro h
    have := congrArg (fun x : ByteArray => x.data.toList) h
    simpa using this
  · rintro rfl; rfl
theorem toList_loop (bs : ByteArray) : ∀ (n i : Nat) (r : List UInt8), bs.size - i = n → ByteArray.toList.loop bs i r = r.reverse ++ bs.data.toList.drop i
  | 0, i, r, h => by
    have h1 : bs.data.toList.length = bs.size := rfl
    unfold ByteArray.toList.loop
    rw [if_neg (by omega), List.drop_eq_nil_of_le (by omega)]; simp
  | n + 1, i, r, h => by
    have h1 : bs.data.toList.length = bs.size := rfl
    have hi : i < bs.data.toList.length := by omega
    unfold ByteArray.toList.loop
    rw [if_pos (by omega), toList_loop bs n (i + 1) _ (by omega), List.drop_eq_getElem_cons hi]
    have : bs.get! i = bs.data.toList[i] := by
      show bs.data[i]! = _
      rw [getElem!_pos bs.data i (by simpa using hi)]; simp
    rw [this]; simp

theorem toList_eq (bs : ByteArray) : bs.toList = bs.data.toList := by
  unfold ByteArray.toList
  rw [toList_loop bs _ 0 [] rfl]; simp

theorem eqS (x y : List UInt8) : strBin .eql ⟨x.toArray⟩ ⟨y.toArray⟩ = some (.b (decide (x = y))) := by
  simp only [strBin, toList_eq]
  by_cases h : x = y
  · subst h; simp
  · simp [h]


theorem neS (x y : List UInt8) : strBin .neq ⟨x.toArray⟩ ⟨y.toArray⟩ = some (.b (!decide (x = y))) := by
  have h := eqS x y
  simp only [strBin, Option.some.injEq, AV.b.injEq] at h ⊢
  rw [h]

theorem src_strL {m : AMem} (l : List UInt8) : srcE m 1 (.s ⟨l.toArray⟩) = some (cellsOfBytes l, l.length) := by
  simp only [srcE, if_true, str_size]

def joinL (sep : List UInt8) : List (List UInt8) → List UInt8
  | [] => []
  | a :: r => a ++ r.flatMap fun x => sep ++ x
end Go.Vi
