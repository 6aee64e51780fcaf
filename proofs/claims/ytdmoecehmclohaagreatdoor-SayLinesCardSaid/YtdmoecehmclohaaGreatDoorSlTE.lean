/- What happens, as a word. No condition. -/
import Derived.Test.YtdmoecehmclohaaGreatDoorSlViNode
import Derived.Test.YtdmoecehmclohaaGreatDoorSlE
namespace Go.Proofs.YtdmoecehmclohaaGreatDoor
open Go.Vi
set_option linter.unusedSimpArgs false
set_option linter.unusedVariables false
def enames : List (List UInt8) := [[], [98, 101, 103, 105, 110], [115, 116, 101, 112], [109, 105, 115, 115], [104, 101, 108, 100], [116, 117, 114, 110], [102, 111, 114, 107], [97, 103, 97, 105, 110], [111, 112, 101, 110], [99, 108, 111, 115, 101], [105, 110, 116, 111], [111, 117, 116], [100, 114, 111, 112], [109, 97, 116, 99, 104], [110, 111, 110, 101]]
def eName (k : Int) : List UInt8 := enames.getD k.toNat []
theorem getD_len {L : List (List UInt8)} {n : Nat} (h : ∀ l ∈ L, l.length ≤ n) (i : Nat) : (L.getD i []).length ≤ n := by
  rw [List.getD_eq_getElem?_getD]
  cases hi : L[i]? with
  | none => simp
  | some l => exact h l (List.mem_of_getElem? hi)
theorem eName_len (k : Int) : (eName k).length ≤ 5 := getD_len (by decide) _
theorem getD_out {L : List (List UInt8)} {k : Int} (h0 : L.getD 0 [] = []) (h : k < 1 ∨ (L.length : Int) ≤ k) : L.getD k.toNat [] = [] := by
  rcases h with h | h
  · rw [show k.toNat = 0 by omega]; exact h0
  · rw [List.getD_eq_getElem?_getD, List.getElem?_eq_none (by omega)]; rfl
set_option maxHeartbeats 4000000 in
theorem call16 {m : AMem} (k : Int) : Vi.Call T 16 [.i .i64 k] m (fun v m' => v = .s ⟨(eName k).toArray⟩ ∧ Keep m m' []) := by
  refine Vi.Call.ofP T16 (Nat.le_of_ble_eq_true rfl) ?_
  unfold v16
  by_cases hk : 1 ≤ k ∧ k ≤ 14
  · have hk' : k = 1 ∨ k = 2 ∨ k = 3 ∨ k = 4 ∨ k = 5 ∨ k = 6 ∨ k = 7 ∨ k = 8 ∨ k = 9 ∨ k = 10 ∨ k = 11 ∨ k = 12 ∨ k = 13 ∨ k = 14 := by omega
    clear hk
    rcases hk' with rfl | rfl | rfl | rfl | rfl | rfl | rfl | rfl | rfl | rfl | rfl | rfl | rfl | rfl
    all_goals
      repeat (first
        | ((first | refine W_op rfl rfl ?_ | (refine W_opgT rfl rfl ?hg ?_; (case hg => (simp only [WG, reduceIte, Nat.reduceEqDiff]; done)))); simp only [WB, execE, unE, args0, reduceIte, Nat.reduceEqDiff, Nat.reduceAdd, Nat.reduceLeDiff, binE, isShift, intBin, Int.reduceLT, Int.reduceGT, WO, fillX, splice, Wo_some])
        | (refine W_opgF rfl rfl ?hg ?_; (case hg => (simp only [WG, reduceIte, Nat.reduceEqDiff]; done)))
        | (refine W_opgU rfl ?hg ?_; (case hg => (simp only [upd_at, reduceIte, Nat.reduceEqDiff]; done))) | (refine W_callN rfl ?hg ?_; (case hg => (simp only [WG, reduceIte, Nat.reduceEqDiff]; done))) | rw [W_seq] | rw [W_reg] | rw [push_no] | rw [push_yes] | rw [W_onil] | rw [W_skip] | rw [W_blk] | rw [W_b] | refine W_regd0 ?_ | refine W_regd ?_)
      refine W_cond ?_
      simp only [WB, execE, unE, args0, reduceIte, Nat.reduceEqDiff, Nat.reduceAdd, Nat.reduceLeDiff, WC]
      repeat (first
        | ((first | refine W_op rfl rfl ?_ | (refine W_opgT rfl rfl ?hg ?_; (case hg => (simp only [WG, reduceIte, Nat.reduceEqDiff]; done)))); simp only [WB, execE, unE, args0, reduceIte, Nat.reduceEqDiff, Nat.reduceAdd, Nat.reduceLeDiff, Int.reduceLE, Int.reduceLT, Int.reduceToNat, Nat.reduceMul, WO, fillX, splice, Wo_some])
        | (refine W_opgF rfl rfl ?hg ?_; (case hg => (simp only [WG, reduceIte, Nat.reduceEqDiff]; done)))
        | (refine W_opgU rfl ?hg ?_; (case hg => (simp only [upd_at, reduceIte, Nat.reduceEqDiff]; done))) | (refine W_callN rfl ?hg ?_; (case hg => (simp only [WG, reduceIte, Nat.reduceEqDiff]; done))) | rw [W_seq] | rw [W_reg] | rw [push_no] | rw [push_yes] | rw [W_onil] | rw [W_skip] | rw [W_blk] | rw [W_b] | refine W_regd0 ?_ | refine W_regd ?_)
      refine W_getRet (by repeat (first | exact hg | exact args0_un (Nat.le_of_ble_eq_true rfl) | refine upd_un ?_ rfl)) ?_
      exact ⟨rfl, _, rfl, rfl, Keep.np _ _ _ _⟩
  · have e : eName k = [] := getD_out rfl (by simp only [enames, List.length_cons, List.length_nil]; omega)
    rw [e]
    by_cases h1 : k < 1
    · have c1 : decide (k < 1) = true := decide_eq_true h1
      repeat (first
        | ((first | refine W_op rfl rfl ?_ | (refine W_opgT rfl rfl ?hg ?_; (case hg => (simp only [WG, reduceIte, Nat.reduceEqDiff]; done)))); simp only [WB, execE, unE, args0, reduceIte, Nat.reduceEqDiff, Nat.reduceAdd, Nat.reduceLeDiff, binE, isShift, intBin, c1, WO, fillX, splice, Wo_some])
        | (refine W_opgF rfl rfl ?hg ?_; (case hg => (simp only [WG, reduceIte, Nat.reduceEqDiff]; done)))
        | (refine W_opgU rfl ?hg ?_; (case hg => (simp only [upd_at, reduceIte, Nat.reduceEqDiff]; done))) | (refine W_callN rfl ?hg ?_; (case hg => (simp only [WG, reduceIte, Nat.reduceEqDiff]; done))) | rw [W_seq] | rw [W_reg] | rw [push_no] | rw [push_yes] | rw [W_onil] | rw [W_skip] | rw [W_blk] | rw [W_b] | refine W_regd0 ?_ | refine W_regd ?_)
      refine W_cond ?_
      simp only [WB, execE, unE, args0, reduceIte, Nat.reduceEqDiff, Nat.reduceAdd, Nat.reduceLeDiff, WC]
      repeat (first
        | ((first | refine W_op rfl rfl ?_ | (refine W_opgT rfl rfl ?hg ?_; (case hg => (simp only [WG, reduceIte, Nat.reduceEqDiff]; done)))); simp only [WB, execE, unE, args0, reduceIte, Nat.reduceEqDiff, Nat.reduceAdd, Nat.reduceLeDiff, WO, fillX, splice, Wo_some])
        | (refine W_opgF rfl rfl ?hg ?_; (case hg => (simp only [WG, reduceIte, Nat.reduceEqDiff]; done)))
        | (refine W_opgU rfl ?hg ?_; (case hg => (simp only [upd_at, reduceIte, Nat.reduceEqDiff]; done))) | (refine W_callN rfl ?hg ?_; (case hg => (simp only [WG, reduceIte, Nat.reduceEqDiff]; done))) | rw [W_seq] | rw [W_reg] | rw [push_no] | rw [push_yes] | rw [W_onil] | rw [W_skip] | rw [W_blk] | rw [W_b] | refine W_regd0 ?_ | refine W_regd ?_)
      refine W_getRet (by repeat (first | exact hg | exact args0_un (Nat.le_of_ble_eq_true rfl) | refine upd_un ?_ rfl)) ?_
      exact ⟨rfl, _, rfl, rfl, Keep.np _ _ _ _⟩
    · have c1 : decide (k < 1) = false := decide_eq_false h1
      have c2 : decide (k > 14) = true := decide_eq_true (by omega)
      repeat (first
        | ((first | refine W_op rfl rfl ?_ | (refine W_opgT rfl rfl ?hg ?_; (case hg => (simp only [WG, reduceIte, Nat.reduceEqDiff]; done)))); simp only [WB, execE, unE, args0, reduceIte, Nat.reduceEqDiff, Nat.reduceAdd, Nat.reduceLeDiff, binE, isShift, intBin, c1, c2, WO, fillX, splice, Wo_some])
        | (refine W_opgF rfl rfl ?hg ?_; (case hg => (simp only [WG, reduceIte, Nat.reduceEqDiff]; done)))
        | (refine W_opgU rfl ?hg ?_; (case hg => (simp only [upd_at, reduceIte, Nat.reduceEqDiff]; done))) | (refine W_callN rfl ?hg ?_; (case hg => (simp only [WG, reduceIte, Nat.reduceEqDiff]; done))) | rw [W_seq] | rw [W_reg] | rw [push_no] | rw [push_yes] | rw [W_onil] | rw [W_skip] | rw [W_blk] | rw [W_b] | refine W_regd0 ?_ | refine W_regd ?_)
      refine W_cond ?_
      simp only [WB, execE, unE, args0, reduceIte, Nat.reduceEqDiff, Nat.reduceAdd, Nat.reduceLeDiff, WC]
      repeat (first
        | ((first | refine W_op rfl rfl ?_ | (refine W_opgT rfl rfl ?hg ?_; (case hg => (simp only [WG, reduceIte, Nat.reduceEqDiff]; done)))); simp only [WB, execE, unE, args0, reduceIte, Nat.reduceEqDiff, Nat.reduceAdd, Nat.reduceLeDiff, WO, fillX, splice, Wo_some])
        | (refine W_opgF rfl rfl ?hg ?_; (case hg => (simp only [WG, reduceIte, Nat.reduceEqDiff]; done)))
        | (refine W_opgU rfl ?hg ?_; (case hg => (simp only [upd_at, reduceIte, Nat.reduceEqDiff]; done))) | (refine W_callN rfl ?hg ?_; (case hg => (simp only [WG, reduceIte, Nat.reduceEqDiff]; done))) | rw [W_seq] | rw [W_reg] | rw [push_no] | rw [push_yes] | rw [W_onil] | rw [W_skip] | rw [W_blk] | rw [W_b] | refine W_regd0 ?_ | refine W_regd ?_)
      refine W_getRet (by repeat (first | exact hg | exact args0_un (Nat.le_of_ble_eq_true rfl) | refine upd_un ?_ rfl)) ?_
      exact ⟨rfl, _, rfl, rfl, Keep.np _ _ _ _⟩
end Go.Proofs.YtdmoecehmclohaaGreatDoor
