/- Is a number from one to another one? No condition. -/
import Derived.Test.YtjlckbphpmogjaaGreatDoorSpVT
import Derived.Test.YtjlckbphpmogjaaGreatDoorSpViFx
namespace Go.Proofs.YtjlckbphpmogjaaGreatDoor
open Go.Vi
set_option linter.unusedSimpArgs false
set_option linter.unusedVariables false

theorem call75 {m : AMem} (x a b : Int) : Vi.Call T 75 [.i .i64 x, .i .i64 a, .i .i64 b] m (fun v m' => v = .b (decide (a ≤ x ∧ x ≤ b)) ∧ m' = m) := by
  refine Vi.Call.ofP T75 (Nat.le_of_ble_eq_true rfl) ?_
  unfold v75
  repeat' (first
    | ((first | refine W_op rfl rfl ?_ | (refine W_opgT rfl rfl ?hg ?_; (case hg => (simp only [upd_at, reduceIte, Nat.reduceEqDiff, Bool.not_true, Bool.not_false]; done)))); simp only [WB, execE, unE, args0, reduceIte, Nat.reduceEqDiff, Nat.reduceAdd, Nat.reduceLeDiff, binE, isShift, intBin, WO, fillX, splice, Wo_some])
    | (refine W_opgF rfl rfl ?hg ?_; (case hg => (simp only [upd_at, reduceIte, Nat.reduceEqDiff, Bool.not_true, Bool.not_false]; done)))
    | (refine W_opgU rfl ?hg ?_; (case hg => (simp only [upd_at, reduceIte, Nat.reduceEqDiff, Bool.not_true, Bool.not_false]; done)))
    | rw [W_seq] | rw [W_reg] | rw [push_no] | rw [push_yes] | rw [W_onil] | rw [W_skip] | rw [W_blk] | rw [W_b] | refine W_regd0 ?_ | refine W_regd ?_
    | (refine W_callN rfl ?hg ?_; (case hg => (simp only [upd_at, reduceIte, Nat.reduceEqDiff, Bool.not_true, Bool.not_false]; done)))
    | refine W_exit rfl ?_
    | (refine W_opgST rfl rfl ?hg ?h1 ?h2; (case hg => (simp only [WB, execE, unE, args0, reduceIte, Nat.reduceEqDiff, Nat.reduceAdd, Nat.reduceLeDiff, binE, isShift, intBin, WO, fillX, splice, toB_b]; done)); (all_goals (intro hc; simp only [WB, execE, unE, args0, reduceIte, Nat.reduceEqDiff, Nat.reduceAdd, Nat.reduceLeDiff, binE, isShift, intBin, WO, fillX, splice, toB_b] at hc; simp only [hc, WB, execE, unE, args0, reduceIte, Nat.reduceEqDiff, Nat.reduceAdd, Nat.reduceLeDiff, binE, isShift, intBin, WO, fillX, splice, Wo_some])))
    | (refine W_opgSF rfl rfl ?hg ?h1 ?h2; (case hg => (simp only [WB, execE, unE, args0, reduceIte, Nat.reduceEqDiff, Nat.reduceAdd, Nat.reduceLeDiff, binE, isShift, intBin, WO, fillX, splice, toB_b]; done)); (all_goals (intro hc; simp only [WB, execE, unE, args0, reduceIte, Nat.reduceEqDiff, Nat.reduceAdd, Nat.reduceLeDiff, binE, isShift, intBin, WO, fillX, splice, toB_b] at hc; simp only [hc, WB, execE, unE, args0, reduceIte, Nat.reduceEqDiff, Nat.reduceAdd, Nat.reduceLeDiff, binE, isShift, intBin, WO, fillX, splice, Wo_some])))
    | (refine W_cond ?_; simp only [WB, execE, unE, args0, reduceIte, Nat.reduceEqDiff, Nat.reduceAdd, Nat.reduceLeDiff, binE, isShift, intBin, WO, fillX, splice, WC]; first | (refine WC_split (fun hc => ?_) (fun hc => ?_) <;> (try simp only [hc])) | skip)
    )
  all_goals refine W_getRet (by repeat (first | exact hg | exact args0_un (Nat.le_of_ble_eq_true rfl) | refine upd_un ?_ rfl)) ?_
  all_goals refine ⟨rfl, _, rfl, congrArg AV.b ?_, rfl⟩
  all_goals (rw [Bool.eq_iff_iff]; simp only [decide_eq_true_eq, decide_eq_false_iff_not, Bool.false_eq_true, false_iff, ge_iff_le] at *; omega)

end Go.Proofs.YtjlckbphpmogjaaGreatDoor
