/- Commands that add and take away points: which may be, what they do. No condition. -/
import Derived.Test.YtjlckbphpmogjaaGreatDoorSpTX
import Derived.Test.YtjlckbphpmogjaaGreatDoorSpViFx
import Derived.Test.YtjlckbphpmogjaaGreatDoorSpPB
namespace Go.Proofs.YtjlckbphpmogjaaGreatDoor
open Go.Vi
set_option linter.unusedSimpArgs false
set_option linter.unusedVariables false

theorem call86 {m : AMem} (k : Int) (hk : k = 7 ∨ k = 8) : Vi.Call T 86 [.i .i64 k] m (fun v m' => v = (if k = 7 then .tup [.i .i64 2, .i .i64 2] else .tup [.i .i64 1, .i .i64 1]) ∧ m' = m) := by
  refine Vi.Call.ofP T86 (Nat.le_of_ble_eq_true rfl) ?_
  unfold v86
  rcases hk with rfl | rfl
  all_goals
    repeat' (first
      | ((first | refine W_op rfl rfl ?_ | (refine W_opgT rfl rfl ?hg ?_; (case hg => (simp only [upd_at, reduceIte, Nat.reduceEqDiff, Bool.not_true, Bool.not_false]; done)))); simp only [WB, execE, unE, args0, reduceIte, Nat.reduceEqDiff, Nat.reduceAdd, Nat.reduceLeDiff, binE, isShift, intBin, Int.reduceBEq, WO, fillX, splice, Wo_some])
      | (refine W_opgF rfl rfl ?hg ?_; (case hg => (simp only [upd_at, reduceIte, Nat.reduceEqDiff, Bool.not_true, Bool.not_false]; done)))
      | (refine W_opgU rfl ?hg ?_; (case hg => (simp only [upd_at, reduceIte, Nat.reduceEqDiff, Bool.not_true, Bool.not_false]; done)))
      | rw [W_seq] | rw [W_reg] | rw [push_no] | rw [push_yes] | rw [W_onil] | rw [W_skip] | rw [W_blk] | rw [W_b] | refine W_regd0 ?_ | refine W_regd ?_
      | (refine W_callN rfl ?hg ?_; (case hg => (simp only [upd_at, reduceIte, Nat.reduceEqDiff, Bool.not_true, Bool.not_false]; done)))
      | refine W_exit rfl ?_
      | (refine W_opgST rfl rfl ?hg ?h1 ?h2; (case hg => (simp only [WB, execE, unE, args0, reduceIte, Nat.reduceEqDiff, Nat.reduceAdd, Nat.reduceLeDiff, binE, isShift, intBin, Int.reduceBEq, WO, fillX, splice, toB_b]; done)); (all_goals (intro hc; simp only [WB, execE, unE, args0, reduceIte, Nat.reduceEqDiff, Nat.reduceAdd, Nat.reduceLeDiff, binE, isShift, intBin, Int.reduceBEq, WO, fillX, splice, toB_b] at hc; simp only [hc, WB, execE, unE, args0, reduceIte, Nat.reduceEqDiff, Nat.reduceAdd, Nat.reduceLeDiff, binE, isShift, intBin, Int.reduceBEq, WO, fillX, splice, Wo_some])))
      | (refine W_opgSF rfl rfl ?hg ?h1 ?h2; (case hg => (simp only [WB, execE, unE, args0, reduceIte, Nat.reduceEqDiff, Nat.reduceAdd, Nat.reduceLeDiff, binE, isShift, intBin, Int.reduceBEq, WO, fillX, splice, toB_b]; done)); (all_goals (intro hc; simp only [WB, execE, unE, args0, reduceIte, Nat.reduceEqDiff, Nat.reduceAdd, Nat.reduceLeDiff, binE, isShift, intBin, Int.reduceBEq, WO, fillX, splice, toB_b] at hc; simp only [hc, WB, execE, unE, args0, reduceIte, Nat.reduceEqDiff, Nat.reduceAdd, Nat.reduceLeDiff, binE, isShift, intBin, Int.reduceBEq, WO, fillX, splice, Wo_some])))
      | (refine W_cond ?_; simp only [WB, execE, unE, args0, reduceIte, Nat.reduceEqDiff, Nat.reduceAdd, Nat.reduceLeDiff, binE, isShift, intBin, Int.reduceBEq, WO, fillX, splice, WC]; first | (refine WC_split (fun hc => ?_) (fun hc => ?_) <;> (try simp only [hc])) | skip)
      )
    refine W_getRet (by repeat (first | exact hg | exact args0_un (Nat.le_of_ble_eq_true rfl) | refine upd_un ?_ rfl)) ?_
    exact ⟨rfl, _, rfl, rfl, rfl⟩

theorem call132 {m : AMem} : Vi.Call T 132 [] m (fun v m' => v = .sl (some (m.next, 0)) 15 15 true ∧ (∃ c, m'.get m.next = some (.cells c true (1 : Nat)) ∧ c[7]? = some (.s ⟨[97, 100, 100].toArray⟩) ∧ c[8]? = some (.s ⟨[114, 101, 109, 111, 118, 101].toArray⟩)) ∧ Keep m m' []) := by
  refine Vi.Call.ofP T132 (Nat.le_of_ble_eq_true rfl) ?_
  unfold v132
  repeat (first
    | ((first | refine W_op rfl rfl ?_ | (refine W_opgT rfl rfl ?hg ?_; (case hg => (simp only [upd_at, reduceIte, Nat.reduceEqDiff, Bool.not_true, Bool.not_false]; done)))); simp only [WB, execE, unE, args0, reduceIte, Nat.reduceEqDiff, Nat.reduceAdd, Nat.reduceLeDiff, WO, fillX, splice, Wo_some])
    | (refine W_opgF rfl rfl ?hg ?_; (case hg => (simp only [upd_at, reduceIte, Nat.reduceEqDiff, Bool.not_true, Bool.not_false]; done)))
    | (refine W_opgU rfl ?hg ?_; (case hg => (simp only [upd_at, reduceIte, Nat.reduceEqDiff]; done))) | (refine W_callN rfl ?hg ?_; (case hg => (simp only [upd_at, reduceIte, Nat.reduceEqDiff, Bool.not_true, Bool.not_false]; done))) | rw [W_seq] | rw [W_reg] | rw [push_no] | rw [push_yes] | rw [W_onil] | rw [W_skip] | rw [W_blk] | rw [W_b] | refine W_regd0 ?_ | refine W_regd ?_)
  refine W_getRet (by repeat (first | exact hg | exact args0_un (Nat.le_of_ble_eq_true rfl) | refine upd_un ?_ rfl)) ?_
  exact ⟨rfl, _, rfl, rfl, ⟨_, by rw [AMem.get_out, AMem.get_new, if_pos (show m.inn.next = m.next from rfl)], rfl, rfl⟩, ((Keep.new m.inn _).ofInn).out⟩

theorem call87 {m : AMem} (k : Int) (hk : k = 7 ∨ k = 8) : Vi.Call T 87 [.i .i64 k] m (fun v m' => (∃ w : List UInt8, v = .s ⟨w.toArray⟩ ∧ w ≠ []) ∧ Keep m m' []) := by
  refine Vi.Call.ofP T87 (Nat.le_of_ble_eq_true rfl) ?_
  unfold v87
  rcases hk with rfl | rfl
  all_goals
    repeat' (first
      | ((first | refine W_op rfl rfl ?_ | (refine W_opgT rfl rfl ?hg ?_; (case hg => (simp only [upd_at, reduceIte, Nat.reduceEqDiff, Bool.not_true, Bool.not_false]; done)))); simp only [WB, execE, unE, args0, reduceIte, Nat.reduceEqDiff, Nat.reduceAdd, Nat.reduceLeDiff, binE, isShift, intBin, Int.reduceLT, Int.reduceGT, WO, fillX, splice, Wo_some])
      | (refine W_opgF rfl rfl ?hg ?_; (case hg => (simp only [upd_at, reduceIte, Nat.reduceEqDiff, Bool.not_true, Bool.not_false]; done)))
      | (refine W_opgU rfl ?hg ?_; (case hg => (simp only [upd_at, reduceIte, Nat.reduceEqDiff, Bool.not_true, Bool.not_false]; done)))
      | rw [W_seq] | rw [W_reg] | rw [push_no] | rw [push_yes] | rw [W_onil] | rw [W_skip] | rw [W_blk] | rw [W_b] | refine W_regd0 ?_ | refine W_regd ?_
      | (refine W_callN rfl ?hg ?_; (case hg => (simp only [upd_at, reduceIte, Nat.reduceEqDiff, Bool.not_true, Bool.not_false]; done)))
      | refine W_exit rfl ?_
      | (refine W_opgST rfl rfl ?hg ?h1 ?h2; (case hg => (simp only [WB, execE, unE, args0, reduceIte, Nat.reduceEqDiff, Nat.reduceAdd, Nat.reduceLeDiff, binE, isShift, intBin, Int.reduceLT, Int.reduceGT, WO, fillX, splice, toB_b]; done)); (all_goals (intro hc; simp only [WB, execE, unE, args0, reduceIte, Nat.reduceEqDiff, Nat.reduceAdd, Nat.reduceLeDiff, binE, isShift, intBin, Int.reduceLT, Int.reduceGT, WO, fillX, splice, toB_b] at hc; simp only [hc, WB, execE, unE, args0, reduceIte, Nat.reduceEqDiff, Nat.reduceAdd, Nat.reduceLeDiff, binE, isShift, intBin, Int.reduceLT, Int.reduceGT, WO, fillX, splice, Wo_some])))
      | (refine W_opgSF rfl rfl ?hg ?h1 ?h2; (case hg => (simp only [WB, execE, unE, args0, reduceIte, Nat.reduceEqDiff, Nat.reduceAdd, Nat.reduceLeDiff, binE, isShift, intBin, Int.reduceLT, Int.reduceGT, WO, fillX, splice, toB_b]; done)); (all_goals (intro hc; simp only [WB, execE, unE, args0, reduceIte, Nat.reduceEqDiff, Nat.reduceAdd, Nat.reduceLeDiff, binE, isShift, intBin, Int.reduceLT, Int.reduceGT, WO, fillX, splice, toB_b] at hc; simp only [hc, WB, execE, unE, args0, reduceIte, Nat.reduceEqDiff, Nat.reduceAdd, Nat.reduceLeDiff, binE, isShift, intBin, Int.reduceLT, Int.reduceGT, WO, fillX, splice, Wo_some])))
      | (refine W_cond ?_; simp only [WB, execE, unE, args0, reduceIte, Nat.reduceEqDiff, Nat.reduceAdd, Nat.reduceLeDiff, binE, isShift, intBin, Int.reduceLT, Int.reduceGT, WO, fillX, splice, WC]; first | (refine WC_split (fun hc => ?_) (fun hc => ?_) <;> (try simp only [hc])) | skip)
      )
    refine W_callA rfl ?hargs (call132) ?_
    case hargs => simp only [WB, execE, unE, args0, reduceIte, Nat.reduceEqDiff, Nat.reduceAdd, Nat.reduceLeDiff] <;> rfl
    rintro v m1 ⟨rfl, ⟨c, hg, h7, h8⟩, k1⟩ hs1
    have hg' : m1.get m.next = some (.cells c true (1 : Nat)) := hg
    repeat (first
      | ((first | refine W_op rfl rfl ?_ | (refine W_opgT rfl rfl ?hg ?_; (case hg => (simp only [upd_at, reduceIte, Nat.reduceEqDiff, Bool.not_true, Bool.not_false]; done)))); simp only [WB, execE, unE, args0, reduceIte, Nat.reduceEqDiff, Nat.reduceAdd, Nat.reduceLeDiff, Int.reduceLE, Int.reduceLT, Int.reduceToNat, Nat.reduceMul, hg', h7, h8, WO, fillX, splice, Wo_some])
      | (refine W_opgF rfl rfl ?hg ?_; (case hg => (simp only [upd_at, reduceIte, Nat.reduceEqDiff, Bool.not_true, Bool.not_false]; done)))
      | (refine W_opgU rfl ?hg ?_; (case hg => (simp only [upd_at, reduceIte, Nat.reduceEqDiff]; done))) | (refine W_callN rfl ?hg ?_; (case hg => (simp only [upd_at, reduceIte, Nat.reduceEqDiff, Bool.not_true, Bool.not_false]; done))) | rw [W_seq] | rw [W_reg] | rw [push_no] | rw [push_yes] | rw [W_onil] | rw [W_skip] | rw [W_blk] | rw [W_b] | refine W_regd0 ?_ | refine W_regd ?_)
    refine W_getRet (by repeat (first | exact hg | exact args0_un (Nat.le_of_ble_eq_true rfl) | refine upd_un ?_ rfl)) ?_
    exact ⟨hs1.ds, _, rfl, ⟨_, rfl, by simp⟩, (k1.ofInn).out⟩
end Go.Proofs.YtjlckbphpmogjaaGreatDoor
