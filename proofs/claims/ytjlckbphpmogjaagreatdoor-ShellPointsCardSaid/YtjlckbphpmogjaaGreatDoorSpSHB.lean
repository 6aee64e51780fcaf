/- A point is taken away. No condition. -/
import Derived.Test.YtjlckbphpmogjaaGreatDoorSpSHA
import Derived.Test.YtjlckbphpmogjaaGreatDoorSpViFx
namespace Go.Proofs.YtjlckbphpmogjaaGreatDoor
open Go.Vi
set_option linter.unusedSimpArgs false
set_option linter.unusedVariables false

def prC (w a : Int) : Bool := decide (pWord w ≠ [] ∧ 0 ≤ a ∧ a ≤ 2147483647)

theorem call45a {m : AMem} (w a : Int) : Vi.Call T 45 [.agg [.i .i64 7, .i .i64 0, .i .i64 w, .i .i64 a]] m (fun v m' => v = .b (prC w a) ∧ Keep m m' []) := by
  refine Vi.Call.ofP T45 (Nat.le_of_ble_eq_true rfl) ?_
  unfold v45
  repeat (first | rw [W_seq] | rw [W_reg] | rw [push_no] | rw [push_yes] | rw [W_onil] | rw [W_skip] | rw [W_blk] | rw [W_b] | refine W_regd0 ?_ | refine W_regd ?_)
  refine W_op rfl rfl ?_
  simp only [WB, execE, unE, args0, reduceIte, Nat.reduceEqDiff, Nat.reduceAdd, Nat.reduceLeDiff, WO, fillX, splice, Wo_some]
  repeat (first | rw [push_no] | rw [push_yes] | rw [W_onil])
  obtain ⟨mB, hmB, kB, bB, gB, dB, _, nB⟩ := mk_new m.inn [.i .i64 7, .i .i64 0, .i .i64 w, .i .i64 a] true (4 : Nat) 4 rfl
  have kB' : Keep m mB [] := kB.ofInn
  have g0 : mB.get m.next = some (.cells [.i .i64 7, .i .i64 0, .i .i64 w, .i .i64 a] true (4 : Nat)) := gB
  have n0 : m.next < mB.next := nB
  rw [← hmB]
  clear hmB
  repeat (first
    | ((first | refine W_op rfl rfl ?_ | (refine W_opgT rfl rfl ?hg ?_; (case hg => (simp only [upd_at, reduceIte, Nat.reduceEqDiff, Bool.not_true, Bool.not_false]; done)))); simp only [WB, execE, unE, args0, reduceIte, Nat.reduceEqDiff, Nat.reduceAdd, Nat.reduceLeDiff, g0, WO, fillX, splice, Wo_some])
    | (refine W_opgF rfl rfl ?hg ?_; (case hg => (simp only [upd_at, reduceIte, Nat.reduceEqDiff, Bool.not_true, Bool.not_false]; done)))
    | (refine W_opgU rfl ?hg ?_; (case hg => (simp only [upd_at, reduceIte, Nat.reduceEqDiff]; done))) | (refine W_callN rfl ?hg ?_; (case hg => (simp only [upd_at, reduceIte, Nat.reduceEqDiff, Bool.not_true, Bool.not_false]; done))) | rw [W_seq] | rw [W_reg] | rw [push_no] | rw [push_yes] | rw [W_onil] | rw [W_skip] | rw [W_blk] | rw [W_b] | refine W_regd0 ?_ | refine W_regd ?_)
  refine W_callA rfl ?hargs (call86 7 (.inl rfl)) ?_
  case hargs => simp only [WB, execE, unE, args0, reduceIte, Nat.reduceEqDiff, Nat.reduceAdd, Nat.reduceLeDiff] <;> rfl
  rintro v m1 ⟨rfl, rfl⟩ hs1
  repeat (first
    | ((first | refine W_op rfl rfl ?_ | (refine W_opgT rfl rfl ?hg ?_; (case hg => (simp only [upd_at, reduceIte, Nat.reduceEqDiff, Bool.not_true, Bool.not_false]; done)))); simp only [WB, execE, unE, args0, reduceIte, Nat.reduceEqDiff, Nat.reduceAdd, Nat.reduceLeDiff, g0, if_pos, WO, fillX, splice, Wo_some])
    | (refine W_opgF rfl rfl ?hg ?_; (case hg => (simp only [upd_at, reduceIte, Nat.reduceEqDiff, Bool.not_true, Bool.not_false]; done)))
    | (refine W_opgU rfl ?hg ?_; (case hg => (simp only [upd_at, reduceIte, Nat.reduceEqDiff]; done))) | (refine W_callN rfl ?hg ?_; (case hg => (simp only [upd_at, reduceIte, Nat.reduceEqDiff, Bool.not_true, Bool.not_false]; done))) | rw [W_seq] | rw [W_reg] | rw [push_no] | rw [push_yes] | rw [W_onil] | rw [W_skip] | rw [W_blk] | rw [W_b] | refine W_regd0 ?_ | refine W_regd ?_)
  refine W_callA rfl ?hargs (call87 7 (.inl rfl)) ?_
  case hargs => simp only [WB, execE, unE, args0, reduceIte, Nat.reduceEqDiff, Nat.reduceAdd, Nat.reduceLeDiff] <;> rfl
  rintro v m2 ⟨⟨wn, rfl, hwn⟩, k2⟩ hs2
  have g2 := k2.at n0 (by simp) g0
  have n2 : m.next < m2.next := Nat.lt_of_lt_of_le n0 k2.next
  have he1 : strBin .eql ⟨wn.toArray⟩ ⟨([] : List UInt8).toArray⟩ = some (.b false) := by
    rw [eqS]; simp [hwn]
  repeat (first
    | ((first | refine W_op rfl rfl ?_ | (refine W_opgT rfl rfl ?hg ?_; (case hg => (simp only [upd_at, reduceIte, Nat.reduceEqDiff, Bool.not_true, Bool.not_false]; done)))); simp only [WB, execE, unE, args0, reduceIte, Nat.reduceEqDiff, Nat.reduceAdd, Nat.reduceLeDiff, he1, binE, isShift, WO, fillX, splice, Wo_some])
    | (refine W_opgF rfl rfl ?hg ?_; (case hg => (simp only [upd_at, reduceIte, Nat.reduceEqDiff, Bool.not_true, Bool.not_false]; done)))
    | (refine W_opgU rfl ?hg ?_; (case hg => (simp only [upd_at, reduceIte, Nat.reduceEqDiff]; done))) | (refine W_callN rfl ?hg ?_; (case hg => (simp only [upd_at, reduceIte, Nat.reduceEqDiff, Bool.not_true, Bool.not_false]; done))) | rw [W_seq] | rw [W_reg] | rw [push_no] | rw [push_yes] | rw [W_onil] | rw [W_skip] | rw [W_blk] | rw [W_b] | refine W_regd0 ?_ | refine W_regd ?_)
  refine W_cond ?_
  simp only [WB, execE, unE, args0, reduceIte, Nat.reduceEqDiff, Nat.reduceAdd, Nat.reduceLeDiff, WC]
  repeat (first
    | ((first | refine W_op rfl rfl ?_ | (refine W_opgT rfl rfl ?hg ?_; (case hg => (simp only [upd_at, reduceIte, Nat.reduceEqDiff, Bool.not_true, Bool.not_false]; done)))); simp only [WB, execE, unE, args0, reduceIte, Nat.reduceEqDiff, Nat.reduceAdd, Nat.reduceLeDiff, g2, binE, isShift, intBin, Int.reduceBEq, WO, fillX, splice, Wo_some])
    | (refine W_opgF rfl rfl ?hg ?_; (case hg => (simp only [upd_at, reduceIte, Nat.reduceEqDiff, Bool.not_true, Bool.not_false]; done)))
    | (refine W_opgU rfl ?hg ?_; (case hg => (simp only [upd_at, reduceIte, Nat.reduceEqDiff]; done))) | (refine W_callN rfl ?hg ?_; (case hg => (simp only [upd_at, reduceIte, Nat.reduceEqDiff, Bool.not_true, Bool.not_false]; done))) | rw [W_seq] | rw [W_reg] | rw [push_no] | rw [push_yes] | rw [W_onil] | rw [W_skip] | rw [W_blk] | rw [W_b] | refine W_regd0 ?_ | refine W_regd ?_)
  refine W_cond ?_
  simp only [WB, execE, unE, args0, reduceIte, Nat.reduceEqDiff, Nat.reduceAdd, Nat.reduceLeDiff, WC]
  repeat (first
    | ((first | refine W_op rfl rfl ?_ | (refine W_opgT rfl rfl ?hg ?_; (case hg => (simp only [upd_at, reduceIte, Nat.reduceEqDiff, Bool.not_true, Bool.not_false]; done)))); simp only [WB, execE, unE, args0, reduceIte, Nat.reduceEqDiff, Nat.reduceAdd, Nat.reduceLeDiff, g2, binE, isShift, intBin, Int.reduceBEq, WO, fillX, splice, Wo_some])
    | (refine W_opgF rfl rfl ?hg ?_; (case hg => (simp only [upd_at, reduceIte, Nat.reduceEqDiff, Bool.not_true, Bool.not_false]; done)))
    | (refine W_opgU rfl ?hg ?_; (case hg => (simp only [upd_at, reduceIte, Nat.reduceEqDiff]; done))) | (refine W_callN rfl ?hg ?_; (case hg => (simp only [upd_at, reduceIte, Nat.reduceEqDiff, Bool.not_true, Bool.not_false]; done))) | rw [W_seq] | rw [W_reg] | rw [push_no] | rw [push_yes] | rw [W_onil] | rw [W_skip] | rw [W_blk] | rw [W_b] | refine W_regd0 ?_ | refine W_regd ?_)
  refine W_callK rfl ?hg ?hargs (call39 w) ?_
  case hg => (simp only [WB, execE, unE, args0, reduceIte, Nat.reduceEqDiff, Nat.reduceAdd, Nat.reduceLeDiff, WO, fillX, splice]; done)
  case hargs => simp only [WB, execE, unE, args0, reduceIte, Nat.reduceEqDiff, Nat.reduceAdd, Nat.reduceLeDiff, WO, fillX, splice] <;> rfl
  rintro v m3 ⟨rfl, k3⟩ hs3
  have g3 := k3.at n2 (by simp) g2
  have hne := neS (pWord w) []
  have kk : Keep m m3 [] := (kB'.trans k2 (by simp)).trans k3 (by simp)
  have dd : m3.ds = [] := hs3.ds.trans (hs2.ds.trans dB)
  cases e1 : decide (pWord w = [])
  · cases e2 : decide (a ≥ 0)
    · skip
      repeat (first
        | ((first | refine W_op rfl rfl ?_ | (refine W_opgT rfl rfl ?hg ?_; (case hg => (simp only [upd_at, reduceIte, Nat.reduceEqDiff, Bool.not_true, Bool.not_false]; done)))); simp only [WB, execE, unE, args0, reduceIte, Nat.reduceEqDiff, Nat.reduceAdd, Nat.reduceLeDiff, g3, hne, e1, e2, binE, isShift, intBin, WO, fillX, splice, Wo_some])
        | (refine W_opgF rfl rfl ?hg ?_; (case hg => (simp only [upd_at, reduceIte, Nat.reduceEqDiff, Bool.not_true, Bool.not_false]; done)))
        | (refine W_opgU rfl ?hg ?_; (case hg => (simp only [upd_at, reduceIte, Nat.reduceEqDiff]; done))) | (refine W_callN rfl ?hg ?_; (case hg => (simp only [upd_at, reduceIte, Nat.reduceEqDiff, Bool.not_true, Bool.not_false]; done))) | rw [W_seq] | rw [W_reg] | rw [push_no] | rw [push_yes] | rw [W_onil] | rw [W_skip] | rw [W_blk] | rw [W_b] | refine W_regd0 ?_ | refine W_regd ?_)
      refine W_getRet (by repeat (first | exact hg | exact args0_un (Nat.le_of_ble_eq_true rfl) | refine upd_un ?_ rfl)) ?_
      refine ⟨dd, _, rfl, congrArg AV.b ?_, kk.out⟩
      symm
      exact decide_eq_false (fun h => of_decide_eq_false e2 h.2.1)
    · cases e3 : decide (a ≤ 2147483647)
      · skip
        repeat (first
          | ((first | refine W_op rfl rfl ?_ | (refine W_opgT rfl rfl ?hg ?_; (case hg => (simp only [upd_at, reduceIte, Nat.reduceEqDiff, Bool.not_true, Bool.not_false]; done)))); simp only [WB, execE, unE, args0, reduceIte, Nat.reduceEqDiff, Nat.reduceAdd, Nat.reduceLeDiff, g3, hne, e1, e2, e3, binE, isShift, intBin, WO, fillX, splice, Wo_some])
          | (refine W_opgF rfl rfl ?hg ?_; (case hg => (simp only [upd_at, reduceIte, Nat.reduceEqDiff, Bool.not_true, Bool.not_false]; done)))
          | (refine W_opgU rfl ?hg ?_; (case hg => (simp only [upd_at, reduceIte, Nat.reduceEqDiff]; done))) | (refine W_callN rfl ?hg ?_; (case hg => (simp only [upd_at, reduceIte, Nat.reduceEqDiff, Bool.not_true, Bool.not_false]; done))) | rw [W_seq] | rw [W_reg] | rw [push_no] | rw [push_yes] | rw [W_onil] | rw [W_skip] | rw [W_blk] | rw [W_b] | refine W_regd0 ?_ | refine W_regd ?_)
        refine W_getRet (by repeat (first | exact hg | exact args0_un (Nat.le_of_ble_eq_true rfl) | refine upd_un ?_ rfl)) ?_
        refine ⟨dd, _, rfl, congrArg AV.b ?_, kk.out⟩
        symm
        exact decide_eq_false (fun h => of_decide_eq_false e3 h.2.2)
      · skip
        repeat (first
          | ((first | refine W_op rfl rfl ?_ | (refine W_opgT rfl rfl ?hg ?_; (case hg => (simp only [upd_at, reduceIte, Nat.reduceEqDiff, Bool.not_true, Bool.not_false]; done)))); simp only [WB, execE, unE, args0, reduceIte, Nat.reduceEqDiff, Nat.reduceAdd, Nat.reduceLeDiff, g3, hne, e1, e2, e3, binE, isShift, intBin, WO, fillX, splice, Wo_some])
          | (refine W_opgF rfl rfl ?hg ?_; (case hg => (simp only [upd_at, reduceIte, Nat.reduceEqDiff, Bool.not_true, Bool.not_false]; done)))
          | (refine W_opgU rfl ?hg ?_; (case hg => (simp only [upd_at, reduceIte, Nat.reduceEqDiff]; done))) | (refine W_callN rfl ?hg ?_; (case hg => (simp only [upd_at, reduceIte, Nat.reduceEqDiff, Bool.not_true, Bool.not_false]; done))) | rw [W_seq] | rw [W_reg] | rw [push_no] | rw [push_yes] | rw [W_onil] | rw [W_skip] | rw [W_blk] | rw [W_b] | refine W_regd0 ?_ | refine W_regd ?_)
        refine W_getRet (by repeat (first | exact hg | exact args0_un (Nat.le_of_ble_eq_true rfl) | refine upd_un ?_ rfl)) ?_
        refine ⟨dd, _, rfl, congrArg AV.b ?_, kk.out⟩
        symm
        exact decide_eq_true ⟨of_decide_eq_false e1, of_decide_eq_true e2, of_decide_eq_true e3⟩
  · skip
    repeat (first
      | ((first | refine W_op rfl rfl ?_ | (refine W_opgT rfl rfl ?hg ?_; (case hg => (simp only [upd_at, reduceIte, Nat.reduceEqDiff, Bool.not_true, Bool.not_false]; done)))); simp only [WB, execE, unE, args0, reduceIte, Nat.reduceEqDiff, Nat.reduceAdd, Nat.reduceLeDiff, g3, hne, e1, binE, isShift, intBin, WO, fillX, splice, Wo_some])
      | (refine W_opgF rfl rfl ?hg ?_; (case hg => (simp only [upd_at, reduceIte, Nat.reduceEqDiff, Bool.not_true, Bool.not_false]; done)))
      | (refine W_opgU rfl ?hg ?_; (case hg => (simp only [upd_at, reduceIte, Nat.reduceEqDiff]; done))) | (refine W_callN rfl ?hg ?_; (case hg => (simp only [upd_at, reduceIte, Nat.reduceEqDiff, Bool.not_true, Bool.not_false]; done))) | rw [W_seq] | rw [W_reg] | rw [push_no] | rw [push_yes] | rw [W_onil] | rw [W_skip] | rw [W_blk] | rw [W_b] | refine W_regd0 ?_ | refine W_regd ?_)
    refine W_getRet (by repeat (first | exact hg | exact args0_un (Nat.le_of_ble_eq_true rfl) | refine upd_un ?_ rfl)) ?_
    refine ⟨dd, _, rfl, congrArg AV.b ?_, kk.out⟩
    symm
    exact decide_eq_false (fun h => h.1 (of_decide_eq_true e1))

theorem eqC2z : eqCells [.i .i64 0, .i .i64 0] [.i .i64 0, .i .i64 0] [(0, .i), (1, .i)] = some true := rfl

theorem call45r {m : AMem} : Vi.Call T 45 [.agg [.i .i64 8, .i .i64 0, .i .i64 0, .i .i64 0]] m (fun v m' => v = .b true ∧ Keep m m' []) := by
  refine Vi.Call.ofP T45 (Nat.le_of_ble_eq_true rfl) ?_
  unfold v45
  repeat (first | rw [W_seq] | rw [W_reg] | rw [push_no] | rw [push_yes] | rw [W_onil] | rw [W_skip] | rw [W_blk] | rw [W_b] | refine W_regd0 ?_ | refine W_regd ?_)
  refine W_op rfl rfl ?_
  simp only [WB, execE, unE, args0, reduceIte, Nat.reduceEqDiff, Nat.reduceAdd, Nat.reduceLeDiff, WO, fillX, splice, Wo_some]
  repeat (first | rw [push_no] | rw [push_yes] | rw [W_onil])
  obtain ⟨mB, hmB, kB, bB, gB, dB, _, nB⟩ := mk_new m.inn [.i .i64 8, .i .i64 0, .i .i64 0, .i .i64 0] true (4 : Nat) 4 rfl
  have kB' : Keep m mB [] := kB.ofInn
  have g0 : mB.get m.next = some (.cells [.i .i64 8, .i .i64 0, .i .i64 0, .i .i64 0] true (4 : Nat)) := gB
  have n0 : m.next < mB.next := nB
  rw [← hmB]
  clear hmB
  repeat (first
    | ((first | refine W_op rfl rfl ?_ | (refine W_opgT rfl rfl ?hg ?_; (case hg => (simp only [upd_at, reduceIte, Nat.reduceEqDiff, Bool.not_true, Bool.not_false]; done)))); simp only [WB, execE, unE, args0, reduceIte, Nat.reduceEqDiff, Nat.reduceAdd, Nat.reduceLeDiff, g0, WO, fillX, splice, Wo_some])
    | (refine W_opgF rfl rfl ?hg ?_; (case hg => (simp only [upd_at, reduceIte, Nat.reduceEqDiff, Bool.not_true, Bool.not_false]; done)))
    | (refine W_opgU rfl ?hg ?_; (case hg => (simp only [upd_at, reduceIte, Nat.reduceEqDiff]; done))) | (refine W_callN rfl ?hg ?_; (case hg => (simp only [upd_at, reduceIte, Nat.reduceEqDiff, Bool.not_true, Bool.not_false]; done))) | rw [W_seq] | rw [W_reg] | rw [push_no] | rw [push_yes] | rw [W_onil] | rw [W_skip] | rw [W_blk] | rw [W_b] | refine W_regd0 ?_ | refine W_regd ?_)
  refine W_callA rfl ?hargs (call86 8 (.inr rfl)) ?_
  case hargs => simp only [WB, execE, unE, args0, reduceIte, Nat.reduceEqDiff, Nat.reduceAdd, Nat.reduceLeDiff] <;> rfl
  rintro v m1 ⟨rfl, rfl⟩ hs1
  have hif : (if (8 : Int) = 7 then AV.tup [.i .i64 2, .i .i64 2] else AV.tup [.i .i64 1, .i .i64 1]) = .tup [.i .i64 1, .i .i64 1] := rfl
  try rw [hif]
  repeat (first
    | ((first | refine W_op rfl rfl ?_ | (refine W_opgT rfl rfl ?hg ?_; (case hg => (simp only [upd_at, reduceIte, Nat.reduceEqDiff, Bool.not_true, Bool.not_false]; done)))); simp only [WB, execE, unE, args0, reduceIte, Nat.reduceEqDiff, Nat.reduceAdd, Nat.reduceLeDiff, g0, WO, fillX, splice, Wo_some])
    | (refine W_opgF rfl rfl ?hg ?_; (case hg => (simp only [upd_at, reduceIte, Nat.reduceEqDiff, Bool.not_true, Bool.not_false]; done)))
    | (refine W_opgU rfl ?hg ?_; (case hg => (simp only [upd_at, reduceIte, Nat.reduceEqDiff]; done))) | (refine W_callN rfl ?hg ?_; (case hg => (simp only [upd_at, reduceIte, Nat.reduceEqDiff, Bool.not_true, Bool.not_false]; done))) | rw [W_seq] | rw [W_reg] | rw [push_no] | rw [push_yes] | rw [W_onil] | rw [W_skip] | rw [W_blk] | rw [W_b] | refine W_regd0 ?_ | refine W_regd ?_)
  refine W_callA rfl ?hargs (call87 8 (.inr rfl)) ?_
  case hargs => simp only [WB, execE, unE, args0, reduceIte, Nat.reduceEqDiff, Nat.reduceAdd, Nat.reduceLeDiff] <;> rfl
  rintro v m2 ⟨⟨wn, rfl, hwn⟩, k2⟩ hs2
  have g2 := k2.at n0 (by simp) g0
  have he1 : strBin .eql ⟨wn.toArray⟩ ⟨([] : List UInt8).toArray⟩ = some (.b false) := by
    rw [eqS]; simp [hwn]
  have b2 : rd m2 m.next 2 2 = some [.i .i64 0, .i .i64 0] := by simp [rd, g2]
  repeat (first
    | ((first | refine W_op rfl rfl ?_ | (refine W_opgT rfl rfl ?hg ?_; (case hg => (simp only [upd_at, reduceIte, Nat.reduceEqDiff, Bool.not_true, Bool.not_false]; done)))); simp only [WB, execE, unE, args0, reduceIte, Nat.reduceEqDiff, Nat.reduceAdd, Nat.reduceLeDiff, he1, binE, isShift, WO, fillX, splice, Wo_some])
    | (refine W_opgF rfl rfl ?hg ?_; (case hg => (simp only [upd_at, reduceIte, Nat.reduceEqDiff, Bool.not_true, Bool.not_false]; done)))
    | (refine W_opgU rfl ?hg ?_; (case hg => (simp only [upd_at, reduceIte, Nat.reduceEqDiff]; done))) | (refine W_callN rfl ?hg ?_; (case hg => (simp only [upd_at, reduceIte, Nat.reduceEqDiff, Bool.not_true, Bool.not_false]; done))) | rw [W_seq] | rw [W_reg] | rw [push_no] | rw [push_yes] | rw [W_onil] | rw [W_skip] | rw [W_blk] | rw [W_b] | refine W_regd0 ?_ | refine W_regd ?_)
  refine W_cond ?_
  simp only [WB, execE, unE, args0, reduceIte, Nat.reduceEqDiff, Nat.reduceAdd, Nat.reduceLeDiff, WC]
  repeat (first
    | ((first | refine W_op rfl rfl ?_ | (refine W_opgT rfl rfl ?hg ?_; (case hg => (simp only [upd_at, reduceIte, Nat.reduceEqDiff, Bool.not_true, Bool.not_false]; done)))); simp only [WB, execE, unE, args0, reduceIte, Nat.reduceEqDiff, Nat.reduceAdd, Nat.reduceLeDiff, g2, binE, isShift, intBin, Int.reduceBEq, WO, fillX, splice, Wo_some])
    | (refine W_opgF rfl rfl ?hg ?_; (case hg => (simp only [upd_at, reduceIte, Nat.reduceEqDiff, Bool.not_true, Bool.not_false]; done)))
    | (refine W_opgU rfl ?hg ?_; (case hg => (simp only [upd_at, reduceIte, Nat.reduceEqDiff]; done))) | (refine W_callN rfl ?hg ?_; (case hg => (simp only [upd_at, reduceIte, Nat.reduceEqDiff, Bool.not_true, Bool.not_false]; done))) | rw [W_seq] | rw [W_reg] | rw [push_no] | rw [push_yes] | rw [W_onil] | rw [W_skip] | rw [W_blk] | rw [W_b] | refine W_regd0 ?_ | refine W_regd ?_)
  refine W_cond ?_
  simp only [WB, execE, unE, args0, reduceIte, Nat.reduceEqDiff, Nat.reduceAdd, Nat.reduceLeDiff, WC]
  repeat (first
    | ((first | refine W_op rfl rfl ?_ | (refine W_opgT rfl rfl ?hg ?_; (case hg => (simp only [upd_at, reduceIte, Nat.reduceEqDiff, Bool.not_true, Bool.not_false]; done)))); simp only [WB, execE, unE, args0, reduceIte, Nat.reduceEqDiff, Nat.reduceAdd, Nat.reduceLeDiff, binE, isShift, intBin, Int.reduceBEq, WO, fillX, splice, Wo_some])
    | (refine W_opgF rfl rfl ?hg ?_; (case hg => (simp only [upd_at, reduceIte, Nat.reduceEqDiff, Bool.not_true, Bool.not_false]; done)))
    | (refine W_opgU rfl ?hg ?_; (case hg => (simp only [upd_at, reduceIte, Nat.reduceEqDiff]; done))) | (refine W_callN rfl ?hg ?_; (case hg => (simp only [upd_at, reduceIte, Nat.reduceEqDiff, Bool.not_true, Bool.not_false]; done))) | rw [W_seq] | rw [W_reg] | rw [push_no] | rw [push_yes] | rw [W_onil] | rw [W_skip] | rw [W_blk] | rw [W_b] | refine W_regd0 ?_ | refine W_regd ?_)
  refine W_cond ?_
  simp only [WB, execE, unE, args0, reduceIte, Nat.reduceEqDiff, Nat.reduceAdd, Nat.reduceLeDiff, WC]
  repeat (first
    | ((first | refine W_op rfl rfl ?_ | (refine W_opgT rfl rfl ?hg ?_; (case hg => (simp only [upd_at, reduceIte, Nat.reduceEqDiff, Bool.not_true, Bool.not_false]; done)))); simp only [WB, execE, unE, args0, reduceIte, Nat.reduceEqDiff, Nat.reduceAdd, Nat.reduceLeDiff, g2, b2, eqC2z, binE, isShift, intBin, Int.reduceGE, Int.reduceLE, WO, fillX, splice, Wo_some])
    | (refine W_opgF rfl rfl ?hg ?_; (case hg => (simp only [upd_at, reduceIte, Nat.reduceEqDiff, Bool.not_true, Bool.not_false]; done)))
    | (refine W_opgU rfl ?hg ?_; (case hg => (simp only [upd_at, reduceIte, Nat.reduceEqDiff]; done))) | (refine W_callN rfl ?hg ?_; (case hg => (simp only [upd_at, reduceIte, Nat.reduceEqDiff, Bool.not_true, Bool.not_false]; done))) | rw [W_seq] | rw [W_reg] | rw [push_no] | rw [push_yes] | rw [W_onil] | rw [W_skip] | rw [W_blk] | rw [W_b] | refine W_regd0 ?_ | refine W_regd ?_)
  refine W_getRet (by repeat (first | exact hg | exact args0_un (Nat.le_of_ble_eq_true rfl) | refine upd_un ?_ rfl)) ?_
  exact ⟨hs2.ds.trans dB, _, rfl, rfl, (kB'.trans k2 (by simp)).out⟩

theorem app_in {m : AMem} {j cap k b : Nat} {c new : List AV} {ex : Bool} {ty tyE : Option Nat} (hg : m.get j = some (.cells c true ⟨2, ty⟩)) (hk : k ≤ cap) (hc : c.length = cap * 2) (hn : new.length = k * 2) :
    ∃ m' c', appE m ⟨2, tyE⟩ b (.sl (some (j, 0)) 0 cap ex) new k = some (.sl (some (j, 0)) k cap ex, m') ∧ m'.get j = some (.cells c' true ⟨2, ty⟩) ∧ c'.length = c.length ∧ c'.take (k * 2) = new ∧ Keep m m' [j] ∧ m'.ds = m.ds := by
  by_cases h0 : k = 0
  · subst h0
    refine ⟨m, c, ?_, hg, rfl, ?_, Keep.refl _ _, rfl⟩
    · simp only [appE, hg]
      rw [if_pos (by omega), if_pos trivial]
    · rw [List.length_eq_zero_iff.1 (show new.length = 0 by omega)]; simp
  · have hl : 0 + new.length ≤ c.length := by
      have : k * 2 ≤ cap * 2 := Nat.mul_le_mul_right _ hk
      omega
    refine ⟨m.put j (some (.cells (splice c 0 new) true ⟨2, ty⟩)), splice c 0 new, ?_, by rw [AMem.get_put, if_pos rfl], length_splice _ _ _ hl, ?_, Keep.put _ _ _, rfl⟩
    · simp only [appE, hg]
      rw [if_pos (by omega), if_neg h0, if_pos ⟨trivial, by omega⟩]
      simp
    · rw [← hn]; simp [splice]

theorem splice_take {c vs : List AV} {o : Nat} (h : o ≤ c.length) : (splice c o vs).take o = c.take o := by
  unfold splice
  rw [List.take_append_of_le_length (by simp; omega), List.take_take, Nat.min_self]

set_option maxHeartbeats 1000000 in
theorem call133 {m : AMem} {j cap n : Nat} {c : List AV} {ex : Bool} {ty : Option Nat} {L : List (Int × Int)} (hg : m.get j = some (.cells c true ⟨2, ty⟩)) (hj : j < m.next) (hc : c.length = cap * 2) (hn : n ≤ cap) (h1 : 1 ≤ n) (ht : c.take (n * 2) = flat2 L) (hL : L.length = n) (hn2 : n ≤ 100000) :
    Vi.Call T 133 [.sl (some (j, 0)) n cap ex, .i .i64 0, .i .i64 1] m (fun v m' => RowE m' 2 ty v (some j) (n - 1) (flat2 L.tail) ∧ Keep m m' [j]) := by
  have hcn : n * 2 ≤ c.length := by omega
  have f1 : ∃ q, ∀ (g : Nat → AV) (x y z u : X) (mm : AMem), X.at g x = .sl (some (j, 0)) n cap ex → X.at g y = .i .i64 0 → X.at g z = .i .i64 1 → X.at g u = .i .i64 n → execE (.slc 2 x (some y) (some z) (some u)) (X.at g) mm = some (q, mm) := by
    refine ⟨.sl (some (j, if n = 0 then 0 else 0 + 0 * 2)) (1 - 0) (n - 0) true, fun g x y z u mm hx hy hz hu => ?_⟩
    have hb : boundsX (X.at g) n cap (some y) (some z) (some u) = some (0, 1, n) := by
      simp only [boundsX, hy, hz, hu, boundE]
      rw [if_pos ⟨by omega, by omega⟩]
      simp only [Int.toNat_natCast]
      rw [if_pos ⟨by omega, by omega⟩]
      simp
    simp only [execE, hx, hb, Option.isSome_some, Bool.or_true, if_true]
  obtain ⟨q, f1⟩ := f1
  have f3 : ∃ sv, (∀ (g : Nat → AV) (x y : X) (mm : AMem), X.at g x = .sl (some (j, 0)) n cap ex → X.at g y = .i .i64 1 → execE (.slc 2 x (some y) none none) (X.at g) mm = some (sv, mm)) ∧ srcE m.inn 2 sv = some (flat2 L.tail, n - 1) := by
    have hb : ∀ (g : Nat → AV) (y : X), X.at g y = .i .i64 1 → boundsX (X.at g) n cap (some y) none none = some (1, n, cap) := by
      intro g y hy
      simp only [boundsX, hy, boundE, Option.isSome_none, Bool.false_eq_true, if_false]
      rw [if_pos ⟨by omega, by omega⟩]
      rfl
    by_cases hcap : cap = 1
    · have hn1 : n = 1 := by omega
      subst hcap; subst hn1
      have htl : L.tail = [] := List.length_eq_zero_iff.1 (by rw [List.length_tail]; omega)
      cases ex with
      | true =>
        refine ⟨.sl (some (j, 0)) 0 0 true, fun g x y mm hx hy => ?_, ?_⟩
        · simp only [execE, hx, hb g y hy, Bool.true_or, if_true, Nat.sub_self]
        · simp only [srcE, rd, AMem.get_inn, hg, Nat.zero_mul, Nat.add_zero, Nat.zero_le, if_true, htl]
          simp [flat2]
      | false =>
        refine ⟨.es, fun g x y mm hx hy => ?_, ?_⟩
        · simp only [execE, hx, hb g y hy]
          simp
        · simp [srcE, htl, flat2]
    · refine ⟨.sl (some (j, 2)) (n - 1) (cap - 1) ex, fun g x y mm hx hy => ?_, ?_⟩
      · simp only [execE, hx, hb g y hy]
        rw [if_neg hcap, if_pos (show 1 < cap by omega)]
        cases ex <;> simp
      · have hlen : 2 + (n - 1) * 2 ≤ c.length := by omega
        simp only [srcE, rd, AMem.get_inn, hg]
        rw [if_pos hlen]
        simp only [Option.map_some]
        congr 2
        have e1 : (flat2 L).drop (1 * 2) = flat2 (L.drop 1) := flat2_drop 1 L
        rw [List.drop_one] at e1
        rw [← e1, ← ht, List.drop_take, Nat.one_mul]
        congr 1
        omega
  obtain ⟨sv, f3, hsrc⟩ := f3
  have hone : (flat2 L.tail).all AV.one = true := List.all_eq_true.2 fun x hx => by
    have := List.all_eq_true.1 (flat2_num L.tail) x hx
    cases x <;> simp [AV.num] at this
    rfl
  obtain ⟨mA, cA, hap, gA, hlA, htA, kA, dA⟩ := app_in (m := m.inn) (tyE := some 31) (b := 16) (ex := ex) hg (show n - 1 ≤ cap by omega) hc (show (flat2 L.tail).length = (n - 1) * 2 by rw [flat2_len, List.length_tail]; omega)
  have f4 : ∀ (g : Nat → AV) (x y z : X) (mm : AMem), X.at g x = .sl (some (j, 0)) (n - 1) cap ex → X.at g y = .i .i64 ((n - 1 : Nat) : Int) → X.at g z = .i .i64 n → execE (.slc 2 x (some y) (some z) none) (X.at g) mm = some (.sl (some (j, (n - 1) * 2)) 1 (cap - (n - 1)) ex, mm) := by
    intro g x y z mm hx hy hz
    have hb : boundsX (X.at g) (n - 1) cap (some y) (some z) none = some (n - 1, n, cap) := by
      simp only [boundsX, hy, hz, boundE]
      rw [if_pos ⟨by omega, by omega⟩]
      simp only [Int.toNat_natCast]
      rw [if_pos ⟨by omega, by omega⟩]
    simp only [execE, hx, hb]
    rw [if_neg (show ¬ cap = n - 1 by omega), if_pos (show n - 1 < cap by omega), show n - (n - 1) = 1 by omega]
    cases ex <;> simp
  have f5 : ∀ (g : Nat → AV) (x : X) (o q : Nat) (cc : List AV) (mm : AMem), X.at g x = .sl (some (j, o)) 1 q ex → mm.get j = some (.cells cc true ⟨2, ty⟩) → o + 2 ≤ cc.length → execE (.clr [.i .i64 0, .i .i64 0] x) (X.at g) mm = some (un, mm.put j (some (.cells (splice cc o [.i .i64 0, .i .i64 0]) true ⟨2, ty⟩))) := by
    intro g x o q cc mm hx hgm ho
    simp only [execE, hx, hgm, Nat.zero_add, Nat.one_mul, List.length_cons, List.length_nil, Nat.reduceAdd]
    rw [if_pos ho]
    rfl
  have e01 : ((0 : Int) == 1) = false := rfl
  have f2 : ∀ (g : Nat → AV) (x y : X) (mm : AMem), X.at g x = .sl (some (j, 0)) n cap ex → X.at g y = .i .i64 0 → execE (.slc 2 x none (some y) none) (X.at g) mm = some (.sl (some (j, 0)) 0 cap ex, mm) := fun g x y mm hx hy => slc_hi (h := 0) hx hy (Nat.zero_le _)
  refine Vi.Call.ofP T133 (Nat.le_of_ble_eq_true rfl) ?_
  unfold v133
  repeat (first
    | ((first | refine W_opA rfl rfl rfl ?_ | (refine W_opgT rfl rfl ?hg ?_; (case hg => (simp only [upd_at, reduceIte, Nat.reduceEqDiff, Bool.not_true, Bool.not_false]; done)))); simp only [WB, execE, unE, args0, reduceIte, Nat.reduceEqDiff, Nat.reduceAdd, Nat.reduceLeDiff, ↓f1, e01, binE, isShift, intBin, WO, fillX, splice, Wo_some])
    | (refine W_opgF rfl rfl ?hg ?_; (case hg => (simp only [upd_at, reduceIte, Nat.reduceEqDiff, Bool.not_true, Bool.not_false]; done)))
    | (refine W_opgU rfl ?hg ?_; (case hg => (simp only [upd_at, reduceIte, Nat.reduceEqDiff]; done))) | (refine W_callN rfl ?hg ?_; (case hg => (simp only [upd_at, reduceIte, Nat.reduceEqDiff, Bool.not_true, Bool.not_false]; done))) | rw [W_seq] | rw [W_reg] | rw [push_no] | rw [push_yes] | rw [W_onil] | rw [W_skip] | rw [W_blk] | rw [W_b] | refine W_regd0 ?_ | refine W_regd ?_)
  refine W_cond ?_
  simp only [WB, execE, unE, args0, reduceIte, Nat.reduceEqDiff, Nat.reduceAdd, Nat.reduceLeDiff, WC]
  repeat (first
    | ((first | refine W_opA rfl rfl rfl ?_ | (refine W_opgT rfl rfl ?hg ?_; (case hg => (simp only [upd_at, reduceIte, Nat.reduceEqDiff, Bool.not_true, Bool.not_false]; done)))); simp only [WB, execE, unE, args0, reduceIte, Nat.reduceEqDiff, Nat.reduceAdd, Nat.reduceLeDiff, ↓f2, ↓f3, WO, fillX, splice, Wo_some])
    | (refine W_opgF rfl rfl ?hg ?_; (case hg => (simp only [upd_at, reduceIte, Nat.reduceEqDiff, Bool.not_true, Bool.not_false]; done)))
    | (refine W_opgU rfl ?hg ?_; (case hg => (simp only [upd_at, reduceIte, Nat.reduceEqDiff]; done))) | (refine W_callN rfl ?hg ?_; (case hg => (simp only [upd_at, reduceIte, Nat.reduceEqDiff, Bool.not_true, Bool.not_false]; done))) | rw [W_seq] | rw [W_reg] | rw [push_no] | rw [push_yes] | rw [W_onil] | rw [W_skip] | rw [W_blk] | rw [W_b] | refine W_regd0 ?_ | refine W_regd ?_)
  refine W_op rfl rfl ?_
  have hsrcA : ∀ (g : Nat → AV) (x : X), X.at g x = sv → srcE m.inn 2 (X.at g x) = some (flat2 L.tail, n - 1) := fun g x hx => by rw [hx]; exact hsrc
  simp only [execE, at_t, upd_at, reduceIte, Nat.reduceEqDiff, hsrc, hone, if_true, hap, Wo_some]
  have fl : ∀ (g : Nat → AV) (x : X) (mm : AMem), X.at g x = .sl (some (j, 0)) (n - 1) cap ex → execE (.len 1 x) (X.at g) mm = some (.i .i64 ((n - 1 : Nat) : Int), mm) := fun g x mm hx => by simp only [execE, hx]
  have hlast : (n - 1) * 2 + 2 ≤ cA.length := by rw [hlA]; omega
  repeat (first
    | ((first | refine W_op rfl rfl ?_ | (refine W_opgT rfl rfl ?hg ?_; (case hg => (simp only [upd_at, reduceIte, Nat.reduceEqDiff, Bool.not_true, Bool.not_false]; done)))); simp only [WB, execE, unE, args0, reduceIte, Nat.reduceEqDiff, Nat.reduceAdd, Nat.reduceLeDiff, ↓fl, ↓f4, ↓f5, gA, hlast, WO, fillX, splice, Wo_some])
    | (refine W_opgF rfl rfl ?hg ?_; (case hg => (simp only [upd_at, reduceIte, Nat.reduceEqDiff, Bool.not_true, Bool.not_false]; done)))
    | (refine W_opgU rfl ?hg ?_; (case hg => (simp only [upd_at, reduceIte, Nat.reduceEqDiff]; done))) | (refine W_callN rfl ?hg ?_; (case hg => (simp only [upd_at, reduceIte, Nat.reduceEqDiff, Bool.not_true, Bool.not_false]; done))) | rw [W_seq] | rw [W_reg] | rw [push_no] | rw [push_yes] | rw [W_onil] | rw [W_skip] | rw [W_blk] | rw [W_b] | refine W_regd0 ?_ | refine W_regd ?_)
  refine W_getRet (by repeat (first | exact hg | exact args0_un (Nat.le_of_ble_eq_true rfl) | refine upd_un ?_ rfl)) ?_
  refine ⟨dA, _, rfl, ?_, ((kA.ofInn).trans (Keep.put _ _ _) (fun i hi => .inl hi)).out⟩
  refine ⟨by rw [flat2_len, List.length_tail]; omega, splice cA ((n - 1) * 2) [.i .i64 0, .i .i64 0], cap, ex, rfl, by simp only [AMem.next_out, AMem.next_put]; exact Nat.lt_of_lt_of_le hj kA.next, by rw [AMem.get_out, AMem.get_put, if_pos rfl]; rfl, ?_, by omega, ?_⟩
  · rw [length_splice _ _ _ (by simp; omega), hlA, hc]
  · rw [splice_take (by omega), htA]
end Go.Proofs.YtjlckbphpmogjaaGreatDoor
