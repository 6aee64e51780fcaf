/- The reference's line of a state. No condition. -/
import Derived.Test.YtdmoecehmclohaaGreatDoorSlSLA
import Derived.Test.YtdmoecehmclohaaGreatDoorSlViNode
import Derived.Test.YtdmoecehmclohaaGreatDoorSlF
import Derived.Test.YtdmoecehmclohaaGreatDoorSlQR
namespace Go.Proofs.YtdmoecehmclohaaGreatDoor
open Go.Vi
set_option linter.unusedSimpArgs false
set_option linter.unusedVariables false
def rsC (k kd ph pos st og nk fr to num : Int) : List AV := [.i .i64 k, .i .i64 kd, .i .i64 ph, .i .i64 pos, .i .i64 st, .i .i64 og, .i .i64 nk, .i .i64 fr, .i .i64 to, .i .i64 num]
theorem call40 {m : AMem} {k kd ph pos st og nk fr to num : Int} (h0 : 0 ≤ ph) (h1 : ph ≤ 100000) : Vi.Call T 40 [.agg (rsC k kd ph pos st og nk fr to num)] m (fun v m' => v = .s ⟨(wayT nk ph).toArray⟩ ∧ Keep m m' []) := by
  refine Vi.Call.ofP T40 (Nat.le_of_ble_eq_true rfl) ?_
  unfold v40 rsC
  repeat (first | rw [W_seq] | rw [W_reg] | rw [push_no] | rw [push_yes] | rw [W_onil] | rw [W_skip] | rw [W_blk] | rw [W_b] | refine W_regd0 ?_ | refine W_regd ?_)
  refine W_op rfl rfl ?_
  simp only [WB, execE, unE, args0, reduceIte, Nat.reduceEqDiff, Nat.reduceAdd, Nat.reduceLeDiff, WO, fillX, splice, Wo_some]
  repeat (first | rw [push_no] | rw [push_yes] | rw [W_onil])
  obtain ⟨mB, hmB, kB, bB, g0, dB, _, nB⟩ := mk_new m.inn [.i .i64 k, .i .i64 kd, .i .i64 ph, .i .i64 pos, .i .i64 st, .i .i64 og, .i .i64 nk, .i .i64 fr, .i .i64 to, .i .i64 num] true (10 : Nat) 10 rfl
  have kB' : Keep m mB [] := kB.ofInn
  have g0' : mB.get m.next = some (.cells [.i .i64 k, .i .i64 kd, .i .i64 ph, .i .i64 pos, .i .i64 st, .i .i64 og, .i .i64 nk, .i .i64 fr, .i .i64 to, .i .i64 num] true (10 : Nat)) := g0
  rw [← hmB]
  clear hmB
  have ha : InI64 (ph + 1) := ⟨by omega, by omega⟩
  have hb : InI64 (ph - 1) := ⟨by omega, by omega⟩
  have w1 : IntKind.i64.wrap (ph + 1) = ph + 1 := wr_i64 ha.1 ha.2
  have w2 : IntKind.i64.wrap (ph - 1) = ph - 1 := wr_i64 hb.1 hb.2
  have i1 : Sm (digI (ph + 1)) 21 := sm_digI ha
  have i2 : Sm (digI (ph - 1)) 21 := sm_digI hb
  by_cases h6 : nk = 6
  · subst h6
    have c1 : ((6 : Int) == 6) = true := rfl
    repeat (first
      | ((first | refine W_op rfl rfl ?_ | (refine W_opgT rfl rfl ?hg ?_; (case hg => (simp only [WG, reduceIte, Nat.reduceEqDiff]; done)))); simp only [WB, execE, unE, args0, reduceIte, Nat.reduceEqDiff, Nat.reduceAdd, Nat.reduceLeDiff, g0', c1, binE, isShift, intBin, WO, fillX, splice, Wo_some])
      | (refine W_opgF rfl rfl ?hg ?_; (case hg => (simp only [WG, reduceIte, Nat.reduceEqDiff]; done)))
      | (refine W_opgU rfl ?hg ?_; (case hg => (simp only [upd_at, reduceIte, Nat.reduceEqDiff]; done))) | (refine W_callN rfl ?hg ?_; (case hg => (simp only [WG, reduceIte, Nat.reduceEqDiff]; done))) | rw [W_seq] | rw [W_reg] | rw [push_no] | rw [push_yes] | rw [W_onil] | rw [W_skip] | rw [W_blk] | rw [W_b] | refine W_regd0 ?_ | refine W_regd ?_)
    refine W_cond ?_
    simp only [WB, execE, unE, args0, reduceIte, Nat.reduceEqDiff, Nat.reduceAdd, Nat.reduceLeDiff, WC]
    repeat (first
      | ((first | refine W_op rfl rfl ?_ | (refine W_opgT rfl rfl ?hg ?_; (case hg => (simp only [WG, reduceIte, Nat.reduceEqDiff]; done)))); simp only [WB, execE, unE, args0, reduceIte, Nat.reduceEqDiff, Nat.reduceAdd, Nat.reduceLeDiff, g0', w1, binE, isShift, intBin, WO, fillX, splice, Wo_some])
      | (refine W_opgF rfl rfl ?hg ?_; (case hg => (simp only [WG, reduceIte, Nat.reduceEqDiff]; done)))
      | (refine W_opgU rfl ?hg ?_; (case hg => (simp only [upd_at, reduceIte, Nat.reduceEqDiff]; done))) | (refine W_callN rfl ?hg ?_; (case hg => (simp only [WG, reduceIte, Nat.reduceEqDiff]; done))) | rw [W_seq] | rw [W_reg] | rw [push_no] | rw [push_yes] | rw [W_onil] | rw [W_skip] | rw [W_blk] | rw [W_b] | refine W_regd0 ?_ | refine W_regd ?_)
    refine W_callA rfl ?hargs (call18 (n := ph + 1) ha.1 ha.2) ?_
    case hargs => simp only [WB, execE, unE, args0, reduceIte, Nat.reduceEqDiff, Nat.reduceAdd, Nat.reduceLeDiff] <;> rfl
    rintro v m1 ⟨rfl, k1⟩ hs1
    repeat (first
      | ((first | refine W_op rfl rfl ?_ | (refine W_opgT rfl rfl ?hg ?_; (case hg => (simp only [WG, reduceIte, Nat.reduceEqDiff]; done)))); simp only [WB, execE, unE, args0, reduceIte, Nat.reduceEqDiff, Nat.reduceAdd, Nat.reduceLeDiff, binE, isShift, strcatI, Nat.reduceAdd, Nat.reduceLeDiff, WO, fillX, splice, Wo_some])
      | (refine W_opgF rfl rfl ?hg ?_; (case hg => (simp only [WG, reduceIte, Nat.reduceEqDiff]; done)))
      | (refine W_opgU rfl ?hg ?_; (case hg => (simp only [upd_at, reduceIte, Nat.reduceEqDiff]; done))) | (refine W_callN rfl ?hg ?_; (case hg => (simp only [WG, reduceIte, Nat.reduceEqDiff]; done))) | rw [W_seq] | rw [W_reg] | rw [push_no] | rw [push_yes] | rw [W_onil] | rw [W_skip] | rw [W_blk] | rw [W_b] | refine W_regd0 ?_ | refine W_regd ?_)
    refine W_getRet (by repeat (first | exact hg | exact args0_un (Nat.le_of_ble_eq_true rfl) | refine upd_un ?_ rfl)) ?_
    exact ⟨hs1.ds.trans dB, _, rfl, rfl, (kB'.trans k1 (by simp)).out⟩
  have c1 : (nk == 6) = false := by simpa using h6
  by_cases h8 : nk = 8
  · subst h8
    have c2 : ((8 : Int) == 8) = true := rfl
    have c3 : ((8 : Int) == 6) = false := rfl
    by_cases hp : ph = 1
    · subst hp
      have c4 : ((1 : Int) == 1) = true := rfl
      repeat (first
        | ((first | refine W_op rfl rfl ?_ | (refine W_opgT rfl rfl ?hg ?_; (case hg => (simp only [WG, reduceIte, Nat.reduceEqDiff]; done)))); simp only [WB, execE, unE, args0, reduceIte, Nat.reduceEqDiff, Nat.reduceAdd, Nat.reduceLeDiff, g0', c2, c3, c4, binE, isShift, intBin, WO, fillX, splice, Wo_some])
        | (refine W_opgF rfl rfl ?hg ?_; (case hg => (simp only [WG, reduceIte, Nat.reduceEqDiff]; done)))
        | (refine W_opgU rfl ?hg ?_; (case hg => (simp only [upd_at, reduceIte, Nat.reduceEqDiff]; done))) | (refine W_callN rfl ?hg ?_; (case hg => (simp only [WG, reduceIte, Nat.reduceEqDiff]; done))) | rw [W_seq] | rw [W_reg] | rw [push_no] | rw [push_yes] | rw [W_onil] | rw [W_skip] | rw [W_blk] | rw [W_b] | refine W_regd0 ?_ | refine W_regd ?_)
      refine W_cond ?_
      simp only [WB, execE, unE, args0, reduceIte, Nat.reduceEqDiff, Nat.reduceAdd, Nat.reduceLeDiff, WC]
      repeat (first
        | ((first | refine W_op rfl rfl ?_ | (refine W_opgT rfl rfl ?hg ?_; (case hg => (simp only [WG, reduceIte, Nat.reduceEqDiff]; done)))); simp only [WB, execE, unE, args0, reduceIte, Nat.reduceEqDiff, Nat.reduceAdd, Nat.reduceLeDiff, g0', c2, c3, c4, binE, isShift, intBin, WO, fillX, splice, Wo_some])
        | (refine W_opgF rfl rfl ?hg ?_; (case hg => (simp only [WG, reduceIte, Nat.reduceEqDiff]; done)))
        | (refine W_opgU rfl ?hg ?_; (case hg => (simp only [upd_at, reduceIte, Nat.reduceEqDiff]; done))) | (refine W_callN rfl ?hg ?_; (case hg => (simp only [WG, reduceIte, Nat.reduceEqDiff]; done))) | rw [W_seq] | rw [W_reg] | rw [push_no] | rw [push_yes] | rw [W_onil] | rw [W_skip] | rw [W_blk] | rw [W_b] | refine W_regd0 ?_ | refine W_regd ?_)
      refine W_cond ?_
      simp only [WB, execE, unE, args0, reduceIte, Nat.reduceEqDiff, Nat.reduceAdd, Nat.reduceLeDiff, WC]
      repeat (first
        | ((first | refine W_op rfl rfl ?_ | (refine W_opgT rfl rfl ?hg ?_; (case hg => (simp only [WG, reduceIte, Nat.reduceEqDiff]; done)))); simp only [WB, execE, unE, args0, reduceIte, Nat.reduceEqDiff, Nat.reduceAdd, Nat.reduceLeDiff, WO, fillX, splice, Wo_some])
        | (refine W_opgF rfl rfl ?hg ?_; (case hg => (simp only [WG, reduceIte, Nat.reduceEqDiff]; done)))
        | (refine W_opgU rfl ?hg ?_; (case hg => (simp only [upd_at, reduceIte, Nat.reduceEqDiff]; done))) | (refine W_callN rfl ?hg ?_; (case hg => (simp only [WG, reduceIte, Nat.reduceEqDiff]; done))) | rw [W_seq] | rw [W_reg] | rw [push_no] | rw [push_yes] | rw [W_onil] | rw [W_skip] | rw [W_blk] | rw [W_b] | refine W_regd0 ?_ | refine W_regd ?_)
      refine W_getRet (by repeat (first | exact hg | exact args0_un (Nat.le_of_ble_eq_true rfl) | refine upd_un ?_ rfl)) ?_
      exact ⟨dB, _, rfl, rfl, kB'.out⟩
    · have c4 : (ph == 1) = false := by simpa using hp
      repeat (first
        | ((first | refine W_op rfl rfl ?_ | (refine W_opgT rfl rfl ?hg ?_; (case hg => (simp only [WG, reduceIte, Nat.reduceEqDiff]; done)))); simp only [WB, execE, unE, args0, reduceIte, Nat.reduceEqDiff, Nat.reduceAdd, Nat.reduceLeDiff, g0', c2, c3, c4, binE, isShift, intBin, WO, fillX, splice, Wo_some])
        | (refine W_opgF rfl rfl ?hg ?_; (case hg => (simp only [WG, reduceIte, Nat.reduceEqDiff]; done)))
        | (refine W_opgU rfl ?hg ?_; (case hg => (simp only [upd_at, reduceIte, Nat.reduceEqDiff]; done))) | (refine W_callN rfl ?hg ?_; (case hg => (simp only [WG, reduceIte, Nat.reduceEqDiff]; done))) | rw [W_seq] | rw [W_reg] | rw [push_no] | rw [push_yes] | rw [W_onil] | rw [W_skip] | rw [W_blk] | rw [W_b] | refine W_regd0 ?_ | refine W_regd ?_)
      refine W_cond ?_
      simp only [WB, execE, unE, args0, reduceIte, Nat.reduceEqDiff, Nat.reduceAdd, Nat.reduceLeDiff, WC]
      repeat (first
        | ((first | refine W_op rfl rfl ?_ | (refine W_opgT rfl rfl ?hg ?_; (case hg => (simp only [WG, reduceIte, Nat.reduceEqDiff]; done)))); simp only [WB, execE, unE, args0, reduceIte, Nat.reduceEqDiff, Nat.reduceAdd, Nat.reduceLeDiff, g0', c2, c3, c4, binE, isShift, intBin, WO, fillX, splice, Wo_some])
        | (refine W_opgF rfl rfl ?hg ?_; (case hg => (simp only [WG, reduceIte, Nat.reduceEqDiff]; done)))
        | (refine W_opgU rfl ?hg ?_; (case hg => (simp only [upd_at, reduceIte, Nat.reduceEqDiff]; done))) | (refine W_callN rfl ?hg ?_; (case hg => (simp only [WG, reduceIte, Nat.reduceEqDiff]; done))) | rw [W_seq] | rw [W_reg] | rw [push_no] | rw [push_yes] | rw [W_onil] | rw [W_skip] | rw [W_blk] | rw [W_b] | refine W_regd0 ?_ | refine W_regd ?_)
      refine W_cond ?_
      simp only [WB, execE, unE, args0, reduceIte, Nat.reduceEqDiff, Nat.reduceAdd, Nat.reduceLeDiff, WC]
      repeat (first
        | ((first | refine W_op rfl rfl ?_ | (refine W_opgT rfl rfl ?hg ?_; (case hg => (simp only [WG, reduceIte, Nat.reduceEqDiff]; done)))); simp only [WB, execE, unE, args0, reduceIte, Nat.reduceEqDiff, Nat.reduceAdd, Nat.reduceLeDiff, g0', c2, c3, c4, binE, isShift, intBin, WO, fillX, splice, Wo_some])
        | (refine W_opgF rfl rfl ?hg ?_; (case hg => (simp only [WG, reduceIte, Nat.reduceEqDiff]; done)))
        | (refine W_opgU rfl ?hg ?_; (case hg => (simp only [upd_at, reduceIte, Nat.reduceEqDiff]; done))) | (refine W_callN rfl ?hg ?_; (case hg => (simp only [WG, reduceIte, Nat.reduceEqDiff]; done))) | rw [W_seq] | rw [W_reg] | rw [push_no] | rw [push_yes] | rw [W_onil] | rw [W_skip] | rw [W_blk] | rw [W_b] | refine W_regd0 ?_ | refine W_regd ?_)
      refine W_cond ?_
      simp only [WB, execE, unE, args0, reduceIte, Nat.reduceEqDiff, Nat.reduceAdd, Nat.reduceLeDiff, WC]
      repeat (first
        | ((first | refine W_op rfl rfl ?_ | (refine W_opgT rfl rfl ?hg ?_; (case hg => (simp only [WG, reduceIte, Nat.reduceEqDiff]; done)))); simp only [WB, execE, unE, args0, reduceIte, Nat.reduceEqDiff, Nat.reduceAdd, Nat.reduceLeDiff, WO, fillX, splice, Wo_some])
        | (refine W_opgF rfl rfl ?hg ?_; (case hg => (simp only [WG, reduceIte, Nat.reduceEqDiff]; done)))
        | (refine W_opgU rfl ?hg ?_; (case hg => (simp only [upd_at, reduceIte, Nat.reduceEqDiff]; done))) | (refine W_callN rfl ?hg ?_; (case hg => (simp only [WG, reduceIte, Nat.reduceEqDiff]; done))) | rw [W_seq] | rw [W_reg] | rw [push_no] | rw [push_yes] | rw [W_onil] | rw [W_skip] | rw [W_blk] | rw [W_b] | refine W_regd0 ?_ | refine W_regd ?_)
      refine W_getRet (by repeat (first | exact hg | exact args0_un (Nat.le_of_ble_eq_true rfl) | refine upd_un ?_ rfl)) ?_
      refine ⟨dB, _, rfl, ?_, kB'.out⟩
      unfold wayT
      rw [if_neg (by decide), if_pos rfl, if_neg hp]
      rfl
  · have c2 : (nk == 8) = false := by simpa using h8
    repeat (first
      | ((first | refine W_op rfl rfl ?_ | (refine W_opgT rfl rfl ?hg ?_; (case hg => (simp only [WG, reduceIte, Nat.reduceEqDiff]; done)))); simp only [WB, execE, unE, args0, reduceIte, Nat.reduceEqDiff, Nat.reduceAdd, Nat.reduceLeDiff, g0', c1, c2, binE, isShift, intBin, WO, fillX, splice, Wo_some])
      | (refine W_opgF rfl rfl ?hg ?_; (case hg => (simp only [WG, reduceIte, Nat.reduceEqDiff]; done)))
      | (refine W_opgU rfl ?hg ?_; (case hg => (simp only [upd_at, reduceIte, Nat.reduceEqDiff]; done))) | (refine W_callN rfl ?hg ?_; (case hg => (simp only [WG, reduceIte, Nat.reduceEqDiff]; done))) | rw [W_seq] | rw [W_reg] | rw [push_no] | rw [push_yes] | rw [W_onil] | rw [W_skip] | rw [W_blk] | rw [W_b] | refine W_regd0 ?_ | refine W_regd ?_)
    refine W_cond ?_
    simp only [WB, execE, unE, args0, reduceIte, Nat.reduceEqDiff, Nat.reduceAdd, Nat.reduceLeDiff, WC]
    repeat (first
      | ((first | refine W_op rfl rfl ?_ | (refine W_opgT rfl rfl ?hg ?_; (case hg => (simp only [WG, reduceIte, Nat.reduceEqDiff]; done)))); simp only [WB, execE, unE, args0, reduceIte, Nat.reduceEqDiff, Nat.reduceAdd, Nat.reduceLeDiff, g0', c1, c2, binE, isShift, intBin, WO, fillX, splice, Wo_some])
      | (refine W_opgF rfl rfl ?hg ?_; (case hg => (simp only [WG, reduceIte, Nat.reduceEqDiff]; done)))
      | (refine W_opgU rfl ?hg ?_; (case hg => (simp only [upd_at, reduceIte, Nat.reduceEqDiff]; done))) | (refine W_callN rfl ?hg ?_; (case hg => (simp only [WG, reduceIte, Nat.reduceEqDiff]; done))) | rw [W_seq] | rw [W_reg] | rw [push_no] | rw [push_yes] | rw [W_onil] | rw [W_skip] | rw [W_blk] | rw [W_b] | refine W_regd0 ?_ | refine W_regd ?_)
    refine W_cond ?_
    simp only [WB, execE, unE, args0, reduceIte, Nat.reduceEqDiff, Nat.reduceAdd, Nat.reduceLeDiff, WC]
    repeat (first
      | ((first | refine W_op rfl rfl ?_ | (refine W_opgT rfl rfl ?hg ?_; (case hg => (simp only [WG, reduceIte, Nat.reduceEqDiff]; done)))); simp only [WB, execE, unE, args0, reduceIte, Nat.reduceEqDiff, Nat.reduceAdd, Nat.reduceLeDiff, g0', c1, c2, binE, isShift, intBin, WO, fillX, splice, Wo_some])
      | (refine W_opgF rfl rfl ?hg ?_; (case hg => (simp only [WG, reduceIte, Nat.reduceEqDiff]; done)))
      | (refine W_opgU rfl ?hg ?_; (case hg => (simp only [upd_at, reduceIte, Nat.reduceEqDiff]; done))) | (refine W_callN rfl ?hg ?_; (case hg => (simp only [WG, reduceIte, Nat.reduceEqDiff]; done))) | rw [W_seq] | rw [W_reg] | rw [push_no] | rw [push_yes] | rw [W_onil] | rw [W_skip] | rw [W_blk] | rw [W_b] | refine W_regd0 ?_ | refine W_regd ?_)
    refine W_cond ?_
    simp only [WB, execE, unE, args0, reduceIte, Nat.reduceEqDiff, Nat.reduceAdd, Nat.reduceLeDiff, WC]
    repeat (first
      | ((first | refine W_op rfl rfl ?_ | (refine W_opgT rfl rfl ?hg ?_; (case hg => (simp only [WG, reduceIte, Nat.reduceEqDiff]; done)))); simp only [WB, execE, unE, args0, reduceIte, Nat.reduceEqDiff, Nat.reduceAdd, Nat.reduceLeDiff, g0', w2, binE, isShift, intBin, WO, fillX, splice, Wo_some])
      | (refine W_opgF rfl rfl ?hg ?_; (case hg => (simp only [WG, reduceIte, Nat.reduceEqDiff]; done)))
      | (refine W_opgU rfl ?hg ?_; (case hg => (simp only [upd_at, reduceIte, Nat.reduceEqDiff]; done))) | (refine W_callN rfl ?hg ?_; (case hg => (simp only [WG, reduceIte, Nat.reduceEqDiff]; done))) | rw [W_seq] | rw [W_reg] | rw [push_no] | rw [push_yes] | rw [W_onil] | rw [W_skip] | rw [W_blk] | rw [W_b] | refine W_regd0 ?_ | refine W_regd ?_)
    refine W_callA rfl ?hargs (call18 (n := ph - 1) hb.1 hb.2) ?_
    case hargs => simp only [WB, execE, unE, args0, reduceIte, Nat.reduceEqDiff, Nat.reduceAdd, Nat.reduceLeDiff] <;> rfl
    rintro v m1 ⟨rfl, k1⟩ hs1
    repeat (first
      | ((first | refine W_op rfl rfl ?_ | (refine W_opgT rfl rfl ?hg ?_; (case hg => (simp only [WG, reduceIte, Nat.reduceEqDiff]; done)))); simp only [WB, execE, unE, args0, reduceIte, Nat.reduceEqDiff, Nat.reduceAdd, Nat.reduceLeDiff, binE, isShift, strcatI, Nat.reduceAdd, Nat.reduceLeDiff, WO, fillX, splice, Wo_some])
      | (refine W_opgF rfl rfl ?hg ?_; (case hg => (simp only [WG, reduceIte, Nat.reduceEqDiff]; done)))
      | (refine W_opgU rfl ?hg ?_; (case hg => (simp only [upd_at, reduceIte, Nat.reduceEqDiff]; done))) | (refine W_callN rfl ?hg ?_; (case hg => (simp only [WG, reduceIte, Nat.reduceEqDiff]; done))) | rw [W_seq] | rw [W_reg] | rw [push_no] | rw [push_yes] | rw [W_onil] | rw [W_skip] | rw [W_blk] | rw [W_b] | refine W_regd0 ?_ | refine W_regd ?_)
    refine W_getRet (by repeat (first | exact hg | exact args0_un (Nat.le_of_ble_eq_true rfl) | refine upd_un ?_ rfl)) ?_
    refine ⟨hs1.ds.trans dB, _, rfl, ?_, (kB'.trans k1 (by simp)).out⟩
    unfold wayT
    rw [if_neg h6, if_neg h8]
    rfl
def phrC (nk num ph pos st og : Int) : List AV := [.s ⟨#[]⟩, .s ⟨(phrT nk num 1 ph pos st og).toArray⟩, .s ⟨(phrT nk num 2 ph pos st og).toArray⟩, .s ⟨(phrT nk num 3 ph pos st og).toArray⟩, .s ⟨(phrT nk num 4 ph pos st og).toArray⟩, .s ⟨(phrT nk num 5 ph pos st og).toArray⟩, .s ⟨(phrT nk num 6 ph pos st og).toArray⟩, .s ⟨(phrT nk num 7 ph pos st og).toArray⟩, .s ⟨(phrT nk num 8 ph pos st og).toArray⟩, .s ⟨(phrT nk num 9 ph pos st og).toArray⟩, .s ⟨(phrT nk num 10 ph pos st og).toArray⟩, .s ⟨(phrT nk num 11 ph pos st og).toArray⟩, .s ⟨(phrT nk num 12 ph pos st og).toArray⟩, .s ⟨(phrT nk num 13 ph pos st og).toArray⟩, .s ⟨(phrT nk num 14 ph pos st og).toArray⟩]
theorem phrC_at {nk num ph pos st og : Int} {i : Nat} (h1 : 1 ≤ i) (h2 : i ≤ 14) : (phrC nk num ph pos st og)[i]? = some (.s ⟨(phrT nk num (i : Int) ph pos st og).toArray⟩) := by
  have h : i = 1 ∨ i = 2 ∨ i = 3 ∨ i = 4 ∨ i = 5 ∨ i = 6 ∨ i = 7 ∨ i = 8 ∨ i = 9 ∨ i = 10 ∨ i = 11 ∨ i = 12 ∨ i = 13 ∨ i = 14 := by omega
  rcases h with rfl | rfl | rfl | rfl | rfl | rfl | rfl | rfl | rfl | rfl | rfl | rfl | rfl | rfl <;> rfl
def agT (ph : Int) : List UInt8 := if ph > 0 then [32, 97, 103, 97, 105, 110, 115, 116, 32, 105, 116] else []
def ms1 (num pos : Int) (nk : Int) : List UInt8 := if nk = 4 then [103, 114, 111, 117, 112, 32] ++ digI num ++ [32, 102, 97, 105, 108, 115, 32, 97, 116, 32] ++ digI pos else [102, 97, 105, 108, 115, 32, 97, 116, 32] ++ digI pos
def ms2 (num pos : Int) (nk : Int) : List UInt8 := if nk = 10 then [102, 97, 105, 108, 115, 32, 116, 111, 32, 98, 101, 32, 115, 111, 32, 102, 97, 114, 32, 98, 97, 99, 107, 32, 97, 116, 32] ++ digI pos else ms1 num pos nk
theorem ms2_eq {nk num ph pos st og : Int} : (if ph = 3 then [116, 104, 101, 32, 116, 117, 114, 110, 32, 116, 111, 111, 107, 32, 110, 111, 116, 104, 105, 110, 103] else ms2 num pos nk) = phrT nk num 3 ph pos st og := by
  show _ = (if ph = 3 then missT nk ph num else missT nk ph num ++ digI pos)
  unfold ms2 ms1 missT
  by_cases h3 : ph = 3
  · simp only [h3, if_true]
  · simp only [h3, if_false]
    by_cases h10 : nk = 10
    · simp only [h10, if_true]
    · simp only [h10, if_false]
      by_cases h4 : nk = 4
      · simp only [h4, if_true]
      · simp only [h4, if_false]
theorem agT_len (ph : Int) : (agT ph).length ≤ 11 := by unfold agT; split <;> simp
theorem ends_ag (w : List UInt8) (ph : Int) : endsT w ph = w ++ agT ph := by
  unfold endsT agT; split <;> simp
set_option maxHeartbeats 16000000 in
theorem call20 {m : AMem} {k kd ph pos st og nk fr to num : Int} (hn : InI64 num) (hkd : 1 ≤ kd ∧ kd ≤ 14) (h0 : 0 ≤ ph) (h1 : ph ≤ 100000) (hpos : InI64 pos) (hst : InI64 st) (hog : InI64 og) :
    Vi.Call T 20 [.agg (rsC k kd ph pos st og nk fr to num)] m (fun v m' => v = .s ⟨(phrT nk num kd ph pos st og).toArray⟩ ∧ Keep m m' []) := by
  obtain ⟨kn, rfl⟩ : ∃ kn : Nat, kd = kn := ⟨kd.toNat, by omega⟩
  refine Vi.Call.ofP T20 (Nat.le_of_ble_eq_true rfl) ?_
  unfold v20 rsC
  repeat (first | rw [W_seq] | rw [W_reg] | rw [push_no] | rw [push_yes] | rw [W_onil] | rw [W_skip] | rw [W_blk] | rw [W_b] | refine W_regd0 ?_ | refine W_regd ?_)
  refine W_op rfl rfl ?_
  simp only [WB, execE, unE, args0, reduceIte, Nat.reduceEqDiff, Nat.reduceAdd, Nat.reduceLeDiff, WO, fillX, splice, Wo_some]
  repeat (first | rw [push_no] | rw [push_yes] | rw [W_onil])
  obtain ⟨mB, hmB, kB, bB, g0, dB, _, nB⟩ := mk_new m.inn [.i .i64 k, .i .i64 kn, .i .i64 ph, .i .i64 pos, .i .i64 st, .i .i64 og, .i .i64 nk, .i .i64 fr, .i .i64 to, .i .i64 num] true (10 : Nat) 10 rfl
  have kB' : Keep m mB [] := kB.ofInn
  have g0' : mB.get m.next = some (.cells [.i .i64 k, .i .i64 kn, .i .i64 ph, .i .i64 pos, .i .i64 st, .i .i64 og, .i .i64 nk, .i .i64 fr, .i .i64 to, .i .i64 num] true (10 : Nat)) := g0
  have nB' : m.next < mB.next := nB
  rw [← hmB]
  clear hmB
  have i1 : Sm (digI pos) 21 := sm_digI hpos
  have i2 : Sm (digI num) 21 := sm_digI hn
  have i3 : Sm (digI st) 21 := sm_digI hst
  have i4 : Sm (digI og) 21 := sm_digI hog
  have i5 : Sm (wayT nk ph) 40 := ⟨wayT_len h0 h1⟩
  have i6 : Sm (agT ph) 11 := ⟨agT_len ph⟩
  repeat (first
    | ((first | refine W_op rfl rfl ?_ | (refine W_opgT rfl rfl ?hg ?_; (case hg => (simp only [WG, reduceIte, Nat.reduceEqDiff]; done)))); simp only [WB, execE, unE, args0, reduceIte, Nat.reduceEqDiff, Nat.reduceAdd, Nat.reduceLeDiff, g0', WO, fillX, splice, Wo_some])
    | (refine W_opgF rfl rfl ?hg ?_; (case hg => (simp only [WG, reduceIte, Nat.reduceEqDiff]; done)))
    | (refine W_opgU rfl ?hg ?_; (case hg => (simp only [upd_at, reduceIte, Nat.reduceEqDiff]; done))) | (refine W_callN rfl ?hg ?_; (case hg => (simp only [WG, reduceIte, Nat.reduceEqDiff]; done))) | rw [W_seq] | rw [W_reg] | rw [push_no] | rw [push_yes] | rw [W_onil] | rw [W_skip] | rw [W_blk] | rw [W_b] | refine W_regd0 ?_ | refine W_regd ?_)
  refine W_callA rfl ?hargs (call18 (n := pos) hpos.1 hpos.2) ?_
  case hargs => simp only [WB, execE, unE, args0, reduceIte, Nat.reduceEqDiff, Nat.reduceAdd, Nat.reduceLeDiff] <;> rfl
  rintro v m1 ⟨rfl, k1⟩ hs1
  have g1 := k1.at nB' (by simp) g0'
  have kk1 : Keep m m1 [] := kB'.trans k1 (by simp)
  have n1 : m.next < m1.next := Nat.lt_of_lt_of_le nB' k1.next
  have d1 : m1.ds = [] := hs1.ds.trans dB
  repeat (first
    | ((first | refine W_op rfl rfl ?_ | (refine W_opgT rfl rfl ?hg ?_; (case hg => (simp only [WG, reduceIte, Nat.reduceEqDiff]; done)))); simp only [WB, execE, unE, args0, reduceIte, Nat.reduceEqDiff, Nat.reduceAdd, Nat.reduceLeDiff, g1, binE, isShift, intBin, WO, fillX, splice, Wo_some])
    | (refine W_opgF rfl rfl ?hg ?_; (case hg => (simp only [WG, reduceIte, Nat.reduceEqDiff]; done)))
    | (refine W_opgU rfl ?hg ?_; (case hg => (simp only [upd_at, reduceIte, Nat.reduceEqDiff]; done))) | (refine W_callN rfl ?hg ?_; (case hg => (simp only [WG, reduceIte, Nat.reduceEqDiff]; done))) | rw [W_seq] | rw [W_reg] | rw [push_no] | rw [push_yes] | rw [W_onil] | rw [W_skip] | rw [W_blk] | rw [W_b] | refine W_regd0 ?_ | refine W_regd ?_)
  refine W_cutQ [_] (fun g' m' => g' 1 = .p (some (m.next, 0)) ∧ g' 3 = .s ⟨(digI pos).toArray⟩ ∧ g' 4 = .s ⟨(agT ph).toArray⟩ ∧ m' = m1) ?_ ?_
  · simp only [List.cons_append, List.nil_append]
    by_cases h : ph > 0
    · have c : decide (ph > 0) = true := decide_eq_true h
      have e : agT ph = [32, 97, 103, 97, 105, 110, 115, 116, 32, 105, 116] := if_pos h
      refine W_cond ?_
      simp only [WB, execE, unE, args0, reduceIte, Nat.reduceEqDiff, Nat.reduceAdd, Nat.reduceLeDiff, WC, c]
      repeat (first
        | ((first | refine W_op rfl rfl ?_ | (refine W_opgT rfl rfl ?hg ?_; (case hg => (simp only [WG, reduceIte, Nat.reduceEqDiff]; done)))); simp only [WB, execE, unE, args0, reduceIte, Nat.reduceEqDiff, Nat.reduceAdd, Nat.reduceLeDiff, WO, fillX, splice, Wo_some])
        | (refine W_opgF rfl rfl ?hg ?_; (case hg => (simp only [WG, reduceIte, Nat.reduceEqDiff]; done)))
        | (refine W_opgU rfl ?hg ?_; (case hg => (simp only [upd_at, reduceIte, Nat.reduceEqDiff]; done))) | (refine W_callN rfl ?hg ?_; (case hg => (simp only [WG, reduceIte, Nat.reduceEqDiff]; done))) | rw [W_seq] | rw [W_reg] | rw [push_no] | rw [push_yes] | rw [W_onil] | rw [W_skip] | rw [W_blk] | rw [W_b] | refine W_regd0 ?_ | refine W_regd ?_)
      refine W_j (by repeat (first | exact hg | exact args0_un (Nat.le_of_ble_eq_true rfl) | refine upd_un ?_ rfl)) ?_
      rw [e]
      refine ⟨?_, ?_, ?_, rfl⟩ <;> simp only [upd_at, reduceIte, Nat.reduceEqDiff]
    · have c : decide (ph > 0) = false := decide_eq_false h
      have e : agT ph = [] := if_neg h
      refine W_cond ?_
      simp only [WB, execE, unE, args0, reduceIte, Nat.reduceEqDiff, Nat.reduceAdd, Nat.reduceLeDiff, WC, c]
      repeat (first
        | ((first | refine W_op rfl rfl ?_ | (refine W_opgT rfl rfl ?hg ?_; (case hg => (simp only [WG, reduceIte, Nat.reduceEqDiff]; done)))); simp only [WB, execE, unE, args0, reduceIte, Nat.reduceEqDiff, Nat.reduceAdd, Nat.reduceLeDiff, WO, fillX, splice, Wo_some])
        | (refine W_opgF rfl rfl ?hg ?_; (case hg => (simp only [WG, reduceIte, Nat.reduceEqDiff]; done)))
        | (refine W_opgU rfl ?hg ?_; (case hg => (simp only [upd_at, reduceIte, Nat.reduceEqDiff]; done))) | (refine W_callN rfl ?hg ?_; (case hg => (simp only [WG, reduceIte, Nat.reduceEqDiff]; done))) | rw [W_seq] | rw [W_reg] | rw [push_no] | rw [push_yes] | rw [W_onil] | rw [W_skip] | rw [W_blk] | rw [W_b] | refine W_regd0 ?_ | refine W_regd ?_)
      refine W_j (by repeat (first | exact hg | exact args0_un (Nat.le_of_ble_eq_true rfl) | refine upd_un ?_ rfl)) ?_
      rw [e]
      refine ⟨?_, ?_, ?_, rfl⟩ <;> simp only [upd_at, reduceIte, Nat.reduceEqDiff]
  rintro g m1' ⟨q1, q3, q4, rfl⟩ hg
  repeat (first
    | ((first | refine W_op rfl rfl ?_ | (refine W_opgT rfl rfl ?hg ?_; (case hg => (simp only [WG, reduceIte, Nat.reduceEqDiff]; done)))); simp only [WB, execE, unE, args0, reduceIte, Nat.reduceEqDiff, Nat.reduceAdd, Nat.reduceLeDiff, q1, g1, WO, fillX, splice, Wo_some])
    | (refine W_opgF rfl rfl ?hg ?_; (case hg => (simp only [WG, reduceIte, Nat.reduceEqDiff]; done)))
    | (refine W_opgU rfl ?hg ?_; (case hg => (simp only [upd_at, reduceIte, Nat.reduceEqDiff]; done))) | (refine W_callN rfl ?hg ?_; (case hg => (simp only [WG, reduceIte, Nat.reduceEqDiff]; done))) | rw [W_seq] | rw [W_reg] | rw [push_no] | rw [push_yes] | rw [W_onil] | rw [W_skip] | rw [W_blk] | rw [W_b] | refine W_regd0 ?_ | refine W_regd ?_)
  refine W_callA rfl ?hargs (call18 (n := num) hn.1 hn.2) ?_
  case hargs => simp only [WB, execE, unE, args0, reduceIte, Nat.reduceEqDiff, Nat.reduceAdd, Nat.reduceLeDiff] <;> rfl
  rintro v m2 ⟨rfl, k2⟩ hs2
  have g2 := k2.at n1 (by simp) g1
  have kk2 : Keep m m2 [] := kk1.trans k2 (by simp)
  have n2 : m.next < m2.next := Nat.lt_of_lt_of_le n1 k2.next
  have d2 : m2.ds = [] := hs2.ds.trans d1
  repeat (first
    | ((first | refine W_op rfl rfl ?_ | (refine W_opgT rfl rfl ?hg ?_; (case hg => (simp only [WG, reduceIte, Nat.reduceEqDiff]; done)))); simp only [WB, execE, unE, args0, reduceIte, Nat.reduceEqDiff, Nat.reduceAdd, Nat.reduceLeDiff, q1, q3, g2, binE, isShift, intBin, strcatI, Nat.reduceAdd, Nat.reduceLeDiff, WO, fillX, splice, Wo_some])
    | (refine W_opgF rfl rfl ?hg ?_; (case hg => (simp only [WG, reduceIte, Nat.reduceEqDiff]; done)))
    | (refine W_opgU rfl ?hg ?_; (case hg => (simp only [upd_at, reduceIte, Nat.reduceEqDiff]; done))) | (refine W_callN rfl ?hg ?_; (case hg => (simp only [WG, reduceIte, Nat.reduceEqDiff]; done))) | rw [W_seq] | rw [W_reg] | rw [push_no] | rw [push_yes] | rw [W_onil] | rw [W_skip] | rw [W_blk] | rw [W_b] | refine W_regd0 ?_ | refine W_regd ?_)
  refine W_cutQ [_] (fun g' m' => g' 1 = .p (some (m.next, 0)) ∧ g' 3 = .s ⟨(digI pos).toArray⟩ ∧ g' 4 = .s ⟨(agT ph).toArray⟩ ∧ g' 5 = .s ⟨([103, 114, 111, 117, 112, 32] ++ digI num).toArray⟩ ∧ g' 6 = .s ⟨(ms1 num pos nk).toArray⟩ ∧ m' = m2) ?_ ?_
  · simp only [List.cons_append, List.nil_append]
    by_cases h : nk = 4
    · have c : (nk == 4) = true := by simpa using h
      have e : ms1 num pos nk = [103, 114, 111, 117, 112, 32] ++ digI num ++ [32, 102, 97, 105, 108, 115, 32, 97, 116, 32] ++ digI pos := if_pos h
      refine W_cond ?_
      simp only [WB, execE, unE, args0, reduceIte, Nat.reduceEqDiff, Nat.reduceAdd, Nat.reduceLeDiff, WC, c]
      repeat (first
        | ((first | refine W_op rfl rfl ?_ | (refine W_opgT rfl rfl ?hg ?_; (case hg => (simp only [WG, reduceIte, Nat.reduceEqDiff]; done)))); simp only [WB, execE, unE, args0, reduceIte, Nat.reduceEqDiff, Nat.reduceAdd, Nat.reduceLeDiff, q3, binE, isShift, strcatI, Nat.reduceAdd, Nat.reduceLeDiff, WO, fillX, splice, Wo_some])
        | (refine W_opgF rfl rfl ?hg ?_; (case hg => (simp only [WG, reduceIte, Nat.reduceEqDiff]; done)))
        | (refine W_opgU rfl ?hg ?_; (case hg => (simp only [upd_at, reduceIte, Nat.reduceEqDiff]; done))) | (refine W_callN rfl ?hg ?_; (case hg => (simp only [WG, reduceIte, Nat.reduceEqDiff]; done))) | rw [W_seq] | rw [W_reg] | rw [push_no] | rw [push_yes] | rw [W_onil] | rw [W_skip] | rw [W_blk] | rw [W_b] | refine W_regd0 ?_ | refine W_regd ?_)
      refine W_j (by repeat (first | exact hg | exact args0_un (Nat.le_of_ble_eq_true rfl) | refine upd_un ?_ rfl)) ?_
      rw [e]
      refine ⟨?_, ?_, ?_, ?_, ?_, rfl⟩ <;> simp only [upd_at, reduceIte, Nat.reduceEqDiff, q1, q3, q4, List.cons_append, List.nil_append]
    · have c : (nk == 4) = false := by simpa using h
      have e : ms1 num pos nk = [102, 97, 105, 108, 115, 32, 97, 116, 32] ++ digI pos := if_neg h
      refine W_cond ?_
      simp only [WB, execE, unE, args0, reduceIte, Nat.reduceEqDiff, Nat.reduceAdd, Nat.reduceLeDiff, WC, c]
      repeat (first
        | ((first | refine W_op rfl rfl ?_ | (refine W_opgT rfl rfl ?hg ?_; (case hg => (simp only [WG, reduceIte, Nat.reduceEqDiff]; done)))); simp only [WB, execE, unE, args0, reduceIte, Nat.reduceEqDiff, Nat.reduceAdd, Nat.reduceLeDiff, WO, fillX, splice, Wo_some])
        | (refine W_opgF rfl rfl ?hg ?_; (case hg => (simp only [WG, reduceIte, Nat.reduceEqDiff]; done)))
        | (refine W_opgU rfl ?hg ?_; (case hg => (simp only [upd_at, reduceIte, Nat.reduceEqDiff]; done))) | (refine W_callN rfl ?hg ?_; (case hg => (simp only [WG, reduceIte, Nat.reduceEqDiff]; done))) | rw [W_seq] | rw [W_reg] | rw [push_no] | rw [push_yes] | rw [W_onil] | rw [W_skip] | rw [W_blk] | rw [W_b] | refine W_regd0 ?_ | refine W_regd ?_)
      refine W_j (by repeat (first | exact hg | exact args0_un (Nat.le_of_ble_eq_true rfl) | refine upd_un ?_ rfl)) ?_
      rw [e]
      refine ⟨?_, ?_, ?_, ?_, ?_, rfl⟩ <;> simp only [upd_at, reduceIte, Nat.reduceEqDiff, q1, q3, q4, List.cons_append, List.nil_append]
  clear q1 q3 q4 hg g
  rintro g m2' ⟨q1, q3, q4, q5, q6, rfl⟩ hg
  repeat (first
    | ((first | refine W_op rfl rfl ?_ | (refine W_opgT rfl rfl ?hg ?_; (case hg => (simp only [WG, reduceIte, Nat.reduceEqDiff]; done)))); simp only [WB, execE, unE, args0, reduceIte, Nat.reduceEqDiff, Nat.reduceAdd, Nat.reduceLeDiff, q1, g2, binE, isShift, intBin, WO, fillX, splice, Wo_some])
    | (refine W_opgF rfl rfl ?hg ?_; (case hg => (simp only [WG, reduceIte, Nat.reduceEqDiff]; done)))
    | (refine W_opgU rfl ?hg ?_; (case hg => (simp only [upd_at, reduceIte, Nat.reduceEqDiff]; done))) | (refine W_callN rfl ?hg ?_; (case hg => (simp only [WG, reduceIte, Nat.reduceEqDiff]; done))) | rw [W_seq] | rw [W_reg] | rw [push_no] | rw [push_yes] | rw [W_onil] | rw [W_skip] | rw [W_blk] | rw [W_b] | refine W_regd0 ?_ | refine W_regd ?_)
  refine W_cutQ [_] (fun g' m' => g' 1 = .p (some (m.next, 0)) ∧ g' 3 = .s ⟨(digI pos).toArray⟩ ∧ g' 4 = .s ⟨(agT ph).toArray⟩ ∧ g' 5 = .s ⟨([103, 114, 111, 117, 112, 32] ++ digI num).toArray⟩ ∧ g' 6 = .s ⟨(ms2 num pos nk).toArray⟩ ∧ m' = m2') ?_ ?_
  · simp only [List.cons_append, List.nil_append]
    by_cases h : nk = 10
    · have c : (nk == 10) = true := by simpa using h
      have e : ms2 num pos nk = [102, 97, 105, 108, 115, 32, 116, 111, 32, 98, 101, 32, 115, 111, 32, 102, 97, 114, 32, 98, 97, 99, 107, 32, 97, 116, 32] ++ digI pos := if_pos h
      refine W_cond ?_
      simp only [WB, execE, unE, args0, reduceIte, Nat.reduceEqDiff, Nat.reduceAdd, Nat.reduceLeDiff, WC, c]
      repeat (first
        | ((first | refine W_op rfl rfl ?_ | (refine W_opgT rfl rfl ?hg ?_; (case hg => (simp only [WG, reduceIte, Nat.reduceEqDiff]; done)))); simp only [WB, execE, unE, args0, reduceIte, Nat.reduceEqDiff, Nat.reduceAdd, Nat.reduceLeDiff, q3, binE, isShift, strcatI, Nat.reduceAdd, Nat.reduceLeDiff, WO, fillX, splice, Wo_some])
        | (refine W_opgF rfl rfl ?hg ?_; (case hg => (simp only [WG, reduceIte, Nat.reduceEqDiff]; done)))
        | (refine W_opgU rfl ?hg ?_; (case hg => (simp only [upd_at, reduceIte, Nat.reduceEqDiff]; done))) | (refine W_callN rfl ?hg ?_; (case hg => (simp only [WG, reduceIte, Nat.reduceEqDiff]; done))) | rw [W_seq] | rw [W_reg] | rw [push_no] | rw [push_yes] | rw [W_onil] | rw [W_skip] | rw [W_blk] | rw [W_b] | refine W_regd0 ?_ | refine W_regd ?_)
      refine W_j (by repeat (first | exact hg | exact args0_un (Nat.le_of_ble_eq_true rfl) | refine upd_un ?_ rfl)) ?_
      rw [e]
      refine ⟨?_, ?_, ?_, ?_, ?_, rfl⟩ <;> simp only [upd_at, reduceIte, Nat.reduceEqDiff, q1, q3, q4, q5, q6, List.cons_append, List.nil_append]
    · have c : (nk == 10) = false := by simpa using h
      have e : ms2 num pos nk = ms1 num pos nk := if_neg h
      refine W_cond ?_
      simp only [WB, execE, unE, args0, reduceIte, Nat.reduceEqDiff, Nat.reduceAdd, Nat.reduceLeDiff, WC, c]
      repeat (first
        | ((first | refine W_op rfl rfl ?_ | (refine W_opgT rfl rfl ?hg ?_; (case hg => (simp only [WG, reduceIte, Nat.reduceEqDiff]; done)))); simp only [WB, execE, unE, args0, reduceIte, Nat.reduceEqDiff, Nat.reduceAdd, Nat.reduceLeDiff, WO, fillX, splice, Wo_some])
        | (refine W_opgF rfl rfl ?hg ?_; (case hg => (simp only [WG, reduceIte, Nat.reduceEqDiff]; done)))
        | (refine W_opgU rfl ?hg ?_; (case hg => (simp only [upd_at, reduceIte, Nat.reduceEqDiff]; done))) | (refine W_callN rfl ?hg ?_; (case hg => (simp only [WG, reduceIte, Nat.reduceEqDiff]; done))) | rw [W_seq] | rw [W_reg] | rw [push_no] | rw [push_yes] | rw [W_onil] | rw [W_skip] | rw [W_blk] | rw [W_b] | refine W_regd0 ?_ | refine W_regd ?_)
      refine W_j (by repeat (first | exact hg | exact args0_un (Nat.le_of_ble_eq_true rfl) | refine upd_un ?_ rfl)) ?_
      rw [e]
      refine ⟨?_, ?_, ?_, ?_, ?_, rfl⟩ <;> simp only [upd_at, reduceIte, Nat.reduceEqDiff, q1, q3, q4, q5, q6, List.cons_append, List.nil_append]
  clear q1 q3 q4 q5 q6 hg g
  rintro g m2'' ⟨q1, q3, q4, q5, q6, rfl⟩ hg
  repeat (first
    | ((first | refine W_op rfl rfl ?_ | (refine W_opgT rfl rfl ?hg ?_; (case hg => (simp only [WG, reduceIte, Nat.reduceEqDiff]; done)))); simp only [WB, execE, unE, args0, reduceIte, Nat.reduceEqDiff, Nat.reduceAdd, Nat.reduceLeDiff, q1, g2, binE, isShift, intBin, WO, fillX, splice, Wo_some])
    | (refine W_opgF rfl rfl ?hg ?_; (case hg => (simp only [WG, reduceIte, Nat.reduceEqDiff]; done)))
    | (refine W_opgU rfl ?hg ?_; (case hg => (simp only [upd_at, reduceIte, Nat.reduceEqDiff]; done))) | (refine W_callN rfl ?hg ?_; (case hg => (simp only [WG, reduceIte, Nat.reduceEqDiff]; done))) | rw [W_seq] | rw [W_reg] | rw [push_no] | rw [push_yes] | rw [W_onil] | rw [W_skip] | rw [W_blk] | rw [W_b] | refine W_regd0 ?_ | refine W_regd ?_)
  refine W_cutQ [_] (fun g' m' => g' 1 = .p (some (m.next, 0)) ∧ g' 3 = .s ⟨(digI pos).toArray⟩ ∧ g' 4 = .s ⟨(agT ph).toArray⟩ ∧ g' 5 = .s ⟨([103, 114, 111, 117, 112, 32] ++ digI num).toArray⟩ ∧ g' 6 = .s ⟨(phrT nk num 3 ph pos st og).toArray⟩ ∧ m' = m2'') ?_ ?_
  · simp only [List.cons_append, List.nil_append]
    rw [← ms2_eq]
    by_cases h : ph = 3
    · have c : (ph == 3) = true := by simpa using h
      rw [if_pos h]
      refine W_cond ?_
      simp only [WB, execE, unE, args0, reduceIte, Nat.reduceEqDiff, Nat.reduceAdd, Nat.reduceLeDiff, WC, c]
      repeat (first
        | ((first | refine W_op rfl rfl ?_ | (refine W_opgT rfl rfl ?hg ?_; (case hg => (simp only [WG, reduceIte, Nat.reduceEqDiff]; done)))); simp only [WB, execE, unE, args0, reduceIte, Nat.reduceEqDiff, Nat.reduceAdd, Nat.reduceLeDiff, WO, fillX, splice, Wo_some])
        | (refine W_opgF rfl rfl ?hg ?_; (case hg => (simp only [WG, reduceIte, Nat.reduceEqDiff]; done)))
        | (refine W_opgU rfl ?hg ?_; (case hg => (simp only [upd_at, reduceIte, Nat.reduceEqDiff]; done))) | (refine W_callN rfl ?hg ?_; (case hg => (simp only [WG, reduceIte, Nat.reduceEqDiff]; done))) | rw [W_seq] | rw [W_reg] | rw [push_no] | rw [push_yes] | rw [W_onil] | rw [W_skip] | rw [W_blk] | rw [W_b] | refine W_regd0 ?_ | refine W_regd ?_)
      refine W_j (by repeat (first | exact hg | exact args0_un (Nat.le_of_ble_eq_true rfl) | refine upd_un ?_ rfl)) ?_
      refine ⟨?_, ?_, ?_, ?_, ?_, rfl⟩ <;> simp only [upd_at, reduceIte, Nat.reduceEqDiff, q1, q3, q4, q5, q6, List.cons_append, List.nil_append]
    · have c : (ph == 3) = false := by simpa using h
      rw [if_neg h]
      refine W_cond ?_
      simp only [WB, execE, unE, args0, reduceIte, Nat.reduceEqDiff, Nat.reduceAdd, Nat.reduceLeDiff, WC, c]
      repeat (first
        | ((first | refine W_op rfl rfl ?_ | (refine W_opgT rfl rfl ?hg ?_; (case hg => (simp only [WG, reduceIte, Nat.reduceEqDiff]; done)))); simp only [WB, execE, unE, args0, reduceIte, Nat.reduceEqDiff, Nat.reduceAdd, Nat.reduceLeDiff, WO, fillX, splice, Wo_some])
        | (refine W_opgF rfl rfl ?hg ?_; (case hg => (simp only [WG, reduceIte, Nat.reduceEqDiff]; done)))
        | (refine W_opgU rfl ?hg ?_; (case hg => (simp only [upd_at, reduceIte, Nat.reduceEqDiff]; done))) | (refine W_callN rfl ?hg ?_; (case hg => (simp only [WG, reduceIte, Nat.reduceEqDiff]; done))) | rw [W_seq] | rw [W_reg] | rw [push_no] | rw [push_yes] | rw [W_onil] | rw [W_skip] | rw [W_blk] | rw [W_b] | refine W_regd0 ?_ | refine W_regd ?_)
      refine W_j (by repeat (first | exact hg | exact args0_un (Nat.le_of_ble_eq_true rfl) | refine upd_un ?_ rfl)) ?_
      refine ⟨?_, ?_, ?_, ?_, ?_, rfl⟩ <;> simp only [upd_at, reduceIte, Nat.reduceEqDiff, q1, q3, q4, q5, q6, List.cons_append, List.nil_append]
  clear q1 q3 q4 q5 q6 hg g
  rintro g mc ⟨q1, q3, q4, q5, q6, rfl⟩ hg
  repeat (first | rw [W_seq] | rw [W_reg] | rw [push_no] | rw [push_yes] | rw [W_onil] | rw [W_skip] | rw [W_blk] | rw [W_b] | refine W_regd0 ?_ | refine W_regd ?_)
  refine W_op rfl rfl ?_
  simp only [WB, execE, unE, args0, reduceIte, Nat.reduceEqDiff, Nat.reduceAdd, Nat.reduceLeDiff, WO, fillX, splice, Wo_some]
  repeat (first | rw [push_no] | rw [push_yes] | rw [W_onil])
  obtain ⟨mE, hmE, kE, bE, gE, dE, _, nE⟩ := mk_new mc [.s ⟨#[]⟩, .s ⟨#[]⟩, .s ⟨#[]⟩, .s ⟨#[]⟩, .s ⟨#[]⟩, .s ⟨#[]⟩, .s ⟨#[]⟩, .s ⟨#[]⟩, .s ⟨#[]⟩, .s ⟨#[]⟩, .s ⟨#[]⟩, .s ⟨#[]⟩, .s ⟨#[]⟩, .s ⟨#[]⟩, .s ⟨#[]⟩] true ⟨15, some 74⟩ 15 rfl
  rw [← hmE]
  clear hmE
  have y2 := kE.at n2 (by simp) g2
  have n3 : m.next < mE.next := Nat.lt_of_lt_of_le n2 kE.next
  have b2 : rd mE m.next 0 10 = some (rsC k kn ph pos st og nk fr to num) := by simp [rd, y2, rsC]
  repeat (first
    | ((first | refine W_op rfl rfl ?_ | (refine W_opgT rfl rfl ?hg ?_; (case hg => (simp only [WG, reduceIte, Nat.reduceEqDiff]; done)))); simp only [WB, execE, unE, args0, reduceIte, Nat.reduceEqDiff, Nat.reduceAdd, Nat.reduceLeDiff, q1, q3, q6, b2, binE, isShift, strcatI, Nat.reduceAdd, Nat.reduceLeDiff, WO, fillX, splice, Wo_some])
    | (refine W_opgF rfl rfl ?hg ?_; (case hg => (simp only [WG, reduceIte, Nat.reduceEqDiff]; done)))
    | (refine W_opgU rfl ?hg ?_; (case hg => (simp only [upd_at, reduceIte, Nat.reduceEqDiff]; done))) | (refine W_callN rfl ?hg ?_; (case hg => (simp only [WG, reduceIte, Nat.reduceEqDiff]; done))) | rw [W_seq] | rw [W_reg] | rw [push_no] | rw [push_yes] | rw [W_onil] | rw [W_skip] | rw [W_blk] | rw [W_b] | refine W_regd0 ?_ | refine W_regd ?_)
  refine W_callA rfl ?hargs (call40 (k := k) (kd := kn) (ph := ph) (pos := pos) (st := st) (og := og) (nk := nk) (fr := fr) (to := to) (num := num) h0 h1) ?_
  case hargs => simp only [WB, execE, unE, args0, reduceIte, Nat.reduceEqDiff, Nat.reduceAdd, Nat.reduceLeDiff] <;> rfl
  rintro v m3 ⟨rfl, k3⟩ hs3
  have y3 := k3.at n3 (by simp) y2
  have b3 := rd_keep b2 k3 n3 (by simp)
  have n4 : m.next < m3.next := Nat.lt_of_lt_of_le n3 k3.next
  have x3 := k3.at nE (by simp) gE
  have nx3 : mc.next < m3.next := Nat.lt_of_lt_of_le nE k3.next
  repeat (first
    | ((first | refine W_op rfl rfl ?_ | (refine W_opgT rfl rfl ?hg ?_; (case hg => (simp only [WG, reduceIte, Nat.reduceEqDiff]; done)))); simp only [WB, execE, unE, args0, reduceIte, Nat.reduceEqDiff, Nat.reduceAdd, Nat.reduceLeDiff, q1, y3, binE, isShift, strcatI, Nat.reduceAdd, Nat.reduceLeDiff, WO, fillX, splice, Wo_some])
    | (refine W_opgF rfl rfl ?hg ?_; (case hg => (simp only [WG, reduceIte, Nat.reduceEqDiff]; done)))
    | (refine W_opgU rfl ?hg ?_; (case hg => (simp only [upd_at, reduceIte, Nat.reduceEqDiff]; done))) | (refine W_callN rfl ?hg ?_; (case hg => (simp only [WG, reduceIte, Nat.reduceEqDiff]; done))) | rw [W_seq] | rw [W_reg] | rw [push_no] | rw [push_yes] | rw [W_onil] | rw [W_skip] | rw [W_blk] | rw [W_b] | refine W_regd0 ?_ | refine W_regd ?_)
  refine W_callA rfl ?hargs (call18 (n := og) hog.1 hog.2) ?_
  case hargs => simp only [WB, execE, unE, args0, reduceIte, Nat.reduceEqDiff, Nat.reduceAdd, Nat.reduceLeDiff] <;> rfl
  rintro v m4 ⟨rfl, k4⟩ hs4
  have y4 := k4.at n4 (by simp) y3
  have b4 := rd_keep b3 k4 n4 (by simp)
  have n5 : m.next < m4.next := Nat.lt_of_lt_of_le n4 k4.next
  have x4 := k4.at nx3 (by simp) x3
  have nx4 : mc.next < m4.next := Nat.lt_of_lt_of_le nx3 k4.next
  repeat (first
    | ((first | refine W_op rfl rfl ?_ | (refine W_opgT rfl rfl ?hg ?_; (case hg => (simp only [WG, reduceIte, Nat.reduceEqDiff]; done)))); simp only [WB, execE, unE, args0, reduceIte, Nat.reduceEqDiff, Nat.reduceAdd, Nat.reduceLeDiff, q1, b4, binE, isShift, strcatI, Nat.reduceAdd, Nat.reduceLeDiff, WO, fillX, splice, Wo_some])
    | (refine W_opgF rfl rfl ?hg ?_; (case hg => (simp only [WG, reduceIte, Nat.reduceEqDiff]; done)))
    | (refine W_opgU rfl ?hg ?_; (case hg => (simp only [upd_at, reduceIte, Nat.reduceEqDiff]; done))) | (refine W_callN rfl ?hg ?_; (case hg => (simp only [WG, reduceIte, Nat.reduceEqDiff]; done))) | rw [W_seq] | rw [W_reg] | rw [push_no] | rw [push_yes] | rw [W_onil] | rw [W_skip] | rw [W_blk] | rw [W_b] | refine W_regd0 ?_ | refine W_regd ?_)
  refine W_callA rfl ?hargs (call40 (k := k) (kd := kn) (ph := ph) (pos := pos) (st := st) (og := og) (nk := nk) (fr := fr) (to := to) (num := num) h0 h1) ?_
  case hargs => simp only [WB, execE, unE, args0, reduceIte, Nat.reduceEqDiff, Nat.reduceAdd, Nat.reduceLeDiff] <;> rfl
  rintro v m5 ⟨rfl, k5⟩ hs5
  have y5 := k5.at n5 (by simp) y4
  have b5 := rd_keep b4 k5 n5 (by simp)
  have n6 : m.next < m5.next := Nat.lt_of_lt_of_le n5 k5.next
  have x5 := k5.at nx4 (by simp) x4
  have nx5 : mc.next < m5.next := Nat.lt_of_lt_of_le nx4 k5.next
  repeat (first
    | ((first | refine W_op rfl rfl ?_ | (refine W_opgT rfl rfl ?hg ?_; (case hg => (simp only [WG, reduceIte, Nat.reduceEqDiff]; done)))); simp only [WB, execE, unE, args0, reduceIte, Nat.reduceEqDiff, Nat.reduceAdd, Nat.reduceLeDiff, q1, q3, q4, q5, y5, binE, isShift, strcatI, Nat.reduceAdd, Nat.reduceLeDiff, WO, fillX, splice, Wo_some])
    | (refine W_opgF rfl rfl ?hg ?_; (case hg => (simp only [WG, reduceIte, Nat.reduceEqDiff]; done)))
    | (refine W_opgU rfl ?hg ?_; (case hg => (simp only [upd_at, reduceIte, Nat.reduceEqDiff]; done))) | (refine W_callN rfl ?hg ?_; (case hg => (simp only [WG, reduceIte, Nat.reduceEqDiff]; done))) | rw [W_seq] | rw [W_reg] | rw [push_no] | rw [push_yes] | rw [W_onil] | rw [W_skip] | rw [W_blk] | rw [W_b] | refine W_regd0 ?_ | refine W_regd ?_)
  refine W_callA rfl ?hargs (call18 (n := st) hst.1 hst.2) ?_
  case hargs => simp only [WB, execE, unE, args0, reduceIte, Nat.reduceEqDiff, Nat.reduceAdd, Nat.reduceLeDiff] <;> rfl
  rintro v m6 ⟨rfl, k6⟩ hs6
  have y6 := k6.at n6 (by simp) y5
  have b6 := rd_keep b5 k6 n6 (by simp)
  have n7 : m.next < m6.next := Nat.lt_of_lt_of_le n6 k6.next
  have x6 := k6.at nx5 (by simp) x5
  have nx6 : mc.next < m6.next := Nat.lt_of_lt_of_le nx5 k6.next
  repeat (first
    | ((first | refine W_op rfl rfl ?_ | (refine W_opgT rfl rfl ?hg ?_; (case hg => (simp only [WG, reduceIte, Nat.reduceEqDiff]; done)))); simp only [WB, execE, unE, args0, reduceIte, Nat.reduceEqDiff, Nat.reduceAdd, Nat.reduceLeDiff, q3, x6, binE, isShift, strcatI, Nat.reduceAdd, Nat.reduceLeDiff, WO, fillX, splice, Wo_some])
    | (refine W_opgF rfl rfl ?hg ?_; (case hg => (simp only [WG, reduceIte, Nat.reduceEqDiff]; done)))
    | (refine W_opgU rfl ?hg ?_; (case hg => (simp only [upd_at, reduceIte, Nat.reduceEqDiff]; done))) | (refine W_callN rfl ?hg ?_; (case hg => (simp only [WG, reduceIte, Nat.reduceEqDiff]; done))) | rw [W_seq] | rw [W_reg] | rw [push_no] | rw [push_yes] | rw [W_onil] | rw [W_skip] | rw [W_blk] | rw [W_b] | refine W_regd0 ?_ | refine W_regd ?_)
  refine W_dnil ?hs ?hnt ?_
  case hs => (simp only [SameIn, SameAt, List.nil_append, List.cons_append, reduceCtorEq, false_and, exists_false, exists_const, false_or, or_false, Option.some.injEq, exists_eq_left', exists_eq', or_true, and_true, WB, execE, unE, args0, reduceIte, Nat.reduceEqDiff, Nat.reduceAdd, Nat.reduceLeDiff, q1, y2, y3, y4, y5, y6, b2, b3, b4, b5, b6])
  case hnt => (simp only [List.nil_append, List.cons_append, List.forall_mem_cons, List.not_mem_nil, false_imp_iff, implies_true, and_true]; repeat' (first | exact hg | exact args0_un (Nat.le_of_ble_eq_true rfl) | refine upd_un ?_ rfl | constructor))
  have kk6 : Keep m m6 [] := ((((kk2.trans kE (by simp)).trans k3 (by simp)).trans k4 (by simp)).trans k5 (by simp)).trans k6 (by simp)
  have d6 : m6.ds = [] := hs6.ds.trans (hs5.ds.trans (hs4.ds.trans (hs3.ds.trans (dE.trans d2))))
  have p11 : phrT nk num 11 ph pos st og = [99, 111, 109, 101, 115, 32, 111, 117, 116] ++ agT ph := ends_ag [99, 111, 109, 101, 115, 32, 111, 117, 116] ph
  have p12 : phrT nk num 12 ph pos st og = [105, 115, 32, 103, 105, 118, 101, 110, 32, 117, 112] ++ agT ph := ends_ag [105, 115, 32, 103, 105, 118, 101, 110, 32, 117, 112] ph
  have nmc := n2
  refine W_cutQ [] (fun g' m' => g' 1 = .p (some (m.next, 0)) ∧ g' 7 = .p (some (mc.next, 0)) ∧ m'.get mc.next = some (.cells (phrC nk num ph pos st og) true ⟨15, some 74⟩) ∧ m'.get m.next = some (.cells [.i .i64 k, .i .i64 kn, .i .i64 ph, .i .i64 pos, .i .i64 st, .i .i64 og, .i .i64 nk, .i .i64 fr, .i .i64 to, .i .i64 num] true (10 : Nat)) ∧ Keep m m' [] ∧ m'.ds = []) ?_ ?_
  · simp only [List.nil_append]
    refine W_j (by repeat (first | exact hg | exact args0_un (Nat.le_of_ble_eq_true rfl) | refine upd_un ?_ rfl)) ?_
    refine ⟨?_, ?_, ?_, ?_, ?_, d6⟩
    · simp only [upd_at, reduceIte, Nat.reduceEqDiff, q1]
    · simp only [upd_at, reduceIte, Nat.reduceEqDiff]
    · rw [AMem.get_put, if_pos rfl]
      simp only [phrC, p11, p12]
      rfl
    · rw [AMem.get_put, if_neg (by omega)]; exact y6
    · exact kk6.trans (Keep.put _ _ _) (by intro x hx; have := List.mem_singleton.1 hx; right; omega)
  clear q1 q3 q4 q5 q6 hg g
  rintro g m7 ⟨q1, q7, hph, hm, kk7, d7⟩ hg
  have hat := phrC_at (nk := nk) (num := num) (ph := ph) (pos := pos) (st := st) (og := og) (i := kn) (by omega) (by omega)
  have hix : (0 ≤ (kn : Int) ∧ (kn : Int) < ((15 : Nat) : Int)) := ⟨by omega, by omega⟩
  repeat (first
    | ((first | refine W_op rfl rfl ?_ | (refine W_opgT rfl rfl ?hg ?_; (case hg => (simp only [WG, reduceIte, Nat.reduceEqDiff]; done)))); simp only [WB, execE, unE, args0, reduceIte, Nat.reduceEqDiff, Nat.reduceAdd, Nat.reduceLeDiff, q1, q7, hm, hph, hat, hix, Int.toNat_natCast, Nat.mul_one, WO, fillX, splice, Wo_some])
    | (refine W_opgF rfl rfl ?hg ?_; (case hg => (simp only [WG, reduceIte, Nat.reduceEqDiff]; done)))
    | (refine W_opgU rfl ?hg ?_; (case hg => (simp only [upd_at, reduceIte, Nat.reduceEqDiff]; done))) | (refine W_callN rfl ?hg ?_; (case hg => (simp only [WG, reduceIte, Nat.reduceEqDiff]; done))) | rw [W_seq] | rw [W_reg] | rw [push_no] | rw [push_yes] | rw [W_onil] | rw [W_skip] | rw [W_blk] | rw [W_b] | refine W_regd0 ?_ | refine W_regd ?_)
  refine W_getRet (by repeat (first | exact hg | exact args0_un (Nat.le_of_ble_eq_true rfl) | refine upd_un ?_ rfl)) ?_
  exact ⟨d7, _, rfl, rfl, kk7.out⟩
theorem nm_at {i : Nat} (h1 : 1 ≤ i) (h2 : i ≤ 14) : (enames.map fun x : List UInt8 => AV.s ⟨x.toArray⟩)[i]? = some (.s ⟨(eName (i : Int)).toArray⟩) := by
  have h : i = 1 ∨ i = 2 ∨ i = 3 ∨ i = 4 ∨ i = 5 ∨ i = 6 ∨ i = 7 ∨ i = 8 ∨ i = 9 ∨ i = 10 ∨ i = 11 ∨ i = 12 ∨ i = 13 ∨ i = 14 := by omega
  rcases h with rfl | rfl | rfl | rfl | rfl | rfl | rfl | rfl | rfl | rfl | rfl | rfl | rfl | rfl <;> rfl
set_option maxHeartbeats 4000000 in
theorem call8 {m : AMem} {pv : AV} {l : List UInt8} (hp : Arr m 1 pv l.length (cellsOfBytes l)) (hl : l.length ≤ 500) {k kd ph pos st og nk fr to num : Int} (hk : InI64 k) (hf0 : 0 ≤ fr) (hft : fr ≤ to) (hto : to ≤ 4096) (hn : InI64 num) (hkd : 1 ≤ kd ∧ kd ≤ 14) (h0 : 0 ≤ ph) (h1 : ph ≤ 100000) (hpos : InI64 pos) (hst : InI64 st) (hog : InI64 og) :
    Vi.Call T 8 [pv, .agg (rsC k kd ph pos st og nk fr to num)] m (fun v m' => v = .s ⟨([35] ++ digI k ++ [32] ++ spanT fr to ++ [32] ++ quote (partT l fr to) ++ [32] ++ eName kd ++ [58, 32] ++ phrT nk num kd ph pos st og).toArray⟩ ∧ Keep m m' []) := by
  obtain ⟨kn, rfl⟩ : ∃ kn : Nat, kd = kn := ⟨kd.toNat, by omega⟩
  have hlenp := hp.lenF
  have hop := hp.one
  refine Vi.Call.ofP T8 (Nat.le_of_ble_eq_true rfl) ?_
  unfold v8 rsC
  repeat (first | rw [W_seq] | rw [W_reg] | rw [push_no] | rw [push_yes] | rw [W_onil] | rw [W_skip] | rw [W_blk] | rw [W_b] | refine W_regd0 ?_ | refine W_regd ?_)
  refine W_op rfl rfl ?_
  simp only [WB, execE, unE, args0, reduceIte, Nat.reduceEqDiff, Nat.reduceAdd, Nat.reduceLeDiff, WO, fillX, splice, Wo_some]
  repeat (first | rw [push_no] | rw [push_yes] | rw [W_onil])
  obtain ⟨mB, hmB, kB, bB, g0, dB, _, nB⟩ := mk_new m.inn [.i .i64 k, .i .i64 kn, .i .i64 ph, .i .i64 pos, .i .i64 st, .i .i64 og, .i .i64 nk, .i .i64 fr, .i .i64 to, .i .i64 num] true (10 : Nat) 10 rfl
  have kB' : Keep m mB [] := kB.ofInn
  have g0' : mB.get m.next = some (.cells [.i .i64 k, .i .i64 kn, .i .i64 ph, .i .i64 pos, .i .i64 st, .i .i64 og, .i .i64 nk, .i .i64 fr, .i .i64 to, .i .i64 num] true (10 : Nat)) := g0
  have nB' : m.next < mB.next := nB
  rw [← hmB]
  clear hmB
  repeat (first
    | ((first | refine W_opS rfl rfl rfl ?_ | (refine W_opgT rfl rfl ?hg ?_; (case hg => (simp only [WG, reduceIte, Nat.reduceEqDiff]; done)))); simp only [WB, execE, unE, args0, reduceIte, Nat.reduceEqDiff, Nat.reduceAdd, Nat.reduceLeDiff, WO, fillX, splice, Wo_some])
    | (refine W_opgF rfl rfl ?hg ?_; (case hg => (simp only [WG, reduceIte, Nat.reduceEqDiff]; done)))
    | (refine W_opgU rfl ?hg ?_; (case hg => (simp only [upd_at, reduceIte, Nat.reduceEqDiff]; done))) | (refine W_callN rfl ?hg ?_; (case hg => (simp only [WG, reduceIte, Nat.reduceEqDiff]; done))) | rw [W_seq] | rw [W_reg] | rw [push_no] | rw [push_yes] | rw [W_onil] | rw [W_skip] | rw [W_blk] | rw [W_b] | refine W_regd0 ?_ | refine W_regd ?_)
  repeat (first | rw [W_seq] | rw [W_reg] | rw [push_no] | rw [push_yes] | rw [W_onil] | rw [W_skip] | rw [W_blk] | rw [W_b] | refine W_regd0 ?_ | refine W_regd ?_)
  refine W_op rfl rfl ?_
  simp only [WB, execE, unE, args0, reduceIte, Nat.reduceEqDiff, Nat.reduceAdd, Nat.reduceLeDiff, WO, fillX, splice, Wo_some]
  repeat (first | rw [push_no] | rw [push_yes] | rw [W_onil])
  obtain ⟨mC, hmC, kC, bC, gC, dC, _, nC⟩ := mk_put mB [.s ⟨#[]⟩, .s ⟨#[]⟩, .s ⟨#[]⟩, .s ⟨#[]⟩, .s ⟨#[]⟩, .s ⟨#[]⟩, .s ⟨#[]⟩, .s ⟨#[]⟩, .s ⟨#[]⟩, .s ⟨#[]⟩, .s ⟨#[]⟩, .s ⟨#[]⟩, .s ⟨#[]⟩, .s ⟨#[]⟩, .s ⟨#[]⟩] [.s ⟨#[]⟩, .s ⟨#[98, 101, 103, 105, 110]⟩, .s ⟨#[115, 116, 101, 112]⟩, .s ⟨#[109, 105, 115, 115]⟩, .s ⟨#[104, 101, 108, 100]⟩, .s ⟨#[116, 117, 114, 110]⟩, .s ⟨#[102, 111, 114, 107]⟩, .s ⟨#[97, 103, 97, 105, 110]⟩, .s ⟨#[111, 112, 101, 110]⟩, .s ⟨#[99, 108, 111, 115, 101]⟩, .s ⟨#[105, 110, 116, 111]⟩, .s ⟨#[111, 117, 116]⟩, .s ⟨#[100, 114, 111, 112]⟩, .s ⟨#[109, 97, 116, 99, 104]⟩, .s ⟨#[110, 111, 110, 101]⟩] true true ⟨15, some 74⟩ ⟨15, some 74⟩ 15 rfl
  rw [← hmC]
  clear hmC
  have kC' : Keep m mC [] := kB'.trans kC (by simp)
  have x0 : mC.get mB.next = some (.cells (enames.map fun x : List UInt8 => AV.s ⟨x.toArray⟩) true ⟨15, some 74⟩) := gC
  have y0 := kC.at nB' (by simp) g0'
  have ny0 : m.next < mC.next := Nat.lt_of_lt_of_le nB' kC.next
  have d0 : mC.ds = [] := dC.trans dB
  repeat (first
    | ((first | refine W_op rfl rfl ?_ | (refine W_opgT rfl rfl ?hg ?_; (case hg => (simp only [WG, reduceIte, Nat.reduceEqDiff]; done)))); simp only [WB, execE, unE, args0, reduceIte, Nat.reduceEqDiff, Nat.reduceAdd, Nat.reduceLeDiff, y0, ↓hlenp, binE, isShift, intBin, WO, fillX, splice, Wo_some])
    | (refine W_opgF rfl rfl ?hg ?_; (case hg => (simp only [WG, reduceIte, Nat.reduceEqDiff]; done)))
    | (refine W_opgU rfl ?hg ?_; (case hg => (simp only [upd_at, reduceIte, Nat.reduceEqDiff]; done))) | (refine W_callN rfl ?hg ?_; (case hg => (simp only [WG, reduceIte, Nat.reduceEqDiff]; done))) | rw [W_seq] | rw [W_reg] | rw [push_no] | rw [push_yes] | rw [W_onil] | rw [W_skip] | rw [W_blk] | rw [W_b] | refine W_regd0 ?_ | refine W_regd ?_)
  refine W_cutQ [_] (fun g' m' => g' 0 = pv ∧ g' 3 = .p (some (m.next, 0)) ∧ g' 5 = .p (some (mB.next, 0)) ∧ g' 6 = .i .i64 fr ∧ g' 7 = .i .i64 ((min to.toNat l.length : Nat) : Int) ∧ m' = mC) ?_ ?_
  · simp only [List.cons_append, List.nil_append]
    by_cases h : to > (l.length : Int)
    · have c : decide (to > (l.length : Int)) = true := decide_eq_true h
      have e : ((min to.toNat l.length : Nat) : Int) = (l.length : Int) := by omega
      rw [e]
      refine W_cond ?_
      simp only [WB, execE, unE, args0, reduceIte, Nat.reduceEqDiff, Nat.reduceAdd, Nat.reduceLeDiff, WC, c]
      repeat (first
        | ((first | refine W_op rfl rfl ?_ | (refine W_opgT rfl rfl ?hg ?_; (case hg => (simp only [WG, reduceIte, Nat.reduceEqDiff]; done)))); simp only [WB, execE, unE, args0, reduceIte, Nat.reduceEqDiff, Nat.reduceAdd, Nat.reduceLeDiff, ↓hlenp, WO, fillX, splice, Wo_some])
        | (refine W_opgF rfl rfl ?hg ?_; (case hg => (simp only [WG, reduceIte, Nat.reduceEqDiff]; done)))
        | (refine W_opgU rfl ?hg ?_; (case hg => (simp only [upd_at, reduceIte, Nat.reduceEqDiff]; done))) | (refine W_callN rfl ?hg ?_; (case hg => (simp only [WG, reduceIte, Nat.reduceEqDiff]; done))) | rw [W_seq] | rw [W_reg] | rw [push_no] | rw [push_yes] | rw [W_onil] | rw [W_skip] | rw [W_blk] | rw [W_b] | refine W_regd0 ?_ | refine W_regd ?_)
      refine W_j (by repeat (first | exact hg | exact args0_un (Nat.le_of_ble_eq_true rfl) | refine upd_un ?_ rfl)) ?_
      refine ⟨?_, ?_, ?_, ?_, ?_, rfl⟩ <;> simp only [upd_at, reduceIte, Nat.reduceEqDiff, args0, List.getD_cons_zero]
    · have c : decide (to > (l.length : Int)) = false := decide_eq_false h
      have e : ((min to.toNat l.length : Nat) : Int) = to := by omega
      rw [e]
      refine W_cond ?_
      simp only [WB, execE, unE, args0, reduceIte, Nat.reduceEqDiff, Nat.reduceAdd, Nat.reduceLeDiff, WC, c]
      repeat (first
        | ((first | refine W_op rfl rfl ?_ | (refine W_opgT rfl rfl ?hg ?_; (case hg => (simp only [WG, reduceIte, Nat.reduceEqDiff]; done)))); simp only [WB, execE, unE, args0, reduceIte, Nat.reduceEqDiff, Nat.reduceAdd, Nat.reduceLeDiff, WO, fillX, splice, Wo_some])
        | (refine W_opgF rfl rfl ?hg ?_; (case hg => (simp only [WG, reduceIte, Nat.reduceEqDiff]; done)))
        | (refine W_opgU rfl ?hg ?_; (case hg => (simp only [upd_at, reduceIte, Nat.reduceEqDiff]; done))) | (refine W_callN rfl ?hg ?_; (case hg => (simp only [WG, reduceIte, Nat.reduceEqDiff]; done))) | rw [W_seq] | rw [W_reg] | rw [push_no] | rw [push_yes] | rw [W_onil] | rw [W_skip] | rw [W_blk] | rw [W_b] | refine W_regd0 ?_ | refine W_regd ?_)
      refine W_j (by repeat (first | exact hg | exact args0_un (Nat.le_of_ble_eq_true rfl) | refine upd_un ?_ rfl)) ?_
      refine ⟨?_, ?_, ?_, ?_, ?_, rfl⟩ <;> simp only [upd_at, reduceIte, Nat.reduceEqDiff, args0, List.getD_cons_zero]
  rintro g mc ⟨q0, q3, q5, q6, q7, rfl⟩ hg
  repeat (first
    | ((first | refine W_op rfl rfl ?_ | (refine W_opgT rfl rfl ?hg ?_; (case hg => (simp only [WG, reduceIte, Nat.reduceEqDiff]; done)))); simp only [WB, execE, unE, args0, reduceIte, Nat.reduceEqDiff, Nat.reduceAdd, Nat.reduceLeDiff, q6, q7, binE, isShift, intBin, WO, fillX, splice, Wo_some])
    | (refine W_opgF rfl rfl ?hg ?_; (case hg => (simp only [WG, reduceIte, Nat.reduceEqDiff]; done)))
    | (refine W_opgU rfl ?hg ?_; (case hg => (simp only [upd_at, reduceIte, Nat.reduceEqDiff]; done))) | (refine W_callN rfl ?hg ?_; (case hg => (simp only [WG, reduceIte, Nat.reduceEqDiff]; done))) | rw [W_seq] | rw [W_reg] | rw [push_no] | rw [push_yes] | rw [W_onil] | rw [W_skip] | rw [W_blk] | rw [W_b] | refine W_regd0 ?_ | refine W_regd ?_)
  refine W_cutQ [_] (fun g' m' => g' 0 = pv ∧ g' 3 = .p (some (m.next, 0)) ∧ g' 5 = .p (some (mB.next, 0)) ∧ g' 6 = .i .i64 ((min fr.toNat l.length : Nat) : Int) ∧ g' 7 = .i .i64 ((min to.toNat l.length : Nat) : Int) ∧ m' = mc) ?_ ?_
  · simp only [List.cons_append, List.nil_append]
    by_cases h : fr > ((min to.toNat l.length : Nat) : Int)
    · have c : decide (fr > ((min to.toNat l.length : Nat) : Int)) = true := decide_eq_true h
      have e : ((min fr.toNat l.length : Nat) : Int) = ((min to.toNat l.length : Nat) : Int) := by omega
      rw [e]
      refine W_cond ?_
      simp only [WB, execE, unE, args0, reduceIte, Nat.reduceEqDiff, Nat.reduceAdd, Nat.reduceLeDiff, WC, c]
      repeat (first
        | ((first | refine W_op rfl rfl ?_ | (refine W_opgT rfl rfl ?hg ?_; (case hg => (simp only [WG, reduceIte, Nat.reduceEqDiff]; done)))); simp only [WB, execE, unE, args0, reduceIte, Nat.reduceEqDiff, Nat.reduceAdd, Nat.reduceLeDiff, q7, WO, fillX, splice, Wo_some])
        | (refine W_opgF rfl rfl ?hg ?_; (case hg => (simp only [WG, reduceIte, Nat.reduceEqDiff]; done)))
        | (refine W_opgU rfl ?hg ?_; (case hg => (simp only [upd_at, reduceIte, Nat.reduceEqDiff]; done))) | (refine W_callN rfl ?hg ?_; (case hg => (simp only [WG, reduceIte, Nat.reduceEqDiff]; done))) | rw [W_seq] | rw [W_reg] | rw [push_no] | rw [push_yes] | rw [W_onil] | rw [W_skip] | rw [W_blk] | rw [W_b] | refine W_regd0 ?_ | refine W_regd ?_)
      refine W_j (by repeat (first | exact hg | exact args0_un (Nat.le_of_ble_eq_true rfl) | refine upd_un ?_ rfl)) ?_
      refine ⟨?_, ?_, ?_, ?_, ?_, rfl⟩ <;> simp only [upd_at, reduceIte, Nat.reduceEqDiff, q0, q3, q5, q7]
    · have c : decide (fr > ((min to.toNat l.length : Nat) : Int)) = false := decide_eq_false h
      have e : ((min fr.toNat l.length : Nat) : Int) = fr := by omega
      rw [e]
      refine W_cond ?_
      simp only [WB, execE, unE, args0, reduceIte, Nat.reduceEqDiff, Nat.reduceAdd, Nat.reduceLeDiff, WC, c]
      repeat (first
        | ((first | refine W_op rfl rfl ?_ | (refine W_opgT rfl rfl ?hg ?_; (case hg => (simp only [WG, reduceIte, Nat.reduceEqDiff]; done)))); simp only [WB, execE, unE, args0, reduceIte, Nat.reduceEqDiff, Nat.reduceAdd, Nat.reduceLeDiff, WO, fillX, splice, Wo_some])
        | (refine W_opgF rfl rfl ?hg ?_; (case hg => (simp only [WG, reduceIte, Nat.reduceEqDiff]; done)))
        | (refine W_opgU rfl ?hg ?_; (case hg => (simp only [upd_at, reduceIte, Nat.reduceEqDiff]; done))) | (refine W_callN rfl ?hg ?_; (case hg => (simp only [WG, reduceIte, Nat.reduceEqDiff]; done))) | rw [W_seq] | rw [W_reg] | rw [push_no] | rw [push_yes] | rw [W_onil] | rw [W_skip] | rw [W_blk] | rw [W_b] | refine W_regd0 ?_ | refine W_regd ?_)
      refine W_j (by repeat (first | exact hg | exact args0_un (Nat.le_of_ble_eq_true rfl) | refine upd_un ?_ rfl)) ?_
      refine ⟨?_, ?_, ?_, ?_, ?_, rfl⟩ <;> simp only [upd_at, reduceIte, Nat.reduceEqDiff, q0, q3, q5, q6, q7]
  clear q0 q3 q5 q6 q7 hg g
  rintro g mz ⟨q0, q3, q5, q6, q7, rfl⟩ hg
  have hfl : min fr.toNat l.length ≤ min to.toNat l.length := by omega
  obtain ⟨pv', hA', hsl⟩ := (hp.keep0 kC').slc hfl (Nat.min_le_right _ _)
  have hpart : ((cellsOfBytes l).drop (min fr.toNat l.length * 1)).take ((min to.toNat l.length - min fr.toNat l.length) * 1) = cellsOfBytes (partT l fr to) := by
    simp [cellsOfBytes, partT, List.map_drop, List.map_take]
  rw [hpart] at hA'
  have hpl : (partT l fr to).length ≤ 500 := by
    simp only [partT, List.length_take, List.length_drop]; omega
  have hfI : InI64 fr := ⟨by omega, by omega⟩
  have htI : InI64 to := ⟨by omega, by omega⟩
  have i1 : Sm (digI k) 21 := sm_digI hk
  have i2 : Sm (digI fr) 21 := sm_digI hfI
  have i2' : Sm (digI to) 21 := sm_digI htI
  have i3 : Sm (quote (partT l fr to)) 2002 := ⟨Nat.le_trans quote_len (by omega)⟩
  have i4 : Sm (eName (kn : Int)) 5 := ⟨eName_len kn⟩
  have i5 : Sm (phrT nk num kn ph pos st og) 200 := ⟨phrT_len hn h0 h1 hpos hst hog⟩
  have hat := nm_at (i := kn) (by omega) (by omega)
  have hix : (0 ≤ (kn : Int) ∧ (kn : Int) < ((15 : Nat) : Int)) := ⟨by omega, by omega⟩
  have z0 : rd mz m.next 0 10 = some (rsC k kn ph pos st og nk fr to num) := by simp [rd, y0, rsC]
  repeat (first
    | ((first | refine W_op rfl rfl ?_ | (refine W_opgT rfl rfl ?hg ?_; (case hg => (simp only [WG, reduceIte, Nat.reduceEqDiff]; done)))); simp only [WB, execE, unE, args0, reduceIte, Nat.reduceEqDiff, Nat.reduceAdd, Nat.reduceLeDiff, q3, y0, WO, fillX, splice, Wo_some])
    | (refine W_opgF rfl rfl ?hg ?_; (case hg => (simp only [WG, reduceIte, Nat.reduceEqDiff]; done)))
    | (refine W_opgU rfl ?hg ?_; (case hg => (simp only [upd_at, reduceIte, Nat.reduceEqDiff]; done))) | (refine W_callN rfl ?hg ?_; (case hg => (simp only [WG, reduceIte, Nat.reduceEqDiff]; done))) | rw [W_seq] | rw [W_reg] | rw [push_no] | rw [push_yes] | rw [W_onil] | rw [W_skip] | rw [W_blk] | rw [W_b] | refine W_regd0 ?_ | refine W_regd ?_)
  refine W_callA rfl ?hargs (call18 (n := k) hk.1 hk.2) ?_
  case hargs => simp only [WB, execE, unE, args0, reduceIte, Nat.reduceEqDiff, Nat.reduceAdd, Nat.reduceLeDiff] <;> rfl
  rintro v m1 ⟨rfl, k1⟩ hs1
  have y1 := k1.at ny0 (by simp) y0
  have x1 := k1.at nC (by simp) x0
  have z1 := rd_keep z0 k1 ny0 (by simp)
  have ny1 : m.next < m1.next := Nat.lt_of_lt_of_le ny0 k1.next
  have nx1 : mB.next < m1.next := Nat.lt_of_lt_of_le nC k1.next
  repeat (first
    | ((first | refine W_op rfl rfl ?_ | (refine W_opgT rfl rfl ?hg ?_; (case hg => (simp only [WG, reduceIte, Nat.reduceEqDiff]; done)))); simp only [WB, execE, unE, args0, reduceIte, Nat.reduceEqDiff, Nat.reduceAdd, Nat.reduceLeDiff, q3, y1, binE, isShift, strcatI, Nat.reduceAdd, Nat.reduceLeDiff, WO, fillX, splice, Wo_some])
    | (refine W_opgF rfl rfl ?hg ?_; (case hg => (simp only [WG, reduceIte, Nat.reduceEqDiff]; done)))
    | (refine W_opgU rfl ?hg ?_; (case hg => (simp only [upd_at, reduceIte, Nat.reduceEqDiff]; done))) | (refine W_callN rfl ?hg ?_; (case hg => (simp only [WG, reduceIte, Nat.reduceEqDiff]; done))) | rw [W_seq] | rw [W_reg] | rw [push_no] | rw [push_yes] | rw [W_onil] | rw [W_skip] | rw [W_blk] | rw [W_b] | refine W_regd0 ?_ | refine W_regd ?_)
  refine W_callA rfl ?hargs (call18 (n := fr) hfI.1 hfI.2) ?_
  case hargs => simp only [WB, execE, unE, args0, reduceIte, Nat.reduceEqDiff, Nat.reduceAdd, Nat.reduceLeDiff] <;> rfl
  rintro v m2 ⟨rfl, k2⟩ hs2
  have y2 := k2.at ny1 (by simp) y1
  have x2 := k2.at nx1 (by simp) x1
  have z2 := rd_keep z1 k2 ny1 (by simp)
  have ny2 : m.next < m2.next := Nat.lt_of_lt_of_le ny1 k2.next
  have nx2 : mB.next < m2.next := Nat.lt_of_lt_of_le nx1 k2.next
  repeat (first
    | ((first | refine W_op rfl rfl ?_ | (refine W_opgT rfl rfl ?hg ?_; (case hg => (simp only [WG, reduceIte, Nat.reduceEqDiff]; done)))); simp only [WB, execE, unE, args0, reduceIte, Nat.reduceEqDiff, Nat.reduceAdd, Nat.reduceLeDiff, q3, y2, binE, isShift, strcatI, Nat.reduceAdd, Nat.reduceLeDiff, WO, fillX, splice, Wo_some])
    | (refine W_opgF rfl rfl ?hg ?_; (case hg => (simp only [WG, reduceIte, Nat.reduceEqDiff]; done)))
    | (refine W_opgU rfl ?hg ?_; (case hg => (simp only [upd_at, reduceIte, Nat.reduceEqDiff]; done))) | (refine W_callN rfl ?hg ?_; (case hg => (simp only [WG, reduceIte, Nat.reduceEqDiff]; done))) | rw [W_seq] | rw [W_reg] | rw [push_no] | rw [push_yes] | rw [W_onil] | rw [W_skip] | rw [W_blk] | rw [W_b] | refine W_regd0 ?_ | refine W_regd ?_)
  refine W_callA rfl ?hargs (call18 (n := to) htI.1 htI.2) ?_
  case hargs => simp only [WB, execE, unE, args0, reduceIte, Nat.reduceEqDiff, Nat.reduceAdd, Nat.reduceLeDiff] <;> rfl
  rintro v m3 ⟨rfl, k3⟩ hs3
  have y3 := k3.at ny2 (by simp) y2
  have x3 := k3.at nx2 (by simp) x2
  have z3 := rd_keep z2 k3 ny2 (by simp)
  have ny3 : m.next < m3.next := Nat.lt_of_lt_of_le ny2 k3.next
  have nx3 : mB.next < m3.next := Nat.lt_of_lt_of_le nx2 k3.next
  have kz3 : Keep mz m3 [] := (k1.trans k2 (by simp)).trans k3 (by simp)
  repeat (first
    | ((first | refine W_op rfl rfl ?_ | (refine W_opgT rfl rfl ?hg ?_; (case hg => (simp only [WG, reduceIte, Nat.reduceEqDiff]; done)))); simp only [WB, execE, unE, args0, reduceIte, Nat.reduceEqDiff, Nat.reduceAdd, Nat.reduceLeDiff, q0, q6, q7, ↓hsl, binE, isShift, strcatI, Nat.reduceAdd, Nat.reduceLeDiff, WO, fillX, splice, Wo_some])
    | (refine W_opgF rfl rfl ?hg ?_; (case hg => (simp only [WG, reduceIte, Nat.reduceEqDiff]; done)))
    | (refine W_opgU rfl ?hg ?_; (case hg => (simp only [upd_at, reduceIte, Nat.reduceEqDiff]; done))) | (refine W_callN rfl ?hg ?_; (case hg => (simp only [WG, reduceIte, Nat.reduceEqDiff]; done))) | rw [W_seq] | rw [W_reg] | rw [push_no] | rw [push_yes] | rw [W_onil] | rw [W_skip] | rw [W_blk] | rw [W_b] | refine W_regd0 ?_ | refine W_regd ?_)
  have hq := fun hB : Bytes m3 pv' (partT l fr to) => callB19 hB (by omega)
  refine W_callA rfl ?hargs (hq (hA'.keep0 kz3).bytes) ?_
  case hargs => simp only [WB, execE, unE, args0, reduceIte, Nat.reduceEqDiff, Nat.reduceAdd, Nat.reduceLeDiff] <;> rfl
  rintro v m4 ⟨rfl, n4', k4'⟩ hs4
  have k4 : Keep m3 m4 [] := ⟨n4', fun i hi _ => k4' i hi⟩
  have y4 := k4.at ny3 (by simp) y3
  have x4 := k4.at nx3 (by simp) x3
  have z4 := rd_keep z3 k4 ny3 (by simp)
  have ny4 : m.next < m4.next := Nat.lt_of_lt_of_le ny3 k4.next
  have nx4 : mB.next < m4.next := Nat.lt_of_lt_of_le nx3 k4.next
  repeat (first
    | ((first | refine W_op rfl rfl ?_ | (refine W_opgT rfl rfl ?hg ?_; (case hg => (simp only [WG, reduceIte, Nat.reduceEqDiff]; done)))); simp only [WB, execE, unE, args0, reduceIte, Nat.reduceEqDiff, Nat.reduceAdd, Nat.reduceLeDiff, q3, q5, y4, x4, z4, hat, hix, Int.toNat_natCast, Nat.mul_one, binE, isShift, strcatI, Nat.reduceAdd, Nat.reduceLeDiff, WO, fillX, splice, Wo_some])
    | (refine W_opgF rfl rfl ?hg ?_; (case hg => (simp only [WG, reduceIte, Nat.reduceEqDiff]; done)))
    | (refine W_opgU rfl ?hg ?_; (case hg => (simp only [upd_at, reduceIte, Nat.reduceEqDiff]; done))) | (refine W_callN rfl ?hg ?_; (case hg => (simp only [WG, reduceIte, Nat.reduceEqDiff]; done))) | rw [W_seq] | rw [W_reg] | rw [push_no] | rw [push_yes] | rw [W_onil] | rw [W_skip] | rw [W_blk] | rw [W_b] | refine W_regd0 ?_ | refine W_regd ?_)
  refine W_callA rfl ?hargs (call20 (k := k) (kd := kn) (ph := ph) (pos := pos) (st := st) (og := og) (nk := nk) (fr := fr) (to := to) (num := num) hn hkd h0 h1 hpos hst hog) ?_
  case hargs => simp only [WB, execE, unE, args0, reduceIte, Nat.reduceEqDiff, Nat.reduceAdd, Nat.reduceLeDiff] <;> rfl
  rintro v m5 ⟨rfl, k5⟩ hs5
  have y5 := k5.at ny4 (by simp) y4
  have x5 := k5.at nx4 (by simp) x4
  have z5 := rd_keep z4 k5 ny4 (by simp)
  repeat (first
    | ((first | refine W_op rfl rfl ?_ | (refine W_opgT rfl rfl ?hg ?_; (case hg => (simp only [WG, reduceIte, Nat.reduceEqDiff]; done)))); simp only [WB, execE, unE, args0, reduceIte, Nat.reduceEqDiff, Nat.reduceAdd, Nat.reduceLeDiff, binE, isShift, strcatI, Nat.reduceAdd, Nat.reduceLeDiff, WO, fillX, splice, Wo_some])
    | (refine W_opgF rfl rfl ?hg ?_; (case hg => (simp only [WG, reduceIte, Nat.reduceEqDiff]; done)))
    | (refine W_opgU rfl ?hg ?_; (case hg => (simp only [upd_at, reduceIte, Nat.reduceEqDiff]; done))) | (refine W_callN rfl ?hg ?_; (case hg => (simp only [WG, reduceIte, Nat.reduceEqDiff]; done))) | rw [W_seq] | rw [W_reg] | rw [push_no] | rw [push_yes] | rw [W_onil] | rw [W_skip] | rw [W_blk] | rw [W_b] | refine W_regd0 ?_ | refine W_regd ?_)
  refine W_dnil ?hs ?hnt ?_
  case hs => (simp only [SameIn, SameAt, List.nil_append, List.cons_append, reduceCtorEq, false_and, exists_false, exists_const, false_or, or_false, Option.some.injEq, exists_eq_left', exists_eq', or_true, and_true, WB, execE, unE, args0, reduceIte, Nat.reduceEqDiff, Nat.reduceAdd, Nat.reduceLeDiff, q3, q5, y0, y1, y2, y3, y4, y5, x0, x1, x2, x3, x4, x5, z0, z1, z2, z3, z4, z5, hat, hix, Int.toNat_natCast, Nat.mul_one])
  case hnt => (simp only [List.nil_append, List.cons_append, List.forall_mem_cons, List.not_mem_nil, false_imp_iff, implies_true, and_true]; repeat' (first | exact hg | exact args0_un (Nat.le_of_ble_eq_true rfl) | refine upd_un ?_ rfl | constructor))
  repeat (first
    | ((first | refine W_op rfl rfl ?_ | (refine W_opgT rfl rfl ?hg ?_; (case hg => (simp only [WG, reduceIte, Nat.reduceEqDiff]; done)))); simp only [WB, execE, unE, args0, reduceIte, Nat.reduceEqDiff, Nat.reduceAdd, Nat.reduceLeDiff, WO, fillX, splice, Wo_some])
    | (refine W_opgF rfl rfl ?hg ?_; (case hg => (simp only [WG, reduceIte, Nat.reduceEqDiff]; done)))
    | (refine W_opgU rfl ?hg ?_; (case hg => (simp only [upd_at, reduceIte, Nat.reduceEqDiff]; done))) | (refine W_callN rfl ?hg ?_; (case hg => (simp only [WG, reduceIte, Nat.reduceEqDiff]; done))) | rw [W_seq] | rw [W_reg] | rw [push_no] | rw [push_yes] | rw [W_onil] | rw [W_skip] | rw [W_blk] | rw [W_b] | refine W_regd0 ?_ | refine W_regd ?_)
  refine W_getRet (by repeat (first | exact hg | exact args0_un (Nat.le_of_ble_eq_true rfl) | refine upd_un ?_ rfl)) ?_
  refine ⟨hs5.ds.trans (hs4.ds.trans (hs3.ds.trans (hs2.ds.trans (hs1.ds.trans d0)))), _, rfl, ?_, ((kC'.trans kz3 (by simp)).trans (k4.trans k5 (by simp)) (by simp)).out⟩
  simp only [tupE, spanT, List.append_assoc, List.cons_append, List.nil_append]
  try rfl
end Go.Proofs.YtdmoecehmclohaaGreatDoor
