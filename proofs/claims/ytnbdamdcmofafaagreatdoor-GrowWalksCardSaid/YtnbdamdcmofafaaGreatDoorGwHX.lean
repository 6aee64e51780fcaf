/- The law GrowWalks at the interpreter's level. No condition. -/
import Derived.Test.YtnbdamdcmofafaaGreatDoorGwHW
namespace Go.Proofs.YtnbdamdcmofafaaGreatDoor
open Go.Vi
open AMem (get_inn next_inn ds_inn get_put next_put ds_put get_new next_new ds_new)
open List (getD_cons_zero getD_cons_succ getD_nil length_cons length_nil getElem?_cons_zero getElem?_cons_succ map_cons map_nil)
set_option linter.unusedSimpArgs false
set_option linter.unusedVariables false

set_option maxHeartbeats 4000000 in
theorem law8 {m : AMem} {av : AV} {l : List (List AV)} {ks : List (Int × Int)} {stop : Int} (hS : Sts m av l) (hks : Sorts l ks) (hl : (l.length : Int) ≤ 9223372036854775807) : Vi.Call T 8 [av, .i .i64 stop] m (fun v _ => v = .b true) := by
  have hlen := hS.lenF
  obtain ⟨st, hGI⟩ := ups_gi ks
  have hul := ups_len ks
  refine Vi.Call.of T8 (Nat.le_of_ble_eq_true rfl) ?_
  unfold v8
  repeat (first
    | ((first | refine W_op rfl rfl ?_ | (refine W_opgT rfl rfl ?hg ?_; (case hg => (simp only [upd_at, reduceIte, Nat.reduceEqDiff, Bool.not_true, Bool.not_false]; done)))); simp only [decide_true, decide_false, execE, unE, at_t, at_c, upd_at, upd_none, args0, push_no, get_inn, next_inn, ds_inn, get_put, next_put, ds_put, get_new, next_new, ds_new, getD_cons_zero, getD_cons_succ, getD_nil, reduceIte, Nat.reduceEqDiff, Bool.or_true, Bool.true_or, Bool.or_false, Bool.false_or, Bool.not_true, Bool.not_false, Bool.false_eq_true, beq_self_eq_true, beq_true, Bool.true_beq, beq_false, Bool.false_beq, length_cons, length_nil, Nat.zero_add, Nat.add_zero, Nat.reduceAdd, Nat.reduceLeDiff, getElem?_cons_zero, getElem?_cons_succ, Option.map_some, map_cons, map_nil, true_and, and_true, and_self, cells_i, one_i, List.all_cons, List.all_nil, Bool.and_self, Wo_some])
    | (refine W_opgF rfl rfl ?hg ?_; (case hg => (simp only [upd_at, reduceIte, Nat.reduceEqDiff, Bool.not_true, Bool.not_false]; done)))
    | rw [W_seq] | rw [W_reg] | rw [push_no] | rw [W_onil] | rw [W_skip] | rw [W_blk] | rw [W_b] | refine W_regd0 ?_)
  refine W_callA rfl ?hargs (callAnc (f := 21) rfl _) ?_
  case hargs => simp only [decide_true, decide_false, execE, unE, at_t, at_c, upd_at, upd_none, args0, push_no, get_inn, next_inn, ds_inn, get_put, next_put, ds_put, get_new, next_new, ds_new, getD_cons_zero, getD_cons_succ, getD_nil, reduceIte, Nat.reduceEqDiff, Bool.or_true, Bool.true_or, Bool.or_false, Bool.false_or, Bool.not_true, Bool.not_false, Bool.false_eq_true, beq_self_eq_true, beq_true, Bool.true_beq, beq_false, Bool.false_beq, length_cons, length_nil, Nat.zero_add, Nat.add_zero, Nat.reduceAdd, Nat.reduceLeDiff, getElem?_cons_zero, getElem?_cons_succ, Option.map_some, map_cons, map_nil, true_and, and_true, and_self] <;> rfl
  rintro v m0 ⟨rfl, rfl⟩ hs
  repeat (first
    | ((first | refine W_op rfl rfl ?_ | (refine W_opgT rfl rfl ?hg ?_; (case hg => (simp only [upd_at, reduceIte, Nat.reduceEqDiff, Bool.not_true, Bool.not_false]; done)))); simp only [decide_true, decide_false, execE, unE, at_t, at_c, upd_at, upd_none, args0, push_no, get_inn, next_inn, ds_inn, get_put, next_put, ds_put, get_new, next_new, ds_new, getD_cons_zero, getD_cons_succ, getD_nil, reduceIte, Nat.reduceEqDiff, Bool.or_true, Bool.true_or, Bool.or_false, Bool.false_or, Bool.not_true, Bool.not_false, Bool.false_eq_true, beq_self_eq_true, beq_true, Bool.true_beq, beq_false, Bool.false_beq, length_cons, length_nil, Nat.zero_add, Nat.add_zero, Nat.reduceAdd, Nat.reduceLeDiff, getElem?_cons_zero, getElem?_cons_succ, Option.map_some, map_cons, map_nil, true_and, and_true, and_self, Wo_some])
    | (refine W_opgF rfl rfl ?hg ?_; (case hg => (simp only [upd_at, reduceIte, Nat.reduceEqDiff, Bool.not_true, Bool.not_false]; done)))
    | rw [W_seq] | rw [W_reg] | rw [push_no] | rw [W_onil] | rw [W_skip] | rw [W_blk] | rw [W_b] | refine W_regd0 ?_)
  refine W_cond ?_
  simp only [decide_true, decide_false, execE, unE, at_t, at_c, upd_at, upd_none, args0, push_no, get_inn, next_inn, ds_inn, get_put, next_put, ds_put, get_new, next_new, ds_new, getD_cons_zero, getD_cons_succ, getD_nil, reduceIte, Nat.reduceEqDiff, Bool.or_true, Bool.true_or, Bool.or_false, Bool.false_or, Bool.not_true, Bool.not_false, Bool.false_eq_true, beq_self_eq_true, beq_true, Bool.true_beq, beq_false, Bool.false_beq, length_cons, length_nil, Nat.zero_add, Nat.add_zero, Nat.reduceAdd, Nat.reduceLeDiff, getElem?_cons_zero, getElem?_cons_succ, Option.map_some, map_cons, map_nil, true_and, and_true, and_self, WC]
  obtain ⟨mA, hmA, b0, b1, b2, b3, b4, b5⟩ : ∃ mA : AMem, mA = (((m.inn.new (.cells [.i .i64 stop] true ⟨1, none⟩)).new (.cells [.b false] true ⟨1, some 4⟩)).out ((m.inn.new (.cells [.i .i64 stop] true ⟨1, none⟩)).new (.cells [.b false] true ⟨1, some 4⟩))) ∧ mA.next = m.next + 2 ∧ mA.get m.next = some (.cells [.i .i64 stop] true ⟨1, none⟩) ∧ mA.get (m.next + 1) = some (.cells [.b false] true ⟨1, some 4⟩) ∧ Keep m mA [] ∧ mA.ds = [] ∧ mA.ro = none := by
    refine ⟨_, rfl, rfl, ?_, ?_, ?_, rfl, rfl⟩
    · simp [AMem.get_new]
    · simp [AMem.get_new]
    · exact (((Keep.inn m).trans (Keep.new _ _) (by simp)).trans (Keep.new _ _) (by simp)).out
  rw [← hmA]
  clear hmA
  repeat (first
    | ((first | refine W_op rfl rfl ?_ | (refine W_opgT rfl rfl ?hg ?_; (case hg => (simp only [upd_at, reduceIte, Nat.reduceEqDiff, Bool.not_true, Bool.not_false]; done)))); simp only [decide_true, decide_false, execE, unE, at_t, at_c, upd_at, upd_none, args0, push_no, get_inn, next_inn, ds_inn, get_put, next_put, ds_put, get_new, next_new, ds_new, getD_cons_zero, getD_cons_succ, getD_nil, reduceIte, Nat.reduceEqDiff, Bool.or_true, Bool.true_or, Bool.or_false, Bool.false_or, Bool.not_true, Bool.not_false, Bool.false_eq_true, beq_self_eq_true, beq_true, Bool.true_beq, beq_false, Bool.false_beq, length_cons, length_nil, Nat.zero_add, Nat.add_zero, Nat.reduceAdd, Nat.reduceLeDiff, getElem?_cons_zero, getElem?_cons_succ, Option.map_some, map_cons, map_nil, true_and, and_true, and_self, ↓hlen, binE, isShift, intBin, Wo_some])
    | (refine W_opgF rfl rfl ?hg ?_; (case hg => (simp only [upd_at, reduceIte, Nat.reduceEqDiff, Bool.not_true, Bool.not_false]; done)))
    | rw [W_seq] | rw [W_reg] | rw [push_no] | rw [W_onil] | rw [W_skip] | rw [W_blk] | rw [W_b] | refine W_regd0 ?_)
  refine W_cond ?_
  simp only [decide_true, decide_false, execE, unE, at_t, at_c, upd_at, upd_none, args0, push_no, get_inn, next_inn, ds_inn, get_put, next_put, ds_put, get_new, next_new, ds_new, getD_cons_zero, getD_cons_succ, getD_nil, reduceIte, Nat.reduceEqDiff, Bool.or_true, Bool.true_or, Bool.or_false, Bool.false_or, Bool.not_true, Bool.not_false, Bool.false_eq_true, beq_self_eq_true, beq_true, Bool.true_beq, beq_false, Bool.false_beq, length_cons, length_nil, Nat.zero_add, Nat.add_zero, Nat.reduceAdd, Nat.reduceLeDiff, getElem?_cons_zero, getElem?_cons_succ, Option.map_some, map_cons, map_nil, true_and, and_true, and_self]
  refine WC_split (fun ht => ?_) (fun hf => ?_)
  · skip
    repeat (first
      | ((first | refine W_op rfl rfl ?_ | (refine W_opgT rfl rfl ?hg ?_; (case hg => (simp only [upd_at, reduceIte, Nat.reduceEqDiff, Bool.not_true, Bool.not_false]; done)))); simp only [decide_true, decide_false, execE, unE, at_t, at_c, upd_at, upd_none, args0, push_no, get_inn, next_inn, ds_inn, get_put, next_put, ds_put, get_new, next_new, ds_new, getD_cons_zero, getD_cons_succ, getD_nil, reduceIte, Nat.reduceEqDiff, Bool.or_true, Bool.true_or, Bool.or_false, Bool.false_or, Bool.not_true, Bool.not_false, Bool.false_eq_true, beq_self_eq_true, beq_true, Bool.true_beq, beq_false, Bool.false_beq, length_cons, length_nil, Nat.zero_add, Nat.add_zero, Nat.reduceAdd, Nat.reduceLeDiff, getElem?_cons_zero, getElem?_cons_succ, Option.map_some, map_cons, map_nil, true_and, and_true, and_self, b2, cells_b, one_b, List.length_cons, List.length_nil, List.all_cons, List.all_nil, Bool.and_self, Nat.le_refl, Wo_some])
      | (refine W_opgF rfl rfl ?hg ?_; (case hg => (simp only [upd_at, reduceIte, Nat.reduceEqDiff, Bool.not_true, Bool.not_false]; done)))
      | rw [W_seq] | rw [W_reg] | rw [push_no] | rw [W_onil] | rw [W_skip] | rw [W_blk] | rw [W_b] | refine W_regd0 ?_)
    refine W_getRet (by repeat (first | exact hg | exact args0_un (Nat.le_of_ble_eq_true rfl) | refine upd_un ?_ rfl)) ?_
    refine ⟨mA.put (m.next + 1) (some (.cells (splice [.b false] 0 [.b true]) true ⟨1, some 4⟩)), [.b true], by simp only [AMem.ds_put, b4, leaveE], ?_, rfl⟩
    simp only [decide_true, decide_false, execE, unE, at_t, at_c, upd_at, upd_none, args0, push_no, get_inn, next_inn, ds_inn, get_put, next_put, ds_put, get_new, next_new, ds_new, getD_cons_zero, getD_cons_succ, getD_nil, reduceIte, Nat.reduceEqDiff, Bool.or_true, Bool.true_or, Bool.or_false, Bool.false_or, Bool.not_true, Bool.not_false, Bool.false_eq_true, beq_self_eq_true, beq_true, Bool.true_beq, beq_false, Bool.false_beq, length_cons, length_nil, Nat.zero_add, Nat.add_zero, Nat.reduceAdd, Nat.reduceLeDiff, getElem?_cons_zero, getElem?_cons_succ, Option.map_some, map_cons, map_nil, true_and, and_true, and_self, resX, splice]
    rfl
  · have hl3 : l.length ≤ 500 := by simp at hf; omega
    have hlk : ks.length = l.length := hks.1.symm
    generalize hup : G.ups ks = up at *
    have hlu : up.length = l.length := by omega
    repeat (first
      | ((first | refine W_op rfl rfl ?_ | (refine W_opgT rfl rfl ?hg ?_; (case hg => (simp only [upd_at, reduceIte, Nat.reduceEqDiff, Bool.not_true, Bool.not_false]; done)))); simp only [decide_true, decide_false, execE, unE, at_t, at_c, upd_at, upd_none, args0, push_no, get_inn, next_inn, ds_inn, get_put, next_put, ds_put, get_new, next_new, ds_new, getD_cons_zero, getD_cons_succ, getD_nil, reduceIte, Nat.reduceEqDiff, Bool.or_true, Bool.true_or, Bool.or_false, Bool.false_or, Bool.not_true, Bool.not_false, Bool.false_eq_true, beq_self_eq_true, beq_true, Bool.true_beq, beq_false, Bool.false_beq, length_cons, length_nil, Nat.zero_add, Nat.add_zero, Nat.reduceAdd, Nat.reduceLeDiff, getElem?_cons_zero, getElem?_cons_succ, Option.map_some, map_cons, map_nil, true_and, and_true, and_self, cells_i, one_i, splice, List.take_zero, List.nil_append, List.drop_succ_cons, List.drop_nil, List.drop_zero, List.append_nil, List.length_cons, List.length_nil, List.all_cons, List.all_nil, Bool.and_self, Nat.le_refl, Wo_some])
      | (refine W_opgF rfl rfl ?hg ?_; (case hg => (simp only [upd_at, reduceIte, Nat.reduceEqDiff, Bool.not_true, Bool.not_false]; done)))
      | rw [W_seq] | rw [W_reg] | rw [push_no] | rw [W_onil] | rw [W_skip] | rw [W_blk] | rw [W_b] | refine W_regd0 ?_)
    obtain ⟨mB, hmB, c0, c1, c2, c3, c4, c5, c6⟩ : ∃ mB : AMem, mB = ((mA.new (.cells [.i .i64 0] true ⟨1, some 3⟩)).put mA.next (some (.cells [.i .i64 0] true ⟨1, some 3⟩))) ∧ mB.next = m.next + 3 ∧ mB.get m.next = some (.cells [.i .i64 stop] true ⟨1, none⟩) ∧ mB.get (m.next + 1) = some (.cells [.b false] true ⟨1, some 4⟩) ∧ mB.get (m.next + 2) = some (.cells [.i .i64 0] true ⟨1, some 3⟩) ∧ Keep m mB [] ∧ mB.ds = [] ∧ mB.ro = none := by
      have kAB : Keep mA ((mA.new (.cells [.i .i64 0] true ⟨1, some 3⟩)).put mA.next (some (.cells [.i .i64 0] true ⟨1, some 3⟩))) [] := (Keep.new mA _).trans (Keep.put _ _ _) (by simp)
      refine ⟨_, rfl, by simp; omega, kAB.at (by omega) (by simp) b1, kAB.at (by omega) (by simp) b2, by rw [AMem.get_put, if_pos b0], b3.trans kAB (by simp), b4, b5⟩
    rw [← hmB]
    clear hmB
    rw [b0]
    have h22 := call22 (hS.keep c4 (by simp)) hks (by omega)
    rw [hup] at h22
    refine W_callA rfl ?hargs (h22) ?_
    case hargs => simp only [decide_true, decide_false, execE, unE, at_t, at_c, upd_at, upd_none, args0, push_no, get_inn, next_inn, ds_inn, get_put, next_put, ds_put, get_new, next_new, ds_new, getD_cons_zero, getD_cons_succ, getD_nil, reduceIte, Nat.reduceEqDiff, Bool.or_true, Bool.true_or, Bool.or_false, Bool.false_or, Bool.not_true, Bool.not_false, Bool.false_eq_true, beq_self_eq_true, beq_true, Bool.true_beq, beq_false, Bool.false_beq, length_cons, length_nil, Nat.zero_add, Nat.add_zero, Nat.reduceAdd, Nat.reduceLeDiff, getElem?_cons_zero, getElem?_cons_succ, Option.map_some, map_cons, map_nil, true_and, and_true, and_self] <;> rfl
    rintro v m2 ⟨u, ju, rfl, ru, k2, hju⟩ hs2
    have hn2 := k2.next
    repeat (first
      | ((first | refine W_op rfl rfl ?_ | (refine W_opgT rfl rfl ?hg ?_; (case hg => (simp only [upd_at, reduceIte, Nat.reduceEqDiff, Bool.not_true, Bool.not_false]; done)))); simp only [decide_true, decide_false, execE, unE, at_t, at_c, upd_at, upd_none, args0, push_no, get_inn, next_inn, ds_inn, get_put, next_put, ds_put, get_new, next_new, ds_new, getD_cons_zero, getD_cons_succ, getD_nil, reduceIte, Nat.reduceEqDiff, Bool.or_true, Bool.true_or, Bool.or_false, Bool.false_or, Bool.not_true, Bool.not_false, Bool.false_eq_true, beq_self_eq_true, beq_true, Bool.true_beq, beq_false, Bool.false_beq, length_cons, length_nil, Nat.zero_add, Nat.add_zero, Nat.reduceAdd, Nat.reduceLeDiff, getElem?_cons_zero, getElem?_cons_succ, Option.map_some, map_cons, map_nil, true_and, and_true, and_self, Wo_some])
      | (refine W_opgF rfl rfl ?hg ?_; (case hg => (simp only [upd_at, reduceIte, Nat.reduceEqDiff, Bool.not_true, Bool.not_false]; done)))
      | rw [W_seq] | rw [W_reg] | rw [push_no] | rw [W_onil] | rw [W_skip] | rw [W_blk] | rw [W_b] | refine W_regd0 ?_)
    refine W_callA rfl ?hargs (call28 ru.one) ?_
    case hargs => simp only [decide_true, decide_false, execE, unE, at_t, at_c, upd_at, upd_none, args0, push_no, get_inn, next_inn, ds_inn, get_put, next_put, ds_put, get_new, next_new, ds_new, getD_cons_zero, getD_cons_succ, getD_nil, reduceIte, Nat.reduceEqDiff, Bool.or_true, Bool.true_or, Bool.or_false, Bool.false_or, Bool.not_true, Bool.not_false, Bool.false_eq_true, beq_self_eq_true, beq_true, Bool.true_beq, beq_false, Bool.false_beq, length_cons, length_nil, Nat.zero_add, Nat.add_zero, Nat.reduceAdd, Nat.reduceLeDiff, getElem?_cons_zero, getElem?_cons_succ, Option.map_some, map_cons, map_nil, true_and, and_true, and_self] <;> rfl
    rintro v m3 ⟨rfl, d0, d1, k3⟩ hs3
    have kB3 : Keep mB m3 [] := k2.trans k3 (by simp)
    have e0 := kB3.at (by omega) (by simp) c1
    have e1 := kB3.at (by omega) (by simp) c2
    have e2 := kB3.at (by omega) (by simp) c3
    have ru3 := ru.keep k3 (by simp)
    have d3 : m3.ds = [] := hs3.ds.trans (hs2.ds.trans c5)
    have d4 : m3.ro = none := hs3.ro.trans (hs2.ro.trans c6)
    repeat (first
      | ((first | refine W_op rfl rfl ?_ | (refine W_opgT rfl rfl ?hg ?_; (case hg => (simp only [upd_at, reduceIte, Nat.reduceEqDiff, Bool.not_true, Bool.not_false]; done)))); simp only [decide_true, decide_false, execE, unE, at_t, at_c, upd_at, upd_none, args0, push_no, get_inn, next_inn, ds_inn, get_put, next_put, ds_put, get_new, next_new, ds_new, getD_cons_zero, getD_cons_succ, getD_nil, reduceIte, Nat.reduceEqDiff, Bool.or_true, Bool.true_or, Bool.or_false, Bool.false_or, Bool.not_true, Bool.not_false, Bool.false_eq_true, beq_self_eq_true, beq_true, Bool.true_beq, beq_false, Bool.false_beq, length_cons, length_nil, Nat.zero_add, Nat.add_zero, Nat.reduceAdd, Nat.reduceLeDiff, getElem?_cons_zero, getElem?_cons_succ, Option.map_some, map_cons, map_nil, true_and, and_true, and_self, Wo_some])
      | (refine W_opgF rfl rfl ?hg ?_; (case hg => (simp only [upd_at, reduceIte, Nat.reduceEqDiff, Bool.not_true, Bool.not_false]; done)))
      | rw [W_seq] | rw [W_reg] | rw [push_no] | rw [W_onil] | rw [W_skip] | rw [W_blk] | rw [W_b] | refine W_regd0 ?_)
    refine W_cutK [] (fun g' m' => m' = m3 ∧ g' 0 = av ∧ g' 3 = .p (some (m.next, 0)) ∧ g' 4 = .p (some (m.next + 1, 0)) ∧ g' 5 = .p (some (m.next + 2, 0)) ∧ g' 14 = .f 58 [] [.p (some (m2.next, 0))]) ?_ ?_
    · show W _ _ _ [.j _] _ _
      refine W_j (by repeat (first | exact hg | exact args0_un (Nat.le_of_ble_eq_true rfl) | refine upd_un ?_ rfl)) ?_
      refine ⟨rfl, ?_, ?_, ?_, ?_, ?_⟩
      · skip
        simp only [upd_at, upd_none, reduceIte, Nat.reduceEqDiff, args0, getD_cons_zero, getD_cons_succ, getD_nil]
      · skip
        simp only [upd_at, upd_none, reduceIte, Nat.reduceEqDiff, args0, getD_cons_zero, getD_cons_succ, getD_nil]
      · skip
        simp only [upd_at, upd_none, reduceIte, Nat.reduceEqDiff, args0, getD_cons_zero, getD_cons_succ, getD_nil]
      · skip
        simp only [upd_at, upd_none, reduceIte, Nat.reduceEqDiff, args0, getD_cons_zero, getD_cons_succ, getD_nil]
      · skip
        simp only [upd_at, upd_none, reduceIte, Nat.reduceEqDiff, args0, getD_cons_zero, getD_cons_succ, getD_nil]
    rintro g m4 ⟨rfl, g0, g3, g4, g5, g14⟩ hg
    show W _ _ _ (.c _ :: _) _ _
    generalize hasg : VC.reg [⟨some 6, none, .mv (.t 15)⟩] = asg
    generalize hbody : VC.blk 1 (VC.seq (.seq (.reg [⟨some 16, none, .mv (.t 6)⟩, ⟨some 17, none, .ld (.t 5)⟩, ⟨some 18, none, .bin .neq (.t 16) (.t 17)⟩]) (.cond (.t 18) (.seq (.reg [⟨none, none, .st 1 (.t 4) (.c (.b false))⟩]) .ret) .skip)) (.seq (.reg [⟨some 19, none, .ld (.t 5)⟩, ⟨some 20, none, .bin .add (.t 19) (.c (.i .i64 1))⟩, ⟨none, none, .st 1 (.t 5) (.t 20)⟩]) (.seq (.reg [⟨some 21, none, .ld (.t 5)⟩, ⟨some 22, none, .ld (.t 3)⟩, ⟨some 23, none, .bin .eql (.t 21) (.t 22)⟩]) (.cond (.t 23) (.exit 0) .skip)))) = body
    have hkn : m2.next = m4.next - 1 := by omega
    have hn4 : m.next + 4 ≤ m4.next := by omega
    obtain ⟨mR, hmR⟩ : ∃ mR : AMem, mR = { (m4.new .dfr).new (.loop .ready none ((List.range 33).map g) [15] asg body) with ds := m4.next :: m4.ds } := ⟨_, rfl⟩
    have hRn : mR.next = m4.next + 2 := by rw [hmR]; rfl
    have kBR : Keep m4 mR [] := by
      subst hmR
      refine ⟨by show m4.next ≤ m4.next + 2; omega, fun i hi _ => ?_⟩
      show ((m4.new .dfr).new _).get i = _
      rw [AMem.get_new, if_neg (by simp; omega), AMem.get_new, if_neg (by omega)]
    have hRd : mR.get m4.next = some .dfr := by
      subst hmR
      show ((m4.new .dfr).new _).get _ = _
      rw [AMem.get_new, if_neg (by simp), AMem.get_new, if_pos rfl]
    have hRl : mR.get (m4.next + 1) = some (.loop .ready none ((List.range 33).map g) [15] asg body) := by
      subst hmR
      show ((m4.new .dfr).new _).get _ = _
      rw [AMem.get_new, if_pos (by simp)]
    let B : Nat → AMem → Prop := fun c m' => m'.get (m.next + 2) = some (.cells [.i .i64 c] true ⟨1, some 3⟩) ∧ m'.get m.next = some (.cells [.i .i64 stop] true ⟨1, none⟩) ∧ m'.get (m.next + 1) = some (.cells [.b false] true ⟨1, some 4⟩) ∧ m'.get m4.next = some .dfr ∧ mR.next ≤ m'.next
    let P : Nat → AMem → Prop := fun c m' => B c m' ∧ m'.get (m4.next + 1) = some (.loop .ready none ((List.range 33).map g) [15] asg body)
    let S : AMem → Prop := fun m' => ∃ c : Nat, (c : Int) = stop ∧ B c m' ∧ m'.get (m4.next + 1) = some (.loop .done (some (.x 0)) ((List.range 33).map g) [15] asg body)
    have hBk : ∀ c m' m'' fp, B c m' → Keep m' m'' fp → (∀ x ∈ fp, mR.next ≤ x) → B c m'' := by
      rintro c m' m'' fp ⟨p1, p2, p3, p4, p5⟩ k hL
      have hx : ∀ x, x < mR.next → x ∉ fp := fun x hx hm => by have := hL x hm; omega
      exact ⟨k.at (by omega) (hx _ (by omega)) p1, k.at (by omega) (hx _ (by omega)) p2, k.at (by omega) (hx _ (by omega)) p3, k.at (by omega) (hx _ (by omega)) p4, Nat.le_trans p5 k.next⟩
    have hPk : ∀ c m' m'' fp, P c m' → Keep m' m'' fp → (∀ x ∈ fp, mR.next ≤ x) → P c m'' := by
      rintro c m' m'' fp ⟨p1, p2⟩ k hL
      have := p1.2.2.2.2
      exact ⟨hBk c m' m'' fp p1 k hL, k.at (by omega) (fun hm => by have := hL _ hm; omega) p2⟩
    have hSk : ∀ m' m'' fp, S m' → Keep m' m'' fp → (∀ x ∈ fp, mR.next ≤ x) → S m'' := by
      rintro m' m'' fp ⟨c, hc, p1, p2⟩ k hL
      have := p1.2.2.2.2
      exact ⟨c, hc, hBk c m' m'' fp p1 k hL, k.at (by omega) (fun hm => by have := hL _ hm; omega) p2⟩
    have hP0 : P 0 mR := ⟨⟨kBR.at (by omega) (by simp) e2, kBR.at (by omega) (by simp) e0, kBR.at (by omega) (by simp) e1, hRd, Nat.le_refl _⟩, hRl⟩
    refine W_rfn (fun _ m' => P up.length m' ∨ S m') hg (by rw [at_t, g14]) d4 (fun r hr => ?_) ?_
    · obtain rfl : r = (List.range 33).map g := Agree.unique hr (Agree.mk' hg)
      refine CallC.of_call T58 ?_
      rw [← hmR]
      show Vi.Call T 58 [.yl (m4.next + 1), .p (some (m2.next, 0))] mR _
      have hjF : ∀ j, ju = some j → j ∉ [m.next + 2, m4.next + 1] := fun j hj => by
        have h1 := hju j hj
        have h2 : j < m2.next := by rw [hj] at ru; exact ru.lt
        simp
        omega
      refine call58 (FP := [m.next + 2, m4.next + 1]) hGI (by omega) (ru3.keep kBR (by simp)) (kBR.at (by omega) (by simp) d1) (by omega) (by simp; omega) hjF (by intro x hx; simp at hx; omega) hPk hSk ?_ hP0
      rintro c m' hc ⟨⟨p1, p2, p3, p4, p5⟩, p6⟩
      refine CallC.round (nt := 33) (i := 0) hr rfl p6 rfl ?_
      rw [updMany_cons, updMany_nil, ← hasg]
      repeat (first
        | ((first | refine W_op rfl rfl ?_ | (refine W_opgT rfl rfl ?hg ?_; (case hg => (simp only [upd_at, reduceIte, Nat.reduceEqDiff, Bool.not_true, Bool.not_false]; done)))); simp only [decide_true, decide_false, execE, unE, at_t, at_c, upd_at, upd_none, args0, push_no, get_inn, next_inn, ds_inn, get_put, next_put, ds_put, get_new, next_new, ds_new, getD_cons_zero, getD_cons_succ, getD_nil, reduceIte, Nat.reduceEqDiff, Bool.or_true, Bool.true_or, Bool.or_false, Bool.false_or, Bool.not_true, Bool.not_false, Bool.false_eq_true, beq_self_eq_true, beq_true, Bool.true_beq, beq_false, Bool.false_beq, length_cons, length_nil, Nat.zero_add, Nat.add_zero, Nat.reduceAdd, Nat.reduceLeDiff, getElem?_cons_zero, getElem?_cons_succ, Option.map_some, map_cons, map_nil, true_and, and_true, and_self, Wo_some])
        | (refine W_opgF rfl rfl ?hg ?_; (case hg => (simp only [upd_at, reduceIte, Nat.reduceEqDiff, Bool.not_true, Bool.not_false]; done)))
        | rw [W_seq] | rw [W_reg] | rw [push_no] | rw [W_onil] | rw [W_skip] | rw [W_blk] | rw [W_b] | refine W_regd0 ?_)
      refine W_j (by repeat (first | exact hg | exact args0_un (Nat.le_of_ble_eq_true rfl) | refine upd_un ?_ rfl)) ?_
      refine ⟨_, _, _, _, p6, ?_⟩
      obtain ⟨X5, hX5, y1, y2, y3, y4, y5, y6, y7⟩ : ∃ X5 : AMem, X5 = ({ m' with ds := [], ro := some (m4.next + 1) } : AMem).put (m4.next + 1) (some (.loop .busy none ((List.range 33).map g) [15] asg body)) ∧ X5.get (m.next + 2) = some (.cells [.i .i64 c] true ⟨1, some 3⟩) ∧ X5.get m.next = some (.cells [.i .i64 stop] true ⟨1, none⟩) ∧ X5.get (m.next + 1) = some (.cells [.b false] true ⟨1, some 4⟩) ∧ X5.get m4.next = some .dfr ∧ X5.get (m4.next + 1) = some (.loop .busy none ((List.range 33).map g) [15] asg body) ∧ X5.next = m'.next ∧ Keep m' X5 [m.next + 2, m4.next + 1] := by
        have e : ∀ x, x ≠ m4.next + 1 → (({ m' with ds := [], ro := some (m4.next + 1) } : AMem).put (m4.next + 1) (some (.loop .busy none ((List.range 33).map g) [15] asg body))).get x = m'.get x := fun x hx => by rw [AMem.get_put, if_neg (fun e => hx e.symm)]; rfl
        exact ⟨_, rfl, (e _ (by omega)).trans p1, (e _ (by omega)).trans p2, (e _ (by omega)).trans p3, (e _ (by omega)).trans p4, by rw [AMem.get_put, if_pos rfl], rfl, ⟨Nat.le_refl _, fun x _ hx => e x (by simp at hx; omega)⟩⟩
      rw [← hX5]
      clear hX5
      rw [← hbody]
      have hcc : ((c : Int) != (c : Int)) = false := by simp
      have hw : IntKind.i64.wrap ((c : Int) + 1) = ((c + 1 : Nat) : Int) := (wrap64' (n := (c : Int) + 1) (by omega) (by omega)).trans (by omega)
      repeat (first
        | ((first | refine W_op rfl rfl ?_ | (refine W_opgT rfl rfl ?hg ?_; (case hg => (simp only [upd_at, reduceIte, Nat.reduceEqDiff, Bool.not_true, Bool.not_false]; done)))); simp only [decide_true, decide_false, execE, unE, at_t, at_c, upd_at, upd_none, args0, push_no, get_inn, next_inn, ds_inn, get_put, next_put, ds_put, get_new, next_new, ds_new, getD_cons_zero, getD_cons_succ, getD_nil, reduceIte, Nat.reduceEqDiff, Bool.or_true, Bool.true_or, Bool.or_false, Bool.false_or, Bool.not_true, Bool.not_false, Bool.false_eq_true, beq_self_eq_true, beq_true, Bool.true_beq, beq_false, Bool.false_beq, length_cons, length_nil, Nat.zero_add, Nat.add_zero, Nat.reduceAdd, Nat.reduceLeDiff, getElem?_cons_zero, getElem?_cons_succ, Option.map_some, map_cons, map_nil, true_and, and_true, and_self, g5, y1, hcc, binE, isShift, intBin, Wo_some])
        | (refine W_opgF rfl rfl ?hg ?_; (case hg => (simp only [upd_at, reduceIte, Nat.reduceEqDiff, Bool.not_true, Bool.not_false]; done)))
        | rw [W_seq] | rw [W_reg] | rw [push_no] | rw [W_onil] | rw [W_skip] | rw [W_blk] | rw [W_b] | refine W_regd0 ?_)
      refine W_cond ?_
      simp only [decide_true, decide_false, execE, unE, at_t, at_c, upd_at, upd_none, args0, push_no, get_inn, next_inn, ds_inn, get_put, next_put, ds_put, get_new, next_new, ds_new, getD_cons_zero, getD_cons_succ, getD_nil, reduceIte, Nat.reduceEqDiff, Bool.or_true, Bool.true_or, Bool.or_false, Bool.false_or, Bool.not_true, Bool.not_false, Bool.false_eq_true, beq_self_eq_true, beq_true, Bool.true_beq, beq_false, Bool.false_beq, length_cons, length_nil, Nat.zero_add, Nat.add_zero, Nat.reduceAdd, Nat.reduceLeDiff, getElem?_cons_zero, getElem?_cons_succ, Option.map_some, map_cons, map_nil, true_and, and_true, and_self, WC]
      have hne2 : ¬ m.next + 2 = m.next := by omega
      repeat (first
        | ((first | refine W_op rfl rfl ?_ | (refine W_opgT rfl rfl ?hg ?_; (case hg => (simp only [upd_at, reduceIte, Nat.reduceEqDiff, Bool.not_true, Bool.not_false]; done)))); simp only [decide_true, decide_false, execE, unE, at_t, at_c, upd_at, upd_none, args0, push_no, get_inn, next_inn, ds_inn, get_put, next_put, ds_put, get_new, next_new, ds_new, getD_cons_zero, getD_cons_succ, getD_nil, reduceIte, Nat.reduceEqDiff, Bool.or_true, Bool.true_or, Bool.or_false, Bool.false_or, Bool.not_true, Bool.not_false, Bool.false_eq_true, beq_self_eq_true, beq_true, Bool.true_beq, beq_false, Bool.false_beq, length_cons, length_nil, Nat.zero_add, Nat.add_zero, Nat.reduceAdd, Nat.reduceLeDiff, getElem?_cons_zero, getElem?_cons_succ, Option.map_some, map_cons, map_nil, true_and, and_true, and_self, g3, g5, y1, y2, hne2, hw, cells_i, one_i, splice, List.take_zero, List.nil_append, List.drop_succ_cons, List.drop_nil, List.drop_zero, List.append_nil, List.length_cons, List.length_nil, List.all_cons, List.all_nil, Bool.and_self, Nat.le_refl, binE, isShift, intBin, Wo_some])
        | (refine W_opgF rfl rfl ?hg ?_; (case hg => (simp only [upd_at, reduceIte, Nat.reduceEqDiff, Bool.not_true, Bool.not_false]; done)))
        | rw [W_seq] | rw [W_reg] | rw [push_no] | rw [W_onil] | rw [W_skip] | rw [W_blk] | rw [W_b] | refine W_regd0 ?_)
      have fin : ∀ o : AObj, B (c + 1) { (X5.put (m.next + 2) (some (.cells [.i .i64 ((c + 1 : Nat) : Int)] true ⟨1, some 3⟩))).put (m4.next + 1) (some o) with ds := m'.ds, ro := m'.ro } ∧
          Keep m' { (X5.put (m.next + 2) (some (.cells [.i .i64 ((c + 1 : Nat) : Int)] true ⟨1, some 3⟩))).put (m4.next + 1) (some o) with ds := m'.ds, ro := m'.ro } [m.next + 2, m4.next + 1] ∧
          AMem.get { (X5.put (m.next + 2) (some (.cells [.i .i64 ((c + 1 : Nat) : Int)] true ⟨1, some 3⟩))).put (m4.next + 1) (some o) with ds := m'.ds, ro := m'.ro } (m4.next + 1) = some o := by
        intro o
        have e : ∀ x, AMem.get { (X5.put (m.next + 2) (some (.cells [.i .i64 ((c + 1 : Nat) : Int)] true ⟨1, some 3⟩))).put (m4.next + 1) (some o) with ds := m'.ds, ro := m'.ro } x = if m4.next + 1 = x then some o else if m.next + 2 = x then some (.cells [.i .i64 ((c + 1 : Nat) : Int)] true ⟨1, some 3⟩) else X5.get x := fun x => by
          show ((X5.put _ _).put _ _).get x = _
          rw [AMem.get_put, AMem.get_put]
        refine ⟨⟨?_, ?_, ?_, ?_, ?_⟩, ⟨by show m'.next ≤ X5.next; omega, fun x hx hn => ?_⟩, ?_⟩
        · rw [e, if_neg (by omega), if_pos rfl]
        · rw [e, if_neg (by omega), if_neg (by omega)]; exact y2
        · rw [e, if_neg (by omega), if_neg (by omega)]; exact y3
        · rw [e, if_neg (by omega), if_neg (by omega)]; exact y4
        · show mR.next ≤ X5.next; omega
        · simp at hn
          rw [e, if_neg (by omega), if_neg (by omega)]
          exact y7.get x hx (by simp; omega)
        · rw [e, if_pos rfl]
      have gb : (X5.put (m.next + 2) (some (.cells [.i .i64 ((c + 1 : Nat) : Int)] true ⟨1, some 3⟩))).get (m4.next + 1) = some (.loop .busy none ((List.range 33).map g) [15] asg body) := by
        rw [AMem.get_put, if_neg (by omega)]; exact y5
      cases hE : (((c + 1 : Nat) : Int) == stop)
      · skip
        repeat (first
          | ((first | refine W_op rfl rfl ?_ | (refine W_opgT rfl rfl ?hg ?_; (case hg => (simp only [upd_at, reduceIte, Nat.reduceEqDiff, Bool.not_true, Bool.not_false]; done)))); simp only [decide_true, decide_false, execE, unE, at_t, at_c, upd_at, upd_none, args0, push_no, get_inn, next_inn, ds_inn, get_put, next_put, ds_put, get_new, next_new, ds_new, getD_cons_zero, getD_cons_succ, getD_nil, reduceIte, Nat.reduceEqDiff, Bool.or_true, Bool.true_or, Bool.or_false, Bool.false_or, Bool.not_true, Bool.not_false, Bool.false_eq_true, beq_self_eq_true, beq_true, Bool.true_beq, beq_false, Bool.false_beq, length_cons, length_nil, Nat.zero_add, Nat.add_zero, Nat.reduceAdd, Nat.reduceLeDiff, getElem?_cons_zero, getElem?_cons_succ, Option.map_some, map_cons, map_nil, true_and, and_true, and_self, hE, Wo_some])
          | (refine W_opgF rfl rfl ?hg ?_; (case hg => (simp only [upd_at, reduceIte, Nat.reduceEqDiff, Bool.not_true, Bool.not_false]; done)))
          | rw [W_seq] | rw [W_reg] | rw [push_no] | rw [W_onil] | rw [W_skip] | rw [W_blk] | rw [W_b] | refine W_regd0 ?_)
        refine W_cond ?_
        simp only [decide_true, decide_false, execE, unE, at_t, at_c, upd_at, upd_none, args0, push_no, get_inn, next_inn, ds_inn, get_put, next_put, ds_put, get_new, next_new, ds_new, getD_cons_zero, getD_cons_succ, getD_nil, reduceIte, Nat.reduceEqDiff, Bool.or_true, Bool.true_or, Bool.or_false, Bool.false_or, Bool.not_true, Bool.not_false, Bool.false_eq_true, beq_self_eq_true, beq_true, Bool.true_beq, beq_false, Bool.false_beq, length_cons, length_nil, Nat.zero_add, Nat.add_zero, Nat.reduceAdd, Nat.reduceLeDiff, getElem?_cons_zero, getElem?_cons_succ, Option.map_some, map_cons, map_nil, true_and, and_true, and_self, WC]
        repeat (first
          | ((first | refine W_op rfl rfl ?_ | (refine W_opgT rfl rfl ?hg ?_; (case hg => (simp only [upd_at, reduceIte, Nat.reduceEqDiff, Bool.not_true, Bool.not_false]; done)))); simp only [decide_true, decide_false, execE, unE, at_t, at_c, upd_at, upd_none, args0, push_no, get_inn, next_inn, ds_inn, get_put, next_put, ds_put, get_new, next_new, ds_new, getD_cons_zero, getD_cons_succ, getD_nil, reduceIte, Nat.reduceEqDiff, Bool.or_true, Bool.true_or, Bool.or_false, Bool.false_or, Bool.not_true, Bool.not_false, Bool.false_eq_true, beq_self_eq_true, beq_true, Bool.true_beq, beq_false, Bool.false_beq, length_cons, length_nil, Nat.zero_add, Nat.add_zero, Nat.reduceAdd, Nat.reduceLeDiff, getElem?_cons_zero, getElem?_cons_succ, Option.map_some, map_cons, map_nil, true_and, and_true, and_self, Wo_some])
          | (refine W_opgF rfl rfl ?hg ?_; (case hg => (simp only [upd_at, reduceIte, Nat.reduceEqDiff, Bool.not_true, Bool.not_false]; done)))
          | rw [W_seq] | rw [W_reg] | rw [push_no] | rw [W_onil] | rw [W_skip] | rw [W_blk] | rw [W_b] | refine W_regd0 ?_)
        refine W_j (by repeat (first | exact hg | exact args0_un (Nat.le_of_ble_eq_true rfl) | refine upd_un ?_ rfl)) ?_
        obtain ⟨f1, f2, f3⟩ := fin (.loop .ready none ((List.range 33).map g) [15] asg body)
        exact ⟨.busy, none, _, _, _, _, gb, f2, .inl ⟨rfl, f1, f3⟩⟩
      · skip
        repeat (first
          | ((first | refine W_op rfl rfl ?_ | (refine W_opgT rfl rfl ?hg ?_; (case hg => (simp only [upd_at, reduceIte, Nat.reduceEqDiff, Bool.not_true, Bool.not_false]; done)))); simp only [decide_true, decide_false, execE, unE, at_t, at_c, upd_at, upd_none, args0, push_no, get_inn, next_inn, ds_inn, get_put, next_put, ds_put, get_new, next_new, ds_new, getD_cons_zero, getD_cons_succ, getD_nil, reduceIte, Nat.reduceEqDiff, Bool.or_true, Bool.true_or, Bool.or_false, Bool.false_or, Bool.not_true, Bool.not_false, Bool.false_eq_true, beq_self_eq_true, beq_true, Bool.true_beq, beq_false, Bool.false_beq, length_cons, length_nil, Nat.zero_add, Nat.add_zero, Nat.reduceAdd, Nat.reduceLeDiff, getElem?_cons_zero, getElem?_cons_succ, Option.map_some, map_cons, map_nil, true_and, and_true, and_self, hE, Wo_some])
          | (refine W_opgF rfl rfl ?hg ?_; (case hg => (simp only [upd_at, reduceIte, Nat.reduceEqDiff, Bool.not_true, Bool.not_false]; done)))
          | rw [W_seq] | rw [W_reg] | rw [push_no] | rw [W_onil] | rw [W_skip] | rw [W_blk] | rw [W_b] | refine W_regd0 ?_)
        refine W_cond ?_
        simp only [decide_true, decide_false, execE, unE, at_t, at_c, upd_at, upd_none, args0, push_no, get_inn, next_inn, ds_inn, get_put, next_put, ds_put, get_new, next_new, ds_new, getD_cons_zero, getD_cons_succ, getD_nil, reduceIte, Nat.reduceEqDiff, Bool.or_true, Bool.true_or, Bool.or_false, Bool.false_or, Bool.not_true, Bool.not_false, Bool.false_eq_true, beq_self_eq_true, beq_true, Bool.true_beq, beq_false, Bool.false_beq, length_cons, length_nil, Nat.zero_add, Nat.add_zero, Nat.reduceAdd, Nat.reduceLeDiff, getElem?_cons_zero, getElem?_cons_succ, Option.map_some, map_cons, map_nil, true_and, and_true, and_self, WC]
        refine W_exit rfl ?_
        refine W_j (by repeat (first | exact hg | exact args0_un (Nat.le_of_ble_eq_true rfl) | refine upd_un ?_ rfl)) ?_
        obtain ⟨f1, f2, f3⟩ := fin (.loop .done (some (.x 0)) ((List.range 33).map g) [15] asg body)
        exact ⟨.busy, none, _, _, _, _, gb, f2, .inr ⟨rfl, c + 1, by simpa using hE, f1, f3⟩⟩
    · rintro v m5 hPS hds5 hro5
      have done : ∀ (c : Nat), B c m5 → ((c : Int) = (l.length : Int) ∨ (c : Int) = stop) → W T 33 (fun g' m' => ∃ m2 l, leaveE m'.ds m' = some m2 ∧ resX g' m2 [.c 4 none] = some l ∧ tupE l = .b true) (.b 0 :: [.c (.seq (.reg [⟨some 24, none, .ld (.t 5)⟩, ⟨some 25, none, .mv (.t 0)⟩, ⟨some 26, none, .len 1 (.t 25)⟩, ⟨some 27, none, .bin .eql (.t 24) (.t 26)⟩, ⟨some 28, none, .mv (.t 27)⟩, ⟨some 29, some (28, false), .ld (.t 5)⟩, ⟨some 30, some (28, false), .ld (.t 3)⟩, ⟨some 31, some (28, false), .bin .eql (.t 29) (.t 30)⟩, ⟨some 32, none, .pick (.t 28) (.c (.b true)) (.t 31)⟩, ⟨none, none, .st 1 (.t 4) (.t 32)⟩]) .ret)]) g (m5.put (m4.next + 1) none) := by
        rintro c ⟨p1, p2, p3, p4, p5⟩ hc
        obtain ⟨Y, hY, z1, z2, z3, z4, z5⟩ : ∃ Y : AMem, Y = m5.put (m4.next + 1) none ∧ Y.get (m.next + 2) = some (.cells [.i .i64 c] true ⟨1, some 3⟩) ∧ Y.get m.next = some (.cells [.i .i64 stop] true ⟨1, none⟩) ∧ Y.get (m.next + 1) = some (.cells [.b false] true ⟨1, some 4⟩) ∧ Y.get m4.next = some .dfr ∧ Y.ds = [m4.next] := by
          refine ⟨_, rfl, ?_, ?_, ?_, ?_, by rw [AMem.ds_put, hds5, d3]⟩
          · rw [AMem.get_put, if_neg (by omega)]; exact p1
          · rw [AMem.get_put, if_neg (by omega)]; exact p2
          · rw [AMem.get_put, if_neg (by omega)]; exact p3
          · rw [AMem.get_put, if_neg (by omega)]; exact p4
        rw [← hY]
        clear hY
        have hend : leaveE [m4.next] (Y.put (m.next + 1) (some (.cells [.b true] true ⟨1, some 4⟩))) = some ((Y.put (m.next + 1) (some (.cells [.b true] true ⟨1, some 4⟩))).put m4.next none) := by
          simp only [leaveE, AMem.get_put]
          rw [if_neg (by omega), z4]
        have hres : ∀ g' : Nat → AV, g' 4 = .p (some (m.next + 1, 0)) → resX g' ((Y.put (m.next + 1) (some (.cells [.b true] true ⟨1, some 4⟩))).put m4.next none) [.c 4 none] = some [.b true] := by
          intro g' h4
          simp only [resX, execE, at_t, h4, AMem.get_put]
          rw [if_neg (by omega)]
          simp
        cases hE : ((c : Int) == (l.length : Int))
        · have hcs : ((c : Int) == stop) = true := by
            rcases hc with h | h
            · simp at hE; exact absurd h (by omega)
            · simp [h]
          repeat (first
            | ((first | refine W_op rfl rfl ?_ | (refine W_opgT rfl rfl ?hg ?_; (case hg => (simp only [upd_at, reduceIte, Nat.reduceEqDiff, Bool.not_true, Bool.not_false]; done)))); simp only [decide_true, decide_false, execE, unE, at_t, at_c, upd_at, upd_none, args0, push_no, get_inn, next_inn, ds_inn, get_put, next_put, ds_put, get_new, next_new, ds_new, getD_cons_zero, getD_cons_succ, getD_nil, reduceIte, Nat.reduceEqDiff, Bool.or_true, Bool.true_or, Bool.or_false, Bool.false_or, Bool.not_true, Bool.not_false, Bool.false_eq_true, beq_self_eq_true, beq_true, Bool.true_beq, beq_false, Bool.false_beq, length_cons, length_nil, Nat.zero_add, Nat.add_zero, Nat.reduceAdd, Nat.reduceLeDiff, getElem?_cons_zero, getElem?_cons_succ, Option.map_some, map_cons, map_nil, true_and, and_true, and_self, g0, g3, g4, g5, z1, z2, z3, ↓hlen, hE, hcs, cells_b, one_b, splice, List.take_zero, List.nil_append, List.drop_succ_cons, List.drop_nil, List.drop_zero, List.append_nil, List.length_cons, List.length_nil, List.all_cons, List.all_nil, Bool.and_self, Nat.le_refl, binE, isShift, intBin, Wo_some])
            | (refine W_opgF rfl rfl ?hg ?_; (case hg => (simp only [upd_at, reduceIte, Nat.reduceEqDiff, Bool.not_true, Bool.not_false]; done)))
            | rw [W_seq] | rw [W_reg] | rw [push_no] | rw [W_onil] | rw [W_skip] | rw [W_blk] | rw [W_b] | refine W_regd0 ?_)
          refine W_getRet (by repeat (first | exact hg | exact args0_un (Nat.le_of_ble_eq_true rfl) | refine upd_un ?_ rfl)) ?_
          refine ⟨_, _, by rw [AMem.ds_put, z5]; exact hend, hres _ ?_, rfl⟩
          simp only [decide_true, decide_false, execE, unE, at_t, at_c, upd_at, upd_none, args0, push_no, get_inn, next_inn, ds_inn, get_put, next_put, ds_put, get_new, next_new, ds_new, getD_cons_zero, getD_cons_succ, getD_nil, reduceIte, Nat.reduceEqDiff, Bool.or_true, Bool.true_or, Bool.or_false, Bool.false_or, Bool.not_true, Bool.not_false, Bool.false_eq_true, beq_self_eq_true, beq_true, Bool.true_beq, beq_false, Bool.false_beq, length_cons, length_nil, Nat.zero_add, Nat.add_zero, Nat.reduceAdd, Nat.reduceLeDiff, getElem?_cons_zero, getElem?_cons_succ, Option.map_some, map_cons, map_nil, true_and, and_true, and_self, g4]
        · skip
          repeat (first
            | ((first | refine W_op rfl rfl ?_ | (refine W_opgT rfl rfl ?hg ?_; (case hg => (simp only [upd_at, reduceIte, Nat.reduceEqDiff, Bool.not_true, Bool.not_false]; done)))); simp only [decide_true, decide_false, execE, unE, at_t, at_c, upd_at, upd_none, args0, push_no, get_inn, next_inn, ds_inn, get_put, next_put, ds_put, get_new, next_new, ds_new, getD_cons_zero, getD_cons_succ, getD_nil, reduceIte, Nat.reduceEqDiff, Bool.or_true, Bool.true_or, Bool.or_false, Bool.false_or, Bool.not_true, Bool.not_false, Bool.false_eq_true, beq_self_eq_true, beq_true, Bool.true_beq, beq_false, Bool.false_beq, length_cons, length_nil, Nat.zero_add, Nat.add_zero, Nat.reduceAdd, Nat.reduceLeDiff, getElem?_cons_zero, getElem?_cons_succ, Option.map_some, map_cons, map_nil, true_and, and_true, and_self, g0, g3, g4, g5, z1, z2, z3, ↓hlen, hE, cells_b, one_b, splice, List.take_zero, List.nil_append, List.drop_succ_cons, List.drop_nil, List.drop_zero, List.append_nil, List.length_cons, List.length_nil, List.all_cons, List.all_nil, Bool.and_self, Nat.le_refl, binE, isShift, intBin, Wo_some])
            | (refine W_opgF rfl rfl ?hg ?_; (case hg => (simp only [upd_at, reduceIte, Nat.reduceEqDiff, Bool.not_true, Bool.not_false]; done)))
            | rw [W_seq] | rw [W_reg] | rw [push_no] | rw [W_onil] | rw [W_skip] | rw [W_blk] | rw [W_b] | refine W_regd0 ?_)
          refine W_getRet (by repeat (first | exact hg | exact args0_un (Nat.le_of_ble_eq_true rfl) | refine upd_un ?_ rfl)) ?_
          refine ⟨_, _, by rw [AMem.ds_put, z5]; exact hend, hres _ ?_, rfl⟩
          simp only [decide_true, decide_false, execE, unE, at_t, at_c, upd_at, upd_none, args0, push_no, get_inn, next_inn, ds_inn, get_put, next_put, ds_put, get_new, next_new, ds_new, getD_cons_zero, getD_cons_succ, getD_nil, reduceIte, Nat.reduceEqDiff, Bool.or_true, Bool.true_or, Bool.or_false, Bool.false_or, Bool.not_true, Bool.not_false, Bool.false_eq_true, beq_self_eq_true, beq_true, Bool.true_beq, beq_false, Bool.false_beq, length_cons, length_nil, Nat.zero_add, Nat.add_zero, Nat.reduceAdd, Nat.reduceLeDiff, getElem?_cons_zero, getElem?_cons_succ, Option.map_some, map_cons, map_nil, true_and, and_true, and_self, g4]
      rcases hPS with ⟨q1, q2⟩ | ⟨c, hc, q1, q2⟩
      · exact ⟨.ready, none, _, _, _, _, q2, nofun, done up.length q1 (.inl (by omega))⟩
      · refine ⟨.done, some (.x 0), _, _, _, _, q2, nofun, ?_⟩
        show W _ _ _ (.c (.exit 0) :: .b 0 :: _) _ _
        exact W_exit rfl (done c q1 (.inr hc))
end Go.Proofs.YtnbdamdcmofafaaGreatDoor
