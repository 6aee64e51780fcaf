/- The law GrowKids at the interpreter's level. No condition. -/
import Derived.Test.YtnbdamdcmofafaaGreatDoorGkGK
namespace Go.Proofs.YtnbdamdcmofafaaGreatDoor
open Go.Vi
set_option linter.unusedSimpArgs false
set_option linter.unusedVariables false

theorem sorted_get {K : List Nat} (h : K.Pairwise (· < ·)) {p x y : Nat} (hx : K[p]? = some x) (hy : K[p + 1]? = some y) : x < y := by
  have h1 := (List.getElem?_eq_some_iff.1 hx)
  have h2 := (List.getElem?_eq_some_iff.1 hy)
  have := List.pairwise_iff_getElem.1 h p (p + 1) h1.1 h2.1 (by omega)
  rw [h1.2, h2.2] at this
  exact this

set_option maxHeartbeats 2000000 in
theorem law6 {m : AMem} {av : AV} {l : List (List AV)} {ks : List (Int × Int)} (hS : Sts m av l) (hks : Sorts l ks) (hl : (l.length : Int) ≤ 9223372036854775807) : Vi.Call T 6 [av] m (fun v _ => v = .b true) := by
  have hlen := hS.lenF
  obtain ⟨st, hGI⟩ := ups_gi ks
  have hul := ups_len ks
  refine Vi.Call.ofP T6 (Nat.le_of_ble_eq_true rfl) ?_
  unfold v6
  repeat (first
    | ((first | refine W_op rfl rfl ?_ | (refine W_opgT rfl rfl ?hg ?_; (case hg => (simp only [upd_at, reduceIte, Nat.reduceEqDiff, Bool.not_true, Bool.not_false]; done)))); simp only [decide_true, decide_false, execE, unE, at_t, at_c, upd_at, upd_none, args0, push_no, AMem.get_inn, AMem.next_inn, AMem.ds_inn, AMem.get_put, AMem.next_put, AMem.ds_put, AMem.get_new, AMem.next_new, AMem.ds_new, List.getD_cons_zero, List.getD_cons_succ, List.getD_nil, reduceIte, Nat.reduceEqDiff, Bool.or_true, Bool.true_or, Bool.or_false, Bool.false_or, Bool.not_true, Bool.not_false, Bool.false_eq_true, beq_self_eq_true, beq_true, Bool.true_beq, beq_false, Bool.false_beq, List.length_cons, List.length_nil, Nat.zero_add, Nat.add_zero, Nat.reduceAdd, Nat.reduceLeDiff, List.getElem?_cons_zero, List.getElem?_cons_succ, Option.map_some, List.map_cons, List.map_nil, true_and, and_true, and_self, Wo_some])
    | (refine W_opgF rfl rfl ?hg ?_; (case hg => (simp only [upd_at, reduceIte, Nat.reduceEqDiff, Bool.not_true, Bool.not_false]; done)))
    | rw [W_seq] | rw [W_reg] | rw [push_no] | rw [W_onil] | rw [W_skip] | rw [W_blk] | rw [W_b] | refine W_regd0 ?_)
  refine W_callA rfl ?hargs (callAnc (f := 21) rfl _) ?_
  case hargs => simp only [decide_true, decide_false, execE, unE, at_t, at_c, upd_at, upd_none, args0, push_no, AMem.get_inn, AMem.next_inn, AMem.ds_inn, AMem.get_put, AMem.next_put, AMem.ds_put, AMem.get_new, AMem.next_new, AMem.ds_new, List.getD_cons_zero, List.getD_cons_succ, List.getD_nil, reduceIte, Nat.reduceEqDiff, Bool.or_true, Bool.true_or, Bool.or_false, Bool.false_or, Bool.not_true, Bool.not_false, Bool.false_eq_true, beq_self_eq_true, beq_true, Bool.true_beq, beq_false, Bool.false_beq, List.length_cons, List.length_nil, Nat.zero_add, Nat.add_zero, Nat.reduceAdd, Nat.reduceLeDiff, List.getElem?_cons_zero, List.getElem?_cons_succ, Option.map_some, List.map_cons, List.map_nil, true_and, and_true, and_self] <;> rfl
  rintro v m0 ⟨rfl, rfl⟩ hs
  repeat (first
    | ((first | refine W_op rfl rfl ?_ | (refine W_opgT rfl rfl ?hg ?_; (case hg => (simp only [upd_at, reduceIte, Nat.reduceEqDiff, Bool.not_true, Bool.not_false]; done)))); simp only [decide_true, decide_false, execE, unE, at_t, at_c, upd_at, upd_none, args0, push_no, AMem.get_inn, AMem.next_inn, AMem.ds_inn, AMem.get_put, AMem.next_put, AMem.ds_put, AMem.get_new, AMem.next_new, AMem.ds_new, List.getD_cons_zero, List.getD_cons_succ, List.getD_nil, reduceIte, Nat.reduceEqDiff, Bool.or_true, Bool.true_or, Bool.or_false, Bool.false_or, Bool.not_true, Bool.not_false, Bool.false_eq_true, beq_self_eq_true, beq_true, Bool.true_beq, beq_false, Bool.false_beq, List.length_cons, List.length_nil, Nat.zero_add, Nat.add_zero, Nat.reduceAdd, Nat.reduceLeDiff, List.getElem?_cons_zero, List.getElem?_cons_succ, Option.map_some, List.map_cons, List.map_nil, true_and, and_true, and_self, Wo_some])
    | (refine W_opgF rfl rfl ?hg ?_; (case hg => (simp only [upd_at, reduceIte, Nat.reduceEqDiff, Bool.not_true, Bool.not_false]; done)))
    | rw [W_seq] | rw [W_reg] | rw [push_no] | rw [W_onil] | rw [W_skip] | rw [W_blk] | rw [W_b] | refine W_regd0 ?_)
  refine W_cond ?_
  simp only [decide_true, decide_false, execE, unE, at_t, at_c, upd_at, upd_none, args0, push_no, AMem.get_inn, AMem.next_inn, AMem.ds_inn, AMem.get_put, AMem.next_put, AMem.ds_put, AMem.get_new, AMem.next_new, AMem.ds_new, List.getD_cons_zero, List.getD_cons_succ, List.getD_nil, reduceIte, Nat.reduceEqDiff, Bool.or_true, Bool.true_or, Bool.or_false, Bool.false_or, Bool.not_true, Bool.not_false, Bool.false_eq_true, beq_self_eq_true, beq_true, Bool.true_beq, beq_false, Bool.false_beq, List.length_cons, List.length_nil, Nat.zero_add, Nat.add_zero, Nat.reduceAdd, Nat.reduceLeDiff, List.getElem?_cons_zero, List.getElem?_cons_succ, Option.map_some, List.map_cons, List.map_nil, true_and, and_true, and_self, WC]
  repeat (first
    | ((first | refine W_op rfl rfl ?_ | (refine W_opgT rfl rfl ?hg ?_; (case hg => (simp only [upd_at, reduceIte, Nat.reduceEqDiff, Bool.not_true, Bool.not_false]; done)))); simp only [decide_true, decide_false, execE, unE, at_t, at_c, upd_at, upd_none, args0, push_no, AMem.get_inn, AMem.next_inn, AMem.ds_inn, AMem.get_put, AMem.next_put, AMem.ds_put, AMem.get_new, AMem.next_new, AMem.ds_new, List.getD_cons_zero, List.getD_cons_succ, List.getD_nil, reduceIte, Nat.reduceEqDiff, Bool.or_true, Bool.true_or, Bool.or_false, Bool.false_or, Bool.not_true, Bool.not_false, Bool.false_eq_true, beq_self_eq_true, beq_true, Bool.true_beq, beq_false, Bool.false_beq, List.length_cons, List.length_nil, Nat.zero_add, Nat.add_zero, Nat.reduceAdd, Nat.reduceLeDiff, List.getElem?_cons_zero, List.getElem?_cons_succ, Option.map_some, List.map_cons, List.map_nil, true_and, and_true, and_self, ↓hlen, binE, isShift, intBin, Wo_some])
    | (refine W_opgF rfl rfl ?hg ?_; (case hg => (simp only [upd_at, reduceIte, Nat.reduceEqDiff, Bool.not_true, Bool.not_false]; done)))
    | rw [W_seq] | rw [W_reg] | rw [push_no] | rw [W_onil] | rw [W_skip] | rw [W_blk] | rw [W_b] | refine W_regd0 ?_)
  refine W_cond ?_
  simp only [decide_true, decide_false, execE, unE, at_t, at_c, upd_at, upd_none, args0, push_no, AMem.get_inn, AMem.next_inn, AMem.ds_inn, AMem.get_put, AMem.next_put, AMem.ds_put, AMem.get_new, AMem.next_new, AMem.ds_new, List.getD_cons_zero, List.getD_cons_succ, List.getD_nil, reduceIte, Nat.reduceEqDiff, Bool.or_true, Bool.true_or, Bool.or_false, Bool.false_or, Bool.not_true, Bool.not_false, Bool.false_eq_true, beq_self_eq_true, beq_true, Bool.true_beq, beq_false, Bool.false_beq, List.length_cons, List.length_nil, Nat.zero_add, Nat.add_zero, Nat.reduceAdd, Nat.reduceLeDiff, List.getElem?_cons_zero, List.getElem?_cons_succ, Option.map_some, List.map_cons, List.map_nil, true_and, and_true, and_self]
  refine WC_split (fun ht => ?_) (fun hf => ?_)
  · skip
    repeat (first
      | ((first | refine W_op rfl rfl ?_ | (refine W_opgT rfl rfl ?hg ?_; (case hg => (simp only [upd_at, reduceIte, Nat.reduceEqDiff, Bool.not_true, Bool.not_false]; done)))); simp only [decide_true, decide_false, execE, unE, at_t, at_c, upd_at, upd_none, args0, push_no, AMem.get_inn, AMem.next_inn, AMem.ds_inn, AMem.get_put, AMem.next_put, AMem.ds_put, AMem.get_new, AMem.next_new, AMem.ds_new, List.getD_cons_zero, List.getD_cons_succ, List.getD_nil, reduceIte, Nat.reduceEqDiff, Bool.or_true, Bool.true_or, Bool.or_false, Bool.false_or, Bool.not_true, Bool.not_false, Bool.false_eq_true, beq_self_eq_true, beq_true, Bool.true_beq, beq_false, Bool.false_beq, List.length_cons, List.length_nil, Nat.zero_add, Nat.add_zero, Nat.reduceAdd, Nat.reduceLeDiff, List.getElem?_cons_zero, List.getElem?_cons_succ, Option.map_some, List.map_cons, List.map_nil, true_and, and_true, and_self, Wo_some])
      | (refine W_opgF rfl rfl ?hg ?_; (case hg => (simp only [upd_at, reduceIte, Nat.reduceEqDiff, Bool.not_true, Bool.not_false]; done)))
      | rw [W_seq] | rw [W_reg] | rw [push_no] | rw [W_onil] | rw [W_skip] | rw [W_blk] | rw [W_b] | refine W_regd0 ?_)
    refine W_getRet (by repeat (first | exact hg | exact args0_un (Nat.le_of_ble_eq_true rfl) | refine upd_un ?_ rfl)) ?_
    exact ⟨rfl, _, rfl, rfl⟩
  · have hl3 : l.length ≤ 200 := by simp at hf; omega
    have hlk : ks.length = l.length := hks.1.symm
    generalize hup : G.ups ks = up at *
    have hlu : up.length = l.length := by omega
    repeat (first
      | ((first | refine W_op rfl rfl ?_ | (refine W_opgT rfl rfl ?hg ?_; (case hg => (simp only [upd_at, reduceIte, Nat.reduceEqDiff, Bool.not_true, Bool.not_false]; done)))); simp only [decide_true, decide_false, execE, unE, at_t, at_c, upd_at, upd_none, args0, push_no, AMem.get_inn, AMem.next_inn, AMem.ds_inn, AMem.get_put, AMem.next_put, AMem.ds_put, AMem.get_new, AMem.next_new, AMem.ds_new, List.getD_cons_zero, List.getD_cons_succ, List.getD_nil, reduceIte, Nat.reduceEqDiff, Bool.or_true, Bool.true_or, Bool.or_false, Bool.false_or, Bool.not_true, Bool.not_false, Bool.false_eq_true, beq_self_eq_true, beq_true, Bool.true_beq, beq_false, Bool.false_beq, List.length_cons, List.length_nil, Nat.zero_add, Nat.add_zero, Nat.reduceAdd, Nat.reduceLeDiff, List.getElem?_cons_zero, List.getElem?_cons_succ, Option.map_some, List.map_cons, List.map_nil, true_and, and_true, and_self, Wo_some])
      | (refine W_opgF rfl rfl ?hg ?_; (case hg => (simp only [upd_at, reduceIte, Nat.reduceEqDiff, Bool.not_true, Bool.not_false]; done)))
      | rw [W_seq] | rw [W_reg] | rw [push_no] | rw [W_onil] | rw [W_skip] | rw [W_blk] | rw [W_b] | refine W_regd0 ?_)
    obtain ⟨mA, hmA, a1, a2⟩ : ∃ mA : AMem, mA = (m.inn).out m.inn ∧ Keep m mA [] ∧ mA.ds = [] := ⟨_, rfl, (Keep.inn m).out, rfl⟩
    rw [← hmA]
    clear hmA
    have h22 := call22 (hS.keep a1 (by simp)) hks (by omega)
    rw [hup] at h22
    refine W_callA rfl ?hargs (h22) ?_
    case hargs => simp only [decide_true, decide_false, execE, unE, at_t, at_c, upd_at, upd_none, args0, push_no, AMem.get_inn, AMem.next_inn, AMem.ds_inn, AMem.get_put, AMem.next_put, AMem.ds_put, AMem.get_new, AMem.next_new, AMem.ds_new, List.getD_cons_zero, List.getD_cons_succ, List.getD_nil, reduceIte, Nat.reduceEqDiff, Bool.or_true, Bool.true_or, Bool.or_false, Bool.false_or, Bool.not_true, Bool.not_false, Bool.false_eq_true, beq_self_eq_true, beq_true, Bool.true_beq, beq_false, Bool.false_beq, List.length_cons, List.length_nil, Nat.zero_add, Nat.add_zero, Nat.reduceAdd, Nat.reduceLeDiff, List.getElem?_cons_zero, List.getElem?_cons_succ, Option.map_some, List.map_cons, List.map_nil, true_and, and_true, and_self] <;> rfl
    rintro v m2 ⟨u, ju, rfl, ru, k2, hju⟩ hs2
    repeat (first
      | ((first | refine W_op rfl rfl ?_ | (refine W_opgT rfl rfl ?hg ?_; (case hg => (simp only [upd_at, reduceIte, Nat.reduceEqDiff, Bool.not_true, Bool.not_false]; done)))); simp only [decide_true, decide_false, execE, unE, at_t, at_c, upd_at, upd_none, args0, push_no, AMem.get_inn, AMem.next_inn, AMem.ds_inn, AMem.get_put, AMem.next_put, AMem.ds_put, AMem.get_new, AMem.next_new, AMem.ds_new, List.getD_cons_zero, List.getD_cons_succ, List.getD_nil, reduceIte, Nat.reduceEqDiff, Bool.or_true, Bool.true_or, Bool.or_false, Bool.false_or, Bool.not_true, Bool.not_false, Bool.false_eq_true, beq_self_eq_true, beq_true, Bool.true_beq, beq_false, Bool.false_beq, List.length_cons, List.length_nil, Nat.zero_add, Nat.add_zero, Nat.reduceAdd, Nat.reduceLeDiff, List.getElem?_cons_zero, List.getElem?_cons_succ, Option.map_some, List.map_cons, List.map_nil, true_and, and_true, and_self, cells_agg, ru.one, splice, List.take_zero, List.nil_append, List.drop_succ_cons, List.drop_nil, List.drop_zero, List.append_nil, List.length_cons, List.length_nil, List.all_cons, List.all_nil, Bool.and_self, Nat.le_refl, Wo_some])
      | (refine W_opgF rfl rfl ?hg ?_; (case hg => (simp only [upd_at, reduceIte, Nat.reduceEqDiff, Bool.not_true, Bool.not_false]; done)))
      | rw [W_seq] | rw [W_reg] | rw [push_no] | rw [W_onil] | rw [W_skip] | rw [W_blk] | rw [W_b] | refine W_regd0 ?_)
    obtain ⟨mX, hmX, x1, x2, x3, x4⟩ : ∃ mX : AMem, mX = ((m2.new (.cells [.sl none 0 0 true] true ⟨1, some 66⟩)).put m2.next (some (.cells [u] true ⟨1, some 66⟩))) ∧ mX.next = m2.next + 1 ∧ mX.get m2.next = some (.cells [u] true ⟨1, some 66⟩) ∧ Keep m2 mX [] ∧ mX.ds = [] :=
      ⟨_, rfl, rfl, by rw [AMem.get_put, if_pos rfl], (Keep.new m2 _).trans (Keep.put _ _ _) (by simp), hs2.ds.trans a2⟩
    rw [← hmX]
    clear hmX
    have ruX := ru.keep x3 (by simp)
    refine W_loop (fun n g' m' => ∃ i : Int, -1 ≤ i ∧ i ≤ up.length ∧ n = (up.length - i).toNat ∧ g' 0 = av ∧ g' 3 = .p (some (m2.next, 0)) ∧ g' 4 = .i .i64 (up.countP (fun u => decide (u < i))) ∧ g' 5 = .i .i64 i ∧ Keep mX m' [] ∧ m'.ds = []) (up.length + 1) ?_ ?_ ?_
    · refine ⟨-1, by omega, by omega, by omega, ?_, ?_, ?_, ?_, Keep.refl _ _, x4⟩
      · skip
        simp only [upd_at, upd_none, reduceIte, Nat.reduceEqDiff, args0, List.getD_cons_zero, List.getD_cons_succ, List.getD_nil]
      · skip
        simp only [upd_at, upd_none, reduceIte, Nat.reduceEqDiff, args0, List.getD_cons_zero, List.getD_cons_succ, List.getD_nil]
      · skip
        simp only [upd_at, upd_none, reduceIte, Nat.reduceEqDiff, args0, List.getD_cons_zero, List.getD_cons_succ, List.getD_nil]
        rw [G.count_none hGI]; rfl
      · skip
        simp only [upd_at, upd_none, reduceIte, Nat.reduceEqDiff, args0, List.getD_cons_zero, List.getD_cons_succ, List.getD_nil]
    · intro i hi
      repeat (first | exact args0_un (Nat.le_of_ble_eq_true rfl) i hi | refine upd_un ?_ rfl i hi; clear i hi; intro i hi)
    · rintro n g m3 ⟨i, hi1, hi2, rfl, g0, g3, g4, g5, k3, d3⟩ hg
      have ru3 := ruX.keep k3 (by simp)
      have e3 := k3.at (by omega) (by simp) x2
      repeat (first
        | ((first | refine W_op rfl rfl ?_ | (refine W_opgT rfl rfl ?hg ?_; (case hg => (simp only [upd_at, reduceIte, Nat.reduceEqDiff, Bool.not_true, Bool.not_false]; done)))); simp only [decide_true, decide_false, execE, unE, at_t, at_c, upd_at, upd_none, args0, push_no, AMem.get_inn, AMem.next_inn, AMem.ds_inn, AMem.get_put, AMem.next_put, AMem.ds_put, AMem.get_new, AMem.next_new, AMem.ds_new, List.getD_cons_zero, List.getD_cons_succ, List.getD_nil, reduceIte, Nat.reduceEqDiff, Bool.or_true, Bool.true_or, Bool.or_false, Bool.false_or, Bool.not_true, Bool.not_false, Bool.false_eq_true, beq_self_eq_true, beq_true, Bool.true_beq, beq_false, Bool.false_beq, List.length_cons, List.length_nil, Nat.zero_add, Nat.add_zero, Nat.reduceAdd, Nat.reduceLeDiff, List.getElem?_cons_zero, List.getElem?_cons_succ, Option.map_some, List.map_cons, List.map_nil, true_and, and_true, and_self, g0, g5, ↓hlen, binE, isShift, intBin, Wo_some])
        | (refine W_opgF rfl rfl ?hg ?_; (case hg => (simp only [upd_at, reduceIte, Nat.reduceEqDiff, Bool.not_true, Bool.not_false]; done)))
        | rw [W_seq] | rw [W_reg] | rw [push_no] | rw [W_onil] | rw [W_skip] | rw [W_blk] | rw [W_b] | refine W_regd0 ?_)
      refine W_cond ?_
      simp only [decide_true, decide_false, execE, unE, at_t, at_c, upd_at, upd_none, args0, push_no, AMem.get_inn, AMem.next_inn, AMem.ds_inn, AMem.get_put, AMem.next_put, AMem.ds_put, AMem.get_new, AMem.next_new, AMem.ds_new, List.getD_cons_zero, List.getD_cons_succ, List.getD_nil, reduceIte, Nat.reduceEqDiff, Bool.or_true, Bool.true_or, Bool.or_false, Bool.false_or, Bool.not_true, Bool.not_false, Bool.false_eq_true, beq_self_eq_true, beq_true, Bool.true_beq, beq_false, Bool.false_beq, List.length_cons, List.length_nil, Nat.zero_add, Nat.add_zero, Nat.reduceAdd, Nat.reduceLeDiff, List.getElem?_cons_zero, List.getElem?_cons_succ, Option.map_some, List.map_cons, List.map_nil, true_and, and_true, and_self]
      refine WC_split (fun ht => ?_) (fun hf => ?_)
      · have hlt : i < up.length := by rw [hlu]; simpa using ht
        repeat (first
          | ((first | refine W_op rfl rfl ?_ | (refine W_opgT rfl rfl ?hg ?_; (case hg => (simp only [upd_at, reduceIte, Nat.reduceEqDiff, Bool.not_true, Bool.not_false]; done)))); simp only [decide_true, decide_false, execE, unE, at_t, at_c, upd_at, upd_none, args0, push_no, AMem.get_inn, AMem.next_inn, AMem.ds_inn, AMem.get_put, AMem.next_put, AMem.ds_put, AMem.get_new, AMem.next_new, AMem.ds_new, List.getD_cons_zero, List.getD_cons_succ, List.getD_nil, reduceIte, Nat.reduceEqDiff, Bool.or_true, Bool.true_or, Bool.or_false, Bool.false_or, Bool.not_true, Bool.not_false, Bool.false_eq_true, beq_self_eq_true, beq_true, Bool.true_beq, beq_false, Bool.false_beq, List.length_cons, List.length_nil, Nat.zero_add, Nat.add_zero, Nat.reduceAdd, Nat.reduceLeDiff, List.getElem?_cons_zero, List.getElem?_cons_succ, Option.map_some, List.map_cons, List.map_nil, true_and, and_true, and_self, g3, g5, e3, rd, List.length_cons, List.length_nil, List.take_succ_cons, List.take_zero, List.drop_zero, Wo_some])
          | (refine W_opgF rfl rfl ?hg ?_; (case hg => (simp only [upd_at, reduceIte, Nat.reduceEqDiff, Bool.not_true, Bool.not_false]; done)))
          | rw [W_seq] | rw [W_reg] | rw [push_no] | rw [W_onil] | rw [W_skip] | rw [W_blk] | rw [W_b] | refine W_regd0 ?_)
        refine W_callA rfl ?hargs (call25 (i := i) ru3 (by omega) (by omega) (by omega)) ?_
        case hargs => simp only [decide_true, decide_false, execE, unE, at_t, at_c, upd_at, upd_none, args0, push_no, AMem.get_inn, AMem.next_inn, AMem.ds_inn, AMem.get_put, AMem.next_put, AMem.ds_put, AMem.get_new, AMem.next_new, AMem.ds_new, List.getD_cons_zero, List.getD_cons_succ, List.getD_nil, reduceIte, Nat.reduceEqDiff, Bool.or_true, Bool.true_or, Bool.or_false, Bool.false_or, Bool.not_true, Bool.not_false, Bool.false_eq_true, beq_self_eq_true, beq_true, Bool.true_beq, beq_false, Bool.false_beq, List.length_cons, List.length_nil, Nat.zero_add, Nat.add_zero, Nat.reduceAdd, Nat.reduceLeDiff, List.getElem?_cons_zero, List.getElem?_cons_succ, Option.map_some, List.map_cons, List.map_nil, true_and, and_true, and_self, g5] <;> rfl
        rintro v m4 ⟨jv, rv, k4, hjv⟩ hs4
        have hlv := rv.lenF (n := (G.kids up i).length) (by simp)
        have ru4 := ru3.keep k4 (by simp)
        have e4 := k4.at (by have := k3.next; omega) (by simp) e3
        have hkc := G.kids_count hGI hi1
        have hks2 := G.kidsS_sorted i (up.drop (max (i + 1) 0).toNat) (max (i + 1) 0).toNat
        have hkl : (G.kids up i).length ≤ up.length := by rw [hkc]; exact List.countP_le_length
        have hcl : up.countP (fun u => decide (u < i)) ≤ up.length := List.countP_le_length
        have hmem := fun x (hx : x ∈ G.kids up i) => G.kids_mem hx
        change (G.kids up i).Pairwise (· < ·) at hks2
        generalize hK : G.kids up i = K at *
        have hclt := G.count_lt up i
        rw [← hkc] at hclt
        generalize hc0 : up.countP (fun u => decide (u < i)) = c0 at *
        repeat (first
          | ((first | refine W_op rfl rfl ?_ | (refine W_opgT rfl rfl ?hg ?_; (case hg => (simp only [upd_at, reduceIte, Nat.reduceEqDiff, Bool.not_true, Bool.not_false]; done)))); simp only [decide_true, decide_false, execE, unE, at_t, at_c, upd_at, upd_none, args0, push_no, AMem.get_inn, AMem.next_inn, AMem.ds_inn, AMem.get_put, AMem.next_put, AMem.ds_put, AMem.get_new, AMem.next_new, AMem.ds_new, List.getD_cons_zero, List.getD_cons_succ, List.getD_nil, reduceIte, Nat.reduceEqDiff, Bool.or_true, Bool.true_or, Bool.or_false, Bool.false_or, Bool.not_true, Bool.not_false, Bool.false_eq_true, beq_self_eq_true, beq_true, Bool.true_beq, beq_false, Bool.false_beq, List.length_cons, List.length_nil, Nat.zero_add, Nat.add_zero, Nat.reduceAdd, Nat.reduceLeDiff, List.getElem?_cons_zero, List.getElem?_cons_succ, Option.map_some, List.map_cons, List.map_nil, true_and, and_true, and_self, ↓hlv, Wo_some])
          | (refine W_opgF rfl rfl ?hg ?_; (case hg => (simp only [upd_at, reduceIte, Nat.reduceEqDiff, Bool.not_true, Bool.not_false]; done)))
          | rw [W_seq] | rw [W_reg] | rw [push_no] | rw [W_onil] | rw [W_skip] | rw [W_blk] | rw [W_b] | refine W_regd0 ?_)
        refine W_loop (fun n g' m' => ∃ (p : Nat) (la : Int), p ≤ K.length ∧ n = K.length - p ∧ g' 0 = av ∧ g' 3 = .p (some (m2.next, 0)) ∧ g' 4 = .i .i64 (c0 + p : Nat) ∧ g' 5 = .i .i64 i ∧ g' 6 = .i .i64 la ∧ g' 25 = v ∧ g' 26 = .i .i64 K.length ∧ g' 27 = .i .i64 p ∧ (∀ x : Nat, K[p]? = some x → la < x) ∧ m' = m4) K.length ?_ ?_ ?_
        · refine ⟨0, i, Nat.zero_le _, rfl, ?_, ?_, ?_, ?_, ?_, ?_, ?_, ?_, fun x hx => (hmem x (List.mem_of_getElem? hx)).2, rfl⟩
          · skip
            simp only [upd_at, upd_none, reduceIte, Nat.reduceEqDiff, args0, List.getD_cons_zero, List.getD_cons_succ, List.getD_nil, g0]
          · skip
            simp only [upd_at, upd_none, reduceIte, Nat.reduceEqDiff, args0, List.getD_cons_zero, List.getD_cons_succ, List.getD_nil, g3]
          · skip
            simp only [decide_true, decide_false, execE, unE, at_t, at_c, upd_at, upd_none, args0, push_no, AMem.get_inn, AMem.next_inn, AMem.ds_inn, AMem.get_put, AMem.next_put, AMem.ds_put, AMem.get_new, AMem.next_new, AMem.ds_new, List.getD_cons_zero, List.getD_cons_succ, List.getD_nil, reduceIte, Nat.reduceEqDiff, Bool.or_true, Bool.true_or, Bool.or_false, Bool.false_or, Bool.not_true, Bool.not_false, Bool.false_eq_true, beq_self_eq_true, beq_true, Bool.true_beq, beq_false, Bool.false_beq, List.length_cons, List.length_nil, Nat.zero_add, Nat.add_zero, Nat.reduceAdd, Nat.reduceLeDiff, List.getElem?_cons_zero, List.getElem?_cons_succ, Option.map_some, List.map_cons, List.map_nil, true_and, and_true, and_self, g4]
          · skip
            simp only [upd_at, upd_none, reduceIte, Nat.reduceEqDiff, args0, List.getD_cons_zero, List.getD_cons_succ, List.getD_nil, g5]
          · skip
            simp only [upd_at, upd_none, reduceIte, Nat.reduceEqDiff, args0, List.getD_cons_zero, List.getD_cons_succ, List.getD_nil, g5]
          · skip
            simp only [upd_at, upd_none, reduceIte, Nat.reduceEqDiff, args0, List.getD_cons_zero, List.getD_cons_succ, List.getD_nil]
          · skip
            simp only [upd_at, upd_none, reduceIte, Nat.reduceEqDiff, args0, List.getD_cons_zero, List.getD_cons_succ, List.getD_nil]
          · skip
            simp only [upd_at, upd_none, reduceIte, Nat.reduceEqDiff, args0, List.getD_cons_zero, List.getD_cons_succ, List.getD_nil, Int.ofNat_zero]
            try rfl
        · intro i hi
          repeat (first | exact hg i hi | refine upd_un ?_ rfl i hi; clear i hi; intro i hi)
        · clear g0 g3 g4 g5
          rintro n g m5 ⟨p, la, hp, rfl, g0, g3, g4, g5, g6, g25, g26, g27, hla, rfl⟩ hg
          repeat (first
            | ((first | refine W_op rfl rfl ?_ | (refine W_opgT rfl rfl ?hg ?_; (case hg => (simp only [upd_at, reduceIte, Nat.reduceEqDiff, Bool.not_true, Bool.not_false]; done)))); simp only [decide_true, decide_false, execE, unE, at_t, at_c, upd_at, upd_none, args0, push_no, AMem.get_inn, AMem.next_inn, AMem.ds_inn, AMem.get_put, AMem.next_put, AMem.ds_put, AMem.get_new, AMem.next_new, AMem.ds_new, List.getD_cons_zero, List.getD_cons_succ, List.getD_nil, reduceIte, Nat.reduceEqDiff, Bool.or_true, Bool.true_or, Bool.or_false, Bool.false_or, Bool.not_true, Bool.not_false, Bool.false_eq_true, beq_self_eq_true, beq_true, Bool.true_beq, beq_false, Bool.false_beq, List.length_cons, List.length_nil, Nat.zero_add, Nat.add_zero, Nat.reduceAdd, Nat.reduceLeDiff, List.getElem?_cons_zero, List.getElem?_cons_succ, Option.map_some, List.map_cons, List.map_nil, true_and, and_true, and_self, g26, g27, binE, isShift, intBin, Wo_some])
            | (refine W_opgF rfl rfl ?hg ?_; (case hg => (simp only [upd_at, reduceIte, Nat.reduceEqDiff, Bool.not_true, Bool.not_false]; done)))
            | rw [W_seq] | rw [W_reg] | rw [push_no] | rw [W_onil] | rw [W_skip] | rw [W_blk] | rw [W_b] | refine W_regd0 ?_)
          refine W_cond ?_
          simp only [decide_true, decide_false, execE, unE, at_t, at_c, upd_at, upd_none, args0, push_no, AMem.get_inn, AMem.next_inn, AMem.ds_inn, AMem.get_put, AMem.next_put, AMem.ds_put, AMem.get_new, AMem.next_new, AMem.ds_new, List.getD_cons_zero, List.getD_cons_succ, List.getD_nil, reduceIte, Nat.reduceEqDiff, Bool.or_true, Bool.true_or, Bool.or_false, Bool.false_or, Bool.not_true, Bool.not_false, Bool.false_eq_true, beq_self_eq_true, beq_true, Bool.true_beq, beq_false, Bool.false_beq, List.length_cons, List.length_nil, Nat.zero_add, Nat.add_zero, Nat.reduceAdd, Nat.reduceLeDiff, List.getElem?_cons_zero, List.getElem?_cons_succ, Option.map_some, List.map_cons, List.map_nil, true_and, and_true, and_self]
          refine WC_split (fun ht => ?_) (fun hf => ?_)
          · have hpk : p < K.length := by simpa using ht
            obtain ⟨x, hx⟩ : ∃ x, K[p]? = some x := ⟨_, List.getElem?_eq_getElem hpk⟩
            obtain ⟨hux, hix⟩ := hmem x (List.mem_of_getElem? hx)
            have hxl := (List.getElem?_eq_some_iff.1 hux).1
            have hlax := hla x hx
            obtain ⟨y1, c1, ex1, _, hav1, _, hg1, _, hc1, _⟩ := rv.atN (n := K.length) (i := p) (x := .i .i64 (x : Int)) (by simp) (by rw [List.getElem?_map, hx]; rfl)
            obtain ⟨y2, c2, ex2, _, hav2, _, hg2, _, hc2, _⟩ := ru4.atN (n := up.length) (i := x) (x := .i .i64 i) (by simp) (by rw [List.getElem?_map, hux]; rfl)
            have hi1' : (0 ≤ (p : Int) ∧ (p : Int) < (K.length : Int)) := ⟨by omega, by omega⟩
            have hi2' : (0 ≤ (x : Int) ∧ (x : Int) < (up.length : Int)) := ⟨by omega, by omega⟩
            have b1 : decide ((x : Int) ≤ la) = false := by simp; omega
            have b2 : decide ((x : Int) ≥ (l.length : Int)) = false := by simp; omega
            have b3 : (i != i) = false := by simp
            have hw1 : IntKind.i64.wrap ((p : Int) + 1) = ((p + 1 : Nat) : Int) := (wrap64' (n := (p : Int) + 1) (by omega) (by omega)).trans (by omega)
            have hw2 : IntKind.i64.wrap (((c0 + p : Nat) : Int) + 1) = ((c0 + (p + 1) : Nat) : Int) := (wrap64' (n := ((c0 + p : Nat) : Int) + 1) (by omega) (by omega)).trans (by omega)
            repeat (first
              | ((first | refine W_op rfl rfl ?_ | (refine W_opgT rfl rfl ?hg ?_; (case hg => (simp only [upd_at, reduceIte, Nat.reduceEqDiff, Bool.not_true, Bool.not_false]; done)))); simp only [decide_true, decide_false, execE, unE, at_t, at_c, upd_at, upd_none, args0, push_no, AMem.get_inn, AMem.next_inn, AMem.ds_inn, AMem.get_put, AMem.next_put, AMem.ds_put, AMem.get_new, AMem.next_new, AMem.ds_new, List.getD_cons_zero, List.getD_cons_succ, List.getD_nil, reduceIte, Nat.reduceEqDiff, Bool.or_true, Bool.true_or, Bool.or_false, Bool.false_or, Bool.not_true, Bool.not_false, Bool.false_eq_true, beq_self_eq_true, beq_true, Bool.true_beq, beq_false, Bool.false_beq, List.length_cons, List.length_nil, Nat.zero_add, Nat.add_zero, Nat.reduceAdd, Nat.reduceLeDiff, List.getElem?_cons_zero, List.getElem?_cons_succ, Option.map_some, List.map_cons, List.map_nil, true_and, and_true, and_self, g0, g3, g4, g5, g6, g25, g27, hav1, hav2, hi1', hi2', Int.toNat_natCast, Nat.mul_one, hg1, hc1, hg2, hc2, e4, ↓hlen, b1, b2, b3, binE, isShift, intBin, Wo_some])
              | (refine W_opgF rfl rfl ?hg ?_; (case hg => (simp only [upd_at, reduceIte, Nat.reduceEqDiff, Bool.not_true, Bool.not_false]; done)))
              | rw [W_seq] | rw [W_reg] | rw [push_no] | rw [W_onil] | rw [W_skip] | rw [W_blk] | rw [W_b] | refine W_regd0 ?_)
            refine W_cond ?_
            simp only [decide_true, decide_false, execE, unE, at_t, at_c, upd_at, upd_none, args0, push_no, AMem.get_inn, AMem.next_inn, AMem.ds_inn, AMem.get_put, AMem.next_put, AMem.ds_put, AMem.get_new, AMem.next_new, AMem.ds_new, List.getD_cons_zero, List.getD_cons_succ, List.getD_nil, reduceIte, Nat.reduceEqDiff, Bool.or_true, Bool.true_or, Bool.or_false, Bool.false_or, Bool.not_true, Bool.not_false, Bool.false_eq_true, beq_self_eq_true, beq_true, Bool.true_beq, beq_false, Bool.false_beq, List.length_cons, List.length_nil, Nat.zero_add, Nat.add_zero, Nat.reduceAdd, Nat.reduceLeDiff, List.getElem?_cons_zero, List.getElem?_cons_succ, Option.map_some, List.map_cons, List.map_nil, true_and, and_true, and_self, WC]
            repeat (first
              | ((first | refine W_op rfl rfl ?_ | (refine W_opgT rfl rfl ?hg ?_; (case hg => (simp only [upd_at, reduceIte, Nat.reduceEqDiff, Bool.not_true, Bool.not_false]; done)))); simp only [decide_true, decide_false, execE, unE, at_t, at_c, upd_at, upd_none, args0, push_no, AMem.get_inn, AMem.next_inn, AMem.ds_inn, AMem.get_put, AMem.next_put, AMem.ds_put, AMem.get_new, AMem.next_new, AMem.ds_new, List.getD_cons_zero, List.getD_cons_succ, List.getD_nil, reduceIte, Nat.reduceEqDiff, Bool.or_true, Bool.true_or, Bool.or_false, Bool.false_or, Bool.not_true, Bool.not_false, Bool.false_eq_true, beq_self_eq_true, beq_true, Bool.true_beq, beq_false, Bool.false_beq, List.length_cons, List.length_nil, Nat.zero_add, Nat.add_zero, Nat.reduceAdd, Nat.reduceLeDiff, List.getElem?_cons_zero, List.getElem?_cons_succ, Option.map_some, List.map_cons, List.map_nil, true_and, and_true, and_self, g4, g27, hw1, hw2, binE, isShift, intBin, Wo_some])
              | (refine W_opgF rfl rfl ?hg ?_; (case hg => (simp only [upd_at, reduceIte, Nat.reduceEqDiff, Bool.not_true, Bool.not_false]; done)))
              | rw [W_seq] | rw [W_reg] | rw [push_no] | rw [W_onil] | rw [W_skip] | rw [W_blk] | rw [W_b] | refine W_regd0 ?_)
            refine W_j (by repeat (first | exact hg | exact args0_un (Nat.le_of_ble_eq_true rfl) | refine upd_un ?_ rfl)) ?_
            refine ⟨K.length - (p + 1), by omega, p + 1, x, by omega, rfl, ?_, ?_, ?_, ?_, ?_, ?_, ?_, ?_, ?_, rfl⟩
            · skip
              simp only [upd_at, upd_none, reduceIte, Nat.reduceEqDiff, args0, List.getD_cons_zero, List.getD_cons_succ, List.getD_nil, g0]
            · skip
              simp only [upd_at, upd_none, reduceIte, Nat.reduceEqDiff, args0, List.getD_cons_zero, List.getD_cons_succ, List.getD_nil, g3]
            · skip
              simp only [upd_at, upd_none, reduceIte, Nat.reduceEqDiff, args0, List.getD_cons_zero, List.getD_cons_succ, List.getD_nil]
            · skip
              simp only [upd_at, upd_none, reduceIte, Nat.reduceEqDiff, args0, List.getD_cons_zero, List.getD_cons_succ, List.getD_nil, g5]
            · skip
              simp only [upd_at, upd_none, reduceIte, Nat.reduceEqDiff, args0, List.getD_cons_zero, List.getD_cons_succ, List.getD_nil]
            · skip
              simp only [upd_at, upd_none, reduceIte, Nat.reduceEqDiff, args0, List.getD_cons_zero, List.getD_cons_succ, List.getD_nil, g25, hav1]
            · skip
              simp only [upd_at, upd_none, reduceIte, Nat.reduceEqDiff, args0, List.getD_cons_zero, List.getD_cons_succ, List.getD_nil, g26]
            · skip
              simp only [upd_at, upd_none, reduceIte, Nat.reduceEqDiff, args0, List.getD_cons_zero, List.getD_cons_succ, List.getD_nil]
            · intro y hy
              have := sorted_get hks2 hx hy
              omega
          · refine W_exit rfl ?_
            have hpe : p = K.length := by simp at hf; omega
            subst hpe
            have hw3 : IntKind.i64.wrap (i + 1) = i + 1 := wrap64' (by omega) (by omega)
            repeat (first
              | ((first | refine W_op rfl rfl ?_ | (refine W_opgT rfl rfl ?hg ?_; (case hg => (simp only [upd_at, reduceIte, Nat.reduceEqDiff, Bool.not_true, Bool.not_false]; done)))); simp only [decide_true, decide_false, execE, unE, at_t, at_c, upd_at, upd_none, args0, push_no, AMem.get_inn, AMem.next_inn, AMem.ds_inn, AMem.get_put, AMem.next_put, AMem.ds_put, AMem.get_new, AMem.next_new, AMem.ds_new, List.getD_cons_zero, List.getD_cons_succ, List.getD_nil, reduceIte, Nat.reduceEqDiff, Bool.or_true, Bool.true_or, Bool.or_false, Bool.false_or, Bool.not_true, Bool.not_false, Bool.false_eq_true, beq_self_eq_true, beq_true, Bool.true_beq, beq_false, Bool.false_beq, List.length_cons, List.length_nil, Nat.zero_add, Nat.add_zero, Nat.reduceAdd, Nat.reduceLeDiff, List.getElem?_cons_zero, List.getElem?_cons_succ, Option.map_some, List.map_cons, List.map_nil, true_and, and_true, and_self, g5, hw3, binE, isShift, intBin, Wo_some])
              | (refine W_opgF rfl rfl ?hg ?_; (case hg => (simp only [upd_at, reduceIte, Nat.reduceEqDiff, Bool.not_true, Bool.not_false]; done)))
              | rw [W_seq] | rw [W_reg] | rw [push_no] | rw [W_onil] | rw [W_skip] | rw [W_blk] | rw [W_b] | refine W_regd0 ?_)
            refine W_j (by repeat (first | exact hg | exact args0_un (Nat.le_of_ble_eq_true rfl) | refine upd_un ?_ rfl)) ?_
            refine ⟨(up.length - (i + 1)).toNat, by omega, i + 1, by omega, by omega, rfl, ?_, ?_, ?_, ?_, k3.trans k4 (by simp), hs4.ds.trans d3⟩
            · skip
              simp only [upd_at, upd_none, reduceIte, Nat.reduceEqDiff, args0, List.getD_cons_zero, List.getD_cons_succ, List.getD_nil, g0]
            · skip
              simp only [upd_at, upd_none, reduceIte, Nat.reduceEqDiff, args0, List.getD_cons_zero, List.getD_cons_succ, List.getD_nil, g3]
            · skip
              simp only [upd_at, upd_none, reduceIte, Nat.reduceEqDiff, args0, List.getD_cons_zero, List.getD_cons_succ, List.getD_nil, g4]
              rw [hclt]
            · skip
              simp only [upd_at, upd_none, reduceIte, Nat.reduceEqDiff, args0, List.getD_cons_zero, List.getD_cons_succ, List.getD_nil]
      · refine W_exit rfl ?_
        have hie : i = up.length := by
          have : ¬ i < (l.length : Int) := by simpa using hf
          omega
        subst hie
        rw [G.count_all hGI] at g4
        have hbe : ((up.length : Int) == (l.length : Int)) = true := by simp; omega
        have h25a := call25 (i := (up.length : Int)) ru3 (by omega) (by omega) (by omega)
        rw [G.kids_end] at h25a
        repeat (first
          | ((first | refine W_op rfl rfl ?_ | (refine W_opgT rfl rfl ?hg ?_; (case hg => (simp only [upd_at, reduceIte, Nat.reduceEqDiff, Bool.not_true, Bool.not_false]; done)))); simp only [decide_true, decide_false, execE, unE, at_t, at_c, upd_at, upd_none, args0, push_no, AMem.get_inn, AMem.next_inn, AMem.ds_inn, AMem.get_put, AMem.next_put, AMem.ds_put, AMem.get_new, AMem.next_new, AMem.ds_new, List.getD_cons_zero, List.getD_cons_succ, List.getD_nil, reduceIte, Nat.reduceEqDiff, Bool.or_true, Bool.true_or, Bool.or_false, Bool.false_or, Bool.not_true, Bool.not_false, Bool.false_eq_true, beq_self_eq_true, beq_true, Bool.true_beq, beq_false, Bool.false_beq, List.length_cons, List.length_nil, Nat.zero_add, Nat.add_zero, Nat.reduceAdd, Nat.reduceLeDiff, List.getElem?_cons_zero, List.getElem?_cons_succ, Option.map_some, List.map_cons, List.map_nil, true_and, and_true, and_self, g0, g3, g4, ↓hlen, hbe, e3, rd, List.length_cons, List.length_nil, List.take_succ_cons, List.take_zero, List.drop_zero, binE, isShift, intBin, Wo_some])
          | (refine W_opgF rfl rfl ?hg ?_; (case hg => (simp only [upd_at, reduceIte, Nat.reduceEqDiff, Bool.not_true, Bool.not_false]; done)))
          | rw [W_seq] | rw [W_reg] | rw [push_no] | rw [W_onil] | rw [W_skip] | rw [W_blk] | rw [W_b] | refine W_regd0 ?_)
        rw [hlu] at h25a
        refine W_callG rfl ?hg ?hargs (fun _ => h25a) ?_ (fun hne => absurd rfl hne)
        case hg => (simp only [decide_true, decide_false, execE, unE, at_t, at_c, upd_at, upd_none, args0, push_no, AMem.get_inn, AMem.next_inn, AMem.ds_inn, AMem.get_put, AMem.next_put, AMem.ds_put, AMem.get_new, AMem.next_new, AMem.ds_new, List.getD_cons_zero, List.getD_cons_succ, List.getD_nil, reduceIte, Nat.reduceEqDiff, Bool.or_true, Bool.true_or, Bool.or_false, Bool.false_or, Bool.not_true, Bool.not_false, Bool.false_eq_true, beq_self_eq_true, beq_true, Bool.true_beq, beq_false, Bool.false_beq, List.length_cons, List.length_nil, Nat.zero_add, Nat.add_zero, Nat.reduceAdd, Nat.reduceLeDiff, List.getElem?_cons_zero, List.getElem?_cons_succ, Option.map_some, List.map_cons, List.map_nil, true_and, and_true, and_self]; done)
        case hargs => simp only [decide_true, decide_false, execE, unE, at_t, at_c, upd_at, upd_none, args0, push_no, AMem.get_inn, AMem.next_inn, AMem.ds_inn, AMem.get_put, AMem.next_put, AMem.ds_put, AMem.get_new, AMem.next_new, AMem.ds_new, List.getD_cons_zero, List.getD_cons_succ, List.getD_nil, reduceIte, Nat.reduceEqDiff, Bool.or_true, Bool.true_or, Bool.or_false, Bool.false_or, Bool.not_true, Bool.not_false, Bool.false_eq_true, beq_self_eq_true, beq_true, Bool.true_beq, beq_false, Bool.false_beq, List.length_cons, List.length_nil, Nat.zero_add, Nat.add_zero, Nat.reduceAdd, Nat.reduceLeDiff, List.getElem?_cons_zero, List.getElem?_cons_succ, Option.map_some, List.map_cons, List.map_nil, true_and, and_true, and_self] <;> rfl
        rintro v m4 _ ⟨jv, rv, k4, hjv⟩ hs4
        have hlv := rv.lenF (n := 0) (by simp)
        have ru4 := ru3.keep k4 (by simp)
        have e4 := k4.at (by have := k3.next; omega) (by simp) e3
        have hz : (((0 : Nat) : Int) == 0) = true := by decide
        have h25b := call25 (i := -2) ru4 (by omega) (by omega) (by omega)
        rw [G.kids_none hGI] at h25b
        repeat (first
          | ((first | refine W_op rfl rfl ?_ | (refine W_opgT rfl rfl ?hg ?_; (case hg => (simp only [upd_at, reduceIte, Nat.reduceEqDiff, Bool.not_true, Bool.not_false]; done)))); simp only [decide_true, decide_false, execE, unE, at_t, at_c, upd_at, upd_none, args0, push_no, AMem.get_inn, AMem.next_inn, AMem.ds_inn, AMem.get_put, AMem.next_put, AMem.ds_put, AMem.get_new, AMem.next_new, AMem.ds_new, List.getD_cons_zero, List.getD_cons_succ, List.getD_nil, reduceIte, Nat.reduceEqDiff, Bool.or_true, Bool.true_or, Bool.or_false, Bool.false_or, Bool.not_true, Bool.not_false, Bool.false_eq_true, beq_self_eq_true, beq_true, Bool.true_beq, beq_false, Bool.false_beq, List.length_cons, List.length_nil, Nat.zero_add, Nat.add_zero, Nat.reduceAdd, Nat.reduceLeDiff, List.getElem?_cons_zero, List.getElem?_cons_succ, Option.map_some, List.map_cons, List.map_nil, true_and, and_true, and_self, g3, ↓hlv, hz, e4, rd, List.length_cons, List.length_nil, List.take_succ_cons, List.take_zero, List.drop_zero, binE, isShift, intBin, Wo_some])
          | (refine W_opgF rfl rfl ?hg ?_; (case hg => (simp only [upd_at, reduceIte, Nat.reduceEqDiff, Bool.not_true, Bool.not_false]; done)))
          | rw [W_seq] | rw [W_reg] | rw [push_no] | rw [W_onil] | rw [W_skip] | rw [W_blk] | rw [W_b] | refine W_regd0 ?_)
        refine W_callG rfl ?hg ?hargs (fun _ => h25b) ?_ (fun hne => absurd rfl hne)
        case hg => (simp only [decide_true, decide_false, execE, unE, at_t, at_c, upd_at, upd_none, args0, push_no, AMem.get_inn, AMem.next_inn, AMem.ds_inn, AMem.get_put, AMem.next_put, AMem.ds_put, AMem.get_new, AMem.next_new, AMem.ds_new, List.getD_cons_zero, List.getD_cons_succ, List.getD_nil, reduceIte, Nat.reduceEqDiff, Bool.or_true, Bool.true_or, Bool.or_false, Bool.false_or, Bool.not_true, Bool.not_false, Bool.false_eq_true, beq_self_eq_true, beq_true, Bool.true_beq, beq_false, Bool.false_beq, List.length_cons, List.length_nil, Nat.zero_add, Nat.add_zero, Nat.reduceAdd, Nat.reduceLeDiff, List.getElem?_cons_zero, List.getElem?_cons_succ, Option.map_some, List.map_cons, List.map_nil, true_and, and_true, and_self]; done)
        case hargs => simp only [decide_true, decide_false, execE, unE, at_t, at_c, upd_at, upd_none, args0, push_no, AMem.get_inn, AMem.next_inn, AMem.ds_inn, AMem.get_put, AMem.next_put, AMem.ds_put, AMem.get_new, AMem.next_new, AMem.ds_new, List.getD_cons_zero, List.getD_cons_succ, List.getD_nil, reduceIte, Nat.reduceEqDiff, Bool.or_true, Bool.true_or, Bool.or_false, Bool.false_or, Bool.not_true, Bool.not_false, Bool.false_eq_true, beq_self_eq_true, beq_true, Bool.true_beq, beq_false, Bool.false_beq, List.length_cons, List.length_nil, Nat.zero_add, Nat.add_zero, Nat.reduceAdd, Nat.reduceLeDiff, List.getElem?_cons_zero, List.getElem?_cons_succ, Option.map_some, List.map_cons, List.map_nil, true_and, and_true, and_self] <;> rfl
        rintro v5 m5 _ ⟨jv5, rv5, k5, hjv5⟩ hs5
        have hlv5 := rv5.lenF (n := 0) (by simp)
        repeat (first
          | ((first | refine W_op rfl rfl ?_ | (refine W_opgT rfl rfl ?hg ?_; (case hg => (simp only [upd_at, reduceIte, Nat.reduceEqDiff, Bool.not_true, Bool.not_false]; done)))); simp only [decide_true, decide_false, execE, unE, at_t, at_c, upd_at, upd_none, args0, push_no, AMem.get_inn, AMem.next_inn, AMem.ds_inn, AMem.get_put, AMem.next_put, AMem.ds_put, AMem.get_new, AMem.next_new, AMem.ds_new, List.getD_cons_zero, List.getD_cons_succ, List.getD_nil, reduceIte, Nat.reduceEqDiff, Bool.or_true, Bool.true_or, Bool.or_false, Bool.false_or, Bool.not_true, Bool.not_false, Bool.false_eq_true, beq_self_eq_true, beq_true, Bool.true_beq, beq_false, Bool.false_beq, List.length_cons, List.length_nil, Nat.zero_add, Nat.add_zero, Nat.reduceAdd, Nat.reduceLeDiff, List.getElem?_cons_zero, List.getElem?_cons_succ, Option.map_some, List.map_cons, List.map_nil, true_and, and_true, and_self, ↓hlv5, hz, binE, isShift, intBin, Wo_some])
          | (refine W_opgF rfl rfl ?hg ?_; (case hg => (simp only [upd_at, reduceIte, Nat.reduceEqDiff, Bool.not_true, Bool.not_false]; done)))
          | rw [W_seq] | rw [W_reg] | rw [push_no] | rw [W_onil] | rw [W_skip] | rw [W_blk] | rw [W_b] | refine W_regd0 ?_)
        refine W_getRet (by repeat (first | exact hg | exact args0_un (Nat.le_of_ble_eq_true rfl) | refine upd_un ?_ rfl)) ?_
        exact ⟨hs5.ds.trans (hs4.ds.trans d3), _, rfl, rfl⟩
end Go.Proofs.YtnbdamdcmofafaaGreatDoor
