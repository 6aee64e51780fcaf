/- The law SessFull, at any number. No condition. -/
import Derived.Test.YtjlckbphpmogjaaGreatDoorSfPB
import Derived.Test.YtjlckbphpmogjaaGreatDoorSfB23
namespace Go.Proofs.YtjlckbphpmogjaaGreatDoor
open Go.Vi
open AMem (get_inn next_inn ds_inn get_put next_put ds_put get_new next_new ds_new)
open List (getD_cons_zero getD_cons_succ getD_nil length_cons length_nil getElem?_cons_zero getElem?_cons_succ map_cons map_nil)
set_option linter.unusedSimpArgs false
set_option linter.unusedVariables false

def B23 : Nat → AV := fun k => [un, (.i .i64 0), (.i .i64 1), (.i .i64 0), (.i .i64 0), (.i .i64 0), (.i .i64 0), (.i .i64 0), (.i .i64 (-1)), (.sl (some (471, 0)) 2 2 false)].getD k un

theorem call_beg23 : Vi.Call T 8 [.sl (some (8, 0)) 1 1 true, .sl (some (9, 0)) 1 1 true, .agg [.i .i64 9, .i .i64 9, .i .i64 999, .i .i64 1]] mem23 (fun v m' => v = .tup [.p (some (441, 0)), .sl (some (440, 0)) 3 3 false] ∧ Ses m' 441 88 B23 (.sl none 0 0 true) (.i .i64 1) [.sl (some (51, 0)) 1 1 false, .i .i64 0, .sl (some (15, 0)) 1 1 true]) := by
  obtain ⟨⟨v, m'⟩, h1, h2⟩ := Option.map_eq_some_iff.1 beg23
  simp only [Prod.mk.injEq] at h2
  obtain ⟨e1, e2, e3, e4, _, _⟩ := h2
  exact ⟨v, m', ⟨2000, callK_sound 2000 _ _ _ _ h1⟩, e1, ⟨e3, by rw [e2]; decide, e4, by rw [e2]; decide, by decide⟩⟩

def Lf (i : Nat) : List (Int × Int) := (List.range (min i 64)).map fun k : Nat => ((2 : Int), (k : Int))

theorem Lf_len (i : Nat) : (Lf i).length = min i 64 := by simp [Lf]
theorem Lf_mem {i : Nat} {k : Nat} : ((2 : Int), (k : Int)) ∈ Lf i ↔ k < min i 64 := by
  unfold Lf
  rw [List.mem_map]
  constructor
  · rintro ⟨x, hx, he⟩
    simp only [Prod.mk.injEq, true_and] at he
    have := List.mem_range.1 hx
    omega
  · intro h
    exact ⟨k, List.mem_range.2 h, rfl⟩
theorem Lf_lt {i : Nat} (h : i < 64) : Lf (i + 1) = Lf i ++ [((2 : Int), (i : Int))] := by
  unfold Lf
  rw [show min (i + 1) 64 = i + 1 by omega, show min i 64 = i by omega, List.range_succ, List.map_append]
  rfl
theorem Lf_ge {i : Nat} (h : ¬ i < 64) : Lf (i + 1) = Lf i := by
  unfold Lf
  rw [show min (i + 1) 64 = 64 by omega, show min i 64 = 64 by omega]

theorem prt2 (nN nG : Int) {i : Nat} (h : i ≤ 100) : prt nN nG 2 (i : Int) = true := by
  unfold prt
  rw [decide_eq_true_eq]
  exact .inr (.inl ⟨rfl, by omega, by omega⟩)

theorem add_lt {nN nG : Int} {i : Nat} (h : i < 64) : addE nN nG (Lf i) (2, (i : Int)) = (0, Lf (i + 1)) := by
  have h1 := prt2 nN nG (i := i) (by omega)
  have h2 : ¬ ((2 : Int), (i : Int)) ∈ Lf i := fun hm => by have := Lf_mem.1 hm; omega
  have h3 : ¬ 64 ≤ (Lf i).length := by rw [Lf_len]; omega
  simp only [addE, h1, Bool.true_eq_false, if_false, h2, h3, Lf_lt h]
theorem add_ge {nN nG : Int} {i : Nat} (h : ¬ i < 64) (hi : i ≤ 100) : addE nN nG (Lf i) (2, (i : Int)) = (13, Lf (i + 1)) := by
  have h1 := prt2 nN nG (i := i) (by omega)
  have h2 : ¬ ((2 : Int), (i : Int)) ∈ Lf i := fun hm => by have := Lf_mem.1 hm; omega
  have h3 : 64 ≤ (Lf i).length := by rw [Lf_len]; omega
  simp only [addE, h1, Bool.true_eq_false, if_false, h2, if_pos h3, Lf_ge h]
theorem add_twice {nN nG : Int} {i : Nat} (h : i < 64) : addE nN nG (Lf (i + 1)) (2, (i : Int)) = (37, Lf (i + 1)) := by
  have h1 := prt2 nN nG (i := i) (by omega)
  have h2 : ((2 : Int), (i : Int)) ∈ Lf (i + 1) := Lf_mem.2 (by omega)
  simp only [addE, h1, Bool.true_eq_false, if_false, if_pos h2]

set_option maxHeartbeats 1000000 in
theorem law3 (n : Int) : Vi.Call T 3 [.i .i64 n] { next := 8, t := .nil } (fun v _ => v = .b true) := by
  refine Vi.Call.ofP T3 (Nat.le_of_ble_eq_true rfl) ?_
  unfold v3
  repeat (first
    | ((first | refine W_op rfl rfl ?_ | (refine W_opgT rfl rfl ?hg ?_; (case hg => (simp only [upd_at, reduceIte, Nat.reduceEqDiff, Bool.not_true, Bool.not_false]; done)))); simp only [decide_true, decide_false, execE, unE, at_t, at_c, upd_at, upd_none, args0, push_no, get_inn, next_inn, ds_inn, get_put, next_put, ds_put, get_new, next_new, ds_new, getD_cons_zero, getD_cons_succ, getD_nil, reduceIte, Nat.reduceEqDiff, Bool.or_true, Bool.true_or, Bool.or_false, Bool.false_or, Bool.not_true, Bool.not_false, Bool.false_eq_true, beq_self_eq_true, beq_true, Bool.true_beq, beq_false, Bool.false_beq, length_cons, length_nil, Nat.zero_add, Nat.add_zero, Nat.reduceAdd, Nat.reduceLeDiff, getElem?_cons_zero, getElem?_cons_succ, Option.map_some, map_cons, map_nil, true_and, and_true, and_self, Nat.add_eq_left, Nat.left_eq_add, Nat.add_left_cancel_iff, Nat.succ_ne_zero, Nat.one_ne_zero, List.nil_append, List.cons_append, one_i, one_b, one_s, one_p, one_sl, one_es, one_ni, one_ifc, cells_i, cells_b, cells_s, cells_p, cells_sl, cells_ni, cells_ifc, cells_agg, List.all_cons, List.all_nil, Bool.and_self, fillX, splice, List.take_zero, List.take_succ_cons, List.take_nil, List.drop_succ_cons, List.drop_zero, List.drop_nil, List.append_nil, Nat.le_refl, Wo_some])
    | (refine W_opgF rfl rfl ?hg ?_; (case hg => (simp only [upd_at, reduceIte, Nat.reduceEqDiff, Bool.not_true, Bool.not_false]; done)))
    | (refine W_opgU rfl ?hg ?_; (case hg => (simp only [upd_at, reduceIte, Nat.reduceEqDiff]; done))) | rw [W_seq] | rw [W_reg] | rw [push_no] | rw [push_yes] | rw [W_onil] | rw [W_skip] | rw [W_blk] | rw [W_b] | refine W_regd0 ?_ | refine W_regd ?_)
  refine W_callA rfl rfl (⟨.b true, _, ⟨1, rfl⟩, And.intro rfl rfl⟩ : Vi.Call T 7 [] _ (fun v m' => v = .b true ∧ m' = ({ next := 8, t := .nil } : AMem).inn)) ?_
  rintro v m1 ⟨rfl, rfl⟩ -
  repeat (first
    | ((first | refine W_op rfl rfl ?_ | (refine W_opgT rfl rfl ?hg ?_; (case hg => (simp only [upd_at, reduceIte, Nat.reduceEqDiff, Bool.not_true, Bool.not_false]; done)))); simp only [decide_true, decide_false, execE, unE, at_t, at_c, upd_at, upd_none, args0, push_no, get_inn, next_inn, ds_inn, get_put, next_put, ds_put, get_new, next_new, ds_new, getD_cons_zero, getD_cons_succ, getD_nil, reduceIte, Nat.reduceEqDiff, Bool.or_true, Bool.true_or, Bool.or_false, Bool.false_or, Bool.not_true, Bool.not_false, Bool.false_eq_true, beq_self_eq_true, beq_true, Bool.true_beq, beq_false, Bool.false_beq, length_cons, length_nil, Nat.zero_add, Nat.add_zero, Nat.reduceAdd, Nat.reduceLeDiff, getElem?_cons_zero, getElem?_cons_succ, Option.map_some, map_cons, map_nil, true_and, and_true, and_self, Nat.add_eq_left, Nat.left_eq_add, Nat.add_left_cancel_iff, Nat.succ_ne_zero, Nat.one_ne_zero, List.nil_append, List.cons_append, one_i, one_b, one_s, one_p, one_sl, one_es, one_ni, one_ifc, cells_i, cells_b, cells_s, cells_p, cells_sl, cells_ni, cells_ifc, cells_agg, List.all_cons, List.all_nil, Bool.and_self, fillX, splice, List.take_zero, List.take_succ_cons, List.take_nil, List.drop_succ_cons, List.drop_zero, List.drop_nil, List.append_nil, Nat.le_refl, Wo_some])
    | (refine W_opgF rfl rfl ?hg ?_; (case hg => (simp only [upd_at, reduceIte, Nat.reduceEqDiff, Bool.not_true, Bool.not_false]; done)))
    | (refine W_opgU rfl ?hg ?_; (case hg => (simp only [upd_at, reduceIte, Nat.reduceEqDiff]; done))) | rw [W_seq] | rw [W_reg] | rw [push_no] | rw [push_yes] | rw [W_onil] | rw [W_skip] | rw [W_blk] | rw [W_b] | refine W_regd0 ?_ | refine W_regd ?_)
  refine W_cond ?_
  simp only [decide_true, decide_false, execE, unE, at_t, at_c, upd_at, upd_none, args0, push_no, get_inn, next_inn, ds_inn, get_put, next_put, ds_put, get_new, next_new, ds_new, getD_cons_zero, getD_cons_succ, getD_nil, reduceIte, Nat.reduceEqDiff, Bool.or_true, Bool.true_or, Bool.or_false, Bool.false_or, Bool.not_true, Bool.not_false, Bool.false_eq_true, beq_self_eq_true, beq_true, Bool.true_beq, beq_false, Bool.false_beq, length_cons, length_nil, Nat.zero_add, Nat.add_zero, Nat.reduceAdd, Nat.reduceLeDiff, getElem?_cons_zero, getElem?_cons_succ, Option.map_some, map_cons, map_nil, true_and, and_true, and_self, WC]
  by_cases hr : n < 0 ∨ n > 100
  · have hb : decide (n < 0) = true ∨ decide (n < 0) = false ∧ decide (n > 100) = true := by
      simp only [decide_eq_true_eq, decide_eq_false_iff_not]; omega
    rcases hb with hb | ⟨hb, hb2⟩
    · skip
      repeat (first
        | ((first | refine W_op rfl rfl ?_ | (refine W_opgT rfl rfl ?hg ?_; (case hg => (simp only [upd_at, reduceIte, Nat.reduceEqDiff, Bool.not_true, Bool.not_false]; done)))); simp only [decide_true, decide_false, execE, unE, at_t, at_c, upd_at, upd_none, args0, push_no, get_inn, next_inn, ds_inn, get_put, next_put, ds_put, get_new, next_new, ds_new, getD_cons_zero, getD_cons_succ, getD_nil, reduceIte, Nat.reduceEqDiff, Bool.or_true, Bool.true_or, Bool.or_false, Bool.false_or, Bool.not_true, Bool.not_false, Bool.false_eq_true, beq_self_eq_true, beq_true, Bool.true_beq, beq_false, Bool.false_beq, length_cons, length_nil, Nat.zero_add, Nat.add_zero, Nat.reduceAdd, Nat.reduceLeDiff, getElem?_cons_zero, getElem?_cons_succ, Option.map_some, map_cons, map_nil, true_and, and_true, and_self, binE, isShift, intBin, hb, Nat.add_eq_left, Nat.left_eq_add, Nat.add_left_cancel_iff, Nat.succ_ne_zero, Nat.one_ne_zero, List.nil_append, List.cons_append, one_i, one_b, one_s, one_p, one_sl, one_es, one_ni, one_ifc, cells_i, cells_b, cells_s, cells_p, cells_sl, cells_ni, cells_ifc, cells_agg, List.all_cons, List.all_nil, Bool.and_self, fillX, splice, List.take_zero, List.take_succ_cons, List.take_nil, List.drop_succ_cons, List.drop_zero, List.drop_nil, List.append_nil, Nat.le_refl, Wo_some])
        | (refine W_opgF rfl rfl ?hg ?_; (case hg => (simp only [upd_at, reduceIte, Nat.reduceEqDiff, Bool.not_true, Bool.not_false]; done)))
        | (refine W_opgU rfl ?hg ?_; (case hg => (simp only [upd_at, reduceIte, Nat.reduceEqDiff]; done))) | rw [W_seq] | rw [W_reg] | rw [push_no] | rw [push_yes] | rw [W_onil] | rw [W_skip] | rw [W_blk] | rw [W_b] | refine W_regd0 ?_ | refine W_regd ?_)
      refine W_cond ?_
      simp only [decide_true, decide_false, execE, unE, at_t, at_c, upd_at, upd_none, args0, push_no, get_inn, next_inn, ds_inn, get_put, next_put, ds_put, get_new, next_new, ds_new, getD_cons_zero, getD_cons_succ, getD_nil, reduceIte, Nat.reduceEqDiff, Bool.or_true, Bool.true_or, Bool.or_false, Bool.false_or, Bool.not_true, Bool.not_false, Bool.false_eq_true, beq_self_eq_true, beq_true, Bool.true_beq, beq_false, Bool.false_beq, length_cons, length_nil, Nat.zero_add, Nat.add_zero, Nat.reduceAdd, Nat.reduceLeDiff, getElem?_cons_zero, getElem?_cons_succ, Option.map_some, map_cons, map_nil, true_and, and_true, and_self, WC]
      repeat (first
        | ((first | refine W_op rfl rfl ?_ | (refine W_opgT rfl rfl ?hg ?_; (case hg => (simp only [upd_at, reduceIte, Nat.reduceEqDiff, Bool.not_true, Bool.not_false]; done)))); simp only [decide_true, decide_false, execE, unE, at_t, at_c, upd_at, upd_none, args0, push_no, get_inn, next_inn, ds_inn, get_put, next_put, ds_put, get_new, next_new, ds_new, getD_cons_zero, getD_cons_succ, getD_nil, reduceIte, Nat.reduceEqDiff, Bool.or_true, Bool.true_or, Bool.or_false, Bool.false_or, Bool.not_true, Bool.not_false, Bool.false_eq_true, beq_self_eq_true, beq_true, Bool.true_beq, beq_false, Bool.false_beq, length_cons, length_nil, Nat.zero_add, Nat.add_zero, Nat.reduceAdd, Nat.reduceLeDiff, getElem?_cons_zero, getElem?_cons_succ, Option.map_some, map_cons, map_nil, true_and, and_true, and_self, Nat.add_eq_left, Nat.left_eq_add, Nat.add_left_cancel_iff, Nat.succ_ne_zero, Nat.one_ne_zero, List.nil_append, List.cons_append, one_i, one_b, one_s, one_p, one_sl, one_es, one_ni, one_ifc, cells_i, cells_b, cells_s, cells_p, cells_sl, cells_ni, cells_ifc, cells_agg, List.all_cons, List.all_nil, Bool.and_self, fillX, splice, List.take_zero, List.take_succ_cons, List.take_nil, List.drop_succ_cons, List.drop_zero, List.drop_nil, List.append_nil, Nat.le_refl, Wo_some])
        | (refine W_opgF rfl rfl ?hg ?_; (case hg => (simp only [upd_at, reduceIte, Nat.reduceEqDiff, Bool.not_true, Bool.not_false]; done)))
        | (refine W_opgU rfl ?hg ?_; (case hg => (simp only [upd_at, reduceIte, Nat.reduceEqDiff]; done))) | rw [W_seq] | rw [W_reg] | rw [push_no] | rw [push_yes] | rw [W_onil] | rw [W_skip] | rw [W_blk] | rw [W_b] | refine W_regd0 ?_ | refine W_regd ?_)
      refine W_getRet (by repeat (first | exact hg | exact args0_un (Nat.le_of_ble_eq_true rfl) | refine upd_un ?_ rfl)) ?_
      exact ⟨rfl, _, rfl, rfl⟩
    · skip
      repeat (first
        | ((first | refine W_op rfl rfl ?_ | (refine W_opgT rfl rfl ?hg ?_; (case hg => (simp only [upd_at, reduceIte, Nat.reduceEqDiff, Bool.not_true, Bool.not_false]; done)))); simp only [decide_true, decide_false, execE, unE, at_t, at_c, upd_at, upd_none, args0, push_no, get_inn, next_inn, ds_inn, get_put, next_put, ds_put, get_new, next_new, ds_new, getD_cons_zero, getD_cons_succ, getD_nil, reduceIte, Nat.reduceEqDiff, Bool.or_true, Bool.true_or, Bool.or_false, Bool.false_or, Bool.not_true, Bool.not_false, Bool.false_eq_true, beq_self_eq_true, beq_true, Bool.true_beq, beq_false, Bool.false_beq, length_cons, length_nil, Nat.zero_add, Nat.add_zero, Nat.reduceAdd, Nat.reduceLeDiff, getElem?_cons_zero, getElem?_cons_succ, Option.map_some, map_cons, map_nil, true_and, and_true, and_self, binE, isShift, intBin, hb, hb2, Nat.add_eq_left, Nat.left_eq_add, Nat.add_left_cancel_iff, Nat.succ_ne_zero, Nat.one_ne_zero, List.nil_append, List.cons_append, one_i, one_b, one_s, one_p, one_sl, one_es, one_ni, one_ifc, cells_i, cells_b, cells_s, cells_p, cells_sl, cells_ni, cells_ifc, cells_agg, List.all_cons, List.all_nil, Bool.and_self, fillX, splice, List.take_zero, List.take_succ_cons, List.take_nil, List.drop_succ_cons, List.drop_zero, List.drop_nil, List.append_nil, Nat.le_refl, Wo_some])
        | (refine W_opgF rfl rfl ?hg ?_; (case hg => (simp only [upd_at, reduceIte, Nat.reduceEqDiff, Bool.not_true, Bool.not_false]; done)))
        | (refine W_opgU rfl ?hg ?_; (case hg => (simp only [upd_at, reduceIte, Nat.reduceEqDiff]; done))) | rw [W_seq] | rw [W_reg] | rw [push_no] | rw [push_yes] | rw [W_onil] | rw [W_skip] | rw [W_blk] | rw [W_b] | refine W_regd0 ?_ | refine W_regd ?_)
      refine W_cond ?_
      simp only [decide_true, decide_false, execE, unE, at_t, at_c, upd_at, upd_none, args0, push_no, get_inn, next_inn, ds_inn, get_put, next_put, ds_put, get_new, next_new, ds_new, getD_cons_zero, getD_cons_succ, getD_nil, reduceIte, Nat.reduceEqDiff, Bool.or_true, Bool.true_or, Bool.or_false, Bool.false_or, Bool.not_true, Bool.not_false, Bool.false_eq_true, beq_self_eq_true, beq_true, Bool.true_beq, beq_false, Bool.false_beq, length_cons, length_nil, Nat.zero_add, Nat.add_zero, Nat.reduceAdd, Nat.reduceLeDiff, getElem?_cons_zero, getElem?_cons_succ, Option.map_some, map_cons, map_nil, true_and, and_true, and_self, WC]
      repeat (first
        | ((first | refine W_op rfl rfl ?_ | (refine W_opgT rfl rfl ?hg ?_; (case hg => (simp only [upd_at, reduceIte, Nat.reduceEqDiff, Bool.not_true, Bool.not_false]; done)))); simp only [decide_true, decide_false, execE, unE, at_t, at_c, upd_at, upd_none, args0, push_no, get_inn, next_inn, ds_inn, get_put, next_put, ds_put, get_new, next_new, ds_new, getD_cons_zero, getD_cons_succ, getD_nil, reduceIte, Nat.reduceEqDiff, Bool.or_true, Bool.true_or, Bool.or_false, Bool.false_or, Bool.not_true, Bool.not_false, Bool.false_eq_true, beq_self_eq_true, beq_true, Bool.true_beq, beq_false, Bool.false_beq, length_cons, length_nil, Nat.zero_add, Nat.add_zero, Nat.reduceAdd, Nat.reduceLeDiff, getElem?_cons_zero, getElem?_cons_succ, Option.map_some, map_cons, map_nil, true_and, and_true, and_self, Nat.add_eq_left, Nat.left_eq_add, Nat.add_left_cancel_iff, Nat.succ_ne_zero, Nat.one_ne_zero, List.nil_append, List.cons_append, one_i, one_b, one_s, one_p, one_sl, one_es, one_ni, one_ifc, cells_i, cells_b, cells_s, cells_p, cells_sl, cells_ni, cells_ifc, cells_agg, List.all_cons, List.all_nil, Bool.and_self, fillX, splice, List.take_zero, List.take_succ_cons, List.take_nil, List.drop_succ_cons, List.drop_zero, List.drop_nil, List.append_nil, Nat.le_refl, Wo_some])
        | (refine W_opgF rfl rfl ?hg ?_; (case hg => (simp only [upd_at, reduceIte, Nat.reduceEqDiff, Bool.not_true, Bool.not_false]; done)))
        | (refine W_opgU rfl ?hg ?_; (case hg => (simp only [upd_at, reduceIte, Nat.reduceEqDiff]; done))) | rw [W_seq] | rw [W_reg] | rw [push_no] | rw [push_yes] | rw [W_onil] | rw [W_skip] | rw [W_blk] | rw [W_b] | refine W_regd0 ?_ | refine W_regd ?_)
      refine W_getRet (by repeat (first | exact hg | exact args0_un (Nat.le_of_ble_eq_true rfl) | refine upd_un ?_ rfl)) ?_
      exact ⟨rfl, _, rfl, rfl⟩
  obtain ⟨n, rfl⟩ : ∃ k : Nat, n = k := ⟨n.toNat, by omega⟩
  have hn : n ≤ 100 := by omega
  have hb1 : decide ((n : Int) < 0) = false := by simp only [decide_eq_false_iff_not]; omega
  have hb2 : decide ((n : Int) > 100) = false := by simp only [decide_eq_false_iff_not]; omega
  repeat (first
    | ((first | refine W_op rfl rfl ?_ | (refine W_opgT rfl rfl ?hg ?_; (case hg => (simp only [upd_at, reduceIte, Nat.reduceEqDiff, Bool.not_true, Bool.not_false]; done)))); simp only [decide_true, decide_false, execE, unE, at_t, at_c, upd_at, upd_none, args0, push_no, get_inn, next_inn, ds_inn, get_put, next_put, ds_put, get_new, next_new, ds_new, getD_cons_zero, getD_cons_succ, getD_nil, reduceIte, Nat.reduceEqDiff, Bool.or_true, Bool.true_or, Bool.or_false, Bool.false_or, Bool.not_true, Bool.not_false, Bool.false_eq_true, beq_self_eq_true, beq_true, Bool.true_beq, beq_false, Bool.false_beq, length_cons, length_nil, Nat.zero_add, Nat.add_zero, Nat.reduceAdd, Nat.reduceLeDiff, getElem?_cons_zero, getElem?_cons_succ, Option.map_some, map_cons, map_nil, true_and, and_true, and_self, binE, isShift, intBin, hb1, hb2, Nat.add_eq_left, Nat.left_eq_add, Nat.add_left_cancel_iff, Nat.succ_ne_zero, Nat.one_ne_zero, List.nil_append, List.cons_append, one_i, one_b, one_s, one_p, one_sl, one_es, one_ni, one_ifc, cells_i, cells_b, cells_s, cells_p, cells_sl, cells_ni, cells_ifc, cells_agg, List.all_cons, List.all_nil, Bool.and_self, fillX, splice, List.take_zero, List.take_succ_cons, List.take_nil, List.drop_succ_cons, List.drop_zero, List.drop_nil, List.append_nil, Nat.le_refl, Wo_some])
    | (refine W_opgF rfl rfl ?hg ?_; (case hg => (simp only [upd_at, reduceIte, Nat.reduceEqDiff, Bool.not_true, Bool.not_false]; done)))
    | (refine W_opgU rfl ?hg ?_; (case hg => (simp only [upd_at, reduceIte, Nat.reduceEqDiff]; done))) | rw [W_seq] | rw [W_reg] | rw [push_no] | rw [push_yes] | rw [W_onil] | rw [W_skip] | rw [W_blk] | rw [W_b] | refine W_regd0 ?_ | refine W_regd ?_)
  refine W_cond ?_
  simp only [decide_true, decide_false, execE, unE, at_t, at_c, upd_at, upd_none, args0, push_no, get_inn, next_inn, ds_inn, get_put, next_put, ds_put, get_new, next_new, ds_new, getD_cons_zero, getD_cons_succ, getD_nil, reduceIte, Nat.reduceEqDiff, Bool.or_true, Bool.true_or, Bool.or_false, Bool.false_or, Bool.not_true, Bool.not_false, Bool.false_eq_true, beq_self_eq_true, beq_true, Bool.true_beq, beq_false, Bool.false_beq, length_cons, length_nil, Nat.zero_add, Nat.add_zero, Nat.reduceAdd, Nat.reduceLeDiff, getElem?_cons_zero, getElem?_cons_succ, Option.map_some, map_cons, map_nil, true_and, and_true, and_self, WC]
  repeat (first
    | ((first | refine W_op rfl rfl ?_ | (refine W_opgT rfl rfl ?hg ?_; (case hg => (simp only [upd_at, reduceIte, Nat.reduceEqDiff, Bool.not_true, Bool.not_false]; done)))); simp only [decide_true, decide_false, execE, unE, at_t, at_c, upd_at, upd_none, args0, push_no, get_inn, next_inn, ds_inn, get_put, next_put, ds_put, get_new, next_new, ds_new, getD_cons_zero, getD_cons_succ, getD_nil, reduceIte, Nat.reduceEqDiff, Bool.or_true, Bool.true_or, Bool.or_false, Bool.false_or, Bool.not_true, Bool.not_false, Bool.false_eq_true, beq_self_eq_true, beq_true, Bool.true_beq, beq_false, Bool.false_beq, length_cons, length_nil, Nat.zero_add, Nat.add_zero, Nat.reduceAdd, Nat.reduceLeDiff, getElem?_cons_zero, getElem?_cons_succ, Option.map_some, map_cons, map_nil, true_and, and_true, and_self, Nat.add_eq_left, Nat.left_eq_add, Nat.add_left_cancel_iff, Nat.succ_ne_zero, Nat.one_ne_zero, List.nil_append, List.cons_append, one_i, one_b, one_s, one_p, one_sl, one_es, one_ni, one_ifc, cells_i, cells_b, cells_s, cells_p, cells_sl, cells_ni, cells_ifc, cells_agg, List.all_cons, List.all_nil, Bool.and_self, fillX, splice, List.take_zero, List.take_succ_cons, List.take_nil, List.drop_succ_cons, List.drop_zero, List.drop_nil, List.append_nil, Nat.le_refl, Wo_some])
    | (refine W_opgF rfl rfl ?hg ?_; (case hg => (simp only [upd_at, reduceIte, Nat.reduceEqDiff, Bool.not_true, Bool.not_false]; done)))
    | (refine W_opgU rfl ?hg ?_; (case hg => (simp only [upd_at, reduceIte, Nat.reduceEqDiff]; done))) | rw [W_seq] | rw [W_reg] | rw [push_no] | rw [push_yes] | rw [W_onil] | rw [W_skip] | rw [W_blk] | rw [W_b] | refine W_regd0 ?_ | refine W_regd ?_)
  refine W_callA rfl ?hargs (call_beg23) ?_
  case hargs => simp only [decide_true, decide_false, execE, unE, at_t, at_c, upd_at, upd_none, args0, push_no, get_inn, next_inn, ds_inn, get_put, next_put, ds_put, get_new, next_new, ds_new, getD_cons_zero, getD_cons_succ, getD_nil, reduceIte, Nat.reduceEqDiff, Bool.or_true, Bool.true_or, Bool.or_false, Bool.false_or, Bool.not_true, Bool.not_false, Bool.false_eq_true, beq_self_eq_true, beq_true, Bool.true_beq, beq_false, Bool.false_beq, length_cons, length_nil, Nat.zero_add, Nat.add_zero, Nat.reduceAdd, Nat.reduceLeDiff, getElem?_cons_zero, getElem?_cons_succ, Option.map_some, map_cons, map_nil, true_and, and_true, and_self] <;> rfl
  rintro v m2 ⟨rfl, hS⟩ hs2
  have d2 : m2.ds = [] := hs2.ds
  clear hs2
  repeat (first
    | ((first | refine W_op rfl rfl ?_ | (refine W_opgT rfl rfl ?hg ?_; (case hg => (simp only [upd_at, reduceIte, Nat.reduceEqDiff, Bool.not_true, Bool.not_false]; done)))); simp only [decide_true, decide_false, execE, unE, at_t, at_c, upd_at, upd_none, args0, push_no, get_inn, next_inn, ds_inn, get_put, next_put, ds_put, get_new, next_new, ds_new, getD_cons_zero, getD_cons_succ, getD_nil, reduceIte, Nat.reduceEqDiff, Bool.or_true, Bool.true_or, Bool.or_false, Bool.false_or, Bool.not_true, Bool.not_false, Bool.false_eq_true, beq_self_eq_true, beq_true, Bool.true_beq, beq_false, Bool.false_beq, length_cons, length_nil, Nat.zero_add, Nat.add_zero, Nat.reduceAdd, Nat.reduceLeDiff, getElem?_cons_zero, getElem?_cons_succ, Option.map_some, map_cons, map_nil, true_and, and_true, and_self, isNil, Nat.add_eq_left, Nat.left_eq_add, Nat.add_left_cancel_iff, Nat.succ_ne_zero, Nat.one_ne_zero, List.nil_append, List.cons_append, one_i, one_b, one_s, one_p, one_sl, one_es, one_ni, one_ifc, cells_i, cells_b, cells_s, cells_p, cells_sl, cells_ni, cells_ifc, cells_agg, List.all_cons, List.all_nil, Bool.and_self, fillX, splice, List.take_zero, List.take_succ_cons, List.take_nil, List.drop_succ_cons, List.drop_zero, List.drop_nil, List.append_nil, Nat.le_refl, Wo_some])
    | (refine W_opgF rfl rfl ?hg ?_; (case hg => (simp only [upd_at, reduceIte, Nat.reduceEqDiff, Bool.not_true, Bool.not_false]; done)))
    | (refine W_opgU rfl ?hg ?_; (case hg => (simp only [upd_at, reduceIte, Nat.reduceEqDiff]; done))) | rw [W_seq] | rw [W_reg] | rw [push_no] | rw [push_yes] | rw [W_onil] | rw [W_skip] | rw [W_blk] | rw [W_b] | refine W_regd0 ?_ | refine W_regd ?_)
  refine W_cond ?_
  simp only [decide_true, decide_false, execE, unE, at_t, at_c, upd_at, upd_none, args0, push_no, get_inn, next_inn, ds_inn, get_put, next_put, ds_put, get_new, next_new, ds_new, getD_cons_zero, getD_cons_succ, getD_nil, reduceIte, Nat.reduceEqDiff, Bool.or_true, Bool.true_or, Bool.or_false, Bool.false_or, Bool.not_true, Bool.not_false, Bool.false_eq_true, beq_self_eq_true, beq_true, Bool.true_beq, beq_false, Bool.false_beq, length_cons, length_nil, Nat.zero_add, Nat.add_zero, Nat.reduceAdd, Nat.reduceLeDiff, getElem?_cons_zero, getElem?_cons_succ, Option.map_some, map_cons, map_nil, true_and, and_true, and_self, WC]
  repeat (first
    | ((first | refine W_op rfl rfl ?_ | (refine W_opgT rfl rfl ?hg ?_; (case hg => (simp only [upd_at, reduceIte, Nat.reduceEqDiff, Bool.not_true, Bool.not_false]; done)))); simp only [decide_true, decide_false, execE, unE, at_t, at_c, upd_at, upd_none, args0, push_no, get_inn, next_inn, ds_inn, get_put, next_put, ds_put, get_new, next_new, ds_new, getD_cons_zero, getD_cons_succ, getD_nil, reduceIte, Nat.reduceEqDiff, Bool.or_true, Bool.true_or, Bool.or_false, Bool.false_or, Bool.not_true, Bool.not_false, Bool.false_eq_true, beq_self_eq_true, beq_true, Bool.true_beq, beq_false, Bool.false_beq, length_cons, length_nil, Nat.zero_add, Nat.add_zero, Nat.reduceAdd, Nat.reduceLeDiff, getElem?_cons_zero, getElem?_cons_succ, Option.map_some, map_cons, map_nil, true_and, and_true, and_self, Nat.add_eq_left, Nat.left_eq_add, Nat.add_left_cancel_iff, Nat.succ_ne_zero, Nat.one_ne_zero, List.nil_append, List.cons_append, one_i, one_b, one_s, one_p, one_sl, one_es, one_ni, one_ifc, cells_i, cells_b, cells_s, cells_p, cells_sl, cells_ni, cells_ifc, cells_agg, List.all_cons, List.all_nil, Bool.and_self, fillX, splice, List.take_zero, List.take_succ_cons, List.take_nil, List.drop_succ_cons, List.drop_zero, List.drop_nil, List.append_nil, Nat.le_refl, Wo_some])
    | (refine W_opgF rfl rfl ?hg ?_; (case hg => (simp only [upd_at, reduceIte, Nat.reduceEqDiff, Bool.not_true, Bool.not_false]; done)))
    | (refine W_opgU rfl ?hg ?_; (case hg => (simp only [upd_at, reduceIte, Nat.reduceEqDiff]; done))) | rw [W_seq] | rw [W_reg] | rw [push_no] | rw [push_yes] | rw [W_onil] | rw [W_skip] | rw [W_blk] | rw [W_b] | refine W_regd0 ?_ | refine W_regd ?_)
  refine W_loop (fun k g' m' => ∃ (i : Nat) (pts : AV) (oj ty : Option Nat), i ≤ n ∧ k = n - i ∧ g' 0 = .i .i64 n ∧ g' 3 = .p (some (441, 0)) ∧ g' 27 = .i .i64 n ∧ g' 28 = .i .i64 i ∧ Ses m' 441 88 B23 pts (.i .i64 1) [.sl (some (51, 0)) 1 1 false, .i .i64 0, .sl (some (15, 0)) 1 1 true] ∧ RowE m' 2 ty pts oj (Lf i).length (flat2 (Lf i)) ∧ (∀ k, oj = some k → k ≠ 441 ∧ k ≠ 88) ∧ m'.ds = []) n ?_ ?_ ?_
  · refine ⟨0, _, none, none, Nat.zero_le _, rfl, ?_, ?_, ?_, ?_, hS, RowE.nil _ _ _, nofun, d2⟩
    · skip
      simp only [upd_at, upd_none, reduceIte, Nat.reduceEqDiff, args0, getD_cons_zero, getD_cons_succ, getD_nil]
    · skip
      simp only [upd_at, upd_none, reduceIte, Nat.reduceEqDiff, args0, getD_cons_zero, getD_cons_succ, getD_nil]
    · skip
      simp only [upd_at, upd_none, reduceIte, Nat.reduceEqDiff, args0, getD_cons_zero, getD_cons_succ, getD_nil]
    · skip
      simp only [upd_at, upd_none, reduceIte, Nat.reduceEqDiff, args0, getD_cons_zero, getD_cons_succ, getD_nil, Int.ofNat_zero]
      try rfl
  · intro i hi
    repeat (first | exact args0_un (Nat.le_of_ble_eq_true rfl) i hi | refine upd_un ?_ rfl i hi; clear i hi; intro i hi)
  · clear hS d2 m2
    rintro k g m2 ⟨i, pts, oj, ty, hi, rfl, q0, q3, q27, q28, hS, hR, hoj, d2⟩ hg
    have hln : (Lf i).length ≤ 64 := by rw [Lf_len]; omega
    repeat (first
      | ((first | refine W_op rfl rfl ?_ | (refine W_opgT rfl rfl ?hg ?_; (case hg => (simp only [upd_at, reduceIte, Nat.reduceEqDiff, Bool.not_true, Bool.not_false]; done)))); simp only [decide_true, decide_false, execE, unE, at_t, at_c, upd_at, upd_none, args0, push_no, get_inn, next_inn, ds_inn, get_put, next_put, ds_put, get_new, next_new, ds_new, getD_cons_zero, getD_cons_succ, getD_nil, reduceIte, Nat.reduceEqDiff, Bool.or_true, Bool.true_or, Bool.or_false, Bool.false_or, Bool.not_true, Bool.not_false, Bool.false_eq_true, beq_self_eq_true, beq_true, Bool.true_beq, beq_false, Bool.false_beq, length_cons, length_nil, Nat.zero_add, Nat.add_zero, Nat.reduceAdd, Nat.reduceLeDiff, getElem?_cons_zero, getElem?_cons_succ, Option.map_some, map_cons, map_nil, true_and, and_true, and_self, q27, q28, binE, isShift, intBin, Nat.add_eq_left, Nat.left_eq_add, Nat.add_left_cancel_iff, Nat.succ_ne_zero, Nat.one_ne_zero, List.nil_append, List.cons_append, one_i, one_b, one_s, one_p, one_sl, one_es, one_ni, one_ifc, cells_i, cells_b, cells_s, cells_p, cells_sl, cells_ni, cells_ifc, cells_agg, List.all_cons, List.all_nil, Bool.and_self, fillX, splice, List.take_zero, List.take_succ_cons, List.take_nil, List.drop_succ_cons, List.drop_zero, List.drop_nil, List.append_nil, Nat.le_refl, Wo_some])
      | (refine W_opgF rfl rfl ?hg ?_; (case hg => (simp only [upd_at, reduceIte, Nat.reduceEqDiff, Bool.not_true, Bool.not_false]; done)))
      | (refine W_opgU rfl ?hg ?_; (case hg => (simp only [upd_at, reduceIte, Nat.reduceEqDiff]; done))) | rw [W_seq] | rw [W_reg] | rw [push_no] | rw [push_yes] | rw [W_onil] | rw [W_skip] | rw [W_blk] | rw [W_b] | refine W_regd0 ?_ | refine W_regd ?_)
    refine W_cond ?_
    simp only [decide_true, decide_false, execE, unE, at_t, at_c, upd_at, upd_none, args0, push_no, get_inn, next_inn, ds_inn, get_put, next_put, ds_put, get_new, next_new, ds_new, getD_cons_zero, getD_cons_succ, getD_nil, reduceIte, Nat.reduceEqDiff, Bool.or_true, Bool.true_or, Bool.or_false, Bool.false_or, Bool.not_true, Bool.not_false, Bool.false_eq_true, beq_self_eq_true, beq_true, Bool.true_beq, beq_false, Bool.false_beq, length_cons, length_nil, Nat.zero_add, Nat.add_zero, Nat.reduceAdd, Nat.reduceLeDiff, getElem?_cons_zero, getElem?_cons_succ, Option.map_some, map_cons, map_nil, true_and, and_true, and_self]
    refine WC_split (fun ht => ?_) (fun hf => ?_)
    · have hlt : i < n := by simpa using ht
      have hw : IntKind.i64.wrap ((i : Int) + 1) = ((i + 1 : Nat) : Int) := wr_i64 (n := (i : Int) + 1) (by omega) (by omega)
      repeat (first
        | ((first | refine W_op rfl rfl ?_ | (refine W_opgT rfl rfl ?hg ?_; (case hg => (simp only [upd_at, reduceIte, Nat.reduceEqDiff, Bool.not_true, Bool.not_false]; done)))); simp only [decide_true, decide_false, execE, unE, at_t, at_c, upd_at, upd_none, args0, push_no, get_inn, next_inn, ds_inn, get_put, next_put, ds_put, get_new, next_new, ds_new, getD_cons_zero, getD_cons_succ, getD_nil, reduceIte, Nat.reduceEqDiff, Bool.or_true, Bool.true_or, Bool.or_false, Bool.false_or, Bool.not_true, Bool.not_false, Bool.false_eq_true, beq_self_eq_true, beq_true, Bool.true_beq, beq_false, Bool.false_beq, length_cons, length_nil, Nat.zero_add, Nat.add_zero, Nat.reduceAdd, Nat.reduceLeDiff, getElem?_cons_zero, getElem?_cons_succ, Option.map_some, map_cons, map_nil, true_and, and_true, and_self, q3, q28, rd, Nat.add_eq_left, Nat.left_eq_add, Nat.add_left_cancel_iff, Nat.succ_ne_zero, Nat.one_ne_zero, List.nil_append, List.cons_append, one_i, one_b, one_s, one_p, one_sl, one_es, one_ni, one_ifc, cells_i, cells_b, cells_s, cells_p, cells_sl, cells_ni, cells_ifc, cells_agg, List.all_cons, List.all_nil, Bool.and_self, fillX, splice, List.take_zero, List.take_succ_cons, List.take_nil, List.drop_succ_cons, List.drop_zero, List.drop_nil, List.append_nil, Nat.le_refl, Wo_some])
        | (refine W_opgF rfl rfl ?hg ?_; (case hg => (simp only [upd_at, reduceIte, Nat.reduceEqDiff, Bool.not_true, Bool.not_false]; done)))
        | (refine W_opgU rfl ?hg ?_; (case hg => (simp only [upd_at, reduceIte, Nat.reduceEqDiff]; done))) | rw [W_seq] | rw [W_reg] | rw [push_no] | rw [push_yes] | rw [W_onil] | rw [W_skip] | rw [W_blk] | rw [W_b] | refine W_regd0 ?_ | refine W_regd ?_)
      obtain ⟨mB, hmB, kB, bB, _, dB, _, nB⟩ := mk_put m2 [.i .i64 0, .i .i64 0] [.i .i64 2, .i .i64 (i : Int)] true true ⟨2, some 31⟩ ⟨2, some 31⟩ 2 rfl
      rw [← hmB]
      clear hmB
      refine W_callA rfl ?hargs (call9 (hS.keep0 kB) rfl (by omega) (hR.keep kB (by simp)) (by omega) hoj 2 (i : Int)) ?_
      case hargs => simp only [decide_true, decide_false, execE, unE, at_t, at_c, upd_at, upd_none, args0, push_no, get_inn, next_inn, ds_inn, get_put, next_put, ds_put, get_new, next_new, ds_new, getD_cons_zero, getD_cons_succ, getD_nil, reduceIte, Nat.reduceEqDiff, Bool.or_true, Bool.true_or, Bool.or_false, Bool.false_or, Bool.not_true, Bool.not_false, Bool.false_eq_true, beq_self_eq_true, beq_true, Bool.true_beq, beq_false, Bool.false_beq, length_cons, length_nil, Nat.zero_add, Nat.add_zero, Nat.reduceAdd, Nat.reduceLeDiff, getElem?_cons_zero, getElem?_cons_succ, Option.map_some, map_cons, map_nil, true_and, and_true, and_self] <;> rfl
      rintro v m3 ⟨rfl, pts3, oj3, ty3, hS3, hR3, ho3, k3⟩ hs3
      have hn2 := hS.hi
      have hn3 := hS.jhi
      have hoj3 : ∀ k, oj3 = some k → k ≠ 441 ∧ k ≠ 88 := by
        intro k hk
        rcases ho3 with h | ⟨k', h, h2⟩
        · exact hoj k (h ▸ hk)
        · rw [h] at hk; cases hk; exact ⟨by omega, by omega⟩
      have d3 : m3.ds = [] := hs3.ds.trans (dB.trans d2)
      by_cases hc : i < 64
      · replace hR3 : RowE m3 2 ty3 pts3 oj3 (Lf (i + 1)).length (flat2 (Lf (i + 1))) := by rw [add_lt hc] at hR3; exact hR3
        have c1 : decide ((i : Int) < 64) = true := by simp only [decide_eq_true_eq]; omega
        have c2 : decide ((i : Int) ≥ 64) = false := by simp only [decide_eq_false_iff_not]; omega
        have hnb : m2.next ∉ (441 :: oj.toList) := by
          intro hm
          rcases List.mem_cons.1 hm with h | h
          · omega
          · cases oj with
            | none => simp at h
            | some j => simp at h; have := hR.lt; omega
        have b3 := rd_keep bB k3 nB hnb
        repeat (first
          | ((first | refine W_op rfl rfl ?_ | (refine W_opgT rfl rfl ?hg ?_; (case hg => (simp only [upd_at, reduceIte, Nat.reduceEqDiff, Bool.not_true, Bool.not_false]; done)))); simp only [decide_true, decide_false, execE, unE, at_t, at_c, upd_at, upd_none, args0, push_no, get_inn, next_inn, ds_inn, get_put, next_put, ds_put, get_new, next_new, ds_new, getD_cons_zero, getD_cons_succ, getD_nil, reduceIte, Nat.reduceEqDiff, Bool.or_true, Bool.true_or, Bool.or_false, Bool.false_or, Bool.not_true, Bool.not_false, Bool.false_eq_true, beq_self_eq_true, beq_true, Bool.true_beq, beq_false, Bool.false_beq, length_cons, length_nil, Nat.zero_add, Nat.add_zero, Nat.reduceAdd, Nat.reduceLeDiff, getElem?_cons_zero, getElem?_cons_succ, Option.map_some, map_cons, map_nil, true_and, and_true, and_self, add_lt hc, q3, q28, binE, isShift, intBin, c1, c2, bne_self_eq_false, b3, Nat.add_eq_left, Nat.left_eq_add, Nat.add_left_cancel_iff, Nat.succ_ne_zero, Nat.one_ne_zero, List.nil_append, List.cons_append, one_i, one_b, one_s, one_p, one_sl, one_es, one_ni, one_ifc, cells_i, cells_b, cells_s, cells_p, cells_sl, cells_ni, cells_ifc, cells_agg, List.all_cons, List.all_nil, Bool.and_self, fillX, splice, List.take_zero, List.take_succ_cons, List.take_nil, List.drop_succ_cons, List.drop_zero, List.drop_nil, List.append_nil, Nat.le_refl, Wo_some])
          | (refine W_opgF rfl rfl ?hg ?_; (case hg => (simp only [upd_at, reduceIte, Nat.reduceEqDiff, Bool.not_true, Bool.not_false]; done)))
          | (refine W_opgU rfl ?hg ?_; (case hg => (simp only [upd_at, reduceIte, Nat.reduceEqDiff]; done))) | rw [W_seq] | rw [W_reg] | rw [push_no] | rw [push_yes] | rw [W_onil] | rw [W_skip] | rw [W_blk] | rw [W_b] | refine W_regd0 ?_ | refine W_regd ?_)
        have hln3 : (Lf (i + 1)).length ≤ 64 := by rw [Lf_len]; omega
        refine W_callK rfl ?hg ?hargs (call9 hS3 rfl (by omega) hR3 (by omega) hoj3 2 (i : Int)) ?_
        case hg => (simp only [decide_true, decide_false, execE, unE, at_t, at_c, upd_at, upd_none, args0, push_no, get_inn, next_inn, ds_inn, get_put, next_put, ds_put, get_new, next_new, ds_new, getD_cons_zero, getD_cons_succ, getD_nil, reduceIte, Nat.reduceEqDiff, Bool.or_true, Bool.true_or, Bool.or_false, Bool.false_or, Bool.not_true, Bool.not_false, Bool.false_eq_true, beq_self_eq_true, beq_true, Bool.true_beq, beq_false, Bool.false_beq, length_cons, length_nil, Nat.zero_add, Nat.add_zero, Nat.reduceAdd, Nat.reduceLeDiff, getElem?_cons_zero, getElem?_cons_succ, Option.map_some, map_cons, map_nil, true_and, and_true, and_self, Nat.add_eq_left, Nat.left_eq_add, Nat.add_left_cancel_iff, Nat.succ_ne_zero, Nat.one_ne_zero, List.nil_append, List.cons_append, one_i, one_b, one_s, one_p, one_sl, one_es, one_ni, one_ifc, cells_i, cells_b, cells_s, cells_p, cells_sl, cells_ni, cells_ifc, cells_agg, List.all_cons, List.all_nil, Bool.and_self, fillX, splice, List.take_zero, List.take_succ_cons, List.take_nil, List.drop_succ_cons, List.drop_zero, List.drop_nil, List.append_nil, Nat.le_refl]; done)
        case hargs => simp only [decide_true, decide_false, execE, unE, at_t, at_c, upd_at, upd_none, args0, push_no, get_inn, next_inn, ds_inn, get_put, next_put, ds_put, get_new, next_new, ds_new, getD_cons_zero, getD_cons_succ, getD_nil, reduceIte, Nat.reduceEqDiff, Bool.or_true, Bool.true_or, Bool.or_false, Bool.false_or, Bool.not_true, Bool.not_false, Bool.false_eq_true, beq_self_eq_true, beq_true, Bool.true_beq, beq_false, Bool.false_beq, length_cons, length_nil, Nat.zero_add, Nat.add_zero, Nat.reduceAdd, Nat.reduceLeDiff, getElem?_cons_zero, getElem?_cons_succ, Option.map_some, map_cons, map_nil, true_and, and_true, and_self, Nat.add_eq_left, Nat.left_eq_add, Nat.add_left_cancel_iff, Nat.succ_ne_zero, Nat.one_ne_zero, List.nil_append, List.cons_append, one_i, one_b, one_s, one_p, one_sl, one_es, one_ni, one_ifc, cells_i, cells_b, cells_s, cells_p, cells_sl, cells_ni, cells_ifc, cells_agg, List.all_cons, List.all_nil, Bool.and_self, fillX, splice, List.take_zero, List.take_succ_cons, List.take_nil, List.drop_succ_cons, List.drop_zero, List.drop_nil, List.append_nil, Nat.le_refl] <;> rfl
        rintro v m4 ⟨rfl, pts4, oj4, ty4, hS4, hR4, ho4, k4⟩ hs4
        replace hR4 : RowE m4 2 ty4 pts4 oj4 (Lf (i + 1)).length (flat2 (Lf (i + 1))) := by rw [add_twice hc] at hR4; exact hR4
        have hoj4 : ∀ k, oj4 = some k → k ≠ 441 ∧ k ≠ 88 := by
          intro k hk
          have hn4 := hS3.hi
          have hn5 := hS3.jhi
          rcases ho4 with h | ⟨k', h, h2⟩
          · exact hoj3 k (h ▸ hk)
          · rw [h] at hk; cases hk; exact ⟨by omega, by omega⟩
        repeat (first
          | ((first | refine W_op rfl rfl ?_ | (refine W_opgT rfl rfl ?hg ?_; (case hg => (simp only [upd_at, reduceIte, Nat.reduceEqDiff, Bool.not_true, Bool.not_false]; done)))); simp only [decide_true, decide_false, execE, unE, at_t, at_c, upd_at, upd_none, args0, push_no, get_inn, next_inn, ds_inn, get_put, next_put, ds_put, get_new, next_new, ds_new, getD_cons_zero, getD_cons_succ, getD_nil, reduceIte, Nat.reduceEqDiff, Bool.or_true, Bool.true_or, Bool.or_false, Bool.false_or, Bool.not_true, Bool.not_false, Bool.false_eq_true, beq_self_eq_true, beq_true, Bool.true_beq, beq_false, Bool.false_beq, length_cons, length_nil, Nat.zero_add, Nat.add_zero, Nat.reduceAdd, Nat.reduceLeDiff, getElem?_cons_zero, getElem?_cons_succ, Option.map_some, map_cons, map_nil, true_and, and_true, and_self, add_twice hc, q3, q28, binE, isShift, intBin, c1, c2, bne_self_eq_false, Nat.add_eq_left, Nat.left_eq_add, Nat.add_left_cancel_iff, Nat.succ_ne_zero, Nat.one_ne_zero, List.nil_append, List.cons_append, one_i, one_b, one_s, one_p, one_sl, one_es, one_ni, one_ifc, cells_i, cells_b, cells_s, cells_p, cells_sl, cells_ni, cells_ifc, cells_agg, List.all_cons, List.all_nil, Bool.and_self, fillX, splice, List.take_zero, List.take_succ_cons, List.take_nil, List.drop_succ_cons, List.drop_zero, List.drop_nil, List.append_nil, Nat.le_refl, Wo_some])
          | (refine W_opgF rfl rfl ?hg ?_; (case hg => (simp only [upd_at, reduceIte, Nat.reduceEqDiff, Bool.not_true, Bool.not_false]; done)))
          | (refine W_opgU rfl ?hg ?_; (case hg => (simp only [upd_at, reduceIte, Nat.reduceEqDiff]; done))) | rw [W_seq] | rw [W_reg] | rw [push_no] | rw [push_yes] | rw [W_onil] | rw [W_skip] | rw [W_blk] | rw [W_b] | refine W_regd0 ?_ | refine W_regd ?_)
        refine W_cond ?_
        simp only [decide_true, decide_false, execE, unE, at_t, at_c, upd_at, upd_none, args0, push_no, get_inn, next_inn, ds_inn, get_put, next_put, ds_put, get_new, next_new, ds_new, getD_cons_zero, getD_cons_succ, getD_nil, reduceIte, Nat.reduceEqDiff, Bool.or_true, Bool.true_or, Bool.or_false, Bool.false_or, Bool.not_true, Bool.not_false, Bool.false_eq_true, beq_self_eq_true, beq_true, Bool.true_beq, beq_false, Bool.false_beq, length_cons, length_nil, Nat.zero_add, Nat.add_zero, Nat.reduceAdd, Nat.reduceLeDiff, getElem?_cons_zero, getElem?_cons_succ, Option.map_some, map_cons, map_nil, true_and, and_true, and_self, WC]
        repeat (first
          | ((first | refine W_op rfl rfl ?_ | (refine W_opgT rfl rfl ?hg ?_; (case hg => (simp only [upd_at, reduceIte, Nat.reduceEqDiff, Bool.not_true, Bool.not_false]; done)))); simp only [decide_true, decide_false, execE, unE, at_t, at_c, upd_at, upd_none, args0, push_no, get_inn, next_inn, ds_inn, get_put, next_put, ds_put, get_new, next_new, ds_new, getD_cons_zero, getD_cons_succ, getD_nil, reduceIte, Nat.reduceEqDiff, Bool.or_true, Bool.true_or, Bool.or_false, Bool.false_or, Bool.not_true, Bool.not_false, Bool.false_eq_true, beq_self_eq_true, beq_true, Bool.true_beq, beq_false, Bool.false_beq, length_cons, length_nil, Nat.zero_add, Nat.add_zero, Nat.reduceAdd, Nat.reduceLeDiff, getElem?_cons_zero, getElem?_cons_succ, Option.map_some, map_cons, map_nil, true_and, and_true, and_self, q28, hw, binE, isShift, intBin, Nat.add_eq_left, Nat.left_eq_add, Nat.add_left_cancel_iff, Nat.succ_ne_zero, Nat.one_ne_zero, List.nil_append, List.cons_append, one_i, one_b, one_s, one_p, one_sl, one_es, one_ni, one_ifc, cells_i, cells_b, cells_s, cells_p, cells_sl, cells_ni, cells_ifc, cells_agg, List.all_cons, List.all_nil, Bool.and_self, fillX, splice, List.take_zero, List.take_succ_cons, List.take_nil, List.drop_succ_cons, List.drop_zero, List.drop_nil, List.append_nil, Nat.le_refl, Wo_some])
          | (refine W_opgF rfl rfl ?hg ?_; (case hg => (simp only [upd_at, reduceIte, Nat.reduceEqDiff, Bool.not_true, Bool.not_false]; done)))
          | (refine W_opgU rfl ?hg ?_; (case hg => (simp only [upd_at, reduceIte, Nat.reduceEqDiff]; done))) | rw [W_seq] | rw [W_reg] | rw [push_no] | rw [push_yes] | rw [W_onil] | rw [W_skip] | rw [W_blk] | rw [W_b] | refine W_regd0 ?_ | refine W_regd ?_)
        refine W_j (by repeat (first | exact hg | exact args0_un (Nat.le_of_ble_eq_true rfl) | refine upd_un ?_ rfl)) ?_
        refine ⟨n - (i + 1), by omega, i + 1, pts4, oj4, ty4, by omega, rfl, ?_, ?_, ?_, ?_, hS4, hR4, hoj4, hs4.ds.trans d3⟩
        · skip
          simp only [upd_at, upd_none, reduceIte, Nat.reduceEqDiff, args0, getD_cons_zero, getD_cons_succ, getD_nil, q0]
        · skip
          simp only [upd_at, upd_none, reduceIte, Nat.reduceEqDiff, args0, getD_cons_zero, getD_cons_succ, getD_nil, q3]
        · skip
          simp only [upd_at, upd_none, reduceIte, Nat.reduceEqDiff, args0, getD_cons_zero, getD_cons_succ, getD_nil, q27]
        · skip
          simp only [upd_at, upd_none, reduceIte, Nat.reduceEqDiff, args0, getD_cons_zero, getD_cons_succ, getD_nil]
      · replace hR3 : RowE m3 2 ty3 pts3 oj3 (Lf (i + 1)).length (flat2 (Lf (i + 1))) := by rw [add_ge hc (by omega)] at hR3; exact hR3
        have c1 : decide ((i : Int) < 64) = false := by simp only [decide_eq_false_iff_not]; omega
        have c2 : decide ((i : Int) ≥ 64) = true := by simp only [decide_eq_true_eq]; omega
        repeat (first
          | ((first | refine W_op rfl rfl ?_ | (refine W_opgT rfl rfl ?hg ?_; (case hg => (simp only [upd_at, reduceIte, Nat.reduceEqDiff, Bool.not_true, Bool.not_false]; done)))); simp only [decide_true, decide_false, execE, unE, at_t, at_c, upd_at, upd_none, args0, push_no, get_inn, next_inn, ds_inn, get_put, next_put, ds_put, get_new, next_new, ds_new, getD_cons_zero, getD_cons_succ, getD_nil, reduceIte, Nat.reduceEqDiff, Bool.or_true, Bool.true_or, Bool.or_false, Bool.false_or, Bool.not_true, Bool.not_false, Bool.false_eq_true, beq_self_eq_true, beq_true, Bool.true_beq, beq_false, Bool.false_beq, length_cons, length_nil, Nat.zero_add, Nat.add_zero, Nat.reduceAdd, Nat.reduceLeDiff, getElem?_cons_zero, getElem?_cons_succ, Option.map_some, map_cons, map_nil, true_and, and_true, and_self, add_ge hc (show i ≤ 100 by omega), q3, q28, binE, isShift, intBin, c1, c2, bne_self_eq_false, Nat.add_eq_left, Nat.left_eq_add, Nat.add_left_cancel_iff, Nat.succ_ne_zero, Nat.one_ne_zero, List.nil_append, List.cons_append, one_i, one_b, one_s, one_p, one_sl, one_es, one_ni, one_ifc, cells_i, cells_b, cells_s, cells_p, cells_sl, cells_ni, cells_ifc, cells_agg, List.all_cons, List.all_nil, Bool.and_self, fillX, splice, List.take_zero, List.take_succ_cons, List.take_nil, List.drop_succ_cons, List.drop_zero, List.drop_nil, List.append_nil, Nat.le_refl, Wo_some])
          | (refine W_opgF rfl rfl ?hg ?_; (case hg => (simp only [upd_at, reduceIte, Nat.reduceEqDiff, Bool.not_true, Bool.not_false]; done)))
          | (refine W_opgU rfl ?hg ?_; (case hg => (simp only [upd_at, reduceIte, Nat.reduceEqDiff]; done))) | rw [W_seq] | rw [W_reg] | rw [push_no] | rw [push_yes] | rw [W_onil] | rw [W_skip] | rw [W_blk] | rw [W_b] | refine W_regd0 ?_ | refine W_regd ?_)
        refine W_cond ?_
        simp only [decide_true, decide_false, execE, unE, at_t, at_c, upd_at, upd_none, args0, push_no, get_inn, next_inn, ds_inn, get_put, next_put, ds_put, get_new, next_new, ds_new, getD_cons_zero, getD_cons_succ, getD_nil, reduceIte, Nat.reduceEqDiff, Bool.or_true, Bool.true_or, Bool.or_false, Bool.false_or, Bool.not_true, Bool.not_false, Bool.false_eq_true, beq_self_eq_true, beq_true, Bool.true_beq, beq_false, Bool.false_beq, length_cons, length_nil, Nat.zero_add, Nat.add_zero, Nat.reduceAdd, Nat.reduceLeDiff, getElem?_cons_zero, getElem?_cons_succ, Option.map_some, map_cons, map_nil, true_and, and_true, and_self, WC]
        repeat (first
          | ((first | refine W_op rfl rfl ?_ | (refine W_opgT rfl rfl ?hg ?_; (case hg => (simp only [upd_at, reduceIte, Nat.reduceEqDiff, Bool.not_true, Bool.not_false]; done)))); simp only [decide_true, decide_false, execE, unE, at_t, at_c, upd_at, upd_none, args0, push_no, get_inn, next_inn, ds_inn, get_put, next_put, ds_put, get_new, next_new, ds_new, getD_cons_zero, getD_cons_succ, getD_nil, reduceIte, Nat.reduceEqDiff, Bool.or_true, Bool.true_or, Bool.or_false, Bool.false_or, Bool.not_true, Bool.not_false, Bool.false_eq_true, beq_self_eq_true, beq_true, Bool.true_beq, beq_false, Bool.false_beq, length_cons, length_nil, Nat.zero_add, Nat.add_zero, Nat.reduceAdd, Nat.reduceLeDiff, getElem?_cons_zero, getElem?_cons_succ, Option.map_some, map_cons, map_nil, true_and, and_true, and_self, q28, hw, binE, isShift, intBin, Nat.add_eq_left, Nat.left_eq_add, Nat.add_left_cancel_iff, Nat.succ_ne_zero, Nat.one_ne_zero, List.nil_append, List.cons_append, one_i, one_b, one_s, one_p, one_sl, one_es, one_ni, one_ifc, cells_i, cells_b, cells_s, cells_p, cells_sl, cells_ni, cells_ifc, cells_agg, List.all_cons, List.all_nil, Bool.and_self, fillX, splice, List.take_zero, List.take_succ_cons, List.take_nil, List.drop_succ_cons, List.drop_zero, List.drop_nil, List.append_nil, Nat.le_refl, Wo_some])
          | (refine W_opgF rfl rfl ?hg ?_; (case hg => (simp only [upd_at, reduceIte, Nat.reduceEqDiff, Bool.not_true, Bool.not_false]; done)))
          | (refine W_opgU rfl ?hg ?_; (case hg => (simp only [upd_at, reduceIte, Nat.reduceEqDiff]; done))) | rw [W_seq] | rw [W_reg] | rw [push_no] | rw [push_yes] | rw [W_onil] | rw [W_skip] | rw [W_blk] | rw [W_b] | refine W_regd0 ?_ | refine W_regd ?_)
        refine W_j (by repeat (first | exact hg | exact args0_un (Nat.le_of_ble_eq_true rfl) | refine upd_un ?_ rfl)) ?_
        refine ⟨n - (i + 1), by omega, i + 1, pts3, oj3, ty3, by omega, rfl, ?_, ?_, ?_, ?_, hS3, hR3, hoj3, d3⟩
        · skip
          simp only [upd_at, upd_none, reduceIte, Nat.reduceEqDiff, args0, getD_cons_zero, getD_cons_succ, getD_nil, q0]
        · skip
          simp only [upd_at, upd_none, reduceIte, Nat.reduceEqDiff, args0, getD_cons_zero, getD_cons_succ, getD_nil, q3]
        · skip
          simp only [upd_at, upd_none, reduceIte, Nat.reduceEqDiff, args0, getD_cons_zero, getD_cons_succ, getD_nil, q27]
        · skip
          simp only [upd_at, upd_none, reduceIte, Nat.reduceEqDiff, args0, getD_cons_zero, getD_cons_succ, getD_nil]
    · refine W_exit rfl ?_
      have hie : i = n := by simp at hf; omega
      subst hie
      repeat (first
        | ((first | refine W_op rfl rfl ?_ | (refine W_opgT rfl rfl ?hg ?_; (case hg => (simp only [upd_at, reduceIte, Nat.reduceEqDiff, Bool.not_true, Bool.not_false]; done)))); simp only [decide_true, decide_false, execE, unE, at_t, at_c, upd_at, upd_none, args0, push_no, get_inn, next_inn, ds_inn, get_put, next_put, ds_put, get_new, next_new, ds_new, getD_cons_zero, getD_cons_succ, getD_nil, reduceIte, Nat.reduceEqDiff, Bool.or_true, Bool.true_or, Bool.or_false, Bool.false_or, Bool.not_true, Bool.not_false, Bool.false_eq_true, beq_self_eq_true, beq_true, Bool.true_beq, beq_false, Bool.false_beq, length_cons, length_nil, Nat.zero_add, Nat.add_zero, Nat.reduceAdd, Nat.reduceLeDiff, getElem?_cons_zero, getElem?_cons_succ, Option.map_some, map_cons, map_nil, true_and, and_true, and_self, q3, Nat.add_eq_left, Nat.left_eq_add, Nat.add_left_cancel_iff, Nat.succ_ne_zero, Nat.one_ne_zero, List.nil_append, List.cons_append, one_i, one_b, one_s, one_p, one_sl, one_es, one_ni, one_ifc, cells_i, cells_b, cells_s, cells_p, cells_sl, cells_ni, cells_ifc, cells_agg, List.all_cons, List.all_nil, Bool.and_self, fillX, splice, List.take_zero, List.take_succ_cons, List.take_nil, List.drop_succ_cons, List.drop_zero, List.drop_nil, List.append_nil, Nat.le_refl, Wo_some])
        | (refine W_opgF rfl rfl ?hg ?_; (case hg => (simp only [upd_at, reduceIte, Nat.reduceEqDiff, Bool.not_true, Bool.not_false]; done)))
        | (refine W_opgU rfl ?hg ?_; (case hg => (simp only [upd_at, reduceIte, Nat.reduceEqDiff]; done))) | rw [W_seq] | rw [W_reg] | rw [push_no] | rw [push_yes] | rw [W_onil] | rw [W_skip] | rw [W_blk] | rw [W_b] | refine W_regd0 ?_ | refine W_regd ?_)
      refine W_callA rfl ?hargs (call10 hS hR (by omega)) ?_
      case hargs => simp only [decide_true, decide_false, execE, unE, at_t, at_c, upd_at, upd_none, args0, push_no, get_inn, next_inn, ds_inn, get_put, next_put, ds_put, get_new, next_new, ds_new, getD_cons_zero, getD_cons_succ, getD_nil, reduceIte, Nat.reduceEqDiff, Bool.or_true, Bool.true_or, Bool.or_false, Bool.false_or, Bool.not_true, Bool.not_false, Bool.false_eq_true, beq_self_eq_true, beq_true, Bool.true_beq, beq_false, Bool.false_beq, length_cons, length_nil, Nat.zero_add, Nat.add_zero, Nat.reduceAdd, Nat.reduceLeDiff, getElem?_cons_zero, getElem?_cons_succ, Option.map_some, map_cons, map_nil, true_and, and_true, and_self] <;> rfl
      rintro v m3 ⟨⟨ty', oj', r3, _⟩, k3⟩ hs3
      have hlen := r3.arr.lenF
      have hmin : (if (64 : Int) < (i : Int) then (64 : Int) else (i : Int)) = ((min i 64 : Nat) : Int) := by
        split <;> omega
      repeat (first
        | ((first | refine W_op rfl rfl ?_ | (refine W_opgT rfl rfl ?hg ?_; (case hg => (simp only [upd_at, reduceIte, Nat.reduceEqDiff, Bool.not_true, Bool.not_false]; done)))); simp only [decide_true, decide_false, execE, unE, at_t, at_c, upd_at, upd_none, args0, push_no, get_inn, next_inn, ds_inn, get_put, next_put, ds_put, get_new, next_new, ds_new, getD_cons_zero, getD_cons_succ, getD_nil, reduceIte, Nat.reduceEqDiff, Bool.or_true, Bool.true_or, Bool.or_false, Bool.false_or, Bool.not_true, Bool.not_false, Bool.false_eq_true, beq_self_eq_true, beq_true, Bool.true_beq, beq_false, Bool.false_beq, length_cons, length_nil, Nat.zero_add, Nat.add_zero, Nat.reduceAdd, Nat.reduceLeDiff, getElem?_cons_zero, getElem?_cons_succ, Option.map_some, map_cons, map_nil, true_and, and_true, and_self, q0, ↓hlen, minE, hmin, binE, isShift, intBin, Lf_len, beq_self_eq_true, Nat.add_eq_left, Nat.left_eq_add, Nat.add_left_cancel_iff, Nat.succ_ne_zero, Nat.one_ne_zero, List.nil_append, List.cons_append, one_i, one_b, one_s, one_p, one_sl, one_es, one_ni, one_ifc, cells_i, cells_b, cells_s, cells_p, cells_sl, cells_ni, cells_ifc, cells_agg, List.all_cons, List.all_nil, Bool.and_self, fillX, splice, List.take_zero, List.take_succ_cons, List.take_nil, List.drop_succ_cons, List.drop_zero, List.drop_nil, List.append_nil, Nat.le_refl, Wo_some])
        | (refine W_opgF rfl rfl ?hg ?_; (case hg => (simp only [upd_at, reduceIte, Nat.reduceEqDiff, Bool.not_true, Bool.not_false]; done)))
        | (refine W_opgU rfl ?hg ?_; (case hg => (simp only [upd_at, reduceIte, Nat.reduceEqDiff]; done))) | rw [W_seq] | rw [W_reg] | rw [push_no] | rw [push_yes] | rw [W_onil] | rw [W_skip] | rw [W_blk] | rw [W_b] | refine W_regd0 ?_ | refine W_regd ?_)
      refine W_getRet (by repeat (first | exact hg | exact args0_un (Nat.le_of_ble_eq_true rfl) | refine upd_un ?_ rfl)) ?_
      exact ⟨hs3.ds.trans d2, _, rfl, rfl⟩
end Go.Proofs.YtjlckbphpmogjaaGreatDoor
