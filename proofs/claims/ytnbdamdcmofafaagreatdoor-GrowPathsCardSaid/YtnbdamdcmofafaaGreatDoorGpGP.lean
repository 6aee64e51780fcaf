/- Trees of states: paths, and levels. No condition. -/
import Derived.Test.YtnbdamdcmofafaaGreatDoorGpGK
import Derived.Test.YtnbdamdcmofafaaGreatDoorGpI
namespace Go.Proofs.YtnbdamdcmofafaaGreatDoor
open Go.Vi
open AMem (get_inn next_inn ds_inn get_put next_put ds_put get_new next_new ds_new)
open List (getD_cons_zero getD_cons_succ getD_nil length_cons length_nil getElem?_cons_zero getElem?_cons_succ map_cons map_nil)
set_option linter.unusedSimpArgs false
set_option linter.unusedVariables false

/-- A row that is turned round, as far as it is done. -/
def turned (p : List Nat) (a : Nat) : List AV := (List.range p.length).map fun k => .i .i64 (if k < a ∨ p.length ≤ k + a then ((p.getD (p.length - 1 - k) 0 : Nat) : Int) else ((p.getD k 0 : Nat) : Int))

theorem turned_at (p : List Nat) (a k : Nat) (hk : k < p.length) : (turned p a)[k]? = some (.i .i64 (if k < a ∨ p.length ≤ k + a then ((p.getD (p.length - 1 - k) 0 : Nat) : Int) else ((p.getD k 0 : Nat) : Int))) := by
  unfold turned
  rw [List.getElem?_map, List.getElem?_range hk]; rfl

theorem turned_zero (p : List Nat) : turned p 0 = p.map fun n : Nat => AV.i .i64 (n : Int) := by
  refine List.ext_getElem? fun k => ?_
  by_cases hk : k < p.length
  · rw [turned_at p 0 k hk, if_neg (by omega), List.getElem?_map, List.getElem?_eq_getElem hk, List.getD_eq_getElem?_getD, List.getElem?_eq_getElem hk]; rfl
  · rw [List.getElem?_eq_none (by unfold turned; simp; omega), List.getElem?_eq_none (by simp; omega)]

theorem turned_end (p : List Nat) (a : Nat) (h : p.length ≤ 2 * a + 1) : turned p a = p.reverse.map fun n : Nat => AV.i .i64 (n : Int) := by
  refine List.ext_getElem? fun k => ?_
  by_cases hk : k < p.length
  · rw [turned_at p a k hk, List.getElem?_map, List.getElem?_reverse hk]
    have h1 : p.length - 1 - k < p.length := by omega
    by_cases hc : k < a ∨ p.length ≤ k + a
    · rw [if_pos hc, List.getD_eq_getElem?_getD, List.getElem?_eq_getElem h1]; rfl
    · rw [if_neg hc, show p.length - 1 - k = k by omega, List.getD_eq_getElem?_getD, List.getElem?_eq_getElem hk]; rfl
  · rw [List.getElem?_eq_none (by unfold turned; simp; omega), List.getElem?_eq_none (by simp; omega)]

theorem turned_step (p : List Nat) (a : Nat) (h : 2 * a + 1 < p.length) (x y : AV) (hx : (turned p a)[p.length - 1 - a]? = some x) (hy : (turned p a)[a]? = some y) : ((turned p a).set a x).set (p.length - 1 - a) y = turned p (a + 1) := by
  refine List.ext_getElem? fun k => ?_
  rw [turned_at p a _ (by omega), if_neg (by omega)] at hx
  rw [turned_at p a _ (by omega), if_neg (by omega)] at hy
  simp only [Option.some.injEq] at hx hy
  have hlen : (turned p a).length = p.length := by unfold turned; simp
  rw [List.getElem?_set, List.getElem?_set]
  simp only [List.length_set, hlen]
  by_cases hk : k < p.length
  · rw [turned_at p (a + 1) k hk]
    by_cases h1 : p.length - 1 - a = k
    · rw [if_pos h1, if_pos (by omega), ← hy, if_pos (by omega), show p.length - 1 - k = a by omega]
    · rw [if_neg h1]
      by_cases h2 : a = k
      · rw [if_pos h2, if_pos (by omega), ← hx, if_pos (by omega), h2]
      · rw [if_neg h2, turned_at p a k hk]
        by_cases h3 : k < a ∨ p.length ≤ k + a
        · rw [if_pos h3, if_pos (by omega)]
        · rw [if_neg h3, if_neg (by omega)]
  · rw [if_neg (by omega), if_neg (by omega), List.getElem?_eq_none (by rw [hlen]; omega), List.getElem?_eq_none (by unfold turned; simp; omega)]

set_option maxHeartbeats 2000000 in
theorem call26 {m : AMem} {u : AV} {ju : Option Nat} {up : List Int} {i : Int} {p : List Nat} (hu : Row m (some 3) u ju (up.map fun n : Int => .i .i64 n)) (hl : up.length ≤ 600) (hc : G.Chain up p) (hpl : p.length ≤ 600) (hi : (p = [] ∧ (i < 0 ∨ (up.length : Int) ≤ i)) ∨ (p ≠ [] ∧ i = hd p)) :
    Vi.Call T 26 [.agg [u], .i .i64 i] m (fun v m' => ∃ jv, Row m' (some 3) v jv (p.reverse.map fun n : Nat => .i .i64 (n : Int)) ∧ Keep m m' [] ∧ ∀ j, jv = some j → m.next ≤ j) := by
  have hou := hu.one
  refine Vi.Call.ofP T26 (Nat.le_of_ble_eq_true rfl) ?_
  unfold v26
  repeat (first
    | ((first | refine W_op rfl rfl ?_ | (refine W_opgT rfl rfl ?hg ?_; (case hg => (simp only [upd_at, reduceIte, Nat.reduceEqDiff, Bool.not_true, Bool.not_false]; done)))); simp only [decide_true, decide_false, execE, unE, at_t, at_c, upd_at, upd_none, args0, push_no, get_inn, next_inn, ds_inn, get_put, next_put, ds_put, get_new, next_new, ds_new, getD_cons_zero, getD_cons_succ, getD_nil, reduceIte, Nat.reduceEqDiff, Bool.or_true, Bool.true_or, Bool.or_false, Bool.false_or, Bool.not_true, Bool.not_false, Bool.false_eq_true, beq_self_eq_true, beq_true, Bool.true_beq, beq_false, Bool.false_beq, length_cons, length_nil, Nat.zero_add, Nat.add_zero, Nat.reduceAdd, Nat.reduceLeDiff, getElem?_cons_zero, getElem?_cons_succ, Option.map_some, map_cons, map_nil, true_and, and_true, and_self, cells_agg, hou, List.all_cons, List.all_nil, Bool.and_self, Wo_some])
    | (refine W_opgF rfl rfl ?hg ?_; (case hg => (simp only [upd_at, reduceIte, Nat.reduceEqDiff, Bool.not_true, Bool.not_false]; done)))
    | rw [W_seq] | rw [W_reg] | rw [push_no] | rw [W_onil] | rw [W_skip] | rw [W_blk] | rw [W_b] | refine W_regd0 ?_)
  obtain ⟨mX, hmX, x1, x2, x3, x4⟩ : ∃ mX : AMem, mX = m.inn.new (.cells [u] true ⟨1, none⟩) ∧ mX.next = m.next + 1 ∧ mX.get m.next = some (.cells [u] true ⟨1, none⟩) ∧ Keep m mX [] ∧ mX.ds = [] :=
    ⟨_, rfl, rfl, by rw [AMem.get_new, if_pos (show m.inn.next = m.next from rfl)], (Keep.new m.inn _).ofInn, rfl⟩
  rw [← hmX]
  clear hmX
  have huX := hu.keep x3 (by simp)
  have hlt := G.chain_lt hc
  refine W_cutK [_, _] (fun g' m' => ∃ jv, Row m' (some 3) (g' 5) jv (p.map fun n : Nat => .i .i64 (n : Int)) ∧ (∀ j, jv = some j → m.next < j) ∧ Keep mX m' [] ∧ m'.ds = []) ?_ ?_
  · refine W_loop (fun n g' m' => ∃ (s acc : List Nat) (k : Int) (jv : Option Nat), n = s.length ∧ acc ++ s = p ∧ G.Chain up s ∧ ((s = [] ∧ (k < 0 ∨ (up.length : Int) ≤ k)) ∨ (s ≠ [] ∧ k = hd s)) ∧ g' 1 = .i .i64 k ∧ g' 2 = .p (some (m.next, 0)) ∧ Row m' (some 3) (g' 5) jv (acc.map fun n : Nat => .i .i64 (n : Int)) ∧ (∀ j, jv = some j → m.next < j) ∧ Keep mX m' [] ∧ m'.ds = []) p.length ?_ ?_ ?_
    · refine ⟨p, [], i, none, rfl, rfl, hc, hi, ?_, ?_, ?_, nofun, Keep.refl _ _, x4⟩
      · skip
        simp only [upd_at, upd_none, reduceIte, Nat.reduceEqDiff, args0, getD_cons_zero, getD_cons_succ, getD_nil]
      · skip
        simp only [upd_at, upd_none, reduceIte, Nat.reduceEqDiff, args0, getD_cons_zero, getD_cons_succ, getD_nil]
      · skip
        simp only [upd_at, upd_none, reduceIte, Nat.reduceEqDiff, args0, getD_cons_zero, getD_cons_succ, getD_nil]
        exact Row.nil _ _
    · intro i hi
      repeat (first | exact args0_un (Nat.le_of_ble_eq_true rfl) i hi | refine upd_un ?_ rfl i hi; clear i hi; intro i hi)
    · rintro n g m1 ⟨s, acc, k, jv, rfl, hacc, hch, hk, g1, g2, ra, hjv, kp, hds⟩ hg
      have e2 := kp.at (by omega) (by simp) x2
      have hlu := (huX.keep kp (by simp)).lenF (n := up.length) (by simp)
      have hn1 := kp.next
      cases s with
      | nil =>
        have hk' : k < 0 ∨ (up.length : Int) ≤ k := by
          rcases hk with h | h
          · exact h.2
          · exact absurd rfl h.1
        have hfin : Row m1 (some 3) (g 5) jv (p.map fun n : Nat => .i .i64 (n : Int)) := by
          rw [← hacc, List.append_nil]; exact ra
        cases hA : decide (k ≥ 0)
        · skip
          repeat (first
            | ((first | refine W_op rfl rfl ?_ | (refine W_opgT rfl rfl ?hg ?_; (case hg => (simp only [upd_at, reduceIte, Nat.reduceEqDiff, Bool.not_true, Bool.not_false]; done)))); simp only [decide_true, decide_false, execE, unE, at_t, at_c, upd_at, upd_none, args0, push_no, get_inn, next_inn, ds_inn, get_put, next_put, ds_put, get_new, next_new, ds_new, getD_cons_zero, getD_cons_succ, getD_nil, reduceIte, Nat.reduceEqDiff, Bool.or_true, Bool.true_or, Bool.or_false, Bool.false_or, Bool.not_true, Bool.not_false, Bool.false_eq_true, beq_self_eq_true, beq_true, Bool.true_beq, beq_false, Bool.false_beq, length_cons, length_nil, Nat.zero_add, Nat.add_zero, Nat.reduceAdd, Nat.reduceLeDiff, getElem?_cons_zero, getElem?_cons_succ, Option.map_some, map_cons, map_nil, true_and, and_true, and_self, g1, g2, e2, ↓hlu, binE, isShift, intBin, hA, Wo_some])
            | (refine W_opgF rfl rfl ?hg ?_; (case hg => (simp only [upd_at, reduceIte, Nat.reduceEqDiff, Bool.not_true, Bool.not_false]; done)))
            | rw [W_seq] | rw [W_reg] | rw [push_no] | rw [W_onil] | rw [W_skip] | rw [W_blk] | rw [W_b] | refine W_regd0 ?_)
          refine W_cond ?_
          simp only [decide_true, decide_false, execE, unE, at_t, at_c, upd_at, upd_none, args0, push_no, get_inn, next_inn, ds_inn, get_put, next_put, ds_put, get_new, next_new, ds_new, getD_cons_zero, getD_cons_succ, getD_nil, reduceIte, Nat.reduceEqDiff, Bool.or_true, Bool.true_or, Bool.or_false, Bool.false_or, Bool.not_true, Bool.not_false, Bool.false_eq_true, beq_self_eq_true, beq_true, Bool.true_beq, beq_false, Bool.false_beq, length_cons, length_nil, Nat.zero_add, Nat.add_zero, Nat.reduceAdd, Nat.reduceLeDiff, getElem?_cons_zero, getElem?_cons_succ, Option.map_some, map_cons, map_nil, true_and, and_true, and_self, WC]
          refine W_exit rfl ?_
          refine W_j (by repeat (first | exact hg | exact args0_un (Nat.le_of_ble_eq_true rfl) | refine upd_un ?_ rfl)) ?_
          refine ⟨jv, ?_, hjv, kp, hds⟩
          simp only [decide_true, decide_false, execE, unE, at_t, at_c, upd_at, upd_none, args0, push_no, get_inn, next_inn, ds_inn, get_put, next_put, ds_put, get_new, next_new, ds_new, getD_cons_zero, getD_cons_succ, getD_nil, reduceIte, Nat.reduceEqDiff, Bool.or_true, Bool.true_or, Bool.or_false, Bool.false_or, Bool.not_true, Bool.not_false, Bool.false_eq_true, beq_self_eq_true, beq_true, Bool.true_beq, beq_false, Bool.false_beq, length_cons, length_nil, Nat.zero_add, Nat.add_zero, Nat.reduceAdd, Nat.reduceLeDiff, getElem?_cons_zero, getElem?_cons_succ, Option.map_some, map_cons, map_nil, true_and, and_true, and_self]
          exact hfin
        · have hB : decide (k < (up.length : Int)) = false := by simp at hA ⊢; omega
          repeat (first
            | ((first | refine W_op rfl rfl ?_ | (refine W_opgT rfl rfl ?hg ?_; (case hg => (simp only [upd_at, reduceIte, Nat.reduceEqDiff, Bool.not_true, Bool.not_false]; done)))); simp only [decide_true, decide_false, execE, unE, at_t, at_c, upd_at, upd_none, args0, push_no, get_inn, next_inn, ds_inn, get_put, next_put, ds_put, get_new, next_new, ds_new, getD_cons_zero, getD_cons_succ, getD_nil, reduceIte, Nat.reduceEqDiff, Bool.or_true, Bool.true_or, Bool.or_false, Bool.false_or, Bool.not_true, Bool.not_false, Bool.false_eq_true, beq_self_eq_true, beq_true, Bool.true_beq, beq_false, Bool.false_beq, length_cons, length_nil, Nat.zero_add, Nat.add_zero, Nat.reduceAdd, Nat.reduceLeDiff, getElem?_cons_zero, getElem?_cons_succ, Option.map_some, map_cons, map_nil, true_and, and_true, and_self, g1, g2, e2, ↓hlu, binE, isShift, intBin, hA, hB, Wo_some])
            | (refine W_opgF rfl rfl ?hg ?_; (case hg => (simp only [upd_at, reduceIte, Nat.reduceEqDiff, Bool.not_true, Bool.not_false]; done)))
            | rw [W_seq] | rw [W_reg] | rw [push_no] | rw [W_onil] | rw [W_skip] | rw [W_blk] | rw [W_b] | refine W_regd0 ?_)
          refine W_cond ?_
          simp only [decide_true, decide_false, execE, unE, at_t, at_c, upd_at, upd_none, args0, push_no, get_inn, next_inn, ds_inn, get_put, next_put, ds_put, get_new, next_new, ds_new, getD_cons_zero, getD_cons_succ, getD_nil, reduceIte, Nat.reduceEqDiff, Bool.or_true, Bool.true_or, Bool.or_false, Bool.false_or, Bool.not_true, Bool.not_false, Bool.false_eq_true, beq_self_eq_true, beq_true, Bool.true_beq, beq_false, Bool.false_beq, length_cons, length_nil, Nat.zero_add, Nat.add_zero, Nat.reduceAdd, Nat.reduceLeDiff, getElem?_cons_zero, getElem?_cons_succ, Option.map_some, map_cons, map_nil, true_and, and_true, and_self, WC]
          refine W_exit rfl ?_
          refine W_j (by repeat (first | exact hg | exact args0_un (Nat.le_of_ble_eq_true rfl) | refine upd_un ?_ rfl)) ?_
          refine ⟨jv, ?_, hjv, kp, hds⟩
          simp only [decide_true, decide_false, execE, unE, at_t, at_c, upd_at, upd_none, args0, push_no, get_inn, next_inn, ds_inn, get_put, next_put, ds_put, get_new, next_new, ds_new, getD_cons_zero, getD_cons_succ, getD_nil, reduceIte, Nat.reduceEqDiff, Bool.or_true, Bool.true_or, Bool.or_false, Bool.false_or, Bool.not_true, Bool.not_false, Bool.false_eq_true, beq_self_eq_true, beq_true, Bool.true_beq, beq_false, Bool.false_beq, length_cons, length_nil, Nat.zero_add, Nat.add_zero, Nat.reduceAdd, Nat.reduceLeDiff, getElem?_cons_zero, getElem?_cons_succ, Option.map_some, map_cons, map_nil, true_and, and_true, and_self]
          exact hfin
      | cons a tl =>
        have hka : k = (a : Int) := by
          rcases hk with h | h
          · exact absurd h.1 (by simp)
          · exact h.2
        subst hka
        have hal : a < up.length := hlt a (by rw [← hacc]; simp)
        have hnx := chain_next hch
        have hA : decide ((a : Int) ≥ 0) = true := by simp
        have hB : decide ((a : Int) < (up.length : Int)) = true := by simp; omega
        have haccl : acc.length < 600 := by
          have := congrArg List.length hacc
          simp at this; omega
        repeat (first
          | ((first | refine W_op rfl rfl ?_ | (refine W_opgT rfl rfl ?hg ?_; (case hg => (simp only [upd_at, reduceIte, Nat.reduceEqDiff, Bool.not_true, Bool.not_false]; done)))); simp only [decide_true, decide_false, execE, unE, at_t, at_c, upd_at, upd_none, args0, push_no, get_inn, next_inn, ds_inn, get_put, next_put, ds_put, get_new, next_new, ds_new, getD_cons_zero, getD_cons_succ, getD_nil, reduceIte, Nat.reduceEqDiff, Bool.or_true, Bool.true_or, Bool.or_false, Bool.false_or, Bool.not_true, Bool.not_false, Bool.false_eq_true, beq_self_eq_true, beq_true, Bool.true_beq, beq_false, Bool.false_beq, length_cons, length_nil, Nat.zero_add, Nat.add_zero, Nat.reduceAdd, Nat.reduceLeDiff, getElem?_cons_zero, getElem?_cons_succ, Option.map_some, map_cons, map_nil, true_and, and_true, and_self, g1, g2, e2, ↓hlu, binE, isShift, intBin, hA, hB, Wo_some])
          | (refine W_opgF rfl rfl ?hg ?_; (case hg => (simp only [upd_at, reduceIte, Nat.reduceEqDiff, Bool.not_true, Bool.not_false]; done)))
          | rw [W_seq] | rw [W_reg] | rw [push_no] | rw [W_onil] | rw [W_skip] | rw [W_blk] | rw [W_b] | refine W_regd0 ?_)
        refine W_cond ?_
        simp only [decide_true, decide_false, execE, unE, at_t, at_c, upd_at, upd_none, args0, push_no, get_inn, next_inn, ds_inn, get_put, next_put, ds_put, get_new, next_new, ds_new, getD_cons_zero, getD_cons_succ, getD_nil, reduceIte, Nat.reduceEqDiff, Bool.or_true, Bool.true_or, Bool.or_false, Bool.false_or, Bool.not_true, Bool.not_false, Bool.false_eq_true, beq_self_eq_true, beq_true, Bool.true_beq, beq_false, Bool.false_beq, length_cons, length_nil, Nat.zero_add, Nat.add_zero, Nat.reduceAdd, Nat.reduceLeDiff, getElem?_cons_zero, getElem?_cons_succ, Option.map_some, map_cons, map_nil, true_and, and_true, and_self, WC]
        repeat (first
          | ((first | refine W_opN rfl rfl rfl ?_ | (refine W_opgT rfl rfl ?hg ?_; (case hg => (simp only [upd_at, reduceIte, Nat.reduceEqDiff, Bool.not_true, Bool.not_false]; done)))); simp only [decide_true, decide_false, execE, unE, at_t, at_c, upd_at, upd_none, args0, push_no, get_inn, next_inn, ds_inn, get_put, next_put, ds_put, get_new, next_new, ds_new, getD_cons_zero, getD_cons_succ, getD_nil, reduceIte, Nat.reduceEqDiff, Bool.or_true, Bool.true_or, Bool.or_false, Bool.false_or, Bool.not_true, Bool.not_false, Bool.false_eq_true, beq_self_eq_true, beq_true, Bool.true_beq, beq_false, Bool.false_beq, length_cons, length_nil, Nat.zero_add, Nat.add_zero, Nat.reduceAdd, Nat.reduceLeDiff, getElem?_cons_zero, getElem?_cons_succ, Option.map_some, map_cons, map_nil, true_and, and_true, and_self, g1, Wo_some])
          | (refine W_opgF rfl rfl ?hg ?_; (case hg => (simp only [upd_at, reduceIte, Nat.reduceEqDiff, Bool.not_true, Bool.not_false]; done)))
          | rw [W_seq] | rw [W_reg] | rw [push_no] | rw [W_onil] | rw [W_skip] | rw [W_blk] | rw [W_b] | refine W_regd0 ?_)
        refine W_push rfl rfl rfl ?hs (Row.as ra ?hrow) ?hone ?hroom ?_
        case hs => simp only [decide_true, decide_false, execE, unE, at_t, at_c, upd_at, upd_none, args0, push_no, get_inn, next_inn, ds_inn, get_put, next_put, ds_put, get_new, next_new, ds_new, getD_cons_zero, getD_cons_succ, getD_nil, reduceIte, Nat.reduceEqDiff, Bool.or_true, Bool.true_or, Bool.or_false, Bool.false_or, Bool.not_true, Bool.not_false, Bool.false_eq_true, beq_self_eq_true, beq_true, Bool.true_beq, beq_false, Bool.false_beq, length_cons, length_nil, Nat.zero_add, Nat.add_zero, Nat.reduceAdd, Nat.reduceLeDiff, getElem?_cons_zero, getElem?_cons_succ, Option.map_some, map_cons, map_nil, true_and, and_true, and_self, g1]
        case hrow => simp only [decide_true, decide_false, execE, unE, at_t, at_c, upd_at, upd_none, args0, push_no, get_inn, next_inn, ds_inn, get_put, next_put, ds_put, get_new, next_new, ds_new, getD_cons_zero, getD_cons_succ, getD_nil, reduceIte, Nat.reduceEqDiff, Bool.or_true, Bool.true_or, Bool.or_false, Bool.false_or, Bool.not_true, Bool.not_false, Bool.false_eq_true, beq_self_eq_true, beq_true, Bool.true_beq, beq_false, Bool.false_beq, length_cons, length_nil, Nat.zero_add, Nat.add_zero, Nat.reduceAdd, Nat.reduceLeDiff, getElem?_cons_zero, getElem?_cons_succ, Option.map_some, map_cons, map_nil, true_and, and_true, and_self, g1]
        case hone => simp only [decide_true, decide_false, execE, unE, at_t, at_c, upd_at, upd_none, args0, push_no, get_inn, next_inn, ds_inn, get_put, next_put, ds_put, get_new, next_new, ds_new, getD_cons_zero, getD_cons_succ, getD_nil, reduceIte, Nat.reduceEqDiff, Bool.or_true, Bool.true_or, Bool.or_false, Bool.false_or, Bool.not_true, Bool.not_false, Bool.false_eq_true, beq_self_eq_true, beq_true, Bool.true_beq, beq_false, Bool.false_beq, length_cons, length_nil, Nat.zero_add, Nat.add_zero, Nat.reduceAdd, Nat.reduceLeDiff, getElem?_cons_zero, getElem?_cons_succ, Option.map_some, map_cons, map_nil, true_and, and_true, and_self, AV.one, g1]
        case hroom => exact roomyOf (by omega) (by simp; omega)
        intro a3 j3 m3 r3 ds3 ro3 o3 k3
        simp only [decide_true, decide_false, execE, unE, at_t, at_c, upd_at, upd_none, args0, push_no, get_inn, next_inn, ds_inn, get_put, next_put, ds_put, get_new, next_new, ds_new, getD_cons_zero, getD_cons_succ, getD_nil, reduceIte, Nat.reduceEqDiff, Bool.or_true, Bool.true_or, Bool.or_false, Bool.false_or, Bool.not_true, Bool.not_false, Bool.false_eq_true, beq_self_eq_true, beq_true, Bool.true_beq, beq_false, Bool.false_beq, length_cons, length_nil, Nat.zero_add, Nat.add_zero, Nat.reduceAdd, Nat.reduceLeDiff, getElem?_cons_zero, getElem?_cons_succ, Option.map_some, map_cons, map_nil, true_and, and_true, and_self, g1] at r3
        have k3' : Keep mX m3 [] := kp.trans k3 (by intro x hx; simp at hx; have := hjv x hx; right; omega)
        have e3 := k3'.at (by omega) (by simp) x2
        have hu3 := huX.keep k3' (by simp)
        obtain ⟨q2, c2, ex2, _, hav2, _, hg2, _, hc2, _⟩ := hu3.atN (n := up.length) (i := a) (x := .i .i64 (hd tl)) (by simp) (by rw [List.getElem?_map, hnx]; rfl)
        have hix : (0 ≤ (a : Int) ∧ (a : Int) < (up.length : Int)) := ⟨by omega, by omega⟩
        repeat (first
          | ((first | refine W_op rfl rfl ?_ | (refine W_opgT rfl rfl ?hg ?_; (case hg => (simp only [upd_at, reduceIte, Nat.reduceEqDiff, Bool.not_true, Bool.not_false]; done)))); simp only [decide_true, decide_false, execE, unE, at_t, at_c, upd_at, upd_none, args0, push_no, get_inn, next_inn, ds_inn, get_put, next_put, ds_put, get_new, next_new, ds_new, getD_cons_zero, getD_cons_succ, getD_nil, reduceIte, Nat.reduceEqDiff, Bool.or_true, Bool.true_or, Bool.or_false, Bool.false_or, Bool.not_true, Bool.not_false, Bool.false_eq_true, beq_self_eq_true, beq_true, Bool.true_beq, beq_false, Bool.false_beq, length_cons, length_nil, Nat.zero_add, Nat.add_zero, Nat.reduceAdd, Nat.reduceLeDiff, getElem?_cons_zero, getElem?_cons_succ, Option.map_some, map_cons, map_nil, true_and, and_true, and_self, g1, g2, e3, hav2, hix, Int.toNat_natCast, Nat.mul_one, hg2, hc2, Wo_some])
          | (refine W_opgF rfl rfl ?hg ?_; (case hg => (simp only [upd_at, reduceIte, Nat.reduceEqDiff, Bool.not_true, Bool.not_false]; done)))
          | rw [W_seq] | rw [W_reg] | rw [push_no] | rw [W_onil] | rw [W_skip] | rw [W_blk] | rw [W_b] | refine W_regd0 ?_)
        refine W_j (by repeat (first | exact hg | exact args0_un (Nat.le_of_ble_eq_true rfl) | refine upd_un ?_ rfl)) ?_
        refine ⟨tl.length, by simp, tl, acc ++ [a], hd tl, some j3, rfl, by simpa using hacc, hch.tail, ?_, ?_, ?_, ?_, ?_, k3', ?_⟩
        · cases tl with
          | nil => exact .inl ⟨rfl, .inl (by simp [hd])⟩
          | cons b tl => exact .inr ⟨by simp, rfl⟩
        · skip
          simp only [upd_at, upd_none, reduceIte, Nat.reduceEqDiff, args0, getD_cons_zero, getD_cons_succ, getD_nil]
        · skip
          simp only [upd_at, upd_none, reduceIte, Nat.reduceEqDiff, args0, getD_cons_zero, getD_cons_succ, getD_nil, g2]
        · skip
          simp only [upd_at, upd_none, reduceIte, Nat.reduceEqDiff, args0, getD_cons_zero, getD_cons_succ, getD_nil]
          simpa using r3
        · rintro _ ⟨⟩
          rcases o3 with h | h
          · exact hjv _ h
          · omega
        · rw [ds3]; exact hds
  · rintro g m1 ⟨jv, rp, hjv, kp, hds⟩ hg
    have hlp := rp.lenF (n := p.length) (by simp)
    have hn1 := kp.next
    have hw0 : IntKind.i64.wrap ((p.length : Int) - 1) = (p.length : Int) - 1 := wrap64' (n := (p.length : Int) - 1) (by omega) (by omega)
    repeat (first
      | ((first | refine W_op rfl rfl ?_ | (refine W_opgT rfl rfl ?hg ?_; (case hg => (simp only [upd_at, reduceIte, Nat.reduceEqDiff, Bool.not_true, Bool.not_false]; done)))); simp only [decide_true, decide_false, execE, unE, at_t, at_c, upd_at, upd_none, args0, push_no, get_inn, next_inn, ds_inn, get_put, next_put, ds_put, get_new, next_new, ds_new, getD_cons_zero, getD_cons_succ, getD_nil, reduceIte, Nat.reduceEqDiff, Bool.or_true, Bool.true_or, Bool.or_false, Bool.false_or, Bool.not_true, Bool.not_false, Bool.false_eq_true, beq_self_eq_true, beq_true, Bool.true_beq, beq_false, Bool.false_beq, length_cons, length_nil, Nat.zero_add, Nat.add_zero, Nat.reduceAdd, Nat.reduceLeDiff, getElem?_cons_zero, getElem?_cons_succ, Option.map_some, map_cons, map_nil, true_and, and_true, and_self, ↓hlp, hw0, binE, isShift, intBin, Wo_some])
      | (refine W_opgF rfl rfl ?hg ?_; (case hg => (simp only [upd_at, reduceIte, Nat.reduceEqDiff, Bool.not_true, Bool.not_false]; done)))
      | rw [W_seq] | rw [W_reg] | rw [push_no] | rw [W_onil] | rw [W_skip] | rw [W_blk] | rw [W_b] | refine W_regd0 ?_)
    generalize hav5 : g 5 = av5 at *
    refine W_loop (fun n g' m' => ∃ a : Nat, 2 * a ≤ p.length + 1 ∧ n = p.length - a ∧ g' 5 = av5 ∧ g' 6 = .i .i64 a ∧ g' 7 = .i .i64 ((p.length : Int) - 1 - a) ∧ Row m' (some 3) av5 jv (turned p a) ∧ Keep mX m' [] ∧ m'.ds = []) p.length ?_ ?_ ?_
    · refine ⟨0, by omega, rfl, ?_, ?_, ?_, by rw [turned_zero]; exact rp, kp, hds⟩
      · skip
        simp only [upd_at, upd_none, reduceIte, Nat.reduceEqDiff, args0, getD_cons_zero, getD_cons_succ, getD_nil, hav5]
      · skip
        simp only [upd_at, upd_none, reduceIte, Nat.reduceEqDiff, args0, getD_cons_zero, getD_cons_succ, getD_nil, Int.ofNat_zero]
        try rfl
      · skip
        simp only [decide_true, decide_false, execE, unE, at_t, at_c, upd_at, upd_none, args0, push_no, get_inn, next_inn, ds_inn, get_put, next_put, ds_put, get_new, next_new, ds_new, getD_cons_zero, getD_cons_succ, getD_nil, reduceIte, Nat.reduceEqDiff, Bool.or_true, Bool.true_or, Bool.or_false, Bool.false_or, Bool.not_true, Bool.not_false, Bool.false_eq_true, beq_self_eq_true, beq_true, Bool.true_beq, beq_false, Bool.false_beq, length_cons, length_nil, Nat.zero_add, Nat.add_zero, Nat.reduceAdd, Nat.reduceLeDiff, getElem?_cons_zero, getElem?_cons_succ, Option.map_some, map_cons, map_nil, true_and, and_true, and_self]
        congr 1
        omega
    · intro i hi
      repeat (first | exact hg i hi | refine upd_un ?_ rfl i hi; clear i hi; intro i hi)
    · clear hav5 kp hds rp
      rintro n g m2 ⟨a, ha, rfl, g5, g6, g7, rp, kp, hds⟩ hg
      repeat (first
        | ((first | refine W_op rfl rfl ?_ | (refine W_opgT rfl rfl ?hg ?_; (case hg => (simp only [upd_at, reduceIte, Nat.reduceEqDiff, Bool.not_true, Bool.not_false]; done)))); simp only [decide_true, decide_false, execE, unE, at_t, at_c, upd_at, upd_none, args0, push_no, get_inn, next_inn, ds_inn, get_put, next_put, ds_put, get_new, next_new, ds_new, getD_cons_zero, getD_cons_succ, getD_nil, reduceIte, Nat.reduceEqDiff, Bool.or_true, Bool.true_or, Bool.or_false, Bool.false_or, Bool.not_true, Bool.not_false, Bool.false_eq_true, beq_self_eq_true, beq_true, Bool.true_beq, beq_false, Bool.false_beq, length_cons, length_nil, Nat.zero_add, Nat.add_zero, Nat.reduceAdd, Nat.reduceLeDiff, getElem?_cons_zero, getElem?_cons_succ, Option.map_some, map_cons, map_nil, true_and, and_true, and_self, g6, g7, binE, isShift, intBin, Wo_some])
        | (refine W_opgF rfl rfl ?hg ?_; (case hg => (simp only [upd_at, reduceIte, Nat.reduceEqDiff, Bool.not_true, Bool.not_false]; done)))
        | rw [W_seq] | rw [W_reg] | rw [push_no] | rw [W_onil] | rw [W_skip] | rw [W_blk] | rw [W_b] | refine W_regd0 ?_)
      refine W_cond ?_
      simp only [decide_true, decide_false, execE, unE, at_t, at_c, upd_at, upd_none, args0, push_no, get_inn, next_inn, ds_inn, get_put, next_put, ds_put, get_new, next_new, ds_new, getD_cons_zero, getD_cons_succ, getD_nil, reduceIte, Nat.reduceEqDiff, Bool.or_true, Bool.true_or, Bool.or_false, Bool.false_or, Bool.not_true, Bool.not_false, Bool.false_eq_true, beq_self_eq_true, beq_true, Bool.true_beq, beq_false, Bool.false_beq, length_cons, length_nil, Nat.zero_add, Nat.add_zero, Nat.reduceAdd, Nat.reduceLeDiff, getElem?_cons_zero, getElem?_cons_succ, Option.map_some, map_cons, map_nil, true_and, and_true, and_self]
      refine WC_split (fun ht => ?_) (fun hf => ?_)
      · have hab : (a : Int) < (p.length : Int) - 1 - a := by simpa using ht
        obtain ⟨b, hb⟩ : ∃ b : Nat, (p.length : Int) - 1 - a = b := ⟨p.length - 1 - a, by omega⟩
        have hbn : b = p.length - 1 - a := by omega
        rw [hb] at g7
        have hlen : (turned p a).length = p.length := by unfold turned; simp
        cases jv with
        | none =>
          exfalso
          have : p.length = 0 := by rw [← hlen, rp.2]; rfl
          omega
        | some j =>
          obtain ⟨c, ex, hav, hj, hgc, hcl, hct⟩ := id rp
          rw [hlen] at hav hcl hct
          have hga : ∀ k, k < p.length → c[k]? = (turned p a)[k]? := fun k hk => by
            rw [← hct, List.getElem?_take, if_pos hk]
          obtain ⟨va, hva⟩ : ∃ va : Int, (turned p a)[a]? = some (.i .i64 va) := ⟨_, turned_at p a a (by omega)⟩
          obtain ⟨vb, hvb⟩ : ∃ vb : Int, (turned p a)[b]? = some (.i .i64 vb) := ⟨_, turned_at p a b (by omega)⟩
          have hca := (hga a (by omega)).trans hva
          have hcb := (hga b (by omega)).trans hvb
          have hia : (0 ≤ (a : Int) ∧ (a : Int) < (p.length : Int)) := ⟨by omega, by omega⟩
          have hib : (0 ≤ (b : Int) ∧ (b : Int) < (p.length : Int)) := ⟨by omega, by omega⟩
          have hc1 : a + 1 ≤ c.length := by omega
          have hc2 : b + 1 ≤ (splice c a [.i .i64 vb]).length := by rw [length_splice _ _ _ (by simpa using hc1)]; omega
          have hw1 : IntKind.i64.wrap ((a : Int) + 1) = ((a + 1 : Nat) : Int) := (wrap64' (n := (a : Int) + 1) (by omega) (by omega)).trans (by omega)
          have hw2 : IntKind.i64.wrap ((b : Int) - 1) = (p.length : Int) - 1 - ((a + 1 : Nat) : Int) := (wrap64' (n := (b : Int) - 1) (by omega) (by omega)).trans (by omega)
          have r1 := rp.set hgc (i := a) (by rw [hlen]; omega) (.i .i64 vb)
          have r2 := r1.set (c := splice c a [.i .i64 vb]) (by rw [AMem.get_put, if_pos rfl]) (i := b) (by rw [List.length_set, hlen]; omega) (.i .i64 va)
          rw [hbn] at hvb r2
          rw [turned_step p a (by omega) _ _ hvb hva, ← hbn] at r2
          repeat (first
            | ((first | refine W_op rfl rfl ?_ | (refine W_opgT rfl rfl ?hg ?_; (case hg => (simp only [upd_at, reduceIte, Nat.reduceEqDiff, Bool.not_true, Bool.not_false]; done)))); simp only [decide_true, decide_false, execE, unE, at_t, at_c, upd_at, upd_none, args0, push_no, get_inn, next_inn, ds_inn, get_put, next_put, ds_put, get_new, next_new, ds_new, getD_cons_zero, getD_cons_succ, getD_nil, reduceIte, Nat.reduceEqDiff, Bool.or_true, Bool.true_or, Bool.or_false, Bool.false_or, Bool.not_true, Bool.not_false, Bool.false_eq_true, beq_self_eq_true, beq_true, Bool.true_beq, beq_false, Bool.false_beq, length_cons, length_nil, Nat.zero_add, Nat.add_zero, Nat.reduceAdd, Nat.reduceLeDiff, getElem?_cons_zero, getElem?_cons_succ, Option.map_some, map_cons, map_nil, true_and, and_true, and_self, g5, g6, g7, hav, hia, hib, Int.toNat_natCast, Nat.mul_one, hgc, hca, hcb, AV.cells, AV.one, List.all_cons, List.all_nil, Bool.and_self, hc1, hc2, hw1, hw2, binE, isShift, intBin, Wo_some])
            | (refine W_opgF rfl rfl ?hg ?_; (case hg => (simp only [upd_at, reduceIte, Nat.reduceEqDiff, Bool.not_true, Bool.not_false]; done)))
            | rw [W_seq] | rw [W_reg] | rw [push_no] | rw [W_onil] | rw [W_skip] | rw [W_blk] | rw [W_b] | refine W_regd0 ?_)
          refine W_j (by repeat (first | exact hg | exact args0_un (Nat.le_of_ble_eq_true rfl) | refine upd_un ?_ rfl)) ?_
          refine ⟨p.length - (a + 1), by omega, a + 1, by omega, rfl, ?_, ?_, ?_, ?_, ?_, hds⟩
          · skip
            simp only [upd_at, upd_none, reduceIte, Nat.reduceEqDiff, args0, getD_cons_zero, getD_cons_succ, getD_nil, g5, hav]
          · skip
            simp only [upd_at, upd_none, reduceIte, Nat.reduceEqDiff, args0, getD_cons_zero, getD_cons_succ, getD_nil]
          · skip
            simp only [upd_at, upd_none, reduceIte, Nat.reduceEqDiff, args0, getD_cons_zero, getD_cons_succ, getD_nil]
          · rw [hav] at r2
            exact r2
          · exact (kp.trans (Keep.put _ j _) (by intro x hx; simp at hx; subst hx; have := hjv _ rfl; right; omega)).trans (Keep.put _ j _) (by intro x hx; simp at hx; subst hx; have := hjv _ rfl; right; omega)
      · refine W_exit rfl ?_
        have hae : p.length ≤ 2 * a + 1 := by
          have : ¬ (a : Int) < (p.length : Int) - 1 - a := by simpa using hf
          omega
        rw [turned_end p a hae] at rp
        repeat (first
          | ((first | refine W_op rfl rfl ?_ | (refine W_opgT rfl rfl ?hg ?_; (case hg => (simp only [upd_at, reduceIte, Nat.reduceEqDiff, Bool.not_true, Bool.not_false]; done)))); simp only [decide_true, decide_false, execE, unE, at_t, at_c, upd_at, upd_none, args0, push_no, get_inn, next_inn, ds_inn, get_put, next_put, ds_put, get_new, next_new, ds_new, getD_cons_zero, getD_cons_succ, getD_nil, reduceIte, Nat.reduceEqDiff, Bool.or_true, Bool.true_or, Bool.or_false, Bool.false_or, Bool.not_true, Bool.not_false, Bool.false_eq_true, beq_self_eq_true, beq_true, Bool.true_beq, beq_false, Bool.false_beq, length_cons, length_nil, Nat.zero_add, Nat.add_zero, Nat.reduceAdd, Nat.reduceLeDiff, getElem?_cons_zero, getElem?_cons_succ, Option.map_some, map_cons, map_nil, true_and, and_true, and_self, g5, Wo_some])
          | (refine W_opgF rfl rfl ?hg ?_; (case hg => (simp only [upd_at, reduceIte, Nat.reduceEqDiff, Bool.not_true, Bool.not_false]; done)))
          | rw [W_seq] | rw [W_reg] | rw [push_no] | rw [W_onil] | rw [W_skip] | rw [W_blk] | rw [W_b] | refine W_regd0 ?_)
        refine W_getRet (by repeat (first | exact hg | exact args0_un (Nat.le_of_ble_eq_true rfl) | refine upd_un ?_ rfl)) ?_
        exact ⟨hds, _, rfl, jv, by
          simp only [decide_true, decide_false, execE, unE, at_t, at_c, upd_at, upd_none, args0, push_no, get_inn, next_inn, ds_inn, get_put, next_put, ds_put, get_new, next_new, ds_new, getD_cons_zero, getD_cons_succ, getD_nil, reduceIte, Nat.reduceEqDiff, Bool.or_true, Bool.true_or, Bool.or_false, Bool.false_or, Bool.not_true, Bool.not_false, Bool.false_eq_true, beq_self_eq_true, beq_true, Bool.true_beq, beq_false, Bool.false_beq, length_cons, length_nil, Nat.zero_add, Nat.add_zero, Nat.reduceAdd, Nat.reduceLeDiff, getElem?_cons_zero, getElem?_cons_succ, Option.map_some, map_cons, map_nil, true_and, and_true, and_self]
          exact rp.keep ((Keep.refl _ []).out (m0 := m)) (by simp), (x3.trans kp (by simp)).out, fun j hj => by have := hjv j hj; omega⟩

theorem call27 {m : AMem} {u : AV} {ju : Option Nat} {up : List Int} {i : Int} {p : List Nat} (hu : Row m (some 3) u ju (up.map fun n : Int => .i .i64 n)) (hl : up.length ≤ 600) (hc : G.Chain up p) (hpl : p.length ≤ 600) (hi : (p = [] ∧ (i < 0 ∨ (up.length : Int) ≤ i)) ∨ (p ≠ [] ∧ i = hd p)) :
    Vi.Call T 27 [.agg [u], .i .i64 i] m (fun v m' => v = .i .i64 ((p.length - 1 : Nat) : Int) ∧ Keep m m' []) := by
  have hou := hu.one
  refine Vi.Call.ofP T27 (Nat.le_of_ble_eq_true rfl) ?_
  unfold v27
  repeat (first
    | ((first | refine W_op rfl rfl ?_ | (refine W_opgT rfl rfl ?hg ?_; (case hg => (simp only [upd_at, reduceIte, Nat.reduceEqDiff, Bool.not_true, Bool.not_false]; done)))); simp only [decide_true, decide_false, execE, unE, at_t, at_c, upd_at, upd_none, args0, push_no, get_inn, next_inn, ds_inn, get_put, next_put, ds_put, get_new, next_new, ds_new, getD_cons_zero, getD_cons_succ, getD_nil, reduceIte, Nat.reduceEqDiff, Bool.or_true, Bool.true_or, Bool.or_false, Bool.false_or, Bool.not_true, Bool.not_false, Bool.false_eq_true, beq_self_eq_true, beq_true, Bool.true_beq, beq_false, Bool.false_beq, length_cons, length_nil, Nat.zero_add, Nat.add_zero, Nat.reduceAdd, Nat.reduceLeDiff, getElem?_cons_zero, getElem?_cons_succ, Option.map_some, map_cons, map_nil, true_and, and_true, and_self, cells_agg, hou, List.all_cons, List.all_nil, Bool.and_self, rd, List.length_cons, List.length_nil, List.take_succ_cons, List.take_zero, List.drop_zero, Nat.le_refl, Wo_some])
    | (refine W_opgF rfl rfl ?hg ?_; (case hg => (simp only [upd_at, reduceIte, Nat.reduceEqDiff, Bool.not_true, Bool.not_false]; done)))
    | rw [W_seq] | rw [W_reg] | rw [push_no] | rw [W_onil] | rw [W_skip] | rw [W_blk] | rw [W_b] | refine W_regd0 ?_)
  have k0 : Keep m (m.inn.new (.cells [u] true ⟨1, none⟩)) [] := (Keep.new m.inn _).ofInn
  have h26 := call26 (hu.keep k0 (by simp)) hl hc hpl hi
  refine W_callA rfl ?hargs (h26) ?_
  case hargs => simp only [decide_true, decide_false, execE, unE, at_t, at_c, upd_at, upd_none, args0, push_no, get_inn, next_inn, ds_inn, get_put, next_put, ds_put, get_new, next_new, ds_new, getD_cons_zero, getD_cons_succ, getD_nil, reduceIte, Nat.reduceEqDiff, Bool.or_true, Bool.true_or, Bool.or_false, Bool.false_or, Bool.not_true, Bool.not_false, Bool.false_eq_true, beq_self_eq_true, beq_true, Bool.true_beq, beq_false, Bool.false_beq, length_cons, length_nil, Nat.zero_add, Nat.add_zero, Nat.reduceAdd, Nat.reduceLeDiff, getElem?_cons_zero, getElem?_cons_succ, Option.map_some, map_cons, map_nil, true_and, and_true, and_self] <;> rfl
  rintro v m2 ⟨jv, rv, k2, hjv⟩ hs
  have hlv := rv.lenF (n := p.length) (by simp)
  have hw : IntKind.i64.wrap ((p.length : Int) - 1) = (p.length : Int) - 1 := wrap64' (n := (p.length : Int) - 1) (by omega) (by omega)
  have hmx : maxE [.i .i64 0] (.i .i64 ((p.length : Int) - 1)) = some (.i .i64 ((p.length - 1 : Nat) : Int)) := by
    show (if IntKind.i64 = IntKind.i64 then some (AV.i .i64 (if (0 : Int) > (p.length : Int) - 1 then 0 else (p.length : Int) - 1)) else none) = _
    rw [if_pos rfl]
    by_cases h : (0 : Int) > (p.length : Int) - 1
    · rw [if_pos h, show p.length - 1 = 0 by omega]; rfl
    · rw [if_neg h, show (((p.length - 1 : Nat)) : Int) = (p.length : Int) - 1 by omega]
  repeat (first
    | ((first | refine W_op rfl rfl ?_ | (refine W_opgT rfl rfl ?hg ?_; (case hg => (simp only [upd_at, reduceIte, Nat.reduceEqDiff, Bool.not_true, Bool.not_false]; done)))); simp only [decide_true, decide_false, execE, unE, at_t, at_c, upd_at, upd_none, args0, push_no, get_inn, next_inn, ds_inn, get_put, next_put, ds_put, get_new, next_new, ds_new, getD_cons_zero, getD_cons_succ, getD_nil, reduceIte, Nat.reduceEqDiff, Bool.or_true, Bool.true_or, Bool.or_false, Bool.false_or, Bool.not_true, Bool.not_false, Bool.false_eq_true, beq_self_eq_true, beq_true, Bool.true_beq, beq_false, Bool.false_beq, length_cons, length_nil, Nat.zero_add, Nat.add_zero, Nat.reduceAdd, Nat.reduceLeDiff, getElem?_cons_zero, getElem?_cons_succ, Option.map_some, map_cons, map_nil, true_and, and_true, and_self, ↓hlv, hw, hmx, binE, isShift, intBin, Wo_some])
    | (refine W_opgF rfl rfl ?hg ?_; (case hg => (simp only [upd_at, reduceIte, Nat.reduceEqDiff, Bool.not_true, Bool.not_false]; done)))
    | rw [W_seq] | rw [W_reg] | rw [push_no] | rw [W_onil] | rw [W_skip] | rw [W_blk] | rw [W_b] | refine W_regd0 ?_)
  refine W_getRet (by repeat (first | exact hg | exact args0_un (Nat.le_of_ble_eq_true rfl) | refine upd_un ?_ rfl)) ?_
  exact ⟨hs.ds, _, rfl, rfl, (k0.trans k2 (by simp)).out⟩

end Go.Proofs.YtnbdamdcmofafaaGreatDoor
