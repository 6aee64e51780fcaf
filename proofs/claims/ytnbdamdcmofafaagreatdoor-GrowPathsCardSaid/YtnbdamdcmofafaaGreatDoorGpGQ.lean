/- The law GrowPaths at the interpreter's level. No condition. -/
import Derived.Test.YtnbdamdcmofafaaGreatDoorGpGP
namespace Go.Proofs.YtnbdamdcmofafaaGreatDoor
open Go.Vi
open AMem (get_inn next_inn ds_inn get_put next_put ds_put get_new next_new ds_new)
open List (getD_cons_zero getD_cons_succ getD_nil length_cons length_nil getElem?_cons_zero getElem?_cons_succ map_cons map_nil)
set_option linter.unusedSimpArgs false
set_option linter.unusedVariables false

theorem rev_at {p : List Nat} {t k : Nat} (h : p.reverse[t]? = some k) : t < p.length ∧ p[p.length - 1 - t]? = some k := by
  have hl := (List.getElem?_eq_some_iff.1 h).1
  rw [List.length_reverse] at hl
  rw [List.getElem?_reverse hl] at h
  exact ⟨hl, h⟩

theorem q_zero {up : List Int} {p : List Nat} (hc : G.Chain up p) {k : Nat} (h : p.reverse[0]? = some k) : up[k]? = some (-1) := by
  obtain ⟨hl, h1⟩ := rev_at h
  have := G.chain_at hc _ _ h1
  rw [show p.length - 1 - 0 + 1 = p.length by omega, List.getElem?_eq_none (Nat.le_refl _)] at this
  exact this

theorem q_succ {up : List Int} {p : List Nat} (hc : G.Chain up p) {t k k' : Nat} (h : p.reverse[t]? = some k) (h' : p.reverse[t + 1]? = some k') : up[k']? = some (k : Int) := by
  obtain ⟨hl, h1⟩ := rev_at h
  obtain ⟨hl', h2⟩ := rev_at h'
  have := G.chain_at hc _ _ h2
  rw [show p.length - 1 - (t + 1) + 1 = p.length - 1 - t by omega, h1] at this
  exact this

theorem decide_take (K : List Nat) (k s x : Nat) (hx : K[s]? = some x) : decide (k ∈ K.take (s + 1)) = (decide (k ∈ K.take s) || decide (x = k)) := by
  rw [List.take_add_one, hx]
  simp only [Option.toList_some, List.mem_append, List.mem_singleton]
  by_cases h1 : k ∈ K.take s
  · simp [h1]
  · by_cases h2 : x = k
    · simp [h2]
    · simp [h1, h2, show ¬ k = x from fun e => h2 e.symm]

set_option maxHeartbeats 4000000 in
theorem law7 {m : AMem} {av : AV} {l : List (List AV)} {ks : List (Int × Int)} {i : Int} (hS : Sts m av l) (hks : Sorts l ks) (hl : (l.length : Int) ≤ 9223372036854775807) : Vi.Call T 7 [av, .i .i64 i] m (fun v _ => v = .b true) := by
  have hlen := hS.lenF
  obtain ⟨st, hGI⟩ := ups_gi ks
  have hul := ups_len ks
  refine Vi.Call.ofP T7 (Nat.le_of_ble_eq_true rfl) ?_
  unfold v7
  repeat (first
    | ((first | refine W_op rfl rfl ?_ | (refine W_opgT rfl rfl ?hg ?_; (case hg => (simp only [upd_at, reduceIte, Nat.reduceEqDiff, Bool.not_true, Bool.not_false]; done)))); simp only [decide_true, decide_false, execE, unE, at_t, at_c, upd_at, upd_none, args0, push_no, get_inn, next_inn, ds_inn, get_put, next_put, ds_put, get_new, next_new, ds_new, getD_cons_zero, getD_cons_succ, getD_nil, reduceIte, Nat.reduceEqDiff, Bool.or_true, Bool.true_or, Bool.or_false, Bool.false_or, Bool.not_true, Bool.not_false, Bool.false_eq_true, beq_self_eq_true, beq_true, Bool.true_beq, beq_false, Bool.false_beq, length_cons, length_nil, Nat.zero_add, Nat.add_zero, Nat.reduceAdd, Nat.reduceLeDiff, getElem?_cons_zero, getElem?_cons_succ, Option.map_some, map_cons, map_nil, true_and, and_true, and_self, Wo_some])
    | (refine W_opgF rfl rfl ?hg ?_; (case hg => (simp only [upd_at, reduceIte, Nat.reduceEqDiff, Bool.not_true, Bool.not_false]; done)))
    | rw [W_seq] | rw [W_reg] | rw [push_no] | rw [W_onil] | rw [W_skip] | rw [W_blk] | rw [W_b] | refine W_regd0 ?_)
  refine W_callA rfl ?hargs (callAnc (f := 21) rfl _) ?_
  case hargs => simp only [decide_true, decide_false, execE, unE, at_t, at_c, upd_at, upd_none, args0, push_no, get_inn, next_inn, ds_inn, get_put, next_put, ds_put, get_new, next_new, ds_new, getD_cons_zero, getD_cons_succ, getD_nil, reduceIte, Nat.reduceEqDiff, Bool.or_true, Bool.true_or, Bool.or_false, Bool.false_or, Bool.not_true, Bool.not_false, Bool.false_eq_true, beq_self_eq_true, beq_true, Bool.true_beq, beq_false, Bool.false_beq, length_cons, length_nil, Nat.zero_add, Nat.add_zero, Nat.reduceAdd, Nat.reduceLeDiff, getElem?_cons_zero, getElem?_cons_succ, Option.map_some, map_cons, map_nil, true_and, and_true, and_self] <;> rfl
  rintro v m0 ⟨rfl, rfl⟩ hs
  repeat (first
    | ((first | refine W_op rfl rfl ?_ | (refine W_opgT rfl rfl ?hg ?_; (case hg => (simp only [upd_at, reduceIte, Nat.reduceEqDiff, Bool.not_true, Bool.not_false]; done)))); simp only [decide_true, decide_false, execE, unE, at_t, at_c, upd_at, upd_none, args0, push_no, get_inn, next_inn, ds_inn, get_put, next_put, ds_put, get_new, next_new, ds_new, getD_cons_zero, getD_cons_succ, getD_nil, reduceIte, Nat.reduceEqDiff, Bool.or_true, Bool.true_or, Bool.or_false, Bool.false_or, Bool.not_true, Bool.not_false, Bool.false_eq_true, beq_self_eq_true, beq_true, Bool.true_beq, beq_false, Bool.false_beq, length_cons, length_nil, Nat.zero_add, Nat.add_zero, Nat.reduceAdd, Nat.reduceLeDiff, getElem?_cons_zero, getElem?_cons_succ, Option.map_some, map_cons, map_nil, true_and, and_true, and_self, Wo_some])
    | (refine W_opgF rfl rfl ?hg ?_; (case hg => (simp only [upd_at, reduceIte, Nat.reduceEqDiff, Bool.not_true, Bool.not_false]; done)))
    | rw [W_seq] | rw [W_reg] | rw [push_no] | rw [W_onil] | rw [W_skip] | rw [W_blk] | rw [W_b] | refine W_regd0 ?_)
  refine W_cond ?_
  simp only [decide_true, decide_false, execE, unE, at_t, at_c, upd_at, upd_none, args0, push_no, get_inn, next_inn, ds_inn, get_put, next_put, ds_put, get_new, next_new, ds_new, getD_cons_zero, getD_cons_succ, getD_nil, reduceIte, Nat.reduceEqDiff, Bool.or_true, Bool.true_or, Bool.or_false, Bool.false_or, Bool.not_true, Bool.not_false, Bool.false_eq_true, beq_self_eq_true, beq_true, Bool.true_beq, beq_false, Bool.false_beq, length_cons, length_nil, Nat.zero_add, Nat.add_zero, Nat.reduceAdd, Nat.reduceLeDiff, getElem?_cons_zero, getElem?_cons_succ, Option.map_some, map_cons, map_nil, true_and, and_true, and_self, WC]
  repeat (first
    | ((first | refine W_op rfl rfl ?_ | (refine W_opgT rfl rfl ?hg ?_; (case hg => (simp only [upd_at, reduceIte, Nat.reduceEqDiff, Bool.not_true, Bool.not_false]; done)))); simp only [decide_true, decide_false, execE, unE, at_t, at_c, upd_at, upd_none, args0, push_no, get_inn, next_inn, ds_inn, get_put, next_put, ds_put, get_new, next_new, ds_new, getD_cons_zero, getD_cons_succ, getD_nil, reduceIte, Nat.reduceEqDiff, Bool.or_true, Bool.true_or, Bool.or_false, Bool.false_or, Bool.not_true, Bool.not_false, Bool.false_eq_true, beq_self_eq_true, beq_true, Bool.true_beq, beq_false, Bool.false_beq, length_cons, length_nil, Nat.zero_add, Nat.add_zero, Nat.reduceAdd, Nat.reduceLeDiff, getElem?_cons_zero, getElem?_cons_succ, Option.map_some, map_cons, map_nil, true_and, and_true, and_self, ↓hlen, binE, isShift, intBin, Wo_some])
    | (refine W_opgF rfl rfl ?hg ?_; (case hg => (simp only [upd_at, reduceIte, Nat.reduceEqDiff, Bool.not_true, Bool.not_false]; done)))
    | rw [W_seq] | rw [W_reg] | rw [push_no] | rw [W_onil] | rw [W_skip] | rw [W_blk] | rw [W_b] | refine W_regd0 ?_)
  refine W_cond ?_
  simp only [decide_true, decide_false, execE, unE, at_t, at_c, upd_at, upd_none, args0, push_no, get_inn, next_inn, ds_inn, get_put, next_put, ds_put, get_new, next_new, ds_new, getD_cons_zero, getD_cons_succ, getD_nil, reduceIte, Nat.reduceEqDiff, Bool.or_true, Bool.true_or, Bool.or_false, Bool.false_or, Bool.not_true, Bool.not_false, Bool.false_eq_true, beq_self_eq_true, beq_true, Bool.true_beq, beq_false, Bool.false_beq, length_cons, length_nil, Nat.zero_add, Nat.add_zero, Nat.reduceAdd, Nat.reduceLeDiff, getElem?_cons_zero, getElem?_cons_succ, Option.map_some, map_cons, map_nil, true_and, and_true, and_self]
  refine WC_split (fun ht => ?_) (fun hf => ?_)
  · skip
    repeat (first
      | ((first | refine W_op rfl rfl ?_ | (refine W_opgT rfl rfl ?hg ?_; (case hg => (simp only [upd_at, reduceIte, Nat.reduceEqDiff, Bool.not_true, Bool.not_false]; done)))); simp only [decide_true, decide_false, execE, unE, at_t, at_c, upd_at, upd_none, args0, push_no, get_inn, next_inn, ds_inn, get_put, next_put, ds_put, get_new, next_new, ds_new, getD_cons_zero, getD_cons_succ, getD_nil, reduceIte, Nat.reduceEqDiff, Bool.or_true, Bool.true_or, Bool.or_false, Bool.false_or, Bool.not_true, Bool.not_false, Bool.false_eq_true, beq_self_eq_true, beq_true, Bool.true_beq, beq_false, Bool.false_beq, length_cons, length_nil, Nat.zero_add, Nat.add_zero, Nat.reduceAdd, Nat.reduceLeDiff, getElem?_cons_zero, getElem?_cons_succ, Option.map_some, map_cons, map_nil, true_and, and_true, and_self, Wo_some])
      | (refine W_opgF rfl rfl ?hg ?_; (case hg => (simp only [upd_at, reduceIte, Nat.reduceEqDiff, Bool.not_true, Bool.not_false]; done)))
      | rw [W_seq] | rw [W_reg] | rw [push_no] | rw [W_onil] | rw [W_skip] | rw [W_blk] | rw [W_b] | refine W_regd0 ?_)
    refine W_getRet (by repeat (first | exact hg | exact args0_un (Nat.le_of_ble_eq_true rfl) | refine upd_un ?_ rfl)) ?_
    exact ⟨rfl, _, rfl, rfl⟩
  · have hl3 : l.length ≤ 300 := by simp at hf; omega
    have hlk : ks.length = l.length := hks.1.symm
    generalize hup : G.ups ks = up at *
    have hlu : up.length = l.length := by omega
    repeat (first
      | ((first | refine W_op rfl rfl ?_ | (refine W_opgT rfl rfl ?hg ?_; (case hg => (simp only [upd_at, reduceIte, Nat.reduceEqDiff, Bool.not_true, Bool.not_false]; done)))); simp only [decide_true, decide_false, execE, unE, at_t, at_c, upd_at, upd_none, args0, push_no, get_inn, next_inn, ds_inn, get_put, next_put, ds_put, get_new, next_new, ds_new, getD_cons_zero, getD_cons_succ, getD_nil, reduceIte, Nat.reduceEqDiff, Bool.or_true, Bool.true_or, Bool.or_false, Bool.false_or, Bool.not_true, Bool.not_false, Bool.false_eq_true, beq_self_eq_true, beq_true, Bool.true_beq, beq_false, Bool.false_beq, length_cons, length_nil, Nat.zero_add, Nat.add_zero, Nat.reduceAdd, Nat.reduceLeDiff, getElem?_cons_zero, getElem?_cons_succ, Option.map_some, map_cons, map_nil, true_and, and_true, and_self, Wo_some])
      | (refine W_opgF rfl rfl ?hg ?_; (case hg => (simp only [upd_at, reduceIte, Nat.reduceEqDiff, Bool.not_true, Bool.not_false]; done)))
      | rw [W_seq] | rw [W_reg] | rw [push_no] | rw [W_onil] | rw [W_skip] | rw [W_blk] | rw [W_b] | refine W_regd0 ?_)
    obtain ⟨mA, hmA, a1, a2⟩ : ∃ mA : AMem, mA = (m.inn).out m.inn ∧ Keep m mA [] ∧ mA.ds = [] := ⟨_, rfl, (Keep.inn m).out, rfl⟩
    rw [← hmA]
    clear hmA
    have h22 := call22 (hS.keep a1 (by simp)) hks (by omega)
    rw [hup] at h22
    refine W_callA rfl ?hargs (h22) ?_
    case hargs => simp only [decide_true, decide_false, execE, unE, at_t, at_c, upd_at, upd_none, args0, push_no, get_inn, next_inn, ds_inn, get_put, next_put, ds_put, get_new, next_new, ds_new, getD_cons_zero, getD_cons_succ, getD_nil, reduceIte, Nat.reduceEqDiff, Bool.or_true, Bool.true_or, Bool.or_false, Bool.false_or, Bool.not_true, Bool.not_false, Bool.false_eq_true, beq_self_eq_true, beq_true, Bool.true_beq, beq_false, Bool.false_beq, length_cons, length_nil, Nat.zero_add, Nat.add_zero, Nat.reduceAdd, Nat.reduceLeDiff, getElem?_cons_zero, getElem?_cons_succ, Option.map_some, map_cons, map_nil, true_and, and_true, and_self] <;> rfl
    rintro v m2 ⟨u, ju, rfl, ru, k2, hju⟩ hs2
    repeat (first
      | ((first | refine W_op rfl rfl ?_ | (refine W_opgT rfl rfl ?hg ?_; (case hg => (simp only [upd_at, reduceIte, Nat.reduceEqDiff, Bool.not_true, Bool.not_false]; done)))); simp only [decide_true, decide_false, execE, unE, at_t, at_c, upd_at, upd_none, args0, push_no, get_inn, next_inn, ds_inn, get_put, next_put, ds_put, get_new, next_new, ds_new, getD_cons_zero, getD_cons_succ, getD_nil, reduceIte, Nat.reduceEqDiff, Bool.or_true, Bool.true_or, Bool.or_false, Bool.false_or, Bool.not_true, Bool.not_false, Bool.false_eq_true, beq_self_eq_true, beq_true, Bool.true_beq, beq_false, Bool.false_beq, length_cons, length_nil, Nat.zero_add, Nat.add_zero, Nat.reduceAdd, Nat.reduceLeDiff, getElem?_cons_zero, getElem?_cons_succ, Option.map_some, map_cons, map_nil, true_and, and_true, and_self, cells_agg, ru.one, splice, List.take_zero, List.nil_append, List.drop_succ_cons, List.drop_nil, List.drop_zero, List.append_nil, List.length_cons, List.length_nil, List.all_cons, List.all_nil, Bool.and_self, Nat.le_refl, rd, List.take_succ_cons, Wo_some])
      | (refine W_opgF rfl rfl ?hg ?_; (case hg => (simp only [upd_at, reduceIte, Nat.reduceEqDiff, Bool.not_true, Bool.not_false]; done)))
      | rw [W_seq] | rw [W_reg] | rw [push_no] | rw [W_onil] | rw [W_skip] | rw [W_blk] | rw [W_b] | refine W_regd0 ?_)
    obtain ⟨mX, hmX, x1, x2, x3, x4⟩ : ∃ mX : AMem, mX = ((m2.new (.cells [.sl none 0 0 true] true ⟨1, some 66⟩)).put m2.next (some (.cells [u] true ⟨1, some 66⟩))) ∧ mX.next = m2.next + 1 ∧ mX.get m2.next = some (.cells [u] true ⟨1, some 66⟩) ∧ Keep m2 mX [] ∧ mX.ds = [] :=
      ⟨_, rfl, rfl, by rw [AMem.get_put, if_pos rfl], (Keep.new m2 _).trans (Keep.put _ _ _) (by simp), hs2.ds.trans a2⟩
    rw [← hmX]
    clear hmX
    have ruX := ru.keep x3 (by simp)
    obtain ⟨p, hpi, hch⟩ : ∃ p : List Nat, ((p = [] ∧ (i < 0 ∨ (up.length : Int) ≤ i)) ∨ (p ≠ [] ∧ i = hd p)) ∧ G.Chain up p := by
      by_cases hin : 0 ≤ i ∧ i < up.length
      · obtain ⟨tl, htl⟩ := G.path_ex hGI.rng i.toNat i.toNat (Nat.le_refl _) (by omega)
        exact ⟨i.toNat :: tl, .inr ⟨by simp, by simp only [hd]; omega⟩, htl⟩
      · exact ⟨[], .inl ⟨rfl, by omega⟩, trivial⟩
    have hpl : p.length ≤ 600 := by
      have := st_len (chain_pw hGI.rng hch) (G.chain_lt hch)
      omega
    refine W_callA rfl ?hargs (call26 (i := i) ruX (by omega) hch hpl hpi) ?_
    case hargs => simp only [decide_true, decide_false, execE, unE, at_t, at_c, upd_at, upd_none, args0, push_no, get_inn, next_inn, ds_inn, get_put, next_put, ds_put, get_new, next_new, ds_new, getD_cons_zero, getD_cons_succ, getD_nil, reduceIte, Nat.reduceEqDiff, Bool.or_true, Bool.true_or, Bool.or_false, Bool.false_or, Bool.not_true, Bool.not_false, Bool.false_eq_true, beq_self_eq_true, beq_true, Bool.true_beq, beq_false, Bool.false_beq, length_cons, length_nil, Nat.zero_add, Nat.add_zero, Nat.reduceAdd, Nat.reduceLeDiff, getElem?_cons_zero, getElem?_cons_succ, Option.map_some, map_cons, map_nil, true_and, and_true, and_self] <;> rfl
    rintro vq mQ ⟨jq, rq, kq, hjq⟩ hsq
    have hlq := rq.lenF (n := p.length) (by simp)
    have ruQ := ruX.keep kq (by simp)
    have eQ := kq.at (by omega) (by simp) x2
    have dQ : mQ.ds = [] := hsq.ds.trans x4
    have hnQ := kq.next
    have h27 := call27 (i := i) ruQ (by omega) hch hpl hpi
    rcases hpi with ⟨rfl, hout⟩ | ⟨hne, hip⟩
    · have hz : (((0 : Nat) : Int) == 0) = true := by decide
      cases hA : decide (i < 0)
      · have hB : decide (i ≥ (l.length : Int)) = true := by simp at hA ⊢; omega
        repeat (first
          | ((first | refine W_op rfl rfl ?_ | (refine W_opgT rfl rfl ?hg ?_; (case hg => (simp only [upd_at, reduceIte, Nat.reduceEqDiff, Bool.not_true, Bool.not_false]; done)))); simp only [decide_true, decide_false, execE, unE, at_t, at_c, upd_at, upd_none, args0, push_no, get_inn, next_inn, ds_inn, get_put, next_put, ds_put, get_new, next_new, ds_new, getD_cons_zero, getD_cons_succ, getD_nil, reduceIte, Nat.reduceEqDiff, Bool.or_true, Bool.true_or, Bool.or_false, Bool.false_or, Bool.not_true, Bool.not_false, Bool.false_eq_true, beq_self_eq_true, beq_true, Bool.true_beq, beq_false, Bool.false_beq, length_cons, length_nil, Nat.zero_add, Nat.add_zero, Nat.reduceAdd, Nat.reduceLeDiff, getElem?_cons_zero, getElem?_cons_succ, Option.map_some, map_cons, map_nil, true_and, and_true, and_self, ↓hlen, hA, hB, binE, isShift, intBin, Wo_some])
          | (refine W_opgF rfl rfl ?hg ?_; (case hg => (simp only [upd_at, reduceIte, Nat.reduceEqDiff, Bool.not_true, Bool.not_false]; done)))
          | rw [W_seq] | rw [W_reg] | rw [push_no] | rw [W_onil] | rw [W_skip] | rw [W_blk] | rw [W_b] | refine W_regd0 ?_)
        refine W_cond ?_
        simp only [decide_true, decide_false, execE, unE, at_t, at_c, upd_at, upd_none, args0, push_no, get_inn, next_inn, ds_inn, get_put, next_put, ds_put, get_new, next_new, ds_new, getD_cons_zero, getD_cons_succ, getD_nil, reduceIte, Nat.reduceEqDiff, Bool.or_true, Bool.true_or, Bool.or_false, Bool.false_or, Bool.not_true, Bool.not_false, Bool.false_eq_true, beq_self_eq_true, beq_true, Bool.true_beq, beq_false, Bool.false_beq, length_cons, length_nil, Nat.zero_add, Nat.add_zero, Nat.reduceAdd, Nat.reduceLeDiff, getElem?_cons_zero, getElem?_cons_succ, Option.map_some, map_cons, map_nil, true_and, and_true, and_self, WC]
        repeat (first
          | ((first | refine W_op rfl rfl ?_ | (refine W_opgT rfl rfl ?hg ?_; (case hg => (simp only [upd_at, reduceIte, Nat.reduceEqDiff, Bool.not_true, Bool.not_false]; done)))); simp only [decide_true, decide_false, execE, unE, at_t, at_c, upd_at, upd_none, args0, push_no, get_inn, next_inn, ds_inn, get_put, next_put, ds_put, get_new, next_new, ds_new, getD_cons_zero, getD_cons_succ, getD_nil, reduceIte, Nat.reduceEqDiff, Bool.or_true, Bool.true_or, Bool.or_false, Bool.false_or, Bool.not_true, Bool.not_false, Bool.false_eq_true, beq_self_eq_true, beq_true, Bool.true_beq, beq_false, Bool.false_beq, length_cons, length_nil, Nat.zero_add, Nat.add_zero, Nat.reduceAdd, Nat.reduceLeDiff, getElem?_cons_zero, getElem?_cons_succ, Option.map_some, map_cons, map_nil, true_and, and_true, and_self, ↓hlq, hz, eQ, rd, List.length_cons, List.length_nil, List.take_succ_cons, List.take_zero, List.drop_zero, binE, isShift, intBin, Wo_some])
          | (refine W_opgF rfl rfl ?hg ?_; (case hg => (simp only [upd_at, reduceIte, Nat.reduceEqDiff, Bool.not_true, Bool.not_false]; done)))
          | rw [W_seq] | rw [W_reg] | rw [push_no] | rw [W_onil] | rw [W_skip] | rw [W_blk] | rw [W_b] | refine W_regd0 ?_)
        refine W_callG rfl ?hg ?hargs (fun _ => h27) ?_ (fun hne => absurd rfl hne)
        case hg => (simp only [decide_true, decide_false, execE, unE, at_t, at_c, upd_at, upd_none, args0, push_no, get_inn, next_inn, ds_inn, get_put, next_put, ds_put, get_new, next_new, ds_new, getD_cons_zero, getD_cons_succ, getD_nil, reduceIte, Nat.reduceEqDiff, Bool.or_true, Bool.true_or, Bool.or_false, Bool.false_or, Bool.not_true, Bool.not_false, Bool.false_eq_true, beq_self_eq_true, beq_true, Bool.true_beq, beq_false, Bool.false_beq, length_cons, length_nil, Nat.zero_add, Nat.add_zero, Nat.reduceAdd, Nat.reduceLeDiff, getElem?_cons_zero, getElem?_cons_succ, Option.map_some, map_cons, map_nil, true_and, and_true, and_self]; done)
        case hargs => simp only [decide_true, decide_false, execE, unE, at_t, at_c, upd_at, upd_none, args0, push_no, get_inn, next_inn, ds_inn, get_put, next_put, ds_put, get_new, next_new, ds_new, getD_cons_zero, getD_cons_succ, getD_nil, reduceIte, Nat.reduceEqDiff, Bool.or_true, Bool.true_or, Bool.or_false, Bool.false_or, Bool.not_true, Bool.not_false, Bool.false_eq_true, beq_self_eq_true, beq_true, Bool.true_beq, beq_false, Bool.false_beq, length_cons, length_nil, Nat.zero_add, Nat.add_zero, Nat.reduceAdd, Nat.reduceLeDiff, getElem?_cons_zero, getElem?_cons_succ, Option.map_some, map_cons, map_nil, true_and, and_true, and_self] <;> rfl
        rintro v4 m4 _ ⟨rfl, k4⟩ hs4
        repeat (first
          | ((first | refine W_op rfl rfl ?_ | (refine W_opgT rfl rfl ?hg ?_; (case hg => (simp only [upd_at, reduceIte, Nat.reduceEqDiff, Bool.not_true, Bool.not_false]; done)))); simp only [decide_true, decide_false, execE, unE, at_t, at_c, upd_at, upd_none, args0, push_no, get_inn, next_inn, ds_inn, get_put, next_put, ds_put, get_new, next_new, ds_new, getD_cons_zero, getD_cons_succ, getD_nil, reduceIte, Nat.reduceEqDiff, Bool.or_true, Bool.true_or, Bool.or_false, Bool.false_or, Bool.not_true, Bool.not_false, Bool.false_eq_true, beq_self_eq_true, beq_true, Bool.true_beq, beq_false, Bool.false_beq, length_cons, length_nil, Nat.zero_add, Nat.add_zero, Nat.reduceAdd, Nat.reduceLeDiff, getElem?_cons_zero, getElem?_cons_succ, Option.map_some, map_cons, map_nil, true_and, and_true, and_self, hz, List.length_nil, Nat.zero_sub, binE, isShift, intBin, Wo_some])
          | (refine W_opgF rfl rfl ?hg ?_; (case hg => (simp only [upd_at, reduceIte, Nat.reduceEqDiff, Bool.not_true, Bool.not_false]; done)))
          | rw [W_seq] | rw [W_reg] | rw [push_no] | rw [W_onil] | rw [W_skip] | rw [W_blk] | rw [W_b] | refine W_regd0 ?_)
        refine W_getRet (by repeat (first | exact hg | exact args0_un (Nat.le_of_ble_eq_true rfl) | refine upd_un ?_ rfl)) ?_
        exact ⟨hs4.ds.trans dQ, _, rfl, rfl⟩
      · skip
        repeat (first
          | ((first | refine W_op rfl rfl ?_ | (refine W_opgT rfl rfl ?hg ?_; (case hg => (simp only [upd_at, reduceIte, Nat.reduceEqDiff, Bool.not_true, Bool.not_false]; done)))); simp only [decide_true, decide_false, execE, unE, at_t, at_c, upd_at, upd_none, args0, push_no, get_inn, next_inn, ds_inn, get_put, next_put, ds_put, get_new, next_new, ds_new, getD_cons_zero, getD_cons_succ, getD_nil, reduceIte, Nat.reduceEqDiff, Bool.or_true, Bool.true_or, Bool.or_false, Bool.false_or, Bool.not_true, Bool.not_false, Bool.false_eq_true, beq_self_eq_true, beq_true, Bool.true_beq, beq_false, Bool.false_beq, length_cons, length_nil, Nat.zero_add, Nat.add_zero, Nat.reduceAdd, Nat.reduceLeDiff, getElem?_cons_zero, getElem?_cons_succ, Option.map_some, map_cons, map_nil, true_and, and_true, and_self, ↓hlen, hA, binE, isShift, intBin, Wo_some])
          | (refine W_opgF rfl rfl ?hg ?_; (case hg => (simp only [upd_at, reduceIte, Nat.reduceEqDiff, Bool.not_true, Bool.not_false]; done)))
          | rw [W_seq] | rw [W_reg] | rw [push_no] | rw [W_onil] | rw [W_skip] | rw [W_blk] | rw [W_b] | refine W_regd0 ?_)
        refine W_cond ?_
        simp only [decide_true, decide_false, execE, unE, at_t, at_c, upd_at, upd_none, args0, push_no, get_inn, next_inn, ds_inn, get_put, next_put, ds_put, get_new, next_new, ds_new, getD_cons_zero, getD_cons_succ, getD_nil, reduceIte, Nat.reduceEqDiff, Bool.or_true, Bool.true_or, Bool.or_false, Bool.false_or, Bool.not_true, Bool.not_false, Bool.false_eq_true, beq_self_eq_true, beq_true, Bool.true_beq, beq_false, Bool.false_beq, length_cons, length_nil, Nat.zero_add, Nat.add_zero, Nat.reduceAdd, Nat.reduceLeDiff, getElem?_cons_zero, getElem?_cons_succ, Option.map_some, map_cons, map_nil, true_and, and_true, and_self, WC]
        repeat (first
          | ((first | refine W_op rfl rfl ?_ | (refine W_opgT rfl rfl ?hg ?_; (case hg => (simp only [upd_at, reduceIte, Nat.reduceEqDiff, Bool.not_true, Bool.not_false]; done)))); simp only [decide_true, decide_false, execE, unE, at_t, at_c, upd_at, upd_none, args0, push_no, get_inn, next_inn, ds_inn, get_put, next_put, ds_put, get_new, next_new, ds_new, getD_cons_zero, getD_cons_succ, getD_nil, reduceIte, Nat.reduceEqDiff, Bool.or_true, Bool.true_or, Bool.or_false, Bool.false_or, Bool.not_true, Bool.not_false, Bool.false_eq_true, beq_self_eq_true, beq_true, Bool.true_beq, beq_false, Bool.false_beq, length_cons, length_nil, Nat.zero_add, Nat.add_zero, Nat.reduceAdd, Nat.reduceLeDiff, getElem?_cons_zero, getElem?_cons_succ, Option.map_some, map_cons, map_nil, true_and, and_true, and_self, ↓hlq, hz, eQ, rd, List.length_cons, List.length_nil, List.take_succ_cons, List.take_zero, List.drop_zero, binE, isShift, intBin, Wo_some])
          | (refine W_opgF rfl rfl ?hg ?_; (case hg => (simp only [upd_at, reduceIte, Nat.reduceEqDiff, Bool.not_true, Bool.not_false]; done)))
          | rw [W_seq] | rw [W_reg] | rw [push_no] | rw [W_onil] | rw [W_skip] | rw [W_blk] | rw [W_b] | refine W_regd0 ?_)
        refine W_callG rfl ?hg ?hargs (fun _ => h27) ?_ (fun hne => absurd rfl hne)
        case hg => (simp only [decide_true, decide_false, execE, unE, at_t, at_c, upd_at, upd_none, args0, push_no, get_inn, next_inn, ds_inn, get_put, next_put, ds_put, get_new, next_new, ds_new, getD_cons_zero, getD_cons_succ, getD_nil, reduceIte, Nat.reduceEqDiff, Bool.or_true, Bool.true_or, Bool.or_false, Bool.false_or, Bool.not_true, Bool.not_false, Bool.false_eq_true, beq_self_eq_true, beq_true, Bool.true_beq, beq_false, Bool.false_beq, length_cons, length_nil, Nat.zero_add, Nat.add_zero, Nat.reduceAdd, Nat.reduceLeDiff, getElem?_cons_zero, getElem?_cons_succ, Option.map_some, map_cons, map_nil, true_and, and_true, and_self]; done)
        case hargs => simp only [decide_true, decide_false, execE, unE, at_t, at_c, upd_at, upd_none, args0, push_no, get_inn, next_inn, ds_inn, get_put, next_put, ds_put, get_new, next_new, ds_new, getD_cons_zero, getD_cons_succ, getD_nil, reduceIte, Nat.reduceEqDiff, Bool.or_true, Bool.true_or, Bool.or_false, Bool.false_or, Bool.not_true, Bool.not_false, Bool.false_eq_true, beq_self_eq_true, beq_true, Bool.true_beq, beq_false, Bool.false_beq, length_cons, length_nil, Nat.zero_add, Nat.add_zero, Nat.reduceAdd, Nat.reduceLeDiff, getElem?_cons_zero, getElem?_cons_succ, Option.map_some, map_cons, map_nil, true_and, and_true, and_self] <;> rfl
        rintro v4 m4 _ ⟨rfl, k4⟩ hs4
        repeat (first
          | ((first | refine W_op rfl rfl ?_ | (refine W_opgT rfl rfl ?hg ?_; (case hg => (simp only [upd_at, reduceIte, Nat.reduceEqDiff, Bool.not_true, Bool.not_false]; done)))); simp only [decide_true, decide_false, execE, unE, at_t, at_c, upd_at, upd_none, args0, push_no, get_inn, next_inn, ds_inn, get_put, next_put, ds_put, get_new, next_new, ds_new, getD_cons_zero, getD_cons_succ, getD_nil, reduceIte, Nat.reduceEqDiff, Bool.or_true, Bool.true_or, Bool.or_false, Bool.false_or, Bool.not_true, Bool.not_false, Bool.false_eq_true, beq_self_eq_true, beq_true, Bool.true_beq, beq_false, Bool.false_beq, length_cons, length_nil, Nat.zero_add, Nat.add_zero, Nat.reduceAdd, Nat.reduceLeDiff, getElem?_cons_zero, getElem?_cons_succ, Option.map_some, map_cons, map_nil, true_and, and_true, and_self, hz, List.length_nil, Nat.zero_sub, binE, isShift, intBin, Wo_some])
          | (refine W_opgF rfl rfl ?hg ?_; (case hg => (simp only [upd_at, reduceIte, Nat.reduceEqDiff, Bool.not_true, Bool.not_false]; done)))
          | rw [W_seq] | rw [W_reg] | rw [push_no] | rw [W_onil] | rw [W_skip] | rw [W_blk] | rw [W_b] | refine W_regd0 ?_)
        refine W_getRet (by repeat (first | exact hg | exact args0_un (Nat.le_of_ble_eq_true rfl) | refine upd_un ?_ rfl)) ?_
        exact ⟨hs4.ds.trans dQ, _, rfl, rfl⟩
    · obtain ⟨a, tl, rfl⟩ : ∃ a tl, p = a :: tl := by
        cases p with
        | nil => exact absurd rfl hne
        | cons a tl => exact ⟨a, tl, rfl⟩
      have hia : i = (a : Int) := hip
      have hal : a < up.length := G.chain_lt hch a (by simp)
      have hA : decide (i < 0) = false := by simp; omega
      have hB : decide (i ≥ (l.length : Int)) = false := by simp; omega
      repeat (first
        | ((first | refine W_op rfl rfl ?_ | (refine W_opgT rfl rfl ?hg ?_; (case hg => (simp only [upd_at, reduceIte, Nat.reduceEqDiff, Bool.not_true, Bool.not_false]; done)))); simp only [decide_true, decide_false, execE, unE, at_t, at_c, upd_at, upd_none, args0, push_no, get_inn, next_inn, ds_inn, get_put, next_put, ds_put, get_new, next_new, ds_new, getD_cons_zero, getD_cons_succ, getD_nil, reduceIte, Nat.reduceEqDiff, Bool.or_true, Bool.true_or, Bool.or_false, Bool.false_or, Bool.not_true, Bool.not_false, Bool.false_eq_true, beq_self_eq_true, beq_true, Bool.true_beq, beq_false, Bool.false_beq, length_cons, length_nil, Nat.zero_add, Nat.add_zero, Nat.reduceAdd, Nat.reduceLeDiff, getElem?_cons_zero, getElem?_cons_succ, Option.map_some, map_cons, map_nil, true_and, and_true, and_self, ↓hlen, hA, hB, binE, isShift, intBin, Wo_some])
        | (refine W_opgF rfl rfl ?hg ?_; (case hg => (simp only [upd_at, reduceIte, Nat.reduceEqDiff, Bool.not_true, Bool.not_false]; done)))
        | rw [W_seq] | rw [W_reg] | rw [push_no] | rw [W_onil] | rw [W_skip] | rw [W_blk] | rw [W_b] | refine W_regd0 ?_)
      refine W_cond ?_
      simp only [decide_true, decide_false, execE, unE, at_t, at_c, upd_at, upd_none, args0, push_no, get_inn, next_inn, ds_inn, get_put, next_put, ds_put, get_new, next_new, ds_new, getD_cons_zero, getD_cons_succ, getD_nil, reduceIte, Nat.reduceEqDiff, Bool.or_true, Bool.true_or, Bool.or_false, Bool.false_or, Bool.not_true, Bool.not_false, Bool.false_eq_true, beq_self_eq_true, beq_true, Bool.true_beq, beq_false, Bool.false_beq, length_cons, length_nil, Nat.zero_add, Nat.add_zero, Nat.reduceAdd, Nat.reduceLeDiff, getElem?_cons_zero, getElem?_cons_succ, Option.map_some, map_cons, map_nil, true_and, and_true, and_self, WC]
      have hlq := rq.lenF (n := tl.length + 1) (by simp)
      have h27' : Vi.Call T 27 [.agg [u], .i .i64 i] mQ (fun v m' => v = .i .i64 (tl.length : Int) ∧ Keep mQ m' []) := by simpa using h27
      repeat (first
        | ((first | refine W_op rfl rfl ?_ | (refine W_opgT rfl rfl ?hg ?_; (case hg => (simp only [upd_at, reduceIte, Nat.reduceEqDiff, Bool.not_true, Bool.not_false]; done)))); simp only [decide_true, decide_false, execE, unE, at_t, at_c, upd_at, upd_none, args0, push_no, get_inn, next_inn, ds_inn, get_put, next_put, ds_put, get_new, next_new, ds_new, getD_cons_zero, getD_cons_succ, getD_nil, reduceIte, Nat.reduceEqDiff, Bool.or_true, Bool.true_or, Bool.or_false, Bool.false_or, Bool.not_true, Bool.not_false, Bool.false_eq_true, beq_self_eq_true, beq_true, Bool.true_beq, beq_false, Bool.false_beq, length_cons, length_nil, Nat.zero_add, Nat.add_zero, Nat.reduceAdd, Nat.reduceLeDiff, getElem?_cons_zero, getElem?_cons_succ, Option.map_some, map_cons, map_nil, true_and, and_true, and_self, ↓hlq, Wo_some])
        | (refine W_opgF rfl rfl ?hg ?_; (case hg => (simp only [upd_at, reduceIte, Nat.reduceEqDiff, Bool.not_true, Bool.not_false]; done)))
        | rw [W_seq] | rw [W_reg] | rw [push_no] | rw [W_onil] | rw [W_skip] | rw [W_blk] | rw [W_b] | refine W_regd0 ?_)
      have hq0 := fun k h => q_zero hch (k := k) h
      have hqs := fun t k k' h h' => q_succ hch (t := t) (k := k) (k' := k') h h'
      have hqe : ∀ k, (a :: tl).reverse[tl.length]? = some k → (k : Int) = i := fun k h => by
        obtain ⟨_, h1⟩ := rev_at h
        simp at h1
        omega
      have hqm : ∀ t k, (a :: tl).reverse[t]? = some k → k < up.length := fun t k h => G.chain_lt hch k (List.mem_reverse.1 (List.mem_of_getElem? h))
      have hql : (a :: tl).reverse.length = tl.length + 1 := by simp
      have htl : tl.length < 600 := by simp at hpl; omega
      clear h27
      generalize hq : (a :: tl).reverse = q at *
      refine W_loop (fun n g' m' => ∃ (t : Nat) (pv : Int), t ≤ tl.length + 1 ∧ n = tl.length + 1 - t ∧ (∀ k : Nat, q[t]? = some k → up[k]? = some pv) ∧ -1 ≤ pv ∧ pv < up.length ∧ (t = tl.length + 1 → pv = i) ∧ g' 1 = .i .i64 i ∧ g' 5 = .p (some (m2.next, 0)) ∧ g' 6 = vq ∧ g' 7 = .i .i64 pv ∧ g' 40 = vq ∧ g' 41 = .i .i64 (tl.length + 1 : Nat) ∧ g' 42 = .i .i64 t ∧ Keep mQ m' [] ∧ m'.ds = []) (tl.length + 1) ?_ ?_ ?_
      · refine ⟨0, -1, by omega, rfl, hq0, by omega, by omega, by omega, ?_, ?_, ?_, ?_, ?_, ?_, ?_, Keep.refl _ _, dQ⟩
        · skip
          simp only [upd_at, upd_none, reduceIte, Nat.reduceEqDiff, args0, getD_cons_zero, getD_cons_succ, getD_nil]
        · skip
          simp only [upd_at, upd_none, reduceIte, Nat.reduceEqDiff, args0, getD_cons_zero, getD_cons_succ, getD_nil]
        · skip
          simp only [upd_at, upd_none, reduceIte, Nat.reduceEqDiff, args0, getD_cons_zero, getD_cons_succ, getD_nil]
        · skip
          simp only [upd_at, upd_none, reduceIte, Nat.reduceEqDiff, args0, getD_cons_zero, getD_cons_succ, getD_nil]
        · skip
          simp only [upd_at, upd_none, reduceIte, Nat.reduceEqDiff, args0, getD_cons_zero, getD_cons_succ, getD_nil]
        · skip
          simp only [upd_at, upd_none, reduceIte, Nat.reduceEqDiff, args0, getD_cons_zero, getD_cons_succ, getD_nil]
        · skip
          simp only [upd_at, upd_none, reduceIte, Nat.reduceEqDiff, args0, getD_cons_zero, getD_cons_succ, getD_nil, Int.ofNat_zero]
          try rfl
      · intro i hi
        repeat (first | exact args0_un (Nat.le_of_ble_eq_true rfl) i hi | refine upd_un ?_ rfl i hi; clear i hi; intro i hi)
      · rintro n g m3 ⟨t, pv, ht, rfl, hpv, hpv1, hpv2, hpe, g1, g5, g6, g7, g40, g41, g42, k3, d3⟩ hg
        repeat (first
          | ((first | refine W_op rfl rfl ?_ | (refine W_opgT rfl rfl ?hg ?_; (case hg => (simp only [upd_at, reduceIte, Nat.reduceEqDiff, Bool.not_true, Bool.not_false]; done)))); simp only [decide_true, decide_false, execE, unE, at_t, at_c, upd_at, upd_none, args0, push_no, get_inn, next_inn, ds_inn, get_put, next_put, ds_put, get_new, next_new, ds_new, getD_cons_zero, getD_cons_succ, getD_nil, reduceIte, Nat.reduceEqDiff, Bool.or_true, Bool.true_or, Bool.or_false, Bool.false_or, Bool.not_true, Bool.not_false, Bool.false_eq_true, beq_self_eq_true, beq_true, Bool.true_beq, beq_false, Bool.false_beq, length_cons, length_nil, Nat.zero_add, Nat.add_zero, Nat.reduceAdd, Nat.reduceLeDiff, getElem?_cons_zero, getElem?_cons_succ, Option.map_some, map_cons, map_nil, true_and, and_true, and_self, g41, g42, binE, isShift, intBin, Wo_some])
          | (refine W_opgF rfl rfl ?hg ?_; (case hg => (simp only [upd_at, reduceIte, Nat.reduceEqDiff, Bool.not_true, Bool.not_false]; done)))
          | rw [W_seq] | rw [W_reg] | rw [push_no] | rw [W_onil] | rw [W_skip] | rw [W_blk] | rw [W_b] | refine W_regd0 ?_)
        refine W_cond ?_
        simp only [decide_true, decide_false, execE, unE, at_t, at_c, upd_at, upd_none, args0, push_no, get_inn, next_inn, ds_inn, get_put, next_put, ds_put, get_new, next_new, ds_new, getD_cons_zero, getD_cons_succ, getD_nil, reduceIte, Nat.reduceEqDiff, Bool.or_true, Bool.true_or, Bool.or_false, Bool.false_or, Bool.not_true, Bool.not_false, Bool.false_eq_true, beq_self_eq_true, beq_true, Bool.true_beq, beq_false, Bool.false_beq, length_cons, length_nil, Nat.zero_add, Nat.add_zero, Nat.reduceAdd, Nat.reduceLeDiff, getElem?_cons_zero, getElem?_cons_succ, Option.map_some, map_cons, map_nil, true_and, and_true, and_self]
        refine WC_split (fun htt => ?_) (fun hff => ?_)
        · have htl2 : t < tl.length + 1 := by simp at htt; omega
          obtain ⟨k, hk⟩ : ∃ k, q[t]? = some k := ⟨_, List.getElem?_eq_getElem (by omega)⟩
          have hkl := hqm t k hk
          have hku := hpv k hk
          obtain ⟨y1, c1, ex1, _, hav1, _, hg1, _, hc1, _⟩ := (rq.keep k3 (by simp)).atN (n := tl.length + 1) (i := t) (x := .i .i64 (k : Int)) (by simpa using hql) (by rw [List.getElem?_map, hk]; rfl)
          have hi1 : (0 ≤ (t : Int) ∧ (t : Int) < ((tl.length + 1 : Nat) : Int)) := ⟨by omega, by omega⟩
          have ru3 := ruQ.keep k3 (by simp)
          have e3 := k3.at (by omega) (by simp) eQ
          repeat (first
            | ((first | refine W_op rfl rfl ?_ | (refine W_opgT rfl rfl ?hg ?_; (case hg => (simp only [upd_at, reduceIte, Nat.reduceEqDiff, Bool.not_true, Bool.not_false]; done)))); simp only [decide_true, decide_false, execE, unE, at_t, at_c, upd_at, upd_none, args0, push_no, get_inn, next_inn, ds_inn, get_put, next_put, ds_put, get_new, next_new, ds_new, getD_cons_zero, getD_cons_succ, getD_nil, reduceIte, Nat.reduceEqDiff, Bool.or_true, Bool.true_or, Bool.or_false, Bool.false_or, Bool.not_true, Bool.not_false, Bool.false_eq_true, beq_self_eq_true, beq_true, Bool.true_beq, beq_false, Bool.false_beq, length_cons, length_nil, Nat.zero_add, Nat.add_zero, Nat.reduceAdd, Nat.reduceLeDiff, getElem?_cons_zero, getElem?_cons_succ, Option.map_some, map_cons, map_nil, true_and, and_true, and_self, g5, g7, g40, g42, hav1, hi1, Int.toNat_natCast, Nat.mul_one, hg1, hc1, e3, rd, List.length_cons, List.length_nil, List.take_succ_cons, List.take_zero, List.drop_zero, Nat.le_refl, Wo_some])
            | (refine W_opgF rfl rfl ?hg ?_; (case hg => (simp only [upd_at, reduceIte, Nat.reduceEqDiff, Bool.not_true, Bool.not_false]; done)))
            | rw [W_seq] | rw [W_reg] | rw [push_no] | rw [W_onil] | rw [W_skip] | rw [W_blk] | rw [W_b] | refine W_regd0 ?_)
          refine W_callA rfl ?hargs (call25 (i := pv) ru3 (by omega) (by omega) (by omega)) ?_
          case hargs => simp only [decide_true, decide_false, execE, unE, at_t, at_c, upd_at, upd_none, args0, push_no, get_inn, next_inn, ds_inn, get_put, next_put, ds_put, get_new, next_new, ds_new, getD_cons_zero, getD_cons_succ, getD_nil, reduceIte, Nat.reduceEqDiff, Bool.or_true, Bool.true_or, Bool.or_false, Bool.false_or, Bool.not_true, Bool.not_false, Bool.false_eq_true, beq_self_eq_true, beq_true, Bool.true_beq, beq_false, Bool.false_beq, length_cons, length_nil, Nat.zero_add, Nat.add_zero, Nat.reduceAdd, Nat.reduceLeDiff, getElem?_cons_zero, getElem?_cons_succ, Option.map_some, map_cons, map_nil, true_and, and_true, and_self, g7] <;> rfl
          rintro v4 m4 ⟨j4, r4, k4, hj4⟩ hs4
          have hin := G.kids_complete hGI hku
          have hkl2 : (G.kids up pv).length ≤ up.length := by rw [G.kids_count hGI hpv1]; exact List.countP_le_length
          generalize hK : G.kids up pv = K at *
          have hl4 := r4.lenF (n := K.length) (by simp)
          have ru4 := ru3.keep k4 (by simp)
          have e4 := k4.at (by have := k3.next; omega) (by simp) e3
          have d4 : m4.ds = [] := hs4.ds.trans d3
          repeat (first
            | ((first | refine W_op rfl rfl ?_ | (refine W_opgT rfl rfl ?hg ?_; (case hg => (simp only [upd_at, reduceIte, Nat.reduceEqDiff, Bool.not_true, Bool.not_false]; done)))); simp only [decide_true, decide_false, execE, unE, at_t, at_c, upd_at, upd_none, args0, push_no, get_inn, next_inn, ds_inn, get_put, next_put, ds_put, get_new, next_new, ds_new, getD_cons_zero, getD_cons_succ, getD_nil, reduceIte, Nat.reduceEqDiff, Bool.or_true, Bool.true_or, Bool.or_false, Bool.false_or, Bool.not_true, Bool.not_false, Bool.false_eq_true, beq_self_eq_true, beq_true, Bool.true_beq, beq_false, Bool.false_beq, length_cons, length_nil, Nat.zero_add, Nat.add_zero, Nat.reduceAdd, Nat.reduceLeDiff, getElem?_cons_zero, getElem?_cons_succ, Option.map_some, map_cons, map_nil, true_and, and_true, and_self, ↓hl4, Wo_some])
            | (refine W_opgF rfl rfl ?hg ?_; (case hg => (simp only [upd_at, reduceIte, Nat.reduceEqDiff, Bool.not_true, Bool.not_false]; done)))
            | rw [W_seq] | rw [W_reg] | rw [push_no] | rw [W_onil] | rw [W_skip] | rw [W_blk] | rw [W_b] | refine W_regd0 ?_)
          refine W_cutK [_, _] (fun g' m' => m' = m4 ∧ g' 1 = .i .i64 i ∧ g' 5 = .p (some (m2.next, 0)) ∧ g' 6 = vq ∧ g' 7 = .i .i64 pv ∧ g' 9 = .i .i64 k ∧ g' 10 = .b true ∧ g' 40 = vq ∧ g' 41 = .i .i64 (tl.length + 1 : Nat) ∧ g' 42 = .i .i64 t) ?_ ?_
          · refine W_loop (fun n g' m' => ∃ s : Nat, s ≤ K.length ∧ n = K.length - s ∧ m' = m4 ∧ g' 1 = .i .i64 i ∧ g' 5 = .p (some (m2.next, 0)) ∧ g' 6 = vq ∧ g' 7 = .i .i64 pv ∧ g' 9 = .i .i64 k ∧ g' 10 = .b (decide (k ∈ K.take s)) ∧ g' 40 = vq ∧ g' 41 = .i .i64 (tl.length + 1 : Nat) ∧ g' 42 = .i .i64 t ∧ g' 48 = v4 ∧ g' 49 = .i .i64 K.length ∧ g' 50 = .i .i64 s) K.length ?_ ?_ ?_
            · refine ⟨0, Nat.zero_le _, rfl, rfl, ?_, ?_, ?_, ?_, ?_, ?_, ?_, ?_, ?_, ?_, ?_, ?_⟩
              · skip
                simp only [upd_at, upd_none, reduceIte, Nat.reduceEqDiff, args0, getD_cons_zero, getD_cons_succ, getD_nil, g1]
              · skip
                simp only [upd_at, upd_none, reduceIte, Nat.reduceEqDiff, args0, getD_cons_zero, getD_cons_succ, getD_nil, g5]
              · skip
                simp only [upd_at, upd_none, reduceIte, Nat.reduceEqDiff, args0, getD_cons_zero, getD_cons_succ, getD_nil, g6]
              · skip
                simp only [upd_at, upd_none, reduceIte, Nat.reduceEqDiff, args0, getD_cons_zero, getD_cons_succ, getD_nil, g7]
              · skip
                simp only [upd_at, upd_none, reduceIte, Nat.reduceEqDiff, args0, getD_cons_zero, getD_cons_succ, getD_nil]
              · skip
                simp only [upd_at, upd_none, reduceIte, Nat.reduceEqDiff, args0, getD_cons_zero, getD_cons_succ, getD_nil]
                simp
              · skip
                simp only [upd_at, upd_none, reduceIte, Nat.reduceEqDiff, args0, getD_cons_zero, getD_cons_succ, getD_nil, g40, hav1]
              · skip
                simp only [upd_at, upd_none, reduceIte, Nat.reduceEqDiff, args0, getD_cons_zero, getD_cons_succ, getD_nil, g41]
              · skip
                simp only [upd_at, upd_none, reduceIte, Nat.reduceEqDiff, args0, getD_cons_zero, getD_cons_succ, getD_nil, g42]
              · skip
                simp only [upd_at, upd_none, reduceIte, Nat.reduceEqDiff, args0, getD_cons_zero, getD_cons_succ, getD_nil]
              · skip
                simp only [upd_at, upd_none, reduceIte, Nat.reduceEqDiff, args0, getD_cons_zero, getD_cons_succ, getD_nil]
              · skip
                simp only [upd_at, upd_none, reduceIte, Nat.reduceEqDiff, args0, getD_cons_zero, getD_cons_succ, getD_nil, Int.ofNat_zero]
                try rfl
            · intro i hi
              repeat (first | exact hg i hi | refine upd_un ?_ rfl i hi; clear i hi; intro i hi)
            · clear g1 g5 g6 g7 g40 g41 g42
              rintro n g m5 ⟨s, hs, rfl, rfl, g1, g5, g6, g7, g9, g10, g40, g41, g42, g48, g49, g50⟩ hg
              repeat (first
                | ((first | refine W_op rfl rfl ?_ | (refine W_opgT rfl rfl ?hg ?_; (case hg => (simp only [upd_at, reduceIte, Nat.reduceEqDiff, Bool.not_true, Bool.not_false]; done)))); simp only [decide_true, decide_false, execE, unE, at_t, at_c, upd_at, upd_none, args0, push_no, get_inn, next_inn, ds_inn, get_put, next_put, ds_put, get_new, next_new, ds_new, getD_cons_zero, getD_cons_succ, getD_nil, reduceIte, Nat.reduceEqDiff, Bool.or_true, Bool.true_or, Bool.or_false, Bool.false_or, Bool.not_true, Bool.not_false, Bool.false_eq_true, beq_self_eq_true, beq_true, Bool.true_beq, beq_false, Bool.false_beq, length_cons, length_nil, Nat.zero_add, Nat.add_zero, Nat.reduceAdd, Nat.reduceLeDiff, getElem?_cons_zero, getElem?_cons_succ, Option.map_some, map_cons, map_nil, true_and, and_true, and_self, g49, g50, binE, isShift, intBin, Wo_some])
                | (refine W_opgF rfl rfl ?hg ?_; (case hg => (simp only [upd_at, reduceIte, Nat.reduceEqDiff, Bool.not_true, Bool.not_false]; done)))
                | rw [W_seq] | rw [W_reg] | rw [push_no] | rw [W_onil] | rw [W_skip] | rw [W_blk] | rw [W_b] | refine W_regd0 ?_)
              refine W_cond ?_
              simp only [decide_true, decide_false, execE, unE, at_t, at_c, upd_at, upd_none, args0, push_no, get_inn, next_inn, ds_inn, get_put, next_put, ds_put, get_new, next_new, ds_new, getD_cons_zero, getD_cons_succ, getD_nil, reduceIte, Nat.reduceEqDiff, Bool.or_true, Bool.true_or, Bool.or_false, Bool.false_or, Bool.not_true, Bool.not_false, Bool.false_eq_true, beq_self_eq_true, beq_true, Bool.true_beq, beq_false, Bool.false_beq, length_cons, length_nil, Nat.zero_add, Nat.add_zero, Nat.reduceAdd, Nat.reduceLeDiff, getElem?_cons_zero, getElem?_cons_succ, Option.map_some, map_cons, map_nil, true_and, and_true, and_self]
              refine WC_split (fun hts => ?_) (fun hfs => ?_)
              · have hsl : s < K.length := by simpa using hts
                obtain ⟨x, hx⟩ : ∃ x, K[s]? = some x := ⟨_, List.getElem?_eq_getElem hsl⟩
                obtain ⟨y5, c5, ex5, _, hav5, _, hg5, _, hc5, _⟩ := r4.atN (n := K.length) (i := s) (x := .i .i64 (x : Int)) (by simp) (by rw [List.getElem?_map, hx]; rfl)
                have hi5 : (0 ≤ (s : Int) ∧ (s : Int) < (K.length : Int)) := ⟨by omega, by omega⟩
                have hw5 : IntKind.i64.wrap ((s : Int) + 1) = ((s + 1 : Nat) : Int) := (wrap64' (n := (s : Int) + 1) (by omega) (by omega)).trans (by omega)
                have hdt := decide_take K k s x hx
                have hxk : ((x : Int) == (k : Int)) = decide (x = k) := by
                  by_cases e : x = k
                  · simp [e]
                  · have : ¬ (x : Int) = (k : Int) := by omega
                    simp [e, this]
                cases hD : decide (k ∈ K.take s)
                · rw [hD] at g10 hdt
                  repeat (first
                    | ((first | refine W_op rfl rfl ?_ | (refine W_opgT rfl rfl ?hg ?_; (case hg => (simp only [upd_at, reduceIte, Nat.reduceEqDiff, Bool.not_true, Bool.not_false]; done)))); simp only [decide_true, decide_false, execE, unE, at_t, at_c, upd_at, upd_none, args0, push_no, get_inn, next_inn, ds_inn, get_put, next_put, ds_put, get_new, next_new, ds_new, getD_cons_zero, getD_cons_succ, getD_nil, reduceIte, Nat.reduceEqDiff, Bool.or_true, Bool.true_or, Bool.or_false, Bool.false_or, Bool.not_true, Bool.not_false, Bool.false_eq_true, beq_self_eq_true, beq_true, Bool.true_beq, beq_false, Bool.false_beq, length_cons, length_nil, Nat.zero_add, Nat.add_zero, Nat.reduceAdd, Nat.reduceLeDiff, getElem?_cons_zero, getElem?_cons_succ, Option.map_some, map_cons, map_nil, true_and, and_true, and_self, g9, g10, g48, g50, hav5, hi5, Int.toNat_natCast, Nat.mul_one, hg5, hc5, hw5, hxk, binE, isShift, intBin, Wo_some])
                    | (refine W_opgF rfl rfl ?hg ?_; (case hg => (simp only [upd_at, reduceIte, Nat.reduceEqDiff, Bool.not_true, Bool.not_false]; done)))
                    | rw [W_seq] | rw [W_reg] | rw [push_no] | rw [W_onil] | rw [W_skip] | rw [W_blk] | rw [W_b] | refine W_regd0 ?_)
                  refine W_j (by repeat (first | exact hg | exact args0_un (Nat.le_of_ble_eq_true rfl) | refine upd_un ?_ rfl)) ?_
                  refine ⟨K.length - (s + 1), by omega, s + 1, by omega, rfl, rfl, ?_, ?_, ?_, ?_, ?_, ?_, ?_, ?_, ?_, ?_, ?_, ?_⟩
                  · skip
                    simp only [upd_at, upd_none, reduceIte, Nat.reduceEqDiff, args0, getD_cons_zero, getD_cons_succ, getD_nil, g1]
                  · skip
                    simp only [upd_at, upd_none, reduceIte, Nat.reduceEqDiff, args0, getD_cons_zero, getD_cons_succ, getD_nil, g5]
                  · skip
                    simp only [upd_at, upd_none, reduceIte, Nat.reduceEqDiff, args0, getD_cons_zero, getD_cons_succ, getD_nil, g6]
                  · skip
                    simp only [upd_at, upd_none, reduceIte, Nat.reduceEqDiff, args0, getD_cons_zero, getD_cons_succ, getD_nil, g7]
                  · skip
                    simp only [upd_at, upd_none, reduceIte, Nat.reduceEqDiff, args0, getD_cons_zero, getD_cons_succ, getD_nil, g9]
                  · skip
                    simp only [upd_at, upd_none, reduceIte, Nat.reduceEqDiff, args0, getD_cons_zero, getD_cons_succ, getD_nil]
                    rw [hdt]
                    rfl
                  · skip
                    simp only [upd_at, upd_none, reduceIte, Nat.reduceEqDiff, args0, getD_cons_zero, getD_cons_succ, getD_nil, g40]
                  · skip
                    simp only [upd_at, upd_none, reduceIte, Nat.reduceEqDiff, args0, getD_cons_zero, getD_cons_succ, getD_nil, g41]
                  · skip
                    simp only [upd_at, upd_none, reduceIte, Nat.reduceEqDiff, args0, getD_cons_zero, getD_cons_succ, getD_nil, g42]
                  · skip
                    simp only [upd_at, upd_none, reduceIte, Nat.reduceEqDiff, args0, getD_cons_zero, getD_cons_succ, getD_nil, g48, hav5]
                  · skip
                    simp only [upd_at, upd_none, reduceIte, Nat.reduceEqDiff, args0, getD_cons_zero, getD_cons_succ, getD_nil, g49]
                  · skip
                    simp only [upd_at, upd_none, reduceIte, Nat.reduceEqDiff, args0, getD_cons_zero, getD_cons_succ, getD_nil]
                · rw [hD] at g10 hdt
                  repeat (first
                    | ((first | refine W_op rfl rfl ?_ | (refine W_opgT rfl rfl ?hg ?_; (case hg => (simp only [upd_at, reduceIte, Nat.reduceEqDiff, Bool.not_true, Bool.not_false]; done)))); simp only [decide_true, decide_false, execE, unE, at_t, at_c, upd_at, upd_none, args0, push_no, get_inn, next_inn, ds_inn, get_put, next_put, ds_put, get_new, next_new, ds_new, getD_cons_zero, getD_cons_succ, getD_nil, reduceIte, Nat.reduceEqDiff, Bool.or_true, Bool.true_or, Bool.or_false, Bool.false_or, Bool.not_true, Bool.not_false, Bool.false_eq_true, beq_self_eq_true, beq_true, Bool.true_beq, beq_false, Bool.false_beq, length_cons, length_nil, Nat.zero_add, Nat.add_zero, Nat.reduceAdd, Nat.reduceLeDiff, getElem?_cons_zero, getElem?_cons_succ, Option.map_some, map_cons, map_nil, true_and, and_true, and_self, g9, g10, g48, g50, hav5, hi5, Int.toNat_natCast, Nat.mul_one, hg5, hc5, hw5, hxk, binE, isShift, intBin, Wo_some])
                    | (refine W_opgF rfl rfl ?hg ?_; (case hg => (simp only [upd_at, reduceIte, Nat.reduceEqDiff, Bool.not_true, Bool.not_false]; done)))
                    | rw [W_seq] | rw [W_reg] | rw [push_no] | rw [W_onil] | rw [W_skip] | rw [W_blk] | rw [W_b] | refine W_regd0 ?_)
                  refine W_j (by repeat (first | exact hg | exact args0_un (Nat.le_of_ble_eq_true rfl) | refine upd_un ?_ rfl)) ?_
                  refine ⟨K.length - (s + 1), by omega, s + 1, by omega, rfl, rfl, ?_, ?_, ?_, ?_, ?_, ?_, ?_, ?_, ?_, ?_, ?_, ?_⟩
                  · skip
                    simp only [upd_at, upd_none, reduceIte, Nat.reduceEqDiff, args0, getD_cons_zero, getD_cons_succ, getD_nil, g1]
                  · skip
                    simp only [upd_at, upd_none, reduceIte, Nat.reduceEqDiff, args0, getD_cons_zero, getD_cons_succ, getD_nil, g5]
                  · skip
                    simp only [upd_at, upd_none, reduceIte, Nat.reduceEqDiff, args0, getD_cons_zero, getD_cons_succ, getD_nil, g6]
                  · skip
                    simp only [upd_at, upd_none, reduceIte, Nat.reduceEqDiff, args0, getD_cons_zero, getD_cons_succ, getD_nil, g7]
                  · skip
                    simp only [upd_at, upd_none, reduceIte, Nat.reduceEqDiff, args0, getD_cons_zero, getD_cons_succ, getD_nil, g9]
                  · skip
                    simp only [upd_at, upd_none, reduceIte, Nat.reduceEqDiff, args0, getD_cons_zero, getD_cons_succ, getD_nil]
                    rw [hdt]
                    rfl
                  · skip
                    simp only [upd_at, upd_none, reduceIte, Nat.reduceEqDiff, args0, getD_cons_zero, getD_cons_succ, getD_nil, g40]
                  · skip
                    simp only [upd_at, upd_none, reduceIte, Nat.reduceEqDiff, args0, getD_cons_zero, getD_cons_succ, getD_nil, g41]
                  · skip
                    simp only [upd_at, upd_none, reduceIte, Nat.reduceEqDiff, args0, getD_cons_zero, getD_cons_succ, getD_nil, g42]
                  · skip
                    simp only [upd_at, upd_none, reduceIte, Nat.reduceEqDiff, args0, getD_cons_zero, getD_cons_succ, getD_nil, g48, hav5]
                  · skip
                    simp only [upd_at, upd_none, reduceIte, Nat.reduceEqDiff, args0, getD_cons_zero, getD_cons_succ, getD_nil, g49]
                  · skip
                    simp only [upd_at, upd_none, reduceIte, Nat.reduceEqDiff, args0, getD_cons_zero, getD_cons_succ, getD_nil]
              · refine W_exit rfl ?_
                have hse : s = K.length := by simp at hfs; omega
                subst hse
                rw [List.take_length, decide_eq_true hin] at g10
                refine W_j (by repeat (first | exact hg | exact args0_un (Nat.le_of_ble_eq_true rfl) | refine upd_un ?_ rfl)) ?_
                refine ⟨rfl, ?_, ?_, ?_, ?_, ?_, ?_, ?_, ?_, ?_⟩
                · skip
                  simp only [upd_at, upd_none, reduceIte, Nat.reduceEqDiff, args0, getD_cons_zero, getD_cons_succ, getD_nil, g1]
                · skip
                  simp only [upd_at, upd_none, reduceIte, Nat.reduceEqDiff, args0, getD_cons_zero, getD_cons_succ, getD_nil, g5]
                · skip
                  simp only [upd_at, upd_none, reduceIte, Nat.reduceEqDiff, args0, getD_cons_zero, getD_cons_succ, getD_nil, g6]
                · skip
                  simp only [upd_at, upd_none, reduceIte, Nat.reduceEqDiff, args0, getD_cons_zero, getD_cons_succ, getD_nil, g7]
                · skip
                  simp only [upd_at, upd_none, reduceIte, Nat.reduceEqDiff, args0, getD_cons_zero, getD_cons_succ, getD_nil, g9]
                · skip
                  simp only [upd_at, upd_none, reduceIte, Nat.reduceEqDiff, args0, getD_cons_zero, getD_cons_succ, getD_nil, g10]
                · skip
                  simp only [upd_at, upd_none, reduceIte, Nat.reduceEqDiff, args0, getD_cons_zero, getD_cons_succ, getD_nil, g40]
                · skip
                  simp only [upd_at, upd_none, reduceIte, Nat.reduceEqDiff, args0, getD_cons_zero, getD_cons_succ, getD_nil, g41]
                · skip
                  simp only [upd_at, upd_none, reduceIte, Nat.reduceEqDiff, args0, getD_cons_zero, getD_cons_succ, getD_nil, g42]
          · clear g1 g5 g6 g7 g40 g41 g42
            rintro g5' m5 ⟨rfl, g1, g5, g6, g7, g9, g10, g40, g41, g42⟩ hg
            obtain ⟨y2, c2, ex2, _, hav2, _, hg2, _, hc2, _⟩ := ru4.atN (n := up.length) (i := k) (x := .i .i64 pv) (by simp) (by rw [List.getElem?_map, hku]; rfl)
            have hi2 : (0 ≤ (k : Int) ∧ (k : Int) < (up.length : Int)) := ⟨by omega, by omega⟩
            have hbb : (pv != pv) = false := by simp
            have hw2 : IntKind.i64.wrap ((t : Int) + 1) = ((t + 1 : Nat) : Int) := (wrap64' (n := (t : Int) + 1) (by omega) (by omega)).trans (by omega)
            repeat (first
              | ((first | refine W_op rfl rfl ?_ | (refine W_opgT rfl rfl ?hg ?_; (case hg => (simp only [upd_at, reduceIte, Nat.reduceEqDiff, Bool.not_true, Bool.not_false]; done)))); simp only [decide_true, decide_false, execE, unE, at_t, at_c, upd_at, upd_none, args0, push_no, get_inn, next_inn, ds_inn, get_put, next_put, ds_put, get_new, next_new, ds_new, getD_cons_zero, getD_cons_succ, getD_nil, reduceIte, Nat.reduceEqDiff, Bool.or_true, Bool.true_or, Bool.or_false, Bool.false_or, Bool.not_true, Bool.not_false, Bool.false_eq_true, beq_self_eq_true, beq_true, Bool.true_beq, beq_false, Bool.false_beq, length_cons, length_nil, Nat.zero_add, Nat.add_zero, Nat.reduceAdd, Nat.reduceLeDiff, getElem?_cons_zero, getElem?_cons_succ, Option.map_some, map_cons, map_nil, true_and, and_true, and_self, g5, g7, g9, g10, e4, hav2, hi2, Int.toNat_natCast, Nat.mul_one, hg2, hc2, hbb, binE, isShift, intBin, Wo_some])
              | (refine W_opgF rfl rfl ?hg ?_; (case hg => (simp only [upd_at, reduceIte, Nat.reduceEqDiff, Bool.not_true, Bool.not_false]; done)))
              | rw [W_seq] | rw [W_reg] | rw [push_no] | rw [W_onil] | rw [W_skip] | rw [W_blk] | rw [W_b] | refine W_regd0 ?_)
            refine W_cond ?_
            simp only [decide_true, decide_false, execE, unE, at_t, at_c, upd_at, upd_none, args0, push_no, get_inn, next_inn, ds_inn, get_put, next_put, ds_put, get_new, next_new, ds_new, getD_cons_zero, getD_cons_succ, getD_nil, reduceIte, Nat.reduceEqDiff, Bool.or_true, Bool.true_or, Bool.or_false, Bool.false_or, Bool.not_true, Bool.not_false, Bool.false_eq_true, beq_self_eq_true, beq_true, Bool.true_beq, beq_false, Bool.false_beq, length_cons, length_nil, Nat.zero_add, Nat.add_zero, Nat.reduceAdd, Nat.reduceLeDiff, getElem?_cons_zero, getElem?_cons_succ, Option.map_some, map_cons, map_nil, true_and, and_true, and_self, WC]
            repeat (first
              | ((first | refine W_op rfl rfl ?_ | (refine W_opgT rfl rfl ?hg ?_; (case hg => (simp only [upd_at, reduceIte, Nat.reduceEqDiff, Bool.not_true, Bool.not_false]; done)))); simp only [decide_true, decide_false, execE, unE, at_t, at_c, upd_at, upd_none, args0, push_no, get_inn, next_inn, ds_inn, get_put, next_put, ds_put, get_new, next_new, ds_new, getD_cons_zero, getD_cons_succ, getD_nil, reduceIte, Nat.reduceEqDiff, Bool.or_true, Bool.true_or, Bool.or_false, Bool.false_or, Bool.not_true, Bool.not_false, Bool.false_eq_true, beq_self_eq_true, beq_true, Bool.true_beq, beq_false, Bool.false_beq, length_cons, length_nil, Nat.zero_add, Nat.add_zero, Nat.reduceAdd, Nat.reduceLeDiff, getElem?_cons_zero, getElem?_cons_succ, Option.map_some, map_cons, map_nil, true_and, and_true, and_self, g9, g42, hw2, binE, isShift, intBin, Wo_some])
              | (refine W_opgF rfl rfl ?hg ?_; (case hg => (simp only [upd_at, reduceIte, Nat.reduceEqDiff, Bool.not_true, Bool.not_false]; done)))
              | rw [W_seq] | rw [W_reg] | rw [push_no] | rw [W_onil] | rw [W_skip] | rw [W_blk] | rw [W_b] | refine W_regd0 ?_)
            refine W_j (by repeat (first | exact hg | exact args0_un (Nat.le_of_ble_eq_true rfl) | refine upd_un ?_ rfl)) ?_
            refine ⟨tl.length + 1 - (t + 1), by omega, t + 1, k, by omega, rfl, fun k' hk' => hqs t k k' hk hk', by omega, by omega, fun he => hqe k (by rw [show tl.length = t by omega]; exact hk), ?_, ?_, ?_, ?_, ?_, ?_, ?_, k3.trans k4 (by simp), d4⟩
            · skip
              simp only [upd_at, upd_none, reduceIte, Nat.reduceEqDiff, args0, getD_cons_zero, getD_cons_succ, getD_nil, g1]
            · skip
              simp only [upd_at, upd_none, reduceIte, Nat.reduceEqDiff, args0, getD_cons_zero, getD_cons_succ, getD_nil, g5]
            · skip
              simp only [upd_at, upd_none, reduceIte, Nat.reduceEqDiff, args0, getD_cons_zero, getD_cons_succ, getD_nil, g6, hav1]
            · skip
              simp only [upd_at, upd_none, reduceIte, Nat.reduceEqDiff, args0, getD_cons_zero, getD_cons_succ, getD_nil]
            · skip
              simp only [upd_at, upd_none, reduceIte, Nat.reduceEqDiff, args0, getD_cons_zero, getD_cons_succ, getD_nil, g40, hav1]
            · skip
              simp only [upd_at, upd_none, reduceIte, Nat.reduceEqDiff, args0, getD_cons_zero, getD_cons_succ, getD_nil, g41]
            · skip
              simp only [upd_at, upd_none, reduceIte, Nat.reduceEqDiff, args0, getD_cons_zero, getD_cons_succ, getD_nil]
        · refine W_exit rfl ?_
          have hte : t = tl.length + 1 := by simp at hff; omega
          have hpi2 := hpe hte
          subst hpi2
          have hbb : (pv == pv) = true := by simp
          have ru3 := ruQ.keep k3 (by simp)
          have e3 := k3.at (by omega) (by simp) eQ
          have h27b := call27 (i := pv) ru3 (by omega) hch hpl (.inr ⟨hne, hip⟩)
          have h27c : Vi.Call T 27 [.agg [u], .i .i64 pv] m3 (fun v m' => v = .i .i64 (tl.length : Int) ∧ Keep m3 m' []) := by simpa using h27b
          repeat (first
            | ((first | refine W_op rfl rfl ?_ | (refine W_opgT rfl rfl ?hg ?_; (case hg => (simp only [upd_at, reduceIte, Nat.reduceEqDiff, Bool.not_true, Bool.not_false]; done)))); simp only [decide_true, decide_false, execE, unE, at_t, at_c, upd_at, upd_none, args0, push_no, get_inn, next_inn, ds_inn, get_put, next_put, ds_put, get_new, next_new, ds_new, getD_cons_zero, getD_cons_succ, getD_nil, reduceIte, Nat.reduceEqDiff, Bool.or_true, Bool.true_or, Bool.or_false, Bool.false_or, Bool.not_true, Bool.not_false, Bool.false_eq_true, beq_self_eq_true, beq_true, Bool.true_beq, beq_false, Bool.false_beq, length_cons, length_nil, Nat.zero_add, Nat.add_zero, Nat.reduceAdd, Nat.reduceLeDiff, getElem?_cons_zero, getElem?_cons_succ, Option.map_some, map_cons, map_nil, true_and, and_true, and_self, g1, g5, g7, hbb, e3, rd, List.length_cons, List.length_nil, List.take_succ_cons, List.take_zero, List.drop_zero, Nat.le_refl, binE, isShift, intBin, Wo_some])
            | (refine W_opgF rfl rfl ?hg ?_; (case hg => (simp only [upd_at, reduceIte, Nat.reduceEqDiff, Bool.not_true, Bool.not_false]; done)))
            | rw [W_seq] | rw [W_reg] | rw [push_no] | rw [W_onil] | rw [W_skip] | rw [W_blk] | rw [W_b] | refine W_regd0 ?_)
          refine W_callG rfl ?hg ?hargs (fun _ => h27c) ?_ (fun hne => absurd rfl hne)
          case hg => (simp only [decide_true, decide_false, execE, unE, at_t, at_c, upd_at, upd_none, args0, push_no, get_inn, next_inn, ds_inn, get_put, next_put, ds_put, get_new, next_new, ds_new, getD_cons_zero, getD_cons_succ, getD_nil, reduceIte, Nat.reduceEqDiff, Bool.or_true, Bool.true_or, Bool.or_false, Bool.false_or, Bool.not_true, Bool.not_false, Bool.false_eq_true, beq_self_eq_true, beq_true, Bool.true_beq, beq_false, Bool.false_beq, length_cons, length_nil, Nat.zero_add, Nat.add_zero, Nat.reduceAdd, Nat.reduceLeDiff, getElem?_cons_zero, getElem?_cons_succ, Option.map_some, map_cons, map_nil, true_and, and_true, and_self]; done)
          case hargs => simp only [decide_true, decide_false, execE, unE, at_t, at_c, upd_at, upd_none, args0, push_no, get_inn, next_inn, ds_inn, get_put, next_put, ds_put, get_new, next_new, ds_new, getD_cons_zero, getD_cons_succ, getD_nil, reduceIte, Nat.reduceEqDiff, Bool.or_true, Bool.true_or, Bool.or_false, Bool.false_or, Bool.not_true, Bool.not_false, Bool.false_eq_true, beq_self_eq_true, beq_true, Bool.true_beq, beq_false, Bool.false_beq, length_cons, length_nil, Nat.zero_add, Nat.add_zero, Nat.reduceAdd, Nat.reduceLeDiff, getElem?_cons_zero, getElem?_cons_succ, Option.map_some, map_cons, map_nil, true_and, and_true, and_self] <;> rfl
          rintro v4 m4 _ ⟨rfl, k4⟩ hs4
          have hw3 : IntKind.i64.wrap (((tl.length + 1 : Nat) : Int) - 1) = (tl.length : Int) := (wrap64' (n := ((tl.length + 1 : Nat) : Int) - 1) (by omega) (by omega)).trans (by omega)
          have hb3 : ((tl.length : Int) == (tl.length : Int)) = true := by simp
          repeat (first
            | ((first | refine W_op rfl rfl ?_ | (refine W_opgT rfl rfl ?hg ?_; (case hg => (simp only [upd_at, reduceIte, Nat.reduceEqDiff, Bool.not_true, Bool.not_false]; done)))); simp only [decide_true, decide_false, execE, unE, at_t, at_c, upd_at, upd_none, args0, push_no, get_inn, next_inn, ds_inn, get_put, next_put, ds_put, get_new, next_new, ds_new, getD_cons_zero, getD_cons_succ, getD_nil, reduceIte, Nat.reduceEqDiff, Bool.or_true, Bool.true_or, Bool.or_false, Bool.false_or, Bool.not_true, Bool.not_false, Bool.false_eq_true, beq_self_eq_true, beq_true, Bool.true_beq, beq_false, Bool.false_beq, length_cons, length_nil, Nat.zero_add, Nat.add_zero, Nat.reduceAdd, Nat.reduceLeDiff, getElem?_cons_zero, getElem?_cons_succ, Option.map_some, map_cons, map_nil, true_and, and_true, and_self, g6, ↓hlq, hw3, hb3, binE, isShift, intBin, Wo_some])
            | (refine W_opgF rfl rfl ?hg ?_; (case hg => (simp only [upd_at, reduceIte, Nat.reduceEqDiff, Bool.not_true, Bool.not_false]; done)))
            | rw [W_seq] | rw [W_reg] | rw [push_no] | rw [W_onil] | rw [W_skip] | rw [W_blk] | rw [W_b] | refine W_regd0 ?_)
          refine W_getRet (by repeat (first | exact hg | exact args0_un (Nat.le_of_ble_eq_true rfl) | refine upd_un ?_ rfl)) ?_
          exact ⟨hs4.ds.trans d3, _, rfl, rfl⟩
end Go.Proofs.YtnbdamdcmofafaaGreatDoor
