/- The law GrowUps at the interpreter's level. No condition. -/
import Derived.Test.YtnbdamdcmofafaaGreatDoorGuGR
namespace Go.Proofs.YtnbdamdcmofafaaGreatDoor
open Go.Vi
set_option linter.unusedSimpArgs false
set_option linter.unusedVariables false

theorem callAnc {f : Nat} (hf : T f = .sum anc) (m : AMem) : Vi.Call T f [] m (fun v m' => v = .b true ∧ m' = m.out m) :=
  ⟨.b true, m, ⟨1, by show callF runDraw T 1 (.f f) [] m = _; simp only [callF, hf, anc, Option.map_some]⟩, rfl, rfl⟩

theorem ups_len (ks : List (Int × Int)) : (G.ups ks).length = ks.length := by
  unfold G.ups; rw [G.growL_len]; simp

set_option maxHeartbeats 2000000 in
theorem law5 {m : AMem} {av : AV} {l : List (List AV)} {ks : List (Int × Int)} (hS : Sts m av l) (hks : Sorts l ks) (hl : (l.length : Int) ≤ 9223372036854775807) : Vi.Call T 5 [av] m (fun v _ => v = .b true) := by
  have hlen := hS.lenF
  refine Vi.Call.ofP T5 (Nat.le_of_ble_eq_true rfl) ?_
  unfold v5
  repeat (first
    | ((first | refine W_op rfl rfl ?_ | (refine W_opgT rfl rfl ?hg ?_; (case hg => (simp only [upd_at, reduceIte, Nat.reduceEqDiff, Bool.not_true, Bool.not_false]; done)))); simp only [decide_true, decide_false, execE, unE, at_t, at_c, upd_at, upd_none, args0, push_no, AMem.get_inn, AMem.next_inn, AMem.ds_inn, AMem.get_put, AMem.next_put, AMem.ds_put, AMem.get_new, AMem.next_new, AMem.ds_new, List.getD_cons_zero, List.getD_cons_succ, List.getD_nil, reduceIte, Nat.reduceEqDiff, Bool.or_true, Bool.true_or, Bool.or_false, Bool.false_or, Bool.not_true, Bool.not_false, Bool.false_eq_true, beq_self_eq_true, beq_true, Bool.true_beq, beq_false, Bool.false_beq, List.length_cons, List.length_nil, Nat.zero_add, Nat.add_zero, Nat.reduceAdd, Nat.reduceLeDiff, List.getElem?_cons_zero, List.getElem?_cons_succ, Option.map_some, List.map_cons, List.map_nil, true_and, and_true, and_self, Wo_some])
    | (refine W_opgF rfl rfl ?hg ?_; (case hg => (simp only [upd_at, reduceIte, Nat.reduceEqDiff, Bool.not_true, Bool.not_false]; done)))
    | rw [W_seq] | rw [W_reg] | rw [push_no] | rw [W_onil] | rw [W_skip] | rw [W_blk] | rw [W_b] | refine W_regd0 ?_)
  refine W_callA rfl ?hargs (callAnc (f := 21) rfl _) ?_
  case hargs => simp only [decide_true, decide_false, execE, unE, at_t, at_c, upd_at, upd_none, args0, push_no, AMem.get_inn, AMem.next_inn, AMem.ds_inn, AMem.get_put, AMem.next_put, AMem.ds_put, AMem.get_new, AMem.next_new, AMem.ds_new, List.getD_cons_zero, List.getD_cons_succ, List.getD_nil, reduceIte, Nat.reduceEqDiff, Bool.or_true, Bool.true_or, Bool.or_false, Bool.false_or, Bool.not_true, Bool.not_false, Bool.false_eq_true, beq_self_eq_true, beq_true, Bool.true_beq, beq_false, Bool.false_beq, List.length_cons, List.length_nil, Nat.zero_add, Nat.add_zero, Nat.reduceAdd, Nat.reduceLeDiff, List.getElem?_cons_zero, List.getElem?_cons_succ, Option.map_some, List.map_cons, List.map_nil, true_and, and_true, and_self] <;> rfl
  rintro v m0 ⟨rfl, rfl⟩ hs
  repeat (first
    | ((first | refine W_op rfl rfl ?_ | (refine W_opgT rfl rfl ?hg ?_; (case hg => (simp only [upd_at, reduceIte, Nat.reduceEqDiff, Bool.not_true, Bool.not_false]; done)))); simp only [decide_true, decide_false, execE, unE, at_t, at_c, upd_at, upd_none, args0, push_no, AMem.get_inn, AMem.next_inn, AMem.ds_inn, AMem.get_put, AMem.next_put, AMem.ds_put, AMem.get_new, AMem.next_new, AMem.ds_new, List.getD_cons_zero, List.getD_cons_succ, List.getD_nil, reduceIte, Nat.reduceEqDiff, Bool.or_true, Bool.true_or, Bool.or_false, Bool.false_or, Bool.not_true, Bool.not_false, Bool.false_eq_true, beq_self_eq_true, beq_true, Bool.true_beq, beq_false, Bool.false_beq, List.length_cons, List.length_nil, Nat.zero_add, Nat.add_zero, Nat.reduceAdd, Nat.reduceLeDiff, List.getElem?_cons_zero, List.getElem?_cons_succ, Option.map_some, List.map_cons, List.map_nil, true_and, and_true, and_self, Wo_some])
    | (refine W_opgF rfl rfl ?hg ?_; (case hg => (simp only [upd_at, reduceIte, Nat.reduceEqDiff, Bool.not_true, Bool.not_false]; done)))
    | rw [W_seq] | rw [W_reg] | rw [push_no] | rw [W_onil] | rw [W_skip] | rw [W_blk] | rw [W_b] | refine W_regd0 ?_)
  refine W_cond ?_
  simp only [decide_true, decide_false, execE, unE, at_t, at_c, upd_at, upd_none, args0, push_no, AMem.get_inn, AMem.next_inn, AMem.ds_inn, AMem.get_put, AMem.next_put, AMem.ds_put, AMem.get_new, AMem.next_new, AMem.ds_new, List.getD_cons_zero, List.getD_cons_succ, List.getD_nil, reduceIte, Nat.reduceEqDiff, Bool.or_true, Bool.true_or, Bool.or_false, Bool.false_or, Bool.not_true, Bool.not_false, Bool.false_eq_true, beq_self_eq_true, beq_true, Bool.true_beq, beq_false, Bool.false_beq, List.length_cons, List.length_nil, Nat.zero_add, Nat.add_zero, Nat.reduceAdd, Nat.reduceLeDiff, List.getElem?_cons_zero, List.getElem?_cons_succ, Option.map_some, List.map_cons, List.map_nil, true_and, and_true, and_self, WC]
  repeat (first
    | ((first | refine W_op rfl rfl ?_ | (refine W_opgT rfl rfl ?hg ?_; (case hg => (simp only [upd_at, reduceIte, Nat.reduceEqDiff, Bool.not_true, Bool.not_false]; done)))); simp only [decide_true, decide_false, execE, unE, at_t, at_c, upd_at, upd_none, args0, push_no, AMem.get_inn, AMem.next_inn, AMem.ds_inn, AMem.get_put, AMem.next_put, AMem.ds_put, AMem.get_new, AMem.next_new, AMem.ds_new, List.getD_cons_zero, List.getD_cons_succ, List.getD_nil, reduceIte, Nat.reduceEqDiff, Bool.or_true, Bool.true_or, Bool.or_false, Bool.false_or, Bool.not_true, Bool.not_false, Bool.false_eq_true, beq_self_eq_true, beq_true, Bool.true_beq, beq_false, Bool.false_beq, List.length_cons, List.length_nil, Nat.zero_add, Nat.add_zero, Nat.reduceAdd, Nat.reduceLeDiff, List.getElem?_cons_zero, List.getElem?_cons_succ, Option.map_some, List.map_cons, List.map_nil, true_and, and_true, and_self, ↓hlen, binE, isShift, intBin, Wo_some])
    | (refine W_opgF rfl rfl ?hg ?_; (case hg => (simp only [upd_at, reduceIte, Nat.reduceEqDiff, Bool.not_true, Bool.not_false]; done)))
    | rw [W_seq] | rw [W_reg] | rw [push_no] | rw [W_onil] | rw [W_skip] | rw [W_blk] | rw [W_b] | refine W_regd0 ?_)
  refine W_cond ?_
  simp only [decide_true, decide_false, execE, unE, at_t, at_c, upd_at, upd_none, args0, push_no, AMem.get_inn, AMem.next_inn, AMem.ds_inn, AMem.get_put, AMem.next_put, AMem.ds_put, AMem.get_new, AMem.next_new, AMem.ds_new, List.getD_cons_zero, List.getD_cons_succ, List.getD_nil, reduceIte, Nat.reduceEqDiff, Bool.or_true, Bool.true_or, Bool.or_false, Bool.false_or, Bool.not_true, Bool.not_false, Bool.false_eq_true, beq_self_eq_true, beq_true, Bool.true_beq, beq_false, Bool.false_beq, List.length_cons, List.length_nil, Nat.zero_add, Nat.add_zero, Nat.reduceAdd, Nat.reduceLeDiff, List.getElem?_cons_zero, List.getElem?_cons_succ, Option.map_some, List.map_cons, List.map_nil, true_and, and_true, and_self]
  refine WC_split (fun ht => ?_) (fun hf => ?_)
  · skip
    repeat (first
      | ((first | refine W_op rfl rfl ?_ | (refine W_opgT rfl rfl ?hg ?_; (case hg => (simp only [upd_at, reduceIte, Nat.reduceEqDiff, Bool.not_true, Bool.not_false]; done)))); simp only [decide_true, decide_false, execE, unE, at_t, at_c, upd_at, upd_none, args0, push_no, AMem.get_inn, AMem.next_inn, AMem.ds_inn, AMem.get_put, AMem.next_put, AMem.ds_put, AMem.get_new, AMem.next_new, AMem.ds_new, List.getD_cons_zero, List.getD_cons_succ, List.getD_nil, reduceIte, Nat.reduceEqDiff, Bool.or_true, Bool.true_or, Bool.or_false, Bool.false_or, Bool.not_true, Bool.not_false, Bool.false_eq_true, beq_self_eq_true, beq_true, Bool.true_beq, beq_false, Bool.false_beq, List.length_cons, List.length_nil, Nat.zero_add, Nat.add_zero, Nat.reduceAdd, Nat.reduceLeDiff, List.getElem?_cons_zero, List.getElem?_cons_succ, Option.map_some, List.map_cons, List.map_nil, true_and, and_true, and_self, Wo_some])
      | (refine W_opgF rfl rfl ?hg ?_; (case hg => (simp only [upd_at, reduceIte, Nat.reduceEqDiff, Bool.not_true, Bool.not_false]; done)))
      | rw [W_seq] | rw [W_reg] | rw [push_no] | rw [W_onil] | rw [W_skip] | rw [W_blk] | rw [W_b] | refine W_regd0 ?_)
    refine W_getRet (by repeat (first | exact hg | exact args0_un (Nat.le_of_ble_eq_true rfl) | refine upd_un ?_ rfl)) ?_
    exact ⟨rfl, _, rfl, rfl⟩
  · have hl3 : l.length ≤ 300 := by simp at hf; omega
    have hlk : ks.length ≤ 300 := by rw [← hks.1]; exact hl3
    obtain ⟨mA, hmA, a1, a2⟩ : ∃ mA : AMem, mA = (m.inn).out m.inn ∧ Keep m mA [] ∧ mA.ds = [] := ⟨_, rfl, (Keep.inn m).out, rfl⟩
    rw [← hmA]
    clear hmA
    repeat (first
      | ((first | refine W_op rfl rfl ?_ | (refine W_opgT rfl rfl ?hg ?_; (case hg => (simp only [upd_at, reduceIte, Nat.reduceEqDiff, Bool.not_true, Bool.not_false]; done)))); simp only [decide_true, decide_false, execE, unE, at_t, at_c, upd_at, upd_none, args0, push_no, AMem.get_inn, AMem.next_inn, AMem.ds_inn, AMem.get_put, AMem.next_put, AMem.ds_put, AMem.get_new, AMem.next_new, AMem.ds_new, List.getD_cons_zero, List.getD_cons_succ, List.getD_nil, reduceIte, Nat.reduceEqDiff, Bool.or_true, Bool.true_or, Bool.or_false, Bool.false_or, Bool.not_true, Bool.not_false, Bool.false_eq_true, beq_self_eq_true, beq_true, Bool.true_beq, beq_false, Bool.false_beq, List.length_cons, List.length_nil, Nat.zero_add, Nat.add_zero, Nat.reduceAdd, Nat.reduceLeDiff, List.getElem?_cons_zero, List.getElem?_cons_succ, Option.map_some, List.map_cons, List.map_nil, true_and, and_true, and_self, ↓hlen, Wo_some])
      | (refine W_opgF rfl rfl ?hg ?_; (case hg => (simp only [upd_at, reduceIte, Nat.reduceEqDiff, Bool.not_true, Bool.not_false]; done)))
      | rw [W_seq] | rw [W_reg] | rw [push_no] | rw [W_onil] | rw [W_skip] | rw [W_blk] | rw [W_b] | refine W_regd0 ?_)
    refine W_loop (fun k g' m' => ∃ i jk jo, i ≤ l.length ∧ k = l.length - i ∧ g' 0 = av ∧ g' 15 = av ∧ g' 16 = .i .i64 l.length ∧ g' 17 = .i .i64 i ∧ Row m' (some 3) (g' 3) jk ((ks.take i).map fun k => .i .i64 k.1) ∧ Row m' (some 3) (g' 4) jo ((ks.take i).map fun k => .i .i64 k.2) ∧ (∀ j, jk = some j → m.next ≤ j) ∧ (∀ j, jo = some j → m.next ≤ j) ∧ (∀ x y, jk = some x → jo = some y → x ≠ y) ∧ Keep m m' [] ∧ m'.ds = []) l.length ?_ ?_ ?_
    · refine ⟨0, none, none, Nat.zero_le _, rfl, ?_, ?_, ?_, ?_, ?_, ?_, nofun, nofun, nofun, a1, a2⟩
      · skip
        simp only [upd_at, upd_none, reduceIte, Nat.reduceEqDiff, args0, List.getD_cons_zero, List.getD_cons_succ, List.getD_nil]
      · skip
        simp only [upd_at, upd_none, reduceIte, Nat.reduceEqDiff, args0, List.getD_cons_zero, List.getD_cons_succ, List.getD_nil]
      · skip
        simp only [upd_at, upd_none, reduceIte, Nat.reduceEqDiff, args0, List.getD_cons_zero, List.getD_cons_succ, List.getD_nil]
      · skip
        simp only [upd_at, upd_none, reduceIte, Nat.reduceEqDiff, args0, List.getD_cons_zero, List.getD_cons_succ, List.getD_nil, Int.ofNat_zero]
        try rfl
      · skip
        simp only [upd_at, upd_none, reduceIte, Nat.reduceEqDiff, args0, List.getD_cons_zero, List.getD_cons_succ, List.getD_nil]
        exact Row.nil _ _
      · skip
        simp only [upd_at, upd_none, reduceIte, Nat.reduceEqDiff, args0, List.getD_cons_zero, List.getD_cons_succ, List.getD_nil]
        exact Row.nil _ _
    · intro i hi
      repeat (first | exact args0_un (Nat.le_of_ble_eq_true rfl) i hi | refine upd_un ?_ rfl i hi; clear i hi; intro i hi)
    · rintro k g m1 ⟨i, jk, jo, hi, rfl, g0, g15, g16, g17, rk, ro, hjk, hjo, hne, hk, hds⟩ hg
      repeat (first
        | ((first | refine W_op rfl rfl ?_ | (refine W_opgT rfl rfl ?hg ?_; (case hg => (simp only [upd_at, reduceIte, Nat.reduceEqDiff, Bool.not_true, Bool.not_false]; done)))); simp only [decide_true, decide_false, execE, unE, at_t, at_c, upd_at, upd_none, args0, push_no, AMem.get_inn, AMem.next_inn, AMem.ds_inn, AMem.get_put, AMem.next_put, AMem.ds_put, AMem.get_new, AMem.next_new, AMem.ds_new, List.getD_cons_zero, List.getD_cons_succ, List.getD_nil, reduceIte, Nat.reduceEqDiff, Bool.or_true, Bool.true_or, Bool.or_false, Bool.false_or, Bool.not_true, Bool.not_false, Bool.false_eq_true, beq_self_eq_true, beq_true, Bool.true_beq, beq_false, Bool.false_beq, List.length_cons, List.length_nil, Nat.zero_add, Nat.add_zero, Nat.reduceAdd, Nat.reduceLeDiff, List.getElem?_cons_zero, List.getElem?_cons_succ, Option.map_some, List.map_cons, List.map_nil, true_and, and_true, and_self, g16, g17, binE, isShift, intBin, Wo_some])
        | (refine W_opgF rfl rfl ?hg ?_; (case hg => (simp only [upd_at, reduceIte, Nat.reduceEqDiff, Bool.not_true, Bool.not_false]; done)))
        | rw [W_seq] | rw [W_reg] | rw [push_no] | rw [W_onil] | rw [W_skip] | rw [W_blk] | rw [W_b] | refine W_regd0 ?_)
      refine W_cond ?_
      simp only [decide_true, decide_false, execE, unE, at_t, at_c, upd_at, upd_none, args0, push_no, AMem.get_inn, AMem.next_inn, AMem.ds_inn, AMem.get_put, AMem.next_put, AMem.ds_put, AMem.get_new, AMem.next_new, AMem.ds_new, List.getD_cons_zero, List.getD_cons_succ, List.getD_nil, reduceIte, Nat.reduceEqDiff, Bool.or_true, Bool.true_or, Bool.or_false, Bool.false_or, Bool.not_true, Bool.not_false, Bool.false_eq_true, beq_self_eq_true, beq_true, Bool.true_beq, beq_false, Bool.false_beq, List.length_cons, List.length_nil, Nat.zero_add, Nat.add_zero, Nat.reduceAdd, Nat.reduceLeDiff, List.getElem?_cons_zero, List.getElem?_cons_succ, Option.map_some, List.map_cons, List.map_nil, true_and, and_true, and_self]
      refine WC_split (fun ht => ?_) (fun hf => ?_)
      · have hlt : i < l.length := by simpa using ht
        obtain ⟨s, hs⟩ : ∃ s, l[i]? = some s := ⟨_, List.getElem?_eq_getElem hlt⟩
        obtain ⟨k, hkk, h8⟩ := hks.2 i s hs
        obtain ⟨j, cap, c, hav, hj, hgj, hcl, hct⟩ := (hS.keep hk (by simp)).at_ hs
        obtain ⟨hs8, hs1, hs0, hs6⟩ := h8
        have ht8 := take_all hs8
        have hix : (0 ≤ (i : Int) ∧ (i : Int) < (l.length : Int)) := ⟨by omega, by omega⟩
        have hw : IntKind.i64.wrap ((i : Int) + 1) = ((i + 1 : Nat) : Int) := (wrap64' (n := (i : Int) + 1) (by omega) (by omega)).trans (by omega)
        have htk : ks.take (i + 1) = ks.take i ++ [k] := by rw [List.take_add_one, hkk]; rfl
        repeat (first
          | ((first | refine W_opN rfl rfl rfl ?_ | (refine W_opgT rfl rfl ?hg ?_; (case hg => (simp only [upd_at, reduceIte, Nat.reduceEqDiff, Bool.not_true, Bool.not_false]; done)))); simp only [decide_true, decide_false, execE, unE, at_t, at_c, upd_at, upd_none, args0, push_no, AMem.get_inn, AMem.next_inn, AMem.ds_inn, AMem.get_put, AMem.next_put, AMem.ds_put, AMem.get_new, AMem.next_new, AMem.ds_new, List.getD_cons_zero, List.getD_cons_succ, List.getD_nil, reduceIte, Nat.reduceEqDiff, Bool.or_true, Bool.true_or, Bool.or_false, Bool.false_or, Bool.not_true, Bool.not_false, Bool.false_eq_true, beq_self_eq_true, beq_true, Bool.true_beq, beq_false, Bool.false_beq, List.length_cons, List.length_nil, Nat.zero_add, Nat.add_zero, Nat.reduceAdd, Nat.reduceLeDiff, List.getElem?_cons_zero, List.getElem?_cons_succ, Option.map_some, List.map_cons, List.map_nil, true_and, and_true, and_self, g0, g15, g17, hav, hix, Int.toNat_natCast, rd, hgj, hcl, hct, cells_agg, hs8, hs1, splice, List.take_zero, List.nil_append, List.drop_succ_cons, List.drop_nil, List.drop_zero, List.append_nil, ht8, Nat.le_refl, hs0, Wo_some])
          | (refine W_opgF rfl rfl ?hg ?_; (case hg => (simp only [upd_at, reduceIte, Nat.reduceEqDiff, Bool.not_true, Bool.not_false]; done)))
          | rw [W_seq] | rw [W_reg] | rw [push_no] | rw [W_onil] | rw [W_skip] | rw [W_blk] | rw [W_b] | refine W_regd0 ?_)
        obtain ⟨mX, hmX, x1, x2, x3, x4⟩ : ∃ mX : AMem, mX = ((m1.new (.cells [.i .i64 0, .i .i64 0, .i .i64 0, .i .i64 0, .i .i64 0, .i .i64 0, .i .i64 0, .sl none 0 0 true] true ⟨8, some 41⟩)).put m1.next (some (.cells s true ⟨8, some 41⟩))) ∧ mX.next = m1.next + 1 ∧ mX.get m1.next = some (.cells s true ⟨8, some 41⟩) ∧ Keep m1 mX [] ∧ mX.ds = [] :=
          ⟨_, rfl, rfl, by rw [AMem.get_put, if_pos rfl], (Keep.new m1 _).trans (Keep.put _ _ _) (by simp), hds⟩
        rw [← hmX]
        clear hmX
        have rk1 := rk.keep x3 (by simp)
        have ro1 := ro.keep x3 (by simp)
        have lk : ∀ x, jk = some x → x < m1.next := by rintro x rfl; exact rk.lt
        have lo : ∀ x, jo = some x → x < m1.next := by rintro x rfl; exact ro.lt
        have hk1 := hk.next
        refine W_push rfl rfl rfl ?hs (Row.as rk1 ?hrow) ?hone ?hroom ?_
        case hs => simp only [decide_true, decide_false, execE, unE, at_t, at_c, upd_at, upd_none, args0, push_no, AMem.get_inn, AMem.next_inn, AMem.ds_inn, AMem.get_put, AMem.next_put, AMem.ds_put, AMem.get_new, AMem.next_new, AMem.ds_new, List.getD_cons_zero, List.getD_cons_succ, List.getD_nil, reduceIte, Nat.reduceEqDiff, Bool.or_true, Bool.true_or, Bool.or_false, Bool.false_or, Bool.not_true, Bool.not_false, Bool.false_eq_true, beq_self_eq_true, beq_true, Bool.true_beq, beq_false, Bool.false_beq, List.length_cons, List.length_nil, Nat.zero_add, Nat.add_zero, Nat.reduceAdd, Nat.reduceLeDiff, List.getElem?_cons_zero, List.getElem?_cons_succ, Option.map_some, List.map_cons, List.map_nil, true_and, and_true, and_self]
        case hrow => simp only [decide_true, decide_false, execE, unE, at_t, at_c, upd_at, upd_none, args0, push_no, AMem.get_inn, AMem.next_inn, AMem.ds_inn, AMem.get_put, AMem.next_put, AMem.ds_put, AMem.get_new, AMem.next_new, AMem.ds_new, List.getD_cons_zero, List.getD_cons_succ, List.getD_nil, reduceIte, Nat.reduceEqDiff, Bool.or_true, Bool.true_or, Bool.or_false, Bool.false_or, Bool.not_true, Bool.not_false, Bool.false_eq_true, beq_self_eq_true, beq_true, Bool.true_beq, beq_false, Bool.false_beq, List.length_cons, List.length_nil, Nat.zero_add, Nat.add_zero, Nat.reduceAdd, Nat.reduceLeDiff, List.getElem?_cons_zero, List.getElem?_cons_succ, Option.map_some, List.map_cons, List.map_nil, true_and, and_true, and_self]
        case hone => simp only [decide_true, decide_false, execE, unE, at_t, at_c, upd_at, upd_none, args0, push_no, AMem.get_inn, AMem.next_inn, AMem.ds_inn, AMem.get_put, AMem.next_put, AMem.ds_put, AMem.get_new, AMem.next_new, AMem.ds_new, List.getD_cons_zero, List.getD_cons_succ, List.getD_nil, reduceIte, Nat.reduceEqDiff, Bool.or_true, Bool.true_or, Bool.or_false, Bool.false_or, Bool.not_true, Bool.not_false, Bool.false_eq_true, beq_self_eq_true, beq_true, Bool.true_beq, beq_false, Bool.false_beq, List.length_cons, List.length_nil, Nat.zero_add, Nat.add_zero, Nat.reduceAdd, Nat.reduceLeDiff, List.getElem?_cons_zero, List.getElem?_cons_succ, Option.map_some, List.map_cons, List.map_nil, true_and, and_true, and_self, AV.one]
        case hroom => exact roomyOf (by omega) (by simp; omega)
        intro a3 j3 m3 r3 ds3 ro3 o3 k3
        simp only [decide_true, decide_false, execE, unE, at_t, at_c, upd_at, upd_none, args0, push_no, AMem.get_inn, AMem.next_inn, AMem.ds_inn, AMem.get_put, AMem.next_put, AMem.ds_put, AMem.get_new, AMem.next_new, AMem.ds_new, List.getD_cons_zero, List.getD_cons_succ, List.getD_nil, reduceIte, Nat.reduceEqDiff, Bool.or_true, Bool.true_or, Bool.or_false, Bool.false_or, Bool.not_true, Bool.not_false, Bool.false_eq_true, beq_self_eq_true, beq_true, Bool.true_beq, beq_false, Bool.false_beq, List.length_cons, List.length_nil, Nat.zero_add, Nat.add_zero, Nat.reduceAdd, Nat.reduceLeDiff, List.getElem?_cons_zero, List.getElem?_cons_succ, Option.map_some, List.map_cons, List.map_nil, true_and, and_true, and_self] at r3
        have ro3' := ro1.keep k3 (by intro y hy h; simp at h; exact hne _ _ h hy rfl)
        have e3 : m3.get m1.next = some (.cells s true ⟨8, some 41⟩) := k3.at (by omega) (by intro h; simp at h; have := lk _ h; omega) x2
        have l3 := r3.lt
        repeat (first
          | ((first | refine W_opN rfl rfl rfl ?_ | (refine W_opgT rfl rfl ?hg ?_; (case hg => (simp only [upd_at, reduceIte, Nat.reduceEqDiff, Bool.not_true, Bool.not_false]; done)))); simp only [decide_true, decide_false, execE, unE, at_t, at_c, upd_at, upd_none, args0, push_no, AMem.get_inn, AMem.next_inn, AMem.ds_inn, AMem.get_put, AMem.next_put, AMem.ds_put, AMem.get_new, AMem.next_new, AMem.ds_new, List.getD_cons_zero, List.getD_cons_succ, List.getD_nil, reduceIte, Nat.reduceEqDiff, Bool.or_true, Bool.true_or, Bool.or_false, Bool.false_or, Bool.not_true, Bool.not_false, Bool.false_eq_true, beq_self_eq_true, beq_true, Bool.true_beq, beq_false, Bool.false_beq, List.length_cons, List.length_nil, Nat.zero_add, Nat.add_zero, Nat.reduceAdd, Nat.reduceLeDiff, List.getElem?_cons_zero, List.getElem?_cons_succ, Option.map_some, List.map_cons, List.map_nil, true_and, and_true, and_self, e3, hs6, Wo_some])
          | (refine W_opgF rfl rfl ?hg ?_; (case hg => (simp only [upd_at, reduceIte, Nat.reduceEqDiff, Bool.not_true, Bool.not_false]; done)))
          | rw [W_seq] | rw [W_reg] | rw [push_no] | rw [W_onil] | rw [W_skip] | rw [W_blk] | rw [W_b] | refine W_regd0 ?_)
        refine W_push rfl rfl rfl ?hs (Row.as ro3' ?hrow) ?hone ?hroom ?_
        case hs => simp only [decide_true, decide_false, execE, unE, at_t, at_c, upd_at, upd_none, args0, push_no, AMem.get_inn, AMem.next_inn, AMem.ds_inn, AMem.get_put, AMem.next_put, AMem.ds_put, AMem.get_new, AMem.next_new, AMem.ds_new, List.getD_cons_zero, List.getD_cons_succ, List.getD_nil, reduceIte, Nat.reduceEqDiff, Bool.or_true, Bool.true_or, Bool.or_false, Bool.false_or, Bool.not_true, Bool.not_false, Bool.false_eq_true, beq_self_eq_true, beq_true, Bool.true_beq, beq_false, Bool.false_beq, List.length_cons, List.length_nil, Nat.zero_add, Nat.add_zero, Nat.reduceAdd, Nat.reduceLeDiff, List.getElem?_cons_zero, List.getElem?_cons_succ, Option.map_some, List.map_cons, List.map_nil, true_and, and_true, and_self]
        case hrow => simp only [decide_true, decide_false, execE, unE, at_t, at_c, upd_at, upd_none, args0, push_no, AMem.get_inn, AMem.next_inn, AMem.ds_inn, AMem.get_put, AMem.next_put, AMem.ds_put, AMem.get_new, AMem.next_new, AMem.ds_new, List.getD_cons_zero, List.getD_cons_succ, List.getD_nil, reduceIte, Nat.reduceEqDiff, Bool.or_true, Bool.true_or, Bool.or_false, Bool.false_or, Bool.not_true, Bool.not_false, Bool.false_eq_true, beq_self_eq_true, beq_true, Bool.true_beq, beq_false, Bool.false_beq, List.length_cons, List.length_nil, Nat.zero_add, Nat.add_zero, Nat.reduceAdd, Nat.reduceLeDiff, List.getElem?_cons_zero, List.getElem?_cons_succ, Option.map_some, List.map_cons, List.map_nil, true_and, and_true, and_self]
        case hone => simp only [decide_true, decide_false, execE, unE, at_t, at_c, upd_at, upd_none, args0, push_no, AMem.get_inn, AMem.next_inn, AMem.ds_inn, AMem.get_put, AMem.next_put, AMem.ds_put, AMem.get_new, AMem.next_new, AMem.ds_new, List.getD_cons_zero, List.getD_cons_succ, List.getD_nil, reduceIte, Nat.reduceEqDiff, Bool.or_true, Bool.true_or, Bool.or_false, Bool.false_or, Bool.not_true, Bool.not_false, Bool.false_eq_true, beq_self_eq_true, beq_true, Bool.true_beq, beq_false, Bool.false_beq, List.length_cons, List.length_nil, Nat.zero_add, Nat.add_zero, Nat.reduceAdd, Nat.reduceLeDiff, List.getElem?_cons_zero, List.getElem?_cons_succ, Option.map_some, List.map_cons, List.map_nil, true_and, and_true, and_self, AV.one]
        case hroom => exact roomyOf (by omega) (by simp; omega)
        intro a5 j5 m5 r5 ds5 ro5 o5 k5
        simp only [decide_true, decide_false, execE, unE, at_t, at_c, upd_at, upd_none, args0, push_no, AMem.get_inn, AMem.next_inn, AMem.ds_inn, AMem.get_put, AMem.next_put, AMem.ds_put, AMem.get_new, AMem.next_new, AMem.ds_new, List.getD_cons_zero, List.getD_cons_succ, List.getD_nil, reduceIte, Nat.reduceEqDiff, Bool.or_true, Bool.true_or, Bool.or_false, Bool.false_or, Bool.not_true, Bool.not_false, Bool.false_eq_true, beq_self_eq_true, beq_true, Bool.true_beq, beq_false, Bool.false_beq, List.length_cons, List.length_nil, Nat.zero_add, Nat.add_zero, Nat.reduceAdd, Nat.reduceLeDiff, List.getElem?_cons_zero, List.getElem?_cons_succ, Option.map_some, List.map_cons, List.map_nil, true_and, and_true, and_self] at r5
        have r3' := r3.keep k5 (by
          rintro y ⟨⟩ h
          simp at h
          rcases o3 with h3 | h3
          · exact hne _ _ h3 h rfl
          · have := lo _ h; omega)
        repeat (first
          | ((first | refine W_op rfl rfl ?_ | (refine W_opgT rfl rfl ?hg ?_; (case hg => (simp only [upd_at, reduceIte, Nat.reduceEqDiff, Bool.not_true, Bool.not_false]; done)))); simp only [decide_true, decide_false, execE, unE, at_t, at_c, upd_at, upd_none, args0, push_no, AMem.get_inn, AMem.next_inn, AMem.ds_inn, AMem.get_put, AMem.next_put, AMem.ds_put, AMem.get_new, AMem.next_new, AMem.ds_new, List.getD_cons_zero, List.getD_cons_succ, List.getD_nil, reduceIte, Nat.reduceEqDiff, Bool.or_true, Bool.true_or, Bool.or_false, Bool.false_or, Bool.not_true, Bool.not_false, Bool.false_eq_true, beq_self_eq_true, beq_true, Bool.true_beq, beq_false, Bool.false_beq, List.length_cons, List.length_nil, Nat.zero_add, Nat.add_zero, Nat.reduceAdd, Nat.reduceLeDiff, List.getElem?_cons_zero, List.getElem?_cons_succ, Option.map_some, List.map_cons, List.map_nil, true_and, and_true, and_self, g17, hw, binE, isShift, intBin, Wo_some])
          | (refine W_opgF rfl rfl ?hg ?_; (case hg => (simp only [upd_at, reduceIte, Nat.reduceEqDiff, Bool.not_true, Bool.not_false]; done)))
          | rw [W_seq] | rw [W_reg] | rw [push_no] | rw [W_onil] | rw [W_skip] | rw [W_blk] | rw [W_b] | refine W_regd0 ?_)
        refine W_j (by repeat (first | exact hg | exact args0_un (Nat.le_of_ble_eq_true rfl) | refine upd_un ?_ rfl)) ?_
        have hn3 := k3.next
        refine ⟨l.length - (i + 1), by omega, i + 1, some j3, some j5, by omega, rfl, ?_, ?_, ?_, ?_, ?_, ?_, ?_, ?_, ?_, ?_, ?_⟩
        · skip
          simp only [upd_at, upd_none, reduceIte, Nat.reduceEqDiff, args0, List.getD_cons_zero, List.getD_cons_succ, List.getD_nil, g0, hav]
        · skip
          simp only [upd_at, upd_none, reduceIte, Nat.reduceEqDiff, args0, List.getD_cons_zero, List.getD_cons_succ, List.getD_nil, g15, hav]
        · skip
          simp only [upd_at, upd_none, reduceIte, Nat.reduceEqDiff, args0, List.getD_cons_zero, List.getD_cons_succ, List.getD_nil, g16]
        · skip
          simp only [upd_at, upd_none, reduceIte, Nat.reduceEqDiff, args0, List.getD_cons_zero, List.getD_cons_succ, List.getD_nil]
        · skip
          simp only [upd_at, upd_none, reduceIte, Nat.reduceEqDiff, args0, List.getD_cons_zero, List.getD_cons_succ, List.getD_nil]
          rw [htk]
          simpa using r3'
        · skip
          simp only [upd_at, upd_none, reduceIte, Nat.reduceEqDiff, args0, List.getD_cons_zero, List.getD_cons_succ, List.getD_nil]
          rw [htk]
          simpa using r5
        · rintro _ ⟨⟩
          rcases o3 with h | h
          · exact hjk _ h
          · omega
        · rintro _ ⟨⟩
          rcases o5 with h | h
          · exact hjo _ h
          · omega
        · rintro _ _ ⟨⟩ ⟨⟩
          rcases o3 with h3 | h3 <;> rcases o5 with h5 | h5
          · exact hne _ _ h3 h5
          · have := lk _ h3; omega
          · have := lo _ h5; omega
          · omega
        · refine ((hk.trans x3 (by simp)).trans k3 ?_).trans k5 ?_
          · intro x hx; simp at hx; right; exact hjk x hx
          · intro x hx; simp at hx; right; exact hjo x hx
        · rw [ds5, ds3]; exact x4
      · refine W_exit rfl ?_
        have hil : i = l.length := by simp at hf; omega
        subst hil
        rw [hks.1, List.take_length] at rk ro
        repeat (first
          | ((first | refine W_op rfl rfl ?_ | (refine W_opgT rfl rfl ?hg ?_; (case hg => (simp only [upd_at, reduceIte, Nat.reduceEqDiff, Bool.not_true, Bool.not_false]; done)))); simp only [decide_true, decide_false, execE, unE, at_t, at_c, upd_at, upd_none, args0, push_no, AMem.get_inn, AMem.next_inn, AMem.ds_inn, AMem.get_put, AMem.next_put, AMem.ds_put, AMem.get_new, AMem.next_new, AMem.ds_new, List.getD_cons_zero, List.getD_cons_succ, List.getD_nil, reduceIte, Nat.reduceEqDiff, Bool.or_true, Bool.true_or, Bool.or_false, Bool.false_or, Bool.not_true, Bool.not_false, Bool.false_eq_true, beq_self_eq_true, beq_true, Bool.true_beq, beq_false, Bool.false_beq, List.length_cons, List.length_nil, Nat.zero_add, Nat.add_zero, Nat.reduceAdd, Nat.reduceLeDiff, List.getElem?_cons_zero, List.getElem?_cons_succ, Option.map_some, List.map_cons, List.map_nil, true_and, and_true, and_self, g0, Wo_some])
          | (refine W_opgF rfl rfl ?hg ?_; (case hg => (simp only [upd_at, reduceIte, Nat.reduceEqDiff, Bool.not_true, Bool.not_false]; done)))
          | rw [W_seq] | rw [W_reg] | rw [push_no] | rw [W_onil] | rw [W_skip] | rw [W_blk] | rw [W_b] | refine W_regd0 ?_)
        refine W_callA rfl ?hargs (call22 (hS.keep hk (by simp)) hks (by omega)) ?_
        case hargs => simp only [decide_true, decide_false, execE, unE, at_t, at_c, upd_at, upd_none, args0, push_no, AMem.get_inn, AMem.next_inn, AMem.ds_inn, AMem.get_put, AMem.next_put, AMem.ds_put, AMem.get_new, AMem.next_new, AMem.ds_new, List.getD_cons_zero, List.getD_cons_succ, List.getD_nil, reduceIte, Nat.reduceEqDiff, Bool.or_true, Bool.true_or, Bool.or_false, Bool.false_or, Bool.not_true, Bool.not_false, Bool.false_eq_true, beq_self_eq_true, beq_true, Bool.true_beq, beq_false, Bool.false_beq, List.length_cons, List.length_nil, Nat.zero_add, Nat.add_zero, Nat.reduceAdd, Nat.reduceLeDiff, List.getElem?_cons_zero, List.getElem?_cons_succ, Option.map_some, List.map_cons, List.map_nil, true_and, and_true, and_self, g0] <;> rfl
        rintro v m2 ⟨u, ju, rfl, ru, k2, hju⟩ hs2
        have hn2 := k2.next
        have hn1 := hk.next
        repeat (first
          | ((first | refine W_op rfl rfl ?_ | (refine W_opgT rfl rfl ?hg ?_; (case hg => (simp only [upd_at, reduceIte, Nat.reduceEqDiff, Bool.not_true, Bool.not_false]; done)))); simp only [decide_true, decide_false, execE, unE, at_t, at_c, upd_at, upd_none, args0, push_no, AMem.get_inn, AMem.next_inn, AMem.ds_inn, AMem.get_put, AMem.next_put, AMem.ds_put, AMem.get_new, AMem.next_new, AMem.ds_new, List.getD_cons_zero, List.getD_cons_succ, List.getD_nil, reduceIte, Nat.reduceEqDiff, Bool.or_true, Bool.true_or, Bool.or_false, Bool.false_or, Bool.not_true, Bool.not_false, Bool.false_eq_true, beq_self_eq_true, beq_true, Bool.true_beq, beq_false, Bool.false_beq, List.length_cons, List.length_nil, Nat.zero_add, Nat.add_zero, Nat.reduceAdd, Nat.reduceLeDiff, List.getElem?_cons_zero, List.getElem?_cons_succ, Option.map_some, List.map_cons, List.map_nil, true_and, and_true, and_self, cells_agg, ru.one, splice, List.take_zero, List.nil_append, List.drop_succ_cons, List.drop_nil, List.drop_zero, List.append_nil, List.length_cons, List.length_nil, List.all_cons, List.all_nil, Bool.and_self, Nat.le_refl, Wo_some])
          | (refine W_opgF rfl rfl ?hg ?_; (case hg => (simp only [upd_at, reduceIte, Nat.reduceEqDiff, Bool.not_true, Bool.not_false]; done)))
          | rw [W_seq] | rw [W_reg] | rw [push_no] | rw [W_onil] | rw [W_skip] | rw [W_blk] | rw [W_b] | refine W_regd0 ?_)
        obtain ⟨mX, hmX, x1, x2, x3, x4⟩ : ∃ mX : AMem, mX = ((m2.new (.cells [.sl none 0 0 true] true ⟨1, some 66⟩)).put m2.next (some (.cells [u] true ⟨1, some 66⟩))) ∧ mX.next = m2.next + 1 ∧ mX.get m2.next = some (.cells [u] true ⟨1, some 66⟩) ∧ Keep m2 mX [] ∧ mX.ds = [] :=
          ⟨_, rfl, rfl, by rw [AMem.get_put, if_pos rfl], (Keep.new m2 _).trans (Keep.put _ _ _) (by simp), hs2.ds.trans hds⟩
        rw [← hmX]
        clear hmX
        have rk2 := (rk.keep k2 (by simp)).keep x3 (by simp)
        have ro2 := (ro.keep k2 (by simp)).keep x3 (by simp)
        have ru2 := ru.keep x3 (by simp)
        refine W_callA rfl ?hargs (call23 rk2 ro2 (by omega)) ?_
        case hargs => simp only [decide_true, decide_false, execE, unE, at_t, at_c, upd_at, upd_none, args0, push_no, AMem.get_inn, AMem.next_inn, AMem.ds_inn, AMem.get_put, AMem.next_put, AMem.ds_put, AMem.get_new, AMem.next_new, AMem.ds_new, List.getD_cons_zero, List.getD_cons_succ, List.getD_nil, reduceIte, Nat.reduceEqDiff, Bool.or_true, Bool.true_or, Bool.or_false, Bool.false_or, Bool.not_true, Bool.not_false, Bool.false_eq_true, beq_self_eq_true, beq_true, Bool.true_beq, beq_false, Bool.false_beq, List.length_cons, List.length_nil, Nat.zero_add, Nat.add_zero, Nat.reduceAdd, Nat.reduceLeDiff, List.getElem?_cons_zero, List.getElem?_cons_succ, Option.map_some, List.map_cons, List.map_nil, true_and, and_true, and_self] <;> rfl
        rintro v m3 ⟨jv, rv, k3, hjv⟩ hs3
        have ru3 := ru2.keep k3 (by simp)
        have e3 := k3.at (by omega) (by simp) x2
        have hlu := ru3.lenF (n := ks.length) (by simp [ups_len])
        have hlv := rv.lenF (n := ks.length) (by simp [ups_len])
        have hbne : ((ks.length : Int) != (ks.length : Int)) = false := by simp
        have h24 := call24 ru3
        have hl24 : ((G.ups ks).map fun n : Int => AV.i .i64 n).length = ks.length := by simp [ups_len]
        repeat (first
          | ((first | refine W_op rfl rfl ?_ | (refine W_opgT rfl rfl ?hg ?_; (case hg => (simp only [upd_at, reduceIte, Nat.reduceEqDiff, Bool.not_true, Bool.not_false]; done)))); simp only [decide_true, decide_false, execE, unE, at_t, at_c, upd_at, upd_none, args0, push_no, AMem.get_inn, AMem.next_inn, AMem.ds_inn, AMem.get_put, AMem.next_put, AMem.ds_put, AMem.get_new, AMem.next_new, AMem.ds_new, List.getD_cons_zero, List.getD_cons_succ, List.getD_nil, reduceIte, Nat.reduceEqDiff, Bool.or_true, Bool.true_or, Bool.or_false, Bool.false_or, Bool.not_true, Bool.not_false, Bool.false_eq_true, beq_self_eq_true, beq_true, Bool.true_beq, beq_false, Bool.false_beq, List.length_cons, List.length_nil, Nat.zero_add, Nat.add_zero, Nat.reduceAdd, Nat.reduceLeDiff, List.getElem?_cons_zero, List.getElem?_cons_succ, Option.map_some, List.map_cons, List.map_nil, true_and, and_true, and_self, e3, ↓hlu, ↓hlv, binE, isShift, intBin, hbne, rd, List.length_cons, List.length_nil, List.take_succ_cons, List.take_zero, List.drop_zero, Wo_some])
          | (refine W_opgF rfl rfl ?hg ?_; (case hg => (simp only [upd_at, reduceIte, Nat.reduceEqDiff, Bool.not_true, Bool.not_false]; done)))
          | rw [W_seq] | rw [W_reg] | rw [push_no] | rw [W_onil] | rw [W_skip] | rw [W_blk] | rw [W_b] | refine W_regd0 ?_)
        refine W_callG rfl ?hg ?hargs (fun _ => h24) ?_ (fun hne => absurd rfl hne)
        case hg => (simp only [decide_true, decide_false, execE, unE, at_t, at_c, upd_at, upd_none, args0, push_no, AMem.get_inn, AMem.next_inn, AMem.ds_inn, AMem.get_put, AMem.next_put, AMem.ds_put, AMem.get_new, AMem.next_new, AMem.ds_new, List.getD_cons_zero, List.getD_cons_succ, List.getD_nil, reduceIte, Nat.reduceEqDiff, Bool.or_true, Bool.true_or, Bool.or_false, Bool.false_or, Bool.not_true, Bool.not_false, Bool.false_eq_true, beq_self_eq_true, beq_true, Bool.true_beq, beq_false, Bool.false_beq, List.length_cons, List.length_nil, Nat.zero_add, Nat.add_zero, Nat.reduceAdd, Nat.reduceLeDiff, List.getElem?_cons_zero, List.getElem?_cons_succ, Option.map_some, List.map_cons, List.map_nil, true_and, and_true, and_self]; done)
        case hargs => simp only [decide_true, decide_false, execE, unE, at_t, at_c, upd_at, upd_none, args0, push_no, AMem.get_inn, AMem.next_inn, AMem.ds_inn, AMem.get_put, AMem.next_put, AMem.ds_put, AMem.get_new, AMem.next_new, AMem.ds_new, List.getD_cons_zero, List.getD_cons_succ, List.getD_nil, reduceIte, Nat.reduceEqDiff, Bool.or_true, Bool.true_or, Bool.or_false, Bool.false_or, Bool.not_true, Bool.not_false, Bool.false_eq_true, beq_self_eq_true, beq_true, Bool.true_beq, beq_false, Bool.false_beq, List.length_cons, List.length_nil, Nat.zero_add, Nat.add_zero, Nat.reduceAdd, Nat.reduceLeDiff, List.getElem?_cons_zero, List.getElem?_cons_succ, Option.map_some, List.map_cons, List.map_nil, true_and, and_true, and_self] <;> rfl
        rintro w m4 _ ⟨rfl, k4⟩ hs4
        repeat (first
          | ((first | refine W_op rfl rfl ?_ | (refine W_opgT rfl rfl ?hg ?_; (case hg => (simp only [upd_at, reduceIte, Nat.reduceEqDiff, Bool.not_true, Bool.not_false]; done)))); simp only [decide_true, decide_false, execE, unE, at_t, at_c, upd_at, upd_none, args0, push_no, AMem.get_inn, AMem.next_inn, AMem.ds_inn, AMem.get_put, AMem.next_put, AMem.ds_put, AMem.get_new, AMem.next_new, AMem.ds_new, List.getD_cons_zero, List.getD_cons_succ, List.getD_nil, reduceIte, Nat.reduceEqDiff, Bool.or_true, Bool.true_or, Bool.or_false, Bool.false_or, Bool.not_true, Bool.not_false, Bool.false_eq_true, beq_self_eq_true, beq_true, Bool.true_beq, beq_false, Bool.false_beq, List.length_cons, List.length_nil, Nat.zero_add, Nat.add_zero, Nat.reduceAdd, Nat.reduceLeDiff, List.getElem?_cons_zero, List.getElem?_cons_succ, Option.map_some, List.map_cons, List.map_nil, true_and, and_true, and_self, hl24, ↓hlv, binE, isShift, intBin, hbne, Wo_some])
          | (refine W_opgF rfl rfl ?hg ?_; (case hg => (simp only [upd_at, reduceIte, Nat.reduceEqDiff, Bool.not_true, Bool.not_false]; done)))
          | rw [W_seq] | rw [W_reg] | rw [push_no] | rw [W_onil] | rw [W_skip] | rw [W_blk] | rw [W_b] | refine W_regd0 ?_)
        refine W_cond ?_
        simp only [decide_true, decide_false, execE, unE, at_t, at_c, upd_at, upd_none, args0, push_no, AMem.get_inn, AMem.next_inn, AMem.ds_inn, AMem.get_put, AMem.next_put, AMem.ds_put, AMem.get_new, AMem.next_new, AMem.ds_new, List.getD_cons_zero, List.getD_cons_succ, List.getD_nil, reduceIte, Nat.reduceEqDiff, Bool.or_true, Bool.true_or, Bool.or_false, Bool.false_or, Bool.not_true, Bool.not_false, Bool.false_eq_true, beq_self_eq_true, beq_true, Bool.true_beq, beq_false, Bool.false_beq, List.length_cons, List.length_nil, Nat.zero_add, Nat.add_zero, Nat.reduceAdd, Nat.reduceLeDiff, List.getElem?_cons_zero, List.getElem?_cons_succ, Option.map_some, List.map_cons, List.map_nil, true_and, and_true, and_self, WC]
        repeat (first
          | ((first | refine W_op rfl rfl ?_ | (refine W_opgT rfl rfl ?hg ?_; (case hg => (simp only [upd_at, reduceIte, Nat.reduceEqDiff, Bool.not_true, Bool.not_false]; done)))); simp only [decide_true, decide_false, execE, unE, at_t, at_c, upd_at, upd_none, args0, push_no, AMem.get_inn, AMem.next_inn, AMem.ds_inn, AMem.get_put, AMem.next_put, AMem.ds_put, AMem.get_new, AMem.next_new, AMem.ds_new, List.getD_cons_zero, List.getD_cons_succ, List.getD_nil, reduceIte, Nat.reduceEqDiff, Bool.or_true, Bool.true_or, Bool.or_false, Bool.false_or, Bool.not_true, Bool.not_false, Bool.false_eq_true, beq_self_eq_true, beq_true, Bool.true_beq, beq_false, Bool.false_beq, List.length_cons, List.length_nil, Nat.zero_add, Nat.add_zero, Nat.reduceAdd, Nat.reduceLeDiff, List.getElem?_cons_zero, List.getElem?_cons_succ, Option.map_some, List.map_cons, List.map_nil, true_and, and_true, and_self, ↓hlv, Wo_some])
          | (refine W_opgF rfl rfl ?hg ?_; (case hg => (simp only [upd_at, reduceIte, Nat.reduceEqDiff, Bool.not_true, Bool.not_false]; done)))
          | rw [W_seq] | rw [W_reg] | rw [push_no] | rw [W_onil] | rw [W_skip] | rw [W_blk] | rw [W_b] | refine W_regd0 ?_)
        have ru4 := ru3.keep k4 (by simp)
        have rv4 := rv.keep k4 (by simp)
        have e4 := k4.at (by have := k3.next; omega) (by simp) e3
        have d4 : m4.ds = [] := hs4.ds.trans (hs3.ds.trans x4)
        clear g0 g15 g16 g17
        refine W_loop (fun k g' m' => ∃ i, i ≤ ks.length ∧ k = ks.length - i ∧ g' 7 = .p (some (m2.next, 0)) ∧ g' 8 = v ∧ g' 51 = .i .i64 ks.length ∧ g' 52 = .i .i64 i ∧ m' = m4) ks.length ?_ ?_ ?_
        · refine ⟨0, Nat.zero_le _, rfl, ?_, ?_, ?_, ?_, rfl⟩
          · skip
            simp only [upd_at, upd_none, reduceIte, Nat.reduceEqDiff, args0, List.getD_cons_zero, List.getD_cons_succ, List.getD_nil]
          · skip
            simp only [upd_at, upd_none, reduceIte, Nat.reduceEqDiff, args0, List.getD_cons_zero, List.getD_cons_succ, List.getD_nil]
          · skip
            simp only [upd_at, upd_none, reduceIte, Nat.reduceEqDiff, args0, List.getD_cons_zero, List.getD_cons_succ, List.getD_nil]
          · skip
            simp only [upd_at, upd_none, reduceIte, Nat.reduceEqDiff, args0, List.getD_cons_zero, List.getD_cons_succ, List.getD_nil, Int.ofNat_zero]
            try rfl
        · intro i hi
          repeat (first | exact hg i hi | refine upd_un ?_ rfl i hi; clear i hi; intro i hi)
        · rintro k g m5 ⟨i, hi, rfl, g7, g8, g51, g52, rfl⟩ hg
          repeat (first
            | ((first | refine W_op rfl rfl ?_ | (refine W_opgT rfl rfl ?hg ?_; (case hg => (simp only [upd_at, reduceIte, Nat.reduceEqDiff, Bool.not_true, Bool.not_false]; done)))); simp only [decide_true, decide_false, execE, unE, at_t, at_c, upd_at, upd_none, args0, push_no, AMem.get_inn, AMem.next_inn, AMem.ds_inn, AMem.get_put, AMem.next_put, AMem.ds_put, AMem.get_new, AMem.next_new, AMem.ds_new, List.getD_cons_zero, List.getD_cons_succ, List.getD_nil, reduceIte, Nat.reduceEqDiff, Bool.or_true, Bool.true_or, Bool.or_false, Bool.false_or, Bool.not_true, Bool.not_false, Bool.false_eq_true, beq_self_eq_true, beq_true, Bool.true_beq, beq_false, Bool.false_beq, List.length_cons, List.length_nil, Nat.zero_add, Nat.add_zero, Nat.reduceAdd, Nat.reduceLeDiff, List.getElem?_cons_zero, List.getElem?_cons_succ, Option.map_some, List.map_cons, List.map_nil, true_and, and_true, and_self, g51, g52, binE, isShift, intBin, Wo_some])
            | (refine W_opgF rfl rfl ?hg ?_; (case hg => (simp only [upd_at, reduceIte, Nat.reduceEqDiff, Bool.not_true, Bool.not_false]; done)))
            | rw [W_seq] | rw [W_reg] | rw [push_no] | rw [W_onil] | rw [W_skip] | rw [W_blk] | rw [W_b] | refine W_regd0 ?_)
          refine W_cond ?_
          simp only [decide_true, decide_false, execE, unE, at_t, at_c, upd_at, upd_none, args0, push_no, AMem.get_inn, AMem.next_inn, AMem.ds_inn, AMem.get_put, AMem.next_put, AMem.ds_put, AMem.get_new, AMem.next_new, AMem.ds_new, List.getD_cons_zero, List.getD_cons_succ, List.getD_nil, reduceIte, Nat.reduceEqDiff, Bool.or_true, Bool.true_or, Bool.or_false, Bool.false_or, Bool.not_true, Bool.not_false, Bool.false_eq_true, beq_self_eq_true, beq_true, Bool.true_beq, beq_false, Bool.false_beq, List.length_cons, List.length_nil, Nat.zero_add, Nat.add_zero, Nat.reduceAdd, Nat.reduceLeDiff, List.getElem?_cons_zero, List.getElem?_cons_succ, Option.map_some, List.map_cons, List.map_nil, true_and, and_true, and_self]
          refine WC_split (fun ht => ?_) (fun hf => ?_)
          · have hlt : i < ks.length := by simpa using ht
            have hlu : i < (G.ups ks).length := by rw [ups_len]; exact hlt
            obtain ⟨y, hy⟩ : ∃ y, (G.ups ks)[i]? = some y := ⟨_, List.getElem?_eq_getElem hlu⟩
            obtain ⟨q1, c1, ex1, _, hav1, _, hg1, _, hc1, _⟩ := ru4.atN (n := ks.length) (i := i) (x := .i .i64 y) (by simp [ups_len]) (by rw [List.getElem?_map, hy]; rfl)
            obtain ⟨q2, c2, ex2, _, hav2, _, hg2, _, hc2, _⟩ := rv4.atN (n := ks.length) (i := i) (x := .i .i64 y) (by simp [ups_len]) (by rw [List.getElem?_map, hy]; rfl)
            have hix : (0 ≤ (i : Int) ∧ (i : Int) < (ks.length : Int)) := ⟨by omega, by omega⟩
            have hw : IntKind.i64.wrap ((i : Int) + 1) = ((i + 1 : Nat) : Int) := (wrap64' (n := (i : Int) + 1) (by omega) (by omega)).trans (by omega)
            have hyy : (y != y) = false := by simp
            repeat (first
              | ((first | refine W_op rfl rfl ?_ | (refine W_opgT rfl rfl ?hg ?_; (case hg => (simp only [upd_at, reduceIte, Nat.reduceEqDiff, Bool.not_true, Bool.not_false]; done)))); simp only [decide_true, decide_false, execE, unE, at_t, at_c, upd_at, upd_none, args0, push_no, AMem.get_inn, AMem.next_inn, AMem.ds_inn, AMem.get_put, AMem.next_put, AMem.ds_put, AMem.get_new, AMem.next_new, AMem.ds_new, List.getD_cons_zero, List.getD_cons_succ, List.getD_nil, reduceIte, Nat.reduceEqDiff, Bool.or_true, Bool.true_or, Bool.or_false, Bool.false_or, Bool.not_true, Bool.not_false, Bool.false_eq_true, beq_self_eq_true, beq_true, Bool.true_beq, beq_false, Bool.false_beq, List.length_cons, List.length_nil, Nat.zero_add, Nat.add_zero, Nat.reduceAdd, Nat.reduceLeDiff, List.getElem?_cons_zero, List.getElem?_cons_succ, Option.map_some, List.map_cons, List.map_nil, true_and, and_true, and_self, g7, g8, g52, e4, hav1, hav2, hix, Int.toNat_natCast, Nat.mul_one, hg1, hg2, hc1, hc2, binE, isShift, intBin, hyy, Wo_some])
              | (refine W_opgF rfl rfl ?hg ?_; (case hg => (simp only [upd_at, reduceIte, Nat.reduceEqDiff, Bool.not_true, Bool.not_false]; done)))
              | rw [W_seq] | rw [W_reg] | rw [push_no] | rw [W_onil] | rw [W_skip] | rw [W_blk] | rw [W_b] | refine W_regd0 ?_)
            refine W_cond ?_
            simp only [decide_true, decide_false, execE, unE, at_t, at_c, upd_at, upd_none, args0, push_no, AMem.get_inn, AMem.next_inn, AMem.ds_inn, AMem.get_put, AMem.next_put, AMem.ds_put, AMem.get_new, AMem.next_new, AMem.ds_new, List.getD_cons_zero, List.getD_cons_succ, List.getD_nil, reduceIte, Nat.reduceEqDiff, Bool.or_true, Bool.true_or, Bool.or_false, Bool.false_or, Bool.not_true, Bool.not_false, Bool.false_eq_true, beq_self_eq_true, beq_true, Bool.true_beq, beq_false, Bool.false_beq, List.length_cons, List.length_nil, Nat.zero_add, Nat.add_zero, Nat.reduceAdd, Nat.reduceLeDiff, List.getElem?_cons_zero, List.getElem?_cons_succ, Option.map_some, List.map_cons, List.map_nil, true_and, and_true, and_self, WC]
            repeat (first
              | ((first | refine W_op rfl rfl ?_ | (refine W_opgT rfl rfl ?hg ?_; (case hg => (simp only [upd_at, reduceIte, Nat.reduceEqDiff, Bool.not_true, Bool.not_false]; done)))); simp only [decide_true, decide_false, execE, unE, at_t, at_c, upd_at, upd_none, args0, push_no, AMem.get_inn, AMem.next_inn, AMem.ds_inn, AMem.get_put, AMem.next_put, AMem.ds_put, AMem.get_new, AMem.next_new, AMem.ds_new, List.getD_cons_zero, List.getD_cons_succ, List.getD_nil, reduceIte, Nat.reduceEqDiff, Bool.or_true, Bool.true_or, Bool.or_false, Bool.false_or, Bool.not_true, Bool.not_false, Bool.false_eq_true, beq_self_eq_true, beq_true, Bool.true_beq, beq_false, Bool.false_beq, List.length_cons, List.length_nil, Nat.zero_add, Nat.add_zero, Nat.reduceAdd, Nat.reduceLeDiff, List.getElem?_cons_zero, List.getElem?_cons_succ, Option.map_some, List.map_cons, List.map_nil, true_and, and_true, and_self, g52, hw, binE, isShift, intBin, Wo_some])
              | (refine W_opgF rfl rfl ?hg ?_; (case hg => (simp only [upd_at, reduceIte, Nat.reduceEqDiff, Bool.not_true, Bool.not_false]; done)))
              | rw [W_seq] | rw [W_reg] | rw [push_no] | rw [W_onil] | rw [W_skip] | rw [W_blk] | rw [W_b] | refine W_regd0 ?_)
            refine W_j (by repeat (first | exact hg | exact args0_un (Nat.le_of_ble_eq_true rfl) | refine upd_un ?_ rfl)) ?_
            refine ⟨ks.length - (i + 1), by omega, i + 1, by omega, rfl, ?_, ?_, ?_, ?_, rfl⟩
            · skip
              simp only [upd_at, upd_none, reduceIte, Nat.reduceEqDiff, args0, List.getD_cons_zero, List.getD_cons_succ, List.getD_nil, g7]
            · skip
              simp only [upd_at, upd_none, reduceIte, Nat.reduceEqDiff, args0, List.getD_cons_zero, List.getD_cons_succ, List.getD_nil, g8, hav2]
            · skip
              simp only [upd_at, upd_none, reduceIte, Nat.reduceEqDiff, args0, List.getD_cons_zero, List.getD_cons_succ, List.getD_nil, g51]
            · skip
              simp only [upd_at, upd_none, reduceIte, Nat.reduceEqDiff, args0, List.getD_cons_zero, List.getD_cons_succ, List.getD_nil]
          · refine W_exit rfl ?_
            repeat (first
              | ((first | refine W_op rfl rfl ?_ | (refine W_opgT rfl rfl ?hg ?_; (case hg => (simp only [upd_at, reduceIte, Nat.reduceEqDiff, Bool.not_true, Bool.not_false]; done)))); simp only [decide_true, decide_false, execE, unE, at_t, at_c, upd_at, upd_none, args0, push_no, AMem.get_inn, AMem.next_inn, AMem.ds_inn, AMem.get_put, AMem.next_put, AMem.ds_put, AMem.get_new, AMem.next_new, AMem.ds_new, List.getD_cons_zero, List.getD_cons_succ, List.getD_nil, reduceIte, Nat.reduceEqDiff, Bool.or_true, Bool.true_or, Bool.or_false, Bool.false_or, Bool.not_true, Bool.not_false, Bool.false_eq_true, beq_self_eq_true, beq_true, Bool.true_beq, beq_false, Bool.false_beq, List.length_cons, List.length_nil, Nat.zero_add, Nat.add_zero, Nat.reduceAdd, Nat.reduceLeDiff, List.getElem?_cons_zero, List.getElem?_cons_succ, Option.map_some, List.map_cons, List.map_nil, true_and, and_true, and_self, Wo_some])
              | (refine W_opgF rfl rfl ?hg ?_; (case hg => (simp only [upd_at, reduceIte, Nat.reduceEqDiff, Bool.not_true, Bool.not_false]; done)))
              | rw [W_seq] | rw [W_reg] | rw [push_no] | rw [W_onil] | rw [W_skip] | rw [W_blk] | rw [W_b] | refine W_regd0 ?_)
            refine W_getRet (by repeat (first | exact hg | exact args0_un (Nat.le_of_ble_eq_true rfl) | refine upd_un ?_ rfl)) ?_
            exact ⟨d4, _, rfl, rfl⟩
end Go.Proofs.YtnbdamdcmofafaaGreatDoor
