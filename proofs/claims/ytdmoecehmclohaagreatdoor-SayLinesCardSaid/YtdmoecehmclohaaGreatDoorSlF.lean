/- The document's decimal digits. No condition. -/
import Derived.Test.YtdmoecehmclohaaGreatDoorSlE
import Derived.Test.YtdmoecehmclohaaGreatDoorSlViNode
namespace Go.Proofs.YtdmoecehmclohaaGreatDoor
open Go.Vi
set_option linter.unusedSimpArgs false
set_option linter.unusedVariables false
theorem nd20 {n : Nat} (h : n ≤ 9223372036854775808) : nd n ≤ 20 := by
  by_cases h0 : 0 < n
  · exact nd_le20 (by omega) h0
  · rw [nd_lt (by omega)]; omega
theorem call18n : ∀ (n : Nat), (n : Int) ≤ 9223372036854775807 → ∀ m, Vi.Call T 18 [.i .i64 (n : Int)] m (fun v m' => v = .s ⟨(dig n).toArray⟩ ∧ Keep m m' []) := by
  intro n
  induction n using Nat.strongRecOn with
  | _ n ih =>
    intro hn m
    refine Vi.Call.ofP T18 (Nat.le_of_ble_eq_true rfl) ?_
    unfold v18
    have c0 : decide ((n : Int) < 0) = false := by simp
    cases hA : decide ((n : Int) < 10)
    · have h10 : ¬ n < 10 := by simp at hA; omega
      have w1 : IntKind.i64.wrap ((n : Int).tdiv 10) = ((n / 10 : Nat) : Int) := wr_i64 (n := ((n / 10 : Nat) : Int)) (by omega) (by omega)
      have w2 : (n : Int).tmod 10 = ((n % 10 : Nat) : Int) := rfl
      repeat (first
        | ((first | refine W_op rfl rfl ?_ | (refine W_opgT rfl rfl ?hg ?_; (case hg => (simp only [WG, reduceIte, Nat.reduceEqDiff]; done)))); simp only [WB, execE, unE, args0, reduceIte, Nat.reduceEqDiff, Nat.reduceAdd, Nat.reduceLeDiff, binE, isShift, intBin, c0, Wo_some])
        | (refine W_opgF rfl rfl ?hg ?_; (case hg => (simp only [WG, reduceIte, Nat.reduceEqDiff]; done)))
        | rw [W_seq] | rw [W_reg] | rw [push_no] | rw [W_onil] | rw [W_skip] | rw [W_blk] | rw [W_b] | refine W_regd0 ?_)
      refine W_cond ?_
      simp only [WB, execE, unE, args0, reduceIte, Nat.reduceEqDiff, Nat.reduceAdd, Nat.reduceLeDiff, WC]
      repeat (first
        | ((first | refine W_op rfl rfl ?_ | (refine W_opgT rfl rfl ?hg ?_; (case hg => (simp only [WG, reduceIte, Nat.reduceEqDiff]; done)))); simp only [WB, execE, unE, args0, reduceIte, Nat.reduceEqDiff, Nat.reduceAdd, Nat.reduceLeDiff, binE, isShift, intBin, hA, Wo_some])
        | (refine W_opgF rfl rfl ?hg ?_; (case hg => (simp only [WG, reduceIte, Nat.reduceEqDiff]; done)))
        | rw [W_seq] | rw [W_reg] | rw [push_no] | rw [W_onil] | rw [W_skip] | rw [W_blk] | rw [W_b] | refine W_regd0 ?_)
      refine W_cond ?_
      simp only [WB, execE, unE, args0, reduceIte, Nat.reduceEqDiff, Nat.reduceAdd, Nat.reduceLeDiff, WC]
      repeat (first
        | ((first | refine W_op rfl rfl ?_ | (refine W_opgT rfl rfl ?hg ?_; (case hg => (simp only [WG, reduceIte, Nat.reduceEqDiff]; done)))); simp only [WB, execE, unE, args0, reduceIte, Nat.reduceEqDiff, Nat.reduceAdd, Nat.reduceLeDiff, binE, isShift, intBin, w1, w2, Int.reduceEq, Wo_some])
        | (refine W_opgF rfl rfl ?hg ?_; (case hg => (simp only [WG, reduceIte, Nat.reduceEqDiff]; done)))
        | rw [W_seq] | rw [W_reg] | rw [push_no] | rw [W_onil] | rw [W_skip] | rw [W_blk] | rw [W_b] | refine W_regd0 ?_)
      refine W_callA rfl ?hargs (ih (n / 10) (by omega) (by omega) _) ?_
      case hargs => simp only [WB, execE, unE, args0, reduceIte, Nat.reduceEqDiff, Nat.reduceAdd, Nat.reduceLeDiff] <;> rfl
      rintro v m1 ⟨rfl, k1⟩ hs1
      repeat (first
        | ((first | refine W_op rfl rfl ?_ | (refine W_opgT rfl rfl ?hg ?_; (case hg => (simp only [WG, reduceIte, Nat.reduceEqDiff]; done)))); simp only [WB, execE, unE, args0, reduceIte, Nat.reduceEqDiff, Nat.reduceAdd, Nat.reduceLeDiff, binE, isShift, intBin, w1, w2, Int.reduceEq, Wo_some])
        | (refine W_opgF rfl rfl ?hg ?_; (case hg => (simp only [WG, reduceIte, Nat.reduceEqDiff]; done)))
        | rw [W_seq] | rw [W_reg] | rw [push_no] | rw [W_onil] | rw [W_skip] | rw [W_blk] | rw [W_b] | refine W_regd0 ?_)
      refine W_callA rfl ?hargs (ih (n % 10) (by omega) (by omega) _) ?_
      case hargs => simp only [WB, execE, unE, args0, reduceIte, Nat.reduceEqDiff, Nat.reduceAdd, Nat.reduceLeDiff] <;> rfl
      rintro v m2 ⟨rfl, k2⟩ hs2
      have l1 := nd20 (n := n / 10) (by omega)
      have l2 := nd20 (n := n % 10) (by omega)
      have hcat := strcat (dig (n / 10)) (dig (n % 10)) (by rw [dig_len, dig_len]; omega)
      repeat (first
        | ((first | refine W_op rfl rfl ?_ | (refine W_opgT rfl rfl ?hg ?_; (case hg => (simp only [WG, reduceIte, Nat.reduceEqDiff]; done)))); simp only [WB, execE, unE, args0, reduceIte, Nat.reduceEqDiff, Nat.reduceAdd, Nat.reduceLeDiff, binE, hcat, Wo_some])
        | (refine W_opgF rfl rfl ?hg ?_; (case hg => (simp only [WG, reduceIte, Nat.reduceEqDiff]; done)))
        | rw [W_seq] | rw [W_reg] | rw [push_no] | rw [W_onil] | rw [W_skip] | rw [W_blk] | rw [W_b] | refine W_regd0 ?_)
      refine W_getRet (by repeat (first | exact hg | exact args0_un (Nat.le_of_ble_eq_true rfl) | refine upd_un ?_ rfl)) ?_
      exact ⟨by rw [hs2.ds, hs1.ds]; rfl, _, rfl, by rw [dig_ge h10]; rfl, (((Keep.inn m).trans k1 (by simp)).trans k2 (by simp)).out⟩
    · have h10 : n < 10 := by simp at hA; omega
      have w1 : IntKind.i64.wrap (48 + (n : Int)) = ((48 + n : Nat) : Int) := wr_i64 (n := ((48 + n : Nat) : Int)) (by omega) (by omega)
      have w2 : IntKind.u8.wrap ((48 + n : Nat) : Int) = ((UInt8.ofNat (48 + n)).toNat : Int) := by rw [wr_u8 (by omega), UInt8.toNat_ofNat_of_lt' (show 48 + n < 256 by omega)]
      have hb : bytesOfCells [AV.i .u8 ((UInt8.ofNat (48 + n)).toNat : Int)] = some [UInt8.ofNat (48 + n)] := bytesOf_cells [UInt8.ofNat (48 + n)]
      repeat (first
        | ((first | refine W_op rfl rfl ?_ | (refine W_opgT rfl rfl ?hg ?_; (case hg => (simp only [WG, reduceIte, Nat.reduceEqDiff]; done)))); simp only [WB, execE, unE, args0, reduceIte, Nat.reduceEqDiff, Nat.reduceAdd, Nat.reduceLeDiff, binE, isShift, intBin, c0, Wo_some])
        | (refine W_opgF rfl rfl ?hg ?_; (case hg => (simp only [WG, reduceIte, Nat.reduceEqDiff]; done)))
        | rw [W_seq] | rw [W_reg] | rw [push_no] | rw [W_onil] | rw [W_skip] | rw [W_blk] | rw [W_b] | refine W_regd0 ?_)
      refine W_cond ?_
      simp only [WB, execE, unE, args0, reduceIte, Nat.reduceEqDiff, Nat.reduceAdd, Nat.reduceLeDiff, WC]
      repeat (first
        | ((first | refine W_op rfl rfl ?_ | (refine W_opgT rfl rfl ?hg ?_; (case hg => (simp only [WG, reduceIte, Nat.reduceEqDiff]; done)))); simp only [WB, execE, unE, args0, reduceIte, Nat.reduceEqDiff, Nat.reduceAdd, Nat.reduceLeDiff, binE, isShift, intBin, hA, Wo_some])
        | (refine W_opgF rfl rfl ?hg ?_; (case hg => (simp only [WG, reduceIte, Nat.reduceEqDiff]; done)))
        | rw [W_seq] | rw [W_reg] | rw [push_no] | rw [W_onil] | rw [W_skip] | rw [W_blk] | rw [W_b] | refine W_regd0 ?_)
      refine W_cond ?_
      simp only [WB, execE, unE, args0, reduceIte, Nat.reduceEqDiff, Nat.reduceAdd, Nat.reduceLeDiff, WC]
      repeat (first
        | ((first | refine W_op rfl rfl ?_ | (refine W_opgT rfl rfl ?hg ?_; (case hg => (simp only [WG, reduceIte, Nat.reduceEqDiff]; done)))); simp only [WB, execE, unE, args0, reduceIte, Nat.reduceEqDiff, Nat.reduceAdd, Nat.reduceLeDiff, binE, isShift, intBin, w1, w2, fillX, AV.cells, AV.one, splice, List.take_zero, List.nil_append, List.drop_succ_cons, List.drop_nil, List.append_nil, List.all_cons, List.all_nil, Bool.and_self, Nat.le_refl, rd, List.drop_zero, List.take_succ_cons, hb, Wo_some])
        | (refine W_opgF rfl rfl ?hg ?_; (case hg => (simp only [WG, reduceIte, Nat.reduceEqDiff]; done)))
        | rw [W_seq] | rw [W_reg] | rw [push_no] | rw [W_onil] | rw [W_skip] | rw [W_blk] | rw [W_b] | refine W_regd0 ?_)
      refine W_getRet (by repeat (first | exact hg | exact args0_un (Nat.le_of_ble_eq_true rfl) | refine upd_un ?_ rfl)) ?_
      exact ⟨rfl, _, rfl, by rw [dig_lt h10]; rfl, ((Keep.inn m).trans (Keep.new _ _) (by simp)).out⟩
theorem call18 {m : AMem} {n : Int} (h1 : -9223372036854775808 ≤ n) (h2 : n ≤ 9223372036854775807) : Vi.Call T 18 [.i .i64 n] m (fun v m' => v = .s ⟨(digI n).toArray⟩ ∧ Keep m m' []) := by
  by_cases hs : 0 ≤ n
  · obtain ⟨k, rfl⟩ : ∃ k : Nat, n = k := ⟨n.toNat, by omega⟩
    have hd : digI (k : Int) = dig k := by unfold digI; rw [if_neg (by omega)]; rfl
    rw [hd]
    exact call18n k h2 m
  · obtain ⟨u, rfl⟩ : ∃ u : Nat, n = -(u : Int) := ⟨n.natAbs, by omega⟩
    have hd : digI (-(u : Int)) = 45 :: dig u := by unfold digI; rw [if_pos (by omega)]; simp
    have hu : u ≠ 0 := by omega
    rw [hd]
    refine Vi.Call.ofP T18 (Nat.le_of_ble_eq_true rfl) ?_
    unfold v18
    have c0 : decide (-(u : Int) < 0) = true := by simp; omega
    have ht : (-(u : Int)).tdiv 10 = -((u / 10 : Nat) : Int) := by rw [Int.neg_tdiv]; rfl
    have hm : (-(u : Int)).tmod 10 = -((u % 10 : Nat) : Int) := by rw [Int.neg_tmod]; rfl
    cases hA : decide (-(u : Int) ≤ -10)
    · have h10 : u < 10 := by simp at hA; omega
      have w1 : IntKind.i64.wrap (0 - -(u : Int)) = (u : Int) := by rw [wr_i64 (by omega) (by omega)]; omega
      repeat (first
        | ((first | refine W_op rfl rfl ?_ | (refine W_opgT rfl rfl ?hg ?_; (case hg => (simp only [WG, reduceIte, Nat.reduceEqDiff]; done)))); simp only [WB, execE, unE, args0, reduceIte, Nat.reduceEqDiff, Nat.reduceAdd, Nat.reduceLeDiff, binE, isShift, intBin, c0, Wo_some])
        | (refine W_opgF rfl rfl ?hg ?_; (case hg => (simp only [WG, reduceIte, Nat.reduceEqDiff]; done)))
        | rw [W_seq] | rw [W_reg] | rw [push_no] | rw [W_onil] | rw [W_skip] | rw [W_blk] | rw [W_b] | refine W_regd0 ?_)
      refine W_cond ?_
      simp only [WB, execE, unE, args0, reduceIte, Nat.reduceEqDiff, Nat.reduceAdd, Nat.reduceLeDiff, WC]
      repeat (first
        | ((first | refine W_op rfl rfl ?_ | (refine W_opgT rfl rfl ?hg ?_; (case hg => (simp only [WG, reduceIte, Nat.reduceEqDiff]; done)))); simp only [WB, execE, unE, args0, reduceIte, Nat.reduceEqDiff, Nat.reduceAdd, Nat.reduceLeDiff, binE, isShift, intBin, hA, Wo_some])
        | (refine W_opgF rfl rfl ?hg ?_; (case hg => (simp only [WG, reduceIte, Nat.reduceEqDiff]; done)))
        | rw [W_seq] | rw [W_reg] | rw [push_no] | rw [W_onil] | rw [W_skip] | rw [W_blk] | rw [W_b] | refine W_regd0 ?_)
      refine W_cond ?_
      simp only [WB, execE, unE, args0, reduceIte, Nat.reduceEqDiff, Nat.reduceAdd, Nat.reduceLeDiff, WC]
      repeat (first
        | ((first | refine W_op rfl rfl ?_ | (refine W_opgT rfl rfl ?hg ?_; (case hg => (simp only [WG, reduceIte, Nat.reduceEqDiff]; done)))); simp only [WB, execE, unE, args0, reduceIte, Nat.reduceEqDiff, Nat.reduceAdd, Nat.reduceLeDiff, w1, Wo_some])
        | (refine W_opgF rfl rfl ?hg ?_; (case hg => (simp only [WG, reduceIte, Nat.reduceEqDiff]; done)))
        | rw [W_seq] | rw [W_reg] | rw [push_no] | rw [W_onil] | rw [W_skip] | rw [W_blk] | rw [W_b] | refine W_regd0 ?_)
      refine W_callA rfl ?hargs (call18n u (by omega) _) ?_
      case hargs => simp only [WB, execE, unE, args0, reduceIte, Nat.reduceEqDiff, Nat.reduceAdd, Nat.reduceLeDiff] <;> rfl
      rintro v m1 ⟨rfl, k1⟩ hs1
      have l1 := nd20 (n := u) (by omega)
      have hcat := strcat [45] (dig u) (by rw [dig_len]; simp; omega)
      repeat (first
        | ((first | refine W_op rfl rfl ?_ | (refine W_opgT rfl rfl ?hg ?_; (case hg => (simp only [WG, reduceIte, Nat.reduceEqDiff]; done)))); simp only [WB, execE, unE, args0, reduceIte, Nat.reduceEqDiff, Nat.reduceAdd, Nat.reduceLeDiff, binE, hcat, Wo_some])
        | (refine W_opgF rfl rfl ?hg ?_; (case hg => (simp only [WG, reduceIte, Nat.reduceEqDiff]; done)))
        | rw [W_seq] | rw [W_reg] | rw [push_no] | rw [W_onil] | rw [W_skip] | rw [W_blk] | rw [W_b] | refine W_regd0 ?_)
      refine W_getRet (by repeat (first | exact hg | exact args0_un (Nat.le_of_ble_eq_true rfl) | refine upd_un ?_ rfl)) ?_
      exact ⟨hs1.ds, _, rfl, rfl, ((Keep.inn m).trans k1 (by simp)).out⟩
    · have h10 : ¬ u < 10 := by simp at hA; omega
      have w1 : IntKind.i64.wrap (-((u / 10 : Nat) : Int)) = -((u / 10 : Nat) : Int) := wr_i64 (by omega) (by omega)
      have w2 : IntKind.i64.wrap (0 - -((u / 10 : Nat) : Int)) = ((u / 10 : Nat) : Int) := by rw [wr_i64 (by omega) (by omega)]; omega
      have w3 : IntKind.i64.wrap (0 - -((u % 10 : Nat) : Int)) = ((u % 10 : Nat) : Int) := by rw [wr_i64 (by omega) (by omega)]; omega
      repeat (first
        | ((first | refine W_op rfl rfl ?_ | (refine W_opgT rfl rfl ?hg ?_; (case hg => (simp only [WG, reduceIte, Nat.reduceEqDiff]; done)))); simp only [WB, execE, unE, args0, reduceIte, Nat.reduceEqDiff, Nat.reduceAdd, Nat.reduceLeDiff, binE, isShift, intBin, c0, Wo_some])
        | (refine W_opgF rfl rfl ?hg ?_; (case hg => (simp only [WG, reduceIte, Nat.reduceEqDiff]; done)))
        | rw [W_seq] | rw [W_reg] | rw [push_no] | rw [W_onil] | rw [W_skip] | rw [W_blk] | rw [W_b] | refine W_regd0 ?_)
      refine W_cond ?_
      simp only [WB, execE, unE, args0, reduceIte, Nat.reduceEqDiff, Nat.reduceAdd, Nat.reduceLeDiff, WC]
      repeat (first
        | ((first | refine W_op rfl rfl ?_ | (refine W_opgT rfl rfl ?hg ?_; (case hg => (simp only [WG, reduceIte, Nat.reduceEqDiff]; done)))); simp only [WB, execE, unE, args0, reduceIte, Nat.reduceEqDiff, Nat.reduceAdd, Nat.reduceLeDiff, binE, isShift, intBin, hA, Wo_some])
        | (refine W_opgF rfl rfl ?hg ?_; (case hg => (simp only [WG, reduceIte, Nat.reduceEqDiff]; done)))
        | rw [W_seq] | rw [W_reg] | rw [push_no] | rw [W_onil] | rw [W_skip] | rw [W_blk] | rw [W_b] | refine W_regd0 ?_)
      refine W_cond ?_
      simp only [WB, execE, unE, args0, reduceIte, Nat.reduceEqDiff, Nat.reduceAdd, Nat.reduceLeDiff, WC]
      repeat (first
        | ((first | refine W_op rfl rfl ?_ | (refine W_opgT rfl rfl ?hg ?_; (case hg => (simp only [WG, reduceIte, Nat.reduceEqDiff]; done)))); simp only [WB, execE, unE, args0, reduceIte, Nat.reduceEqDiff, Nat.reduceAdd, Nat.reduceLeDiff, binE, isShift, intBin, ht, w1, w2, Int.reduceEq, Wo_some])
        | (refine W_opgF rfl rfl ?hg ?_; (case hg => (simp only [WG, reduceIte, Nat.reduceEqDiff]; done)))
        | rw [W_seq] | rw [W_reg] | rw [push_no] | rw [W_onil] | rw [W_skip] | rw [W_blk] | rw [W_b] | refine W_regd0 ?_)
      refine W_callA rfl ?hargs (call18n (u / 10) (by omega) _) ?_
      case hargs => simp only [WB, execE, unE, args0, reduceIte, Nat.reduceEqDiff, Nat.reduceAdd, Nat.reduceLeDiff] <;> rfl
      rintro v m1 ⟨rfl, k1⟩ hs1
      have l1 := nd20 (n := u / 10) (by omega)
      have l2 := nd20 (n := u % 10) (by omega)
      have hcat := strcat [45] (dig (u / 10)) (by rw [dig_len]; simp; omega)
      have hcat2 := strcat ([45] ++ dig (u / 10)) (dig (u % 10)) (by rw [List.length_append, dig_len, dig_len]; simp; omega)
      repeat (first
        | ((first | refine W_op rfl rfl ?_ | (refine W_opgT rfl rfl ?hg ?_; (case hg => (simp only [WG, reduceIte, Nat.reduceEqDiff]; done)))); simp only [WB, execE, unE, args0, reduceIte, Nat.reduceEqDiff, Nat.reduceAdd, Nat.reduceLeDiff, binE, isShift, intBin, hm, w3, hcat, Int.reduceEq, Wo_some])
        | (refine W_opgF rfl rfl ?hg ?_; (case hg => (simp only [WG, reduceIte, Nat.reduceEqDiff]; done)))
        | rw [W_seq] | rw [W_reg] | rw [push_no] | rw [W_onil] | rw [W_skip] | rw [W_blk] | rw [W_b] | refine W_regd0 ?_)
      refine W_callA rfl ?hargs (call18n (u % 10) (by omega) _) ?_
      case hargs => simp only [WB, execE, unE, args0, reduceIte, Nat.reduceEqDiff, Nat.reduceAdd, Nat.reduceLeDiff] <;> rfl
      rintro v m2 ⟨rfl, k2⟩ hs2
      repeat (first
        | ((first | refine W_op rfl rfl ?_ | (refine W_opgT rfl rfl ?hg ?_; (case hg => (simp only [WG, reduceIte, Nat.reduceEqDiff]; done)))); simp only [WB, execE, unE, args0, reduceIte, Nat.reduceEqDiff, Nat.reduceAdd, Nat.reduceLeDiff, binE, hcat2, Wo_some])
        | (refine W_opgF rfl rfl ?hg ?_; (case hg => (simp only [WG, reduceIte, Nat.reduceEqDiff]; done)))
        | rw [W_seq] | rw [W_reg] | rw [push_no] | rw [W_onil] | rw [W_skip] | rw [W_blk] | rw [W_b] | refine W_regd0 ?_)
      refine W_getRet (by repeat (first | exact hg | exact args0_un (Nat.le_of_ble_eq_true rfl) | refine upd_un ?_ rfl)) ?_
      exact ⟨by rw [hs2.ds, hs1.ds]; rfl, _, rfl, by rw [dig_ge h10]; rfl, (((Keep.inn m).trans k1 (by simp)).trans k2 (by simp)).out⟩
end Go.Proofs.YtdmoecehmclohaaGreatDoor
