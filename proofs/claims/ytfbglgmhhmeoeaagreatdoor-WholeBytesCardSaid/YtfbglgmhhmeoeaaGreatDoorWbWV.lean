/- Numbers as bytes, and read again. No condition. -/
import Derived.Test.YtfbglgmhhmeoeaaGreatDoorWbVT
import Derived.Test.YtfbglgmhhmeoeaaGreatDoorWbViNode
import Derived.Test.YtfbglgmhhmeoeaaGreatDoorWbViTape
namespace Go.Proofs.YtfbglgmhhmeoeaaGreatDoor
open Go.Vi
set_option linter.unusedSimpArgs false
set_option linter.unusedVariables false
theorem shr1 (x : Nat) : Int.fdiv (x : Int) (2 ^ (min (1 : Int).toNat IntKind.u64.bits)) = ((x / 2 : Nat) : Int) := by
 show Int.fdiv (x : Int) ((2 : Nat) : Int) = _
 rw [Int.fdiv_eq_ediv_of_nonneg _ (by omega)]; rfl
theorem shr7 (x : Nat) : Int.fdiv (x : Int) (2 ^ (min (7 : Int).toNat IntKind.u64.bits)) = ((x / 128 : Nat) : Int) := by
 show Int.fdiv (x : Int) ((128 : Nat) : Int) = _
 rw [Int.fdiv_eq_ediv_of_nonneg _ (by omega)]; rfl
theorem call55 {m : AMem} (n : Nat) (h : n < 18446744073709551616) : Vi.Call T 55 [.i .u64 (n : Int)] m (fun v m' => v = .i .i64 (wid n : Int) ∧ m' = m) := by
 have h64 := wid_le 64 n (by omega)
 refine Vi.Call.ofP T55 (Nat.le_of_ble_eq_true rfl) ?_
 unfold v55
 repeat (first
  | (refine W_op rfl rfl ?_; simp only [WB, execE, unE, args0, reduceIte, Nat.reduceEqDiff, Nat.reduceAdd, Nat.reduceLeDiff, WO, fillX, splice, Wo_some]) | simp only [WS] | refine W_regd0 ?_ | refine W_regd ?_)
 refine W_loop (fun q g' m' => ∃ x k : Nat, q = x ∧ g' 0 = .i .u64 (x : Int) ∧ g' 3 = .i .i64 (k : Int) ∧ k + wid x = wid n ∧ m' = m.inn) n ?_ ?_ ?_
 ·refine ⟨n, 0, rfl, ?_, ?_, by omega, rfl⟩
  ·skip
   simp only [WT, reduceIte, Nat.reduceEqDiff, args0]
  ·skip
   simp only [WT, reduceIte, Nat.reduceEqDiff, args0, Int.ofNat_zero]
   try rfl
 ·intro i hi
  repeat (first | exact args0_un (Nat.le_of_ble_eq_true rfl) i hi | refine upd_un ?_ rfl i hi; clear i hi; intro i hi)
 ·rintro q g m1 ⟨x, k, rfl, q0, q3, hk, rfl⟩ hg
  by_cases h0 : 0 < q
  ·have c1 : decide ((q : Int) > 0) = true := decide_eq_true (by omega)
   have hp := wid_pos h0
   have hw : IntKind.i64.wrap ((k : Int) + 1) = ((k + 1 : Nat) : Int) := wr_i64 (n := (k : Int) + 1) (by omega) (by omega)
   repeat (first
    | (refine W_op rfl rfl ?_; simp only [WB, execE, unE, args0, reduceIte, Nat.reduceEqDiff, Nat.reduceAdd, Nat.reduceLeDiff, q0, q3, c1, binE, isShift, intBin, WO, fillX, splice, Wo_some]) | simp only [WS] | refine W_regd0 ?_ | refine W_regd ?_)
   refine W_cond ?_
   simp only [WB, execE, unE, args0, reduceIte, Nat.reduceEqDiff, Nat.reduceAdd, Nat.reduceLeDiff, WC]
   repeat (first
    | (refine W_op rfl rfl ?_; simp only [WB, execE, unE, args0, reduceIte, Nat.reduceEqDiff, Nat.reduceAdd, Nat.reduceLeDiff, q0, q3, hw, shr1, Bool.true_or, Int.reduceLT, binE, isShift, intBin, WO, fillX, splice, Wo_some]) | simp only [WS] | refine W_regd0 ?_ | refine W_regd ?_)
   refine W_j (by repeat (first | exact hg | exact args0_un (Nat.le_of_ble_eq_true rfl) | refine upd_un ?_ rfl)) ?_
   refine ⟨q / 2, by omega, q / 2, k + 1, rfl, ?_, ?_, by omega, rfl⟩
   ·skip
    simp only [WT, reduceIte, Nat.reduceEqDiff, args0]
   ·skip
    simp only [WT, reduceIte, Nat.reduceEqDiff, args0]
  ·obtain rfl : q = 0 := by omega
   have c1 : decide (((0 : Nat) : Int) > 0) = false := rfl
   repeat (first
    | (refine W_op rfl rfl ?_; simp only [WB, execE, unE, args0, reduceIte, Nat.reduceEqDiff, Nat.reduceAdd, Nat.reduceLeDiff, q0, q3, c1, binE, isShift, intBin, WO, fillX, splice, Wo_some]) | simp only [WS] | refine W_regd0 ?_ | refine W_regd ?_)
   refine W_cond ?_
   simp only [WB, execE, unE, args0, reduceIte, Nat.reduceEqDiff, Nat.reduceAdd, Nat.reduceLeDiff, WC]
   refine W_exit rfl ?_
   repeat (first
    | (refine W_op rfl rfl ?_; simp only [WB, execE, unE, args0, reduceIte, Nat.reduceEqDiff, Nat.reduceAdd, Nat.reduceLeDiff, q3, WO, fillX, splice, Wo_some]) | simp only [WS] | refine W_regd0 ?_ | refine W_regd ?_)
   refine W_getRet (by repeat (first | exact hg | exact args0_un (Nat.le_of_ble_eq_true rfl) | refine upd_un ?_ rfl)) ?_
   rw [wid_zero] at hk
   obtain rfl : k = wid n := by omega
   exact ⟨rfl, _, rfl, rfl, rfl⟩
theorem cells_at {b : List UInt8} {i : Nat} {c : UInt8} (h : b[i]? = some c) : (cellsOfBytes b)[i]? = some (.i .u8 (c.toNat : Int)) := by
 simp [cellsOfBytes, h]
set_option maxHeartbeats 4000000 in
theorem call34 {m : AMem} {bv : AV} {b : List UInt8} (hA : Arr m 1 bv b.length (cellsOfBytes b)) (hl : b.length ≤ 1000000000) {a : Nat} (ha : a ≤ b.length) :
  Vi.Call T 34 [bv, .i .i64 (a : Int)] m (fun v m' => v = .tup [.i .u64 ((vget b a).1 : Int), .i .i64 ((vget b a).2.1 : Int), .i .i64 (vget b a).2.2] ∧ m' = m) := by
 have hlen := hA.lenF
 refine Vi.Call.ofP T34 (Nat.le_of_ble_eq_true rfl) ?_
 unfold v34
 have c1 : decide ((a : Int) < 0) = false := decide_eq_false (by omega)
 have c2 : decide ((a : Int) > (b.length : Int)) = false := decide_eq_false (by omega)
 have hsub : IntKind.i64.wrap ((b.length : Int) - (a : Int)) = ((b.length - a : Nat) : Int) := by rw [wr_i64 (by omega) (by omega)]; omega
 have hmin : (if (10 : Int) < ((b.length - a : Nat) : Int) then (10 : Int) else ((b.length - a : Nat) : Int)) = ((min (b.length - a) 10 : Nat) : Int) := by split <;> omega
 obtain ⟨L, hL⟩ : ∃ L, L = (b.drop a).take 10 := ⟨_, rfl⟩
 have hLl : L.length = min (b.length - a) 10 := by rw [hL, List.length_take, List.length_drop]; omega
 repeat (first
  | ((first | refine W_op rfl rfl ?_ | (refine W_opgT rfl rfl ?h ?_; case h => simp only [WG, reduceIte, Nat.reduceEqDiff]; done)); simp only [WB, execE, unE, args0, reduceIte, Nat.reduceEqDiff, Nat.reduceAdd, Nat.reduceLeDiff, c1, c2, ↓hlen, binE, isShift, intBin, WO, fillX, splice, Wo_some])
  | (refine W_opgF rfl rfl ?h ?_; case h => simp only [WG, reduceIte, Nat.reduceEqDiff]; done)
  | (refine W_opgU rfl ?h ?_; case h => simp only [upd_at, reduceIte, Nat.reduceEqDiff]; done) | (refine W_callN rfl ?h ?_; case h => simp only [WG, reduceIte, Nat.reduceEqDiff]; done) | simp only [WS] | refine W_regd0 ?_ | refine W_regd ?_)
 refine W_cond ?_
 simp only [WB, execE, unE, args0, reduceIte, Nat.reduceEqDiff, Nat.reduceAdd, Nat.reduceLeDiff, WC]
 repeat (first
  | ((first | refine W_op rfl rfl ?_ | (refine W_opgT rfl rfl ?h ?_; case h => simp only [WG, reduceIte, Nat.reduceEqDiff]; done)); simp only [WB, execE, unE, args0, reduceIte, Nat.reduceEqDiff, Nat.reduceAdd, Nat.reduceLeDiff, ↓hlen, hsub, minE, hmin, binE, isShift, intBin, WO, fillX, splice, Wo_some])
  | (refine W_opgF rfl rfl ?h ?_; case h => simp only [WG, reduceIte, Nat.reduceEqDiff]; done)
  | (refine W_opgU rfl ?h ?_; case h => simp only [upd_at, reduceIte, Nat.reduceEqDiff]; done) | (refine W_callN rfl ?h ?_; case h => simp only [WG, reduceIte, Nat.reduceEqDiff]; done) | simp only [WS] | refine W_regd0 ?_ | refine W_regd ?_)
 refine W_loop (fun q g' m' => ∃ i acc : Nat, i ≤ L.length ∧ q = L.length - i ∧ g' 0 = bv ∧ g' 1 = .i .i64 (a : Int) ∧ g' 7 = .i .u64 (acc : Int) ∧ g' 23 = .i .i64 ((min (b.length - a) 10 : Nat) : Int) ∧ g' 24 = .i .i64 (i : Int) ∧ acc < 2 ^ (7 * i) ∧ acc < 18446744073709551616 ∧ vgo (decide (b.length - a < 10)) (L.drop i) i acc = vget b a ∧ m' = m.inn) L.length ?_ ?_ ?_
 ·refine ⟨0, 0, Nat.zero_le _, rfl, ?_, ?_, ?_, ?_, ?_, by simp, by omega, by rw [List.drop_zero, hL]; rfl, rfl⟩
  ·skip
   simp only [WT, reduceIte, Nat.reduceEqDiff, args0]
  ·skip
   simp only [WT, reduceIte, Nat.reduceEqDiff, args0]
  ·skip
   simp only [WT, reduceIte, Nat.reduceEqDiff, args0, Int.ofNat_zero]
   try rfl
  ·skip
   simp only [WT, reduceIte, Nat.reduceEqDiff, args0]
  ·skip
   simp only [WT, reduceIte, Nat.reduceEqDiff, args0, Int.ofNat_zero]
   try rfl
 ·intro i hi
  repeat (first | exact args0_un (Nat.le_of_ble_eq_true rfl) i hi | refine upd_un ?_ rfl i hi; clear i hi; intro i hi)
 ·rintro q g m1 ⟨i, acc, hi, rfl, q0, q1, q7, q23, q24, hacc, hacc2, hv, rfl⟩ hg
  by_cases hlt : i < L.length
  ·have c3 : decide ((i : Int) < ((min (b.length - a) 10 : Nat) : Int)) = true := decide_eq_true (by omega)
   have hlt2 : a + i < b.length := by omega
   obtain ⟨c, hc⟩ : ∃ c, b[a + i]? = some c := ⟨_, List.getElem?_eq_getElem hlt2⟩
   have hLc : L.drop i = c :: L.drop (i + 1) := by
    have e : L[i]? = some c := by rw [hL, List.getElem?_take, if_pos (by omega), List.getElem?_drop, hc]
    rw [List.drop_eq_getElem_cons hlt]
    congr 1
    rw [List.getElem?_eq_getElem hlt] at e
    exact Option.some.inj e
   obtain ⟨j, o, cap, ex, cc, wr, es, rfl, hj, hgj, hck⟩ := hA.full (by omega)
   have hcc : cc[o + (a + i)]? = some (.i .u8 (c.toNat : Int)) := (hck _ (by omega)).trans (cells_at hc)
   have hcl := c.toNat_lt
   have hix : (0 ≤ ((a + i : Nat) : Int) ∧ ((a + i : Nat) : Int) < (b.length : Int)) := ⟨by omega, by omega⟩
   have hwa : IntKind.i64.wrap ((a : Int) + (i : Int)) = ((a + i : Nat) : Int) := by rw [wr_i64 (by omega) (by omega)]; omega
   have hw7 : IntKind.i64.wrap (7 * (i : Int)) = ((7 * i : Nat) : Int) := by rw [wr_i64 (by omega) (by omega)]; omega
   have hcu : IntKind.u64.wrap (c.toNat : Int) = (c.toNat : Int) := wr_u64 (by omega)
   have hrem : (c.toNat : Int).tmod 128 = ((c.toNat % 128 : Nat) : Int) := rfl
   have hwid := wid_le 7 (c.toNat % 128) (by omega)
   have hw40 : IntKind.i64.wrap (((7 * i : Nat) : Int) + (wid (c.toNat % 128) : Int)) = ((7 * i + wid (c.toNat % 128) : Nat) : Int) := by rw [wr_i64 (by omega) (by omega)]; omega
   have hwi : IntKind.i64.wrap ((i : Int) + 1) = ((i + 1 : Nat) : Int) := wr_i64 (n := (i : Int) + 1) (by omega) (by omega)
   rw [hLc] at hv
   simp only [vgo] at hv
   repeat (first
    | ((first | refine W_op rfl rfl ?_ | (refine W_opgT rfl rfl ?h ?_; case h => simp only [WG, reduceIte, Nat.reduceEqDiff]; done)); simp only [WB, execE, unE, args0, reduceIte, Nat.reduceEqDiff, Nat.reduceAdd, Nat.reduceLeDiff, q24, q23, c3, binE, isShift, intBin, WO, fillX, splice, Wo_some])
    | (refine W_opgF rfl rfl ?h ?_; case h => simp only [WG, reduceIte, Nat.reduceEqDiff]; done)
    | (refine W_opgU rfl ?h ?_; case h => simp only [upd_at, reduceIte, Nat.reduceEqDiff]; done) | (refine W_callN rfl ?h ?_; case h => simp only [WG, reduceIte, Nat.reduceEqDiff]; done) | simp only [WS] | refine W_regd0 ?_ | refine W_regd ?_)
   refine W_cond ?_
   simp only [WB, execE, unE, args0, reduceIte, Nat.reduceEqDiff, Nat.reduceAdd, Nat.reduceLeDiff, WC]
   repeat (first
    | ((first | refine W_op rfl rfl ?_ | (refine W_opgT rfl rfl ?h ?_; case h => simp only [WG, reduceIte, Nat.reduceEqDiff]; done)); simp only [WB, execE, unE, args0, reduceIte, Nat.reduceEqDiff, Nat.reduceAdd, Nat.reduceLeDiff, q0, q1, q24, hwa, hix, Int.toNat_natCast, Nat.mul_one, hgj, hcc, hcu, hrem, hw7, Int.reduceEq, binE, isShift, intBin, WO, fillX, splice, Wo_some])
    | (refine W_opgF rfl rfl ?h ?_; case h => simp only [WG, reduceIte, Nat.reduceEqDiff]; done)
    | (refine W_opgU rfl ?h ?_; case h => simp only [upd_at, reduceIte, Nat.reduceEqDiff]; done) | (refine W_callN rfl ?h ?_; case h => simp only [WG, reduceIte, Nat.reduceEqDiff]; done) | simp only [WS] | refine W_regd0 ?_ | refine W_regd ?_)
   refine W_callA rfl ?hargs (call55 (c.toNat % 128) (by omega)) ?_
   case hargs => simp only [WB, execE, unE, args0, reduceIte, Nat.reduceEqDiff, Nat.reduceAdd, Nat.reduceLeDiff] <;> rfl
   rintro v m2 ⟨rfl, rfl⟩ -
   by_cases h64 : 64 < 7 * i + wid (c.toNat % 128)
   ·have c4 : decide (((7 * i + wid (c.toNat % 128) : Nat) : Int) > 64) = true := decide_eq_true (by omega)
    rw [if_pos h64] at hv
    repeat (first
     | ((first | refine W_op rfl rfl ?_ | (refine W_opgT rfl rfl ?h ?_; case h => simp only [WG, reduceIte, Nat.reduceEqDiff]; done)); simp only [WB, execE, unE, args0, reduceIte, Nat.reduceEqDiff, Nat.reduceAdd, Nat.reduceLeDiff, hw40, c4, binE, isShift, intBin, WO, fillX, splice, Wo_some])
     | (refine W_opgF rfl rfl ?h ?_; case h => simp only [WG, reduceIte, Nat.reduceEqDiff]; done)
     | (refine W_opgU rfl ?h ?_; case h => simp only [upd_at, reduceIte, Nat.reduceEqDiff]; done) | (refine W_callN rfl ?h ?_; case h => simp only [WG, reduceIte, Nat.reduceEqDiff]; done) | simp only [WS] | refine W_regd0 ?_ | refine W_regd ?_)
    refine W_cond ?_
    simp only [WB, execE, unE, args0, reduceIte, Nat.reduceEqDiff, Nat.reduceAdd, Nat.reduceLeDiff, WC]
    repeat (first
     | ((first | refine W_op rfl rfl ?_ | (refine W_opgT rfl rfl ?h ?_; case h => simp only [WG, reduceIte, Nat.reduceEqDiff]; done)); simp only [WB, execE, unE, args0, reduceIte, Nat.reduceEqDiff, Nat.reduceAdd, Nat.reduceLeDiff, WO, fillX, splice, Wo_some])
     | (refine W_opgF rfl rfl ?h ?_; case h => simp only [WG, reduceIte, Nat.reduceEqDiff]; done)
     | (refine W_opgU rfl ?h ?_; case h => simp only [upd_at, reduceIte, Nat.reduceEqDiff]; done) | (refine W_callN rfl ?h ?_; case h => simp only [WG, reduceIte, Nat.reduceEqDiff]; done) | simp only [WS] | refine W_regd0 ?_ | refine W_regd ?_)
    refine W_getRet (by repeat (first | exact hg | exact args0_un (Nat.le_of_ble_eq_true rfl) | refine upd_un ?_ rfl)) ?_
    rw [← hv]
    exact ⟨rfl, _, rfl, rfl, rfl⟩
   have c4 : decide (((7 * i + wid (c.toNat % 128) : Nat) : Int) > 64) = false := decide_eq_false (by omega)
   rw [if_neg h64] at hv
   have hb : c.toNat % 128 < 2 ^ (64 - 7 * i) := Nat.lt_of_lt_of_le (lt_wid _) (Nat.pow_le_pow_right (by omega) (by omega))
   have hm : acc + c.toNat % 128 * 2 ^ (7 * i) < 18446744073709551616 := by
    have e : 2 ^ (64 - 7 * i) * 2 ^ (7 * i) = 18446744073709551616 := by rw [← Nat.pow_add, show 64 - 7 * i + 7 * i = 64 by omega]
    have : (c.toNat % 128 + 1) * 2 ^ (7 * i) ≤ 2 ^ (64 - 7 * i) * 2 ^ (7 * i) := Nat.mul_le_mul_right _ hb
    rw [Nat.add_mul, Nat.one_mul] at this
    omega
   have hnn : (((7 * i : Nat) : Int) < 0) = False := by simp; omega
   have hshl : IntKind.u64.wrap (((c.toNat % 128 : Nat) : Int) * 2 ^ (min ((7 * i : Nat) : Int).toNat IntKind.u64.bits)) = ((c.toNat % 128 * 2 ^ (7 * i) : Nat) : Int) := by
    rw [Int.toNat_natCast, show min (7 * i) IntKind.u64.bits = 7 * i from Nat.min_eq_left (by show 7 * i ≤ 64; omega)]
    rw [show ((c.toNat % 128 : Nat) : Int) * 2 ^ (7 * i) = ((c.toNat % 128 * 2 ^ (7 * i) : Nat) : Int) by push_cast; rfl]
    exact wr_u64 (by omega)
   have hor : IntKind.u64.wrap ((BitVec.ofInt IntKind.u64.bits (acc : Int) ||| BitVec.ofInt IntKind.u64.bits ((c.toNat % 128 * 2 ^ (7 * i) : Nat) : Int)).toNat : Int) = ((acc + c.toNat % 128 * 2 ^ (7 * i) : Nat) : Int) := or_add hacc hm
   by_cases h128 : c.toNat < 128
   ·have c5 : decide ((c.toNat : Int) < 128) = true := decide_eq_true (by omega)
    rw [if_pos h128] at hv
    by_cases hz : c.toNat = 0 ∧ 0 < i
    ·rw [if_pos hz] at hv
     have c6 : ((c.toNat : Int) == 0) = true := by simpa using hz.1
     have c7 : decide ((i : Int) > 0) = true := decide_eq_true (by omega)
     repeat (first
      | ((first | refine W_op rfl rfl ?_ | (refine W_opgT rfl rfl ?h ?_; case h => simp only [WG, reduceIte, Nat.reduceEqDiff]; done)); simp only [WB, execE, unE, args0, reduceIte, Nat.reduceEqDiff, Nat.reduceAdd, Nat.reduceLeDiff, hw40, c4, binE, isShift, intBin, WO, fillX, splice, Wo_some])
      | (refine W_opgF rfl rfl ?h ?_; case h => simp only [WG, reduceIte, Nat.reduceEqDiff]; done)
      | (refine W_opgU rfl ?h ?_; case h => simp only [upd_at, reduceIte, Nat.reduceEqDiff]; done) | (refine W_callN rfl ?h ?_; case h => simp only [WG, reduceIte, Nat.reduceEqDiff]; done) | simp only [WS] | refine W_regd0 ?_ | refine W_regd ?_)
     refine W_cond ?_
     simp only [WB, execE, unE, args0, reduceIte, Nat.reduceEqDiff, Nat.reduceAdd, Nat.reduceLeDiff, WC]
     repeat (first
      | ((first | refine W_op rfl rfl ?_ | (refine W_opgT rfl rfl ?h ?_; case h => simp only [WG, reduceIte, Nat.reduceEqDiff]; done)); simp only [WB, execE, unE, args0, reduceIte, Nat.reduceEqDiff, Nat.reduceAdd, Nat.reduceLeDiff, q7, hw7, hnn, hshl, hor, c5, Bool.true_or, binE, isShift, intBin, WO, fillX, splice, Wo_some])
      | (refine W_opgF rfl rfl ?h ?_; case h => simp only [WG, reduceIte, Nat.reduceEqDiff]; done)
      | (refine W_opgU rfl ?h ?_; case h => simp only [upd_at, reduceIte, Nat.reduceEqDiff]; done) | (refine W_callN rfl ?h ?_; case h => simp only [WG, reduceIte, Nat.reduceEqDiff]; done) | simp only [WS] | refine W_regd0 ?_ | refine W_regd ?_)
     refine W_cond ?_
     simp only [WB, execE, unE, args0, reduceIte, Nat.reduceEqDiff, Nat.reduceAdd, Nat.reduceLeDiff, WC]
     repeat (first
      | ((first | refine W_op rfl rfl ?_ | (refine W_opgT rfl rfl ?h ?_; case h => simp only [WG, reduceIte, Nat.reduceEqDiff]; done)); simp only [WB, execE, unE, args0, reduceIte, Nat.reduceEqDiff, Nat.reduceAdd, Nat.reduceLeDiff, c6, c7, binE, isShift, intBin, WO, fillX, splice, Wo_some])
      | (refine W_opgF rfl rfl ?h ?_; case h => simp only [WG, reduceIte, Nat.reduceEqDiff]; done)
      | (refine W_opgU rfl ?h ?_; case h => simp only [upd_at, reduceIte, Nat.reduceEqDiff]; done) | (refine W_callN rfl ?h ?_; case h => simp only [WG, reduceIte, Nat.reduceEqDiff]; done) | simp only [WS] | refine W_regd0 ?_ | refine W_regd ?_)
     refine W_cond ?_
     simp only [WB, execE, unE, args0, reduceIte, Nat.reduceEqDiff, Nat.reduceAdd, Nat.reduceLeDiff, WC]
     repeat (first
      | ((first | refine W_op rfl rfl ?_ | (refine W_opgT rfl rfl ?h ?_; case h => simp only [WG, reduceIte, Nat.reduceEqDiff]; done)); simp only [WB, execE, unE, args0, reduceIte, Nat.reduceEqDiff, Nat.reduceAdd, Nat.reduceLeDiff, WO, fillX, splice, Wo_some])
      | (refine W_opgF rfl rfl ?h ?_; case h => simp only [WG, reduceIte, Nat.reduceEqDiff]; done)
      | (refine W_opgU rfl ?h ?_; case h => simp only [upd_at, reduceIte, Nat.reduceEqDiff]; done) | (refine W_callN rfl ?h ?_; case h => simp only [WG, reduceIte, Nat.reduceEqDiff]; done) | simp only [WS] | refine W_regd0 ?_ | refine W_regd ?_)
     refine W_getRet (by repeat (first | exact hg | exact args0_un (Nat.le_of_ble_eq_true rfl) | refine upd_un ?_ rfl)) ?_
     rw [← hv]
     exact ⟨rfl, _, rfl, rfl, rfl⟩
    ·rw [if_neg hz] at hv
     have hc67 : ((c.toNat : Int) == 0) = false ∨ (((c.toNat : Int) == 0) = true ∧ decide ((i : Int) > 0) = false) := by
      by_cases h : c.toNat = 0
      ·exact .inr ⟨by simpa using h, decide_eq_false (by omega)⟩
      ·exact .inl (by simpa using h)
     rcases hc67 with c6 | ⟨c6, c7⟩
     all_goals
      repeat (first
       | ((first | refine W_op rfl rfl ?_ | (refine W_opgT rfl rfl ?h ?_; case h => simp only [WG, reduceIte, Nat.reduceEqDiff]; done)); simp only [WB, execE, unE, args0, reduceIte, Nat.reduceEqDiff, Nat.reduceAdd, Nat.reduceLeDiff, hw40, c4, binE, isShift, intBin, WO, fillX, splice, Wo_some])
       | (refine W_opgF rfl rfl ?h ?_; case h => simp only [WG, reduceIte, Nat.reduceEqDiff]; done)
       | (refine W_opgU rfl ?h ?_; case h => simp only [upd_at, reduceIte, Nat.reduceEqDiff]; done) | (refine W_callN rfl ?h ?_; case h => simp only [WG, reduceIte, Nat.reduceEqDiff]; done) | simp only [WS] | refine W_regd0 ?_ | refine W_regd ?_)
      refine W_cond ?_
      simp only [WB, execE, unE, args0, reduceIte, Nat.reduceEqDiff, Nat.reduceAdd, Nat.reduceLeDiff, WC]
      repeat (first
       | ((first | refine W_op rfl rfl ?_ | (refine W_opgT rfl rfl ?h ?_; case h => simp only [WG, reduceIte, Nat.reduceEqDiff]; done)); simp only [WB, execE, unE, args0, reduceIte, Nat.reduceEqDiff, Nat.reduceAdd, Nat.reduceLeDiff, q7, hw7, hnn, hshl, hor, c5, Bool.true_or, binE, isShift, intBin, WO, fillX, splice, Wo_some])
       | (refine W_opgF rfl rfl ?h ?_; case h => simp only [WG, reduceIte, Nat.reduceEqDiff]; done)
       | (refine W_opgU rfl ?h ?_; case h => simp only [upd_at, reduceIte, Nat.reduceEqDiff]; done) | (refine W_callN rfl ?h ?_; case h => simp only [WG, reduceIte, Nat.reduceEqDiff]; done) | simp only [WS] | refine W_regd0 ?_ | refine W_regd ?_)
      refine W_cond ?_
      simp only [WB, execE, unE, args0, reduceIte, Nat.reduceEqDiff, Nat.reduceAdd, Nat.reduceLeDiff, WC]
     ·skip
      repeat (first
       | ((first | refine W_op rfl rfl ?_ | (refine W_opgT rfl rfl ?h ?_; case h => simp only [WG, reduceIte, Nat.reduceEqDiff]; done)); simp only [WB, execE, unE, args0, reduceIte, Nat.reduceEqDiff, Nat.reduceAdd, Nat.reduceLeDiff, c6, binE, isShift, intBin, WO, fillX, splice, Wo_some])
       | (refine W_opgF rfl rfl ?h ?_; case h => simp only [WG, reduceIte, Nat.reduceEqDiff]; done)
       | (refine W_opgU rfl ?h ?_; case h => simp only [upd_at, reduceIte, Nat.reduceEqDiff]; done) | (refine W_callN rfl ?h ?_; case h => simp only [WG, reduceIte, Nat.reduceEqDiff]; done) | simp only [WS] | refine W_regd0 ?_ | refine W_regd ?_)
      refine W_cond ?_
      simp only [WB, execE, unE, args0, reduceIte, Nat.reduceEqDiff, Nat.reduceAdd, Nat.reduceLeDiff, WC]
      repeat (first
       | ((first | refine W_op rfl rfl ?_ | (refine W_opgT rfl rfl ?h ?_; case h => simp only [WG, reduceIte, Nat.reduceEqDiff]; done)); simp only [WB, execE, unE, args0, reduceIte, Nat.reduceEqDiff, Nat.reduceAdd, Nat.reduceLeDiff, hwi, binE, isShift, intBin, WO, fillX, splice, Wo_some])
       | (refine W_opgF rfl rfl ?h ?_; case h => simp only [WG, reduceIte, Nat.reduceEqDiff]; done)
       | (refine W_opgU rfl ?h ?_; case h => simp only [upd_at, reduceIte, Nat.reduceEqDiff]; done) | (refine W_callN rfl ?h ?_; case h => simp only [WG, reduceIte, Nat.reduceEqDiff]; done) | simp only [WS] | refine W_regd0 ?_ | refine W_regd ?_)
      refine W_getRet (by repeat (first | exact hg | exact args0_un (Nat.le_of_ble_eq_true rfl) | refine upd_un ?_ rfl)) ?_
      rw [← hv]
      exact ⟨rfl, _, rfl, rfl, rfl⟩
     ·skip
      repeat (first
       | ((first | refine W_op rfl rfl ?_ | (refine W_opgT rfl rfl ?h ?_; case h => simp only [WG, reduceIte, Nat.reduceEqDiff]; done)); simp only [WB, execE, unE, args0, reduceIte, Nat.reduceEqDiff, Nat.reduceAdd, Nat.reduceLeDiff, c6, c7, binE, isShift, intBin, WO, fillX, splice, Wo_some])
       | (refine W_opgF rfl rfl ?h ?_; case h => simp only [WG, reduceIte, Nat.reduceEqDiff]; done)
       | (refine W_opgU rfl ?h ?_; case h => simp only [upd_at, reduceIte, Nat.reduceEqDiff]; done) | (refine W_callN rfl ?h ?_; case h => simp only [WG, reduceIte, Nat.reduceEqDiff]; done) | simp only [WS] | refine W_regd0 ?_ | refine W_regd ?_)
      refine W_cond ?_
      simp only [WB, execE, unE, args0, reduceIte, Nat.reduceEqDiff, Nat.reduceAdd, Nat.reduceLeDiff, WC]
      repeat (first
       | ((first | refine W_op rfl rfl ?_ | (refine W_opgT rfl rfl ?h ?_; case h => simp only [WG, reduceIte, Nat.reduceEqDiff]; done)); simp only [WB, execE, unE, args0, reduceIte, Nat.reduceEqDiff, Nat.reduceAdd, Nat.reduceLeDiff, hwi, binE, isShift, intBin, WO, fillX, splice, Wo_some])
       | (refine W_opgF rfl rfl ?h ?_; case h => simp only [WG, reduceIte, Nat.reduceEqDiff]; done)
       | (refine W_opgU rfl ?h ?_; case h => simp only [upd_at, reduceIte, Nat.reduceEqDiff]; done) | (refine W_callN rfl ?h ?_; case h => simp only [WG, reduceIte, Nat.reduceEqDiff]; done) | simp only [WS] | refine W_regd0 ?_ | refine W_regd ?_)
      refine W_getRet (by repeat (first | exact hg | exact args0_un (Nat.le_of_ble_eq_true rfl) | refine upd_un ?_ rfl)) ?_
      rw [← hv]
      exact ⟨rfl, _, rfl, rfl, rfl⟩
   ·have c5 : decide ((c.toNat : Int) < 128) = false := decide_eq_false (by omega)
    rw [if_neg h128] at hv
    have hm2 : acc + c.toNat % 128 * 2 ^ (7 * i) < 2 ^ (7 * (i + 1)) := by
     rw [show 7 * (i + 1) = 7 * i + 7 by omega, Nat.pow_add]
     have : (c.toNat % 128 + 1) * 2 ^ (7 * i) ≤ 128 * 2 ^ (7 * i) := Nat.mul_le_mul_right _ (by omega)
     rw [Nat.add_mul, Nat.one_mul] at this
     have : 2 ^ (7 * i) * 2 ^ 7 = 128 * 2 ^ (7 * i) := by rw [Nat.mul_comm]
     omega
    repeat (first
     | ((first | refine W_op rfl rfl ?_ | (refine W_opgT rfl rfl ?h ?_; case h => simp only [WG, reduceIte, Nat.reduceEqDiff]; done)); simp only [WB, execE, unE, args0, reduceIte, Nat.reduceEqDiff, Nat.reduceAdd, Nat.reduceLeDiff, hw40, c4, binE, isShift, intBin, WO, fillX, splice, Wo_some])
     | (refine W_opgF rfl rfl ?h ?_; case h => simp only [WG, reduceIte, Nat.reduceEqDiff]; done)
     | (refine W_opgU rfl ?h ?_; case h => simp only [upd_at, reduceIte, Nat.reduceEqDiff]; done) | (refine W_callN rfl ?h ?_; case h => simp only [WG, reduceIte, Nat.reduceEqDiff]; done) | simp only [WS] | refine W_regd0 ?_ | refine W_regd ?_)
    refine W_cond ?_
    simp only [WB, execE, unE, args0, reduceIte, Nat.reduceEqDiff, Nat.reduceAdd, Nat.reduceLeDiff, WC]
    repeat (first
     | ((first | refine W_op rfl rfl ?_ | (refine W_opgT rfl rfl ?h ?_; case h => simp only [WG, reduceIte, Nat.reduceEqDiff]; done)); simp only [WB, execE, unE, args0, reduceIte, Nat.reduceEqDiff, Nat.reduceAdd, Nat.reduceLeDiff, q7, hw7, hnn, hshl, hor, c5, Bool.true_or, binE, isShift, intBin, WO, fillX, splice, Wo_some])
     | (refine W_opgF rfl rfl ?h ?_; case h => simp only [WG, reduceIte, Nat.reduceEqDiff]; done)
     | (refine W_opgU rfl ?h ?_; case h => simp only [upd_at, reduceIte, Nat.reduceEqDiff]; done) | (refine W_callN rfl ?h ?_; case h => simp only [WG, reduceIte, Nat.reduceEqDiff]; done) | simp only [WS] | refine W_regd0 ?_ | refine W_regd ?_)
    refine W_cond ?_
    simp only [WB, execE, unE, args0, reduceIte, Nat.reduceEqDiff, Nat.reduceAdd, Nat.reduceLeDiff, WC]
    repeat (first
     | ((first | refine W_op rfl rfl ?_ | (refine W_opgT rfl rfl ?h ?_; case h => simp only [WG, reduceIte, Nat.reduceEqDiff]; done)); simp only [WB, execE, unE, args0, reduceIte, Nat.reduceEqDiff, Nat.reduceAdd, Nat.reduceLeDiff, q24, hwi, binE, isShift, intBin, WO, fillX, splice, Wo_some])
     | (refine W_opgF rfl rfl ?h ?_; case h => simp only [WG, reduceIte, Nat.reduceEqDiff]; done)
     | (refine W_opgU rfl ?h ?_; case h => simp only [upd_at, reduceIte, Nat.reduceEqDiff]; done) | (refine W_callN rfl ?h ?_; case h => simp only [WG, reduceIte, Nat.reduceEqDiff]; done) | simp only [WS] | refine W_regd0 ?_ | refine W_regd ?_)
    refine W_j (by repeat (first | exact hg | exact args0_un (Nat.le_of_ble_eq_true rfl) | refine upd_un ?_ rfl)) ?_
    refine ⟨L.length - (i + 1), by omega, i + 1, _, by omega, rfl, ?_, ?_, ?_, ?_, ?_, hm2, hm, hv, rfl⟩
    ·skip
     simp only [WT, reduceIte, Nat.reduceEqDiff, args0, q0]
    ·skip
     simp only [WT, reduceIte, Nat.reduceEqDiff, args0, q1]
    ·skip
     simp only [WT, reduceIte, Nat.reduceEqDiff, args0]
    ·skip
     simp only [WT, reduceIte, Nat.reduceEqDiff, args0, q23]
    ·skip
     simp only [WT, reduceIte, Nat.reduceEqDiff, args0]
  ·have c3 : decide ((i : Int) < ((min (b.length - a) 10 : Nat) : Int)) = false := decide_eq_false (by omega)
   have hd : L.drop i = [] := List.drop_of_length_le (by omega)
   rw [hd] at hv
   simp only [vgo] at hv
   repeat (first
    | ((first | refine W_op rfl rfl ?_ | (refine W_opgT rfl rfl ?h ?_; case h => simp only [WG, reduceIte, Nat.reduceEqDiff]; done)); simp only [WB, execE, unE, args0, reduceIte, Nat.reduceEqDiff, Nat.reduceAdd, Nat.reduceLeDiff, q24, q23, c3, binE, isShift, intBin, WO, fillX, splice, Wo_some])
    | (refine W_opgF rfl rfl ?h ?_; case h => simp only [WG, reduceIte, Nat.reduceEqDiff]; done)
    | (refine W_opgU rfl ?h ?_; case h => simp only [upd_at, reduceIte, Nat.reduceEqDiff]; done) | (refine W_callN rfl ?h ?_; case h => simp only [WG, reduceIte, Nat.reduceEqDiff]; done) | simp only [WS] | refine W_regd0 ?_ | refine W_regd ?_)
   refine W_cond ?_
   simp only [WB, execE, unE, args0, reduceIte, Nat.reduceEqDiff, Nat.reduceAdd, Nat.reduceLeDiff, WC]
   refine W_exit rfl ?_
   by_cases h10 : b.length - a < 10
   ·have c4 : decide (((b.length - a : Nat) : Int) < 10) = true := decide_eq_true (by omega)
    repeat (first
     | ((first | refine W_op rfl rfl ?_ | (refine W_opgT rfl rfl ?h ?_; case h => simp only [WG, reduceIte, Nat.reduceEqDiff]; done)); simp only [WB, execE, unE, args0, reduceIte, Nat.reduceEqDiff, Nat.reduceAdd, Nat.reduceLeDiff, q0, q1, ↓hlen, hsub, c4, binE, isShift, intBin, WO, fillX, splice, Wo_some])
     | (refine W_opgF rfl rfl ?h ?_; case h => simp only [WG, reduceIte, Nat.reduceEqDiff]; done)
     | (refine W_opgU rfl ?h ?_; case h => simp only [upd_at, reduceIte, Nat.reduceEqDiff]; done) | (refine W_callN rfl ?h ?_; case h => simp only [WG, reduceIte, Nat.reduceEqDiff]; done) | simp only [WS] | refine W_regd0 ?_ | refine W_regd ?_)
    refine W_cond ?_
    simp only [WB, execE, unE, args0, reduceIte, Nat.reduceEqDiff, Nat.reduceAdd, Nat.reduceLeDiff, WC]
    repeat (first
     | ((first | refine W_op rfl rfl ?_ | (refine W_opgT rfl rfl ?h ?_; case h => simp only [WG, reduceIte, Nat.reduceEqDiff]; done)); simp only [WB, execE, unE, args0, reduceIte, Nat.reduceEqDiff, Nat.reduceAdd, Nat.reduceLeDiff, WO, fillX, splice, Wo_some])
     | (refine W_opgF rfl rfl ?h ?_; case h => simp only [WG, reduceIte, Nat.reduceEqDiff]; done)
     | (refine W_opgU rfl ?h ?_; case h => simp only [upd_at, reduceIte, Nat.reduceEqDiff]; done) | (refine W_callN rfl ?h ?_; case h => simp only [WG, reduceIte, Nat.reduceEqDiff]; done) | simp only [WS] | refine W_regd0 ?_ | refine W_regd ?_)
    refine W_getRet (by repeat (first | exact hg | exact args0_un (Nat.le_of_ble_eq_true rfl) | refine upd_un ?_ rfl)) ?_
    rw [← hv, decide_eq_true h10]
    exact ⟨rfl, _, rfl, rfl, rfl⟩
   ·have c4 : decide (((b.length - a : Nat) : Int) < 10) = false := decide_eq_false (by omega)
    repeat (first
     | ((first | refine W_op rfl rfl ?_ | (refine W_opgT rfl rfl ?h ?_; case h => simp only [WG, reduceIte, Nat.reduceEqDiff]; done)); simp only [WB, execE, unE, args0, reduceIte, Nat.reduceEqDiff, Nat.reduceAdd, Nat.reduceLeDiff, q0, q1, ↓hlen, hsub, c4, binE, isShift, intBin, WO, fillX, splice, Wo_some])
     | (refine W_opgF rfl rfl ?h ?_; case h => simp only [WG, reduceIte, Nat.reduceEqDiff]; done)
     | (refine W_opgU rfl ?h ?_; case h => simp only [upd_at, reduceIte, Nat.reduceEqDiff]; done) | (refine W_callN rfl ?h ?_; case h => simp only [WG, reduceIte, Nat.reduceEqDiff]; done) | simp only [WS] | refine W_regd0 ?_ | refine W_regd ?_)
    refine W_cond ?_
    simp only [WB, execE, unE, args0, reduceIte, Nat.reduceEqDiff, Nat.reduceAdd, Nat.reduceLeDiff, WC]
    repeat (first
     | ((first | refine W_op rfl rfl ?_ | (refine W_opgT rfl rfl ?h ?_; case h => simp only [WG, reduceIte, Nat.reduceEqDiff]; done)); simp only [WB, execE, unE, args0, reduceIte, Nat.reduceEqDiff, Nat.reduceAdd, Nat.reduceLeDiff, WO, fillX, splice, Wo_some])
     | (refine W_opgF rfl rfl ?h ?_; case h => simp only [WG, reduceIte, Nat.reduceEqDiff]; done)
     | (refine W_opgU rfl ?h ?_; case h => simp only [upd_at, reduceIte, Nat.reduceEqDiff]; done) | (refine W_callN rfl ?h ?_; case h => simp only [WG, reduceIte, Nat.reduceEqDiff]; done) | simp only [WS] | refine W_regd0 ?_ | refine W_regd ?_)
    refine W_getRet (by repeat (first | exact hg | exact args0_un (Nat.le_of_ble_eq_true rfl) | refine upd_un ?_ rfl)) ?_
    rw [← hv, decide_eq_false h10]
    exact ⟨rfl, _, rfl, rfl, rfl⟩
def ByR (m m' : AMem) (av : AV) (l : List UInt8) : Prop := ∃ ty oj, RowE m' 1 ty av oj l.length (cellsOfBytes l) ∧ ∀ k, oj = some k → m.next ≤ k
set_option maxHeartbeats 2000000 in
theorem call38 {m : AMem} (n : Nat) (h : n < 18446744073709551616) : Vi.Call T 38 [.i .u64 (n : Int)] m (fun v m' => ByR m m' v (vb n) ∧ Keep m m' []) := by
 have h10 := vb_len64 h
 refine Vi.Call.ofP T38 (Nat.le_of_ble_eq_true rfl) ?_
 unfold v38
 repeat (first
  | (refine W_op rfl rfl ?_; simp only [WB, execE, unE, args0, reduceIte, Nat.reduceEqDiff, Nat.reduceAdd, Nat.reduceLeDiff, WO, fillX, splice, Wo_some]) | simp only [WS] | refine W_regd0 ?_ | refine W_regd ?_)
 refine W_loop (fun q g' m' => ∃ (x : Nat) (l : List UInt8) (av : AV) (ty oj : Option Nat), q = x ∧ g' 0 = .i .u64 (x : Int) ∧ g' 3 = av ∧ x ≤ n ∧ l ++ vb x = vb n ∧ RowE m' 1 ty av oj l.length (cellsOfBytes l) ∧ (∀ k, oj = some k → m.next ≤ k) ∧ Keep m m' [] ∧ m'.ds = []) n ?_ ?_ ?_
 ·refine ⟨n, [], _, none, none, rfl, ?_, ?_, Nat.le_refl _, rfl, RowE.nil _ _ _, nofun, Keep.inn m, rfl⟩
  ·skip
   simp only [WT, reduceIte, Nat.reduceEqDiff, args0]
  ·skip
   simp only [WT, reduceIte, Nat.reduceEqDiff, args0]
 ·intro i hi
  repeat (first | exact args0_un (Nat.le_of_ble_eq_true rfl) i hi | refine upd_un ?_ rfl i hi; clear i hi; intro i hi)
 ·rintro q g m1 ⟨x, l, av, ty, oj, rfl, q0, q3, hx, hv, hR, hoj, k1, d1⟩ hg
  have hll : l.length + (vb q).length = (vb n).length := by rw [← hv, List.length_append]
  have hne := List.length_pos_iff.2 (vb_ne q)
  by_cases h128 : 128 ≤ q
  ·have c1 : decide ((q : Int) ≥ 128) = true := decide_eq_true (by omega)
   have hrem : (q : Int).tmod 128 = ((q % 128 : Nat) : Int) := rfl
   have hor : IntKind.u64.wrap ((BitVec.ofInt IntKind.u64.bits ((q % 128 : Nat) : Int) ||| BitVec.ofInt IntKind.u64.bits 128).toNat : Int) = ((q % 128 + 128 : Nat) : Int) := by
    exact or_add (a := q % 128) (b := 1) (i := 7) (by omega) (by omega)
   have hw8 : IntKind.u8.wrap ((q % 128 + 128 : Nat) : Int) = ((q % 128 + 128 : Nat) : Int) := wr_u8 (by omega)
   repeat (first
    | (refine W_op rfl rfl ?_; simp only [WB, execE, unE, args0, reduceIte, Nat.reduceEqDiff, Nat.reduceAdd, Nat.reduceLeDiff, q0, c1, binE, isShift, intBin, WO, fillX, splice, Wo_some]) | simp only [WS] | refine W_regd0 ?_ | refine W_regd ?_)
   refine W_cond ?_
   simp only [WB, execE, unE, args0, reduceIte, Nat.reduceEqDiff, Nat.reduceAdd, Nat.reduceLeDiff, WC]
   repeat (first
    | ((first | refine W_opA rfl rfl rfl ?_ | (refine W_opgT rfl rfl ?h ?_; case h => simp only [WG, reduceIte, Nat.reduceEqDiff]; done)); simp only [WB, execE, unE, args0, reduceIte, Nat.reduceEqDiff, Nat.reduceAdd, Nat.reduceLeDiff, q0, q3, hrem, hor, hw8, Int.reduceEq, binE, isShift, intBin, WO, fillX, splice, Wo_some]) | simp only [WS] | refine W_regd0 ?_ | refine W_regd ?_)
   refine W_app (n := l.length) (k := 1) (new := [.i .u8 ((q % 128 + 128 : Nat) : Int)]) (ls := cellsOfBytes l) rfl ((hR.keep (Keep.new _ _) (by simp)).as ?hrow) ?hsrc rfl rfl (roomyOf (by omega) (by omega)) ?_
   case hrow =>
    simp only [WB, execE, unE, args0, reduceIte, Nat.reduceEqDiff, Nat.reduceAdd, Nat.reduceLeDiff, q3]
   case hsrc =>
    simp only [WB, execE, unE, args0, reduceIte, Nat.reduceEqDiff, Nat.reduceAdd, Nat.reduceLeDiff]
    exact src_new rfl
   intro av' oj' m3 ty' r3 ds3 ro3 o3 k3 _
   have k13 : Keep m1 m3 oj.toList := (Keep.new _ _).nil.trans k3 (fun i hi => .inl hi)
   repeat (first
    | (refine W_op rfl rfl ?_; simp only [WB, execE, unE, args0, reduceIte, Nat.reduceEqDiff, Nat.reduceAdd, Nat.reduceLeDiff, q0, shr7, Bool.true_or, Int.reduceLT, binE, isShift, intBin, WO, fillX, splice, Wo_some]) | simp only [WS] | refine W_regd0 ?_ | refine W_regd ?_)
   refine W_j (by repeat (first | exact hg | exact args0_un (Nat.le_of_ble_eq_true rfl) | refine upd_un ?_ rfl)) ?_
   refine ⟨q / 128, by omega, q / 128, l ++ [UInt8.ofNat (q % 128 + 128)], av', ty', oj', rfl, ?_, ?_, by omega, ?_, ?_, ?_, ?_, ds3.trans d1⟩
   ·skip
    simp only [WT, reduceIte, Nat.reduceEqDiff, args0]
   ·skip
    simp only [WT, reduceIte, Nat.reduceEqDiff, args0]
   ·rw [← hv, vb_ge h128]; simp
   ·rw [bytes_app, List.length_append]
    have e : cellsOfBytes [UInt8.ofNat (q % 128 + 128)] = [.i .u8 ((q % 128 + 128 : Nat) : Int)] := by
     simp only [cellsOfBytes, List.map_cons, List.map_nil, u8_nat (show q % 128 + 128 < 256 by omega)]
    rw [e]
    exact r3
   ·intro k hk
    rcases o3 with h | ⟨k', h, h2⟩
    ·exact hoj k (h ▸ hk)
    ·rw [h] at hk; cases hk
     have := k1.next
     simp only [AMem.next_new] at h2
     omega
   ·refine k1.trans k13 ?_
    intro y hy
    right
    exact hoj y (by simpa using hy)
  ·have c1 : decide ((q : Int) ≥ 128) = false := decide_eq_false (by omega)
   have hw8 : IntKind.u8.wrap (q : Int) = (q : Int) := wr_u8 (by omega)
   repeat (first
    | (refine W_op rfl rfl ?_; simp only [WB, execE, unE, args0, reduceIte, Nat.reduceEqDiff, Nat.reduceAdd, Nat.reduceLeDiff, q0, c1, binE, isShift, intBin, WO, fillX, splice, Wo_some]) | simp only [WS] | refine W_regd0 ?_ | refine W_regd ?_)
   refine W_cond ?_
   simp only [WB, execE, unE, args0, reduceIte, Nat.reduceEqDiff, Nat.reduceAdd, Nat.reduceLeDiff, WC]
   refine W_exit rfl ?_
   repeat (first
    | ((first | refine W_opA rfl rfl rfl ?_ | (refine W_opgT rfl rfl ?h ?_; case h => simp only [WG, reduceIte, Nat.reduceEqDiff]; done)); simp only [WB, execE, unE, args0, reduceIte, Nat.reduceEqDiff, Nat.reduceAdd, Nat.reduceLeDiff, q0, q3, hw8, binE, isShift, intBin, WO, fillX, splice, Wo_some]) | simp only [WS] | refine W_regd0 ?_ | refine W_regd ?_)
   refine W_app (n := l.length) (k := 1) (new := [.i .u8 (q : Int)]) (ls := cellsOfBytes l) rfl ((hR.keep (Keep.new _ _) (by simp)).as ?hrow) ?hsrc rfl rfl (roomyOf (by omega) (by omega)) ?_
   case hrow =>
    simp only [WB, execE, unE, args0, reduceIte, Nat.reduceEqDiff, Nat.reduceAdd, Nat.reduceLeDiff, q3]
   case hsrc =>
    simp only [WB, execE, unE, args0, reduceIte, Nat.reduceEqDiff, Nat.reduceAdd, Nat.reduceLeDiff]
    exact src_new rfl
   intro av' oj' m3 ty' r3 ds3 ro3 o3 k3 _
   have k13 : Keep m1 m3 oj.toList := (Keep.new _ _).nil.trans k3 (fun i hi => .inl hi)
   have kk : Keep m m3 [] := k1.trans k13 (by
    intro y hy
    right
    exact hoj y (by simpa using hy))
   repeat (first
    | (refine W_op rfl rfl ?_; simp only [WB, execE, unE, args0, reduceIte, Nat.reduceEqDiff, Nat.reduceAdd, Nat.reduceLeDiff, WO, fillX, splice, Wo_some]) | simp only [WS] | refine W_regd0 ?_ | refine W_regd ?_)
   refine W_getRet (by repeat (first | exact hg | exact args0_un (Nat.le_of_ble_eq_true rfl) | refine upd_un ?_ rfl)) ?_
   refine ⟨ds3.trans d1, _, rfl, ⟨ty', oj', ?_, ?_⟩, kk.out⟩
   ·have e : cellsOfBytes [UInt8.ofNat q] = [.i .u8 (q : Int)] := by
     simp only [cellsOfBytes, List.map_cons, List.map_nil, u8_nat (show q < 256 by omega)]
    have e2 : vb n = l ++ [UInt8.ofNat q] := by rw [← hv, vb_lt (by omega)]
    rw [e2, bytes_app, List.length_append, e]
    exact r3.keep (Keep.refl _ []).out (by simp)
   ·intro k hk
    rcases o3 with h | ⟨k', h, h2⟩
    ·exact hoj k (h ▸ hk)
    ·rw [h] at hk; cases hk
     have := k1.next
     simp only [AMem.next_new] at h2
     omega
theorem call151 {m : AMem} {n : Int} (h : InI64 n) : Vi.Call T 151 [.i .i64 n] m (fun v m' => v = .i .u64 (zig n : Int) ∧ m' = m) := by
 refine Vi.Call.ofP T151 (Nat.le_of_ble_eq_true rfl) ?_
 unfold v151
 have hz : IntKind.u64.wrap ((BitVec.ofInt IntKind.u64.bits (IntKind.u64.wrap (IntKind.u64.wrap n * 2 ^ (min (1 : Int).toNat IntKind.u64.bits))) ^^^ BitVec.ofInt IntKind.u64.bits (IntKind.u64.wrap (n.fdiv (2 ^ (min (63 : Int).toNat IntKind.i64.bits))))).toNat : Int) = (zig n : Int) := zig_bits h
 repeat (first
  | (refine W_op rfl rfl ?_; simp only [WB, execE, unE, args0, reduceIte, Nat.reduceEqDiff, Nat.reduceAdd, Nat.reduceLeDiff, hz, Bool.true_or, Int.reduceLT, binE, isShift, intBin, WO, fillX, splice, Wo_some]) | simp only [WS] | refine W_regd0 ?_ | refine W_regd ?_)
 refine W_getRet (by repeat (first | exact hg | exact args0_un (Nat.le_of_ble_eq_true rfl) | refine upd_un ?_ rfl)) ?_
 exact ⟨rfl, _, rfl, rfl, rfl⟩
theorem call149 {m : AMem} {u : Nat} (h : u < 18446744073709551616) : Vi.Call T 149 [.i .u64 (u : Int)] m (fun v m' => v = .i .i64 (zag u) ∧ m' = m) := by
 refine Vi.Call.ofP T149 (Nat.le_of_ble_eq_true rfl) ?_
 unfold v149
 have hz : IntKind.i64.wrap ((BitVec.ofInt IntKind.i64.bits (IntKind.i64.wrap ((u : Int).fdiv (2 ^ (min (1 : Int).toNat IntKind.u64.bits)))) ^^^ BitVec.ofInt IntKind.i64.bits (IntKind.i64.wrap (0 - IntKind.i64.wrap (IntKind.u64.wrap ((BitVec.ofInt IntKind.u64.bits (u : Int) &&& BitVec.ofInt IntKind.u64.bits 1).toNat : Int))))).toNat : Int) = zag u := zag_bits h
 repeat (first
  | (refine W_op rfl rfl ?_; simp only [WB, execE, unE, args0, reduceIte, Nat.reduceEqDiff, Nat.reduceAdd, Nat.reduceLeDiff, hz, Bool.true_or, Int.reduceLT, binE, isShift, intBin, WO, fillX, splice, Wo_some]) | simp only [WS] | refine W_regd0 ?_ | refine W_regd ?_)
 refine W_getRet (by repeat (first | exact hg | exact args0_un (Nat.le_of_ble_eq_true rfl) | refine upd_un ?_ rfl)) ?_
 exact ⟨rfl, _, rfl, rfl, rfl⟩
theorem call98 {m : AMem} {n : Int} (h : InI64 n) : Vi.Call T 98 [.i .i64 n] m (fun v m' => ByR m m' v (vb (zig n)) ∧ Keep m m' []) := by
 refine Vi.Call.ofP T98 (Nat.le_of_ble_eq_true rfl) ?_
 unfold v98
 repeat (first
  | (refine W_op rfl rfl ?_; simp only [WB, execE, unE, args0, reduceIte, Nat.reduceEqDiff, Nat.reduceAdd, Nat.reduceLeDiff, WO, fillX, splice, Wo_some]) | simp only [WS] | refine W_regd0 ?_ | refine W_regd ?_)
 refine W_callA rfl ?hargs (call151 h) ?_
 case hargs => simp only [WB, execE, unE, args0, reduceIte, Nat.reduceEqDiff, Nat.reduceAdd, Nat.reduceLeDiff] <;> rfl
 rintro v m1 ⟨rfl, rfl⟩ -
 repeat (first
  | (refine W_op rfl rfl ?_; simp only [WB, execE, unE, args0, reduceIte, Nat.reduceEqDiff, Nat.reduceAdd, Nat.reduceLeDiff, WO, fillX, splice, Wo_some]) | simp only [WS] | refine W_regd0 ?_ | refine W_regd ?_)
 refine W_callA rfl ?hargs (call38 (zig n) (zig_lt h)) ?_
 case hargs => simp only [WB, execE, unE, args0, reduceIte, Nat.reduceEqDiff, Nat.reduceAdd, Nat.reduceLeDiff] <;> rfl
 rintro v m2 ⟨⟨ty, oj, hr, ho⟩, k2⟩ hs2
 repeat (first
  | (refine W_op rfl rfl ?_; simp only [WB, execE, unE, args0, reduceIte, Nat.reduceEqDiff, Nat.reduceAdd, Nat.reduceLeDiff, WO, fillX, splice, Wo_some]) | simp only [WS] | refine W_regd0 ?_ | refine W_regd ?_)
 refine W_getRet (by repeat (first | exact hg | exact args0_un (Nat.le_of_ble_eq_true rfl) | refine upd_un ?_ rfl)) ?_
 exact ⟨hs2.ds, _, rfl, ⟨ty, oj, hr.keep (Keep.refl _ []).out (by simp), ho⟩, k2.ofInn.out⟩
theorem call93 {m : AMem} {bv : AV} {b : List UInt8} (hA : Arr m 1 bv b.length (cellsOfBytes b)) (hl : b.length ≤ 1000000000) {a : Nat} (ha : a ≤ b.length) :
  Vi.Call T 93 [bv, .i .i64 (a : Int)] m (fun v m' => v = .tup [.i .i64 (zag (vget b a).1), .i .i64 ((vget b a).2.1 : Int), .i .i64 (vget b a).2.2] ∧ m' = m) := by
 refine Vi.Call.ofP T93 (Nat.le_of_ble_eq_true rfl) ?_
 unfold v93
 repeat (first
  | (refine W_op rfl rfl ?_; simp only [WB, execE, unE, args0, reduceIte, Nat.reduceEqDiff, Nat.reduceAdd, Nat.reduceLeDiff, WO, fillX, splice, Wo_some]) | simp only [WS] | refine W_regd0 ?_ | refine W_regd ?_)
 refine W_callA rfl ?hargs (call34 (hA.keep0 (Keep.inn m)) hl ha) ?_
 case hargs => simp only [WB, execE, unE, args0, reduceIte, Nat.reduceEqDiff, Nat.reduceAdd, Nat.reduceLeDiff] <;> rfl
 rintro v m1 ⟨rfl, rfl⟩ -
 repeat (first
  | (refine W_op rfl rfl ?_; simp only [WB, execE, unE, args0, reduceIte, Nat.reduceEqDiff, Nat.reduceAdd, Nat.reduceLeDiff, WO, fillX, splice, Wo_some]) | simp only [WS] | refine W_regd0 ?_ | refine W_regd ?_)
 refine W_callA rfl ?hargs (call149 (vget_le b a).1) ?_
 case hargs => simp only [WB, execE, unE, args0, reduceIte, Nat.reduceEqDiff, Nat.reduceAdd, Nat.reduceLeDiff] <;> rfl
 rintro v m1 ⟨rfl, rfl⟩ -
 repeat (first
  | (refine W_op rfl rfl ?_; simp only [WB, execE, unE, args0, reduceIte, Nat.reduceEqDiff, Nat.reduceAdd, Nat.reduceLeDiff, WO, fillX, splice, Wo_some]) | simp only [WS] | refine W_regd0 ?_ | refine W_regd ?_)
 refine W_getRet (by repeat (first | exact hg | exact args0_un (Nat.le_of_ble_eq_true rfl) | refine upd_un ?_ rfl)) ?_
 exact ⟨rfl, _, rfl, rfl, rfl⟩
end Go.Proofs.YtfbglgmhhmeoeaaGreatDoor
