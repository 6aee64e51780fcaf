/- Numbers as texts: the library's functions and the document's. No condition. -/
import Derived.Test.YtdmoecehmclohaaGreatDoorSlD
import Derived.Test.YtdmoecehmclohaaGreatDoorSlViNode
namespace Go.Proofs.YtdmoecehmclohaaGreatDoor
open Go.Vi
set_option linter.unusedSimpArgs false
set_option linter.unusedVariables false
def len8B : ByteArray := ⟨((List.range 256).map fun x => UInt8.ofNat (if x = 0 then 0 else Nat.log2 x + 1)).toArray⟩
theorem len8B_eq : (⟨#[0, 1, 2, 2, 3, 3, 3, 3, 4, 4, 4, 4, 4, 4, 4, 4, 5, 5, 5, 5, 5, 5, 5, 5, 5, 5, 5, 5, 5, 5, 5, 5, 6, 6, 6, 6, 6, 6, 6, 6, 6, 6, 6, 6, 6, 6, 6, 6, 6, 6, 6, 6, 6, 6, 6, 6, 6, 6, 6, 6, 6, 6, 6, 6, 7, 7, 7, 7, 7, 7, 7, 7, 7, 7, 7, 7, 7, 7, 7, 7, 7, 7, 7, 7, 7, 7, 7, 7, 7, 7, 7, 7, 7, 7, 7, 7, 7, 7, 7, 7, 7, 7, 7, 7, 7, 7, 7, 7, 7, 7, 7, 7, 7, 7, 7, 7, 7, 7, 7, 7, 7, 7, 7, 7, 7, 7, 7, 7, 8, 8, 8, 8, 8, 8, 8, 8, 8, 8, 8, 8, 8, 8, 8, 8, 8, 8, 8, 8, 8, 8, 8, 8, 8, 8, 8, 8, 8, 8, 8, 8, 8, 8, 8, 8, 8, 8, 8, 8, 8, 8, 8, 8, 8, 8, 8, 8, 8, 8, 8, 8, 8, 8, 8, 8, 8, 8, 8, 8, 8, 8, 8, 8, 8, 8, 8, 8, 8, 8, 8, 8, 8, 8, 8, 8, 8, 8, 8, 8, 8, 8, 8, 8, 8, 8, 8, 8, 8, 8, 8, 8, 8, 8, 8, 8, 8, 8, 8, 8, 8, 8, 8, 8, 8, 8, 8, 8, 8, 8, 8, 8, 8, 8, 8, 8, 8, 8, 8, 8, 8, 8, 8, 8, 8, 8, 8, 8]⟩ : ByteArray) = len8B := by kernel_rfl
theorem len8B_at (x : Nat) (h0 : 1 ≤ x) (h : x < 256) : ∃ t, len8B.data.toList[x]? = some (UInt8.ofNat t) ∧ t ≤ 8 ∧ IsLen x t := by
  have key : ∀ x : Fin 256, 1 ≤ x.val → ((List.range 256).map fun x => UInt8.ofNat (if x = 0 then 0 else Nat.log2 x + 1))[x.val]? = some (UInt8.ofNat (Nat.log2 x.val + 1)) ∧ Nat.log2 x.val + 1 ≤ 8 ∧ 2 ^ (Nat.log2 x.val + 1 - 1) ≤ x.val ∧ x.val < 2 ^ (Nat.log2 x.val + 1) := by decide +kernel
  obtain ⟨h1, h2, h3, h4⟩ := key ⟨x, h⟩ h0
  exact ⟨_, h1, h2, h3, h4, by omega⟩
theorem shrN (x : Nat) : (Int.fdiv (x : Int) (2 ^ (min (32 : Int).toNat IntKind.u64.bits)) = ((x / 4294967296 : Nat) : Int)) ∧ (Int.fdiv (x : Int) (2 ^ (min (16 : Int).toNat IntKind.u64.bits)) = ((x / 65536 : Nat) : Int)) ∧ (Int.fdiv (x : Int) (2 ^ (min (8 : Int).toNat IntKind.u64.bits)) = ((x / 256 : Nat) : Int)) ∧ (Int.fdiv (x : Int) (2 ^ (min (18 : Int).toNat IntKind.i64.bits)) = ((x / 262144 : Nat) : Int)) := by
  refine ⟨?_, ?_, ?_, ?_⟩
  · show Int.fdiv (x : Int) ((4294967296 : Nat) : Int) = _
    rw [Int.fdiv_eq_ediv_of_nonneg _ (by omega)]; rfl
  · show Int.fdiv (x : Int) ((65536 : Nat) : Int) = _
    rw [Int.fdiv_eq_ediv_of_nonneg _ (by omega)]; rfl
  · show Int.fdiv (x : Int) ((256 : Nat) : Int) = _
    rw [Int.fdiv_eq_ediv_of_nonneg _ (by omega)]; rfl
  · show Int.fdiv (x : Int) ((262144 : Nat) : Int) = _
    rw [Int.fdiv_eq_ediv_of_nonneg _ (by omega)]; rfl
theorem isLen_add {u x n t : Nat} (hx : x = u / 2 ^ n) (h : IsLen x t) : IsLen u (n + t) := by
  obtain ⟨h1, h2, h3⟩ := h
  have hp : 0 < 2 ^ n := Nat.pow_pos (by omega)
  subst hx
  refine ⟨?_, ?_, by omega⟩
  · rw [show n + t - 1 = (t - 1) + n by omega, Nat.pow_add]
    exact (Nat.le_div_iff_mul_le hp).1 h1
  · rw [Nat.add_comm, Nat.pow_add]
    exact (Nat.div_lt_iff_lt_mul hp).1 h2
theorem call139 {m : AMem} {u : Nat} (h0 : 0 < u) (h : u < 18446744073709551616) :
    Vi.Call T 139 [.i .u64 u] m (fun v m' => ∃ l : Nat, v = .i .i64 (l : Int) ∧ IsLen u l ∧ l ≤ 64 ∧ Keep m m' []) := by
  refine Vi.Call.ofP T139 (Nat.le_of_ble_eq_true rfl) ?_
  unfold v139
  rw [len8B_eq]
  have hlt : ∀ n a x : Nat, x = u / 2 ^ n → x / 2 ^ a = u / 2 ^ (n + a) := fun n a x hx => by rw [hx, Nat.div_div_eq_div_mul, ← Nat.pow_add]
  repeat (first
    | ((first | refine W_op rfl rfl ?_ | (refine W_opgT rfl rfl ?hg ?_; (case hg => (simp only [WG, reduceIte, Nat.reduceEqDiff]; done)))); simp only [WB, execE, unE, args0, reduceIte, Nat.reduceEqDiff, Nat.reduceAdd, Nat.reduceLeDiff, binE, isShift, intBin, Wo_some])
    | (refine W_opgF rfl rfl ?hg ?_; (case hg => (simp only [WG, reduceIte, Nat.reduceEqDiff]; done)))
    | rw [W_seq] | rw [W_reg] | rw [push_no] | rw [W_onil] | rw [W_skip] | rw [W_blk] | rw [W_b] | refine W_regd0 ?_)
  refine W_cutK [_] (fun g' m' => ∃ x n : Nat, x = u / 2 ^ n ∧ 1 ≤ x ∧ x < 4294967296 ∧ n ≤ 32 ∧ g' 0 = .i .u64 (x : Int) ∧ g' 2 = .i .i64 (n : Int) ∧ Keep m m' [] ∧ m'.ds = []) ?_ ?_
  · cases hA : decide ((u : Int) ≥ 4294967296)
    · skip
      refine W_cond ?_
      simp only [WB, execE, unE, args0, reduceIte, Nat.reduceEqDiff, Nat.reduceAdd, Nat.reduceLeDiff, WC, hA]
      repeat (first
        | ((first | refine W_op rfl rfl ?_ | (refine W_opgT rfl rfl ?hg ?_; (case hg => (simp only [WG, reduceIte, Nat.reduceEqDiff]; done)))); simp only [WB, execE, unE, args0, reduceIte, Nat.reduceEqDiff, Nat.reduceAdd, Nat.reduceLeDiff, Wo_some])
        | (refine W_opgF rfl rfl ?hg ?_; (case hg => (simp only [WG, reduceIte, Nat.reduceEqDiff]; done)))
        | rw [W_seq] | rw [W_reg] | rw [push_no] | rw [W_onil] | rw [W_skip] | rw [W_blk] | rw [W_b] | refine W_regd0 ?_)
      refine W_j (by repeat (first | exact hg | exact args0_un (Nat.le_of_ble_eq_true rfl) | refine upd_un ?_ rfl)) ?_
      refine ⟨u, 0, by simp, h0, by simp at hA; omega, by omega, ?_, ?_, Keep.inn m, rfl⟩
      · skip
        simp only [upd_at, upd_none, reduceIte, Nat.reduceEqDiff, args0, List.getD_cons_zero, List.getD_cons_succ, List.getD_nil]
      · skip
        simp only [upd_at, upd_none, reduceIte, Nat.reduceEqDiff, args0, List.getD_cons_zero, List.getD_cons_succ, List.getD_nil, Int.ofNat_zero]
        try rfl
    · skip
      refine W_cond ?_
      simp only [WB, execE, unE, args0, reduceIte, Nat.reduceEqDiff, Nat.reduceAdd, Nat.reduceLeDiff, WC, hA]
      repeat (first
        | ((first | refine W_op rfl rfl ?_ | (refine W_opgT rfl rfl ?hg ?_; (case hg => (simp only [WG, reduceIte, Nat.reduceEqDiff]; done)))); simp only [WB, execE, unE, args0, reduceIte, Nat.reduceEqDiff, Nat.reduceAdd, Nat.reduceLeDiff, binE, isShift, intBin, (shrN u).1, Bool.true_or, Int.reduceLT, Wo_some])
        | (refine W_opgF rfl rfl ?hg ?_; (case hg => (simp only [WG, reduceIte, Nat.reduceEqDiff]; done)))
        | rw [W_seq] | rw [W_reg] | rw [push_no] | rw [W_onil] | rw [W_skip] | rw [W_blk] | rw [W_b] | refine W_regd0 ?_)
      refine W_j (by repeat (first | exact hg | exact args0_un (Nat.le_of_ble_eq_true rfl) | refine upd_un ?_ rfl)) ?_
      refine ⟨u / 4294967296, 32, rfl, by simp at hA; omega, by omega, by omega, ?_, ?_, Keep.inn m, rfl⟩
      · skip
        simp only [upd_at, upd_none, reduceIte, Nat.reduceEqDiff, args0, List.getD_cons_zero, List.getD_cons_succ, List.getD_nil]
      · skip
        simp only [upd_at, upd_none, reduceIte, Nat.reduceEqDiff, args0, List.getD_cons_zero, List.getD_cons_succ, List.getD_nil]
        try rfl
  rintro g m1 ⟨x, n, hx, hx1, hx2, hn, g0, g2, hK, hds⟩ hg
  repeat (first
    | ((first | refine W_op rfl rfl ?_ | (refine W_opgT rfl rfl ?hg ?_; (case hg => (simp only [WG, reduceIte, Nat.reduceEqDiff]; done)))); simp only [WB, execE, unE, args0, reduceIte, Nat.reduceEqDiff, Nat.reduceAdd, Nat.reduceLeDiff, g0, g2, binE, isShift, intBin, Wo_some])
    | (refine W_opgF rfl rfl ?hg ?_; (case hg => (simp only [WG, reduceIte, Nat.reduceEqDiff]; done)))
    | rw [W_seq] | rw [W_reg] | rw [push_no] | rw [W_onil] | rw [W_skip] | rw [W_blk] | rw [W_b] | refine W_regd0 ?_)
  refine W_cutK [_] (fun g' m' => ∃ x n : Nat, x = u / 2 ^ n ∧ 1 ≤ x ∧ x < 65536 ∧ n ≤ 48 ∧ g' 0 = .i .u64 (x : Int) ∧ g' 2 = .i .i64 (n : Int) ∧ Keep m m' [] ∧ m'.ds = []) ?_ ?_
  · cases hA : decide ((x : Int) ≥ 65536)
    · skip
      refine W_cond ?_
      simp only [WB, execE, unE, args0, reduceIte, Nat.reduceEqDiff, Nat.reduceAdd, Nat.reduceLeDiff, WC, hA]
      repeat (first
        | ((first | refine W_op rfl rfl ?_ | (refine W_opgT rfl rfl ?hg ?_; (case hg => (simp only [WG, reduceIte, Nat.reduceEqDiff]; done)))); simp only [WB, execE, unE, args0, reduceIte, Nat.reduceEqDiff, Nat.reduceAdd, Nat.reduceLeDiff, Wo_some])
        | (refine W_opgF rfl rfl ?hg ?_; (case hg => (simp only [WG, reduceIte, Nat.reduceEqDiff]; done)))
        | rw [W_seq] | rw [W_reg] | rw [push_no] | rw [W_onil] | rw [W_skip] | rw [W_blk] | rw [W_b] | refine W_regd0 ?_)
      refine W_j (by repeat (first | exact hg | exact args0_un (Nat.le_of_ble_eq_true rfl) | refine upd_un ?_ rfl)) ?_
      refine ⟨x, n, hx, hx1, by simp at hA; omega, by omega, ?_, ?_, hK, hds⟩
      · skip
        simp only [upd_at, upd_none, reduceIte, Nat.reduceEqDiff, args0, List.getD_cons_zero, List.getD_cons_succ, List.getD_nil, g0]
      · skip
        simp only [upd_at, upd_none, reduceIte, Nat.reduceEqDiff, args0, List.getD_cons_zero, List.getD_cons_succ, List.getD_nil, g2]
    · skip
      refine W_cond ?_
      simp only [WB, execE, unE, args0, reduceIte, Nat.reduceEqDiff, Nat.reduceAdd, Nat.reduceLeDiff, WC, hA]
      have hw : IntKind.i64.wrap ((n : Int) + 16) = ((n + 16 : Nat) : Int) := wr_i64 (n := (n : Int) + 16) (by omega) (by omega)
      repeat (first
        | ((first | refine W_op rfl rfl ?_ | (refine W_opgT rfl rfl ?hg ?_; (case hg => (simp only [WG, reduceIte, Nat.reduceEqDiff]; done)))); simp only [WB, execE, unE, args0, reduceIte, Nat.reduceEqDiff, Nat.reduceAdd, Nat.reduceLeDiff, g0, g2, binE, isShift, intBin, (shrN x).2.1, Bool.true_or, Int.reduceLT, hw, Wo_some])
        | (refine W_opgF rfl rfl ?hg ?_; (case hg => (simp only [WG, reduceIte, Nat.reduceEqDiff]; done)))
        | rw [W_seq] | rw [W_reg] | rw [push_no] | rw [W_onil] | rw [W_skip] | rw [W_blk] | rw [W_b] | refine W_regd0 ?_)
      refine W_j (by repeat (first | exact hg | exact args0_un (Nat.le_of_ble_eq_true rfl) | refine upd_un ?_ rfl)) ?_
      refine ⟨x / 65536, n + 16, hlt n 16 x hx, by simp at hA; omega, by omega, by omega, ?_, ?_, hK, hds⟩
      · skip
        simp only [upd_at, upd_none, reduceIte, Nat.reduceEqDiff, args0, List.getD_cons_zero, List.getD_cons_succ, List.getD_nil, g0]
      · skip
        simp only [upd_at, upd_none, reduceIte, Nat.reduceEqDiff, args0, List.getD_cons_zero, List.getD_cons_succ, List.getD_nil, g2]
  clear g0 g2 hK hds hg hx hx1 hx2 hn x n m1 g
  rintro g m1 ⟨x, n, hx, hx1, hx2, hn, g0, g2, hK, hds⟩ hg
  repeat (first
    | ((first | refine W_op rfl rfl ?_ | (refine W_opgT rfl rfl ?hg ?_; (case hg => (simp only [WG, reduceIte, Nat.reduceEqDiff]; done)))); simp only [WB, execE, unE, args0, reduceIte, Nat.reduceEqDiff, Nat.reduceAdd, Nat.reduceLeDiff, g0, g2, binE, isShift, intBin, Wo_some])
    | (refine W_opgF rfl rfl ?hg ?_; (case hg => (simp only [WG, reduceIte, Nat.reduceEqDiff]; done)))
    | rw [W_seq] | rw [W_reg] | rw [push_no] | rw [W_onil] | rw [W_skip] | rw [W_blk] | rw [W_b] | refine W_regd0 ?_)
  refine W_cutK [_] (fun g' m' => ∃ x n : Nat, x = u / 2 ^ n ∧ 1 ≤ x ∧ x < 256 ∧ n ≤ 56 ∧ g' 0 = .i .u64 (x : Int) ∧ g' 2 = .i .i64 (n : Int) ∧ Keep m m' [] ∧ m'.ds = []) ?_ ?_
  · cases hA : decide ((x : Int) ≥ 256)
    · skip
      refine W_cond ?_
      simp only [WB, execE, unE, args0, reduceIte, Nat.reduceEqDiff, Nat.reduceAdd, Nat.reduceLeDiff, WC, hA]
      repeat (first
        | ((first | refine W_op rfl rfl ?_ | (refine W_opgT rfl rfl ?hg ?_; (case hg => (simp only [WG, reduceIte, Nat.reduceEqDiff]; done)))); simp only [WB, execE, unE, args0, reduceIte, Nat.reduceEqDiff, Nat.reduceAdd, Nat.reduceLeDiff, Wo_some])
        | (refine W_opgF rfl rfl ?hg ?_; (case hg => (simp only [WG, reduceIte, Nat.reduceEqDiff]; done)))
        | rw [W_seq] | rw [W_reg] | rw [push_no] | rw [W_onil] | rw [W_skip] | rw [W_blk] | rw [W_b] | refine W_regd0 ?_)
      refine W_j (by repeat (first | exact hg | exact args0_un (Nat.le_of_ble_eq_true rfl) | refine upd_un ?_ rfl)) ?_
      refine ⟨x, n, hx, hx1, by simp at hA; omega, by omega, ?_, ?_, hK, hds⟩
      · skip
        simp only [upd_at, upd_none, reduceIte, Nat.reduceEqDiff, args0, List.getD_cons_zero, List.getD_cons_succ, List.getD_nil, g0]
      · skip
        simp only [upd_at, upd_none, reduceIte, Nat.reduceEqDiff, args0, List.getD_cons_zero, List.getD_cons_succ, List.getD_nil, g2]
    · skip
      refine W_cond ?_
      simp only [WB, execE, unE, args0, reduceIte, Nat.reduceEqDiff, Nat.reduceAdd, Nat.reduceLeDiff, WC, hA]
      have hw : IntKind.i64.wrap ((n : Int) + 8) = ((n + 8 : Nat) : Int) := wr_i64 (n := (n : Int) + 8) (by omega) (by omega)
      repeat (first
        | ((first | refine W_op rfl rfl ?_ | (refine W_opgT rfl rfl ?hg ?_; (case hg => (simp only [WG, reduceIte, Nat.reduceEqDiff]; done)))); simp only [WB, execE, unE, args0, reduceIte, Nat.reduceEqDiff, Nat.reduceAdd, Nat.reduceLeDiff, g0, g2, binE, isShift, intBin, (shrN x).2.2.1, Bool.true_or, Int.reduceLT, hw, Wo_some])
        | (refine W_opgF rfl rfl ?hg ?_; (case hg => (simp only [WG, reduceIte, Nat.reduceEqDiff]; done)))
        | rw [W_seq] | rw [W_reg] | rw [push_no] | rw [W_onil] | rw [W_skip] | rw [W_blk] | rw [W_b] | refine W_regd0 ?_)
      refine W_j (by repeat (first | exact hg | exact args0_un (Nat.le_of_ble_eq_true rfl) | refine upd_un ?_ rfl)) ?_
      refine ⟨x / 256, n + 8, hlt n 8 x hx, by simp at hA; omega, by omega, by omega, ?_, ?_, hK, hds⟩
      · skip
        simp only [upd_at, upd_none, reduceIte, Nat.reduceEqDiff, args0, List.getD_cons_zero, List.getD_cons_succ, List.getD_nil, g0]
      · skip
        simp only [upd_at, upd_none, reduceIte, Nat.reduceEqDiff, args0, List.getD_cons_zero, List.getD_cons_succ, List.getD_nil, g2]
  clear g0 g2 hK hds hg hx hx1 hx2 hn x n m1 g
  rintro g m1 ⟨x, n, hx, hx1, hx2, hn, g0, g2, hK, hds⟩ hg
  obtain ⟨t, ht, ht8, hL⟩ := len8B_at x hx1 hx2
  have w1 : IntKind.u8.wrap (x : Int) = (x : Int) := wr_u8 hx2
  have w2 : IntKind.i64.wrap ((UInt8.ofNat t).toNat : Int) = (t : Int) := by rw [UInt8.toNat_ofNat_of_lt' (show t < 256 by omega)]; exact wr_i64 (by omega) (by omega)
  have w3 : IntKind.i64.wrap ((n : Int) + (t : Int)) = ((n + t : Nat) : Int) := wr_i64 (n := (n : Int) + (t : Int)) (by omega) (by omega)
  repeat (first
    | ((first | refine W_op rfl rfl ?_ | (refine W_opgT rfl rfl ?hg ?_; (case hg => (simp only [WG, reduceIte, Nat.reduceEqDiff]; done)))); simp only [WB, execE, unE, args0, reduceIte, Nat.reduceEqDiff, Nat.reduceAdd, Nat.reduceLeDiff, g0, g2, binE, isShift, intBin, w1, w2, w3, ht, Int.natCast_nonneg, Int.toNat_natCast, Wo_some])
    | (refine W_opgF rfl rfl ?hg ?_; (case hg => (simp only [WG, reduceIte, Nat.reduceEqDiff]; done)))
    | rw [W_seq] | rw [W_reg] | rw [push_no] | rw [W_onil] | rw [W_skip] | rw [W_blk] | rw [W_b] | refine W_regd0 ?_)
  refine W_getRet (by repeat (first | exact hg | exact args0_un (Nat.le_of_ble_eq_true rfl) | refine upd_un ?_ rfl)) ?_
  exact ⟨hds, _, rfl, n + t, rfl, isLen_add hx hL, by omega, hK.out⟩
theorem call138 {m : AMem} {l : Nat} (h : l ≤ 64) : Vi.Call T 138 [.i .i64 (l : Int)] m (fun v m' => v = .i .i64 ((l * 78913 / 262144 : Nat) : Int) ∧ Keep m m' []) := by
  refine Vi.Call.ofP T138 (Nat.le_of_ble_eq_true rfl) ?_
  unfold v138
  have hw : IntKind.i64.wrap ((l : Int) * 78913) = ((l * 78913 : Nat) : Int) := wr_i64 (n := (l : Int) * 78913) (by omega) (by omega)
  repeat (first
    | ((first | refine W_op rfl rfl ?_ | (refine W_opgT rfl rfl ?hg ?_; (case hg => (simp only [WG, reduceIte, Nat.reduceEqDiff]; done)))); simp only [WB, execE, unE, args0, reduceIte, Nat.reduceEqDiff, Nat.reduceAdd, Nat.reduceLeDiff, binE, isShift, intBin, hw, (shrN (l * 78913)).2.2.2, Bool.true_or, Int.reduceLT, Wo_some])
    | (refine W_opgF rfl rfl ?hg ?_; (case hg => (simp only [WG, reduceIte, Nat.reduceEqDiff]; done)))
    | rw [W_seq] | rw [W_reg] | rw [push_no] | rw [W_onil] | rw [W_skip] | rw [W_blk] | rw [W_b] | refine W_regd0 ?_)
  refine W_getRet (by repeat (first | exact hg | exact args0_un (Nat.le_of_ble_eq_true rfl) | refine upd_un ?_ rfl)) ?_
  exact ⟨rfl, _, rfl, rfl, (Keep.inn m).out⟩
theorem call140 {m : AMem} (b : Bool) : Vi.Call T 140 [.b b] m (fun v m' => v = .i .i64 (if b = true then 1 else 0) ∧ Keep m m' []) := by
  refine Vi.Call.ofP T140 (Nat.le_of_ble_eq_true rfl) ?_
  unfold v140
  cases b
  · skip
    repeat (first
      | ((first | refine W_op rfl rfl ?_ | (refine W_opgT rfl rfl ?hg ?_; (case hg => (simp only [WG, reduceIte, Nat.reduceEqDiff]; done)))); simp only [WB, execE, unE, args0, reduceIte, Nat.reduceEqDiff, Nat.reduceAdd, Nat.reduceLeDiff, Wo_some])
      | (refine W_opgF rfl rfl ?hg ?_; (case hg => (simp only [WG, reduceIte, Nat.reduceEqDiff]; done)))
      | rw [W_seq] | rw [W_reg] | rw [push_no] | rw [W_onil] | rw [W_skip] | rw [W_blk] | rw [W_b] | refine W_regd0 ?_)
    refine W_cond ?_
    simp only [WB, execE, unE, args0, reduceIte, Nat.reduceEqDiff, Nat.reduceAdd, Nat.reduceLeDiff, WC]
    repeat (first
      | ((first | refine W_op rfl rfl ?_ | (refine W_opgT rfl rfl ?hg ?_; (case hg => (simp only [WG, reduceIte, Nat.reduceEqDiff]; done)))); simp only [WB, execE, unE, args0, reduceIte, Nat.reduceEqDiff, Nat.reduceAdd, Nat.reduceLeDiff, Wo_some])
      | (refine W_opgF rfl rfl ?hg ?_; (case hg => (simp only [WG, reduceIte, Nat.reduceEqDiff]; done)))
      | rw [W_seq] | rw [W_reg] | rw [push_no] | rw [W_onil] | rw [W_skip] | rw [W_blk] | rw [W_b] | refine W_regd0 ?_)
    refine W_getRet (by repeat (first | exact hg | exact args0_un (Nat.le_of_ble_eq_true rfl) | refine upd_un ?_ rfl)) ?_
    exact ⟨rfl, _, rfl, rfl, (Keep.inn m).out⟩
  · skip
    repeat (first
      | ((first | refine W_op rfl rfl ?_ | (refine W_opgT rfl rfl ?hg ?_; (case hg => (simp only [WG, reduceIte, Nat.reduceEqDiff]; done)))); simp only [WB, execE, unE, args0, reduceIte, Nat.reduceEqDiff, Nat.reduceAdd, Nat.reduceLeDiff, Wo_some])
      | (refine W_opgF rfl rfl ?hg ?_; (case hg => (simp only [WG, reduceIte, Nat.reduceEqDiff]; done)))
      | rw [W_seq] | rw [W_reg] | rw [push_no] | rw [W_onil] | rw [W_skip] | rw [W_blk] | rw [W_b] | refine W_regd0 ?_)
    refine W_cond ?_
    simp only [WB, execE, unE, args0, reduceIte, Nat.reduceEqDiff, Nat.reduceAdd, Nat.reduceLeDiff, WC]
    repeat (first
      | ((first | refine W_op rfl rfl ?_ | (refine W_opgT rfl rfl ?hg ?_; (case hg => (simp only [WG, reduceIte, Nat.reduceEqDiff]; done)))); simp only [WB, execE, unE, args0, reduceIte, Nat.reduceEqDiff, Nat.reduceAdd, Nat.reduceLeDiff, Wo_some])
      | (refine W_opgF rfl rfl ?hg ?_; (case hg => (simp only [WG, reduceIte, Nat.reduceEqDiff]; done)))
      | rw [W_seq] | rw [W_reg] | rw [push_no] | rw [W_onil] | rw [W_skip] | rw [W_blk] | rw [W_b] | refine W_regd0 ?_)
    refine W_getRet (by repeat (first | exact hg | exact args0_un (Nat.le_of_ble_eq_true rfl) | refine upd_un ?_ rfl)) ?_
    exact ⟨rfl, _, rfl, rfl, (Keep.inn m).out⟩
def P10 (m : AMem) : Prop := ∃ wr es, m.get 0 = some (.cells ((List.range 20).map fun i => .i .u64 ((10 ^ i : Nat) : Int)) wr es) ∧ 0 < m.next
theorem P10.keep {m m' : AMem} {fp : List Nat} (h : P10 m) (k : Keep m m' fp) (hn : 0 ∉ fp) : P10 m' := by
  obtain ⟨wr, es, h1, h2⟩ := h
  exact ⟨wr, es, k.at h2 hn h1, Nat.lt_of_lt_of_le h2 k.next⟩
theorem call90 {m : AMem} {u : Nat} (hP : P10 m) (h0 : 0 < u) (h : u < 18446744073709551616) : Vi.Call T 90 [.i .u64 u] m (fun v m' => v = .i .i64 (nd u : Int) ∧ Keep m m' []) := by
  refine Vi.Call.ofP T90 (Nat.le_of_ble_eq_true rfl) ?_
  unfold v90
  repeat (first
    | ((first | refine W_op rfl rfl ?_ | (refine W_opgT rfl rfl ?hg ?_; (case hg => (simp only [WG, reduceIte, Nat.reduceEqDiff]; done)))); simp only [WB, execE, unE, args0, reduceIte, Nat.reduceEqDiff, Nat.reduceAdd, Nat.reduceLeDiff, Wo_some])
    | (refine W_opgF rfl rfl ?hg ?_; (case hg => (simp only [WG, reduceIte, Nat.reduceEqDiff]; done)))
    | rw [W_seq] | rw [W_reg] | rw [push_no] | rw [W_onil] | rw [W_skip] | rw [W_blk] | rw [W_b] | refine W_regd0 ?_)
  refine W_callA rfl ?hargs (call139 h0 h) ?_
  case hargs => simp only [WB, execE, unE, args0, reduceIte, Nat.reduceEqDiff, Nat.reduceAdd, Nat.reduceLeDiff] <;> rfl
  rintro v m1 ⟨l, rfl, hl, hl64, k1⟩ hs1
  repeat (first
    | ((first | refine W_op rfl rfl ?_ | (refine W_opgT rfl rfl ?hg ?_; (case hg => (simp only [WG, reduceIte, Nat.reduceEqDiff]; done)))); simp only [WB, execE, unE, args0, reduceIte, Nat.reduceEqDiff, Nat.reduceAdd, Nat.reduceLeDiff, Wo_some])
    | (refine W_opgF rfl rfl ?hg ?_; (case hg => (simp only [WG, reduceIte, Nat.reduceEqDiff]; done)))
    | rw [W_seq] | rw [W_reg] | rw [push_no] | rw [W_onil] | rw [W_skip] | rw [W_blk] | rw [W_b] | refine W_regd0 ?_)
  refine W_callA rfl ?hargs (call138 hl64) ?_
  case hargs => simp only [WB, execE, unE, args0, reduceIte, Nat.reduceEqDiff, Nat.reduceAdd, Nat.reduceLeDiff] <;> rfl
  rintro v m2 ⟨rfl, k2⟩ hs2
  have ht := len_dig ⟨l - 1, by have := hl.2.2; omega⟩
  simp only [show l - 1 + 1 = l by have := hl.2.2; omega] at ht
  have hnd := nd_len hl hl64
  obtain ⟨t, htd⟩ : ∃ t, t = l * 78913 / 262144 := ⟨_, rfl⟩
  rw [← htd] at ht hnd
  rw [← htd]
  obtain ⟨wr, es, hp, hpn⟩ := ((hP.keep (Keep.inn m) (by simp)).keep k1 (by simp)).keep k2 (by simp)
  have hi : ((t : Nat) : Int) < ((20 : Nat) : Int) := by omega
  have hc : ((List.range 20).map fun i : Nat => AV.i .u64 ((10 ^ i : Nat) : Int))[t]? = some (.i .u64 ((10 ^ t : Nat) : Int)) := by
    rw [List.getElem?_map, List.getElem?_range (by omega)]; rfl
  repeat (first
    | ((first | refine W_op rfl rfl ?_ | (refine W_opgT rfl rfl ?hg ?_; (case hg => (simp only [WG, reduceIte, Nat.reduceEqDiff]; done)))); simp only [WB, execE, unE, args0, reduceIte, Nat.reduceEqDiff, Nat.reduceAdd, Nat.reduceLeDiff, Int.natCast_nonneg, hi, Int.toNat_natCast, Nat.mul_one, hp, hc, binE, isShift, intBin, Wo_some])
    | (refine W_opgF rfl rfl ?hg ?_; (case hg => (simp only [WG, reduceIte, Nat.reduceEqDiff]; done)))
    | rw [W_seq] | rw [W_reg] | rw [push_no] | rw [W_onil] | rw [W_skip] | rw [W_blk] | rw [W_b] | refine W_regd0 ?_)
  refine W_callA rfl ?hargs (call140 (decide ((u : Int) ≥ ((10 ^ t : Nat) : Int)))) ?_
  case hargs => simp only [WB, execE, unE, args0, reduceIte, Nat.reduceEqDiff, Nat.reduceAdd, Nat.reduceLeDiff] <;> rfl
  rintro v m3 ⟨rfl, k3⟩ hs3
  have hw : IntKind.i64.wrap ((t : Int) + (if decide ((u : Int) ≥ ((10 ^ t : Nat) : Int)) = true then 1 else 0)) = (nd u : Int) := by
    rw [hnd]
    by_cases hc : 10 ^ t ≤ u
    · have hc' : (u : Int) ≥ ((10 ^ t : Nat) : Int) := by exact_mod_cast hc
      rw [if_pos hc, if_pos (decide_eq_true hc')]
      exact wr_i64 (n := (t : Int) + 1) (by omega) (by omega)
    · have hc' : ¬ (u : Int) ≥ ((10 ^ t : Nat) : Int) := by
        intro h'; exact hc (by exact_mod_cast h')
      rw [if_neg hc, if_neg (by simpa using hc')]
      exact wr_i64 (n := (t : Int) + 0) (by omega) (by omega)
  generalize hQ : (if decide ((u : Int) ≥ ((10 ^ t : Nat) : Int)) = true then (1 : Int) else 0) = q at hw ⊢
  repeat (first
    | ((first | refine W_op rfl rfl ?_ | (refine W_opgT rfl rfl ?hg ?_; (case hg => (simp only [WG, reduceIte, Nat.reduceEqDiff]; done)))); simp only [WB, execE, unE, args0, reduceIte, Nat.reduceEqDiff, Nat.reduceAdd, Nat.reduceLeDiff, binE, isShift, intBin, hw, Wo_some])
    | (refine W_opgF rfl rfl ?hg ?_; (case hg => (simp only [WG, reduceIte, Nat.reduceEqDiff]; done)))
    | rw [W_seq] | rw [W_reg] | rw [push_no] | rw [W_onil] | rw [W_skip] | rw [W_blk] | rw [W_b] | refine W_regd0 ?_)
  refine W_getRet (by repeat (first | exact hg | exact args0_un (Nat.le_of_ble_eq_true rfl) | refine upd_un ?_ rfl)) ?_
  exact ⟨by rw [hs3.ds, hs2.ds, hs1.ds]; rfl, _, rfl, rfl, ((((Keep.inn m).trans k1 (by simp)).trans k2 (by simp)).trans k3 (by simp)).out⟩
def digitsB : ByteArray := ⟨#[48, 49, 50, 51, 52, 53, 54, 55, 56, 57, 97, 98, 99, 100, 101, 102, 103, 104, 105, 106, 107, 108, 109, 110, 111, 112, 113, 114, 115, 116, 117, 118, 119, 120, 121, 122]⟩
theorem digitsB_cut (i : Nat) (h : i < 10) : digitsB.extract i (i + 1) = ⟨(dig i).toArray⟩ := by
  rw [dig_lt h]
  have key : ∀ i : Fin 10, (digitsB.extract i.val (i.val + 1)).data.toList = [UInt8.ofNat (48 + i.val)] := by decide +kernel
  apply ByteArray.ext
  apply Array.toList_inj.1
  exact key ⟨i, h⟩
theorem smallsB_cut (i : Nat) (h1 : 10 ≤ i) (h : i < 100) : smallsB.extract (i * 2) (i * 2 + 2) = ⟨(dig i).toArray⟩ := by
  rw [dig_ge (by omega), dig_lt (by omega), dig_lt (by omega)]
  have key : ∀ i : Fin 100, (smallsB.extract (i.val * 2) (i.val * 2 + 2)).data.toList = [UInt8.ofNat (48 + i.val / 10), UInt8.ofNat (48 + i.val % 10)] := by decide +kernel
  apply ByteArray.ext
  apply Array.toList_inj.1
  exact key ⟨i, h⟩
theorem call89 {m : AMem} {i : Nat} (h : i < 100) : Vi.Call T 89 [.i .i64 (i : Int)] m (fun v m' => v = .s ⟨(dig i).toArray⟩ ∧ Keep m m' []) := by
  refine Vi.Call.ofP T89 (Nat.le_of_ble_eq_true rfl) ?_
  unfold v89
  rw [smallsB_eq, show (⟨#[48, 49, 50, 51, 52, 53, 54, 55, 56, 57, 97, 98, 99, 100, 101, 102, 103, 104, 105, 106, 107, 108, 109, 110, 111, 112, 113, 114, 115, 116, 117, 118, 119, 120, 121, 122]⟩ : ByteArray) = digitsB from rfl]
  have s1 : digitsB.size = 36 := by decide +kernel
  have s2 : smallsB.size = 200 := by decide +kernel
  have hA' : decide ((i : Int) < 10) = decide (i < 10) := by simp; omega
  cases hA : decide (i < 10)
  · have hi : 10 ≤ i := by simpa using hA
    have w1 : IntKind.i64.wrap ((i : Int) * 2) = ((i * 2 : Nat) : Int) := wr_i64 (n := (i : Int) * 2) (by omega) (by omega)
    have w2 : IntKind.i64.wrap (((i * 2 : Nat) : Int) + 2) = ((i * 2 + 2 : Nat) : Int) := wr_i64 (n := ((i * 2 : Nat) : Int) + 2) (by omega) (by omega)
    have hsl := fun (g : Nat → AV) (y z : X) (mm : AMem) (hy : X.at g y = .i .i64 ((i * 2 : Nat) : Int)) (hz : X.at g z = .i .i64 ((i * 2 + 2 : Nat) : Int)) => slsE (e := X.at g) (x := .c (.s smallsB)) (m := mm) rfl hy hz (by omega) (by omega)
    repeat (first
      | ((first | refine W_op rfl rfl ?_ | (refine W_opgT rfl rfl ?hg ?_; (case hg => (simp only [WG, reduceIte, Nat.reduceEqDiff]; done)))); simp only [WB, execE, unE, args0, reduceIte, Nat.reduceEqDiff, Nat.reduceAdd, Nat.reduceLeDiff, binE, isShift, intBin, hA', hA, Wo_some])
      | (refine W_opgF rfl rfl ?hg ?_; (case hg => (simp only [WG, reduceIte, Nat.reduceEqDiff]; done)))
      | rw [W_seq] | rw [W_reg] | rw [push_no] | rw [W_onil] | rw [W_skip] | rw [W_blk] | rw [W_b] | refine W_regd0 ?_)
    refine W_cond ?_
    simp only [WB, execE, unE, args0, reduceIte, Nat.reduceEqDiff, Nat.reduceAdd, Nat.reduceLeDiff, WC]
    repeat (first
      | ((first | refine W_op rfl rfl ?_ | (refine W_opgT rfl rfl ?hg ?_; (case hg => (simp only [WG, reduceIte, Nat.reduceEqDiff]; done)))); simp only [WB, execE, unE, args0, reduceIte, Nat.reduceEqDiff, Nat.reduceAdd, Nat.reduceLeDiff, binE, isShift, intBin, w1, w2, ↓hsl, Wo_some])
      | (refine W_opgF rfl rfl ?hg ?_; (case hg => (simp only [WG, reduceIte, Nat.reduceEqDiff]; done)))
      | rw [W_seq] | rw [W_reg] | rw [push_no] | rw [W_onil] | rw [W_skip] | rw [W_blk] | rw [W_b] | refine W_regd0 ?_)
    refine W_getRet (by repeat (first | exact hg | exact args0_un (Nat.le_of_ble_eq_true rfl) | refine upd_un ?_ rfl)) ?_
    exact ⟨rfl, _, rfl, by rw [← smallsB_cut i hi h]; rfl, (Keep.inn m).out⟩
  · have hi : i < 10 := by simpa using hA
    have w1 : IntKind.i64.wrap ((i : Int) + 1) = ((i + 1 : Nat) : Int) := wr_i64 (n := (i : Int) + 1) (by omega) (by omega)
    have hsl := fun (g : Nat → AV) (y z : X) (mm : AMem) (hy : X.at g y = .i .i64 ((i : Nat) : Int)) (hz : X.at g z = .i .i64 ((i + 1 : Nat) : Int)) => slsE (e := X.at g) (x := .c (.s digitsB)) (m := mm) rfl hy hz (by omega) (by omega)
    repeat (first
      | ((first | refine W_op rfl rfl ?_ | (refine W_opgT rfl rfl ?hg ?_; (case hg => (simp only [WG, reduceIte, Nat.reduceEqDiff]; done)))); simp only [WB, execE, unE, args0, reduceIte, Nat.reduceEqDiff, Nat.reduceAdd, Nat.reduceLeDiff, binE, isShift, intBin, hA', hA, Wo_some])
      | (refine W_opgF rfl rfl ?hg ?_; (case hg => (simp only [WG, reduceIte, Nat.reduceEqDiff]; done)))
      | rw [W_seq] | rw [W_reg] | rw [push_no] | rw [W_onil] | rw [W_skip] | rw [W_blk] | rw [W_b] | refine W_regd0 ?_)
    refine W_cond ?_
    simp only [WB, execE, unE, args0, reduceIte, Nat.reduceEqDiff, Nat.reduceAdd, Nat.reduceLeDiff, WC]
    repeat (first
      | ((first | refine W_op rfl rfl ?_ | (refine W_opgT rfl rfl ?hg ?_; (case hg => (simp only [WG, reduceIte, Nat.reduceEqDiff]; done)))); simp only [WB, execE, unE, args0, reduceIte, Nat.reduceEqDiff, Nat.reduceAdd, Nat.reduceLeDiff, binE, isShift, intBin, w1, ↓hsl, Wo_some])
      | (refine W_opgF rfl rfl ?hg ?_; (case hg => (simp only [WG, reduceIte, Nat.reduceEqDiff]; done)))
      | rw [W_seq] | rw [W_reg] | rw [push_no] | rw [W_onil] | rw [W_skip] | rw [W_blk] | rw [W_b] | refine W_regd0 ?_)
    refine W_getRet (by repeat (first | exact hg | exact args0_un (Nat.le_of_ble_eq_true rfl) | refine upd_un ?_ rfl)) ?_
    exact ⟨rfl, _, rfl, by rw [← digitsB_cut i hi]; rfl, (Keep.inn m).out⟩
theorem nd_le20 {u : Nat} (h : u < 18446744073709551616) (h0 : 0 < u) : nd u ≤ 20 := by
  have h1 := nd_le u h0
  refine Nat.le_of_not_lt fun h2 => ?_
  have : 10 ^ 20 ≤ 10 ^ (nd u - 1) := Nat.pow_le_pow_right (by omega) (by omega)
  omega
set_option maxHeartbeats 1000000 in
theorem call59 {m : AMem} {n : Int} (hP : P10 m) (h1 : -9223372036854775808 ≤ n) (h2 : n ≤ 9223372036854775807) : Vi.Call T 59 [.i .i64 n, .i .i64 10] m (fun v m' => v = .s ⟨(digI n).toArray⟩ ∧ Keep m m' []) := by
  refine Vi.Call.ofP T59 (Nat.le_of_ble_eq_true rfl) ?_
  unfold v59
  by_cases hs : 0 ≤ n ∧ n < 100
  · obtain ⟨i, rfl⟩ : ∃ i : Nat, n = i := ⟨n.toNat, by omega⟩
    have hd : digI (i : Int) = dig i := by unfold digI; rw [if_neg (by omega)]; rfl
    have c1 : decide ((0 : Int) ≤ (i : Int)) = true := by simp
    have c2 : decide ((i : Int) < 100) = true := by simp; omega
    repeat (first
      | ((first | refine W_op rfl rfl ?_ | (refine W_opgT rfl rfl ?hg ?_; (case hg => (simp only [WG, reduceIte, Nat.reduceEqDiff]; done)))); simp only [WB, execE, unE, args0, reduceIte, Nat.reduceEqDiff, Nat.reduceAdd, Nat.reduceLeDiff, binE, isShift, intBin, Wo_some])
      | (refine W_opgF rfl rfl ?hg ?_; (case hg => (simp only [WG, reduceIte, Nat.reduceEqDiff]; done)))
      | rw [W_seq] | rw [W_reg] | rw [push_no] | rw [W_onil] | rw [W_skip] | rw [W_blk] | rw [W_b] | refine W_regd0 ?_)
    refine W_cond ?_
    simp only [WB, execE, unE, args0, reduceIte, Nat.reduceEqDiff, Nat.reduceAdd, Nat.reduceLeDiff, WC]
    repeat (first
      | ((first | refine W_op rfl rfl ?_ | (refine W_opgT rfl rfl ?hg ?_; (case hg => (simp only [WG, reduceIte, Nat.reduceEqDiff]; done)))); simp only [WB, execE, unE, args0, reduceIte, Nat.reduceEqDiff, Nat.reduceAdd, Nat.reduceLeDiff, binE, isShift, intBin, c1, c2, Wo_some])
      | (refine W_opgF rfl rfl ?hg ?_; (case hg => (simp only [WG, reduceIte, Nat.reduceEqDiff]; done)))
      | rw [W_seq] | rw [W_reg] | rw [push_no] | rw [W_onil] | rw [W_skip] | rw [W_blk] | rw [W_b] | refine W_regd0 ?_)
    refine W_cond ?_
    simp only [WB, execE, unE, args0, reduceIte, Nat.reduceEqDiff, Nat.reduceAdd, Nat.reduceLeDiff, WC]
    repeat (first
      | ((first | refine W_op rfl rfl ?_ | (refine W_opgT rfl rfl ?hg ?_; (case hg => (simp only [WG, reduceIte, Nat.reduceEqDiff]; done)))); simp only [WB, execE, unE, args0, reduceIte, Nat.reduceEqDiff, Nat.reduceAdd, Nat.reduceLeDiff, Wo_some])
      | (refine W_opgF rfl rfl ?hg ?_; (case hg => (simp only [WG, reduceIte, Nat.reduceEqDiff]; done)))
      | rw [W_seq] | rw [W_reg] | rw [push_no] | rw [W_onil] | rw [W_skip] | rw [W_blk] | rw [W_b] | refine W_regd0 ?_)
    refine W_callA rfl ?hargs (call89 (i := i) (by omega)) ?_
    case hargs => simp only [WB, execE, unE, args0, reduceIte, Nat.reduceEqDiff, Nat.reduceAdd, Nat.reduceLeDiff] <;> rfl
    rintro v m1 ⟨rfl, k1⟩ hs1
    repeat (first
      | ((first | refine W_op rfl rfl ?_ | (refine W_opgT rfl rfl ?hg ?_; (case hg => (simp only [WG, reduceIte, Nat.reduceEqDiff]; done)))); simp only [WB, execE, unE, args0, reduceIte, Nat.reduceEqDiff, Nat.reduceAdd, Nat.reduceLeDiff, Wo_some])
      | (refine W_opgF rfl rfl ?hg ?_; (case hg => (simp only [WG, reduceIte, Nat.reduceEqDiff]; done)))
      | rw [W_seq] | rw [W_reg] | rw [push_no] | rw [W_onil] | rw [W_skip] | rw [W_blk] | rw [W_b] | refine W_regd0 ?_)
    refine W_getRet (by repeat (first | exact hg | exact args0_un (Nat.le_of_ble_eq_true rfl) | refine upd_un ?_ rfl)) ?_
    exact ⟨hs1.ds, _, rfl, by rw [hd]; rfl, ((Keep.inn m).trans k1 (by simp)).out⟩
  · have hd : digI n = if n < 0 then 45 :: dig n.natAbs else dig n.natAbs := rfl
    obtain ⟨u, hu⟩ : ∃ u, u = n.natAbs := ⟨_, rfl⟩
    rw [← hu] at hd
    have hu0 : 0 < u := by omega
    have hu64 : u < 18446744073709551616 := by omega
    have hn20 := nd_le20 hu64 hu0
    have hn1 := nd_pos u
    repeat (first
      | ((first | refine W_op rfl rfl ?_ | (refine W_opgT rfl rfl ?hg ?_; (case hg => (simp only [WG, reduceIte, Nat.reduceEqDiff]; done)))); simp only [WB, execE, unE, args0, reduceIte, Nat.reduceEqDiff, Nat.reduceAdd, Nat.reduceLeDiff, binE, isShift, intBin, Wo_some])
      | (refine W_opgF rfl rfl ?hg ?_; (case hg => (simp only [WG, reduceIte, Nat.reduceEqDiff]; done)))
      | rw [W_seq] | rw [W_reg] | rw [push_no] | rw [W_onil] | rw [W_skip] | rw [W_blk] | rw [W_b] | refine W_regd0 ?_)
    refine W_cond ?_
    simp only [WB, execE, unE, args0, reduceIte, Nat.reduceEqDiff, Nat.reduceAdd, Nat.reduceLeDiff, WC]
    rw [W_seq]
    refine W_cutK [_] (fun g' m' => g' 0 = .i .i64 n ∧ m' = m.inn) ?_ ?_
    · simp only [List.cons_append, List.nil_append]
      cases hA : decide ((0 : Int) ≤ n)
      · skip
        repeat (first
          | ((first | refine W_op rfl rfl ?_ | (refine W_opgT rfl rfl ?hg ?_; (case hg => (simp only [WG, reduceIte, Nat.reduceEqDiff]; done)))); simp only [WB, execE, unE, args0, reduceIte, Nat.reduceEqDiff, Nat.reduceAdd, Nat.reduceLeDiff, binE, isShift, intBin, hA, Wo_some])
          | (refine W_opgF rfl rfl ?hg ?_; (case hg => (simp only [WG, reduceIte, Nat.reduceEqDiff]; done)))
          | rw [W_seq] | rw [W_reg] | rw [push_no] | rw [W_onil] | rw [W_skip] | rw [W_blk] | rw [W_b] | refine W_regd0 ?_)
        refine W_cond ?_
        simp only [WB, execE, unE, args0, reduceIte, Nat.reduceEqDiff, Nat.reduceAdd, Nat.reduceLeDiff, WC]
        repeat (first
          | ((first | refine W_op rfl rfl ?_ | (refine W_opgT rfl rfl ?hg ?_; (case hg => (simp only [WG, reduceIte, Nat.reduceEqDiff]; done)))); simp only [WB, execE, unE, args0, reduceIte, Nat.reduceEqDiff, Nat.reduceAdd, Nat.reduceLeDiff, Wo_some])
          | (refine W_opgF rfl rfl ?hg ?_; (case hg => (simp only [WG, reduceIte, Nat.reduceEqDiff]; done)))
          | rw [W_seq] | rw [W_reg] | rw [push_no] | rw [W_onil] | rw [W_skip] | rw [W_blk] | rw [W_b] | refine W_regd0 ?_)
        refine W_j (by repeat (first | exact hg | exact args0_un (Nat.le_of_ble_eq_true rfl) | refine upd_un ?_ rfl)) ?_
        refine ⟨?_, rfl⟩
        · skip
          simp only [upd_at, upd_none, reduceIte, Nat.reduceEqDiff, args0, List.getD_cons_zero, List.getD_cons_succ, List.getD_nil]
      · have hB : decide (n < 100) = false := by simp at hA ⊢; omega
        repeat (first
          | ((first | refine W_op rfl rfl ?_ | (refine W_opgT rfl rfl ?hg ?_; (case hg => (simp only [WG, reduceIte, Nat.reduceEqDiff]; done)))); simp only [WB, execE, unE, args0, reduceIte, Nat.reduceEqDiff, Nat.reduceAdd, Nat.reduceLeDiff, binE, isShift, intBin, hA, hB, Wo_some])
          | (refine W_opgF rfl rfl ?hg ?_; (case hg => (simp only [WG, reduceIte, Nat.reduceEqDiff]; done)))
          | rw [W_seq] | rw [W_reg] | rw [push_no] | rw [W_onil] | rw [W_skip] | rw [W_blk] | rw [W_b] | refine W_regd0 ?_)
        refine W_cond ?_
        simp only [WB, execE, unE, args0, reduceIte, Nat.reduceEqDiff, Nat.reduceAdd, Nat.reduceLeDiff, WC]
        repeat (first
          | ((first | refine W_op rfl rfl ?_ | (refine W_opgT rfl rfl ?hg ?_; (case hg => (simp only [WG, reduceIte, Nat.reduceEqDiff]; done)))); simp only [WB, execE, unE, args0, reduceIte, Nat.reduceEqDiff, Nat.reduceAdd, Nat.reduceLeDiff, Wo_some])
          | (refine W_opgF rfl rfl ?hg ?_; (case hg => (simp only [WG, reduceIte, Nat.reduceEqDiff]; done)))
          | rw [W_seq] | rw [W_reg] | rw [push_no] | rw [W_onil] | rw [W_skip] | rw [W_blk] | rw [W_b] | refine W_regd0 ?_)
        refine W_j (by repeat (first | exact hg | exact args0_un (Nat.le_of_ble_eq_true rfl) | refine upd_un ?_ rfl)) ?_
        refine ⟨?_, rfl⟩
        · skip
          simp only [upd_at, upd_none, reduceIte, Nat.reduceEqDiff, args0, List.getD_cons_zero, List.getD_cons_succ, List.getD_nil]
    rintro g m1 ⟨g0, rfl⟩ hg
    have hw1 : 0 ≤ n → IntKind.u64.wrap n = (u : Int) := fun h => by
      have := wr_u64 (n := u) hu64
      rwa [show (u : Int) = n by omega] at this ⊢
    have hw2 : n < 0 → IntKind.u64.wrap n = n + 18446744073709551616 := fun h => wr_u64z n (by omega) h
    have hw3 : n < 0 → IntKind.u64.wrap (0 - (n + 18446744073709551616)) = (u : Int) := fun h => by
      rw [wr_u64z _ (by omega) (by omega)]; omega
    repeat (first
      | ((first | refine W_op rfl rfl ?_ | (refine W_opgT rfl rfl ?hg ?_; (case hg => (simp only [WG, reduceIte, Nat.reduceEqDiff]; done)))); simp only [WB, execE, unE, args0, reduceIte, Nat.reduceEqDiff, Nat.reduceAdd, Nat.reduceLeDiff, g0, binE, isShift, intBin, Wo_some])
      | (refine W_opgF rfl rfl ?hg ?_; (case hg => (simp only [WG, reduceIte, Nat.reduceEqDiff]; done)))
      | rw [W_seq] | rw [W_reg] | rw [push_no] | rw [W_onil] | rw [W_skip] | rw [W_blk] | rw [W_b] | refine W_regd0 ?_)
    obtain ⟨mA, hmA, f1, f2, f3, f4, f5⟩ : ∃ mA : AMem, mA = (m.inn.new (.cells [.i .u8 0, .i .u8 0, .i .u8 0, .i .u8 0, .i .u8 0, .i .u8 0, .i .u8 0, .i .u8 0, .i .u8 0, .i .u8 0, .i .u8 0, .i .u8 0, .i .u8 0, .i .u8 0, .i .u8 0, .i .u8 0, .i .u8 0, .i .u8 0, .i .u8 0, .i .u8 0, .i .u8 0, .i .u8 0, .i .u8 0, .i .u8 0] true ⟨24, some 176⟩)) ∧ mA.next = m.next + 1 ∧ mA.get m.next = some (.cells (List.replicate 24 (AV.i .u8 0)) true ⟨24, some 176⟩) ∧ Keep m mA [] ∧ mA.ds = [] ∧ P10 mA :=
      ⟨_, rfl, rfl, by rw [AMem.get_new, if_pos (by simp)]; rfl, (Keep.inn m).trans (Keep.new _ _) (by simp), rfl, hP.keep ((Keep.inn m).trans (Keep.new _ _) (by simp)) (by simp)⟩
    rw [← hmA]
    clear hmA
    refine W_cutK [_] (fun g' m' => g' 0 = .i .i64 n ∧ g' 5 = .p (some (m.next, 0)) ∧ g' 6 = .i .u64 (u : Int) ∧ m' = mA) ?_ ?_
    · cases hA : decide (n < 0)
      · have hnn : 0 ≤ n := by simpa using hA
        refine W_cond ?_
        simp only [WB, execE, unE, args0, reduceIte, Nat.reduceEqDiff, Nat.reduceAdd, Nat.reduceLeDiff, WC, hA]
        repeat (first
          | ((first | refine W_op rfl rfl ?_ | (refine W_opgT rfl rfl ?hg ?_; (case hg => (simp only [WG, reduceIte, Nat.reduceEqDiff]; done)))); simp only [WB, execE, unE, args0, reduceIte, Nat.reduceEqDiff, Nat.reduceAdd, Nat.reduceLeDiff, Wo_some])
          | (refine W_opgF rfl rfl ?hg ?_; (case hg => (simp only [WG, reduceIte, Nat.reduceEqDiff]; done)))
          | rw [W_seq] | rw [W_reg] | rw [push_no] | rw [W_onil] | rw [W_skip] | rw [W_blk] | rw [W_b] | refine W_regd0 ?_)
        refine W_j (by repeat (first | exact hg | exact args0_un (Nat.le_of_ble_eq_true rfl) | refine upd_un ?_ rfl)) ?_
        refine ⟨?_, ?_, ?_, rfl⟩
        · skip
          simp only [upd_at, upd_none, reduceIte, Nat.reduceEqDiff, args0, List.getD_cons_zero, List.getD_cons_succ, List.getD_nil, g0]
        · skip
          simp only [upd_at, upd_none, reduceIte, Nat.reduceEqDiff, args0, List.getD_cons_zero, List.getD_cons_succ, List.getD_nil]
        · skip
          simp only [upd_at, upd_none, reduceIte, Nat.reduceEqDiff, args0, List.getD_cons_zero, List.getD_cons_succ, List.getD_nil, hw1 hnn]
      · have hnn : n < 0 := by simpa using hA
        refine W_cond ?_
        simp only [WB, execE, unE, args0, reduceIte, Nat.reduceEqDiff, Nat.reduceAdd, Nat.reduceLeDiff, WC, hA]
        repeat (first
          | ((first | refine W_op rfl rfl ?_ | (refine W_opgT rfl rfl ?hg ?_; (case hg => (simp only [WG, reduceIte, Nat.reduceEqDiff]; done)))); simp only [WB, execE, unE, args0, reduceIte, Nat.reduceEqDiff, Nat.reduceAdd, Nat.reduceLeDiff, hw2 hnn, hw3 hnn, Wo_some])
          | (refine W_opgF rfl rfl ?hg ?_; (case hg => (simp only [WG, reduceIte, Nat.reduceEqDiff]; done)))
          | rw [W_seq] | rw [W_reg] | rw [push_no] | rw [W_onil] | rw [W_skip] | rw [W_blk] | rw [W_b] | refine W_regd0 ?_)
        refine W_j (by repeat (first | exact hg | exact args0_un (Nat.le_of_ble_eq_true rfl) | refine upd_un ?_ rfl)) ?_
        refine ⟨?_, ?_, ?_, rfl⟩
        · skip
          simp only [upd_at, upd_none, reduceIte, Nat.reduceEqDiff, args0, List.getD_cons_zero, List.getD_cons_succ, List.getD_nil, g0]
        · skip
          simp only [upd_at, upd_none, reduceIte, Nat.reduceEqDiff, args0, List.getD_cons_zero, List.getD_cons_succ, List.getD_nil]
        · skip
          simp only [upd_at, upd_none, reduceIte, Nat.reduceEqDiff, args0, List.getD_cons_zero, List.getD_cons_succ, List.getD_nil]
    clear g0 hg g
    rintro g m1 ⟨g0, g5, g6, rfl⟩ hg
    repeat (first
      | ((first | refine W_op rfl rfl ?_ | (refine W_opgT rfl rfl ?hg ?_; (case hg => (simp only [WG, reduceIte, Nat.reduceEqDiff]; done)))); simp only [WB, execE, unE, args0, reduceIte, Nat.reduceEqDiff, Nat.reduceAdd, Nat.reduceLeDiff, g6, Wo_some])
      | (refine W_opgF rfl rfl ?hg ?_; (case hg => (simp only [WG, reduceIte, Nat.reduceEqDiff]; done)))
      | rw [W_seq] | rw [W_reg] | rw [push_no] | rw [W_onil] | rw [W_skip] | rw [W_blk] | rw [W_b] | refine W_regd0 ?_)
    refine W_callA rfl ?hargs (call90 f5 hu0 hu64) ?_
    case hargs => simp only [WB, execE, unE, args0, reduceIte, Nat.reduceEqDiff, Nat.reduceAdd, Nat.reduceLeDiff, g6] <;> rfl
    rintro v m2 ⟨rfl, k2⟩ hs2
    have w1 : IntKind.i64.wrap (1 + (nd u : Int)) = ((nd u + 1 : Nat) : Int) := by rw [wr_i64 (by omega) (by omega)]; omega
    have hsl := fun (g : Nat → AV) (x z : X) (mm : AMem) (hx : X.at g x = .p (some (m.next, 0))) (hz : X.at g z = .i .i64 ((nd u + 1 : Nat) : Int)) => (show execE (.sla 24 1 x (some (.c (.i .i64 1))) (some z)) (X.at g) mm = some (.sl (some (m.next, 1)) (nd u) 23 true, mm) from slaE (e := X.at g) (l := 1) (y := .c (.i .i64 1)) (k1 := .i64) (esz := 1) hx rfl hz (by omega) (by omega) (by omega))
    have hsl0 := fun (g : Nat → AV) (x z : X) (mm : AMem) (hx : X.at g x = .p (some (m.next, 0))) (hz : X.at g z = .i .i64 ((nd u + 1 : Nat) : Int)) => slaE0 (e := X.at g) (n := 24) (esz := 1) (m := mm) hx hz (by omega)
    repeat (first
      | ((first | refine W_op rfl rfl ?_ | (refine W_opgT rfl rfl ?hg ?_; (case hg => (simp only [WG, reduceIte, Nat.reduceEqDiff]; done)))); simp only [WB, execE, unE, args0, reduceIte, Nat.reduceEqDiff, Nat.reduceAdd, Nat.reduceLeDiff, g5, g6, binE, isShift, intBin, w1, ↓hsl, Wo_some])
      | (refine W_opgF rfl rfl ?hg ?_; (case hg => (simp only [WG, reduceIte, Nat.reduceEqDiff]; done)))
      | rw [W_seq] | rw [W_reg] | rw [push_no] | rw [W_onil] | rw [W_skip] | rw [W_blk] | rw [W_b] | refine W_regd0 ?_)
    have hm2 := k2.next
    have e2 : m2.get m.next = some (.cells (List.replicate 24 (AV.i .u8 0)) true ⟨24, some 176⟩) := k2.at (by omega) (by simp) f2
    refine W_callA rfl ?hargs (call91 (o := 1) (cap := 23) (ex := true) e2 (by omega) hn1 hn20 (lt_nd u) hu64 (by simp; omega)) ?_
    case hargs => simp only [WB, execE, unE, args0, reduceIte, Nat.reduceEqDiff, Nat.reduceAdd, Nat.reduceLeDiff] <;> rfl
    rintro v m3 ⟨hB, k3⟩ hs3
    have hlB : (cellsOfBytes (fixd (nd u) u)).length = nd u := by rw [bytes_len, fixd_len]
    have kk : Keep m m3 [] := (f3.trans k2 (by simp)).trans k3 (by simp)
    have ds3 : m3.ds = [] := by rw [hs3.ds, hs2.ds]; exact f4
    cases hA : decide (n < 0)
    · have hnn : 0 ≤ n := by simpa using hA
      have hrd := rd_splice hB (by rw [hlB]; simp; omega) hlB.symm
      repeat (first
        | ((first | refine W_op rfl rfl ?_ | (refine W_opgT rfl rfl ?hg ?_; (case hg => (simp only [WG, reduceIte, Nat.reduceEqDiff]; done)))); simp only [WB, execE, unE, args0, reduceIte, Nat.reduceEqDiff, Nat.reduceAdd, Nat.reduceLeDiff, g0, binE, isShift, intBin, hA, Wo_some])
        | (refine W_opgF rfl rfl ?hg ?_; (case hg => (simp only [WG, reduceIte, Nat.reduceEqDiff]; done)))
        | rw [W_seq] | rw [W_reg] | rw [push_no] | rw [W_onil] | rw [W_skip] | rw [W_blk] | rw [W_b] | refine W_regd0 ?_)
      refine W_cond ?_
      simp only [WB, execE, unE, args0, reduceIte, Nat.reduceEqDiff, Nat.reduceAdd, Nat.reduceLeDiff, WC]
      repeat (first
        | ((first | refine W_op rfl rfl ?_ | (refine W_opgT rfl rfl ?hg ?_; (case hg => (simp only [WG, reduceIte, Nat.reduceEqDiff]; done)))); simp only [WB, execE, unE, args0, reduceIte, Nat.reduceEqDiff, Nat.reduceAdd, Nat.reduceLeDiff, g5, binE, isShift, intBin, w1, ↓hsl, hrd, bytesOf_cells, Wo_some])
        | (refine W_opgF rfl rfl ?hg ?_; (case hg => (simp only [WG, reduceIte, Nat.reduceEqDiff]; done)))
        | rw [W_seq] | rw [W_reg] | rw [push_no] | rw [W_onil] | rw [W_skip] | rw [W_blk] | rw [W_b] | refine W_regd0 ?_)
      refine W_getRet (by repeat (first | exact hg | exact args0_un (Nat.le_of_ble_eq_true rfl) | refine upd_un ?_ rfl)) ?_
      exact ⟨ds3, _, rfl, by rw [hd, if_neg (by omega)]; rfl, kk.out⟩
    · have hnn : n < 0 := by simpa using hA
      repeat (first
        | ((first | refine W_op rfl rfl ?_ | (refine W_opgT rfl rfl ?hg ?_; (case hg => (simp only [WG, reduceIte, Nat.reduceEqDiff]; done)))); simp only [WB, execE, unE, args0, reduceIte, Nat.reduceEqDiff, Nat.reduceAdd, Nat.reduceLeDiff, g0, binE, isShift, intBin, hA, Wo_some])
        | (refine W_opgF rfl rfl ?hg ?_; (case hg => (simp only [WG, reduceIte, Nat.reduceEqDiff]; done)))
        | rw [W_seq] | rw [W_reg] | rw [push_no] | rw [W_onil] | rw [W_skip] | rw [W_blk] | rw [W_b] | refine W_regd0 ?_)
      refine W_cond ?_
      simp only [WB, execE, unE, args0, reduceIte, Nat.reduceEqDiff, Nat.reduceAdd, Nat.reduceLeDiff, WC]
      have i0 : (0 : Int) < ((24 : Nat) : Int) := by omega
      repeat (first
        | ((first | refine W_opS rfl rfl rfl ?_ | (refine W_opgT rfl rfl ?hg ?_; (case hg => (simp only [WG, reduceIte, Nat.reduceEqDiff]; done)))); simp only [WB, execE, unE, args0, reduceIte, Nat.reduceEqDiff, Nat.reduceAdd, Nat.reduceLeDiff, g5, Int.toNat_zero, Nat.zero_mul, Int.le_refl, i0, Std.le_refl, Wo_some])
        | (refine W_opgF rfl rfl ?hg ?_; (case hg => (simp only [WG, reduceIte, Nat.reduceEqDiff]; done)))
        | rw [W_seq] | rw [W_reg] | rw [push_no] | rw [W_onil] | rw [W_skip] | rw [W_blk] | rw [W_b] | refine W_regd0 ?_)
      refine W_stc (p := 0) ?ha ?hx hB (by omega) (by rw [hlB]; simp; omega) ?_
      case ha => (simp only [upd_at, at_t, reduceIte]; done)
      case hx => rfl
      intro m4 h4 k4 d4 r4
      have e4 : m4.get m.next = some (.cells (splice (List.replicate 24 (AV.i .u8 0)) 0 (cellsOfBytes (45 :: fixd (nd u) u))) true ⟨24, some 176⟩) := h4
      have hlC : (cellsOfBytes (45 :: fixd (nd u) u)).length = nd u + 1 := by rw [bytes_len, List.length_cons, fixd_len]
      have hrd := rd_splice e4 (by rw [hlC]; simp; omega) hlC.symm
      repeat (first
        | ((first | refine W_op rfl rfl ?_ | (refine W_opgT rfl rfl ?hg ?_; (case hg => (simp only [WG, reduceIte, Nat.reduceEqDiff]; done)))); simp only [WB, execE, unE, args0, reduceIte, Nat.reduceEqDiff, Nat.reduceAdd, Nat.reduceLeDiff, g5, binE, isShift, intBin, w1, ↓hsl0, hrd, bytesOf_cells, Wo_some])
        | (refine W_opgF rfl rfl ?hg ?_; (case hg => (simp only [WG, reduceIte, Nat.reduceEqDiff]; done)))
        | rw [W_seq] | rw [W_reg] | rw [push_no] | rw [W_onil] | rw [W_skip] | rw [W_blk] | rw [W_b] | refine W_regd0 ?_)
      refine W_getRet (by repeat (first | exact hg | exact args0_un (Nat.le_of_ble_eq_true rfl) | refine upd_un ?_ rfl)) ?_
      exact ⟨by rw [d4]; exact ds3, _, rfl, by rw [hd, if_pos hnn]; rfl, (kk.trans k4 (by simp)).out⟩
theorem call35 {m : AMem} {n : Int} (hP : P10 m) (h1 : -9223372036854775808 ≤ n) (h2 : n ≤ 9223372036854775807) : Vi.Call T 35 [.i .i64 n] m (fun v m' => v = .s ⟨(digI n).toArray⟩ ∧ Keep m m' []) := by
  refine Vi.Call.ofP T35 (Nat.le_of_ble_eq_true rfl) ?_
  unfold v35
  repeat (first
    | ((first | refine W_op rfl rfl ?_ | (refine W_opgT rfl rfl ?hg ?_; (case hg => (simp only [WG, reduceIte, Nat.reduceEqDiff]; done)))); simp only [WB, execE, unE, args0, reduceIte, Nat.reduceEqDiff, Nat.reduceAdd, Nat.reduceLeDiff, Wo_some])
    | (refine W_opgF rfl rfl ?hg ?_; (case hg => (simp only [WG, reduceIte, Nat.reduceEqDiff]; done)))
    | rw [W_seq] | rw [W_reg] | rw [push_no] | rw [W_onil] | rw [W_skip] | rw [W_blk] | rw [W_b] | refine W_regd0 ?_)
  refine W_callA rfl ?hargs (call59 (hP.keep (Keep.inn m) (by simp)) h1 h2) ?_
  case hargs => simp only [WB, execE, unE, args0, reduceIte, Nat.reduceEqDiff, Nat.reduceAdd, Nat.reduceLeDiff] <;> rfl
  rintro v m1 ⟨rfl, k1⟩ hs1
  repeat (first
    | ((first | refine W_op rfl rfl ?_ | (refine W_opgT rfl rfl ?hg ?_; (case hg => (simp only [WG, reduceIte, Nat.reduceEqDiff]; done)))); simp only [WB, execE, unE, args0, reduceIte, Nat.reduceEqDiff, Nat.reduceAdd, Nat.reduceLeDiff, Wo_some])
    | (refine W_opgF rfl rfl ?hg ?_; (case hg => (simp only [WG, reduceIte, Nat.reduceEqDiff]; done)))
    | rw [W_seq] | rw [W_reg] | rw [push_no] | rw [W_onil] | rw [W_skip] | rw [W_blk] | rw [W_b] | refine W_regd0 ?_)
  refine W_getRet (by repeat (first | exact hg | exact args0_un (Nat.le_of_ble_eq_true rfl) | refine upd_un ?_ rfl)) ?_
  exact ⟨hs1.ds, _, rfl, rfl, ((Keep.inn m).trans k1 (by simp)).out⟩
theorem call14 {m : AMem} {n : Int} (hP : P10 m) (h1 : -9223372036854775808 ≤ n) (h2 : n ≤ 9223372036854775807) : Vi.Call T 14 [.i .i64 n] m (fun v m' => v = .s ⟨(digI n).toArray⟩ ∧ Keep m m' []) := by
  refine Vi.Call.ofP T14 (Nat.le_of_ble_eq_true rfl) ?_
  unfold v14
  repeat (first
    | ((first | refine W_op rfl rfl ?_ | (refine W_opgT rfl rfl ?hg ?_; (case hg => (simp only [WG, reduceIte, Nat.reduceEqDiff]; done)))); simp only [WB, execE, unE, args0, reduceIte, Nat.reduceEqDiff, Nat.reduceAdd, Nat.reduceLeDiff, Wo_some])
    | (refine W_opgF rfl rfl ?hg ?_; (case hg => (simp only [WG, reduceIte, Nat.reduceEqDiff]; done)))
    | rw [W_seq] | rw [W_reg] | rw [push_no] | rw [W_onil] | rw [W_skip] | rw [W_blk] | rw [W_b] | refine W_regd0 ?_)
  refine W_callA rfl ?hargs (call35 (hP.keep (Keep.inn m) (by simp)) h1 h2) ?_
  case hargs => simp only [WB, execE, unE, args0, reduceIte, Nat.reduceEqDiff, Nat.reduceAdd, Nat.reduceLeDiff] <;> rfl
  rintro v m1 ⟨rfl, k1⟩ hs1
  repeat (first
    | ((first | refine W_op rfl rfl ?_ | (refine W_opgT rfl rfl ?hg ?_; (case hg => (simp only [WG, reduceIte, Nat.reduceEqDiff]; done)))); simp only [WB, execE, unE, args0, reduceIte, Nat.reduceEqDiff, Nat.reduceAdd, Nat.reduceLeDiff, Wo_some])
    | (refine W_opgF rfl rfl ?hg ?_; (case hg => (simp only [WG, reduceIte, Nat.reduceEqDiff]; done)))
    | rw [W_seq] | rw [W_reg] | rw [push_no] | rw [W_onil] | rw [W_skip] | rw [W_blk] | rw [W_b] | refine W_regd0 ?_)
  refine W_getRet (by repeat (first | exact hg | exact args0_un (Nat.le_of_ble_eq_true rfl) | refine upd_un ?_ rfl)) ?_
  exact ⟨hs1.ds, _, rfl, rfl, ((Keep.inn m).trans k1 (by simp)).out⟩
end Go.Proofs.YtdmoecehmclohaaGreatDoor
