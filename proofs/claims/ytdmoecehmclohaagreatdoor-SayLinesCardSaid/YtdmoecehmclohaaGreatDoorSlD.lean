/- The last digits of a number, as the library's function writes them. No condition. -/
import Derived.Test.YtdmoecehmclohaaGreatDoorSlVT
import Derived.Test.YtdmoecehmclohaaGreatDoorSlViNode
import Derived.Test.YtdmoecehmclohaaGreatDoorSlViNum
namespace Go.Proofs.YtdmoecehmclohaaGreatDoor
open Go.Vi
set_option linter.unusedSimpArgs false
set_option linter.unusedVariables false
def smallsB : ByteArray := ⟨smallsL.toArray⟩
theorem smallsB_eq : (⟨#[48, 48, 48, 49, 48, 50, 48, 51, 48, 52, 48, 53, 48, 54, 48, 55, 48, 56, 48, 57, 49, 48, 49, 49, 49, 50, 49, 51, 49, 52, 49, 53, 49, 54, 49, 55, 49, 56, 49, 57, 50, 48, 50, 49, 50, 50, 50, 51, 50, 52, 50, 53, 50, 54, 50, 55, 50, 56, 50, 57, 51, 48, 51, 49, 51, 50, 51, 51, 51, 52, 51, 53, 51, 54, 51, 55, 51, 56, 51, 57, 52, 48, 52, 49, 52, 50, 52, 51, 52, 52, 52, 53, 52, 54, 52, 55, 52, 56, 52, 57, 53, 48, 53, 49, 53, 50, 53, 51, 53, 52, 53, 53, 53, 54, 53, 55, 53, 56, 53, 57, 54, 48, 54, 49, 54, 50, 54, 51, 54, 52, 54, 53, 54, 54, 54, 55, 54, 56, 54, 57, 55, 48, 55, 49, 55, 50, 55, 51, 55, 52, 55, 53, 55, 54, 55, 55, 55, 56, 55, 57, 56, 48, 56, 49, 56, 50, 56, 51, 56, 52, 56, 53, 56, 54, 56, 55, 56, 56, 56, 57, 57, 48, 57, 49, 57, 50, 57, 51, 57, 52, 57, 53, 57, 54, 57, 55, 57, 56, 57, 57]⟩ : ByteArray) = smallsB := by kernel_rfl
theorem smallsB_at (x : Nat) (h : x < 100) : smallsB.data.toList[x * 2]? = some (UInt8.ofNat (48 + x / 10)) ∧ smallsB.data.toList[x * 2 + 1]? = some (UInt8.ofNat (48 + x % 10)) := smalls_at x h
theorem dmul {a b : Nat} (h : a < 100) (hb : b = a * 2) : IntKind.u32.wrap ((a : Int) * 2) = (b : Int) := by
  rw [show (a : Int) * 2 = ((a * 2 : Nat) : Int) by omega, wr_u32 (by omega), hb]
set_option maxHeartbeats 4000000 in
theorem call91 {m : AMem} {j o k cap : Nat} {ex : Bool} {c : List AV} {es : ES} {u : Nat} (hg : m.get j = some (.cells c true es)) (hj : j < m.next) (hk : 1 ≤ k) (hk2 : k ≤ 20) (hu : u < 10 ^ k) (hu64 : u < 18446744073709551616) (hc : o + k ≤ c.length) :
    Vi.Call T 91 [.sl (some (j, o)) k cap ex, .i .u64 u] m (fun _ m' => m'.get j = some (.cells (splice c o (cellsOfBytes (fixd k u))) true es) ∧ Keep m m' [j]) := by
  refine Vi.Call.ofP T91 (Nat.le_of_ble_eq_true rfl) ?_
  unfold v91
  rw [smallsB_eq]
  repeat (first
    | ((first | refine W_op rfl rfl ?_ | (refine W_opgT rfl rfl ?hg ?_; (case hg => (simp only [WG, reduceIte, Nat.reduceEqDiff]; done)))); simp only [WB, execE, unE, args0, reduceIte, Nat.reduceEqDiff, Nat.reduceAdd, Nat.reduceLeDiff, Wo_some])
    | (refine W_opgF rfl rfl ?hg ?_; (case hg => (simp only [WG, reduceIte, Nat.reduceEqDiff]; done)))
    | rw [W_seq] | rw [W_reg] | rw [push_no] | rw [W_onil] | rw [W_skip] | rw [W_blk] | rw [W_b] | refine W_regd0 ?_)
  refine W_cutK [_, _] (fun g' m' => ∃ r, r < 8 ∧ r ≤ k ∧ g' 0 = .sl (some (j, o)) k cap ex ∧ g' 1 = .i .u64 ((u / 10 ^ (k - r) : Nat) : Int) ∧ g' 4 = .i .i64 (r : Nat) ∧ m'.get j = some (.cells (splice c (o + r) (cellsOfBytes (fixd (k - r) u))) true es) ∧ Keep m m' [j] ∧ m'.ds = []) ?_ ?_
  · refine W_loop (fun q g' m' => ∃ r, q = r ∧ r ≤ k ∧ g' 0 = .sl (some (j, o)) k cap ex ∧ g' 1 = .i .u64 ((u / 10 ^ (k - r) : Nat) : Int) ∧ g' 4 = .i .i64 (r : Nat) ∧ m'.get j = some (.cells (splice c (o + r) (cellsOfBytes (fixd (k - r) u))) true es) ∧ Keep m m' [j] ∧ m'.ds = []) k ?_ ?_ ?_
    · refine ⟨k, rfl, Nat.le_refl _, ?_, ?_, ?_, ?_, (Keep.inn m).nil, rfl⟩
      · skip
        simp only [upd_at, upd_none, reduceIte, Nat.reduceEqDiff, args0, List.getD_cons_zero, List.getD_cons_succ, List.getD_nil]
      · skip
        simp only [upd_at, upd_none, reduceIte, Nat.reduceEqDiff, args0, List.getD_cons_zero, List.getD_cons_succ, List.getD_nil]
        rw [Nat.sub_self, Nat.pow_zero, Nat.div_one]
      · skip
        simp only [upd_at, upd_none, reduceIte, Nat.reduceEqDiff, args0, List.getD_cons_zero, List.getD_cons_succ, List.getD_nil]
      · rw [Nat.sub_self]
        simp only [fixd, cellsOfBytes, List.map_nil, splice_nil]
        exact hg
    · intro i hi
      repeat (first | exact args0_un (Nat.le_of_ble_eq_true rfl) i hi | refine upd_un ?_ rfl i hi; clear i hi; intro i hi)
    · rintro q g m1 ⟨r, rfl, hr, g0, g1, g4, hm1, hK, hds⟩ hg
      cases hA : decide ((q : Int) ≥ 8)
      · have hq : q < 8 := by simp at hA; omega
        repeat (first
          | ((first | refine W_op rfl rfl ?_ | (refine W_opgT rfl rfl ?hg ?_; (case hg => (simp only [WG, reduceIte, Nat.reduceEqDiff]; done)))); simp only [WB, execE, unE, args0, reduceIte, Nat.reduceEqDiff, Nat.reduceAdd, Nat.reduceLeDiff, g4, binE, isShift, intBin, hA, Wo_some])
          | (refine W_opgF rfl rfl ?hg ?_; (case hg => (simp only [WG, reduceIte, Nat.reduceEqDiff]; done)))
          | rw [W_seq] | rw [W_reg] | rw [push_no] | rw [W_onil] | rw [W_skip] | rw [W_blk] | rw [W_b] | refine W_regd0 ?_)
        refine W_cond ?_
        simp only [WB, execE, unE, args0, reduceIte, Nat.reduceEqDiff, Nat.reduceAdd, Nat.reduceLeDiff, WC]
        refine W_exit rfl ?_
        refine W_j (by repeat (first | exact hg | exact args0_un (Nat.le_of_ble_eq_true rfl) | refine upd_un ?_ rfl)) ?_
        refine ⟨q, hq, hr, ?_, ?_, ?_, hm1, hK, hds⟩
        · skip
          simp only [upd_at, upd_none, reduceIte, Nat.reduceEqDiff, args0, List.getD_cons_zero, List.getD_cons_succ, List.getD_nil, g0]
        · skip
          simp only [upd_at, upd_none, reduceIte, Nat.reduceEqDiff, args0, List.getD_cons_zero, List.getD_cons_succ, List.getD_nil, g1]
        · skip
          simp only [upd_at, upd_none, reduceIte, Nat.reduceEqDiff, args0, List.getD_cons_zero, List.getD_cons_succ, List.getD_nil, g4]
      · obtain ⟨r, rfl⟩ : ∃ r, q = r + 8 := ⟨q - 8, by simp at hA; omega⟩
        obtain ⟨U, hU⟩ : ∃ U, U = u / 10 ^ (k - (r + 8)) := ⟨_, rfl⟩
        rw [← hU] at g1
        have hUl : U < 18446744073709551616 := by rw [hU]; exact Nat.lt_of_le_of_lt (Nat.div_le_self _ _) hu64
        obtain ⟨V, hV⟩ : ∃ V, V = U % 100000000 := ⟨_, rfl⟩
        obtain ⟨A, hAd⟩ : ∃ A, A = V / 10000 := ⟨_, rfl⟩
        obtain ⟨B, hBd⟩ : ∃ B, B = V % 10000 := ⟨_, rfl⟩
        have n1 : (U : Int).tmod 100000000 = (V : Int) := by rw [hV]; rfl
        have n2 : IntKind.u32.wrap (V : Int) = (V : Int) := wr_u32 (by omega)
        have n3 : IntKind.u64.wrap ((U : Int).tdiv 100000000) = ((U / 100000000 : Nat) : Int) := wr_u64 (n := U / 100000000) (by omega)
        have n4 : IntKind.u32.wrap ((V : Int).tdiv 10000) = (A : Int) := by rw [hAd]; exact wr_u32 (n := V / 10000) (by omega)
        have n5 : (V : Int).tmod 10000 = (B : Int) := by rw [hBd]; rfl
        obtain ⟨A1, hA1⟩ : ∃ x, x = A / 100 := ⟨_, rfl⟩
        obtain ⟨A0, hA0⟩ : ∃ x, x = A % 100 := ⟨_, rfl⟩
        obtain ⟨B1, hB1⟩ : ∃ x, x = B / 100 := ⟨_, rfl⟩
        obtain ⟨B0, hB0⟩ : ∃ x, x = B % 100 := ⟨_, rfl⟩
        have a1 : IntKind.u32.wrap ((A : Int).tdiv 100) = (A1 : Int) := by rw [hA1]; exact wr_u32 (n := A / 100) (by omega)
        have a0 : (A : Int).tmod 100 = (A0 : Int) := by rw [hA0]; rfl
        have b1 : IntKind.u32.wrap ((B : Int).tdiv 100) = (B1 : Int) := by rw [hB1]; exact wr_u32 (n := B / 100) (by omega)
        have b0 : (B : Int).tmod 100 = (B0 : Int) := by rw [hB0]; rfl
        have la1 : A1 < 100 := by omega
        have la0 : A0 < 100 := by omega
        have lb1 : B1 < 100 := by omega
        have lb0 : B0 < 100 := by omega
        have p : ∀ x : Nat, x < 100 → IntKind.u32.wrap ((x : Int) * 2) = ((x * 2 : Nat) : Int) := fun x hx => dmul hx rfl
        have p2 : ∀ x : Nat, x < 100 → IntKind.u32.wrap (((x * 2 : Nat) : Int) + 1) = ((x * 2 + 1 : Nat) : Int) := fun x hx => (wr_u32 (n := x * 2 + 1) (by omega))
        have pa1 := p A1 la1
        have pa0 := p A0 la0
        have pb1 := p B1 lb1
        have pb0 := p B0 lb0
        have qa1 := p2 A1 la1
        have qa0 := p2 A0 la0
        have qb1 := p2 B1 lb1
        have qb0 := p2 B0 lb0
        obtain ⟨sa1, ta1⟩ := smallsB_at A1 la1
        obtain ⟨sa0, ta0⟩ := smallsB_at A0 la0
        obtain ⟨sb1, tb1⟩ := smallsB_at B1 lb1
        obtain ⟨sb0, tb0⟩ := smallsB_at B0 lb0
        have w : ∀ i x : Nat, r + 8 = x + i → i ≤ 8 → IntKind.i64.wrap (((r + 8 : Nat) : Int) - (i : Int)) = (x : Int) := fun i x h1 h2 => by
          rw [wr_i64 (by omega) (by omega)]; omega
        have w1 : IntKind.i64.wrap (((r + 8 : Nat) : Int) - 1) = ((r + 7 : Nat) : Int) := w 1 (r + 7) rfl (by omega)
        have w2 : IntKind.i64.wrap (((r + 8 : Nat) : Int) - 2) = ((r + 6 : Nat) : Int) := w 2 (r + 6) rfl (by omega)
        have w3 : IntKind.i64.wrap (((r + 8 : Nat) : Int) - 3) = ((r + 5 : Nat) : Int) := w 3 (r + 5) rfl (by omega)
        have w4 : IntKind.i64.wrap (((r + 8 : Nat) : Int) - 4) = ((r + 4 : Nat) : Int) := w 4 (r + 4) rfl (by omega)
        have w5 : IntKind.i64.wrap (((r + 8 : Nat) : Int) - 5) = ((r + 3 : Nat) : Int) := w 5 (r + 3) rfl (by omega)
        have w6 : IntKind.i64.wrap (((r + 8 : Nat) : Int) - 6) = ((r + 2 : Nat) : Int) := w 6 (r + 2) rfl (by omega)
        have w7 : IntKind.i64.wrap (((r + 8 : Nat) : Int) - 7) = ((r + 1 : Nat) : Int) := w 7 (r + 1) rfl (by omega)
        have w8 : IntKind.i64.wrap (((r + 8 : Nat) : Int) - 8) = ((r : Nat) : Int) := w 8 (r) rfl (by omega)
        have i1 : ((r + 7 : Nat) : Int) < (k : Int) := by omega
        have i2 : ((r + 6 : Nat) : Int) < (k : Int) := by omega
        have i3 : ((r + 5 : Nat) : Int) < (k : Int) := by omega
        have i4 : ((r + 4 : Nat) : Int) < (k : Int) := by omega
        have i5 : ((r + 3 : Nat) : Int) < (k : Int) := by omega
        have i6 : ((r + 2 : Nat) : Int) < (k : Int) := by omega
        have i7 : ((r + 1 : Nat) : Int) < (k : Int) := by omega
        have i8 : ((r : Nat) : Int) < (k : Int) := by omega
        repeat (first
          | ((first | refine W_op rfl rfl ?_ | (refine W_opgT rfl rfl ?hg ?_; (case hg => (simp only [WG, reduceIte, Nat.reduceEqDiff]; done)))); simp only [WB, execE, unE, args0, reduceIte, Nat.reduceEqDiff, Nat.reduceAdd, Nat.reduceLeDiff, g4, binE, isShift, intBin, hA, Wo_some])
          | (refine W_opgF rfl rfl ?hg ?_; (case hg => (simp only [WG, reduceIte, Nat.reduceEqDiff]; done)))
          | rw [W_seq] | rw [W_reg] | rw [push_no] | rw [W_onil] | rw [W_skip] | rw [W_blk] | rw [W_b] | refine W_regd0 ?_)
        refine W_cond ?_
        simp only [WB, execE, unE, args0, reduceIte, Nat.reduceEqDiff, Nat.reduceAdd, Nat.reduceLeDiff, WC]
        repeat (first
          | ((first | refine W_opS rfl rfl rfl ?_ | (refine W_opgT rfl rfl ?hg ?_; (case hg => (simp only [WG, reduceIte, Nat.reduceEqDiff]; done)))); simp only [WB, execE, unE, args0, reduceIte, Nat.reduceEqDiff, Nat.reduceAdd, Nat.reduceLeDiff, g0, g1, g4, binE, isShift, intBin, n1, n2, n3, n4, n5, a1, a0, b1, b0, pa1, pa0, pb1, pb0, qa1, qa0, qb1, qb0, sa1, sa0, sb1, sb0, ta1, ta0, tb1, tb0, w1, w2, w3, w4, w5, w6, w7, w8, i1, i2, i3, i4, i5, i6, i7, i8, Int.natCast_nonneg, Int.toNat_natCast, Nat.mul_one, Int.reduceEq, Bool.false_or, if_true, if_false, Wo_some])
          | (refine W_opgF rfl rfl ?hg ?_; (case hg => (simp only [WG, reduceIte, Nat.reduceEqDiff]; done)))
          | rw [W_seq] | rw [W_reg] | rw [push_no] | rw [W_onil] | rw [W_skip] | rw [W_blk] | rw [W_b] | refine W_regd0 ?_)
        refine W_stc (p := o + (r + 7)) ?ha ?hx hm1 (by omega) (by simp only [List.length_cons, bytes_len, fixd_len]; omega) ?_
        case ha => (simp only [WB, execE, unE, args0, reduceIte, Nat.reduceEqDiff, Nat.reduceAdd, Nat.reduceLeDiff, g0, g1, g4, binE, isShift, intBin, n1, n2, n3, n4, n5, a1, a0, b1, b0, pa1, pa0, pb1, pb0, qa1, qa0, qb1, qb0, sa1, sa0, sb1, sb0, ta1, ta0, tb1, tb0, w1, w2, w3, w4, w5, w6, w7, w8, i1, i2, i3, i4, i5, i6, i7, i8, Int.natCast_nonneg, Int.toNat_natCast, Nat.mul_one, Int.reduceEq, Bool.false_or, if_true, if_false]; done)
        case hx => (simp only [WB, execE, unE, args0, reduceIte, Nat.reduceEqDiff, Nat.reduceAdd, Nat.reduceLeDiff, AV.one, g0, g1, g4, binE, isShift, intBin, n1, n2, n3, n4, n5, a1, a0, b1, b0, pa1, pa0, pb1, pb0, qa1, qa0, qb1, qb0, sa1, sa0, sb1, sb0, ta1, ta0, tb1, tb0, w1, w2, w3, w4, w5, w6, w7, w8, i1, i2, i3, i4, i5, i6, i7, i8, Int.natCast_nonneg, Int.toNat_natCast, Nat.mul_one, Int.reduceEq, Bool.false_or, if_true, if_false]; done)
        intro m2 h2 k2 d2 r2
        simp only [WB, execE, unE, args0, reduceIte, Nat.reduceEqDiff, Nat.reduceAdd, Nat.reduceLeDiff, g0, g1, g4, binE, isShift, intBin, n1, n2, n3, n4, n5, a1, a0, b1, b0, pa1, pa0, pb1, pb0, qa1, qa0, qb1, qb0, sa1, sa0, sb1, sb0, ta1, ta0, tb1, tb0, w1, w2, w3, w4, w5, w6, w7, w8, i1, i2, i3, i4, i5, i6, i7, i8, Int.natCast_nonneg, Int.toNat_natCast, Nat.mul_one, Int.reduceEq, Bool.false_or, if_true, if_false] at h2
        repeat (first
          | ((first | refine W_opS rfl rfl rfl ?_ | (refine W_opgT rfl rfl ?hg ?_; (case hg => (simp only [WG, reduceIte, Nat.reduceEqDiff]; done)))); simp only [WB, execE, unE, args0, reduceIte, Nat.reduceEqDiff, Nat.reduceAdd, Nat.reduceLeDiff, g0, g1, g4, binE, isShift, intBin, n1, n2, n3, n4, n5, a1, a0, b1, b0, pa1, pa0, pb1, pb0, qa1, qa0, qb1, qb0, sa1, sa0, sb1, sb0, ta1, ta0, tb1, tb0, w1, w2, w3, w4, w5, w6, w7, w8, i1, i2, i3, i4, i5, i6, i7, i8, Int.natCast_nonneg, Int.toNat_natCast, Nat.mul_one, Int.reduceEq, Bool.false_or, if_true, if_false, Wo_some])
          | (refine W_opgF rfl rfl ?hg ?_; (case hg => (simp only [WG, reduceIte, Nat.reduceEqDiff]; done)))
          | rw [W_seq] | rw [W_reg] | rw [push_no] | rw [W_onil] | rw [W_skip] | rw [W_blk] | rw [W_b] | refine W_regd0 ?_)
        refine W_stc (p := o + (r + 6)) ?ha ?hx h2 (by omega) (by simp only [List.length_cons, bytes_len, fixd_len]; omega) ?_
        case ha => (simp only [WB, execE, unE, args0, reduceIte, Nat.reduceEqDiff, Nat.reduceAdd, Nat.reduceLeDiff, g0, g1, g4, binE, isShift, intBin, n1, n2, n3, n4, n5, a1, a0, b1, b0, pa1, pa0, pb1, pb0, qa1, qa0, qb1, qb0, sa1, sa0, sb1, sb0, ta1, ta0, tb1, tb0, w1, w2, w3, w4, w5, w6, w7, w8, i1, i2, i3, i4, i5, i6, i7, i8, Int.natCast_nonneg, Int.toNat_natCast, Nat.mul_one, Int.reduceEq, Bool.false_or, if_true, if_false]; done)
        case hx => (simp only [WB, execE, unE, args0, reduceIte, Nat.reduceEqDiff, Nat.reduceAdd, Nat.reduceLeDiff, AV.one, g0, g1, g4, binE, isShift, intBin, n1, n2, n3, n4, n5, a1, a0, b1, b0, pa1, pa0, pb1, pb0, qa1, qa0, qb1, qb0, sa1, sa0, sb1, sb0, ta1, ta0, tb1, tb0, w1, w2, w3, w4, w5, w6, w7, w8, i1, i2, i3, i4, i5, i6, i7, i8, Int.natCast_nonneg, Int.toNat_natCast, Nat.mul_one, Int.reduceEq, Bool.false_or, if_true, if_false]; done)
        intro m3 h3 k3 d3 r3
        simp only [WB, execE, unE, args0, reduceIte, Nat.reduceEqDiff, Nat.reduceAdd, Nat.reduceLeDiff, g0, g1, g4, binE, isShift, intBin, n1, n2, n3, n4, n5, a1, a0, b1, b0, pa1, pa0, pb1, pb0, qa1, qa0, qb1, qb0, sa1, sa0, sb1, sb0, ta1, ta0, tb1, tb0, w1, w2, w3, w4, w5, w6, w7, w8, i1, i2, i3, i4, i5, i6, i7, i8, Int.natCast_nonneg, Int.toNat_natCast, Nat.mul_one, Int.reduceEq, Bool.false_or, if_true, if_false] at h3
        repeat (first
          | ((first | refine W_opS rfl rfl rfl ?_ | (refine W_opgT rfl rfl ?hg ?_; (case hg => (simp only [WG, reduceIte, Nat.reduceEqDiff]; done)))); simp only [WB, execE, unE, args0, reduceIte, Nat.reduceEqDiff, Nat.reduceAdd, Nat.reduceLeDiff, g0, g1, g4, binE, isShift, intBin, n1, n2, n3, n4, n5, a1, a0, b1, b0, pa1, pa0, pb1, pb0, qa1, qa0, qb1, qb0, sa1, sa0, sb1, sb0, ta1, ta0, tb1, tb0, w1, w2, w3, w4, w5, w6, w7, w8, i1, i2, i3, i4, i5, i6, i7, i8, Int.natCast_nonneg, Int.toNat_natCast, Nat.mul_one, Int.reduceEq, Bool.false_or, if_true, if_false, Wo_some])
          | (refine W_opgF rfl rfl ?hg ?_; (case hg => (simp only [WG, reduceIte, Nat.reduceEqDiff]; done)))
          | rw [W_seq] | rw [W_reg] | rw [push_no] | rw [W_onil] | rw [W_skip] | rw [W_blk] | rw [W_b] | refine W_regd0 ?_)
        refine W_stc (p := o + (r + 5)) ?ha ?hx h3 (by omega) (by simp only [List.length_cons, bytes_len, fixd_len]; omega) ?_
        case ha => (simp only [WB, execE, unE, args0, reduceIte, Nat.reduceEqDiff, Nat.reduceAdd, Nat.reduceLeDiff, g0, g1, g4, binE, isShift, intBin, n1, n2, n3, n4, n5, a1, a0, b1, b0, pa1, pa0, pb1, pb0, qa1, qa0, qb1, qb0, sa1, sa0, sb1, sb0, ta1, ta0, tb1, tb0, w1, w2, w3, w4, w5, w6, w7, w8, i1, i2, i3, i4, i5, i6, i7, i8, Int.natCast_nonneg, Int.toNat_natCast, Nat.mul_one, Int.reduceEq, Bool.false_or, if_true, if_false]; done)
        case hx => (simp only [WB, execE, unE, args0, reduceIte, Nat.reduceEqDiff, Nat.reduceAdd, Nat.reduceLeDiff, AV.one, g0, g1, g4, binE, isShift, intBin, n1, n2, n3, n4, n5, a1, a0, b1, b0, pa1, pa0, pb1, pb0, qa1, qa0, qb1, qb0, sa1, sa0, sb1, sb0, ta1, ta0, tb1, tb0, w1, w2, w3, w4, w5, w6, w7, w8, i1, i2, i3, i4, i5, i6, i7, i8, Int.natCast_nonneg, Int.toNat_natCast, Nat.mul_one, Int.reduceEq, Bool.false_or, if_true, if_false]; done)
        intro m4 h4 k4 d4 r4
        simp only [WB, execE, unE, args0, reduceIte, Nat.reduceEqDiff, Nat.reduceAdd, Nat.reduceLeDiff, g0, g1, g4, binE, isShift, intBin, n1, n2, n3, n4, n5, a1, a0, b1, b0, pa1, pa0, pb1, pb0, qa1, qa0, qb1, qb0, sa1, sa0, sb1, sb0, ta1, ta0, tb1, tb0, w1, w2, w3, w4, w5, w6, w7, w8, i1, i2, i3, i4, i5, i6, i7, i8, Int.natCast_nonneg, Int.toNat_natCast, Nat.mul_one, Int.reduceEq, Bool.false_or, if_true, if_false] at h4
        repeat (first
          | ((first | refine W_opS rfl rfl rfl ?_ | (refine W_opgT rfl rfl ?hg ?_; (case hg => (simp only [WG, reduceIte, Nat.reduceEqDiff]; done)))); simp only [WB, execE, unE, args0, reduceIte, Nat.reduceEqDiff, Nat.reduceAdd, Nat.reduceLeDiff, g0, g1, g4, binE, isShift, intBin, n1, n2, n3, n4, n5, a1, a0, b1, b0, pa1, pa0, pb1, pb0, qa1, qa0, qb1, qb0, sa1, sa0, sb1, sb0, ta1, ta0, tb1, tb0, w1, w2, w3, w4, w5, w6, w7, w8, i1, i2, i3, i4, i5, i6, i7, i8, Int.natCast_nonneg, Int.toNat_natCast, Nat.mul_one, Int.reduceEq, Bool.false_or, if_true, if_false, Wo_some])
          | (refine W_opgF rfl rfl ?hg ?_; (case hg => (simp only [WG, reduceIte, Nat.reduceEqDiff]; done)))
          | rw [W_seq] | rw [W_reg] | rw [push_no] | rw [W_onil] | rw [W_skip] | rw [W_blk] | rw [W_b] | refine W_regd0 ?_)
        refine W_stc (p := o + (r + 4)) ?ha ?hx h4 (by omega) (by simp only [List.length_cons, bytes_len, fixd_len]; omega) ?_
        case ha => (simp only [WB, execE, unE, args0, reduceIte, Nat.reduceEqDiff, Nat.reduceAdd, Nat.reduceLeDiff, g0, g1, g4, binE, isShift, intBin, n1, n2, n3, n4, n5, a1, a0, b1, b0, pa1, pa0, pb1, pb0, qa1, qa0, qb1, qb0, sa1, sa0, sb1, sb0, ta1, ta0, tb1, tb0, w1, w2, w3, w4, w5, w6, w7, w8, i1, i2, i3, i4, i5, i6, i7, i8, Int.natCast_nonneg, Int.toNat_natCast, Nat.mul_one, Int.reduceEq, Bool.false_or, if_true, if_false]; done)
        case hx => (simp only [WB, execE, unE, args0, reduceIte, Nat.reduceEqDiff, Nat.reduceAdd, Nat.reduceLeDiff, AV.one, g0, g1, g4, binE, isShift, intBin, n1, n2, n3, n4, n5, a1, a0, b1, b0, pa1, pa0, pb1, pb0, qa1, qa0, qb1, qb0, sa1, sa0, sb1, sb0, ta1, ta0, tb1, tb0, w1, w2, w3, w4, w5, w6, w7, w8, i1, i2, i3, i4, i5, i6, i7, i8, Int.natCast_nonneg, Int.toNat_natCast, Nat.mul_one, Int.reduceEq, Bool.false_or, if_true, if_false]; done)
        intro m5 h5 k5 d5 r5
        simp only [WB, execE, unE, args0, reduceIte, Nat.reduceEqDiff, Nat.reduceAdd, Nat.reduceLeDiff, g0, g1, g4, binE, isShift, intBin, n1, n2, n3, n4, n5, a1, a0, b1, b0, pa1, pa0, pb1, pb0, qa1, qa0, qb1, qb0, sa1, sa0, sb1, sb0, ta1, ta0, tb1, tb0, w1, w2, w3, w4, w5, w6, w7, w8, i1, i2, i3, i4, i5, i6, i7, i8, Int.natCast_nonneg, Int.toNat_natCast, Nat.mul_one, Int.reduceEq, Bool.false_or, if_true, if_false] at h5
        repeat (first
          | ((first | refine W_opS rfl rfl rfl ?_ | (refine W_opgT rfl rfl ?hg ?_; (case hg => (simp only [WG, reduceIte, Nat.reduceEqDiff]; done)))); simp only [WB, execE, unE, args0, reduceIte, Nat.reduceEqDiff, Nat.reduceAdd, Nat.reduceLeDiff, g0, g1, g4, binE, isShift, intBin, n1, n2, n3, n4, n5, a1, a0, b1, b0, pa1, pa0, pb1, pb0, qa1, qa0, qb1, qb0, sa1, sa0, sb1, sb0, ta1, ta0, tb1, tb0, w1, w2, w3, w4, w5, w6, w7, w8, i1, i2, i3, i4, i5, i6, i7, i8, Int.natCast_nonneg, Int.toNat_natCast, Nat.mul_one, Int.reduceEq, Bool.false_or, if_true, if_false, Wo_some])
          | (refine W_opgF rfl rfl ?hg ?_; (case hg => (simp only [WG, reduceIte, Nat.reduceEqDiff]; done)))
          | rw [W_seq] | rw [W_reg] | rw [push_no] | rw [W_onil] | rw [W_skip] | rw [W_blk] | rw [W_b] | refine W_regd0 ?_)
        refine W_stc (p := o + (r + 3)) ?ha ?hx h5 (by omega) (by simp only [List.length_cons, bytes_len, fixd_len]; omega) ?_
        case ha => (simp only [WB, execE, unE, args0, reduceIte, Nat.reduceEqDiff, Nat.reduceAdd, Nat.reduceLeDiff, g0, g1, g4, binE, isShift, intBin, n1, n2, n3, n4, n5, a1, a0, b1, b0, pa1, pa0, pb1, pb0, qa1, qa0, qb1, qb0, sa1, sa0, sb1, sb0, ta1, ta0, tb1, tb0, w1, w2, w3, w4, w5, w6, w7, w8, i1, i2, i3, i4, i5, i6, i7, i8, Int.natCast_nonneg, Int.toNat_natCast, Nat.mul_one, Int.reduceEq, Bool.false_or, if_true, if_false]; done)
        case hx => (simp only [WB, execE, unE, args0, reduceIte, Nat.reduceEqDiff, Nat.reduceAdd, Nat.reduceLeDiff, AV.one, g0, g1, g4, binE, isShift, intBin, n1, n2, n3, n4, n5, a1, a0, b1, b0, pa1, pa0, pb1, pb0, qa1, qa0, qb1, qb0, sa1, sa0, sb1, sb0, ta1, ta0, tb1, tb0, w1, w2, w3, w4, w5, w6, w7, w8, i1, i2, i3, i4, i5, i6, i7, i8, Int.natCast_nonneg, Int.toNat_natCast, Nat.mul_one, Int.reduceEq, Bool.false_or, if_true, if_false]; done)
        intro m6 h6 k6 d6 r6
        simp only [WB, execE, unE, args0, reduceIte, Nat.reduceEqDiff, Nat.reduceAdd, Nat.reduceLeDiff, g0, g1, g4, binE, isShift, intBin, n1, n2, n3, n4, n5, a1, a0, b1, b0, pa1, pa0, pb1, pb0, qa1, qa0, qb1, qb0, sa1, sa0, sb1, sb0, ta1, ta0, tb1, tb0, w1, w2, w3, w4, w5, w6, w7, w8, i1, i2, i3, i4, i5, i6, i7, i8, Int.natCast_nonneg, Int.toNat_natCast, Nat.mul_one, Int.reduceEq, Bool.false_or, if_true, if_false] at h6
        repeat (first
          | ((first | refine W_opS rfl rfl rfl ?_ | (refine W_opgT rfl rfl ?hg ?_; (case hg => (simp only [WG, reduceIte, Nat.reduceEqDiff]; done)))); simp only [WB, execE, unE, args0, reduceIte, Nat.reduceEqDiff, Nat.reduceAdd, Nat.reduceLeDiff, g0, g1, g4, binE, isShift, intBin, n1, n2, n3, n4, n5, a1, a0, b1, b0, pa1, pa0, pb1, pb0, qa1, qa0, qb1, qb0, sa1, sa0, sb1, sb0, ta1, ta0, tb1, tb0, w1, w2, w3, w4, w5, w6, w7, w8, i1, i2, i3, i4, i5, i6, i7, i8, Int.natCast_nonneg, Int.toNat_natCast, Nat.mul_one, Int.reduceEq, Bool.false_or, if_true, if_false, Wo_some])
          | (refine W_opgF rfl rfl ?hg ?_; (case hg => (simp only [WG, reduceIte, Nat.reduceEqDiff]; done)))
          | rw [W_seq] | rw [W_reg] | rw [push_no] | rw [W_onil] | rw [W_skip] | rw [W_blk] | rw [W_b] | refine W_regd0 ?_)
        refine W_stc (p := o + (r + 2)) ?ha ?hx h6 (by omega) (by simp only [List.length_cons, bytes_len, fixd_len]; omega) ?_
        case ha => (simp only [WB, execE, unE, args0, reduceIte, Nat.reduceEqDiff, Nat.reduceAdd, Nat.reduceLeDiff, g0, g1, g4, binE, isShift, intBin, n1, n2, n3, n4, n5, a1, a0, b1, b0, pa1, pa0, pb1, pb0, qa1, qa0, qb1, qb0, sa1, sa0, sb1, sb0, ta1, ta0, tb1, tb0, w1, w2, w3, w4, w5, w6, w7, w8, i1, i2, i3, i4, i5, i6, i7, i8, Int.natCast_nonneg, Int.toNat_natCast, Nat.mul_one, Int.reduceEq, Bool.false_or, if_true, if_false]; done)
        case hx => (simp only [WB, execE, unE, args0, reduceIte, Nat.reduceEqDiff, Nat.reduceAdd, Nat.reduceLeDiff, AV.one, g0, g1, g4, binE, isShift, intBin, n1, n2, n3, n4, n5, a1, a0, b1, b0, pa1, pa0, pb1, pb0, qa1, qa0, qb1, qb0, sa1, sa0, sb1, sb0, ta1, ta0, tb1, tb0, w1, w2, w3, w4, w5, w6, w7, w8, i1, i2, i3, i4, i5, i6, i7, i8, Int.natCast_nonneg, Int.toNat_natCast, Nat.mul_one, Int.reduceEq, Bool.false_or, if_true, if_false]; done)
        intro m7 h7 k7 d7 r7
        simp only [WB, execE, unE, args0, reduceIte, Nat.reduceEqDiff, Nat.reduceAdd, Nat.reduceLeDiff, g0, g1, g4, binE, isShift, intBin, n1, n2, n3, n4, n5, a1, a0, b1, b0, pa1, pa0, pb1, pb0, qa1, qa0, qb1, qb0, sa1, sa0, sb1, sb0, ta1, ta0, tb1, tb0, w1, w2, w3, w4, w5, w6, w7, w8, i1, i2, i3, i4, i5, i6, i7, i8, Int.natCast_nonneg, Int.toNat_natCast, Nat.mul_one, Int.reduceEq, Bool.false_or, if_true, if_false] at h7
        repeat (first
          | ((first | refine W_opS rfl rfl rfl ?_ | (refine W_opgT rfl rfl ?hg ?_; (case hg => (simp only [WG, reduceIte, Nat.reduceEqDiff]; done)))); simp only [WB, execE, unE, args0, reduceIte, Nat.reduceEqDiff, Nat.reduceAdd, Nat.reduceLeDiff, g0, g1, g4, binE, isShift, intBin, n1, n2, n3, n4, n5, a1, a0, b1, b0, pa1, pa0, pb1, pb0, qa1, qa0, qb1, qb0, sa1, sa0, sb1, sb0, ta1, ta0, tb1, tb0, w1, w2, w3, w4, w5, w6, w7, w8, i1, i2, i3, i4, i5, i6, i7, i8, Int.natCast_nonneg, Int.toNat_natCast, Nat.mul_one, Int.reduceEq, Bool.false_or, if_true, if_false, Wo_some])
          | (refine W_opgF rfl rfl ?hg ?_; (case hg => (simp only [WG, reduceIte, Nat.reduceEqDiff]; done)))
          | rw [W_seq] | rw [W_reg] | rw [push_no] | rw [W_onil] | rw [W_skip] | rw [W_blk] | rw [W_b] | refine W_regd0 ?_)
        refine W_stc (p := o + (r + 1)) ?ha ?hx h7 (by omega) (by simp only [List.length_cons, bytes_len, fixd_len]; omega) ?_
        case ha => (simp only [WB, execE, unE, args0, reduceIte, Nat.reduceEqDiff, Nat.reduceAdd, Nat.reduceLeDiff, g0, g1, g4, binE, isShift, intBin, n1, n2, n3, n4, n5, a1, a0, b1, b0, pa1, pa0, pb1, pb0, qa1, qa0, qb1, qb0, sa1, sa0, sb1, sb0, ta1, ta0, tb1, tb0, w1, w2, w3, w4, w5, w6, w7, w8, i1, i2, i3, i4, i5, i6, i7, i8, Int.natCast_nonneg, Int.toNat_natCast, Nat.mul_one, Int.reduceEq, Bool.false_or, if_true, if_false]; done)
        case hx => (simp only [WB, execE, unE, args0, reduceIte, Nat.reduceEqDiff, Nat.reduceAdd, Nat.reduceLeDiff, AV.one, g0, g1, g4, binE, isShift, intBin, n1, n2, n3, n4, n5, a1, a0, b1, b0, pa1, pa0, pb1, pb0, qa1, qa0, qb1, qb0, sa1, sa0, sb1, sb0, ta1, ta0, tb1, tb0, w1, w2, w3, w4, w5, w6, w7, w8, i1, i2, i3, i4, i5, i6, i7, i8, Int.natCast_nonneg, Int.toNat_natCast, Nat.mul_one, Int.reduceEq, Bool.false_or, if_true, if_false]; done)
        intro m8 h8 k8 d8 r8
        simp only [WB, execE, unE, args0, reduceIte, Nat.reduceEqDiff, Nat.reduceAdd, Nat.reduceLeDiff, g0, g1, g4, binE, isShift, intBin, n1, n2, n3, n4, n5, a1, a0, b1, b0, pa1, pa0, pb1, pb0, qa1, qa0, qb1, qb0, sa1, sa0, sb1, sb0, ta1, ta0, tb1, tb0, w1, w2, w3, w4, w5, w6, w7, w8, i1, i2, i3, i4, i5, i6, i7, i8, Int.natCast_nonneg, Int.toNat_natCast, Nat.mul_one, Int.reduceEq, Bool.false_or, if_true, if_false] at h8
        repeat (first
          | ((first | refine W_opS rfl rfl rfl ?_ | (refine W_opgT rfl rfl ?hg ?_; (case hg => (simp only [WG, reduceIte, Nat.reduceEqDiff]; done)))); simp only [WB, execE, unE, args0, reduceIte, Nat.reduceEqDiff, Nat.reduceAdd, Nat.reduceLeDiff, g0, g1, g4, binE, isShift, intBin, n1, n2, n3, n4, n5, a1, a0, b1, b0, pa1, pa0, pb1, pb0, qa1, qa0, qb1, qb0, sa1, sa0, sb1, sb0, ta1, ta0, tb1, tb0, w1, w2, w3, w4, w5, w6, w7, w8, i1, i2, i3, i4, i5, i6, i7, i8, Int.natCast_nonneg, Int.toNat_natCast, Nat.mul_one, Int.reduceEq, Bool.false_or, if_true, if_false, Wo_some])
          | (refine W_opgF rfl rfl ?hg ?_; (case hg => (simp only [WG, reduceIte, Nat.reduceEqDiff]; done)))
          | rw [W_seq] | rw [W_reg] | rw [push_no] | rw [W_onil] | rw [W_skip] | rw [W_blk] | rw [W_b] | refine W_regd0 ?_)
        refine W_stc (p := o + r) ?ha ?hx h8 (by omega) (by simp only [List.length_cons, bytes_len, fixd_len]; omega) ?_
        case ha => (simp only [WB, execE, unE, args0, reduceIte, Nat.reduceEqDiff, Nat.reduceAdd, Nat.reduceLeDiff, g0, g1, g4, binE, isShift, intBin, n1, n2, n3, n4, n5, a1, a0, b1, b0, pa1, pa0, pb1, pb0, qa1, qa0, qb1, qb0, sa1, sa0, sb1, sb0, ta1, ta0, tb1, tb0, w1, w2, w3, w4, w5, w6, w7, w8, i1, i2, i3, i4, i5, i6, i7, i8, Int.natCast_nonneg, Int.toNat_natCast, Nat.mul_one, Int.reduceEq, Bool.false_or, if_true, if_false]; done)
        case hx => (simp only [WB, execE, unE, args0, reduceIte, Nat.reduceEqDiff, Nat.reduceAdd, Nat.reduceLeDiff, AV.one, g0, g1, g4, binE, isShift, intBin, n1, n2, n3, n4, n5, a1, a0, b1, b0, pa1, pa0, pb1, pb0, qa1, qa0, qb1, qb0, sa1, sa0, sb1, sb0, ta1, ta0, tb1, tb0, w1, w2, w3, w4, w5, w6, w7, w8, i1, i2, i3, i4, i5, i6, i7, i8, Int.natCast_nonneg, Int.toNat_natCast, Nat.mul_one, Int.reduceEq, Bool.false_or, if_true, if_false]; done)
        intro m9 h9 k9 d9 r9
        simp only [WB, execE, unE, args0, reduceIte, Nat.reduceEqDiff, Nat.reduceAdd, Nat.reduceLeDiff, g0, g1, g4, binE, isShift, intBin, n1, n2, n3, n4, n5, a1, a0, b1, b0, pa1, pa0, pb1, pb0, qa1, qa0, qb1, qb0, sa1, sa0, sb1, sb0, ta1, ta0, tb1, tb0, w1, w2, w3, w4, w5, w6, w7, w8, i1, i2, i3, i4, i5, i6, i7, i8, Int.natCast_nonneg, Int.toNat_natCast, Nat.mul_one, Int.reduceEq, Bool.false_or, if_true, if_false] at h9
        repeat (first
          | ((first | refine W_opS rfl rfl rfl ?_ | (refine W_opgT rfl rfl ?hg ?_; (case hg => (simp only [WG, reduceIte, Nat.reduceEqDiff]; done)))); simp only [WB, execE, unE, args0, reduceIte, Nat.reduceEqDiff, Nat.reduceAdd, Nat.reduceLeDiff, g0, g1, g4, binE, isShift, intBin, n1, n2, n3, n4, n5, a1, a0, b1, b0, pa1, pa0, pb1, pb0, qa1, qa0, qb1, qb0, sa1, sa0, sb1, sb0, ta1, ta0, tb1, tb0, w1, w2, w3, w4, w5, w6, w7, w8, i1, i2, i3, i4, i5, i6, i7, i8, Int.natCast_nonneg, Int.toNat_natCast, Nat.mul_one, Int.reduceEq, Bool.false_or, if_true, if_false, Wo_some])
          | (refine W_opgF rfl rfl ?hg ?_; (case hg => (simp only [WG, reduceIte, Nat.reduceEqDiff]; done)))
          | rw [W_seq] | rw [W_reg] | rw [push_no] | rw [W_onil] | rw [W_skip] | rw [W_blk] | rw [W_b] | refine W_regd0 ?_)
        refine W_j (by repeat (first | exact hg | exact args0_un (Nat.le_of_ble_eq_true rfl) | refine upd_un ?_ rfl)) ?_
        have jj : ∀ i ∈ [j], i ∈ [j] ∨ m.next ≤ i := fun i hi => .inl hi
        refine ⟨r, by omega, r, rfl, by omega, ?_, ?_, ?_, ?_, (((((((hK.trans k2 jj).trans k3 jj).trans k4 jj).trans k5 jj).trans k6 jj).trans k7 jj).trans k8 jj).trans k9 jj, ?_⟩
        · skip
          simp only [upd_at, upd_none, reduceIte, Nat.reduceEqDiff, args0, List.getD_cons_zero, List.getD_cons_succ, List.getD_nil, g0]
        · skip
          simp only [upd_at, upd_none, reduceIte, Nat.reduceEqDiff, args0, List.getD_cons_zero, List.getD_cons_succ, List.getD_nil]
          rw [hU, Nat.div_div_eq_div_mul, show 10 ^ (k - (r + 8)) * 100000000 = 10 ^ (k - r) by rw [show k - r = (k - (r + 8)) + 8 by omega, Nat.pow_add]]
        · skip
          simp only [upd_at, upd_none, reduceIte, Nat.reduceEqDiff, args0, List.getD_cons_zero, List.getD_cons_succ, List.getD_nil]
        · rw [h9, show k - r = 8 + (k - (r + 8)) by omega, fixd_add, ← hU]
          simp only [fixd, List.nil_append, bytes_app, List.cons_append, List.append_assoc, cellsOfBytes, List.map_cons, List.map_nil]
          have e1 : A1 / 10 = U / 10 / 10 / 10 / 10 / 10 / 10 / 10 % 10 := by omega
          have e2 : A1 % 10 = U / 10 / 10 / 10 / 10 / 10 / 10 % 10 := by omega
          have e3 : A0 / 10 = U / 10 / 10 / 10 / 10 / 10 % 10 := by omega
          have e4 : A0 % 10 = U / 10 / 10 / 10 / 10 % 10 := by omega
          have e5 : B1 / 10 = U / 10 / 10 / 10 % 10 := by omega
          have e6 : B1 % 10 = U / 10 / 10 % 10 := by omega
          have e7 : B0 / 10 = U / 10 % 10 := by omega
          have e8 : B0 % 10 = U % 10 := by omega
          rw [e1, e2, e3, e4, e5, e6, e7, e8]
        · rw [d9, d8, d7, d6, d5, d4, d3, d2]; exact hds
  · rintro g m1 ⟨r, hr8, hrk, g0, g1, g4, hm1, hK, hds⟩ hg
    have jj : ∀ i ∈ [j], i ∈ [j] ∨ m.next ≤ i := fun i hi => .inl hi
    have hUr : ∀ r, r ≤ k → u / 10 ^ (k - r) < 10 ^ r := fun r hr => by
      rw [Nat.div_lt_iff_lt_mul (Nat.pow_pos (by omega)), ← Nat.pow_add, show r + (k - r) = k by omega]; exact hu
    have hU7 : ∀ r q, r ≤ k → r ≤ q → u / 10 ^ (k - r) < 10 ^ q := fun r q hr h => Nat.lt_of_lt_of_le (hUr r hr) (Nat.pow_le_pow_right (by omega) h)
    have hup : ∀ r i : Nat, r + i ≤ k → u / 10 ^ (k - (r + i)) / 10 ^ i = u / 10 ^ (k - r) := fun r i h => by
      rw [Nat.div_div_eq_div_mul, ← Nat.pow_add, show k - (r + i) + i = k - r by omega]
    have n7 : IntKind.u32.wrap ((u / 10 ^ (k - r) : Nat) : Int) = ((u / 10 ^ (k - r) : Nat) : Int) := wr_u32 (by have := hU7 r 7 hrk (by omega); omega)
    repeat (first
      | ((first | refine W_op rfl rfl ?_ | (refine W_opgT rfl rfl ?hg ?_; (case hg => (simp only [WG, reduceIte, Nat.reduceEqDiff]; done)))); simp only [WB, execE, unE, args0, reduceIte, Nat.reduceEqDiff, Nat.reduceAdd, Nat.reduceLeDiff, g1, g4, binE, isShift, intBin, n7, Wo_some])
      | (refine W_opgF rfl rfl ?hg ?_; (case hg => (simp only [WG, reduceIte, Nat.reduceEqDiff]; done)))
      | rw [W_seq] | rw [W_reg] | rw [push_no] | rw [W_onil] | rw [W_skip] | rw [W_blk] | rw [W_b] | refine W_regd0 ?_)
    refine W_cutK [_] (fun g' m' => ∃ r, r < 4 ∧ r ≤ k ∧ g' 0 = .sl (some (j, o)) k cap ex ∧ g' 12 = .i .u32 ((u / 10 ^ (k - r) : Nat) : Int) ∧ g' 4 = .i .i64 (r : Nat) ∧ m'.get j = some (.cells (splice c (o + r) (cellsOfBytes (fixd (k - r) u))) true es) ∧ Keep m m' [j] ∧ m'.ds = []) ?_ ?_
    · cases hB : decide ((r : Int) ≥ 4)
      · skip
        refine W_cond ?_
        simp only [WB, execE, unE, args0, reduceIte, Nat.reduceEqDiff, Nat.reduceAdd, Nat.reduceLeDiff, WC, hB]
        repeat (first
          | ((first | refine W_op rfl rfl ?_ | (refine W_opgT rfl rfl ?hg ?_; (case hg => (simp only [WG, reduceIte, Nat.reduceEqDiff]; done)))); simp only [WB, execE, unE, args0, reduceIte, Nat.reduceEqDiff, Nat.reduceAdd, Nat.reduceLeDiff, Wo_some])
          | (refine W_opgF rfl rfl ?hg ?_; (case hg => (simp only [WG, reduceIte, Nat.reduceEqDiff]; done)))
          | rw [W_seq] | rw [W_reg] | rw [push_no] | rw [W_onil] | rw [W_skip] | rw [W_blk] | rw [W_b] | refine W_regd0 ?_)
        refine W_j (by repeat (first | exact hg | exact args0_un (Nat.le_of_ble_eq_true rfl) | refine upd_un ?_ rfl)) ?_
        refine ⟨r, by simp at hB; omega, hrk, ?_, ?_, ?_, hm1, hK, hds⟩
        · skip
          simp only [upd_at, upd_none, reduceIte, Nat.reduceEqDiff, args0, List.getD_cons_zero, List.getD_cons_succ, List.getD_nil, g0]
        · skip
          simp only [upd_at, upd_none, reduceIte, Nat.reduceEqDiff, args0, List.getD_cons_zero, List.getD_cons_succ, List.getD_nil]
        · skip
          simp only [upd_at, upd_none, reduceIte, Nat.reduceEqDiff, args0, List.getD_cons_zero, List.getD_cons_succ, List.getD_nil, g4]
      · skip
        refine W_cond ?_
        simp only [WB, execE, unE, args0, reduceIte, Nat.reduceEqDiff, Nat.reduceAdd, Nat.reduceLeDiff, WC, hB]
        obtain ⟨r, rfl⟩ : ∃ r', r = r' + 4 := ⟨r - 4, by simp at hB; omega⟩
        have hup4 := hup r 4 (by omega)
        obtain ⟨U, hU⟩ : ∃ U, U = u / 10 ^ (k - (r + 4)) := ⟨_, rfl⟩
        have hUl : U < 10 ^ 7 := by rw [hU]; exact hU7 (r + 4) 7 hrk (by omega)
        rw [← hU] at hup4
        rw [← hU]
        obtain ⟨B, hBd⟩ : ∃ B, B = U % 10000 := ⟨_, rfl⟩
        have n5 : (U : Int).tmod 10000 = (B : Int) := by rw [hBd]; rfl
        have n2 : IntKind.u32.wrap (B : Int) = (B : Int) := wr_u32 (by omega)
        have n3 : IntKind.u32.wrap ((U : Int).tdiv 10000) = ((U / 10000 : Nat) : Int) := wr_u32 (n := U / 10000) (by omega)
        obtain ⟨B1, hB1⟩ : ∃ x, x = B / 100 := ⟨_, rfl⟩
        obtain ⟨B0, hB0⟩ : ∃ x, x = B % 100 := ⟨_, rfl⟩
        have b1 : IntKind.u32.wrap ((B : Int).tdiv 100) = (B1 : Int) := by rw [hB1]; exact wr_u32 (n := B / 100) (by omega)
        have b0 : (B : Int).tmod 100 = (B0 : Int) := by rw [hB0]; rfl
        have lb1 : B1 < 100 := by omega
        have lb0 : B0 < 100 := by omega
        have pb1 : IntKind.u32.wrap ((B1 : Int) * 2) = ((B1 * 2 : Nat) : Int) := dmul lb1 rfl
        have pb0 : IntKind.u32.wrap ((B0 : Int) * 2) = ((B0 * 2 : Nat) : Int) := dmul lb0 rfl
        have qb1 : IntKind.u32.wrap (((B1 * 2 : Nat) : Int) + 1) = ((B1 * 2 + 1 : Nat) : Int) := wr_u32 (n := B1 * 2 + 1) (by omega)
        have qb0 : IntKind.u32.wrap (((B0 * 2 : Nat) : Int) + 1) = ((B0 * 2 + 1 : Nat) : Int) := wr_u32 (n := B0 * 2 + 1) (by omega)
        obtain ⟨sb1, tb1⟩ := smallsB_at B1 lb1
        obtain ⟨sb0, tb0⟩ := smallsB_at B0 lb0
        have w : ∀ i x : Nat, r + 4 = x + i → i ≤ 8 → IntKind.i64.wrap (((r + 4 : Nat) : Int) - (i : Int)) = (x : Int) := fun i x h1 h2 => by
          rw [wr_i64 (by omega) (by omega)]; omega
        have w1 : IntKind.i64.wrap (((r + 4 : Nat) : Int) - 1) = ((r + 3 : Nat) : Int) := w 1 (r + 3) rfl (by omega)
        have w2 : IntKind.i64.wrap (((r + 4 : Nat) : Int) - 2) = ((r + 2 : Nat) : Int) := w 2 (r + 2) rfl (by omega)
        have w3 : IntKind.i64.wrap (((r + 4 : Nat) : Int) - 3) = ((r + 1 : Nat) : Int) := w 3 (r + 1) rfl (by omega)
        have w4 : IntKind.i64.wrap (((r + 4 : Nat) : Int) - 4) = ((r : Nat) : Int) := w 4 r rfl (by omega)
        have i1 : ((r + 3 : Nat) : Int) < (k : Int) := by omega
        have i2 : ((r + 2 : Nat) : Int) < (k : Int) := by omega
        have i3 : ((r + 1 : Nat) : Int) < (k : Int) := by omega
        have i4 : ((r : Nat) : Int) < (k : Int) := by omega
        repeat (first
          | ((first | refine W_opS rfl rfl rfl ?_ | (refine W_opgT rfl rfl ?hg ?_; (case hg => (simp only [WG, reduceIte, Nat.reduceEqDiff]; done)))); simp only [WB, execE, unE, args0, reduceIte, Nat.reduceEqDiff, Nat.reduceAdd, Nat.reduceLeDiff, g0, g4, binE, isShift, intBin, n2, n3, n5, b1, b0, pb1, pb0, qb1, qb0, sb1, sb0, tb1, tb0, w1, w2, w3, w4, i1, i2, i3, i4, Int.natCast_nonneg, Int.toNat_natCast, Nat.mul_one, Int.reduceEq, Bool.false_or, if_true, if_false, Wo_some])
          | (refine W_opgF rfl rfl ?hg ?_; (case hg => (simp only [WG, reduceIte, Nat.reduceEqDiff]; done)))
          | rw [W_seq] | rw [W_reg] | rw [push_no] | rw [W_onil] | rw [W_skip] | rw [W_blk] | rw [W_b] | refine W_regd0 ?_)
        refine W_stc (p := o + (r + 3)) ?ha ?hx hm1 (by omega) (by simp only [List.length_cons, bytes_len, fixd_len]; omega) ?_
        case ha => (simp only [WB, execE, unE, args0, reduceIte, Nat.reduceEqDiff, Nat.reduceAdd, Nat.reduceLeDiff, g0, g4, binE, isShift, intBin, n2, n3, n5, b1, b0, pb1, pb0, qb1, qb0, sb1, sb0, tb1, tb0, w1, w2, w3, w4, i1, i2, i3, i4, Int.natCast_nonneg, Int.toNat_natCast, Nat.mul_one, Int.reduceEq, Bool.false_or, if_true, if_false]; done)
        case hx => (simp only [WB, execE, unE, args0, reduceIte, Nat.reduceEqDiff, Nat.reduceAdd, Nat.reduceLeDiff, AV.one, g0, g4, binE, isShift, intBin, n2, n3, n5, b1, b0, pb1, pb0, qb1, qb0, sb1, sb0, tb1, tb0, w1, w2, w3, w4, i1, i2, i3, i4, Int.natCast_nonneg, Int.toNat_natCast, Nat.mul_one, Int.reduceEq, Bool.false_or, if_true, if_false]; done)
        intro m2 h2 k2 d2 r2
        simp only [WB, execE, unE, args0, reduceIte, Nat.reduceEqDiff, Nat.reduceAdd, Nat.reduceLeDiff, g0, g4, binE, isShift, intBin, n2, n3, n5, b1, b0, pb1, pb0, qb1, qb0, sb1, sb0, tb1, tb0, w1, w2, w3, w4, i1, i2, i3, i4, Int.natCast_nonneg, Int.toNat_natCast, Nat.mul_one, Int.reduceEq, Bool.false_or, if_true, if_false] at h2
        repeat (first
          | ((first | refine W_opS rfl rfl rfl ?_ | (refine W_opgT rfl rfl ?hg ?_; (case hg => (simp only [WG, reduceIte, Nat.reduceEqDiff]; done)))); simp only [WB, execE, unE, args0, reduceIte, Nat.reduceEqDiff, Nat.reduceAdd, Nat.reduceLeDiff, g0, g4, binE, isShift, intBin, n2, n3, n5, b1, b0, pb1, pb0, qb1, qb0, sb1, sb0, tb1, tb0, w1, w2, w3, w4, i1, i2, i3, i4, Int.natCast_nonneg, Int.toNat_natCast, Nat.mul_one, Int.reduceEq, Bool.false_or, if_true, if_false, Wo_some])
          | (refine W_opgF rfl rfl ?hg ?_; (case hg => (simp only [WG, reduceIte, Nat.reduceEqDiff]; done)))
          | rw [W_seq] | rw [W_reg] | rw [push_no] | rw [W_onil] | rw [W_skip] | rw [W_blk] | rw [W_b] | refine W_regd0 ?_)
        refine W_stc (p := o + (r + 2)) ?ha ?hx h2 (by omega) (by simp only [List.length_cons, bytes_len, fixd_len]; omega) ?_
        case ha => (simp only [WB, execE, unE, args0, reduceIte, Nat.reduceEqDiff, Nat.reduceAdd, Nat.reduceLeDiff, g0, g4, binE, isShift, intBin, n2, n3, n5, b1, b0, pb1, pb0, qb1, qb0, sb1, sb0, tb1, tb0, w1, w2, w3, w4, i1, i2, i3, i4, Int.natCast_nonneg, Int.toNat_natCast, Nat.mul_one, Int.reduceEq, Bool.false_or, if_true, if_false]; done)
        case hx => (simp only [WB, execE, unE, args0, reduceIte, Nat.reduceEqDiff, Nat.reduceAdd, Nat.reduceLeDiff, AV.one, g0, g4, binE, isShift, intBin, n2, n3, n5, b1, b0, pb1, pb0, qb1, qb0, sb1, sb0, tb1, tb0, w1, w2, w3, w4, i1, i2, i3, i4, Int.natCast_nonneg, Int.toNat_natCast, Nat.mul_one, Int.reduceEq, Bool.false_or, if_true, if_false]; done)
        intro m3 h3 k3 d3 r3
        simp only [WB, execE, unE, args0, reduceIte, Nat.reduceEqDiff, Nat.reduceAdd, Nat.reduceLeDiff, g0, g4, binE, isShift, intBin, n2, n3, n5, b1, b0, pb1, pb0, qb1, qb0, sb1, sb0, tb1, tb0, w1, w2, w3, w4, i1, i2, i3, i4, Int.natCast_nonneg, Int.toNat_natCast, Nat.mul_one, Int.reduceEq, Bool.false_or, if_true, if_false] at h3
        repeat (first
          | ((first | refine W_opS rfl rfl rfl ?_ | (refine W_opgT rfl rfl ?hg ?_; (case hg => (simp only [WG, reduceIte, Nat.reduceEqDiff]; done)))); simp only [WB, execE, unE, args0, reduceIte, Nat.reduceEqDiff, Nat.reduceAdd, Nat.reduceLeDiff, g0, g4, binE, isShift, intBin, n2, n3, n5, b1, b0, pb1, pb0, qb1, qb0, sb1, sb0, tb1, tb0, w1, w2, w3, w4, i1, i2, i3, i4, Int.natCast_nonneg, Int.toNat_natCast, Nat.mul_one, Int.reduceEq, Bool.false_or, if_true, if_false, Wo_some])
          | (refine W_opgF rfl rfl ?hg ?_; (case hg => (simp only [WG, reduceIte, Nat.reduceEqDiff]; done)))
          | rw [W_seq] | rw [W_reg] | rw [push_no] | rw [W_onil] | rw [W_skip] | rw [W_blk] | rw [W_b] | refine W_regd0 ?_)
        refine W_stc (p := o + (r + 1)) ?ha ?hx h3 (by omega) (by simp only [List.length_cons, bytes_len, fixd_len]; omega) ?_
        case ha => (simp only [WB, execE, unE, args0, reduceIte, Nat.reduceEqDiff, Nat.reduceAdd, Nat.reduceLeDiff, g0, g4, binE, isShift, intBin, n2, n3, n5, b1, b0, pb1, pb0, qb1, qb0, sb1, sb0, tb1, tb0, w1, w2, w3, w4, i1, i2, i3, i4, Int.natCast_nonneg, Int.toNat_natCast, Nat.mul_one, Int.reduceEq, Bool.false_or, if_true, if_false]; done)
        case hx => (simp only [WB, execE, unE, args0, reduceIte, Nat.reduceEqDiff, Nat.reduceAdd, Nat.reduceLeDiff, AV.one, g0, g4, binE, isShift, intBin, n2, n3, n5, b1, b0, pb1, pb0, qb1, qb0, sb1, sb0, tb1, tb0, w1, w2, w3, w4, i1, i2, i3, i4, Int.natCast_nonneg, Int.toNat_natCast, Nat.mul_one, Int.reduceEq, Bool.false_or, if_true, if_false]; done)
        intro m4 h4 k4 d4 r4
        simp only [WB, execE, unE, args0, reduceIte, Nat.reduceEqDiff, Nat.reduceAdd, Nat.reduceLeDiff, g0, g4, binE, isShift, intBin, n2, n3, n5, b1, b0, pb1, pb0, qb1, qb0, sb1, sb0, tb1, tb0, w1, w2, w3, w4, i1, i2, i3, i4, Int.natCast_nonneg, Int.toNat_natCast, Nat.mul_one, Int.reduceEq, Bool.false_or, if_true, if_false] at h4
        repeat (first
          | ((first | refine W_opS rfl rfl rfl ?_ | (refine W_opgT rfl rfl ?hg ?_; (case hg => (simp only [WG, reduceIte, Nat.reduceEqDiff]; done)))); simp only [WB, execE, unE, args0, reduceIte, Nat.reduceEqDiff, Nat.reduceAdd, Nat.reduceLeDiff, g0, g4, binE, isShift, intBin, n2, n3, n5, b1, b0, pb1, pb0, qb1, qb0, sb1, sb0, tb1, tb0, w1, w2, w3, w4, i1, i2, i3, i4, Int.natCast_nonneg, Int.toNat_natCast, Nat.mul_one, Int.reduceEq, Bool.false_or, if_true, if_false, Wo_some])
          | (refine W_opgF rfl rfl ?hg ?_; (case hg => (simp only [WG, reduceIte, Nat.reduceEqDiff]; done)))
          | rw [W_seq] | rw [W_reg] | rw [push_no] | rw [W_onil] | rw [W_skip] | rw [W_blk] | rw [W_b] | refine W_regd0 ?_)
        refine W_stc (p := o + r) ?ha ?hx h4 (by omega) (by simp only [List.length_cons, bytes_len, fixd_len]; omega) ?_
        case ha => (simp only [WB, execE, unE, args0, reduceIte, Nat.reduceEqDiff, Nat.reduceAdd, Nat.reduceLeDiff, g0, g4, binE, isShift, intBin, n2, n3, n5, b1, b0, pb1, pb0, qb1, qb0, sb1, sb0, tb1, tb0, w1, w2, w3, w4, i1, i2, i3, i4, Int.natCast_nonneg, Int.toNat_natCast, Nat.mul_one, Int.reduceEq, Bool.false_or, if_true, if_false]; done)
        case hx => (simp only [WB, execE, unE, args0, reduceIte, Nat.reduceEqDiff, Nat.reduceAdd, Nat.reduceLeDiff, AV.one, g0, g4, binE, isShift, intBin, n2, n3, n5, b1, b0, pb1, pb0, qb1, qb0, sb1, sb0, tb1, tb0, w1, w2, w3, w4, i1, i2, i3, i4, Int.natCast_nonneg, Int.toNat_natCast, Nat.mul_one, Int.reduceEq, Bool.false_or, if_true, if_false]; done)
        intro m5 h5 k5 d5 r5
        simp only [WB, execE, unE, args0, reduceIte, Nat.reduceEqDiff, Nat.reduceAdd, Nat.reduceLeDiff, g0, g4, binE, isShift, intBin, n2, n3, n5, b1, b0, pb1, pb0, qb1, qb0, sb1, sb0, tb1, tb0, w1, w2, w3, w4, i1, i2, i3, i4, Int.natCast_nonneg, Int.toNat_natCast, Nat.mul_one, Int.reduceEq, Bool.false_or, if_true, if_false] at h5
        repeat (first
          | ((first | refine W_opS rfl rfl rfl ?_ | (refine W_opgT rfl rfl ?hg ?_; (case hg => (simp only [WG, reduceIte, Nat.reduceEqDiff]; done)))); simp only [WB, execE, unE, args0, reduceIte, Nat.reduceEqDiff, Nat.reduceAdd, Nat.reduceLeDiff, g0, g4, binE, isShift, intBin, n2, n3, n5, b1, b0, pb1, pb0, qb1, qb0, sb1, sb0, tb1, tb0, w1, w2, w3, w4, i1, i2, i3, i4, Int.natCast_nonneg, Int.toNat_natCast, Nat.mul_one, Int.reduceEq, Bool.false_or, if_true, if_false, Wo_some])
          | (refine W_opgF rfl rfl ?hg ?_; (case hg => (simp only [WG, reduceIte, Nat.reduceEqDiff]; done)))
          | rw [W_seq] | rw [W_reg] | rw [push_no] | rw [W_onil] | rw [W_skip] | rw [W_blk] | rw [W_b] | refine W_regd0 ?_)
        refine W_j (by repeat (first | exact hg | exact args0_un (Nat.le_of_ble_eq_true rfl) | refine upd_un ?_ rfl)) ?_
        refine ⟨r, by omega, by omega, ?_, ?_, ?_, ?_, (((hK.trans k2 jj).trans k3 jj).trans k4 jj).trans k5 jj, ?_⟩
        · skip
          simp only [upd_at, upd_none, reduceIte, Nat.reduceEqDiff, args0, List.getD_cons_zero, List.getD_cons_succ, List.getD_nil, g0]
        · skip
          simp only [upd_at, upd_none, reduceIte, Nat.reduceEqDiff, args0, List.getD_cons_zero, List.getD_cons_succ, List.getD_nil]
          rw [← hup4]
        · skip
          simp only [upd_at, upd_none, reduceIte, Nat.reduceEqDiff, args0, List.getD_cons_zero, List.getD_cons_succ, List.getD_nil]
        · rw [h5, show k - r = 4 + (k - (r + 4)) by omega, fixd_add, ← hU]
          simp only [fixd, List.nil_append, bytes_app, List.cons_append, List.append_assoc, cellsOfBytes, List.map_cons, List.map_nil]
          have e5 : B1 / 10 = U / 10 / 10 / 10 % 10 := by omega
          have e6 : B1 % 10 = U / 10 / 10 % 10 := by omega
          have e7 : B0 / 10 = U / 10 % 10 := by omega
          have e8 : B0 % 10 = U % 10 := by omega
          rw [e5, e6, e7, e8]
        · rw [d5, d4, d3, d2]; exact hds
    clear g0 g1 g4 hm1 hK hds hg n7 hr8 hrk r m1 g
    rintro g m1 ⟨r, hr8, hrk, g0, g12, g4, hm1, hK, hds⟩ hg
    repeat (first
      | ((first | refine W_op rfl rfl ?_ | (refine W_opgT rfl rfl ?hg ?_; (case hg => (simp only [WG, reduceIte, Nat.reduceEqDiff]; done)))); simp only [WB, execE, unE, args0, reduceIte, Nat.reduceEqDiff, Nat.reduceAdd, Nat.reduceLeDiff, g4, binE, isShift, intBin, Wo_some])
      | (refine W_opgF rfl rfl ?hg ?_; (case hg => (simp only [WG, reduceIte, Nat.reduceEqDiff]; done)))
      | rw [W_seq] | rw [W_reg] | rw [push_no] | rw [W_onil] | rw [W_skip] | rw [W_blk] | rw [W_b] | refine W_regd0 ?_)
    refine W_cutK [_] (fun g' m' => ∃ r, r < 2 ∧ r ≤ k ∧ g' 0 = .sl (some (j, o)) k cap ex ∧ g' 12 = .i .u32 ((u / 10 ^ (k - r) : Nat) : Int) ∧ g' 4 = .i .i64 (r : Nat) ∧ m'.get j = some (.cells (splice c (o + r) (cellsOfBytes (fixd (k - r) u))) true es) ∧ Keep m m' [j] ∧ m'.ds = []) ?_ ?_
    · cases hB : decide ((r : Int) ≥ 2)
      · skip
        refine W_cond ?_
        simp only [WB, execE, unE, args0, reduceIte, Nat.reduceEqDiff, Nat.reduceAdd, Nat.reduceLeDiff, WC, hB]
        repeat (first
          | ((first | refine W_op rfl rfl ?_ | (refine W_opgT rfl rfl ?hg ?_; (case hg => (simp only [WG, reduceIte, Nat.reduceEqDiff]; done)))); simp only [WB, execE, unE, args0, reduceIte, Nat.reduceEqDiff, Nat.reduceAdd, Nat.reduceLeDiff, Wo_some])
          | (refine W_opgF rfl rfl ?hg ?_; (case hg => (simp only [WG, reduceIte, Nat.reduceEqDiff]; done)))
          | rw [W_seq] | rw [W_reg] | rw [push_no] | rw [W_onil] | rw [W_skip] | rw [W_blk] | rw [W_b] | refine W_regd0 ?_)
        refine W_j (by repeat (first | exact hg | exact args0_un (Nat.le_of_ble_eq_true rfl) | refine upd_un ?_ rfl)) ?_
        refine ⟨r, by simp at hB; omega, hrk, ?_, ?_, ?_, hm1, hK, hds⟩
        · skip
          simp only [upd_at, upd_none, reduceIte, Nat.reduceEqDiff, args0, List.getD_cons_zero, List.getD_cons_succ, List.getD_nil, g0]
        · skip
          simp only [upd_at, upd_none, reduceIte, Nat.reduceEqDiff, args0, List.getD_cons_zero, List.getD_cons_succ, List.getD_nil, g12]
        · skip
          simp only [upd_at, upd_none, reduceIte, Nat.reduceEqDiff, args0, List.getD_cons_zero, List.getD_cons_succ, List.getD_nil, g4]
      · skip
        refine W_cond ?_
        simp only [WB, execE, unE, args0, reduceIte, Nat.reduceEqDiff, Nat.reduceAdd, Nat.reduceLeDiff, WC, hB]
        obtain ⟨r, rfl⟩ : ∃ r', r = r' + 2 := ⟨r - 2, by simp at hB; omega⟩
        have hup2 := hup r 2 (by omega)
        obtain ⟨U, hU⟩ : ∃ U, U = u / 10 ^ (k - (r + 2)) := ⟨_, rfl⟩
        have hUl : U < 10 ^ 3 := by rw [hU]; exact hU7 (r + 2) 3 hrk (by omega)
        rw [← hU] at hup2
        rw [← hU] at g12
        obtain ⟨B0, hB0⟩ : ∃ x, x = U % 100 := ⟨_, rfl⟩
        have n3 : IntKind.u32.wrap ((U : Int).tdiv 100) = ((U / 100 : Nat) : Int) := wr_u32 (n := U / 100) (by omega)
        have b0 : (U : Int).tmod 100 = (B0 : Int) := by rw [hB0]; rfl
        have lb0 : B0 < 100 := by omega
        have pb0 : IntKind.u32.wrap ((B0 : Int) * 2) = ((B0 * 2 : Nat) : Int) := dmul lb0 rfl
        have qb0 : IntKind.u32.wrap (((B0 * 2 : Nat) : Int) + 1) = ((B0 * 2 + 1 : Nat) : Int) := wr_u32 (n := B0 * 2 + 1) (by omega)
        obtain ⟨sb0, tb0⟩ := smallsB_at B0 lb0
        have w1 : IntKind.i64.wrap (((r + 2 : Nat) : Int) - 1) = ((r + 1 : Nat) : Int) := by rw [wr_i64 (by omega) (by omega)]; omega
        have w2 : IntKind.i64.wrap (((r + 2 : Nat) : Int) - 2) = ((r : Nat) : Int) := by rw [wr_i64 (by omega) (by omega)]; omega
        have i1 : ((r + 1 : Nat) : Int) < (k : Int) := by omega
        have i2 : ((r : Nat) : Int) < (k : Int) := by omega
        repeat (first
          | ((first | refine W_opS rfl rfl rfl ?_ | (refine W_opgT rfl rfl ?hg ?_; (case hg => (simp only [WG, reduceIte, Nat.reduceEqDiff]; done)))); simp only [WB, execE, unE, args0, reduceIte, Nat.reduceEqDiff, Nat.reduceAdd, Nat.reduceLeDiff, g0, g12, g4, binE, isShift, intBin, n3, b0, pb0, qb0, sb0, tb0, w1, w2, i1, i2, Int.natCast_nonneg, Int.toNat_natCast, Nat.mul_one, Int.reduceEq, Bool.false_or, if_true, if_false, Wo_some])
          | (refine W_opgF rfl rfl ?hg ?_; (case hg => (simp only [WG, reduceIte, Nat.reduceEqDiff]; done)))
          | rw [W_seq] | rw [W_reg] | rw [push_no] | rw [W_onil] | rw [W_skip] | rw [W_blk] | rw [W_b] | refine W_regd0 ?_)
        refine W_stc (p := o + (r + 1)) ?ha ?hx hm1 (by omega) (by simp only [List.length_cons, bytes_len, fixd_len]; omega) ?_
        case ha => (simp only [WB, execE, unE, args0, reduceIte, Nat.reduceEqDiff, Nat.reduceAdd, Nat.reduceLeDiff, g0, g12, g4, binE, isShift, intBin, n3, b0, pb0, qb0, sb0, tb0, w1, w2, i1, i2, Int.natCast_nonneg, Int.toNat_natCast, Nat.mul_one, Int.reduceEq, Bool.false_or, if_true, if_false]; done)
        case hx => (simp only [WB, execE, unE, args0, reduceIte, Nat.reduceEqDiff, Nat.reduceAdd, Nat.reduceLeDiff, AV.one, g0, g12, g4, binE, isShift, intBin, n3, b0, pb0, qb0, sb0, tb0, w1, w2, i1, i2, Int.natCast_nonneg, Int.toNat_natCast, Nat.mul_one, Int.reduceEq, Bool.false_or, if_true, if_false]; done)
        intro m2 h2 k2 d2 r2
        simp only [WB, execE, unE, args0, reduceIte, Nat.reduceEqDiff, Nat.reduceAdd, Nat.reduceLeDiff, g0, g12, g4, binE, isShift, intBin, n3, b0, pb0, qb0, sb0, tb0, w1, w2, i1, i2, Int.natCast_nonneg, Int.toNat_natCast, Nat.mul_one, Int.reduceEq, Bool.false_or, if_true, if_false] at h2
        repeat (first
          | ((first | refine W_opS rfl rfl rfl ?_ | (refine W_opgT rfl rfl ?hg ?_; (case hg => (simp only [WG, reduceIte, Nat.reduceEqDiff]; done)))); simp only [WB, execE, unE, args0, reduceIte, Nat.reduceEqDiff, Nat.reduceAdd, Nat.reduceLeDiff, g0, g12, g4, binE, isShift, intBin, n3, b0, pb0, qb0, sb0, tb0, w1, w2, i1, i2, Int.natCast_nonneg, Int.toNat_natCast, Nat.mul_one, Int.reduceEq, Bool.false_or, if_true, if_false, Wo_some])
          | (refine W_opgF rfl rfl ?hg ?_; (case hg => (simp only [WG, reduceIte, Nat.reduceEqDiff]; done)))
          | rw [W_seq] | rw [W_reg] | rw [push_no] | rw [W_onil] | rw [W_skip] | rw [W_blk] | rw [W_b] | refine W_regd0 ?_)
        refine W_stc (p := o + r) ?ha ?hx h2 (by omega) (by simp only [List.length_cons, bytes_len, fixd_len]; omega) ?_
        case ha => (simp only [WB, execE, unE, args0, reduceIte, Nat.reduceEqDiff, Nat.reduceAdd, Nat.reduceLeDiff, g0, g12, g4, binE, isShift, intBin, n3, b0, pb0, qb0, sb0, tb0, w1, w2, i1, i2, Int.natCast_nonneg, Int.toNat_natCast, Nat.mul_one, Int.reduceEq, Bool.false_or, if_true, if_false]; done)
        case hx => (simp only [WB, execE, unE, args0, reduceIte, Nat.reduceEqDiff, Nat.reduceAdd, Nat.reduceLeDiff, AV.one, g0, g12, g4, binE, isShift, intBin, n3, b0, pb0, qb0, sb0, tb0, w1, w2, i1, i2, Int.natCast_nonneg, Int.toNat_natCast, Nat.mul_one, Int.reduceEq, Bool.false_or, if_true, if_false]; done)
        intro m3 h3 k3 d3 r3
        simp only [WB, execE, unE, args0, reduceIte, Nat.reduceEqDiff, Nat.reduceAdd, Nat.reduceLeDiff, g0, g12, g4, binE, isShift, intBin, n3, b0, pb0, qb0, sb0, tb0, w1, w2, i1, i2, Int.natCast_nonneg, Int.toNat_natCast, Nat.mul_one, Int.reduceEq, Bool.false_or, if_true, if_false] at h3
        repeat (first
          | ((first | refine W_opS rfl rfl rfl ?_ | (refine W_opgT rfl rfl ?hg ?_; (case hg => (simp only [WG, reduceIte, Nat.reduceEqDiff]; done)))); simp only [WB, execE, unE, args0, reduceIte, Nat.reduceEqDiff, Nat.reduceAdd, Nat.reduceLeDiff, g0, g12, g4, binE, isShift, intBin, n3, b0, pb0, qb0, sb0, tb0, w1, w2, i1, i2, Int.natCast_nonneg, Int.toNat_natCast, Nat.mul_one, Int.reduceEq, Bool.false_or, if_true, if_false, Wo_some])
          | (refine W_opgF rfl rfl ?hg ?_; (case hg => (simp only [WG, reduceIte, Nat.reduceEqDiff]; done)))
          | rw [W_seq] | rw [W_reg] | rw [push_no] | rw [W_onil] | rw [W_skip] | rw [W_blk] | rw [W_b] | refine W_regd0 ?_)
        refine W_j (by repeat (first | exact hg | exact args0_un (Nat.le_of_ble_eq_true rfl) | refine upd_un ?_ rfl)) ?_
        refine ⟨r, by omega, by omega, ?_, ?_, ?_, ?_, (hK.trans k2 jj).trans k3 jj, ?_⟩
        · skip
          simp only [upd_at, upd_none, reduceIte, Nat.reduceEqDiff, args0, List.getD_cons_zero, List.getD_cons_succ, List.getD_nil, g0]
        · skip
          simp only [upd_at, upd_none, reduceIte, Nat.reduceEqDiff, args0, List.getD_cons_zero, List.getD_cons_succ, List.getD_nil]
          rw [← hup2]
        · skip
          simp only [upd_at, upd_none, reduceIte, Nat.reduceEqDiff, args0, List.getD_cons_zero, List.getD_cons_succ, List.getD_nil]
        · rw [h3, show k - r = 2 + (k - (r + 2)) by omega, fixd_add, ← hU]
          simp only [fixd, List.nil_append, bytes_app, List.cons_append, List.append_assoc, cellsOfBytes, List.map_cons, List.map_nil]
          have e7 : B0 / 10 = U / 10 % 10 := by omega
          have e8 : B0 % 10 = U % 10 := by omega
          rw [e7, e8]
        · rw [d3, d2]; exact hds
    clear g0 g12 g4 hm1 hK hds hg hr8 hrk r m1 g
    rintro g m1 ⟨r, hr8, hrk, g0, g12, g4, hm1, hK, hds⟩ hg
    cases hB : decide ((r : Int) > 0)
    · have hr0 : r = 0 := by simp at hB; omega
      subst hr0
      repeat (first
        | ((first | refine W_op rfl rfl ?_ | (refine W_opgT rfl rfl ?hg ?_; (case hg => (simp only [WG, reduceIte, Nat.reduceEqDiff]; done)))); simp only [WB, execE, unE, args0, reduceIte, Nat.reduceEqDiff, Nat.reduceAdd, Nat.reduceLeDiff, g4, binE, isShift, intBin, hB, Wo_some])
        | (refine W_opgF rfl rfl ?hg ?_; (case hg => (simp only [WG, reduceIte, Nat.reduceEqDiff]; done)))
        | rw [W_seq] | rw [W_reg] | rw [push_no] | rw [W_onil] | rw [W_skip] | rw [W_blk] | rw [W_b] | refine W_regd0 ?_)
      refine W_cond ?_
      simp only [WB, execE, unE, args0, reduceIte, Nat.reduceEqDiff, Nat.reduceAdd, Nat.reduceLeDiff, WC]
      repeat (first
        | ((first | refine W_op rfl rfl ?_ | (refine W_opgT rfl rfl ?hg ?_; (case hg => (simp only [WG, reduceIte, Nat.reduceEqDiff]; done)))); simp only [WB, execE, unE, args0, reduceIte, Nat.reduceEqDiff, Nat.reduceAdd, Nat.reduceLeDiff, Wo_some])
        | (refine W_opgF rfl rfl ?hg ?_; (case hg => (simp only [WG, reduceIte, Nat.reduceEqDiff]; done)))
        | rw [W_seq] | rw [W_reg] | rw [push_no] | rw [W_onil] | rw [W_skip] | rw [W_blk] | rw [W_b] | refine W_regd0 ?_)
      refine W_nil (by repeat (first | exact hg | exact args0_un (Nat.le_of_ble_eq_true rfl) | refine upd_un ?_ rfl)) ?_
      refine ⟨hds, [], rfl, ?_, hK.out⟩
      rw [AMem.get_out, hm1]; rfl
    · obtain rfl : r = 1 := by simp at hB; omega
      have hU := hU7 1 1 hrk (by omega)
      have hF : fixd k u = UInt8.ofNat (48 + u / 10 ^ (k - 1)) :: fixd (k - 1) u := by
        conv => lhs; rw [show k = 1 + (k - 1) by omega, fixd_add]
        simp only [fixd, List.nil_append, List.cons_append]
        rw [Nat.mod_eq_of_lt (by omega)]
      obtain ⟨U, hUd⟩ : ∃ U, U = u / 10 ^ (k - 1) := ⟨_, rfl⟩
      rw [← hUd] at g12 hU hF
      have n1 : IntKind.u32.wrap (48 + (U : Int)) = ((48 + U : Nat) : Int) := wr_u32 (n := 48 + U) (by omega)
      have n2 : IntKind.u8.wrap ((48 + U : Nat) : Int) = ((UInt8.ofNat (48 + U)).toNat : Int) := by
        rw [wr_u8 (by omega), UInt8.toNat_ofNat_of_lt' (show 48 + U < 256 by omega)]
      have i1 : (0 : Int) ≤ 0 ∧ (0 : Int) < (k : Int) := by omega
      repeat (first
        | ((first | refine W_op rfl rfl ?_ | (refine W_opgT rfl rfl ?hg ?_; (case hg => (simp only [WG, reduceIte, Nat.reduceEqDiff]; done)))); simp only [WB, execE, unE, args0, reduceIte, Nat.reduceEqDiff, Nat.reduceAdd, Nat.reduceLeDiff, g4, binE, isShift, intBin, hB, Wo_some])
        | (refine W_opgF rfl rfl ?hg ?_; (case hg => (simp only [WG, reduceIte, Nat.reduceEqDiff]; done)))
        | rw [W_seq] | rw [W_reg] | rw [push_no] | rw [W_onil] | rw [W_skip] | rw [W_blk] | rw [W_b] | refine W_regd0 ?_)
      refine W_cond ?_
      simp only [WB, execE, unE, args0, reduceIte, Nat.reduceEqDiff, Nat.reduceAdd, Nat.reduceLeDiff, WC]
      repeat (first
        | ((first | refine W_opS rfl rfl rfl ?_ | (refine W_opgT rfl rfl ?hg ?_; (case hg => (simp only [WG, reduceIte, Nat.reduceEqDiff]; done)))); simp only [WB, execE, unE, args0, reduceIte, Nat.reduceEqDiff, Nat.reduceAdd, Nat.reduceLeDiff, g0, g12, binE, isShift, intBin, n1, n2, i1, Int.toNat_zero, Nat.zero_mul, Wo_some])
        | (refine W_opgF rfl rfl ?hg ?_; (case hg => (simp only [WG, reduceIte, Nat.reduceEqDiff]; done)))
        | rw [W_seq] | rw [W_reg] | rw [push_no] | rw [W_onil] | rw [W_skip] | rw [W_blk] | rw [W_b] | refine W_regd0 ?_)
      refine W_stc (p := o) ?ha ?hx hm1 (by omega) (by simp only [List.length_cons, bytes_len, fixd_len]; omega) ?_
      case ha => (simp only [WB, execE, unE, args0, reduceIte, Nat.reduceEqDiff, Nat.reduceAdd, Nat.reduceLeDiff, g0, g12, binE, isShift, intBin, n1, n2, i1, Int.toNat_zero, Nat.zero_mul]; done)
      case hx => (simp only [WB, execE, unE, args0, reduceIte, Nat.reduceEqDiff, Nat.reduceAdd, Nat.reduceLeDiff, AV.one, g0, g12, binE, isShift, intBin, n1, n2, i1, Int.toNat_zero, Nat.zero_mul]; done)
      intro m2 h2 k2 d2 r2
      simp only [WB, execE, unE, args0, reduceIte, Nat.reduceEqDiff, Nat.reduceAdd, Nat.reduceLeDiff, g0, g12, binE, isShift, intBin, n1, n2, i1, Int.toNat_zero, Nat.zero_mul] at h2
      repeat (first
        | ((first | refine W_op rfl rfl ?_ | (refine W_opgT rfl rfl ?hg ?_; (case hg => (simp only [WG, reduceIte, Nat.reduceEqDiff]; done)))); simp only [WB, execE, unE, args0, reduceIte, Nat.reduceEqDiff, Nat.reduceAdd, Nat.reduceLeDiff, Wo_some])
        | (refine W_opgF rfl rfl ?hg ?_; (case hg => (simp only [WG, reduceIte, Nat.reduceEqDiff]; done)))
        | rw [W_seq] | rw [W_reg] | rw [push_no] | rw [W_onil] | rw [W_skip] | rw [W_blk] | rw [W_b] | refine W_regd0 ?_)
      refine W_nil (by repeat (first | exact hg | exact args0_un (Nat.le_of_ble_eq_true rfl) | refine upd_un ?_ rfl)) ?_
      refine ⟨by rw [d2]; exact hds, [], rfl, ?_, (hK.trans k2 jj).out⟩
      rw [AMem.get_out, h2, hF]
      rfl
end Go.Proofs.YtdmoecehmclohaaGreatDoor
