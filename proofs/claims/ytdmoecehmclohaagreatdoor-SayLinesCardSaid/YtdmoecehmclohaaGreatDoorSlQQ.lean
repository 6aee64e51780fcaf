/- Bytes in quotes: what the program's function says, and the document's. No condition. -/
import Derived.Test.YtdmoecehmclohaaGreatDoorSlQB
import Derived.Test.YtdmoecehmclohaaGreatDoorSlViNode
namespace Go.Proofs.YtdmoecehmclohaaGreatDoor
open Go.Vi
set_option linter.unusedSimpArgs false
set_option linter.unusedVariables false
def hexes : List UInt8 := [48, 49, 50, 51, 52, 53, 54, 55, 56, 57, 97, 98, 99, 100, 101, 102]
def q1 (c : UInt8) : List UInt8 :=
  if (c.toNat : Int) = 34 ∨ (c.toNat : Int) = 92 then [92, c]
  else if (c.toNat : Int) < 32 ∨ (c.toNat : Int) > 126 then [92, 120, hexes.getD (c.toNat / 16) 0, hexes.getD (c.toNat % 16) 0]
  else [c]
def quote (l : List UInt8) : List UInt8 := 34 :: l.flatMap q1 ++ [34]
theorem q1_len (c : UInt8) : (q1 c).length ≤ 4 := by
  unfold q1
  split
  · simp
  · split <;> simp
theorem flat_len (l : List UInt8) : (l.flatMap q1).length ≤ 4 * l.length := by
  induction l with
  | nil => simp
  | cons a l ih => have := q1_len a; simp only [List.flatMap_cons, List.length_append, List.length_cons]; omega
theorem take_snoc {l : List UInt8} {i : Nat} (h : i < l.length) : l.take (i + 1) = l.take i ++ [l[i]] := by
  rw [List.take_add_one, List.getElem?_eq_getElem h]; rfl
theorem wrap64 {n : Int} (h1 : 0 ≤ n) (h2 : n ≤ 9223372036854775807) : IntKind.i64.wrap n = n := by
  have e1 : n % (2 ^ 64 : Int) = n := Int.emod_eq_of_lt h1 (by omega)
  simp only [IntKind.wrap, IntKind.bits, IntKind.signed, e1]
  rw [if_neg]
  simp; omega
theorem hex_at (k : Nat) (hk : k < 16) : (#[48, 49, 50, 51, 52, 53, 54, 55, 56, 57, 97, 98, 99, 100, 101, 102] : Array UInt8).toList[k]? = some (hexes.getD k 0) ∧ Utf8.encode ((hexes.getD k 0).toNat : Int) = ⟨#[hexes.getD k 0]⟩ := by
  have h : k = 0 ∨ k = 1 ∨ k = 2 ∨ k = 3 ∨ k = 4 ∨ k = 5 ∨ k = 6 ∨ k = 7 ∨ k = 8 ∨ k = 9 ∨ k = 10 ∨ k = 11 ∨ k = 12 ∨ k = 13 ∨ k = 14 ∨ k = 15 := by omega
  rcases h with rfl | rfl | rfl | rfl | rfl | rfl | rfl | rfl | rfl | rfl | rfl | rfl | rfl | rfl | rfl | rfl <;> exact ⟨by kernel_rfl, by kernel_rfl⟩
theorem str3 (a : UInt8) : strBin .add ⟨#[92, 120]⟩ ⟨#[a]⟩ = some (.s ⟨#[92, 120, a]⟩) := by
  unfold strBin
  refine (if_neg ?_).trans ?_
  · show ¬ (((3 : Nat) : Int) > IntKind.i64.max)
    decide
  · rfl
theorem str4 (a b : UInt8) : strBin .add ⟨#[92, 120, a]⟩ ⟨#[b]⟩ = some (.s ⟨#[92, 120, a, b]⟩) := by
  unfold strBin
  refine (if_neg ?_).trans ?_
  · show ¬ (((4 : Nat) : Int) > IntKind.i64.max)
    decide
  · rfl
theorem quo16 (c : UInt8) : IntKind.u8.wrap ((c.toNat : Int).tdiv 16) = ((c.toNat / 16 : Nat) : Int) := by
  have h := c.toNat_lt
  have e : (c.toNat : Int).tdiv 16 = ((c.toNat / 16 : Nat) : Int) := rfl
  rw [e]
  have e2 : (((c.toNat / 16 : Nat) : Int)) % (2 ^ 8 : Int) = ((c.toNat / 16 : Nat) : Int) := Int.emod_eq_of_lt (by omega) (by omega)
  simp only [IntKind.wrap, IntKind.bits, IntKind.signed, e2]
  simp
theorem rem16 (c : UInt8) : (c.toNat : Int).tmod 16 = ((c.toNat % 16 : Nat) : Int) := rfl
theorem callB13 {m : AMem} {a : AV} {l : List UInt8} (h : Bytes m a l) (hl : l.length ≤ 2000) :
    Vi.Call T 13 [a] m (fun v m' => v = .s ⟨(quote l).toArray⟩ ∧ m.next ≤ m'.next ∧ ∀ i, i < m.next → m'.get i = m.get i) := by
  refine Vi.Call.ofP T13 (Nat.le_of_ble_eq_true rfl) ?_
  unfold v13
  repeat (first
    | ((first | refine W_op rfl rfl ?_ | (refine W_opgT rfl rfl ?hg ?_; (case hg => (simp only [WG, reduceIte, Nat.reduceEqDiff]; done)))); simp only [WB, execE, unE, args0, reduceIte, Nat.reduceEqDiff, Nat.reduceAdd, Nat.reduceLeDiff, Wo_some])
    | (refine W_opgF rfl rfl ?hg ?_; (case hg => (simp only [WG, reduceIte, Nat.reduceEqDiff]; done)))
    | rw [W_seq] | rw [W_reg] | rw [push_no] | rw [W_onil] | rw [W_skip] | rw [W_blk] | rw [W_b] | refine W_regd0 ?_)
  have hb0 : BAt m.next (m.inn.new (.cells [.p none, .sl none 0 0 true] true ⟨2, some 97⟩)) m.next [] := ⟨Nat.le_refl _, by simp, .inl ⟨rfl, by simp [AMem.get_new]⟩⟩
  refine W_callR rfl (callB32 hb0 34 (by simp)) ?_
  rintro v m1 ⟨hb1, hn1, hk1⟩ hs1
  have hlen : ∀ m2, execE (.len 1 (.c a)) (X.at (args0 [])) m2 = some (.i .i64 l.length, m2) := fun m2 => h.len _ _ rfl m2
  simp only [execE, at_c] at hlen
  repeat (first
    | ((first | refine W_op rfl rfl ?_ | (refine W_opgT rfl rfl ?hg ?_; (case hg => (simp only [WG, reduceIte, Nat.reduceEqDiff]; done)))); simp only [WB, execE, unE, args0, reduceIte, Nat.reduceEqDiff, Nat.reduceAdd, Nat.reduceLeDiff, hlen, Wo_some])
    | (refine W_opgF rfl rfl ?hg ?_; (case hg => (simp only [WG, reduceIte, Nat.reduceEqDiff]; done)))
    | rw [W_seq] | rw [W_reg] | rw [push_no] | rw [W_onil] | rw [W_skip] | rw [W_blk] | rw [W_b] | refine W_regd0 ?_)
  refine W_loop (fun k g' m' => ∃ i, i ≤ l.length ∧ k = l.length - i ∧ g' 3 = .p (some (m.next, 0)) ∧ g' 7 = a ∧ g' 8 = .i .i64 l.length ∧ g' 9 = .i .i64 i ∧ BAt m.next m' m.next (34 :: (l.take i).flatMap q1) ∧ m'.ds = [] ∧ m.next ≤ m'.next ∧ ∀ i, i < m.next → m'.get i = m.get i) l.length ?_ ?_ ?_
  · refine ⟨0, Nat.zero_le _, rfl, ?_, ?_, ?_, ?_, by simpa using hb1, hs1.ds, ?_, fun i hi => ?_⟩
    · skip
      simp only [upd_at, upd_none, reduceIte, Nat.reduceEqDiff, args0, List.getD_cons_zero, List.getD_cons_succ, List.getD_nil]
    · skip
      simp only [upd_at, upd_none, reduceIte, Nat.reduceEqDiff, args0, List.getD_cons_zero, List.getD_cons_succ, List.getD_nil]
    · skip
      simp only [upd_at, upd_none, reduceIte, Nat.reduceEqDiff, args0, List.getD_cons_zero, List.getD_cons_succ, List.getD_nil]
    · skip
      simp only [upd_at, upd_none, reduceIte, Nat.reduceEqDiff, args0, List.getD_cons_zero, List.getD_cons_succ, List.getD_nil, Int.ofNat_zero]
      try rfl
    · simp only [AMem.next_new, AMem.next_inn] at hn1; omega
    · rw [hk1 i hi, AMem.get_new, if_neg (by simp; omega)]; rfl
  · intro i hi
    repeat (first | exact args0_un (Nat.le_of_ble_eq_true rfl) i hi | refine upd_un ?_ rfl i hi; clear i hi; intro i hi)
  · rintro k g m' ⟨i, hi, rfl, g3, g7, g8, g9, hB, hds, hn, hk⟩ hg
    repeat (first
      | ((first | refine W_op rfl rfl ?_ | (refine W_opgT rfl rfl ?hg ?_; (case hg => (simp only [WG, reduceIte, Nat.reduceEqDiff]; done)))); simp only [WB, execE, unE, args0, reduceIte, Nat.reduceEqDiff, Nat.reduceAdd, Nat.reduceLeDiff, g3, g7, g8, g9, binE, isShift, Bool.false_or, intBin, Wo_some])
      | (refine W_opgF rfl rfl ?hg ?_; (case hg => (simp only [WG, reduceIte, Nat.reduceEqDiff]; done)))
      | rw [W_seq] | rw [W_reg] | rw [push_no] | rw [W_onil] | rw [W_skip] | rw [W_blk] | rw [W_b] | refine W_regd0 ?_)
    refine W_cond ?_
    simp only [WB, execE, unE, args0, reduceIte, Nat.reduceEqDiff, Nat.reduceAdd, Nat.reduceLeDiff]
    refine WC_split (fun ht => ?_) (fun hf => ?_)
    · have hlt : i < l.length := by simpa using ht
      obtain ⟨ja, oa, na, capa, exa, ca, wra, esa, rfl, rfl, hja, hga, hca⟩ := h.at_ hlt
      have hga' : m'.get ja = some (.cells ca wra esa) := by rw [hk ja hja]; exact hga
      have hix : (0 ≤ (i : Int) ∧ (i : Int) < (l.length : Int)) := ⟨by omega, by omega⟩
      obtain ⟨c, hcl⟩ : ∃ c, l[i] = c := ⟨_, rfl⟩
      rw [hcl] at hca
      have fin : ∀ (g2 : Nat → AV) (m3 : AMem), g2 3 = .p (some (m.next, 0)) → g2 7 = .sl (some (ja, oa)) l.length capa exa → g2 8 = .i .i64 l.length → g2 9 = .i .i64 (IntKind.i64.wrap ((i : Int) + 1)) → BAt m.next m3 m.next ((34 :: (l.take i).flatMap q1) ++ q1 c) → m3.ds = [] → m'.next ≤ m3.next → (∀ x, x < m.next → m3.get x = m'.get x) →
          ∃ n', n' < l.length - i ∧ ∃ i, i ≤ l.length ∧ n' = l.length - i ∧ g2 3 = .p (some (m.next, 0)) ∧ g2 7 = .sl (some (ja, oa)) l.length capa exa ∧ g2 8 = .i .i64 l.length ∧ g2 9 = .i .i64 i ∧ BAt m.next m3 m.next (34 :: (l.take i).flatMap q1) ∧ m3.ds = [] ∧ m.next ≤ m3.next ∧ ∀ i, i < m.next → m3.get i = m.get i := by
        intro g2 m3 a1 a2 a3 a4 a5 a6 a7 a8
        refine ⟨l.length - (i + 1), by omega, i + 1, by omega, rfl, a1, a2, a3, ?_, ?_, a6, by omega, fun x hx => (a8 x hx).trans (hk x hx)⟩
        · rw [a4, wrap64 (by omega) (by omega)]; rfl
        · rw [take_snoc hlt, hcl]; simpa using a5
      have hBl : (34 :: (l.take i).flatMap q1).length + 8 ≤ 100000 := by
        have := flat_len (l.take i)
        simp only [List.length_cons, List.length_take] at this ⊢
        omega
      cases hA : ((c.toNat : Int) == 34)
      · cases hA2 : ((c.toNat : Int) == 92)
        · cases hC : decide ((c.toNat : Int) < 32)
          · cases hD : decide ((c.toNat : Int) > 126)
            · skip
              repeat (first
                | ((first | refine W_op rfl rfl ?_ | (refine W_opgT rfl rfl ?hg ?_; (case hg => (simp only [WG, reduceIte, Nat.reduceEqDiff]; done)))); simp only [WB, execE, unE, args0, reduceIte, Nat.reduceEqDiff, Nat.reduceAdd, Nat.reduceLeDiff, g3, g7, g8, g9, hix, hga', Int.toNat_natCast, Nat.mul_one, hca, binE, isShift, Bool.false_or, intBin, hA, hA2, hC, hD, Wo_some])
                | (refine W_opgF rfl rfl ?hg ?_; (case hg => (simp only [WG, reduceIte, Nat.reduceEqDiff]; done)))
                | rw [W_seq] | rw [W_reg] | rw [push_no] | rw [W_onil] | rw [W_skip] | rw [W_blk] | rw [W_b] | refine W_regd0 ?_)
              refine W_cond ?_
              simp only [WB, execE, unE, args0, reduceIte, Nat.reduceEqDiff, Nat.reduceAdd, Nat.reduceLeDiff, WC]
              repeat (first
                | ((first | refine W_op rfl rfl ?_ | (refine W_opgT rfl rfl ?hg ?_; (case hg => (simp only [WG, reduceIte, Nat.reduceEqDiff]; done)))); simp only [WB, execE, unE, args0, reduceIte, Nat.reduceEqDiff, Nat.reduceAdd, Nat.reduceLeDiff, g3, g7, g8, g9, hix, hga', Int.toNat_natCast, Nat.mul_one, hca, binE, isShift, Bool.false_or, intBin, hA, hA2, hC, hD, Wo_some])
                | (refine W_opgF rfl rfl ?hg ?_; (case hg => (simp only [WG, reduceIte, Nat.reduceEqDiff]; done)))
                | rw [W_seq] | rw [W_reg] | rw [push_no] | rw [W_onil] | rw [W_skip] | rw [W_blk] | rw [W_b] | refine W_regd0 ?_)
              refine W_cond ?_
              simp only [WB, execE, unE, args0, reduceIte, Nat.reduceEqDiff, Nat.reduceAdd, Nat.reduceLeDiff, WC]
              repeat (first
                | ((first | refine W_op rfl rfl ?_ | (refine W_opgT rfl rfl ?hg ?_; (case hg => (simp only [WG, reduceIte, Nat.reduceEqDiff]; done)))); simp only [WB, execE, unE, args0, reduceIte, Nat.reduceEqDiff, Nat.reduceAdd, Nat.reduceLeDiff, Wo_some])
                | (refine W_opgF rfl rfl ?hg ?_; (case hg => (simp only [WG, reduceIte, Nat.reduceEqDiff]; done)))
                | rw [W_seq] | rw [W_reg] | rw [push_no] | rw [W_onil] | rw [W_skip] | rw [W_blk] | rw [W_b] | refine W_regd0 ?_)
              refine W_callA rfl ?hargs (callB32 hB c (by omega)) ?_
              case hargs => simp only [WB, execE, unE, args0, reduceIte, Nat.reduceEqDiff, Nat.reduceAdd, Nat.reduceLeDiff, g3] <;> rfl
              rintro v2 m2 ⟨hB2, hn2, hk2⟩ hs2
              repeat (first
                | ((first | refine W_op rfl rfl ?_ | (refine W_opgT rfl rfl ?hg ?_; (case hg => (simp only [WG, reduceIte, Nat.reduceEqDiff]; done)))); simp only [WB, execE, unE, args0, reduceIte, Nat.reduceEqDiff, Nat.reduceAdd, Nat.reduceLeDiff, binE, isShift, intBin, g9, Wo_some])
                | (refine W_opgF rfl rfl ?hg ?_; (case hg => (simp only [WG, reduceIte, Nat.reduceEqDiff]; done)))
                | rw [W_seq] | rw [W_reg] | rw [push_no] | rw [W_onil] | rw [W_skip] | rw [W_blk] | rw [W_b] | refine W_regd0 ?_)
              refine W_j ?_ ?_
              · repeat (first | exact hg | refine upd_un ?_ rfl)
              · refine fin _ _ ?_ ?_ ?_ ?_ ?_ ?_ (by omega) (fun x hx => hk2 x hx)
                · skip
                  simp only [upd_at, upd_none, reduceIte, Nat.reduceEqDiff, args0, List.getD_cons_zero, List.getD_cons_succ, List.getD_nil, g3]
                · skip
                  simp only [upd_at, upd_none, reduceIte, Nat.reduceEqDiff, args0, List.getD_cons_zero, List.getD_cons_succ, List.getD_nil, g7]
                · skip
                  simp only [upd_at, upd_none, reduceIte, Nat.reduceEqDiff, args0, List.getD_cons_zero, List.getD_cons_succ, List.getD_nil, g8]
                · skip
                  simp only [upd_at, upd_none, reduceIte, Nat.reduceEqDiff, args0, List.getD_cons_zero, List.getD_cons_succ, List.getD_nil]
                · have e : q1 c = [c] := by
                    unfold q1
                    rw [if_neg (by simp at hA hA2; omega), if_neg (by simp at hC hD; omega)]
                  rw [e]; exact hB2
                · rw [hs2.ds, hds]
            · skip
              repeat (first
                | ((first | refine W_op rfl rfl ?_ | (refine W_opgT rfl rfl ?hg ?_; (case hg => (simp only [WG, reduceIte, Nat.reduceEqDiff]; done)))); simp only [WB, execE, unE, args0, reduceIte, Nat.reduceEqDiff, Nat.reduceAdd, Nat.reduceLeDiff, g3, g7, g8, g9, hix, hga', Int.toNat_natCast, Nat.mul_one, hca, binE, isShift, Bool.false_or, intBin, hA, hA2, hC, hD, Wo_some])
                | (refine W_opgF rfl rfl ?hg ?_; (case hg => (simp only [WG, reduceIte, Nat.reduceEqDiff]; done)))
                | rw [W_seq] | rw [W_reg] | rw [push_no] | rw [W_onil] | rw [W_skip] | rw [W_blk] | rw [W_b] | refine W_regd0 ?_)
              refine W_cond ?_
              simp only [WB, execE, unE, args0, reduceIte, Nat.reduceEqDiff, Nat.reduceAdd, Nat.reduceLeDiff, WC]
              repeat (first
                | ((first | refine W_op rfl rfl ?_ | (refine W_opgT rfl rfl ?hg ?_; (case hg => (simp only [WG, reduceIte, Nat.reduceEqDiff]; done)))); simp only [WB, execE, unE, args0, reduceIte, Nat.reduceEqDiff, Nat.reduceAdd, Nat.reduceLeDiff, g3, g7, g8, g9, hix, hga', Int.toNat_natCast, Nat.mul_one, hca, binE, isShift, Bool.false_or, intBin, hA, hA2, hC, hD, Wo_some])
                | (refine W_opgF rfl rfl ?hg ?_; (case hg => (simp only [WG, reduceIte, Nat.reduceEqDiff]; done)))
                | rw [W_seq] | rw [W_reg] | rw [push_no] | rw [W_onil] | rw [W_skip] | rw [W_blk] | rw [W_b] | refine W_regd0 ?_)
              refine W_cond ?_
              simp only [WB, execE, unE, args0, reduceIte, Nat.reduceEqDiff, Nat.reduceAdd, Nat.reduceLeDiff, WC]
              have hlt2 := c.toNat_lt
              obtain ⟨x1, x2⟩ := hex_at (c.toNat / 16) (by omega)
              obtain ⟨y1, y2⟩ := hex_at (c.toNat % 16) (by omega)
              repeat (first
                | ((first | refine W_op rfl rfl ?_ | (refine W_opgT rfl rfl ?hg ?_; (case hg => (simp only [WG, reduceIte, Nat.reduceEqDiff]; done)))); simp only [WB, execE, unE, args0, reduceIte, Nat.reduceEqDiff, Nat.reduceAdd, Nat.reduceLeDiff, binE, isShift, Bool.false_or, intBin, quo16, rem16, Int.natCast_nonneg, Int.toNat_natCast, x1, x2, y1, y2, str3, str4, Int.reduceEq, Wo_some])
                | (refine W_opgF rfl rfl ?hg ?_; (case hg => (simp only [WG, reduceIte, Nat.reduceEqDiff]; done)))
                | rw [W_seq] | rw [W_reg] | rw [push_no] | rw [W_onil] | rw [W_skip] | rw [W_blk] | rw [W_b] | refine W_regd0 ?_)
              refine W_callA rfl ?hargs (callB33 hB ⟨#[92, 120, hexes.getD (c.toNat / 16) 0, hexes.getD (c.toNat % 16) 0]⟩ (by simp) (by simp at hBl ⊢; omega)) ?_
              case hargs => simp only [WB, execE, unE, args0, reduceIte, Nat.reduceEqDiff, Nat.reduceAdd, Nat.reduceLeDiff, g3] <;> rfl
              rintro v2 m2 ⟨hB2, hn2, hk2⟩ hs2
              repeat (first
                | ((first | refine W_op rfl rfl ?_ | (refine W_opgT rfl rfl ?hg ?_; (case hg => (simp only [WG, reduceIte, Nat.reduceEqDiff]; done)))); simp only [WB, execE, unE, args0, reduceIte, Nat.reduceEqDiff, Nat.reduceAdd, Nat.reduceLeDiff, binE, isShift, intBin, g9, Wo_some])
                | (refine W_opgF rfl rfl ?hg ?_; (case hg => (simp only [WG, reduceIte, Nat.reduceEqDiff]; done)))
                | rw [W_seq] | rw [W_reg] | rw [push_no] | rw [W_onil] | rw [W_skip] | rw [W_blk] | rw [W_b] | refine W_regd0 ?_)
              refine W_j ?_ ?_
              · repeat (first | exact hg | refine upd_un ?_ rfl)
              · refine fin _ _ ?_ ?_ ?_ ?_ ?_ ?_ (by omega) (fun x hx => hk2 x hx)
                · skip
                  simp only [upd_at, upd_none, reduceIte, Nat.reduceEqDiff, args0, List.getD_cons_zero, List.getD_cons_succ, List.getD_nil, g3]
                · skip
                  simp only [upd_at, upd_none, reduceIte, Nat.reduceEqDiff, args0, List.getD_cons_zero, List.getD_cons_succ, List.getD_nil, g7]
                · skip
                  simp only [upd_at, upd_none, reduceIte, Nat.reduceEqDiff, args0, List.getD_cons_zero, List.getD_cons_succ, List.getD_nil, g8]
                · skip
                  simp only [upd_at, upd_none, reduceIte, Nat.reduceEqDiff, args0, List.getD_cons_zero, List.getD_cons_succ, List.getD_nil]
                · have e : q1 c = [92, 120, hexes.getD (c.toNat / 16) 0, hexes.getD (c.toNat % 16) 0] := by
                    unfold q1
                    rw [if_neg (by simp at hA hA2; omega), if_pos (by simp at hD; omega)]
                  rw [e]; exact hB2
                · rw [hs2.ds, hds]
          · skip
            repeat (first
              | ((first | refine W_op rfl rfl ?_ | (refine W_opgT rfl rfl ?hg ?_; (case hg => (simp only [WG, reduceIte, Nat.reduceEqDiff]; done)))); simp only [WB, execE, unE, args0, reduceIte, Nat.reduceEqDiff, Nat.reduceAdd, Nat.reduceLeDiff, g3, g7, g8, g9, hix, hga', Int.toNat_natCast, Nat.mul_one, hca, binE, isShift, Bool.false_or, intBin, hA, hA2, hC, Wo_some])
              | (refine W_opgF rfl rfl ?hg ?_; (case hg => (simp only [WG, reduceIte, Nat.reduceEqDiff]; done)))
              | rw [W_seq] | rw [W_reg] | rw [push_no] | rw [W_onil] | rw [W_skip] | rw [W_blk] | rw [W_b] | refine W_regd0 ?_)
            refine W_cond ?_
            simp only [WB, execE, unE, args0, reduceIte, Nat.reduceEqDiff, Nat.reduceAdd, Nat.reduceLeDiff, WC]
            repeat (first
              | ((first | refine W_op rfl rfl ?_ | (refine W_opgT rfl rfl ?hg ?_; (case hg => (simp only [WG, reduceIte, Nat.reduceEqDiff]; done)))); simp only [WB, execE, unE, args0, reduceIte, Nat.reduceEqDiff, Nat.reduceAdd, Nat.reduceLeDiff, g3, g7, g8, g9, hix, hga', Int.toNat_natCast, Nat.mul_one, hca, binE, isShift, Bool.false_or, intBin, hA, hA2, hC, Wo_some])
              | (refine W_opgF rfl rfl ?hg ?_; (case hg => (simp only [WG, reduceIte, Nat.reduceEqDiff]; done)))
              | rw [W_seq] | rw [W_reg] | rw [push_no] | rw [W_onil] | rw [W_skip] | rw [W_blk] | rw [W_b] | refine W_regd0 ?_)
            refine W_cond ?_
            simp only [WB, execE, unE, args0, reduceIte, Nat.reduceEqDiff, Nat.reduceAdd, Nat.reduceLeDiff, WC]
            have hlt2 := c.toNat_lt
            obtain ⟨x1, x2⟩ := hex_at (c.toNat / 16) (by omega)
            obtain ⟨y1, y2⟩ := hex_at (c.toNat % 16) (by omega)
            repeat (first
              | ((first | refine W_op rfl rfl ?_ | (refine W_opgT rfl rfl ?hg ?_; (case hg => (simp only [WG, reduceIte, Nat.reduceEqDiff]; done)))); simp only [WB, execE, unE, args0, reduceIte, Nat.reduceEqDiff, Nat.reduceAdd, Nat.reduceLeDiff, binE, isShift, Bool.false_or, intBin, quo16, rem16, Int.natCast_nonneg, Int.toNat_natCast, x1, x2, y1, y2, str3, str4, Int.reduceEq, Wo_some])
              | (refine W_opgF rfl rfl ?hg ?_; (case hg => (simp only [WG, reduceIte, Nat.reduceEqDiff]; done)))
              | rw [W_seq] | rw [W_reg] | rw [push_no] | rw [W_onil] | rw [W_skip] | rw [W_blk] | rw [W_b] | refine W_regd0 ?_)
            refine W_callA rfl ?hargs (callB33 hB ⟨#[92, 120, hexes.getD (c.toNat / 16) 0, hexes.getD (c.toNat % 16) 0]⟩ (by simp) (by simp at hBl ⊢; omega)) ?_
            case hargs => simp only [WB, execE, unE, args0, reduceIte, Nat.reduceEqDiff, Nat.reduceAdd, Nat.reduceLeDiff, g3] <;> rfl
            rintro v2 m2 ⟨hB2, hn2, hk2⟩ hs2
            repeat (first
              | ((first | refine W_op rfl rfl ?_ | (refine W_opgT rfl rfl ?hg ?_; (case hg => (simp only [WG, reduceIte, Nat.reduceEqDiff]; done)))); simp only [WB, execE, unE, args0, reduceIte, Nat.reduceEqDiff, Nat.reduceAdd, Nat.reduceLeDiff, binE, isShift, intBin, g9, Wo_some])
              | (refine W_opgF rfl rfl ?hg ?_; (case hg => (simp only [WG, reduceIte, Nat.reduceEqDiff]; done)))
              | rw [W_seq] | rw [W_reg] | rw [push_no] | rw [W_onil] | rw [W_skip] | rw [W_blk] | rw [W_b] | refine W_regd0 ?_)
            refine W_j ?_ ?_
            · repeat (first | exact hg | refine upd_un ?_ rfl)
            · refine fin _ _ ?_ ?_ ?_ ?_ ?_ ?_ (by omega) (fun x hx => hk2 x hx)
              · skip
                simp only [upd_at, upd_none, reduceIte, Nat.reduceEqDiff, args0, List.getD_cons_zero, List.getD_cons_succ, List.getD_nil, g3]
              · skip
                simp only [upd_at, upd_none, reduceIte, Nat.reduceEqDiff, args0, List.getD_cons_zero, List.getD_cons_succ, List.getD_nil, g7]
              · skip
                simp only [upd_at, upd_none, reduceIte, Nat.reduceEqDiff, args0, List.getD_cons_zero, List.getD_cons_succ, List.getD_nil, g8]
              · skip
                simp only [upd_at, upd_none, reduceIte, Nat.reduceEqDiff, args0, List.getD_cons_zero, List.getD_cons_succ, List.getD_nil]
              · have e : q1 c = [92, 120, hexes.getD (c.toNat / 16) 0, hexes.getD (c.toNat % 16) 0] := by
                  unfold q1
                  rw [if_neg (by simp at hA hA2; omega), if_pos (by simp at hC; omega)]
                rw [e]; exact hB2
              · rw [hs2.ds, hds]
        · skip
          repeat (first
            | ((first | refine W_op rfl rfl ?_ | (refine W_opgT rfl rfl ?hg ?_; (case hg => (simp only [WG, reduceIte, Nat.reduceEqDiff]; done)))); simp only [WB, execE, unE, args0, reduceIte, Nat.reduceEqDiff, Nat.reduceAdd, Nat.reduceLeDiff, g3, g7, g8, g9, hix, hga', Int.toNat_natCast, Nat.mul_one, hca, binE, isShift, Bool.false_or, intBin, hA, hA2, Wo_some])
            | (refine W_opgF rfl rfl ?hg ?_; (case hg => (simp only [WG, reduceIte, Nat.reduceEqDiff]; done)))
            | rw [W_seq] | rw [W_reg] | rw [push_no] | rw [W_onil] | rw [W_skip] | rw [W_blk] | rw [W_b] | refine W_regd0 ?_)
          refine W_cond ?_
          simp only [WB, execE, unE, args0, reduceIte, Nat.reduceEqDiff, Nat.reduceAdd, Nat.reduceLeDiff, WC]
          repeat (first
            | ((first | refine W_op rfl rfl ?_ | (refine W_opgT rfl rfl ?hg ?_; (case hg => (simp only [WG, reduceIte, Nat.reduceEqDiff]; done)))); simp only [WB, execE, unE, args0, reduceIte, Nat.reduceEqDiff, Nat.reduceAdd, Nat.reduceLeDiff, Wo_some])
            | (refine W_opgF rfl rfl ?hg ?_; (case hg => (simp only [WG, reduceIte, Nat.reduceEqDiff]; done)))
            | rw [W_seq] | rw [W_reg] | rw [push_no] | rw [W_onil] | rw [W_skip] | rw [W_blk] | rw [W_b] | refine W_regd0 ?_)
          refine W_callA rfl ?hargs (callB32 hB 92 (by omega)) ?_
          case hargs => simp only [WB, execE, unE, args0, reduceIte, Nat.reduceEqDiff, Nat.reduceAdd, Nat.reduceLeDiff, g3] <;> rfl
          rintro v2 m2 ⟨hB2, hn2, hk2⟩ hs2
          repeat (first
            | ((first | refine W_op rfl rfl ?_ | (refine W_opgT rfl rfl ?hg ?_; (case hg => (simp only [WG, reduceIte, Nat.reduceEqDiff]; done)))); simp only [WB, execE, unE, args0, reduceIte, Nat.reduceEqDiff, Nat.reduceAdd, Nat.reduceLeDiff, Wo_some])
            | (refine W_opgF rfl rfl ?hg ?_; (case hg => (simp only [WG, reduceIte, Nat.reduceEqDiff]; done)))
            | rw [W_seq] | rw [W_reg] | rw [push_no] | rw [W_onil] | rw [W_skip] | rw [W_blk] | rw [W_b] | refine W_regd0 ?_)
          refine W_callA rfl ?hargs (callB32 hB2 c (by simp at hBl ⊢; omega)) ?_
          case hargs => simp only [WB, execE, unE, args0, reduceIte, Nat.reduceEqDiff, Nat.reduceAdd, Nat.reduceLeDiff, g3] <;> rfl
          rintro v3 m3 ⟨hB3, hn3, hk3⟩ hs3
          repeat (first
            | ((first | refine W_op rfl rfl ?_ | (refine W_opgT rfl rfl ?hg ?_; (case hg => (simp only [WG, reduceIte, Nat.reduceEqDiff]; done)))); simp only [WB, execE, unE, args0, reduceIte, Nat.reduceEqDiff, Nat.reduceAdd, Nat.reduceLeDiff, binE, isShift, intBin, g9, Wo_some])
            | (refine W_opgF rfl rfl ?hg ?_; (case hg => (simp only [WG, reduceIte, Nat.reduceEqDiff]; done)))
            | rw [W_seq] | rw [W_reg] | rw [push_no] | rw [W_onil] | rw [W_skip] | rw [W_blk] | rw [W_b] | refine W_regd0 ?_)
          refine W_j ?_ ?_
          · repeat (first | exact hg | refine upd_un ?_ rfl)
          · refine fin _ _ ?_ ?_ ?_ ?_ ?_ ?_ (by omega) (fun x hx => (hk3 x hx).trans (hk2 x hx))
            · skip
              simp only [upd_at, upd_none, reduceIte, Nat.reduceEqDiff, args0, List.getD_cons_zero, List.getD_cons_succ, List.getD_nil, g3]
            · skip
              simp only [upd_at, upd_none, reduceIte, Nat.reduceEqDiff, args0, List.getD_cons_zero, List.getD_cons_succ, List.getD_nil, g7]
            · skip
              simp only [upd_at, upd_none, reduceIte, Nat.reduceEqDiff, args0, List.getD_cons_zero, List.getD_cons_succ, List.getD_nil, g8]
            · skip
              simp only [upd_at, upd_none, reduceIte, Nat.reduceEqDiff, args0, List.getD_cons_zero, List.getD_cons_succ, List.getD_nil]
            · have e : q1 c = [92, c] := by unfold q1; rw [if_pos (.inr (by simpa using hA2))]
              rw [e]; simpa using hB3
            · rw [hs3.ds, hs2.ds, hds]
      · skip
        repeat (first
          | ((first | refine W_op rfl rfl ?_ | (refine W_opgT rfl rfl ?hg ?_; (case hg => (simp only [WG, reduceIte, Nat.reduceEqDiff]; done)))); simp only [WB, execE, unE, args0, reduceIte, Nat.reduceEqDiff, Nat.reduceAdd, Nat.reduceLeDiff, g3, g7, g8, g9, hix, hga', Int.toNat_natCast, Nat.mul_one, hca, binE, isShift, Bool.false_or, intBin, hA, Wo_some])
          | (refine W_opgF rfl rfl ?hg ?_; (case hg => (simp only [WG, reduceIte, Nat.reduceEqDiff]; done)))
          | rw [W_seq] | rw [W_reg] | rw [push_no] | rw [W_onil] | rw [W_skip] | rw [W_blk] | rw [W_b] | refine W_regd0 ?_)
        refine W_cond ?_
        simp only [WB, execE, unE, args0, reduceIte, Nat.reduceEqDiff, Nat.reduceAdd, Nat.reduceLeDiff, WC]
        repeat (first
          | ((first | refine W_op rfl rfl ?_ | (refine W_opgT rfl rfl ?hg ?_; (case hg => (simp only [WG, reduceIte, Nat.reduceEqDiff]; done)))); simp only [WB, execE, unE, args0, reduceIte, Nat.reduceEqDiff, Nat.reduceAdd, Nat.reduceLeDiff, Wo_some])
          | (refine W_opgF rfl rfl ?hg ?_; (case hg => (simp only [WG, reduceIte, Nat.reduceEqDiff]; done)))
          | rw [W_seq] | rw [W_reg] | rw [push_no] | rw [W_onil] | rw [W_skip] | rw [W_blk] | rw [W_b] | refine W_regd0 ?_)
        refine W_callA rfl ?hargs (callB32 hB 92 (by omega)) ?_
        case hargs => simp only [WB, execE, unE, args0, reduceIte, Nat.reduceEqDiff, Nat.reduceAdd, Nat.reduceLeDiff, g3] <;> rfl
        rintro v2 m2 ⟨hB2, hn2, hk2⟩ hs2
        repeat (first
          | ((first | refine W_op rfl rfl ?_ | (refine W_opgT rfl rfl ?hg ?_; (case hg => (simp only [WG, reduceIte, Nat.reduceEqDiff]; done)))); simp only [WB, execE, unE, args0, reduceIte, Nat.reduceEqDiff, Nat.reduceAdd, Nat.reduceLeDiff, Wo_some])
          | (refine W_opgF rfl rfl ?hg ?_; (case hg => (simp only [WG, reduceIte, Nat.reduceEqDiff]; done)))
          | rw [W_seq] | rw [W_reg] | rw [push_no] | rw [W_onil] | rw [W_skip] | rw [W_blk] | rw [W_b] | refine W_regd0 ?_)
        refine W_callA rfl ?hargs (callB32 hB2 c (by simp at hBl ⊢; omega)) ?_
        case hargs => simp only [WB, execE, unE, args0, reduceIte, Nat.reduceEqDiff, Nat.reduceAdd, Nat.reduceLeDiff, g3] <;> rfl
        rintro v3 m3 ⟨hB3, hn3, hk3⟩ hs3
        repeat (first
          | ((first | refine W_op rfl rfl ?_ | (refine W_opgT rfl rfl ?hg ?_; (case hg => (simp only [WG, reduceIte, Nat.reduceEqDiff]; done)))); simp only [WB, execE, unE, args0, reduceIte, Nat.reduceEqDiff, Nat.reduceAdd, Nat.reduceLeDiff, binE, isShift, intBin, g9, Wo_some])
          | (refine W_opgF rfl rfl ?hg ?_; (case hg => (simp only [WG, reduceIte, Nat.reduceEqDiff]; done)))
          | rw [W_seq] | rw [W_reg] | rw [push_no] | rw [W_onil] | rw [W_skip] | rw [W_blk] | rw [W_b] | refine W_regd0 ?_)
        refine W_j ?_ ?_
        · repeat (first | exact hg | refine upd_un ?_ rfl)
        · refine fin _ _ ?_ ?_ ?_ ?_ ?_ ?_ (by omega) (fun x hx => (hk3 x hx).trans (hk2 x hx))
          · skip
            simp only [upd_at, upd_none, reduceIte, Nat.reduceEqDiff, args0, List.getD_cons_zero, List.getD_cons_succ, List.getD_nil, g3]
          · skip
            simp only [upd_at, upd_none, reduceIte, Nat.reduceEqDiff, args0, List.getD_cons_zero, List.getD_cons_succ, List.getD_nil, g7]
          · skip
            simp only [upd_at, upd_none, reduceIte, Nat.reduceEqDiff, args0, List.getD_cons_zero, List.getD_cons_succ, List.getD_nil, g8]
          · skip
            simp only [upd_at, upd_none, reduceIte, Nat.reduceEqDiff, args0, List.getD_cons_zero, List.getD_cons_succ, List.getD_nil]
          · have e : q1 c = [92, c] := by unfold q1; rw [if_pos (.inl (by simpa using hA))]
            rw [e]; simpa using hB3
          · rw [hs3.ds, hs2.ds, hds]
    · have hi2 : i = l.length := by simp at hf; omega
      subst hi2
      rw [List.take_length] at hB
      refine W_exit rfl ?_
      have hBl : (34 :: l.flatMap q1).length + 1 ≤ 100000 := by
        have := flat_len l
        simp only [List.length_cons]; omega
      repeat (first
        | ((first | refine W_op rfl rfl ?_ | (refine W_opgT rfl rfl ?hg ?_; (case hg => (simp only [WG, reduceIte, Nat.reduceEqDiff]; done)))); simp only [WB, execE, unE, args0, reduceIte, Nat.reduceEqDiff, Nat.reduceAdd, Nat.reduceLeDiff, g3, Wo_some])
        | (refine W_opgF rfl rfl ?hg ?_; (case hg => (simp only [WG, reduceIte, Nat.reduceEqDiff]; done)))
        | rw [W_seq] | rw [W_reg] | rw [push_no] | rw [W_onil] | rw [W_skip] | rw [W_blk] | rw [W_b] | refine W_regd0 ?_)
      refine W_callA rfl ?hargs (callB32 hB 34 hBl) ?_
      case hargs => simp only [WB, execE, unE, args0, reduceIte, Nat.reduceEqDiff, Nat.reduceAdd, Nat.reduceLeDiff, g3] <;> rfl
      rintro v2 m2 ⟨hB2, hn2, hk2⟩ hs2
      repeat (first
        | ((first | refine W_op rfl rfl ?_ | (refine W_opgT rfl rfl ?hg ?_; (case hg => (simp only [WG, reduceIte, Nat.reduceEqDiff]; done)))); simp only [WB, execE, unE, args0, reduceIte, Nat.reduceEqDiff, Nat.reduceAdd, Nat.reduceLeDiff, g3, Wo_some])
        | (refine W_opgF rfl rfl ?hg ?_; (case hg => (simp only [WG, reduceIte, Nat.reduceEqDiff]; done)))
        | rw [W_seq] | rw [W_reg] | rw [push_no] | rw [W_onil] | rw [W_skip] | rw [W_blk] | rw [W_b] | refine W_regd0 ?_)
      refine W_callA rfl ?hargs (callB34 hB2 (by simp) (by simpa using hBl)) ?_
      case hargs => simp only [WB, execE, unE, args0, reduceIte, Nat.reduceEqDiff, Nat.reduceAdd, Nat.reduceLeDiff, g3] <;> rfl
      rintro v3 m3 ⟨rfl, hn3, hk3⟩ hs3
      repeat (first
        | ((first | refine W_op rfl rfl ?_ | (refine W_opgT rfl rfl ?hg ?_; (case hg => (simp only [WG, reduceIte, Nat.reduceEqDiff]; done)))); simp only [WB, execE, unE, args0, reduceIte, Nat.reduceEqDiff, Nat.reduceAdd, Nat.reduceLeDiff, Wo_some])
        | (refine W_opgF rfl rfl ?hg ?_; (case hg => (simp only [WG, reduceIte, Nat.reduceEqDiff]; done)))
        | rw [W_seq] | rw [W_reg] | rw [push_no] | rw [W_onil] | rw [W_skip] | rw [W_blk] | rw [W_b] | refine W_regd0 ?_)
      refine W_getRet (by repeat (first | exact hg | refine upd_un ?_ rfl)) ?_
      exact ⟨by rw [hs3.ds, hs2.ds, hds], _, rfl, rfl, by simp only [AMem.next_out]; omega, fun x hx => by rw [AMem.get_out, hk3 x hx, hk2 x hx, hk x hx]⟩
end Go.Proofs.YtdmoecehmclohaaGreatDoor
