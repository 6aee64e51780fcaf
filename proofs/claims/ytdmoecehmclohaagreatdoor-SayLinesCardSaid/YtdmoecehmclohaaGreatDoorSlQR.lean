/- Bytes in quotes: what the document's function says. No condition. -/
import Derived.Test.YtdmoecehmclohaaGreatDoorSlQQ
import Derived.Test.YtdmoecehmclohaaGreatDoorSlViNode
namespace Go.Proofs.YtdmoecehmclohaaGreatDoor
open Go.Vi
set_option linter.unusedSimpArgs false
set_option linter.unusedVariables false
def RAt (n : Nat) (m : AMem) (v : AV) (l : List UInt8) : Prop := ∃ k, v = .sl (some (k, 0)) l.length l.length false ∧ n ≤ k ∧ k < m.next ∧ m.get k = some (.cells (cellsOfBytes l) true ⟨1, some 5⟩)
theorem app_row {n : Nat} {m : AMem} {v : AV} {l : List UInt8} (h : RAt n m v l) (new : List UInt8) (hn : new ≠ []) (hl : l.length + new.length ≤ 100000) (m1 : AMem) (hm1 : m.next ≤ m1.next) (hk : ∀ i, i < m.next → m1.get i = m.get i) :
    ∃ m2 v2, appE m1 ⟨1, some 5⟩ 1 v (cellsOfBytes new) new.length = some (v2, m2) ∧ RAt n m2 v2 (l ++ new) ∧ m2.next = m1.next + 1 ∧ m2.ds = m1.ds ∧ ∀ i, i < n → m2.get i = m1.get i := by
  have hnl : new.length ≠ 0 := fun e => hn (List.length_eq_zero_iff.1 e)
  obtain ⟨k, rfl, hk1, hk2, hkk⟩ := h
  have hkg : m1.get k = some (.cells (cellsOfBytes l) true ⟨1, some 5⟩) := by rw [hk k hk2]; exact hkk
  refine ⟨(m1.put k none).new (.cells ((cellsOfBytes l).take (l.length * 1) ++ cellsOfBytes new) true (ES.grow ⟨1, some 5⟩ ⟨1, some 5⟩ 0)), .sl (some (m1.next, 0)) (l ++ new).length (l ++ new).length false, ?_, ⟨m1.next, rfl, by omega, by simp, ?_⟩, rfl, rfl, fun i hi => ?_⟩
  · simp only [appE, hkg]
    rw [if_neg (by omega), if_pos ⟨roomy1 hl, Nat.le_refl _, by rw [bytes_len]; omega⟩]
    simp only [Bool.false_eq_true, if_false]
    rw [if_pos ⟨trivial, trivial, by rw [bytes_len]; omega⟩]
    simp
  · rw [AMem.get_new, AMem.next_put, if_pos rfl]
    have : (cellsOfBytes l).take l.length = cellsOfBytes l := by rw [← bytes_len l]; simp
    rw [Nat.mul_one, this]
    simp [cellsOfBytes, ES.grow]
  · rw [AMem.get_new, AMem.next_put, if_neg (by omega), AMem.get_put, if_neg (by omega)]
theorem app_first (m1 : AMem) (n : Nat) (hn : n ≤ m1.next) (new : List UInt8) (h0 : new ≠ []) (hl : new.length ≤ 100000) :
    ∃ m2 v2, appE m1 ⟨1, some 5⟩ 1 (.sl none 0 0 true) (cellsOfBytes new) new.length = some (v2, m2) ∧ RAt n m2 v2 new ∧ m2.next = m1.next + 1 ∧ m2.ds = m1.ds ∧ ∀ i, i < n → m2.get i = m1.get i := by
  have hnl : new.length ≠ 0 := fun e => h0 (List.length_eq_zero_iff.1 e)
  refine ⟨m1.new (.cells (cellsOfBytes new) true ⟨1, some 5⟩), .sl (some (m1.next, 0)) new.length new.length false, ?_, ⟨m1.next, rfl, hn, by simp, ?_⟩, rfl, rfl, fun i hi => ?_⟩
  · simp only [appE]
    rw [if_neg hnl, if_pos (roomy1 hl)]
  · rw [AMem.get_new, if_pos rfl]
  · rw [AMem.get_new, if_neg (by omega)]
theorem src_lit (m : AMem) (l : List UInt8) : srcE (m.new (.cells (cellsOfBytes l) true ⟨1, none⟩)) 1 (.sl (some (m.next, 0)) l.length l.length true) = some (cellsOfBytes l, l.length) := by
  simp only [srcE, rd, AMem.get_new, if_true]
  rw [if_pos (by rw [bytes_len]; omega)]
  simp only [List.drop_zero, Nat.mul_one, Option.map_some]
  have : (cellsOfBytes l).take l.length = cellsOfBytes l := by rw [← bytes_len l]; simp
  rw [this]
theorem callB19 {m : AMem} {a : AV} {l : List UInt8} (h : Bytes m a l) (hl : l.length ≤ 2000) :
    Vi.Call T 19 [a] m (fun v m' => v = .s ⟨(quote l).toArray⟩ ∧ m.next ≤ m'.next ∧ ∀ i, i < m.next → m'.get i = m.get i) := by
  refine Vi.Call.ofP T19 (Nat.le_of_ble_eq_true rfl) ?_
  unfold v19
  repeat (first
    | ((first | refine W_op rfl rfl ?_ | (refine W_opgT rfl rfl ?hg ?_; (case hg => (simp only [WG, reduceIte, Nat.reduceEqDiff]; done)))); simp only [WB, execE, unE, args0, reduceIte, Nat.reduceEqDiff, Nat.reduceAdd, Nat.reduceLeDiff, fillX, AV.cells, AV.one, splice, List.take_zero, List.take_succ_cons, List.nil_append, List.cons_append, List.drop_succ_cons, List.drop_zero, List.append_nil, List.all_cons, List.all_nil, Bool.and_self, Nat.le_refl, List.drop_nil, List.append_assoc, Wo_some])
    | (refine W_opgF rfl rfl ?hg ?_; (case hg => (simp only [WG, reduceIte, Nat.reduceEqDiff]; done)))
    | rw [W_seq] | rw [W_reg] | rw [push_no] | rw [W_onil] | rw [W_skip] | rw [W_blk] | rw [W_b] | refine W_regd0 ?_)
  have hsrc : srcE (m.inn.new (.cells [.i .u8 34] true ⟨1, none⟩)) 1 (.sl (some (m.next, 0)) 1 1 true) = some (cellsOfBytes [34], [34].length) := src_lit m.inn [34]
  obtain ⟨m1, v1, e1, hR1, e3, e4, e5⟩ := app_first (m.inn.new (.cells [.i .u8 34] true ⟨1, none⟩)) m.next (by simp) [34] (by simp) (by simp)
  simp only [hsrc, bytes_one, reduceIte, e1, Wo_some]
  have hlen : ∀ m2, execE (.len 1 (.c a)) (X.at (args0 [])) m2 = some (.i .i64 l.length, m2) := fun m2 => h.len _ _ rfl m2
  simp only [execE, at_c] at hlen
  repeat (first
    | ((first | refine W_op rfl rfl ?_ | (refine W_opgT rfl rfl ?hg ?_; (case hg => (simp only [WG, reduceIte, Nat.reduceEqDiff]; done)))); simp only [WB, execE, unE, args0, reduceIte, Nat.reduceEqDiff, Nat.reduceAdd, Nat.reduceLeDiff, Wo_some])
    | (refine W_opgF rfl rfl ?hg ?_; (case hg => (simp only [WG, reduceIte, Nat.reduceEqDiff]; done)))
    | rw [W_seq] | rw [W_reg] | rw [push_no] | rw [W_onil] | rw [W_skip] | rw [W_blk] | rw [W_b] | refine W_regd0 ?_)
  refine W_loop (fun k g' m' => ∃ i v, i ≤ l.length ∧ k = l.length - i ∧ g' 0 = a ∧ g' 3 = v ∧ g' 4 = .s ⟨#[48, 49, 50, 51, 52, 53, 54, 55, 56, 57, 97, 98, 99, 100, 101, 102]⟩ ∧ g' 5 = .i .i64 i ∧ RAt m.next m' v (34 :: (l.take i).flatMap q1) ∧ m'.ds = [] ∧ m.next ≤ m'.next ∧ ∀ i, i < m.next → m'.get i = m.get i) l.length ?_ ?_ ?_
  · refine ⟨0, .sl (some (m.next + 1, 0)) 1 1 false, Nat.zero_le _, rfl, ?_, ?_, ?_, ?_, ⟨m.next + 1, rfl, by omega, by simp, by simp [AMem.get_new]⟩, rfl, by simp; omega, fun i hi => ?_⟩
    · skip
      simp only [upd_at, upd_none, reduceIte, Nat.reduceEqDiff, args0, List.getD_cons_zero, List.getD_cons_succ, List.getD_nil]
    · skip
      simp only [upd_at, upd_none, reduceIte, Nat.reduceEqDiff, args0, List.getD_cons_zero, List.getD_cons_succ, List.getD_nil]
    · skip
      simp only [upd_at, upd_none, reduceIte, Nat.reduceEqDiff, args0, List.getD_cons_zero, List.getD_cons_succ, List.getD_nil]
    · skip
      simp only [upd_at, upd_none, reduceIte, Nat.reduceEqDiff, args0, List.getD_cons_zero, List.getD_cons_succ, List.getD_nil, Int.ofNat_zero]
      try rfl
    · rw [AMem.get_new, if_neg (by simp; omega), AMem.get_new, if_neg (by simp; omega)]; rfl
  · intro i hi
    repeat (first | exact args0_un (Nat.le_of_ble_eq_true rfl) i hi | refine upd_un ?_ rfl i hi; clear i hi; intro i hi)
  · rintro k g m' ⟨i, v, hi, rfl, g0, g3, g4, g5, hR, hds, hn, hk⟩ hg
    repeat (first
      | ((first | refine W_op rfl rfl ?_ | (refine W_opgT rfl rfl ?hg ?_; (case hg => (simp only [WG, reduceIte, Nat.reduceEqDiff]; done)))); simp only [WB, execE, unE, args0, reduceIte, Nat.reduceEqDiff, Nat.reduceAdd, Nat.reduceLeDiff, g0, g3, g4, g5, hlen, binE, isShift, Bool.false_or, intBin, Wo_some])
      | (refine W_opgF rfl rfl ?hg ?_; (case hg => (simp only [WG, reduceIte, Nat.reduceEqDiff]; done)))
      | rw [W_seq] | rw [W_reg] | rw [push_no] | rw [W_onil] | rw [W_skip] | rw [W_blk] | rw [W_b] | refine W_regd0 ?_)
    refine W_cond ?_
    simp only [WB, execE, unE, args0, reduceIte, Nat.reduceEqDiff, Nat.reduceAdd, Nat.reduceLeDiff]
    refine WC_split (fun ht => ?_) (fun hf => ?_)
    · have hlt : i < l.length := by simpa using ht
      obtain ⟨ja, oa, na, capa, exa, ca, wra, esa, rfl, rfl, hja, hga, hca⟩ := h.at_ hlt
      have hga' : m'.get ja = some (.cells ca wra esa) := by rw [hk ja hja]; exact hga
      have hix : (0 ≤ (i : Int) ∧ (i : Int) < (l.length : Int)) := ⟨by omega, by omega⟩
      obtain ⟨c, hcl⟩ : ∃ c, l[i] = c := ⟨_, rfl⟩
      rw [hcl] at hca
      have fin : ∀ (g2 : Nat → AV) (m3 : AMem) (v2 : AV), g2 0 = .sl (some (ja, oa)) l.length capa exa → g2 3 = v2 → g2 4 = .s ⟨#[48, 49, 50, 51, 52, 53, 54, 55, 56, 57, 97, 98, 99, 100, 101, 102]⟩ → g2 5 = .i .i64 (IntKind.i64.wrap ((i : Int) + 1)) → RAt m.next m3 v2 ((34 :: (l.take i).flatMap q1) ++ q1 c) → m3.ds = [] → m'.next ≤ m3.next → (∀ x, x < m.next → m3.get x = m'.get x) →
          ∃ n', n' < l.length - i ∧ ∃ i v, i ≤ l.length ∧ n' = l.length - i ∧ g2 0 = .sl (some (ja, oa)) l.length capa exa ∧ g2 3 = v ∧ g2 4 = .s ⟨#[48, 49, 50, 51, 52, 53, 54, 55, 56, 57, 97, 98, 99, 100, 101, 102]⟩ ∧ g2 5 = .i .i64 i ∧ RAt m.next m3 v (34 :: (l.take i).flatMap q1) ∧ m3.ds = [] ∧ m.next ≤ m3.next ∧ ∀ i, i < m.next → m3.get i = m.get i := by
        intro g2 m3 v2 a1 a2 a3 a4 a5 a6 a7 a8
        refine ⟨l.length - (i + 1), by omega, i + 1, v2, by omega, rfl, a1, a2, a3, ?_, ?_, a6, by omega, fun x hx => (a8 x hx).trans (hk x hx)⟩
        · rw [a4, wrap64 (by omega) (by omega)]; rfl
        · rw [take_snoc hlt, hcl]; simpa using a5
      have hBl : (34 :: (l.take i).flatMap q1).length + 8 ≤ 100000 := by
        have := flat_len (l.take i)
        simp only [List.length_cons, List.length_take] at this ⊢
        omega
      cases hA : ((c.toNat : Int) == 34)
      · cases hA2 : ((c.toNat : Int) == 92)
        · cases hC : decide ((c.toNat : Int) ≥ 32)
          · skip
            repeat (first
              | ((first | refine W_op rfl rfl ?_ | (refine W_opgT rfl rfl ?hg ?_; (case hg => (simp only [WG, reduceIte, Nat.reduceEqDiff]; done)))); simp only [WB, execE, unE, args0, reduceIte, Nat.reduceEqDiff, Nat.reduceAdd, Nat.reduceLeDiff, g0, g3, g4, g5, hlen, hix, hga', Int.toNat_natCast, Nat.mul_one, hca, binE, isShift, Bool.false_or, intBin, fillX, AV.cells, AV.one, splice, List.take_zero, List.take_succ_cons, List.nil_append, List.cons_append, List.drop_succ_cons, List.drop_zero, List.append_nil, List.all_cons, List.all_nil, Bool.and_self, Nat.le_refl, List.drop_nil, List.append_assoc, hA, hA2, hC, Wo_some])
              | (refine W_opgF rfl rfl ?hg ?_; (case hg => (simp only [WG, reduceIte, Nat.reduceEqDiff]; done)))
              | rw [W_seq] | rw [W_reg] | rw [push_no] | rw [W_onil] | rw [W_skip] | rw [W_blk] | rw [W_b] | refine W_regd0 ?_)
            refine W_cond ?_
            simp only [WB, execE, unE, args0, reduceIte, Nat.reduceEqDiff, Nat.reduceAdd, Nat.reduceLeDiff, WC]
            repeat (first
              | ((first | refine W_op rfl rfl ?_ | (refine W_opgT rfl rfl ?hg ?_; (case hg => (simp only [WG, reduceIte, Nat.reduceEqDiff]; done)))); simp only [WB, execE, unE, args0, reduceIte, Nat.reduceEqDiff, Nat.reduceAdd, Nat.reduceLeDiff, g0, g3, g4, g5, hlen, hix, hga', Int.toNat_natCast, Nat.mul_one, hca, binE, isShift, Bool.false_or, intBin, fillX, AV.cells, AV.one, splice, List.take_zero, List.take_succ_cons, List.nil_append, List.cons_append, List.drop_succ_cons, List.drop_zero, List.append_nil, List.all_cons, List.all_nil, Bool.and_self, Nat.le_refl, List.drop_nil, List.append_assoc, hA, hA2, hC, Wo_some])
              | (refine W_opgF rfl rfl ?hg ?_; (case hg => (simp only [WG, reduceIte, Nat.reduceEqDiff]; done)))
              | rw [W_seq] | rw [W_reg] | rw [push_no] | rw [W_onil] | rw [W_skip] | rw [W_blk] | rw [W_b] | refine W_regd0 ?_)
            refine W_cond ?_
            simp only [WB, execE, unE, args0, reduceIte, Nat.reduceEqDiff, Nat.reduceAdd, Nat.reduceLeDiff, WC]
            have hlt2 := c.toNat_lt
            obtain ⟨x1, x2⟩ := hex_at (c.toNat / 16) (by omega)
            obtain ⟨y1, y2⟩ := hex_at (c.toNat % 16) (by omega)
            repeat (first
              | ((first | refine W_op rfl rfl ?_ | (refine W_opgT rfl rfl ?hg ?_; (case hg => (simp only [WG, reduceIte, Nat.reduceEqDiff]; done)))); simp only [WB, execE, unE, args0, reduceIte, Nat.reduceEqDiff, Nat.reduceAdd, Nat.reduceLeDiff, g3, g4, binE, isShift, Bool.false_or, intBin, quo16, rem16, Int.natCast_nonneg, Int.toNat_natCast, x1, y1, Int.reduceEq, fillX, AV.cells, AV.one, splice, List.take_zero, List.take_succ_cons, List.nil_append, List.cons_append, List.drop_succ_cons, List.drop_zero, List.append_nil, List.all_cons, List.all_nil, Bool.and_self, Nat.le_refl, List.drop_nil, List.append_assoc, Wo_some])
              | (refine W_opgF rfl rfl ?hg ?_; (case hg => (simp only [WG, reduceIte, Nat.reduceEqDiff]; done)))
              | rw [W_seq] | rw [W_reg] | rw [push_no] | rw [W_onil] | rw [W_skip] | rw [W_blk] | rw [W_b] | refine W_regd0 ?_)
            have hsrc : srcE (m'.new (.cells [.i .u8 92, .i .u8 120, .i .u8 (hexes.getD (c.toNat / 16) 0).toNat, .i .u8 (hexes.getD (c.toNat % 16) 0).toNat] true ⟨1, none⟩)) 1 (.sl (some (m'.next, 0)) 4 4 true) = some (cellsOfBytes [92, 120, hexes.getD (c.toNat / 16) 0, hexes.getD (c.toNat % 16) 0], [92, 120, hexes.getD (c.toNat / 16) 0, hexes.getD (c.toNat % 16) 0].length) := src_lit m' [92, 120, hexes.getD (c.toNat / 16) 0, hexes.getD (c.toNat % 16) 0]
            obtain ⟨m2, v2, e1, hR2, e3, e4, e5⟩ := app_row hR [92, 120, hexes.getD (c.toNat / 16) 0, hexes.getD (c.toNat % 16) 0] (by simp) (by simp at hBl ⊢; omega) (m'.new (.cells [.i .u8 92, .i .u8 120, .i .u8 (hexes.getD (c.toNat / 16) 0).toNat, .i .u8 (hexes.getD (c.toNat % 16) 0).toNat] true ⟨1, none⟩)) (by simp) (fun x hx => by rw [AMem.get_new, if_neg (by omega)])
            simp only [hsrc, bytes_one, reduceIte, e1, Wo_some]
            repeat (first
              | ((first | refine W_op rfl rfl ?_ | (refine W_opgT rfl rfl ?hg ?_; (case hg => (simp only [WG, reduceIte, Nat.reduceEqDiff]; done)))); simp only [WB, execE, unE, args0, reduceIte, Nat.reduceEqDiff, Nat.reduceAdd, Nat.reduceLeDiff, binE, isShift, intBin, g5, Wo_some])
              | (refine W_opgF rfl rfl ?hg ?_; (case hg => (simp only [WG, reduceIte, Nat.reduceEqDiff]; done)))
              | rw [W_seq] | rw [W_reg] | rw [push_no] | rw [W_onil] | rw [W_skip] | rw [W_blk] | rw [W_b] | refine W_regd0 ?_)
            refine W_j ?_ ?_
            · repeat (first | exact hg | refine upd_un ?_ rfl)
            · refine fin _ _ v2 ?_ ?_ ?_ ?_ ?_ ?_ ?_ (fun x hx => ?_)
              · skip
                simp only [upd_at, upd_none, reduceIte, Nat.reduceEqDiff, args0, List.getD_cons_zero, List.getD_cons_succ, List.getD_nil, g0]
              · skip
                simp only [upd_at, upd_none, reduceIte, Nat.reduceEqDiff, args0, List.getD_cons_zero, List.getD_cons_succ, List.getD_nil]
              · skip
                simp only [upd_at, upd_none, reduceIte, Nat.reduceEqDiff, args0, List.getD_cons_zero, List.getD_cons_succ, List.getD_nil, g4]
              · skip
                simp only [upd_at, upd_none, reduceIte, Nat.reduceEqDiff, args0, List.getD_cons_zero, List.getD_cons_succ, List.getD_nil]
              · have e : q1 c = [92, 120, hexes.getD (c.toNat / 16) 0, hexes.getD (c.toNat % 16) 0] := by
                  unfold q1
                  rw [if_neg (by simp at hA hA2; omega), if_pos (by simp at hC; omega)]
                rw [e]; exact hR2
              · rw [e4]; exact hds
              · simp only [AMem.next_new] at e3; omega
              · rw [e5 x hx, AMem.get_new, if_neg (by omega)]
          · cases hD : decide ((c.toNat : Int) ≤ 126)
            · skip
              repeat (first
                | ((first | refine W_op rfl rfl ?_ | (refine W_opgT rfl rfl ?hg ?_; (case hg => (simp only [WG, reduceIte, Nat.reduceEqDiff]; done)))); simp only [WB, execE, unE, args0, reduceIte, Nat.reduceEqDiff, Nat.reduceAdd, Nat.reduceLeDiff, g0, g3, g4, g5, hlen, hix, hga', Int.toNat_natCast, Nat.mul_one, hca, binE, isShift, Bool.false_or, intBin, fillX, AV.cells, AV.one, splice, List.take_zero, List.take_succ_cons, List.nil_append, List.cons_append, List.drop_succ_cons, List.drop_zero, List.append_nil, List.all_cons, List.all_nil, Bool.and_self, Nat.le_refl, List.drop_nil, List.append_assoc, hA, hA2, hC, hD, Wo_some])
                | (refine W_opgF rfl rfl ?hg ?_; (case hg => (simp only [WG, reduceIte, Nat.reduceEqDiff]; done)))
                | rw [W_seq] | rw [W_reg] | rw [push_no] | rw [W_onil] | rw [W_skip] | rw [W_blk] | rw [W_b] | refine W_regd0 ?_)
              refine W_cond ?_
              simp only [WB, execE, unE, args0, reduceIte, Nat.reduceEqDiff, Nat.reduceAdd, Nat.reduceLeDiff, WC]
              repeat (first
                | ((first | refine W_op rfl rfl ?_ | (refine W_opgT rfl rfl ?hg ?_; (case hg => (simp only [WG, reduceIte, Nat.reduceEqDiff]; done)))); simp only [WB, execE, unE, args0, reduceIte, Nat.reduceEqDiff, Nat.reduceAdd, Nat.reduceLeDiff, g0, g3, g4, g5, hlen, hix, hga', Int.toNat_natCast, Nat.mul_one, hca, binE, isShift, Bool.false_or, intBin, fillX, AV.cells, AV.one, splice, List.take_zero, List.take_succ_cons, List.nil_append, List.cons_append, List.drop_succ_cons, List.drop_zero, List.append_nil, List.all_cons, List.all_nil, Bool.and_self, Nat.le_refl, List.drop_nil, List.append_assoc, hA, hA2, hC, hD, Wo_some])
                | (refine W_opgF rfl rfl ?hg ?_; (case hg => (simp only [WG, reduceIte, Nat.reduceEqDiff]; done)))
                | rw [W_seq] | rw [W_reg] | rw [push_no] | rw [W_onil] | rw [W_skip] | rw [W_blk] | rw [W_b] | refine W_regd0 ?_)
              refine W_cond ?_
              simp only [WB, execE, unE, args0, reduceIte, Nat.reduceEqDiff, Nat.reduceAdd, Nat.reduceLeDiff, WC]
              have hlt2 := c.toNat_lt
              obtain ⟨x1, x2⟩ := hex_at (c.toNat / 16) (by omega)
              obtain ⟨y1, y2⟩ := hex_at (c.toNat % 16) (by omega)
              repeat (first
                | ((first | refine W_op rfl rfl ?_ | (refine W_opgT rfl rfl ?hg ?_; (case hg => (simp only [WG, reduceIte, Nat.reduceEqDiff]; done)))); simp only [WB, execE, unE, args0, reduceIte, Nat.reduceEqDiff, Nat.reduceAdd, Nat.reduceLeDiff, g3, g4, binE, isShift, Bool.false_or, intBin, quo16, rem16, Int.natCast_nonneg, Int.toNat_natCast, x1, y1, Int.reduceEq, fillX, AV.cells, AV.one, splice, List.take_zero, List.take_succ_cons, List.nil_append, List.cons_append, List.drop_succ_cons, List.drop_zero, List.append_nil, List.all_cons, List.all_nil, Bool.and_self, Nat.le_refl, List.drop_nil, List.append_assoc, Wo_some])
                | (refine W_opgF rfl rfl ?hg ?_; (case hg => (simp only [WG, reduceIte, Nat.reduceEqDiff]; done)))
                | rw [W_seq] | rw [W_reg] | rw [push_no] | rw [W_onil] | rw [W_skip] | rw [W_blk] | rw [W_b] | refine W_regd0 ?_)
              have hsrc : srcE (m'.new (.cells [.i .u8 92, .i .u8 120, .i .u8 (hexes.getD (c.toNat / 16) 0).toNat, .i .u8 (hexes.getD (c.toNat % 16) 0).toNat] true ⟨1, none⟩)) 1 (.sl (some (m'.next, 0)) 4 4 true) = some (cellsOfBytes [92, 120, hexes.getD (c.toNat / 16) 0, hexes.getD (c.toNat % 16) 0], [92, 120, hexes.getD (c.toNat / 16) 0, hexes.getD (c.toNat % 16) 0].length) := src_lit m' [92, 120, hexes.getD (c.toNat / 16) 0, hexes.getD (c.toNat % 16) 0]
              obtain ⟨m2, v2, e1, hR2, e3, e4, e5⟩ := app_row hR [92, 120, hexes.getD (c.toNat / 16) 0, hexes.getD (c.toNat % 16) 0] (by simp) (by simp at hBl ⊢; omega) (m'.new (.cells [.i .u8 92, .i .u8 120, .i .u8 (hexes.getD (c.toNat / 16) 0).toNat, .i .u8 (hexes.getD (c.toNat % 16) 0).toNat] true ⟨1, none⟩)) (by simp) (fun x hx => by rw [AMem.get_new, if_neg (by omega)])
              simp only [hsrc, bytes_one, reduceIte, e1, Wo_some]
              repeat (first
                | ((first | refine W_op rfl rfl ?_ | (refine W_opgT rfl rfl ?hg ?_; (case hg => (simp only [WG, reduceIte, Nat.reduceEqDiff]; done)))); simp only [WB, execE, unE, args0, reduceIte, Nat.reduceEqDiff, Nat.reduceAdd, Nat.reduceLeDiff, binE, isShift, intBin, g5, Wo_some])
                | (refine W_opgF rfl rfl ?hg ?_; (case hg => (simp only [WG, reduceIte, Nat.reduceEqDiff]; done)))
                | rw [W_seq] | rw [W_reg] | rw [push_no] | rw [W_onil] | rw [W_skip] | rw [W_blk] | rw [W_b] | refine W_regd0 ?_)
              refine W_j ?_ ?_
              · repeat (first | exact hg | refine upd_un ?_ rfl)
              · refine fin _ _ v2 ?_ ?_ ?_ ?_ ?_ ?_ ?_ (fun x hx => ?_)
                · skip
                  simp only [upd_at, upd_none, reduceIte, Nat.reduceEqDiff, args0, List.getD_cons_zero, List.getD_cons_succ, List.getD_nil, g0]
                · skip
                  simp only [upd_at, upd_none, reduceIte, Nat.reduceEqDiff, args0, List.getD_cons_zero, List.getD_cons_succ, List.getD_nil]
                · skip
                  simp only [upd_at, upd_none, reduceIte, Nat.reduceEqDiff, args0, List.getD_cons_zero, List.getD_cons_succ, List.getD_nil, g4]
                · skip
                  simp only [upd_at, upd_none, reduceIte, Nat.reduceEqDiff, args0, List.getD_cons_zero, List.getD_cons_succ, List.getD_nil]
                · have e : q1 c = [92, 120, hexes.getD (c.toNat / 16) 0, hexes.getD (c.toNat % 16) 0] := by
                    unfold q1
                    rw [if_neg (by simp at hA hA2; omega), if_pos (by simp at hD; omega)]
                  rw [e]; exact hR2
                · rw [e4]; exact hds
                · simp only [AMem.next_new] at e3; omega
                · rw [e5 x hx, AMem.get_new, if_neg (by omega)]
            · skip
              repeat (first
                | ((first | refine W_op rfl rfl ?_ | (refine W_opgT rfl rfl ?hg ?_; (case hg => (simp only [WG, reduceIte, Nat.reduceEqDiff]; done)))); simp only [WB, execE, unE, args0, reduceIte, Nat.reduceEqDiff, Nat.reduceAdd, Nat.reduceLeDiff, g0, g3, g4, g5, hlen, hix, hga', Int.toNat_natCast, Nat.mul_one, hca, binE, isShift, Bool.false_or, intBin, fillX, AV.cells, AV.one, splice, List.take_zero, List.take_succ_cons, List.nil_append, List.cons_append, List.drop_succ_cons, List.drop_zero, List.append_nil, List.all_cons, List.all_nil, Bool.and_self, Nat.le_refl, List.drop_nil, List.append_assoc, hA, hA2, hC, hD, Wo_some])
                | (refine W_opgF rfl rfl ?hg ?_; (case hg => (simp only [WG, reduceIte, Nat.reduceEqDiff]; done)))
                | rw [W_seq] | rw [W_reg] | rw [push_no] | rw [W_onil] | rw [W_skip] | rw [W_blk] | rw [W_b] | refine W_regd0 ?_)
              refine W_cond ?_
              simp only [WB, execE, unE, args0, reduceIte, Nat.reduceEqDiff, Nat.reduceAdd, Nat.reduceLeDiff, WC]
              repeat (first
                | ((first | refine W_op rfl rfl ?_ | (refine W_opgT rfl rfl ?hg ?_; (case hg => (simp only [WG, reduceIte, Nat.reduceEqDiff]; done)))); simp only [WB, execE, unE, args0, reduceIte, Nat.reduceEqDiff, Nat.reduceAdd, Nat.reduceLeDiff, g0, g3, g4, g5, hlen, hix, hga', Int.toNat_natCast, Nat.mul_one, hca, binE, isShift, Bool.false_or, intBin, fillX, AV.cells, AV.one, splice, List.take_zero, List.take_succ_cons, List.nil_append, List.cons_append, List.drop_succ_cons, List.drop_zero, List.append_nil, List.all_cons, List.all_nil, Bool.and_self, Nat.le_refl, List.drop_nil, List.append_assoc, hA, hA2, hC, hD, Wo_some])
                | (refine W_opgF rfl rfl ?hg ?_; (case hg => (simp only [WG, reduceIte, Nat.reduceEqDiff]; done)))
                | rw [W_seq] | rw [W_reg] | rw [push_no] | rw [W_onil] | rw [W_skip] | rw [W_blk] | rw [W_b] | refine W_regd0 ?_)
              refine W_cond ?_
              simp only [WB, execE, unE, args0, reduceIte, Nat.reduceEqDiff, Nat.reduceAdd, Nat.reduceLeDiff, WC]
              repeat (first
                | ((first | refine W_op rfl rfl ?_ | (refine W_opgT rfl rfl ?hg ?_; (case hg => (simp only [WG, reduceIte, Nat.reduceEqDiff]; done)))); simp only [WB, execE, unE, args0, reduceIte, Nat.reduceEqDiff, Nat.reduceAdd, Nat.reduceLeDiff, g3, g4, fillX, AV.cells, AV.one, splice, List.take_zero, List.take_succ_cons, List.nil_append, List.cons_append, List.drop_succ_cons, List.drop_zero, List.append_nil, List.all_cons, List.all_nil, Bool.and_self, Nat.le_refl, List.drop_nil, List.append_assoc, Wo_some])
                | (refine W_opgF rfl rfl ?hg ?_; (case hg => (simp only [WG, reduceIte, Nat.reduceEqDiff]; done)))
                | rw [W_seq] | rw [W_reg] | rw [push_no] | rw [W_onil] | rw [W_skip] | rw [W_blk] | rw [W_b] | refine W_regd0 ?_)
              have hsrc : srcE (m'.new (.cells [.i .u8 c.toNat] true ⟨1, none⟩)) 1 (.sl (some (m'.next, 0)) 1 1 true) = some (cellsOfBytes [c], [c].length) := src_lit m' [c]
              obtain ⟨m2, v2, e1, hR2, e3, e4, e5⟩ := app_row hR [c] (by simp) (by simp at hBl ⊢; omega) (m'.new (.cells [.i .u8 c.toNat] true ⟨1, none⟩)) (by simp) (fun x hx => by rw [AMem.get_new, if_neg (by omega)])
              simp only [hsrc, bytes_one, reduceIte, e1, Wo_some]
              repeat (first
                | ((first | refine W_op rfl rfl ?_ | (refine W_opgT rfl rfl ?hg ?_; (case hg => (simp only [WG, reduceIte, Nat.reduceEqDiff]; done)))); simp only [WB, execE, unE, args0, reduceIte, Nat.reduceEqDiff, Nat.reduceAdd, Nat.reduceLeDiff, binE, isShift, intBin, g5, Wo_some])
                | (refine W_opgF rfl rfl ?hg ?_; (case hg => (simp only [WG, reduceIte, Nat.reduceEqDiff]; done)))
                | rw [W_seq] | rw [W_reg] | rw [push_no] | rw [W_onil] | rw [W_skip] | rw [W_blk] | rw [W_b] | refine W_regd0 ?_)
              refine W_j ?_ ?_
              · repeat (first | exact hg | refine upd_un ?_ rfl)
              · refine fin _ _ v2 ?_ ?_ ?_ ?_ ?_ ?_ ?_ (fun x hx => ?_)
                · skip
                  simp only [upd_at, upd_none, reduceIte, Nat.reduceEqDiff, args0, List.getD_cons_zero, List.getD_cons_succ, List.getD_nil, g0]
                · skip
                  simp only [upd_at, upd_none, reduceIte, Nat.reduceEqDiff, args0, List.getD_cons_zero, List.getD_cons_succ, List.getD_nil]
                · skip
                  simp only [upd_at, upd_none, reduceIte, Nat.reduceEqDiff, args0, List.getD_cons_zero, List.getD_cons_succ, List.getD_nil, g4]
                · skip
                  simp only [upd_at, upd_none, reduceIte, Nat.reduceEqDiff, args0, List.getD_cons_zero, List.getD_cons_succ, List.getD_nil]
                · have e : q1 c = [c] := by
                    unfold q1
                    rw [if_neg (by simp at hA hA2; omega), if_neg (by simp at hC hD; omega)]
                  rw [e]; exact hR2
                · rw [e4]; exact hds
                · simp only [AMem.next_new] at e3; omega
                · rw [e5 x hx, AMem.get_new, if_neg (by omega)]
        · skip
          repeat (first
            | ((first | refine W_op rfl rfl ?_ | (refine W_opgT rfl rfl ?hg ?_; (case hg => (simp only [WG, reduceIte, Nat.reduceEqDiff]; done)))); simp only [WB, execE, unE, args0, reduceIte, Nat.reduceEqDiff, Nat.reduceAdd, Nat.reduceLeDiff, g0, g3, g4, g5, hlen, hix, hga', Int.toNat_natCast, Nat.mul_one, hca, binE, isShift, Bool.false_or, intBin, fillX, AV.cells, AV.one, splice, List.take_zero, List.take_succ_cons, List.nil_append, List.cons_append, List.drop_succ_cons, List.drop_zero, List.append_nil, List.all_cons, List.all_nil, Bool.and_self, Nat.le_refl, List.drop_nil, List.append_assoc, hA, hA2, Wo_some])
            | (refine W_opgF rfl rfl ?hg ?_; (case hg => (simp only [WG, reduceIte, Nat.reduceEqDiff]; done)))
            | rw [W_seq] | rw [W_reg] | rw [push_no] | rw [W_onil] | rw [W_skip] | rw [W_blk] | rw [W_b] | refine W_regd0 ?_)
          refine W_cond ?_
          simp only [WB, execE, unE, args0, reduceIte, Nat.reduceEqDiff, Nat.reduceAdd, Nat.reduceLeDiff, WC]
          repeat (first
            | ((first | refine W_op rfl rfl ?_ | (refine W_opgT rfl rfl ?hg ?_; (case hg => (simp only [WG, reduceIte, Nat.reduceEqDiff]; done)))); simp only [WB, execE, unE, args0, reduceIte, Nat.reduceEqDiff, Nat.reduceAdd, Nat.reduceLeDiff, g3, g4, fillX, AV.cells, AV.one, splice, List.take_zero, List.take_succ_cons, List.nil_append, List.cons_append, List.drop_succ_cons, List.drop_zero, List.append_nil, List.all_cons, List.all_nil, Bool.and_self, Nat.le_refl, List.drop_nil, List.append_assoc, Wo_some])
            | (refine W_opgF rfl rfl ?hg ?_; (case hg => (simp only [WG, reduceIte, Nat.reduceEqDiff]; done)))
            | rw [W_seq] | rw [W_reg] | rw [push_no] | rw [W_onil] | rw [W_skip] | rw [W_blk] | rw [W_b] | refine W_regd0 ?_)
          have hsrc : srcE (m'.new (.cells [.i .u8 92, .i .u8 c.toNat] true ⟨1, none⟩)) 1 (.sl (some (m'.next, 0)) 2 2 true) = some (cellsOfBytes [92, c], [92, c].length) := src_lit m' [92, c]
          obtain ⟨m2, v2, e1, hR2, e3, e4, e5⟩ := app_row hR [92, c] (by simp) (by simp at hBl ⊢; omega) (m'.new (.cells [.i .u8 92, .i .u8 c.toNat] true ⟨1, none⟩)) (by simp) (fun x hx => by rw [AMem.get_new, if_neg (by omega)])
          simp only [hsrc, bytes_one, reduceIte, e1, Wo_some]
          repeat (first
            | ((first | refine W_op rfl rfl ?_ | (refine W_opgT rfl rfl ?hg ?_; (case hg => (simp only [WG, reduceIte, Nat.reduceEqDiff]; done)))); simp only [WB, execE, unE, args0, reduceIte, Nat.reduceEqDiff, Nat.reduceAdd, Nat.reduceLeDiff, binE, isShift, intBin, g5, Wo_some])
            | (refine W_opgF rfl rfl ?hg ?_; (case hg => (simp only [WG, reduceIte, Nat.reduceEqDiff]; done)))
            | rw [W_seq] | rw [W_reg] | rw [push_no] | rw [W_onil] | rw [W_skip] | rw [W_blk] | rw [W_b] | refine W_regd0 ?_)
          refine W_j ?_ ?_
          · repeat (first | exact hg | refine upd_un ?_ rfl)
          · refine fin _ _ v2 ?_ ?_ ?_ ?_ ?_ ?_ ?_ (fun x hx => ?_)
            · skip
              simp only [upd_at, upd_none, reduceIte, Nat.reduceEqDiff, args0, List.getD_cons_zero, List.getD_cons_succ, List.getD_nil, g0]
            · skip
              simp only [upd_at, upd_none, reduceIte, Nat.reduceEqDiff, args0, List.getD_cons_zero, List.getD_cons_succ, List.getD_nil]
            · skip
              simp only [upd_at, upd_none, reduceIte, Nat.reduceEqDiff, args0, List.getD_cons_zero, List.getD_cons_succ, List.getD_nil, g4]
            · skip
              simp only [upd_at, upd_none, reduceIte, Nat.reduceEqDiff, args0, List.getD_cons_zero, List.getD_cons_succ, List.getD_nil]
            · have e : q1 c = [92, c] := by
                unfold q1
                rw [if_pos (.inr (by simpa using hA2))]
              rw [e]; exact hR2
            · rw [e4]; exact hds
            · simp only [AMem.next_new] at e3; omega
            · rw [e5 x hx, AMem.get_new, if_neg (by omega)]
      · skip
        repeat (first
          | ((first | refine W_op rfl rfl ?_ | (refine W_opgT rfl rfl ?hg ?_; (case hg => (simp only [WG, reduceIte, Nat.reduceEqDiff]; done)))); simp only [WB, execE, unE, args0, reduceIte, Nat.reduceEqDiff, Nat.reduceAdd, Nat.reduceLeDiff, g0, g3, g4, g5, hlen, hix, hga', Int.toNat_natCast, Nat.mul_one, hca, binE, isShift, Bool.false_or, intBin, fillX, AV.cells, AV.one, splice, List.take_zero, List.take_succ_cons, List.nil_append, List.cons_append, List.drop_succ_cons, List.drop_zero, List.append_nil, List.all_cons, List.all_nil, Bool.and_self, Nat.le_refl, List.drop_nil, List.append_assoc, hA, Wo_some])
          | (refine W_opgF rfl rfl ?hg ?_; (case hg => (simp only [WG, reduceIte, Nat.reduceEqDiff]; done)))
          | rw [W_seq] | rw [W_reg] | rw [push_no] | rw [W_onil] | rw [W_skip] | rw [W_blk] | rw [W_b] | refine W_regd0 ?_)
        refine W_cond ?_
        simp only [WB, execE, unE, args0, reduceIte, Nat.reduceEqDiff, Nat.reduceAdd, Nat.reduceLeDiff, WC]
        repeat (first
          | ((first | refine W_op rfl rfl ?_ | (refine W_opgT rfl rfl ?hg ?_; (case hg => (simp only [WG, reduceIte, Nat.reduceEqDiff]; done)))); simp only [WB, execE, unE, args0, reduceIte, Nat.reduceEqDiff, Nat.reduceAdd, Nat.reduceLeDiff, g3, g4, fillX, AV.cells, AV.one, splice, List.take_zero, List.take_succ_cons, List.nil_append, List.cons_append, List.drop_succ_cons, List.drop_zero, List.append_nil, List.all_cons, List.all_nil, Bool.and_self, Nat.le_refl, List.drop_nil, List.append_assoc, Wo_some])
          | (refine W_opgF rfl rfl ?hg ?_; (case hg => (simp only [WG, reduceIte, Nat.reduceEqDiff]; done)))
          | rw [W_seq] | rw [W_reg] | rw [push_no] | rw [W_onil] | rw [W_skip] | rw [W_blk] | rw [W_b] | refine W_regd0 ?_)
        have hsrc : srcE (m'.new (.cells [.i .u8 92, .i .u8 c.toNat] true ⟨1, none⟩)) 1 (.sl (some (m'.next, 0)) 2 2 true) = some (cellsOfBytes [92, c], [92, c].length) := src_lit m' [92, c]
        obtain ⟨m2, v2, e1, hR2, e3, e4, e5⟩ := app_row hR [92, c] (by simp) (by simp at hBl ⊢; omega) (m'.new (.cells [.i .u8 92, .i .u8 c.toNat] true ⟨1, none⟩)) (by simp) (fun x hx => by rw [AMem.get_new, if_neg (by omega)])
        simp only [hsrc, bytes_one, reduceIte, e1, Wo_some]
        repeat (first
          | ((first | refine W_op rfl rfl ?_ | (refine W_opgT rfl rfl ?hg ?_; (case hg => (simp only [WG, reduceIte, Nat.reduceEqDiff]; done)))); simp only [WB, execE, unE, args0, reduceIte, Nat.reduceEqDiff, Nat.reduceAdd, Nat.reduceLeDiff, binE, isShift, intBin, g5, Wo_some])
          | (refine W_opgF rfl rfl ?hg ?_; (case hg => (simp only [WG, reduceIte, Nat.reduceEqDiff]; done)))
          | rw [W_seq] | rw [W_reg] | rw [push_no] | rw [W_onil] | rw [W_skip] | rw [W_blk] | rw [W_b] | refine W_regd0 ?_)
        refine W_j ?_ ?_
        · repeat (first | exact hg | refine upd_un ?_ rfl)
        · refine fin _ _ v2 ?_ ?_ ?_ ?_ ?_ ?_ ?_ (fun x hx => ?_)
          · skip
            simp only [upd_at, upd_none, reduceIte, Nat.reduceEqDiff, args0, List.getD_cons_zero, List.getD_cons_succ, List.getD_nil, g0]
          · skip
            simp only [upd_at, upd_none, reduceIte, Nat.reduceEqDiff, args0, List.getD_cons_zero, List.getD_cons_succ, List.getD_nil]
          · skip
            simp only [upd_at, upd_none, reduceIte, Nat.reduceEqDiff, args0, List.getD_cons_zero, List.getD_cons_succ, List.getD_nil, g4]
          · skip
            simp only [upd_at, upd_none, reduceIte, Nat.reduceEqDiff, args0, List.getD_cons_zero, List.getD_cons_succ, List.getD_nil]
          · have e : q1 c = [92, c] := by
              unfold q1
              rw [if_pos (.inl (by simpa using hA))]
            rw [e]; exact hR2
          · rw [e4]; exact hds
          · simp only [AMem.next_new] at e3; omega
          · rw [e5 x hx, AMem.get_new, if_neg (by omega)]
    · have hi2 : i = l.length := by simp at hf; omega
      subst hi2
      rw [List.take_length] at hR
      refine W_exit rfl ?_
      have hBl : (34 :: l.flatMap q1).length + 1 ≤ 100000 := by
        have := flat_len l
        simp only [List.length_cons]; omega
      repeat (first
        | ((first | refine W_op rfl rfl ?_ | (refine W_opgT rfl rfl ?hg ?_; (case hg => (simp only [WG, reduceIte, Nat.reduceEqDiff]; done)))); simp only [WB, execE, unE, args0, reduceIte, Nat.reduceEqDiff, Nat.reduceAdd, Nat.reduceLeDiff, g3, g4, fillX, AV.cells, AV.one, splice, List.take_zero, List.take_succ_cons, List.nil_append, List.cons_append, List.drop_succ_cons, List.drop_zero, List.append_nil, List.all_cons, List.all_nil, Bool.and_self, Nat.le_refl, List.drop_nil, List.append_assoc, Wo_some])
        | (refine W_opgF rfl rfl ?hg ?_; (case hg => (simp only [WG, reduceIte, Nat.reduceEqDiff]; done)))
        | rw [W_seq] | rw [W_reg] | rw [push_no] | rw [W_onil] | rw [W_skip] | rw [W_blk] | rw [W_b] | refine W_regd0 ?_)
      have hsrc2 : srcE (m'.new (.cells [.i .u8 34] true ⟨1, none⟩)) 1 (.sl (some (m'.next, 0)) 1 1 true) = some (cellsOfBytes [34], [34].length) := src_lit m' [34]
      obtain ⟨m2, v2, e1, ⟨k2, rfl, hk2, hk3, hk4⟩, e3, e4, e5⟩ := app_row hR [34] (by simp) (by simpa using hBl) (m'.new (.cells [.i .u8 34] true ⟨1, none⟩)) (by simp) (fun x hx => by rw [AMem.get_new, if_neg (by omega)])
      simp only [hsrc2, bytes_one, reduceIte]
      erw [e1]
      rw [Wo_some]
      have hrd : rd m2 k2 0 (34 :: l.flatMap q1 ++ [34]).length = some (cellsOfBytes (34 :: l.flatMap q1 ++ [34])) := by
        have e : ∀ N : List UInt8, (cellsOfBytes N).take N.length = cellsOfBytes N := fun N => by rw [← bytes_len N]; simp
        unfold rd
        rw [hk4]
        simp only
        rw [if_pos (by rw [bytes_len]; omega), List.drop_zero, e]
      generalize hN : (34 :: l.flatMap q1 ++ [34]) = N at *
      repeat (first
        | ((first | refine W_op rfl rfl ?_ | (refine W_opgT rfl rfl ?hg ?_; (case hg => (simp only [WG, reduceIte, Nat.reduceEqDiff]; done)))); simp only [WB, execE, unE, args0, reduceIte, Nat.reduceEqDiff, Nat.reduceAdd, Nat.reduceLeDiff, hrd, bytesOf_cells, Wo_some])
        | (refine W_opgF rfl rfl ?hg ?_; (case hg => (simp only [WG, reduceIte, Nat.reduceEqDiff]; done)))
        | rw [W_seq] | rw [W_reg] | rw [push_no] | rw [W_onil] | rw [W_skip] | rw [W_blk] | rw [W_b] | refine W_regd0 ?_)
      refine W_getRet (by repeat (first | exact hg | refine upd_un ?_ rfl)) ?_
      refine ⟨by rw [e4]; exact hds, _, rfl, by unfold quote; rw [hN]; rfl, ?_, fun x hx => ?_⟩
      · simp only [AMem.next_new] at e3
        rw [AMem.next_out]; omega
      · rw [AMem.get_out, e5 x hx, AMem.get_new, if_neg (by omega), hk x hx]
end Go.Proofs.YtdmoecehmclohaaGreatDoor
