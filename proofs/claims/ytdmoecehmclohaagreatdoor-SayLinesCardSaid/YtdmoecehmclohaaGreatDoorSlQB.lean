/- strings.Builder, as the interpreter has it: what each of its functions does. No condition. -/
import Derived.Test.YtdmoecehmclohaaGreatDoorSlVT
import Derived.Test.YtdmoecehmclohaaGreatDoorSlViNode
namespace Go.Proofs.YtdmoecehmclohaaGreatDoor
open Go.Vi
set_option linter.unusedSimpArgs false
set_option linter.unusedVariables false
theorem callB88 (v : AV) (m : AMem) : Vi.Call T 88 [v] m (fun r m' => r = v ∧ m' = m.out m) :=
  ⟨v, m, ⟨1, rfl⟩, rfl, rfl⟩
theorem callB58 (m : AMem) (j : Nat) (a b : AV) (hg : m.get j = some (.cells [a, b] true ⟨2, some 97⟩)) (ha : a = .p none ∨ a = .p (some (j, 0))) (hb : b.one = true) :
    Vi.Call T 58 [.p (some (j, 0))] m (fun _ m' => m'.next = m.next ∧ ∀ i, m'.get i = if j = i then some (.cells [.p (some (j, 0)), b] true ⟨2, some 97⟩) else m.get i) := by
  refine Vi.Call.ofP T58 (Nat.le_of_ble_eq_true rfl) ?_
  unfold v58
  rcases ha with rfl | rfl
  · skip
    repeat (first
      | ((first | refine W_op rfl rfl ?_ | (refine W_opgT rfl rfl ?hg ?_; (case hg => (simp only [WG, reduceIte, Nat.reduceEqDiff]; done)))); simp only [WB, execE, unE, args0, reduceIte, Nat.reduceEqDiff, Nat.reduceAdd, Nat.reduceLeDiff, hg, isNil, Wo_some])
      | (refine W_opgF rfl rfl ?hg ?_; (case hg => (simp only [WG, reduceIte, Nat.reduceEqDiff]; done)))
      | rw [W_seq] | rw [W_reg] | rw [push_no] | rw [W_onil] | rw [W_skip] | rw [W_blk] | rw [W_b] | refine W_regd0 ?_)
    refine W_cond ?_
    simp only [WB, execE, unE, args0, reduceIte, Nat.reduceEqDiff, Nat.reduceAdd, Nat.reduceLeDiff, WC]
    repeat (first
      | ((first | refine W_op rfl rfl ?_ | (refine W_opgT rfl rfl ?hg ?_; (case hg => (simp only [WG, reduceIte, Nat.reduceEqDiff]; done)))); simp only [WB, execE, unE, args0, reduceIte, Nat.reduceEqDiff, Nat.reduceAdd, Nat.reduceLeDiff, hg, Nat.zero_lt_succ, Nat.zero_lt_two, Wo_some])
      | (refine W_opgF rfl rfl ?hg ?_; (case hg => (simp only [WG, reduceIte, Nat.reduceEqDiff]; done)))
      | rw [W_seq] | rw [W_reg] | rw [push_no] | rw [W_onil] | rw [W_skip] | rw [W_blk] | rw [W_b] | refine W_regd0 ?_)
    refine W_callR rfl (callB88 _ _) ?_
    rintro v m1 ⟨rfl, rfl⟩ hs
    repeat (first
      | ((first | refine W_op rfl rfl ?_ | (refine W_opgT rfl rfl ?hg ?_; (case hg => (simp only [WG, reduceIte, Nat.reduceEqDiff]; done)))); simp only [WB, execE, unE, args0, reduceIte, Nat.reduceEqDiff, Nat.reduceAdd, Nat.reduceLeDiff, hg, AMem.get_out, AMem.next_out, AMem.ds_out, AV.cells, AV.one, List.all_cons, List.all_nil, Bool.and_self, Nat.le_refl, splice, Wo_some])
      | (refine W_opgF rfl rfl ?hg ?_; (case hg => (simp only [WG, reduceIte, Nat.reduceEqDiff]; done)))
      | rw [W_seq] | rw [W_reg] | rw [push_no] | rw [W_onil] | rw [W_skip] | rw [W_blk] | rw [W_b] | refine W_regd0 ?_)
    refine W_nil (by repeat (first | exact hg | exact args0_un (Nat.le_of_ble_eq_true rfl) | refine upd_un ?_ rfl)) ?_
    exact ⟨rfl, [], rfl, rfl, fun i => by simp only [AMem.get_out, AMem.get_put, AMem.get_inn]; rfl⟩
  · skip
    repeat (first
      | ((first | refine W_op rfl rfl ?_ | (refine W_opgT rfl rfl ?hg ?_; (case hg => (simp only [WG, reduceIte, Nat.reduceEqDiff]; done)))); simp only [WB, execE, unE, args0, reduceIte, Nat.reduceEqDiff, Nat.reduceAdd, Nat.reduceLeDiff, hg, isNil, Wo_some])
      | (refine W_opgF rfl rfl ?hg ?_; (case hg => (simp only [WG, reduceIte, Nat.reduceEqDiff]; done)))
      | rw [W_seq] | rw [W_reg] | rw [push_no] | rw [W_onil] | rw [W_skip] | rw [W_blk] | rw [W_b] | refine W_regd0 ?_)
    refine W_cond ?_
    simp only [WB, execE, unE, args0, reduceIte, Nat.reduceEqDiff, Nat.reduceAdd, Nat.reduceLeDiff, WC]
    repeat (first
      | ((first | refine W_op rfl rfl ?_ | (refine W_opgT rfl rfl ?hg ?_; (case hg => (simp only [WG, reduceIte, Nat.reduceEqDiff]; done)))); simp only [WB, execE, unE, args0, reduceIte, Nat.reduceEqDiff, Nat.reduceAdd, Nat.reduceLeDiff, hg, isNil, Wo_some])
      | (refine W_opgF rfl rfl ?hg ?_; (case hg => (simp only [WG, reduceIte, Nat.reduceEqDiff]; done)))
      | rw [W_seq] | rw [W_reg] | rw [push_no] | rw [W_onil] | rw [W_skip] | rw [W_blk] | rw [W_b] | refine W_regd0 ?_)
    refine W_cond ?_
    simp only [WB, execE, unE, args0, reduceIte, Nat.reduceEqDiff, Nat.reduceAdd, Nat.reduceLeDiff, WC]
    repeat (first
      | ((first | refine W_op rfl rfl ?_ | (refine W_opgT rfl rfl ?hg ?_; (case hg => (simp only [WG, reduceIte, Nat.reduceEqDiff]; done)))); simp only [WB, execE, unE, args0, reduceIte, Nat.reduceEqDiff, Nat.reduceAdd, Nat.reduceLeDiff, hg, Wo_some])
      | (refine W_opgF rfl rfl ?hg ?_; (case hg => (simp only [WG, reduceIte, Nat.reduceEqDiff]; done)))
      | rw [W_seq] | rw [W_reg] | rw [push_no] | rw [W_onil] | rw [W_skip] | rw [W_blk] | rw [W_b] | refine W_regd0 ?_)
    refine W_nil (by repeat (first | exact hg | exact args0_un (Nat.le_of_ble_eq_true rfl) | refine upd_un ?_ rfl)) ?_
    exact ⟨rfl, [], rfl, rfl, fun i => by
      simp only [AMem.get_out, AMem.get_inn]
      split
      · rename_i h; subst h; exact hg
      · rfl⟩
structure BAt (n : Nat) (m : AMem) (j : Nat) (l : List UInt8) : Prop where
  lo : n ≤ j
  hi : j < m.next
  at_ : (l = [] ∧ m.get j = some (.cells [.p none, .sl none 0 0 true] true ⟨2, some 97⟩)) ∨
    ∃ k, l ≠ [] ∧ k ≠ j ∧ n ≤ k ∧ k < m.next ∧ m.get j = some (.cells [.p (some (j, 0)), .sl (some (k, 0)) l.length l.length false] true ⟨2, some 97⟩) ∧ m.get k = some (.cells (cellsOfBytes l) true ⟨1, some 5⟩)
theorem roomy1 {k : Nat} (h : k ≤ 100000) : roomy k 1 = true := by
  unfold roomy
  simp only [Bool.and_eq_true, decide_eq_true_eq]
  omega
theorem bytes_one (l : List UInt8) : (cellsOfBytes l).all AV.one = true := by
  simp [cellsOfBytes, AV.one]
theorem bytes_len (l : List UInt8) : (cellsOfBytes l).length = l.length := by simp [cellsOfBytes]
theorem app_buf {n : Nat} {m : AMem} {j : Nat} {l : List UInt8} (h : BAt n m j l) (a0 : AV) (b : AV) (hg : m.get j = some (.cells [a0, b] true ⟨2, some 97⟩)) (new : List UInt8) (hn : new ≠ []) (hl : l.length + new.length ≤ 100000) (m1 : AMem) (hm1 : m.next ≤ m1.next) (hk : ∀ i, i < m.next → i ≠ j → m1.get i = m.get i) :
    ∃ m2, appE m1 ⟨1, some 5⟩ 1 b (cellsOfBytes new) new.length = some (.sl (some (m1.next, 0)) (l ++ new).length (l ++ new).length false, m2) ∧ m2.next = m1.next + 1 ∧ m2.ds = m1.ds ∧ m2.get m1.next = some (.cells (cellsOfBytes (l ++ new)) true ⟨1, some 5⟩) ∧ m2.get j = m1.get j ∧ ∀ i, i < n → m2.get i = m1.get i := by
  have hlo := h.lo
  have hhi := h.hi
  have hnl : new.length ≠ 0 := fun e => hn (List.length_eq_zero_iff.1 e)
  rcases h.at_ with ⟨rfl, hj⟩ | ⟨k, hne, hkj, hk1, hk2, hj, hkk⟩
  · rw [hj] at hg
    simp only [Option.some.injEq, AObj.cells.injEq, List.cons.injEq, and_true, true_and] at hg
    obtain ⟨_, rfl⟩ := hg
    refine ⟨m1.new (.cells (cellsOfBytes new) true ⟨1, some 5⟩), ?_, rfl, rfl, ?_, ?_, fun i hi => ?_⟩
    · simp only [appE]
      rw [if_neg hnl, if_pos (roomy1 (by simpa using hl))]
      rfl
    · rw [AMem.get_new, if_pos rfl]; rfl
    · rw [AMem.get_new, if_neg (by omega)]
    · rw [AMem.get_new, if_neg (by omega)]
  · rw [hj] at hg
    simp only [Option.some.injEq, AObj.cells.injEq, List.cons.injEq, and_true, true_and] at hg
    obtain ⟨_, rfl⟩ := hg
    have hkg : m1.get k = some (.cells (cellsOfBytes l) true ⟨1, some 5⟩) := by rw [hk k hk2 hkj]; exact hkk
    refine ⟨(m1.put k none).new (.cells ((cellsOfBytes l).take (l.length * 1) ++ cellsOfBytes new) true (ES.grow ⟨1, some 5⟩ ⟨1, some 5⟩ 0)), ?_, rfl, rfl, ?_, ?_, fun i hi => ?_⟩
    · simp only [appE, hkg]
      rw [if_neg (by omega), if_pos ⟨roomy1 hl, Nat.le_refl _, by rw [bytes_len]; omega⟩]
      simp only [Bool.false_eq_true, if_false]
      rw [if_pos ⟨trivial, trivial, by rw [bytes_len]; omega⟩]
      simp
    · rw [AMem.get_new, AMem.next_put, if_pos rfl]
      have : (cellsOfBytes l).take l.length = cellsOfBytes l := by rw [← bytes_len l]; simp
      rw [Nat.mul_one, this]
      simp [cellsOfBytes, ES.grow]
    · rw [AMem.get_new, AMem.next_put, if_neg (by omega), AMem.get_put, if_neg hkj]
    · rw [AMem.get_new, AMem.next_put, if_neg (by omega), AMem.get_put, if_neg (by omega)]
theorem BAt.cells {n : Nat} {m : AMem} {j : Nat} {l : List UInt8} (h : BAt n m j l) : ∃ a b, m.get j = some (.cells [a, b] true ⟨2, some 97⟩) ∧ (a = .p none ∨ a = .p (some (j, 0))) ∧ b.one = true := by
  rcases h.at_ with ⟨_, hj⟩ | ⟨k, _, _, _, _, hj, _⟩
  · exact ⟨_, _, hj, .inl rfl, rfl⟩
  · exact ⟨_, _, hj, .inr rfl, rfl⟩
theorem callB32 {n : Nat} {m : AMem} {j : Nat} {l : List UInt8} (h : BAt n m j l) (c : UInt8) (hl : l.length + 1 ≤ 100000) :
    Vi.Call T 32 [.p (some (j, 0)), .i .u8 c.toNat] m (fun _ m' => BAt n m' j (l ++ [c]) ∧ m.next ≤ m'.next ∧ ∀ i, i < n → m'.get i = m.get i) := by
  obtain ⟨a, b, hg, ha, hb⟩ := h.cells
  have hlo := h.lo
  have hhi := h.hi
  refine Vi.Call.ofP T32 (Nat.le_of_ble_eq_true rfl) ?_
  unfold v32
  repeat (first
    | ((first | refine W_op rfl rfl ?_ | (refine W_opgT rfl rfl ?hg ?_; (case hg => (simp only [WG, reduceIte, Nat.reduceEqDiff]; done)))); simp only [WB, execE, unE, args0, reduceIte, Nat.reduceEqDiff, Nat.reduceAdd, Nat.reduceLeDiff, Wo_some])
    | (refine W_opgF rfl rfl ?hg ?_; (case hg => (simp only [WG, reduceIte, Nat.reduceEqDiff]; done)))
    | rw [W_seq] | rw [W_reg] | rw [push_no] | rw [W_onil] | rw [W_skip] | rw [W_blk] | rw [W_b] | refine W_regd0 ?_)
  refine W_callR rfl (callB58 _ j a b hg ha hb) ?_
  rintro v m1 ⟨hn1, hg1⟩ hs
  have hj1 : m1.get j = some (.cells [.p (some (j, 0)), b] true ⟨2, some 97⟩) := by rw [hg1, if_pos rfl]
  have hds : m1.ds = [] := hs.ds
  simp only [AMem.next_inn] at hn1
  repeat (first
    | ((first | refine W_op rfl rfl ?_ | (refine W_opgT rfl rfl ?hg ?_; (case hg => (simp only [WG, reduceIte, Nat.reduceEqDiff]; done)))); simp only [WB, execE, unE, args0, reduceIte, Nat.reduceEqDiff, Nat.reduceAdd, Nat.reduceLeDiff, hj1, fillX, AV.cells, AV.one, splice, List.take_zero, List.take_succ_cons, List.nil_append, List.cons_append, List.drop_succ_cons, List.drop_zero, List.append_nil, List.all_cons, List.all_nil, Bool.and_self, Nat.le_refl, Wo_some])
    | (refine W_opgF rfl rfl ?hg ?_; (case hg => (simp only [WG, reduceIte, Nat.reduceEqDiff]; done)))
    | rw [W_seq] | rw [W_reg] | rw [push_no] | rw [W_onil] | rw [W_skip] | rw [W_blk] | rw [W_b] | refine W_regd0 ?_)
  have hsrc : srcE (m1.new (.cells [.i .u8 c.toNat] true ⟨1, none⟩)) 1 (.sl (some (m1.next, 0)) 1 1 true) = some (cellsOfBytes [c], [c].length) := by simp [srcE, rd, AMem.get_new, cellsOfBytes]
  obtain ⟨m2, e1, e2, e3, e4, e5, e6⟩ := app_buf h a b hg [c] (by simp) (by simpa using hl) (m1.new (.cells [.i .u8 c.toNat] true ⟨1, none⟩)) (by simp; omega) (fun i hi hij => by rw [AMem.get_new, if_neg (by omega), hg1, if_neg (fun e => hij e.symm)]; rfl)
  have hj2 : m2.get j = some (.cells [.p (some (j, 0)), b] true ⟨2, some 97⟩) := by rw [e5, AMem.get_new, if_neg (by omega), hj1]
  simp only [hsrc, bytes_one, reduceIte, e1, Wo_some]
  repeat (first
    | ((first | refine W_op rfl rfl ?_ | (refine W_opgT rfl rfl ?hg ?_; (case hg => (simp only [WG, reduceIte, Nat.reduceEqDiff]; done)))); simp only [WB, execE, unE, args0, reduceIte, Nat.reduceEqDiff, Nat.reduceAdd, Nat.reduceLeDiff, hj2, fillX, AV.cells, AV.one, splice, List.take_zero, List.take_succ_cons, List.nil_append, List.cons_append, List.drop_succ_cons, List.drop_zero, List.append_nil, List.all_cons, List.all_nil, Bool.and_self, Nat.le_refl, Wo_some])
    | (refine W_opgF rfl rfl ?hg ?_; (case hg => (simp only [WG, reduceIte, Nat.reduceEqDiff]; done)))
    | rw [W_seq] | rw [W_reg] | rw [push_no] | rw [W_onil] | rw [W_skip] | rw [W_blk] | rw [W_b] | refine W_regd0 ?_)
  refine W_getRet (by repeat (first | exact hg | exact args0_un (Nat.le_of_ble_eq_true rfl) | refine upd_un ?_ rfl)) ?_
  simp only [AMem.next_new] at e2 e4
  refine ⟨by simp [e3, hds], _, rfl, ⟨hlo, by simp [e2]; omega, .inr ⟨m1.next + 1, by simp, by omega, by omega, by simp [e2], ?_, ?_⟩⟩, by simp [e2]; omega, fun i hi => ?_⟩
  · simp only [AMem.get_out]
    rw [AMem.get_put, if_pos rfl]
  · rw [AMem.get_out, AMem.get_put, if_neg (by omega)]; exact e4
  · rw [AMem.get_out, AMem.get_put, if_neg (by omega), e6 i hi, AMem.get_new, if_neg (by omega), hg1, if_neg (by omega)]; rfl
theorem callB33 {n : Nat} {m : AMem} {j : Nat} {l : List UInt8} (h : BAt n m j l) (x : ByteArray) (hx : x.data.toList ≠ []) (hl : l.length + x.data.toList.length ≤ 100000) :
    Vi.Call T 33 [.p (some (j, 0)), .s x] m (fun _ m' => BAt n m' j (l ++ x.data.toList) ∧ m.next ≤ m'.next ∧ ∀ i, i < n → m'.get i = m.get i) := by
  obtain ⟨a, b, hg, ha, hb⟩ := h.cells
  have hlo := h.lo
  have hhi := h.hi
  refine Vi.Call.ofP T33 (Nat.le_of_ble_eq_true rfl) ?_
  unfold v33
  repeat (first
    | ((first | refine W_op rfl rfl ?_ | (refine W_opgT rfl rfl ?hg ?_; (case hg => (simp only [WG, reduceIte, Nat.reduceEqDiff]; done)))); simp only [WB, execE, unE, args0, reduceIte, Nat.reduceEqDiff, Nat.reduceAdd, Nat.reduceLeDiff, Wo_some])
    | (refine W_opgF rfl rfl ?hg ?_; (case hg => (simp only [WG, reduceIte, Nat.reduceEqDiff]; done)))
    | rw [W_seq] | rw [W_reg] | rw [push_no] | rw [W_onil] | rw [W_skip] | rw [W_blk] | rw [W_b] | refine W_regd0 ?_)
  refine W_callR rfl (callB58 _ j a b hg ha hb) ?_
  rintro v m1 ⟨hn1, hg1⟩ hs
  have hj1 : m1.get j = some (.cells [.p (some (j, 0)), b] true ⟨2, some 97⟩) := by rw [hg1, if_pos rfl]
  have hds : m1.ds = [] := hs.ds
  simp only [AMem.next_inn] at hn1
  repeat (first
    | ((first | refine W_op rfl rfl ?_ | (refine W_opgT rfl rfl ?hg ?_; (case hg => (simp only [WG, reduceIte, Nat.reduceEqDiff]; done)))); simp only [WB, execE, unE, args0, reduceIte, Nat.reduceEqDiff, Nat.reduceAdd, Nat.reduceLeDiff, hj1, fillX, AV.cells, AV.one, splice, List.take_zero, List.take_succ_cons, List.nil_append, List.cons_append, List.drop_succ_cons, List.drop_zero, List.append_nil, List.all_cons, List.all_nil, Bool.and_self, Nat.le_refl, Wo_some])
    | (refine W_opgF rfl rfl ?hg ?_; (case hg => (simp only [WG, reduceIte, Nat.reduceEqDiff]; done)))
    | rw [W_seq] | rw [W_reg] | rw [push_no] | rw [W_onil] | rw [W_skip] | rw [W_blk] | rw [W_b] | refine W_regd0 ?_)
  have hsrc : srcE m1 1 (.s x) = some (cellsOfBytes x.data.toList, x.data.toList.length) := by
    simp only [srcE, reduceIte]; rfl
  obtain ⟨m2, e1, e2, e3, e4, e5, e6⟩ := app_buf h a b hg x.data.toList hx hl m1 (by omega) (fun i hi hij => by rw [hg1, if_neg (fun e => hij e.symm)]; rfl)
  have hj2 : m2.get j = some (.cells [.p (some (j, 0)), b] true ⟨2, some 97⟩) := by rw [e5, hj1]
  simp only [hsrc, bytes_one, reduceIte, e1, Wo_some]
  repeat (first
    | ((first | refine W_op rfl rfl ?_ | (refine W_opgT rfl rfl ?hg ?_; (case hg => (simp only [WG, reduceIte, Nat.reduceEqDiff]; done)))); simp only [WB, execE, unE, args0, reduceIte, Nat.reduceEqDiff, Nat.reduceAdd, Nat.reduceLeDiff, hj2, fillX, AV.cells, AV.one, splice, List.take_zero, List.take_succ_cons, List.nil_append, List.cons_append, List.drop_succ_cons, List.drop_zero, List.append_nil, List.all_cons, List.all_nil, Bool.and_self, Nat.le_refl, Wo_some])
    | (refine W_opgF rfl rfl ?hg ?_; (case hg => (simp only [WG, reduceIte, Nat.reduceEqDiff]; done)))
    | rw [W_seq] | rw [W_reg] | rw [push_no] | rw [W_onil] | rw [W_skip] | rw [W_blk] | rw [W_b] | refine W_regd0 ?_)
  refine W_getRet (by repeat (first | exact hg | exact args0_un (Nat.le_of_ble_eq_true rfl) | refine upd_un ?_ rfl)) ?_
  refine ⟨by simp [e3, hds], _, rfl, ⟨hlo, by simp [e2]; omega, .inr ⟨m1.next, by simpa using fun _ => hx, by omega, by omega, by simp [e2], ?_, ?_⟩⟩, by simp [e2]; omega, fun i hi => ?_⟩
  · simp only [AMem.get_out]
    rw [AMem.get_put, if_pos rfl]
  · rw [AMem.get_out, AMem.get_put, if_neg (by omega)]; exact e4
  · rw [AMem.get_out, AMem.get_put, if_neg (by omega), e6 i hi, hg1, if_neg (by omega)]; rfl
theorem bytesOf_cells : ∀ (l : List UInt8), bytesOfCells (cellsOfBytes l) = some l
  | [] => rfl
  | b :: l => by
    have ih := bytesOf_cells l
    simp only [cellsOfBytes, List.map_cons, bytesOfCells] at ih ⊢
    rw [ih]
    simp
theorem callB34 {n : Nat} {m : AMem} {j : Nat} {l : List UInt8} (h : BAt n m j l) (hn : l ≠ []) (hl : l.length ≤ 100000) :
    Vi.Call T 34 [.p (some (j, 0))] m (fun v m' => v = .s ⟨l.toArray⟩ ∧ m.next ≤ m'.next ∧ ∀ i, i < n → m'.get i = m.get i) := by
  have hlo := h.lo
  have hhi := h.hi
  rcases h.at_ with ⟨rfl, _⟩ | ⟨k, _, hkj, hk1, hk2, hj, hk⟩
  · exact absurd rfl hn
  refine Vi.Call.ofP T34 (Nat.le_of_ble_eq_true rfl) ?_
  unfold v34
  have hl0 : l.length ≠ 0 := fun e => hn (List.length_eq_zero_iff.1 e)
  have hl1 : ¬ ((l.length : Int) = 0) := by omega
  have hl2 : ¬ ((l.length : Int) < 0 ∨ (9223372036854775807 : Int) < l.length) := by omega
  have hl3 : ((l.length : Int)).toNat ≤ (cellsOfBytes l).length := by rw [bytes_len]; omega
  have hl4 : (cellsOfBytes l).take ((l.length : Int)).toNat = cellsOfBytes l := by
    rw [Int.toNat_natCast]
    conv => lhs; rw [← bytes_len l]
    simp
  repeat (first
    | ((first | refine W_op rfl rfl ?_ | (refine W_opgT rfl rfl ?hg ?_; (case hg => (simp only [WG, reduceIte, Nat.reduceEqDiff]; done)))); simp only [WB, execE, unE, args0, reduceIte, Nat.reduceEqDiff, Nat.reduceAdd, Nat.reduceLeDiff, hj, hk, hl0, hl1, hl2, hl3, hl4, bytesOf_cells, fillX, AV.cells, AV.one, splice, List.take_zero, List.take_succ_cons, List.nil_append, List.cons_append, List.drop_succ_cons, List.drop_zero, List.append_nil, List.all_cons, List.all_nil, Bool.and_self, Nat.le_refl, Wo_some])
    | (refine W_opgF rfl rfl ?hg ?_; (case hg => (simp only [WG, reduceIte, Nat.reduceEqDiff]; done)))
    | rw [W_seq] | rw [W_reg] | rw [push_no] | rw [W_onil] | rw [W_skip] | rw [W_blk] | rw [W_b] | refine W_regd0 ?_)
  refine W_getRet (by repeat (first | exact hg | exact args0_un (Nat.le_of_ble_eq_true rfl) | refine upd_un ?_ rfl)) ?_
  exact ⟨rfl, _, rfl, rfl, Nat.le_refl _, fun i hi => by rw [AMem.get_out, AMem.get_put, if_neg (by omega)]; rfl⟩
end Go.Proofs.YtdmoecehmclohaaGreatDoor
