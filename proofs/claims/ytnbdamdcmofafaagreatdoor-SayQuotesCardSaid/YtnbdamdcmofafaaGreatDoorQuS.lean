/- The law SayQuotes at the interpreter's level: it tells true, whatever the bytes are. No condition. -/
import Derived.Test.YtnbdamdcmofafaaGreatDoorQuR
namespace Go.Proofs.YtnbdamdcmofafaaGreatDoor
open Go.Vi
set_option linter.unusedSimpArgs false
set_option linter.unusedVariables false

theorem toList_loop (bs : ByteArray) : ∀ (n i : Nat) (r : List UInt8), bs.size - i = n → ByteArray.toList.loop bs i r = r.reverse ++ bs.data.toList.drop i
  | 0, i, r, h => by
    have h1 : bs.data.toList.length = bs.size := rfl
    unfold ByteArray.toList.loop
    rw [if_neg (by omega), List.drop_eq_nil_of_le (by omega)]; simp
  | n + 1, i, r, h => by
    have h1 : bs.data.toList.length = bs.size := rfl
    have hi : i < bs.data.toList.length := by omega
    unfold ByteArray.toList.loop
    rw [if_pos (by omega), toList_loop bs n (i + 1) _ (by omega), List.drop_eq_getElem_cons hi]
    have : bs.get! i = bs.data.toList[i] := by
      show bs.data[i]! = _
      rw [getElem!_pos bs.data i (by simpa using hi)]; simp
    rw [this]; simp

theorem toList_eq (bs : ByteArray) : bs.toList = bs.data.toList := by
  unfold ByteArray.toList
  rw [toList_loop bs _ 0 [] rfl]; simp

theorem eqS (x y : List UInt8) : strBin .eql ⟨x.toArray⟩ ⟨y.toArray⟩ = some (.b (decide (x = y))) := by
  simp only [strBin, toList_eq]
  by_cases h : x = y
  · subst h; simp
  · simp [h]

/-- What a byte in quotes begins with tells what it is. -/
theorem hex_inj : ∀ a b : Nat, a < 16 → b < 16 → hexes.getD a 0 = hexes.getD b 0 → a = b := by
  intro a b ha hb
  have key : ∀ a : Fin 16, ∀ b : Fin 16, hexes.getD a.1 0 = hexes.getD b.1 0 → a.1 = b.1 := by decide
  exact key ⟨a, ha⟩ ⟨b, hb⟩

theorem hex_range (k : Nat) (h : k < 16) : 48 ≤ (hexes.getD k 0).toNat ∧ (hexes.getD k 0).toNat ≤ 102 := by
  have key : ∀ a : Fin 16, 48 ≤ (hexes.getD a.1 0).toNat ∧ (hexes.getD a.1 0).toNat ≤ 102 := by decide
  exact key ⟨k, h⟩

theorem q1_range (c : UInt8) : ∀ x ∈ q1 c, 32 ≤ x.toNat ∧ x.toNat ≤ 126 := by
  have hc := c.toNat_lt
  intro x hx
  unfold q1 at hx
  split at hx
  · rename_i h
    simp only [List.mem_cons, List.not_mem_nil, or_false] at hx
    rcases hx with rfl | rfl
    · decide
    · omega
  · split at hx
    · simp only [List.mem_cons, List.not_mem_nil, or_false] at hx
      rcases hx with rfl | rfl | rfl | rfl
      · decide
      · decide
      · have := hex_range (c.toNat / 16) (by omega); omega
      · have := hex_range (c.toNat % 16) (by omega); omega
    · simp only [List.mem_cons, List.not_mem_nil, or_false] at hx
      subst hx; omega

theorem quote_range (l : List UInt8) : ∀ x ∈ quote l, 32 ≤ x.toNat ∧ x.toNat ≤ 126 := by
  intro x hx
  simp only [quote, List.cons_append, List.mem_cons, List.mem_append, List.mem_flatMap, List.not_mem_nil, or_false] at hx
  rcases hx with rfl | ⟨c, _, h⟩ | rfl
  · decide
  · exact q1_range c x h
  · decide

/-- A byte's text, and whatever follows, tells the byte, and what follows. -/
theorem q1_inj (c d : UInt8) (s t : List UInt8) (h : q1 c ++ s = q1 d ++ t) : c = d ∧ s = t := by
  have hc := c.toNat_lt
  have hd := d.toNat_lt
  have n92 : (92 : UInt8).toNat = 92 := rfl
  have n120 : (120 : UInt8).toNat = 120 := rfl
  by_cases hA : (c.toNat : Int) = 34 ∨ (c.toNat : Int) = 92
  · have e1 : q1 c = [92, c] := by unfold q1; rw [if_pos hA]
    rw [e1] at h
    by_cases hB : (d.toNat : Int) = 34 ∨ (d.toNat : Int) = 92
    · have e2 : q1 d = [92, d] := by unfold q1; rw [if_pos hB]
      rw [e2] at h
      simpa using h
    · by_cases hD : (d.toNat : Int) < 32 ∨ (d.toNat : Int) > 126
      · have e2 : q1 d = [92, 120, hexes.getD (d.toNat / 16) 0, hexes.getD (d.toNat % 16) 0] := by unfold q1; rw [if_neg hB, if_pos hD]
        rw [e2] at h
        simp only [List.cons_append, List.cons.injEq, true_and] at h
        rw [h.1] at hA
        omega
      · have e2 : q1 d = [d] := by unfold q1; rw [if_neg hB, if_neg hD]
        rw [e2] at h
        simp only [List.cons_append, List.cons.injEq] at h
        rw [← h.1] at hB
        omega
  · by_cases hC : (c.toNat : Int) < 32 ∨ (c.toNat : Int) > 126
    · have e1 : q1 c = [92, 120, hexes.getD (c.toNat / 16) 0, hexes.getD (c.toNat % 16) 0] := by unfold q1; rw [if_neg hA, if_pos hC]
      rw [e1] at h
      by_cases hB : (d.toNat : Int) = 34 ∨ (d.toNat : Int) = 92
      · have e2 : q1 d = [92, d] := by unfold q1; rw [if_pos hB]
        rw [e2] at h
        simp only [List.cons_append, List.cons.injEq, true_and] at h
        rw [← h.1] at hB
        omega
      · by_cases hD : (d.toNat : Int) < 32 ∨ (d.toNat : Int) > 126
        · have e2 : q1 d = [92, 120, hexes.getD (d.toNat / 16) 0, hexes.getD (d.toNat % 16) 0] := by unfold q1; rw [if_neg hB, if_pos hD]
          rw [e2] at h
          simp only [List.cons_append, List.cons.injEq, true_and, List.nil_append] at h
          obtain ⟨h1, h2, h3⟩ := h
          have k1 := hex_inj _ _ (by omega) (by omega) h1
          have k2 := hex_inj _ _ (by omega) (by omega) h2
          exact ⟨UInt8.toNat_inj.1 (by omega), h3⟩
        · have e2 : q1 d = [d] := by unfold q1; rw [if_neg hB, if_neg hD]
          rw [e2] at h
          simp only [List.cons_append, List.cons.injEq] at h
          rw [← h.1] at hB
          omega
    · have e1 : q1 c = [c] := by unfold q1; rw [if_neg hA, if_neg hC]
      rw [e1] at h
      by_cases hB : (d.toNat : Int) = 34 ∨ (d.toNat : Int) = 92
      · have e2 : q1 d = [92, d] := by unfold q1; rw [if_pos hB]
        rw [e2] at h
        simp only [List.cons_append, List.cons.injEq] at h
        rw [h.1] at hA
        omega
      · by_cases hD : (d.toNat : Int) < 32 ∨ (d.toNat : Int) > 126
        · have e2 : q1 d = [92, 120, hexes.getD (d.toNat / 16) 0, hexes.getD (d.toNat % 16) 0] := by unfold q1; rw [if_neg hB, if_pos hD]
          rw [e2] at h
          simp only [List.cons_append, List.cons.injEq] at h
          rw [h.1] at hA
          omega
        · have e2 : q1 d = [d] := by unfold q1; rw [if_neg hB, if_neg hD]
          rw [e2] at h
          simpa using h

theorem quote_inj' : ∀ (l k : List UInt8), l.flatMap q1 ++ [34] = k.flatMap q1 ++ [34] → l = k
  | [], [], _ => rfl
  | [], d :: k, h => by
    exfalso
    simp only [List.flatMap_nil, List.nil_append, List.flatMap_cons, List.append_assoc] at h
    have := congrArg List.head? h
    unfold q1 at this
    split at this
    · simp at this
    · split at this
      · simp at this
      · rename_i h1 _
        simp only [List.head?_cons, List.cons_append, Option.some.injEq] at this
        rw [← this] at h1
        exact h1 (.inl rfl)
  | c :: l, [], h => by
    exfalso
    simp only [List.flatMap_nil, List.nil_append, List.flatMap_cons, List.append_assoc] at h
    have := congrArg List.head? h
    unfold q1 at this
    split at this
    · simp at this
    · split at this
      · simp at this
      · rename_i h1 _
        simp only [List.head?_cons, List.cons_append, Option.some.injEq] at this
        rw [this] at h1
        exact h1 (.inl rfl)
  | c :: l, d :: k, h => by
    simp only [List.flatMap_cons, List.append_assoc] at h
    obtain ⟨h1, h2⟩ := q1_inj c d _ _ h
    rw [h1, quote_inj' l k h2]

theorem quote_inj {l k : List UInt8} (h : quote l = quote k) : l = k := by
  unfold quote at h
  simp only [List.cons_append, List.cons.injEq, true_and] at h
  exact quote_inj' l k h

theorem bytes_cvs {m : AMem} {a : AV} {l : List UInt8} (h : Bytes m a l) (e : X → AV) (x : X) (hx : e x = a) : execE (.cvs x) e m = some (.s ⟨l.toArray⟩, m) := by
  unfold Bytes at h
  simp only [execE, hx]
  split at h
  · obtain ⟨rfl, rfl⟩ := h; rfl
  · subst h; rfl
  · rename_i j o n cap ex
    obtain ⟨h1, h2, c, wr, es, h3, h4, h5⟩ := h
    simp only [rd, h3]
    rw [if_pos h4, h5]
    simp only [bytesOf_cells, Option.map_some]
  · exact h.elim

theorem law10 {m : AMem} {a b : AV} {la lb : List UInt8} (hanc : Vi.Call T 29 [] m.inn (fun v m' => v = .b true ∧ Bytes m' a la ∧ Bytes m' b lb)) (ha : Bytes m a la) (hb : Bytes m b lb) :
    Vi.Call T 10 [a, b] m (fun v _ => v = .b true) := by
  refine Vi.Call.ofP T10 (Nat.le_of_ble_eq_true rfl) ?_
  unfold v10
  repeat (first
    | (refine W_op rfl rfl ?_; simp only [execE, at_t, at_c, upd_at, upd_none, args0, push_no, AMem.get_inn, AMem.next_inn, AMem.ds_inn, AMem.get_put, AMem.next_put, AMem.ds_put, AMem.get_new, AMem.next_new, AMem.ds_new, List.getD_cons_zero, List.getD_cons_succ, List.getD_nil, reduceIte, Nat.reduceEqDiff, Bool.or_true, Bool.true_or, Bool.or_false, Bool.false_or, Bool.not_true, Bool.not_false, Bool.false_eq_true, beq_self_eq_true, beq_true, Bool.true_beq, beq_false, Bool.false_beq, List.length_cons, List.length_nil, Nat.zero_add, Nat.add_zero, Nat.reduceAdd, Nat.reduceLeDiff, List.getElem?_cons_zero, List.getElem?_cons_succ, Option.map_some, List.map_cons, List.map_nil, true_and, and_true, and_self, Wo_some])
    | (refine W_opgT rfl rfl ?hg ?_; (case hg => (simp only [upd_at, reduceIte, Nat.reduceEqDiff, Bool.not_true, Bool.not_false]; done)); simp only [execE, at_t, at_c, upd_at, upd_none, args0, push_no, AMem.get_inn, AMem.next_inn, AMem.ds_inn, AMem.get_put, AMem.next_put, AMem.ds_put, AMem.get_new, AMem.next_new, AMem.ds_new, List.getD_cons_zero, List.getD_cons_succ, List.getD_nil, reduceIte, Nat.reduceEqDiff, Bool.or_true, Bool.true_or, Bool.or_false, Bool.false_or, Bool.not_true, Bool.not_false, Bool.false_eq_true, beq_self_eq_true, beq_true, Bool.true_beq, beq_false, Bool.false_beq, List.length_cons, List.length_nil, Nat.zero_add, Nat.add_zero, Nat.reduceAdd, Nat.reduceLeDiff, List.getElem?_cons_zero, List.getElem?_cons_succ, Option.map_some, List.map_cons, List.map_nil, true_and, and_true, and_self, Wo_some])
    | (refine W_opgF rfl rfl ?hg ?_; (case hg => (simp only [upd_at, reduceIte, Nat.reduceEqDiff, Bool.not_true, Bool.not_false]; done)))
    | rw [W_seq] | rw [W_reg] | rw [push_no] | rw [W_onil] | rw [W_skip] | rw [W_blk] | rw [W_b] | refine W_regd0 ?_)
  refine W_callA rfl ?hargs (hanc) ?_
  case hargs => simp only [execE, at_t, at_c, upd_at, upd_none, args0, push_no, AMem.get_inn, AMem.next_inn, AMem.ds_inn, AMem.get_put, AMem.next_put, AMem.ds_put, AMem.get_new, AMem.next_new, AMem.ds_new, List.getD_cons_zero, List.getD_cons_succ, List.getD_nil, reduceIte, Nat.reduceEqDiff, Bool.or_true, Bool.true_or, Bool.or_false, Bool.false_or, Bool.not_true, Bool.not_false, Bool.false_eq_true, beq_self_eq_true, beq_true, Bool.true_beq, beq_false, Bool.false_beq, List.length_cons, List.length_nil, Nat.zero_add, Nat.add_zero, Nat.reduceAdd, Nat.reduceLeDiff, List.getElem?_cons_zero, List.getElem?_cons_succ, Option.map_some, List.map_cons, List.map_nil, true_and, and_true, and_self] <;> rfl
  rintro v m1 ⟨rfl, ha1, hb1⟩ hs1
  have hlenA : ∀ m2, execE (.len 1 (.c a)) (X.at (args0 [])) m2 = some (.i .i64 la.length, m2) := fun m2 => ha.len _ _ rfl m2
  have hlenB : ∀ m2, execE (.len 1 (.c b)) (X.at (args0 [])) m2 = some (.i .i64 lb.length, m2) := fun m2 => hb.len _ _ rfl m2
  simp only [execE, at_c] at hlenA hlenB
  repeat (first
    | (refine W_op rfl rfl ?_; simp only [execE, at_t, at_c, upd_at, upd_none, args0, push_no, AMem.get_inn, AMem.next_inn, AMem.ds_inn, AMem.get_put, AMem.next_put, AMem.ds_put, AMem.get_new, AMem.next_new, AMem.ds_new, List.getD_cons_zero, List.getD_cons_succ, List.getD_nil, reduceIte, Nat.reduceEqDiff, Bool.or_true, Bool.true_or, Bool.or_false, Bool.false_or, Bool.not_true, Bool.not_false, Bool.false_eq_true, beq_self_eq_true, beq_true, Bool.true_beq, beq_false, Bool.false_beq, List.length_cons, List.length_nil, Nat.zero_add, Nat.add_zero, Nat.reduceAdd, Nat.reduceLeDiff, List.getElem?_cons_zero, List.getElem?_cons_succ, Option.map_some, List.map_cons, List.map_nil, true_and, and_true, and_self, unE, Wo_some])
    | (refine W_opgT rfl rfl ?hg ?_; (case hg => (simp only [upd_at, reduceIte, Nat.reduceEqDiff, Bool.not_true, Bool.not_false]; done)); simp only [execE, at_t, at_c, upd_at, upd_none, args0, push_no, AMem.get_inn, AMem.next_inn, AMem.ds_inn, AMem.get_put, AMem.next_put, AMem.ds_put, AMem.get_new, AMem.next_new, AMem.ds_new, List.getD_cons_zero, List.getD_cons_succ, List.getD_nil, reduceIte, Nat.reduceEqDiff, Bool.or_true, Bool.true_or, Bool.or_false, Bool.false_or, Bool.not_true, Bool.not_false, Bool.false_eq_true, beq_self_eq_true, beq_true, Bool.true_beq, beq_false, Bool.false_beq, List.length_cons, List.length_nil, Nat.zero_add, Nat.add_zero, Nat.reduceAdd, Nat.reduceLeDiff, List.getElem?_cons_zero, List.getElem?_cons_succ, Option.map_some, List.map_cons, List.map_nil, true_and, and_true, and_self, unE, Wo_some])
    | (refine W_opgF rfl rfl ?hg ?_; (case hg => (simp only [upd_at, reduceIte, Nat.reduceEqDiff, Bool.not_true, Bool.not_false]; done)))
    | rw [W_seq] | rw [W_reg] | rw [push_no] | rw [W_onil] | rw [W_skip] | rw [W_blk] | rw [W_b] | refine W_regd0 ?_)
  refine W_cond ?_
  simp only [execE, at_t, at_c, upd_at, upd_none, args0, push_no, AMem.get_inn, AMem.next_inn, AMem.ds_inn, AMem.get_put, AMem.next_put, AMem.ds_put, AMem.get_new, AMem.next_new, AMem.ds_new, List.getD_cons_zero, List.getD_cons_succ, List.getD_nil, reduceIte, Nat.reduceEqDiff, Bool.or_true, Bool.true_or, Bool.or_false, Bool.false_or, Bool.not_true, Bool.not_false, Bool.false_eq_true, beq_self_eq_true, beq_true, Bool.true_beq, beq_false, Bool.false_beq, List.length_cons, List.length_nil, Nat.zero_add, Nat.add_zero, Nat.reduceAdd, Nat.reduceLeDiff, List.getElem?_cons_zero, List.getElem?_cons_succ, Option.map_some, List.map_cons, List.map_nil, true_and, and_true, and_self, WC]
  cases hA : decide ((la.length : Int) > 2000)
  · cases hB : decide ((lb.length : Int) > 2000)
    · skip
      repeat (first
        | (refine W_op rfl rfl ?_; simp only [execE, at_t, at_c, upd_at, upd_none, args0, push_no, AMem.get_inn, AMem.next_inn, AMem.ds_inn, AMem.get_put, AMem.next_put, AMem.ds_put, AMem.get_new, AMem.next_new, AMem.ds_new, List.getD_cons_zero, List.getD_cons_succ, List.getD_nil, reduceIte, Nat.reduceEqDiff, Bool.or_true, Bool.true_or, Bool.or_false, Bool.false_or, Bool.not_true, Bool.not_false, Bool.false_eq_true, beq_self_eq_true, beq_true, Bool.true_beq, beq_false, Bool.false_beq, List.length_cons, List.length_nil, Nat.zero_add, Nat.add_zero, Nat.reduceAdd, Nat.reduceLeDiff, List.getElem?_cons_zero, List.getElem?_cons_succ, Option.map_some, List.map_cons, List.map_nil, true_and, and_true, and_self, hlenA, hlenB, binE, isShift, Bool.false_or, intBin, hA, hB, Wo_some])
        | (refine W_opgT rfl rfl ?hg ?_; (case hg => (simp only [upd_at, reduceIte, Nat.reduceEqDiff, Bool.not_true, Bool.not_false]; done)); simp only [execE, at_t, at_c, upd_at, upd_none, args0, push_no, AMem.get_inn, AMem.next_inn, AMem.ds_inn, AMem.get_put, AMem.next_put, AMem.ds_put, AMem.get_new, AMem.next_new, AMem.ds_new, List.getD_cons_zero, List.getD_cons_succ, List.getD_nil, reduceIte, Nat.reduceEqDiff, Bool.or_true, Bool.true_or, Bool.or_false, Bool.false_or, Bool.not_true, Bool.not_false, Bool.false_eq_true, beq_self_eq_true, beq_true, Bool.true_beq, beq_false, Bool.false_beq, List.length_cons, List.length_nil, Nat.zero_add, Nat.add_zero, Nat.reduceAdd, Nat.reduceLeDiff, List.getElem?_cons_zero, List.getElem?_cons_succ, Option.map_some, List.map_cons, List.map_nil, true_and, and_true, and_self, hlenA, hlenB, binE, isShift, Bool.false_or, intBin, hA, hB, Wo_some])
        | (refine W_opgF rfl rfl ?hg ?_; (case hg => (simp only [upd_at, reduceIte, Nat.reduceEqDiff, Bool.not_true, Bool.not_false]; done)))
        | rw [W_seq] | rw [W_reg] | rw [push_no] | rw [W_onil] | rw [W_skip] | rw [W_blk] | rw [W_b] | refine W_regd0 ?_)
      refine W_cond ?_
      simp only [execE, at_t, at_c, upd_at, upd_none, args0, push_no, AMem.get_inn, AMem.next_inn, AMem.ds_inn, AMem.get_put, AMem.next_put, AMem.ds_put, AMem.get_new, AMem.next_new, AMem.ds_new, List.getD_cons_zero, List.getD_cons_succ, List.getD_nil, reduceIte, Nat.reduceEqDiff, Bool.or_true, Bool.true_or, Bool.or_false, Bool.false_or, Bool.not_true, Bool.not_false, Bool.false_eq_true, beq_self_eq_true, beq_true, Bool.true_beq, beq_false, Bool.false_beq, List.length_cons, List.length_nil, Nat.zero_add, Nat.add_zero, Nat.reduceAdd, Nat.reduceLeDiff, List.getElem?_cons_zero, List.getElem?_cons_succ, Option.map_some, List.map_cons, List.map_nil, true_and, and_true, and_self, WC]
      repeat (first
        | (refine W_op rfl rfl ?_; simp only [execE, at_t, at_c, upd_at, upd_none, args0, push_no, AMem.get_inn, AMem.next_inn, AMem.ds_inn, AMem.get_put, AMem.next_put, AMem.ds_put, AMem.get_new, AMem.next_new, AMem.ds_new, List.getD_cons_zero, List.getD_cons_succ, List.getD_nil, reduceIte, Nat.reduceEqDiff, Bool.or_true, Bool.true_or, Bool.or_false, Bool.false_or, Bool.not_true, Bool.not_false, Bool.false_eq_true, beq_self_eq_true, beq_true, Bool.true_beq, beq_false, Bool.false_beq, List.length_cons, List.length_nil, Nat.zero_add, Nat.add_zero, Nat.reduceAdd, Nat.reduceLeDiff, List.getElem?_cons_zero, List.getElem?_cons_succ, Option.map_some, List.map_cons, List.map_nil, true_and, and_true, and_self, Wo_some])
        | (refine W_opgT rfl rfl ?hg ?_; (case hg => (simp only [upd_at, reduceIte, Nat.reduceEqDiff, Bool.not_true, Bool.not_false]; done)); simp only [execE, at_t, at_c, upd_at, upd_none, args0, push_no, AMem.get_inn, AMem.next_inn, AMem.ds_inn, AMem.get_put, AMem.next_put, AMem.ds_put, AMem.get_new, AMem.next_new, AMem.ds_new, List.getD_cons_zero, List.getD_cons_succ, List.getD_nil, reduceIte, Nat.reduceEqDiff, Bool.or_true, Bool.true_or, Bool.or_false, Bool.false_or, Bool.not_true, Bool.not_false, Bool.false_eq_true, beq_self_eq_true, beq_true, Bool.true_beq, beq_false, Bool.false_beq, List.length_cons, List.length_nil, Nat.zero_add, Nat.add_zero, Nat.reduceAdd, Nat.reduceLeDiff, List.getElem?_cons_zero, List.getElem?_cons_succ, Option.map_some, List.map_cons, List.map_nil, true_and, and_true, and_self, Wo_some])
        | (refine W_opgF rfl rfl ?hg ?_; (case hg => (simp only [upd_at, reduceIte, Nat.reduceEqDiff, Bool.not_true, Bool.not_false]; done)))
        | rw [W_seq] | rw [W_reg] | rw [push_no] | rw [W_onil] | rw [W_skip] | rw [W_blk] | rw [W_b] | refine W_regd0 ?_)
      have hla : la.length ≤ 2000 := by simp at hA; omega
      have hlb : lb.length ≤ 2000 := by simp at hB; omega
      refine W_callA rfl ?hargs (call34 ha1 hla) ?_
      case hargs => simp only [execE, at_t, at_c, upd_at, upd_none, args0, push_no, AMem.get_inn, AMem.next_inn, AMem.ds_inn, AMem.get_put, AMem.next_put, AMem.ds_put, AMem.get_new, AMem.next_new, AMem.ds_new, List.getD_cons_zero, List.getD_cons_succ, List.getD_nil, reduceIte, Nat.reduceEqDiff, Bool.or_true, Bool.true_or, Bool.or_false, Bool.false_or, Bool.not_true, Bool.not_false, Bool.false_eq_true, beq_self_eq_true, beq_true, Bool.true_beq, beq_false, Bool.false_beq, List.length_cons, List.length_nil, Nat.zero_add, Nat.add_zero, Nat.reduceAdd, Nat.reduceLeDiff, List.getElem?_cons_zero, List.getElem?_cons_succ, Option.map_some, List.map_cons, List.map_nil, true_and, and_true, and_self] <;> rfl
      rintro v2 m2 ⟨rfl, hn2, hk2⟩ hs2
      repeat (first
        | (refine W_op rfl rfl ?_; simp only [execE, at_t, at_c, upd_at, upd_none, args0, push_no, AMem.get_inn, AMem.next_inn, AMem.ds_inn, AMem.get_put, AMem.next_put, AMem.ds_put, AMem.get_new, AMem.next_new, AMem.ds_new, List.getD_cons_zero, List.getD_cons_succ, List.getD_nil, reduceIte, Nat.reduceEqDiff, Bool.or_true, Bool.true_or, Bool.or_false, Bool.false_or, Bool.not_true, Bool.not_false, Bool.false_eq_true, beq_self_eq_true, beq_true, Bool.true_beq, beq_false, Bool.false_beq, List.length_cons, List.length_nil, Nat.zero_add, Nat.add_zero, Nat.reduceAdd, Nat.reduceLeDiff, List.getElem?_cons_zero, List.getElem?_cons_succ, Option.map_some, List.map_cons, List.map_nil, true_and, and_true, and_self, Wo_some])
        | (refine W_opgT rfl rfl ?hg ?_; (case hg => (simp only [upd_at, reduceIte, Nat.reduceEqDiff, Bool.not_true, Bool.not_false]; done)); simp only [execE, at_t, at_c, upd_at, upd_none, args0, push_no, AMem.get_inn, AMem.next_inn, AMem.ds_inn, AMem.get_put, AMem.next_put, AMem.ds_put, AMem.get_new, AMem.next_new, AMem.ds_new, List.getD_cons_zero, List.getD_cons_succ, List.getD_nil, reduceIte, Nat.reduceEqDiff, Bool.or_true, Bool.true_or, Bool.or_false, Bool.false_or, Bool.not_true, Bool.not_false, Bool.false_eq_true, beq_self_eq_true, beq_true, Bool.true_beq, beq_false, Bool.false_beq, List.length_cons, List.length_nil, Nat.zero_add, Nat.add_zero, Nat.reduceAdd, Nat.reduceLeDiff, List.getElem?_cons_zero, List.getElem?_cons_succ, Option.map_some, List.map_cons, List.map_nil, true_and, and_true, and_self, Wo_some])
        | (refine W_opgF rfl rfl ?hg ?_; (case hg => (simp only [upd_at, reduceIte, Nat.reduceEqDiff, Bool.not_true, Bool.not_false]; done)))
        | rw [W_seq] | rw [W_reg] | rw [push_no] | rw [W_onil] | rw [W_skip] | rw [W_blk] | rw [W_b] | refine W_regd0 ?_)
      refine W_callA rfl ?hargs (call34 (hb1.keep hn2 hk2) hlb) ?_
      case hargs => simp only [execE, at_t, at_c, upd_at, upd_none, args0, push_no, AMem.get_inn, AMem.next_inn, AMem.ds_inn, AMem.get_put, AMem.next_put, AMem.ds_put, AMem.get_new, AMem.next_new, AMem.ds_new, List.getD_cons_zero, List.getD_cons_succ, List.getD_nil, reduceIte, Nat.reduceEqDiff, Bool.or_true, Bool.true_or, Bool.or_false, Bool.false_or, Bool.not_true, Bool.not_false, Bool.false_eq_true, beq_self_eq_true, beq_true, Bool.true_beq, beq_false, Bool.false_beq, List.length_cons, List.length_nil, Nat.zero_add, Nat.add_zero, Nat.reduceAdd, Nat.reduceLeDiff, List.getElem?_cons_zero, List.getElem?_cons_succ, Option.map_some, List.map_cons, List.map_nil, true_and, and_true, and_self] <;> rfl
      rintro v3 m3 ⟨rfl, hn3, hk3⟩ hs3
      repeat (first
        | (refine W_op rfl rfl ?_; simp only [execE, at_t, at_c, upd_at, upd_none, args0, push_no, AMem.get_inn, AMem.next_inn, AMem.ds_inn, AMem.get_put, AMem.next_put, AMem.ds_put, AMem.get_new, AMem.next_new, AMem.ds_new, List.getD_cons_zero, List.getD_cons_succ, List.getD_nil, reduceIte, Nat.reduceEqDiff, Bool.or_true, Bool.true_or, Bool.or_false, Bool.false_or, Bool.not_true, Bool.not_false, Bool.false_eq_true, beq_self_eq_true, beq_true, Bool.true_beq, beq_false, Bool.false_beq, List.length_cons, List.length_nil, Nat.zero_add, Nat.add_zero, Nat.reduceAdd, Nat.reduceLeDiff, List.getElem?_cons_zero, List.getElem?_cons_succ, Option.map_some, List.map_cons, List.map_nil, true_and, and_true, and_self, Wo_some])
        | (refine W_opgT rfl rfl ?hg ?_; (case hg => (simp only [upd_at, reduceIte, Nat.reduceEqDiff, Bool.not_true, Bool.not_false]; done)); simp only [execE, at_t, at_c, upd_at, upd_none, args0, push_no, AMem.get_inn, AMem.next_inn, AMem.ds_inn, AMem.get_put, AMem.next_put, AMem.ds_put, AMem.get_new, AMem.next_new, AMem.ds_new, List.getD_cons_zero, List.getD_cons_succ, List.getD_nil, reduceIte, Nat.reduceEqDiff, Bool.or_true, Bool.true_or, Bool.or_false, Bool.false_or, Bool.not_true, Bool.not_false, Bool.false_eq_true, beq_self_eq_true, beq_true, Bool.true_beq, beq_false, Bool.false_beq, List.length_cons, List.length_nil, Nat.zero_add, Nat.add_zero, Nat.reduceAdd, Nat.reduceLeDiff, List.getElem?_cons_zero, List.getElem?_cons_succ, Option.map_some, List.map_cons, List.map_nil, true_and, and_true, and_self, Wo_some])
        | (refine W_opgF rfl rfl ?hg ?_; (case hg => (simp only [upd_at, reduceIte, Nat.reduceEqDiff, Bool.not_true, Bool.not_false]; done)))
        | rw [W_seq] | rw [W_reg] | rw [push_no] | rw [W_onil] | rw [W_skip] | rw [W_blk] | rw [W_b] | refine W_regd0 ?_)
      have hql : (quote la).length ≤ 100000 := by
        have := flat_len la
        simp only [quote, List.length_append, List.length_cons, List.length_nil]; omega
      have ha3 : Bytes m3 a la := (ha1.keep hn2 hk2).keep hn3 hk3
      have hb3 : Bytes m3 b lb := (hb1.keep hn2 hk2).keep hn3 hk3
      have hds3 : m3.ds = [] := by rw [hs3.ds, hs2.ds, hs1.ds]; rfl
      refine W_loop (fun k g' m' => ∃ i, i ≤ (quote la).length ∧ k = (quote la).length - i ∧ m' = m3 ∧ g' 0 = a ∧ g' 1 = b ∧ g' 5 = .s ⟨(quote la).toArray⟩ ∧ g' 6 = .s ⟨(quote lb).toArray⟩ ∧ g' 23 = .i .i64 (quote la).length ∧ g' 24 = .i .i64 i) (quote la).length ?_ ?_ ?_
      · refine ⟨0, Nat.zero_le _, rfl, rfl, ?_, ?_, ?_, ?_, ?_, ?_⟩
        · skip
          simp only [execE, at_t, at_c, upd_at, upd_none, args0, push_no, AMem.get_inn, AMem.next_inn, AMem.ds_inn, AMem.get_put, AMem.next_put, AMem.ds_put, AMem.get_new, AMem.next_new, AMem.ds_new, List.getD_cons_zero, List.getD_cons_succ, List.getD_nil, reduceIte, Nat.reduceEqDiff, Bool.or_true, Bool.true_or, Bool.or_false, Bool.false_or, Bool.not_true, Bool.not_false, Bool.false_eq_true, beq_self_eq_true, beq_true, Bool.true_beq, beq_false, Bool.false_beq, List.length_cons, List.length_nil, Nat.zero_add, Nat.add_zero, Nat.reduceAdd, Nat.reduceLeDiff, List.getElem?_cons_zero, List.getElem?_cons_succ, Option.map_some, List.map_cons, List.map_nil, true_and, and_true, and_self]
        · skip
          simp only [execE, at_t, at_c, upd_at, upd_none, args0, push_no, AMem.get_inn, AMem.next_inn, AMem.ds_inn, AMem.get_put, AMem.next_put, AMem.ds_put, AMem.get_new, AMem.next_new, AMem.ds_new, List.getD_cons_zero, List.getD_cons_succ, List.getD_nil, reduceIte, Nat.reduceEqDiff, Bool.or_true, Bool.true_or, Bool.or_false, Bool.false_or, Bool.not_true, Bool.not_false, Bool.false_eq_true, beq_self_eq_true, beq_true, Bool.true_beq, beq_false, Bool.false_beq, List.length_cons, List.length_nil, Nat.zero_add, Nat.add_zero, Nat.reduceAdd, Nat.reduceLeDiff, List.getElem?_cons_zero, List.getElem?_cons_succ, Option.map_some, List.map_cons, List.map_nil, true_and, and_true, and_self]
        · skip
          simp only [execE, at_t, at_c, upd_at, upd_none, args0, push_no, AMem.get_inn, AMem.next_inn, AMem.ds_inn, AMem.get_put, AMem.next_put, AMem.ds_put, AMem.get_new, AMem.next_new, AMem.ds_new, List.getD_cons_zero, List.getD_cons_succ, List.getD_nil, reduceIte, Nat.reduceEqDiff, Bool.or_true, Bool.true_or, Bool.or_false, Bool.false_or, Bool.not_true, Bool.not_false, Bool.false_eq_true, beq_self_eq_true, beq_true, Bool.true_beq, beq_false, Bool.false_beq, List.length_cons, List.length_nil, Nat.zero_add, Nat.add_zero, Nat.reduceAdd, Nat.reduceLeDiff, List.getElem?_cons_zero, List.getElem?_cons_succ, Option.map_some, List.map_cons, List.map_nil, true_and, and_true, and_self]
        · skip
          simp only [execE, at_t, at_c, upd_at, upd_none, args0, push_no, AMem.get_inn, AMem.next_inn, AMem.ds_inn, AMem.get_put, AMem.next_put, AMem.ds_put, AMem.get_new, AMem.next_new, AMem.ds_new, List.getD_cons_zero, List.getD_cons_succ, List.getD_nil, reduceIte, Nat.reduceEqDiff, Bool.or_true, Bool.true_or, Bool.or_false, Bool.false_or, Bool.not_true, Bool.not_false, Bool.false_eq_true, beq_self_eq_true, beq_true, Bool.true_beq, beq_false, Bool.false_beq, List.length_cons, List.length_nil, Nat.zero_add, Nat.add_zero, Nat.reduceAdd, Nat.reduceLeDiff, List.getElem?_cons_zero, List.getElem?_cons_succ, Option.map_some, List.map_cons, List.map_nil, true_and, and_true, and_self]
        · skip
          simp only [execE, at_t, at_c, upd_at, upd_none, args0, push_no, AMem.get_inn, AMem.next_inn, AMem.ds_inn, AMem.get_put, AMem.next_put, AMem.ds_put, AMem.get_new, AMem.next_new, AMem.ds_new, List.getD_cons_zero, List.getD_cons_succ, List.getD_nil, reduceIte, Nat.reduceEqDiff, Bool.or_true, Bool.true_or, Bool.or_false, Bool.false_or, Bool.not_true, Bool.not_false, Bool.false_eq_true, beq_self_eq_true, beq_true, Bool.true_beq, beq_false, Bool.false_beq, List.length_cons, List.length_nil, Nat.zero_add, Nat.add_zero, Nat.reduceAdd, Nat.reduceLeDiff, List.getElem?_cons_zero, List.getElem?_cons_succ, Option.map_some, List.map_cons, List.map_nil, true_and, and_true, and_self]
          rfl
        · skip
          simp only [execE, at_t, at_c, upd_at, upd_none, args0, push_no, AMem.get_inn, AMem.next_inn, AMem.ds_inn, AMem.get_put, AMem.next_put, AMem.ds_put, AMem.get_new, AMem.next_new, AMem.ds_new, List.getD_cons_zero, List.getD_cons_succ, List.getD_nil, reduceIte, Nat.reduceEqDiff, Bool.or_true, Bool.true_or, Bool.or_false, Bool.false_or, Bool.not_true, Bool.not_false, Bool.false_eq_true, beq_self_eq_true, beq_true, Bool.true_beq, beq_false, Bool.false_beq, List.length_cons, List.length_nil, Nat.zero_add, Nat.add_zero, Nat.reduceAdd, Nat.reduceLeDiff, List.getElem?_cons_zero, List.getElem?_cons_succ, Option.map_some, List.map_cons, List.map_nil, true_and, and_true, and_self, Int.ofNat_zero]
          try rfl
      · intro i hi
        repeat (first | exact args0_un (Nat.le_of_ble_eq_true rfl) i hi | refine upd_un ?_ rfl i hi; clear i hi; intro i hi)
      · rintro k g m' ⟨i, hi, rfl, rfl, g0, g1, g5, g6, g23, g24⟩ hg
        repeat (first
          | (refine W_op rfl rfl ?_; simp only [execE, at_t, at_c, upd_at, upd_none, args0, push_no, AMem.get_inn, AMem.next_inn, AMem.ds_inn, AMem.get_put, AMem.next_put, AMem.ds_put, AMem.get_new, AMem.next_new, AMem.ds_new, List.getD_cons_zero, List.getD_cons_succ, List.getD_nil, reduceIte, Nat.reduceEqDiff, Bool.or_true, Bool.true_or, Bool.or_false, Bool.false_or, Bool.not_true, Bool.not_false, Bool.false_eq_true, beq_self_eq_true, beq_true, Bool.true_beq, beq_false, Bool.false_beq, List.length_cons, List.length_nil, Nat.zero_add, Nat.add_zero, Nat.reduceAdd, Nat.reduceLeDiff, List.getElem?_cons_zero, List.getElem?_cons_succ, Option.map_some, List.map_cons, List.map_nil, true_and, and_true, and_self, g0, g1, g5, g6, g23, g24, binE, isShift, Bool.false_or, intBin, Wo_some])
          | (refine W_opgT rfl rfl ?hg ?_; (case hg => (simp only [upd_at, reduceIte, Nat.reduceEqDiff, Bool.not_true, Bool.not_false]; done)); simp only [execE, at_t, at_c, upd_at, upd_none, args0, push_no, AMem.get_inn, AMem.next_inn, AMem.ds_inn, AMem.get_put, AMem.next_put, AMem.ds_put, AMem.get_new, AMem.next_new, AMem.ds_new, List.getD_cons_zero, List.getD_cons_succ, List.getD_nil, reduceIte, Nat.reduceEqDiff, Bool.or_true, Bool.true_or, Bool.or_false, Bool.false_or, Bool.not_true, Bool.not_false, Bool.false_eq_true, beq_self_eq_true, beq_true, Bool.true_beq, beq_false, Bool.false_beq, List.length_cons, List.length_nil, Nat.zero_add, Nat.add_zero, Nat.reduceAdd, Nat.reduceLeDiff, List.getElem?_cons_zero, List.getElem?_cons_succ, Option.map_some, List.map_cons, List.map_nil, true_and, and_true, and_self, g0, g1, g5, g6, g23, g24, binE, isShift, Bool.false_or, intBin, Wo_some])
          | (refine W_opgF rfl rfl ?hg ?_; (case hg => (simp only [upd_at, reduceIte, Nat.reduceEqDiff, Bool.not_true, Bool.not_false]; done)))
          | rw [W_seq] | rw [W_reg] | rw [push_no] | rw [W_onil] | rw [W_skip] | rw [W_blk] | rw [W_b] | refine W_regd0 ?_)
        refine W_cond ?_
        simp only [execE, at_t, at_c, upd_at, upd_none, args0, push_no, AMem.get_inn, AMem.next_inn, AMem.ds_inn, AMem.get_put, AMem.next_put, AMem.ds_put, AMem.get_new, AMem.next_new, AMem.ds_new, List.getD_cons_zero, List.getD_cons_succ, List.getD_nil, reduceIte, Nat.reduceEqDiff, Bool.or_true, Bool.true_or, Bool.or_false, Bool.false_or, Bool.not_true, Bool.not_false, Bool.false_eq_true, beq_self_eq_true, beq_true, Bool.true_beq, beq_false, Bool.false_beq, List.length_cons, List.length_nil, Nat.zero_add, Nat.add_zero, Nat.reduceAdd, Nat.reduceLeDiff, List.getElem?_cons_zero, List.getElem?_cons_succ, Option.map_some, List.map_cons, List.map_nil, true_and, and_true, and_self]
        refine WC_split (fun ht => ?_) (fun hf => ?_)
        · have hlt : i < (quote la).length := by simpa using ht
          obtain ⟨c, hcl⟩ : ∃ c, (quote la)[i]? = some c := ⟨_, List.getElem?_eq_getElem hlt⟩
          obtain ⟨r1, r2⟩ := quote_range la c (List.mem_of_getElem? hcl)
          have hC : decide ((c.toNat : Int) < 32) = false := by simp; omega
          have hD : decide ((c.toNat : Int) > 126) = false := by simp; omega
          have h0 : (0 : Int) ≤ (i : Int) := by omega
          repeat (first
            | (refine W_op rfl rfl ?_; simp only [execE, at_t, at_c, upd_at, upd_none, args0, push_no, AMem.get_inn, AMem.next_inn, AMem.ds_inn, AMem.get_put, AMem.next_put, AMem.ds_put, AMem.get_new, AMem.next_new, AMem.ds_new, List.getD_cons_zero, List.getD_cons_succ, List.getD_nil, reduceIte, Nat.reduceEqDiff, Bool.or_true, Bool.true_or, Bool.or_false, Bool.false_or, Bool.not_true, Bool.not_false, Bool.false_eq_true, beq_self_eq_true, beq_true, Bool.true_beq, beq_false, Bool.false_beq, List.length_cons, List.length_nil, Nat.zero_add, Nat.add_zero, Nat.reduceAdd, Nat.reduceLeDiff, List.getElem?_cons_zero, List.getElem?_cons_succ, Option.map_some, List.map_cons, List.map_nil, true_and, and_true, and_self, g0, g1, g5, g6, g23, g24, binE, isShift, Bool.false_or, intBin, h0, Int.toNat_natCast, hcl, hC, hD, Wo_some])
            | (refine W_opgT rfl rfl ?hg ?_; (case hg => (simp only [upd_at, reduceIte, Nat.reduceEqDiff, Bool.not_true, Bool.not_false]; done)); simp only [execE, at_t, at_c, upd_at, upd_none, args0, push_no, AMem.get_inn, AMem.next_inn, AMem.ds_inn, AMem.get_put, AMem.next_put, AMem.ds_put, AMem.get_new, AMem.next_new, AMem.ds_new, List.getD_cons_zero, List.getD_cons_succ, List.getD_nil, reduceIte, Nat.reduceEqDiff, Bool.or_true, Bool.true_or, Bool.or_false, Bool.false_or, Bool.not_true, Bool.not_false, Bool.false_eq_true, beq_self_eq_true, beq_true, Bool.true_beq, beq_false, Bool.false_beq, List.length_cons, List.length_nil, Nat.zero_add, Nat.add_zero, Nat.reduceAdd, Nat.reduceLeDiff, List.getElem?_cons_zero, List.getElem?_cons_succ, Option.map_some, List.map_cons, List.map_nil, true_and, and_true, and_self, g0, g1, g5, g6, g23, g24, binE, isShift, Bool.false_or, intBin, h0, Int.toNat_natCast, hcl, hC, hD, Wo_some])
            | (refine W_opgF rfl rfl ?hg ?_; (case hg => (simp only [upd_at, reduceIte, Nat.reduceEqDiff, Bool.not_true, Bool.not_false]; done)))
            | rw [W_seq] | rw [W_reg] | rw [push_no] | rw [W_onil] | rw [W_skip] | rw [W_blk] | rw [W_b] | refine W_regd0 ?_)
          refine W_cond ?_
          simp only [execE, at_t, at_c, upd_at, upd_none, args0, push_no, AMem.get_inn, AMem.next_inn, AMem.ds_inn, AMem.get_put, AMem.next_put, AMem.ds_put, AMem.get_new, AMem.next_new, AMem.ds_new, List.getD_cons_zero, List.getD_cons_succ, List.getD_nil, reduceIte, Nat.reduceEqDiff, Bool.or_true, Bool.true_or, Bool.or_false, Bool.false_or, Bool.not_true, Bool.not_false, Bool.false_eq_true, beq_self_eq_true, beq_true, Bool.true_beq, beq_false, Bool.false_beq, List.length_cons, List.length_nil, Nat.zero_add, Nat.add_zero, Nat.reduceAdd, Nat.reduceLeDiff, List.getElem?_cons_zero, List.getElem?_cons_succ, Option.map_some, List.map_cons, List.map_nil, true_and, and_true, and_self, WC]
          repeat (first
            | (refine W_op rfl rfl ?_; simp only [execE, at_t, at_c, upd_at, upd_none, args0, push_no, AMem.get_inn, AMem.next_inn, AMem.ds_inn, AMem.get_put, AMem.next_put, AMem.ds_put, AMem.get_new, AMem.next_new, AMem.ds_new, List.getD_cons_zero, List.getD_cons_succ, List.getD_nil, reduceIte, Nat.reduceEqDiff, Bool.or_true, Bool.true_or, Bool.or_false, Bool.false_or, Bool.not_true, Bool.not_false, Bool.false_eq_true, beq_self_eq_true, beq_true, Bool.true_beq, beq_false, Bool.false_beq, List.length_cons, List.length_nil, Nat.zero_add, Nat.add_zero, Nat.reduceAdd, Nat.reduceLeDiff, List.getElem?_cons_zero, List.getElem?_cons_succ, Option.map_some, List.map_cons, List.map_nil, true_and, and_true, and_self, binE, isShift, Bool.false_or, intBin, g24, Wo_some])
            | (refine W_opgT rfl rfl ?hg ?_; (case hg => (simp only [upd_at, reduceIte, Nat.reduceEqDiff, Bool.not_true, Bool.not_false]; done)); simp only [execE, at_t, at_c, upd_at, upd_none, args0, push_no, AMem.get_inn, AMem.next_inn, AMem.ds_inn, AMem.get_put, AMem.next_put, AMem.ds_put, AMem.get_new, AMem.next_new, AMem.ds_new, List.getD_cons_zero, List.getD_cons_succ, List.getD_nil, reduceIte, Nat.reduceEqDiff, Bool.or_true, Bool.true_or, Bool.or_false, Bool.false_or, Bool.not_true, Bool.not_false, Bool.false_eq_true, beq_self_eq_true, beq_true, Bool.true_beq, beq_false, Bool.false_beq, List.length_cons, List.length_nil, Nat.zero_add, Nat.add_zero, Nat.reduceAdd, Nat.reduceLeDiff, List.getElem?_cons_zero, List.getElem?_cons_succ, Option.map_some, List.map_cons, List.map_nil, true_and, and_true, and_self, binE, isShift, Bool.false_or, intBin, g24, Wo_some])
            | (refine W_opgF rfl rfl ?hg ?_; (case hg => (simp only [upd_at, reduceIte, Nat.reduceEqDiff, Bool.not_true, Bool.not_false]; done)))
            | rw [W_seq] | rw [W_reg] | rw [push_no] | rw [W_onil] | rw [W_skip] | rw [W_blk] | rw [W_b] | refine W_regd0 ?_)
          refine W_j ?_ ?_
          · repeat (first | exact hg | refine upd_un ?_ rfl)
          · refine ⟨(quote la).length - (i + 1), by omega, i + 1, by omega, rfl, rfl, ?_, ?_, ?_, ?_, ?_, ?_⟩
            · skip
              simp only [execE, at_t, at_c, upd_at, upd_none, args0, push_no, AMem.get_inn, AMem.next_inn, AMem.ds_inn, AMem.get_put, AMem.next_put, AMem.ds_put, AMem.get_new, AMem.next_new, AMem.ds_new, List.getD_cons_zero, List.getD_cons_succ, List.getD_nil, reduceIte, Nat.reduceEqDiff, Bool.or_true, Bool.true_or, Bool.or_false, Bool.false_or, Bool.not_true, Bool.not_false, Bool.false_eq_true, beq_self_eq_true, beq_true, Bool.true_beq, beq_false, Bool.false_beq, List.length_cons, List.length_nil, Nat.zero_add, Nat.add_zero, Nat.reduceAdd, Nat.reduceLeDiff, List.getElem?_cons_zero, List.getElem?_cons_succ, Option.map_some, List.map_cons, List.map_nil, true_and, and_true, and_self, g0]
            · skip
              simp only [execE, at_t, at_c, upd_at, upd_none, args0, push_no, AMem.get_inn, AMem.next_inn, AMem.ds_inn, AMem.get_put, AMem.next_put, AMem.ds_put, AMem.get_new, AMem.next_new, AMem.ds_new, List.getD_cons_zero, List.getD_cons_succ, List.getD_nil, reduceIte, Nat.reduceEqDiff, Bool.or_true, Bool.true_or, Bool.or_false, Bool.false_or, Bool.not_true, Bool.not_false, Bool.false_eq_true, beq_self_eq_true, beq_true, Bool.true_beq, beq_false, Bool.false_beq, List.length_cons, List.length_nil, Nat.zero_add, Nat.add_zero, Nat.reduceAdd, Nat.reduceLeDiff, List.getElem?_cons_zero, List.getElem?_cons_succ, Option.map_some, List.map_cons, List.map_nil, true_and, and_true, and_self, g1]
            · skip
              simp only [execE, at_t, at_c, upd_at, upd_none, args0, push_no, AMem.get_inn, AMem.next_inn, AMem.ds_inn, AMem.get_put, AMem.next_put, AMem.ds_put, AMem.get_new, AMem.next_new, AMem.ds_new, List.getD_cons_zero, List.getD_cons_succ, List.getD_nil, reduceIte, Nat.reduceEqDiff, Bool.or_true, Bool.true_or, Bool.or_false, Bool.false_or, Bool.not_true, Bool.not_false, Bool.false_eq_true, beq_self_eq_true, beq_true, Bool.true_beq, beq_false, Bool.false_beq, List.length_cons, List.length_nil, Nat.zero_add, Nat.add_zero, Nat.reduceAdd, Nat.reduceLeDiff, List.getElem?_cons_zero, List.getElem?_cons_succ, Option.map_some, List.map_cons, List.map_nil, true_and, and_true, and_self, g5]
            · skip
              simp only [execE, at_t, at_c, upd_at, upd_none, args0, push_no, AMem.get_inn, AMem.next_inn, AMem.ds_inn, AMem.get_put, AMem.next_put, AMem.ds_put, AMem.get_new, AMem.next_new, AMem.ds_new, List.getD_cons_zero, List.getD_cons_succ, List.getD_nil, reduceIte, Nat.reduceEqDiff, Bool.or_true, Bool.true_or, Bool.or_false, Bool.false_or, Bool.not_true, Bool.not_false, Bool.false_eq_true, beq_self_eq_true, beq_true, Bool.true_beq, beq_false, Bool.false_beq, List.length_cons, List.length_nil, Nat.zero_add, Nat.add_zero, Nat.reduceAdd, Nat.reduceLeDiff, List.getElem?_cons_zero, List.getElem?_cons_succ, Option.map_some, List.map_cons, List.map_nil, true_and, and_true, and_self, g6]
            · skip
              simp only [execE, at_t, at_c, upd_at, upd_none, args0, push_no, AMem.get_inn, AMem.next_inn, AMem.ds_inn, AMem.get_put, AMem.next_put, AMem.ds_put, AMem.get_new, AMem.next_new, AMem.ds_new, List.getD_cons_zero, List.getD_cons_succ, List.getD_nil, reduceIte, Nat.reduceEqDiff, Bool.or_true, Bool.true_or, Bool.or_false, Bool.false_or, Bool.not_true, Bool.not_false, Bool.false_eq_true, beq_self_eq_true, beq_true, Bool.true_beq, beq_false, Bool.false_beq, List.length_cons, List.length_nil, Nat.zero_add, Nat.add_zero, Nat.reduceAdd, Nat.reduceLeDiff, List.getElem?_cons_zero, List.getElem?_cons_succ, Option.map_some, List.map_cons, List.map_nil, true_and, and_true, and_self, g23]
            · skip
              simp only [execE, at_t, at_c, upd_at, upd_none, args0, push_no, AMem.get_inn, AMem.next_inn, AMem.ds_inn, AMem.get_put, AMem.next_put, AMem.ds_put, AMem.get_new, AMem.next_new, AMem.ds_new, List.getD_cons_zero, List.getD_cons_succ, List.getD_nil, reduceIte, Nat.reduceEqDiff, Bool.or_true, Bool.true_or, Bool.or_false, Bool.false_or, Bool.not_true, Bool.not_false, Bool.false_eq_true, beq_self_eq_true, beq_true, Bool.true_beq, beq_false, Bool.false_beq, List.length_cons, List.length_nil, Nat.zero_add, Nat.add_zero, Nat.reduceAdd, Nat.reduceLeDiff, List.getElem?_cons_zero, List.getElem?_cons_succ, Option.map_some, List.map_cons, List.map_nil, true_and, and_true, and_self]
              rw [wrap64 (by omega) (by omega)]; rfl
        · refine W_exit rfl ?_
          repeat (first
            | (refine W_op rfl rfl ?_; simp only [execE, at_t, at_c, upd_at, upd_none, args0, push_no, AMem.get_inn, AMem.next_inn, AMem.ds_inn, AMem.get_put, AMem.next_put, AMem.ds_put, AMem.get_new, AMem.next_new, AMem.ds_new, List.getD_cons_zero, List.getD_cons_succ, List.getD_nil, reduceIte, Nat.reduceEqDiff, Bool.or_true, Bool.true_or, Bool.or_false, Bool.false_or, Bool.not_true, Bool.not_false, Bool.false_eq_true, beq_self_eq_true, beq_true, Bool.true_beq, beq_false, Bool.false_beq, List.length_cons, List.length_nil, Nat.zero_add, Nat.add_zero, Nat.reduceAdd, Nat.reduceLeDiff, List.getElem?_cons_zero, List.getElem?_cons_succ, Option.map_some, List.map_cons, List.map_nil, true_and, and_true, and_self, g0, g5, Wo_some])
            | (refine W_opgT rfl rfl ?hg ?_; (case hg => (simp only [upd_at, reduceIte, Nat.reduceEqDiff, Bool.not_true, Bool.not_false]; done)); simp only [execE, at_t, at_c, upd_at, upd_none, args0, push_no, AMem.get_inn, AMem.next_inn, AMem.ds_inn, AMem.get_put, AMem.next_put, AMem.ds_put, AMem.get_new, AMem.next_new, AMem.ds_new, List.getD_cons_zero, List.getD_cons_succ, List.getD_nil, reduceIte, Nat.reduceEqDiff, Bool.or_true, Bool.true_or, Bool.or_false, Bool.false_or, Bool.not_true, Bool.not_false, Bool.false_eq_true, beq_self_eq_true, beq_true, Bool.true_beq, beq_false, Bool.false_beq, List.length_cons, List.length_nil, Nat.zero_add, Nat.add_zero, Nat.reduceAdd, Nat.reduceLeDiff, List.getElem?_cons_zero, List.getElem?_cons_succ, Option.map_some, List.map_cons, List.map_nil, true_and, and_true, and_self, g0, g5, Wo_some])
            | (refine W_opgF rfl rfl ?hg ?_; (case hg => (simp only [upd_at, reduceIte, Nat.reduceEqDiff, Bool.not_true, Bool.not_false]; done)))
            | rw [W_seq] | rw [W_reg] | rw [push_no] | rw [W_onil] | rw [W_skip] | rw [W_blk] | rw [W_b] | refine W_regd0 ?_)
          refine W_callA rfl ?hargs (call35 ha3 hla) ?_
          case hargs => simp only [execE, at_t, at_c, upd_at, upd_none, args0, push_no, AMem.get_inn, AMem.next_inn, AMem.ds_inn, AMem.get_put, AMem.next_put, AMem.ds_put, AMem.get_new, AMem.next_new, AMem.ds_new, List.getD_cons_zero, List.getD_cons_succ, List.getD_nil, reduceIte, Nat.reduceEqDiff, Bool.or_true, Bool.true_or, Bool.or_false, Bool.false_or, Bool.not_true, Bool.not_false, Bool.false_eq_true, beq_self_eq_true, beq_true, Bool.true_beq, beq_false, Bool.false_beq, List.length_cons, List.length_nil, Nat.zero_add, Nat.add_zero, Nat.reduceAdd, Nat.reduceLeDiff, List.getElem?_cons_zero, List.getElem?_cons_succ, Option.map_some, List.map_cons, List.map_nil, true_and, and_true, and_self, g0] <;> rfl
          rintro v4 m4 ⟨rfl, hn4, hk4⟩ hs4
          have hca := fun e x hx => bytes_cvs (ha3.keep hn4 hk4) e x hx
          have hcb := fun e x hx => bytes_cvs (hb3.keep hn4 hk4) e x hx
          have hcvA := hca (X.at (args0 [])) (.c a) rfl
          have hcvB := hcb (X.at (args0 [])) (.c b) rfl
          simp only [execE, at_c] at hcvA hcvB
          repeat (first
            | (refine W_op rfl rfl ?_; simp only [execE, at_t, at_c, upd_at, upd_none, args0, push_no, AMem.get_inn, AMem.next_inn, AMem.ds_inn, AMem.get_put, AMem.next_put, AMem.ds_put, AMem.get_new, AMem.next_new, AMem.ds_new, List.getD_cons_zero, List.getD_cons_succ, List.getD_nil, reduceIte, Nat.reduceEqDiff, Bool.or_true, Bool.true_or, Bool.or_false, Bool.false_or, Bool.not_true, Bool.not_false, Bool.false_eq_true, beq_self_eq_true, beq_true, Bool.true_beq, beq_false, Bool.false_beq, List.length_cons, List.length_nil, Nat.zero_add, Nat.add_zero, Nat.reduceAdd, Nat.reduceLeDiff, List.getElem?_cons_zero, List.getElem?_cons_succ, Option.map_some, List.map_cons, List.map_nil, true_and, and_true, and_self, g0, g1, g5, g6, binE, eqS, decide_true, hcvA, hcvB, Wo_some])
            | (refine W_opgT rfl rfl ?hg ?_; (case hg => (simp only [upd_at, reduceIte, Nat.reduceEqDiff, Bool.not_true, Bool.not_false]; done)); simp only [execE, at_t, at_c, upd_at, upd_none, args0, push_no, AMem.get_inn, AMem.next_inn, AMem.ds_inn, AMem.get_put, AMem.next_put, AMem.ds_put, AMem.get_new, AMem.next_new, AMem.ds_new, List.getD_cons_zero, List.getD_cons_succ, List.getD_nil, reduceIte, Nat.reduceEqDiff, Bool.or_true, Bool.true_or, Bool.or_false, Bool.false_or, Bool.not_true, Bool.not_false, Bool.false_eq_true, beq_self_eq_true, beq_true, Bool.true_beq, beq_false, Bool.false_beq, List.length_cons, List.length_nil, Nat.zero_add, Nat.add_zero, Nat.reduceAdd, Nat.reduceLeDiff, List.getElem?_cons_zero, List.getElem?_cons_succ, Option.map_some, List.map_cons, List.map_nil, true_and, and_true, and_self, g0, g1, g5, g6, binE, eqS, decide_true, hcvA, hcvB, Wo_some])
            | (refine W_opgF rfl rfl ?hg ?_; (case hg => (simp only [upd_at, reduceIte, Nat.reduceEqDiff, Bool.not_true, Bool.not_false]; done)))
            | rw [W_seq] | rw [W_reg] | rw [push_no] | rw [W_onil] | rw [W_skip] | rw [W_blk] | rw [W_b] | refine W_regd0 ?_)
          refine W_getRet (by repeat (first | exact hg | refine upd_un ?_ rfl)) ?_
          refine ⟨by rw [hs4.ds]; exact hds3, _, rfl, ?_⟩
          show AV.b (decide (quote la = quote lb) == decide (la = lb)) = AV.b true
          have : decide (quote la = quote lb) = decide (la = lb) := by
            by_cases hab : la = lb
            · subst hab; simp
            · have : quote la ≠ quote lb := fun e => hab (quote_inj e)
              simp [hab, this]
          rw [this]; simp
    · skip
      repeat (first
        | (refine W_op rfl rfl ?_; simp only [execE, at_t, at_c, upd_at, upd_none, args0, push_no, AMem.get_inn, AMem.next_inn, AMem.ds_inn, AMem.get_put, AMem.next_put, AMem.ds_put, AMem.get_new, AMem.next_new, AMem.ds_new, List.getD_cons_zero, List.getD_cons_succ, List.getD_nil, reduceIte, Nat.reduceEqDiff, Bool.or_true, Bool.true_or, Bool.or_false, Bool.false_or, Bool.not_true, Bool.not_false, Bool.false_eq_true, beq_self_eq_true, beq_true, Bool.true_beq, beq_false, Bool.false_beq, List.length_cons, List.length_nil, Nat.zero_add, Nat.add_zero, Nat.reduceAdd, Nat.reduceLeDiff, List.getElem?_cons_zero, List.getElem?_cons_succ, Option.map_some, List.map_cons, List.map_nil, true_and, and_true, and_self, hlenA, hlenB, binE, isShift, Bool.false_or, intBin, hA, hB, Wo_some])
        | (refine W_opgT rfl rfl ?hg ?_; (case hg => (simp only [upd_at, reduceIte, Nat.reduceEqDiff, Bool.not_true, Bool.not_false]; done)); simp only [execE, at_t, at_c, upd_at, upd_none, args0, push_no, AMem.get_inn, AMem.next_inn, AMem.ds_inn, AMem.get_put, AMem.next_put, AMem.ds_put, AMem.get_new, AMem.next_new, AMem.ds_new, List.getD_cons_zero, List.getD_cons_succ, List.getD_nil, reduceIte, Nat.reduceEqDiff, Bool.or_true, Bool.true_or, Bool.or_false, Bool.false_or, Bool.not_true, Bool.not_false, Bool.false_eq_true, beq_self_eq_true, beq_true, Bool.true_beq, beq_false, Bool.false_beq, List.length_cons, List.length_nil, Nat.zero_add, Nat.add_zero, Nat.reduceAdd, Nat.reduceLeDiff, List.getElem?_cons_zero, List.getElem?_cons_succ, Option.map_some, List.map_cons, List.map_nil, true_and, and_true, and_self, hlenA, hlenB, binE, isShift, Bool.false_or, intBin, hA, hB, Wo_some])
        | (refine W_opgF rfl rfl ?hg ?_; (case hg => (simp only [upd_at, reduceIte, Nat.reduceEqDiff, Bool.not_true, Bool.not_false]; done)))
        | rw [W_seq] | rw [W_reg] | rw [push_no] | rw [W_onil] | rw [W_skip] | rw [W_blk] | rw [W_b] | refine W_regd0 ?_)
      refine W_cond ?_
      simp only [execE, at_t, at_c, upd_at, upd_none, args0, push_no, AMem.get_inn, AMem.next_inn, AMem.ds_inn, AMem.get_put, AMem.next_put, AMem.ds_put, AMem.get_new, AMem.next_new, AMem.ds_new, List.getD_cons_zero, List.getD_cons_succ, List.getD_nil, reduceIte, Nat.reduceEqDiff, Bool.or_true, Bool.true_or, Bool.or_false, Bool.false_or, Bool.not_true, Bool.not_false, Bool.false_eq_true, beq_self_eq_true, beq_true, Bool.true_beq, beq_false, Bool.false_beq, List.length_cons, List.length_nil, Nat.zero_add, Nat.add_zero, Nat.reduceAdd, Nat.reduceLeDiff, List.getElem?_cons_zero, List.getElem?_cons_succ, Option.map_some, List.map_cons, List.map_nil, true_and, and_true, and_self, WC]
      repeat (first
        | (refine W_op rfl rfl ?_; simp only [execE, at_t, at_c, upd_at, upd_none, args0, push_no, AMem.get_inn, AMem.next_inn, AMem.ds_inn, AMem.get_put, AMem.next_put, AMem.ds_put, AMem.get_new, AMem.next_new, AMem.ds_new, List.getD_cons_zero, List.getD_cons_succ, List.getD_nil, reduceIte, Nat.reduceEqDiff, Bool.or_true, Bool.true_or, Bool.or_false, Bool.false_or, Bool.not_true, Bool.not_false, Bool.false_eq_true, beq_self_eq_true, beq_true, Bool.true_beq, beq_false, Bool.false_beq, List.length_cons, List.length_nil, Nat.zero_add, Nat.add_zero, Nat.reduceAdd, Nat.reduceLeDiff, List.getElem?_cons_zero, List.getElem?_cons_succ, Option.map_some, List.map_cons, List.map_nil, true_and, and_true, and_self, Wo_some])
        | (refine W_opgT rfl rfl ?hg ?_; (case hg => (simp only [upd_at, reduceIte, Nat.reduceEqDiff, Bool.not_true, Bool.not_false]; done)); simp only [execE, at_t, at_c, upd_at, upd_none, args0, push_no, AMem.get_inn, AMem.next_inn, AMem.ds_inn, AMem.get_put, AMem.next_put, AMem.ds_put, AMem.get_new, AMem.next_new, AMem.ds_new, List.getD_cons_zero, List.getD_cons_succ, List.getD_nil, reduceIte, Nat.reduceEqDiff, Bool.or_true, Bool.true_or, Bool.or_false, Bool.false_or, Bool.not_true, Bool.not_false, Bool.false_eq_true, beq_self_eq_true, beq_true, Bool.true_beq, beq_false, Bool.false_beq, List.length_cons, List.length_nil, Nat.zero_add, Nat.add_zero, Nat.reduceAdd, Nat.reduceLeDiff, List.getElem?_cons_zero, List.getElem?_cons_succ, Option.map_some, List.map_cons, List.map_nil, true_and, and_true, and_self, Wo_some])
        | (refine W_opgF rfl rfl ?hg ?_; (case hg => (simp only [upd_at, reduceIte, Nat.reduceEqDiff, Bool.not_true, Bool.not_false]; done)))
        | rw [W_seq] | rw [W_reg] | rw [push_no] | rw [W_onil] | rw [W_skip] | rw [W_blk] | rw [W_b] | refine W_regd0 ?_)
      refine W_getRet (by repeat (first | exact args0_un (Nat.le_of_ble_eq_true rfl) | refine upd_un ?_ rfl)) ?_
      exact ⟨hs1.ds, _, rfl, rfl⟩
  · skip
    repeat (first
      | (refine W_op rfl rfl ?_; simp only [execE, at_t, at_c, upd_at, upd_none, args0, push_no, AMem.get_inn, AMem.next_inn, AMem.ds_inn, AMem.get_put, AMem.next_put, AMem.ds_put, AMem.get_new, AMem.next_new, AMem.ds_new, List.getD_cons_zero, List.getD_cons_succ, List.getD_nil, reduceIte, Nat.reduceEqDiff, Bool.or_true, Bool.true_or, Bool.or_false, Bool.false_or, Bool.not_true, Bool.not_false, Bool.false_eq_true, beq_self_eq_true, beq_true, Bool.true_beq, beq_false, Bool.false_beq, List.length_cons, List.length_nil, Nat.zero_add, Nat.add_zero, Nat.reduceAdd, Nat.reduceLeDiff, List.getElem?_cons_zero, List.getElem?_cons_succ, Option.map_some, List.map_cons, List.map_nil, true_and, and_true, and_self, hlenA, hlenB, binE, isShift, Bool.false_or, intBin, hA, Wo_some])
      | (refine W_opgT rfl rfl ?hg ?_; (case hg => (simp only [upd_at, reduceIte, Nat.reduceEqDiff, Bool.not_true, Bool.not_false]; done)); simp only [execE, at_t, at_c, upd_at, upd_none, args0, push_no, AMem.get_inn, AMem.next_inn, AMem.ds_inn, AMem.get_put, AMem.next_put, AMem.ds_put, AMem.get_new, AMem.next_new, AMem.ds_new, List.getD_cons_zero, List.getD_cons_succ, List.getD_nil, reduceIte, Nat.reduceEqDiff, Bool.or_true, Bool.true_or, Bool.or_false, Bool.false_or, Bool.not_true, Bool.not_false, Bool.false_eq_true, beq_self_eq_true, beq_true, Bool.true_beq, beq_false, Bool.false_beq, List.length_cons, List.length_nil, Nat.zero_add, Nat.add_zero, Nat.reduceAdd, Nat.reduceLeDiff, List.getElem?_cons_zero, List.getElem?_cons_succ, Option.map_some, List.map_cons, List.map_nil, true_and, and_true, and_self, hlenA, hlenB, binE, isShift, Bool.false_or, intBin, hA, Wo_some])
      | (refine W_opgF rfl rfl ?hg ?_; (case hg => (simp only [upd_at, reduceIte, Nat.reduceEqDiff, Bool.not_true, Bool.not_false]; done)))
      | rw [W_seq] | rw [W_reg] | rw [push_no] | rw [W_onil] | rw [W_skip] | rw [W_blk] | rw [W_b] | refine W_regd0 ?_)
    refine W_cond ?_
    simp only [execE, at_t, at_c, upd_at, upd_none, args0, push_no, AMem.get_inn, AMem.next_inn, AMem.ds_inn, AMem.get_put, AMem.next_put, AMem.ds_put, AMem.get_new, AMem.next_new, AMem.ds_new, List.getD_cons_zero, List.getD_cons_succ, List.getD_nil, reduceIte, Nat.reduceEqDiff, Bool.or_true, Bool.true_or, Bool.or_false, Bool.false_or, Bool.not_true, Bool.not_false, Bool.false_eq_true, beq_self_eq_true, beq_true, Bool.true_beq, beq_false, Bool.false_beq, List.length_cons, List.length_nil, Nat.zero_add, Nat.add_zero, Nat.reduceAdd, Nat.reduceLeDiff, List.getElem?_cons_zero, List.getElem?_cons_succ, Option.map_some, List.map_cons, List.map_nil, true_and, and_true, and_self, WC]
    repeat (first
      | (refine W_op rfl rfl ?_; simp only [execE, at_t, at_c, upd_at, upd_none, args0, push_no, AMem.get_inn, AMem.next_inn, AMem.ds_inn, AMem.get_put, AMem.next_put, AMem.ds_put, AMem.get_new, AMem.next_new, AMem.ds_new, List.getD_cons_zero, List.getD_cons_succ, List.getD_nil, reduceIte, Nat.reduceEqDiff, Bool.or_true, Bool.true_or, Bool.or_false, Bool.false_or, Bool.not_true, Bool.not_false, Bool.false_eq_true, beq_self_eq_true, beq_true, Bool.true_beq, beq_false, Bool.false_beq, List.length_cons, List.length_nil, Nat.zero_add, Nat.add_zero, Nat.reduceAdd, Nat.reduceLeDiff, List.getElem?_cons_zero, List.getElem?_cons_succ, Option.map_some, List.map_cons, List.map_nil, true_and, and_true, and_self, Wo_some])
      | (refine W_opgT rfl rfl ?hg ?_; (case hg => (simp only [upd_at, reduceIte, Nat.reduceEqDiff, Bool.not_true, Bool.not_false]; done)); simp only [execE, at_t, at_c, upd_at, upd_none, args0, push_no, AMem.get_inn, AMem.next_inn, AMem.ds_inn, AMem.get_put, AMem.next_put, AMem.ds_put, AMem.get_new, AMem.next_new, AMem.ds_new, List.getD_cons_zero, List.getD_cons_succ, List.getD_nil, reduceIte, Nat.reduceEqDiff, Bool.or_true, Bool.true_or, Bool.or_false, Bool.false_or, Bool.not_true, Bool.not_false, Bool.false_eq_true, beq_self_eq_true, beq_true, Bool.true_beq, beq_false, Bool.false_beq, List.length_cons, List.length_nil, Nat.zero_add, Nat.add_zero, Nat.reduceAdd, Nat.reduceLeDiff, List.getElem?_cons_zero, List.getElem?_cons_succ, Option.map_some, List.map_cons, List.map_nil, true_and, and_true, and_self, Wo_some])
      | (refine W_opgF rfl rfl ?hg ?_; (case hg => (simp only [upd_at, reduceIte, Nat.reduceEqDiff, Bool.not_true, Bool.not_false]; done)))
      | rw [W_seq] | rw [W_reg] | rw [push_no] | rw [W_onil] | rw [W_skip] | rw [W_blk] | rw [W_b] | refine W_regd0 ?_)
    refine W_getRet (by repeat (first | exact args0_un (Nat.le_of_ble_eq_true rfl) | refine upd_un ?_ rfl)) ?_
    exact ⟨hs1.ds, _, rfl, rfl⟩

end Go.Proofs.YtnbdamdcmofafaaGreatDoor
