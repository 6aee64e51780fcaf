/- Trees of states: grown from a walk that is ranged over. No condition. -/
import Derived.Test.YtnbdamdcmofafaaGreatDoorGwGY
namespace Go.Proofs.YtnbdamdcmofafaaGreatDoor
open Go.Vi
open AMem (get_inn next_inn ds_inn get_put next_put ds_put get_new next_new ds_new)
open List (getD_cons_zero getD_cons_succ getD_nil length_cons length_nil getElem?_cons_zero getElem?_cons_succ map_cons map_nil)
set_option linter.unusedSimpArgs false
set_option linter.unusedVariables false

def Sts (m : AMem) (av : AV) (l : List (List AV)) : Prop :=
  (l = [] ∧ (av = .sl none 0 0 true ∨ av = .es)) ∨ ∃ j cap c, av = .sl (some (j, 0)) l.length cap true ∧ j < m.next ∧ m.get j = some (.cells c false ⟨1, none⟩) ∧ l.length * 8 ≤ c.length ∧ ∀ i s, l[i]? = some s → (c.drop (i * 8)).take 8 = s

theorem Sts.keep {m m' : AMem} {av : AV} {l : List (List AV)} {fp : List Nat} (h : Sts m av l) (k : Keep m m' fp) (hn : ∀ j o n c e, av = .sl (some (j, o)) n c e → j ∉ fp) : Sts m' av l := by
  rcases h with h | ⟨j, cap, c, h1, h2, h3, h4⟩
  · exact .inl h
  · exact .inr ⟨j, cap, c, h1, Nat.lt_of_lt_of_le h2 k.next, k.at h2 (hn _ _ _ _ _ h1) h3, h4⟩

theorem Sts.lenF {m : AMem} {av : AV} {l : List (List AV)} (h : Sts m av l) (e : X → AV) (x : X) (m2 : AMem) (hx : e x = av) : execE (.len 1 x) e m2 = some (.i .i64 l.length, m2) := by
  rcases h with ⟨rfl, rfl | rfl⟩ | ⟨j, cap, c, rfl, _⟩ <;> simp only [execE, hx] <;> rfl

theorem Sts.at_ {m : AMem} {av : AV} {l : List (List AV)} (h : Sts m av l) {i : Nat} {s : List AV} (hi : l[i]? = some s) : ∃ j cap c, av = .sl (some (j, 0)) l.length cap true ∧ j < m.next ∧ m.get j = some (.cells c false ⟨1, none⟩) ∧ i * 8 + 8 ≤ c.length ∧ (c.drop (i * 8)).take 8 = s := by
  rcases h with ⟨rfl, _⟩ | ⟨j, cap, c, h1, h2, h3, h4, h5⟩
  · simp at hi
  · have := (List.getElem?_eq_some_iff.1 hi).1
    exact ⟨j, cap, c, h1, h2, h3, by omega, h5 i s hi⟩

set_option maxHeartbeats 1000000 in
theorem call57 {P : Nat → AMem → Prop} {m : AMem} {av : AV} {l : List (List AV)} {lp bj : Nat} (hP : ∀ i m' m'', P i m' → Keep m' m'' [] → P i m'') (hS : ∀ i m', P i m' → Sts m' av l) (hb : m.get bj = some (.cells [av] true ⟨1, none⟩)) (h0 : P 0 m) (h8 : ∀ s ∈ l, s.length = 8 ∧ s.all AV.one = true) (hl : l.length ≤ 600)
    (hy : ∀ i s m', l[i]? = some s → P i m' → CallC T (.y lp) [.i .i64 i, .agg s] m' (fun v m'' => v = .b true ∧ P (i + 1) m'')) :
    Vi.Call T 57 [.yl lp, .p (some (bj, 0))] m (fun _ m' => P l.length m') := by
  refine Vi.Call.ofP T57 (Nat.le_of_ble_eq_true rfl) ?_
  unfold v57
  have hlen := (hS 0 m h0).lenF
  repeat (first
    | ((first | refine W_op rfl rfl ?_ | (refine W_opgT rfl rfl ?hg ?_; (case hg => (simp only [upd_at, reduceIte, Nat.reduceEqDiff, Bool.not_true, Bool.not_false]; done)))); simp only [decide_true, decide_false, execE, unE, at_t, at_c, upd_at, upd_none, args0, push_no, get_inn, next_inn, ds_inn, get_put, next_put, ds_put, get_new, next_new, ds_new, getD_cons_zero, getD_cons_succ, getD_nil, reduceIte, Nat.reduceEqDiff, Bool.or_true, Bool.true_or, Bool.or_false, Bool.false_or, Bool.not_true, Bool.not_false, Bool.false_eq_true, beq_self_eq_true, beq_true, Bool.true_beq, beq_false, Bool.false_beq, length_cons, length_nil, Nat.zero_add, Nat.add_zero, Nat.reduceAdd, Nat.reduceLeDiff, getElem?_cons_zero, getElem?_cons_succ, Option.map_some, map_cons, map_nil, true_and, and_true, and_self, hb, ↓hlen, Wo_some])
    | (refine W_opgF rfl rfl ?hg ?_; (case hg => (simp only [upd_at, reduceIte, Nat.reduceEqDiff, Bool.not_true, Bool.not_false]; done)))
    | rw [W_seq] | rw [W_reg] | rw [push_no] | rw [W_onil] | rw [W_skip] | rw [W_blk] | rw [W_b] | refine W_regd0 ?_)
  refine W_loop (fun k g' m' => ∃ i, i ≤ l.length ∧ k = l.length - i ∧ g' 0 = .yl lp ∧ g' 5 = av ∧ g' 6 = .i .i64 l.length ∧ g' 7 = .i .i64 i ∧ P i m' ∧ m'.ds = []) l.length ?_ ?_ ?_
  · refine ⟨0, Nat.zero_le _, rfl, ?_, ?_, ?_, ?_, hP _ _ _ h0 (Keep.inn m), rfl⟩
    · skip
      simp only [upd_at, upd_none, reduceIte, Nat.reduceEqDiff, args0, getD_cons_zero, getD_cons_succ, getD_nil]
    · skip
      simp only [upd_at, upd_none, reduceIte, Nat.reduceEqDiff, args0, getD_cons_zero, getD_cons_succ, getD_nil]
    · skip
      simp only [upd_at, upd_none, reduceIte, Nat.reduceEqDiff, args0, getD_cons_zero, getD_cons_succ, getD_nil]
    · skip
      simp only [upd_at, upd_none, reduceIte, Nat.reduceEqDiff, args0, getD_cons_zero, getD_cons_succ, getD_nil, Int.ofNat_zero]
      try rfl
  · intro i hi
    repeat (first | exact args0_un (Nat.le_of_ble_eq_true rfl) i hi | refine upd_un ?_ rfl i hi; clear i hi; intro i hi)
  · rintro k g m1 ⟨i, hi, rfl, g0, g5, g6, g7, hp, hds⟩ hg
    repeat (first
      | ((first | refine W_op rfl rfl ?_ | (refine W_opgT rfl rfl ?hg ?_; (case hg => (simp only [upd_at, reduceIte, Nat.reduceEqDiff, Bool.not_true, Bool.not_false]; done)))); simp only [decide_true, decide_false, execE, unE, at_t, at_c, upd_at, upd_none, args0, push_no, get_inn, next_inn, ds_inn, get_put, next_put, ds_put, get_new, next_new, ds_new, getD_cons_zero, getD_cons_succ, getD_nil, reduceIte, Nat.reduceEqDiff, Bool.or_true, Bool.true_or, Bool.or_false, Bool.false_or, Bool.not_true, Bool.not_false, Bool.false_eq_true, beq_self_eq_true, beq_true, Bool.true_beq, beq_false, Bool.false_beq, length_cons, length_nil, Nat.zero_add, Nat.add_zero, Nat.reduceAdd, Nat.reduceLeDiff, getElem?_cons_zero, getElem?_cons_succ, Option.map_some, map_cons, map_nil, true_and, and_true, and_self, g6, g7, binE, isShift, intBin, Wo_some])
      | (refine W_opgF rfl rfl ?hg ?_; (case hg => (simp only [upd_at, reduceIte, Nat.reduceEqDiff, Bool.not_true, Bool.not_false]; done)))
      | rw [W_seq] | rw [W_reg] | rw [push_no] | rw [W_onil] | rw [W_skip] | rw [W_blk] | rw [W_b] | refine W_regd0 ?_)
    refine W_cond ?_
    simp only [decide_true, decide_false, execE, unE, at_t, at_c, upd_at, upd_none, args0, push_no, get_inn, next_inn, ds_inn, get_put, next_put, ds_put, get_new, next_new, ds_new, getD_cons_zero, getD_cons_succ, getD_nil, reduceIte, Nat.reduceEqDiff, Bool.or_true, Bool.true_or, Bool.or_false, Bool.false_or, Bool.not_true, Bool.not_false, Bool.false_eq_true, beq_self_eq_true, beq_true, Bool.true_beq, beq_false, Bool.false_beq, length_cons, length_nil, Nat.zero_add, Nat.add_zero, Nat.reduceAdd, Nat.reduceLeDiff, getElem?_cons_zero, getElem?_cons_succ, Option.map_some, map_cons, map_nil, true_and, and_true, and_self]
    refine WC_split (fun ht => ?_) (fun hf => ?_)
    · have hlt : i < l.length := by simpa using ht
      obtain ⟨s, hs⟩ : ∃ s, l[i]? = some s := ⟨_, List.getElem?_eq_getElem hlt⟩
      obtain ⟨j, cap, c, hav, hj, hgj, hcl, hct⟩ := (hS i m1 hp).at_ hs
      obtain ⟨hs8, hs1⟩ := h8 s (List.mem_of_getElem? hs)
      have ht8 := take_all hs8
      have hix : (0 ≤ (i : Int) ∧ (i : Int) < (l.length : Int)) := ⟨by omega, by omega⟩
      have hw : IntKind.i64.wrap ((i : Int) + 1) = ((i + 1 : Nat) : Int) := (wrap64' (n := (i : Int) + 1) (by omega) (by omega)).trans (by omega)
      repeat (first
        | ((first | refine W_op rfl rfl ?_ | (refine W_opgT rfl rfl ?hg ?_; (case hg => (simp only [upd_at, reduceIte, Nat.reduceEqDiff, Bool.not_true, Bool.not_false]; done)))); simp only [decide_true, decide_false, execE, unE, at_t, at_c, upd_at, upd_none, args0, push_no, get_inn, next_inn, ds_inn, get_put, next_put, ds_put, get_new, next_new, ds_new, getD_cons_zero, getD_cons_succ, getD_nil, reduceIte, Nat.reduceEqDiff, Bool.or_true, Bool.true_or, Bool.or_false, Bool.false_or, Bool.not_true, Bool.not_false, Bool.false_eq_true, beq_self_eq_true, beq_true, Bool.true_beq, beq_false, Bool.false_beq, length_cons, length_nil, Nat.zero_add, Nat.add_zero, Nat.reduceAdd, Nat.reduceLeDiff, getElem?_cons_zero, getElem?_cons_succ, Option.map_some, map_cons, map_nil, true_and, and_true, and_self, g0, g5, g6, g7, hav, hix, Int.toNat_natCast, rd, hgj, hcl, hct, AV.cells, hs8, hs1, splice, List.take_zero, List.nil_append, List.drop_succ_cons, List.drop_nil, List.drop_zero, List.append_nil, ht8, Nat.le_refl, Wo_some])
        | (refine W_opgF rfl rfl ?hg ?_; (case hg => (simp only [upd_at, reduceIte, Nat.reduceEqDiff, Bool.not_true, Bool.not_false]; done)))
        | rw [W_seq] | rw [W_reg] | rw [push_no] | rw [W_onil] | rw [W_skip] | rw [W_blk] | rw [W_b] | refine W_regd0 ?_)
      refine W_cvY rfl ?hfv ?hargs (hy i s _ hs (hP _ _ _ hp ((Keep.new m1 _).trans (Keep.put _ _ _) (by simp)))) ?_
      case hfv => (simp only [decide_true, decide_false, execE, unE, at_t, at_c, upd_at, upd_none, args0, push_no, get_inn, next_inn, ds_inn, get_put, next_put, ds_put, get_new, next_new, ds_new, getD_cons_zero, getD_cons_succ, getD_nil, reduceIte, Nat.reduceEqDiff, Bool.or_true, Bool.true_or, Bool.or_false, Bool.false_or, Bool.not_true, Bool.not_false, Bool.false_eq_true, beq_self_eq_true, beq_true, Bool.true_beq, beq_false, Bool.false_beq, length_cons, length_nil, Nat.zero_add, Nat.add_zero, Nat.reduceAdd, Nat.reduceLeDiff, getElem?_cons_zero, getElem?_cons_succ, Option.map_some, map_cons, map_nil, true_and, and_true, and_self, g0, g7]; done)
      case hargs => simp only [decide_true, decide_false, execE, unE, at_t, at_c, upd_at, upd_none, args0, push_no, get_inn, next_inn, ds_inn, get_put, next_put, ds_put, get_new, next_new, ds_new, getD_cons_zero, getD_cons_succ, getD_nil, reduceIte, Nat.reduceEqDiff, Bool.or_true, Bool.true_or, Bool.or_false, Bool.false_or, Bool.not_true, Bool.not_false, Bool.false_eq_true, beq_self_eq_true, beq_true, Bool.true_beq, beq_false, Bool.false_beq, length_cons, length_nil, Nat.zero_add, Nat.add_zero, Nat.reduceAdd, Nat.reduceLeDiff, getElem?_cons_zero, getElem?_cons_succ, Option.map_some, map_cons, map_nil, true_and, and_true, and_self, g0, g7] <;> rfl
      rintro v m2 ⟨rfl, hp2⟩ hs2
      repeat (first
        | ((first | refine W_op rfl rfl ?_ | (refine W_opgT rfl rfl ?hg ?_; (case hg => (simp only [upd_at, reduceIte, Nat.reduceEqDiff, Bool.not_true, Bool.not_false]; done)))); simp only [decide_true, decide_false, execE, unE, at_t, at_c, upd_at, upd_none, args0, push_no, get_inn, next_inn, ds_inn, get_put, next_put, ds_put, get_new, next_new, ds_new, getD_cons_zero, getD_cons_succ, getD_nil, reduceIte, Nat.reduceEqDiff, Bool.or_true, Bool.true_or, Bool.or_false, Bool.false_or, Bool.not_true, Bool.not_false, Bool.false_eq_true, beq_self_eq_true, beq_true, Bool.true_beq, beq_false, Bool.false_beq, length_cons, length_nil, Nat.zero_add, Nat.add_zero, Nat.reduceAdd, Nat.reduceLeDiff, getElem?_cons_zero, getElem?_cons_succ, Option.map_some, map_cons, map_nil, true_and, and_true, and_self, Wo_some])
        | (refine W_opgF rfl rfl ?hg ?_; (case hg => (simp only [upd_at, reduceIte, Nat.reduceEqDiff, Bool.not_true, Bool.not_false]; done)))
        | rw [W_seq] | rw [W_reg] | rw [push_no] | rw [W_onil] | rw [W_skip] | rw [W_blk] | rw [W_b] | refine W_regd0 ?_)
      refine W_cond ?_
      simp only [decide_true, decide_false, execE, unE, at_t, at_c, upd_at, upd_none, args0, push_no, get_inn, next_inn, ds_inn, get_put, next_put, ds_put, get_new, next_new, ds_new, getD_cons_zero, getD_cons_succ, getD_nil, reduceIte, Nat.reduceEqDiff, Bool.or_true, Bool.true_or, Bool.or_false, Bool.false_or, Bool.not_true, Bool.not_false, Bool.false_eq_true, beq_self_eq_true, beq_true, Bool.true_beq, beq_false, Bool.false_beq, length_cons, length_nil, Nat.zero_add, Nat.add_zero, Nat.reduceAdd, Nat.reduceLeDiff, getElem?_cons_zero, getElem?_cons_succ, Option.map_some, map_cons, map_nil, true_and, and_true, and_self, WC]
      repeat (first
        | ((first | refine W_op rfl rfl ?_ | (refine W_opgT rfl rfl ?hg ?_; (case hg => (simp only [upd_at, reduceIte, Nat.reduceEqDiff, Bool.not_true, Bool.not_false]; done)))); simp only [decide_true, decide_false, execE, unE, at_t, at_c, upd_at, upd_none, args0, push_no, get_inn, next_inn, ds_inn, get_put, next_put, ds_put, get_new, next_new, ds_new, getD_cons_zero, getD_cons_succ, getD_nil, reduceIte, Nat.reduceEqDiff, Bool.or_true, Bool.true_or, Bool.or_false, Bool.false_or, Bool.not_true, Bool.not_false, Bool.false_eq_true, beq_self_eq_true, beq_true, Bool.true_beq, beq_false, Bool.false_beq, length_cons, length_nil, Nat.zero_add, Nat.add_zero, Nat.reduceAdd, Nat.reduceLeDiff, getElem?_cons_zero, getElem?_cons_succ, Option.map_some, map_cons, map_nil, true_and, and_true, and_self, g7, hw, binE, isShift, intBin, Wo_some])
        | (refine W_opgF rfl rfl ?hg ?_; (case hg => (simp only [upd_at, reduceIte, Nat.reduceEqDiff, Bool.not_true, Bool.not_false]; done)))
        | rw [W_seq] | rw [W_reg] | rw [push_no] | rw [W_onil] | rw [W_skip] | rw [W_blk] | rw [W_b] | refine W_regd0 ?_)
      refine W_j (by repeat (first | exact hg | exact args0_un (Nat.le_of_ble_eq_true rfl) | refine upd_un ?_ rfl)) ?_
      refine ⟨l.length - (i + 1), by omega, i + 1, by omega, rfl, ?_, ?_, ?_, ?_, hp2, ?_⟩
      · skip
        simp only [upd_at, upd_none, reduceIte, Nat.reduceEqDiff, args0, getD_cons_zero, getD_cons_succ, getD_nil, g0]
      · skip
        simp only [upd_at, upd_none, reduceIte, Nat.reduceEqDiff, args0, getD_cons_zero, getD_cons_succ, getD_nil, g5, hav]
      · skip
        simp only [upd_at, upd_none, reduceIte, Nat.reduceEqDiff, args0, getD_cons_zero, getD_cons_succ, getD_nil, g6]
      · skip
        simp only [upd_at, upd_none, reduceIte, Nat.reduceEqDiff, args0, getD_cons_zero, getD_cons_succ, getD_nil]
      · rw [hs2.ds]; exact hds
    · refine W_exit rfl ?_
      refine W_nil (by repeat (first | exact hg | exact args0_un (Nat.le_of_ble_eq_true rfl) | refine upd_un ?_ rfl)) ?_
      have : i = l.length := by simp at hf; omega
      subst this
      exact ⟨hds, [], rfl, hP _ _ _ hp (Keep.refl m1 []).out⟩

def Sorts (l : List (List AV)) (ks : List (Int × Int)) : Prop := l.length = ks.length ∧ ∀ (i : Nat) (s : List AV), l[i]? = some s → ∃ k : Int × Int, ks[i]? = some k ∧ S8 s k.1 k.2

theorem Sorts.eight {l : List (List AV)} {ks : List (Int × Int)} (h : Sorts l ks) : ∀ s ∈ l, s.length = 8 ∧ s.all AV.one = true := by
  intro s hs
  obtain ⟨i, hi⟩ := List.getElem?_of_mem hs
  obtain ⟨k, _, h8⟩ := h.2 i s hi
  exact ⟨h8.len, h8.one⟩

theorem grow_take {ks : List (Int × Int)} {i : Nat} {k : Int × Int} (h : ks[i]? = some k) : G.growL [] [] (ks.take (i + 1)) = ((G.growL [] [] (ks.take i)).1 ++ [G.fromG (G.growL [] [] (ks.take i)).2 i k.1 k.2], i :: G.cutTo (G.fromG (G.growL [] [] (ks.take i)).2 i k.1 k.2) (G.growL [] [] (ks.take i)).2) := by
  have hl := (List.getElem?_eq_some_iff.1 h).1
  have e : ks.take (i + 1) = ks.take i ++ [k] := by rw [List.take_add_one, h]; rfl
  have hlen : (G.growL [] [] (ks.take i)).1.length = i := by rw [G.growL_len]; simp; omega
  rw [e, G.growL_append]
  obtain ⟨a, b⟩ := k
  simp only [G.growL, hlen]

set_option maxHeartbeats 1000000 in
theorem call55 {m : AMem} {av : AV} {l : List (List AV)} {ks : List (Int × Int)} {bj : Nat} (hS : Sts m av l) (hks : Sorts l ks) (hl : l.length ≤ 599) (hb : m.get bj = some (.cells [av] true ⟨1, none⟩)) (hbn : bj < m.next) :
    Vi.Call T 55 [.f 57 [] [.p (some (bj, 0))]] m (fun v m' => ∃ u ju, v = .agg [u] ∧ Row m' (some 3) u ju ((G.ups ks).map fun n : Int => .i .i64 n) ∧ Keep m m' [] ∧ ∀ j, ju = some j → m.next ≤ j) := by
  refine Vi.Call.of T55 (Nat.le_of_ble_eq_true rfl) ?_
  unfold v55
  repeat (first
    | ((first | refine W_op rfl rfl ?_ | (refine W_opgT rfl rfl ?hg ?_; (case hg => (simp only [upd_at, reduceIte, Nat.reduceEqDiff, Bool.not_true, Bool.not_false]; done)))); simp only [decide_true, decide_false, execE, unE, at_t, at_c, upd_at, upd_none, args0, push_no, get_inn, next_inn, ds_inn, get_put, next_put, ds_put, get_new, next_new, ds_new, getD_cons_zero, getD_cons_succ, getD_nil, reduceIte, Nat.reduceEqDiff, Bool.or_true, Bool.true_or, Bool.or_false, Bool.false_or, Bool.not_true, Bool.not_false, Bool.false_eq_true, beq_self_eq_true, beq_true, Bool.true_beq, beq_false, Bool.false_beq, length_cons, length_nil, Nat.zero_add, Nat.add_zero, Nat.reduceAdd, Nat.reduceLeDiff, getElem?_cons_zero, getElem?_cons_succ, Option.map_some, map_cons, map_nil, true_and, and_true, and_self, fillX, AV.cells, AV.one, List.all_cons, List.all_nil, Bool.and_self, splice, List.take_zero, List.nil_append, List.drop_succ_cons, List.drop_nil, List.drop_zero, List.append_nil, Nat.le_refl, Wo_some])
    | (refine W_opgF rfl rfl ?hg ?_; (case hg => (simp only [upd_at, reduceIte, Nat.reduceEqDiff, Bool.not_true, Bool.not_false]; done)))
    | rw [W_seq] | rw [W_reg] | rw [push_no] | rw [W_onil] | rw [W_skip] | rw [W_blk] | rw [W_b] | refine W_regd0 ?_)
  obtain ⟨mB, hmB, f1, f2, f3, f4, f5, f6, f7⟩ : ∃ mB : AMem, mB = ((((m.inn.new (.cells [.sl none 0 0 true] true ⟨1, some 66⟩)).new (.cells [.sl none 0 0 true, .sl none 0 0 true, .sl none 0 0 true] true ⟨3, none⟩)).new (.cells [.p none] true ⟨1, some 192⟩)).put (m.next + 1 + 1) (some (.cells [.p (some (m.next + 1, 0))] true ⟨1, some 192⟩))) ∧
      mB.next = m.next + 3 ∧ mB.get m.next = some (.cells [.sl none 0 0 true] true ⟨1, some 66⟩) ∧ mB.get (m.next + 1) = some (.cells [.sl none 0 0 true, .sl none 0 0 true, .sl none 0 0 true] true ⟨3, none⟩) ∧ mB.get (m.next + 2) = some (.cells [.p (some (m.next + 1, 0))] true ⟨1, some 192⟩) ∧ Keep m mB [] ∧ mB.ds = [] ∧ mB.ro = none := by
    refine ⟨_, rfl, rfl, ?_, ?_, ?_, ?_, rfl, rfl⟩
    · simp [AMem.get_put, AMem.get_new, show ¬ m.next + 1 + 1 = m.next by omega]
    · simp [AMem.get_put, AMem.get_new]
    · simp [AMem.get_put, AMem.get_new]
    · exact (((Keep.inn m).trans (Keep.new _ _) (by simp)).trans (Keep.new _ _) (by simp)).trans ((Keep.new _ _).trans (Keep.put _ _ _) (by simp)) (by simp)
  rw [← hmB]
  clear hmB
  have hun : ∀ i, 19 ≤ i → (upd (upd (upd (upd (upd (args0 [.f 57 [] [.p (some (bj, 0))]]) (some 2) (.p (some (m.next, 0)))) (some 6) (.agg [.sl none 0 0 true, .sl none 0 0 true, .sl none 0 0 true])) (some 7) (.p (some (m.next + 1, 0)))) (some 3) (.p (some (m.next + 1 + 1, 0)))) (some 8) (.f 57 [] [.p (some (bj, 0))])) i = un := by
    repeat (first | exact args0_un (Nat.le_of_ble_eq_true rfl) | refine upd_un ?_ rfl)
  generalize hgg : (upd (upd (upd (upd (upd (args0 [.f 57 [] [.p (some (bj, 0))]]) (some 2) (.p (some (m.next, 0)))) (some 6) (.agg [.sl none 0 0 true, .sl none 0 0 true, .sl none 0 0 true])) (some 7) (.p (some (m.next + 1, 0)))) (some 3) (.p (some (m.next + 1 + 1, 0)))) (some 8) (.f 57 [] [.p (some (bj, 0))])) = g at *
  have g2 : g 2 = .p (some (m.next, 0)) := by rw [← hgg]; rfl
  have g3 : g 3 = .p (some (m.next + 2, 0)) := by rw [← hgg]; rfl
  have g8 : g 8 = .f 57 [] [.p (some (bj, 0))] := by rw [← hgg]; rfl
  clear hgg
  generalize hasg : VC.reg [⟨some 5, none, .alloc 41 [.i .i64 0, .i .i64 0, .i .i64 0, .i .i64 0, .i .i64 0, .i .i64 0, .i .i64 0, .sl none 0 0 true]⟩, ⟨none, none, .st 8 (.t 5) (.t 10)⟩] = asg
  generalize hbody : VC.blk 1 (.reg [⟨some 11, none, .ld (.t 3)⟩, ⟨some 12, none, .ldn 8 (.t 5)⟩, ⟨some 13, none, .call 107 [.t 11, .t 12]⟩]) = body
  let mR : AMem := { (mB.new .dfr).new (.loop .ready none ((List.range 19).map g) [9, 10] asg body) with ds := mB.next :: mB.ds }
  have hRn : mR.next = m.next + 5 := by show mB.next + 2 = _; omega
  have kBR : Keep mB mR [] := by
    refine ⟨by show mB.next ≤ mB.next + 2; omega, fun i hi _ => ?_⟩
    show ((mB.new .dfr).new _).get i = _
    rw [AMem.get_new, if_neg (by simp; omega), AMem.get_new, if_neg (by omega)]
  have hRd : mR.get (m.next + 3) = some .dfr := by
    show ((mB.new .dfr).new _).get _ = _
    rw [AMem.get_new, if_neg (by simp; omega), AMem.get_new, if_pos (by omega)]
  have hRl : mR.get (m.next + 4) = some (.loop .ready none ((List.range 19).map g) [9, 10] asg body) := by
    show ((mB.new .dfr).new _).get _ = _
    rw [AMem.get_new, if_pos (by simp; omega)]
  have kmR : Keep m mR [] := f5.trans kBR (by simp)
  let P : Nat → AMem → Prop := fun i m' => ∃ fp, Gr m' (m.next + 1) fp (G.growL [] [] (ks.take i)).1 (G.growL [] [] (ks.take i)).2 ∧ Keep mR m' [m.next + 1, m.next + 4] ∧ (∀ x ∈ fp, x = m.next + 1 ∨ m.next + 5 ≤ x) ∧ m'.get (m.next + 4) = some (.loop .ready none ((List.range 19).map g) [9, 10] asg body)
  have hP : ∀ i m' m'', P i m' → Keep m' m'' [] → P i m'' := by
    rintro i m' m'' ⟨fp, h1, h2, h3, h4⟩ k
    refine ⟨fp, h1.keep k (by simp), h2.trans k (by simp), h3, k.at (by have := h2.next; omega) (by simp) h4⟩
  have hSR : ∀ i m', P i m' → Sts m' av l := by
    rintro i m' ⟨fp, h1, h2, h3, h4⟩
    have : ∀ j o n c e, av = .sl (some (j, o)) n c e → j < m.next := by
      intro j o n c e he
      rcases hS with ⟨_, h | h⟩ | ⟨j', cap, c', h, hj, _⟩
      · rw [h] at he; simp at he
      · rw [h] at he; simp at he
      · rw [h] at he; simp only [AV.sl.injEq, Option.some.injEq, Prod.mk.injEq] at he; omega
    refine (hS.keep kmR (by simp)).keep h2 fun j o n c e he => ?_
    have := this j o n c e he
    simp; omega
  have hP0 : P 0 mR := by
    refine ⟨[m.next + 1], ⟨_, _, _, none, none, none, kBR.at (by omega) (by simp) f3, by omega, rfl, by simp, Row.nil _ _, Row.nil _ _, Row.nil _ _⟩, Keep.refl _ _, by simp, hRl⟩
  have hlk : ks.length ≤ 599 := by rw [← hks.1]; exact hl
  refine W_rfn (fun _ m2 => P l.length m2) hun (by rw [at_t, g8]) f7 (fun r hr => ?_) ?_
  · obtain rfl : r = (List.range 19).map g := Agree.unique hr (Agree.mk' hun)
    refine CallC.of_call T57 ?_
    show Vi.Call T 57 ([] ++ [.yl (mB.next + 1)] ++ [.p (some (bj, 0))]) mR _
    rw [show mB.next + 1 = m.next + 4 by omega]
    refine call57 hP hSR (kmR.at hbn (by simp) hb) hP0 hks.eight (by omega) ?_
    rintro i s m' hi ⟨fp, h1, h2, h3, h4⟩
    obtain ⟨k, hk, h8⟩ := hks.2 i s hi
    have hlt := (List.getElem?_eq_some_iff.1 hk).1
    have hs8 := h8.len
    have hs1 := h8.one
    have ht8 := take_all hs8
    have hn' := h2.next
    refine CallC.round (nt := 19) (i := 99) hr rfl h4 rfl ?_
    rw [updMany_cons, updMany_cons, updMany_nil]
    rw [← hasg]
    repeat (first
      | ((first | refine W_op rfl rfl ?_ | (refine W_opgT rfl rfl ?hg ?_; (case hg => (simp only [upd_at, reduceIte, Nat.reduceEqDiff, Bool.not_true, Bool.not_false]; done)))); simp only [decide_true, decide_false, execE, unE, at_t, at_c, upd_at, upd_none, args0, push_no, get_inn, next_inn, ds_inn, get_put, next_put, ds_put, get_new, next_new, ds_new, getD_cons_zero, getD_cons_succ, getD_nil, reduceIte, Nat.reduceEqDiff, Bool.or_true, Bool.true_or, Bool.or_false, Bool.false_or, Bool.not_true, Bool.not_false, Bool.false_eq_true, beq_self_eq_true, beq_true, Bool.true_beq, beq_false, Bool.false_beq, length_cons, length_nil, Nat.zero_add, Nat.add_zero, Nat.reduceAdd, Nat.reduceLeDiff, getElem?_cons_zero, getElem?_cons_succ, Option.map_some, map_cons, map_nil, true_and, and_true, and_self, AV.cells, hs8, hs1, splice, List.take_zero, List.nil_append, List.drop_succ_cons, List.drop_nil, List.drop_zero, List.append_nil, Nat.le_refl, Wo_some])
      | (refine W_opgF rfl rfl ?hg ?_; (case hg => (simp only [upd_at, reduceIte, Nat.reduceEqDiff, Bool.not_true, Bool.not_false]; done)))
      | rw [W_seq] | rw [W_reg] | rw [push_no] | rw [W_onil] | rw [W_skip] | rw [W_blk] | rw [W_b] | refine W_regd0 ?_)
    have hg := hun
    refine W_j (by repeat (first | exact hg | exact args0_un (Nat.le_of_ble_eq_true rfl) | refine upd_un ?_ rfl)) ?_
    have hGI := G.GI.grow (ks.take i) G.GI.nil
    have hil : (G.growL [] [] (ks.take i)).1.length = i := by rw [G.growL_len]; simp; omega
    have hmB : mB.next ≤ m'.next := by omega
    have e2 : m'.get (m.next + 2) = some (.cells [.p (some (m.next + 1, 0))] true ⟨1, some 192⟩) := h2.at (by omega) (by simp) (kBR.at (by omega) (by simp) f4)
    obtain ⟨X, hX, x0, x1, x2, x4, x5, x6⟩ : ∃ X : AMem, X = ((({ m' with ds := [], ro := some (m.next + 4) } : AMem).new (.cells [.i .i64 0, .i .i64 0, .i .i64 0, .i .i64 0, .i .i64 0, .i .i64 0, .i .i64 0, .sl none 0 0 true] true ⟨8, some 41⟩)).put m'.next (some (.cells s true ⟨8, some 41⟩))) ∧ X.next = m'.next + 1 ∧ X.get (m.next + 2) = some (.cells [.p (some (m.next + 1, 0))] true ⟨1, some 192⟩) ∧ X.get m'.next = some (.cells s true ⟨8, some 41⟩) ∧ Keep m' X [] ∧ X.get (m.next + 4) = some (.loop .ready none ((List.range 19).map g) [9, 10] asg body) ∧ X.ds = [] := by
      have kX : Keep m' ((({ m' with ds := [], ro := some (m.next + 4) } : AMem).new (.cells [.i .i64 0, .i .i64 0, .i .i64 0, .i .i64 0, .i .i64 0, .i .i64 0, .i .i64 0, .sl none 0 0 true] true ⟨8, some 41⟩)).put m'.next (some (.cells s true ⟨8, some 41⟩))) [] := by
        refine ⟨by simp, fun y hy _ => ?_⟩
        rw [AMem.get_put, if_neg (by omega), AMem.get_new, if_neg (by simp; omega)]; rfl
      exact ⟨_, rfl, rfl, kX.at (by omega) (by simp) e2, by rw [AMem.get_put, if_pos rfl], kX, kX.at (by omega) (by simp) h4, rfl⟩
    rw [← hX]
    clear hX
    refine ⟨_, _, _, _, x5, ?_⟩
    obtain ⟨Y, hY, y0, y1, y2, y4, y5, y6⟩ : ∃ Y : AMem, Y = X.put (m.next + 4) (some (.loop .busy none ((List.range 19).map g) [9, 10] asg body)) ∧ Y.next = m'.next + 1 ∧ Y.get (m.next + 2) = some (.cells [.p (some (m.next + 1, 0))] true ⟨1, some 192⟩) ∧ Y.get m'.next = some (.cells s true ⟨8, some 41⟩) ∧ Keep m' Y [m.next + 4] ∧ Y.get (m.next + 4) = some (.loop .busy none ((List.range 19).map g) [9, 10] asg body) ∧ Y.ds = [] := by
      refine ⟨_, rfl, x0, ?_, ?_, (x4.nil.trans (Keep.put _ _ _) fun i hi => .inl hi), ?_, x6⟩
      · rw [AMem.get_put, if_neg (by omega)]; exact x1
      · rw [AMem.get_put, if_neg (by omega)]; exact x2
      · rw [AMem.get_put, if_pos rfl]
    rw [← hY, ← hbody]
    clear hY
    have hGY := h1.keep y4 (by intro x hx; have := h3 x hx; simp; omega)
    repeat (first
      | ((first | refine W_op rfl rfl ?_ | (refine W_opgT rfl rfl ?hg ?_; (case hg => (simp only [upd_at, reduceIte, Nat.reduceEqDiff, Bool.not_true, Bool.not_false]; done)))); simp only [decide_true, decide_false, execE, unE, at_t, at_c, upd_at, upd_none, args0, push_no, get_inn, next_inn, ds_inn, get_put, next_put, ds_put, get_new, next_new, ds_new, getD_cons_zero, getD_cons_succ, getD_nil, reduceIte, Nat.reduceEqDiff, Bool.or_true, Bool.true_or, Bool.or_false, Bool.false_or, Bool.not_true, Bool.not_false, Bool.false_eq_true, beq_self_eq_true, beq_true, Bool.true_beq, beq_false, Bool.false_beq, length_cons, length_nil, Nat.zero_add, Nat.add_zero, Nat.reduceAdd, Nat.reduceLeDiff, getElem?_cons_zero, getElem?_cons_succ, Option.map_some, map_cons, map_nil, true_and, and_true, and_self, g3, y1, y2, rd, hs8, ht8, Nat.le_refl, List.drop_zero, Wo_some])
      | (refine W_opgF rfl rfl ?hg ?_; (case hg => (simp only [upd_at, reduceIte, Nat.reduceEqDiff, Bool.not_true, Bool.not_false]; done)))
      | rw [W_seq] | rw [W_reg] | rw [push_no] | rw [W_onil] | rw [W_skip] | rw [W_blk] | rw [W_b] | refine W_regd0 ?_)
    refine W_callA rfl ?hargs (call107 hGY h8 hGI (by omega)) ?_
    case hargs => simp only [decide_true, decide_false, execE, unE, at_t, at_c, upd_at, upd_none, args0, push_no, get_inn, next_inn, ds_inn, get_put, next_put, ds_put, get_new, next_new, ds_new, getD_cons_zero, getD_cons_succ, getD_nil, reduceIte, Nat.reduceEqDiff, Bool.or_true, Bool.true_or, Bool.or_false, Bool.false_or, Bool.not_true, Bool.not_false, Bool.false_eq_true, beq_self_eq_true, beq_true, Bool.true_beq, beq_false, Bool.false_beq, length_cons, length_nil, Nat.zero_add, Nat.add_zero, Nat.reduceAdd, Nat.reduceLeDiff, getElem?_cons_zero, getElem?_cons_succ, Option.map_some, map_cons, map_nil, true_and, and_true, and_self] <;> rfl
    rintro v m2 ⟨fp', q1, q2, q3⟩ qs
    rw [hil] at q1
    rw [show (G.growL [] [] (ks.take i)).1 ++ [G.fromG (G.growL [] [] (ks.take i)).2 i k.1 k.2] = (G.growL [] [] (ks.take (i + 1))).1 by rw [grow_take hk], show i :: G.cutTo (G.fromG (G.growL [] [] (ks.take i)).2 i k.1 k.2) (G.growL [] [] (ks.take i)).2 = (G.growL [] [] (ks.take (i + 1))).2 by rw [grow_take hk]] at q1
    repeat (first
      | ((first | refine W_op rfl rfl ?_ | (refine W_opgT rfl rfl ?hg ?_; (case hg => (simp only [upd_at, reduceIte, Nat.reduceEqDiff, Bool.not_true, Bool.not_false]; done)))); simp only [decide_true, decide_false, execE, unE, at_t, at_c, upd_at, upd_none, args0, push_no, get_inn, next_inn, ds_inn, get_put, next_put, ds_put, get_new, next_new, ds_new, getD_cons_zero, getD_cons_succ, getD_nil, reduceIte, Nat.reduceEqDiff, Bool.or_true, Bool.true_or, Bool.or_false, Bool.false_or, Bool.not_true, Bool.not_false, Bool.false_eq_true, beq_self_eq_true, beq_true, Bool.true_beq, beq_false, Bool.false_beq, length_cons, length_nil, Nat.zero_add, Nat.add_zero, Nat.reduceAdd, Nat.reduceLeDiff, getElem?_cons_zero, getElem?_cons_succ, Option.map_some, map_cons, map_nil, true_and, and_true, and_self, Wo_some])
      | (refine W_opgF rfl rfl ?hg ?_; (case hg => (simp only [upd_at, reduceIte, Nat.reduceEqDiff, Bool.not_true, Bool.not_false]; done)))
      | rw [W_seq] | rw [W_reg] | rw [push_no] | rw [W_onil] | rw [W_skip] | rw [W_blk] | rw [W_b] | refine W_regd0 ?_)
    refine W_j (by repeat (first | exact hg | exact args0_un (Nat.le_of_ble_eq_true rfl) | refine upd_un ?_ rfl)) ?_
    have hn2 := q2.next
    have kZ : Keep m2 { m2.put (m.next + 4) (some (.loop .ready none ((List.range 19).map g) [9, 10] asg body)) with ds := m'.ds, ro := m'.ro } [m.next + 4] := ⟨(Keep.put m2 (m.next + 4) (some (.loop .ready none ((List.range 19).map g) [9, 10] asg body))).next, (Keep.put m2 (m.next + 4) (some (.loop .ready none ((List.range 19).map g) [9, 10] asg body))).get⟩
    refine ⟨.busy, none, _, _, _, _, q2.at (by omega) (by intro hx; have := h3 _ hx; omega) y5, rfl, fp', q1.keep kZ ?_, ?_, ?_, ?_⟩
    · intro x hx
      rcases q3 x hx with h | h
      · have := h3 x h; simp; omega
      · simp; omega
    · refine ((h2.trans y4 (by simp)).trans q2 ?_).trans kZ (by simp)
      intro x hx
      rcases h3 x hx with h | h
      · left; simp [h]
      · right; omega
    · intro x hx
      rcases q3 x hx with h | h
      · exact h3 x h
      · right; omega
    · show (m2.put _ _).get _ = _
      rw [AMem.get_put, if_pos rfl]; rfl
  · rintro v m2 ⟨fp, h1, h2, h3, h4⟩ hds hro
    refine ⟨.ready, none, _, _, _, _, by rw [f1]; exact h4, nofun, ?_⟩
    show W _ _ _ _ _ _
    rw [show mB.next + 1 = m.next + 4 by omega]
    have hn' := h2.next
    have hups : (G.growL [] [] (ks.take l.length)).1 = G.ups ks := by rw [hks.1, List.take_length]; rfl
    rw [hups] at h1
    have k3 : Keep mR (m2.put (m.next + 4) none) [m.next + 1, m.next + 4] := h2.trans (Keep.put _ _ _) (by simp)
    have hG3 := h1.keep (Keep.put m2 (m.next + 4) none) (by intro x hx; have := h3 x hx; simp; omega)
    have e0 := k3.at (j := m.next) (by omega) (by simp) (kBR.at (by omega) (by simp) f2)
    have e2 := k3.at (j := m.next + 2) (by omega) (by simp) (kBR.at (by omega) (by simp) f4)
    have e3 := k3.at (j := m.next + 3) (by omega) (by simp) hRd
    have ed : (m2.put (m.next + 4) none).ds = [m.next + 3] := by
      show m2.ds = _
      rw [hds, f6, f1]
    have en : (m2.put (m.next + 4) none).next = m2.next := rfl
    generalize m2.put (m.next + 4) none = Y at *
    obtain ⟨u, p, o, ju, jp, jo, hgg, hgj, hfp, hnd, ru, rp, ro⟩ := hG3
    obtain ⟨q1, q2, q3, q4, q5, q6⟩ := fp3 hfp hnd
    have hcu := one_cells ru.one
    have hou := ru.one
    repeat (first
      | ((first | refine W_op rfl rfl ?_ | (refine W_opgT rfl rfl ?hg ?_; (case hg => (simp only [upd_at, reduceIte, Nat.reduceEqDiff, Bool.not_true, Bool.not_false]; done)))); simp only [decide_true, decide_false, execE, unE, at_t, at_c, upd_at, upd_none, args0, push_no, get_inn, next_inn, ds_inn, get_put, next_put, ds_put, get_new, next_new, ds_new, getD_cons_zero, getD_cons_succ, getD_nil, reduceIte, Nat.reduceEqDiff, Bool.or_true, Bool.true_or, Bool.or_false, Bool.false_or, Bool.not_true, Bool.not_false, Bool.false_eq_true, beq_self_eq_true, beq_true, Bool.true_beq, beq_false, Bool.false_beq, length_cons, length_nil, Nat.zero_add, Nat.add_zero, Nat.reduceAdd, Nat.reduceLeDiff, getElem?_cons_zero, getElem?_cons_succ, Option.map_some, map_cons, map_nil, true_and, and_true, and_self, g2, g3, e2, hgg, fillX, hcu, hou, cells_agg, splice, List.take_zero, List.nil_append, List.drop_succ_cons, List.drop_nil, List.drop_zero, List.append_nil, List.length_cons, List.all_cons, List.all_nil, Bool.and_self, Nat.le_refl, e0, Wo_some])
      | (refine W_opgF rfl rfl ?hg ?_; (case hg => (simp only [upd_at, reduceIte, Nat.reduceEqDiff, Bool.not_true, Bool.not_false]; done)))
      | rw [W_seq] | rw [W_reg] | rw [push_no] | rw [W_onil] | rw [W_skip] | rw [W_blk] | rw [W_b] | refine W_regd0 ?_)
    have hg := hun
    refine W_getRet (by repeat (first | exact hg | exact args0_un (Nat.le_of_ble_eq_true rfl) | refine upd_un ?_ rfl)) ?_
    simp only [decide_true, decide_false, execE, unE, at_t, at_c, upd_at, upd_none, args0, push_no, get_inn, next_inn, ds_inn, get_put, next_put, ds_put, get_new, next_new, ds_new, getD_cons_zero, getD_cons_succ, getD_nil, reduceIte, Nat.reduceEqDiff, Bool.or_true, Bool.true_or, Bool.or_false, Bool.false_or, Bool.not_true, Bool.not_false, Bool.false_eq_true, beq_self_eq_true, beq_true, Bool.true_beq, beq_false, Bool.false_beq, length_cons, length_nil, Nat.zero_add, Nat.add_zero, Nat.reduceAdd, Nat.reduceLeDiff, getElem?_cons_zero, getElem?_cons_succ, Option.map_some, map_cons, map_nil, true_and, and_true, and_self, e3, ed, leaveE, resX, rd, List.length_cons, List.length_nil, List.take_succ_cons, List.take_zero, List.drop_zero]
    have hju : ∀ j, ju = some j → m.next + 5 ≤ j := fun j hj => by
      have := h3 j (by rw [hfp]; simp [hj])
      have := q1 j hj
      omega
    have kE : Keep Y ((Y.put m.next (some (.cells [u] true ⟨1, some 66⟩))).put (m.next + 3) none) [m.next, m.next + 3] := (Keep.put Y _ _).mono (by simp) |>.trans (Keep.put _ _ _) (by simp)
    refine ⟨(Y.put m.next (some (.cells [u] true ⟨1, some 66⟩))).put (m.next + 3) none, [.agg [u]], by rw [if_neg (by omega)], ?_, u, ju, rfl, ?_, ?_, fun j hj => by have := hju j hj; omega⟩
    · rw [g2]
      simp [AMem.get_put]
    · exact (ru.keep kE (by intro j hj; have := hju j hj; simp; omega)).keep ((Keep.refl _ []).out (m0 := m)) (by simp)
    · exact ((kmR.trans k3 (by intro x hx; simp at hx; omega)).trans kE (by intro x hx; simp at hx; omega)).out

set_option maxHeartbeats 1000000 in
theorem call22 {m : AMem} {av : AV} {l : List (List AV)} {ks : List (Int × Int)} (hS : Sts m av l) (hks : Sorts l ks) (hl : l.length ≤ 599) :
    Vi.Call T 22 [av] m (fun v m' => ∃ u ju, v = .agg [u] ∧ Row m' (some 3) u ju ((G.ups ks).map fun n : Int => .i .i64 n) ∧ Keep m m' [] ∧ ∀ j, ju = some j → m.next ≤ j) := by
  have hone : av.one = true := by
    rcases hS with ⟨_, rfl | rfl⟩ | ⟨_, _, _, rfl, _⟩ <;> rfl
  have hc := one_cells hone
  refine Vi.Call.ofP T22 (Nat.le_of_ble_eq_true rfl) ?_
  unfold v22
  repeat (first
    | ((first | refine W_op rfl rfl ?_ | (refine W_opgT rfl rfl ?hg ?_; (case hg => (simp only [upd_at, reduceIte, Nat.reduceEqDiff, Bool.not_true, Bool.not_false]; done)))); simp only [decide_true, decide_false, execE, unE, at_t, at_c, upd_at, upd_none, args0, push_no, get_inn, next_inn, ds_inn, get_put, next_put, ds_put, get_new, next_new, ds_new, getD_cons_zero, getD_cons_succ, getD_nil, reduceIte, Nat.reduceEqDiff, Bool.or_true, Bool.true_or, Bool.or_false, Bool.false_or, Bool.not_true, Bool.not_false, Bool.false_eq_true, beq_self_eq_true, beq_true, Bool.true_beq, beq_false, Bool.false_beq, length_cons, length_nil, Nat.zero_add, Nat.add_zero, Nat.reduceAdd, Nat.reduceLeDiff, getElem?_cons_zero, getElem?_cons_succ, Option.map_some, map_cons, map_nil, true_and, and_true, and_self, hc, hone, List.all_cons, List.all_nil, Bool.and_self, Wo_some])
    | (refine W_opgF rfl rfl ?hg ?_; (case hg => (simp only [upd_at, reduceIte, Nat.reduceEqDiff, Bool.not_true, Bool.not_false]; done)))
    | rw [W_seq] | rw [W_reg] | rw [push_no] | rw [W_onil] | rw [W_skip] | rw [W_blk] | rw [W_b] | refine W_regd0 ?_)
  have k0 : Keep m ((m.inn.new (.cells [av] true ⟨1, none⟩)).new (.cells [.sl none 0 0 true] true ⟨1, some 66⟩)) [] := ((Keep.inn m).trans (Keep.new _ _) (by simp)).trans (Keep.new _ _) (by simp)
  have h55 := call55 (m := (m.inn.new (.cells [av] true ⟨1, none⟩)).new (.cells [.sl none 0 0 true] true ⟨1, some 66⟩)) (bj := m.next) (hS.keep k0 (by simp)) hks hl (by rw [AMem.get_new, if_neg (by simp), AMem.get_new, if_pos (by simp)]) (by simp; omega)
  refine W_callA rfl ?hargs (h55) ?_
  case hargs => simp only [decide_true, decide_false, execE, unE, at_t, at_c, upd_at, upd_none, args0, push_no, get_inn, next_inn, ds_inn, get_put, next_put, ds_put, get_new, next_new, ds_new, getD_cons_zero, getD_cons_succ, getD_nil, reduceIte, Nat.reduceEqDiff, Bool.or_true, Bool.true_or, Bool.or_false, Bool.false_or, Bool.not_true, Bool.not_false, Bool.false_eq_true, beq_self_eq_true, beq_true, Bool.true_beq, beq_false, Bool.false_beq, length_cons, length_nil, Nat.zero_add, Nat.add_zero, Nat.reduceAdd, Nat.reduceLeDiff, getElem?_cons_zero, getElem?_cons_succ, Option.map_some, map_cons, map_nil, true_and, and_true, and_self] <;> rfl
  rintro v m2 ⟨u, ju, rfl, ru, k1, hju⟩ hs
  have e0 : m2.get (m.next + 1) = some (.cells [.sl none 0 0 true] true ⟨1, some 66⟩) := k1.at (by simp) (by simp) (by rw [AMem.get_new, if_pos (by simp)])
  have hcu := one_cells ru.one
  have hou := ru.one
  repeat (first
    | ((first | refine W_op rfl rfl ?_ | (refine W_opgT rfl rfl ?hg ?_; (case hg => (simp only [upd_at, reduceIte, Nat.reduceEqDiff, Bool.not_true, Bool.not_false]; done)))); simp only [decide_true, decide_false, execE, unE, at_t, at_c, upd_at, upd_none, args0, push_no, get_inn, next_inn, ds_inn, get_put, next_put, ds_put, get_new, next_new, ds_new, getD_cons_zero, getD_cons_succ, getD_nil, reduceIte, Nat.reduceEqDiff, Bool.or_true, Bool.true_or, Bool.or_false, Bool.false_or, Bool.not_true, Bool.not_false, Bool.false_eq_true, beq_self_eq_true, beq_true, Bool.true_beq, beq_false, Bool.false_beq, length_cons, length_nil, Nat.zero_add, Nat.add_zero, Nat.reduceAdd, Nat.reduceLeDiff, getElem?_cons_zero, getElem?_cons_succ, Option.map_some, map_cons, map_nil, true_and, and_true, and_self, e0, cells_agg, hou, splice, List.take_zero, List.nil_append, List.drop_succ_cons, List.drop_nil, List.drop_zero, List.append_nil, List.length_cons, List.all_cons, List.all_nil, Bool.and_self, Nat.le_refl, Wo_some])
    | (refine W_opgF rfl rfl ?hg ?_; (case hg => (simp only [upd_at, reduceIte, Nat.reduceEqDiff, Bool.not_true, Bool.not_false]; done)))
    | rw [W_seq] | rw [W_reg] | rw [push_no] | rw [W_onil] | rw [W_skip] | rw [W_blk] | rw [W_b] | refine W_regd0 ?_)
  refine W_getRet (by repeat (first | exact hg | exact args0_un (Nat.le_of_ble_eq_true rfl) | refine upd_un ?_ rfl)) ?_
  have hju' : ∀ j, ju = some j → m.next + 2 ≤ j := fun j hj => by have := hju j hj; simpa using this
  have hn := k1.next
  simp only [AMem.next_new, AMem.next_inn] at hn
  have kE := Keep.put m2 (m.next + 1) (some (.cells [u] true ⟨1, some 66⟩))
  refine ⟨hs.ds, [.agg [u]], ?_, u, ju, rfl, ?_, ?_, fun j hj => by have := hju' j hj; omega⟩
  · skip
    simp only [decide_true, decide_false, execE, unE, at_t, at_c, upd_at, upd_none, args0, push_no, get_inn, next_inn, ds_inn, get_put, next_put, ds_put, get_new, next_new, ds_new, getD_cons_zero, getD_cons_succ, getD_nil, reduceIte, Nat.reduceEqDiff, Bool.or_true, Bool.true_or, Bool.or_false, Bool.false_or, Bool.not_true, Bool.not_false, Bool.false_eq_true, beq_self_eq_true, beq_true, Bool.true_beq, beq_false, Bool.false_beq, length_cons, length_nil, Nat.zero_add, Nat.add_zero, Nat.reduceAdd, Nat.reduceLeDiff, getElem?_cons_zero, getElem?_cons_succ, Option.map_some, map_cons, map_nil, true_and, and_true, and_self, resX, rd]
    simp
  · exact (ru.keep kE (by intro j hj; have := hju' j hj; simp; omega)).keep ((Keep.refl _ []).out (m0 := m)) (by simp)
  · exact ((k0.trans k1 (by simp)).trans kE (by intro x hx; simp at hx; omega)).out
end Go.Proofs.YtnbdamdcmofafaaGreatDoor
