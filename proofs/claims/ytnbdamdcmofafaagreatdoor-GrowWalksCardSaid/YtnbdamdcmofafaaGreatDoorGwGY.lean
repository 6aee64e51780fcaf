/- Trees of states: a state that is added. No condition. -/
import Derived.Test.YtnbdamdcmofafaaGreatDoorGwGX
namespace Go.Proofs.YtnbdamdcmofafaaGreatDoor
open Go.Vi
open AMem (get_inn next_inn ds_inn get_put next_put ds_put get_new next_new ds_new)
open List (getD_cons_zero getD_cons_succ getD_nil length_cons length_nil getElem?_cons_zero getElem?_cons_succ map_cons map_nil)
set_option linter.unusedSimpArgs false
set_option linter.unusedVariables false

theorem take_all {α : Type} {l : List α} {n : Nat} (h : l.length = n) : l.take n = l := by subst h; exact List.take_length

theorem cut_len (to : Int) : ∀ st : List Nat, (G.cutTo to st).length ≤ st.length
  | [] => Nat.le_refl _
  | a :: st => by
    simp only [G.cutTo]
    split
    · exact Nat.le_refl _
    · have := cut_len to st; simp only [List.length_cons]; omega

theorem st_len {n : Nat} {st : List Nat} (h : st.Pairwise fun a b => b < a) (hl : ∀ a ∈ st, a < n) : st.length ≤ n := by
  cases st with
  | nil => exact Nat.zero_le _
  | cons a tl =>
    have := desc_len tl a h
    have := hl a (by simp)
    simp only [List.length_cons]; omega

theorem on_push (n : Nat) (st : List Nat) (h : ∀ a ∈ st, a < n) : ((List.range n).map fun k => AV.b (decide (k ∈ st))) ++ [.b true] = (List.range (n + 1)).map fun k => AV.b (decide (k ∈ n :: st)) := by
  rw [List.range_succ, List.map_append]
  congr 1
  · refine List.map_congr_left fun k hk => ?_
    have : k ≠ n := by have := List.mem_range.1 hk; omega
    simp [this]
  · simp

set_option maxHeartbeats 2000000 in
theorem call107 {m : AMem} {gj : Nat} {fp : List Nat} {up : List Int} {st : List Nat} {s : List AV} {kind origin : Int} (h : Gr m gj fp up st) (hs : S8 s kind origin) (hi : G.GI up st) (hlen : up.length ≤ 599) :
    Vi.Call T 107 [.p (some (gj, 0)), .agg s] m (fun _ m' => ∃ fp', Gr m' gj fp' (up ++ [G.fromG st up.length kind origin]) (up.length :: G.cutTo (G.fromG st up.length kind origin) st) ∧ Keep m m' fp ∧ ∀ i ∈ fp', i ∈ fp ∨ m.next ≤ i) := by
  have hs8 := hs.len
  have hs1 := hs.one
  have ht8 := take_all hs8
  have hso : st.Pairwise fun a b => b < a := chain_pw hi.rng hi.chain
  have hfpm : ∀ i ∈ fp, i < m.next := h.lt
  refine Vi.Call.ofP T107 (Nat.le_of_ble_eq_true rfl) ?_
  unfold v107
  repeat (first
    | ((first | refine W_op rfl rfl ?_ | (refine W_opgT rfl rfl ?hg ?_; (case hg => (simp only [upd_at, reduceIte, Nat.reduceEqDiff, Bool.not_true, Bool.not_false]; done)))); simp only [decide_true, decide_false, execE, unE, at_t, at_c, upd_at, upd_none, args0, push_no, get_inn, next_inn, ds_inn, get_put, next_put, ds_put, get_new, next_new, ds_new, getD_cons_zero, getD_cons_succ, getD_nil, reduceIte, Nat.reduceEqDiff, Bool.or_true, Bool.true_or, Bool.or_false, Bool.false_or, Bool.not_true, Bool.not_false, Bool.false_eq_true, beq_self_eq_true, beq_true, Bool.true_beq, beq_false, Bool.false_beq, length_cons, length_nil, Nat.zero_add, Nat.add_zero, Nat.reduceAdd, Nat.reduceLeDiff, getElem?_cons_zero, getElem?_cons_succ, Option.map_some, map_cons, map_nil, true_and, and_true, and_self, hs8, hs1, AV.cells, rd, List.drop_zero, ht8, Nat.le_refl, Wo_some])
    | (refine W_opgF rfl rfl ?hg ?_; (case hg => (simp only [upd_at, reduceIte, Nat.reduceEqDiff, Bool.not_true, Bool.not_false]; done)))
    | rw [W_seq] | rw [W_reg] | rw [push_no] | rw [W_onil] | rw [W_skip] | rw [W_blk] | rw [W_b] | refine W_regd0 ?_)
  have h1 : Gr (m.inn.new (.cells s true ⟨8, none⟩)) gj fp up st := h.keep (Keep.new m.inn _).ofInn (by simp)
  have k0 : Keep m (m.inn.new (.cells s true ⟨8, none⟩)) [] := (Keep.new m.inn _).ofInn
  refine W_callA rfl ?hargs (call154 h1 hs hi.lt (by omega)) ?_
  case hargs => simp only [decide_true, decide_false, execE, unE, at_t, at_c, upd_at, upd_none, args0, push_no, get_inn, next_inn, ds_inn, get_put, next_put, ds_put, get_new, next_new, ds_new, getD_cons_zero, getD_cons_succ, getD_nil, reduceIte, Nat.reduceEqDiff, Bool.or_true, Bool.true_or, Bool.or_false, Bool.false_or, Bool.not_true, Bool.not_false, Bool.false_eq_true, beq_self_eq_true, beq_true, Bool.true_beq, beq_false, Bool.false_beq, length_cons, length_nil, Nat.zero_add, Nat.add_zero, Nat.reduceAdd, Nat.reduceLeDiff, getElem?_cons_zero, getElem?_cons_succ, Option.map_some, map_cons, map_nil, true_and, and_true, and_self] <;> rfl
  rintro v m1 ⟨rfl, k1⟩ s1
  have h2 := h1.keep k1 (by simp)
  repeat (first
    | ((first | refine W_op rfl rfl ?_ | (refine W_opgT rfl rfl ?hg ?_; (case hg => (simp only [upd_at, reduceIte, Nat.reduceEqDiff, Bool.not_true, Bool.not_false]; done)))); simp only [decide_true, decide_false, execE, unE, at_t, at_c, upd_at, upd_none, args0, push_no, get_inn, next_inn, ds_inn, get_put, next_put, ds_put, get_new, next_new, ds_new, getD_cons_zero, getD_cons_succ, getD_nil, reduceIte, Nat.reduceEqDiff, Bool.or_true, Bool.true_or, Bool.or_false, Bool.false_or, Bool.not_true, Bool.not_false, Bool.false_eq_true, beq_self_eq_true, beq_true, Bool.true_beq, beq_false, Bool.false_beq, length_cons, length_nil, Nat.zero_add, Nat.add_zero, Nat.reduceAdd, Nat.reduceLeDiff, getElem?_cons_zero, getElem?_cons_succ, Option.map_some, map_cons, map_nil, true_and, and_true, and_self, Wo_some])
    | (refine W_opgF rfl rfl ?hg ?_; (case hg => (simp only [upd_at, reduceIte, Nat.reduceEqDiff, Bool.not_true, Bool.not_false]; done)))
    | rw [W_seq] | rw [W_reg] | rw [push_no] | rw [W_onil] | rw [W_skip] | rw [W_blk] | rw [W_b] | refine W_regd0 ?_)
  generalize hu : G.fromG st up.length kind origin = u at *
  refine W_callA rfl ?hargs (call155 u h2 hi.lt hso (by omega)) ?_
  case hargs => simp only [decide_true, decide_false, execE, unE, at_t, at_c, upd_at, upd_none, args0, push_no, get_inn, next_inn, ds_inn, get_put, next_put, ds_put, get_new, next_new, ds_new, getD_cons_zero, getD_cons_succ, getD_nil, reduceIte, Nat.reduceEqDiff, Bool.or_true, Bool.true_or, Bool.or_false, Bool.false_or, Bool.not_true, Bool.not_false, Bool.false_eq_true, beq_self_eq_true, beq_true, Bool.true_beq, beq_false, Bool.false_beq, length_cons, length_nil, Nat.zero_add, Nat.add_zero, Nat.reduceAdd, Nat.reduceLeDiff, getElem?_cons_zero, getElem?_cons_succ, Option.map_some, map_cons, map_nil, true_and, and_true, and_self] <;> rfl
  rintro v2 m2 ⟨h3, k2⟩ s2
  have kk2 : Keep m m2 fp := (k0.nil.trans k1 (by simp)).trans k2 (fun i hi => .inl hi)
  have hds2 : m2.ds = [] := s2.ds.trans (s1.ds.trans rfl)
  have hso2 := G.cut_sub u st
  have hcl := cut_len u st
  have hsl := st_len hso hi.lt
  generalize hcu : G.cutTo u st = st2 at *
  obtain ⟨au, ap, ao, ju, jp, jo, hgg, hgj, hfp, hnd, ru, rp, ro⟩ := h3
  obtain ⟨q1, q2, q3, q4, q5, q6⟩ := fp3 hfp hnd
  have hlu := ru.lenF (n := up.length) (by simp)
  repeat (first
    | ((first | refine W_opN rfl rfl rfl ?_ | (refine W_opgT rfl rfl ?hg ?_; (case hg => (simp only [upd_at, reduceIte, Nat.reduceEqDiff, Bool.not_true, Bool.not_false]; done)))); simp only [decide_true, decide_false, execE, unE, at_t, at_c, upd_at, upd_none, args0, push_no, get_inn, next_inn, ds_inn, get_put, next_put, ds_put, get_new, next_new, ds_new, getD_cons_zero, getD_cons_succ, getD_nil, reduceIte, Nat.reduceEqDiff, Bool.or_true, Bool.true_or, Bool.or_false, Bool.false_or, Bool.not_true, Bool.not_false, Bool.false_eq_true, beq_self_eq_true, beq_true, Bool.true_beq, beq_false, Bool.false_beq, length_cons, length_nil, Nat.zero_add, Nat.add_zero, Nat.reduceAdd, Nat.reduceLeDiff, getElem?_cons_zero, getElem?_cons_succ, Option.map_some, map_cons, map_nil, true_and, and_true, and_self, hgg, ↓hlu, Wo_some])
    | (refine W_opgF rfl rfl ?hg ?_; (case hg => (simp only [upd_at, reduceIte, Nat.reduceEqDiff, Bool.not_true, Bool.not_false]; done)))
    | rw [W_seq] | rw [W_reg] | rw [push_no] | rw [W_onil] | rw [W_skip] | rw [W_blk] | rw [W_b] | refine W_regd0 ?_)
  refine W_push rfl rfl rfl ?hs (Row.as ru ?hrow) ?hone ?hroom ?_
  case hs => simp only [decide_true, decide_false, execE, unE, at_t, at_c, upd_at, upd_none, args0, push_no, get_inn, next_inn, ds_inn, get_put, next_put, ds_put, get_new, next_new, ds_new, getD_cons_zero, getD_cons_succ, getD_nil, reduceIte, Nat.reduceEqDiff, Bool.or_true, Bool.true_or, Bool.or_false, Bool.false_or, Bool.not_true, Bool.not_false, Bool.false_eq_true, beq_self_eq_true, beq_true, Bool.true_beq, beq_false, Bool.false_beq, length_cons, length_nil, Nat.zero_add, Nat.add_zero, Nat.reduceAdd, Nat.reduceLeDiff, getElem?_cons_zero, getElem?_cons_succ, Option.map_some, map_cons, map_nil, true_and, and_true, and_self]
  case hrow => simp only [decide_true, decide_false, execE, unE, at_t, at_c, upd_at, upd_none, args0, push_no, get_inn, next_inn, ds_inn, get_put, next_put, ds_put, get_new, next_new, ds_new, getD_cons_zero, getD_cons_succ, getD_nil, reduceIte, Nat.reduceEqDiff, Bool.or_true, Bool.true_or, Bool.or_false, Bool.false_or, Bool.not_true, Bool.not_false, Bool.false_eq_true, beq_self_eq_true, beq_true, Bool.true_beq, beq_false, Bool.false_beq, length_cons, length_nil, Nat.zero_add, Nat.add_zero, Nat.reduceAdd, Nat.reduceLeDiff, getElem?_cons_zero, getElem?_cons_succ, Option.map_some, map_cons, map_nil, true_and, and_true, and_self]
  case hone => simp only [decide_true, decide_false, execE, unE, at_t, at_c, upd_at, upd_none, args0, push_no, get_inn, next_inn, ds_inn, get_put, next_put, ds_put, get_new, next_new, ds_new, getD_cons_zero, getD_cons_succ, getD_nil, reduceIte, Nat.reduceEqDiff, Bool.or_true, Bool.true_or, Bool.or_false, Bool.false_or, Bool.not_true, Bool.not_false, Bool.false_eq_true, beq_self_eq_true, beq_true, Bool.true_beq, beq_false, Bool.false_beq, length_cons, length_nil, Nat.zero_add, Nat.add_zero, Nat.reduceAdd, Nat.reduceLeDiff, getElem?_cons_zero, getElem?_cons_succ, Option.map_some, map_cons, map_nil, true_and, and_true, and_self, AV.one]
  case hroom => exact roomyOf (by omega) (by simp; omega)
  intro av3 j3 m3 r3 ds3 ro3 o3 k3
  simp only [decide_true, decide_false, execE, unE, at_t, at_c, upd_at, upd_none, args0, push_no, get_inn, next_inn, ds_inn, get_put, next_put, ds_put, get_new, next_new, ds_new, getD_cons_zero, getD_cons_succ, getD_nil, reduceIte, Nat.reduceEqDiff, Bool.or_true, Bool.true_or, Bool.or_false, Bool.false_or, Bool.not_true, Bool.not_false, Bool.false_eq_true, beq_self_eq_true, beq_true, Bool.true_beq, beq_false, Bool.false_beq, length_cons, length_nil, Nat.zero_add, Nat.add_zero, Nat.reduceAdd, Nat.reduceLeDiff, getElem?_cons_zero, getElem?_cons_succ, Option.map_some, map_cons, map_nil, true_and, and_true, and_self] at r3
  have lu : ∀ j, ju = some j → j < m2.next := by rintro j rfl; exact ru.lt
  have lp : ∀ j, jp = some j → j < m2.next := by rintro j rfl; exact rp.lt
  have lo : ∀ j, jo = some j → j < m2.next := by rintro j rfl; exact ro.lt
  have n3 : j3 ≠ gj := by rcases o3 with h | h; exact q1 _ h; omega
  have hg3 := k3.at hgj (by intro h; simp at h; exact q1 _ h rfl) hgg
  have rp3 := rp.keep k3 (by intro j hj h; simp at h; exact q4 _ _ h hj rfl)
  have ro3' := ro.keep k3 (by intro j hj h; simp at h; exact q5 _ _ h hj rfl)
  have c3 := one_cells r3.one
  have e3 := r3.one
  have cp := one_cells rp.one
  have ep := rp.one
  have co := one_cells ro.one
  have eo := ro.one
  repeat (first
    | ((first | refine W_opN rfl rfl rfl ?_ | (refine W_opgT rfl rfl ?hg ?_; (case hg => (simp only [upd_at, reduceIte, Nat.reduceEqDiff, Bool.not_true, Bool.not_false]; done)))); simp only [decide_true, decide_false, execE, unE, at_t, at_c, upd_at, upd_none, args0, push_no, get_inn, next_inn, ds_inn, get_put, next_put, ds_put, get_new, next_new, ds_new, getD_cons_zero, getD_cons_succ, getD_nil, reduceIte, Nat.reduceEqDiff, Bool.or_true, Bool.true_or, Bool.or_false, Bool.false_or, Bool.not_true, Bool.not_false, Bool.false_eq_true, beq_self_eq_true, beq_true, Bool.true_beq, beq_false, Bool.false_beq, length_cons, length_nil, Nat.zero_add, Nat.add_zero, Nat.reduceAdd, Nat.reduceLeDiff, getElem?_cons_zero, getElem?_cons_succ, Option.map_some, map_cons, map_nil, true_and, and_true, and_self, hg3, c3, e3, List.all_cons, List.all_nil, Bool.and_self, splice, List.take_succ_cons, List.take_zero, List.nil_append, List.cons_append, List.drop_succ_cons, List.drop_zero, List.append_nil, Wo_some])
    | (refine W_opgF rfl rfl ?hg ?_; (case hg => (simp only [upd_at, reduceIte, Nat.reduceEqDiff, Bool.not_true, Bool.not_false]; done)))
    | rw [W_seq] | rw [W_reg] | rw [push_no] | rw [W_onil] | rw [W_skip] | rw [W_blk] | rw [W_b] | refine W_regd0 ?_)
  have k4 := Keep.put m3 gj (some (.cells [av3, ap, ao] true ⟨3, none⟩))
  have r3b := r3.keep k4 (by rintro j ⟨⟩; simpa using n3)
  have rp4 := rp3.keep k4 (by intro j hj; simpa using q2 _ hj)
  have ro4 := ro3'.keep k4 (by intro j hj; simpa using q3 _ hj)
  have hgj3 : gj < m3.next := Nat.lt_of_lt_of_le hgj k3.next
  refine W_push rfl rfl rfl ?hs (Row.as ro4 ?hrow) ?hone ?hroom ?_
  case hs => simp only [decide_true, decide_false, execE, unE, at_t, at_c, upd_at, upd_none, args0, push_no, get_inn, next_inn, ds_inn, get_put, next_put, ds_put, get_new, next_new, ds_new, getD_cons_zero, getD_cons_succ, getD_nil, reduceIte, Nat.reduceEqDiff, Bool.or_true, Bool.true_or, Bool.or_false, Bool.false_or, Bool.not_true, Bool.not_false, Bool.false_eq_true, beq_self_eq_true, beq_true, Bool.true_beq, beq_false, Bool.false_beq, length_cons, length_nil, Nat.zero_add, Nat.add_zero, Nat.reduceAdd, Nat.reduceLeDiff, getElem?_cons_zero, getElem?_cons_succ, Option.map_some, map_cons, map_nil, true_and, and_true, and_self]
  case hrow => simp only [decide_true, decide_false, execE, unE, at_t, at_c, upd_at, upd_none, args0, push_no, get_inn, next_inn, ds_inn, get_put, next_put, ds_put, get_new, next_new, ds_new, getD_cons_zero, getD_cons_succ, getD_nil, reduceIte, Nat.reduceEqDiff, Bool.or_true, Bool.true_or, Bool.or_false, Bool.false_or, Bool.not_true, Bool.not_false, Bool.false_eq_true, beq_self_eq_true, beq_true, Bool.true_beq, beq_false, Bool.false_beq, length_cons, length_nil, Nat.zero_add, Nat.add_zero, Nat.reduceAdd, Nat.reduceLeDiff, getElem?_cons_zero, getElem?_cons_succ, Option.map_some, map_cons, map_nil, true_and, and_true, and_self]
  case hone => simp only [decide_true, decide_false, execE, unE, at_t, at_c, upd_at, upd_none, args0, push_no, get_inn, next_inn, ds_inn, get_put, next_put, ds_put, get_new, next_new, ds_new, getD_cons_zero, getD_cons_succ, getD_nil, reduceIte, Nat.reduceEqDiff, Bool.or_true, Bool.true_or, Bool.or_false, Bool.false_or, Bool.not_true, Bool.not_false, Bool.false_eq_true, beq_self_eq_true, beq_true, Bool.true_beq, beq_false, Bool.false_beq, length_cons, length_nil, Nat.zero_add, Nat.add_zero, Nat.reduceAdd, Nat.reduceLeDiff, getElem?_cons_zero, getElem?_cons_succ, Option.map_some, map_cons, map_nil, true_and, and_true, and_self, AV.one]
  case hroom => exact roomyOf (by omega) (by simp; omega)
  intro av5 j5 m5 r5 ds5 ro5 o5 k5
  simp only [decide_true, decide_false, execE, unE, at_t, at_c, upd_at, upd_none, args0, push_no, get_inn, next_inn, ds_inn, get_put, next_put, ds_put, get_new, next_new, ds_new, getD_cons_zero, getD_cons_succ, getD_nil, reduceIte, Nat.reduceEqDiff, Bool.or_true, Bool.true_or, Bool.or_false, Bool.false_or, Bool.not_true, Bool.not_false, Bool.false_eq_true, beq_self_eq_true, beq_true, Bool.true_beq, beq_false, Bool.false_beq, length_cons, length_nil, Nat.zero_add, Nat.add_zero, Nat.reduceAdd, Nat.reduceLeDiff, getElem?_cons_zero, getElem?_cons_succ, Option.map_some, map_cons, map_nil, true_and, and_true, and_self] at r5
  have n4 : (m3.put gj (some (.cells [av3, ap, ao] true ⟨3, none⟩))).next = m3.next := rfl
  have g4 : (m3.put gj (some (.cells [av3, ap, ao] true ⟨3, none⟩))).get gj = some (.cells [av3, ap, ao] true ⟨3, none⟩) := by rw [AMem.get_put, if_pos rfl]
  generalize hm4 : m3.put gj (some (.cells [av3, ap, ao] true ⟨3, none⟩)) = m4 at *
  have lk3 := k3.next
  have n5 : j5 ≠ gj := by rcases o5 with h | h; exact q3 _ h; omega
  have hg5 := k5.at (by omega) (by intro h; simp at h; exact q3 _ h rfl) g4
  have rp5 := rp4.keep k5 (by intro j hj h; simp at h; exact q6 _ _ hj h rfl)
  have l3 := r3.lt
  have r3c := r3b.keep k5 (by
    rintro j ⟨⟩ h
    simp at h
    rcases o3 with h3 | h3
    · exact q5 _ _ h3 h rfl
    · have := lo _ h; omega)
  have c5 := one_cells r5.one
  have e5 := r5.one
  repeat (first
    | ((first | refine W_opN rfl rfl rfl ?_ | (refine W_opgT rfl rfl ?hg ?_; (case hg => (simp only [upd_at, reduceIte, Nat.reduceEqDiff, Bool.not_true, Bool.not_false]; done)))); simp only [decide_true, decide_false, execE, unE, at_t, at_c, upd_at, upd_none, args0, push_no, get_inn, next_inn, ds_inn, get_put, next_put, ds_put, get_new, next_new, ds_new, getD_cons_zero, getD_cons_succ, getD_nil, reduceIte, Nat.reduceEqDiff, Bool.or_true, Bool.true_or, Bool.or_false, Bool.false_or, Bool.not_true, Bool.not_false, Bool.false_eq_true, beq_self_eq_true, beq_true, Bool.true_beq, beq_false, Bool.false_beq, length_cons, length_nil, Nat.zero_add, Nat.add_zero, Nat.reduceAdd, Nat.reduceLeDiff, getElem?_cons_zero, getElem?_cons_succ, Option.map_some, map_cons, map_nil, true_and, and_true, and_self, hg5, c5, e5, List.all_cons, List.all_nil, Bool.and_self, splice, List.take_succ_cons, List.take_zero, List.nil_append, List.cons_append, List.drop_succ_cons, List.drop_zero, List.append_nil, Wo_some])
    | (refine W_opgF rfl rfl ?hg ?_; (case hg => (simp only [upd_at, reduceIte, Nat.reduceEqDiff, Bool.not_true, Bool.not_false]; done)))
    | rw [W_seq] | rw [W_reg] | rw [push_no] | rw [W_onil] | rw [W_skip] | rw [W_blk] | rw [W_b] | refine W_regd0 ?_)
  have k6 := Keep.put m5 gj (some (.cells [av3, ap, av5] true ⟨3, none⟩))
  have lk5 := k5.next
  have r3d := r3c.keep k6 (by rintro j ⟨⟩; simpa using n3)
  have rp6 := rp5.keep k6 (by intro j hj; simpa using q2 _ hj)
  have r5d := r5.keep k6 (by rintro j ⟨⟩; simpa using n5)
  refine W_push rfl rfl rfl ?hs (Row.as rp6 ?hrow) ?hone ?hroom ?_
  case hs => simp only [decide_true, decide_false, execE, unE, at_t, at_c, upd_at, upd_none, args0, push_no, get_inn, next_inn, ds_inn, get_put, next_put, ds_put, get_new, next_new, ds_new, getD_cons_zero, getD_cons_succ, getD_nil, reduceIte, Nat.reduceEqDiff, Bool.or_true, Bool.true_or, Bool.or_false, Bool.false_or, Bool.not_true, Bool.not_false, Bool.false_eq_true, beq_self_eq_true, beq_true, Bool.true_beq, beq_false, Bool.false_beq, length_cons, length_nil, Nat.zero_add, Nat.add_zero, Nat.reduceAdd, Nat.reduceLeDiff, getElem?_cons_zero, getElem?_cons_succ, Option.map_some, map_cons, map_nil, true_and, and_true, and_self]
  case hrow => simp only [decide_true, decide_false, execE, unE, at_t, at_c, upd_at, upd_none, args0, push_no, get_inn, next_inn, ds_inn, get_put, next_put, ds_put, get_new, next_new, ds_new, getD_cons_zero, getD_cons_succ, getD_nil, reduceIte, Nat.reduceEqDiff, Bool.or_true, Bool.true_or, Bool.or_false, Bool.false_or, Bool.not_true, Bool.not_false, Bool.false_eq_true, beq_self_eq_true, beq_true, Bool.true_beq, beq_false, Bool.false_beq, length_cons, length_nil, Nat.zero_add, Nat.add_zero, Nat.reduceAdd, Nat.reduceLeDiff, getElem?_cons_zero, getElem?_cons_succ, Option.map_some, map_cons, map_nil, true_and, and_true, and_self]
  case hone => simp only [decide_true, decide_false, execE, unE, at_t, at_c, upd_at, upd_none, args0, push_no, get_inn, next_inn, ds_inn, get_put, next_put, ds_put, get_new, next_new, ds_new, getD_cons_zero, getD_cons_succ, getD_nil, reduceIte, Nat.reduceEqDiff, Bool.or_true, Bool.true_or, Bool.or_false, Bool.false_or, Bool.not_true, Bool.not_false, Bool.false_eq_true, beq_self_eq_true, beq_true, Bool.true_beq, beq_false, Bool.false_beq, length_cons, length_nil, Nat.zero_add, Nat.add_zero, Nat.reduceAdd, Nat.reduceLeDiff, getElem?_cons_zero, getElem?_cons_succ, Option.map_some, map_cons, map_nil, true_and, and_true, and_self, AV.one]
  case hroom => exact roomyOf (by omega) (by simp; omega)
  intro av7 j7 m7 r7 ds7 ro7 o7 k7
  simp only [decide_true, decide_false, execE, unE, at_t, at_c, upd_at, upd_none, args0, push_no, get_inn, next_inn, ds_inn, get_put, next_put, ds_put, get_new, next_new, ds_new, getD_cons_zero, getD_cons_succ, getD_nil, reduceIte, Nat.reduceEqDiff, Bool.or_true, Bool.true_or, Bool.or_false, Bool.false_or, Bool.not_true, Bool.not_false, Bool.false_eq_true, beq_self_eq_true, beq_true, Bool.true_beq, beq_false, Bool.false_beq, length_cons, length_nil, Nat.zero_add, Nat.add_zero, Nat.reduceAdd, Nat.reduceLeDiff, getElem?_cons_zero, getElem?_cons_succ, Option.map_some, map_cons, map_nil, true_and, and_true, and_self] at r7
  have n6 : (m5.put gj (some (.cells [av3, ap, av5] true ⟨3, none⟩))).next = m5.next := rfl
  have g6 : (m5.put gj (some (.cells [av3, ap, av5] true ⟨3, none⟩))).get gj = some (.cells [av3, ap, av5] true ⟨3, none⟩) := by rw [AMem.get_put, if_pos rfl]
  have d6 : (m5.put gj (some (.cells [av3, ap, av5] true ⟨3, none⟩))).ds = m5.ds := rfl
  generalize hm6 : m5.put gj (some (.cells [av3, ap, av5] true ⟨3, none⟩)) = m6 at *
  have n7 : j7 ≠ gj := by rcases o7 with h | h; exact q2 _ h; omega
  have l5 := r5.lt
  have hg7 := k7.at (by omega) (by intro h; simp at h; exact q2 _ h rfl) g6
  have r3e := r3d.keep k7 (by
    rintro j ⟨⟩ h
    simp at h
    rcases o3 with h3 | h3
    · exact q4 _ _ h3 h rfl
    · have := lp _ h; omega)
  have r5e := r5d.keep k7 (by
    rintro j ⟨⟩ h
    simp at h
    rcases o5 with h3 | h3
    · exact q6 _ _ h h3 rfl
    · have := lp _ h; omega)
  have c7 := one_cells r7.one
  have e7 := r7.one
  repeat (first
    | ((first | refine W_op rfl rfl ?_ | (refine W_opgT rfl rfl ?hg ?_; (case hg => (simp only [upd_at, reduceIte, Nat.reduceEqDiff, Bool.not_true, Bool.not_false]; done)))); simp only [decide_true, decide_false, execE, unE, at_t, at_c, upd_at, upd_none, args0, push_no, get_inn, next_inn, ds_inn, get_put, next_put, ds_put, get_new, next_new, ds_new, getD_cons_zero, getD_cons_succ, getD_nil, reduceIte, Nat.reduceEqDiff, Bool.or_true, Bool.true_or, Bool.or_false, Bool.false_or, Bool.not_true, Bool.not_false, Bool.false_eq_true, beq_self_eq_true, beq_true, Bool.true_beq, beq_false, Bool.false_beq, length_cons, length_nil, Nat.zero_add, Nat.add_zero, Nat.reduceAdd, Nat.reduceLeDiff, getElem?_cons_zero, getElem?_cons_succ, Option.map_some, map_cons, map_nil, true_and, and_true, and_self, hg7, c7, e7, List.all_cons, List.all_nil, Bool.and_self, splice, List.take_succ_cons, List.take_zero, List.nil_append, List.cons_append, List.drop_succ_cons, List.drop_zero, List.append_nil, Wo_some])
    | (refine W_opgF rfl rfl ?hg ?_; (case hg => (simp only [upd_at, reduceIte, Nat.reduceEqDiff, Bool.not_true, Bool.not_false]; done)))
    | rw [W_seq] | rw [W_reg] | rw [push_no] | rw [W_onil] | rw [W_skip] | rw [W_blk] | rw [W_b] | refine W_regd0 ?_)
  refine W_nil (by repeat (first | exact hg | exact args0_un (Nat.le_of_ble_eq_true rfl) | refine upd_un ?_ rfl)) ?_
  have k8 := Keep.put m7 gj (some (.cells [av3, av7, av5] true ⟨3, none⟩))
  have lk7 := k7.next
  have l7 := r7.lt
  have hju : ∀ i ∈ ju.toList, i ∈ fp := by intro i hi; simp at hi; subst hfp; simp [hi]
  have hjp : ∀ i ∈ jp.toList, i ∈ fp := by intro i hi; simp at hi; subst hfp; simp [hi]
  have hjo : ∀ i ∈ jo.toList, i ∈ fp := by intro i hi; simp at hi; subst hfp; simp [hi]
  have hgf : gj ∈ fp := by subst hfp; simp
  have kA : Keep m (m7.put gj (some (.cells [av3, av7, av5] true ⟨3, none⟩))) fp :=
    (((((kk2.trans k3 fun i hi => .inl (hju i hi)).trans k4 (by intro i hi; simp at hi; subst hi; exact .inl hgf)).trans k5 fun i hi => .inl (hjo i hi)).trans k6 (by intro i hi; simp at hi; subst hi; exact .inl hgf)).trans k7 fun i hi => .inl (hjp i hi)).trans k8 (by intro i hi; simp at hi; subst hi; exact .inl hgf)
  have lkk := kk2.next
  refine ⟨by simp only [AMem.ds_put]; rw [ds7, d6, ds5]; rw [← hm4]; simp only [AMem.ds_put]; rw [ds3, hds2], [], rfl, gj :: ((some j3).toList ++ (some j7).toList ++ (some j5).toList), ?_, kA.out, ?_⟩
  · refine ⟨av3, av7, av5, some j3, some j7, some j5, by rw [AMem.get_out, AMem.get_put, if_pos rfl], ?_, rfl, ?_, ?_, ?_, ?_⟩
    · show gj < m7.next; omega
    · have a1 : j3 ≠ j7 := by
        rcases o3 with h3 | h3 <;> rcases o7 with h7 | h7
        · exact q4 _ _ h3 h7
        · have := lu _ h3; omega
        · have := lp _ h7; omega
        · omega
      have a2 : j3 ≠ j5 := by
        rcases o3 with h3 | h3 <;> rcases o5 with h7 | h7
        · exact q5 _ _ h3 h7
        · have := lu _ h3; omega
        · have := lo _ h7; omega
        · omega
      have a3 : j7 ≠ j5 := by
        rcases o7 with h3 | h3 <;> rcases o5 with h7 | h7
        · exact q6 _ _ h3 h7
        · have := lp _ h3; omega
        · have := lo _ h7; omega
        · omega
      simp [n3.symm, n7.symm, n5.symm, a1, a2, a3]
    · have := (r3e.keep k8 (by rintro j ⟨⟩; simpa using n3)).keep ((Keep.refl _ []).out (m0 := m)) (by simp)
      simpa using this
    · have := (r7.keep k8 (by rintro j ⟨⟩; simpa using n7)).keep ((Keep.refl _ []).out (m0 := m)) (by simp)
      simpa using this
    · have := (r5e.keep k8 (by rintro j ⟨⟩; simpa using n5)).keep ((Keep.refl _ []).out (m0 := m)) (by simp)
      rw [on_push _ _ (fun a ha => hi.lt a (hso2 a ha))] at this
      simpa using this
  · intro i hi
    simp only [Option.toList_some, List.mem_cons, List.mem_append, List.not_mem_nil, or_false] at hi
    rcases hi with rfl | (rfl | rfl) | rfl
    · exact .inl hgf
    · rcases o3 with h | h
      · exact .inl (hju _ (by simp [h]))
      · right; omega
    · rcases o7 with h | h
      · exact .inl (hjp _ (by simp [h]))
      · right; omega
    · rcases o5 with h | h
      · exact .inl (hjo _ (by simp [h]))
      · right; omega
end Go.Proofs.YtnbdamdcmofafaaGreatDoor
