/- A session's state, told. No condition. -/
import Derived.Test.YtjlckbphpmogjaaGreatDoorSpPB
import Derived.Test.YtjlckbphpmogjaaGreatDoorSpViFx
namespace Go.Proofs.YtjlckbphpmogjaaGreatDoor
open Go.Vi
set_option linter.unusedSimpArgs false
set_option linter.unusedVariables false

theorem call99 {m : AMem} {av : AV} {n : Nat} {l : List AV} {ty : Option Nat} {oj : Option Nat} (h : RowE m 1 ty av oj n l) (hl : l.all AV.one = true) (hn64 : n ≤ 100000) :
    Vi.Call T 99 [av] m (fun v m' => (∃ ty' oj', RowE m' 1 ty' v oj' n l) ∧ Keep m m' []) := by
  refine Vi.Call.ofP T99 (Nat.le_of_ble_eq_true rfl) ?_
  unfold v99
  cases oj with
  | none =>
    obtain ⟨h0, rfl, rfl⟩ := h
    repeat (first
      | ((first | refine W_op rfl rfl ?_ | (refine W_opgT rfl rfl ?hg ?_; (case hg => (simp only [upd_at, reduceIte, Nat.reduceEqDiff, Bool.not_true, Bool.not_false]; done)))); simp only [WB, execE, unE, args0, reduceIte, Nat.reduceEqDiff, Nat.reduceAdd, Nat.reduceLeDiff, isNil, Wo_some])
      | (refine W_opgF rfl rfl ?hg ?_; (case hg => (simp only [upd_at, reduceIte, Nat.reduceEqDiff, Bool.not_true, Bool.not_false]; done)))
      | rw [W_seq] | rw [W_reg] | rw [push_no] | rw [W_onil] | rw [W_skip] | rw [W_blk] | rw [W_b] | refine W_regd0 ?_)
    refine W_cond ?_
    simp only [WB, execE, unE, args0, reduceIte, Nat.reduceEqDiff, Nat.reduceAdd, Nat.reduceLeDiff, WC]
    repeat (first
      | ((first | refine W_op rfl rfl ?_ | (refine W_opgT rfl rfl ?hg ?_; (case hg => (simp only [upd_at, reduceIte, Nat.reduceEqDiff, Bool.not_true, Bool.not_false]; done)))); simp only [WB, execE, unE, args0, reduceIte, Nat.reduceEqDiff, Nat.reduceAdd, Nat.reduceLeDiff, Wo_some])
      | (refine W_opgF rfl rfl ?hg ?_; (case hg => (simp only [upd_at, reduceIte, Nat.reduceEqDiff, Bool.not_true, Bool.not_false]; done)))
      | rw [W_seq] | rw [W_reg] | rw [push_no] | rw [W_onil] | rw [W_skip] | rw [W_blk] | rw [W_b] | refine W_regd0 ?_)
    refine W_getRet (by repeat (first | exact hg | exact args0_un (Nat.le_of_ble_eq_true rfl) | refine upd_un ?_ rfl)) ?_
    refine ⟨rfl, _, rfl, ⟨none, none, ⟨h0, rfl, rfl⟩⟩, (Keep.inn m).out⟩
  | some j =>
    have hA := h.arr
    obtain ⟨h0, c, cap, ex, rfl, hj, hg, hcl, hle, ht⟩ := h
    repeat (first
      | ((first | refine W_op rfl rfl ?_ | (refine W_opgT rfl rfl ?hg ?_; (case hg => (simp only [upd_at, reduceIte, Nat.reduceEqDiff, Bool.not_true, Bool.not_false]; done)))); simp only [WB, execE, unE, args0, reduceIte, Nat.reduceEqDiff, Nat.reduceAdd, Nat.reduceLeDiff, isNil, Wo_some])
      | (refine W_opgF rfl rfl ?hg ?_; (case hg => (simp only [upd_at, reduceIte, Nat.reduceEqDiff, Bool.not_true, Bool.not_false]; done)))
      | rw [W_seq] | rw [W_reg] | rw [push_no] | rw [W_onil] | rw [W_skip] | rw [W_blk] | rw [W_b] | refine W_regd0 ?_)
    refine W_cond ?_
    simp only [WB, execE, unE, args0, reduceIte, Nat.reduceEqDiff, Nat.reduceAdd, Nat.reduceLeDiff, WC]
    repeat (first
      | ((first | refine W_opA rfl rfl rfl ?_ | (refine W_opgT rfl rfl ?hg ?_; (case hg => (simp only [upd_at, reduceIte, Nat.reduceEqDiff, Bool.not_true, Bool.not_false]; done)))); simp only [WB, execE, unE, args0, reduceIte, Nat.reduceEqDiff, Nat.reduceAdd, Nat.reduceLeDiff, fillX, WO, fillX, splice, Wo_some])
      | (refine W_opgF rfl rfl ?hg ?_; (case hg => (simp only [upd_at, reduceIte, Nat.reduceEqDiff, Bool.not_true, Bool.not_false]; done)))
      | (refine W_opgU rfl ?hg ?_; (case hg => (simp only [upd_at, reduceIte, Nat.reduceEqDiff]; done))) | (refine W_callN rfl ?hg ?_; (case hg => (simp only [upd_at, reduceIte, Nat.reduceEqDiff, Bool.not_true, Bool.not_false]; done))) | rw [W_seq] | rw [W_reg] | rw [push_no] | rw [push_yes] | rw [W_onil] | rw [W_skip] | rw [W_blk] | rw [W_b] | refine W_regd0 ?_ | refine W_regd ?_)
    have hne : ¬ m.next = j := by omega
    have hroom : roomy (0 + n) 8 = true := roomyOf (by omega) (by omega)
    have hR0 : RowE (m.inn.new (.cells [] true (1 : Nat))) 1 none (.sl (some (m.next, 0)) 0 0 true) (some m.next) 0 [] :=
      ⟨by simp, [], 0, true, rfl, by simp, by rw [AMem.get_new, if_pos (show m.inn.next = m.next from rfl)], rfl, Nat.le_refl _, rfl⟩
    have hle2 : n * 1 ≤ c.length := by omega
    have hsrc : srcE (m.inn.new (.cells [] true (1 : Nat))) 1 (.sl (some (j, 0)) n cap ex) = some (l, n) := by
      simp only [srcE, rd, AMem.get_new, AMem.next_inn, if_neg hne, AMem.get_inn, hg, Nat.zero_add, if_pos hle2, List.drop_zero, ht, Option.map_some]
    refine W_app (n := 0) (k := n) (new := l) (ls := []) rfl (hR0.as ?_) ?_ h0 hl hroom ?_
    · skip
      simp only [WB, execE, unE, args0, reduceIte, Nat.reduceEqDiff, Nat.reduceAdd, Nat.reduceLeDiff]
    · skip
      simp only [WB, execE, unE, args0, reduceIte, Nat.reduceEqDiff, Nat.reduceAdd, Nat.reduceLeDiff]
      exact hsrc
    intro av' oj' m' ty' r5 ds5 ro5 o5 k5 _
    repeat (first
      | ((first | refine W_op rfl rfl ?_ | (refine W_opgT rfl rfl ?hg ?_; (case hg => (simp only [upd_at, reduceIte, Nat.reduceEqDiff, Bool.not_true, Bool.not_false]; done)))); simp only [WB, execE, unE, args0, reduceIte, Nat.reduceEqDiff, Nat.reduceAdd, Nat.reduceLeDiff, Wo_some])
      | (refine W_opgF rfl rfl ?hg ?_; (case hg => (simp only [upd_at, reduceIte, Nat.reduceEqDiff, Bool.not_true, Bool.not_false]; done)))
      | rw [W_seq] | rw [W_reg] | rw [push_no] | rw [W_onil] | rw [W_skip] | rw [W_blk] | rw [W_b] | refine W_regd0 ?_)
    refine W_getRet (by repeat (first | exact hg | exact args0_un (Nat.le_of_ble_eq_true rfl) | refine upd_un ?_ rfl)) ?_
    have hk : Keep m m' [] := (((Keep.new m.inn _).ofInn).nil.trans k5 (fun i hi => .inl hi)).mono (by intro i hi; simp at hi; right; omega)
    rw [Nat.zero_add] at r5
    exact ⟨by rw [ds5]; rfl, _, rfl, ⟨ty', oj', (r5.keep (Keep.refl _ []).out (by simp))⟩, hk.out⟩

theorem call25 {m : AMem} {jt : Nat} {c : List AV} {wr : Bool} {es : ES} {aT : Option (Nat × Nat)} {n cap : Nat} {e : Bool} (hg : m.get jt = some (.cells c wr es)) (hc : c[4]? = some (.sl aT n cap e)) (hn : n ≤ 100000) :
    Vi.Call T 25 [.p (some (jt, 0))] m (fun v m' => v = .i .i64 n ∧ Keep m m' []) := by
  refine Vi.Call.ofP T25 (Nat.le_of_ble_eq_true rfl) ?_
  unfold v25
  repeat (first
    | ((first | refine W_op rfl rfl ?_ | (refine W_opgT rfl rfl ?hg ?_; (case hg => (simp only [upd_at, reduceIte, Nat.reduceEqDiff, Bool.not_true, Bool.not_false]; done)))); simp only [WB, execE, unE, args0, reduceIte, Nat.reduceEqDiff, Nat.reduceAdd, Nat.reduceLeDiff, hg, hc, WO, fillX, splice, Wo_some])
    | (refine W_opgF rfl rfl ?hg ?_; (case hg => (simp only [upd_at, reduceIte, Nat.reduceEqDiff, Bool.not_true, Bool.not_false]; done)))
    | (refine W_opgU rfl ?hg ?_; (case hg => (simp only [upd_at, reduceIte, Nat.reduceEqDiff]; done))) | (refine W_callN rfl ?hg ?_; (case hg => (simp only [upd_at, reduceIte, Nat.reduceEqDiff, Bool.not_true, Bool.not_false]; done))) | rw [W_seq] | rw [W_reg] | rw [push_no] | rw [push_yes] | rw [W_onil] | rw [W_skip] | rw [W_blk] | rw [W_b] | refine W_regd0 ?_ | refine W_regd ?_)
  refine W_getRet (by repeat (first | exact hg | exact args0_un (Nat.le_of_ble_eq_true rfl) | refine upd_un ?_ rfl)) ?_
  exact ⟨rfl, _, rfl, rfl, (Keep.inn m).out⟩

theorem call50 {m : AMem} {js jr jt : Nat} {B : Nat → AV} {pts rv : AV} {tr c c9 : List AV} {wr wr9 : Bool} {es es9 : ES} {aT : Option (Nat × Nat)} {n cap : Nat} {e : Bool} (hS : Ses m js jr B pts rv tr) (h9 : m.get jr = some (.cells c9 wr9 es9)) (hc9 : c9[9]? = some (.p (some (jt, 0)))) (hg : m.get jt = some (.cells c wr es)) (hc : c[4]? = some (.sl aT n cap e)) (hn : n ≤ 100000) :
    Vi.Call T 50 [.p (some (js, 0))] m (fun v m' => v = .i .i64 n ∧ Keep m m' []) := by
  refine Vi.Call.ofP T50 (Nat.le_of_ble_eq_true rfl) ?_
  unfold v50
  have ho := hS.obj
  repeat (first
    | ((first | refine W_op rfl rfl ?_ | (refine W_opgT rfl rfl ?hg ?_; (case hg => (simp only [upd_at, reduceIte, Nat.reduceEqDiff, Bool.not_true, Bool.not_false]; done)))); simp only [WB, execE, unE, args0, reduceIte, Nat.reduceEqDiff, Nat.reduceAdd, Nat.reduceLeDiff, ho, sesC, h9, hc9, WO, fillX, splice, Wo_some])
    | (refine W_opgF rfl rfl ?hg ?_; (case hg => (simp only [upd_at, reduceIte, Nat.reduceEqDiff, Bool.not_true, Bool.not_false]; done)))
    | (refine W_opgU rfl ?hg ?_; (case hg => (simp only [upd_at, reduceIte, Nat.reduceEqDiff]; done))) | (refine W_callN rfl ?hg ?_; (case hg => (simp only [upd_at, reduceIte, Nat.reduceEqDiff, Bool.not_true, Bool.not_false]; done))) | rw [W_seq] | rw [W_reg] | rw [push_no] | rw [push_yes] | rw [W_onil] | rw [W_skip] | rw [W_blk] | rw [W_b] | refine W_regd0 ?_ | refine W_regd ?_)
  refine W_callA rfl ?hargs (call25 (m := m.inn) hg hc hn) ?_
  case hargs => simp only [WB, execE, unE, args0, reduceIte, Nat.reduceEqDiff, Nat.reduceAdd, Nat.reduceLeDiff] <;> rfl
  rintro v m1 ⟨rfl, k1⟩ hs1
  repeat (first
    | ((first | refine W_op rfl rfl ?_ | (refine W_opgT rfl rfl ?hg ?_; (case hg => (simp only [upd_at, reduceIte, Nat.reduceEqDiff, Bool.not_true, Bool.not_false]; done)))); simp only [WB, execE, unE, args0, reduceIte, Nat.reduceEqDiff, Nat.reduceAdd, Nat.reduceLeDiff, WO, fillX, splice, Wo_some])
    | (refine W_opgF rfl rfl ?hg ?_; (case hg => (simp only [upd_at, reduceIte, Nat.reduceEqDiff, Bool.not_true, Bool.not_false]; done)))
    | (refine W_opgU rfl ?hg ?_; (case hg => (simp only [upd_at, reduceIte, Nat.reduceEqDiff]; done))) | (refine W_callN rfl ?hg ?_; (case hg => (simp only [upd_at, reduceIte, Nat.reduceEqDiff, Bool.not_true, Bool.not_false]; done))) | rw [W_seq] | rw [W_reg] | rw [push_no] | rw [push_yes] | rw [W_onil] | rw [W_skip] | rw [W_blk] | rw [W_b] | refine W_regd0 ?_ | refine W_regd ?_)
  refine W_getRet (by repeat (first | exact hg | exact args0_un (Nat.le_of_ble_eq_true rfl) | refine upd_un ?_ rfl)) ?_
  exact ⟨hs1.ds, _, rfl, rfl, (k1.ofInn).out⟩

theorem call51 {m : AMem} {x0 x1 x2 x3 x4 x5 x6 av : AV} {n : Nat} {l : List AV} {ty oj : Option Nat} (ho : x0.one = true ∧ x1.one = true ∧ x2.one = true ∧ x3.one = true ∧ x4.one = true ∧ x5.one = true ∧ x6.one = true) (h : RowE m 1 ty av oj n l) (hl : l.all AV.one = true) (hn64 : n ≤ 100000) :
    Vi.Call T 51 [.agg [x0, x1, x2, x3, x4, x5, x6, av]] m (fun v m' => (∃ r, v = .agg [x0, x1, x2, x3, x4, x5, x6, r] ∧ r.one = true) ∧ Keep m m' []) := by
  refine Vi.Call.ofP T51 (Nat.le_of_ble_eq_true rfl) ?_
  unfold v51
  obtain ⟨o0, o1, o2, o3, o4, o5, o6⟩ := ho
  have o7 := h.one
  have q0 := one_cells o0
  have q1 := one_cells o1
  have q2 := one_cells o2
  have q3 := one_cells o3
  have q4 := one_cells o4
  have q5 := one_cells o5
  have q6 := one_cells o6
  have q7 := one_cells o7
  repeat (first
    | ((first | refine W_op rfl rfl ?_ | (refine W_opgT rfl rfl ?hg ?_; (case hg => (simp only [upd_at, reduceIte, Nat.reduceEqDiff, Bool.not_true, Bool.not_false]; done)))); simp only [WB, execE, unE, args0, reduceIte, Nat.reduceEqDiff, Nat.reduceAdd, Nat.reduceLeDiff, o0, o1, o2, o3, o4, o5, o6, o7, q0, q1, q2, q3, q4, q5, q6, q7, WO, fillX, splice, Wo_some])
    | (refine W_opgF rfl rfl ?hg ?_; (case hg => (simp only [upd_at, reduceIte, Nat.reduceEqDiff, Bool.not_true, Bool.not_false]; done)))
    | (refine W_opgU rfl ?hg ?_; (case hg => (simp only [upd_at, reduceIte, Nat.reduceEqDiff]; done))) | (refine W_callN rfl ?hg ?_; (case hg => (simp only [upd_at, reduceIte, Nat.reduceEqDiff, Bool.not_true, Bool.not_false]; done))) | rw [W_seq] | rw [W_reg] | rw [push_no] | rw [push_yes] | rw [W_onil] | rw [W_skip] | rw [W_blk] | rw [W_b] | refine W_regd0 ?_ | refine W_regd ?_)
  obtain ⟨mA, hmA, kA, gA, gB, dA, nA⟩ : ∃ mA : AMem, mA = (m.inn.new (.cells [x0, x1, x2, x3, x4, x5, x6, av] true (8 : Nat))).new (.cells [.i .i64 0, .i .i64 0, .i .i64 0, .i .i64 0, .i .i64 0, .i .i64 0, .i .i64 0, .sl none 0 0 true] true ⟨8, some 60⟩) ∧ Keep m mA [] ∧ mA.get m.next = some (.cells [x0, x1, x2, x3, x4, x5, x6, av] true (8 : Nat)) ∧ mA.get (m.next + 1) = some (.cells [.i .i64 0, .i .i64 0, .i .i64 0, .i .i64 0, .i .i64 0, .i .i64 0, .i .i64 0, .sl none 0 0 true] true ⟨8, some 60⟩) ∧ mA.ds = [] ∧ m.next + 1 < mA.next :=
    ⟨_, rfl, ((Keep.new m.inn _).trans (Keep.new _ _) (by simp)).ofInn, by simp [AMem.get_new], by simp [AMem.get_new], rfl, by simp⟩
  rw [← hmA]
  clear hmA
  refine W_callA rfl ?hargs (call99 (h.keep kA (by simp)) hl hn64) ?_
  case hargs => simp only [WB, execE, unE, args0, reduceIte, Nat.reduceEqDiff, Nat.reduceAdd, Nat.reduceLeDiff] <;> rfl
  rintro v m2 ⟨⟨ty', oj', r2⟩, k2⟩ hs2
  have g2 := k2.at (by omega) (by simp) gA
  have g3 := k2.at nA (by simp) gB
  have h7 := r2.one
  have c7 := one_cells h7
  have hne : m.next + 1 ≠ m.next := by omega
  repeat (first
    | ((first | refine W_op rfl rfl ?_ | (refine W_opgT rfl rfl ?hg ?_; (case hg => (simp only [upd_at, reduceIte, Nat.reduceEqDiff, Bool.not_true, Bool.not_false]; done)))); simp only [WB, execE, unE, args0, reduceIte, Nat.reduceEqDiff, Nat.reduceAdd, Nat.reduceLeDiff, g2, g3, h7, c7, rd, Nat.le_refl, hne, o0, o1, o2, o3, o4, o5, o6, q0, q1, q2, q3, q4, q5, q6, WO, fillX, splice, Wo_some])
    | (refine W_opgF rfl rfl ?hg ?_; (case hg => (simp only [upd_at, reduceIte, Nat.reduceEqDiff, Bool.not_true, Bool.not_false]; done)))
    | (refine W_opgU rfl ?hg ?_; (case hg => (simp only [upd_at, reduceIte, Nat.reduceEqDiff]; done))) | (refine W_callN rfl ?hg ?_; (case hg => (simp only [upd_at, reduceIte, Nat.reduceEqDiff, Bool.not_true, Bool.not_false]; done))) | rw [W_seq] | rw [W_reg] | rw [push_no] | rw [push_yes] | rw [W_onil] | rw [W_skip] | rw [W_blk] | rw [W_b] | refine W_regd0 ?_ | refine W_regd ?_)
  refine W_getRet (by repeat (first | exact hg | exact args0_un (Nat.le_of_ble_eq_true rfl) | refine upd_un ?_ rfl)) ?_
  refine ⟨hs2.ds.trans dA, [.agg [x0, x1, x2, x3, x4, x5, x6, v]], ?hr, ⟨v, rfl, h7⟩, ?_⟩
  case hr =>
    simp only [resX, execE, at_t, upd_at, reduceIte, Nat.reduceEqDiff, rd, AMem.get_put, List.length_cons, List.length_nil, Nat.zero_add, Nat.reduceAdd, Nat.le_refl, List.drop_zero, List.take_succ_cons, List.take_zero, Option.map_some]
    try rfl
  · have kk : Keep m m2 [] := kA.trans k2 (by simp)
    exact ((kk.trans (Keep.put m2 m.next _) (by intro i hi; have := List.mem_singleton.1 hi; right; omega)).trans (Keep.put _ (m.next + 1) _) (by intro i hi; have := List.mem_singleton.1 hi; right; omega)).out

theorem call21 {m : AMem} {js jr jt : Nat} {B : Nat → AV} {pts rv : AV} {tr c c9 : List AV} {wr wr9 : Bool} {es es9 : ES} {aT : Option (Nat × Nat)} {n cap n9 : Nat} {e : Bool} {l : List AV} {ty oj : Option Nat} (hS : Ses m js jr B pts rv tr) (h9 : m.get jr = some (.cells c9 wr9 es9)) (hc9 : c9[9]? = some (.p (some (jt, 0)))) (hg : m.get jt = some (.cells c wr es)) (hc : c[4]? = some (.sl aT n cap e)) (hn : n ≤ 100000) (hn0 : 1 ≤ n) (hjt : jt < m.next)
    (ho : (B 2).one = true ∧ (B 3).one = true ∧ (B 4).one = true ∧ (B 5).one = true ∧ (B 6).one = true ∧ (B 7).one = true ∧ (B 8).one = true) (h : RowE m 1 ty (B 9) oj n9 l) (hl : l.all AV.one = true) (hn9 : n9 ≤ 100000) :
    Vi.Call T 21 [.p (some (js, 0))] m (fun v m' => (∃ r, v = .tup [.agg [B 2, B 3, B 4, B 5, B 6, B 7, B 8, r], .i .i64 0] ∧ r.one = true) ∧ Keep m m' []) := by
  refine Vi.Call.ofP T21 (Nat.le_of_ble_eq_true rfl) ?_
  unfold v21
  repeat (first | rw [W_seq] | rw [W_reg] | rw [push_no] | rw [push_yes] | rw [W_onil] | rw [W_skip] | rw [W_blk] | rw [W_b] | refine W_regd0 ?_ | refine W_regd ?_)
  refine W_op rfl rfl ?_
  simp only [WB, execE, unE, args0, reduceIte, Nat.reduceEqDiff, Nat.reduceAdd, Nat.reduceLeDiff, WO, fillX, splice, Wo_some]
  repeat (first | rw [push_no] | rw [push_yes] | rw [W_onil])
  obtain ⟨mC, hmC, kC0, bC, gC, dmC, _, nC⟩ := mk_new m.inn [.i .i64 0, .i .i64 0, .i .i64 0, .i .i64 0, .i .i64 0, .i .i64 0, .i .i64 0, .sl none 0 0 true] true ⟨8, some 60⟩ 8 rfl
  have kmC : Keep m mC [] := kC0.ofInn
  have gC' : mC.get m.next = some (.cells [.i .i64 0, .i .i64 0, .i .i64 0, .i .i64 0, .i .i64 0, .i .i64 0, .i .i64 0, .sl none 0 0 true] true ⟨8, some 60⟩) := gC
  have nC' : m.next < mC.next := nC
  rw [← hmC]
  clear hmC
  repeat (first
    | ((first | refine W_op rfl rfl ?_ | (refine W_opgT rfl rfl ?hg ?_; (case hg => (simp only [upd_at, reduceIte, Nat.reduceEqDiff, Bool.not_true, Bool.not_false]; done)))); simp only [WB, execE, unE, args0, reduceIte, Nat.reduceEqDiff, Nat.reduceAdd, Nat.reduceLeDiff, WO, fillX, splice, Wo_some])
    | (refine W_opgF rfl rfl ?hg ?_; (case hg => (simp only [upd_at, reduceIte, Nat.reduceEqDiff, Bool.not_true, Bool.not_false]; done)))
    | (refine W_opgU rfl ?hg ?_; (case hg => (simp only [upd_at, reduceIte, Nat.reduceEqDiff]; done))) | (refine W_callN rfl ?hg ?_; (case hg => (simp only [upd_at, reduceIte, Nat.reduceEqDiff, Bool.not_true, Bool.not_false]; done))) | rw [W_seq] | rw [W_reg] | rw [push_no] | rw [push_yes] | rw [W_onil] | rw [W_skip] | rw [W_blk] | rw [W_b] | refine W_regd0 ?_ | refine W_regd ?_)
  refine W_callA rfl ?hargs (call50 (hS.keep0 kmC) (kmC.at hS.jhi (by simp) h9) hc9 (kmC.at hjt (by simp) hg) hc hn) ?_
  case hargs => simp only [WB, execE, unE, args0, reduceIte, Nat.reduceEqDiff, Nat.reduceAdd, Nat.reduceLeDiff] <;> rfl
  rintro v m1 ⟨rfl, k1⟩ hs1
  have km1 : Keep m m1 [] := kmC.trans k1 (by simp)
  have c1 : ((n : Int) == 0) = false := by simp; omega
  have b1 : rd m1 js 2 8 = some [B 2, B 3, B 4, B 5, B 6, B 7, B 8, B 9] := by
    simp only [rd, (hS.keep0 km1).obj, sesC]
    rfl
  repeat (first
    | ((first | refine W_op rfl rfl ?_ | (refine W_opgT rfl rfl ?hg ?_; (case hg => (simp only [upd_at, reduceIte, Nat.reduceEqDiff, Bool.not_true, Bool.not_false]; done)))); simp only [WB, execE, unE, args0, reduceIte, Nat.reduceEqDiff, Nat.reduceAdd, Nat.reduceLeDiff, c1, binE, isShift, intBin, WO, fillX, splice, Wo_some])
    | (refine W_opgF rfl rfl ?hg ?_; (case hg => (simp only [upd_at, reduceIte, Nat.reduceEqDiff, Bool.not_true, Bool.not_false]; done)))
    | (refine W_opgU rfl ?hg ?_; (case hg => (simp only [upd_at, reduceIte, Nat.reduceEqDiff]; done))) | (refine W_callN rfl ?hg ?_; (case hg => (simp only [upd_at, reduceIte, Nat.reduceEqDiff, Bool.not_true, Bool.not_false]; done))) | rw [W_seq] | rw [W_reg] | rw [push_no] | rw [push_yes] | rw [W_onil] | rw [W_skip] | rw [W_blk] | rw [W_b] | refine W_regd0 ?_ | refine W_regd ?_)
  refine W_cond ?_
  simp only [WB, execE, unE, args0, reduceIte, Nat.reduceEqDiff, Nat.reduceAdd, Nat.reduceLeDiff, WC]
  repeat (first
    | ((first | refine W_op rfl rfl ?_ | (refine W_opgT rfl rfl ?hg ?_; (case hg => (simp only [upd_at, reduceIte, Nat.reduceEqDiff, Bool.not_true, Bool.not_false]; done)))); simp only [WB, execE, unE, args0, reduceIte, Nat.reduceEqDiff, Nat.reduceAdd, Nat.reduceLeDiff, b1, WO, fillX, splice, Wo_some])
    | (refine W_opgF rfl rfl ?hg ?_; (case hg => (simp only [upd_at, reduceIte, Nat.reduceEqDiff, Bool.not_true, Bool.not_false]; done)))
    | (refine W_opgU rfl ?hg ?_; (case hg => (simp only [upd_at, reduceIte, Nat.reduceEqDiff]; done))) | (refine W_callN rfl ?hg ?_; (case hg => (simp only [upd_at, reduceIte, Nat.reduceEqDiff, Bool.not_true, Bool.not_false]; done))) | rw [W_seq] | rw [W_reg] | rw [push_no] | rw [push_yes] | rw [W_onil] | rw [W_skip] | rw [W_blk] | rw [W_b] | refine W_regd0 ?_ | refine W_regd ?_)
  refine W_callA rfl ?hargs (call51 ho (h.keep km1 (by simp)) hl hn9) ?_
  case hargs => simp only [WB, execE, unE, args0, reduceIte, Nat.reduceEqDiff, Nat.reduceAdd, Nat.reduceLeDiff] <;> rfl
  rintro v m2 ⟨⟨r, rfl, hr⟩, k2⟩ hs2
  have km2 : Keep m m2 [] := km1.trans k2 (by simp)
  have g2 := (k1.trans k2 (by simp)).at nC' (by simp) gC'
  obtain ⟨o0, o1, o2, o3, o4, o5, o6⟩ := ho
  have q0 := one_cells o0
  have q1 := one_cells o1
  have q2 := one_cells o2
  have q3 := one_cells o3
  have q4 := one_cells o4
  have q5 := one_cells o5
  have q6 := one_cells o6
  have q7 := one_cells hr
  repeat (first
    | ((first | refine W_op rfl rfl ?_ | (refine W_opgT rfl rfl ?hg ?_; (case hg => (simp only [upd_at, reduceIte, Nat.reduceEqDiff, Bool.not_true, Bool.not_false]; done)))); simp only [WB, execE, unE, args0, reduceIte, Nat.reduceEqDiff, Nat.reduceAdd, Nat.reduceLeDiff, g2, o0, o1, o2, o3, o4, o5, o6, hr, q0, q1, q2, q3, q4, q5, q6, q7, WO, fillX, splice, Wo_some])
    | (refine W_opgF rfl rfl ?hg ?_; (case hg => (simp only [upd_at, reduceIte, Nat.reduceEqDiff, Bool.not_true, Bool.not_false]; done)))
    | (refine W_opgU rfl ?hg ?_; (case hg => (simp only [upd_at, reduceIte, Nat.reduceEqDiff]; done))) | (refine W_callN rfl ?hg ?_; (case hg => (simp only [upd_at, reduceIte, Nat.reduceEqDiff, Bool.not_true, Bool.not_false]; done))) | rw [W_seq] | rw [W_reg] | rw [push_no] | rw [push_yes] | rw [W_onil] | rw [W_skip] | rw [W_blk] | rw [W_b] | refine W_regd0 ?_ | refine W_regd ?_)
  refine W_getRet (by repeat (first | exact hg | exact args0_un (Nat.le_of_ble_eq_true rfl) | refine upd_un ?_ rfl)) ?_
  refine ⟨hs2.ds.trans (hs1.ds.trans dmC), [.agg [B 2, B 3, B 4, B 5, B 6, B 7, B 8, r], .i .i64 0], ?hr, ⟨r, rfl, hr⟩, ?_⟩
  case hr =>
    simp only [resX, execE, at_t, upd_at, reduceIte, Nat.reduceEqDiff, rd, AMem.get_put, List.length_cons, List.length_nil, Nat.zero_add, Nat.reduceAdd, Nat.le_refl, List.drop_zero, List.take_succ_cons, List.take_zero, Option.map_some]
    try rfl
  · exact (km2.trans (Keep.put m2 m.next _) (by intro i hi; have := List.mem_singleton.1 hi; right; omega)).out
end Go.Proofs.YtjlckbphpmogjaaGreatDoor
