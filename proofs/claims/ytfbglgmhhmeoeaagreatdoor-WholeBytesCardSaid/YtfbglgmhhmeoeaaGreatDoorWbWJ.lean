/- A state as bytes, behind another one. No condition. -/
import Derived.Test.YtfbglgmhhmeoeaaGreatDoorWbWH
import Derived.Test.YtfbglgmhhmeoeaaGreatDoorWbViNode
namespace Go.Proofs.YtfbglgmhhmeoeaaGreatDoor
open Go.Vi
set_option linter.unusedSimpArgs false
set_option linter.unusedVariables false
theorem eflds_len : ∀ (l k : List Int), (∀ x ∈ l, Small x) → (∀ x ∈ k, Small x) → (eflds l k).length ≤ 10 * l.length
 | [], k, _, _ => by simp [eflds]
 | a :: l, [], _, _ => by simp [eflds]
 | a :: l, x :: k, h3, h4 => by
   have ih := eflds_len l k (fun y hy => h3 y (List.mem_cons_of_mem _ hy)) (fun y hy => h4 y (List.mem_cons_of_mem _ hy))
   have ha := h3 a (List.mem_cons_self ..)
   have hx := h4 x (List.mem_cons_self ..)
   unfold Small at ha hx
   have b2 := vb_len64 (n := zig (x - a)) (zig_lt ⟨by omega, by omega⟩)
   simp only [eflds, List.length_cons, List.length_append]
   split
   ·simp only [List.length_nil]; omega
   ·omega
theorem moved_head {l k : List Int} (h : (mvn l k) < 1000) : ∃ c r, moved l k = c :: r ∧ (0 < c.toNat ↔ 0 < mvn l k) := by
 unfold moved
 by_cases hn : mvn l k < 128
 ·rw [vb_lt hn]
  exact ⟨_, _, rfl, by rw [u8_nat (by omega)]⟩
 ·rw [vb_ge (by omega)]
  exact ⟨_, _, rfl, by rw [u8_nat (by omega)]; omega⟩
theorem denc_len {was now : St} {g : Nat} (hw : was.small) (hn : now.rt g) (hc : was.caps.length = now.caps.length) : (denc was now).length ≤ 5000 := by
 have hs := hn.small
 have hcl := caps_len hn
 obtain ⟨hg, _, ⟨hk, _⟩, _⟩ := id hn
 have h1 := vb_len64 (n := now.kd.toNat) (by omega)
 have hm6 := emask_lt 0 was.fl now.fl
 have hfl : was.fl.length = 6 := rfl
 rw [hfl] at hm6
 have hdm : dmask was now < 128 := by unfold dmask; split <;> omega
 have h2 := vb_len64 (n := dmask was now) (by omega)
 have h3 := eflds_len was.fl now.fl hw.1 hs.1
 have h4 := mvl_len was.caps now.caps 0 0 (Nat.le_refl _) (by omega) hw.2 hs.2
 have hmn := mvn_le was.caps now.caps
 have h5 := vb_len64 (n := mvn was.caps now.caps) (by omega)
 unfold denc moved
 simp only [List.length_append]
 split
 ·simp only [List.length_append]; omega
 ·simp only [List.length_nil]; omega
set_option maxHeartbeats 8000000 in
theorem call62 {m : AMem} {was now : St} {cw cn : AV} (hA : Cap m cw was) (hB : Cap m cn now) (hb : Base was) (hws : was.small) (hn : now.caps.length ≤ 100000) :
  Vi.Call T 62 [.agg (stS was cw), .agg (stS now cn)] m (fun v m' => (if now.rt (grp was) then ∃ av, v = .tup [av, .i .i64 0] ∧ ByR m m' av (denc was now) else v = .tup [.sl none 0 0 true, .i .i64 11]) ∧ Keep m m' []) := by
 obtain ⟨g, hg, hcl, hgr⟩ := hb.caps
 have how := Arr.one hA
 have hon := Arr.one hB
 rw [hgr]
 refine Vi.Call.ofP T62 (Nat.le_of_ble_eq_true rfl) ?_
 unfold v62
 simp only [stS]
 repeat (first | simp only [WS] | refine W_regd0 ?_ | refine W_regd ?_)
 refine W_op rfl rfl ?_
 simp only [WB, execE, unE, args0, reduceIte, Nat.reduceEqDiff, Nat.reduceAdd, Nat.reduceLeDiff, how, WO, fillX, splice, Wo_some]
 repeat (first | rw [push_no] | rw [push_yes] | rw [W_onil])
 obtain ⟨mA, hmA, kA, bA, gA, dA, _, nA⟩ := mk_new m.inn [.i .i64 was.kd, .i .i64 was.nd, .i .i64 was.ph, .i .i64 was.pos, .i .i64 was.st, .i .i64 was.dp, .i .i64 was.og, cw] true (8 : Nat) 8 rfl
 have kA' : Keep m mA [] := kA.ofInn
 have gA' : mA.get m.next = some (.cells [.i .i64 was.kd, .i .i64 was.nd, .i .i64 was.ph, .i .i64 was.pos, .i .i64 was.st, .i .i64 was.dp, .i .i64 was.og, cw] true (8 : Nat)) := gA
 have nA' : m.next < mA.next := nA
 rw [← hmA]
 clear hmA gA nA kA bA
 repeat (first | simp only [WS] | refine W_regd0 ?_ | refine W_regd ?_)
 refine W_op rfl rfl ?_
 simp only [WB, execE, unE, args0, reduceIte, Nat.reduceEqDiff, Nat.reduceAdd, Nat.reduceLeDiff, hon, WO, fillX, splice, Wo_some]
 repeat (first | rw [push_no] | rw [push_yes] | rw [W_onil])
 obtain ⟨mB, hmB, kB, bB, gB, dB, _, nB⟩ := mk_new mA [.i .i64 now.kd, .i .i64 now.nd, .i .i64 now.ph, .i .i64 now.pos, .i .i64 now.st, .i .i64 now.dp, .i .i64 now.og, cn] true (8 : Nat) 8 rfl
 rw [← hmB]
 clear hmB
 have kB' : Keep m mB [] := kA'.trans kB (by simp)
 have gA2 := kB.at nA' (by simp) gA'
 have nB' : m.next < mB.next := Nat.lt_trans nA' nB
 have b1 : rd mB m.next 0 8 = some (stS was cw) := by simp [rd, gA2, stS]
 have c1 : rd mB mA.next 0 8 = some (stS now cn) := by simp [rd, gB, stS]
 repeat (first
  | ((first | refine W_op rfl rfl ?_ | (refine W_opgT rfl rfl ?h ?_; case h => simp only [WG, reduceIte, Nat.reduceEqDiff]; done)); simp only [WB, execE, unE, args0, reduceIte, Nat.reduceEqDiff, Nat.reduceAdd, Nat.reduceLeDiff, b1, WO, fillX, splice, Wo_some])
  | (refine W_opgF rfl rfl ?h ?_; case h => simp only [WG, reduceIte, Nat.reduceEqDiff]; done)
  | (refine W_opgU rfl ?h ?_; case h => simp only [upd_at, reduceIte, Nat.reduceEqDiff]; done) | (refine W_callN rfl ?h ?_; case h => simp only [WG, reduceIte, Nat.reduceEqDiff]; done) | simp only [WS] | refine W_regd0 ?_ | refine W_regd ?_)
 refine W_callA rfl ?hargs (call56 (s := was) (cv := cw) (Arr.keep0 hA kB') hb) ?_
 case hargs => simp only [WB, execE, unE, args0, reduceIte, Nat.reduceEqDiff, Nat.reduceAdd, Nat.reduceLeDiff] <;> rfl
 rintro v m1 ⟨rfl, k1⟩ hs1
 have b2 := rd_keep b1 k1 nB' (by simp)
 have c2 := rd_keep c1 k1 nB (by simp)
 have n1 : m.next < m1.next := Nat.lt_of_lt_of_le nB' k1.next
 have n1' : mA.next < m1.next := Nat.lt_of_lt_of_le nB k1.next
 have kk1 : Keep m m1 [] := kB'.trans k1 (by simp)
 repeat (first
  | ((first | refine W_op rfl rfl ?_ | (refine W_opgT rfl rfl ?h ?_; case h => simp only [WG, reduceIte, Nat.reduceEqDiff]; done)); simp only [WB, execE, unE, args0, reduceIte, Nat.reduceEqDiff, Nat.reduceAdd, Nat.reduceLeDiff, b2, c2, WO, fillX, splice, Wo_some])
  | (refine W_opgF rfl rfl ?h ?_; case h => simp only [WG, reduceIte, Nat.reduceEqDiff]; done)
  | (refine W_opgU rfl ?h ?_; case h => simp only [upd_at, reduceIte, Nat.reduceEqDiff]; done) | (refine W_callN rfl ?h ?_; case h => simp only [WG, reduceIte, Nat.reduceEqDiff]; done) | simp only [WS] | refine W_regd0 ?_ | refine W_regd ?_)
 refine W_callK rfl ?hg ?hargs (call61 (s := was) (cv := cw) (Arr.keep0 hA kk1) (by omega)) ?_
 case hg => (simp only [WB, execE, unE, args0, reduceIte, Nat.reduceEqDiff, Nat.reduceAdd, Nat.reduceLeDiff, WO, fillX, splice]; done)
 case hargs => simp only [WB, execE, unE, args0, reduceIte, Nat.reduceEqDiff, Nat.reduceAdd, Nat.reduceLeDiff, WO, fillX, splice] <;> rfl
 rintro v m2 ⟨rfl, k2⟩ hs2
 have b3 := rd_keep b2 k2 n1 (by simp)
 have c3 := rd_keep c2 k2 n1' (by simp)
 have n2 : m.next < m2.next := Nat.lt_of_lt_of_le n1 k2.next
 have n2' : mA.next < m2.next := Nat.lt_of_lt_of_le n1' k2.next
 have kk2 : Keep m m2 [] := kk1.trans k2 (by simp)
 rw [hgr]
 repeat (first
  | ((first | refine W_op rfl rfl ?_ | (refine W_opgT rfl rfl ?h ?_; case h => simp only [WG, reduceIte, Nat.reduceEqDiff]; done)); simp only [WB, execE, unE, args0, reduceIte, Nat.reduceEqDiff, Nat.reduceAdd, Nat.reduceLeDiff, WO, fillX, splice, Wo_some])
  | (refine W_opgF rfl rfl ?h ?_; case h => simp only [WG, reduceIte, Nat.reduceEqDiff]; done)
  | (refine W_opgU rfl ?h ?_; case h => simp only [upd_at, reduceIte, Nat.reduceEqDiff]; done) | (refine W_callN rfl ?h ?_; case h => simp only [WG, reduceIte, Nat.reduceEqDiff]; done) | simp only [WS] | refine W_regd0 ?_ | refine W_regd ?_)
 refine W_callK rfl ?hg ?hargs (call60 (s := now) (cv := cn) (g := (g : Int)) (Arr.keep0 hB kk2) (by omega) ⟨by omega, by omega⟩ ⟨by omega, by omega⟩) ?_
 case hg => (simp only [WB, execE, unE, args0, reduceIte, Nat.reduceEqDiff, Nat.reduceAdd, Nat.reduceLeDiff, WO, fillX, splice]; done)
 case hargs => simp only [WB, execE, unE, args0, reduceIte, Nat.reduceEqDiff, Nat.reduceAdd, Nat.reduceLeDiff, WO, fillX, splice] <;> rfl
 rintro v m3 ⟨rfl, k3⟩ hs3
 have b4 := rd_keep b3 k3 n2 (by simp)
 have c4 := rd_keep c3 k3 n2' (by simp)
 have n3 : m.next < m3.next := Nat.lt_of_lt_of_le n2 k3.next
 have n3' : mA.next < m3.next := Nat.lt_of_lt_of_le n2' k3.next
 have kk3 : Keep m m3 [] := kk2.trans k3 (by simp)
 have d3 : m3.ds = [] := hs3.ds.trans (hs2.ds.trans (hs1.ds.trans (dB.trans dA)))
 by_cases hr : now.rt g
 case neg =>
  have e1 : decide (now.rt g) = false := decide_eq_false hr
  rw [e1]
  repeat (first
   | ((first | refine W_op rfl rfl ?_ | (refine W_opgT rfl rfl ?h ?_; case h => simp only [WG, reduceIte, Nat.reduceEqDiff]; done)); simp only [WB, execE, unE, args0, reduceIte, Nat.reduceEqDiff, Nat.reduceAdd, Nat.reduceLeDiff, WO, fillX, splice, Wo_some])
   | (refine W_opgF rfl rfl ?h ?_; case h => simp only [WG, reduceIte, Nat.reduceEqDiff]; done)
   | (refine W_opgU rfl ?h ?_; case h => simp only [upd_at, reduceIte, Nat.reduceEqDiff]; done) | (refine W_callN rfl ?h ?_; case h => simp only [WG, reduceIte, Nat.reduceEqDiff]; done) | simp only [WS] | refine W_regd0 ?_ | refine W_regd ?_)
  refine W_dnil ?hs ?hnt ?_
  case hs => (simp only [SameIn, SameAt, List.nil_append, List.cons_append, reduceCtorEq, false_and, exists_false, exists_const, false_or, or_false, Option.some.injEq, exists_eq_left', exists_eq', or_true, and_true, WB, execE, unE, args0, reduceIte, Nat.reduceEqDiff, Nat.reduceAdd, Nat.reduceLeDiff, b1, b2, b3, b4, c1, c2, c3, c4])
  case hnt => (simp only [List.nil_append, List.cons_append, List.forall_mem_cons, List.not_mem_nil, false_imp_iff, implies_true, and_true]; repeat' (first | exact hg | exact args0_un (Nat.le_of_ble_eq_true rfl) | refine upd_un ?_ rfl | constructor))
  refine W_cond ?_
  simp only [WB, execE, unE, args0, reduceIte, Nat.reduceEqDiff, Nat.reduceAdd, Nat.reduceLeDiff, WC]
  repeat (first
   | ((first | refine W_op rfl rfl ?_ | (refine W_opgT rfl rfl ?h ?_; case h => simp only [WG, reduceIte, Nat.reduceEqDiff]; done)); simp only [WB, execE, unE, args0, reduceIte, Nat.reduceEqDiff, Nat.reduceAdd, Nat.reduceLeDiff, WO, fillX, splice, Wo_some])
   | (refine W_opgF rfl rfl ?h ?_; case h => simp only [WG, reduceIte, Nat.reduceEqDiff]; done)
   | (refine W_opgU rfl ?h ?_; case h => simp only [upd_at, reduceIte, Nat.reduceEqDiff]; done) | (refine W_callN rfl ?h ?_; case h => simp only [WG, reduceIte, Nat.reduceEqDiff]; done) | simp only [WS] | refine W_regd0 ?_ | refine W_regd ?_)
  refine W_getRet (by repeat (first | exact hg | exact args0_un (Nat.le_of_ble_eq_true rfl) | refine upd_un ?_ rfl)) ?_
  exact ⟨d3, _, rfl, by rw [if_neg hr]; rfl, kk3.out⟩
 have e1 : decide (now.rt g) = true := decide_eq_true hr
 have hsn := hr.small
 have hcn := caps_len hr
 obtain ⟨_, _, ⟨hkd, _⟩, _⟩ := id hr
 have gAm := k3.at n2 (by simp) (k2.at n1 (by simp) (k1.at nB' (by simp) gA2))
 have gBm := k3.at n2' (by simp) (k2.at n1' (by simp) (k1.at nB (by simp) gB))
 rw [e1]
 repeat (first
  | ((first | refine W_op rfl rfl ?_ | (refine W_opgT rfl rfl ?h ?_; case h => simp only [WG, reduceIte, Nat.reduceEqDiff]; done)); simp only [WB, execE, unE, args0, reduceIte, Nat.reduceEqDiff, Nat.reduceAdd, Nat.reduceLeDiff, WO, fillX, splice, Wo_some])
  | (refine W_opgF rfl rfl ?h ?_; case h => simp only [WG, reduceIte, Nat.reduceEqDiff]; done)
  | (refine W_opgU rfl ?h ?_; case h => simp only [upd_at, reduceIte, Nat.reduceEqDiff]; done) | (refine W_callN rfl ?h ?_; case h => simp only [WG, reduceIte, Nat.reduceEqDiff]; done) | simp only [WS] | refine W_regd0 ?_ | refine W_regd ?_)
 refine W_dnil ?hs ?hnt ?_
 case hs => (simp only [SameIn, SameAt, List.nil_append, List.cons_append, reduceCtorEq, false_and, exists_false, exists_const, false_or, or_false, Option.some.injEq, exists_eq_left', exists_eq', or_true, and_true, WB, execE, unE, args0, reduceIte, Nat.reduceEqDiff, Nat.reduceAdd, Nat.reduceLeDiff, b1, b2, b3, b4, c1, c2, c3, c4])
 case hnt => (simp only [List.nil_append, List.cons_append, List.forall_mem_cons, List.not_mem_nil, false_imp_iff, implies_true, and_true]; repeat' (first | exact hg | exact args0_un (Nat.le_of_ble_eq_true rfl) | refine upd_un ?_ rfl | constructor))
 refine W_cond ?_
 simp only [WB, execE, unE, args0, reduceIte, Nat.reduceEqDiff, Nat.reduceAdd, Nat.reduceLeDiff, WC]
 repeat (first | simp only [WS] | refine W_regd0 ?_ | refine W_regd ?_)
 refine W_op rfl rfl ?_
 simp only [WB, execE, unE, args0, reduceIte, Nat.reduceEqDiff, Nat.reduceAdd, Nat.reduceLeDiff, WO, fillX, splice, Wo_some]
 repeat (first | rw [push_no] | rw [push_yes] | rw [W_onil])
 obtain ⟨m4, hm4, k4, _, g4, ds4, _, n4⟩ := mk_new m3 [.i .i64 0, .i .i64 0, .i .i64 0, .i .i64 0, .i .i64 0, .i .i64 0] true ⟨6, some 175⟩ 6 rfl
 rw [← hm4]
 clear hm4
 repeat (first | simp only [WS] | refine W_regd0 ?_ | refine W_regd ?_)
 refine W_op rfl rfl ?_
 simp only [WB, execE, unE, args0, reduceIte, Nat.reduceEqDiff, Nat.reduceAdd, Nat.reduceLeDiff, WO, fillX, splice, Wo_some]
 repeat (first | rw [push_no] | rw [push_yes] | rw [W_onil])
 obtain ⟨m5, hm5, k5, _, g5, ds5, _, n5⟩ := mk_new m4 [.i .i64 0, .i .i64 0, .i .i64 0, .i .i64 0, .i .i64 0, .i .i64 0] true ⟨6, some 175⟩ 6 rfl
 rw [← hm5]
 clear hm5
 have k35 : Keep m3 m5 [] := k4.trans k5 (by simp)
 have b5 := rd_keep b4 k35 n3 (by simp)
 have c5 := rd_keep c4 k35 n3' (by simp)
 have g45 := k5.at n4 (by simp) g4
 have n35 := k35.next
 repeat (first
  | ((first | refine W_op rfl rfl ?_ | (refine W_opgT rfl rfl ?h ?_; case h => simp only [WG, reduceIte, Nat.reduceEqDiff]; done)); simp only [WB, execE, unE, args0, reduceIte, Nat.reduceEqDiff, Nat.reduceAdd, Nat.reduceLeDiff, b5, WO, fillX, splice, Wo_some])
  | (refine W_opgF rfl rfl ?h ?_; case h => simp only [WG, reduceIte, Nat.reduceEqDiff]; done)
  | (refine W_opgU rfl ?h ?_; case h => simp only [upd_at, reduceIte, Nat.reduceEqDiff]; done) | (refine W_callN rfl ?h ?_; case h => simp only [WG, reduceIte, Nat.reduceEqDiff]; done) | simp only [WS] | refine W_regd0 ?_ | refine W_regd ?_)
 refine W_callA rfl ?hargs (call97 (s := was) (cv := cw) how) ?_
 case hargs => simp only [WB, execE, unE, args0, reduceIte, Nat.reduceEqDiff, Nat.reduceAdd, Nat.reduceLeDiff] <;> rfl
 rintro v m6 ⟨rfl, k6⟩ hs6
 have b6 := rd_keep b5 k6 (Nat.lt_of_lt_of_le n3 n35) (by simp)
 have c6 := rd_keep c5 k6 (Nat.lt_of_lt_of_le n3' n35) (by simp)
 have n56 := k6.next
 repeat (first
  | ((first | refine W_op rfl rfl ?_ | (refine W_opgT rfl rfl ?h ?_; case h => simp only [WG, reduceIte, Nat.reduceEqDiff]; done)); simp only [WB, execE, unE, args0, reduceIte, Nat.reduceEqDiff, Nat.reduceAdd, Nat.reduceLeDiff, c6, WO, fillX, splice, Wo_some])
  | (refine W_opgF rfl rfl ?h ?_; case h => simp only [WG, reduceIte, Nat.reduceEqDiff]; done)
  | (refine W_opgU rfl ?h ?_; case h => simp only [upd_at, reduceIte, Nat.reduceEqDiff]; done) | (refine W_callN rfl ?h ?_; case h => simp only [WG, reduceIte, Nat.reduceEqDiff]; done) | simp only [WS] | refine W_regd0 ?_ | refine W_regd ?_)
 refine W_callA rfl ?hargs (call97 (s := now) (cv := cn) hon) ?_
 case hargs => simp only [WB, execE, unE, args0, reduceIte, Nat.reduceEqDiff, Nat.reduceAdd, Nat.reduceLeDiff] <;> rfl
 rintro v m7 ⟨rfl, k7⟩ hs7
 have n67 := k7.next
 have g47 := k7.at (Nat.lt_of_lt_of_le (Nat.lt_of_lt_of_le n4 k5.next) n56) (by simp) (k6.at (Nat.lt_of_lt_of_le n4 k5.next) (by simp) g45)
 have g57 := k7.at (Nat.lt_of_lt_of_le n5 n56) (by simp) (k6.at n5 (by simp) g5)
 have hne : ¬ m3.next = m4.next := by have := n4; omega
 repeat (first | simp only [WS] | refine W_regd0 ?_ | refine W_regd ?_)
 refine W_op rfl rfl ?_
 simp only [WB, execE, unE, args0, reduceIte, Nat.reduceEqDiff, Nat.reduceAdd, Nat.reduceLeDiff, g47, WO, fillX, splice, Wo_some]
 repeat (first | rw [push_no] | rw [push_yes] | rw [W_onil])
 repeat (first | simp only [WS] | refine W_regd0 ?_ | refine W_regd ?_)
 refine W_op rfl rfl ?_
 simp only [WB, execE, unE, args0, reduceIte, Nat.reduceEqDiff, Nat.reduceAdd, Nat.reduceLeDiff, g57, hne, WO, fillX, splice, Wo_some]
 repeat (first | rw [push_no] | rw [push_yes] | rw [W_onil])
 repeat (first
  | ((first | refine W_op rfl rfl ?_ | (refine W_opgT rfl rfl ?h ?_; case h => simp only [WG, reduceIte, Nat.reduceEqDiff]; done)); simp only [WB, execE, unE, args0, reduceIte, Nat.reduceEqDiff, Nat.reduceAdd, Nat.reduceLeDiff, WO, fillX, splice, Wo_some])
  | (refine W_opgF rfl rfl ?h ?_; case h => simp only [WG, reduceIte, Nat.reduceEqDiff]; done)
  | (refine W_opgU rfl ?h ?_; case h => simp only [upd_at, reduceIte, Nat.reduceEqDiff]; done) | (refine W_callN rfl ?h ?_; case h => simp only [WG, reduceIte, Nat.reduceEqDiff]; done) | simp only [WS] | refine W_regd0 ?_ | refine W_regd ?_)
 refine W_dnil ?hs ?hnt ?_
 case hs => (simp only [SameIn, SameAt, List.nil_append, List.cons_append, reduceCtorEq, false_and, exists_false, exists_const, false_or, or_false, Option.some.injEq, exists_eq_left', exists_eq', or_true, and_true, WB, execE, unE, args0, reduceIte, Nat.reduceEqDiff, Nat.reduceAdd, Nat.reduceLeDiff, b4, b5, b6, c4, c5, c6])
 case hnt => (simp only [List.nil_append, List.cons_append, List.forall_mem_cons, List.not_mem_nil, false_imp_iff, implies_true, and_true]; repeat' (first | exact hg | exact args0_un (Nat.le_of_ble_eq_true rfl) | refine upd_un ?_ rfl | constructor))
 obtain ⟨m8, hm8⟩ : ∃ m8 : AMem, m8 = (m7.put m3.next (some (.cells [.i .i64 was.nd, .i .i64 was.ph, .i .i64 was.pos, .i .i64 was.st, .i .i64 was.dp, .i .i64 was.og] true ⟨6, some 175⟩))).put m4.next (some (.cells [.i .i64 now.nd, .i .i64 now.ph, .i .i64 now.pos, .i .i64 now.st, .i .i64 now.dp, .i .i64 now.og] true ⟨6, some 175⟩)) := ⟨_, rfl⟩
 have g68 : m8.get m3.next = some (.cells (ints was.fl) true ⟨6, some 175⟩) := by
  rw [hm8, AMem.get_put, if_neg (by omega), AMem.get_put, if_pos rfl]; rfl
 have g78 : m8.get m4.next = some (.cells (ints now.fl) true ⟨6, some 175⟩) := by
  rw [hm8, AMem.get_put, if_pos rfl]; rfl
 have k37 : Keep m3 m7 [] := (k35.trans k6 (by simp)).trans k7 (by simp)
 have k38 : Keep m3 m8 [] := by
  rw [hm8]
  refine (k37.trans (Keep.put _ _ _) ?_).trans (Keep.put _ _ _) ?_
  ·intro x hx; have := List.mem_singleton.1 hx; right; omega
  ·intro x hx; have := List.mem_singleton.1 hx; right; have := n4; omega
 have nn8 : m8.next = m7.next := by rw [hm8]; rfl
 have d8 : m8.ds = [] := by rw [hm8]; exact hs7.ds.trans (hs6.ds.trans (ds5.trans (ds4.trans d3)))
 rw [← hm8]
 clear hm8
 have gA8 := k38.at n3 (by simp) gAm
 have gB8 := k38.at n3' (by simp) gBm
 have kk8 : Keep m m8 [] := kk3.trans k38 (by simp)
 have l8 : m4.next < m8.next := by omega
 have l8' : m3.next < m8.next := by omega
 have l8A : m.next < m8.next := Nat.lt_of_lt_of_le n3 k38.next
 have l8B : mA.next < m8.next := Nat.lt_of_lt_of_le n3' k38.next
 have htot := eflds_len was.fl now.fl hws.1 hsn.1
 have hmsk := emask_lt 0 was.fl now.fl
 have hfl : was.fl.length = 6 := rfl
 have hfn : now.fl.length = 6 := rfl
 rw [hfl] at hmsk htot
 repeat (first
  | ((first | refine W_op rfl rfl ?_ | (refine W_opgT rfl rfl ?h ?_; case h => simp only [WG, reduceIte, Nat.reduceEqDiff]; done)); simp only [WB, execE, unE, args0, reduceIte, Nat.reduceEqDiff, Nat.reduceAdd, Nat.reduceLeDiff, WO, fillX, splice, Wo_some])
  | (refine W_opgF rfl rfl ?h ?_; case h => simp only [WG, reduceIte, Nat.reduceEqDiff]; done)
  | (refine W_opgU rfl ?h ?_; case h => simp only [upd_at, reduceIte, Nat.reduceEqDiff]; done) | (refine W_callN rfl ?h ?_; case h => simp only [WG, reduceIte, Nat.reduceEqDiff]; done) | simp only [WS] | refine W_regd0 ?_ | refine W_regd ?_)
 refine W_cutK [_, _] (fun g' m' => ∃ (out : AV) (ty oj : Option Nat), g' 2 = .p (some (m.next, 0)) ∧ g' 3 = .p (some (mA.next, 0)) ∧ g' 8 = .i .u64 (emask 0 was.fl now.fl : Int) ∧ g' 9 = out ∧ RowE m' 1 ty out oj (eflds was.fl now.fl).length (cellsOfBytes (eflds was.fl now.fl)) ∧ (∀ x, oj = some x → m8.next ≤ x) ∧ Keep m8 m' [] ∧ m'.ds = []) ?_ ?_
 ·simp only [List.cons_append, List.nil_append]
  refine W_loop (fun q g' m' => ∃ (i mk : Nat) (o : List UInt8) (out : AV) (ty oj : Option Nat), i ≤ 6 ∧ q = 6 - i ∧ g' 2 = .p (some (m.next, 0)) ∧ g' 3 = .p (some (mA.next, 0)) ∧ g' 6 = .p (some (m3.next, 0)) ∧ g' 7 = .p (some (m4.next, 0)) ∧ g' 8 = .i .u64 (mk : Int) ∧ g' 9 = out ∧ g' 27 = .i .i64 (i : Int) ∧ mk < 2 ^ i ∧ mk + emask i (was.fl.drop i) (now.fl.drop i) = emask 0 was.fl now.fl ∧ o ++ eflds (was.fl.drop i) (now.fl.drop i) = eflds was.fl now.fl ∧ RowE m' 1 ty out oj o.length (cellsOfBytes o) ∧ (∀ x, oj = some x → m8.next ≤ x) ∧ Keep m8 m' [] ∧ m'.ds = []) 6 ?_ ?_ ?_
  ·refine ⟨0, 0, [], _, none, none, by omega, rfl, ?_, ?_, ?_, ?_, ?_, ?_, ?_, by omega, by simp, by simp, RowE.nil _ _ _, nofun, Keep.refl _ _, d8⟩
   ·skip
    simp only [WT, reduceIte, Nat.reduceEqDiff, args0]
   ·skip
    simp only [WT, reduceIte, Nat.reduceEqDiff, args0]
   ·skip
    simp only [WT, reduceIte, Nat.reduceEqDiff, args0]
   ·skip
    simp only [WT, reduceIte, Nat.reduceEqDiff, args0]
   ·skip
    simp only [WT, reduceIte, Nat.reduceEqDiff, args0, Int.ofNat_zero]
    try rfl
   ·skip
    simp only [WT, reduceIte, Nat.reduceEqDiff, args0]
   ·skip
    simp only [WT, reduceIte, Nat.reduceEqDiff, args0, Int.ofNat_zero]
    try rfl
  ·intro i hi
   repeat (first | exact args0_un (Nat.le_of_ble_eq_true rfl) i hi | refine upd_un ?_ rfl i hi; clear i hi; intro i hi)
  ·rintro q g m9 ⟨i, mk, o, out, ty, oj, hi, rfl, q2, q3, q6, q7, q8, q9, q27, hmk, hmask, hout, hR, hoj, k9, d9⟩ hg
   by_cases hlt : i < 6
   ·have e2 : decide ((i : Int) < 6) = true := decide_eq_true (by omega)
    obtain ⟨a, ha⟩ : ∃ a, was.fl[i]? = some a := ⟨_, List.getElem?_eq_getElem (by omega)⟩
    obtain ⟨x, hx⟩ : ∃ x, now.fl[i]? = some x := ⟨_, List.getElem?_eq_getElem (by omega)⟩
    have hld : was.fl.drop i = a :: was.fl.drop (i + 1) := by
     rw [List.drop_eq_getElem_cons (by omega)]; congr 1
     rw [List.getElem?_eq_getElem (by omega)] at ha; exact Option.some.inj ha
    have hkd2 : now.fl.drop i = x :: now.fl.drop (i + 1) := by
     rw [List.drop_eq_getElem_cons (by omega)]; congr 1
     rw [List.getElem?_eq_getElem (by omega)] at hx; exact Option.some.inj hx
    rw [hld, hkd2] at hmask hout
    simp only [emask, eflds] at hmask hout
    have ga9 := k9.at l8' (by simp) g68
    have gb9 := k9.at l8 (by simp) g78
    have hca := ints_get ha
    have hcb := ints_get hx
    have hix : (0 ≤ (i : Int) ∧ (i : Int) < ((6 : Nat) : Int)) := ⟨by omega, by omega⟩
    have hwi : IntKind.i64.wrap ((i : Int) + 1) = ((i + 1 : Nat) : Int) := wr_i64 (n := (i : Int) + 1) (by omega) (by omega)
    by_cases hax : a = x
    ·have e3 : (a != x) = false := by simpa using hax
     rw [if_pos hax] at hmask hout
     repeat (first
      | ((first | refine W_op rfl rfl ?_ | (refine W_opgT rfl rfl ?h ?_; case h => simp only [WG, reduceIte, Nat.reduceEqDiff]; done)); simp only [WB, execE, unE, args0, reduceIte, Nat.reduceEqDiff, Nat.reduceAdd, Nat.reduceLeDiff, q27, e2, binE, isShift, intBin, WO, fillX, splice, Wo_some])
      | (refine W_opgF rfl rfl ?h ?_; case h => simp only [WG, reduceIte, Nat.reduceEqDiff]; done)
      | (refine W_opgU rfl ?h ?_; case h => simp only [upd_at, reduceIte, Nat.reduceEqDiff]; done) | (refine W_callN rfl ?h ?_; case h => simp only [WG, reduceIte, Nat.reduceEqDiff]; done) | simp only [WS] | refine W_regd0 ?_ | refine W_regd ?_)
     refine W_cond ?_
     simp only [WB, execE, unE, args0, reduceIte, Nat.reduceEqDiff, Nat.reduceAdd, Nat.reduceLeDiff, WC]
     repeat (first
      | ((first | refine W_op rfl rfl ?_ | (refine W_opgT rfl rfl ?h ?_; case h => simp only [WG, reduceIte, Nat.reduceEqDiff]; done)); simp only [WB, execE, unE, args0, reduceIte, Nat.reduceEqDiff, Nat.reduceAdd, Nat.reduceLeDiff, q6, q7, q27, hix, Int.toNat_natCast, Nat.mul_one, ga9, gb9, hca, hcb, e3, binE, isShift, intBin, WO, fillX, splice, Wo_some])
      | (refine W_opgF rfl rfl ?h ?_; case h => simp only [WG, reduceIte, Nat.reduceEqDiff]; done)
      | (refine W_opgU rfl ?h ?_; case h => simp only [upd_at, reduceIte, Nat.reduceEqDiff]; done) | (refine W_callN rfl ?h ?_; case h => simp only [WG, reduceIte, Nat.reduceEqDiff]; done) | simp only [WS] | refine W_regd0 ?_ | refine W_regd ?_)
     refine W_cond ?_
     simp only [WB, execE, unE, args0, reduceIte, Nat.reduceEqDiff, Nat.reduceAdd, Nat.reduceLeDiff, WC]
     repeat (first
      | ((first | refine W_op rfl rfl ?_ | (refine W_opgT rfl rfl ?h ?_; case h => simp only [WG, reduceIte, Nat.reduceEqDiff]; done)); simp only [WB, execE, unE, args0, reduceIte, Nat.reduceEqDiff, Nat.reduceAdd, Nat.reduceLeDiff, q27, hwi, binE, isShift, intBin, WO, fillX, splice, Wo_some])
      | (refine W_opgF rfl rfl ?h ?_; case h => simp only [WG, reduceIte, Nat.reduceEqDiff]; done)
      | (refine W_opgU rfl ?h ?_; case h => simp only [upd_at, reduceIte, Nat.reduceEqDiff]; done) | (refine W_callN rfl ?h ?_; case h => simp only [WG, reduceIte, Nat.reduceEqDiff]; done) | simp only [WS] | refine W_regd0 ?_ | refine W_regd ?_)
     refine W_j (by repeat (first | exact hg | exact args0_un (Nat.le_of_ble_eq_true rfl) | refine upd_un ?_ rfl)) ?_
     refine ⟨6 - (i + 1), by omega, i + 1, mk, o, out, ty, oj, by omega, rfl, ?_, ?_, ?_, ?_, ?_, ?_, ?_, by rw [Nat.pow_succ]; omega, by omega, by simpa using hout, hR, hoj, k9, d9⟩
     ·skip
      simp only [WT, reduceIte, Nat.reduceEqDiff, args0, q2]
     ·skip
      simp only [WT, reduceIte, Nat.reduceEqDiff, args0, q3]
     ·skip
      simp only [WT, reduceIte, Nat.reduceEqDiff, args0, q6]
     ·skip
      simp only [WT, reduceIte, Nat.reduceEqDiff, args0, q7]
     ·skip
      simp only [WT, reduceIte, Nat.reduceEqDiff, args0, q8]
     ·skip
      simp only [WT, reduceIte, Nat.reduceEqDiff, args0, q9]
     ·skip
      simp only [WT, reduceIte, Nat.reduceEqDiff, args0]
    ·have e3 : (a != x) = true := by simpa using hax
     rw [if_neg hax] at hmask hout
     have hal := hws.1 a (List.mem_of_getElem? ha)
     have hxl := hsn.1 x (List.mem_of_getElem? hx)
     unfold Small at hal hxl
     have hp6 : 2 ^ i ≤ 32 := Nat.le_trans (Nat.pow_le_pow_right (by omega) (show i ≤ 5 by omega)) (by decide)
     have hnn : ((i : Int) < 0) = False := by simp
     have hshl : IntKind.u64.wrap (1 * 2 ^ (min i IntKind.u64.bits)) = ((2 ^ i : Nat) : Int) := by
      rw [show min i IntKind.u64.bits = i from Nat.min_eq_left (by show i ≤ 64; omega), Int.one_mul, show (2 : Int) ^ i = ((2 ^ i : Nat) : Int) by push_cast; rfl]
      exact wr_u64 (by omega)
     have hor : IntKind.u64.wrap ((BitVec.ofInt IntKind.u64.bits (mk : Int) ||| BitVec.ofInt IntKind.u64.bits ((2 ^ i : Nat) : Int)).toNat : Int) = ((mk + 2 ^ i : Nat) : Int) := by
      have := or_add (a := mk) (b := 1) (i := i) hmk (by omega)
      rw [Nat.one_mul] at this
      exact this
     have hw48 : IntKind.i64.wrap (x - a) = x - a := wr_i64 (by omega) (by omega)
     have hol : o.length + ((vb (zig (x - a))).length + (eflds (was.fl.drop (i + 1)) (now.fl.drop (i + 1))).length) = (eflds was.fl now.fl).length := by
      rw [← hout]; simp [List.length_append]
     repeat (first
      | ((first | refine W_op rfl rfl ?_ | (refine W_opgT rfl rfl ?h ?_; case h => simp only [WG, reduceIte, Nat.reduceEqDiff]; done)); simp only [WB, execE, unE, args0, reduceIte, Nat.reduceEqDiff, Nat.reduceAdd, Nat.reduceLeDiff, q27, e2, binE, isShift, intBin, WO, fillX, splice, Wo_some])
      | (refine W_opgF rfl rfl ?h ?_; case h => simp only [WG, reduceIte, Nat.reduceEqDiff]; done)
      | (refine W_opgU rfl ?h ?_; case h => simp only [upd_at, reduceIte, Nat.reduceEqDiff]; done) | (refine W_callN rfl ?h ?_; case h => simp only [WG, reduceIte, Nat.reduceEqDiff]; done) | simp only [WS] | refine W_regd0 ?_ | refine W_regd ?_)
     refine W_cond ?_
     simp only [WB, execE, unE, args0, reduceIte, Nat.reduceEqDiff, Nat.reduceAdd, Nat.reduceLeDiff, WC]
     repeat (first
      | ((first | refine W_op rfl rfl ?_ | (refine W_opgT rfl rfl ?h ?_; case h => simp only [WG, reduceIte, Nat.reduceEqDiff]; done)); simp only [WB, execE, unE, args0, reduceIte, Nat.reduceEqDiff, Nat.reduceAdd, Nat.reduceLeDiff, q6, q7, q27, hix, Int.toNat_natCast, Nat.mul_one, ga9, gb9, hca, hcb, e3, binE, isShift, intBin, WO, fillX, splice, Wo_some])
      | (refine W_opgF rfl rfl ?h ?_; case h => simp only [WG, reduceIte, Nat.reduceEqDiff]; done)
      | (refine W_opgU rfl ?h ?_; case h => simp only [upd_at, reduceIte, Nat.reduceEqDiff]; done) | (refine W_callN rfl ?h ?_; case h => simp only [WG, reduceIte, Nat.reduceEqDiff]; done) | simp only [WS] | refine W_regd0 ?_ | refine W_regd ?_)
     refine W_cond ?_
     simp only [WB, execE, unE, args0, reduceIte, Nat.reduceEqDiff, Nat.reduceAdd, Nat.reduceLeDiff, WC]
     repeat (first
      | ((first | refine W_op rfl rfl ?_ | (refine W_opgT rfl rfl ?h ?_; case h => simp only [WG, reduceIte, Nat.reduceEqDiff]; done)); simp only [WB, execE, unE, args0, reduceIte, Nat.reduceEqDiff, Nat.reduceAdd, Nat.reduceLeDiff, q6, q7, q8, q9, hnn, hshl, hor, hix, Int.toNat_natCast, Nat.mul_one, ga9, gb9, hca, hcb, hw48, Bool.true_or, binE, isShift, intBin, WO, fillX, splice, Wo_some])
      | (refine W_opgF rfl rfl ?h ?_; case h => simp only [WG, reduceIte, Nat.reduceEqDiff]; done)
      | (refine W_opgU rfl ?h ?_; case h => simp only [upd_at, reduceIte, Nat.reduceEqDiff]; done) | (refine W_callN rfl ?h ?_; case h => simp only [WG, reduceIte, Nat.reduceEqDiff]; done) | simp only [WS] | refine W_regd0 ?_ | refine W_regd ?_)
     refine W_callA rfl ?hargs (call98 (n := x - a) ⟨by omega, by omega⟩) ?_
     case hargs => simp only [WB, execE, unE, args0, reduceIte, Nat.reduceEqDiff, Nat.reduceAdd, Nat.reduceLeDiff] <;> rfl
     rintro v4 m10 ⟨hV4, k10⟩ hs10
     have hsrc4 := arr_src hV4.arr
     refine W_app (n := o.length) (k := (vb (zig (x - a))).length) (new := cellsOfBytes (vb (zig (x - a)))) (ls := cellsOfBytes o) rfl ((hR.keep k10 (by simp)).as ?hrow) ?hsrc (by rw [bytes_len]; omega) (bytes_one _) (roomyOf (by omega) (by omega)) ?_
     case hrow =>
      simp only [WB, execE, unE, args0, reduceIte, Nat.reduceEqDiff, Nat.reduceAdd, Nat.reduceLeDiff]
     case hsrc =>
      simp only [WB, execE, unE, args0, reduceIte, Nat.reduceEqDiff, Nat.reduceAdd, Nat.reduceLeDiff]
      exact hsrc4
     intro av5 oj5 m11 ty5 r5 ds11 ro5 o5 k11 _
     have hoj5 : ∀ y, oj5 = some y → m8.next ≤ y := by
      intro y hy
      rcases o5 with h | ⟨y', h, h2⟩
      ·exact hoj y (h ▸ hy)
      ·rw [h] at hy; cases hy
       have := k9.next; have := k10.next
       omega
     have kk11 : Keep m8 m11 [] := (k9.trans k10 (by simp)).trans k11 (by intro y hy; right; exact hoj y (by simpa using hy))
     repeat (first
      | ((first | refine W_op rfl rfl ?_ | (refine W_opgT rfl rfl ?h ?_; case h => simp only [WG, reduceIte, Nat.reduceEqDiff]; done)); simp only [WB, execE, unE, args0, reduceIte, Nat.reduceEqDiff, Nat.reduceAdd, Nat.reduceLeDiff, q27, hwi, binE, isShift, intBin, WO, fillX, splice, Wo_some])
      | (refine W_opgF rfl rfl ?h ?_; case h => simp only [WG, reduceIte, Nat.reduceEqDiff]; done)
      | (refine W_opgU rfl ?h ?_; case h => simp only [upd_at, reduceIte, Nat.reduceEqDiff]; done) | (refine W_callN rfl ?h ?_; case h => simp only [WG, reduceIte, Nat.reduceEqDiff]; done) | simp only [WS] | refine W_regd0 ?_ | refine W_regd ?_)
     refine W_j (by repeat (first | exact hg | exact args0_un (Nat.le_of_ble_eq_true rfl) | refine upd_un ?_ rfl)) ?_
     refine ⟨6 - (i + 1), by omega, i + 1, mk + 2 ^ i, o ++ vb (zig (x - a)), av5, ty5, oj5, by omega, rfl, ?_, ?_, ?_, ?_, ?_, ?_, ?_, by rw [Nat.pow_succ]; omega, by omega, ?_, ?_, hoj5, kk11, ds11.trans (hs10.ds.trans d9)⟩
     ·skip
      simp only [WT, reduceIte, Nat.reduceEqDiff, args0, q2]
     ·skip
      simp only [WT, reduceIte, Nat.reduceEqDiff, args0, q3]
     ·skip
      simp only [WT, reduceIte, Nat.reduceEqDiff, args0, q6]
     ·skip
      simp only [WT, reduceIte, Nat.reduceEqDiff, args0, q7]
     ·skip
      simp only [WT, reduceIte, Nat.reduceEqDiff, args0]
     ·skip
      simp only [WT, reduceIte, Nat.reduceEqDiff, args0]
     ·skip
      simp only [WT, reduceIte, Nat.reduceEqDiff, args0]
     ·rw [← hout]; simp [List.append_assoc]
     ·rw [bytes_app, List.length_append]
      exact r5
   ·have e2 : decide ((i : Int) < 6) = false := decide_eq_false (by omega)
    have hd1 : was.fl.drop i = [] := List.drop_of_length_le (by omega)
    rw [hd1] at hmask hout
    simp only [emask, eflds, Nat.add_zero, List.append_nil] at hmask hout
    subst hmask hout
    repeat (first
     | ((first | refine W_op rfl rfl ?_ | (refine W_opgT rfl rfl ?h ?_; case h => simp only [WG, reduceIte, Nat.reduceEqDiff]; done)); simp only [WB, execE, unE, args0, reduceIte, Nat.reduceEqDiff, Nat.reduceAdd, Nat.reduceLeDiff, q27, e2, binE, isShift, intBin, WO, fillX, splice, Wo_some])
     | (refine W_opgF rfl rfl ?h ?_; case h => simp only [WG, reduceIte, Nat.reduceEqDiff]; done)
     | (refine W_opgU rfl ?h ?_; case h => simp only [upd_at, reduceIte, Nat.reduceEqDiff]; done) | (refine W_callN rfl ?h ?_; case h => simp only [WG, reduceIte, Nat.reduceEqDiff]; done) | simp only [WS] | refine W_regd0 ?_ | refine W_regd ?_)
    refine W_cond ?_
    simp only [WB, execE, unE, args0, reduceIte, Nat.reduceEqDiff, Nat.reduceAdd, Nat.reduceLeDiff, WC]
    refine W_exit rfl ?_
    refine W_j (by repeat (first | exact hg | exact args0_un (Nat.le_of_ble_eq_true rfl) | refine upd_un ?_ rfl)) ?_
    exact ⟨out, ty, oj, q2, q3, q8, q9, hR, hoj, k9, d9⟩
 rintro g m9 ⟨out, ty, oj, q2, q3, q8, q9, hR, hoj, k9, d9⟩ hg
 have gA9 := k9.at l8A (by simp) gA8
 have gB9 := k9.at l8B (by simp) gB8
 have kk9 : Keep m m9 [] := kk8.trans k9 (by simp)
 have n89 := k9.next
 have hmvlt : mvn was.caps now.caps < 1000 := by have := mvn_le was.caps now.caps; omega
 have hmvlen := mvl_len was.caps now.caps 0 0 (Nat.le_refl _) (by omega) hws.2 hsn.2
 have hvn := vb_len64 (n := mvn was.caps now.caps) (by omega)
 have hml : (moved was.caps now.caps).length = (vb (mvn was.caps now.caps)).length + (mvl 0 0 was.caps now.caps).length := by simp [moved]
 repeat (first
  | ((first | refine W_op rfl rfl ?_ | (refine W_opgT rfl rfl ?h ?_; case h => simp only [WG, reduceIte, Nat.reduceEqDiff]; done)); simp only [WB, execE, unE, args0, reduceIte, Nat.reduceEqDiff, Nat.reduceAdd, Nat.reduceLeDiff, q2, q3, gA9, gB9, WO, fillX, splice, Wo_some])
  | (refine W_opgF rfl rfl ?h ?_; case h => simp only [WG, reduceIte, Nat.reduceEqDiff]; done)
  | (refine W_opgU rfl ?h ?_; case h => simp only [upd_at, reduceIte, Nat.reduceEqDiff]; done) | (refine W_callN rfl ?h ?_; case h => simp only [WG, reduceIte, Nat.reduceEqDiff]; done) | simp only [WS] | refine W_regd0 ?_ | refine W_regd ?_)
 refine W_callA rfl ?hargs (call99 (Arr.keep0 hA kk9) (Arr.keep0 hB kk9) (by omega) (by omega) hws.2 hsn.2) ?_
 case hargs => simp only [WB, execE, unE, args0, reduceIte, Nat.reduceEqDiff, Nat.reduceAdd, Nat.reduceLeDiff] <;> rfl
 rintro v m10 ⟨hM, k10⟩ hs10
 have gB10 := k10.at (Nat.lt_of_lt_of_le l8B n89) (by simp) gB9
 have kk10 : Keep m m10 [] := kk9.trans k10 (by simp)
 have n910 := k10.next
 have d10 : m10.ds = [] := hs10.ds.trans d9
 have hsrcM := arr_src hM.arr
 have hMA := hM.arr
 obtain ⟨c, r, hcr, hc0⟩ := moved_head hmvlt
 have hpos : 0 < (moved was.caps now.caps).length := by rw [hcr]; simp
 obtain ⟨jm, om, capm, exm, cm, wrm, esm, rfl, hjm, hgm, hckm⟩ := hMA.full hpos
 have hcm : cm[om]? = some (.i .u8 (c.toNat : Int)) := by
  have := hckm 0 (by omega)
  rw [Nat.add_zero] at this
  rw [this, hcr]; rfl
 have hixm : ((0 : Int) ≤ 0 ∧ (0 : Int) < ((moved was.caps now.caps).length : Int)) := ⟨by omega, by omega⟩
 have hR10 := hR.keep k10 (by simp)
 repeat (first | simp only [WS] | refine W_regd0 ?_ | refine W_regd ?_)
 refine W_op rfl rfl ?_
 simp only [WB, execE, unE, args0, reduceIte, Nat.reduceEqDiff, Nat.reduceAdd, Nat.reduceLeDiff, WO, fillX, splice, Wo_some]
 repeat (first | rw [push_no] | rw [push_yes] | rw [W_onil])
 rw [W_seq]
 refine W_cutK [_] (fun g' m' => ∃ (out : AV) (ty oj : Option Nat) (o : List UInt8), o = (eflds was.fl now.fl ++ if 0 < mvn was.caps now.caps then moved was.caps now.caps else []) ∧ g' 3 = .p (some (mA.next, 0)) ∧ g' 8 = .i .u64 (dmask was now : Int) ∧ g' 9 = out ∧ RowE m' 1 ty out oj o.length (cellsOfBytes o) ∧ (∀ x, oj = some x → m8.next ≤ x) ∧ Keep m8 m' [] ∧ m'.get mA.next = some (.cells [.i .i64 now.kd, .i .i64 now.nd, .i .i64 now.ph, .i .i64 now.pos, .i .i64 now.st, .i .i64 now.dp, .i .i64 now.og, cn] true (8 : Nat)) ∧ m'.ds = []) ?_ ?_
 ·simp only [List.cons_append, List.nil_append]
  by_cases hmv : 0 < mvn was.caps now.caps
  ·have e2 : decide ((c.toNat : Int) > 0) = true := decide_eq_true (by have := hc0.2 hmv; omega)
   have hor : IntKind.u64.wrap ((BitVec.ofInt IntKind.u64.bits (emask 0 was.fl now.fl : Int) ||| BitVec.ofInt IntKind.u64.bits 64).toNat : Int) = (dmask was now : Int) := by
    have := or_add (a := emask 0 was.fl now.fl) (b := 1) (i := 6) (by omega) (by omega)
    have e : dmask was now = emask 0 was.fl now.fl + 1 * 2 ^ 6 := by unfold dmask; rw [if_pos hmv]
    rw [e]
    exact this
   repeat (first
    | ((first | refine W_op rfl rfl ?_ | (refine W_opgT rfl rfl ?h ?_; case h => simp only [WG, reduceIte, Nat.reduceEqDiff]; done)); simp only [WB, execE, unE, args0, reduceIte, Nat.reduceEqDiff, Nat.reduceAdd, Nat.reduceLeDiff, hixm, Int.toNat_zero, Nat.zero_mul, Nat.add_zero, hgm, hcm, e2, binE, isShift, intBin, WO, fillX, splice, Wo_some])
    | (refine W_opgF rfl rfl ?h ?_; case h => simp only [WG, reduceIte, Nat.reduceEqDiff]; done)
    | (refine W_opgU rfl ?h ?_; case h => simp only [upd_at, reduceIte, Nat.reduceEqDiff]; done) | (refine W_callN rfl ?h ?_; case h => simp only [WG, reduceIte, Nat.reduceEqDiff]; done) | simp only [WS] | refine W_regd0 ?_ | refine W_regd ?_)
   refine W_cond ?_
   simp only [WB, execE, unE, args0, reduceIte, Nat.reduceEqDiff, Nat.reduceAdd, Nat.reduceLeDiff, WC]
   repeat (first
    | ((first | refine W_opA rfl rfl rfl ?_ | (refine W_opgT rfl rfl ?h ?_; case h => simp only [WG, reduceIte, Nat.reduceEqDiff]; done)); simp only [WB, execE, unE, args0, reduceIte, Nat.reduceEqDiff, Nat.reduceAdd, Nat.reduceLeDiff, q8, q9, hor, binE, isShift, intBin, WO, fillX, splice, Wo_some])
    | (refine W_opgF rfl rfl ?h ?_; case h => simp only [WG, reduceIte, Nat.reduceEqDiff]; done)
    | (refine W_opgU rfl ?h ?_; case h => simp only [upd_at, reduceIte, Nat.reduceEqDiff]; done) | (refine W_callN rfl ?h ?_; case h => simp only [WG, reduceIte, Nat.reduceEqDiff]; done) | simp only [WS] | refine W_regd0 ?_ | refine W_regd ?_)
   refine W_app (n := (eflds was.fl now.fl).length) (k := (moved was.caps now.caps).length) (new := cellsOfBytes (moved was.caps now.caps)) (ls := cellsOfBytes (eflds was.fl now.fl)) rfl (hR10.as ?hrow) ?hsrc (by rw [bytes_len]; omega) (bytes_one _) (roomyOf (by omega) (by omega)) ?_
   case hrow =>
    simp only [WB, execE, unE, args0, reduceIte, Nat.reduceEqDiff, Nat.reduceAdd, Nat.reduceLeDiff]
   case hsrc =>
    simp only [WB, execE, unE, args0, reduceIte, Nat.reduceEqDiff, Nat.reduceAdd, Nat.reduceLeDiff]
    exact hsrcM
   intro av5 oj5 m11 ty5 r5 ds11 ro5 o5 k11 _
   have hoj5 : ∀ y, oj5 = some y → m8.next ≤ y := by
    intro y hy
    rcases o5 with h | ⟨y', h, h2⟩
    ·exact hoj y (h ▸ hy)
    ·rw [h] at hy; cases hy
     omega
   have n10A : mA.next < m10.next := Nat.lt_of_lt_of_le (Nat.lt_of_lt_of_le l8B n89) n910
   have hnA : mA.next ∉ oj.toList := by intro hm; have := hoj mA.next (by simpa using hm); omega
   repeat (first
    | ((first | refine W_op rfl rfl ?_ | (refine W_opgT rfl rfl ?h ?_; case h => simp only [WG, reduceIte, Nat.reduceEqDiff]; done)); simp only [WB, execE, unE, args0, reduceIte, Nat.reduceEqDiff, Nat.reduceAdd, Nat.reduceLeDiff, WO, fillX, splice, Wo_some])
    | (refine W_opgF rfl rfl ?h ?_; case h => simp only [WG, reduceIte, Nat.reduceEqDiff]; done)
    | (refine W_opgU rfl ?h ?_; case h => simp only [upd_at, reduceIte, Nat.reduceEqDiff]; done) | (refine W_callN rfl ?h ?_; case h => simp only [WG, reduceIte, Nat.reduceEqDiff]; done) | simp only [WS] | refine W_regd0 ?_ | refine W_regd ?_)
   refine W_j (by repeat (first | exact hg | exact args0_un (Nat.le_of_ble_eq_true rfl) | refine upd_un ?_ rfl)) ?_
   refine ⟨av5, ty5, oj5, _, rfl, ?_, ?_, ?_, ?_, hoj5, ?_, k11.at n10A hnA gB10, ds11.trans d10⟩
   ·skip
    simp only [WT, reduceIte, Nat.reduceEqDiff, args0, q3]
   ·skip
    simp only [WT, reduceIte, Nat.reduceEqDiff, args0]
   ·skip
    simp only [WT, reduceIte, Nat.reduceEqDiff, args0]
   ·rw [if_pos hmv, bytes_app, List.length_append]
    exact r5
   ·exact (k9.trans k10 (by simp)).trans k11 (by intro y hy; right; exact hoj y (by simpa using hy))
  ·have e2 : decide ((c.toNat : Int) > 0) = false := decide_eq_false (by have := fun h => hmv (hc0.1 h); omega)
   have hdm : dmask was now = emask 0 was.fl now.fl := by unfold dmask; rw [if_neg hmv]; rfl
   repeat (first
    | ((first | refine W_op rfl rfl ?_ | (refine W_opgT rfl rfl ?h ?_; case h => simp only [WG, reduceIte, Nat.reduceEqDiff]; done)); simp only [WB, execE, unE, args0, reduceIte, Nat.reduceEqDiff, Nat.reduceAdd, Nat.reduceLeDiff, hixm, Int.toNat_zero, Nat.zero_mul, Nat.add_zero, hgm, hcm, e2, binE, isShift, intBin, WO, fillX, splice, Wo_some])
    | (refine W_opgF rfl rfl ?h ?_; case h => simp only [WG, reduceIte, Nat.reduceEqDiff]; done)
    | (refine W_opgU rfl ?h ?_; case h => simp only [upd_at, reduceIte, Nat.reduceEqDiff]; done) | (refine W_callN rfl ?h ?_; case h => simp only [WG, reduceIte, Nat.reduceEqDiff]; done) | simp only [WS] | refine W_regd0 ?_ | refine W_regd ?_)
   refine W_cond ?_
   simp only [WB, execE, unE, args0, reduceIte, Nat.reduceEqDiff, Nat.reduceAdd, Nat.reduceLeDiff, WC]
   repeat (first
    | ((first | refine W_op rfl rfl ?_ | (refine W_opgT rfl rfl ?h ?_; case h => simp only [WG, reduceIte, Nat.reduceEqDiff]; done)); simp only [WB, execE, unE, args0, reduceIte, Nat.reduceEqDiff, Nat.reduceAdd, Nat.reduceLeDiff, WO, fillX, splice, Wo_some])
    | (refine W_opgF rfl rfl ?h ?_; case h => simp only [WG, reduceIte, Nat.reduceEqDiff]; done)
    | (refine W_opgU rfl ?h ?_; case h => simp only [upd_at, reduceIte, Nat.reduceEqDiff]; done) | (refine W_callN rfl ?h ?_; case h => simp only [WG, reduceIte, Nat.reduceEqDiff]; done) | simp only [WS] | refine W_regd0 ?_ | refine W_regd ?_)
   refine W_j (by repeat (first | exact hg | exact args0_un (Nat.le_of_ble_eq_true rfl) | refine upd_un ?_ rfl)) ?_
   refine ⟨out, ty, oj, _, rfl, ?_, ?_, ?_, ?_, hoj, k9.trans k10 (by simp), gB10, d10⟩
   ·skip
    simp only [WT, reduceIte, Nat.reduceEqDiff, args0, q3]
   ·skip
    simp only [WT, reduceIte, Nat.reduceEqDiff, args0, q8, hdm]
   ·skip
    simp only [WT, reduceIte, Nat.reduceEqDiff, args0, q9]
   ·rw [if_neg hmv, List.append_nil]
    exact hR10
 clear q2 q3 q8 q9 hg g hR10
 rintro g m11 ⟨out2, ty2, oj2, o, ho, q3, q8, q9, hR2, hoj2, k11, gB11, d11⟩ hg
 have n811 := k11.next
 have kk11 : Keep m m11 [] := kk8.trans k11 (by simp)
 have hkw : IntKind.u64.wrap now.kd = ((now.kd.toNat : Nat) : Int) := by
  have e : now.kd = ((now.kd.toNat : Nat) : Int) := by omega
  rw [e]
  exact wr_u64 (by omega)
 have hdm : dmask was now < 128 := by unfold dmask; split <;> omega
 have hv1 := vb_len64 (n := now.kd.toNat) (by omega)
 have hv2 := vb_len64 (n := dmask was now) (by omega)
 have hol : o.length ≤ 5000 := by
  rw [ho]
  simp only [List.length_append]
  split
  ·rw [hml]; omega
  ·simp only [List.length_nil]; omega
 repeat (first
  | ((first | refine W_op rfl rfl ?_ | (refine W_opgT rfl rfl ?h ?_; case h => simp only [WG, reduceIte, Nat.reduceEqDiff]; done)); simp only [WB, execE, unE, args0, reduceIte, Nat.reduceEqDiff, Nat.reduceAdd, Nat.reduceLeDiff, q3, gB11, hkw, WO, fillX, splice, Wo_some])
  | (refine W_opgF rfl rfl ?h ?_; case h => simp only [WG, reduceIte, Nat.reduceEqDiff]; done)
  | (refine W_opgU rfl ?h ?_; case h => simp only [upd_at, reduceIte, Nat.reduceEqDiff]; done) | (refine W_callN rfl ?h ?_; case h => simp only [WG, reduceIte, Nat.reduceEqDiff]; done) | simp only [WS] | refine W_regd0 ?_ | refine W_regd ?_)
 refine W_callA rfl ?hargs (call38 now.kd.toNat (by omega)) ?_
 case hargs => simp only [WB, execE, unE, args0, reduceIte, Nat.reduceEqDiff, Nat.reduceAdd, Nat.reduceLeDiff] <;> rfl
 rintro v m12 ⟨⟨t12, o12, hV, hov⟩, k12⟩ hs12
 repeat (first
  | ((first | refine W_op rfl rfl ?_ | (refine W_opgT rfl rfl ?h ?_; case h => simp only [WG, reduceIte, Nat.reduceEqDiff]; done)); simp only [WB, execE, unE, args0, reduceIte, Nat.reduceEqDiff, Nat.reduceAdd, Nat.reduceLeDiff, q8, WO, fillX, splice, Wo_some])
  | (refine W_opgF rfl rfl ?h ?_; case h => simp only [WG, reduceIte, Nat.reduceEqDiff]; done)
  | (refine W_opgU rfl ?h ?_; case h => simp only [upd_at, reduceIte, Nat.reduceEqDiff]; done) | (refine W_callN rfl ?h ?_; case h => simp only [WG, reduceIte, Nat.reduceEqDiff]; done) | simp only [WS] | refine W_regd0 ?_ | refine W_regd ?_)
 refine W_callA rfl ?hargs (call38 (dmask was now) (by omega)) ?_
 case hargs => simp only [WB, execE, unE, args0, reduceIte, Nat.reduceEqDiff, Nat.reduceAdd, Nat.reduceLeDiff] <;> rfl
 rintro v2 m13 ⟨hV2, k13⟩ hs13
 have hsrc2 := arr_src hV2.arr
 refine W_app (n := (vb now.kd.toNat).length) (k := (vb (dmask was now)).length) (new := cellsOfBytes (vb (dmask was now))) (ls := cellsOfBytes (vb now.kd.toNat)) rfl ((hV.keep k13 (by simp)).as ?hrow) ?hsrc (by rw [bytes_len]; omega) (bytes_one _) (roomyOf (by omega) (by omega)) ?_
 case hrow =>
  simp only [WB, execE, unE, args0, reduceIte, Nat.reduceEqDiff, Nat.reduceAdd, Nat.reduceLeDiff]
 case hsrc =>
  simp only [WB, execE, unE, args0, reduceIte, Nat.reduceEqDiff, Nat.reduceAdd, Nat.reduceLeDiff]
  exact hsrc2
 intro av14 oj14 m14 ty14 r14 ds14 ro14 o14 k14 _
 have n12 := k12.next
 have n13 := k13.next
 have n14 := k14.next
 have hoj14 : ∀ y, oj14 = some y → m11.next ≤ y := by
  intro y hy
  rcases o14 with h | ⟨y', h, h2⟩
  ·exact hov y (h ▸ hy)
  ·rw [h] at hy; cases hy
   omega
 have k1114 : Keep m11 m14 [] := (k12.trans k13 (by simp)).trans k14 (by intro y hy; right; exact hov y (by simpa using hy))
 have hsrc3 := arr_src ((hR2.keep k1114 (by simp)).arr)
 repeat (first
  | ((first | refine W_opA rfl rfl rfl ?_ | (refine W_opgT rfl rfl ?h ?_; case h => simp only [WG, reduceIte, Nat.reduceEqDiff]; done)); simp only [WB, execE, unE, args0, reduceIte, Nat.reduceEqDiff, Nat.reduceAdd, Nat.reduceLeDiff, q9, WO, fillX, splice, Wo_some])
  | (refine W_opgF rfl rfl ?h ?_; case h => simp only [WG, reduceIte, Nat.reduceEqDiff]; done)
  | (refine W_opgU rfl ?h ?_; case h => simp only [upd_at, reduceIte, Nat.reduceEqDiff]; done) | (refine W_callN rfl ?h ?_; case h => simp only [WG, reduceIte, Nat.reduceEqDiff]; done) | simp only [WS] | refine W_regd0 ?_ | refine W_regd ?_)
 refine W_app (n := (vb now.kd.toNat).length + (vb (dmask was now)).length) (k := o.length) (new := cellsOfBytes o) (ls := cellsOfBytes (vb now.kd.toNat) ++ cellsOfBytes (vb (dmask was now))) rfl (r14.as ?hrow) ?hsrc (by rw [bytes_len]; omega) (bytes_one _) (roomyOf (by omega) (by omega)) ?_
 case hrow =>
  simp only [WB, execE, unE, args0, reduceIte, Nat.reduceEqDiff, Nat.reduceAdd, Nat.reduceLeDiff]
 case hsrc =>
  simp only [WB, execE, unE, args0, reduceIte, Nat.reduceEqDiff, Nat.reduceAdd, Nat.reduceLeDiff, q9]
  exact hsrc3
 intro av15 oj15 m15 ty15 r15 ds15 ro15 o15 k15 _
 have kk15 : Keep m m15 [] := (kk11.trans k1114 (by simp)).trans k15 (by intro y hy; right; have := hoj14 y (by simpa using hy); have := kk11.next; omega)
 repeat (first
  | ((first | refine W_op rfl rfl ?_ | (refine W_opgT rfl rfl ?h ?_; case h => simp only [WG, reduceIte, Nat.reduceEqDiff]; done)); simp only [WB, execE, unE, args0, reduceIte, Nat.reduceEqDiff, Nat.reduceAdd, Nat.reduceLeDiff, WO, fillX, splice, Wo_some])
  | (refine W_opgF rfl rfl ?h ?_; case h => simp only [WG, reduceIte, Nat.reduceEqDiff]; done)
  | (refine W_opgU rfl ?h ?_; case h => simp only [upd_at, reduceIte, Nat.reduceEqDiff]; done) | (refine W_callN rfl ?h ?_; case h => simp only [WG, reduceIte, Nat.reduceEqDiff]; done) | simp only [WS] | refine W_regd0 ?_ | refine W_regd ?_)
 refine W_getRet (by repeat (first | exact hg | exact args0_un (Nat.le_of_ble_eq_true rfl) | refine upd_un ?_ rfl)) ?_
 refine ⟨ds15.trans (ds14.trans (hs13.ds.trans (hs12.ds.trans d11))), _, rfl, ?_, kk15.out⟩
 rw [if_pos hr]
 refine ⟨av15, rfl, ty15, oj15, ?_, fun y hy => ?_⟩
 ·unfold denc
  rw [← ho, ← List.append_assoc, bytes_app, bytes_app, List.length_append, List.length_append]
  exact r15.keep (Keep.refl _ []).out (by simp)
 ·have := kk11.next
  rcases o15 with h | ⟨y', h, h2⟩
  ·have := hoj14 y (h ▸ hy); omega
  ·rw [h] at hy; cases hy
   omega
end Go.Proofs.YtfbglgmhhmeoeaaGreatDoor
