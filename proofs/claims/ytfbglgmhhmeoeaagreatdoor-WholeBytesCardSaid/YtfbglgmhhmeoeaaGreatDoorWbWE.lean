/- States: may one be, the one ahead of all, are two the same, one of its own. No condition. -/
import Derived.Test.YtfbglgmhhmeoeaaGreatDoorWbWV
import Derived.Test.YtfbglgmhhmeoeaaGreatDoorWbViNode
namespace Go.Proofs.YtfbglgmhhmeoeaaGreatDoor
open Go.Vi
set_option linter.unusedSimpArgs false
set_option linter.unusedVariables false
def stS (s : St) (cv : AV) : List AV := [.i .i64 s.kd, .i .i64 s.nd, .i .i64 s.ph, .i .i64 s.pos, .i .i64 s.st, .i .i64 s.dp, .i .i64 s.og, cv]
def Cap (m : AMem) (cv : AV) (s : St) : Prop := Arr m 1 cv s.caps.length (ints s.caps)
def FrI (m m' : AMem) (av : AV) (l : List Int) : Prop := ∃ ty oj, RowE m' 1 ty av oj l.length (ints l) ∧ ∀ k, oj = some k → m.next ≤ k
theorem ints_one : ∀ (l : List Int), (ints l).all AV.one = true
 | [] => rfl
 | a :: l => by simp only [ints, List.map_cons, List.all_cons, one_i, Bool.true_and]; exact ints_one l
theorem FrI.arr {m m' : AMem} {av : AV} {l : List Int} (h : FrI m m' av l) : Arr m' 1 av l.length (ints l) := by
 obtain ⟨ty, oj, h, _⟩ := h; exact h.arr
theorem FrI.out {m m' m2 : AMem} {av : AV} {l : List Int} (h : FrI m m' av l) : FrI m (m'.out m2) av l := by
 obtain ⟨ty, oj, h, h2⟩ := h
 exact ⟨ty, oj, h.keep (Keep.refl _ []).out (by simp), h2⟩
theorem call94 {m : AMem} (x a b : Int) : Vi.Call T 94 [.i .i64 x, .i .i64 a, .i .i64 b] m (fun v m' => v = .b (decide (a ≤ x ∧ x ≤ b)) ∧ m' = m) := by
 refine Vi.Call.ofP T94 (Nat.le_of_ble_eq_true rfl) ?_
 unfold v94
 repeat' (first
  | ((first | refine W_op rfl rfl ?_ | (refine W_opgT rfl rfl ?h ?_; case h => simp only [WG, reduceIte, Nat.reduceEqDiff]; done)); simp only [WB, execE, unE, args0, reduceIte, Nat.reduceEqDiff, Nat.reduceAdd, Nat.reduceLeDiff, binE, isShift, intBin, WO, fillX, splice, Wo_some])
  | (refine W_opgF rfl rfl ?h ?_; case h => simp only [WG, reduceIte, Nat.reduceEqDiff]; done)
  | (refine W_opgU rfl ?h ?_; case h => simp only [WG, reduceIte, Nat.reduceEqDiff]; done)
  | simp only [WS] | refine W_regd0 ?_ | refine W_regd ?_
  | (refine W_callN rfl ?h ?_; case h => simp only [WG, reduceIte, Nat.reduceEqDiff]; done)
  | refine W_exit rfl ?_
  | (refine W_opgST rfl rfl ?hg ?_ ?_; (case hg => (simp only [WB, execE, unE, args0, reduceIte, Nat.reduceEqDiff, Nat.reduceAdd, Nat.reduceLeDiff, binE, isShift, intBin, WO, fillX, splice, toB_b]; done)); (all_goals (intro hc; simp only [WB, execE, unE, args0, reduceIte, Nat.reduceEqDiff, Nat.reduceAdd, Nat.reduceLeDiff, binE, isShift, intBin, WO, fillX, splice, toB_b] at hc; simp only [hc, WB, execE, unE, args0, reduceIte, Nat.reduceEqDiff, Nat.reduceAdd, Nat.reduceLeDiff, binE, isShift, intBin, WO, fillX, splice, Wo_some])))
  | (refine W_opgSF rfl rfl ?hg ?_ ?_; (case hg => (simp only [WB, execE, unE, args0, reduceIte, Nat.reduceEqDiff, Nat.reduceAdd, Nat.reduceLeDiff, binE, isShift, intBin, WO, fillX, splice, toB_b]; done)); (all_goals (intro hc; simp only [WB, execE, unE, args0, reduceIte, Nat.reduceEqDiff, Nat.reduceAdd, Nat.reduceLeDiff, binE, isShift, intBin, WO, fillX, splice, toB_b] at hc; simp only [hc, WB, execE, unE, args0, reduceIte, Nat.reduceEqDiff, Nat.reduceAdd, Nat.reduceLeDiff, binE, isShift, intBin, WO, fillX, splice, Wo_some])))
  | (refine W_cond ?_; simp only [WB, execE, unE, args0, reduceIte, Nat.reduceEqDiff, Nat.reduceAdd, Nat.reduceLeDiff, binE, isShift, intBin, WO, fillX, splice, WC]; first | (refine WC_split (fun hc => ?_) (fun hc => ?_) <;> (try simp only [hc])) | skip)
  )
 all_goals refine W_getRet (by repeat (first | exact hg | exact args0_un (Nat.le_of_ble_eq_true rfl) | refine upd_un ?_ rfl)) ?_
 all_goals refine ⟨rfl, _, rfl, congrArg AV.b ?_, rfl⟩
 all_goals (rw [Bool.eq_iff_iff]; simp only [decide_eq_true_eq, decide_eq_false_iff_not, Bool.false_eq_true, false_iff, ge_iff_le] at *; omega)
theorem call96 {m : AMem} (x : Int) : Vi.Call T 96 [.i .i64 x] m (fun v m' => v = .b (!decide (-1 ≤ x ∧ x ≤ 65536)) ∧ m' = m) := by
 refine Vi.Call.ofP T96 (Nat.le_of_ble_eq_true rfl) ?_
 unfold v96
 repeat (first
  | (refine W_op rfl rfl ?_; simp only [WB, execE, unE, args0, reduceIte, Nat.reduceEqDiff, Nat.reduceAdd, Nat.reduceLeDiff, WO, fillX, splice, Wo_some]) | simp only [WS] | refine W_regd0 ?_ | refine W_regd ?_)
 refine W_callA rfl ?hargs (call94 x (-1) 65536) ?_
 case hargs => simp only [WB, execE, unE, args0, reduceIte, Nat.reduceEqDiff, Nat.reduceAdd, Nat.reduceLeDiff] <;> rfl
 rintro v m1 ⟨rfl, rfl⟩ -
 repeat (first
  | (refine W_op rfl rfl ?_; simp only [WB, execE, unE, args0, reduceIte, Nat.reduceEqDiff, Nat.reduceAdd, Nat.reduceLeDiff, WO, fillX, splice, Wo_some]) | simp only [WS] | refine W_regd0 ?_ | refine W_regd ?_)
 refine W_getRet (by repeat (first | exact hg | exact args0_un (Nat.le_of_ble_eq_true rfl) | refine upd_un ?_ rfl)) ?_
 exact ⟨rfl, _, rfl, rfl, rfl⟩
def okC (l : List Int) : Bool := decide (∀ x ∈ l, -1 ≤ x ∧ x ≤ 65536)
theorem call150 {m : AMem} {av : AV} {l : List Int} (hA : Arr m 1 av l.length (ints l)) (hn : l.length ≤ 1000000) :
  Vi.Call T 150 [av, .f 96 [] []] m (fun v m' => (∃ r : Int, v = .i .i64 r ∧ decide (r ≥ 0) = !okC l) ∧ m' = m) := by
 have hlen := hA.lenF
 refine Vi.Call.ofP T150 (Nat.le_of_ble_eq_true rfl) ?_
 unfold v150
 repeat (first
  | (refine W_op rfl rfl ?_; simp only [WB, execE, unE, args0, reduceIte, Nat.reduceEqDiff, Nat.reduceAdd, Nat.reduceLeDiff, ↓hlen, WO, fillX, splice, Wo_some]) | simp only [WS] | refine W_regd0 ?_ | refine W_regd ?_)
 refine W_loop (fun q g' m' => ∃ i : Nat, i ≤ l.length ∧ q = l.length - i ∧ g' 0 = av ∧ g' 1 = .f 96 [] [] ∧ g' 7 = .i .i64 (l.length : Int) ∧ g' 8 = .i .i64 (i : Int) ∧ (∀ x ∈ l.take i, -1 ≤ x ∧ x ≤ 65536) ∧ m' = m.inn) l.length ?_ ?_ ?_
 ·refine ⟨0, Nat.zero_le _, rfl, ?_, ?_, ?_, ?_, by simp, rfl⟩
  ·skip
   simp only [WT, reduceIte, Nat.reduceEqDiff, args0]
  ·skip
   simp only [WT, reduceIte, Nat.reduceEqDiff, args0]
  ·skip
   simp only [WT, reduceIte, Nat.reduceEqDiff, args0]
  ·skip
   simp only [WT, reduceIte, Nat.reduceEqDiff, args0, Int.ofNat_zero]
   try rfl
 ·intro i hi
  repeat (first | exact args0_un (Nat.le_of_ble_eq_true rfl) i hi | refine upd_un ?_ rfl i hi; clear i hi; intro i hi)
 ·rintro q g m1 ⟨i, hi, rfl, q0, q1, q7, q8, hok, rfl⟩ hg
  by_cases hlt : i < l.length
  ·have c1 : decide ((i : Int) < (l.length : Int)) = true := decide_eq_true (by omega)
   obtain ⟨x, hx⟩ : ∃ x, l[i]? = some x := ⟨_, List.getElem?_eq_getElem hlt⟩
   obtain ⟨j, o, cap, ex, cc, wr, es, rfl, hj, hgj, hck⟩ := hA.full (by omega)
   have hcc : cc[o + i]? = some (.i .i64 x) := (hck _ (by omega)).trans (ints_get hx)
   have hix : (0 ≤ (i : Int) ∧ (i : Int) < (l.length : Int)) := ⟨by omega, by omega⟩
   have hwi : IntKind.i64.wrap ((i : Int) + 1) = ((i + 1 : Nat) : Int) := wr_i64 (n := (i : Int) + 1) (by omega) (by omega)
   repeat (first
    | (refine W_op rfl rfl ?_; simp only [WB, execE, unE, args0, reduceIte, Nat.reduceEqDiff, Nat.reduceAdd, Nat.reduceLeDiff, q7, q8, c1, binE, isShift, intBin, WO, fillX, splice, Wo_some]) | simp only [WS] | refine W_regd0 ?_ | refine W_regd ?_)
   refine W_cond ?_
   simp only [WB, execE, unE, args0, reduceIte, Nat.reduceEqDiff, Nat.reduceAdd, Nat.reduceLeDiff, WC]
   repeat (first
    | (refine W_op rfl rfl ?_; simp only [WB, execE, unE, args0, reduceIte, Nat.reduceEqDiff, Nat.reduceAdd, Nat.reduceLeDiff, q0, q1, q8, hix, Int.toNat_natCast, Nat.mul_one, hgj, hcc, WO, fillX, splice, Wo_some]) | simp only [WS] | refine W_regd0 ?_ | refine W_regd ?_)
   refine W_cvR (first := []) (cap := []) rfl ?hfv ?hargs (call96 x) ?_
   case hfv => (simp only [X.at, upd_at, reduceIte, Nat.reduceEqDiff, q1]; done)
   case hargs => (simp only [List.map_cons, List.map_nil, X.at, upd_at, reduceIte, Nat.reduceEqDiff, List.nil_append, List.append_nil])
   rintro v m2 ⟨rfl, rfl⟩ -
   by_cases hxo : -1 ≤ x ∧ x ≤ 65536
   ·have c2 : decide (-1 ≤ x ∧ x ≤ 65536) = true := decide_eq_true hxo
    rw [c2]
    repeat (first
     | (refine W_op rfl rfl ?_; simp only [WB, execE, unE, args0, reduceIte, Nat.reduceEqDiff, Nat.reduceAdd, Nat.reduceLeDiff, WO, fillX, splice, Wo_some]) | simp only [WS] | refine W_regd0 ?_ | refine W_regd ?_)
    refine W_cond ?_
    simp only [WB, execE, unE, args0, reduceIte, Nat.reduceEqDiff, Nat.reduceAdd, Nat.reduceLeDiff, WC]
    repeat (first
     | (refine W_op rfl rfl ?_; simp only [WB, execE, unE, args0, reduceIte, Nat.reduceEqDiff, Nat.reduceAdd, Nat.reduceLeDiff, q8, hwi, binE, isShift, intBin, WO, fillX, splice, Wo_some]) | simp only [WS] | refine W_regd0 ?_ | refine W_regd ?_)
    refine W_j (by repeat (first | exact hg | exact args0_un (Nat.le_of_ble_eq_true rfl) | refine upd_un ?_ rfl)) ?_
    refine ⟨l.length - (i + 1), by omega, i + 1, by omega, rfl, ?_, ?_, ?_, ?_, fun y hy => ?_, rfl⟩
    ·skip
     simp only [WT, reduceIte, Nat.reduceEqDiff, args0, q0]
    ·skip
     simp only [WT, reduceIte, Nat.reduceEqDiff, args0, q1]
    ·skip
     simp only [WT, reduceIte, Nat.reduceEqDiff, args0, q7]
    ·skip
     simp only [WT, reduceIte, Nat.reduceEqDiff, args0]
    ·rw [List.take_add_one, hx] at hy
     rcases List.mem_append.1 hy with h | h
     ·exact hok y h
     ·simp at h; subst h; exact hxo
   ·have c2 : decide (-1 ≤ x ∧ x ≤ 65536) = false := decide_eq_false hxo
    rw [c2]
    repeat (first
     | (refine W_op rfl rfl ?_; simp only [WB, execE, unE, args0, reduceIte, Nat.reduceEqDiff, Nat.reduceAdd, Nat.reduceLeDiff, WO, fillX, splice, Wo_some]) | simp only [WS] | refine W_regd0 ?_ | refine W_regd ?_)
    refine W_cond ?_
    simp only [WB, execE, unE, args0, reduceIte, Nat.reduceEqDiff, Nat.reduceAdd, Nat.reduceLeDiff, WC]
    repeat (first
     | (refine W_op rfl rfl ?_; simp only [WB, execE, unE, args0, reduceIte, Nat.reduceEqDiff, Nat.reduceAdd, Nat.reduceLeDiff, q8, WO, fillX, splice, Wo_some]) | simp only [WS] | refine W_regd0 ?_ | refine W_regd ?_)
    refine W_getRet (by repeat (first | exact hg | exact args0_un (Nat.le_of_ble_eq_true rfl) | refine upd_un ?_ rfl)) ?_
    refine ⟨rfl, _, rfl, ⟨(i : Int), rfl, ?_⟩, rfl⟩
    have hno : okC l = false := decide_eq_false (fun h => hxo (h x (List.mem_of_getElem? hx)))
    rw [hno]
    exact decide_eq_true (by omega)
  ·have c1 : decide ((i : Int) < (l.length : Int)) = false := decide_eq_false (by omega)
   repeat (first
    | (refine W_op rfl rfl ?_; simp only [WB, execE, unE, args0, reduceIte, Nat.reduceEqDiff, Nat.reduceAdd, Nat.reduceLeDiff, q7, q8, c1, binE, isShift, intBin, WO, fillX, splice, Wo_some]) | simp only [WS] | refine W_regd0 ?_ | refine W_regd ?_)
   refine W_cond ?_
   simp only [WB, execE, unE, args0, reduceIte, Nat.reduceEqDiff, Nat.reduceAdd, Nat.reduceLeDiff, WC]
   refine W_exit rfl ?_
   repeat (first
    | (refine W_op rfl rfl ?_; simp only [WB, execE, unE, args0, reduceIte, Nat.reduceEqDiff, Nat.reduceAdd, Nat.reduceLeDiff, WO, fillX, splice, Wo_some]) | simp only [WS] | refine W_regd0 ?_ | refine W_regd ?_)
   refine W_getRet (by repeat (first | exact hg | exact args0_un (Nat.le_of_ble_eq_true rfl) | refine upd_un ?_ rfl)) ?_
   refine ⟨rfl, _, rfl, ⟨-1, rfl, ?_⟩, rfl⟩
   rw [List.take_of_length_le (by omega)] at hok
   have hyes : okC l = true := decide_eq_true hok
   rw [hyes]; rfl
theorem call95 {m : AMem} {av : AV} {l : List Int} (hA : Arr m 1 av l.length (ints l)) (hn : l.length ≤ 1000000) :
  Vi.Call T 95 [av, .f 96 [] []] m (fun v m' => v = .b (!okC l) ∧ m' = m) := by
 refine Vi.Call.ofP T95 (Nat.le_of_ble_eq_true rfl) ?_
 unfold v95
 repeat (first
  | (refine W_op rfl rfl ?_; simp only [WB, execE, unE, args0, reduceIte, Nat.reduceEqDiff, Nat.reduceAdd, Nat.reduceLeDiff, WO, fillX, splice, Wo_some]) | simp only [WS] | refine W_regd0 ?_ | refine W_regd ?_)
 refine W_callA rfl ?hargs (call150 (hA.keep0 (Keep.inn m)) hn) ?_
 case hargs => simp only [WB, execE, unE, args0, reduceIte, Nat.reduceEqDiff, Nat.reduceAdd, Nat.reduceLeDiff] <;> rfl
 rintro v m1 ⟨⟨r, rfl, hr⟩, rfl⟩ -
 repeat (first
  | (refine W_op rfl rfl ?_; simp only [WB, execE, unE, args0, reduceIte, Nat.reduceEqDiff, Nat.reduceAdd, Nat.reduceLeDiff, binE, isShift, intBin, WO, fillX, splice, Wo_some]) | simp only [WS] | refine W_regd0 ?_ | refine W_regd ?_)
 refine W_getRet (by repeat (first | exact hg | exact args0_un (Nat.le_of_ble_eq_true rfl) | refine upd_un ?_ rfl)) ?_
 exact ⟨rfl, _, rfl, congrArg AV.b hr, rfl⟩
set_option maxHeartbeats 4000000 in
theorem call60 {m : AMem} {s : St} {cv : AV} (hA : Cap m cv s) (hn : s.caps.length ≤ 100000) {g : Int} (hg1 : InI64 g) (hg2 : -1000000 ≤ g ∧ g ≤ 1000000) :
  Vi.Call T 60 [.agg (stS s cv), .i .i64 g] m (fun v m' => v = .b (decide (s.rt g)) ∧ Keep m m' []) := by
 have hlen := Arr.lenF hA
 have ho := Arr.one hA
 obtain ⟨kd, nd, ph, pos, st, dp, og, caps⟩ := s
 simp only at hlen hn
 simp only [Cap] at hA
 refine Vi.Call.ofP T60 (Nat.le_of_ble_eq_true rfl) ?_
 unfold v60
 simp only [stS]
 repeat (first | simp only [WS] | refine W_regd0 ?_ | refine W_regd ?_)
 refine W_op rfl rfl ?_
 simp only [WB, execE, unE, args0, reduceIte, Nat.reduceEqDiff, Nat.reduceAdd, Nat.reduceLeDiff, ho, WO, fillX, splice, Wo_some]
 repeat (first | rw [push_no] | rw [push_yes] | rw [W_onil])
 obtain ⟨mB, hmB, kB, bB, g0, dB, _, nB⟩ := mk_new m.inn [.i .i64 kd, .i .i64 nd, .i .i64 ph, .i .i64 pos, .i .i64 st, .i .i64 dp, .i .i64 og, cv] true (8 : Nat) 8 rfl
 have kB' : Keep m mB [] := kB.ofInn
 have g0' : mB.get m.next = some (.cells [.i .i64 kd, .i .i64 nd, .i .i64 ph, .i .i64 pos, .i .i64 st, .i .i64 dp, .i .i64 og, cv] true (8 : Nat)) := g0
 rw [← hmB]
 clear hmB g0 bB
 have hw1 : IntKind.i64.wrap (g + 1) = g + 1 := wr_i64 (by omega) (by omega)
 have hw2 : IntKind.i64.wrap (2 * (g + 1)) = 2 * (g + 1) := wr_i64 (by omega) (by omega)
 repeat (first
  | ((first | refine W_op rfl rfl ?_ | (refine W_opgT rfl rfl ?h ?_; case h => simp only [WG, reduceIte, Nat.reduceEqDiff]; done)); simp only [WB, execE, unE, args0, reduceIte, Nat.reduceEqDiff, Nat.reduceAdd, Nat.reduceLeDiff, WO, fillX, splice, Wo_some])
  | (refine W_opgF rfl rfl ?h ?_; case h => simp only [WG, reduceIte, Nat.reduceEqDiff]; done)
  | (refine W_opgU rfl ?h ?_; case h => simp only [upd_at, reduceIte, Nat.reduceEqDiff]; done) | (refine W_callN rfl ?h ?_; case h => simp only [WG, reduceIte, Nat.reduceEqDiff]; done) | simp only [WS] | refine W_regd0 ?_ | refine W_regd ?_)
 refine W_cutQ [_, _] (fun g' m' => g' 2 = .p (some (m.next, 0)) ∧ m' = mB ∧ ((0 ≤ g ∧ g ≤ 99) ∧ (caps.length : Int) = 2 * (g + 1))) ?_ ?_
 ·simp only [List.cons_append, List.nil_append]
  repeat' (first
   | ((first | refine W_op rfl rfl ?_ | (refine W_opgT rfl rfl ?h ?_; case h => simp only [WG, reduceIte, Nat.reduceEqDiff]; done)); simp only [WB, execE, unE, args0, reduceIte, Nat.reduceEqDiff, Nat.reduceAdd, Nat.reduceLeDiff, g0', ↓hlen, hw1, hw2, binE, isShift, intBin, WO, fillX, splice, Wo_some])
   | (refine W_opgF rfl rfl ?h ?_; case h => simp only [WG, reduceIte, Nat.reduceEqDiff]; done)
   | (refine W_opgU rfl ?h ?_; case h => simp only [WG, reduceIte, Nat.reduceEqDiff]; done)
   | simp only [WS] | refine W_regd0 ?_ | refine W_regd ?_
   | (refine W_callN rfl ?h ?_; case h => simp only [WG, reduceIte, Nat.reduceEqDiff]; done)
   | (refine W_callA rfl (by simp only [WB, execE, unE, args0, reduceIte, Nat.reduceEqDiff, Nat.reduceAdd, Nat.reduceLeDiff, g0', ↓hlen, hw1, hw2, binE, isShift, intBin, WO, fillX, splice] <;> exact rfl) (call94 _ _ _) ?_; rintro _ _ ⟨rfl, rfl⟩ _)
   | (refine W_callK rfl ?hg (by simp only [WB, execE, unE, args0, reduceIte, Nat.reduceEqDiff, Nat.reduceAdd, Nat.reduceLeDiff, g0', ↓hlen, hw1, hw2, binE, isShift, intBin, WO, fillX, splice] <;> exact rfl) (call94 _ _ _) ?_; (case hg => (simp only [WG, reduceIte, Nat.reduceEqDiff]; done)); rintro _ _ ⟨rfl, rfl⟩ _)
   | (refine W_callGT rfl ?hg (by simp only [WB, execE, unE, args0, reduceIte, Nat.reduceEqDiff, Nat.reduceAdd, Nat.reduceLeDiff, g0', ↓hlen, hw1, hw2, binE, isShift, intBin, WO, fillX, splice] <;> exact rfl) (call94 _ _ _) ?_ ?_; (case hg => (simp only [WB, execE, unE, args0, reduceIte, Nat.reduceEqDiff, Nat.reduceAdd, Nat.reduceLeDiff, g0', ↓hlen, hw1, hw2, binE, isShift, intBin, WO, fillX, splice, toB_b]; done)); (all_goals (intro hc; simp only [WB, execE, unE, args0, reduceIte, Nat.reduceEqDiff, Nat.reduceAdd, Nat.reduceLeDiff, g0', ↓hlen, hw1, hw2, binE, isShift, intBin, WO, fillX, splice, toB_b] at hc; first | (rintro _ _ ⟨rfl, rfl⟩ _; (try simp only [hc])) | (try simp only [hc]))))
   | (refine W_callGF rfl ?hg (by simp only [WB, execE, unE, args0, reduceIte, Nat.reduceEqDiff, Nat.reduceAdd, Nat.reduceLeDiff, g0', ↓hlen, hw1, hw2, binE, isShift, intBin, WO, fillX, splice] <;> exact rfl) (call94 _ _ _) ?_ ?_; (case hg => (simp only [WB, execE, unE, args0, reduceIte, Nat.reduceEqDiff, Nat.reduceAdd, Nat.reduceLeDiff, g0', ↓hlen, hw1, hw2, binE, isShift, intBin, WO, fillX, splice, toB_b]; done)); (all_goals (intro hc; simp only [WB, execE, unE, args0, reduceIte, Nat.reduceEqDiff, Nat.reduceAdd, Nat.reduceLeDiff, g0', ↓hlen, hw1, hw2, binE, isShift, intBin, WO, fillX, splice, toB_b] at hc; first | (rintro _ _ ⟨rfl, rfl⟩ _; (try simp only [hc])) | (try simp only [hc]))))
   | refine W_exit rfl ?_
   | (refine W_opgST rfl rfl ?hg ?_ ?_; (case hg => (simp only [WB, execE, unE, args0, reduceIte, Nat.reduceEqDiff, Nat.reduceAdd, Nat.reduceLeDiff, g0', ↓hlen, hw1, hw2, binE, isShift, intBin, WO, fillX, splice, toB_b]; done)); (all_goals (intro hc; simp only [WB, execE, unE, args0, reduceIte, Nat.reduceEqDiff, Nat.reduceAdd, Nat.reduceLeDiff, g0', ↓hlen, hw1, hw2, binE, isShift, intBin, WO, fillX, splice, toB_b] at hc; simp only [hc, WB, execE, unE, args0, reduceIte, Nat.reduceEqDiff, Nat.reduceAdd, Nat.reduceLeDiff, g0', ↓hlen, hw1, hw2, binE, isShift, intBin, WO, fillX, splice, Wo_some])))
   | (refine W_opgSF rfl rfl ?hg ?_ ?_; (case hg => (simp only [WB, execE, unE, args0, reduceIte, Nat.reduceEqDiff, Nat.reduceAdd, Nat.reduceLeDiff, g0', ↓hlen, hw1, hw2, binE, isShift, intBin, WO, fillX, splice, toB_b]; done)); (all_goals (intro hc; simp only [WB, execE, unE, args0, reduceIte, Nat.reduceEqDiff, Nat.reduceAdd, Nat.reduceLeDiff, g0', ↓hlen, hw1, hw2, binE, isShift, intBin, WO, fillX, splice, toB_b] at hc; simp only [hc, WB, execE, unE, args0, reduceIte, Nat.reduceEqDiff, Nat.reduceAdd, Nat.reduceLeDiff, g0', ↓hlen, hw1, hw2, binE, isShift, intBin, WO, fillX, splice, Wo_some])))
   | (refine W_cond ?_; simp only [WB, execE, unE, args0, reduceIte, Nat.reduceEqDiff, Nat.reduceAdd, Nat.reduceLeDiff, g0', ↓hlen, hw1, hw2, binE, isShift, intBin, WO, fillX, splice, WC]; first | (refine WC_split (fun hc => ?_) (fun hc => ?_) <;> (try simp only [hc])) | skip)
   )
  all_goals first
   | (refine W_j (by repeat (first | exact hg | exact args0_un (Nat.le_of_ble_eq_true rfl) | refine upd_un ?_ rfl)) ?_
      refine ⟨?_, rfl, ?_⟩
      ·simp only [upd_at, reduceIte, Nat.reduceEqDiff]
      ·simp only [Bool.not_eq_false', decide_eq_true_eq, bne_eq_false_iff_eq] at *
       exact ⟨by assumption, by assumption⟩)
   | (refine W_getRet (by repeat (first | exact hg | exact args0_un (Nat.le_of_ble_eq_true rfl) | refine upd_un ?_ rfl)) ?_
      refine ⟨dB, _, rfl, congrArg AV.b ?_, kB'.out⟩
      symm
      refine decide_eq_false ?_
      rintro ⟨h1, h2, _⟩
      simp only at h2
      simp only [Bool.not_eq_true', decide_eq_false_iff_not, bne_iff_ne, ne_eq] at *
      first | (exact absurd h1 (by assumption)) | (exact absurd h2 (by assumption)))
 rintro g1 m1 ⟨q2, rfl, hgA, hgB⟩ hg
 rw [W_seq]
 refine W_cutQ [_] (fun g' m' => g' 2 = .p (some (m.next, 0)) ∧ g' 5 = .b (decide ((1 ≤ kd ∧ kd ≤ 14) ∧ (0 ≤ nd ∧ nd ≤ 16384) ∧ 0 ≤ ph ∧ ph ≤ 16384)) ∧ m' = m1) ?_ ?_
 ·simp only [List.cons_append, List.nil_append]
  repeat' (first
   | ((first | refine W_op rfl rfl ?_ | (refine W_opgT rfl rfl ?h ?_; case h => simp only [WG, reduceIte, Nat.reduceEqDiff]; done)); simp only [WB, execE, unE, args0, reduceIte, Nat.reduceEqDiff, Nat.reduceAdd, Nat.reduceLeDiff, q2, g0', binE, isShift, intBin, WO, fillX, splice, Wo_some])
   | (refine W_opgF rfl rfl ?h ?_; case h => simp only [WG, reduceIte, Nat.reduceEqDiff]; done)
   | (refine W_opgU rfl ?h ?_; case h => simp only [WG, reduceIte, Nat.reduceEqDiff]; done)
   | simp only [WS] | refine W_regd0 ?_ | refine W_regd ?_
   | (refine W_callN rfl ?h ?_; case h => simp only [WG, reduceIte, Nat.reduceEqDiff]; done)
   | (refine W_callA rfl (by simp only [WB, execE, unE, args0, reduceIte, Nat.reduceEqDiff, Nat.reduceAdd, Nat.reduceLeDiff, q2, g0', binE, isShift, intBin, WO, fillX, splice] <;> exact rfl) (call94 _ _ _) ?_; rintro _ _ ⟨rfl, rfl⟩ _)
   | (refine W_callK rfl ?hg (by simp only [WB, execE, unE, args0, reduceIte, Nat.reduceEqDiff, Nat.reduceAdd, Nat.reduceLeDiff, q2, g0', binE, isShift, intBin, WO, fillX, splice] <;> exact rfl) (call94 _ _ _) ?_; (case hg => (simp only [WG, reduceIte, Nat.reduceEqDiff]; done)); rintro _ _ ⟨rfl, rfl⟩ _)
   | (refine W_callGT rfl ?hg (by simp only [WB, execE, unE, args0, reduceIte, Nat.reduceEqDiff, Nat.reduceAdd, Nat.reduceLeDiff, q2, g0', binE, isShift, intBin, WO, fillX, splice] <;> exact rfl) (call94 _ _ _) ?_ ?_; (case hg => (simp only [WB, execE, unE, args0, reduceIte, Nat.reduceEqDiff, Nat.reduceAdd, Nat.reduceLeDiff, q2, g0', binE, isShift, intBin, WO, fillX, splice, toB_b]; done)); (all_goals (intro hc; simp only [WB, execE, unE, args0, reduceIte, Nat.reduceEqDiff, Nat.reduceAdd, Nat.reduceLeDiff, q2, g0', binE, isShift, intBin, WO, fillX, splice, toB_b] at hc; first | (rintro _ _ ⟨rfl, rfl⟩ _; (try simp only [hc])) | (try simp only [hc]))))
   | (refine W_callGF rfl ?hg (by simp only [WB, execE, unE, args0, reduceIte, Nat.reduceEqDiff, Nat.reduceAdd, Nat.reduceLeDiff, q2, g0', binE, isShift, intBin, WO, fillX, splice] <;> exact rfl) (call94 _ _ _) ?_ ?_; (case hg => (simp only [WB, execE, unE, args0, reduceIte, Nat.reduceEqDiff, Nat.reduceAdd, Nat.reduceLeDiff, q2, g0', binE, isShift, intBin, WO, fillX, splice, toB_b]; done)); (all_goals (intro hc; simp only [WB, execE, unE, args0, reduceIte, Nat.reduceEqDiff, Nat.reduceAdd, Nat.reduceLeDiff, q2, g0', binE, isShift, intBin, WO, fillX, splice, toB_b] at hc; first | (rintro _ _ ⟨rfl, rfl⟩ _; (try simp only [hc])) | (try simp only [hc]))))
   | refine W_exit rfl ?_
   | (refine W_opgST rfl rfl ?hg ?_ ?_; (case hg => (simp only [WB, execE, unE, args0, reduceIte, Nat.reduceEqDiff, Nat.reduceAdd, Nat.reduceLeDiff, q2, g0', binE, isShift, intBin, WO, fillX, splice, toB_b]; done)); (all_goals (intro hc; simp only [WB, execE, unE, args0, reduceIte, Nat.reduceEqDiff, Nat.reduceAdd, Nat.reduceLeDiff, q2, g0', binE, isShift, intBin, WO, fillX, splice, toB_b] at hc; simp only [hc, WB, execE, unE, args0, reduceIte, Nat.reduceEqDiff, Nat.reduceAdd, Nat.reduceLeDiff, q2, g0', binE, isShift, intBin, WO, fillX, splice, Wo_some])))
   | (refine W_opgSF rfl rfl ?hg ?_ ?_; (case hg => (simp only [WB, execE, unE, args0, reduceIte, Nat.reduceEqDiff, Nat.reduceAdd, Nat.reduceLeDiff, q2, g0', binE, isShift, intBin, WO, fillX, splice, toB_b]; done)); (all_goals (intro hc; simp only [WB, execE, unE, args0, reduceIte, Nat.reduceEqDiff, Nat.reduceAdd, Nat.reduceLeDiff, q2, g0', binE, isShift, intBin, WO, fillX, splice, toB_b] at hc; simp only [hc, WB, execE, unE, args0, reduceIte, Nat.reduceEqDiff, Nat.reduceAdd, Nat.reduceLeDiff, q2, g0', binE, isShift, intBin, WO, fillX, splice, Wo_some])))
   | (refine W_cond ?_; simp only [WB, execE, unE, args0, reduceIte, Nat.reduceEqDiff, Nat.reduceAdd, Nat.reduceLeDiff, q2, g0', binE, isShift, intBin, WO, fillX, splice, WC]; first | (refine WC_split (fun hc => ?_) (fun hc => ?_) <;> (try simp only [hc])) | skip)
   )
  all_goals (refine W_j (by repeat (first | exact hg | refine upd_un ?_ rfl)) ?_)
  all_goals refine ⟨?_, ?_, rfl⟩
  all_goals simp only [upd_at, reduceIte, Nat.reduceEqDiff, q2]
  all_goals refine congrArg AV.b ?_
  all_goals (rw [Bool.eq_iff_iff]; simp only [decide_eq_true_eq, decide_eq_false_iff_not, Bool.false_eq_true, false_iff, true_iff] at *; omega)
 clear q2 hg g1
 rintro g1 m2 ⟨q2, q5, rfl⟩ hg
 rw [W_seq]
 refine W_cutQ [_] (fun g' m' => g' 2 = .p (some (m.next, 0)) ∧ g' 5 = .b (decide ((1 ≤ kd ∧ kd ≤ 14) ∧ (0 ≤ nd ∧ nd ≤ 16384) ∧ 0 ≤ ph ∧ ph ≤ 16384)) ∧ g' 6 = .b (decide ((0 ≤ pos ∧ pos ≤ 65536) ∧ 0 ≤ st ∧ st ≤ 65536)) ∧ m' = m2) ?_ ?_
 ·simp only [List.cons_append, List.nil_append]
  repeat' (first
   | ((first | refine W_op rfl rfl ?_ | (refine W_opgT rfl rfl ?h ?_; case h => simp only [WG, reduceIte, Nat.reduceEqDiff]; done)); simp only [WB, execE, unE, args0, reduceIte, Nat.reduceEqDiff, Nat.reduceAdd, Nat.reduceLeDiff, q2, g0', binE, isShift, intBin, WO, fillX, splice, Wo_some])
   | (refine W_opgF rfl rfl ?h ?_; case h => simp only [WG, reduceIte, Nat.reduceEqDiff]; done)
   | (refine W_opgU rfl ?h ?_; case h => simp only [WG, reduceIte, Nat.reduceEqDiff]; done)
   | simp only [WS] | refine W_regd0 ?_ | refine W_regd ?_
   | (refine W_callN rfl ?h ?_; case h => simp only [WG, reduceIte, Nat.reduceEqDiff]; done)
   | (refine W_callA rfl (by simp only [WB, execE, unE, args0, reduceIte, Nat.reduceEqDiff, Nat.reduceAdd, Nat.reduceLeDiff, q2, g0', binE, isShift, intBin, WO, fillX, splice] <;> exact rfl) (call94 _ _ _) ?_; rintro _ _ ⟨rfl, rfl⟩ _)
   | (refine W_callK rfl ?hg (by simp only [WB, execE, unE, args0, reduceIte, Nat.reduceEqDiff, Nat.reduceAdd, Nat.reduceLeDiff, q2, g0', binE, isShift, intBin, WO, fillX, splice] <;> exact rfl) (call94 _ _ _) ?_; (case hg => (simp only [WG, reduceIte, Nat.reduceEqDiff]; done)); rintro _ _ ⟨rfl, rfl⟩ _)
   | (refine W_callGT rfl ?hg (by simp only [WB, execE, unE, args0, reduceIte, Nat.reduceEqDiff, Nat.reduceAdd, Nat.reduceLeDiff, q2, g0', binE, isShift, intBin, WO, fillX, splice] <;> exact rfl) (call94 _ _ _) ?_ ?_; (case hg => (simp only [WB, execE, unE, args0, reduceIte, Nat.reduceEqDiff, Nat.reduceAdd, Nat.reduceLeDiff, q2, g0', binE, isShift, intBin, WO, fillX, splice, toB_b]; done)); (all_goals (intro hc; simp only [WB, execE, unE, args0, reduceIte, Nat.reduceEqDiff, Nat.reduceAdd, Nat.reduceLeDiff, q2, g0', binE, isShift, intBin, WO, fillX, splice, toB_b] at hc; first | (rintro _ _ ⟨rfl, rfl⟩ _; (try simp only [hc])) | (try simp only [hc]))))
   | (refine W_callGF rfl ?hg (by simp only [WB, execE, unE, args0, reduceIte, Nat.reduceEqDiff, Nat.reduceAdd, Nat.reduceLeDiff, q2, g0', binE, isShift, intBin, WO, fillX, splice] <;> exact rfl) (call94 _ _ _) ?_ ?_; (case hg => (simp only [WB, execE, unE, args0, reduceIte, Nat.reduceEqDiff, Nat.reduceAdd, Nat.reduceLeDiff, q2, g0', binE, isShift, intBin, WO, fillX, splice, toB_b]; done)); (all_goals (intro hc; simp only [WB, execE, unE, args0, reduceIte, Nat.reduceEqDiff, Nat.reduceAdd, Nat.reduceLeDiff, q2, g0', binE, isShift, intBin, WO, fillX, splice, toB_b] at hc; first | (rintro _ _ ⟨rfl, rfl⟩ _; (try simp only [hc])) | (try simp only [hc]))))
   | refine W_exit rfl ?_
   | (refine W_opgST rfl rfl ?hg ?_ ?_; (case hg => (simp only [WB, execE, unE, args0, reduceIte, Nat.reduceEqDiff, Nat.reduceAdd, Nat.reduceLeDiff, q2, g0', binE, isShift, intBin, WO, fillX, splice, toB_b]; done)); (all_goals (intro hc; simp only [WB, execE, unE, args0, reduceIte, Nat.reduceEqDiff, Nat.reduceAdd, Nat.reduceLeDiff, q2, g0', binE, isShift, intBin, WO, fillX, splice, toB_b] at hc; simp only [hc, WB, execE, unE, args0, reduceIte, Nat.reduceEqDiff, Nat.reduceAdd, Nat.reduceLeDiff, q2, g0', binE, isShift, intBin, WO, fillX, splice, Wo_some])))
   | (refine W_opgSF rfl rfl ?hg ?_ ?_; (case hg => (simp only [WB, execE, unE, args0, reduceIte, Nat.reduceEqDiff, Nat.reduceAdd, Nat.reduceLeDiff, q2, g0', binE, isShift, intBin, WO, fillX, splice, toB_b]; done)); (all_goals (intro hc; simp only [WB, execE, unE, args0, reduceIte, Nat.reduceEqDiff, Nat.reduceAdd, Nat.reduceLeDiff, q2, g0', binE, isShift, intBin, WO, fillX, splice, toB_b] at hc; simp only [hc, WB, execE, unE, args0, reduceIte, Nat.reduceEqDiff, Nat.reduceAdd, Nat.reduceLeDiff, q2, g0', binE, isShift, intBin, WO, fillX, splice, Wo_some])))
   | (refine W_cond ?_; simp only [WB, execE, unE, args0, reduceIte, Nat.reduceEqDiff, Nat.reduceAdd, Nat.reduceLeDiff, q2, g0', binE, isShift, intBin, WO, fillX, splice, WC]; first | (refine WC_split (fun hc => ?_) (fun hc => ?_) <;> (try simp only [hc])) | skip)
   )
  all_goals (refine W_j (by repeat (first | exact hg | refine upd_un ?_ rfl)) ?_)
  all_goals refine ⟨?_, ?_, ?_, rfl⟩
  all_goals simp only [upd_at, reduceIte, Nat.reduceEqDiff, q2, q5]
  all_goals refine congrArg AV.b ?_
  all_goals (rw [Bool.eq_iff_iff]; simp only [decide_eq_true_eq, decide_eq_false_iff_not, Bool.false_eq_true, false_iff, true_iff] at *; omega)
 clear q2 q5 hg g1
 rintro g1 m3 ⟨q2, q5, q6, rfl⟩ hg
 rw [W_seq]
 refine W_cutQ [_] (fun g' m' => g' 2 = .p (some (m.next, 0)) ∧ g' 5 = .b (decide ((1 ≤ kd ∧ kd ≤ 14) ∧ (0 ≤ nd ∧ nd ≤ 16384) ∧ 0 ≤ ph ∧ ph ≤ 16384)) ∧ g' 6 = .b (decide ((0 ≤ pos ∧ pos ≤ 65536) ∧ 0 ≤ st ∧ st ≤ 65536)) ∧ g' 7 = .b (decide ((0 ≤ dp ∧ dp ≤ 65536) ∧ -1 ≤ og ∧ og ≤ 1048576)) ∧ m' = m3) ?_ ?_
 ·simp only [List.cons_append, List.nil_append]
  repeat' (first
   | ((first | refine W_op rfl rfl ?_ | (refine W_opgT rfl rfl ?h ?_; case h => simp only [WG, reduceIte, Nat.reduceEqDiff]; done)); simp only [WB, execE, unE, args0, reduceIte, Nat.reduceEqDiff, Nat.reduceAdd, Nat.reduceLeDiff, q2, g0', binE, isShift, intBin, WO, fillX, splice, Wo_some])
   | (refine W_opgF rfl rfl ?h ?_; case h => simp only [WG, reduceIte, Nat.reduceEqDiff]; done)
   | (refine W_opgU rfl ?h ?_; case h => simp only [WG, reduceIte, Nat.reduceEqDiff]; done)
   | simp only [WS] | refine W_regd0 ?_ | refine W_regd ?_
   | (refine W_callN rfl ?h ?_; case h => simp only [WG, reduceIte, Nat.reduceEqDiff]; done)
   | (refine W_callA rfl (by simp only [WB, execE, unE, args0, reduceIte, Nat.reduceEqDiff, Nat.reduceAdd, Nat.reduceLeDiff, q2, g0', binE, isShift, intBin, WO, fillX, splice] <;> exact rfl) (call94 _ _ _) ?_; rintro _ _ ⟨rfl, rfl⟩ _)
   | (refine W_callK rfl ?hg (by simp only [WB, execE, unE, args0, reduceIte, Nat.reduceEqDiff, Nat.reduceAdd, Nat.reduceLeDiff, q2, g0', binE, isShift, intBin, WO, fillX, splice] <;> exact rfl) (call94 _ _ _) ?_; (case hg => (simp only [WG, reduceIte, Nat.reduceEqDiff]; done)); rintro _ _ ⟨rfl, rfl⟩ _)
   | (refine W_callGT rfl ?hg (by simp only [WB, execE, unE, args0, reduceIte, Nat.reduceEqDiff, Nat.reduceAdd, Nat.reduceLeDiff, q2, g0', binE, isShift, intBin, WO, fillX, splice] <;> exact rfl) (call94 _ _ _) ?_ ?_; (case hg => (simp only [WB, execE, unE, args0, reduceIte, Nat.reduceEqDiff, Nat.reduceAdd, Nat.reduceLeDiff, q2, g0', binE, isShift, intBin, WO, fillX, splice, toB_b]; done)); (all_goals (intro hc; simp only [WB, execE, unE, args0, reduceIte, Nat.reduceEqDiff, Nat.reduceAdd, Nat.reduceLeDiff, q2, g0', binE, isShift, intBin, WO, fillX, splice, toB_b] at hc; first | (rintro _ _ ⟨rfl, rfl⟩ _; (try simp only [hc])) | (try simp only [hc]))))
   | (refine W_callGF rfl ?hg (by simp only [WB, execE, unE, args0, reduceIte, Nat.reduceEqDiff, Nat.reduceAdd, Nat.reduceLeDiff, q2, g0', binE, isShift, intBin, WO, fillX, splice] <;> exact rfl) (call94 _ _ _) ?_ ?_; (case hg => (simp only [WB, execE, unE, args0, reduceIte, Nat.reduceEqDiff, Nat.reduceAdd, Nat.reduceLeDiff, q2, g0', binE, isShift, intBin, WO, fillX, splice, toB_b]; done)); (all_goals (intro hc; simp only [WB, execE, unE, args0, reduceIte, Nat.reduceEqDiff, Nat.reduceAdd, Nat.reduceLeDiff, q2, g0', binE, isShift, intBin, WO, fillX, splice, toB_b] at hc; first | (rintro _ _ ⟨rfl, rfl⟩ _; (try simp only [hc])) | (try simp only [hc]))))
   | refine W_exit rfl ?_
   | (refine W_opgST rfl rfl ?hg ?_ ?_; (case hg => (simp only [WB, execE, unE, args0, reduceIte, Nat.reduceEqDiff, Nat.reduceAdd, Nat.reduceLeDiff, q2, g0', binE, isShift, intBin, WO, fillX, splice, toB_b]; done)); (all_goals (intro hc; simp only [WB, execE, unE, args0, reduceIte, Nat.reduceEqDiff, Nat.reduceAdd, Nat.reduceLeDiff, q2, g0', binE, isShift, intBin, WO, fillX, splice, toB_b] at hc; simp only [hc, WB, execE, unE, args0, reduceIte, Nat.reduceEqDiff, Nat.reduceAdd, Nat.reduceLeDiff, q2, g0', binE, isShift, intBin, WO, fillX, splice, Wo_some])))
   | (refine W_opgSF rfl rfl ?hg ?_ ?_; (case hg => (simp only [WB, execE, unE, args0, reduceIte, Nat.reduceEqDiff, Nat.reduceAdd, Nat.reduceLeDiff, q2, g0', binE, isShift, intBin, WO, fillX, splice, toB_b]; done)); (all_goals (intro hc; simp only [WB, execE, unE, args0, reduceIte, Nat.reduceEqDiff, Nat.reduceAdd, Nat.reduceLeDiff, q2, g0', binE, isShift, intBin, WO, fillX, splice, toB_b] at hc; simp only [hc, WB, execE, unE, args0, reduceIte, Nat.reduceEqDiff, Nat.reduceAdd, Nat.reduceLeDiff, q2, g0', binE, isShift, intBin, WO, fillX, splice, Wo_some])))
   | (refine W_cond ?_; simp only [WB, execE, unE, args0, reduceIte, Nat.reduceEqDiff, Nat.reduceAdd, Nat.reduceLeDiff, q2, g0', binE, isShift, intBin, WO, fillX, splice, WC]; first | (refine WC_split (fun hc => ?_) (fun hc => ?_) <;> (try simp only [hc])) | skip)
   )
  all_goals (refine W_j (by repeat (first | exact hg | refine upd_un ?_ rfl)) ?_)
  all_goals refine ⟨?_, ?_, ?_, ?_, rfl⟩
  all_goals simp only [upd_at, reduceIte, Nat.reduceEqDiff, q2, q5, q6]
  all_goals refine congrArg AV.b ?_
  all_goals (rw [Bool.eq_iff_iff]; simp only [decide_eq_true_eq, decide_eq_false_iff_not, Bool.false_eq_true, false_iff, true_iff] at *; omega)
 clear q2 q5 q6 hg g1
 rintro g1 m4 ⟨q2, q5, q6, q7, rfl⟩ hg
 generalize hb5 : decide ((1 ≤ kd ∧ kd ≤ 14) ∧ (0 ≤ nd ∧ nd ≤ 16384) ∧ 0 ≤ ph ∧ ph ≤ 16384) = b5 at q5
 generalize hb6 : decide ((0 ≤ pos ∧ pos ≤ 65536) ∧ 0 ≤ st ∧ st ≤ 65536) = b6 at q6
 generalize hb7 : decide ((0 ≤ dp ∧ dp ≤ 65536) ∧ -1 ≤ og ∧ og ≤ 1048576) = b7 at q7
 have hres : decide (St.rt ⟨kd, nd, ph, pos, st, dp, og, caps⟩ g) = (b5 && (b6 && (b7 && okC caps))) := by
  rw [← hb5, ← hb6, ← hb7, okC, Bool.eq_iff_iff]
  constructor
  ·intro h
   have h' : St.rt ⟨kd, nd, ph, pos, st, dp, og, caps⟩ g := of_decide_eq_true h
   simp only [Bool.and_eq_true, decide_eq_true_eq]
   exact h'.2.2
  ·intro h
   simp only [Bool.and_eq_true, decide_eq_true_eq] at h
   exact decide_eq_true (show St.rt ⟨kd, nd, ph, pos, st, dp, og, caps⟩ g from ⟨hgA, hgB, h⟩)
 rw [hres]
 cases b5
 ·skip
  repeat (first
   | ((first | refine W_op rfl rfl ?_ | (refine W_opgT rfl rfl ?h ?_; case h => simp only [WG, reduceIte, Nat.reduceEqDiff]; done)); simp only [WB, execE, unE, args0, reduceIte, Nat.reduceEqDiff, Nat.reduceAdd, Nat.reduceLeDiff, q2, q5, q6, q7, WO, fillX, splice, Wo_some])
   | (refine W_opgF rfl rfl ?h ?_; case h => simp only [WG, reduceIte, Nat.reduceEqDiff]; done)
   | (refine W_opgU rfl ?h ?_; case h => simp only [upd_at, reduceIte, Nat.reduceEqDiff]; done) | (refine W_callN rfl ?h ?_; case h => simp only [WG, reduceIte, Nat.reduceEqDiff]; done) | simp only [WS] | refine W_regd0 ?_ | refine W_regd ?_)
  refine W_getRet (by repeat (first | exact hg | exact args0_un (Nat.le_of_ble_eq_true rfl) | refine upd_un ?_ rfl)) ?_
  exact ⟨dB, _, rfl, rfl, kB'.out⟩
 cases b6
 ·skip
  repeat (first
   | ((first | refine W_op rfl rfl ?_ | (refine W_opgT rfl rfl ?h ?_; case h => simp only [WG, reduceIte, Nat.reduceEqDiff]; done)); simp only [WB, execE, unE, args0, reduceIte, Nat.reduceEqDiff, Nat.reduceAdd, Nat.reduceLeDiff, q2, q5, q6, q7, WO, fillX, splice, Wo_some])
   | (refine W_opgF rfl rfl ?h ?_; case h => simp only [WG, reduceIte, Nat.reduceEqDiff]; done)
   | (refine W_opgU rfl ?h ?_; case h => simp only [upd_at, reduceIte, Nat.reduceEqDiff]; done) | (refine W_callN rfl ?h ?_; case h => simp only [WG, reduceIte, Nat.reduceEqDiff]; done) | simp only [WS] | refine W_regd0 ?_ | refine W_regd ?_)
  refine W_getRet (by repeat (first | exact hg | exact args0_un (Nat.le_of_ble_eq_true rfl) | refine upd_un ?_ rfl)) ?_
  exact ⟨dB, _, rfl, rfl, kB'.out⟩
 cases b7
 ·skip
  repeat (first
   | ((first | refine W_op rfl rfl ?_ | (refine W_opgT rfl rfl ?h ?_; case h => simp only [WG, reduceIte, Nat.reduceEqDiff]; done)); simp only [WB, execE, unE, args0, reduceIte, Nat.reduceEqDiff, Nat.reduceAdd, Nat.reduceLeDiff, q2, q5, q6, q7, WO, fillX, splice, Wo_some])
   | (refine W_opgF rfl rfl ?h ?_; case h => simp only [WG, reduceIte, Nat.reduceEqDiff]; done)
   | (refine W_opgU rfl ?h ?_; case h => simp only [upd_at, reduceIte, Nat.reduceEqDiff]; done) | (refine W_callN rfl ?h ?_; case h => simp only [WG, reduceIte, Nat.reduceEqDiff]; done) | simp only [WS] | refine W_regd0 ?_ | refine W_regd ?_)
  refine W_getRet (by repeat (first | exact hg | exact args0_un (Nat.le_of_ble_eq_true rfl) | refine upd_un ?_ rfl)) ?_
  exact ⟨dB, _, rfl, rfl, kB'.out⟩
 repeat (first
  | ((first | refine W_op rfl rfl ?_ | (refine W_opgT rfl rfl ?h ?_; case h => simp only [WG, reduceIte, Nat.reduceEqDiff]; done)); simp only [WB, execE, unE, args0, reduceIte, Nat.reduceEqDiff, Nat.reduceAdd, Nat.reduceLeDiff, q2, q5, q6, q7, g0', WO, fillX, splice, Wo_some])
  | (refine W_opgF rfl rfl ?h ?_; case h => simp only [WG, reduceIte, Nat.reduceEqDiff]; done)
  | (refine W_opgU rfl ?h ?_; case h => simp only [upd_at, reduceIte, Nat.reduceEqDiff]; done) | (refine W_callN rfl ?h ?_; case h => simp only [WG, reduceIte, Nat.reduceEqDiff]; done) | simp only [WS] | refine W_regd0 ?_ | refine W_regd ?_)
 refine W_callK rfl ?hg ?hargs (call95 (hA.keep0 kB') (by omega)) ?_
 case hg => (simp only [WB, execE, unE, args0, reduceIte, Nat.reduceEqDiff, Nat.reduceAdd, Nat.reduceLeDiff, WO, fillX, splice]; done)
 case hargs => simp only [WB, execE, unE, args0, reduceIte, Nat.reduceEqDiff, Nat.reduceAdd, Nat.reduceLeDiff, WO, fillX, splice] <;> rfl
 rintro v m5 ⟨rfl, rfl⟩ -
 repeat (first
  | ((first | refine W_op rfl rfl ?_ | (refine W_opgT rfl rfl ?h ?_; case h => simp only [WG, reduceIte, Nat.reduceEqDiff]; done)); simp only [WB, execE, unE, args0, reduceIte, Nat.reduceEqDiff, Nat.reduceAdd, Nat.reduceLeDiff, Bool.not_not, WO, fillX, splice, Wo_some])
  | (refine W_opgF rfl rfl ?h ?_; case h => simp only [WG, reduceIte, Nat.reduceEqDiff]; done)
  | (refine W_opgU rfl ?h ?_; case h => simp only [upd_at, reduceIte, Nat.reduceEqDiff]; done) | (refine W_callN rfl ?h ?_; case h => simp only [WG, reduceIte, Nat.reduceEqDiff]; done) | simp only [WS] | refine W_regd0 ?_ | refine W_regd ?_)
 refine W_getRet (by repeat (first | exact hg | exact args0_un (Nat.le_of_ble_eq_true rfl) | refine upd_un ?_ rfl)) ?_
 exact ⟨dB, _, rfl, rfl, kB'.out⟩
end Go.Proofs.YtfbglgmhhmeoeaaGreatDoor
