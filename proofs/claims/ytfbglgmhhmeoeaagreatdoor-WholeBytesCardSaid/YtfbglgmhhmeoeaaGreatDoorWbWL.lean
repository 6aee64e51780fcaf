/- A reader reads the places that are other ones. No condition. -/
import Derived.Test.YtfbglgmhhmeoeaaGreatDoorWbWK
import Derived.Test.YtfbglgmhhmeoeaaGreatDoorWbViNode
import Derived.Test.YtfbglgmhhmeoeaaGreatDoorWbViSet
namespace Go.Proofs.YtfbglgmhhmeoeaaGreatDoor
open Go.Vi
set_option linter.unusedSimpArgs false
set_option linter.unusedVariables false
theorem ints_set (l : List Int) (i : Nat) (x : Int) : (ints l).set i (.i .i64 x) = ints (l.set i x) := by
 simp [ints, List.map_set]
theorem arr_off {m m' : AMem} {e n : Nat} {av : AV} {l : List AV} {fp : List Nat} (h : Arr m e av n l) (k : Keep m m' fp) (ho : ∀ x ∈ fp, Off av x) : Arr m' e av n l :=
 h.keep k (fun i o n c x hx hm => ho i hm i o n c x hx rfl)
set_option maxHeartbeats 8000000 in
theorem call59 {m : AMem} {j jc : Nat} {bv av : AV} {b : List UInt8} {r : Rd} {l : List Int} {ty : Option Nat} (hj : m.get j = some (.cells [bv, .i .i64 (r.1 : Int), .i .i64 r.2] true (3 : Nat))) (hjn : j < m.next) (hA : Arr m 1 bv b.length (cellsOfBytes b)) (ho1 : Off bv j) (ho2 : Off bv jc) (hl : b.length ≤ 100000000) (ha : r.1 ≤ b.length)
  (hR : RowE m 1 ty av (some jc) l.length (ints l)) (hne : jc ≠ j) (hn : l.length ≤ 1000) :
  Vi.Call T 59 [.p (some (j, 0)), av] m (fun _ m' => RdAt m' j bv (places b r l).2 ∧ RowE m' 1 ty av (some jc) l.length (ints (places b r l).1) ∧ Keep m m' [j, jc] ∧ m'.next = m.next) := by
 have hlen := hR.arr.lenF
 have hoff : ∀ x ∈ [j, jc], Off bv x := by
  intro x hx
  rcases List.mem_cons.1 hx with rfl | hx
  ·exact ho1
  ·exact (List.mem_singleton.1 hx) ▸ ho2
 refine Vi.Call.ofP T59 (Nat.le_of_ble_eq_true rfl) ?_
 unfold v59
 repeat (first
  | ((first | refine W_op rfl rfl ?_ | (refine W_opgT rfl rfl ?h ?_; case h => simp only [WG, reduceIte, Nat.reduceEqDiff]; done)); simp only [WB, execE, unE, args0, reduceIte, Nat.reduceEqDiff, Nat.reduceAdd, Nat.reduceLeDiff, ↓hlen, WO, fillX, splice, Wo_some])
  | (refine W_opgF rfl rfl ?h ?_; case h => simp only [WG, reduceIte, Nat.reduceEqDiff]; done)
  | (refine W_opgU rfl ?h ?_; case h => simp only [upd_at, reduceIte, Nat.reduceEqDiff]; done) | (refine W_callN rfl ?h ?_; case h => simp only [WG, reduceIte, Nat.reduceEqDiff]; done) | simp only [WS] | refine W_regd0 ?_ | refine W_regd ?_)
 refine W_callA rfl ?hargs (call57 (m := m.inn) hj (hA.keep0 (Keep.inn m)) hl ha (most := l.length) (by omega)) ?_
 case hargs => simp only [WB, execE, unE, args0, reduceIte, Nat.reduceEqDiff, Nat.reduceAdd, Nat.reduceLeDiff] <;> rfl
 rintro v m1 ⟨rfl, hj1, k1, n1⟩ hs1
 have hq1 := rnum_at (b := b) (r := r) (most := l.length) ha
 have k1' : Keep m m1 [j, jc] := (k1.ofInn).mono (fun x hx => .inl (by simp [List.mem_singleton.1 hx]))
 have n1' : m1.next = m.next := n1
 have d1 : m1.ds = [] := hs1.ds
 have hR1 := hR.keep k1.ofInn (fun x hx hm => by cases hx; exact hne (List.mem_singleton.1 hm))
 unfold RdAt at hj1
 generalize hq : rnum b r l.length = q at hj1 hq1
 obtain ⟨n, a1, e1⟩ := q
 simp only at hj1 hq1
 have hpl : places b r l = plgo b n 0 (if n = 0 ∧ e1 = 0 then (a1, 11) else (a1, e1)) l := by
  unfold places; rw [hq]
 repeat (first | simp only [WS] | refine W_regd0 ?_ | refine W_regd ?_)
 refine W_op rfl rfl ?_
 simp only [WB, execE, unE, args0, reduceIte, Nat.reduceEqDiff, Nat.reduceAdd, Nat.reduceLeDiff, WO, fillX, splice, Wo_some]
 repeat (first | rw [push_no] | rw [push_yes] | rw [W_onil])
 rw [W_seq]
 refine W_cutQ [_] (fun g' m' => g' 0 = .p (some (j, 0)) ∧ g' 1 = av ∧ g' 4 = .i .i64 (n : Int) ∧ RdAt m' j bv (if n = 0 ∧ e1 = 0 then (a1, 11) else (a1, e1)) ∧ RowE m' 1 ty av (some jc) l.length (ints l) ∧ Keep m m' [j, jc] ∧ m'.next = m.next ∧ m'.ds = []) ?_ ?_
 ·simp only [List.cons_append, List.nil_append]
  by_cases hn0 : n = 0
  ·have c1 : ((n : Int) == 0) = true := by simpa using hn0
   by_cases he0 : e1 = 0
   ·have c2 : (e1 == 0) = true := by simpa using he0
    repeat (first
     | ((first | refine W_opS rfl rfl rfl ?_ | (refine W_opgT rfl rfl ?h ?_; case h => simp only [WG, reduceIte, Nat.reduceEqDiff]; done)); simp only [WB, execE, unE, args0, reduceIte, Nat.reduceEqDiff, Nat.reduceAdd, Nat.reduceLeDiff, c1, c2, hj1, binE, isShift, intBin, WO, fillX, splice, Wo_some])
     | (refine W_opgF rfl rfl ?h ?_; case h => simp only [WG, reduceIte, Nat.reduceEqDiff]; done)
     | (refine W_opgU rfl ?h ?_; case h => simp only [upd_at, reduceIte, Nat.reduceEqDiff]; done) | (refine W_callN rfl ?h ?_; case h => simp only [WG, reduceIte, Nat.reduceEqDiff]; done) | simp only [WS] | refine W_regd0 ?_ | refine W_regd ?_)
    refine W_cond ?_
    simp only [WB, execE, unE, args0, reduceIte, Nat.reduceEqDiff, Nat.reduceAdd, Nat.reduceLeDiff, WC]
    repeat (first
     | ((first | refine W_opS rfl rfl rfl ?_ | (refine W_opgT rfl rfl ?h ?_; case h => simp only [WG, reduceIte, Nat.reduceEqDiff]; done)); simp only [WB, execE, unE, args0, reduceIte, Nat.reduceEqDiff, Nat.reduceAdd, Nat.reduceLeDiff, WO, fillX, splice, Wo_some])
     | (refine W_opgF rfl rfl ?h ?_; case h => simp only [WG, reduceIte, Nat.reduceEqDiff]; done)
     | (refine W_opgU rfl ?h ?_; case h => simp only [upd_at, reduceIte, Nat.reduceEqDiff]; done) | (refine W_callN rfl ?h ?_; case h => simp only [WG, reduceIte, Nat.reduceEqDiff]; done) | simp only [WS] | refine W_regd0 ?_ | refine W_regd ?_)
    repeat (first | simp only [WS] | refine W_regd0 ?_ | refine W_regd ?_)
    refine W_op rfl rfl ?_
    simp only [WB, execE, unE, args0, reduceIte, Nat.reduceEqDiff, Nat.reduceAdd, Nat.reduceLeDiff, hj1, WO, fillX, splice, Wo_some]
    repeat (first | rw [push_no] | rw [push_yes] | rw [W_onil])
    refine W_j (by repeat (first | exact hg | exact args0_un (Nat.le_of_ble_eq_true rfl) | refine upd_un ?_ rfl)) ?_
    refine ⟨?_, ?_, ?_, ?_, ?_, ?_, n1', d1⟩
    ·skip
     simp only [WT, reduceIte, Nat.reduceEqDiff, args0]
    ·skip
     simp only [WT, reduceIte, Nat.reduceEqDiff, args0]
    ·skip
     simp only [WT, reduceIte, Nat.reduceEqDiff, args0]
    ·rw [if_pos ⟨hn0, he0⟩]
     simp only [RdAt, AMem.get_put, reduceIte]
    ·exact hR1.keep (Keep.put _ _ _) (fun x hx hm => by cases hx; exact hne (List.mem_singleton.1 hm))
    ·exact k1'.trans (Keep.put _ _ _) (fun x hx => .inl (by simp [List.mem_singleton.1 hx]))
   ·have c2 : (e1 == 0) = false := by simpa using he0
    repeat (first
     | ((first | refine W_op rfl rfl ?_ | (refine W_opgT rfl rfl ?h ?_; case h => simp only [WG, reduceIte, Nat.reduceEqDiff]; done)); simp only [WB, execE, unE, args0, reduceIte, Nat.reduceEqDiff, Nat.reduceAdd, Nat.reduceLeDiff, c1, c2, hj1, binE, isShift, intBin, WO, fillX, splice, Wo_some])
     | (refine W_opgF rfl rfl ?h ?_; case h => simp only [WG, reduceIte, Nat.reduceEqDiff]; done)
     | (refine W_opgU rfl ?h ?_; case h => simp only [upd_at, reduceIte, Nat.reduceEqDiff]; done) | (refine W_callN rfl ?h ?_; case h => simp only [WG, reduceIte, Nat.reduceEqDiff]; done) | simp only [WS] | refine W_regd0 ?_ | refine W_regd ?_)
    refine W_cond ?_
    simp only [WB, execE, unE, args0, reduceIte, Nat.reduceEqDiff, Nat.reduceAdd, Nat.reduceLeDiff, WC]
    repeat (first
     | ((first | refine W_op rfl rfl ?_ | (refine W_opgT rfl rfl ?h ?_; case h => simp only [WG, reduceIte, Nat.reduceEqDiff]; done)); simp only [WB, execE, unE, args0, reduceIte, Nat.reduceEqDiff, Nat.reduceAdd, Nat.reduceLeDiff, WO, fillX, splice, Wo_some])
     | (refine W_opgF rfl rfl ?h ?_; case h => simp only [WG, reduceIte, Nat.reduceEqDiff]; done)
     | (refine W_opgU rfl ?h ?_; case h => simp only [upd_at, reduceIte, Nat.reduceEqDiff]; done) | (refine W_callN rfl ?h ?_; case h => simp only [WG, reduceIte, Nat.reduceEqDiff]; done) | simp only [WS] | refine W_regd0 ?_ | refine W_regd ?_)
    refine W_j (by repeat (first | exact hg | exact args0_un (Nat.le_of_ble_eq_true rfl) | refine upd_un ?_ rfl)) ?_
    refine ⟨?_, ?_, ?_, ?_, hR1, k1', n1', d1⟩
    ·skip
     simp only [WT, reduceIte, Nat.reduceEqDiff, args0]
    ·skip
     simp only [WT, reduceIte, Nat.reduceEqDiff, args0]
    ·skip
     simp only [WT, reduceIte, Nat.reduceEqDiff, args0]
    ·rw [if_neg (fun h => he0 h.2)]; exact hj1
  ·have c1 : ((n : Int) == 0) = false := by simpa using hn0
   repeat (first
    | ((first | refine W_op rfl rfl ?_ | (refine W_opgT rfl rfl ?h ?_; case h => simp only [WG, reduceIte, Nat.reduceEqDiff]; done)); simp only [WB, execE, unE, args0, reduceIte, Nat.reduceEqDiff, Nat.reduceAdd, Nat.reduceLeDiff, c1, binE, isShift, intBin, WO, fillX, splice, Wo_some])
    | (refine W_opgF rfl rfl ?h ?_; case h => simp only [WG, reduceIte, Nat.reduceEqDiff]; done)
    | (refine W_opgU rfl ?h ?_; case h => simp only [upd_at, reduceIte, Nat.reduceEqDiff]; done) | (refine W_callN rfl ?h ?_; case h => simp only [WG, reduceIte, Nat.reduceEqDiff]; done) | simp only [WS] | refine W_regd0 ?_ | refine W_regd ?_)
   refine W_cond ?_
   simp only [WB, execE, unE, args0, reduceIte, Nat.reduceEqDiff, Nat.reduceAdd, Nat.reduceLeDiff, WC]
   repeat (first
    | ((first | refine W_op rfl rfl ?_ | (refine W_opgT rfl rfl ?h ?_; case h => simp only [WG, reduceIte, Nat.reduceEqDiff]; done)); simp only [WB, execE, unE, args0, reduceIte, Nat.reduceEqDiff, Nat.reduceAdd, Nat.reduceLeDiff, WO, fillX, splice, Wo_some])
    | (refine W_opgF rfl rfl ?h ?_; case h => simp only [WG, reduceIte, Nat.reduceEqDiff]; done)
    | (refine W_opgU rfl ?h ?_; case h => simp only [upd_at, reduceIte, Nat.reduceEqDiff]; done) | (refine W_callN rfl ?h ?_; case h => simp only [WG, reduceIte, Nat.reduceEqDiff]; done) | simp only [WS] | refine W_regd0 ?_ | refine W_regd ?_)
   refine W_j (by repeat (first | exact hg | exact args0_un (Nat.le_of_ble_eq_true rfl) | refine upd_un ?_ rfl)) ?_
   refine ⟨?_, ?_, ?_, ?_, hR1, k1', n1', d1⟩
   ·skip
    simp only [WT, reduceIte, Nat.reduceEqDiff, args0]
   ·skip
    simp only [WT, reduceIte, Nat.reduceEqDiff, args0]
   ·skip
    simp only [WT, reduceIte, Nat.reduceEqDiff, args0]
   ·rw [if_neg (fun h => hn0 h.1)]; exact hj1
 clear hj1 hR1 k1 k1' n1 n1' d1 hs1 m1
 generalize hr1 : (if n = 0 ∧ e1 = 0 then ((a1, 11) : Rd) else (a1, e1)) = r1 at hpl ⊢
 have har : r1.1 ≤ b.length := by rw [← hr1]; split <;> exact hq1.2.1
 rintro g m1 ⟨q0, q1, q4, hj1, hR1, k1, n1, d1⟩ hg
 unfold RdAt at hj1
 repeat (first
  | ((first | refine W_op rfl rfl ?_ | (refine W_opgT rfl rfl ?h ?_; case h => simp only [WG, reduceIte, Nat.reduceEqDiff]; done)); simp only [WB, execE, unE, args0, reduceIte, Nat.reduceEqDiff, Nat.reduceAdd, Nat.reduceLeDiff, q4, WO, fillX, splice, Wo_some])
  | (refine W_opgF rfl rfl ?h ?_; case h => simp only [WG, reduceIte, Nat.reduceEqDiff]; done)
  | (refine W_opgU rfl ?h ?_; case h => simp only [upd_at, reduceIte, Nat.reduceEqDiff]; done) | (refine W_callN rfl ?h ?_; case h => simp only [WG, reduceIte, Nat.reduceEqDiff]; done) | simp only [WS] | refine W_regd0 ?_ | refine W_regd ?_)
 refine W_loop (fun q g' m' => ∃ (i a : Nat) (r2 : Rd) (l2 : List Int), i ≤ n ∧ q = n - i ∧ g' 0 = .p (some (j, 0)) ∧ g' 1 = av ∧ g' 5 = .i .i64 (a : Int) ∧ g' 23 = .i .i64 (n : Int) ∧ g' 24 = .i .i64 (i : Int) ∧ m'.get j = some (.cells [bv, .i .i64 (r2.1 : Int), .i .i64 r2.2] true (3 : Nat)) ∧ RowE m' 1 ty av (some jc) l.length (ints l2) ∧ l2.length = l.length ∧ a ≤ l.length ∧ r2.1 ≤ b.length ∧ plgo b (n - i) a r2 l2 = plgo b n 0 r1 l ∧ Keep m m' [j, jc] ∧ m'.next = m.next ∧ m'.ds = []) n ?_ ?_ ?_
 ·refine ⟨0, 0, r1, l, Nat.zero_le _, rfl, ?_, ?_, ?_, ?_, ?_, hj1, hR1, rfl, Nat.zero_le _, har, rfl, k1, n1, d1⟩
  ·skip
   simp only [WT, reduceIte, Nat.reduceEqDiff, args0, q0]
  ·skip
   simp only [WT, reduceIte, Nat.reduceEqDiff, args0, q1]
  ·skip
   simp only [WT, reduceIte, Nat.reduceEqDiff, args0, Int.ofNat_zero]
   try rfl
  ·skip
   simp only [WT, reduceIte, Nat.reduceEqDiff, args0]
  ·skip
   simp only [WT, reduceIte, Nat.reduceEqDiff, args0, Int.ofNat_zero]
   try rfl
 ·intro i hi
  repeat (first | exact hg i hi | refine upd_un ?_ rfl i hi; clear i hi; intro i hi)
 ·clear q0 q1 q4 hj1 hR1 k1 n1 d1 hg g m1
  rintro q g m1 ⟨i, a, r2, l2, hi, rfl, q0, q1, q5, q23, q24, hj1, hR1, hll, hal, har2, hplg, k1, n1, d1⟩ hg
  have hlen1 := hR1.arr.lenF
  by_cases hlt : i < n
  ·have c1 : decide ((i : Int) < (n : Int)) = true := decide_eq_true (by omega)
   have hwi : IntKind.i64.wrap ((i : Int) + 1) = ((i + 1 : Nat) : Int) := wr_i64 (n := (i : Int) + 1) (by omega) (by omega)
   have hw1 : IntKind.i64.wrap ((l.length : Int) - 1) = (l.length : Int) - 1 := wr_i64 (by omega) (by omega)
   have hw2 : IntKind.i64.wrap ((l.length : Int) - 1 - (a : Int)) = (l.length : Int) - 1 - (a : Int) := wr_i64 (by omega) (by omega)
   have hmx : (if (0 : Int) > (l.length : Int) - 1 - (a : Int) then (0 : Int) else (l.length : Int) - 1 - (a : Int)) = ((l.length - 1 - a : Nat) : Int) := by split <;> omega
   obtain ⟨k, hk⟩ : ∃ k, n - i = k + 1 := ⟨n - i - 1, by omega⟩
   rw [hk] at hplg
   simp only [plgo, hll] at hplg
   have hq2 := rnum_at (b := b) (r := r2) (most := l.length - 1 - a) har2
   repeat (first
    | ((first | refine W_op rfl rfl ?_ | (refine W_opgT rfl rfl ?h ?_; case h => simp only [WG, reduceIte, Nat.reduceEqDiff]; done)); simp only [WB, execE, unE, args0, reduceIte, Nat.reduceEqDiff, Nat.reduceAdd, Nat.reduceLeDiff, q23, q24, c1, binE, isShift, intBin, WO, fillX, splice, Wo_some])
    | (refine W_opgF rfl rfl ?h ?_; case h => simp only [WG, reduceIte, Nat.reduceEqDiff]; done)
    | (refine W_opgU rfl ?h ?_; case h => simp only [upd_at, reduceIte, Nat.reduceEqDiff]; done) | (refine W_callN rfl ?h ?_; case h => simp only [WG, reduceIte, Nat.reduceEqDiff]; done) | simp only [WS] | refine W_regd0 ?_ | refine W_regd ?_)
   refine W_cond ?_
   simp only [WB, execE, unE, args0, reduceIte, Nat.reduceEqDiff, Nat.reduceAdd, Nat.reduceLeDiff, WC]
   repeat (first
    | ((first | refine W_op rfl rfl ?_ | (refine W_opgT rfl rfl ?h ?_; case h => simp only [WG, reduceIte, Nat.reduceEqDiff]; done)); simp only [WB, execE, unE, args0, reduceIte, Nat.reduceEqDiff, Nat.reduceAdd, Nat.reduceLeDiff, q0, q1, q5, ↓hlen1, hw1, hw2, maxE, hmx, binE, isShift, intBin, WO, fillX, splice, Wo_some])
    | (refine W_opgF rfl rfl ?h ?_; case h => simp only [WG, reduceIte, Nat.reduceEqDiff]; done)
    | (refine W_opgU rfl ?h ?_; case h => simp only [upd_at, reduceIte, Nat.reduceEqDiff]; done) | (refine W_callN rfl ?h ?_; case h => simp only [WG, reduceIte, Nat.reduceEqDiff]; done) | simp only [WS] | refine W_regd0 ?_ | refine W_regd ?_)
   refine W_callA rfl ?hargs (call57 hj1 (arr_off hA k1 hoff) hl har2 (most := l.length - 1 - a) (by omega)) ?_
   case hargs => simp only [WB, execE, unE, args0, reduceIte, Nat.reduceEqDiff, Nat.reduceAdd, Nat.reduceLeDiff] <;> rfl
   rintro v m2 ⟨rfl, hj2, k2, n2⟩ hs2
   unfold RdAt at hj2
   generalize hqq : rnum b r2 (l.length - 1 - a) = qq at hj2 hq2 hplg
   obtain ⟨far, a2, e2⟩ := qq
   simp only at hj2 hq2 hplg
   have k2' : Keep m m2 [j, jc] := k1.trans k2 (fun x hx => .inl (by simp [List.mem_singleton.1 hx]))
   have hR2 := hR1.keep k2 (fun x hx hm => by cases hx; exact hne (List.mem_singleton.1 hm))
   have n2' : m2.next = m.next := n2.trans n1
   have d2 : m2.ds = [] := hs2.ds.trans d1
   have hlen2 := hR2.arr.lenF
   by_cases he : e2 = 0
   case neg =>
    have c2 : (e2 == 0) = false := by simpa using he
    have c3 : (e2 != 0) = true := by simpa using he
    rw [if_pos he] at hplg
    repeat (first
     | ((first | refine W_op rfl rfl ?_ | (refine W_opgT rfl rfl ?h ?_; case h => simp only [WG, reduceIte, Nat.reduceEqDiff]; done)); simp only [WB, execE, unE, args0, reduceIte, Nat.reduceEqDiff, Nat.reduceAdd, Nat.reduceLeDiff, q0, c2, hj2, binE, isShift, intBin, WO, fillX, splice, Wo_some])
     | (refine W_opgF rfl rfl ?h ?_; case h => simp only [WG, reduceIte, Nat.reduceEqDiff]; done)
     | (refine W_opgU rfl ?h ?_; case h => simp only [upd_at, reduceIte, Nat.reduceEqDiff]; done) | (refine W_callN rfl ?h ?_; case h => simp only [WG, reduceIte, Nat.reduceEqDiff]; done) | simp only [WS] | refine W_regd0 ?_ | refine W_regd ?_)
    refine W_cond ?_
    simp only [WB, execE, unE, args0, reduceIte, Nat.reduceEqDiff, Nat.reduceAdd, Nat.reduceLeDiff, WC]
    repeat (first
     | ((first | refine W_op rfl rfl ?_ | (refine W_opgT rfl rfl ?h ?_; case h => simp only [WG, reduceIte, Nat.reduceEqDiff]; done)); simp only [WB, execE, unE, args0, reduceIte, Nat.reduceEqDiff, Nat.reduceAdd, Nat.reduceLeDiff, q0, c3, hj2, binE, isShift, intBin, WO, fillX, splice, Wo_some])
     | (refine W_opgF rfl rfl ?h ?_; case h => simp only [WG, reduceIte, Nat.reduceEqDiff]; done)
     | (refine W_opgU rfl ?h ?_; case h => simp only [upd_at, reduceIte, Nat.reduceEqDiff]; done) | (refine W_callN rfl ?h ?_; case h => simp only [WG, reduceIte, Nat.reduceEqDiff]; done) | simp only [WS] | refine W_regd0 ?_ | refine W_regd ?_)
    refine W_cond ?_
    simp only [WB, execE, unE, args0, reduceIte, Nat.reduceEqDiff, Nat.reduceAdd, Nat.reduceLeDiff, WC]
    refine W_getRet (by repeat (first | exact hg | exact args0_un (Nat.le_of_ble_eq_true rfl) | refine upd_un ?_ rfl)) ?_
    rw [hpl, ← hplg]
    exact ⟨d2, _, rfl, hj2, hR2.keep (Keep.refl _ []).out (by simp), k2'.out, n2'⟩
   have c2 : (e2 == 0) = true := by simpa using he
   rw [if_neg (by simpa using he)] at hplg
   by_cases hov : l.length ≤ a
   ·have c3 : decide ((a : Int) ≥ (l.length : Int)) = true := decide_eq_true (by omega)
    have c4 : ((11 : Int) != 0) = true := rfl
    rw [if_pos hov] at hplg
    repeat (first
     | ((first | refine W_opS rfl rfl rfl ?_ | (refine W_opgT rfl rfl ?h ?_; case h => simp only [WG, reduceIte, Nat.reduceEqDiff]; done)); simp only [WB, execE, unE, args0, reduceIte, Nat.reduceEqDiff, Nat.reduceAdd, Nat.reduceLeDiff, q0, q1, q5, c2, c3, hj2, ↓hlen2, binE, isShift, intBin, WO, fillX, splice, Wo_some])
     | (refine W_opgF rfl rfl ?h ?_; case h => simp only [WG, reduceIte, Nat.reduceEqDiff]; done)
     | (refine W_opgU rfl ?h ?_; case h => simp only [upd_at, reduceIte, Nat.reduceEqDiff]; done) | (refine W_callN rfl ?h ?_; case h => simp only [WG, reduceIte, Nat.reduceEqDiff]; done) | simp only [WS] | refine W_regd0 ?_ | refine W_regd ?_)
    refine W_cond ?_
    simp only [WB, execE, unE, args0, reduceIte, Nat.reduceEqDiff, Nat.reduceAdd, Nat.reduceLeDiff, WC]
    repeat (first
     | ((first | refine W_opS rfl rfl rfl ?_ | (refine W_opgT rfl rfl ?h ?_; case h => simp only [WG, reduceIte, Nat.reduceEqDiff]; done)); simp only [WB, execE, unE, args0, reduceIte, Nat.reduceEqDiff, Nat.reduceAdd, Nat.reduceLeDiff, q0, WO, fillX, splice, Wo_some])
     | (refine W_opgF rfl rfl ?h ?_; case h => simp only [WG, reduceIte, Nat.reduceEqDiff]; done)
     | (refine W_opgU rfl ?h ?_; case h => simp only [upd_at, reduceIte, Nat.reduceEqDiff]; done) | (refine W_callN rfl ?h ?_; case h => simp only [WG, reduceIte, Nat.reduceEqDiff]; done) | simp only [WS] | refine W_regd0 ?_ | refine W_regd ?_)
    repeat (first | simp only [WS] | refine W_regd0 ?_ | refine W_regd ?_)
    refine W_op rfl rfl ?_
    simp only [WB, execE, unE, args0, reduceIte, Nat.reduceEqDiff, Nat.reduceAdd, Nat.reduceLeDiff, q0, hj2, WO, fillX, splice, Wo_some]
    repeat (first | rw [push_no] | rw [push_yes] | rw [W_onil])
    repeat (first
     | ((first | refine W_opS rfl rfl rfl ?_ | (refine W_opgT rfl rfl ?h ?_; case h => simp only [WG, reduceIte, Nat.reduceEqDiff]; done)); simp only [WB, execE, unE, args0, reduceIte, Nat.reduceEqDiff, Nat.reduceAdd, Nat.reduceLeDiff, q0, c4, AMem.get_put, binE, isShift, intBin, WO, fillX, splice, Wo_some])
     | (refine W_opgF rfl rfl ?h ?_; case h => simp only [WG, reduceIte, Nat.reduceEqDiff]; done)
     | (refine W_opgU rfl ?h ?_; case h => simp only [upd_at, reduceIte, Nat.reduceEqDiff]; done) | (refine W_callN rfl ?h ?_; case h => simp only [WG, reduceIte, Nat.reduceEqDiff]; done) | simp only [WS] | refine W_regd0 ?_ | refine W_regd ?_)
    refine W_cond ?_
    simp only [WB, execE, unE, args0, reduceIte, Nat.reduceEqDiff, Nat.reduceAdd, Nat.reduceLeDiff, WC]
    refine W_getRet (by repeat (first | exact hg | exact args0_un (Nat.le_of_ble_eq_true rfl) | refine upd_un ?_ rfl)) ?_
    rw [hpl, ← hplg]
    refine ⟨d2, _, rfl, ?_, ?_, ?_, n2'⟩
    ·simp only [RdAt, AMem.get_out, AMem.get_put, reduceIte]
    ·exact (hR2.keep (Keep.put _ _ _) (fun x hx hm => by cases hx; exact hne (List.mem_singleton.1 hm))).keep (Keep.refl _ []).out (by simp)
    ·exact (k2'.trans (Keep.put _ _ _) (fun x hx => .inl (by simp [List.mem_singleton.1 hx]))).out
   have c3 : decide ((a : Int) ≥ (l.length : Int)) = false := decide_eq_false (by omega)
   have c4 : (e2 != 0) = false := by simpa using he
   rw [if_neg hov] at hplg
   have hfar : a + far < l.length := by omega
   have hwf : IntKind.i64.wrap ((a : Int) + (far : Int)) = ((a + far : Nat) : Int) := by rw [wr_i64 (by omega) (by omega)]; omega
   have hwf1 : IntKind.i64.wrap (((a + far : Nat) : Int) + 1) = ((a + far + 1 : Nat) : Int) := wr_i64 (n := ((a + far : Nat) : Int) + 1) (by omega) (by omega)
   obtain ⟨c, cap, ex, rfl, hgc, hic, hcv, hset⟩ := hR2.set1 hfar
   obtain ⟨x, hx⟩ : ∃ x, l2[a + far]? = some x := ⟨_, List.getElem?_eq_getElem (by omega)⟩
   have hcx : c[a + far]? = some (.i .i64 x) := hcv.trans (ints_get hx)
   have hgd : l2.getD (a + far) 0 = x := by rw [List.getD_eq_getElem?_getD, hx]; rfl
   rw [hgd] at hplg
   have hix : (0 ≤ ((a + far : Nat) : Int) ∧ ((a + far : Nat) : Int) < (l.length : Int)) := ⟨by omega, by omega⟩
   repeat (first
    | ((first | refine W_op rfl rfl ?_ | (refine W_opgT rfl rfl ?h ?_; case h => simp only [WG, reduceIte, Nat.reduceEqDiff]; done)); simp only [WB, execE, unE, args0, reduceIte, Nat.reduceEqDiff, Nat.reduceAdd, Nat.reduceLeDiff, q0, q1, q5, c2, c3, hj2, ↓hlen2, binE, isShift, intBin, WO, fillX, splice, Wo_some])
    | (refine W_opgF rfl rfl ?h ?_; case h => simp only [WG, reduceIte, Nat.reduceEqDiff]; done)
    | (refine W_opgU rfl ?h ?_; case h => simp only [upd_at, reduceIte, Nat.reduceEqDiff]; done) | (refine W_callN rfl ?h ?_; case h => simp only [WG, reduceIte, Nat.reduceEqDiff]; done) | simp only [WS] | refine W_regd0 ?_ | refine W_regd ?_)
   refine W_cond ?_
   simp only [WB, execE, unE, args0, reduceIte, Nat.reduceEqDiff, Nat.reduceAdd, Nat.reduceLeDiff, WC]
   repeat (first
    | ((first | refine W_op rfl rfl ?_ | (refine W_opgT rfl rfl ?h ?_; case h => simp only [WG, reduceIte, Nat.reduceEqDiff]; done)); simp only [WB, execE, unE, args0, reduceIte, Nat.reduceEqDiff, Nat.reduceAdd, Nat.reduceLeDiff, q0, c4, hj2, binE, isShift, intBin, WO, fillX, splice, Wo_some])
    | (refine W_opgF rfl rfl ?h ?_; case h => simp only [WG, reduceIte, Nat.reduceEqDiff]; done)
    | (refine W_opgU rfl ?h ?_; case h => simp only [upd_at, reduceIte, Nat.reduceEqDiff]; done) | (refine W_callN rfl ?h ?_; case h => simp only [WG, reduceIte, Nat.reduceEqDiff]; done) | simp only [WS] | refine W_regd0 ?_ | refine W_regd ?_)
   refine W_cond ?_
   simp only [WB, execE, unE, args0, reduceIte, Nat.reduceEqDiff, Nat.reduceAdd, Nat.reduceLeDiff, WC]
   repeat (first
    | ((first | refine W_op rfl rfl ?_ | (refine W_opgT rfl rfl ?h ?_; case h => simp only [WG, reduceIte, Nat.reduceEqDiff]; done)); simp only [WB, execE, unE, args0, reduceIte, Nat.reduceEqDiff, Nat.reduceAdd, Nat.reduceLeDiff, q0, q1, q5, hwf, hix, Int.toNat_natCast, Nat.mul_one, hgc, hcx, binE, isShift, intBin, WO, fillX, splice, Wo_some])
    | (refine W_opgF rfl rfl ?h ?_; case h => simp only [WG, reduceIte, Nat.reduceEqDiff]; done)
    | (refine W_opgU rfl ?h ?_; case h => simp only [upd_at, reduceIte, Nat.reduceEqDiff]; done) | (refine W_callN rfl ?h ?_; case h => simp only [WG, reduceIte, Nat.reduceEqDiff]; done) | simp only [WS] | refine W_regd0 ?_ | refine W_regd ?_)
   refine W_callA rfl ?hargs (call58 (r := (a2, e2)) hj2 (arr_off hA k2' hoff) hl hq2.2.1 x) ?_
   case hargs => simp only [WB, execE, unE, args0, reduceIte, Nat.reduceEqDiff, Nat.reduceAdd, Nat.reduceLeDiff] <;> rfl
   rintro v m3 ⟨rfl, hj3, k3, n3⟩ hs3
   unfold RdAt at hj3
   have hm3 := rmore_at (b := b) (r := (a2, e2)) (w := x) hq2.2.1
   generalize hpp : rmore b (a2, e2) x = pp at hj3 hm3 hplg
   obtain ⟨y, r4⟩ := pp
   simp only at hj3 hm3 hplg
   have k3' : Keep m m3 [j, jc] := k2'.trans k3 (fun x hx => .inl (by simp [List.mem_singleton.1 hx]))
   have hR3 := hR2.keep k3 (fun x hx hm => by cases hx; exact hne (List.mem_singleton.1 hm))
   obtain ⟨c5, _, _, _, hgc5, hic5, _, hset5⟩ := hR3.set1 hfar
   have hj4 : (m3.put jc (some (.cells (c5.set (a + far) (.i .i64 y)) true ⟨1, ty⟩))).get j = some (.cells [bv, .i .i64 (r4.1 : Int), .i .i64 r4.2] true (3 : Nat)) := by
    rw [AMem.get_put, if_neg hne]; exact hj3
   have hR5 := hset5 (.i .i64 y)
   rw [ints_set] at hR5
   repeat (first
    | ((first | refine W_opS rfl rfl rfl ?_ | (refine W_opgT rfl rfl ?h ?_; case h => simp only [WG, reduceIte, Nat.reduceEqDiff]; done)); simp only [WB, execE, unE, args0, reduceIte, Nat.reduceEqDiff, Nat.reduceAdd, Nat.reduceLeDiff, q1, hix, Int.toNat_natCast, Nat.mul_one, WO, fillX, splice, Wo_some])
    | (refine W_opgF rfl rfl ?h ?_; case h => simp only [WG, reduceIte, Nat.reduceEqDiff]; done)
    | (refine W_opgU rfl ?h ?_; case h => simp only [upd_at, reduceIte, Nat.reduceEqDiff]; done) | (refine W_callN rfl ?h ?_; case h => simp only [WG, reduceIte, Nat.reduceEqDiff]; done) | simp only [WS] | refine W_regd0 ?_ | refine W_regd ?_)
   refine W_set1 (j := jc) (p := a + far) (c := c5) (v := .i .i64 y) ?hpa ?hpx rfl hgc5 hic5 ?_
   case hpa =>
    simp only [WB, execE, unE, args0, reduceIte, Nat.reduceEqDiff, Nat.reduceAdd, Nat.reduceLeDiff]
   case hpx =>
    simp only [WB, execE, unE, args0, reduceIte, Nat.reduceEqDiff, Nat.reduceAdd, Nat.reduceLeDiff]
   repeat (first
    | ((first | refine W_op rfl rfl ?_ | (refine W_opgT rfl rfl ?h ?_; case h => simp only [WG, reduceIte, Nat.reduceEqDiff]; done)); simp only [WB, execE, unE, args0, reduceIte, Nat.reduceEqDiff, Nat.reduceAdd, Nat.reduceLeDiff, q24, hwi, hwf1, binE, isShift, intBin, WO, fillX, splice, Wo_some])
    | (refine W_opgF rfl rfl ?h ?_; case h => simp only [WG, reduceIte, Nat.reduceEqDiff]; done)
    | (refine W_opgU rfl ?h ?_; case h => simp only [upd_at, reduceIte, Nat.reduceEqDiff]; done) | (refine W_callN rfl ?h ?_; case h => simp only [WG, reduceIte, Nat.reduceEqDiff]; done) | simp only [WS] | refine W_regd0 ?_ | refine W_regd ?_)
   refine W_j (by repeat (first | exact hg | exact args0_un (Nat.le_of_ble_eq_true rfl) | refine upd_un ?_ rfl)) ?_
   refine ⟨n - (i + 1), by omega, i + 1, a + far + 1, r4, l2.set (a + far) y, by omega, rfl, ?_, ?_, ?_, ?_, ?_, hj4, hR5, by rw [List.length_set]; exact hll, by omega, hm3.2, ?_, ?_, n3.trans n2', hs3.ds.trans d2⟩
   ·skip
    simp only [WT, reduceIte, Nat.reduceEqDiff, args0, q0]
   ·skip
    simp only [WT, reduceIte, Nat.reduceEqDiff, args0, q1]
   ·skip
    simp only [WT, reduceIte, Nat.reduceEqDiff, args0]
   ·skip
    simp only [WT, reduceIte, Nat.reduceEqDiff, args0, q23]
   ·skip
    simp only [WT, reduceIte, Nat.reduceEqDiff, args0]
   ·rw [show n - (i + 1) = k by omega]; exact hplg
   ·exact k3'.trans (Keep.put _ _ _) (fun x hx => .inl (by simp [List.mem_singleton.1 hx]))
  ·have c1 : decide ((i : Int) < (n : Int)) = false := decide_eq_false (by omega)
   rw [show n - i = 0 by omega] at hplg
   simp only [plgo] at hplg
   repeat (first
    | ((first | refine W_op rfl rfl ?_ | (refine W_opgT rfl rfl ?h ?_; case h => simp only [WG, reduceIte, Nat.reduceEqDiff]; done)); simp only [WB, execE, unE, args0, reduceIte, Nat.reduceEqDiff, Nat.reduceAdd, Nat.reduceLeDiff, q23, q24, c1, binE, isShift, intBin, WO, fillX, splice, Wo_some])
    | (refine W_opgF rfl rfl ?h ?_; case h => simp only [WG, reduceIte, Nat.reduceEqDiff]; done)
    | (refine W_opgU rfl ?h ?_; case h => simp only [upd_at, reduceIte, Nat.reduceEqDiff]; done) | (refine W_callN rfl ?h ?_; case h => simp only [WG, reduceIte, Nat.reduceEqDiff]; done) | simp only [WS] | refine W_regd0 ?_ | refine W_regd ?_)
   refine W_cond ?_
   simp only [WB, execE, unE, args0, reduceIte, Nat.reduceEqDiff, Nat.reduceAdd, Nat.reduceLeDiff, WC]
   refine W_exit rfl ?_
   repeat (first
    | ((first | refine W_op rfl rfl ?_ | (refine W_opgT rfl rfl ?h ?_; case h => simp only [WG, reduceIte, Nat.reduceEqDiff]; done)); simp only [WB, execE, unE, args0, reduceIte, Nat.reduceEqDiff, Nat.reduceAdd, Nat.reduceLeDiff, WO, fillX, splice, Wo_some])
    | (refine W_opgF rfl rfl ?h ?_; case h => simp only [WG, reduceIte, Nat.reduceEqDiff]; done)
    | (refine W_opgU rfl ?h ?_; case h => simp only [upd_at, reduceIte, Nat.reduceEqDiff]; done) | (refine W_callN rfl ?h ?_; case h => simp only [WG, reduceIte, Nat.reduceEqDiff]; done) | simp only [WS] | refine W_regd0 ?_ | refine W_regd ?_)
   all_goals refine W_nil (by repeat (first | exact hg | exact args0_un (Nat.le_of_ble_eq_true rfl) | refine upd_un ?_ rfl)) ?_
   rw [hpl, ← hplg]
   exact ⟨d1, _, rfl, hj1, hR1.keep (Keep.refl _ []).out (by simp), k1.out, n1⟩
end Go.Proofs.YtfbglgmhhmeoeaaGreatDoor
