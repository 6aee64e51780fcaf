/- What a state means, in words: what happened. No condition. -/
import Derived.Test.YtdmoecehmclohaaGreatDoorSlSY
import Derived.Test.YtdmoecehmclohaaGreatDoorSlViNode
namespace Go.Proofs.YtdmoecehmclohaaGreatDoor
open Go.Vi
set_option linter.unusedSimpArgs false
set_option linter.unusedVariables false
theorem ba_extract (l : List UInt8) (i j : Nat) : (⟨l.toArray⟩ : ByteArray).extract i j = ⟨((l.drop i).take (j - i)).toArray⟩ := by
  apply ByteArray.ext
  apply Array.toList_inj.1
  rw [ByteArray.data_extract]
  simp [List.extract_eq_drop_take']
theorem call60 {m : AMem} (a : List UInt8) (c : UInt8) (ha : a.length ≤ 1000) : Vi.Call T 60 [.s ⟨(a ++ [c]).toArray⟩, .s ⟨[32].toArray⟩] m (fun v m' => v = .b (decide (c = 32)) ∧ m' = m) := by
  refine Vi.Call.ofP T60 (Nat.le_of_ble_eq_true rfl) ?_
  unfold v60
  obtain ⟨L, hL⟩ : ∃ L, L = a ++ [c] := ⟨_, rfl⟩
  have hl : L.length = a.length + 1 := by rw [hL]; simp
  rw [← hL]
  have c1 : decide ((L.length : Int) ≥ ((1 : Nat) : Int)) = true := decide_eq_true (by omega)
  have hw : IntKind.i64.wrap ((L.length : Int) - ((1 : Nat) : Int)) = (a.length : Int) := by
    rw [wr_i64 (by omega) (by omega)]; omega
  have hsl : ∀ (g : Nat → AV) (x y : X) (mm : AMem), X.at g x = .s ⟨L.toArray⟩ → X.at g y = .i .i64 (a.length : Int) → execE (.sls x (some y) none) (X.at g) mm = some (.s ⟨[c].toArray⟩, mm) := by
    intro g x y mm hx hy
    have hb : boundsX (X.at g) L.length L.length (some y) none none = some (a.length, L.length, L.length) := by
      simp only [boundsX, hy, boundE, Option.isSome_none, Bool.false_eq_true, if_false]
      rw [if_pos ⟨by omega, by omega⟩]
      simp
    simp only [execE, hx, str_size, hb, ba_extract]
    rw [hL, List.drop_left, List.take_of_length_le (by simp)]
  have he : strBin .eql ⟨[c].toArray⟩ ⟨[32].toArray⟩ = some (.b (decide (c = 32))) := by
    rw [eqS]; simp
  repeat (first
    | ((first | refine W_op rfl rfl ?_ | (refine W_opgT rfl rfl ?hg ?_; (case hg => (simp only [WG, reduceIte, Nat.reduceEqDiff]; done)))); simp only [WB, execE, unE, args0, reduceIte, Nat.reduceEqDiff, Nat.reduceAdd, Nat.reduceLeDiff, str_size, c1, hw, ↓hsl, he, binE, isShift, intBin, WO, fillX, splice, Wo_some])
    | (refine W_opgF rfl rfl ?hg ?_; (case hg => (simp only [WG, reduceIte, Nat.reduceEqDiff]; done)))
    | (refine W_opgU rfl ?hg ?_; (case hg => (simp only [upd_at, reduceIte, Nat.reduceEqDiff]; done))) | (refine W_callN rfl ?hg ?_; (case hg => (simp only [WG, reduceIte, Nat.reduceEqDiff]; done))) | rw [W_seq] | rw [W_reg] | rw [push_no] | rw [push_yes] | rw [W_onil] | rw [W_skip] | rw [W_blk] | rw [W_b] | refine W_regd0 ?_ | refine W_regd ?_)
  refine W_getRet (by repeat (first | exact hg | exact args0_un (Nat.le_of_ble_eq_true rfl) | refine upd_un ?_ rfl)) ?_
  exact ⟨rfl, _, rfl, rfl, rfl⟩
theorem call37 {m : AMem} (a : List UInt8) (c : UInt8) (ha : a.length ≤ 1000) : Vi.Call T 37 [.s ⟨(a ++ [c]).toArray⟩, .s ⟨[32].toArray⟩] m (fun v m' => v = .b (decide (c = 32)) ∧ m' = m) := by
  refine Vi.Call.ofP T37 (Nat.le_of_ble_eq_true rfl) ?_
  unfold v37
  repeat (first
    | ((first | refine W_op rfl rfl ?_ | (refine W_opgT rfl rfl ?hg ?_; (case hg => (simp only [WG, reduceIte, Nat.reduceEqDiff]; done)))); simp only [WB, execE, unE, args0, reduceIte, Nat.reduceEqDiff, Nat.reduceAdd, Nat.reduceLeDiff, Wo_some])
    | (refine W_opgF rfl rfl ?hg ?_; (case hg => (simp only [WG, reduceIte, Nat.reduceEqDiff]; done)))
    | rw [W_seq] | rw [W_reg] | rw [push_no] | rw [W_onil] | rw [W_skip] | rw [W_blk] | rw [W_b] | refine W_regd0 ?_)
  refine W_callR rfl (call60 a c ha) ?_
  rintro v m1 ⟨rfl, rfl⟩ hs1
  repeat (first
    | ((first | refine W_op rfl rfl ?_ | (refine W_opgT rfl rfl ?hg ?_; (case hg => (simp only [WG, reduceIte, Nat.reduceEqDiff]; done)))); simp only [WB, execE, unE, args0, reduceIte, Nat.reduceEqDiff, Nat.reduceAdd, Nat.reduceLeDiff, Wo_some])
    | (refine W_opgF rfl rfl ?hg ?_; (case hg => (simp only [WG, reduceIte, Nat.reduceEqDiff]; done)))
    | rw [W_seq] | rw [W_reg] | rw [push_no] | rw [W_onil] | rw [W_skip] | rw [W_blk] | rw [W_b] | refine W_regd0 ?_)
  refine W_getRet (by repeat (first | exact hg | exact args0_un (Nat.le_of_ble_eq_true rfl) | refine upd_un ?_ rfl)) ?_
  exact ⟨rfl, _, rfl, rfl, rfl⟩
def phrT (nk num kd ph pos st og : Int) : List UInt8 :=
  if kd = 1 then [97, 110, 32, 97, 116, 116, 101, 109, 112, 116, 32, 97, 116, 32] ++ digI pos else if kd = 2 then [116, 97, 107, 101, 115, 32, 117, 112, 32, 116, 111, 32] ++ digI pos else if kd = 3 then (if ph = 3 then missT nk ph num else missT nk ph num ++ digI pos) else if kd = 4 then [104, 111, 108, 100, 115, 32, 97, 116, 32] ++ digI pos
  else if kd = 5 then [110, 101, 101, 100, 115, 32, 97, 32, 116, 117, 114, 110, 32, 97, 116, 32] ++ digI pos else if kd = 6 then [102, 105, 114, 115, 116, 32] ++ wayT nk ph else if kd = 7 then [98, 97, 99, 107, 32, 116, 111, 32, 35] ++ digI og ++ [44, 32, 116, 104, 101, 110, 32] ++ wayT nk ph else if kd = 8 then [103, 114, 111, 117, 112, 32] ++ digI num ++ [32, 111, 112, 101, 110, 115, 32, 97, 116, 32] ++ digI pos
  else if kd = 9 then [103, 114, 111, 117, 112, 32] ++ digI num ++ [32, 99, 108, 111, 115, 101, 115, 32, 97, 116, 32] ++ digI pos else if kd = 10 then [103, 111, 101, 115, 32, 105, 110, 32, 97, 116, 32] ++ digI pos else if kd = 11 then endsT [99, 111, 109, 101, 115, 32, 111, 117, 116] ph else if kd = 12 then endsT [105, 115, 32, 103, 105, 118, 101, 110, 32, 117, 112] ph else if kd = 13 then [109, 97, 116, 99, 104, 101, 115, 32] ++ digI st ++ [32, 116, 111, 32] ++ digI pos else if kd = 14 then [110, 111, 32, 109, 97, 116, 99, 104] else []
theorem wayT_len {nk ph : Int} (h0 : 0 ≤ ph) (h1 : ph ≤ 100000) : (wayT nk ph).length ≤ 40 := by
  have ha := digI_len (x := ph + 1) ⟨by omega, by omega⟩
  have hb := digI_len (x := ph - 1) ⟨by omega, by omega⟩
  unfold wayT
  split
  · simp only [List.length_append, List.length_cons, List.length_nil]; omega
  · split
    · split <;> simp
    · simp only [List.length_append, List.length_cons, List.length_nil]; omega
theorem missT_end {nk ph num : Int} (hn : InI64 num) : ∃ a c, missT nk ph num = a ++ [c] ∧ a.length ≤ 60 ∧ (c = 32 ↔ ph ≠ 3) := by
  have hd := digI_len hn
  unfold missT
  split
  · rename_i h
    exact ⟨[116, 104, 101, 32, 116, 117, 114, 110, 32, 116, 111, 111, 107, 32, 110, 111, 116, 104, 105, 110], 103, rfl, by simp, by simp [h]⟩
  · rename_i h
    split
    · exact ⟨[102, 97, 105, 108, 115, 32, 116, 111, 32, 98, 101, 32, 115, 111, 32, 102, 97, 114, 32, 98, 97, 99, 107, 32, 97, 116], 32, rfl, by simp, by simp [h]⟩
    · split
      · exact ⟨[103, 114, 111, 117, 112, 32] ++ digI num ++ [32, 102, 97, 105, 108, 115, 32, 97, 116], 32, by simp, by simp only [List.length_append, List.length_cons, List.length_nil]; omega, by simp [h]⟩
      · exact ⟨[102, 97, 105, 108, 115, 32, 97, 116], 32, rfl, by simp, by simp [h]⟩
set_option maxHeartbeats 8000000 in
theorem call17 {m : AMem} (hP : P10 m) {k fr to num kd nd ph pos st dp og : Int} {x : Nat → AV} {cp : AV} (hx : ∀ i, (x i).one = true) (hc : cp.one = true) (hn : InI64 num) (hkd : 1 ≤ kd ∧ kd ≤ 14) (hp0 : 0 ≤ ph) (hp1 : ph ≤ 100000) (hpos : InI64 pos) (hst : InI64 st) (hog : InI64 og) :
    Vi.Call T 17 [.agg (nodeC k fr to num x), .agg (stC kd nd ph pos st dp og cp)] m (fun v m' => v = .s ⟨(phrT k num kd ph pos st og).toArray⟩ ∧ Keep m m' []) := by
  refine Vi.Call.ofP T17 (Nat.le_of_ble_eq_true rfl) ?_
  unfold v17 nodeC stC
  repeat (first | rw [W_seq] | rw [W_reg] | rw [push_no] | rw [push_yes] | rw [W_onil] | rw [W_skip] | rw [W_blk] | rw [W_b] | refine W_regd0 ?_ | refine W_regd ?_)
  refine W_op rfl rfl ?_
  simp only [WB, execE, unE, args0, reduceIte, Nat.reduceEqDiff, Nat.reduceAdd, Nat.reduceLeDiff, hx, WO, fillX, splice, Wo_some]
  repeat (first | rw [push_no] | rw [push_yes] | rw [W_onil])
  obtain ⟨mA, hmA, kA, bA, gA, dA, _, nA⟩ := mk_new m.inn [.i .i64 k, .i .i64 fr, .i .i64 to, .i .i64 num, x 0, x 1, x 2, x 3, x 4, x 5] true (10 : Nat) 10 rfl
  have kA' : Keep m mA [] := kA.ofInn
  have nA' : m.next < mA.next := nA
  have gA' : mA.get m.next = some (.cells [.i .i64 k, .i .i64 fr, .i .i64 to, .i .i64 num, x 0, x 1, x 2, x 3, x 4, x 5] true (10 : Nat)) := gA
  rw [← hmA]
  clear hmA
  repeat (first | rw [W_seq] | rw [W_reg] | rw [push_no] | rw [push_yes] | rw [W_onil] | rw [W_skip] | rw [W_blk] | rw [W_b] | refine W_regd0 ?_ | refine W_regd ?_)
  refine W_op rfl rfl ?_
  simp only [WB, execE, unE, args0, reduceIte, Nat.reduceEqDiff, Nat.reduceAdd, Nat.reduceLeDiff, hc, WO, fillX, splice, Wo_some]
  repeat (first | rw [push_no] | rw [push_yes] | rw [W_onil])
  obtain ⟨mB, hmB, kB, bB, gB, dB, _, nB⟩ := mk_new mA [.i .i64 kd, .i .i64 nd, .i .i64 ph, .i .i64 pos, .i .i64 st, .i .i64 dp, .i .i64 og, cp] true (8 : Nat) 8 rfl
  rw [← hmB]
  clear hmB
  have g0 := kB.at nA' (by simp) gA'
  have kB' : Keep m mB [] := kA'.trans kB (by simp)
  have nB' : m.next < mB.next := Nat.lt_of_lt_of_le nA' kB.next
  repeat (first
    | ((first | refine W_op rfl rfl ?_ | (refine W_opgT rfl rfl ?hg ?_; (case hg => (simp only [WG, reduceIte, Nat.reduceEqDiff]; done)))); simp only [WB, execE, unE, args0, reduceIte, Nat.reduceEqDiff, Nat.reduceAdd, Nat.reduceLeDiff, gB, WO, fillX, splice, Wo_some])
    | (refine W_opgF rfl rfl ?hg ?_; (case hg => (simp only [WG, reduceIte, Nat.reduceEqDiff]; done)))
    | (refine W_opgU rfl ?hg ?_; (case hg => (simp only [upd_at, reduceIte, Nat.reduceEqDiff]; done))) | (refine W_callN rfl ?hg ?_; (case hg => (simp only [WG, reduceIte, Nat.reduceEqDiff]; done))) | rw [W_seq] | rw [W_reg] | rw [push_no] | rw [push_yes] | rw [W_onil] | rw [W_skip] | rw [W_blk] | rw [W_b] | refine W_regd0 ?_ | refine W_regd ?_)
  refine W_callA rfl ?hargs (call14 (hP.keep kB' (by simp)) hpos.1 hpos.2) ?_
  case hargs => simp only [WB, execE, unE, args0, reduceIte, Nat.reduceEqDiff, Nat.reduceAdd, Nat.reduceLeDiff] <;> rfl
  rintro v m1 ⟨rfl, k1⟩ hs1
  have g1 := k1.at nB' (by simp) g0
  have h1 := k1.at nB (by simp) gB
  have kk1 : Keep m m1 [] := kB'.trans k1 (by simp)
  have d1 : m1.ds = [] := hs1.ds.trans (dB.trans dA)
  have n1 : m.next < m1.next := Nat.lt_of_lt_of_le nB' k1.next
  have n1' : mA.next < m1.next := Nat.lt_of_lt_of_le nB k1.next
  have b1 : rd m1 m.next 0 10 = some (nodeC k fr to num x) := by simp [rd, g1, nodeC]
  have c1 : rd m1 mA.next 0 8 = some (stC kd nd ph pos st dp og cp) := by simp [rd, h1, stC]
  have hP1 := hP.keep kk1 (by simp)
  have i1 : Sm (digI pos) 21 := sm_digI hpos
  have i2 : Sm (digI num) 21 := sm_digI hn
  have i3 : Sm (digI st) 21 := sm_digI hst
  have i4 : Sm (digI og) 21 := sm_digI hog
  have i5 : Sm (wayT k ph) 40 := ⟨wayT_len hp0 hp1⟩
  have hk' : kd = 1 ∨ kd = 2 ∨ kd = 4 ∨ kd = 5 ∨ kd = 10 ∨ kd = 14 ∨ kd = 3 ∨ kd = 6 ∨ kd = 7 ∨ kd = 8 ∨ kd = 9 ∨ kd = 11 ∨ kd = 12 ∨ kd = 13 := by omega
  clear hkd
  rcases hk' with rfl | rfl | rfl | rfl | rfl | rfl | hk'
  iterate 6
    · skip
      repeat' (first
        | ((first | refine W_op rfl rfl ?_ | (refine W_opgT rfl rfl ?hg ?_; (case hg => (simp only [WG, reduceIte, Nat.reduceEqDiff]; done)))); simp only [WB, execE, unE, args0, reduceIte, Nat.reduceEqDiff, Nat.reduceAdd, Nat.reduceLeDiff, h1, binE, isShift, intBin, Int.reduceBEq, strcatI, Nat.reduceAdd, Nat.reduceLeDiff, WO, fillX, splice, Wo_some])
        | (refine W_opgF rfl rfl ?hg ?_; (case hg => (simp only [WG, reduceIte, Nat.reduceEqDiff]; done)))
        | (refine W_opgU rfl ?hg ?_; (case hg => (simp only [WG, reduceIte, Nat.reduceEqDiff]; done)))
        | rw [W_seq] | rw [W_reg] | rw [push_no] | rw [push_yes] | rw [W_onil] | rw [W_skip] | rw [W_blk] | rw [W_b] | refine W_regd0 ?_ | refine W_regd ?_
        | (refine W_callN rfl ?hg ?_; (case hg => (simp only [WG, reduceIte, Nat.reduceEqDiff]; done)))
        | refine W_exit rfl ?_
        | (refine W_opgST rfl rfl ?hg ?_ ?_; (case hg => (simp only [WB, execE, unE, args0, reduceIte, Nat.reduceEqDiff, Nat.reduceAdd, Nat.reduceLeDiff, h1, binE, isShift, intBin, Int.reduceBEq, strcatI, Nat.reduceAdd, Nat.reduceLeDiff, WO, fillX, splice, toB_b]; done)); (all_goals (intro hc; simp only [WB, execE, unE, args0, reduceIte, Nat.reduceEqDiff, Nat.reduceAdd, Nat.reduceLeDiff, h1, binE, isShift, intBin, Int.reduceBEq, strcatI, Nat.reduceAdd, Nat.reduceLeDiff, WO, fillX, splice, toB_b] at hc; simp only [hc, WB, execE, unE, args0, reduceIte, Nat.reduceEqDiff, Nat.reduceAdd, Nat.reduceLeDiff, h1, binE, isShift, intBin, Int.reduceBEq, strcatI, Nat.reduceAdd, Nat.reduceLeDiff, WO, fillX, splice, Wo_some])))
        | (refine W_opgSF rfl rfl ?hg ?_ ?_; (case hg => (simp only [WB, execE, unE, args0, reduceIte, Nat.reduceEqDiff, Nat.reduceAdd, Nat.reduceLeDiff, h1, binE, isShift, intBin, Int.reduceBEq, strcatI, Nat.reduceAdd, Nat.reduceLeDiff, WO, fillX, splice, toB_b]; done)); (all_goals (intro hc; simp only [WB, execE, unE, args0, reduceIte, Nat.reduceEqDiff, Nat.reduceAdd, Nat.reduceLeDiff, h1, binE, isShift, intBin, Int.reduceBEq, strcatI, Nat.reduceAdd, Nat.reduceLeDiff, WO, fillX, splice, toB_b] at hc; simp only [hc, WB, execE, unE, args0, reduceIte, Nat.reduceEqDiff, Nat.reduceAdd, Nat.reduceLeDiff, h1, binE, isShift, intBin, Int.reduceBEq, strcatI, Nat.reduceAdd, Nat.reduceLeDiff, WO, fillX, splice, Wo_some])))
        | (refine W_cond ?_; simp only [WB, execE, unE, args0, reduceIte, Nat.reduceEqDiff, Nat.reduceAdd, Nat.reduceLeDiff, h1, binE, isShift, intBin, Int.reduceBEq, strcatI, Nat.reduceAdd, Nat.reduceLeDiff, WO, fillX, splice, WC]; first | (refine WC_split (fun hc => ?_) (fun hc => ?_) <;> (try simp only [hc])) | skip)
        )
      refine W_getRet (by repeat (first | exact hg | exact args0_un (Nat.le_of_ble_eq_true rfl) | refine upd_un ?_ rfl)) ?_
      exact ⟨d1, _, rfl, rfl, kk1.out⟩
  rcases hk' with rfl | hk'
  · skip
    repeat' (first
      | ((first | refine W_op rfl rfl ?_ | (refine W_opgT rfl rfl ?hg ?_; (case hg => (simp only [WG, reduceIte, Nat.reduceEqDiff]; done)))); simp only [WB, execE, unE, args0, reduceIte, Nat.reduceEqDiff, Nat.reduceAdd, Nat.reduceLeDiff, h1, b1, c1, binE, isShift, intBin, Int.reduceBEq, WO, fillX, splice, Wo_some])
      | (refine W_opgF rfl rfl ?hg ?_; (case hg => (simp only [WG, reduceIte, Nat.reduceEqDiff]; done)))
      | (refine W_opgU rfl ?hg ?_; (case hg => (simp only [WG, reduceIte, Nat.reduceEqDiff]; done)))
      | rw [W_seq] | rw [W_reg] | rw [push_no] | rw [push_yes] | rw [W_onil] | rw [W_skip] | rw [W_blk] | rw [W_b] | refine W_regd0 ?_ | refine W_regd ?_
      | (refine W_callN rfl ?hg ?_; (case hg => (simp only [WG, reduceIte, Nat.reduceEqDiff]; done)))
      | refine W_exit rfl ?_
      | (refine W_opgST rfl rfl ?hg ?_ ?_; (case hg => (simp only [WB, execE, unE, args0, reduceIte, Nat.reduceEqDiff, Nat.reduceAdd, Nat.reduceLeDiff, h1, b1, c1, binE, isShift, intBin, Int.reduceBEq, WO, fillX, splice, toB_b]; done)); (all_goals (intro hc; simp only [WB, execE, unE, args0, reduceIte, Nat.reduceEqDiff, Nat.reduceAdd, Nat.reduceLeDiff, h1, b1, c1, binE, isShift, intBin, Int.reduceBEq, WO, fillX, splice, toB_b] at hc; simp only [hc, WB, execE, unE, args0, reduceIte, Nat.reduceEqDiff, Nat.reduceAdd, Nat.reduceLeDiff, h1, b1, c1, binE, isShift, intBin, Int.reduceBEq, WO, fillX, splice, Wo_some])))
      | (refine W_opgSF rfl rfl ?hg ?_ ?_; (case hg => (simp only [WB, execE, unE, args0, reduceIte, Nat.reduceEqDiff, Nat.reduceAdd, Nat.reduceLeDiff, h1, b1, c1, binE, isShift, intBin, Int.reduceBEq, WO, fillX, splice, toB_b]; done)); (all_goals (intro hc; simp only [WB, execE, unE, args0, reduceIte, Nat.reduceEqDiff, Nat.reduceAdd, Nat.reduceLeDiff, h1, b1, c1, binE, isShift, intBin, Int.reduceBEq, WO, fillX, splice, toB_b] at hc; simp only [hc, WB, execE, unE, args0, reduceIte, Nat.reduceEqDiff, Nat.reduceAdd, Nat.reduceLeDiff, h1, b1, c1, binE, isShift, intBin, Int.reduceBEq, WO, fillX, splice, Wo_some])))
      | (refine W_cond ?_; simp only [WB, execE, unE, args0, reduceIte, Nat.reduceEqDiff, Nat.reduceAdd, Nat.reduceLeDiff, h1, b1, c1, binE, isShift, intBin, Int.reduceBEq, WO, fillX, splice, WC]; first | (refine WC_split (fun hc => ?_) (fun hc => ?_) <;> (try simp only [hc])) | skip)
      )
    refine W_callA rfl ?hargs (call36 (k := k) (fr := fr) (to := to) (num := num) (kd := 3) (nd := nd) (ph := ph) (pos := pos) (st := st) (dp := dp) (og := og) (x := x) (cp := cp) hP1 hx hc hn) ?_
    case hargs => simp only [WB, execE, unE, args0, reduceIte, Nat.reduceEqDiff, Nat.reduceAdd, Nat.reduceLeDiff] <;> rfl
    rintro v m2 ⟨rfl, k2⟩ hs2
    obtain ⟨a, c, hac, hal, hc3⟩ := missT_end (nk := k) (ph := ph) hn
    rw [hac]
    repeat (first
      | ((first | refine W_op rfl rfl ?_ | (refine W_opgT rfl rfl ?hg ?_; (case hg => (simp only [WG, reduceIte, Nat.reduceEqDiff]; done)))); simp only [WB, execE, unE, args0, reduceIte, Nat.reduceEqDiff, Nat.reduceAdd, Nat.reduceLeDiff, WO, fillX, splice, Wo_some])
      | (refine W_opgF rfl rfl ?hg ?_; (case hg => (simp only [WG, reduceIte, Nat.reduceEqDiff]; done)))
      | (refine W_opgU rfl ?hg ?_; (case hg => (simp only [upd_at, reduceIte, Nat.reduceEqDiff]; done))) | (refine W_callN rfl ?hg ?_; (case hg => (simp only [WG, reduceIte, Nat.reduceEqDiff]; done))) | rw [W_seq] | rw [W_reg] | rw [push_no] | rw [push_yes] | rw [W_onil] | rw [W_skip] | rw [W_blk] | rw [W_b] | refine W_regd0 ?_ | refine W_regd ?_)
    refine W_callR rfl (call37 a c (by omega)) ?_
    rintro v m3 ⟨rfl, rfl⟩ hs3
    by_cases h3 : ph = 3
    · have e32 : decide (c = 32) = false := decide_eq_false (fun h => hc3.1 h h3)
      rw [e32]
      repeat (first
        | ((first | refine W_op rfl rfl ?_ | (refine W_opgT rfl rfl ?hg ?_; (case hg => (simp only [WG, reduceIte, Nat.reduceEqDiff]; done)))); simp only [WB, execE, unE, args0, reduceIte, Nat.reduceEqDiff, Nat.reduceAdd, Nat.reduceLeDiff, WO, fillX, splice, Wo_some])
        | (refine W_opgF rfl rfl ?hg ?_; (case hg => (simp only [WG, reduceIte, Nat.reduceEqDiff]; done)))
        | (refine W_opgU rfl ?hg ?_; (case hg => (simp only [upd_at, reduceIte, Nat.reduceEqDiff]; done))) | (refine W_callN rfl ?hg ?_; (case hg => (simp only [WG, reduceIte, Nat.reduceEqDiff]; done))) | rw [W_seq] | rw [W_reg] | rw [push_no] | rw [push_yes] | rw [W_onil] | rw [W_skip] | rw [W_blk] | rw [W_b] | refine W_regd0 ?_ | refine W_regd ?_)
      refine W_cond ?_
      simp only [WB, execE, unE, args0, reduceIte, Nat.reduceEqDiff, Nat.reduceAdd, Nat.reduceLeDiff, WC]
      repeat (first
        | ((first | refine W_op rfl rfl ?_ | (refine W_opgT rfl rfl ?hg ?_; (case hg => (simp only [WG, reduceIte, Nat.reduceEqDiff]; done)))); simp only [WB, execE, unE, args0, reduceIte, Nat.reduceEqDiff, Nat.reduceAdd, Nat.reduceLeDiff, rd_keep b1 k2 n1 (by simp), rd_keep c1 k2 n1' (by simp), WO, fillX, splice, Wo_some])
        | (refine W_opgF rfl rfl ?hg ?_; (case hg => (simp only [WG, reduceIte, Nat.reduceEqDiff]; done)))
        | (refine W_opgU rfl ?hg ?_; (case hg => (simp only [upd_at, reduceIte, Nat.reduceEqDiff]; done))) | (refine W_callN rfl ?hg ?_; (case hg => (simp only [WG, reduceIte, Nat.reduceEqDiff]; done))) | rw [W_seq] | rw [W_reg] | rw [push_no] | rw [push_yes] | rw [W_onil] | rw [W_skip] | rw [W_blk] | rw [W_b] | refine W_regd0 ?_ | refine W_regd ?_)
      refine W_callA rfl ?hargs (call36 (k := k) (fr := fr) (to := to) (num := num) (kd := 3) (nd := nd) (ph := ph) (pos := pos) (st := st) (dp := dp) (og := og) (x := x) (cp := cp) (hP1.keep k2 (by simp)) hx hc hn) ?_
      case hargs => simp only [WB, execE, unE, args0, reduceIte, Nat.reduceEqDiff, Nat.reduceAdd, Nat.reduceLeDiff] <;> rfl
      rintro v m4 ⟨rfl, k4⟩ hs4
      repeat (first
        | ((first | refine W_op rfl rfl ?_ | (refine W_opgT rfl rfl ?hg ?_; (case hg => (simp only [WG, reduceIte, Nat.reduceEqDiff]; done)))); simp only [WB, execE, unE, args0, reduceIte, Nat.reduceEqDiff, Nat.reduceAdd, Nat.reduceLeDiff, WO, fillX, splice, Wo_some])
        | (refine W_opgF rfl rfl ?hg ?_; (case hg => (simp only [WG, reduceIte, Nat.reduceEqDiff]; done)))
        | (refine W_opgU rfl ?hg ?_; (case hg => (simp only [upd_at, reduceIte, Nat.reduceEqDiff]; done))) | (refine W_callN rfl ?hg ?_; (case hg => (simp only [WG, reduceIte, Nat.reduceEqDiff]; done))) | rw [W_seq] | rw [W_reg] | rw [push_no] | rw [push_yes] | rw [W_onil] | rw [W_skip] | rw [W_blk] | rw [W_b] | refine W_regd0 ?_ | refine W_regd ?_)
      refine W_getRet (by repeat (first | exact hg | exact args0_un (Nat.le_of_ble_eq_true rfl) | refine upd_un ?_ rfl)) ?_
      refine ⟨hs4.ds.trans (hs2.ds.trans d1), _, rfl, ?_, ((kk1.trans k2 (by simp)).trans k4 (by simp)).out⟩
      have e : phrT k num 3 ph pos st og = missT k ph num := by
        show (if ph = 3 then _ else _) = _
        rw [if_pos h3]
      rw [e]; rfl
    · have e32 : decide (c = 32) = true := decide_eq_true (hc3.2 h3)
      have hcat := strcat (a ++ [c]) (digI pos) (by have := i1.le; simp only [List.length_append, List.length_cons, List.length_nil]; omega)
      rw [e32]
      repeat (first
        | ((first | refine W_op rfl rfl ?_ | (refine W_opgT rfl rfl ?hg ?_; (case hg => (simp only [WG, reduceIte, Nat.reduceEqDiff]; done)))); simp only [WB, execE, unE, args0, reduceIte, Nat.reduceEqDiff, Nat.reduceAdd, Nat.reduceLeDiff, WO, fillX, splice, Wo_some])
        | (refine W_opgF rfl rfl ?hg ?_; (case hg => (simp only [WG, reduceIte, Nat.reduceEqDiff]; done)))
        | (refine W_opgU rfl ?hg ?_; (case hg => (simp only [upd_at, reduceIte, Nat.reduceEqDiff]; done))) | (refine W_callN rfl ?hg ?_; (case hg => (simp only [WG, reduceIte, Nat.reduceEqDiff]; done))) | rw [W_seq] | rw [W_reg] | rw [push_no] | rw [push_yes] | rw [W_onil] | rw [W_skip] | rw [W_blk] | rw [W_b] | refine W_regd0 ?_ | refine W_regd ?_)
      refine W_cond ?_
      simp only [WB, execE, unE, args0, reduceIte, Nat.reduceEqDiff, Nat.reduceAdd, Nat.reduceLeDiff, WC]
      repeat (first
        | ((first | refine W_op rfl rfl ?_ | (refine W_opgT rfl rfl ?hg ?_; (case hg => (simp only [WG, reduceIte, Nat.reduceEqDiff]; done)))); simp only [WB, execE, unE, args0, reduceIte, Nat.reduceEqDiff, Nat.reduceAdd, Nat.reduceLeDiff, binE, isShift, hcat, WO, fillX, splice, Wo_some])
        | (refine W_opgF rfl rfl ?hg ?_; (case hg => (simp only [WG, reduceIte, Nat.reduceEqDiff]; done)))
        | (refine W_opgU rfl ?hg ?_; (case hg => (simp only [upd_at, reduceIte, Nat.reduceEqDiff]; done))) | (refine W_callN rfl ?hg ?_; (case hg => (simp only [WG, reduceIte, Nat.reduceEqDiff]; done))) | rw [W_seq] | rw [W_reg] | rw [push_no] | rw [push_yes] | rw [W_onil] | rw [W_skip] | rw [W_blk] | rw [W_b] | refine W_regd0 ?_ | refine W_regd ?_)
      refine W_getRet (by repeat (first | exact hg | exact args0_un (Nat.le_of_ble_eq_true rfl) | refine upd_un ?_ rfl)) ?_
      refine ⟨hs2.ds.trans d1, _, rfl, ?_, (kk1.trans k2 (by simp)).out⟩
      have e : phrT k num 3 ph pos st og = a ++ [c] ++ digI pos := by
        show (if ph = 3 then _ else _) = _
        rw [if_neg h3, hac]
      rw [e]; rfl
  rcases hk' with rfl | hk'
  · skip
    repeat' (first
      | ((first | refine W_op rfl rfl ?_ | (refine W_opgT rfl rfl ?hg ?_; (case hg => (simp only [WG, reduceIte, Nat.reduceEqDiff]; done)))); simp only [WB, execE, unE, args0, reduceIte, Nat.reduceEqDiff, Nat.reduceAdd, Nat.reduceLeDiff, h1, b1, c1, binE, isShift, intBin, Int.reduceBEq, WO, fillX, splice, Wo_some])
      | (refine W_opgF rfl rfl ?hg ?_; (case hg => (simp only [WG, reduceIte, Nat.reduceEqDiff]; done)))
      | (refine W_opgU rfl ?hg ?_; (case hg => (simp only [WG, reduceIte, Nat.reduceEqDiff]; done)))
      | rw [W_seq] | rw [W_reg] | rw [push_no] | rw [push_yes] | rw [W_onil] | rw [W_skip] | rw [W_blk] | rw [W_b] | refine W_regd0 ?_ | refine W_regd ?_
      | (refine W_callN rfl ?hg ?_; (case hg => (simp only [WG, reduceIte, Nat.reduceEqDiff]; done)))
      | refine W_exit rfl ?_
      | (refine W_opgST rfl rfl ?hg ?_ ?_; (case hg => (simp only [WB, execE, unE, args0, reduceIte, Nat.reduceEqDiff, Nat.reduceAdd, Nat.reduceLeDiff, h1, b1, c1, binE, isShift, intBin, Int.reduceBEq, WO, fillX, splice, toB_b]; done)); (all_goals (intro hc; simp only [WB, execE, unE, args0, reduceIte, Nat.reduceEqDiff, Nat.reduceAdd, Nat.reduceLeDiff, h1, b1, c1, binE, isShift, intBin, Int.reduceBEq, WO, fillX, splice, toB_b] at hc; simp only [hc, WB, execE, unE, args0, reduceIte, Nat.reduceEqDiff, Nat.reduceAdd, Nat.reduceLeDiff, h1, b1, c1, binE, isShift, intBin, Int.reduceBEq, WO, fillX, splice, Wo_some])))
      | (refine W_opgSF rfl rfl ?hg ?_ ?_; (case hg => (simp only [WB, execE, unE, args0, reduceIte, Nat.reduceEqDiff, Nat.reduceAdd, Nat.reduceLeDiff, h1, b1, c1, binE, isShift, intBin, Int.reduceBEq, WO, fillX, splice, toB_b]; done)); (all_goals (intro hc; simp only [WB, execE, unE, args0, reduceIte, Nat.reduceEqDiff, Nat.reduceAdd, Nat.reduceLeDiff, h1, b1, c1, binE, isShift, intBin, Int.reduceBEq, WO, fillX, splice, toB_b] at hc; simp only [hc, WB, execE, unE, args0, reduceIte, Nat.reduceEqDiff, Nat.reduceAdd, Nat.reduceLeDiff, h1, b1, c1, binE, isShift, intBin, Int.reduceBEq, WO, fillX, splice, Wo_some])))
      | (refine W_cond ?_; simp only [WB, execE, unE, args0, reduceIte, Nat.reduceEqDiff, Nat.reduceAdd, Nat.reduceLeDiff, h1, b1, c1, binE, isShift, intBin, Int.reduceBEq, WO, fillX, splice, WC]; first | (refine WC_split (fun hc => ?_) (fun hc => ?_) <;> (try simp only [hc])) | skip)
      )
    refine W_callA rfl ?hargs (call38 (k := k) (fr := fr) (to := to) (num := num) (ph := ph) (x := x) hP1 hx hp0 hp1) ?_
    case hargs => simp only [WB, execE, unE, args0, reduceIte, Nat.reduceEqDiff, Nat.reduceAdd, Nat.reduceLeDiff] <;> rfl
    rintro v m2 ⟨rfl, k2⟩ hs2
    repeat (first
      | ((first | refine W_op rfl rfl ?_ | (refine W_opgT rfl rfl ?hg ?_; (case hg => (simp only [WG, reduceIte, Nat.reduceEqDiff]; done)))); simp only [WB, execE, unE, args0, reduceIte, Nat.reduceEqDiff, Nat.reduceAdd, Nat.reduceLeDiff, binE, isShift, strcatI, Nat.reduceAdd, Nat.reduceLeDiff, WO, fillX, splice, Wo_some])
      | (refine W_opgF rfl rfl ?hg ?_; (case hg => (simp only [WG, reduceIte, Nat.reduceEqDiff]; done)))
      | (refine W_opgU rfl ?hg ?_; (case hg => (simp only [upd_at, reduceIte, Nat.reduceEqDiff]; done))) | (refine W_callN rfl ?hg ?_; (case hg => (simp only [WG, reduceIte, Nat.reduceEqDiff]; done))) | rw [W_seq] | rw [W_reg] | rw [push_no] | rw [push_yes] | rw [W_onil] | rw [W_skip] | rw [W_blk] | rw [W_b] | refine W_regd0 ?_ | refine W_regd ?_)
    refine W_getRet (by repeat (first | exact hg | exact args0_un (Nat.le_of_ble_eq_true rfl) | refine upd_un ?_ rfl)) ?_
    exact ⟨hs2.ds.trans d1, _, rfl, rfl, (kk1.trans k2 (by simp)).out⟩
  rcases hk' with rfl | hk'
  · skip
    repeat' (first
      | ((first | refine W_op rfl rfl ?_ | (refine W_opgT rfl rfl ?hg ?_; (case hg => (simp only [WG, reduceIte, Nat.reduceEqDiff]; done)))); simp only [WB, execE, unE, args0, reduceIte, Nat.reduceEqDiff, Nat.reduceAdd, Nat.reduceLeDiff, h1, binE, isShift, intBin, Int.reduceBEq, WO, fillX, splice, Wo_some])
      | (refine W_opgF rfl rfl ?hg ?_; (case hg => (simp only [WG, reduceIte, Nat.reduceEqDiff]; done)))
      | (refine W_opgU rfl ?hg ?_; (case hg => (simp only [WG, reduceIte, Nat.reduceEqDiff]; done)))
      | rw [W_seq] | rw [W_reg] | rw [push_no] | rw [push_yes] | rw [W_onil] | rw [W_skip] | rw [W_blk] | rw [W_b] | refine W_regd0 ?_ | refine W_regd ?_
      | (refine W_callN rfl ?hg ?_; (case hg => (simp only [WG, reduceIte, Nat.reduceEqDiff]; done)))
      | refine W_exit rfl ?_
      | (refine W_opgST rfl rfl ?hg ?_ ?_; (case hg => (simp only [WB, execE, unE, args0, reduceIte, Nat.reduceEqDiff, Nat.reduceAdd, Nat.reduceLeDiff, h1, binE, isShift, intBin, Int.reduceBEq, WO, fillX, splice, toB_b]; done)); (all_goals (intro hc; simp only [WB, execE, unE, args0, reduceIte, Nat.reduceEqDiff, Nat.reduceAdd, Nat.reduceLeDiff, h1, binE, isShift, intBin, Int.reduceBEq, WO, fillX, splice, toB_b] at hc; simp only [hc, WB, execE, unE, args0, reduceIte, Nat.reduceEqDiff, Nat.reduceAdd, Nat.reduceLeDiff, h1, binE, isShift, intBin, Int.reduceBEq, WO, fillX, splice, Wo_some])))
      | (refine W_opgSF rfl rfl ?hg ?_ ?_; (case hg => (simp only [WB, execE, unE, args0, reduceIte, Nat.reduceEqDiff, Nat.reduceAdd, Nat.reduceLeDiff, h1, binE, isShift, intBin, Int.reduceBEq, WO, fillX, splice, toB_b]; done)); (all_goals (intro hc; simp only [WB, execE, unE, args0, reduceIte, Nat.reduceEqDiff, Nat.reduceAdd, Nat.reduceLeDiff, h1, binE, isShift, intBin, Int.reduceBEq, WO, fillX, splice, toB_b] at hc; simp only [hc, WB, execE, unE, args0, reduceIte, Nat.reduceEqDiff, Nat.reduceAdd, Nat.reduceLeDiff, h1, binE, isShift, intBin, Int.reduceBEq, WO, fillX, splice, Wo_some])))
      | (refine W_cond ?_; simp only [WB, execE, unE, args0, reduceIte, Nat.reduceEqDiff, Nat.reduceAdd, Nat.reduceLeDiff, h1, binE, isShift, intBin, Int.reduceBEq, WO, fillX, splice, WC]; first | (refine WC_split (fun hc => ?_) (fun hc => ?_) <;> (try simp only [hc])) | skip)
      )
    refine W_callA rfl ?hargs (call14 hP1 hog.1 hog.2) ?_
    case hargs => simp only [WB, execE, unE, args0, reduceIte, Nat.reduceEqDiff, Nat.reduceAdd, Nat.reduceLeDiff] <;> rfl
    rintro v m2 ⟨rfl, k2⟩ hs2
    have b2 := rd_keep b1 k2 n1 (by simp)
    have h2 := k2.at n1' (by simp) h1
    repeat (first
      | ((first | refine W_op rfl rfl ?_ | (refine W_opgT rfl rfl ?hg ?_; (case hg => (simp only [WG, reduceIte, Nat.reduceEqDiff]; done)))); simp only [WB, execE, unE, args0, reduceIte, Nat.reduceEqDiff, Nat.reduceAdd, Nat.reduceLeDiff, b2, h2, binE, isShift, strcatI, Nat.reduceAdd, Nat.reduceLeDiff, WO, fillX, splice, Wo_some])
      | (refine W_opgF rfl rfl ?hg ?_; (case hg => (simp only [WG, reduceIte, Nat.reduceEqDiff]; done)))
      | (refine W_opgU rfl ?hg ?_; (case hg => (simp only [upd_at, reduceIte, Nat.reduceEqDiff]; done))) | (refine W_callN rfl ?hg ?_; (case hg => (simp only [WG, reduceIte, Nat.reduceEqDiff]; done))) | rw [W_seq] | rw [W_reg] | rw [push_no] | rw [push_yes] | rw [W_onil] | rw [W_skip] | rw [W_blk] | rw [W_b] | refine W_regd0 ?_ | refine W_regd ?_)
    refine W_callA rfl ?hargs (call38 (k := k) (fr := fr) (to := to) (num := num) (ph := ph) (x := x) (hP1.keep k2 (by simp)) hx hp0 hp1) ?_
    case hargs => simp only [WB, execE, unE, args0, reduceIte, Nat.reduceEqDiff, Nat.reduceAdd, Nat.reduceLeDiff] <;> rfl
    rintro v m3 ⟨rfl, k3⟩ hs3
    repeat (first
      | ((first | refine W_op rfl rfl ?_ | (refine W_opgT rfl rfl ?hg ?_; (case hg => (simp only [WG, reduceIte, Nat.reduceEqDiff]; done)))); simp only [WB, execE, unE, args0, reduceIte, Nat.reduceEqDiff, Nat.reduceAdd, Nat.reduceLeDiff, binE, isShift, strcatI, Nat.reduceAdd, Nat.reduceLeDiff, WO, fillX, splice, Wo_some])
      | (refine W_opgF rfl rfl ?hg ?_; (case hg => (simp only [WG, reduceIte, Nat.reduceEqDiff]; done)))
      | (refine W_opgU rfl ?hg ?_; (case hg => (simp only [upd_at, reduceIte, Nat.reduceEqDiff]; done))) | (refine W_callN rfl ?hg ?_; (case hg => (simp only [WG, reduceIte, Nat.reduceEqDiff]; done))) | rw [W_seq] | rw [W_reg] | rw [push_no] | rw [push_yes] | rw [W_onil] | rw [W_skip] | rw [W_blk] | rw [W_b] | refine W_regd0 ?_ | refine W_regd ?_)
    refine W_dnil ?hs ?hnt ?_
    case hs => (simp only [SameIn, SameAt, List.nil_append, List.cons_append, reduceCtorEq, false_and, exists_false, exists_const, false_or, or_false, Option.some.injEq, exists_eq_left', exists_eq', or_true, and_true, WB, execE, unE, args0, reduceIte, Nat.reduceEqDiff, Nat.reduceAdd, Nat.reduceLeDiff, b1, b2, h1, h2])
    case hnt => (simp only [List.nil_append, List.cons_append, List.forall_mem_cons, List.not_mem_nil, false_imp_iff, implies_true, and_true]; repeat' (first | exact hg | exact args0_un (Nat.le_of_ble_eq_true rfl) | refine upd_un ?_ rfl | constructor))
    repeat (first
      | ((first | refine W_op rfl rfl ?_ | (refine W_opgT rfl rfl ?hg ?_; (case hg => (simp only [WG, reduceIte, Nat.reduceEqDiff]; done)))); simp only [WB, execE, unE, args0, reduceIte, Nat.reduceEqDiff, Nat.reduceAdd, Nat.reduceLeDiff, WO, fillX, splice, Wo_some])
      | (refine W_opgF rfl rfl ?hg ?_; (case hg => (simp only [WG, reduceIte, Nat.reduceEqDiff]; done)))
      | (refine W_opgU rfl ?hg ?_; (case hg => (simp only [upd_at, reduceIte, Nat.reduceEqDiff]; done))) | (refine W_callN rfl ?hg ?_; (case hg => (simp only [WG, reduceIte, Nat.reduceEqDiff]; done))) | rw [W_seq] | rw [W_reg] | rw [push_no] | rw [push_yes] | rw [W_onil] | rw [W_skip] | rw [W_blk] | rw [W_b] | refine W_regd0 ?_ | refine W_regd ?_)
    refine W_getRet (by repeat (first | exact hg | exact args0_un (Nat.le_of_ble_eq_true rfl) | refine upd_un ?_ rfl)) ?_
    exact ⟨hs3.ds.trans (hs2.ds.trans d1), _, rfl, rfl, ((kk1.trans k2 (by simp)).trans k3 (by simp)).out⟩
  rcases hk' with rfl | hk'
  · skip
    repeat' (first
      | ((first | refine W_op rfl rfl ?_ | (refine W_opgT rfl rfl ?hg ?_; (case hg => (simp only [WG, reduceIte, Nat.reduceEqDiff]; done)))); simp only [WB, execE, unE, args0, reduceIte, Nat.reduceEqDiff, Nat.reduceAdd, Nat.reduceLeDiff, h1, g1, binE, isShift, intBin, Int.reduceBEq, WO, fillX, splice, Wo_some])
      | (refine W_opgF rfl rfl ?hg ?_; (case hg => (simp only [WG, reduceIte, Nat.reduceEqDiff]; done)))
      | (refine W_opgU rfl ?hg ?_; (case hg => (simp only [WG, reduceIte, Nat.reduceEqDiff]; done)))
      | rw [W_seq] | rw [W_reg] | rw [push_no] | rw [push_yes] | rw [W_onil] | rw [W_skip] | rw [W_blk] | rw [W_b] | refine W_regd0 ?_ | refine W_regd ?_
      | (refine W_callN rfl ?hg ?_; (case hg => (simp only [WG, reduceIte, Nat.reduceEqDiff]; done)))
      | refine W_exit rfl ?_
      | (refine W_opgST rfl rfl ?hg ?_ ?_; (case hg => (simp only [WB, execE, unE, args0, reduceIte, Nat.reduceEqDiff, Nat.reduceAdd, Nat.reduceLeDiff, h1, g1, binE, isShift, intBin, Int.reduceBEq, WO, fillX, splice, toB_b]; done)); (all_goals (intro hc; simp only [WB, execE, unE, args0, reduceIte, Nat.reduceEqDiff, Nat.reduceAdd, Nat.reduceLeDiff, h1, g1, binE, isShift, intBin, Int.reduceBEq, WO, fillX, splice, toB_b] at hc; simp only [hc, WB, execE, unE, args0, reduceIte, Nat.reduceEqDiff, Nat.reduceAdd, Nat.reduceLeDiff, h1, g1, binE, isShift, intBin, Int.reduceBEq, WO, fillX, splice, Wo_some])))
      | (refine W_opgSF rfl rfl ?hg ?_ ?_; (case hg => (simp only [WB, execE, unE, args0, reduceIte, Nat.reduceEqDiff, Nat.reduceAdd, Nat.reduceLeDiff, h1, g1, binE, isShift, intBin, Int.reduceBEq, WO, fillX, splice, toB_b]; done)); (all_goals (intro hc; simp only [WB, execE, unE, args0, reduceIte, Nat.reduceEqDiff, Nat.reduceAdd, Nat.reduceLeDiff, h1, g1, binE, isShift, intBin, Int.reduceBEq, WO, fillX, splice, toB_b] at hc; simp only [hc, WB, execE, unE, args0, reduceIte, Nat.reduceEqDiff, Nat.reduceAdd, Nat.reduceLeDiff, h1, g1, binE, isShift, intBin, Int.reduceBEq, WO, fillX, splice, Wo_some])))
      | (refine W_cond ?_; simp only [WB, execE, unE, args0, reduceIte, Nat.reduceEqDiff, Nat.reduceAdd, Nat.reduceLeDiff, h1, g1, binE, isShift, intBin, Int.reduceBEq, WO, fillX, splice, WC]; first | (refine WC_split (fun hc => ?_) (fun hc => ?_) <;> (try simp only [hc])) | skip)
      )
    refine W_callA rfl ?hargs (call14 hP1 hn.1 hn.2) ?_
    case hargs => simp only [WB, execE, unE, args0, reduceIte, Nat.reduceEqDiff, Nat.reduceAdd, Nat.reduceLeDiff] <;> rfl
    rintro v m2 ⟨rfl, k2⟩ hs2
    repeat (first
      | ((first | refine W_op rfl rfl ?_ | (refine W_opgT rfl rfl ?hg ?_; (case hg => (simp only [WG, reduceIte, Nat.reduceEqDiff]; done)))); simp only [WB, execE, unE, args0, reduceIte, Nat.reduceEqDiff, Nat.reduceAdd, Nat.reduceLeDiff, binE, isShift, strcatI, Nat.reduceAdd, Nat.reduceLeDiff, WO, fillX, splice, Wo_some])
      | (refine W_opgF rfl rfl ?hg ?_; (case hg => (simp only [WG, reduceIte, Nat.reduceEqDiff]; done)))
      | (refine W_opgU rfl ?hg ?_; (case hg => (simp only [upd_at, reduceIte, Nat.reduceEqDiff]; done))) | (refine W_callN rfl ?hg ?_; (case hg => (simp only [WG, reduceIte, Nat.reduceEqDiff]; done))) | rw [W_seq] | rw [W_reg] | rw [push_no] | rw [push_yes] | rw [W_onil] | rw [W_skip] | rw [W_blk] | rw [W_b] | refine W_regd0 ?_ | refine W_regd ?_)
    refine W_getRet (by repeat (first | exact hg | exact args0_un (Nat.le_of_ble_eq_true rfl) | refine upd_un ?_ rfl)) ?_
    exact ⟨hs2.ds.trans d1, _, rfl, rfl, (kk1.trans k2 (by simp)).out⟩
  rcases hk' with rfl | hk'
  · skip
    repeat' (first
      | ((first | refine W_op rfl rfl ?_ | (refine W_opgT rfl rfl ?hg ?_; (case hg => (simp only [WG, reduceIte, Nat.reduceEqDiff]; done)))); simp only [WB, execE, unE, args0, reduceIte, Nat.reduceEqDiff, Nat.reduceAdd, Nat.reduceLeDiff, h1, g1, binE, isShift, intBin, Int.reduceBEq, WO, fillX, splice, Wo_some])
      | (refine W_opgF rfl rfl ?hg ?_; (case hg => (simp only [WG, reduceIte, Nat.reduceEqDiff]; done)))
      | (refine W_opgU rfl ?hg ?_; (case hg => (simp only [WG, reduceIte, Nat.reduceEqDiff]; done)))
      | rw [W_seq] | rw [W_reg] | rw [push_no] | rw [push_yes] | rw [W_onil] | rw [W_skip] | rw [W_blk] | rw [W_b] | refine W_regd0 ?_ | refine W_regd ?_
      | (refine W_callN rfl ?hg ?_; (case hg => (simp only [WG, reduceIte, Nat.reduceEqDiff]; done)))
      | refine W_exit rfl ?_
      | (refine W_opgST rfl rfl ?hg ?_ ?_; (case hg => (simp only [WB, execE, unE, args0, reduceIte, Nat.reduceEqDiff, Nat.reduceAdd, Nat.reduceLeDiff, h1, g1, binE, isShift, intBin, Int.reduceBEq, WO, fillX, splice, toB_b]; done)); (all_goals (intro hc; simp only [WB, execE, unE, args0, reduceIte, Nat.reduceEqDiff, Nat.reduceAdd, Nat.reduceLeDiff, h1, g1, binE, isShift, intBin, Int.reduceBEq, WO, fillX, splice, toB_b] at hc; simp only [hc, WB, execE, unE, args0, reduceIte, Nat.reduceEqDiff, Nat.reduceAdd, Nat.reduceLeDiff, h1, g1, binE, isShift, intBin, Int.reduceBEq, WO, fillX, splice, Wo_some])))
      | (refine W_opgSF rfl rfl ?hg ?_ ?_; (case hg => (simp only [WB, execE, unE, args0, reduceIte, Nat.reduceEqDiff, Nat.reduceAdd, Nat.reduceLeDiff, h1, g1, binE, isShift, intBin, Int.reduceBEq, WO, fillX, splice, toB_b]; done)); (all_goals (intro hc; simp only [WB, execE, unE, args0, reduceIte, Nat.reduceEqDiff, Nat.reduceAdd, Nat.reduceLeDiff, h1, g1, binE, isShift, intBin, Int.reduceBEq, WO, fillX, splice, toB_b] at hc; simp only [hc, WB, execE, unE, args0, reduceIte, Nat.reduceEqDiff, Nat.reduceAdd, Nat.reduceLeDiff, h1, g1, binE, isShift, intBin, Int.reduceBEq, WO, fillX, splice, Wo_some])))
      | (refine W_cond ?_; simp only [WB, execE, unE, args0, reduceIte, Nat.reduceEqDiff, Nat.reduceAdd, Nat.reduceLeDiff, h1, g1, binE, isShift, intBin, Int.reduceBEq, WO, fillX, splice, WC]; first | (refine WC_split (fun hc => ?_) (fun hc => ?_) <;> (try simp only [hc])) | skip)
      )
    refine W_callA rfl ?hargs (call14 hP1 hn.1 hn.2) ?_
    case hargs => simp only [WB, execE, unE, args0, reduceIte, Nat.reduceEqDiff, Nat.reduceAdd, Nat.reduceLeDiff] <;> rfl
    rintro v m2 ⟨rfl, k2⟩ hs2
    repeat (first
      | ((first | refine W_op rfl rfl ?_ | (refine W_opgT rfl rfl ?hg ?_; (case hg => (simp only [WG, reduceIte, Nat.reduceEqDiff]; done)))); simp only [WB, execE, unE, args0, reduceIte, Nat.reduceEqDiff, Nat.reduceAdd, Nat.reduceLeDiff, binE, isShift, strcatI, Nat.reduceAdd, Nat.reduceLeDiff, WO, fillX, splice, Wo_some])
      | (refine W_opgF rfl rfl ?hg ?_; (case hg => (simp only [WG, reduceIte, Nat.reduceEqDiff]; done)))
      | (refine W_opgU rfl ?hg ?_; (case hg => (simp only [upd_at, reduceIte, Nat.reduceEqDiff]; done))) | (refine W_callN rfl ?hg ?_; (case hg => (simp only [WG, reduceIte, Nat.reduceEqDiff]; done))) | rw [W_seq] | rw [W_reg] | rw [push_no] | rw [push_yes] | rw [W_onil] | rw [W_skip] | rw [W_blk] | rw [W_b] | refine W_regd0 ?_ | refine W_regd ?_)
    refine W_getRet (by repeat (first | exact hg | exact args0_un (Nat.le_of_ble_eq_true rfl) | refine upd_un ?_ rfl)) ?_
    exact ⟨hs2.ds.trans d1, _, rfl, rfl, (kk1.trans k2 (by simp)).out⟩
  rcases hk' with rfl | hk'
  · skip
    repeat' (first
      | ((first | refine W_op rfl rfl ?_ | (refine W_opgT rfl rfl ?hg ?_; (case hg => (simp only [WG, reduceIte, Nat.reduceEqDiff]; done)))); simp only [WB, execE, unE, args0, reduceIte, Nat.reduceEqDiff, Nat.reduceAdd, Nat.reduceLeDiff, h1, c1, binE, isShift, intBin, Int.reduceBEq, WO, fillX, splice, Wo_some])
      | (refine W_opgF rfl rfl ?hg ?_; (case hg => (simp only [WG, reduceIte, Nat.reduceEqDiff]; done)))
      | (refine W_opgU rfl ?hg ?_; (case hg => (simp only [WG, reduceIte, Nat.reduceEqDiff]; done)))
      | rw [W_seq] | rw [W_reg] | rw [push_no] | rw [push_yes] | rw [W_onil] | rw [W_skip] | rw [W_blk] | rw [W_b] | refine W_regd0 ?_ | refine W_regd ?_
      | (refine W_callN rfl ?hg ?_; (case hg => (simp only [WG, reduceIte, Nat.reduceEqDiff]; done)))
      | refine W_exit rfl ?_
      | (refine W_opgST rfl rfl ?hg ?_ ?_; (case hg => (simp only [WB, execE, unE, args0, reduceIte, Nat.reduceEqDiff, Nat.reduceAdd, Nat.reduceLeDiff, h1, c1, binE, isShift, intBin, Int.reduceBEq, WO, fillX, splice, toB_b]; done)); (all_goals (intro hc; simp only [WB, execE, unE, args0, reduceIte, Nat.reduceEqDiff, Nat.reduceAdd, Nat.reduceLeDiff, h1, c1, binE, isShift, intBin, Int.reduceBEq, WO, fillX, splice, toB_b] at hc; simp only [hc, WB, execE, unE, args0, reduceIte, Nat.reduceEqDiff, Nat.reduceAdd, Nat.reduceLeDiff, h1, c1, binE, isShift, intBin, Int.reduceBEq, WO, fillX, splice, Wo_some])))
      | (refine W_opgSF rfl rfl ?hg ?_ ?_; (case hg => (simp only [WB, execE, unE, args0, reduceIte, Nat.reduceEqDiff, Nat.reduceAdd, Nat.reduceLeDiff, h1, c1, binE, isShift, intBin, Int.reduceBEq, WO, fillX, splice, toB_b]; done)); (all_goals (intro hc; simp only [WB, execE, unE, args0, reduceIte, Nat.reduceEqDiff, Nat.reduceAdd, Nat.reduceLeDiff, h1, c1, binE, isShift, intBin, Int.reduceBEq, WO, fillX, splice, toB_b] at hc; simp only [hc, WB, execE, unE, args0, reduceIte, Nat.reduceEqDiff, Nat.reduceAdd, Nat.reduceLeDiff, h1, c1, binE, isShift, intBin, Int.reduceBEq, WO, fillX, splice, Wo_some])))
      | (refine W_cond ?_; simp only [WB, execE, unE, args0, reduceIte, Nat.reduceEqDiff, Nat.reduceAdd, Nat.reduceLeDiff, h1, c1, binE, isShift, intBin, Int.reduceBEq, WO, fillX, splice, WC]; first | (refine WC_split (fun hc => ?_) (fun hc => ?_) <;> (try simp only [hc])) | skip)
      )
    have he := fun (hw : Sm [99, 111, 109, 101, 115, 32, 111, 117, 116] 20) => call39 (m := m1) (w := [99, 111, 109, 101, 115, 32, 111, 117, 116]) (n := 20) (by omega) (kd := 11) (nd := nd) (ph := ph) (pos := pos) (st := st) (dp := dp) (og := og) hc
    refine W_callA rfl ?hargs (he ⟨by decide⟩) ?_
    case hargs => simp only [WB, execE, unE, args0, reduceIte, Nat.reduceEqDiff, Nat.reduceAdd, Nat.reduceLeDiff] <;> rfl
    rintro v m2 ⟨rfl, k2⟩ hs2
    repeat (first
      | ((first | refine W_op rfl rfl ?_ | (refine W_opgT rfl rfl ?hg ?_; (case hg => (simp only [WG, reduceIte, Nat.reduceEqDiff]; done)))); simp only [WB, execE, unE, args0, reduceIte, Nat.reduceEqDiff, Nat.reduceAdd, Nat.reduceLeDiff, WO, fillX, splice, Wo_some])
      | (refine W_opgF rfl rfl ?hg ?_; (case hg => (simp only [WG, reduceIte, Nat.reduceEqDiff]; done)))
      | (refine W_opgU rfl ?hg ?_; (case hg => (simp only [upd_at, reduceIte, Nat.reduceEqDiff]; done))) | (refine W_callN rfl ?hg ?_; (case hg => (simp only [WG, reduceIte, Nat.reduceEqDiff]; done))) | rw [W_seq] | rw [W_reg] | rw [push_no] | rw [push_yes] | rw [W_onil] | rw [W_skip] | rw [W_blk] | rw [W_b] | refine W_regd0 ?_ | refine W_regd ?_)
    refine W_getRet (by repeat (first | exact hg | exact args0_un (Nat.le_of_ble_eq_true rfl) | refine upd_un ?_ rfl)) ?_
    exact ⟨hs2.ds.trans d1, _, rfl, rfl, (kk1.trans k2 (by simp)).out⟩
  rcases hk' with rfl | rfl
  · skip
    repeat' (first
      | ((first | refine W_op rfl rfl ?_ | (refine W_opgT rfl rfl ?hg ?_; (case hg => (simp only [WG, reduceIte, Nat.reduceEqDiff]; done)))); simp only [WB, execE, unE, args0, reduceIte, Nat.reduceEqDiff, Nat.reduceAdd, Nat.reduceLeDiff, h1, c1, binE, isShift, intBin, Int.reduceBEq, WO, fillX, splice, Wo_some])
      | (refine W_opgF rfl rfl ?hg ?_; (case hg => (simp only [WG, reduceIte, Nat.reduceEqDiff]; done)))
      | (refine W_opgU rfl ?hg ?_; (case hg => (simp only [WG, reduceIte, Nat.reduceEqDiff]; done)))
      | rw [W_seq] | rw [W_reg] | rw [push_no] | rw [push_yes] | rw [W_onil] | rw [W_skip] | rw [W_blk] | rw [W_b] | refine W_regd0 ?_ | refine W_regd ?_
      | (refine W_callN rfl ?hg ?_; (case hg => (simp only [WG, reduceIte, Nat.reduceEqDiff]; done)))
      | refine W_exit rfl ?_
      | (refine W_opgST rfl rfl ?hg ?_ ?_; (case hg => (simp only [WB, execE, unE, args0, reduceIte, Nat.reduceEqDiff, Nat.reduceAdd, Nat.reduceLeDiff, h1, c1, binE, isShift, intBin, Int.reduceBEq, WO, fillX, splice, toB_b]; done)); (all_goals (intro hc; simp only [WB, execE, unE, args0, reduceIte, Nat.reduceEqDiff, Nat.reduceAdd, Nat.reduceLeDiff, h1, c1, binE, isShift, intBin, Int.reduceBEq, WO, fillX, splice, toB_b] at hc; simp only [hc, WB, execE, unE, args0, reduceIte, Nat.reduceEqDiff, Nat.reduceAdd, Nat.reduceLeDiff, h1, c1, binE, isShift, intBin, Int.reduceBEq, WO, fillX, splice, Wo_some])))
      | (refine W_opgSF rfl rfl ?hg ?_ ?_; (case hg => (simp only [WB, execE, unE, args0, reduceIte, Nat.reduceEqDiff, Nat.reduceAdd, Nat.reduceLeDiff, h1, c1, binE, isShift, intBin, Int.reduceBEq, WO, fillX, splice, toB_b]; done)); (all_goals (intro hc; simp only [WB, execE, unE, args0, reduceIte, Nat.reduceEqDiff, Nat.reduceAdd, Nat.reduceLeDiff, h1, c1, binE, isShift, intBin, Int.reduceBEq, WO, fillX, splice, toB_b] at hc; simp only [hc, WB, execE, unE, args0, reduceIte, Nat.reduceEqDiff, Nat.reduceAdd, Nat.reduceLeDiff, h1, c1, binE, isShift, intBin, Int.reduceBEq, WO, fillX, splice, Wo_some])))
      | (refine W_cond ?_; simp only [WB, execE, unE, args0, reduceIte, Nat.reduceEqDiff, Nat.reduceAdd, Nat.reduceLeDiff, h1, c1, binE, isShift, intBin, Int.reduceBEq, WO, fillX, splice, WC]; first | (refine WC_split (fun hc => ?_) (fun hc => ?_) <;> (try simp only [hc])) | skip)
      )
    have he := fun (hw : Sm [105, 115, 32, 103, 105, 118, 101, 110, 32, 117, 112] 20) => call39 (m := m1) (w := [105, 115, 32, 103, 105, 118, 101, 110, 32, 117, 112]) (n := 20) (by omega) (kd := 12) (nd := nd) (ph := ph) (pos := pos) (st := st) (dp := dp) (og := og) hc
    refine W_callA rfl ?hargs (he ⟨by decide⟩) ?_
    case hargs => simp only [WB, execE, unE, args0, reduceIte, Nat.reduceEqDiff, Nat.reduceAdd, Nat.reduceLeDiff] <;> rfl
    rintro v m2 ⟨rfl, k2⟩ hs2
    repeat (first
      | ((first | refine W_op rfl rfl ?_ | (refine W_opgT rfl rfl ?hg ?_; (case hg => (simp only [WG, reduceIte, Nat.reduceEqDiff]; done)))); simp only [WB, execE, unE, args0, reduceIte, Nat.reduceEqDiff, Nat.reduceAdd, Nat.reduceLeDiff, WO, fillX, splice, Wo_some])
      | (refine W_opgF rfl rfl ?hg ?_; (case hg => (simp only [WG, reduceIte, Nat.reduceEqDiff]; done)))
      | (refine W_opgU rfl ?hg ?_; (case hg => (simp only [upd_at, reduceIte, Nat.reduceEqDiff]; done))) | (refine W_callN rfl ?hg ?_; (case hg => (simp only [WG, reduceIte, Nat.reduceEqDiff]; done))) | rw [W_seq] | rw [W_reg] | rw [push_no] | rw [push_yes] | rw [W_onil] | rw [W_skip] | rw [W_blk] | rw [W_b] | refine W_regd0 ?_ | refine W_regd ?_)
    refine W_getRet (by repeat (first | exact hg | exact args0_un (Nat.le_of_ble_eq_true rfl) | refine upd_un ?_ rfl)) ?_
    exact ⟨hs2.ds.trans d1, _, rfl, rfl, (kk1.trans k2 (by simp)).out⟩
  · skip
    repeat' (first
      | ((first | refine W_op rfl rfl ?_ | (refine W_opgT rfl rfl ?hg ?_; (case hg => (simp only [WG, reduceIte, Nat.reduceEqDiff]; done)))); simp only [WB, execE, unE, args0, reduceIte, Nat.reduceEqDiff, Nat.reduceAdd, Nat.reduceLeDiff, h1, binE, isShift, intBin, Int.reduceBEq, WO, fillX, splice, Wo_some])
      | (refine W_opgF rfl rfl ?hg ?_; (case hg => (simp only [WG, reduceIte, Nat.reduceEqDiff]; done)))
      | (refine W_opgU rfl ?hg ?_; (case hg => (simp only [WG, reduceIte, Nat.reduceEqDiff]; done)))
      | rw [W_seq] | rw [W_reg] | rw [push_no] | rw [push_yes] | rw [W_onil] | rw [W_skip] | rw [W_blk] | rw [W_b] | refine W_regd0 ?_ | refine W_regd ?_
      | (refine W_callN rfl ?hg ?_; (case hg => (simp only [WG, reduceIte, Nat.reduceEqDiff]; done)))
      | refine W_exit rfl ?_
      | (refine W_opgST rfl rfl ?hg ?_ ?_; (case hg => (simp only [WB, execE, unE, args0, reduceIte, Nat.reduceEqDiff, Nat.reduceAdd, Nat.reduceLeDiff, h1, binE, isShift, intBin, Int.reduceBEq, WO, fillX, splice, toB_b]; done)); (all_goals (intro hc; simp only [WB, execE, unE, args0, reduceIte, Nat.reduceEqDiff, Nat.reduceAdd, Nat.reduceLeDiff, h1, binE, isShift, intBin, Int.reduceBEq, WO, fillX, splice, toB_b] at hc; simp only [hc, WB, execE, unE, args0, reduceIte, Nat.reduceEqDiff, Nat.reduceAdd, Nat.reduceLeDiff, h1, binE, isShift, intBin, Int.reduceBEq, WO, fillX, splice, Wo_some])))
      | (refine W_opgSF rfl rfl ?hg ?_ ?_; (case hg => (simp only [WB, execE, unE, args0, reduceIte, Nat.reduceEqDiff, Nat.reduceAdd, Nat.reduceLeDiff, h1, binE, isShift, intBin, Int.reduceBEq, WO, fillX, splice, toB_b]; done)); (all_goals (intro hc; simp only [WB, execE, unE, args0, reduceIte, Nat.reduceEqDiff, Nat.reduceAdd, Nat.reduceLeDiff, h1, binE, isShift, intBin, Int.reduceBEq, WO, fillX, splice, toB_b] at hc; simp only [hc, WB, execE, unE, args0, reduceIte, Nat.reduceEqDiff, Nat.reduceAdd, Nat.reduceLeDiff, h1, binE, isShift, intBin, Int.reduceBEq, WO, fillX, splice, Wo_some])))
      | (refine W_cond ?_; simp only [WB, execE, unE, args0, reduceIte, Nat.reduceEqDiff, Nat.reduceAdd, Nat.reduceLeDiff, h1, binE, isShift, intBin, Int.reduceBEq, WO, fillX, splice, WC]; first | (refine WC_split (fun hc => ?_) (fun hc => ?_) <;> (try simp only [hc])) | skip)
      )
    refine W_callA rfl ?hargs (call14 hP1 hst.1 hst.2) ?_
    case hargs => simp only [WB, execE, unE, args0, reduceIte, Nat.reduceEqDiff, Nat.reduceAdd, Nat.reduceLeDiff] <;> rfl
    rintro v m2 ⟨rfl, k2⟩ hs2
    repeat (first
      | ((first | refine W_op rfl rfl ?_ | (refine W_opgT rfl rfl ?hg ?_; (case hg => (simp only [WG, reduceIte, Nat.reduceEqDiff]; done)))); simp only [WB, execE, unE, args0, reduceIte, Nat.reduceEqDiff, Nat.reduceAdd, Nat.reduceLeDiff, binE, isShift, strcatI, Nat.reduceAdd, Nat.reduceLeDiff, WO, fillX, splice, Wo_some])
      | (refine W_opgF rfl rfl ?hg ?_; (case hg => (simp only [WG, reduceIte, Nat.reduceEqDiff]; done)))
      | (refine W_opgU rfl ?hg ?_; (case hg => (simp only [upd_at, reduceIte, Nat.reduceEqDiff]; done))) | (refine W_callN rfl ?hg ?_; (case hg => (simp only [WG, reduceIte, Nat.reduceEqDiff]; done))) | rw [W_seq] | rw [W_reg] | rw [push_no] | rw [push_yes] | rw [W_onil] | rw [W_skip] | rw [W_blk] | rw [W_b] | refine W_regd0 ?_ | refine W_regd ?_)
    refine W_getRet (by repeat (first | exact hg | exact args0_un (Nat.le_of_ble_eq_true rfl) | refine upd_un ?_ rfl)) ?_
    exact ⟨hs2.ds.trans d1, _, rfl, rfl, (kk1.trans k2 (by simp)).out⟩
end Go.Proofs.YtdmoecehmclohaaGreatDoor
