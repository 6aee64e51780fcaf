/- A state is read, behind another one. No condition. -/
import Derived.Test.YtfbglgmhhmeoeaaGreatDoorWbWL
import Derived.Test.YtfbglgmhhmeoeaaGreatDoorWbViNode
namespace Go.Proofs.YtfbglgmhhmeoeaaGreatDoor
open Go.Vi
set_option linter.unusedSimpArgs false
set_option linter.unusedVariables false
theorem land64 : ∀ k : Nat, k < 128 → k &&& 64 = k / 64 % 2 * 64 := by decide
theorem and_bits {k : Nat} (h : k < 128) : IntKind.i64.wrap ((BitVec.ofInt IntKind.i64.bits (k : Int) &&& BitVec.ofInt IntKind.i64.bits 64).toNat : Int) = ((k / 64 % 2 * 64 : Nat) : Int) := by
 have h1 : (BitVec.ofInt 64 (k : Int)).toNat = k := by rw [BitVec.toNat_ofInt]; omega
 have h2 : (BitVec.ofInt 64 (k : Int) &&& BitVec.ofInt 64 64).toNat = k / 64 % 2 * 64 := by
  rw [BitVec.toNat_and, h1, show (BitVec.ofInt 64 64).toNat = 64 from rfl, land64 k h]
 show IntKind.i64.wrap ((BitVec.ofInt 64 (k : Int) &&& BitVec.ofInt 64 64).toNat : Int) = _
 rw [h2]
 exact wr_i64 (by omega) (by omega)
theorem and_one {k : Nat} (h : k < 128) : IntKind.i64.wrap ((BitVec.ofInt IntKind.i64.bits (k : Int) &&& BitVec.ofInt IntKind.i64.bits 1).toNat : Int) = ((k % 2 : Nat) : Int) := by
 have h1 : (BitVec.ofInt 64 (k : Int)).toNat = k := by rw [BitVec.toNat_ofInt]; omega
 have h2 : (BitVec.ofInt 64 (k : Int) &&& BitVec.ofInt 64 1).toNat = k % 2 := by
  rw [BitVec.toNat_and, h1, show (BitVec.ofInt 64 1).toNat = 1 from rfl, Nat.and_one_is_mod]
 show IntKind.i64.wrap ((BitVec.ofInt 64 (k : Int) &&& BitVec.ofInt 64 1).toNat : Int) = _
 rw [h2]
 exact wr_i64 (by omega) (by omega)
theorem shr_nat (x i : Nat) : Int.fdiv (x : Int) (2 ^ (min i IntKind.i64.bits)) = ((x / 2 ^ (min i 64) : Nat) : Int) := by
 show Int.fdiv (x : Int) (2 ^ (min i 64)) = _
 rw [Int.fdiv_eq_ediv_of_nonneg _ (by exact Int.le_of_lt (Int.pow_pos (by decide)))]
 push_cast
 rfl
theorem six {fs : List Int} (h : fs.length = 6) : ∃ a b c d e f, fs = [a, b, c, d, e, f] := by
 match fs, h with
 | [a, b, c, d, e, f], _ => exact ⟨a, b, c, d, e, f, rfl⟩
theorem ptr_at {q i : Nat} (h : i < 6) : ([.p (some (q, 1)), .p (some (q, 2)), .p (some (q, 3)), .p (some (q, 4)), .p (some (q, 5)), .p (some (q, 6))] : List AV)[i]? = some (.p (some (q, i + 1))) := by
 have : i = 0 ∨ i = 1 ∨ i = 2 ∨ i = 3 ∨ i = 4 ∨ i = 5 := by omega
 rcases this with rfl | rfl | rfl | rfl | rfl | rfl <;> rfl
theorem off_new {m : AMem} {e n : Nat} {av : AV} {l : List AV} {j : Nat} (h : Arr m e av n l) (hj : m.next ≤ j) : Off av j := by
 obtain ⟨_, ⟨_, rfl | rfl⟩ | ⟨k, o, cap, ex, c, wr, es, rfl, _, hk, _⟩⟩ := h
 ·intro k o n c x hx; cases hx
 ·intro k o n c x hx; cases hx
 ·intro k' o' n' c' x' hx; cases hx; omega
theorem take_set_succ : ∀ (l : List Int) (i : Nat) (y : Int), i < l.length → (l.set i y).take (i + 1) = l.take i ++ [y]
 | [], i, y, h => by simp at h
 | a :: l, 0, y, h => by simp
 | a :: l, i + 1, y, h => by
   have := take_set_succ l i y (by simpa using h)
   rw [List.set_cons_succ, List.take_succ_cons, this, List.take_succ_cons, List.cons_append]
theorem drop_set_succ : ∀ (l : List Int) (i : Nat) (y : Int), (l.set i y).drop (i + 1) = l.drop (i + 1)
 | [], i, y => by simp
 | a :: l, 0, y => by simp
 | a :: l, i + 1, y => by
   have := drop_set_succ l i y
   rw [List.set_cons_succ, List.drop_succ_cons, this, List.drop_succ_cons]
theorem cell_fs {k : Int} {cv : AV} {fs : List Int} {i : Nat} {x : Int} (h : fs[i]? = some x) : (AV.i .i64 k :: (ints fs ++ [cv]))[i + 1]? = some (.i .i64 x) := by
 have hlt := (List.getElem?_eq_some_iff.1 h).1
 rw [List.getElem?_cons_succ, List.getElem?_append_left (by simpa [ints] using hlt), ints_get h]
theorem set_fs {k : Int} {cv : AV} {fs : List Int} {i : Nat} (hi : i < fs.length) (y : Int) : (AV.i .i64 k :: (ints fs ++ [cv])).set (i + 1) (.i .i64 y) = AV.i .i64 k :: (ints (fs.set i y) ++ [cv]) := by
 rw [List.set_cons_succ, List.set_append_left _ _ (by simpa [ints] using hi), ints_set]
set_option maxHeartbeats 16000000 in
theorem call36 {m : AMem} {was : St} {cw bv : AV} {b : List UInt8} (hC : Cap m cw was) (hb : Base was) (hA : Arr m 1 bv b.length (cellsOfBytes b)) (hl : b.length ≤ 100000000) {a : Nat} (ha : a ≤ b.length) :
  Vi.Call T 36 [.agg (stS was cw), bv, .i .i64 (a : Int)] m (fun v m' => (∃ cv, v = .tup [.agg (stS (dread was b a).1 cv), .i .i64 ((dread was b a).2.1 : Int), .i .i64 (dread was b a).2.2] ∧ (if (dread was b a).2.2 = 0 then FrI m m' cv (dread was b a).1.caps else cv = .sl none 0 0 true)) ∧ Keep m m' []) := by
 obtain ⟨g9, hg9, hcl, hgr⟩ := hb.caps
 have how := Arr.one hC
 have hob := hA.one
 have hlen := hA.lenF
 have hecb := one_cells hob
 refine Vi.Call.ofP T36 (Nat.le_of_ble_eq_true rfl) ?_
 unfold v36
 simp only [stS]
 repeat (first | simp only [WS] | refine W_regd0 ?_ | refine W_regd ?_)
 refine W_op rfl rfl ?_
 simp only [WB, execE, unE, args0, reduceIte, Nat.reduceEqDiff, Nat.reduceAdd, Nat.reduceLeDiff, how, WO, fillX, splice, Wo_some]
 repeat (first | rw [push_no] | rw [push_yes] | rw [W_onil])
 obtain ⟨mA, hmA, kA, _, gA, dA, _, nA⟩ := mk_new m.inn [.i .i64 was.kd, .i .i64 was.nd, .i .i64 was.ph, .i .i64 was.pos, .i .i64 was.st, .i .i64 was.dp, .i .i64 was.og, cw] true (8 : Nat) 8 rfl
 have kA' : Keep m mA [] := kA.ofInn
 have gA' : mA.get m.next = some (.cells [.i .i64 was.kd, .i .i64 was.nd, .i .i64 was.ph, .i .i64 was.pos, .i .i64 was.st, .i .i64 was.dp, .i .i64 was.og, cw] true (8 : Nat)) := gA
 have nA' : m.next < mA.next := nA
 rw [← hmA]
 clear hmA gA nA kA
 repeat (first | simp only [WS] | refine W_regd0 ?_ | refine W_regd ?_)
 refine W_op rfl rfl ?_
 simp only [WB, execE, unE, args0, reduceIte, Nat.reduceEqDiff, Nat.reduceAdd, Nat.reduceLeDiff, WO, fillX, splice, Wo_some]
 repeat (first | rw [push_no] | rw [push_yes] | rw [W_onil])
 obtain ⟨mB, hmB, kB, _, gB, dB, _, nB⟩ := mk_new mA [.i .i64 0, .i .i64 0, .i .i64 0, .i .i64 0, .i .i64 0, .i .i64 0, .i .i64 0, .sl none 0 0 true] true ⟨8, some 35⟩ 8 rfl
 rw [← hmB]
 clear hmB
 have kB' : Keep m mB [] := kA'.trans kB (by simp)
 have gA2 := kB.at nA' (by simp) gA'
 have nB' : m.next < mB.next := Nat.lt_trans nA' nB
 have b1 : rd mB m.next 0 8 = some (stS was cw) := by simp [rd, gA2, stS]
 repeat (first
  | ((first | refine W_op rfl rfl ?_ | (refine W_opgT rfl rfl ?h ?_; case h => simp only [WG, reduceIte, Nat.reduceEqDiff]; done)); simp only [WB, execE, unE, args0, reduceIte, Nat.reduceEqDiff, Nat.reduceAdd, Nat.reduceLeDiff, b1, WO, fillX, splice, Wo_some])
  | (refine W_opgF rfl rfl ?h ?_; case h => simp only [WG, reduceIte, Nat.reduceEqDiff]; done)
  | (refine W_opgU rfl ?h ?_; case h => simp only [upd_at, reduceIte, Nat.reduceEqDiff]; done) | (refine W_callN rfl ?h ?_; case h => simp only [WG, reduceIte, Nat.reduceEqDiff]; done) | simp only [WS] | refine W_regd0 ?_ | refine W_regd ?_)
 refine W_callA rfl ?hargs (call56 (s := was) (cv := cw) (Arr.keep0 hC kB') hb) ?_
 case hargs => simp only [WB, execE, unE, args0, reduceIte, Nat.reduceEqDiff, Nat.reduceAdd, Nat.reduceLeDiff] <;> rfl
 rintro v m1 ⟨rfl, k1⟩ hs1
 have b2 := rd_keep b1 k1 nB' (by simp)
 have gB1 := k1.at nB (by simp) gB
 have n1 := k1.next
 have kk1 : Keep m m1 [] := kB'.trans k1 (by simp)
 have c1 : decide ((a : Int) < 0) = false := decide_eq_false (by omega)
 have c2 : decide ((a : Int) > (b.length : Int)) = false := decide_eq_false (by omega)
 repeat (first
  | ((first | refine W_op rfl rfl ?_ | (refine W_opgT rfl rfl ?h ?_; case h => simp only [WG, reduceIte, Nat.reduceEqDiff]; done)); simp only [WB, execE, unE, args0, reduceIte, Nat.reduceEqDiff, Nat.reduceAdd, Nat.reduceLeDiff, WO, fillX, splice, Wo_some])
  | (refine W_opgF rfl rfl ?h ?_; case h => simp only [WG, reduceIte, Nat.reduceEqDiff]; done)
  | (refine W_opgU rfl ?h ?_; case h => simp only [upd_at, reduceIte, Nat.reduceEqDiff]; done) | (refine W_callN rfl ?h ?_; case h => simp only [WG, reduceIte, Nat.reduceEqDiff]; done) | simp only [WS] | refine W_regd0 ?_ | refine W_regd ?_)
 refine W_cond ?_
 simp only [WB, execE, unE, args0, reduceIte, Nat.reduceEqDiff, Nat.reduceAdd, Nat.reduceLeDiff, WC]
 repeat (first
  | ((first | refine W_op rfl rfl ?_ | (refine W_opgT rfl rfl ?h ?_; case h => simp only [WG, reduceIte, Nat.reduceEqDiff]; done)); simp only [WB, execE, unE, args0, reduceIte, Nat.reduceEqDiff, Nat.reduceAdd, Nat.reduceLeDiff, c1, c2, ↓hlen, binE, isShift, intBin, WO, fillX, splice, Wo_some])
  | (refine W_opgF rfl rfl ?h ?_; case h => simp only [WG, reduceIte, Nat.reduceEqDiff]; done)
  | (refine W_opgU rfl ?h ?_; case h => simp only [upd_at, reduceIte, Nat.reduceEqDiff]; done) | (refine W_callN rfl ?h ?_; case h => simp only [WG, reduceIte, Nat.reduceEqDiff]; done) | simp only [WS] | refine W_regd0 ?_ | refine W_regd ?_)
 refine W_cond ?_
 simp only [WB, execE, unE, args0, reduceIte, Nat.reduceEqDiff, Nat.reduceAdd, Nat.reduceLeDiff, WC]
 repeat (first | simp only [WS] | refine W_regd0 ?_ | refine W_regd ?_)
 refine W_op rfl rfl ?_
 simp only [WB, execE, unE, args0, reduceIte, Nat.reduceEqDiff, Nat.reduceAdd, Nat.reduceLeDiff, WO, fillX, splice, Wo_some]
 repeat (first | rw [push_no] | rw [push_yes] | rw [W_onil])
 repeat (first | simp only [WS] | refine W_regd0 ?_ | refine W_regd ?_)
 refine W_op rfl rfl ?_
 simp only [WB, execE, unE, args0, reduceIte, Nat.reduceEqDiff, Nat.reduceAdd, Nat.reduceLeDiff, WO, fillX, splice, Wo_some]
 repeat (first | rw [push_no] | rw [push_yes] | rw [W_onil])
 repeat (first | simp only [WS] | refine W_regd0 ?_ | refine W_regd ?_)
 refine W_op rfl rfl ?_
 simp only [WB, execE, unE, args0, reduceIte, Nat.reduceEqDiff, Nat.reduceAdd, Nat.reduceLeDiff, hob, hecb, WO, fillX, splice, Wo_some]
 repeat (first | rw [push_no] | rw [push_yes] | rw [W_onil])
 repeat (first | simp only [WS] | refine W_regd0 ?_ | refine W_regd ?_)
 refine W_op rfl rfl ?_
 simp only [WB, execE, unE, args0, reduceIte, Nat.reduceEqDiff, Nat.reduceAdd, Nat.reduceLeDiff, hob, WO, fillX, splice, Wo_some]
 repeat (first | rw [push_no] | rw [push_yes] | rw [W_onil])
 obtain ⟨mR, hmR, kR, _, gR, dR, _, nR⟩ := mk_new m1 [bv, .i .i64 (a : Int), .i .i64 0] true (3 : Nat) 3 rfl
 have b3 := rd_keep b2 kR (by omega) (by simp)
 rw [← hmR]
 clear hmR
 have kkR : Keep m mR [] := kk1.trans kR (by simp)
 repeat (first
  | ((first | refine W_op rfl rfl ?_ | (refine W_opgT rfl rfl ?h ?_; case h => simp only [WG, reduceIte, Nat.reduceEqDiff]; done)); simp only [WB, execE, unE, args0, reduceIte, Nat.reduceEqDiff, Nat.reduceAdd, Nat.reduceLeDiff, b3, WO, fillX, splice, Wo_some])
  | (refine W_opgF rfl rfl ?h ?_; case h => simp only [WG, reduceIte, Nat.reduceEqDiff]; done)
  | (refine W_opgU rfl ?h ?_; case h => simp only [upd_at, reduceIte, Nat.reduceEqDiff]; done) | (refine W_callN rfl ?h ?_; case h => simp only [WG, reduceIte, Nat.reduceEqDiff]; done) | simp only [WS] | refine W_regd0 ?_ | refine W_regd ?_)
 refine W_callA rfl ?hargs (call23 (s := was) (cv := cw) (Arr.keep0 hC kkR) (by omega) (by omega)) ?_
 case hargs => simp only [WB, execE, unE, args0, reduceIte, Nat.reduceEqDiff, Nat.reduceAdd, Nat.reduceLeDiff] <;> rfl
 rintro v m2 ⟨⟨cv, rfl, hF⟩, k2⟩ hs2
 obtain ⟨tc, oc, hRc, hoc⟩ := hF
 have hocv := hRc.one
 have hecv := one_cells hocv
 have n2 := k2.next
 have b4 := rd_keep b3 k2 (by omega) (by simp)
 have gB2 := k2.at (by omega) (by simp) (kR.at (by omega) (by simp) gB1)
 have gR2 := k2.at nR (by simp) gR
 have kk2 : Keep m m2 [] := kkR.trans k2 (by simp)
 have d2 : m2.ds = [] := hs2.ds.trans (dR.trans (hs1.ds.trans (dB.trans dA)))
 repeat (first
  | ((first | refine W_opS rfl rfl rfl ?_ | (refine W_opgT rfl rfl ?h ?_; case h => simp only [WG, reduceIte, Nat.reduceEqDiff]; done)); simp only [WB, execE, unE, args0, reduceIte, Nat.reduceEqDiff, Nat.reduceAdd, Nat.reduceLeDiff, stS, WO, fillX, splice, Wo_some])
  | (refine W_opgF rfl rfl ?h ?_; case h => simp only [WG, reduceIte, Nat.reduceEqDiff]; done)
  | (refine W_opgU rfl ?h ?_; case h => simp only [upd_at, reduceIte, Nat.reduceEqDiff]; done) | (refine W_callN rfl ?h ?_; case h => simp only [WG, reduceIte, Nat.reduceEqDiff]; done) | simp only [WS] | refine W_regd0 ?_ | refine W_regd ?_)
 repeat (first | simp only [WS] | refine W_regd0 ?_ | refine W_regd ?_)
 refine W_op rfl rfl ?_
 simp only [WB, execE, unE, args0, reduceIte, Nat.reduceEqDiff, Nat.reduceAdd, Nat.reduceLeDiff, hocv, hecv, WO, fillX, splice, Wo_some]
 repeat (first | rw [push_no] | rw [push_yes] | rw [W_onil])
 obtain ⟨m3, hm3, k3, _, g3, d3, _, n3⟩ := mk_put m2 [.i .i64 0, .i .i64 0, .i .i64 0, .i .i64 0, .i .i64 0, .i .i64 0, .i .i64 0, .sl none 0 0 true] [.i .i64 was.kd, .i .i64 was.nd, .i .i64 was.ph, .i .i64 was.pos, .i .i64 was.st, .i .i64 was.dp, .i .i64 was.og, cv] true true ⟨8, some 35⟩ ⟨8, some 35⟩ 8 rfl
 rw [← hm3]
 clear hm3
 obtain ⟨jc, rfl⟩ : ∃ jc, oc = some jc := by
  cases oc with
  | some jc => exact ⟨jc, rfl⟩
  | none => obtain ⟨_, _, h0⟩ := hRc; omega
 have hjc := hoc jc rfl
 have hjc2 := hRc.lt
 have n23 := k3.next
 have gR3 := k3.at (by omega) (by simp) gR2
 have b5 := rd_keep b4 k3 (by omega) (by simp)
 have gB3 := k3.at (by omega) (by simp) gB2
 have hR3 := hRc.keep k3 (by simp)
 have kk3 : Keep m m3 [] := kk2.trans k3 (by simp)
 have dd3 : m3.ds = [] := d3.trans d2
 have ho1 : Off bv m1.next := off_new hA (by omega)
 have ho2 : Off bv jc := off_new hA (by omega)
 have ho3 : Off bv m2.next := off_new hA (by omega)
 have fp3 : ∀ x ∈ [m1.next, m2.next, jc], m.next ≤ x := by
  intro x hx
  simp only [List.mem_cons, List.not_mem_nil, or_false] at hx
  omega
 have hoff : ∀ x ∈ [m1.next, m2.next, jc], Off bv x := by
  intro x hx
  simp only [List.mem_cons, List.not_mem_nil, or_false] at hx
  rcases hx with rfl | rfl | rfl
  ·exact ho1
  ·exact ho3
  ·exact ho2
 have all : ∀ {m' : AMem}, Keep m3 m' [m1.next, m2.next, jc] → Keep m m' [] ∧ Arr m' 1 bv b.length (cellsOfBytes b) ∧ rd m' m.next 0 8 = some (stS was cw) ∧ m'.get mA.next = some (.cells [.i .i64 0, .i .i64 0, .i .i64 0, .i .i64 0, .i .i64 0, .i .i64 0, .i .i64 0, .sl none 0 0 true] true ⟨8, some 35⟩) := by
  intro m' k
  refine ⟨kk3.trans k (fun x hx => .inr (fp3 x hx)), arr_off (hA.keep0 kk3) k hoff, rd_keep b5 k (by omega) ?_, k.at (by omega) ?_ gB3⟩
  ·simp only [List.mem_cons, List.not_mem_nil, or_false]; omega
  ·simp only [List.mem_cons, List.not_mem_nil, or_false]; omega
 repeat (first
  | ((first | refine W_op rfl rfl ?_ | (refine W_opgT rfl rfl ?h ?_; case h => simp only [WG, reduceIte, Nat.reduceEqDiff]; done)); simp only [WB, execE, unE, args0, reduceIte, Nat.reduceEqDiff, Nat.reduceAdd, Nat.reduceLeDiff, WO, fillX, splice, Wo_some])
  | (refine W_opgF rfl rfl ?h ?_; case h => simp only [WG, reduceIte, Nat.reduceEqDiff]; done)
  | (refine W_opgU rfl ?h ?_; case h => simp only [upd_at, reduceIte, Nat.reduceEqDiff]; done) | (refine W_callN rfl ?h ?_; case h => simp only [WG, reduceIte, Nat.reduceEqDiff]; done) | simp only [WS] | refine W_regd0 ?_ | refine W_regd ?_)
 refine W_callA rfl ?hargs (call57 (r := (a, 0)) gR3 (hA.keep0 kk3) hl ha (most := 14) (by omega)) ?_
 case hargs => simp only [WB, execE, unE, args0, reduceIte, Nat.reduceEqDiff, Nat.reduceAdd, Nat.reduceLeDiff] <;> rfl
 rintro v m4 ⟨rfl, hj4, k4, n4⟩ hs4
 unfold RdAt at hj4
 have hq4 := rnum_at (b := b) (r := (a, 0)) (most := 14) ha
 generalize hkd : rnum b (a, 0) 14 = q4 at hj4 hq4
 obtain ⟨kd, r4⟩ := q4
 simp only at hj4 hq4
 have gq4 := k4.at n3 (by simp; omega) g3
 have k34 : Keep m3 m4 [m1.next, m2.next, jc] := k4.mono (fun x hx => .inl (by simp [List.mem_singleton.1 hx]))
 repeat (first
  | ((first | refine W_opS rfl rfl rfl ?_ | (refine W_opgT rfl rfl ?h ?_; case h => simp only [WG, reduceIte, Nat.reduceEqDiff]; done)); simp only [WB, execE, unE, args0, reduceIte, Nat.reduceEqDiff, Nat.reduceAdd, Nat.reduceLeDiff, WO, fillX, splice, Wo_some])
  | (refine W_opgF rfl rfl ?h ?_; case h => simp only [WG, reduceIte, Nat.reduceEqDiff]; done)
  | (refine W_opgU rfl ?h ?_; case h => simp only [upd_at, reduceIte, Nat.reduceEqDiff]; done) | (refine W_callN rfl ?h ?_; case h => simp only [WG, reduceIte, Nat.reduceEqDiff]; done) | simp only [WS] | refine W_regd0 ?_ | refine W_regd ?_)
 repeat (first | simp only [WS] | refine W_regd0 ?_ | refine W_regd ?_)
 refine W_op rfl rfl ?_
 simp only [WB, execE, unE, args0, reduceIte, Nat.reduceEqDiff, Nat.reduceAdd, Nat.reduceLeDiff, gq4, WO, fillX, splice, Wo_some]
 repeat (first | rw [push_no] | rw [push_yes] | rw [W_onil])
 obtain ⟨m5, hm5⟩ : ∃ m5 : AMem, m5 = m4.put m2.next (some (.cells [.i .i64 (kd : Int), .i .i64 was.nd, .i .i64 was.ph, .i .i64 was.pos, .i .i64 was.st, .i .i64 was.dp, .i .i64 was.og, cv] true ⟨8, some 35⟩)) := ⟨_, rfl⟩
 have k35 : Keep m3 m5 [m1.next, m2.next, jc] := by
  rw [hm5]; exact k34.trans (Keep.put _ _ _) (fun x hx => .inl (by simp [List.mem_singleton.1 hx]))
 have gq5 : m5.get m2.next = some (.cells [.i .i64 (kd : Int), .i .i64 was.nd, .i .i64 was.ph, .i .i64 was.pos, .i .i64 was.st, .i .i64 was.dp, .i .i64 was.og, cv] true ⟨8, some 35⟩) := by rw [hm5, AMem.get_put, if_pos rfl]
 have hj5 : m5.get m1.next = some (.cells [bv, .i .i64 (r4.1 : Int), .i .i64 r4.2] true (3 : Nat)) := by rw [hm5, AMem.get_put, if_neg (by omega)]; exact hj4
 have hR5 : RowE m5 1 tc cv (some jc) was.caps.length (ints was.caps) := by
  rw [hm5]; exact (hR3.keep k4 (fun x hx hm => by cases hx; have := List.mem_singleton.1 hm; omega)).keep (Keep.put _ _ _) (fun x hx hm => by cases hx; have := List.mem_singleton.1 hm; omega)
 have d5 : m5.ds = [] := by rw [hm5]; exact hs4.ds.trans dd3
 have nn5 : m5.next = m3.next := by rw [hm5]; exact n4
 rw [← hm5]
 clear hm5 gq4 k34 hj4
 obtain ⟨kk5, hA5, _, _⟩ := all k35
 repeat (first
  | ((first | refine W_op rfl rfl ?_ | (refine W_opgT rfl rfl ?h ?_; case h => simp only [WG, reduceIte, Nat.reduceEqDiff]; done)); simp only [WB, execE, unE, args0, reduceIte, Nat.reduceEqDiff, Nat.reduceAdd, Nat.reduceLeDiff, WO, fillX, splice, Wo_some])
  | (refine W_opgF rfl rfl ?h ?_; case h => simp only [WG, reduceIte, Nat.reduceEqDiff]; done)
  | (refine W_opgU rfl ?h ?_; case h => simp only [upd_at, reduceIte, Nat.reduceEqDiff]; done) | (refine W_callN rfl ?h ?_; case h => simp only [WG, reduceIte, Nat.reduceEqDiff]; done) | simp only [WS] | refine W_regd0 ?_ | refine W_regd ?_)
 refine W_callA rfl ?hargs (call57 (r := r4) hj5 hA5 hl hq4.2.1 (most := 127) (by omega)) ?_
 case hargs => simp only [WB, execE, unE, args0, reduceIte, Nat.reduceEqDiff, Nat.reduceAdd, Nat.reduceLeDiff] <;> rfl
 rintro v m6 ⟨rfl, hj6, k6, n6⟩ hs6
 unfold RdAt at hj6
 have hq6 := rnum_at (b := b) (r := r4) (most := 127) hq4.2.1
 generalize hmk : rnum b r4 127 = q6 at hj6 hq6
 obtain ⟨mk, r6⟩ := q6
 simp only at hj6 hq6
 have gq6 := k6.at (by omega) (by simp; omega) gq5
 have hR6 := hR5.keep k6 (fun x hx hm => by cases hx; have := List.mem_singleton.1 hm; omega)
 have k36 : Keep m3 m6 [m1.next, m2.next, jc] := k35.trans k6 (fun x hx => .inl (by simp [List.mem_singleton.1 hx]))
 have d6 : m6.ds = [] := hs6.ds.trans d5
 have nn6 : m6.next = m3.next := n6.trans nn5
 repeat (first
  | ((first | refine W_op rfl rfl ?_ | (refine W_opgT rfl rfl ?h ?_; case h => simp only [WG, reduceIte, Nat.reduceEqDiff]; done)); simp only [WB, execE, unE, args0, reduceIte, Nat.reduceEqDiff, Nat.reduceAdd, Nat.reduceLeDiff, WO, fillX, splice, Wo_some])
  | (refine W_opgF rfl rfl ?h ?_; case h => simp only [WG, reduceIte, Nat.reduceEqDiff]; done)
  | (refine W_opgU rfl ?h ?_; case h => simp only [upd_at, reduceIte, Nat.reduceEqDiff]; done) | (refine W_callN rfl ?h ?_; case h => simp only [WG, reduceIte, Nat.reduceEqDiff]; done) | simp only [WS] | refine W_regd0 ?_ | refine W_regd ?_)
 refine W_cutQ [_, _] (fun g' m' => ∃ (fs : List Int) (r' : Rd), fs.length = 6 ∧ g' 2 = .i .i64 (a : Int) ∧ g' 3 = .p (some (m.next, 0)) ∧ g' 6 = .p (some (mA.next, 0)) ∧ g' 9 = .p (some (m1.next, 0)) ∧ g' 10 = .p (some (m2.next, 0)) ∧ g' 11 = .i .i64 (mk : Int) ∧ m'.get m1.next = some (.cells [bv, .i .i64 (r'.1 : Int), .i .i64 r'.2] true (3 : Nat)) ∧ m'.get m2.next = some (.cells (.i .i64 (kd : Int) :: (ints fs ++ [cv])) true ⟨8, some 35⟩) ∧ rflds b mk 0 was.fl r6 = (fs, r') ∧ r'.1 ≤ b.length ∧ RowE m' 1 tc cv (some jc) was.caps.length (ints was.caps) ∧ Keep m3 m' [m1.next, m2.next, jc] ∧ m'.next = m3.next ∧ m'.ds = []) ?_ ?_
 ·simp only [List.cons_append, List.nil_append]
  refine W_loop (fun q g' m' => ∃ (i : Nat) (fs : List Int) (r' : Rd), i ≤ 6 ∧ q = 6 - i ∧ fs.length = 6 ∧ g' 2 = .i .i64 (a : Int) ∧ g' 3 = .p (some (m.next, 0)) ∧ g' 6 = .p (some (mA.next, 0)) ∧ g' 9 = .p (some (m1.next, 0)) ∧ g' 10 = .p (some (m2.next, 0)) ∧ g' 11 = .i .i64 (mk : Int) ∧ g' 44 = .agg [.p (some (m2.next, 1)), .p (some (m2.next, 2)), .p (some (m2.next, 3)), .p (some (m2.next, 4)), .p (some (m2.next, 5)), .p (some (m2.next, 6))] ∧ g' 45 = .i .i64 (i : Int) ∧ m'.get m1.next = some (.cells [bv, .i .i64 (r'.1 : Int), .i .i64 r'.2] true (3 : Nat)) ∧ m'.get m2.next = some (.cells (.i .i64 (kd : Int) :: (ints fs ++ [cv])) true ⟨8, some 35⟩) ∧ rflds b mk 0 was.fl r6 = (fs.take i ++ (rflds b mk i (fs.drop i) r').1, (rflds b mk i (fs.drop i) r').2) ∧ r'.1 ≤ b.length ∧ RowE m' 1 tc cv (some jc) was.caps.length (ints was.caps) ∧ Keep m3 m' [m1.next, m2.next, jc] ∧ m'.next = m3.next ∧ m'.ds = []) 6 ?_ ?_ ?_
  ·refine ⟨0, was.fl, r6, by omega, rfl, rfl, ?_, ?_, ?_, ?_, ?_, ?_, ?_, ?_, hj6, gq6, by simp, hq6.2.1, hR6, k36, nn6, d6⟩
   ·skip
    simp only [WT, reduceIte, Nat.reduceEqDiff, args0]
   ·skip
    simp only [WT, reduceIte, Nat.reduceEqDiff, args0]
   ·skip
    simp only [WT, reduceIte, Nat.reduceEqDiff, args0]
   ·skip
    simp only [WT, reduceIte, Nat.reduceEqDiff, args0]
   ·skip
    simp only [WT, reduceIte, Nat.reduceEqDiff, args0]
   ·skip
    simp only [WT, reduceIte, Nat.reduceEqDiff, args0]
   ·skip
    simp only [WT, reduceIte, Nat.reduceEqDiff, args0]
   ·skip
    simp only [WT, reduceIte, Nat.reduceEqDiff, args0, Int.ofNat_zero]
    try rfl
  ·intro i hi
   repeat (first | exact args0_un (Nat.le_of_ble_eq_true rfl) i hi | refine upd_un ?_ rfl i hi; clear i hi; intro i hi)
  ·rintro q g m7 ⟨i, fs, r7, hi, rfl, hfl, q2, q3, q6, q9, q10, q11, q44, q45, hj7, gq7, hfs, har7, hR7, k37, nn7, d7⟩ hg
   by_cases hlt : i < 6
   ·have e1 : decide ((i : Int) < 6) = true := decide_eq_true (by omega)
    have hwi : IntKind.i64.wrap ((i : Int) + 1) = ((i + 1 : Nat) : Int) := wr_i64 (n := (i : Int) + 1) (by omega) (by omega)
    obtain ⟨x, hx⟩ : ∃ x, fs[i]? = some x := ⟨_, List.getElem?_eq_getElem (by omega)⟩
    have hdx : fs.drop i = x :: fs.drop (i + 1) := by
     rw [List.drop_eq_getElem_cons (by omega)]; congr 1
     rw [List.getElem?_eq_getElem (by omega)] at hx; exact Option.some.inj hx
    have htx : fs.take (i + 1) = fs.take i ++ [x] := by rw [List.take_add_one, hx]; rfl
    have hptr := ptr_at (q := m2.next) hlt
    have hix : (0 ≤ (i : Int) ∧ (i : Int) < ((6 : Nat) : Int)) := ⟨by omega, by omega⟩
    have hnn : ((i : Int) < 0) = False := by simp
    have hmin : min i 64 = i := by omega
    have hsh := shr_nat mk i
    rw [hmin] at hsh
    have hdiv : mk / 2 ^ i < 128 := Nat.lt_of_le_of_lt (Nat.div_le_self _ _) (by omega)
    have hand := and_one hdiv
    rw [hdx] at hfs
    simp only [rflds] at hfs
    by_cases hbit : mk / 2 ^ i % 2 = 1
    ·have e2 : (((mk / 2 ^ i % 2 : Nat) : Int) == 1) = true := by rw [hbit]; rfl
     rw [if_pos hbit] at hfs
     have hcell := cell_fs (k := (kd : Int)) (cv := cv) hx
     repeat (first
      | ((first | refine W_op rfl rfl ?_ | (refine W_opgT rfl rfl ?h ?_; case h => simp only [WG, reduceIte, Nat.reduceEqDiff]; done)); simp only [WB, execE, unE, args0, reduceIte, Nat.reduceEqDiff, Nat.reduceAdd, Nat.reduceLeDiff, q45, e1, binE, isShift, intBin, WO, fillX, splice, Wo_some])
      | (refine W_opgF rfl rfl ?h ?_; case h => simp only [WG, reduceIte, Nat.reduceEqDiff]; done)
      | (refine W_opgU rfl ?h ?_; case h => simp only [upd_at, reduceIte, Nat.reduceEqDiff]; done) | (refine W_callN rfl ?h ?_; case h => simp only [WG, reduceIte, Nat.reduceEqDiff]; done) | simp only [WS] | refine W_regd0 ?_ | refine W_regd ?_)
     refine W_cond ?_
     simp only [WB, execE, unE, args0, reduceIte, Nat.reduceEqDiff, Nat.reduceAdd, Nat.reduceLeDiff, WC]
     repeat (first
      | ((first | refine W_op rfl rfl ?_ | (refine W_opgT rfl rfl ?h ?_; case h => simp only [WG, reduceIte, Nat.reduceEqDiff]; done)); simp only [WB, execE, unE, args0, reduceIte, Nat.reduceEqDiff, Nat.reduceAdd, Nat.reduceLeDiff, q11, q44, q45, hix, Int.toNat_natCast, Nat.mul_one, hptr, hnn, hsh, hand, e2, Bool.true_or, binE, isShift, intBin, WO, fillX, splice, Wo_some])
      | (refine W_opgF rfl rfl ?h ?_; case h => simp only [WG, reduceIte, Nat.reduceEqDiff]; done)
      | (refine W_opgU rfl ?h ?_; case h => simp only [upd_at, reduceIte, Nat.reduceEqDiff]; done) | (refine W_callN rfl ?h ?_; case h => simp only [WG, reduceIte, Nat.reduceEqDiff]; done) | simp only [WS] | refine W_regd0 ?_ | refine W_regd ?_)
     refine W_cond ?_
     simp only [WB, execE, unE, args0, reduceIte, Nat.reduceEqDiff, Nat.reduceAdd, Nat.reduceLeDiff, WC]
     repeat (first
      | ((first | refine W_op rfl rfl ?_ | (refine W_opgT rfl rfl ?h ?_; case h => simp only [WG, reduceIte, Nat.reduceEqDiff]; done)); simp only [WB, execE, unE, args0, reduceIte, Nat.reduceEqDiff, Nat.reduceAdd, Nat.reduceLeDiff, q9, gq7, hcell, WO, fillX, splice, Wo_some])
      | (refine W_opgF rfl rfl ?h ?_; case h => simp only [WG, reduceIte, Nat.reduceEqDiff]; done)
      | (refine W_opgU rfl ?h ?_; case h => simp only [upd_at, reduceIte, Nat.reduceEqDiff]; done) | (refine W_callN rfl ?h ?_; case h => simp only [WG, reduceIte, Nat.reduceEqDiff]; done) | simp only [WS] | refine W_regd0 ?_ | refine W_regd ?_)
     obtain ⟨kk7, hA7, _, _⟩ := all k37
     refine W_callA rfl ?hargs (call58 (r := r7) hj7 hA7 hl har7 x) ?_
     case hargs => simp only [WB, execE, unE, args0, reduceIte, Nat.reduceEqDiff, Nat.reduceAdd, Nat.reduceLeDiff] <;> rfl
     rintro v m8 ⟨rfl, hj8, k8, n8⟩ hs8
     unfold RdAt at hj8
     have hm8 := rmore_at (b := b) (r := r7) (w := x) har7
     generalize hpp : rmore b r7 x = pp at hj8 hm8 hfs
     obtain ⟨y, r8⟩ := pp
     simp only at hj8 hm8 hfs
     have gq8 := k8.at (by omega) (by simp; omega) gq7
     have hR8 := hR7.keep k8 (fun z hz hm => by cases hz; have := List.mem_singleton.1 hm; omega)
     have k38 : Keep m3 m8 [m1.next, m2.next, jc] := k37.trans k8 (fun z hz => .inl (by simp [List.mem_singleton.1 hz]))
     repeat (first
      | ((first | refine W_opS rfl rfl rfl ?_ | (refine W_opgT rfl rfl ?h ?_; case h => simp only [WG, reduceIte, Nat.reduceEqDiff]; done)); simp only [WB, execE, unE, args0, reduceIte, Nat.reduceEqDiff, Nat.reduceAdd, Nat.reduceLeDiff, WO, fillX, splice, Wo_some])
      | (refine W_opgF rfl rfl ?h ?_; case h => simp only [WG, reduceIte, Nat.reduceEqDiff]; done)
      | (refine W_opgU rfl ?h ?_; case h => simp only [upd_at, reduceIte, Nat.reduceEqDiff]; done) | (refine W_callN rfl ?h ?_; case h => simp only [WG, reduceIte, Nat.reduceEqDiff]; done) | simp only [WS] | refine W_regd0 ?_ | refine W_regd ?_)
     refine W_set1 (j := m2.next) (p := i + 1) (v := .i .i64 y) ?hpa ?hpx rfl gq8 (by simp [ints]; omega) ?_
     case hpa =>
      simp only [WB, execE, unE, args0, reduceIte, Nat.reduceEqDiff, Nat.reduceAdd, Nat.reduceLeDiff]
     case hpx =>
      simp only [WB, execE, unE, args0, reduceIte, Nat.reduceEqDiff, Nat.reduceAdd, Nat.reduceLeDiff]
     rw [set_fs (by omega) y]
     repeat (first
      | ((first | refine W_op rfl rfl ?_ | (refine W_opgT rfl rfl ?h ?_; case h => simp only [WG, reduceIte, Nat.reduceEqDiff]; done)); simp only [WB, execE, unE, args0, reduceIte, Nat.reduceEqDiff, Nat.reduceAdd, Nat.reduceLeDiff, q45, hwi, binE, isShift, intBin, WO, fillX, splice, Wo_some])
      | (refine W_opgF rfl rfl ?h ?_; case h => simp only [WG, reduceIte, Nat.reduceEqDiff]; done)
      | (refine W_opgU rfl ?h ?_; case h => simp only [upd_at, reduceIte, Nat.reduceEqDiff]; done) | (refine W_callN rfl ?h ?_; case h => simp only [WG, reduceIte, Nat.reduceEqDiff]; done) | simp only [WS] | refine W_regd0 ?_ | refine W_regd ?_)
     refine W_j (by repeat (first | exact hg | exact args0_un (Nat.le_of_ble_eq_true rfl) | refine upd_un ?_ rfl)) ?_
     refine ⟨6 - (i + 1), by omega, i + 1, fs.set i y, r8, by omega, rfl, by rw [List.length_set]; exact hfl, ?_, ?_, ?_, ?_, ?_, ?_, ?_, ?_, ?_, ?_, ?_, hm8.2, ?_, ?_, ?_, hs8.ds.trans d7⟩
     ·skip
      simp only [WT, reduceIte, Nat.reduceEqDiff, args0, q2]
     ·skip
      simp only [WT, reduceIte, Nat.reduceEqDiff, args0, q3]
     ·skip
      simp only [WT, reduceIte, Nat.reduceEqDiff, args0, q6]
     ·skip
      simp only [WT, reduceIte, Nat.reduceEqDiff, args0, q9]
     ·skip
      simp only [WT, reduceIte, Nat.reduceEqDiff, args0, q10]
     ·skip
      simp only [WT, reduceIte, Nat.reduceEqDiff, args0, q11]
     ·skip
      simp only [WT, reduceIte, Nat.reduceEqDiff, args0, q44]
     ·skip
      simp only [WT, reduceIte, Nat.reduceEqDiff, args0]
     ·rw [AMem.get_put, if_neg (by omega)]; exact hj8
     ·rw [AMem.get_put, if_pos rfl]
     ·rw [take_set_succ _ _ _ (by omega), drop_set_succ, hfs]
      simp
     ·exact hR8.keep (Keep.put _ _ _) (fun z hz hm => by cases hz; have := List.mem_singleton.1 hm; omega)
     ·exact k38.trans (Keep.put _ _ _) (fun z hz => .inl (by simp [List.mem_singleton.1 hz]))
     ·exact n8.trans nn7
    ·have e2 : (((mk / 2 ^ i % 2 : Nat) : Int) == 1) = false := by simp only [beq_eq_false_iff_ne]; omega
     rw [if_neg hbit] at hfs
     repeat (first
      | ((first | refine W_op rfl rfl ?_ | (refine W_opgT rfl rfl ?h ?_; case h => simp only [WG, reduceIte, Nat.reduceEqDiff]; done)); simp only [WB, execE, unE, args0, reduceIte, Nat.reduceEqDiff, Nat.reduceAdd, Nat.reduceLeDiff, q45, e1, binE, isShift, intBin, WO, fillX, splice, Wo_some])
      | (refine W_opgF rfl rfl ?h ?_; case h => simp only [WG, reduceIte, Nat.reduceEqDiff]; done)
      | (refine W_opgU rfl ?h ?_; case h => simp only [upd_at, reduceIte, Nat.reduceEqDiff]; done) | (refine W_callN rfl ?h ?_; case h => simp only [WG, reduceIte, Nat.reduceEqDiff]; done) | simp only [WS] | refine W_regd0 ?_ | refine W_regd ?_)
     refine W_cond ?_
     simp only [WB, execE, unE, args0, reduceIte, Nat.reduceEqDiff, Nat.reduceAdd, Nat.reduceLeDiff, WC]
     repeat (first
      | ((first | refine W_op rfl rfl ?_ | (refine W_opgT rfl rfl ?h ?_; case h => simp only [WG, reduceIte, Nat.reduceEqDiff]; done)); simp only [WB, execE, unE, args0, reduceIte, Nat.reduceEqDiff, Nat.reduceAdd, Nat.reduceLeDiff, q11, q44, q45, hix, Int.toNat_natCast, Nat.mul_one, hptr, hnn, hsh, hand, e2, Bool.true_or, binE, isShift, intBin, WO, fillX, splice, Wo_some])
      | (refine W_opgF rfl rfl ?h ?_; case h => simp only [WG, reduceIte, Nat.reduceEqDiff]; done)
      | (refine W_opgU rfl ?h ?_; case h => simp only [upd_at, reduceIte, Nat.reduceEqDiff]; done) | (refine W_callN rfl ?h ?_; case h => simp only [WG, reduceIte, Nat.reduceEqDiff]; done) | simp only [WS] | refine W_regd0 ?_ | refine W_regd ?_)
     refine W_cond ?_
     simp only [WB, execE, unE, args0, reduceIte, Nat.reduceEqDiff, Nat.reduceAdd, Nat.reduceLeDiff, WC]
     repeat (first
      | ((first | refine W_op rfl rfl ?_ | (refine W_opgT rfl rfl ?h ?_; case h => simp only [WG, reduceIte, Nat.reduceEqDiff]; done)); simp only [WB, execE, unE, args0, reduceIte, Nat.reduceEqDiff, Nat.reduceAdd, Nat.reduceLeDiff, q45, hwi, binE, isShift, intBin, WO, fillX, splice, Wo_some])
      | (refine W_opgF rfl rfl ?h ?_; case h => simp only [WG, reduceIte, Nat.reduceEqDiff]; done)
      | (refine W_opgU rfl ?h ?_; case h => simp only [upd_at, reduceIte, Nat.reduceEqDiff]; done) | (refine W_callN rfl ?h ?_; case h => simp only [WG, reduceIte, Nat.reduceEqDiff]; done) | simp only [WS] | refine W_regd0 ?_ | refine W_regd ?_)
     refine W_j (by repeat (first | exact hg | exact args0_un (Nat.le_of_ble_eq_true rfl) | refine upd_un ?_ rfl)) ?_
     refine ⟨6 - (i + 1), by omega, i + 1, fs, r7, by omega, rfl, hfl, ?_, ?_, ?_, ?_, ?_, ?_, ?_, ?_, hj7, gq7, ?_, har7, hR7, k37, nn7, d7⟩
     ·skip
      simp only [WT, reduceIte, Nat.reduceEqDiff, args0, q2]
     ·skip
      simp only [WT, reduceIte, Nat.reduceEqDiff, args0, q3]
     ·skip
      simp only [WT, reduceIte, Nat.reduceEqDiff, args0, q6]
     ·skip
      simp only [WT, reduceIte, Nat.reduceEqDiff, args0, q9]
     ·skip
      simp only [WT, reduceIte, Nat.reduceEqDiff, args0, q10]
     ·skip
      simp only [WT, reduceIte, Nat.reduceEqDiff, args0, q11]
     ·skip
      simp only [WT, reduceIte, Nat.reduceEqDiff, args0, q44]
     ·skip
      simp only [WT, reduceIte, Nat.reduceEqDiff, args0]
     ·rw [htx, hfs]
      simp
   ·have e1 : decide ((i : Int) < 6) = false := decide_eq_false (by omega)
    have hdx : fs.drop i = [] := List.drop_of_length_le (by omega)
    have htx : fs.take i = fs := List.take_of_length_le (by omega)
    rw [hdx, htx] at hfs
    simp only [rflds, List.append_nil] at hfs
    repeat (first
     | ((first | refine W_op rfl rfl ?_ | (refine W_opgT rfl rfl ?h ?_; case h => simp only [WG, reduceIte, Nat.reduceEqDiff]; done)); simp only [WB, execE, unE, args0, reduceIte, Nat.reduceEqDiff, Nat.reduceAdd, Nat.reduceLeDiff, q45, e1, binE, isShift, intBin, WO, fillX, splice, Wo_some])
     | (refine W_opgF rfl rfl ?h ?_; case h => simp only [WG, reduceIte, Nat.reduceEqDiff]; done)
     | (refine W_opgU rfl ?h ?_; case h => simp only [upd_at, reduceIte, Nat.reduceEqDiff]; done) | (refine W_callN rfl ?h ?_; case h => simp only [WG, reduceIte, Nat.reduceEqDiff]; done) | simp only [WS] | refine W_regd0 ?_ | refine W_regd ?_)
    refine W_cond ?_
    simp only [WB, execE, unE, args0, reduceIte, Nat.reduceEqDiff, Nat.reduceAdd, Nat.reduceLeDiff, WC]
    refine W_exit rfl ?_
    refine W_j (by repeat (first | exact hg | exact args0_un (Nat.le_of_ble_eq_true rfl) | refine upd_un ?_ rfl)) ?_
    exact ⟨fs, r7, hfl, q2, q3, q6, q9, q10, q11, hj7, gq7, hfs, har7, hR7, k37, nn7, d7⟩
 rintro g m7 ⟨fs, r7, hfl, q2, q3, q6, q9, q10, q11, hj7, gq7, hfs, har7, hR7, k37, nn7, d7⟩ hg
 obtain ⟨f0, f1, f2, f3, f4, f5, rfl⟩ := six hfl
 have gq7' : m7.get m2.next = some (.cells [.i .i64 (kd : Int), .i .i64 f0, .i .i64 f1, .i .i64 f2, .i .i64 f3, .i .i64 f4, .i .i64 f5, cv] true ⟨8, some 35⟩) := gq7
 have hand := and_bits (k := mk) (by omega)
 rw [W_seq]
 refine W_cutQ [_] (fun g' m' => ∃ (caps : List Int) (r' : Rd), g' 2 = .i .i64 (a : Int) ∧ g' 3 = .p (some (m.next, 0)) ∧ g' 6 = .p (some (mA.next, 0)) ∧ g' 9 = .p (some (m1.next, 0)) ∧ g' 10 = .p (some (m2.next, 0)) ∧ m'.get m1.next = some (.cells [bv, .i .i64 (r'.1 : Int), .i .i64 r'.2] true (3 : Nat)) ∧ m'.get m2.next = some (.cells [.i .i64 (kd : Int), .i .i64 f0, .i .i64 f1, .i .i64 f2, .i .i64 f3, .i .i64 f4, .i .i64 f5, cv] true ⟨8, some 35⟩) ∧ (if mk / 64 % 2 = 1 then places b r7 was.caps else (was.caps, r7)) = (caps, r') ∧ r'.1 ≤ b.length ∧ a ≤ r'.1 ∧ caps.length = was.caps.length ∧ RowE m' 1 tc cv (some jc) was.caps.length (ints caps) ∧ Keep m3 m' [m1.next, m2.next, jc] ∧ m'.next = m3.next ∧ m'.ds = []) ?_ ?_
 ·simp only [List.cons_append, List.nil_append]
  have hr67 := rflds_at (b := b) (mask := mk) was.fl 0 r6 hq6.2.1
  rw [hfs] at hr67
  simp only at hr67
  by_cases hb64 : mk / 64 % 2 = 1
  ·have e1 : (((mk / 64 % 2 * 64 : Nat) : Int) != 0) = true := by rw [hb64]; rfl
   repeat (first
    | ((first | refine W_op rfl rfl ?_ | (refine W_opgT rfl rfl ?h ?_; case h => simp only [WG, reduceIte, Nat.reduceEqDiff]; done)); simp only [WB, execE, unE, args0, reduceIte, Nat.reduceEqDiff, Nat.reduceAdd, Nat.reduceLeDiff, q11, hand, e1, binE, isShift, intBin, WO, fillX, splice, Wo_some])
    | (refine W_opgF rfl rfl ?h ?_; case h => simp only [WG, reduceIte, Nat.reduceEqDiff]; done)
    | (refine W_opgU rfl ?h ?_; case h => simp only [upd_at, reduceIte, Nat.reduceEqDiff]; done) | (refine W_callN rfl ?h ?_; case h => simp only [WG, reduceIte, Nat.reduceEqDiff]; done) | simp only [WS] | refine W_regd0 ?_ | refine W_regd ?_)
   refine W_cond ?_
   simp only [WB, execE, unE, args0, reduceIte, Nat.reduceEqDiff, Nat.reduceAdd, Nat.reduceLeDiff, WC]
   repeat (first
    | ((first | refine W_op rfl rfl ?_ | (refine W_opgT rfl rfl ?h ?_; case h => simp only [WG, reduceIte, Nat.reduceEqDiff]; done)); simp only [WB, execE, unE, args0, reduceIte, Nat.reduceEqDiff, Nat.reduceAdd, Nat.reduceLeDiff, q9, q10, gq7', WO, fillX, splice, Wo_some])
    | (refine W_opgF rfl rfl ?h ?_; case h => simp only [WG, reduceIte, Nat.reduceEqDiff]; done)
    | (refine W_opgU rfl ?h ?_; case h => simp only [upd_at, reduceIte, Nat.reduceEqDiff]; done) | (refine W_callN rfl ?h ?_; case h => simp only [WG, reduceIte, Nat.reduceEqDiff]; done) | simp only [WS] | refine W_regd0 ?_ | refine W_regd ?_)
   obtain ⟨kk7, hA7, _, _⟩ := all k37
   refine W_callA rfl ?hargs (call59 (r := r7) hj7 (by omega) hA7 ho1 ho2 hl har7 hR7 (by omega) (by omega)) ?_
   case hargs => simp only [WB, execE, unE, args0, reduceIte, Nat.reduceEqDiff, Nat.reduceAdd, Nat.reduceLeDiff] <;> rfl
   rintro v m8 ⟨hj8, hR8, k8, n8⟩ hs8
   unfold RdAt at hj8
   have hp8 := places_at (b := b) (r := r7) (l := was.caps) har7
   generalize hpp : places b r7 was.caps = pp at hj8 hR8 hp8
   obtain ⟨caps, r8⟩ := pp
   simp only at hj8 hR8 hp8
   have gq8 := k8.at (by omega) (by simp only [List.mem_cons, List.not_mem_nil, or_false]; omega) gq7'
   repeat (first
    | ((first | refine W_op rfl rfl ?_ | (refine W_opgT rfl rfl ?h ?_; case h => simp only [WG, reduceIte, Nat.reduceEqDiff]; done)); simp only [WB, execE, unE, args0, reduceIte, Nat.reduceEqDiff, Nat.reduceAdd, Nat.reduceLeDiff, WO, fillX, splice, Wo_some])
    | (refine W_opgF rfl rfl ?h ?_; case h => simp only [WG, reduceIte, Nat.reduceEqDiff]; done)
    | (refine W_opgU rfl ?h ?_; case h => simp only [upd_at, reduceIte, Nat.reduceEqDiff]; done) | (refine W_callN rfl ?h ?_; case h => simp only [WG, reduceIte, Nat.reduceEqDiff]; done) | simp only [WS] | refine W_regd0 ?_ | refine W_regd ?_)
   refine W_j (by repeat (first | exact hg | exact args0_un (Nat.le_of_ble_eq_true rfl) | refine upd_un ?_ rfl)) ?_
   refine ⟨caps, r8, ?_, ?_, ?_, ?_, ?_, hj8, gq8, by rw [if_pos hb64], hp8.2.1, by omega, hp8.2.2, hR8, ?_, n8.trans nn7, hs8.ds.trans d7⟩
   ·skip
    simp only [WT, reduceIte, Nat.reduceEqDiff, args0, q2]
   ·skip
    simp only [WT, reduceIte, Nat.reduceEqDiff, args0, q3]
   ·skip
    simp only [WT, reduceIte, Nat.reduceEqDiff, args0, q6]
   ·skip
    simp only [WT, reduceIte, Nat.reduceEqDiff, args0, q9]
   ·skip
    simp only [WT, reduceIte, Nat.reduceEqDiff, args0, q10]
   ·exact k37.trans k8 (fun z hz => .inl (by simp only [List.mem_cons, List.not_mem_nil, or_false] at hz ⊢; omega))
  ·have e1 : (((mk / 64 % 2 * 64 : Nat) : Int) != 0) = false := by
    have : mk / 64 % 2 = 0 := by omega
    rw [this]; rfl
   repeat (first
    | ((first | refine W_op rfl rfl ?_ | (refine W_opgT rfl rfl ?h ?_; case h => simp only [WG, reduceIte, Nat.reduceEqDiff]; done)); simp only [WB, execE, unE, args0, reduceIte, Nat.reduceEqDiff, Nat.reduceAdd, Nat.reduceLeDiff, q11, hand, e1, binE, isShift, intBin, WO, fillX, splice, Wo_some])
    | (refine W_opgF rfl rfl ?h ?_; case h => simp only [WG, reduceIte, Nat.reduceEqDiff]; done)
    | (refine W_opgU rfl ?h ?_; case h => simp only [upd_at, reduceIte, Nat.reduceEqDiff]; done) | (refine W_callN rfl ?h ?_; case h => simp only [WG, reduceIte, Nat.reduceEqDiff]; done) | simp only [WS] | refine W_regd0 ?_ | refine W_regd ?_)
   refine W_cond ?_
   simp only [WB, execE, unE, args0, reduceIte, Nat.reduceEqDiff, Nat.reduceAdd, Nat.reduceLeDiff, WC]
   repeat (first
    | ((first | refine W_op rfl rfl ?_ | (refine W_opgT rfl rfl ?h ?_; case h => simp only [WG, reduceIte, Nat.reduceEqDiff]; done)); simp only [WB, execE, unE, args0, reduceIte, Nat.reduceEqDiff, Nat.reduceAdd, Nat.reduceLeDiff, WO, fillX, splice, Wo_some])
    | (refine W_opgF rfl rfl ?h ?_; case h => simp only [WG, reduceIte, Nat.reduceEqDiff]; done)
    | (refine W_opgU rfl ?h ?_; case h => simp only [upd_at, reduceIte, Nat.reduceEqDiff]; done) | (refine W_callN rfl ?h ?_; case h => simp only [WG, reduceIte, Nat.reduceEqDiff]; done) | simp only [WS] | refine W_regd0 ?_ | refine W_regd ?_)
   refine W_j (by repeat (first | exact hg | exact args0_un (Nat.le_of_ble_eq_true rfl) | refine upd_un ?_ rfl)) ?_
   refine ⟨was.caps, r7, ?_, ?_, ?_, ?_, ?_, hj7, gq7', by rw [if_neg hb64], har7, by omega, rfl, hR7, k37, nn7, d7⟩
   ·skip
    simp only [WT, reduceIte, Nat.reduceEqDiff, args0, q2]
   ·skip
    simp only [WT, reduceIte, Nat.reduceEqDiff, args0, q3]
   ·skip
    simp only [WT, reduceIte, Nat.reduceEqDiff, args0, q6]
   ·skip
    simp only [WT, reduceIte, Nat.reduceEqDiff, args0, q9]
   ·skip
    simp only [WT, reduceIte, Nat.reduceEqDiff, args0, q10]
 clear hj7 gq7 gq7' hR7 k37 nn7 d7 q2 q3 q6 q9 q10 q11 hg g m7
 rintro g m8 ⟨caps, r8, q2, q3, q6, q9, q10, hj8, gq8, hpl, har8, ha8, hcapl, hR8, k38, nn8, d8⟩ hg
 obtain ⟨kk8, hA8, b8, gB8⟩ := all k38
 have hdraw : draw was b a = (⟨(kd : Int), f0, f1, f2, f3, f4, f5, caps⟩, r8) := by
  unfold draw
  simp only [hkd, hmk, hfs, hpl]
  rfl
 have hs : ∀ e : Int, e ≠ 0 → (r8.2 = e ∨ (r8.2 = 0 ∧ e = 11 ∧ ¬ (St.rt ⟨(kd : Int), f0, f1, f2, f3, f4, f5, caps⟩ g9))) → dread was b a = (.zero, 0, e) := by
  intro e he h
  unfold dread
  simp only [hdraw, hgr]
  rcases h with h | ⟨h1, h2, h3⟩
  ·rw [if_pos (by rw [h]; exact he), h]
  ·rw [if_neg (by simpa using h1), if_pos h3, h2]
 have c8 : rd m8 m2.next 0 8 = some (stS ⟨(kd : Int), f0, f1, f2, f3, f4, f5, caps⟩ cv) := by simp [rd, gq8, stS]
 rw [W_seq]
 refine W_cutQ [_] (fun g' m' => ∃ e : Int, g' 2 = .i .i64 (a : Int) ∧ g' 6 = .p (some (mA.next, 0)) ∧ g' 9 = .p (some (m1.next, 0)) ∧ g' 10 = .p (some (m2.next, 0)) ∧ m'.get m1.next = some (.cells [bv, .i .i64 (r8.1 : Int), .i .i64 e] true (3 : Nat)) ∧ rd m' m2.next 0 8 = some (stS ⟨(kd : Int), f0, f1, f2, f3, f4, f5, caps⟩ cv) ∧ m'.get mA.next = some (.cells [.i .i64 0, .i .i64 0, .i .i64 0, .i .i64 0, .i .i64 0, .i .i64 0, .i .i64 0, .sl none 0 0 true] true ⟨8, some 35⟩) ∧ RowE m' 1 tc cv (some jc) was.caps.length (ints caps) ∧ (if e = 0 then dread was b a = (⟨(kd : Int), f0, f1, f2, f3, f4, f5, caps⟩, r8.1 - a, 0) else dread was b a = (.zero, 0, e)) ∧ Keep m m' [] ∧ m3.next ≤ m'.next ∧ m'.ds = []) ?_ ?_
 ·simp only [List.cons_append, List.nil_append]
  by_cases he : r8.2 = 0
  case neg =>
   have e1 : (r8.2 == 0) = false := by simpa using he
   repeat (first
    | ((first | refine W_op rfl rfl ?_ | (refine W_opgT rfl rfl ?h ?_; case h => simp only [WG, reduceIte, Nat.reduceEqDiff]; done)); simp only [WB, execE, unE, args0, reduceIte, Nat.reduceEqDiff, Nat.reduceAdd, Nat.reduceLeDiff, q9, q10, hj8, c8, e1, binE, isShift, intBin, WO, fillX, splice, Wo_some])
    | (refine W_opgF rfl rfl ?h ?_; case h => simp only [WG, reduceIte, Nat.reduceEqDiff]; done)
    | (refine W_opgU rfl ?h ?_; case h => simp only [upd_at, reduceIte, Nat.reduceEqDiff]; done) | (refine W_callN rfl ?h ?_; case h => simp only [WG, reduceIte, Nat.reduceEqDiff]; done) | simp only [WS] | refine W_regd0 ?_ | refine W_regd ?_)
   refine W_dnil ?hs ?hnt ?_
   case hs => (simp only [SameIn, SameAt, List.nil_append, List.cons_append, reduceCtorEq, false_and, exists_false, exists_const, false_or, or_false, Option.some.injEq, exists_eq_left', exists_eq', or_true, and_true, WB, execE, unE, args0, reduceIte, Nat.reduceEqDiff, Nat.reduceAdd, Nat.reduceLeDiff, q9, q10, hj8, c8])
   case hnt => (simp only [List.nil_append, List.cons_append, List.forall_mem_cons, List.not_mem_nil, false_imp_iff, implies_true, and_true]; repeat' (first | exact hg | exact args0_un (Nat.le_of_ble_eq_true rfl) | refine upd_un ?_ rfl | constructor))
   refine W_cond ?_
   simp only [WB, execE, unE, args0, reduceIte, Nat.reduceEqDiff, Nat.reduceAdd, Nat.reduceLeDiff, WC]
   repeat (first
    | ((first | refine W_op rfl rfl ?_ | (refine W_opgT rfl rfl ?h ?_; case h => simp only [WG, reduceIte, Nat.reduceEqDiff]; done)); simp only [WB, execE, unE, args0, reduceIte, Nat.reduceEqDiff, Nat.reduceAdd, Nat.reduceLeDiff, WO, fillX, splice, Wo_some])
    | (refine W_opgF rfl rfl ?h ?_; case h => simp only [WG, reduceIte, Nat.reduceEqDiff]; done)
    | (refine W_opgU rfl ?h ?_; case h => simp only [upd_at, reduceIte, Nat.reduceEqDiff]; done) | (refine W_callN rfl ?h ?_; case h => simp only [WG, reduceIte, Nat.reduceEqDiff]; done) | simp only [WS] | refine W_regd0 ?_ | refine W_regd ?_)
   refine W_j (by repeat (first | exact hg | exact args0_un (Nat.le_of_ble_eq_true rfl) | refine upd_un ?_ rfl)) ?_
   refine ⟨r8.2, ?_, ?_, ?_, ?_, hj8, c8, gB8, hR8, ?_, kk8, by omega, d8⟩
   ·skip
    simp only [WT, reduceIte, Nat.reduceEqDiff, args0, q2]
   ·skip
    simp only [WT, reduceIte, Nat.reduceEqDiff, args0, q6]
   ·skip
    simp only [WT, reduceIte, Nat.reduceEqDiff, args0, q9]
   ·skip
    simp only [WT, reduceIte, Nat.reduceEqDiff, args0, q10]
   ·rw [if_neg he]; exact hs _ he (.inl rfl)
  have e1 : (r8.2 == 0) = true := by simpa using he
  repeat (first
   | ((first | refine W_op rfl rfl ?_ | (refine W_opgT rfl rfl ?h ?_; case h => simp only [WG, reduceIte, Nat.reduceEqDiff]; done)); simp only [WB, execE, unE, args0, reduceIte, Nat.reduceEqDiff, Nat.reduceAdd, Nat.reduceLeDiff, q3, q9, q10, hj8, c8, b8, e1, binE, isShift, intBin, WO, fillX, splice, Wo_some])
   | (refine W_opgF rfl rfl ?h ?_; case h => simp only [WG, reduceIte, Nat.reduceEqDiff]; done)
   | (refine W_opgU rfl ?h ?_; case h => simp only [upd_at, reduceIte, Nat.reduceEqDiff]; done) | (refine W_callN rfl ?h ?_; case h => simp only [WG, reduceIte, Nat.reduceEqDiff]; done) | simp only [WS] | refine W_regd0 ?_ | refine W_regd ?_)
  refine W_callK rfl ?hg ?hargs (call61 (s := was) (cv := cw) (Arr.keep0 hC kk8) (by omega)) ?_
  case hg => (simp only [WB, execE, unE, args0, reduceIte, Nat.reduceEqDiff, Nat.reduceAdd, Nat.reduceLeDiff, WO, fillX, splice]; done)
  case hargs => simp only [WB, execE, unE, args0, reduceIte, Nat.reduceEqDiff, Nat.reduceAdd, Nat.reduceLeDiff, WO, fillX, splice] <;> rfl
  rintro v m9 ⟨rfl, k9⟩ hs9
  have c9 := rd_keep c8 k9 (by omega) (by simp)
  have hj9 := k9.at (by omega) (by simp) hj8
  have gB9 := k9.at (by omega) (by simp) gB8
  have hR9 := hR8.keep k9 (by simp)
  have n9 := k9.next
  have hCs : Cap m9 cv ⟨(kd : Int), f0, f1, f2, f3, f4, f5, caps⟩ := by
   have := hR9.arr
   rw [← hcapl] at this
   exact this
  rw [hgr]
  repeat (first
   | ((first | refine W_op rfl rfl ?_ | (refine W_opgT rfl rfl ?h ?_; case h => simp only [WG, reduceIte, Nat.reduceEqDiff]; done)); simp only [WB, execE, unE, args0, reduceIte, Nat.reduceEqDiff, Nat.reduceAdd, Nat.reduceLeDiff, WO, fillX, splice, Wo_some])
   | (refine W_opgF rfl rfl ?h ?_; case h => simp only [WG, reduceIte, Nat.reduceEqDiff]; done)
   | (refine W_opgU rfl ?h ?_; case h => simp only [upd_at, reduceIte, Nat.reduceEqDiff]; done) | (refine W_callN rfl ?h ?_; case h => simp only [WG, reduceIte, Nat.reduceEqDiff]; done) | simp only [WS] | refine W_regd0 ?_ | refine W_regd ?_)
  refine W_callK rfl ?hg ?hargs (call60 (s := ⟨(kd : Int), f0, f1, f2, f3, f4, f5, caps⟩) (cv := cv) (g := (g9 : Int)) hCs (by simp only; omega) ⟨by omega, by omega⟩ ⟨by omega, by omega⟩) ?_
  case hg => (simp only [WB, execE, unE, args0, reduceIte, Nat.reduceEqDiff, Nat.reduceAdd, Nat.reduceLeDiff, WO, fillX, splice]; done)
  case hargs => simp only [WB, execE, unE, args0, reduceIte, Nat.reduceEqDiff, Nat.reduceAdd, Nat.reduceLeDiff, WO, fillX, splice] <;> rfl
  rintro v m10 ⟨rfl, k10⟩ hs10
  have c10 := rd_keep c9 k10 (by omega) (by simp)
  have hj10 := k10.at (by omega) (by simp) hj9
  have gB10 := k10.at (by omega) (by simp) gB9
  have hR10 := hR9.keep k10 (by simp)
  have n10 := k10.next
  have d10 : m10.ds = [] := hs10.ds.trans (hs9.ds.trans d8)
  have kk10 : Keep m m10 [] := (kk8.trans k9 (by simp)).trans k10 (by simp)
  by_cases hrt : St.rt ⟨(kd : Int), f0, f1, f2, f3, f4, f5, caps⟩ g9
  ·have e2 : decide (St.rt ⟨(kd : Int), f0, f1, f2, f3, f4, f5, caps⟩ g9) = true := decide_eq_true hrt
   rw [e2]
   repeat (first
    | ((first | refine W_op rfl rfl ?_ | (refine W_opgT rfl rfl ?h ?_; case h => simp only [WG, reduceIte, Nat.reduceEqDiff]; done)); simp only [WB, execE, unE, args0, reduceIte, Nat.reduceEqDiff, Nat.reduceAdd, Nat.reduceLeDiff, WO, fillX, splice, Wo_some])
    | (refine W_opgF rfl rfl ?h ?_; case h => simp only [WG, reduceIte, Nat.reduceEqDiff]; done)
    | (refine W_opgU rfl ?h ?_; case h => simp only [upd_at, reduceIte, Nat.reduceEqDiff]; done) | (refine W_callN rfl ?h ?_; case h => simp only [WG, reduceIte, Nat.reduceEqDiff]; done) | simp only [WS] | refine W_regd0 ?_ | refine W_regd ?_)
   refine W_dnil ?hs ?hnt ?_
   case hs => (simp only [SameIn, SameAt, List.nil_append, List.cons_append, reduceCtorEq, false_and, exists_false, exists_const, false_or, or_false, Option.some.injEq, exists_eq_left', exists_eq', or_true, and_true, WB, execE, unE, args0, reduceIte, Nat.reduceEqDiff, Nat.reduceAdd, Nat.reduceLeDiff, q9, q10, hj8, c8, c9, c10])
   case hnt => (simp only [List.nil_append, List.cons_append, List.forall_mem_cons, List.not_mem_nil, false_imp_iff, implies_true, and_true]; repeat' (first | exact hg | exact args0_un (Nat.le_of_ble_eq_true rfl) | refine upd_un ?_ rfl | constructor))
   refine W_cond ?_
   simp only [WB, execE, unE, args0, reduceIte, Nat.reduceEqDiff, Nat.reduceAdd, Nat.reduceLeDiff, WC]
   repeat (first
    | ((first | refine W_op rfl rfl ?_ | (refine W_opgT rfl rfl ?h ?_; case h => simp only [WG, reduceIte, Nat.reduceEqDiff]; done)); simp only [WB, execE, unE, args0, reduceIte, Nat.reduceEqDiff, Nat.reduceAdd, Nat.reduceLeDiff, WO, fillX, splice, Wo_some])
    | (refine W_opgF rfl rfl ?h ?_; case h => simp only [WG, reduceIte, Nat.reduceEqDiff]; done)
    | (refine W_opgU rfl ?h ?_; case h => simp only [upd_at, reduceIte, Nat.reduceEqDiff]; done) | (refine W_callN rfl ?h ?_; case h => simp only [WG, reduceIte, Nat.reduceEqDiff]; done) | simp only [WS] | refine W_regd0 ?_ | refine W_regd ?_)
   refine W_j (by repeat (first | exact hg | exact args0_un (Nat.le_of_ble_eq_true rfl) | refine upd_un ?_ rfl)) ?_
   refine ⟨r8.2, ?_, ?_, ?_, ?_, hj10, c10, gB10, hR10, ?_, kk10, by omega, d10⟩
   ·skip
    simp only [WT, reduceIte, Nat.reduceEqDiff, args0, q2]
   ·skip
    simp only [WT, reduceIte, Nat.reduceEqDiff, args0, q6]
   ·skip
    simp only [WT, reduceIte, Nat.reduceEqDiff, args0, q9]
   ·skip
    simp only [WT, reduceIte, Nat.reduceEqDiff, args0, q10]
   ·rw [if_pos he]
    unfold dread
    simp only [hdraw, hgr]
    rw [if_neg (by simpa using he), if_neg (by simpa using hrt)]
  ·have e2 : decide (St.rt ⟨(kd : Int), f0, f1, f2, f3, f4, f5, caps⟩ g9) = false := decide_eq_false hrt
   rw [e2]
   repeat (first
    | ((first | refine W_op rfl rfl ?_ | (refine W_opgT rfl rfl ?h ?_; case h => simp only [WG, reduceIte, Nat.reduceEqDiff]; done)); simp only [WB, execE, unE, args0, reduceIte, Nat.reduceEqDiff, Nat.reduceAdd, Nat.reduceLeDiff, WO, fillX, splice, Wo_some])
    | (refine W_opgF rfl rfl ?h ?_; case h => simp only [WG, reduceIte, Nat.reduceEqDiff]; done)
    | (refine W_opgU rfl ?h ?_; case h => simp only [upd_at, reduceIte, Nat.reduceEqDiff]; done) | (refine W_callN rfl ?h ?_; case h => simp only [WG, reduceIte, Nat.reduceEqDiff]; done) | simp only [WS] | refine W_regd0 ?_ | refine W_regd ?_)
   refine W_dnil ?hs ?hnt ?_
   case hs => (simp only [SameIn, SameAt, List.nil_append, List.cons_append, reduceCtorEq, false_and, exists_false, exists_const, false_or, or_false, Option.some.injEq, exists_eq_left', exists_eq', or_true, and_true, WB, execE, unE, args0, reduceIte, Nat.reduceEqDiff, Nat.reduceAdd, Nat.reduceLeDiff, q9, q10, hj8, c8, c9, c10])
   case hnt => (simp only [List.nil_append, List.cons_append, List.forall_mem_cons, List.not_mem_nil, false_imp_iff, implies_true, and_true]; repeat' (first | exact hg | exact args0_un (Nat.le_of_ble_eq_true rfl) | refine upd_un ?_ rfl | constructor))
   refine W_cond ?_
   simp only [WB, execE, unE, args0, reduceIte, Nat.reduceEqDiff, Nat.reduceAdd, Nat.reduceLeDiff, WC]
   repeat (first
    | ((first | refine W_opS rfl rfl rfl ?_ | (refine W_opgT rfl rfl ?h ?_; case h => simp only [WG, reduceIte, Nat.reduceEqDiff]; done)); simp only [WB, execE, unE, args0, reduceIte, Nat.reduceEqDiff, Nat.reduceAdd, Nat.reduceLeDiff, q9, WO, fillX, splice, Wo_some])
    | (refine W_opgF rfl rfl ?h ?_; case h => simp only [WG, reduceIte, Nat.reduceEqDiff]; done)
    | (refine W_opgU rfl ?h ?_; case h => simp only [upd_at, reduceIte, Nat.reduceEqDiff]; done) | (refine W_callN rfl ?h ?_; case h => simp only [WG, reduceIte, Nat.reduceEqDiff]; done) | simp only [WS] | refine W_regd0 ?_ | refine W_regd ?_)
   repeat (first | simp only [WS] | refine W_regd0 ?_ | refine W_regd ?_)
   refine W_op rfl rfl ?_
   simp only [WB, execE, unE, args0, reduceIte, Nat.reduceEqDiff, Nat.reduceAdd, Nat.reduceLeDiff, hj10, WO, fillX, splice, Wo_some]
   repeat (first | rw [push_no] | rw [push_yes] | rw [W_onil])
   refine W_j (by repeat (first | exact hg | exact args0_un (Nat.le_of_ble_eq_true rfl) | refine upd_un ?_ rfl)) ?_
   refine ⟨11, ?_, ?_, ?_, ?_, ?_, ?_, ?_, ?_, ?_, ?_, ?_, d10⟩
   ·skip
    simp only [WT, reduceIte, Nat.reduceEqDiff, args0, q2]
   ·skip
    simp only [WT, reduceIte, Nat.reduceEqDiff, args0, q6]
   ·skip
    simp only [WT, reduceIte, Nat.reduceEqDiff, args0, q9]
   ·skip
    simp only [WT, reduceIte, Nat.reduceEqDiff, args0, q10]
   ·rw [AMem.get_put, if_pos rfl]
   ·exact rd_keep c10 (Keep.put _ _ _) (by omega) (by simp; omega)
   ·rw [AMem.get_put, if_neg (by omega)]; exact gB10
   ·exact hR10.keep (Keep.put _ _ _) (fun z hz hm => by cases hz; have := List.mem_singleton.1 hm; omega)
   ·rw [if_neg (by decide)]; exact hs 11 (by decide) (.inr ⟨he, rfl, hrt⟩)
   ·exact kk10.trans (Keep.put _ _ _) (fun z hz => .inr (by have := List.mem_singleton.1 hz; omega))
   ·show m3.next ≤ m10.next; omega
 clear hs hpl hj8 gq8 hR8 c8 b8 gB8 k38 nn8 d8 q2 q3 q6 q9 q10 hg g hA8 kk8
 rintro g m9 ⟨e, q2, q6, q9, q10, hj9, c9, gB9, hR9, hdr, kk9, n9, d9⟩ hg
 by_cases he : e = 0
 ·have e1 : (e != 0) = false := by simpa using he
  rw [if_pos he] at hdr
  have hwsub : IntKind.i64.wrap ((r8.1 : Int) - (a : Int)) = ((r8.1 - a : Nat) : Int) := by rw [wr_i64 (by omega) (by omega)]; omega
  have hone9 : (stS ⟨(kd : Int), f0, f1, f2, f3, f4, f5, caps⟩ cv).all AV.one = true := by simp [stS, hocv, one_i]
  repeat (first
   | ((first | refine W_opS rfl rfl rfl ?_ | (refine W_opgT rfl rfl ?h ?_; case h => simp only [WG, reduceIte, Nat.reduceEqDiff]; done)); simp only [WB, execE, unE, args0, reduceIte, Nat.reduceEqDiff, Nat.reduceAdd, Nat.reduceLeDiff, q9, hj9, e1, binE, isShift, intBin, WO, fillX, splice, Wo_some])
   | (refine W_opgF rfl rfl ?h ?_; case h => simp only [WG, reduceIte, Nat.reduceEqDiff]; done)
   | (refine W_opgU rfl ?h ?_; case h => simp only [upd_at, reduceIte, Nat.reduceEqDiff]; done) | (refine W_callN rfl ?h ?_; case h => simp only [WG, reduceIte, Nat.reduceEqDiff]; done) | simp only [WS] | refine W_regd0 ?_ | refine W_regd ?_)
  refine W_cond ?_
  simp only [WB, execE, unE, args0, reduceIte, Nat.reduceEqDiff, Nat.reduceAdd, Nat.reduceLeDiff, WC]
  repeat (first
   | ((first | refine W_opS rfl rfl rfl ?_ | (refine W_opgT rfl rfl ?h ?_; case h => simp only [WG, reduceIte, Nat.reduceEqDiff]; done)); simp only [WB, execE, unE, args0, reduceIte, Nat.reduceEqDiff, Nat.reduceAdd, Nat.reduceLeDiff, q2, q9, q10, hj9, c9, hwsub, binE, isShift, intBin, WO, fillX, splice, Wo_some])
   | (refine W_opgF rfl rfl ?h ?_; case h => simp only [WG, reduceIte, Nat.reduceEqDiff]; done)
   | (refine W_opgU rfl ?h ?_; case h => simp only [upd_at, reduceIte, Nat.reduceEqDiff]; done) | (refine W_callN rfl ?h ?_; case h => simp only [WG, reduceIte, Nat.reduceEqDiff]; done) | simp only [WS] | refine W_regd0 ?_ | refine W_regd ?_)
  simp only [stS]
  repeat (first | simp only [WS] | refine W_regd0 ?_ | refine W_regd ?_)
  refine W_op rfl rfl ?_
  simp only [WB, execE, unE, args0, reduceIte, Nat.reduceEqDiff, Nat.reduceAdd, Nat.reduceLeDiff, q6, gB9, hocv, WO, fillX, splice, Wo_some]
  repeat (first | rw [push_no] | rw [push_yes] | rw [W_onil])
  repeat (first
   | ((first | refine W_op rfl rfl ?_ | (refine W_opgT rfl rfl ?h ?_; case h => simp only [WG, reduceIte, Nat.reduceEqDiff]; done)); simp only [WB, execE, unE, args0, reduceIte, Nat.reduceEqDiff, Nat.reduceAdd, Nat.reduceLeDiff, WO, fillX, splice, Wo_some])
   | (refine W_opgF rfl rfl ?h ?_; case h => simp only [WG, reduceIte, Nat.reduceEqDiff]; done)
   | (refine W_opgU rfl ?h ?_; case h => simp only [upd_at, reduceIte, Nat.reduceEqDiff]; done) | (refine W_callN rfl ?h ?_; case h => simp only [WG, reduceIte, Nat.reduceEqDiff]; done) | simp only [WS] | refine W_regd0 ?_ | refine W_regd ?_)
  refine W_dnil ?hs ?hnt ?_
  case hs => (simp only [SameIn, SameAt, List.nil_append, List.cons_append, reduceCtorEq, false_and, exists_false, exists_const, false_or, or_false, Option.some.injEq, exists_eq_left', exists_eq', or_true, and_true, WB, execE, unE, args0, reduceIte, Nat.reduceEqDiff, Nat.reduceAdd, Nat.reduceLeDiff, q9, hj9, AMem.get_put, show ¬ mA.next = m1.next by omega])
  case hnt => (simp only [List.nil_append, List.cons_append, List.forall_mem_cons, List.not_mem_nil, false_imp_iff, implies_true, and_true]; repeat' (first | exact hg | exact args0_un (Nat.le_of_ble_eq_true rfl) | refine upd_un ?_ rfl | constructor))
  refine W_getRet (by repeat (first | exact hg | exact args0_un (Nat.le_of_ble_eq_true rfl) | refine upd_un ?_ rfl)) ?_
  rw [hdr]
  have kp : Keep m9 (m9.put mA.next (some (.cells [.i .i64 (kd : Int), .i .i64 f0, .i .i64 f1, .i .i64 f2, .i .i64 f3, .i .i64 f4, .i .i64 f5, cv] true ⟨8, some 35⟩))) [mA.next] := Keep.put _ _ _
  refine ⟨d9, [.agg [.i .i64 (kd : Int), .i .i64 f0, .i .i64 f1, .i .i64 f2, .i .i64 f3, .i .i64 f4, .i .i64 f5, cv], .i .i64 ((r8.1 - a : Nat) : Int), .i .i64 0], ?_, ⟨cv, rfl, ?_⟩, ?_⟩
  ·simp only [resX, execE, X.at, upd_at, reduceIte, Nat.reduceEqDiff, q6, rd, AMem.get_put]
   rfl
  ·rw [if_pos rfl]
   refine ⟨tc, some jc, ?_, fun z hz => by cases hz; omega⟩
   simp only [hcapl]
   exact (hR9.keep kp (fun z hz hm => by cases hz; have := List.mem_singleton.1 hm; omega)).keep (Keep.refl _ []).out (by simp)
  ·exact (kk9.trans kp (fun z hz => .inr (by have := List.mem_singleton.1 hz; omega))).out
 ·have e1 : (e != 0) = true := by simpa using he
  rw [if_neg he] at hdr
  repeat (first
   | ((first | refine W_opS rfl rfl rfl ?_ | (refine W_opgT rfl rfl ?h ?_; case h => simp only [WG, reduceIte, Nat.reduceEqDiff]; done)); simp only [WB, execE, unE, args0, reduceIte, Nat.reduceEqDiff, Nat.reduceAdd, Nat.reduceLeDiff, q9, hj9, e1, binE, isShift, intBin, WO, fillX, splice, Wo_some])
   | (refine W_opgF rfl rfl ?h ?_; case h => simp only [WG, reduceIte, Nat.reduceEqDiff]; done)
   | (refine W_opgU rfl ?h ?_; case h => simp only [upd_at, reduceIte, Nat.reduceEqDiff]; done) | (refine W_callN rfl ?h ?_; case h => simp only [WG, reduceIte, Nat.reduceEqDiff]; done) | simp only [WS] | refine W_regd0 ?_ | refine W_regd ?_)
  refine W_cond ?_
  simp only [WB, execE, unE, args0, reduceIte, Nat.reduceEqDiff, Nat.reduceAdd, Nat.reduceLeDiff, WC]
  repeat (first
   | ((first | refine W_opS rfl rfl rfl ?_ | (refine W_opgT rfl rfl ?h ?_; case h => simp only [WG, reduceIte, Nat.reduceEqDiff]; done)); simp only [WB, execE, unE, args0, reduceIte, Nat.reduceEqDiff, Nat.reduceAdd, Nat.reduceLeDiff, q9, hj9, WO, fillX, splice, Wo_some])
   | (refine W_opgF rfl rfl ?h ?_; case h => simp only [WG, reduceIte, Nat.reduceEqDiff]; done)
   | (refine W_opgU rfl ?h ?_; case h => simp only [upd_at, reduceIte, Nat.reduceEqDiff]; done) | (refine W_callN rfl ?h ?_; case h => simp only [WG, reduceIte, Nat.reduceEqDiff]; done) | simp only [WS] | refine W_regd0 ?_ | refine W_regd ?_)
  repeat (first | simp only [WS] | refine W_regd0 ?_ | refine W_regd ?_)
  refine W_op rfl rfl ?_
  simp only [WB, execE, unE, args0, reduceIte, Nat.reduceEqDiff, Nat.reduceAdd, Nat.reduceLeDiff, q6, gB9, WO, fillX, splice, Wo_some]
  repeat (first | rw [push_no] | rw [push_yes] | rw [W_onil])
  repeat (first
   | ((first | refine W_op rfl rfl ?_ | (refine W_opgT rfl rfl ?h ?_; case h => simp only [WG, reduceIte, Nat.reduceEqDiff]; done)); simp only [WB, execE, unE, args0, reduceIte, Nat.reduceEqDiff, Nat.reduceAdd, Nat.reduceLeDiff, WO, fillX, splice, Wo_some])
   | (refine W_opgF rfl rfl ?h ?_; case h => simp only [WG, reduceIte, Nat.reduceEqDiff]; done)
   | (refine W_opgU rfl ?h ?_; case h => simp only [upd_at, reduceIte, Nat.reduceEqDiff]; done) | (refine W_callN rfl ?h ?_; case h => simp only [WG, reduceIte, Nat.reduceEqDiff]; done) | simp only [WS] | refine W_regd0 ?_ | refine W_regd ?_)
  refine W_dnil ?hs ?hnt ?_
  case hs => (simp only [SameIn, SameAt, List.nil_append, List.cons_append, reduceCtorEq, false_and, exists_false, exists_const, false_or, or_false, Option.some.injEq, exists_eq_left', exists_eq', or_true, and_true, WB, execE, unE, args0, reduceIte, Nat.reduceEqDiff, Nat.reduceAdd, Nat.reduceLeDiff, q9, hj9, AMem.get_put, show ¬ mA.next = m1.next by omega])
  case hnt => (simp only [List.nil_append, List.cons_append, List.forall_mem_cons, List.not_mem_nil, false_imp_iff, implies_true, and_true]; repeat' (first | exact hg | exact args0_un (Nat.le_of_ble_eq_true rfl) | refine upd_un ?_ rfl | constructor))
  refine W_getRet (by repeat (first | exact hg | exact args0_un (Nat.le_of_ble_eq_true rfl) | refine upd_un ?_ rfl)) ?_
  rw [hdr]
  have kp : Keep m9 (m9.put mA.next (some (.cells [.i .i64 0, .i .i64 0, .i .i64 0, .i .i64 0, .i .i64 0, .i .i64 0, .i .i64 0, .sl none 0 0 true] true ⟨8, some 35⟩))) [mA.next] := Keep.put _ _ _
  refine ⟨d9, [.agg [.i .i64 0, .i .i64 0, .i .i64 0, .i .i64 0, .i .i64 0, .i .i64 0, .i .i64 0, .sl none 0 0 true], .i .i64 0, .i .i64 e], ?_, ⟨.sl none 0 0 true, rfl, ?_⟩, ?_⟩
  ·simp only [resX, execE, X.at, upd_at, reduceIte, Nat.reduceEqDiff, q6, rd, AMem.get_put]
   rfl
  ·rw [if_neg he]
  ·exact (kk9.trans kp (fun z hz => .inr (by have := List.mem_singleton.1 hz; omega))).out
end Go.Proofs.YtfbglgmhhmeoeaaGreatDoor
