/- A state's line. No condition. -/
import Derived.Test.YtdmoecehmclohaaGreatDoorSlViNode
import Derived.Test.YtdmoecehmclohaaGreatDoorSlSX
import Derived.Test.YtdmoecehmclohaaGreatDoorSlTE
import Derived.Test.YtdmoecehmclohaaGreatDoorSlQQ
namespace Go.Proofs.YtdmoecehmclohaaGreatDoor
open Go.Vi
set_option linter.unusedSimpArgs false
set_option linter.unusedVariables false
def partT (l : List UInt8) (fr to : Int) : List UInt8 := (l.drop (min fr.toNat l.length)).take (min to.toNat l.length - min fr.toNat l.length)
def lineD (l : List UInt8) (d : Nd) (k kd ph pos st og : Int) : List UInt8 :=
  [35] ++ digI k ++ [32] ++ spanT d.fr d.to ++ [32] ++ quote (partT l d.fr d.to) ++ [32] ++ eName kd ++ [58, 32] ++ phrT d.k d.num kd ph pos st og
def lineAt (l : List UInt8) (D : List Nd) (nd k kd ph pos st og : Int) : List UInt8 := if nd < 0 ∨ (D.length : Int) ≤ nd then [] else match D[nd.toNat]? with | some d => lineD l d k kd ph pos st og | none => []
theorem lineAt_no {l : List UInt8} {D : List Nd} {nd k kd ph pos st og : Int} (h : nd < 0 ∨ (D.length : Int) ≤ nd) : lineAt l D nd k kd ph pos st og = [] := if_pos h
theorem lineAt_at {l : List UInt8} {D : List Nd} {i : Nat} {d : Nd} (hd : D[i]? = some d) {k kd ph pos st og : Int} : lineAt l D (i : Int) k kd ph pos st og = lineD l d k kd ph pos st og := by
  have := (List.getElem?_eq_some_iff.1 hd).1
  unfold lineAt
  rw [if_neg (by omega), Int.toNat_natCast, hd]
theorem spanT_len {a b : Int} (h : InI64 a) (h2 : InI64 b) : (spanT a b).length ≤ 45 := by
  have := digI_len h
  have := digI_len h2
  simp only [spanT, List.length_append, List.length_cons, List.length_nil]; omega
theorem quote_len {l : List UInt8} : (quote l).length ≤ 4 * l.length + 2 := by
  have := flat_len l
  simp only [quote, List.length_append, List.length_cons, List.length_nil]; omega
theorem missT_len {nk ph num : Int} (h : InI64 num) : (missT nk ph num).length ≤ 61 := by
  obtain ⟨a, c, e, h1, _⟩ := missT_end (nk := nk) (ph := ph) h
  rw [e]; simp only [List.length_append, List.length_cons, List.length_nil]; omega
theorem ite_len {c : Prop} [Decidable c] {a b : List UInt8} {n : Nat} (h1 : a.length ≤ n) (h2 : b.length ≤ n) : (if c then a else b).length ≤ n := by
  split <;> assumption
theorem phrT_len {nk num kd ph pos st og : Int} (hn : InI64 num) (hp0 : 0 ≤ ph) (hp1 : ph ≤ 100000) (hpos : InI64 pos) (hst : InI64 st) (hog : InI64 og) : (phrT nk num kd ph pos st og).length ≤ 200 := by
  have h1 := digI_len hn
  have h2 := digI_len hpos
  have h3 := digI_len hst
  have h4 := digI_len hog
  have h5 := wayT_len (nk := nk) hp0 hp1
  have h6 := missT_len (nk := nk) (ph := ph) hn
  unfold phrT endsT
  repeat' refine ite_len ?_ ?_
  all_goals try simp only [List.length_append, List.length_cons, List.length_nil]
  all_goals omega
set_option maxHeartbeats 4000000 in
theorem call7 {m : AMem} (hP : P10 m) {pv : AV} {l : List UInt8} (hp : Arr m 1 pv l.length (cellsOfBytes l)) (hl : l.length ≤ 500) {nv g nm : AV} {n : Nat} {D : List Nd} (hA : Arr m 10 nv n (flatN D)) (hD : D.length = n) (hn : n ≤ 60) (hg1 : g.one = true) (hm1 : nm.one = true)
    (hD2 : ∀ d ∈ D, 0 ≤ d.fr ∧ d.fr ≤ d.to ∧ d.to ≤ 4096 ∧ InI64 d.num ∧ ∀ i, (d.x i).one = true) {k kd nd ph pos st dp og : Int} {cp : AV} (hk : InI64 k) (hc : cp.one = true) (hkd : 1 ≤ kd ∧ kd ≤ 14) (hp0 : 0 ≤ ph) (hp1 : ph ≤ 100000) (hpos : InI64 pos) (hst : InI64 st) (hog : InI64 og) :
    Vi.Call T 7 [pv, .agg [nv, g, nm], .i .i64 k, .agg (stC kd nd ph pos st dp og cp)] m (fun v m' => v = .s ⟨(lineAt l D nd k kd ph pos st og).toArray⟩ ∧ Keep m m' []) := by
  have hlenp := hp.lenF
  have hlenN := hA.lenF
  have ho := hA.one
  have hop := hp.one
  refine Vi.Call.ofP T7 (Nat.le_of_ble_eq_true rfl) ?_
  unfold v7 stC
  repeat (first | rw [W_seq] | rw [W_reg] | rw [push_no] | rw [push_yes] | rw [W_onil] | rw [W_skip] | rw [W_blk] | rw [W_b] | refine W_regd0 ?_ | refine W_regd ?_)
  refine W_op rfl rfl ?_
  simp only [WB, execE, unE, args0, reduceIte, Nat.reduceEqDiff, Nat.reduceAdd, Nat.reduceLeDiff, ho, hg1, hm1, WO, fillX, splice, Wo_some]
  repeat (first | rw [push_no] | rw [push_yes] | rw [W_onil])
  obtain ⟨mA, hmA, kA, bA, gA, dA, _, nA⟩ := mk_new m.inn [nv, g, nm] true (3 : Nat) 3 rfl
  have kA' : Keep m mA [] := kA.ofInn
  have nA' : m.next < mA.next := nA
  have gA' : mA.get m.next = some (.cells [nv, g, nm] true (3 : Nat)) := gA
  rw [← hmA]
  clear hmA
  repeat (first | rw [W_seq] | rw [W_reg] | rw [push_no] | rw [push_yes] | rw [W_onil] | rw [W_skip] | rw [W_blk] | rw [W_b] | refine W_regd0 ?_ | refine W_regd ?_)
  refine W_op rfl rfl ?_
  simp only [WB, execE, unE, args0, reduceIte, Nat.reduceEqDiff, Nat.reduceAdd, Nat.reduceLeDiff, hc, WO, fillX, splice, Wo_some]
  repeat (first | rw [push_no] | rw [push_yes] | rw [W_onil])
  obtain ⟨mB, hmB, kB, bB, gB, dB, _, nB⟩ := mk_new mA [.i .i64 kd, .i .i64 nd, .i .i64 ph, .i .i64 pos, .i .i64 st, .i .i64 dp, .i .i64 og, cp] true (8 : Nat) 8 rfl
  rw [← hmB]
  clear hmB
  have g0 := kB.at nA' (by simp) gA'
  have kB' : Keep m mB [] := kA'.trans kB (by simp)
  have nB' : m.next < mB.next := Nat.lt_of_lt_of_le nA' kB.next
  by_cases h0 : nd < 0
  · have c1 : decide (nd < 0) = true := decide_eq_true h0
    repeat (first
      | ((first | refine W_op rfl rfl ?_ | (refine W_opgT rfl rfl ?hg ?_; (case hg => (simp only [WG, reduceIte, Nat.reduceEqDiff]; done)))); simp only [WB, execE, unE, args0, reduceIte, Nat.reduceEqDiff, Nat.reduceAdd, Nat.reduceLeDiff, gB, g0, c1, binE, isShift, intBin, WO, fillX, splice, Wo_some])
      | (refine W_opgF rfl rfl ?hg ?_; (case hg => (simp only [WG, reduceIte, Nat.reduceEqDiff]; done)))
      | (refine W_opgU rfl ?hg ?_; (case hg => (simp only [upd_at, reduceIte, Nat.reduceEqDiff]; done))) | (refine W_callN rfl ?hg ?_; (case hg => (simp only [WG, reduceIte, Nat.reduceEqDiff]; done))) | rw [W_seq] | rw [W_reg] | rw [push_no] | rw [push_yes] | rw [W_onil] | rw [W_skip] | rw [W_blk] | rw [W_b] | refine W_regd0 ?_ | refine W_regd ?_)
    refine W_cond ?_
    simp only [WB, execE, unE, args0, reduceIte, Nat.reduceEqDiff, Nat.reduceAdd, Nat.reduceLeDiff, WC]
    repeat (first
      | ((first | refine W_op rfl rfl ?_ | (refine W_opgT rfl rfl ?hg ?_; (case hg => (simp only [WG, reduceIte, Nat.reduceEqDiff]; done)))); simp only [WB, execE, unE, args0, reduceIte, Nat.reduceEqDiff, Nat.reduceAdd, Nat.reduceLeDiff, WO, fillX, splice, Wo_some])
      | (refine W_opgF rfl rfl ?hg ?_; (case hg => (simp only [WG, reduceIte, Nat.reduceEqDiff]; done)))
      | (refine W_opgU rfl ?hg ?_; (case hg => (simp only [upd_at, reduceIte, Nat.reduceEqDiff]; done))) | (refine W_callN rfl ?hg ?_; (case hg => (simp only [WG, reduceIte, Nat.reduceEqDiff]; done))) | rw [W_seq] | rw [W_reg] | rw [push_no] | rw [push_yes] | rw [W_onil] | rw [W_skip] | rw [W_blk] | rw [W_b] | refine W_regd0 ?_ | refine W_regd ?_)
    refine W_getRet (by repeat (first | exact hg | exact args0_un (Nat.le_of_ble_eq_true rfl) | refine upd_un ?_ rfl)) ?_
    refine ⟨dB.trans dA, _, rfl, ?_, kB'.out⟩
    rw [lineAt_no (.inl h0)]; rfl
  have c1 : decide (nd < 0) = false := decide_eq_false h0
  obtain ⟨i, rfl⟩ : ∃ i : Nat, nd = i := ⟨nd.toNat, by omega⟩
  by_cases h2 : n ≤ i
  · have c2 : decide ((i : Int) ≥ (n : Int)) = true := decide_eq_true (by omega)
    repeat (first
      | ((first | refine W_op rfl rfl ?_ | (refine W_opgT rfl rfl ?hg ?_; (case hg => (simp only [WG, reduceIte, Nat.reduceEqDiff]; done)))); simp only [WB, execE, unE, args0, reduceIte, Nat.reduceEqDiff, Nat.reduceAdd, Nat.reduceLeDiff, gB, g0, c1, c2, ↓hlenN, binE, isShift, intBin, WO, fillX, splice, Wo_some])
      | (refine W_opgF rfl rfl ?hg ?_; (case hg => (simp only [WG, reduceIte, Nat.reduceEqDiff]; done)))
      | (refine W_opgU rfl ?hg ?_; (case hg => (simp only [upd_at, reduceIte, Nat.reduceEqDiff]; done))) | (refine W_callN rfl ?hg ?_; (case hg => (simp only [WG, reduceIte, Nat.reduceEqDiff]; done))) | rw [W_seq] | rw [W_reg] | rw [push_no] | rw [push_yes] | rw [W_onil] | rw [W_skip] | rw [W_blk] | rw [W_b] | refine W_regd0 ?_ | refine W_regd ?_)
    refine W_cond ?_
    simp only [WB, execE, unE, args0, reduceIte, Nat.reduceEqDiff, Nat.reduceAdd, Nat.reduceLeDiff, WC]
    repeat (first
      | ((first | refine W_op rfl rfl ?_ | (refine W_opgT rfl rfl ?hg ?_; (case hg => (simp only [WG, reduceIte, Nat.reduceEqDiff]; done)))); simp only [WB, execE, unE, args0, reduceIte, Nat.reduceEqDiff, Nat.reduceAdd, Nat.reduceLeDiff, WO, fillX, splice, Wo_some])
      | (refine W_opgF rfl rfl ?hg ?_; (case hg => (simp only [WG, reduceIte, Nat.reduceEqDiff]; done)))
      | (refine W_opgU rfl ?hg ?_; (case hg => (simp only [upd_at, reduceIte, Nat.reduceEqDiff]; done))) | (refine W_callN rfl ?hg ?_; (case hg => (simp only [WG, reduceIte, Nat.reduceEqDiff]; done))) | rw [W_seq] | rw [W_reg] | rw [push_no] | rw [push_yes] | rw [W_onil] | rw [W_skip] | rw [W_blk] | rw [W_b] | refine W_regd0 ?_ | refine W_regd ?_)
    refine W_getRet (by repeat (first | exact hg | exact args0_un (Nat.le_of_ble_eq_true rfl) | refine upd_un ?_ rfl)) ?_
    refine ⟨dB.trans dA, _, rfl, ?_, kB'.out⟩
    rw [lineAt_no (.inr (by omega))]; rfl
  have c2 : decide ((i : Int) ≥ (n : Int)) = false := decide_eq_false (by omega)
  have hlt : i < n := by omega
  obtain ⟨j, o, cap, ex, rfl, hj, hr⟩ := (hA.keep0 kB').rdE hlt
  obtain ⟨d, hd⟩ : ∃ d, D[i]? = some d := ⟨_, List.getElem?_eq_getElem (by omega)⟩
  rw [flatN_at hd] at hr
  obtain ⟨q1, q2, q3, q4, q5⟩ := hD2 d (List.mem_of_getElem? hd)
  have hix : (0 ≤ (i : Int) ∧ (i : Int) < (n : Int)) := ⟨by omega, by omega⟩
  repeat (first
    | ((first | refine W_op rfl rfl ?_ | (refine W_opgT rfl rfl ?hg ?_; (case hg => (simp only [WG, reduceIte, Nat.reduceEqDiff]; done)))); simp only [WB, execE, unE, args0, reduceIte, Nat.reduceEqDiff, Nat.reduceAdd, Nat.reduceLeDiff, gB, g0, c1, c2, ↓hlenN, binE, isShift, intBin, WO, fillX, splice, Wo_some])
    | (refine W_opgF rfl rfl ?hg ?_; (case hg => (simp only [WG, reduceIte, Nat.reduceEqDiff]; done)))
    | (refine W_opgU rfl ?hg ?_; (case hg => (simp only [upd_at, reduceIte, Nat.reduceEqDiff]; done))) | (refine W_callN rfl ?hg ?_; (case hg => (simp only [WG, reduceIte, Nat.reduceEqDiff]; done))) | rw [W_seq] | rw [W_reg] | rw [push_no] | rw [push_yes] | rw [W_onil] | rw [W_skip] | rw [W_blk] | rw [W_b] | refine W_regd0 ?_ | refine W_regd ?_)
  refine W_cond ?_
  simp only [WB, execE, unE, args0, reduceIte, Nat.reduceEqDiff, Nat.reduceAdd, Nat.reduceLeDiff, WC]
  repeat (first
    | ((first | refine W_opS rfl rfl rfl ?_ | (refine W_opgT rfl rfl ?hg ?_; (case hg => (simp only [WG, reduceIte, Nat.reduceEqDiff]; done)))); simp only [WB, execE, unE, args0, reduceIte, Nat.reduceEqDiff, Nat.reduceAdd, Nat.reduceLeDiff, gB, g0, hix, Int.toNat_natCast, hr, WO, fillX, splice, Wo_some])
    | (refine W_opgF rfl rfl ?hg ?_; (case hg => (simp only [WG, reduceIte, Nat.reduceEqDiff]; done)))
    | (refine W_opgU rfl ?hg ?_; (case hg => (simp only [upd_at, reduceIte, Nat.reduceEqDiff]; done))) | (refine W_callN rfl ?hg ?_; (case hg => (simp only [WG, reduceIte, Nat.reduceEqDiff]; done))) | rw [W_seq] | rw [W_reg] | rw [push_no] | rw [push_yes] | rw [W_onil] | rw [W_skip] | rw [W_blk] | rw [W_b] | refine W_regd0 ?_ | refine W_regd ?_)
  simp only [Nd.cells, nodeC]
  repeat (first | rw [W_seq] | rw [W_reg] | rw [push_no] | rw [push_yes] | rw [W_onil] | rw [W_skip] | rw [W_blk] | rw [W_b] | refine W_regd0 ?_ | refine W_regd ?_)
  refine W_op rfl rfl ?_
  simp only [WB, execE, unE, args0, reduceIte, Nat.reduceEqDiff, Nat.reduceAdd, Nat.reduceLeDiff, q5, WO, fillX, splice, Wo_some]
  repeat (first | rw [push_no] | rw [push_yes] | rw [W_onil])
  obtain ⟨mC, hmC, kC, bC, gC, dC, _, nC⟩ := mk_put mB [.i .i64 0, .i .i64 0, .i .i64 0, .i .i64 0, .i .i64 0, .i .i64 0, .i .i64 0, .s ⟨#[]⟩, .sl none 0 0 true, .sl none 0 0 true] [.i .i64 d.k, .i .i64 d.fr, .i .i64 d.to, .i .i64 d.num, d.x 0, d.x 1, d.x 2, d.x 3, d.x 4, d.x 5] true true ⟨10, some 39⟩ ⟨10, some 39⟩ 10 rfl
  rw [← hmC]
  clear hmC
  have kC' : Keep m mC [] := kB'.trans kC (by simp)
  have g2 := kC.at nB (by simp) gB
  have e1 : (if (0 : Int) > d.fr then (0 : Int) else d.fr) = d.fr := by split <;> omega
  have e2 : (if (0 : Int) > d.to then (0 : Int) else d.to) = d.to := by split <;> omega
  have e3 : (if (l.length : Int) < d.fr then (l.length : Int) else d.fr) = ((min d.fr.toNat l.length : Nat) : Int) := by split <;> omega
  have e4 : (if (l.length : Int) < d.to then (l.length : Int) else d.to) = ((min d.to.toNat l.length : Nat) : Int) := by split <;> omega
  have hft : min d.fr.toNat l.length ≤ min d.to.toNat l.length := by omega
  have e5 : (if ((min d.to.toNat l.length : Nat) : Int) > ((min d.fr.toNat l.length : Nat) : Int) then ((min d.to.toNat l.length : Nat) : Int) else ((min d.fr.toNat l.length : Nat) : Int)) = ((min d.to.toNat l.length : Nat) : Int) := by split <;> omega
  obtain ⟨pv', hA', hsl⟩ := (hp.keep0 kC').slc hft (Nat.min_le_right _ _)
  have hpart : ((cellsOfBytes l).drop (min d.fr.toNat l.length * 1)).take ((min d.to.toNat l.length - min d.fr.toNat l.length) * 1) = cellsOfBytes (partT l d.fr d.to) := by
    simp [cellsOfBytes, partT, List.map_drop, List.map_take]
  rw [hpart] at hA'
  have hpl : (partT l d.fr d.to).length ≤ 500 := by
    simp only [partT, List.length_take, List.length_drop]; omega
  have i1 : Sm (digI k) 21 := sm_digI hk
  have i2 : Sm (spanT d.fr d.to) 45 := ⟨spanT_len ⟨by omega, by omega⟩ ⟨by omega, by omega⟩⟩
  have i3 : Sm (quote (partT l d.fr d.to)) 2002 := ⟨Nat.le_trans quote_len (by omega)⟩
  have i4 : Sm (eName kd) 5 := ⟨eName_len kd⟩
  have i5 : Sm (phrT d.k d.num kd ph pos st og) 200 := ⟨phrT_len q4 hp0 hp1 hpos hst hog⟩
  have hq := fun hB : Bytes mC pv' (partT l d.fr d.to) => callB13 hB (by omega)
  repeat (first
    | ((first | refine W_op rfl rfl ?_ | (refine W_opgT rfl rfl ?hg ?_; (case hg => (simp only [WG, reduceIte, Nat.reduceEqDiff]; done)))); simp only [WB, execE, unE, args0, reduceIte, Nat.reduceEqDiff, Nat.reduceAdd, Nat.reduceLeDiff, gC, ↓hlenp, maxE, minE, e1, e2, e3, e4, e5, ↓hsl, WO, fillX, splice, Wo_some])
    | (refine W_opgF rfl rfl ?hg ?_; (case hg => (simp only [WG, reduceIte, Nat.reduceEqDiff]; done)))
    | (refine W_opgU rfl ?hg ?_; (case hg => (simp only [upd_at, reduceIte, Nat.reduceEqDiff]; done))) | (refine W_callN rfl ?hg ?_; (case hg => (simp only [WG, reduceIte, Nat.reduceEqDiff]; done))) | rw [W_seq] | rw [W_reg] | rw [push_no] | rw [push_yes] | rw [W_onil] | rw [W_skip] | rw [W_blk] | rw [W_b] | refine W_regd0 ?_ | refine W_regd ?_)
  refine W_callA rfl ?hargs (hq hA'.bytes) ?_
  case hargs => simp only [WB, execE, unE, args0, reduceIte, Nat.reduceEqDiff, Nat.reduceAdd, Nat.reduceLeDiff] <;> rfl
  rintro v m1 ⟨rfl, n1', k1'⟩ hs1
  have k1 : Keep mC m1 [] := ⟨n1', fun i hi _ => k1' i hi⟩
  have kk1 : Keep m m1 [] := kC'.trans k1 (by simp)
  have nCm : mA.next < mC.next := Nat.lt_of_lt_of_le nB kC.next
  have x1 := k1.at nCm (by simp) g2
  have y1 := rd_keep bC k1 nC (by simp)
  have nx1 : mA.next < m1.next := Nat.lt_of_lt_of_le nCm k1.next
  have ny1 : mB.next < m1.next := Nat.lt_of_lt_of_le nC k1.next
  have z1 : rd m1 mA.next 0 8 = some (stC kd i ph pos st dp og cp) := by simp [rd, x1, stC]
  repeat (first
    | ((first | refine W_op rfl rfl ?_ | (refine W_opgT rfl rfl ?hg ?_; (case hg => (simp only [WG, reduceIte, Nat.reduceEqDiff]; done)))); simp only [WB, execE, unE, args0, reduceIte, Nat.reduceEqDiff, Nat.reduceAdd, Nat.reduceLeDiff, WO, fillX, splice, Wo_some])
    | (refine W_opgF rfl rfl ?hg ?_; (case hg => (simp only [WG, reduceIte, Nat.reduceEqDiff]; done)))
    | (refine W_opgU rfl ?hg ?_; (case hg => (simp only [upd_at, reduceIte, Nat.reduceEqDiff]; done))) | (refine W_callN rfl ?hg ?_; (case hg => (simp only [WG, reduceIte, Nat.reduceEqDiff]; done))) | rw [W_seq] | rw [W_reg] | rw [push_no] | rw [push_yes] | rw [W_onil] | rw [W_skip] | rw [W_blk] | rw [W_b] | refine W_regd0 ?_ | refine W_regd ?_)
  refine W_callA rfl ?hargs (call14 (hP.keep kk1 (by simp)) hk.1 hk.2) ?_
  case hargs => simp only [WB, execE, unE, args0, reduceIte, Nat.reduceEqDiff, Nat.reduceAdd, Nat.reduceLeDiff] <;> rfl
  rintro v m2 ⟨rfl, k2⟩ hs2
  have kk2 : Keep m m2 [] := kk1.trans k2 (by simp)
  have x2 := k2.at nx1 (by simp) x1
  have y2 := rd_keep y1 k2 ny1 (by simp)
  have z2 := rd_keep z1 k2 nx1 (by simp)
  have nx2 : mA.next < m2.next := Nat.lt_of_lt_of_le nx1 k2.next
  have ny2 : mB.next < m2.next := Nat.lt_of_lt_of_le ny1 k2.next
  repeat (first
    | ((first | refine W_op rfl rfl ?_ | (refine W_opgT rfl rfl ?hg ?_; (case hg => (simp only [WG, reduceIte, Nat.reduceEqDiff]; done)))); simp only [WB, execE, unE, args0, reduceIte, Nat.reduceEqDiff, Nat.reduceAdd, Nat.reduceLeDiff, y2, binE, isShift, strcatI, Nat.reduceAdd, Nat.reduceLeDiff, WO, fillX, splice, Wo_some])
    | (refine W_opgF rfl rfl ?hg ?_; (case hg => (simp only [WG, reduceIte, Nat.reduceEqDiff]; done)))
    | (refine W_opgU rfl ?hg ?_; (case hg => (simp only [upd_at, reduceIte, Nat.reduceEqDiff]; done))) | (refine W_callN rfl ?hg ?_; (case hg => (simp only [WG, reduceIte, Nat.reduceEqDiff]; done))) | rw [W_seq] | rw [W_reg] | rw [push_no] | rw [push_yes] | rw [W_onil] | rw [W_skip] | rw [W_blk] | rw [W_b] | refine W_regd0 ?_ | refine W_regd ?_)
  refine W_callA rfl ?hargs (call15 (k := d.k) (fr := d.fr) (to := d.to) (num := d.num) (x := d.x) (hP.keep kk2 (by simp)) q5 ⟨by omega, by omega⟩ ⟨by omega, by omega⟩) ?_
  case hargs => simp only [WB, execE, unE, args0, reduceIte, Nat.reduceEqDiff, Nat.reduceAdd, Nat.reduceLeDiff] <;> rfl
  rintro v m3 ⟨rfl, k3⟩ hs3
  have kk3 : Keep m m3 [] := kk2.trans k3 (by simp)
  have x3 := k3.at nx2 (by simp) x2
  have y3 := rd_keep y2 k3 ny2 (by simp)
  have z3 := rd_keep z2 k3 nx2 (by simp)
  have nx3 : mA.next < m3.next := Nat.lt_of_lt_of_le nx2 k3.next
  have ny3 : mB.next < m3.next := Nat.lt_of_lt_of_le ny2 k3.next
  repeat (first
    | ((first | refine W_op rfl rfl ?_ | (refine W_opgT rfl rfl ?hg ?_; (case hg => (simp only [WG, reduceIte, Nat.reduceEqDiff]; done)))); simp only [WB, execE, unE, args0, reduceIte, Nat.reduceEqDiff, Nat.reduceAdd, Nat.reduceLeDiff, x3, binE, isShift, strcatI, Nat.reduceAdd, Nat.reduceLeDiff, WO, fillX, splice, Wo_some])
    | (refine W_opgF rfl rfl ?hg ?_; (case hg => (simp only [WG, reduceIte, Nat.reduceEqDiff]; done)))
    | (refine W_opgU rfl ?hg ?_; (case hg => (simp only [upd_at, reduceIte, Nat.reduceEqDiff]; done))) | (refine W_callN rfl ?hg ?_; (case hg => (simp only [WG, reduceIte, Nat.reduceEqDiff]; done))) | rw [W_seq] | rw [W_reg] | rw [push_no] | rw [push_yes] | rw [W_onil] | rw [W_skip] | rw [W_blk] | rw [W_b] | refine W_regd0 ?_ | refine W_regd ?_)
  refine W_callA rfl ?hargs (call16 kd) ?_
  case hargs => simp only [WB, execE, unE, args0, reduceIte, Nat.reduceEqDiff, Nat.reduceAdd, Nat.reduceLeDiff] <;> rfl
  rintro v m4 ⟨rfl, k4⟩ hs4
  have kk4 : Keep m m4 [] := kk3.trans k4 (by simp)
  have x4 := k4.at nx3 (by simp) x3
  have y4 := rd_keep y3 k4 ny3 (by simp)
  have z4 := rd_keep z3 k4 nx3 (by simp)
  repeat (first
    | ((first | refine W_op rfl rfl ?_ | (refine W_opgT rfl rfl ?hg ?_; (case hg => (simp only [WG, reduceIte, Nat.reduceEqDiff]; done)))); simp only [WB, execE, unE, args0, reduceIte, Nat.reduceEqDiff, Nat.reduceAdd, Nat.reduceLeDiff, y4, z4, binE, isShift, strcatI, Nat.reduceAdd, Nat.reduceLeDiff, WO, fillX, splice, Wo_some])
    | (refine W_opgF rfl rfl ?hg ?_; (case hg => (simp only [WG, reduceIte, Nat.reduceEqDiff]; done)))
    | (refine W_opgU rfl ?hg ?_; (case hg => (simp only [upd_at, reduceIte, Nat.reduceEqDiff]; done))) | (refine W_callN rfl ?hg ?_; (case hg => (simp only [WG, reduceIte, Nat.reduceEqDiff]; done))) | rw [W_seq] | rw [W_reg] | rw [push_no] | rw [push_yes] | rw [W_onil] | rw [W_skip] | rw [W_blk] | rw [W_b] | refine W_regd0 ?_ | refine W_regd ?_)
  refine W_callA rfl ?hargs (call17 (k := d.k) (fr := d.fr) (to := d.to) (num := d.num) (x := d.x) (kd := kd) (nd := i) (ph := ph) (pos := pos) (st := st) (dp := dp) (og := og) (cp := cp) (hP.keep kk4 (by simp)) q5 hc q4 hkd hp0 hp1 hpos hst hog) ?_
  case hargs => simp only [WB, execE, unE, args0, reduceIte, Nat.reduceEqDiff, Nat.reduceAdd, Nat.reduceLeDiff] <;> rfl
  rintro v m5 ⟨rfl, k5⟩ hs5
  repeat (first
    | ((first | refine W_op rfl rfl ?_ | (refine W_opgT rfl rfl ?hg ?_; (case hg => (simp only [WG, reduceIte, Nat.reduceEqDiff]; done)))); simp only [WB, execE, unE, args0, reduceIte, Nat.reduceEqDiff, Nat.reduceAdd, Nat.reduceLeDiff, binE, isShift, strcatI, Nat.reduceAdd, Nat.reduceLeDiff, WO, fillX, splice, Wo_some])
    | (refine W_opgF rfl rfl ?hg ?_; (case hg => (simp only [WG, reduceIte, Nat.reduceEqDiff]; done)))
    | (refine W_opgU rfl ?hg ?_; (case hg => (simp only [upd_at, reduceIte, Nat.reduceEqDiff]; done))) | (refine W_callN rfl ?hg ?_; (case hg => (simp only [WG, reduceIte, Nat.reduceEqDiff]; done))) | rw [W_seq] | rw [W_reg] | rw [push_no] | rw [push_yes] | rw [W_onil] | rw [W_skip] | rw [W_blk] | rw [W_b] | refine W_regd0 ?_ | refine W_regd ?_)
  refine W_dnil ?hs ?hnt ?_
  case hs => (simp only [SameIn, SameAt, List.nil_append, List.cons_append, reduceCtorEq, false_and, exists_false, exists_const, false_or, or_false, Option.some.injEq, exists_eq_left', exists_eq', or_true, and_true, WB, execE, unE, args0, reduceIte, Nat.reduceEqDiff, Nat.reduceAdd, Nat.reduceLeDiff, x1, x2, x3, x4, y1, y2, y3, y4, z1, z2, z3, z4])
  case hnt => (simp only [List.nil_append, List.cons_append, List.forall_mem_cons, List.not_mem_nil, false_imp_iff, implies_true, and_true]; repeat' (first | exact hg | exact args0_un (Nat.le_of_ble_eq_true rfl) | refine upd_un ?_ rfl | constructor))
  repeat (first
    | ((first | refine W_op rfl rfl ?_ | (refine W_opgT rfl rfl ?hg ?_; (case hg => (simp only [WG, reduceIte, Nat.reduceEqDiff]; done)))); simp only [WB, execE, unE, args0, reduceIte, Nat.reduceEqDiff, Nat.reduceAdd, Nat.reduceLeDiff, WO, fillX, splice, Wo_some])
    | (refine W_opgF rfl rfl ?hg ?_; (case hg => (simp only [WG, reduceIte, Nat.reduceEqDiff]; done)))
    | (refine W_opgU rfl ?hg ?_; (case hg => (simp only [upd_at, reduceIte, Nat.reduceEqDiff]; done))) | (refine W_callN rfl ?hg ?_; (case hg => (simp only [WG, reduceIte, Nat.reduceEqDiff]; done))) | rw [W_seq] | rw [W_reg] | rw [push_no] | rw [push_yes] | rw [W_onil] | rw [W_skip] | rw [W_blk] | rw [W_b] | refine W_regd0 ?_ | refine W_regd ?_)
  refine W_getRet (by repeat (first | exact hg | exact args0_un (Nat.le_of_ble_eq_true rfl) | refine upd_un ?_ rfl)) ?_
  refine ⟨hs5.ds.trans (hs4.ds.trans (hs3.ds.trans (hs2.ds.trans (hs1.ds.trans (dC.trans (dB.trans dA)))))), _, rfl, ?_, (kk4.trans k5 (by simp)).out⟩
  rw [lineAt_at hd]
  rfl
end Go.Proofs.YtdmoecehmclohaaGreatDoor
