/- A tape is packed. No condition. -/
import Derived.Test.YtfbglgmhhmeoeaaGreatDoorWbWU
import Derived.Test.YtfbglgmhhmeoeaaGreatDoorWbViNode
import Derived.Test.YtfbglgmhhmeoeaaGreatDoorWbViArgC
import Derived.KernelRfl
namespace Go.Proofs.YtfbglgmhhmeoeaaGreatDoor
open Go.Vi
set_option linter.unusedSimpArgs false
set_option linter.unusedVariables false
set_option maxHeartbeats 4000000 in
theorem call17 {m : AMem} {g ev n : Nat} (hg : g ≤ 100000000) (he : ev ≤ 100000000) (hn : n ≤ 100000000) :
  Vi.Call T 17 [.i .i64 (g : Int), .i .i64 (ev : Int), .i .i64 (n : Int)] m (fun v m' => ByR m m' v (fhead g ev n) ∧ (fhead g ev n).length ≤ 34 ∧ Keep m m' []) := by
 refine Vi.Call.ofP T17 (Nat.le_of_ble_eq_true rfl) ?_
 unfold v17
 repeat (first | simp only [WS] | refine W_regd0 ?_ | refine W_regd ?_)
 refine W_op rfl rfl ?_
 simp only [WB, execE, unE, args0, reduceIte, Nat.reduceEqDiff, Nat.reduceAdd, Nat.reduceLeDiff, WO, fillX, splice, Wo_some]
 repeat (first | rw [push_no] | rw [push_yes] | rw [W_onil])
 repeat (first | simp only [WS] | refine W_regd0 ?_ | refine W_regd ?_)
 refine W_op rfl rfl ?_
 simp only [WB, execE, unE, args0, reduceIte, Nat.reduceEqDiff, Nat.reduceAdd, Nat.reduceLeDiff, WO, fillX, splice, Wo_some]
 repeat (first | rw [push_no] | rw [push_yes] | rw [W_onil])
 obtain ⟨mB, hmB, kB, _, gB, dB, _, nB⟩ := mk_new m.inn [.i .u8 67, .i .u8 76, .i .u8 87, .i .u8 49] true (1 : Nat) 4 rfl
 have kB' : Keep m mB [] := kB.ofInn
 have gB' : mB.get m.next = some (.cells [.i .u8 67, .i .u8 76, .i .u8 87, .i .u8 49] true (1 : Nat)) := gB
 have nB' : m.next < mB.next := nB
 have dB' : mB.ds = [] := dB
 rw [← hmB]
 clear hmB gB nB kB dB
 have hR0 : RowE mB 1 none (.sl (some (m.next, 0)) 4 4 true) (some m.next) ([67, 76, 87, 49] : List UInt8).length (cellsOfBytes [67, 76, 87, 49]) :=
  ⟨rfl, _, 4, true, rfl, nB', gB', rfl, Nat.le_refl _, rfl⟩
 repeat (first
  | (refine W_op rfl rfl ?_; simp only [WB, execE, unE, args0, reduceIte, Nat.reduceEqDiff, Nat.reduceAdd, Nat.reduceLeDiff, gB', WO, fillX, splice, Wo_some]) | simp only [WS] | refine W_regd0 ?_ | refine W_regd ?_)
 refine W_cutK [_, _] (fun g' m' => ∃ (out : AV) (ty oj : Option Nat), g' 7 = out ∧ (fhead g ev n).length ≤ 34 ∧ RowE m' 1 ty out oj (fhead g ev n).length (cellsOfBytes (fhead g ev n)) ∧ (∀ z, oj = some z → m.next ≤ z) ∧ Keep m m' [] ∧ m'.ds = []) ?_ ?_
 ·simp only [List.cons_append, List.nil_append]
  refine W_loop (fun q g' m' => ∃ (i : Nat) (o : List UInt8) (out : AV) (ty oj : Option Nat), i ≤ 3 ∧ q = 3 - i ∧ g' 7 = out ∧ g' 15 = .agg [.i .i64 (g : Int), .i .i64 (ev : Int), .i .i64 (n : Int)] ∧ g' 16 = .i .i64 (i : Int) ∧ o.length ≤ 4 + 10 * i ∧ o ++ ((([g, ev, n] : List Nat).drop i).map vb).flatten = fhead g ev n ∧ RowE m' 1 ty out oj o.length (cellsOfBytes o) ∧ (∀ z, oj = some z → m.next ≤ z) ∧ Keep m m' [] ∧ m'.ds = []) 3 ?_ ?_ ?_
  ·refine ⟨0, [67, 76, 87, 49], _, none, some m.next, by omega, rfl, ?_, ?_, ?_, by simp, by simp [fhead], hR0, by simp, kB', dB'⟩
   ·skip
    simp only [WT, reduceIte, Nat.reduceEqDiff, args0]
   ·skip
    simp only [WT, reduceIte, Nat.reduceEqDiff, args0]
   ·skip
    simp only [WT, reduceIte, Nat.reduceEqDiff, args0, Int.ofNat_zero]
    try rfl
  ·intro i hi
   repeat (first | exact args0_un (Nat.le_of_ble_eq_true rfl) i hi | refine upd_un ?_ rfl i hi; clear i hi; intro i hi)
  ·rintro q gg m1 ⟨i, o, out, ty, oj, hi, rfl, q7, q15, q16, hol, hof, hR, hoj, k1, d1⟩ hg
   by_cases hlt : i < 3
   ·have e1 : decide ((i : Int) < 3) = true := decide_eq_true (by omega)
    obtain ⟨x, hx, hxl⟩ : ∃ x, ([g, ev, n] : List Nat)[i]? = some x ∧ x ≤ 100000000 := by
     have : i = 0 ∨ i = 1 ∨ i = 2 := by omega
     rcases this with rfl | rfl | rfl
     ·exact ⟨g, rfl, by omega⟩
     ·exact ⟨ev, rfl, by omega⟩
     ·exact ⟨n, rfl, by omega⟩
    have hxa : ([.i .i64 (g : Int), .i .i64 (ev : Int), .i .i64 (n : Int)] : List AV)[i]? = some (.i .i64 (x : Int)) := by
     have : ([.i .i64 (g : Int), .i .i64 (ev : Int), .i .i64 (n : Int)] : List AV) = ([g, ev, n] : List Nat).map fun y : Nat => AV.i .i64 (y : Int) := rfl
     rw [this, List.getElem?_map, hx]; rfl
    have hdx : ([g, ev, n] : List Nat).drop i = x :: ([g, ev, n] : List Nat).drop (i + 1) := by
     have : i < ([g, ev, n] : List Nat).length := hlt
     rw [List.drop_eq_getElem_cons this]; congr 1
     rw [List.getElem?_eq_getElem this] at hx; exact Option.some.inj hx
    rw [hdx, List.map_cons, List.flatten_cons] at hof
    have hix : (0 ≤ (i : Int) ∧ (i : Int) < ((3 : Nat) : Int)) := ⟨by omega, by omega⟩
    have hwx : IntKind.u64.wrap (x : Int) = (x : Int) := wr_u64 (by omega)
    have hvl := vb_len64 (n := x) (by omega)
    have hwi : IntKind.i64.wrap ((i : Int) + 1) = ((i + 1 : Nat) : Int) := wr_i64 (n := (i : Int) + 1) (by omega) (by omega)
    repeat (first
     | (refine W_op rfl rfl ?_; simp only [WB, execE, unE, args0, reduceIte, Nat.reduceEqDiff, Nat.reduceAdd, Nat.reduceLeDiff, q16, e1, binE, isShift, intBin, WO, fillX, splice, Wo_some]) | simp only [WS] | refine W_regd0 ?_ | refine W_regd ?_)
    refine W_cond ?_
    simp only [WB, execE, unE, args0, reduceIte, Nat.reduceEqDiff, Nat.reduceAdd, Nat.reduceLeDiff, WC]
    repeat (first
     | (refine W_op rfl rfl ?_; simp only [WB, execE, unE, args0, reduceIte, Nat.reduceEqDiff, Nat.reduceAdd, Nat.reduceLeDiff, q15, q16, hix, Int.toNat_natCast, Nat.mul_one, hxa, hwx, WO, fillX, splice, Wo_some]) | simp only [WS] | refine W_regd0 ?_ | refine W_regd ?_)
    refine W_callA rfl ?hargs (call38 x (by omega)) ?_
    case hargs => simp only [WB, execE, unE, args0, reduceIte, Nat.reduceEqDiff, Nat.reduceAdd, Nat.reduceLeDiff] <;> rfl
    rintro v m2 ⟨hv, k2⟩ hs2
    have hsrc := arr_src hv.arr
    repeat (first
     | ((first | refine W_opA rfl rfl rfl ?_ | (refine W_opgT rfl rfl ?h ?_; case h => simp only [WG, reduceIte, Nat.reduceEqDiff]; done)); simp only [WB, execE, unE, args0, reduceIte, Nat.reduceEqDiff, Nat.reduceAdd, Nat.reduceLeDiff, q7, WO, fillX, splice, Wo_some]) | simp only [WS] | refine W_regd0 ?_ | refine W_regd ?_)
    refine W_app (n := o.length) (k := (vb x).length) (new := cellsOfBytes (vb x)) (ls := cellsOfBytes o) rfl ((hR.keep k2 (by simp)).as ?hrow) ?hsrc (by rw [bytes_len]; omega) (bytes_one _) (roomyOf (by omega) (by omega)) ?_
    case hrow =>
     simp only [WB, execE, unE, args0, reduceIte, Nat.reduceEqDiff, Nat.reduceAdd, Nat.reduceLeDiff, q7]
    case hsrc =>
     simp only [WB, execE, unE, args0, reduceIte, Nat.reduceEqDiff, Nat.reduceAdd, Nat.reduceLeDiff]
     exact hsrc
    intro av' oj' m3 ty' r3 ds3 ro3 o3 k3 _
    have n2 := k2.next
    have n1 := k1.next
    repeat (first
     | (refine W_op rfl rfl ?_; simp only [WB, execE, unE, args0, reduceIte, Nat.reduceEqDiff, Nat.reduceAdd, Nat.reduceLeDiff, q16, hwi, binE, isShift, intBin, WO, fillX, splice, Wo_some]) | simp only [WS] | refine W_regd0 ?_ | refine W_regd ?_)
    refine W_j (by repeat (first | exact hg | exact args0_un (Nat.le_of_ble_eq_true rfl) | refine upd_un ?_ rfl)) ?_
    refine ⟨3 - (i + 1), by omega, i + 1, o ++ vb x, av', ty', oj', by omega, rfl, ?_, ?_, ?_, by rw [List.length_append]; omega, by rw [List.append_assoc]; exact hof, ?_, fun z hz => ?_, (k1.trans k2 (by simp)).trans k3 (fun z hz => .inr (by have := hoj z (by simpa using hz); omega)), ds3.trans (hs2.ds.trans d1)⟩
    ·skip
     simp only [WT, reduceIte, Nat.reduceEqDiff, args0]
    ·skip
     simp only [WT, reduceIte, Nat.reduceEqDiff, args0, q15]
    ·skip
     simp only [WT, reduceIte, Nat.reduceEqDiff, args0]
    ·rw [bytes_app, List.length_append]; exact r3
    ·rcases o3 with h | ⟨y, h, h2⟩
     ·exact hoj z (h ▸ hz)
     ·rw [h] at hz; cases hz; omega
   ·have e1 : decide ((i : Int) < 3) = false := decide_eq_false (by omega)
    obtain rfl : i = 3 := by omega
    simp only [List.drop_succ_cons, List.drop_nil, List.map_nil, List.flatten_nil, List.append_nil] at hof
    subst hof
    repeat (first
     | (refine W_op rfl rfl ?_; simp only [WB, execE, unE, args0, reduceIte, Nat.reduceEqDiff, Nat.reduceAdd, Nat.reduceLeDiff, q16, e1, binE, isShift, intBin, WO, fillX, splice, Wo_some]) | simp only [WS] | refine W_regd0 ?_ | refine W_regd ?_)
    refine W_cond ?_
    simp only [WB, execE, unE, args0, reduceIte, Nat.reduceEqDiff, Nat.reduceAdd, Nat.reduceLeDiff, WC]
    refine W_exit rfl ?_
    refine W_j (by repeat (first | exact hg | exact args0_un (Nat.le_of_ble_eq_true rfl) | refine upd_un ?_ rfl)) ?_
    exact ⟨out, ty, oj, q7, by omega, hR, hoj, k1, d1⟩
 rintro gg m1 ⟨out, ty, oj, q7, hl, hR, hoj, k1, d1⟩ hg
 repeat (first
  | (refine W_op rfl rfl ?_; simp only [WB, execE, unE, args0, reduceIte, Nat.reduceEqDiff, Nat.reduceAdd, Nat.reduceLeDiff, q7, WO, fillX, splice, Wo_some]) | simp only [WS] | refine W_regd0 ?_ | refine W_regd ?_)
 refine W_getRet (by repeat (first | exact hg | exact args0_un (Nat.le_of_ble_eq_true rfl) | refine upd_un ?_ rfl)) ?_
 exact ⟨d1, _, rfl, ⟨ty, oj, hR.keep (Keep.refl _ []).out (by simp), hoj⟩, hl, k1.out⟩
set_option maxHeartbeats 4000000 in
theorem call6 {m : AMem} {n0 jt g ev : Nat} {L : List St} (hT : TapeAt m n0 jt g ev L) (hok : TOk g ev L) :
  Vi.Call T 6 [.p (some (jt, 0))] m (fun v m' => ByR m m' v (fpack g ev L) ∧ (fpack g ev L).length ≤ 16778000 ∧ Keep m m' []) := by
 have hge := tbn_ge g ev L L.length
 have hfit := hok.fits
 have hg9 := hok.hg
 have hev := hok.hev
 refine Vi.Call.ofP T6 (Nat.le_of_ble_eq_true rfl) ?_
 unfold v6
 have hT' := hT.keep (Keep.inn m) (by simp)
 repeat (first
  | (refine W_op rfl rfl ?_; simp only [WB, execE, unE, args0, reduceIte, Nat.reduceEqDiff, Nat.reduceAdd, Nat.reduceLeDiff, WO, fillX, splice, Wo_some]) | simp only [WS] | refine W_regd0 ?_ | refine W_regd ?_)
 refine W_callA rfl ?hargs (call18 hT') ?_
 case hargs => simp only [WB, execE, unE, args0, reduceIte, Nat.reduceEqDiff, Nat.reduceAdd, Nat.reduceLeDiff] <;> rfl
 rintro v m1 ⟨rfl, rfl⟩ -
 repeat (first
  | (refine W_op rfl rfl ?_; simp only [WB, execE, unE, args0, reduceIte, Nat.reduceEqDiff, Nat.reduceAdd, Nat.reduceLeDiff, WO, fillX, splice, Wo_some]) | simp only [WS] | refine W_regd0 ?_ | refine W_regd ?_)
 refine W_callA rfl ?hargs (call19 hT') ?_
 case hargs => simp only [WB, execE, unE, args0, reduceIte, Nat.reduceEqDiff, Nat.reduceAdd, Nat.reduceLeDiff] <;> rfl
 rintro v m1 ⟨rfl, rfl⟩ -
 repeat (first
  | (refine W_op rfl rfl ?_; simp only [WB, execE, unE, args0, reduceIte, Nat.reduceEqDiff, Nat.reduceAdd, Nat.reduceLeDiff, WO, fillX, splice, Wo_some]) | simp only [WS] | refine W_regd0 ?_ | refine W_regd ?_)
 refine W_callA rfl ?hargs (call7 hT') ?_
 case hargs => simp only [WB, execE, unE, args0, reduceIte, Nat.reduceEqDiff, Nat.reduceAdd, Nat.reduceLeDiff] <;> rfl
 rintro v m1 ⟨rfl, rfl⟩ -
 repeat (first
  | (refine W_op rfl rfl ?_; simp only [WB, execE, unE, args0, reduceIte, Nat.reduceEqDiff, Nat.reduceAdd, Nat.reduceLeDiff, WO, fillX, splice, Wo_some]) | simp only [WS] | refine W_regd0 ?_ | refine W_regd ?_)
 refine W_callA rfl ?hargs (call17 (g := g) (ev := ev) (n := L.length) (by omega) (by omega) (by omega)) ?_
 case hargs => simp only [WB, execE, unE, args0, reduceIte, Nat.reduceEqDiff, Nat.reduceAdd, Nat.reduceLeDiff] <;> rfl
 rintro v m1 ⟨⟨ty, oj, hR, hoj⟩, hhl, k1⟩ hs1
 repeat (first
  | (refine W_op rfl rfl ?_; simp only [WB, execE, unE, args0, reduceIte, Nat.reduceEqDiff, Nat.reduceAdd, Nat.reduceLeDiff, WO, fillX, splice, Wo_some]) | simp only [WS] | refine W_regd0 ?_ | refine W_regd ?_)
 refine W_callA rfl ?hargs (call20 (hT'.keep k1 (by simp)) hfit) ?_
 case hargs => simp only [WB, execE, unE, args0, reduceIte, Nat.reduceEqDiff, Nat.reduceAdd, Nat.reduceLeDiff] <;> rfl
 rintro v2 m2 ⟨hv, k2⟩ hs2
 have hsrc := arr_src hv
 have n1 := k1.next
 have n2 := k2.next
 repeat (first
  | ((first | refine W_opA rfl rfl rfl ?_ | (refine W_opgT rfl rfl ?h ?_; case h => simp only [WG, reduceIte, Nat.reduceEqDiff]; done)); simp only [WB, execE, unE, args0, reduceIte, Nat.reduceEqDiff, Nat.reduceAdd, Nat.reduceLeDiff, WO, fillX, splice, Wo_some]) | simp only [WS] | refine W_regd0 ?_ | refine W_regd ?_)
 refine W_app (n := (fhead g ev L.length).length) (k := (tbn g ev L L.length).length) (new := cellsOfBytes (tbn g ev L L.length)) (ls := cellsOfBytes (fhead g ev L.length)) rfl ((hR.keep k2 (by simp)).as ?hrow) ?hsrc (by rw [bytes_len]; omega) (bytes_one _) (roomyOf (by omega) (by omega)) ?_
 case hrow =>
  simp only [WB, execE, unE, args0, reduceIte, Nat.reduceEqDiff, Nat.reduceAdd, Nat.reduceLeDiff]
 case hsrc =>
  simp only [WB, execE, unE, args0, reduceIte, Nat.reduceEqDiff, Nat.reduceAdd, Nat.reduceLeDiff]
  exact hsrc
 intro av' oj' m3 ty' r3 ds3 ro3 o3 k3 _
 repeat (first
  | (refine W_op rfl rfl ?_; simp only [WB, execE, unE, args0, reduceIte, Nat.reduceEqDiff, Nat.reduceAdd, Nat.reduceLeDiff, WO, fillX, splice, Wo_some]) | simp only [WS] | refine W_regd0 ?_ | refine W_regd ?_)
 refine W_getRet (by repeat (first | exact hg | exact args0_un (Nat.le_of_ble_eq_true rfl) | refine upd_un ?_ rfl)) ?_
 have kk : Keep m m3 [] := ((k1.ofInn).trans k2 (by simp)).trans k3 (fun z hz => .inr (hoj z (by simpa using hz)))
 refine ⟨ds3.trans (hs2.ds.trans hs1.ds), _, rfl, ⟨ty', oj', ?_, fun z hz => ?_⟩, ?_, kk.out⟩
 ·unfold fpack
  rw [bytes_app, List.length_append]
  exact r3.keep (Keep.refl _ []).out (by simp)
 ·rcases o3 with h | ⟨y, h, h2⟩
  ·exact hoj z (h ▸ hz)
  ·rw [h] at hz; cases hz
   have : m.next ≤ m1.next := n1
   omega
 ·unfold fpack
  rw [List.length_append]; omega
end Go.Proofs.YtfbglgmhhmeoeaaGreatDoor
namespace Go.Proofs.YtfbglgmhhmeoeaaGreatDoor
open Go.Vi
set_option linter.unusedSimpArgs false
set_option linter.unusedVariables false
theorem call4 (m : AMem) : Vi.Call T 4 [] m (fun v m' => v = .b true ∧ m' = m) := ⟨.b true, m, ⟨1, rfl⟩, rfl, rfl⟩
theorem off_loop {m : AMem} {e n lp : Nat} {av : AV} {l : List AV} {st : LoopState} {pd : Option Ex} {r : List AV} {ps : List Nat} {a b : VC} (h : Arr m e av n l) (hl : m.get lp = some (.loop st pd r ps a b)) : Off av lp := by
 obtain ⟨_, ⟨_, rfl | rfl⟩ | ⟨k, o, cap, ex, c, wr, es, rfl, _, hk, hg, _⟩⟩ := h
 ·intro k o n c x hx; cases hx
 ·intro k o n c x hx; cases hx
 ·intro k' o' n' c' x' hx hm
  cases hx
  rw [hm, hl] at hg
  cases hg
set_option maxHeartbeats 16000000 in
theorem law3 {m : AMem} {bv : AV} {b : List UInt8} (hA : Arr m 1 bv b.length (cellsOfBytes b)) :
  Vi.Call T 3 [bv] m (fun v _ => v = .b true) := by
 have hlen := hA.lenF
 refine Vi.Call.of T3 (Nat.le_of_ble_eq_true rfl) ?_
 unfold v3
 repeat (first | simp only [WS] | refine W_regd0 ?_ | refine W_regd ?_)
 refine W_op rfl rfl ?_
 simp only [WB, execE, unE, args0, reduceIte, Nat.reduceEqDiff, Nat.reduceAdd, Nat.reduceLeDiff, WO, fillX, splice, Wo_some]
 repeat (first | rw [push_no] | rw [push_yes] | rw [W_onil])
 obtain ⟨mA, hmA, kA, _, gA, dA, rA, nA⟩ := mk_new m.inn [.b false] true ⟨1, some 4⟩ 1 rfl
 have kA' : Keep m mA [] := kA.ofInn
 have nA' : m.next < mA.next := nA
 have gA' : mA.get m.next = some (.cells [.b false] true ⟨1, some 4⟩) := gA
 have dA' : mA.ds = [] := dA
 have rA' : mA.ro = none := rA
 rw [← hmA]
 clear hmA gA nA kA dA rA
 repeat (first
  | ((first | refine W_op rfl rfl ?_ | (refine W_opgT rfl rfl ?h ?_; case h => simp only [WG, reduceIte, Nat.reduceEqDiff]; done)); simp only [WB, execE, unE, args0, reduceIte, Nat.reduceEqDiff, Nat.reduceAdd, Nat.reduceLeDiff, WO, fillX, splice, Wo_some])
  | (refine W_opgF rfl rfl ?h ?_; case h => simp only [WG, reduceIte, Nat.reduceEqDiff]; done)
  | (refine W_opgU rfl ?h ?_; case h => simp only [upd_at, reduceIte, Nat.reduceEqDiff]; done) | (refine W_callN rfl ?h ?_; case h => simp only [WG, reduceIte, Nat.reduceEqDiff]; done) | simp only [WS] | refine W_regd0 ?_ | refine W_regd ?_)
 refine W_callA rfl ?hargs (call4 mA) ?_
 case hargs => simp only [WB, execE, unE, args0, reduceIte, Nat.reduceEqDiff, Nat.reduceAdd, Nat.reduceLeDiff] <;> rfl
 rintro v m1 ⟨rfl, rfl⟩ -
 repeat (first
  | ((first | refine W_op rfl rfl ?_ | (refine W_opgT rfl rfl ?h ?_; case h => simp only [WG, reduceIte, Nat.reduceEqDiff]; done)); simp only [WB, execE, unE, args0, reduceIte, Nat.reduceEqDiff, Nat.reduceAdd, Nat.reduceLeDiff, WO, fillX, splice, Wo_some])
  | (refine W_opgF rfl rfl ?h ?_; case h => simp only [WG, reduceIte, Nat.reduceEqDiff]; done)
  | (refine W_opgU rfl ?h ?_; case h => simp only [upd_at, reduceIte, Nat.reduceEqDiff]; done) | (refine W_callN rfl ?h ?_; case h => simp only [WG, reduceIte, Nat.reduceEqDiff]; done) | simp only [WS] | refine W_regd0 ?_ | refine W_regd ?_)
 refine W_cond ?_
 simp only [WB, execE, unE, args0, reduceIte, Nat.reduceEqDiff, Nat.reduceAdd, Nat.reduceLeDiff, WC]
 by_cases hl : b.length ≤ 2000
 case neg =>
  have c1 : decide ((b.length : Int) > 2000) = true := decide_eq_true (by omega)
  repeat (first
   | ((first | refine W_op rfl rfl ?_ | (refine W_opgT rfl rfl ?h ?_; case h => simp only [WG, reduceIte, Nat.reduceEqDiff]; done)); simp only [WB, execE, unE, args0, reduceIte, Nat.reduceEqDiff, Nat.reduceAdd, Nat.reduceLeDiff, ↓hlen, c1, binE, isShift, intBin, WO, fillX, splice, Wo_some])
   | (refine W_opgF rfl rfl ?h ?_; case h => simp only [WG, reduceIte, Nat.reduceEqDiff]; done)
   | (refine W_opgU rfl ?h ?_; case h => simp only [upd_at, reduceIte, Nat.reduceEqDiff]; done) | (refine W_callN rfl ?h ?_; case h => simp only [WG, reduceIte, Nat.reduceEqDiff]; done) | simp only [WS] | refine W_regd0 ?_ | refine W_regd ?_)
  refine W_cond ?_
  simp only [WB, execE, unE, args0, reduceIte, Nat.reduceEqDiff, Nat.reduceAdd, Nat.reduceLeDiff, WC]
  repeat (first
   | ((first | refine W_opS rfl rfl rfl ?_ | (refine W_opgT rfl rfl ?h ?_; case h => simp only [WG, reduceIte, Nat.reduceEqDiff]; done)); simp only [WB, execE, unE, args0, reduceIte, Nat.reduceEqDiff, Nat.reduceAdd, Nat.reduceLeDiff, WO, fillX, splice, Wo_some])
   | (refine W_opgF rfl rfl ?h ?_; case h => simp only [WG, reduceIte, Nat.reduceEqDiff]; done)
   | (refine W_opgU rfl ?h ?_; case h => simp only [upd_at, reduceIte, Nat.reduceEqDiff]; done) | (refine W_callN rfl ?h ?_; case h => simp only [WG, reduceIte, Nat.reduceEqDiff]; done) | simp only [WS] | refine W_regd0 ?_ | refine W_regd ?_)
  repeat (first | simp only [WS] | refine W_regd0 ?_ | refine W_regd ?_)
  refine W_op rfl rfl ?_
  simp only [WB, execE, unE, args0, reduceIte, Nat.reduceEqDiff, Nat.reduceAdd, Nat.reduceLeDiff, gA', WO, fillX, splice, Wo_some]
  repeat (first | rw [push_no] | rw [push_yes] | rw [W_onil])
  repeat (first
   | ((first | refine W_op rfl rfl ?_ | (refine W_opgT rfl rfl ?h ?_; case h => simp only [WG, reduceIte, Nat.reduceEqDiff]; done)); simp only [WB, execE, unE, args0, reduceIte, Nat.reduceEqDiff, Nat.reduceAdd, Nat.reduceLeDiff, WO, fillX, splice, Wo_some])
   | (refine W_opgF rfl rfl ?h ?_; case h => simp only [WG, reduceIte, Nat.reduceEqDiff]; done)
   | (refine W_opgU rfl ?h ?_; case h => simp only [upd_at, reduceIte, Nat.reduceEqDiff]; done) | (refine W_callN rfl ?h ?_; case h => simp only [WG, reduceIte, Nat.reduceEqDiff]; done) | simp only [WS] | refine W_regd0 ?_ | refine W_regd ?_)
  refine W_getRet (by repeat (first | exact hg | exact args0_un (Nat.le_of_ble_eq_true rfl) | refine upd_un ?_ rfl)) ?_
  refine ⟨_, [.b true], by rw [AMem.ds_put, dA']; rfl, ?_, rfl⟩
  simp only [resX, execE, X.at, upd_at, reduceIte, Nat.reduceEqDiff, rd, AMem.get_put]
  rfl
 have c1 : decide ((b.length : Int) > 2000) = false := decide_eq_false (by omega)
 repeat (first
  | ((first | refine W_op rfl rfl ?_ | (refine W_opgT rfl rfl ?h ?_; case h => simp only [WG, reduceIte, Nat.reduceEqDiff]; done)); simp only [WB, execE, unE, args0, reduceIte, Nat.reduceEqDiff, Nat.reduceAdd, Nat.reduceLeDiff, ↓hlen, c1, binE, isShift, intBin, WO, fillX, splice, Wo_some])
  | (refine W_opgF rfl rfl ?h ?_; case h => simp only [WG, reduceIte, Nat.reduceEqDiff]; done)
  | (refine W_opgU rfl ?h ?_; case h => simp only [upd_at, reduceIte, Nat.reduceEqDiff]; done) | (refine W_callN rfl ?h ?_; case h => simp only [WG, reduceIte, Nat.reduceEqDiff]; done) | simp only [WS] | refine W_regd0 ?_ | refine W_regd ?_)
 refine W_cond ?_
 simp only [WB, execE, unE, args0, reduceIte, Nat.reduceEqDiff, Nat.reduceAdd, Nat.reduceLeDiff, WC]
 repeat (first
  | ((first | refine W_op rfl rfl ?_ | (refine W_opgT rfl rfl ?h ?_; case h => simp only [WG, reduceIte, Nat.reduceEqDiff]; done)); simp only [WB, execE, unE, args0, reduceIte, Nat.reduceEqDiff, Nat.reduceAdd, Nat.reduceLeDiff, WO, fillX, splice, Wo_some])
  | (refine W_opgF rfl rfl ?h ?_; case h => simp only [WG, reduceIte, Nat.reduceEqDiff]; done)
  | (refine W_opgU rfl ?h ?_; case h => simp only [upd_at, reduceIte, Nat.reduceEqDiff]; done) | (refine W_callN rfl ?h ?_; case h => simp only [WG, reduceIte, Nat.reduceEqDiff]; done) | simp only [WS] | refine W_regd0 ?_ | refine W_regd ?_)
 refine W_callA rfl ?hargs (call5 (hA.keep0 kA') (by omega)) ?_
 case hargs => simp only [WB, execE, unE, args0, reduceIte, Nat.reduceEqDiff, Nat.reduceAdd, Nat.reduceLeDiff] <;> rfl
 rintro v m2 ⟨hO, k2⟩ hs2
 have gA2 := k2.at nA' (by simp) gA'
 have n2 := k2.next
 have d2 : m2.ds = [] := hs2.ds.trans dA'
 rcases hO with ⟨_, rfl⟩ | ⟨g, ev, L, jt, n0, hfo, rfl, hT⟩
 ·skip
  repeat (first
   | ((first | refine W_op rfl rfl ?_ | (refine W_opgT rfl rfl ?h ?_; case h => simp only [WG, reduceIte, Nat.reduceEqDiff]; done)); simp only [WB, execE, unE, args0, reduceIte, Nat.reduceEqDiff, Nat.reduceAdd, Nat.reduceLeDiff, Int.reduceBNe, binE, isShift, intBin, WO, fillX, splice, Wo_some])
   | (refine W_opgF rfl rfl ?h ?_; case h => simp only [WG, reduceIte, Nat.reduceEqDiff]; done)
   | (refine W_opgU rfl ?h ?_; case h => simp only [upd_at, reduceIte, Nat.reduceEqDiff]; done) | (refine W_callN rfl ?h ?_; case h => simp only [WG, reduceIte, Nat.reduceEqDiff]; done) | simp only [WS] | refine W_regd0 ?_ | refine W_regd ?_)
  refine W_cond ?_
  simp only [WB, execE, unE, args0, reduceIte, Nat.reduceEqDiff, Nat.reduceAdd, Nat.reduceLeDiff, WC]
  repeat (first
   | ((first | refine W_opS rfl rfl rfl ?_ | (refine W_opgT rfl rfl ?h ?_; case h => simp only [WG, reduceIte, Nat.reduceEqDiff]; done)); simp only [WB, execE, unE, args0, reduceIte, Nat.reduceEqDiff, Nat.reduceAdd, Nat.reduceLeDiff, WO, fillX, splice, Wo_some])
   | (refine W_opgF rfl rfl ?h ?_; case h => simp only [WG, reduceIte, Nat.reduceEqDiff]; done)
   | (refine W_opgU rfl ?h ?_; case h => simp only [upd_at, reduceIte, Nat.reduceEqDiff]; done) | (refine W_callN rfl ?h ?_; case h => simp only [WG, reduceIte, Nat.reduceEqDiff]; done) | simp only [WS] | refine W_regd0 ?_ | refine W_regd ?_)
  repeat (first | simp only [WS] | refine W_regd0 ?_ | refine W_regd ?_)
  refine W_op rfl rfl ?_
  simp only [WB, execE, unE, args0, reduceIte, Nat.reduceEqDiff, Nat.reduceAdd, Nat.reduceLeDiff, gA2, WO, fillX, splice, Wo_some]
  repeat (first | rw [push_no] | rw [push_yes] | rw [W_onil])
  repeat (first
   | ((first | refine W_op rfl rfl ?_ | (refine W_opgT rfl rfl ?h ?_; case h => simp only [WG, reduceIte, Nat.reduceEqDiff]; done)); simp only [WB, execE, unE, args0, reduceIte, Nat.reduceEqDiff, Nat.reduceAdd, Nat.reduceLeDiff, WO, fillX, splice, Wo_some])
   | (refine W_opgF rfl rfl ?h ?_; case h => simp only [WG, reduceIte, Nat.reduceEqDiff]; done)
   | (refine W_opgU rfl ?h ?_; case h => simp only [upd_at, reduceIte, Nat.reduceEqDiff]; done) | (refine W_callN rfl ?h ?_; case h => simp only [WG, reduceIte, Nat.reduceEqDiff]; done) | simp only [WS] | refine W_regd0 ?_ | refine W_regd ?_)
  refine W_getRet (by repeat (first | exact hg | exact args0_un (Nat.le_of_ble_eq_true rfl) | refine upd_un ?_ rfl)) ?_
  refine ⟨_, [.b true], by rw [AMem.ds_put, d2]; rfl, ?_, rfl⟩
  simp only [resX, execE, X.at, upd_at, reduceIte, Nat.reduceEqDiff, rd, AMem.get_put]
  rfl
 have hok := fopen_ok hfo
 have hge := tbn_ge g ev L L.length
 have hfit := hok.fits
 have hpk := fopen_pack hok (by omega)
 repeat (first
  | ((first | refine W_op rfl rfl ?_ | (refine W_opgT rfl rfl ?h ?_; case h => simp only [WG, reduceIte, Nat.reduceEqDiff]; done)); simp only [WB, execE, unE, args0, reduceIte, Nat.reduceEqDiff, Nat.reduceAdd, Nat.reduceLeDiff, Int.reduceBNe, binE, isShift, intBin, WO, fillX, splice, Wo_some])
  | (refine W_opgF rfl rfl ?h ?_; case h => simp only [WG, reduceIte, Nat.reduceEqDiff]; done)
  | (refine W_opgU rfl ?h ?_; case h => simp only [upd_at, reduceIte, Nat.reduceEqDiff]; done) | (refine W_callN rfl ?h ?_; case h => simp only [WG, reduceIte, Nat.reduceEqDiff]; done) | simp only [WS] | refine W_regd0 ?_ | refine W_regd ?_)
 refine W_cond ?_
 simp only [WB, execE, unE, args0, reduceIte, Nat.reduceEqDiff, Nat.reduceAdd, Nat.reduceLeDiff, WC]
 repeat (first
  | ((first | refine W_op rfl rfl ?_ | (refine W_opgT rfl rfl ?h ?_; case h => simp only [WG, reduceIte, Nat.reduceEqDiff]; done)); simp only [WB, execE, unE, args0, reduceIte, Nat.reduceEqDiff, Nat.reduceAdd, Nat.reduceLeDiff, WO, fillX, splice, Wo_some])
  | (refine W_opgF rfl rfl ?h ?_; case h => simp only [WG, reduceIte, Nat.reduceEqDiff]; done)
  | (refine W_opgU rfl ?h ?_; case h => simp only [upd_at, reduceIte, Nat.reduceEqDiff]; done) | (refine W_callN rfl ?h ?_; case h => simp only [WG, reduceIte, Nat.reduceEqDiff]; done) | simp only [WS] | refine W_regd0 ?_ | refine W_regd ?_)
 refine W_callA rfl ?hargs (call6 hT hok) ?_
 case hargs => simp only [WB, execE, unE, args0, reduceIte, Nat.reduceEqDiff, Nat.reduceAdd, Nat.reduceLeDiff] <;> rfl
 rintro v m3 ⟨hv, hvl, k3⟩ hs3
 have n3 := k3.next
 repeat (first
  | ((first | refine W_op rfl rfl ?_ | (refine W_opgT rfl rfl ?h ?_; case h => simp only [WG, reduceIte, Nat.reduceEqDiff]; done)); simp only [WB, execE, unE, args0, reduceIte, Nat.reduceEqDiff, Nat.reduceAdd, Nat.reduceLeDiff, WO, fillX, splice, Wo_some])
  | (refine W_opgF rfl rfl ?h ?_; case h => simp only [WG, reduceIte, Nat.reduceEqDiff]; done)
  | (refine W_opgU rfl ?h ?_; case h => simp only [upd_at, reduceIte, Nat.reduceEqDiff]; done) | (refine W_callN rfl ?h ?_; case h => simp only [WG, reduceIte, Nat.reduceEqDiff]; done) | simp only [WS] | refine W_regd0 ?_ | refine W_regd ?_)
 refine W_callA rfl ?hargs (call5 hv.arr (by omega)) ?_
 case hargs => simp only [WB, execE, unE, args0, reduceIte, Nat.reduceEqDiff, Nat.reduceAdd, Nat.reduceLeDiff] <;> rfl
 rintro v4 m4 ⟨hO4, k4⟩ hs4
 have n4 := k4.next
 rcases hO4 with ⟨h0, _⟩ | ⟨g4, ev4, L4, jt4, n04, hfo4, rfl, hT4⟩
 ·rw [hpk] at h0; cases h0
 rw [hpk] at hfo4
 cases hfo4
 have d4 : m4.ds = [] := hs4.ds.trans (hs3.ds.trans d2)
 repeat (first
  | ((first | refine W_opS rfl rfl rfl ?_ | (refine W_opgT rfl rfl ?h ?_; case h => simp only [WG, reduceIte, Nat.reduceEqDiff]; done)); simp only [WB, execE, unE, args0, reduceIte, Nat.reduceEqDiff, Nat.reduceAdd, Nat.reduceLeDiff, WO, fillX, splice, Wo_some])
  | (refine W_opgF rfl rfl ?h ?_; case h => simp only [WG, reduceIte, Nat.reduceEqDiff]; done)
  | (refine W_opgU rfl ?h ?_; case h => simp only [upd_at, reduceIte, Nat.reduceEqDiff]; done) | (refine W_callN rfl ?h ?_; case h => simp only [WG, reduceIte, Nat.reduceEqDiff]; done) | simp only [WS] | refine W_regd0 ?_ | refine W_regd ?_)
 repeat (first | simp only [WS] | refine W_regd0 ?_ | refine W_regd ?_)
 refine W_op rfl rfl ?_
 simp only [WB, execE, unE, args0, reduceIte, Nat.reduceEqDiff, Nat.reduceAdd, Nat.reduceLeDiff, WO, fillX, splice, Wo_some]
 repeat (first | rw [push_no] | rw [push_yes] | rw [W_onil])
 obtain ⟨m5, hm5, k5, _, g5, d5, r5, n5⟩ := mk_put m4 [.p none] [.p (some (jt4, 0))] true true ⟨1, some 24⟩ ⟨1, some 24⟩ 1 rfl
 rw [← hm5]
 clear hm5
 have d5' : m5.ds = [] := d5.trans d4
 have hT5 : TapeAt m5 n0 jt g ev L := ((hT.keep k3 (by simp)).keep k4 (by simp)).keep k5 (by simp)
 have hT45 : TapeAt m5 n04 jt4 g ev L := hT4.keep k5 (by simp)
 have gA5 := k5.at (by omega) (by simp) (k4.at (by omega) (by simp) (k3.at (by omega) (by simp) gA2))
 have cne : ((L.length : Int) != (L.length : Int)) = false := bne_self_eq_false _
 repeat (first
  | ((first | refine W_op rfl rfl ?_ | (refine W_opgT rfl rfl ?h ?_; case h => simp only [WG, reduceIte, Nat.reduceEqDiff]; done)); simp only [WB, execE, unE, args0, reduceIte, Nat.reduceEqDiff, Nat.reduceAdd, Nat.reduceLeDiff, g5, Int.reduceBNe, binE, isShift, intBin, WO, fillX, splice, Wo_some])
  | (refine W_opgF rfl rfl ?h ?_; case h => simp only [WG, reduceIte, Nat.reduceEqDiff]; done)
  | (refine W_opgU rfl ?h ?_; case h => simp only [upd_at, reduceIte, Nat.reduceEqDiff]; done) | (refine W_callN rfl ?h ?_; case h => simp only [WG, reduceIte, Nat.reduceEqDiff]; done) | simp only [WS] | refine W_regd0 ?_ | refine W_regd ?_)
 refine W_callK rfl ?hg ?hargs (call7 hT45) ?_
 case hg => (simp only [WB, execE, unE, args0, reduceIte, Nat.reduceEqDiff, Nat.reduceAdd, Nat.reduceLeDiff, WO, fillX, splice]; done)
 case hargs => simp only [WB, execE, unE, args0, reduceIte, Nat.reduceEqDiff, Nat.reduceAdd, Nat.reduceLeDiff, WO, fillX, splice] <;> rfl
 rintro v6 m6 ⟨rfl, rfl⟩ -
 repeat (first
  | ((first | refine W_op rfl rfl ?_ | (refine W_opgT rfl rfl ?h ?_; case h => simp only [WG, reduceIte, Nat.reduceEqDiff]; done)); simp only [WB, execE, unE, args0, reduceIte, Nat.reduceEqDiff, Nat.reduceAdd, Nat.reduceLeDiff, g5, Int.reduceBNe, binE, isShift, intBin, WO, fillX, splice, Wo_some])
  | (refine W_opgF rfl rfl ?h ?_; case h => simp only [WG, reduceIte, Nat.reduceEqDiff]; done)
  | (refine W_opgU rfl ?h ?_; case h => simp only [upd_at, reduceIte, Nat.reduceEqDiff]; done) | (refine W_callN rfl ?h ?_; case h => simp only [WG, reduceIte, Nat.reduceEqDiff]; done) | simp only [WS] | refine W_regd0 ?_ | refine W_regd ?_)
 refine W_callK rfl ?hg ?hargs (call7 hT5) ?_
 case hg => (simp only [WB, execE, unE, args0, reduceIte, Nat.reduceEqDiff, Nat.reduceAdd, Nat.reduceLeDiff, WO, fillX, splice]; done)
 case hargs => simp only [WB, execE, unE, args0, reduceIte, Nat.reduceEqDiff, Nat.reduceAdd, Nat.reduceLeDiff, WO, fillX, splice] <;> rfl
 rintro v6 m6 ⟨rfl, rfl⟩ -
 repeat (first
  | ((first | refine W_op rfl rfl ?_ | (refine W_opgT rfl rfl ?h ?_; case h => simp only [WG, reduceIte, Nat.reduceEqDiff]; done)); simp only [WB, execE, unE, args0, reduceIte, Nat.reduceEqDiff, Nat.reduceAdd, Nat.reduceLeDiff, cne, binE, isShift, intBin, WO, fillX, splice, Wo_some])
  | (refine W_opgF rfl rfl ?h ?_; case h => simp only [WG, reduceIte, Nat.reduceEqDiff]; done)
  | (refine W_opgU rfl ?h ?_; case h => simp only [upd_at, reduceIte, Nat.reduceEqDiff]; done) | (refine W_callN rfl ?h ?_; case h => simp only [WG, reduceIte, Nat.reduceEqDiff]; done) | simp only [WS] | refine W_regd0 ?_ | refine W_regd ?_)
 refine W_cond ?_
 simp only [WB, execE, unE, args0, reduceIte, Nat.reduceEqDiff, Nat.reduceAdd, Nat.reduceLeDiff, WC]
 repeat (first
  | ((first | refine W_op rfl rfl ?_ | (refine W_opgT rfl rfl ?h ?_; case h => simp only [WG, reduceIte, Nat.reduceEqDiff]; done)); simp only [WB, execE, unE, args0, reduceIte, Nat.reduceEqDiff, Nat.reduceAdd, Nat.reduceLeDiff, WO, fillX, splice, Wo_some])
  | (refine W_opgF rfl rfl ?h ?_; case h => simp only [WG, reduceIte, Nat.reduceEqDiff]; done)
  | (refine W_opgU rfl ?h ?_; case h => simp only [upd_at, reduceIte, Nat.reduceEqDiff]; done) | (refine W_callN rfl ?h ?_; case h => simp only [WG, reduceIte, Nat.reduceEqDiff]; done) | simp only [WS] | refine W_regd0 ?_ | refine W_regd ?_)
 refine W_callA rfl ?hargs (call8 (m := m6) (jt := jt)) ?_
 case hargs => simp only [WB, execE, unE, args0, reduceIte, Nat.reduceEqDiff, Nat.reduceAdd, Nat.reduceLeDiff] <;> rfl
 rintro v7 m7 ⟨rfl, n7, g7, k7⟩ hs7
 have d7 : m7.ds = [] := hs7.ds.trans d5'
 have ro7 : m7.ro = none := hs7.ro.trans (r5.trans (hs4.ro.trans (hs3.ro.trans (hs2.ro.trans rA'))))
 repeat (first
  | ((first | refine W_op rfl rfl ?_ | (refine W_opgT rfl rfl ?h ?_; case h => simp only [WG, reduceIte, Nat.reduceEqDiff]; done)); simp only [WB, execE, unE, args0, reduceIte, Nat.reduceEqDiff, Nat.reduceAdd, Nat.reduceLeDiff, WO, fillX, splice, Wo_some])
  | (refine W_opgF rfl rfl ?h ?_; case h => simp only [WG, reduceIte, Nat.reduceEqDiff]; done)
  | (refine W_opgU rfl ?h ?_; case h => simp only [upd_at, reduceIte, Nat.reduceEqDiff]; done) | (refine W_callN rfl ?h ?_; case h => simp only [WG, reduceIte, Nat.reduceEqDiff]; done) | simp only [WS] | refine W_regd0 ?_ | refine W_regd ?_)
 refine W_cutK [] (fun g' m' => m' = m7 ∧ g' 2 = .p (some (m.next, 0)) ∧ g' 5 = .p (some (m4.next, 0)) ∧ g' 46 = .f 21 [] [.p (some (m6.next, 0))]) ?_ ?_
 ·show W _ _ _ [.j _] _ _
  refine W_j (by repeat (first | exact hg | exact args0_un (Nat.le_of_ble_eq_true rfl) | refine upd_un ?_ rfl)) ?_
  refine ⟨rfl, ?_, ?_, ?_⟩
  ·skip
   simp only [WT, reduceIte, Nat.reduceEqDiff, args0]
  ·skip
   simp only [WT, reduceIte, Nat.reduceEqDiff, args0]
  ·skip
   simp only [WT, reduceIte, Nat.reduceEqDiff, args0]
 rintro gg m8 ⟨rfl, q2, q5, q46⟩ hg
 show W _ _ _ (.c _ :: _) _ _
 generalize hasg : ((VC.reg [⟨some 7, none, .mv (.t 47)⟩]).seq (.reg [⟨some 8, none, .alloc 35 [.i .i64 0, .i .i64 0, .i .i64 0, .i .i64 0, .i .i64 0, .i .i64 0, .i .i64 0, .sl none 0 0 true]⟩, ⟨none, none, .st 8 (.t 8) (.t 48)⟩])) = asg
 generalize hbody : VC.blk 1 _ = body
 obtain ⟨mR, hmR⟩ : ∃ mR : AMem, mR = { (m8.new .dfr).new (.loop .ready none ((List.range 64).map gg) [47, 48] asg body) with ds := m8.next :: m8.ds } := ⟨_, rfl⟩
 have hRn : mR.next = m8.next + 2 := by rw [hmR]; rfl
 have kBR : Keep m8 mR [] := by
  subst hmR
  refine ⟨by show m8.next ≤ m8.next + 2; omega, fun i hi _ => ?_⟩
  show ((m8.new .dfr).new _).get i = _
  rw [AMem.get_new, if_neg (by simp; omega), AMem.get_new, if_neg (by omega)]
 have hRd : mR.get m8.next = some .dfr := by
  subst hmR
  show ((m8.new .dfr).new _).get _ = _
  rw [AMem.get_new, if_neg (by simp), AMem.get_new, if_pos rfl]
 have hRl : mR.get (m8.next + 1) = some (.loop .ready none ((List.range 64).map gg) [47, 48] asg body) := by
  subst hmR
  show ((m8.new .dfr).new _).get _ = _
  rw [AMem.get_new, if_pos (by simp)]
 have k6R : Keep m6 mR [] := k7.trans kBR (by simp)
 let P : Nat → AMem → Prop := fun _ m' => m'.get (m8.next + 1) = some (.loop .ready none ((List.range 64).map gg) [47, 48] asg body) ∧ m'.get m8.next = some .dfr ∧ Keep m6 m' [] ∧ mR.next ≤ m'.next
 have hPk : ∀ c m' m'' fp, P c m' → Keep m' m'' fp → (∀ x ∈ fp, mR.next ≤ x) → P c m'' := by
  rintro c m' m'' fp ⟨p1, p2, p3, p4⟩ k hL
  have hx : ∀ x, x < mR.next → x ∉ fp := fun x hx hm => by have := hL x hm; omega
  exact ⟨k.at (by omega) (hx _ (by omega)) p1, k.at (by omega) (hx _ (by omega)) p2, p3.trans k (fun z hz => .inr (by have := hL z hz; omega)), Nat.le_trans p4 k.next⟩
 have hP0 : P 0 mR := ⟨hRl, hRd, k6R, Nat.le_refl _⟩
 refine W_rfn (fun _ m' => P L.length m') hg (by rw [at_t, q46]) ro7 (fun r hr => ?_) ?_
 ·obtain rfl : r = (List.range 64).map gg := Agree.unique hr (Agree.mk' hg)
  refine CallC.of_call T21 ?_
  rw [← hmR]
  show Vi.Call T 21 [.yl (m8.next + 1), .p (some (m6.next, 0))] mR _
  refine call21 (P := P) (FP := [m8.next + 1]) hT5 hok k6R (kBR.at (by omega) (by simp) g7) (by omega) (by simp; omega) (by intro x hx; have := List.mem_singleton.1 hx; omega) hPk ?_ hP0
  rintro c m' cv hc ⟨p1, p2, p3, p4⟩ k0' hcv
  have ocv := Arr.one hcv
  have hoff : Off cv (m8.next + 1) := off_loop hcv p1
  refine CallC.round (nt := 64) (i := 0) hr rfl p1 rfl ?_
  rw [updMany_cons, updMany_cons, updMany_nil, ← hasg]
  simp only [stS]
  repeat (first | simp only [WS] | refine W_regd0 ?_ | refine W_regd ?_)
  refine W_op rfl rfl ?_
  simp only [WB, execE, unE, args0, reduceIte, Nat.reduceEqDiff, Nat.reduceAdd, Nat.reduceLeDiff, WO, fillX, splice, Wo_some]
  repeat (first | rw [push_no] | rw [push_yes] | rw [W_onil])
  repeat (first | simp only [WS] | refine W_regd0 ?_ | refine W_regd ?_)
  refine W_op rfl rfl ?_
  simp only [WB, execE, unE, args0, reduceIte, Nat.reduceEqDiff, Nat.reduceAdd, Nat.reduceLeDiff, WO, fillX, splice, Wo_some]
  repeat (first | rw [push_no] | rw [push_yes] | rw [W_onil])
  repeat (first | simp only [WS] | refine W_regd0 ?_ | refine W_regd ?_)
  refine W_op rfl rfl ?_
  simp only [WB, execE, unE, args0, reduceIte, Nat.reduceEqDiff, Nat.reduceAdd, Nat.reduceLeDiff, ocv, WO, fillX, splice, Wo_some]
  repeat (first | rw [push_no] | rw [push_yes] | rw [W_onil])
  obtain ⟨xm, hxm, kX, bX, gX, dX, roX, nX⟩ := mk_put ({ m' with ds := [], ro := some (m8.next + 1) } : AMem) [.i .i64 0, .i .i64 0, .i .i64 0, .i .i64 0, .i .i64 0, .i .i64 0, .i .i64 0, .sl none 0 0 true] [.i .i64 (L.getD c St.zero).kd, .i .i64 (L.getD c St.zero).nd, .i .i64 (L.getD c St.zero).ph, .i .i64 (L.getD c St.zero).pos, .i .i64 (L.getD c St.zero).st, .i .i64 (L.getD c St.zero).dp, .i .i64 (L.getD c St.zero).og, cv] true true ⟨8, some 35⟩ ⟨8, some 35⟩ 8 rfl
  rw [← hxm]
  clear hxm
  have kX' : Keep m' xm [] := ⟨kX.next, fun i hi h => kX.get i hi h⟩
  have nX' : m'.next < xm.next := nX
  have gX' : xm.get m'.next = some (.cells [.i .i64 (L.getD c St.zero).kd, .i .i64 (L.getD c St.zero).nd, .i .i64 (L.getD c St.zero).ph, .i .i64 (L.getD c St.zero).pos, .i .i64 (L.getD c St.zero).st, .i .i64 (L.getD c St.zero).dp, .i .i64 (L.getD c St.zero).og, cv] true ⟨8, some 35⟩) := gX
  have n6R := k6R.next
  have hlpn : m8.next + 1 < m'.next := by omega
  refine W_j (by repeat (first | exact hg | exact args0_un (Nat.le_of_ble_eq_true rfl) | refine upd_un ?_ rfl)) ?_
  refine ⟨_, _, _, _, kX'.at hlpn (by simp) p1, ?_⟩
  obtain ⟨Z, hZ⟩ : ∃ Z : AMem, Z = xm.put (m8.next + 1) (some (.loop .busy none ((List.range 64).map gg) [47, 48] asg body)) := ⟨_, rfl⟩
  have kXZ : Keep xm Z [m8.next + 1] := by rw [hZ]; exact Keep.put _ _ _
  have gZl : Z.get (m8.next + 1) = some (.loop .busy none ((List.range 64).map gg) [47, 48] asg body) := by rw [hZ, AMem.get_put, if_pos rfl]
  have dZ : Z.ds = [] := by rw [hZ]; exact dX
  have roZ : Z.ro = some (m8.next + 1) := by rw [hZ]; exact roX
  have nZ : Z.next = xm.next := by rw [hZ]; rfl
  rw [← hZ]
  clear hZ
  have kZ : Keep m' Z [m8.next + 1] := (kX'.mono (by simp)).trans kXZ (fun z hz => .inl hz)
  have k6Z : Keep m6 Z [] := k0'.trans kZ (fun z hz => .inr (by have := List.mem_singleton.1 hz; omega))
  have gZ8 := kXZ.at nX' (by simp; omega) gX'
  have bZ8 : rd Z m'.next 0 8 = some (stS (L.getD c St.zero) cv) := by simp [rd, gZ8, stS]
  have hcvZ : Cap Z cv (L.getD c St.zero) := Arr.off hcv kZ hoff
  have g5Z := k6Z.at n5 (by simp) g5
  rw [← hbody]
  repeat (first
   | ((first | refine W_op rfl rfl ?_ | (refine W_opgT rfl rfl ?h ?_; case h => simp only [WG, reduceIte, Nat.reduceEqDiff]; done)); simp only [WB, execE, unE, args0, reduceIte, Nat.reduceEqDiff, Nat.reduceAdd, Nat.reduceLeDiff, q5, g5Z, WO, fillX, splice, Wo_some])
   | (refine W_opgF rfl rfl ?h ?_; case h => simp only [WG, reduceIte, Nat.reduceEqDiff]; done)
   | (refine W_opgU rfl ?h ?_; case h => simp only [upd_at, reduceIte, Nat.reduceEqDiff]; done) | (refine W_callN rfl ?h ?_; case h => simp only [WG, reduceIte, Nat.reduceEqDiff]; done) | simp only [WS] | refine W_regd0 ?_ | refine W_regd ?_)
  refine W_callA rfl ?hargs (call9 (k := c) (hT45.keep k6Z (by simp)) hok hc) ?_
  case hargs => simp only [WB, execE, unE, args0, reduceIte, Nat.reduceEqDiff, Nat.reduceAdd, Nat.reduceLeDiff] <;> rfl
  rintro v m10 ⟨⟨cv2, n2', rfl, hF⟩, k10⟩ hs10
  have o2 := Arr.one hF.arr
  have n10 := k10.next
  repeat (first
   | ((first | refine W_opS rfl rfl rfl ?_ | (refine W_opgT rfl rfl ?h ?_; case h => simp only [WG, reduceIte, Nat.reduceEqDiff]; done)); simp only [WB, execE, unE, args0, reduceIte, Nat.reduceEqDiff, Nat.reduceAdd, Nat.reduceLeDiff, WO, fillX, splice, Wo_some])
   | (refine W_opgF rfl rfl ?h ?_; case h => simp only [WG, reduceIte, Nat.reduceEqDiff]; done)
   | (refine W_opgU rfl ?h ?_; case h => simp only [upd_at, reduceIte, Nat.reduceEqDiff]; done) | (refine W_callN rfl ?h ?_; case h => simp only [WG, reduceIte, Nat.reduceEqDiff]; done) | simp only [WS] | refine W_regd0 ?_ | refine W_regd ?_)
  simp only [stS]
  repeat (first | simp only [WS] | refine W_regd0 ?_ | refine W_regd ?_)
  refine W_op rfl rfl ?_
  simp only [WB, execE, unE, args0, reduceIte, Nat.reduceEqDiff, Nat.reduceAdd, Nat.reduceLeDiff, o2, WO, fillX, splice, Wo_some]
  repeat (first | rw [push_no] | rw [push_yes] | rw [W_onil])
  obtain ⟨m11, hm11, k11, b11, g11, d11, ro11, n11⟩ := mk_put m10 [.i .i64 0, .i .i64 0, .i .i64 0, .i .i64 0, .i .i64 0, .i .i64 0, .i .i64 0, .sl none 0 0 true] [.i .i64 (L.getD c St.zero).kd, .i .i64 (L.getD c St.zero).nd, .i .i64 (L.getD c St.zero).ph, .i .i64 (L.getD c St.zero).pos, .i .i64 (L.getD c St.zero).st, .i .i64 (L.getD c St.zero).dp, .i .i64 (L.getD c St.zero).og, cv2] true true ⟨8, some 35⟩ ⟨8, some 35⟩ 8 rfl
  rw [← hm11]
  clear hm11
  have kZ11 : Keep Z m11 [] := k10.trans k11 (by simp)
  have b8 := rd_keep bZ8 kZ11 (by omega) (by simp)
  have b9 : rd m11 m10.next 0 8 = some (stS (L.getD c St.zero) cv2) := b11
  have hlen6 : (L.getD c St.zero).caps.length ≤ 1000 := by
   have := caps_len (hok.rt _ (getD_mem hc)); have := hok.hg; omega
  repeat (first
   | ((first | refine W_op rfl rfl ?_ | (refine W_opgT rfl rfl ?h ?_; case h => simp only [WG, reduceIte, Nat.reduceEqDiff]; done)); simp only [WB, execE, unE, args0, reduceIte, Nat.reduceEqDiff, Nat.reduceAdd, Nat.reduceLeDiff, b8, b9, Int.reduceBNe, binE, isShift, intBin, WO, fillX, splice, Wo_some])
   | (refine W_opgF rfl rfl ?h ?_; case h => simp only [WG, reduceIte, Nat.reduceEqDiff]; done)
   | (refine W_opgU rfl ?h ?_; case h => simp only [upd_at, reduceIte, Nat.reduceEqDiff]; done) | (refine W_callN rfl ?h ?_; case h => simp only [WG, reduceIte, Nat.reduceEqDiff]; done) | simp only [WS] | refine W_regd0 ?_ | refine W_regd ?_)
  refine W_callK rfl ?hg ?hargs (call10 (s := L.getD c .zero) (cv := cv) (cv2 := cv2) (hcvZ.keep0 kZ11) (hF.arr.keep0 k11) (by omega)) ?_
  case hg => (simp only [WB, execE, unE, args0, reduceIte, Nat.reduceEqDiff, Nat.reduceAdd, Nat.reduceLeDiff, WO, fillX, splice]; done)
  case hargs => simp only [WB, execE, unE, args0, reduceIte, Nat.reduceEqDiff, Nat.reduceAdd, Nat.reduceLeDiff, WO, fillX, splice] <;> rfl
  rintro v m12 ⟨rfl, k12⟩ hs12
  have kZ12 : Keep Z m12 [] := kZ11.trans k12 (by simp)
  have n12 := kZ12.next
  have gl12 := kZ12.at (by omega) (by simp) gZl
  have km12 : Keep m' m12 [m8.next + 1] := kZ.trans kZ12 (by simp)
  have gd12 := km12.at (by omega) (by simp) p2
  repeat (first
   | ((first | refine W_op rfl rfl ?_ | (refine W_opgT rfl rfl ?h ?_; case h => simp only [WG, reduceIte, Nat.reduceEqDiff]; done)); simp only [WB, execE, unE, args0, reduceIte, Nat.reduceEqDiff, Nat.reduceAdd, Nat.reduceLeDiff, WO, fillX, splice, Wo_some])
   | (refine W_opgF rfl rfl ?h ?_; case h => simp only [WG, reduceIte, Nat.reduceEqDiff]; done)
   | (refine W_opgU rfl ?h ?_; case h => simp only [upd_at, reduceIte, Nat.reduceEqDiff]; done) | (refine W_callN rfl ?h ?_; case h => simp only [WG, reduceIte, Nat.reduceEqDiff]; done) | simp only [WS] | refine W_regd0 ?_ | refine W_regd ?_)
  refine W_cond ?_
  simp only [WB, execE, unE, args0, reduceIte, Nat.reduceEqDiff, Nat.reduceAdd, Nat.reduceLeDiff, WC]
  repeat (first
   | ((first | refine W_op rfl rfl ?_ | (refine W_opgT rfl rfl ?h ?_; case h => simp only [WG, reduceIte, Nat.reduceEqDiff]; done)); simp only [WB, execE, unE, args0, reduceIte, Nat.reduceEqDiff, Nat.reduceAdd, Nat.reduceLeDiff, WO, fillX, splice, Wo_some])
   | (refine W_opgF rfl rfl ?h ?_; case h => simp only [WG, reduceIte, Nat.reduceEqDiff]; done)
   | (refine W_opgU rfl ?h ?_; case h => simp only [upd_at, reduceIte, Nat.reduceEqDiff]; done) | (refine W_callN rfl ?h ?_; case h => simp only [WG, reduceIte, Nat.reduceEqDiff]; done) | simp only [WS] | refine W_regd0 ?_ | refine W_regd ?_)
  refine W_j (by repeat (first | exact hg | exact args0_un (Nat.le_of_ble_eq_true rfl) | refine upd_un ?_ rfl)) ?_
  refine ⟨_, _, _, _, _, _, gl12, ?_, rfl, ?_, ?_, ?_, ?_⟩
  ·refine ⟨km12.next, fun i hi hn => ?_⟩
   show ((m12.put (m8.next + 1) _).get i) = _
   rw [AMem.get_put, if_neg (fun h => hn (by simp [h]))]
   exact km12.get i hi hn
  ·show ((m12.put (m8.next + 1) _).get (m8.next + 1)) = _
   rw [AMem.get_put, if_pos rfl]
   rfl
  ·show ((m12.put (m8.next + 1) _).get m8.next) = _
   rw [AMem.get_put, if_neg (by omega)]
   exact gd12
  ·refine ⟨Nat.le_trans k0'.next km12.next, fun i hi _ => ?_⟩
   show ((m12.put (m8.next + 1) _).get i) = _
   rw [AMem.get_put, if_neg (by omega), km12.get i (Nat.lt_of_lt_of_le hi k0'.next) (by simp; omega)]
   exact k0'.get i hi (by simp)
  ·show mR.next ≤ m12.next
   omega
 ·rintro v m9 ⟨p1, p2, p3, p4⟩ hds9 hro9
  refine ⟨.ready, none, _, _, _, _, p1, nofun, ?_⟩
  show W T 64 _ (.b 0 :: _) gg (m9.put (m8.next + 1) none)
  obtain ⟨Y, hY, y1, y2, y3⟩ : ∃ Y : AMem, Y = m9.put (m8.next + 1) none ∧ Y.get m.next = some (.cells [.b false] true ⟨1, some 4⟩) ∧ Y.get m8.next = some .dfr ∧ Y.ds = [m8.next] := by
   refine ⟨_, rfl, ?_, ?_, ?_⟩
   ·rw [AMem.get_put, if_neg (by have := k6R.next; omega)]; exact p3.at (by omega) (by simp) gA5
   ·rw [AMem.get_put, if_neg (by omega)]; exact p2
   ·rw [AMem.ds_put, hds9, d7]
  rw [← hY]
  clear hY
  repeat (first
   | ((first | refine W_opS rfl rfl rfl ?_ | (refine W_opgT rfl rfl ?h ?_; case h => simp only [WG, reduceIte, Nat.reduceEqDiff]; done)); simp only [WB, execE, unE, args0, reduceIte, Nat.reduceEqDiff, Nat.reduceAdd, Nat.reduceLeDiff, q2, WO, fillX, splice, Wo_some])
   | (refine W_opgF rfl rfl ?h ?_; case h => simp only [WG, reduceIte, Nat.reduceEqDiff]; done)
   | (refine W_opgU rfl ?h ?_; case h => simp only [upd_at, reduceIte, Nat.reduceEqDiff]; done) | (refine W_callN rfl ?h ?_; case h => simp only [WG, reduceIte, Nat.reduceEqDiff]; done) | simp only [WS] | refine W_regd0 ?_ | refine W_regd ?_)
  repeat (first | simp only [WS] | refine W_regd0 ?_ | refine W_regd ?_)
  refine W_op rfl rfl ?_
  simp only [WB, execE, unE, args0, reduceIte, Nat.reduceEqDiff, Nat.reduceAdd, Nat.reduceLeDiff, q2, y1, WO, fillX, splice, Wo_some]
  repeat (first | rw [push_no] | rw [push_yes] | rw [W_onil])
  repeat (first
   | ((first | refine W_op rfl rfl ?_ | (refine W_opgT rfl rfl ?h ?_; case h => simp only [WG, reduceIte, Nat.reduceEqDiff]; done)); simp only [WB, execE, unE, args0, reduceIte, Nat.reduceEqDiff, Nat.reduceAdd, Nat.reduceLeDiff, WO, fillX, splice, Wo_some])
   | (refine W_opgF rfl rfl ?h ?_; case h => simp only [WG, reduceIte, Nat.reduceEqDiff]; done)
   | (refine W_opgU rfl ?h ?_; case h => simp only [upd_at, reduceIte, Nat.reduceEqDiff]; done) | (refine W_callN rfl ?h ?_; case h => simp only [WG, reduceIte, Nat.reduceEqDiff]; done) | simp only [WS] | refine W_regd0 ?_ | refine W_regd ?_)
  refine W_getRet (by repeat (first | exact hg | exact args0_un (Nat.le_of_ble_eq_true rfl) | refine upd_un ?_ rfl)) ?_
  refine ⟨(Y.put m.next (some (.cells [.b true] true ⟨1, some 4⟩))).put m8.next none, [.b true], ?_, ?_, rfl⟩
  ·rw [AMem.ds_put, y3]
   simp only [leaveE, AMem.get_put]
   rw [if_neg (by have := k6R.next; omega), y2]
  ·simp only [resX, execE, at_t, q2, rd, AMem.get_put]
   rw [if_neg (by have := k6R.next; omega)]
   simp
end Go.Proofs.YtfbglgmhhmeoeaaGreatDoor
namespace Go.Proofs.YtfbglgmhhmeoeaaGreatDoor
open Go Go.Vi
set_option linter.unusedSimpArgs false
set_option linter.unusedVariables false
theorem byT : Tryz.prog.underlying 22 = some (.slice 5) ∧ Tryz.prog.underlying 5 = some (.int .u8) ∧ Tryz.prog.cellsOf 5 = 1 := ⟨by kernel_rfl, by kernel_rfl, by kernel_rfl⟩
theorem typ_bytes {P : Program} {m : AMem} {d : Nat} {t e : TypeId} (hu : P.underlying t = some (.slice e)) (he : P.underlying e = some (.int .u8)) (hk : P.cellsOf e = 1) {cs : List AV} (h : Typ P m (d + 2) t cs) : ∃ (a : AV) (l : List UInt8), cs = [a] ∧ Arr m 1 a l.length (cellsOfBytes l) := by
 simp only [Typ, hu] at h
 rcases h with rfl | rfl | ⟨j, len, cap, c, rfl, h1, h2, h3, h4, h5, h6, h7⟩
 ·exact ⟨_, [], rfl, Arr.nil m 1⟩
 ·exact ⟨_, [], rfl, ⟨by simp [cellsOfBytes], .inl ⟨rfl, .inl rfl⟩⟩⟩
 ·rw [hk] at h6 h7
  obtain ⟨L, g1, g2, _⟩ := list_of (fun y : UInt8 => [AV.i .u8 (y.toNat : Int)]) (fun _ => True) (k := 1) len c fun i hi => by
   have := h7 i (by omega)
   simp only [he] at this
   obtain ⟨x, hx, hw⟩ := this
   obtain ⟨y, rfl⟩ := u8_of hw
   exact ⟨y, hx, trivial⟩
  rw [flat_one] at g2
  have hlen : (cellsOfBytes L).length = L.length := by simp [cellsOfBytes]
  refine ⟨_, L, rfl, ⟨by rw [hlen, Nat.mul_one], .inr ⟨j, 0, cap, true, c, false, _, by rw [g1], by omega, h4, h5, by omega, ?_⟩⟩⟩
  rw [g1, List.drop_zero, g2]
  rfl
theorem args_of {P : Program} (bT : P.underlying 22 = some (.slice 5) ∧ P.underlying 5 = some (.int .u8) ∧ P.cellsOf 5 = 1) {m : AMem} {avs : List AV} (hl : avs.length = 1)
  (ht : ∀ (j : Nat) t a, [22][j]? = some t → avs[j]? = some a → Typ P m 8 t a.cells ∧ ((∃ fs, P.underlying t = some (.struct fs)) → ∃ l, a = .agg l) ∧ ((¬ ∃ fs, P.underlying t = some (.struct fs)) → a.one = true)) :
  ∃ (a : AV) (l : List UInt8), avs = [a] ∧ Arr m 1 a l.length (cellsOfBytes l) := by
 match avs, hl with
 | [a], _ =>
   obtain ⟨h0, _, o0⟩ := ht 0 22 a rfl rfl
   have o0' := o0 (by rintro ⟨fs, hfs⟩; rw [bT.1] at hfs; simp at hfs)
   rw [one_cells o0'] at h0
   obtain ⟨x, l, e, hA⟩ := typ_bytes (d := 6) bT.1 bT.2.1 bT.2.2 h0
   simp only [List.cons.injEq, and_true] at e
   subst e
   exact ⟨a, l, rfl, hA⟩
theorem row3 (m : AMem) (avs : List AV) (hl : avs.length = 1)
  (ht : ∀ (j : Nat) t a, [22][j]? = some t → avs[j]? = some a → Typ Tryz.prog m 8 t a.cells ∧ ((∃ fs, Tryz.prog.underlying t = some (.struct fs)) → ∃ l, a = .agg l) ∧ ((¬ ∃ fs, Tryz.prog.underlying t = some (.struct fs)) → a.one = true)) :
  Vi.Call T 3 avs m (fun v _ => v = .b true) := by
 obtain ⟨a, l, rfl, hA⟩ := args_of byT hl ht
 exact law3 hA
end Go.Proofs.YtfbglgmhhmeoeaaGreatDoor
