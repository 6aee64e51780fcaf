/- A tape's states are read again. No condition. -/
import Derived.Test.YtfbglgmhhmeoeaaGreatDoorWbWO
import Derived.Test.YtfbglgmhhmeoeaaGreatDoorWbViNode
namespace Go.Proofs.YtfbglgmhhmeoeaaGreatDoor
open Go.Vi
set_option linter.unusedSimpArgs false
set_option linter.unusedVariables false
theorem starts_get {g ev : Nat} {L : List St} {k : Nat} (h : k < L.length) : (starts g ev L)[k]? = some ((tbn g ev L k).length : Int) := by
 unfold starts
 rw [List.getElem?_map, List.getElem?_range h]
 rfl
theorem tbn_le {g ev : Nat} {L : List St} {n k : Nat} (h : n ≤ k) : (tbn g ev L n).length ≤ (tbn g ev L k).length := by
 obtain ⟨r, hr⟩ := tbn_pre (g := g) (ev := ev) (L := L) h
 rw [hr, List.length_append]; omega
set_option maxHeartbeats 16000000 in
theorem call22 {m : AMem} {n0 jt g ev : Nat} {L : List St} (hT : TapeAt m n0 jt g ev L) (hok : TOk g ev L) {k : Nat} (hk : k < L.length) {s : St} {cs : AV} (hcs : cs.one = true) (hs : k % ev ≠ 0 → s = L.getD (k - 1) .zero ∧ Cap m cs s) :
  Vi.Call T 22 [.p (some (jt, 0)), .agg (stS s cs), .i .i64 (k : Int)] m (fun v m' => (∃ cv, v = .tup [.agg (stS (L.getD k .zero) cv), .i .i64 0] ∧ FrI m m' cv (L.getD k .zero).caps) ∧ Keep m m' []) := by
 obtain ⟨bv, sv, cv, tb, ts, tc, ob, os, oc, hR⟩ := hT
 have hg9 := hok.hg
 have hev := hok.hev
 have hobj := hR.obj
 have hhi := hR.hi
 simp only [tapeC] at hobj
 have hread := read_own (ev := ev) hok.rt hk
 obtain ⟨hws, hwc, hwb⟩ := wasOf_ok (ev := ev) hok.rt (show k ≤ L.length by omega)
 have hbase : Base (wasOf g ev L k) := by
  rcases hwb with h | h
  ·exact .inl ⟨g, hg9, h⟩
  ·exact .inr ⟨g, h⟩
 have hle := tbn_le (g := g) (ev := ev) (L := L) (show k ≤ L.length by omega)
 have hfit := hok.fits
 have hge := tbn_ge g ev L L.length
 refine Vi.Call.ofP T22 (Nat.le_of_ble_eq_true rfl) ?_
 unfold v22
 simp only [stS]
 repeat (first | simp only [WS] | refine W_regd0 ?_ | refine W_regd ?_)
 refine W_op rfl rfl ?_
 simp only [WB, execE, unE, args0, reduceIte, Nat.reduceEqDiff, Nat.reduceAdd, Nat.reduceLeDiff, hcs, WO, fillX, splice, Wo_some]
 repeat (first | rw [push_no] | rw [push_yes] | rw [W_onil])
 obtain ⟨mA, hmA, kA, _, gA, dA, _, nA⟩ := mk_new m.inn [.i .i64 s.kd, .i .i64 s.nd, .i .i64 s.ph, .i .i64 s.pos, .i .i64 s.st, .i .i64 s.dp, .i .i64 s.og, cs] true (8 : Nat) 8 rfl
 have kA' : Keep m mA [] := kA.ofInn
 have gA' : mA.get m.next = some (.cells [.i .i64 s.kd, .i .i64 s.nd, .i .i64 s.ph, .i .i64 s.pos, .i .i64 s.st, .i .i64 s.dp, .i .i64 s.og, cs] true (8 : Nat)) := gA
 have nA' : m.next < mA.next := nA
 rw [← hmA]
 clear hmA gA nA kA
 repeat (first | simp only [WS] | refine W_regd0 ?_ | refine W_regd ?_)
 refine W_op rfl rfl ?_
 simp only [WB, execE, unE, args0, reduceIte, Nat.reduceEqDiff, Nat.reduceAdd, Nat.reduceLeDiff, WO, fillX, splice, Wo_some]
 repeat (first | rw [push_no] | rw [push_yes] | rw [W_onil])
 obtain ⟨mB, hmB, kB, _, gB, dB, _, nB⟩ := mk_new mA [.i .i64 0, .i .i64 0, .i .i64 0, .i .i64 0, .i .i64 0, .i .i64 0, .i .i64 0, .sl none 0 0 true] true ⟨8, some 35⟩ 8 rfl
 rw [← hmB]
 clear hmB
 have kB' : Keep m mB [] := kA'.trans kB (by simp)
 have gA2 := kB.at nA' (by simp) gA'
 have hRB : TapeR mB n0 jt g ev L bv sv cv tb ts tc ob os oc := hR.keep kB' (by simp)
 have gt2 := kB'.at hhi (by simp) hobj
 have dB' : mB.ds = [] := dB.trans dA
 have c1 : decide ((k : Int) < 0) = false := decide_eq_false (by omega)
 have c2 : decide ((k : Int) ≥ (L.length : Int)) = false := decide_eq_false (by omega)
 have hrem : (k : Int).tmod (ev : Int) = ((k % ev : Nat) : Int) := rfl
 have hnez : ((ev : Int) = 0) = False := by simp; omega
 repeat (first
  | ((first | refine W_op rfl rfl ?_ | (refine W_opgT rfl rfl ?h ?_; case h => simp only [WG, reduceIte, Nat.reduceEqDiff]; done)); simp only [WB, execE, unE, args0, reduceIte, Nat.reduceEqDiff, Nat.reduceAdd, Nat.reduceLeDiff, c1, binE, isShift, intBin, WO, fillX, splice, Wo_some])
  | (refine W_opgF rfl rfl ?h ?_; case h => simp only [WG, reduceIte, Nat.reduceEqDiff]; done)
  | (refine W_opgU rfl ?h ?_; case h => simp only [upd_at, reduceIte, Nat.reduceEqDiff]; done) | (refine W_callN rfl ?h ?_; case h => simp only [WG, reduceIte, Nat.reduceEqDiff]; done) | simp only [WS] | refine W_regd0 ?_ | refine W_regd ?_)
 refine W_callK rfl ?hg ?hargs (call7 (⟨bv, sv, cv, tb, ts, tc, ob, os, oc, hRB⟩ : TapeAt mB n0 jt g ev L)) ?_
 case hg => (simp only [WB, execE, unE, args0, reduceIte, Nat.reduceEqDiff, Nat.reduceAdd, Nat.reduceLeDiff, WO, fillX, splice]; done)
 case hargs => simp only [WB, execE, unE, args0, reduceIte, Nat.reduceEqDiff, Nat.reduceAdd, Nat.reduceLeDiff, WO, fillX, splice] <;> rfl
 rintro v m1 ⟨rfl, rfl⟩ -
 repeat (first
  | ((first | refine W_op rfl rfl ?_ | (refine W_opgT rfl rfl ?h ?_; case h => simp only [WG, reduceIte, Nat.reduceEqDiff]; done)); simp only [WB, execE, unE, args0, reduceIte, Nat.reduceEqDiff, Nat.reduceAdd, Nat.reduceLeDiff, c2, binE, isShift, intBin, WO, fillX, splice, Wo_some])
  | (refine W_opgF rfl rfl ?h ?_; case h => simp only [WG, reduceIte, Nat.reduceEqDiff]; done)
  | (refine W_opgU rfl ?h ?_; case h => simp only [upd_at, reduceIte, Nat.reduceEqDiff]; done) | (refine W_callN rfl ?h ?_; case h => simp only [WG, reduceIte, Nat.reduceEqDiff]; done) | simp only [WS] | refine W_regd0 ?_ | refine W_regd ?_)
 refine W_cond ?_
 simp only [WB, execE, unE, args0, reduceIte, Nat.reduceEqDiff, Nat.reduceAdd, Nat.reduceLeDiff, WC]
 repeat (first
  | ((first | refine W_op rfl rfl ?_ | (refine W_opgT rfl rfl ?h ?_; case h => simp only [WG, reduceIte, Nat.reduceEqDiff]; done)); simp only [WB, execE, unE, args0, reduceIte, Nat.reduceEqDiff, Nat.reduceAdd, Nat.reduceLeDiff, gt2, hrem, hnez, binE, isShift, intBin, WO, fillX, splice, Wo_some])
  | (refine W_opgF rfl rfl ?h ?_; case h => simp only [WG, reduceIte, Nat.reduceEqDiff]; done)
  | (refine W_opgU rfl ?h ?_; case h => simp only [upd_at, reduceIte, Nat.reduceEqDiff]; done) | (refine W_callN rfl ?h ?_; case h => simp only [WG, reduceIte, Nat.reduceEqDiff]; done) | simp only [WS] | refine W_regd0 ?_ | refine W_regd ?_)
 refine W_cutQ [_] (fun g' m' => ∃ cw : AV, g' 0 = .p (some (jt, 0)) ∧ g' 2 = .i .i64 (k : Int) ∧ g' 4 = .p (some (m.next, 0)) ∧ g' 6 = .p (some (mA.next, 0)) ∧ m'.get m.next = some (.cells (stS (wasOf g ev L k) cw) true (8 : Nat)) ∧ Cap m' cw (wasOf g ev L k) ∧ Keep m1 m' [m.next] ∧ m'.ds = []) ?_ ?_
 ·simp only [List.cons_append, List.nil_append]
  by_cases h0 : k % ev = 0
  ·have c1 : (((k % ev : Nat) : Int) == 0) = true := by rw [h0]; rfl
   have e : wasOf g ev L k = .blank g := by unfold wasOf; rw [if_pos h0]
   rw [e]
   refine W_cond ?_
   simp only [WB, execE, unE, args0, reduceIte, Nat.reduceEqDiff, Nat.reduceAdd, Nat.reduceLeDiff, WC, c1]
   repeat (first
    | ((first | refine W_op rfl rfl ?_ | (refine W_opgT rfl rfl ?h ?_; case h => simp only [WG, reduceIte, Nat.reduceEqDiff]; done)); simp only [WB, execE, unE, args0, reduceIte, Nat.reduceEqDiff, Nat.reduceAdd, Nat.reduceLeDiff, gt2, WO, fillX, splice, Wo_some])
    | (refine W_opgF rfl rfl ?h ?_; case h => simp only [WG, reduceIte, Nat.reduceEqDiff]; done)
    | (refine W_opgU rfl ?h ?_; case h => simp only [upd_at, reduceIte, Nat.reduceEqDiff]; done) | (refine W_callN rfl ?h ?_; case h => simp only [WG, reduceIte, Nat.reduceEqDiff]; done) | simp only [WS] | refine W_regd0 ?_ | refine W_regd ?_)
   refine W_callA rfl ?hargs (call35 hg9) ?_
   case hargs => simp only [WB, execE, unE, args0, reduceIte, Nat.reduceEqDiff, Nat.reduceAdd, Nat.reduceLeDiff] <;> rfl
   rintro v m2 ⟨⟨cw, rfl, hF⟩, k2⟩ hs2
   have gA3 := k2.at (by omega) (by simp) gA2
   have ow := Arr.one hF.arr
   repeat (first
    | ((first | refine W_opS rfl rfl rfl ?_ | (refine W_opgT rfl rfl ?h ?_; case h => simp only [WG, reduceIte, Nat.reduceEqDiff]; done)); simp only [WB, execE, unE, args0, reduceIte, Nat.reduceEqDiff, Nat.reduceAdd, Nat.reduceLeDiff, WO, fillX, splice, Wo_some])
    | (refine W_opgF rfl rfl ?h ?_; case h => simp only [WG, reduceIte, Nat.reduceEqDiff]; done)
    | (refine W_opgU rfl ?h ?_; case h => simp only [upd_at, reduceIte, Nat.reduceEqDiff]; done) | (refine W_callN rfl ?h ?_; case h => simp only [WG, reduceIte, Nat.reduceEqDiff]; done) | simp only [WS] | refine W_regd0 ?_ | refine W_regd ?_)
   simp only [stS]
   repeat (first | simp only [WS] | refine W_regd0 ?_ | refine W_regd ?_)
   refine W_op rfl rfl ?_
   simp only [WB, execE, unE, args0, reduceIte, Nat.reduceEqDiff, Nat.reduceAdd, Nat.reduceLeDiff, gA3, ow, WO, fillX, splice, Wo_some]
   repeat (first | rw [push_no] | rw [push_yes] | rw [W_onil])
   refine W_j (by repeat (first | exact hg | exact args0_un (Nat.le_of_ble_eq_true rfl) | refine upd_un ?_ rfl)) ?_
   refine ⟨cw, ?_, ?_, ?_, ?_, ?_, ?_, ?_, hs2.ds.trans dB'⟩
   ·skip
    simp only [WT, reduceIte, Nat.reduceEqDiff, args0]
   ·skip
    simp only [WT, reduceIte, Nat.reduceEqDiff, args0]
   ·skip
    simp only [WT, reduceIte, Nat.reduceEqDiff, args0]
   ·skip
    simp only [WT, reduceIte, Nat.reduceEqDiff, args0]
   ·rw [AMem.get_put, if_pos rfl]
   ·obtain ⟨tw, ow2, hw, hww⟩ := hF
    exact (hw.keep (Keep.put _ _ _) (fun z hz hm => by have := hww z hz; have := List.mem_singleton.1 hm; omega)).arr
   ·exact (k2.nil).trans (Keep.put _ _ _) (fun z hz => .inl hz)
  ·have c1 : (((k % ev : Nat) : Int) == 0) = false := by simp only [beq_eq_false_iff_ne]; omega
   obtain ⟨he, hC⟩ := hs h0
   have e : wasOf g ev L k = s := by unfold wasOf; rw [if_neg h0, he]
   rw [e]
   refine W_cond ?_
   simp only [WB, execE, unE, args0, reduceIte, Nat.reduceEqDiff, Nat.reduceAdd, Nat.reduceLeDiff, WC, c1]
   repeat (first
    | ((first | refine W_op rfl rfl ?_ | (refine W_opgT rfl rfl ?h ?_; case h => simp only [WG, reduceIte, Nat.reduceEqDiff]; done)); simp only [WB, execE, unE, args0, reduceIte, Nat.reduceEqDiff, Nat.reduceAdd, Nat.reduceLeDiff, WO, fillX, splice, Wo_some])
    | (refine W_opgF rfl rfl ?h ?_; case h => simp only [WG, reduceIte, Nat.reduceEqDiff]; done)
    | (refine W_opgU rfl ?h ?_; case h => simp only [upd_at, reduceIte, Nat.reduceEqDiff]; done) | (refine W_callN rfl ?h ?_; case h => simp only [WG, reduceIte, Nat.reduceEqDiff]; done) | simp only [WS] | refine W_regd0 ?_ | refine W_regd ?_)
   refine W_j (by repeat (first | exact hg | exact args0_un (Nat.le_of_ble_eq_true rfl) | refine upd_un ?_ rfl)) ?_
   refine ⟨cs, ?_, ?_, ?_, ?_, gA2, Arr.keep0 hC kB', Keep.refl _ _, dB'⟩
   ·skip
    simp only [WT, reduceIte, Nat.reduceEqDiff, args0]
   ·skip
    simp only [WT, reduceIte, Nat.reduceEqDiff, args0]
   ·skip
    simp only [WT, reduceIte, Nat.reduceEqDiff, args0]
   ·skip
    simp only [WT, reduceIte, Nat.reduceEqDiff, args0]
 rintro gg m2 ⟨cw, q0, q2, q4, q6, bw, hCw, k2, d2⟩ hg
 have n12 := k2.next
 have kk2 : Keep m m2 [] := kB'.trans k2 (fun z hz => .inr (by have := List.mem_singleton.1 hz; omega))
 have gt3 := kk2.at hhi (by simp) hobj
 have gB2 := k2.at nB (by simp; omega) gB
 have hlc := Arr.lenF hCw
 have hwm : IntKind.i64.wrap (2 * ((g + 1 : Nat) : Int)) = (((wasOf g ev L k).caps.length : Nat) : Int) := by rw [wr_i64 (by omega) (by omega)]; omega
 have hwa : IntKind.i64.wrap ((g : Int) + 1) = ((g + 1 : Nat) : Int) := wr_i64 (n := (g : Int) + 1) (by omega) (by omega)
 have hneq : ((((wasOf g ev L k).caps.length : Nat) : Int) != (((wasOf g ev L k).caps.length : Nat) : Int)) = false := by simp
 simp only [stS] at bw
 repeat (first
  | ((first | refine W_op rfl rfl ?_ | (refine W_opgT rfl rfl ?h ?_; case h => simp only [WG, reduceIte, Nat.reduceEqDiff]; done)); simp only [WB, execE, unE, args0, reduceIte, Nat.reduceEqDiff, Nat.reduceAdd, Nat.reduceLeDiff, q0, q4, bw, gt3, ↓hlc, hwm, hwa, hneq, binE, isShift, intBin, WO, fillX, splice, Wo_some])
  | (refine W_opgF rfl rfl ?h ?_; case h => simp only [WG, reduceIte, Nat.reduceEqDiff]; done)
  | (refine W_opgU rfl ?h ?_; case h => simp only [upd_at, reduceIte, Nat.reduceEqDiff]; done) | (refine W_callN rfl ?h ?_; case h => simp only [WG, reduceIte, Nat.reduceEqDiff]; done) | simp only [WS] | refine W_regd0 ?_ | refine W_regd ?_)
 refine W_cond ?_
 simp only [WB, execE, unE, args0, reduceIte, Nat.reduceEqDiff, Nat.reduceAdd, Nat.reduceLeDiff, WC]
 repeat (first | simp only [WS] | refine W_regd0 ?_ | refine W_regd ?_)
 refine W_op rfl rfl ?_
 simp only [WB, execE, unE, args0, reduceIte, Nat.reduceEqDiff, Nat.reduceAdd, Nat.reduceLeDiff, WO, fillX, splice, Wo_some]
 repeat (first | rw [push_no] | rw [push_yes] | rw [W_onil])
 obtain ⟨mC, hmC, kC, _, gC, dC, _, nC⟩ := mk_new m2 [.i .i64 0, .i .i64 0, .i .i64 0, .i .i64 0, .i .i64 0, .i .i64 0, .i .i64 0, .sl none 0 0 true] true ⟨8, some 35⟩ 8 rfl
 rw [← hmC]
 clear hmC
 have kk3 : Keep m mC [] := kk2.trans kC (by simp)
 have gt4 := kk3.at hhi (by simp) hobj
 have bw2 := kC.at (by omega) (by simp) bw
 have hRC : RowE mC 1 ts sv os L.length (ints (starts g ev L)) := hR.starts.keep kk3 (by simp)
 obtain ⟨ja, oa, capa, exa, ca, wra, esa, rfl, hja, hga, hcka⟩ := hRC.arr.full (by omega)
 have hca : ca[oa + k]? = some (.i .i64 ((tbn g ev L k).length : Int)) := (hcka _ (by omega)).trans (ints_get (starts_get hk))
 have hix : (0 ≤ (k : Int) ∧ (k : Int) < (L.length : Int)) := ⟨by omega, by omega⟩
 have brd : rd mC m.next 0 8 = some (stS (wasOf g ev L k) cw) := by simp [rd, bw2, stS]
 repeat (first
  | ((first | refine W_op rfl rfl ?_ | (refine W_opgT rfl rfl ?h ?_; case h => simp only [WG, reduceIte, Nat.reduceEqDiff]; done)); simp only [WB, execE, unE, args0, reduceIte, Nat.reduceEqDiff, Nat.reduceAdd, Nat.reduceLeDiff, q0, q2, q4, brd, gt4, hix, Int.toNat_natCast, Nat.mul_one, hga, hca, binE, isShift, intBin, WO, fillX, splice, Wo_some])
  | (refine W_opgF rfl rfl ?h ?_; case h => simp only [WG, reduceIte, Nat.reduceEqDiff]; done)
  | (refine W_opgU rfl ?h ?_; case h => simp only [upd_at, reduceIte, Nat.reduceEqDiff]; done) | (refine W_callN rfl ?h ?_; case h => simp only [WG, reduceIte, Nat.reduceEqDiff]; done) | simp only [WS] | refine W_regd0 ?_ | refine W_regd ?_)
 refine W_callA rfl ?hargs (call36 (was := wasOf g ev L k) (cw := cw) (b := tbn g ev L L.length) (a := (tbn g ev L k).length) (Arr.keep0 hCw kC) hbase (hR.bytes.keep kk3 (by simp)).arr (by omega) hle) ?_
 case hargs => simp only [WB, execE, unE, args0, reduceIte, Nat.reduceEqDiff, Nat.reduceAdd, Nat.reduceLeDiff] <;> rfl
 rintro v m3 ⟨⟨cr, rfl, hF⟩, k3⟩ hs3
 rw [hread] at hF ⊢
 simp only [if_true] at hF
 have n3 := k3.next
 have gC3 := k3.at nC (by simp) gC
 have gB3 := (kC.trans k3 (by simp) : Keep m2 m3 []).at (by omega) (by simp) gB2
 have orr := Arr.one hF.arr
 have kk5 : Keep m m3 [] := kk3.trans k3 (by simp)
 have d3 : m3.ds = [] := hs3.ds.trans (dC.trans d2)
 repeat (first
  | ((first | refine W_opS rfl rfl rfl ?_ | (refine W_opgT rfl rfl ?h ?_; case h => simp only [WG, reduceIte, Nat.reduceEqDiff]; done)); simp only [WB, execE, unE, args0, reduceIte, Nat.reduceEqDiff, Nat.reduceAdd, Nat.reduceLeDiff, stS, WO, fillX, splice, Wo_some])
  | (refine W_opgF rfl rfl ?h ?_; case h => simp only [WG, reduceIte, Nat.reduceEqDiff]; done)
  | (refine W_opgU rfl ?h ?_; case h => simp only [upd_at, reduceIte, Nat.reduceEqDiff]; done) | (refine W_callN rfl ?h ?_; case h => simp only [WG, reduceIte, Nat.reduceEqDiff]; done) | simp only [WS] | refine W_regd0 ?_ | refine W_regd ?_)
 repeat (first | simp only [WS] | refine W_regd0 ?_ | refine W_regd ?_)
 refine W_op rfl rfl ?_
 simp only [WB, execE, unE, args0, reduceIte, Nat.reduceEqDiff, Nat.reduceAdd, Nat.reduceLeDiff, gC3, orr, WO, fillX, splice, Wo_some]
 repeat (first | rw [push_no] | rw [push_yes] | rw [W_onil])
 obtain ⟨m4, hm4⟩ : ∃ m4 : AMem, m4 = m3.put m2.next (some (.cells [.i .i64 (L.getD k St.zero).kd, .i .i64 (L.getD k St.zero).nd, .i .i64 (L.getD k St.zero).ph, .i .i64 (L.getD k St.zero).pos, .i .i64 (L.getD k St.zero).st, .i .i64 (L.getD k St.zero).dp, .i .i64 (L.getD k St.zero).og, cr] true ⟨8, some 35⟩)) := ⟨_, rfl⟩
 have k34 : Keep m3 m4 [m2.next] := by rw [hm4]; exact Keep.put _ _ _
 have g4 : rd m4 m2.next 0 8 = some (stS (L.getD k St.zero) cr) := by simp [hm4, rd, AMem.get_put, stS]
 have gB4 := k34.at (by omega) (by simp; omega) gB3
 have d4 : m4.ds = [] := by rw [hm4]; exact d3
 have nn4 : m4.next = m3.next := by rw [hm4]; rfl
 rw [← hm4]
 clear hm4
 repeat (first
  | ((first | refine W_op rfl rfl ?_ | (refine W_opgT rfl rfl ?h ?_; case h => simp only [WG, reduceIte, Nat.reduceEqDiff]; done)); simp only [WB, execE, unE, args0, reduceIte, Nat.reduceEqDiff, Nat.reduceAdd, Nat.reduceLeDiff, binE, isShift, intBin, WO, fillX, splice, Wo_some])
  | (refine W_opgF rfl rfl ?h ?_; case h => simp only [WG, reduceIte, Nat.reduceEqDiff]; done)
  | (refine W_opgU rfl ?h ?_; case h => simp only [upd_at, reduceIte, Nat.reduceEqDiff]; done) | (refine W_callN rfl ?h ?_; case h => simp only [WG, reduceIte, Nat.reduceEqDiff]; done) | simp only [WS] | refine W_regd0 ?_ | refine W_regd ?_)
 refine W_cond ?_
 simp only [WB, execE, unE, args0, reduceIte, Nat.reduceEqDiff, Nat.reduceAdd, Nat.reduceLeDiff, WC]
 repeat (first
  | ((first | refine W_opS rfl rfl rfl ?_ | (refine W_opgT rfl rfl ?h ?_; case h => simp only [WG, reduceIte, Nat.reduceEqDiff]; done)); simp only [WB, execE, unE, args0, reduceIte, Nat.reduceEqDiff, Nat.reduceAdd, Nat.reduceLeDiff, g4, WO, fillX, splice, Wo_some])
  | (refine W_opgF rfl rfl ?h ?_; case h => simp only [WG, reduceIte, Nat.reduceEqDiff]; done)
  | (refine W_opgU rfl ?h ?_; case h => simp only [upd_at, reduceIte, Nat.reduceEqDiff]; done) | (refine W_callN rfl ?h ?_; case h => simp only [WG, reduceIte, Nat.reduceEqDiff]; done) | simp only [WS] | refine W_regd0 ?_ | refine W_regd ?_)
 simp only [stS]
 repeat (first | simp only [WS] | refine W_regd0 ?_ | refine W_regd ?_)
 refine W_op rfl rfl ?_
 simp only [WB, execE, unE, args0, reduceIte, Nat.reduceEqDiff, Nat.reduceAdd, Nat.reduceLeDiff, q6, gB4, orr, WO, fillX, splice, Wo_some]
 repeat (first | rw [push_no] | rw [push_yes] | rw [W_onil])
 repeat (first
  | ((first | refine W_op rfl rfl ?_ | (refine W_opgT rfl rfl ?h ?_; case h => simp only [WG, reduceIte, Nat.reduceEqDiff]; done)); simp only [WB, execE, unE, args0, reduceIte, Nat.reduceEqDiff, Nat.reduceAdd, Nat.reduceLeDiff, WO, fillX, splice, Wo_some])
  | (refine W_opgF rfl rfl ?h ?_; case h => simp only [WG, reduceIte, Nat.reduceEqDiff]; done)
  | (refine W_opgU rfl ?h ?_; case h => simp only [upd_at, reduceIte, Nat.reduceEqDiff]; done) | (refine W_callN rfl ?h ?_; case h => simp only [WG, reduceIte, Nat.reduceEqDiff]; done) | simp only [WS] | refine W_regd0 ?_ | refine W_regd ?_)
 refine W_getRet (by repeat (first | exact hg | exact args0_un (Nat.le_of_ble_eq_true rfl) | refine upd_un ?_ rfl)) ?_
 have k45 : Keep m4 (m4.put mA.next (some (.cells [.i .i64 (L.getD k St.zero).kd, .i .i64 (L.getD k St.zero).nd, .i .i64 (L.getD k St.zero).ph, .i .i64 (L.getD k St.zero).pos, .i .i64 (L.getD k St.zero).st, .i .i64 (L.getD k St.zero).dp, .i .i64 (L.getD k St.zero).og, cr] true ⟨8, some 35⟩))) [mA.next] := Keep.put _ _ _
 refine ⟨d4, [.agg (stS (L.getD k St.zero) cr), .i .i64 0], ?_, ⟨cr, rfl, ?_⟩, ?_⟩
 ·simp only [resX, execE, X.at, upd_at, reduceIte, Nat.reduceEqDiff, q6, rd, AMem.get_put]
  rfl
 ·obtain ⟨ty, oj, hr, ho⟩ := hF
  exact ⟨ty, oj, ((hr.keep k34 (fun z hz hm => by have := ho z hz; have := List.mem_singleton.1 hm; omega)).keep k45 (fun z hz hm => by have := ho z hz; have := List.mem_singleton.1 hm; omega)).keep (Keep.refl _ []).out (by simp), fun z hz => by have := ho z hz; omega⟩
 ·exact ((kk5.trans k34 (fun z hz => .inr (by have := List.mem_singleton.1 hz; omega))).trans k45 (fun z hz => .inr (by have := List.mem_singleton.1 hz; omega))).out
end Go.Proofs.YtfbglgmhhmeoeaaGreatDoor
namespace Go.Proofs.YtfbglgmhhmeoeaaGreatDoor
open Go.Vi
set_option linter.unusedSimpArgs false
set_option linter.unusedVariables false
set_option maxHeartbeats 16000000 in
theorem call24 {m : AMem} {n0 jt g ev : Nat} {L : List St} (hT : TapeAt m n0 jt g ev L) (hok : TOk g ev L) {k : Nat} (hk : k < L.length) :
  Vi.Call T 24 [.p (some (jt, 0)), .i .i64 (k : Int)] m (fun v m' => (∃ av n ty oj pre cv, v = .tup [av, .i .i64 0] ∧ 0 < n ∧ n ≤ k + 1 ∧ RowE m' 8 ty av oj n (pre ++ stS (L.getD k .zero) cv) ∧ pre.length = (n - 1) * 8 ∧ FrI m m' cv (L.getD k .zero).caps) ∧ Keep m m' []) := by
 have hev := hok.hev
 have hge := tbn_ge g ev L L.length
 have hfit := hok.fits
 have hobj : ∃ bv sv cv, m.get jt = some (.cells (tapeC g ev bv sv (lastOf L) cv) true (13 : Nat)) ∧ jt < m.next := by
  obtain ⟨bv, sv, cv, tb, ts, tc, ob, os, oc, hR⟩ := hT
  exact ⟨bv, sv, cv, hR.obj, hR.hi⟩
 obtain ⟨bv0, sv0, cv0, hobj, hhi⟩ := hobj
 simp only [tapeC] at hobj
 refine Vi.Call.ofP T24 (Nat.le_of_ble_eq_true rfl) ?_
 unfold v24
 have c1 : decide ((k : Int) < 0) = false := decide_eq_false (by omega)
 have c2 : decide ((k : Int) ≥ (L.length : Int)) = false := decide_eq_false (by omega)
 repeat (first
  | ((first | refine W_op rfl rfl ?_ | (refine W_opgT rfl rfl ?h ?_; case h => simp only [WG, reduceIte, Nat.reduceEqDiff]; done)); simp only [WB, execE, unE, args0, reduceIte, Nat.reduceEqDiff, Nat.reduceAdd, Nat.reduceLeDiff, c1, binE, isShift, intBin, WO, fillX, splice, Wo_some])
  | (refine W_opgF rfl rfl ?h ?_; case h => simp only [WG, reduceIte, Nat.reduceEqDiff]; done)
  | (refine W_opgU rfl ?h ?_; case h => simp only [upd_at, reduceIte, Nat.reduceEqDiff]; done) | (refine W_callN rfl ?h ?_; case h => simp only [WG, reduceIte, Nat.reduceEqDiff]; done) | simp only [WS] | refine W_regd0 ?_ | refine W_regd ?_)
 refine W_callK rfl ?hg ?hargs (call7 (hT.keep (Keep.inn m) (by simp))) ?_
 case hg => (simp only [WB, execE, unE, args0, reduceIte, Nat.reduceEqDiff, Nat.reduceAdd, Nat.reduceLeDiff, WO, fillX, splice]; done)
 case hargs => simp only [WB, execE, unE, args0, reduceIte, Nat.reduceEqDiff, Nat.reduceAdd, Nat.reduceLeDiff, WO, fillX, splice] <;> rfl
 rintro v m1 ⟨rfl, rfl⟩ -
 repeat (first
  | ((first | refine W_op rfl rfl ?_ | (refine W_opgT rfl rfl ?h ?_; case h => simp only [WG, reduceIte, Nat.reduceEqDiff]; done)); simp only [WB, execE, unE, args0, reduceIte, Nat.reduceEqDiff, Nat.reduceAdd, Nat.reduceLeDiff, c2, binE, isShift, intBin, WO, fillX, splice, Wo_some])
  | (refine W_opgF rfl rfl ?h ?_; case h => simp only [WG, reduceIte, Nat.reduceEqDiff]; done)
  | (refine W_opgU rfl ?h ?_; case h => simp only [upd_at, reduceIte, Nat.reduceEqDiff]; done) | (refine W_callN rfl ?h ?_; case h => simp only [WG, reduceIte, Nat.reduceEqDiff]; done) | simp only [WS] | refine W_regd0 ?_ | refine W_regd ?_)
 refine W_cond ?_
 simp only [WB, execE, unE, args0, reduceIte, Nat.reduceEqDiff, Nat.reduceAdd, Nat.reduceLeDiff, WC]
 repeat (first | simp only [WS] | refine W_regd0 ?_ | refine W_regd ?_)
 refine W_op rfl rfl ?_
 simp only [WB, execE, unE, args0, reduceIte, Nat.reduceEqDiff, Nat.reduceAdd, Nat.reduceLeDiff, WO, fillX, splice, Wo_some]
 repeat (first | rw [push_no] | rw [push_yes] | rw [W_onil])
 repeat (first | simp only [WS] | refine W_regd0 ?_ | refine W_regd ?_)
 refine W_op rfl rfl ?_
 simp only [WB, execE, unE, args0, reduceIte, Nat.reduceEqDiff, Nat.reduceAdd, Nat.reduceLeDiff, WO, fillX, splice, Wo_some]
 repeat (first | rw [push_no] | rw [push_yes] | rw [W_onil])
 obtain ⟨mB, hmB, kB, _, gB, dB, _, nB⟩ := mk_new m.inn [.i .i64 0, .i .i64 0, .i .i64 0, .i .i64 0, .i .i64 0, .i .i64 0, .i .i64 0, .sl none 0 0 true] true ⟨8, some 35⟩ 8 rfl
 have kB' : Keep m mB [] := kB.ofInn
 have gB' : mB.get m.next = some (.cells [.i .i64 0, .i .i64 0, .i .i64 0, .i .i64 0, .i .i64 0, .i .i64 0, .i .i64 0, .sl none 0 0 true] true ⟨8, some 35⟩) := gB
 have nB' : m.next < mB.next := nB
 have dB' : mB.ds = [] := dB
 rw [← hmB]
 clear hmB gB nB kB dB
 have gt2 := kB'.at hhi (by simp) hobj
 have hrem : (k : Int).tmod (ev : Int) = ((k % ev : Nat) : Int) := rfl
 have hnez : ((ev : Int) = 0) = False := by simp; omega
 have hmle := Nat.mod_le k ev
 obtain ⟨lo, hlo⟩ : ∃ lo, lo = k - k % ev := ⟨_, rfl⟩
 have hlo0 : lo % ev = 0 := by
  have : ev * (k / ev) + k % ev = k := Nat.div_add_mod k ev
  rw [show lo = ev * (k / ev) by omega]
  exact Nat.mul_mod_right _ _
 have hwl : IntKind.i64.wrap ((k : Int) - ((k % ev : Nat) : Int)) = (lo : Int) := by rw [wr_i64 (by omega) (by omega)]; omega
 repeat (first
  | ((first | refine W_op rfl rfl ?_ | (refine W_opgT rfl rfl ?h ?_; case h => simp only [WG, reduceIte, Nat.reduceEqDiff]; done)); simp only [WB, execE, unE, args0, reduceIte, Nat.reduceEqDiff, Nat.reduceAdd, Nat.reduceLeDiff, gt2, hrem, hnez, hwl, binE, isShift, intBin, WO, fillX, splice, Wo_some])
  | (refine W_opgF rfl rfl ?h ?_; case h => simp only [WG, reduceIte, Nat.reduceEqDiff]; done)
  | (refine W_opgU rfl ?h ?_; case h => simp only [upd_at, reduceIte, Nat.reduceEqDiff]; done) | (refine W_callN rfl ?h ?_; case h => simp only [WG, reduceIte, Nat.reduceEqDiff]; done) | simp only [WS] | refine W_regd0 ?_ | refine W_regd ?_)
 refine W_cutK [_, _] (fun g' m' => ∃ (av cv : AV) (ty oj : Option Nat) (pre : List AV), g' 6 = av ∧ RowE m' 8 ty av oj (k + 1 - lo) (pre ++ stS (L.getD k .zero) cv) ∧ pre.length = (k + 1 - lo - 1) * 8 ∧ FrI m m' cv (L.getD k .zero).caps ∧ Keep m m' [] ∧ m'.ds = []) ?_ ?_
 ·simp only [List.cons_append, List.nil_append]
  refine W_loop (fun q g' m' => ∃ (i : Nat) (s : St) (cs av : AV) (ty oj : Option Nat) (ls : List AV), lo ≤ i ∧ i ≤ k + 1 ∧ q = k + 1 - i ∧ g' 0 = .p (some (jt, 0)) ∧ g' 1 = .i .i64 (k : Int) ∧ g' 6 = av ∧ g' 7 = .p (some (m.next, 0)) ∧ g' 8 = .i .i64 (i : Int) ∧ m'.get m.next = some (.cells (stS s cs) true ⟨8, some 35⟩) ∧ cs.one = true ∧ (i ≠ lo → s = L.getD (i - 1) .zero ∧ (∃ tyc ojc, RowE m' 1 tyc cs ojc s.caps.length (ints s.caps) ∧ ∀ z, ojc = some z → m.next < z ∧ oj ≠ some z) ∧ ∃ pre, ls = pre ++ stS s cs ∧ pre.length = (i - lo - 1) * 8) ∧ RowE m' 8 ty av oj (i - lo) ls ∧ (∀ z, oj = some z → m.next < z) ∧ Keep m m' [] ∧ mB.next ≤ m'.next ∧ m'.ds = []) (k + 1 - lo) ?_ ?_ ?_
  ·refine ⟨lo, .zero, .sl none 0 0 true, .sl none 0 0 true, none, none, [], Nat.le_refl _, by omega, ?_, ?_, ?_, ?_, ?_, ?_, gB', rfl, fun h => absurd rfl h, ?_, nofun, kB', Nat.le_refl _, dB'⟩
   ·rfl
   ·skip
    simp only [WT, reduceIte, Nat.reduceEqDiff, args0]
   ·skip
    simp only [WT, reduceIte, Nat.reduceEqDiff, args0]
   ·skip
    simp only [WT, reduceIte, Nat.reduceEqDiff, args0]
   ·skip
    simp only [WT, reduceIte, Nat.reduceEqDiff, args0]
   ·skip
    simp only [WT, reduceIte, Nat.reduceEqDiff, args0]
   ·rw [Nat.sub_self]; exact RowE.nil _ _ _
  ·intro i hi
   repeat (first | exact args0_un (Nat.le_of_ble_eq_true rfl) i hi | refine upd_un ?_ rfl i hi; clear i hi; intro i hi)
  ·rintro q gg m2 ⟨i, s, cs, av, ty, oj, ls, hloi, hik, rfl, q0, q1, q6, q7, q8, gw, hcs, hpre, hR, hoj, k2, n2, d2⟩ hg
   by_cases hlt : i ≤ k
   ·have e1 : decide ((i : Int) ≤ (k : Int)) = true := decide_eq_true (by omega)
    have brd : rd m2 m.next 0 8 = some (stS s cs) := by simp [rd, gw, stS]
    have hprev : i % ev ≠ 0 → s = L.getD (i - 1) .zero ∧ Cap m2 cs s := by
     intro h0
     have hne : i ≠ lo := fun h => h0 (h ▸ hlo0)
     obtain ⟨h1, ⟨tyc, ojc, h2, _⟩, _⟩ := hpre hne
     exact ⟨h1, h2.arr⟩
    repeat (first
     | ((first | refine W_op rfl rfl ?_ | (refine W_opgT rfl rfl ?h ?_; case h => simp only [WG, reduceIte, Nat.reduceEqDiff]; done)); simp only [WB, execE, unE, args0, reduceIte, Nat.reduceEqDiff, Nat.reduceAdd, Nat.reduceLeDiff, q1, q8, e1, binE, isShift, intBin, WO, fillX, splice, Wo_some])
     | (refine W_opgF rfl rfl ?h ?_; case h => simp only [WG, reduceIte, Nat.reduceEqDiff]; done)
     | (refine W_opgU rfl ?h ?_; case h => simp only [upd_at, reduceIte, Nat.reduceEqDiff]; done) | (refine W_callN rfl ?h ?_; case h => simp only [WG, reduceIte, Nat.reduceEqDiff]; done) | simp only [WS] | refine W_regd0 ?_ | refine W_regd ?_)
    refine W_cond ?_
    simp only [WB, execE, unE, args0, reduceIte, Nat.reduceEqDiff, Nat.reduceAdd, Nat.reduceLeDiff, WC]
    repeat (first
     | ((first | refine W_op rfl rfl ?_ | (refine W_opgT rfl rfl ?h ?_; case h => simp only [WG, reduceIte, Nat.reduceEqDiff]; done)); simp only [WB, execE, unE, args0, reduceIte, Nat.reduceEqDiff, Nat.reduceAdd, Nat.reduceLeDiff, q0, q7, q8, brd, WO, fillX, splice, Wo_some])
     | (refine W_opgF rfl rfl ?h ?_; case h => simp only [WG, reduceIte, Nat.reduceEqDiff]; done)
     | (refine W_opgU rfl ?h ?_; case h => simp only [upd_at, reduceIte, Nat.reduceEqDiff]; done) | (refine W_callN rfl ?h ?_; case h => simp only [WG, reduceIte, Nat.reduceEqDiff]; done) | simp only [WS] | refine W_regd0 ?_ | refine W_regd ?_)
    refine W_callA rfl ?hargs (call22 (s := s) (cs := cs) (hT.keep k2 (by simp)) hok (k := i) (by omega) hcs hprev) ?_
    case hargs => simp only [WB, execE, unE, args0, reduceIte, Nat.reduceEqDiff, Nat.reduceAdd, Nat.reduceLeDiff] <;> rfl
    rintro v m3 ⟨⟨cr, rfl, hF⟩, k3⟩ hs3
    have n3 := k3.next
    have gw3 := k3.at (by omega) (by simp) gw
    have orr := Arr.one hF.arr
    have d3 : m3.ds = [] := hs3.ds.trans d2
    simp only [stS] at gw3
    repeat (first
     | ((first | refine W_opS rfl rfl rfl ?_ | (refine W_opgT rfl rfl ?h ?_; case h => simp only [WG, reduceIte, Nat.reduceEqDiff]; done)); simp only [WB, execE, unE, args0, reduceIte, Nat.reduceEqDiff, Nat.reduceAdd, Nat.reduceLeDiff, q7, WO, fillX, splice, Wo_some])
     | (refine W_opgF rfl rfl ?h ?_; case h => simp only [WG, reduceIte, Nat.reduceEqDiff]; done)
     | (refine W_opgU rfl ?h ?_; case h => simp only [upd_at, reduceIte, Nat.reduceEqDiff]; done) | (refine W_callN rfl ?h ?_; case h => simp only [WG, reduceIte, Nat.reduceEqDiff]; done) | simp only [WS] | refine W_regd0 ?_ | refine W_regd ?_)
    simp only [stS]
    repeat (first | simp only [WS] | refine W_regd0 ?_ | refine W_regd ?_)
    refine W_op rfl rfl ?_
    simp only [WB, execE, unE, args0, reduceIte, Nat.reduceEqDiff, Nat.reduceAdd, Nat.reduceLeDiff, q7, gw3, orr, WO, fillX, splice, Wo_some]
    repeat (first | rw [push_no] | rw [push_yes] | rw [W_onil])
    obtain ⟨m4, hm4⟩ : ∃ m4 : AMem, m4 = m3.put m.next (some (.cells (stS (L.getD i .zero) cr) true ⟨8, some 35⟩)) := ⟨_, rfl⟩
    have k34 : Keep m3 m4 [m.next] := by rw [hm4]; exact Keep.put _ _ _
    have g4 : m4.get m.next = some (.cells (stS (L.getD i .zero) cr) true ⟨8, some 35⟩) := by rw [hm4, AMem.get_put, if_pos rfl]
    have b4 : rd m4 m.next 0 8 = some (stS (L.getD i .zero) cr) := by simp [rd, g4, stS]
    have d4 : m4.ds = [] := by rw [hm4]; exact d3
    have nn4 : m4.next = m3.next := by rw [hm4]; rfl
    simp only [stS] at hm4
    rw [← hm4]
    clear hm4
    have hone : (stS (L.getD i .zero) cr).all AV.one = true := by simp [stS, orr, one_i]
    repeat (first
     | ((first | refine W_opA rfl rfl rfl ?_ | (refine W_opgT rfl rfl ?h ?_; case h => simp only [WG, reduceIte, Nat.reduceEqDiff]; done)); simp only [WB, execE, unE, args0, reduceIte, Nat.reduceEqDiff, Nat.reduceAdd, Nat.reduceLeDiff, q6, q7, b4, hone, WO, fillX, splice, Wo_some])
     | (refine W_opgF rfl rfl ?h ?_; case h => simp only [WG, reduceIte, Nat.reduceEqDiff]; done)
     | (refine W_opgU rfl ?h ?_; case h => simp only [upd_at, reduceIte, Nat.reduceEqDiff]; done) | (refine W_callN rfl ?h ?_; case h => simp only [WG, reduceIte, Nat.reduceEqDiff]; done) | simp only [WS] | refine W_regd0 ?_ | refine W_regd ?_)
    refine W_app (n := i - lo) (k := 1) (new := stS (L.getD i .zero) cr) (ls := ls) rfl ((((hR.keep k3 (by simp)).keep k34 (fun z hz hm => by have := hoj z hz; have := List.mem_singleton.1 hm; omega)).keep (Keep.new _ _) (by simp)).as ?hrow) ?hsrc rfl hone (roomyOf (by omega) (by omega)) ?_
    case hrow =>
     simp only [WB, execE, unE, args0, reduceIte, Nat.reduceEqDiff, Nat.reduceAdd, Nat.reduceLeDiff, q6]
    case hsrc =>
     simp only [WB, execE, unE, args0, reduceIte, Nat.reduceEqDiff, Nat.reduceAdd, Nat.reduceLeDiff]
     exact src_new rfl
    intro av' oj' m5 ty' r5 ds5 ro5 o5 k5 _
    have k45 : Keep m4 m5 oj.toList := (Keep.new _ _).nil.trans k5 (fun z hz => .inl hz)
    have n45 := k45.next
    have hjw : m.next ∉ oj.toList := fun hm => by have := hoj m.next (by simpa using hm); omega
    have hwi : IntKind.i64.wrap ((i : Int) + 1) = ((i + 1 : Nat) : Int) := wr_i64 (n := (i : Int) + 1) (by omega) (by omega)
    have kall : Keep m m5 [] := ((k2.trans k3 (by simp)).trans k34 (fun z hz => .inr (by have := List.mem_singleton.1 hz; omega))).trans k45 (fun z hz => .inr (by have := hoj z (by simpa using hz); omega))
    have hoj5 : ∀ z, oj' = some z → m.next < z ∧ (z < m3.next ∨ m4.next ≤ z) ∧ (oj' = oj ∨ m4.next ≤ z) := by
     intro z hz
     rcases o5 with h | ⟨y, h, h2⟩
     ·rw [h] at hz
      have h3 := hoj z hz
      rw [hz] at hR
      have := hR.lt
      exact ⟨h3, .inl (by omega), .inl h⟩
     ·rw [h] at hz; cases hz
      simp only [AMem.next_new] at h2
      exact ⟨by omega, .inr (by omega), .inr (by omega)⟩
    repeat (first
     | ((first | refine W_op rfl rfl ?_ | (refine W_opgT rfl rfl ?h ?_; case h => simp only [WG, reduceIte, Nat.reduceEqDiff]; done)); simp only [WB, execE, unE, args0, reduceIte, Nat.reduceEqDiff, Nat.reduceAdd, Nat.reduceLeDiff, q8, hwi, binE, isShift, intBin, WO, fillX, splice, Wo_some])
     | (refine W_opgF rfl rfl ?h ?_; case h => simp only [WG, reduceIte, Nat.reduceEqDiff]; done)
     | (refine W_opgU rfl ?h ?_; case h => simp only [upd_at, reduceIte, Nat.reduceEqDiff]; done) | (refine W_callN rfl ?h ?_; case h => simp only [WG, reduceIte, Nat.reduceEqDiff]; done) | simp only [WS] | refine W_regd0 ?_ | refine W_regd ?_)
    refine W_j (by repeat (first | exact hg | exact args0_un (Nat.le_of_ble_eq_true rfl) | refine upd_un ?_ rfl)) ?_
    obtain ⟨tyc, ojc, hrc, hoc⟩ := hF
    refine ⟨k + 1 - (i + 1), by omega, i + 1, L.getD i .zero, cr, av', ty', oj', ls ++ stS (L.getD i .zero) cr, by omega, by omega, rfl, ?_, ?_, ?_, ?_, ?_, k45.at (by omega) hjw g4, orr, fun _ => ⟨by simp, ⟨tyc, ojc, ?_, ?_⟩, ls, rfl, ?_⟩, ?_, fun z hz => (hoj5 z hz).1, kall, by omega, ds5.trans d4⟩
    ·skip
     simp only [WT, reduceIte, Nat.reduceEqDiff, args0, q0]
    ·skip
     simp only [WT, reduceIte, Nat.reduceEqDiff, args0, q1]
    ·skip
     simp only [WT, reduceIte, Nat.reduceEqDiff, args0]
    ·skip
     simp only [WT, reduceIte, Nat.reduceEqDiff, args0, q7]
    ·skip
     simp only [WT, reduceIte, Nat.reduceEqDiff, args0]
    ·refine (hrc.keep k34 (fun z hz hm => ?_)).keep k45 (fun z hz hm => ?_)
     ·have := hoc z hz; have := List.mem_singleton.1 hm; omega
     ·have h1 := hoc z hz
      have h2 : oj = some z := by simpa using hm
      rw [h2] at hR
      have := hR.lt
      omega
    ·intro z hz
     have h1 := hoc z hz
     rw [hz] at hrc
     have h2 := hrc.lt
     refine ⟨by omega, fun h3 => ?_⟩
     have h4 := hoj5 z h3
     rcases h4.2.2 with h5 | h5
     ·rw [h5] at h3
      rw [h3] at hR
      have := hR.lt
      omega
     ·omega
    ·have h0 := hR.1
     rw [h0]
     have : i + 1 - lo - 1 = i - lo := by omega
     rw [this]
    ·rw [show i + 1 - lo = i - lo + 1 by omega]
     exact r5
   ·have e1 : decide ((i : Int) ≤ (k : Int)) = false := decide_eq_false (by omega)
    obtain rfl : i = k + 1 := by omega
    obtain ⟨rfl, ⟨tyc, ojc, hrc, hoc⟩, pre, rfl, hpl⟩ := hpre (by omega)
    repeat (first
     | ((first | refine W_op rfl rfl ?_ | (refine W_opgT rfl rfl ?h ?_; case h => simp only [WG, reduceIte, Nat.reduceEqDiff]; done)); simp only [WB, execE, unE, args0, reduceIte, Nat.reduceEqDiff, Nat.reduceAdd, Nat.reduceLeDiff, q1, q8, e1, binE, isShift, intBin, WO, fillX, splice, Wo_some])
     | (refine W_opgF rfl rfl ?h ?_; case h => simp only [WG, reduceIte, Nat.reduceEqDiff]; done)
     | (refine W_opgU rfl ?h ?_; case h => simp only [upd_at, reduceIte, Nat.reduceEqDiff]; done) | (refine W_callN rfl ?h ?_; case h => simp only [WG, reduceIte, Nat.reduceEqDiff]; done) | simp only [WS] | refine W_regd0 ?_ | refine W_regd ?_)
    refine W_cond ?_
    simp only [WB, execE, unE, args0, reduceIte, Nat.reduceEqDiff, Nat.reduceAdd, Nat.reduceLeDiff, WC]
    refine W_exit rfl ?_
    refine W_j (by repeat (first | exact hg | exact args0_un (Nat.le_of_ble_eq_true rfl) | refine upd_un ?_ rfl)) ?_
    refine ⟨av, cs, ty, oj, pre, ?_, hR, hpl, ⟨tyc, ojc, hrc, fun z hz => by have := (hoc z hz).1; omega⟩, k2, d2⟩
    simp only [WB, execE, unE, args0, reduceIte, Nat.reduceEqDiff, Nat.reduceAdd, Nat.reduceLeDiff, q6]
 rintro gg m2 ⟨av, cv, ty, oj, pre, q6, hR, hpl, hF, k2, d2⟩ hg
 repeat (first
  | ((first | refine W_op rfl rfl ?_ | (refine W_opgT rfl rfl ?h ?_; case h => simp only [WG, reduceIte, Nat.reduceEqDiff]; done)); simp only [WB, execE, unE, args0, reduceIte, Nat.reduceEqDiff, Nat.reduceAdd, Nat.reduceLeDiff, q6, WO, fillX, splice, Wo_some])
  | (refine W_opgF rfl rfl ?h ?_; case h => simp only [WG, reduceIte, Nat.reduceEqDiff]; done)
  | (refine W_opgU rfl ?h ?_; case h => simp only [upd_at, reduceIte, Nat.reduceEqDiff]; done) | (refine W_callN rfl ?h ?_; case h => simp only [WG, reduceIte, Nat.reduceEqDiff]; done) | simp only [WS] | refine W_regd0 ?_ | refine W_regd ?_)
 refine W_getRet (by repeat (first | exact hg | exact args0_un (Nat.le_of_ble_eq_true rfl) | refine upd_un ?_ rfl)) ?_
 refine ⟨d2, _, rfl, ⟨av, k + 1 - lo, ty, oj, pre, cv, ?_, by omega, by omega, hR.keep (Keep.refl _ []).out (by simp), hpl, hF.out⟩, k2.out⟩
 simp only [tupE, upd_at, reduceIte, Nat.reduceEqDiff]
 try exact ⟨rfl, rfl⟩
end Go.Proofs.YtfbglgmhhmeoeaaGreatDoor
