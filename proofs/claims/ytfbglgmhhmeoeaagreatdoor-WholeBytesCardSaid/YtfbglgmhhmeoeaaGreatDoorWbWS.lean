/- One of a tape's states, and a walk over all. No condition. -/
import Derived.Test.YtfbglgmhhmeoeaaGreatDoorWbWQ
import Derived.Test.YtfbglgmhhmeoeaaGreatDoorWbViNode
namespace Go.Proofs.YtfbglgmhhmeoeaaGreatDoor
open Go.Vi
set_option linter.unusedSimpArgs false
set_option linter.unusedVariables false
set_option maxHeartbeats 16000000 in
theorem call9 {m : AMem} {n0 jt g ev : Nat} {L : List St} (hT : TapeAt m n0 jt g ev L) (hok : TOk g ev L) {k : Nat} (hk : k < L.length) :
  Vi.Call T 9 [.p (some (jt, 0)), .i .i64 (k : Int)] m (fun v m' => (∃ (cv : AV) (n : Int), v = .tup [.agg (stS (L.getD k .zero) cv), .i .i64 n, .i .i64 0] ∧ FrI m m' cv (L.getD k .zero).caps) ∧ Keep m m' []) := by
 have hge := tbn_ge g ev L L.length
 have hfit := hok.fits
 refine Vi.Call.ofP T9 (Nat.le_of_ble_eq_true rfl) ?_
 unfold v9
 repeat (first | simp only [WS] | refine W_regd0 ?_ | refine W_regd ?_)
 refine W_op rfl rfl ?_
 simp only [WB, execE, unE, args0, reduceIte, Nat.reduceEqDiff, Nat.reduceAdd, Nat.reduceLeDiff, WO, fillX, splice, Wo_some]
 repeat (first | rw [push_no] | rw [push_yes] | rw [W_onil])
 obtain ⟨mB, hmB, kB, _, gB, dB, _, nB⟩ := mk_new m.inn [.i .i64 0, .i .i64 0, .i .i64 0, .i .i64 0, .i .i64 0, .i .i64 0, .i .i64 0, .sl none 0 0 true] true ⟨8, some 35⟩ 8 rfl
 have kB' : Keep m mB [] := kB.ofInn
 have gB' : mB.get m.next = some (.cells [.i .i64 0, .i .i64 0, .i .i64 0, .i .i64 0, .i .i64 0, .i .i64 0, .i .i64 0, .sl none 0 0 true] true ⟨8, some 35⟩) := gB
 have nB' : m.next < mB.next := nB
 have dB' : mB.ds = [] := dB
 rw [← hmB]
 clear hmB gB nB kB dB
 repeat (first
  | (refine W_op rfl rfl ?_; simp only [WB, execE, unE, args0, reduceIte, Nat.reduceEqDiff, Nat.reduceAdd, Nat.reduceLeDiff, WO, fillX, splice, Wo_some]) | simp only [WS] | refine W_regd0 ?_ | refine W_regd ?_)
 refine W_callA rfl ?hargs (call24 (hT.keep kB' (by simp)) hok hk) ?_
 case hargs => simp only [WB, execE, unE, args0, reduceIte, Nat.reduceEqDiff, Nat.reduceAdd, Nat.reduceLeDiff] <;> rfl
 rintro v m1 ⟨⟨av, n, ty, oj, pre, cv, rfl, hn0, hnk, hR, hpl, hF⟩, k1⟩ hs1
 have n1 := k1.next
 have gB1 := k1.at nB' (by simp) gB'
 have hlen := hR.arr.lenF
 obtain ⟨ja, oa, capa, exa, rfl, hja, hrd⟩ := hR.arr.rdE (i := n - 1) (by omega)
 have hdr : ((pre ++ stS (L.getD k .zero) cv).drop ((n - 1) * 8)).take 8 = stS (L.getD k .zero) cv := by
  rw [← hpl, List.drop_left]; rfl
 rw [hdr] at hrd
 have hwn : IntKind.i64.wrap ((n : Int) - 1) = ((n - 1 : Nat) : Int) := by rw [wr_i64 (by omega) (by omega)]; omega
 have hix : (0 ≤ ((n - 1 : Nat) : Int) ∧ ((n - 1 : Nat) : Int) < (n : Int)) := ⟨by omega, by omega⟩
 have orr := Arr.one hF.arr
 repeat (first
  | (refine W_op rfl rfl ?_; simp only [WB, execE, unE, args0, reduceIte, Nat.reduceEqDiff, Nat.reduceAdd, Nat.reduceLeDiff, binE, isShift, intBin, WO, fillX, splice, Wo_some]) | simp only [WS] | refine W_regd0 ?_ | refine W_regd ?_)
 refine W_cond ?_
 simp only [WB, execE, unE, args0, reduceIte, Nat.reduceEqDiff, Nat.reduceAdd, Nat.reduceLeDiff, WC]
 repeat (first
  | (refine W_opS rfl rfl rfl ?_; simp only [WB, execE, unE, args0, reduceIte, Nat.reduceEqDiff, Nat.reduceAdd, Nat.reduceLeDiff, ↓hlen, hwn, hix, Int.toNat_natCast, hrd, binE, isShift, intBin, WO, fillX, splice, Wo_some]) | simp only [WS] | refine W_regd0 ?_ | refine W_regd ?_)
 simp only [stS]
 repeat (first | simp only [WS] | refine W_regd0 ?_ | refine W_regd ?_)
 refine W_op rfl rfl ?_
 simp only [WB, execE, unE, args0, reduceIte, Nat.reduceEqDiff, Nat.reduceAdd, Nat.reduceLeDiff, gB1, orr, WO, fillX, splice, Wo_some]
 repeat (first | rw [push_no] | rw [push_yes] | rw [W_onil])
 repeat (first
  | (refine W_op rfl rfl ?_; simp only [WB, execE, unE, args0, reduceIte, Nat.reduceEqDiff, Nat.reduceAdd, Nat.reduceLeDiff, WO, fillX, splice, Wo_some]) | simp only [WS] | refine W_regd0 ?_ | refine W_regd ?_)
 refine W_getRet (by repeat (first | exact hg | exact args0_un (Nat.le_of_ble_eq_true rfl) | refine upd_un ?_ rfl)) ?_
 have k12 : Keep m1 (m1.put m.next (some (.cells [.i .i64 (L.getD k St.zero).kd, .i .i64 (L.getD k St.zero).nd, .i .i64 (L.getD k St.zero).ph, .i .i64 (L.getD k St.zero).pos, .i .i64 (L.getD k St.zero).st, .i .i64 (L.getD k St.zero).dp, .i .i64 (L.getD k St.zero).og, cv] true ⟨8, some 35⟩))) [m.next] := Keep.put _ _ _
 refine ⟨hs1.ds.trans dB', [.agg (stS (L.getD k St.zero) cv), .i .i64 n, .i .i64 0], ?_, ⟨cv, n, rfl, ?_⟩, ?_⟩
 ·simp only [resX, execE, X.at, upd_at, reduceIte, Nat.reduceEqDiff, rd, AMem.get_put]
  rfl
 ·obtain ⟨ty, oj, hr, ho⟩ := hF
  exact ⟨ty, oj, (hr.keep k12 (fun z hz hm => by have := ho z hz; have := List.mem_singleton.1 hm; omega)).keep (Keep.refl _ []).out (by simp), fun z hz => by have := ho z hz; omega⟩
 ·exact ((kB'.trans k1 (by simp)).trans k12 (fun z hz => .inr (by have := List.mem_singleton.1 hz; omega))).out
set_option maxHeartbeats 16000000 in
theorem call21 {P : Nat → AMem → Prop} {m0 m : AMem} {n0 jt g ev bj lp : Nat} {wr : Bool} {es : ES} {L : List St} {FP : List Nat} (hT : TapeAt m0 n0 jt g ev L) (hok : TOk g ev L) (k0 : Keep m0 m []) (hb : m.get bj = some (.cells [.p (some (jt, 0))] wr es)) (hbn : bj < m.next) (hbF : bj ∉ FP) (hFP : ∀ x ∈ FP, m0.next ≤ x ∧ x < m.next)
  (hPk : ∀ c m' m'' fp, P c m' → Keep m' m'' fp → (∀ x ∈ fp, m.next ≤ x) → P c m'')
  (hy : ∀ c m' cv, c < L.length → P c m' → Keep m0 m' [] → Cap m' cv (L.getD c .zero) → CallC T (.y lp) [.i .i64 c, .agg (stS (L.getD c .zero) cv)] m' (fun v m'' => Keep m' m'' FP ∧ v = .b true ∧ P (c + 1) m''))
  (hP : P 0 m) :
  Vi.Call T 21 [.yl lp, .p (some (bj, 0))] m (fun _ m' => P L.length m') := by
 have hge := tbn_ge g ev L L.length
 have hfit := hok.fits
 have n00 := k0.next
 refine Vi.Call.ofP T21 (Nat.le_of_ble_eq_true rfl) ?_
 unfold v21
 repeat (first | simp only [WS] | refine W_regd0 ?_ | refine W_regd ?_)
 refine W_op rfl rfl ?_
 simp only [WB, execE, unE, args0, reduceIte, Nat.reduceEqDiff, Nat.reduceAdd, Nat.reduceLeDiff, WO, fillX, splice, Wo_some]
 repeat (first | rw [push_no] | rw [push_yes] | rw [W_onil])
 obtain ⟨mB, hmB, kB, _, gB, dB, _, nB⟩ := mk_new m.inn [.i .i64 0, .i .i64 0, .i .i64 0, .i .i64 0, .i .i64 0, .i .i64 0, .i .i64 0, .sl none 0 0 true] true ⟨8, some 35⟩ 8 rfl
 have kB' : Keep m mB [] := kB.ofInn
 have gB' : mB.get m.next = some (.cells [.i .i64 0, .i .i64 0, .i .i64 0, .i .i64 0, .i .i64 0, .i .i64 0, .i .i64 0, .sl none 0 0 true] true ⟨8, some 35⟩) := gB
 have nB' : m.next < mB.next := nB
 have dB' : mB.ds = [] := dB
 rw [← hmB]
 clear hmB gB nB kB dB
 have hb1 := kB'.at hbn (by simp) hb
 repeat (first
  | (refine W_op rfl rfl ?_; simp only [WB, execE, unE, args0, reduceIte, Nat.reduceEqDiff, Nat.reduceAdd, Nat.reduceLeDiff, hb1, WO, fillX, splice, Wo_some]) | simp only [WS] | refine W_regd0 ?_ | refine W_regd ?_)
 refine W_callA rfl ?hargs (call7 (hT.keep (k0.trans kB' (by simp)) (by simp))) ?_
 case hargs => simp only [WB, execE, unE, args0, reduceIte, Nat.reduceEqDiff, Nat.reduceAdd, Nat.reduceLeDiff] <;> rfl
 rintro v m1 ⟨rfl, rfl⟩ -
 repeat (first
  | (refine W_op rfl rfl ?_; simp only [WB, execE, unE, args0, reduceIte, Nat.reduceEqDiff, Nat.reduceAdd, Nat.reduceLeDiff, WO, fillX, splice, Wo_some]) | simp only [WS] | refine W_regd0 ?_ | refine W_regd ?_)
 refine W_cutK [_, _] (fun g' m' => P L.length m' ∧ m'.ds = []) ?_ ?_
 ·simp only [List.cons_append, List.nil_append]
  refine W_loop (fun q g' m' => ∃ (i : Nat) (s : St) (cs : AV), i ≤ L.length ∧ q = L.length - i ∧ g' 0 = .yl lp ∧ g' 1 = .p (some (bj, 0)) ∧ g' 3 = .p (some (m.next, 0)) ∧ g' 6 = .i .i64 (L.length : Int) ∧ g' 7 = .i .i64 (i : Int) ∧ m'.get m.next = some (.cells (stS s cs) true ⟨8, some 35⟩) ∧ cs.one = true ∧ (i ≠ 0 → s = L.getD (i - 1) .zero ∧ (∃ tyc ojc, RowE m' 1 tyc cs ojc s.caps.length (ints s.caps) ∧ ∀ z, ojc = some z → m.next < z)) ∧ P i m' ∧ Keep m m' FP ∧ m1.next ≤ m'.next ∧ m'.ds = []) L.length ?_ ?_ ?_
  ·refine ⟨0, .zero, .sl none 0 0 true, by omega, rfl, ?_, ?_, ?_, ?_, ?_, gB', rfl, fun h => absurd rfl h, hPk _ _ _ [] hP kB' (by simp), kB'.mono (by simp), Nat.le_refl _, dB'⟩
   ·skip
    simp only [WT, reduceIte, Nat.reduceEqDiff, args0]
   ·skip
    simp only [WT, reduceIte, Nat.reduceEqDiff, args0]
   ·skip
    simp only [WT, reduceIte, Nat.reduceEqDiff, args0]
   ·skip
    simp only [WT, reduceIte, Nat.reduceEqDiff, args0]
   ·skip
    simp only [WT, reduceIte, Nat.reduceEqDiff, args0, Int.ofNat_zero]
    try rfl
  ·intro i hi
   repeat (first | exact args0_un (Nat.le_of_ble_eq_true rfl) i hi | refine upd_un ?_ rfl i hi; clear i hi; intro i hi)
  ·rintro q gg m2 ⟨i, s, cs, hik, rfl, q0, q1, q3, q6, q7, gw, hcs, hpre, hP2, k2, n2, d2⟩ hg
   by_cases hlt : i < L.length
   ·have e1 : decide ((i : Int) < (L.length : Int)) = true := decide_eq_true (by omega)
    have brd : rd m2 m.next 0 8 = some (stS s cs) := by simp [rd, gw, stS]
    have hb2 := k2.at hbn hbF hb
    have k02 : Keep m0 m2 [] := k0.trans k2 (fun z hz => .inr (hFP z hz).1)
    have hprev : i % ev ≠ 0 → s = L.getD (i - 1) .zero ∧ Cap m2 cs s := by
     intro h0
     have hne : i ≠ 0 := fun h => h0 (by rw [h, Nat.zero_mod])
     obtain ⟨h1, tyc, ojc, h2, _⟩ := hpre hne
     exact ⟨h1, h2.arr⟩
    repeat (first
     | (refine W_op rfl rfl ?_; simp only [WB, execE, unE, args0, reduceIte, Nat.reduceEqDiff, Nat.reduceAdd, Nat.reduceLeDiff, q6, q7, e1, binE, isShift, intBin, WO, fillX, splice, Wo_some]) | simp only [WS] | refine W_regd0 ?_ | refine W_regd ?_)
    refine W_cond ?_
    simp only [WB, execE, unE, args0, reduceIte, Nat.reduceEqDiff, Nat.reduceAdd, Nat.reduceLeDiff, WC]
    repeat (first
     | (refine W_op rfl rfl ?_; simp only [WB, execE, unE, args0, reduceIte, Nat.reduceEqDiff, Nat.reduceAdd, Nat.reduceLeDiff, q1, q3, q7, brd, hb2, WO, fillX, splice, Wo_some]) | simp only [WS] | refine W_regd0 ?_ | refine W_regd ?_)
    refine W_callA rfl ?hargs (call22 (s := s) (cs := cs) (hT.keep k02 (by simp)) hok (k := i) (by omega) hcs hprev) ?_
    case hargs => simp only [WB, execE, unE, args0, reduceIte, Nat.reduceEqDiff, Nat.reduceAdd, Nat.reduceLeDiff] <;> rfl
    rintro v m3 ⟨⟨cr, rfl, hF⟩, k3⟩ hs3
    have n3 := k3.next
    have gw3 := k3.at (by omega) (by simp) gw
    have orr := Arr.one hF.arr
    have d3 : m3.ds = [] := hs3.ds.trans d2
    simp only [stS] at gw3
    repeat (first
     | (refine W_opS rfl rfl rfl ?_; simp only [WB, execE, unE, args0, reduceIte, Nat.reduceEqDiff, Nat.reduceAdd, Nat.reduceLeDiff, q3, WO, fillX, splice, Wo_some]) | simp only [WS] | refine W_regd0 ?_ | refine W_regd ?_)
    simp only [stS]
    repeat (first | simp only [WS] | refine W_regd0 ?_ | refine W_regd ?_)
    refine W_op rfl rfl ?_
    simp only [WB, execE, unE, args0, reduceIte, Nat.reduceEqDiff, Nat.reduceAdd, Nat.reduceLeDiff, q3, gw3, orr, WO, fillX, splice, Wo_some]
    repeat (first | rw [push_no] | rw [push_yes] | rw [W_onil])
    obtain ⟨m4, hm4⟩ : ∃ m4 : AMem, m4 = m3.put m.next (some (.cells (stS (L.getD i .zero) cr) true ⟨8, some 35⟩)) := ⟨_, rfl⟩
    have k34 : Keep m3 m4 [m.next] := by rw [hm4]; exact Keep.put _ _ _
    have g4 : m4.get m.next = some (.cells (stS (L.getD i .zero) cr) true ⟨8, some 35⟩) := by rw [hm4, AMem.get_put, if_pos rfl]
    have b4 : rd m4 m.next 0 8 = some (stS (L.getD i .zero) cr) := by simp [rd, g4, stS]
    have d4 : m4.ds = [] := by rw [hm4]; exact d3
    have nn4 : m4.next = m3.next := by rw [hm4]; rfl
    simp only [stS] at hm4
    rw [← hm4]
    clear hm4
    obtain ⟨tyc, ojc, hrc, hoc⟩ := hF
    have hr4 := hrc.keep k34 (fun z hz hm => by have := hoc z hz; have := List.mem_singleton.1 hm; omega)
    have hlen6 : 0 < (L.getD i St.zero).caps.length ∧ (L.getD i St.zero).caps.length ≤ 1000 := by
     have := caps_len (hok.rt _ (getD_mem hlt)); have := hok.hg; omega
    repeat (first
     | (refine W_op rfl rfl ?_; simp only [WB, execE, unE, args0, reduceIte, Nat.reduceEqDiff, Nat.reduceAdd, Nat.reduceLeDiff, q0, q3, b4, WO, fillX, splice, Wo_some]) | simp only [WS] | refine W_regd0 ?_ | refine W_regd ?_)
    refine W_callA rfl ?hargs (call23 (s := L.getD i .zero) (cv := cr) hr4.arr (by omega) (by omega)) ?_
    case hargs => simp only [WB, execE, unE, args0, reduceIte, Nat.reduceEqDiff, Nat.reduceAdd, Nat.reduceLeDiff] <;> rfl
    rintro v m5 ⟨⟨cv5, rfl, hF5⟩, k5⟩ hs5
    have n5 := k5.next
    have k25 : Keep m2 m5 [m.next] := ((k3.mono (by simp)).trans k34 (fun z hz => .inl hz)).trans k5 (by simp)
    have hP5 := hPk _ _ _ _ hP2 k25 (fun z hz => by have := List.mem_singleton.1 hz; omega)
    have k05 : Keep m0 m5 [] := k02.trans k25 (fun z hz => .inr (by have := List.mem_singleton.1 hz; omega))
    repeat (first
     | (refine W_opS rfl rfl rfl ?_; simp only [WB, execE, unE, args0, reduceIte, Nat.reduceEqDiff, Nat.reduceAdd, Nat.reduceLeDiff, WO, fillX, splice, Wo_some]) | simp only [WS] | refine W_regd0 ?_ | refine W_regd ?_)
    refine W_cvY rfl ?hfv ?hargs (hy i _ _ hlt hP5 k05 hF5.arr) ?_
    case hfv => (simp only [WB, execE, unE, args0, reduceIte, Nat.reduceEqDiff, Nat.reduceAdd, Nat.reduceLeDiff, q0]; done)
    case hargs => simp only [WB, execE, unE, args0, reduceIte, Nat.reduceEqDiff, Nat.reduceAdd, Nat.reduceLeDiff, q0] <;> rfl
    rintro v m6 ⟨k6, rfl, hP6⟩ hs6
    have n6 := k6.next
    have hwi : IntKind.i64.wrap ((i : Int) + 1) = ((i + 1 : Nat) : Int) := wr_i64 (n := (i : Int) + 1) (by omega) (by omega)
    have hnF : m.next ∉ FP := fun hm => by have := hFP _ hm; omega
    have g6 := k6.at (by omega) hnF (k5.at (by omega) (by simp) g4)
    repeat (first
     | (refine W_op rfl rfl ?_; simp only [WB, execE, unE, args0, reduceIte, Nat.reduceEqDiff, Nat.reduceAdd, Nat.reduceLeDiff, WO, fillX, splice, Wo_some]) | simp only [WS] | refine W_regd0 ?_ | refine W_regd ?_)
    refine W_cond ?_
    simp only [WB, execE, unE, args0, reduceIte, Nat.reduceEqDiff, Nat.reduceAdd, Nat.reduceLeDiff, WC]
    repeat (first
     | (refine W_op rfl rfl ?_; simp only [WB, execE, unE, args0, reduceIte, Nat.reduceEqDiff, Nat.reduceAdd, Nat.reduceLeDiff, q7, hwi, binE, isShift, intBin, WO, fillX, splice, Wo_some]) | simp only [WS] | refine W_regd0 ?_ | refine W_regd ?_)
    refine W_j (by repeat (first | exact hg | exact args0_un (Nat.le_of_ble_eq_true rfl) | refine upd_un ?_ rfl)) ?_
    refine ⟨L.length - (i + 1), by omega, i + 1, L.getD i .zero, cr, by omega, rfl, ?_, ?_, ?_, ?_, ?_, g6, orr, fun _ => ⟨by simp, tyc, ojc, (hr4.keep k5 (by simp)).keep k6 (fun z hz hm => by have := hoc z hz; have := hFP _ hm; omega), fun z hz => by have := hoc z hz; omega⟩, hP6, ?_, by omega, hs6.ds.trans (hs5.ds.trans d4)⟩
    ·skip
     simp only [WT, reduceIte, Nat.reduceEqDiff, args0, q0]
    ·skip
     simp only [WT, reduceIte, Nat.reduceEqDiff, args0, q1]
    ·skip
     simp only [WT, reduceIte, Nat.reduceEqDiff, args0, q3]
    ·skip
     simp only [WT, reduceIte, Nat.reduceEqDiff, args0, q6]
    ·skip
     simp only [WT, reduceIte, Nat.reduceEqDiff, args0]
    ·exact (k2.trans k25 (fun z hz => .inr (by have := List.mem_singleton.1 hz; omega))).trans k6 (fun z hz => .inl hz)
   ·have e1 : decide ((i : Int) < (L.length : Int)) = false := decide_eq_false (by omega)
    obtain rfl : i = L.length := by omega
    repeat (first
     | (refine W_op rfl rfl ?_; simp only [WB, execE, unE, args0, reduceIte, Nat.reduceEqDiff, Nat.reduceAdd, Nat.reduceLeDiff, q6, q7, e1, binE, isShift, intBin, WO, fillX, splice, Wo_some]) | simp only [WS] | refine W_regd0 ?_ | refine W_regd ?_)
    refine W_cond ?_
    simp only [WB, execE, unE, args0, reduceIte, Nat.reduceEqDiff, Nat.reduceAdd, Nat.reduceLeDiff, WC]
    refine W_exit rfl ?_
    refine W_j (by repeat (first | exact hg | exact args0_un (Nat.le_of_ble_eq_true rfl) | refine upd_un ?_ rfl)) ?_
    exact ⟨hP2, d2⟩
 rintro gg m2 ⟨hP2, d2⟩ hg
 refine W_nil (by repeat (first | exact hg | exact args0_un (Nat.le_of_ble_eq_true rfl) | refine upd_un ?_ rfl)) ?_
 exact ⟨d2, [], rfl, hPk _ _ _ [] hP2 ((Keep.refl m2 []).out (m0 := m)) (by simp)⟩
theorem call8 {m : AMem} {jt : Nat} : Vi.Call T 8 [.p (some (jt, 0))] m (fun v m' => v = .f 21 [] [.p (some (m.next, 0))] ∧ m'.next = m.next + 1 ∧ m'.get m.next = some (.cells [.p (some (jt, 0))] true (1 : Nat)) ∧ Keep m m' []) := by
 refine Vi.Call.ofP T8 (Nat.le_of_ble_eq_true rfl) ?_
 unfold v8
 repeat (first
  | (refine W_op rfl rfl ?_; simp only [WB, execE, unE, args0, reduceIte, Nat.reduceEqDiff, Nat.reduceAdd, Nat.reduceLeDiff, WO, fillX, splice, Wo_some]) | simp only [WS] | refine W_regd0 ?_ | refine W_regd ?_)
 refine W_getRet (by repeat (first | exact hg | exact args0_un (Nat.le_of_ble_eq_true rfl) | refine upd_un ?_ rfl)) ?_
 refine ⟨rfl, _, rfl, ?_, rfl, ?_, ((Keep.inn m).trans (Keep.new _ _) (by simp)).out⟩
 ·rfl
 ·rw [AMem.get_out, AMem.get_new, if_pos (show m.inn.next = m.next from rfl)]
end Go.Proofs.YtfbglgmhhmeoeaaGreatDoor
namespace Go.Proofs.YtfbglgmhhmeoeaaGreatDoor
open Go.Vi
set_option linter.unusedSimpArgs false
set_option linter.unusedVariables false
theorem toList_loop (bs : ByteArray) : ∀ (n i : Nat) (r : List UInt8), bs.size - i = n → ByteArray.toList.loop bs i r = r.reverse ++ bs.data.toList.drop i
 | 0, i, r, h => by
   have h1 : bs.data.toList.length = bs.size := rfl
   unfold ByteArray.toList.loop
   rw [if_neg (by omega), List.drop_eq_nil_of_le (by omega)]; simp
 | n + 1, i, r, h => by
   have h1 : bs.data.toList.length = bs.size := rfl
   have hi : i < bs.data.toList.length := by omega
   unfold ByteArray.toList.loop
   rw [if_pos (by omega), toList_loop bs n (i + 1) _ (by omega), List.drop_eq_getElem_cons hi]
   have : bs.get! i = bs.data.toList[i] := by
    show bs.data[i]! = _
    rw [getElem!_pos bs.data i (by simpa using hi)]; simp
   rw [this]; simp
theorem toList_eq (bs : ByteArray) : bs.toList = bs.data.toList := by
 unfold ByteArray.toList
 rw [toList_loop bs _ 0 [] rfl]; simp
theorem eqS (x y : List UInt8) : strBin .eql ⟨x.toArray⟩ ⟨y.toArray⟩ = some (.b (decide (x = y))) := by
 simp only [strBin, toList_eq]
 by_cases h : x = y
 ·subst h; simp
 ·simp [h]
theorem bytes_cvs {m : AMem} {a : AV} {l : List UInt8} (h : Bytes m a l) (e : X → AV) (x : X) (hx : e x = a) : execE (.cvs x) e m = some (.s ⟨l.toArray⟩, m) := by
 unfold Bytes at h
 simp only [execE, hx]
 split at h
 ·obtain ⟨rfl, rfl⟩ := h; rfl
 ·subst h; rfl
 ·rename_i j o n cap ex
  obtain ⟨h1, h2, c, wr, es, h3, h4, h5⟩ := h
  simp only [rd, h3]
  rw [if_pos h4, h5]
  simp only [bytesOf_cells, Option.map_some]
 ·exact h.elim
theorem slc_to {m : AMem} {n : Nat} {av : AV} {l : List AV} (h : Arr m 1 av n l) {t : Nat} (ht : t ≤ n) (ht0 : 0 < t) :
  ∃ av', Arr m 1 av' t (l.take t) ∧ ∀ (g : Nat → AV) (x z : X) (m2 : AMem), X.at g x = av → X.at g z = .i .i64 (t : Int) → execE (.slc 1 x none (some z) none) (X.at g) m2 = some (av', m2) := by
 obtain ⟨h0, ⟨rfl, hav⟩ | ⟨j, o, cap, ex, c, wr, es, rfl, hc, h2, h3, h4, h5⟩⟩ := h
 ·omega
 ·have hb : ∀ (g : Nat → AV) (z : X), X.at g z = .i .i64 (t : Int) → boundsX (X.at g) n cap none (some z) none = some (0, t, cap) := by
   intro g z hz
   simp only [boundsX, hz, boundE, Option.isSome_none, Bool.false_eq_true, if_false]
   rw [if_pos ⟨by omega, by omega⟩]
   simp only [Int.toNat_natCast]
   try rw [if_pos ⟨by omega, by omega⟩]
  refine ⟨.sl (some (j, o)) t cap ex, ⟨by rw [List.length_take]; omega, .inr ⟨j, o, cap, ex, c, wr, es, rfl, by omega, h2, h3, by omega, ?_⟩⟩, ?_⟩
  ·rw [← h5, Nat.mul_one, Nat.mul_one, List.take_take, Nat.min_eq_left ht]
  ·intro g x z m2 hx hz
   have hcap : ¬ (cap = 0) := by omega
   simp only [execE, hx, hb g z hz]
   cases ex <;> simp [hcap]
theorem call33 {m : AMem} {a b : AV} {x y : List UInt8} (ha : Arr m 1 a x.length (cellsOfBytes x)) (hb : Arr m 1 b y.length (cellsOfBytes y)) : Vi.Call T 33 [a, b] m (fun v m' => v = .b (decide (x = y)) ∧ m' = m) := by
 have hca := fun e z hx => bytes_cvs (m := m.inn) (ha.keep0 (Keep.inn m)).bytes e z hx
 have hcb := fun e z hx => bytes_cvs (m := m.inn) (hb.keep0 (Keep.inn m)).bytes e z hx
 refine Vi.Call.ofP T33 (Nat.le_of_ble_eq_true rfl) ?_
 unfold v33
 repeat (first
  | (refine W_op rfl rfl ?_; simp only [WB, execE, unE, args0, reduceIte, Nat.reduceEqDiff, Nat.reduceAdd, Nat.reduceLeDiff, ↓hca, ↓hcb, binE, isShift, eqS, WO, fillX, splice, Wo_some]) | simp only [WS] | refine W_regd0 ?_ | refine W_regd ?_)
 refine W_getRet (by repeat (first | exact hg | exact args0_un (Nat.le_of_ble_eq_true rfl) | refine upd_un ?_ rfl)) ?_
 exact ⟨rfl, _, rfl, rfl, rfl⟩
theorem cells_take (l : List UInt8) (n : Nat) : (cellsOfBytes l).take n = cellsOfBytes (l.take n) := by simp [cellsOfBytes, List.map_take]
theorem call13 {m : AMem} {av pv : AV} {b p : List UInt8} (hA : Arr m 1 av b.length (cellsOfBytes b)) (hB : Arr m 1 pv p.length (cellsOfBytes p)) (hp : 0 < p.length) : Vi.Call T 13 [av, pv] m (fun v m' => v = .b (decide (b.take p.length = p)) ∧ m' = m) := by
 have hla := hA.lenF
 have hlb := hB.lenF
 refine Vi.Call.ofP T13 (Nat.le_of_ble_eq_true rfl) ?_
 unfold v13
 by_cases h : p.length ≤ b.length
 ·have c1 : decide ((b.length : Int) ≥ (p.length : Int)) = true := decide_eq_true (by omega)
  obtain ⟨av', hA', hsl⟩ := slc_to hA h hp
  rw [cells_take] at hA'
  have hBy : Arr m.inn 1 av' (b.take p.length).length (cellsOfBytes (b.take p.length)) := by
   have : Arr m 1 av' (b.take p.length).length (cellsOfBytes (b.take p.length)) := by rw [List.length_take, Nat.min_eq_left h]; exact hA'
   exact this.keep0 (Keep.inn m)
  repeat (first
   | ((first | refine W_op rfl rfl ?_ | (refine W_opgT rfl rfl ?h ?_; case h => simp only [WG, reduceIte, Nat.reduceEqDiff]; done)); simp only [WB, execE, unE, args0, reduceIte, Nat.reduceEqDiff, Nat.reduceAdd, Nat.reduceLeDiff, ↓hla, ↓hlb, c1, ↓hsl, binE, isShift, intBin, WO, fillX, splice, Wo_some])
   | (refine W_opgF rfl rfl ?h ?_; case h => simp only [WG, reduceIte, Nat.reduceEqDiff]; done)
   | (refine W_opgU rfl ?h ?_; case h => simp only [upd_at, reduceIte, Nat.reduceEqDiff]; done) | (refine W_callN rfl ?h ?_; case h => simp only [WG, reduceIte, Nat.reduceEqDiff]; done) | simp only [WS] | refine W_regd0 ?_ | refine W_regd ?_)
  refine W_callK rfl ?hg ?hargs (call33 hBy (hB.keep0 (Keep.inn m))) ?_
  case hg => (simp only [WB, execE, unE, args0, reduceIte, Nat.reduceEqDiff, Nat.reduceAdd, Nat.reduceLeDiff, WO, fillX, splice]; done)
  case hargs => simp only [WB, execE, unE, args0, reduceIte, Nat.reduceEqDiff, Nat.reduceAdd, Nat.reduceLeDiff, WO, fillX, splice] <;> rfl
  rintro v m1 ⟨rfl, rfl⟩ -
  repeat (first
   | ((first | refine W_op rfl rfl ?_ | (refine W_opgT rfl rfl ?h ?_; case h => simp only [WG, reduceIte, Nat.reduceEqDiff]; done)); simp only [WB, execE, unE, args0, reduceIte, Nat.reduceEqDiff, Nat.reduceAdd, Nat.reduceLeDiff, WO, fillX, splice, Wo_some])
   | (refine W_opgF rfl rfl ?h ?_; case h => simp only [WG, reduceIte, Nat.reduceEqDiff]; done)
   | (refine W_opgU rfl ?h ?_; case h => simp only [upd_at, reduceIte, Nat.reduceEqDiff]; done) | (refine W_callN rfl ?h ?_; case h => simp only [WG, reduceIte, Nat.reduceEqDiff]; done) | simp only [WS] | refine W_regd0 ?_ | refine W_regd ?_)
  refine W_getRet (by repeat (first | exact hg | exact args0_un (Nat.le_of_ble_eq_true rfl) | refine upd_un ?_ rfl)) ?_
  exact ⟨rfl, _, rfl, rfl, rfl⟩
 ·have c1 : decide ((b.length : Int) ≥ (p.length : Int)) = false := decide_eq_false (by omega)
  have e : decide (b.take p.length = p) = false := decide_eq_false (fun h2 => by
   have := congrArg List.length h2
   rw [List.length_take] at this; omega)
  rw [e]
  repeat (first
   | ((first | refine W_op rfl rfl ?_ | (refine W_opgT rfl rfl ?h ?_; case h => simp only [WG, reduceIte, Nat.reduceEqDiff]; done)); simp only [WB, execE, unE, args0, reduceIte, Nat.reduceEqDiff, Nat.reduceAdd, Nat.reduceLeDiff, ↓hla, ↓hlb, c1, binE, isShift, intBin, WO, fillX, splice, Wo_some])
   | (refine W_opgF rfl rfl ?h ?_; case h => simp only [WG, reduceIte, Nat.reduceEqDiff]; done)
   | (refine W_opgU rfl ?h ?_; case h => simp only [upd_at, reduceIte, Nat.reduceEqDiff]; done) | (refine W_callN rfl ?h ?_; case h => simp only [WG, reduceIte, Nat.reduceEqDiff]; done) | simp only [WS] | refine W_regd0 ?_ | refine W_regd ?_)
  refine W_getRet (by repeat (first | exact hg | exact args0_un (Nat.le_of_ble_eq_true rfl) | refine upd_un ?_ rfl)) ?_
  exact ⟨rfl, _, rfl, rfl, rfl⟩
abbrev rdC (bv : AV) (r : Nat × Bool) : List AV := [bv, .i .i64 (r.1 : Int), .b r.2]
set_option maxHeartbeats 4000000 in
theorem call14 {m : AMem} {j : Nat} {bv : AV} {b : List UInt8} {r : Nat × Bool} (hj : m.get j = some (.cells (rdC bv r) true (3 : Nat))) (hA : Arr m 1 bv b.length (cellsOfBytes b)) (hl : b.length ≤ 100000000) (ha : r.1 ≤ b.length) {most : Nat} (hm : most ≤ 100000000) :
  Vi.Call T 14 [.p (some (j, 0)), .i .i64 (most : Int)] m (fun v m' => v = .i .i64 ((fnum b r most).1 : Int) ∧ m'.get j = some (.cells (rdC bv (fnum b r most).2) true (3 : Nat)) ∧ Keep m m' [j] ∧ m'.next = m.next) := by
 have hob := hA.one
 have hecb := one_cells hob
 obtain ⟨a, bd⟩ := r
 simp only at ha
 obtain ⟨h1, h2, h3, h4⟩ := vget_le b a
 have hmw : IntKind.u64.wrap (most : Int) = (most : Int) := wr_u64 (by omega)
 refine Vi.Call.ofP T14 (Nat.le_of_ble_eq_true rfl) ?_
 unfold v14
 repeat (first
  | ((first | refine W_op rfl rfl ?_ | (refine W_opgT rfl rfl ?h ?_; case h => simp only [WG, reduceIte, Nat.reduceEqDiff]; done)); simp only [WB, execE, unE, args0, reduceIte, Nat.reduceEqDiff, Nat.reduceAdd, Nat.reduceLeDiff, hj, WO, fillX, splice, Wo_some])
  | (refine W_opgF rfl rfl ?h ?_; case h => simp only [WG, reduceIte, Nat.reduceEqDiff]; done)
  | (refine W_opgU rfl ?h ?_; case h => simp only [upd_at, reduceIte, Nat.reduceEqDiff]; done) | (refine W_callN rfl ?h ?_; case h => simp only [WG, reduceIte, Nat.reduceEqDiff]; done) | simp only [WS] | refine W_regd0 ?_ | refine W_regd ?_)
 refine W_callA rfl ?hargs (call34 (hA.keep0 (Keep.inn m)) (by omega) ha) ?_
 case hargs => simp only [WB, execE, unE, args0, reduceIte, Nat.reduceEqDiff, Nat.reduceAdd, Nat.reduceLeDiff] <;> rfl
 rintro v m1 ⟨rfl, rfl⟩ -
 have k1 : ∀ o, Keep m (m.inn.put j o) [j] := fun o => (Keep.put m.inn j o).ofInn
 by_cases hbad : bd = true ∨ (vget b a).2.2 ≠ 0 ∨ most < (vget b a).1
 ·have hres : fnum b (a, bd) most = (0, a, true) := by unfold fnum; rw [if_pos hbad]
  rw [hres]
  by_cases hbd : bd = true
  ·subst hbd
   repeat (first
    | ((first | refine W_opS rfl rfl rfl ?_ | (refine W_opgT rfl rfl ?h ?_; case h => simp only [WG, reduceIte, Nat.reduceEqDiff]; done)); simp only [WB, execE, unE, args0, reduceIte, Nat.reduceEqDiff, Nat.reduceAdd, Nat.reduceLeDiff, hj, binE, isShift, intBin, WO, fillX, splice, Wo_some])
    | (refine W_opgF rfl rfl ?h ?_; case h => simp only [WG, reduceIte, Nat.reduceEqDiff]; done)
    | (refine W_opgU rfl ?h ?_; case h => simp only [upd_at, reduceIte, Nat.reduceEqDiff]; done) | (refine W_callN rfl ?h ?_; case h => simp only [WG, reduceIte, Nat.reduceEqDiff]; done) | simp only [WS] | refine W_regd0 ?_ | refine W_regd ?_)
   repeat (first | simp only [WS] | refine W_regd0 ?_ | refine W_regd ?_)
   refine W_op rfl rfl ?_
   simp only [WB, execE, unE, args0, reduceIte, Nat.reduceEqDiff, Nat.reduceAdd, Nat.reduceLeDiff, hj, WO, fillX, splice, Wo_some]
   repeat (first | rw [push_no] | rw [push_yes] | rw [W_onil])
   repeat (first
    | ((first | refine W_opS rfl rfl rfl ?_ | (refine W_opgT rfl rfl ?h ?_; case h => simp only [WG, reduceIte, Nat.reduceEqDiff]; done)); simp only [WB, execE, unE, args0, reduceIte, Nat.reduceEqDiff, Nat.reduceAdd, Nat.reduceLeDiff, WO, fillX, splice, Wo_some])
    | (refine W_opgF rfl rfl ?h ?_; case h => simp only [WG, reduceIte, Nat.reduceEqDiff]; done)
    | (refine W_opgU rfl ?h ?_; case h => simp only [upd_at, reduceIte, Nat.reduceEqDiff]; done) | (refine W_callN rfl ?h ?_; case h => simp only [WG, reduceIte, Nat.reduceEqDiff]; done) | simp only [WS] | refine W_regd0 ?_ | refine W_regd ?_)
   refine W_cond ?_
   simp only [WB, execE, unE, args0, reduceIte, Nat.reduceEqDiff, Nat.reduceAdd, Nat.reduceLeDiff, WC]
   repeat (first
    | ((first | refine W_op rfl rfl ?_ | (refine W_opgT rfl rfl ?h ?_; case h => simp only [WG, reduceIte, Nat.reduceEqDiff]; done)); simp only [WB, execE, unE, args0, reduceIte, Nat.reduceEqDiff, Nat.reduceAdd, Nat.reduceLeDiff, WO, fillX, splice, Wo_some])
    | (refine W_opgF rfl rfl ?h ?_; case h => simp only [WG, reduceIte, Nat.reduceEqDiff]; done)
    | (refine W_opgU rfl ?h ?_; case h => simp only [upd_at, reduceIte, Nat.reduceEqDiff]; done) | (refine W_callN rfl ?h ?_; case h => simp only [WG, reduceIte, Nat.reduceEqDiff]; done) | simp only [WS] | refine W_regd0 ?_ | refine W_regd ?_)
   refine W_getRet (by repeat (first | exact hg | exact args0_un (Nat.le_of_ble_eq_true rfl) | refine upd_un ?_ rfl)) ?_
   refine ⟨rfl, _, rfl, rfl, ?_, (k1 _).out, rfl⟩
   simp only [AMem.get_out, AMem.get_put, reduceIte]
  obtain rfl : bd = false := by simpa using hbd
  by_cases hz : (vget b a).2.2 = 0
  ·have c2 : ((vget b a).2.2 != 0) = false := by simpa using hz
   have c3 : decide (((vget b a).1 : Int) > (most : Int)) = true := decide_eq_true (by
    rcases hbad with h | h | h
    ·exact absurd h hbd
    ·exact absurd hz h
    ·omega)
   repeat (first
    | ((first | refine W_opS rfl rfl rfl ?_ | (refine W_opgT rfl rfl ?h ?_; case h => simp only [WG, reduceIte, Nat.reduceEqDiff]; done)); simp only [WB, execE, unE, args0, reduceIte, Nat.reduceEqDiff, Nat.reduceAdd, Nat.reduceLeDiff, hj, c2, c3, hmw, binE, isShift, intBin, WO, fillX, splice, Wo_some])
    | (refine W_opgF rfl rfl ?h ?_; case h => simp only [WG, reduceIte, Nat.reduceEqDiff]; done)
    | (refine W_opgU rfl ?h ?_; case h => simp only [upd_at, reduceIte, Nat.reduceEqDiff]; done) | (refine W_callN rfl ?h ?_; case h => simp only [WG, reduceIte, Nat.reduceEqDiff]; done) | simp only [WS] | refine W_regd0 ?_ | refine W_regd ?_)
   repeat (first | simp only [WS] | refine W_regd0 ?_ | refine W_regd ?_)
   refine W_op rfl rfl ?_
   simp only [WB, execE, unE, args0, reduceIte, Nat.reduceEqDiff, Nat.reduceAdd, Nat.reduceLeDiff, hj, WO, fillX, splice, Wo_some]
   repeat (first | rw [push_no] | rw [push_yes] | rw [W_onil])
   repeat (first
    | ((first | refine W_opS rfl rfl rfl ?_ | (refine W_opgT rfl rfl ?h ?_; case h => simp only [WG, reduceIte, Nat.reduceEqDiff]; done)); simp only [WB, execE, unE, args0, reduceIte, Nat.reduceEqDiff, Nat.reduceAdd, Nat.reduceLeDiff, WO, fillX, splice, Wo_some])
    | (refine W_opgF rfl rfl ?h ?_; case h => simp only [WG, reduceIte, Nat.reduceEqDiff]; done)
    | (refine W_opgU rfl ?h ?_; case h => simp only [upd_at, reduceIte, Nat.reduceEqDiff]; done) | (refine W_callN rfl ?h ?_; case h => simp only [WG, reduceIte, Nat.reduceEqDiff]; done) | simp only [WS] | refine W_regd0 ?_ | refine W_regd ?_)
   refine W_cond ?_
   simp only [WB, execE, unE, args0, reduceIte, Nat.reduceEqDiff, Nat.reduceAdd, Nat.reduceLeDiff, WC]
   repeat (first
    | ((first | refine W_op rfl rfl ?_ | (refine W_opgT rfl rfl ?h ?_; case h => simp only [WG, reduceIte, Nat.reduceEqDiff]; done)); simp only [WB, execE, unE, args0, reduceIte, Nat.reduceEqDiff, Nat.reduceAdd, Nat.reduceLeDiff, WO, fillX, splice, Wo_some])
    | (refine W_opgF rfl rfl ?h ?_; case h => simp only [WG, reduceIte, Nat.reduceEqDiff]; done)
    | (refine W_opgU rfl ?h ?_; case h => simp only [upd_at, reduceIte, Nat.reduceEqDiff]; done) | (refine W_callN rfl ?h ?_; case h => simp only [WG, reduceIte, Nat.reduceEqDiff]; done) | simp only [WS] | refine W_regd0 ?_ | refine W_regd ?_)
   refine W_getRet (by repeat (first | exact hg | exact args0_un (Nat.le_of_ble_eq_true rfl) | refine upd_un ?_ rfl)) ?_
   refine ⟨rfl, _, rfl, rfl, ?_, (k1 _).out, rfl⟩
   simp only [AMem.get_out, AMem.get_put, reduceIte]
  ·have c2 : ((vget b a).2.2 != 0) = true := by simpa using hz
   repeat (first
    | ((first | refine W_opS rfl rfl rfl ?_ | (refine W_opgT rfl rfl ?h ?_; case h => simp only [WG, reduceIte, Nat.reduceEqDiff]; done)); simp only [WB, execE, unE, args0, reduceIte, Nat.reduceEqDiff, Nat.reduceAdd, Nat.reduceLeDiff, hj, c2, hmw, binE, isShift, intBin, WO, fillX, splice, Wo_some])
    | (refine W_opgF rfl rfl ?h ?_; case h => simp only [WG, reduceIte, Nat.reduceEqDiff]; done)
    | (refine W_opgU rfl ?h ?_; case h => simp only [upd_at, reduceIte, Nat.reduceEqDiff]; done) | (refine W_callN rfl ?h ?_; case h => simp only [WG, reduceIte, Nat.reduceEqDiff]; done) | simp only [WS] | refine W_regd0 ?_ | refine W_regd ?_)
   repeat (first | simp only [WS] | refine W_regd0 ?_ | refine W_regd ?_)
   refine W_op rfl rfl ?_
   simp only [WB, execE, unE, args0, reduceIte, Nat.reduceEqDiff, Nat.reduceAdd, Nat.reduceLeDiff, hj, WO, fillX, splice, Wo_some]
   repeat (first | rw [push_no] | rw [push_yes] | rw [W_onil])
   repeat (first
    | ((first | refine W_opS rfl rfl rfl ?_ | (refine W_opgT rfl rfl ?h ?_; case h => simp only [WG, reduceIte, Nat.reduceEqDiff]; done)); simp only [WB, execE, unE, args0, reduceIte, Nat.reduceEqDiff, Nat.reduceAdd, Nat.reduceLeDiff, WO, fillX, splice, Wo_some])
    | (refine W_opgF rfl rfl ?h ?_; case h => simp only [WG, reduceIte, Nat.reduceEqDiff]; done)
    | (refine W_opgU rfl ?h ?_; case h => simp only [upd_at, reduceIte, Nat.reduceEqDiff]; done) | (refine W_callN rfl ?h ?_; case h => simp only [WG, reduceIte, Nat.reduceEqDiff]; done) | simp only [WS] | refine W_regd0 ?_ | refine W_regd ?_)
   refine W_cond ?_
   simp only [WB, execE, unE, args0, reduceIte, Nat.reduceEqDiff, Nat.reduceAdd, Nat.reduceLeDiff, WC]
   repeat (first
    | ((first | refine W_op rfl rfl ?_ | (refine W_opgT rfl rfl ?h ?_; case h => simp only [WG, reduceIte, Nat.reduceEqDiff]; done)); simp only [WB, execE, unE, args0, reduceIte, Nat.reduceEqDiff, Nat.reduceAdd, Nat.reduceLeDiff, WO, fillX, splice, Wo_some])
    | (refine W_opgF rfl rfl ?h ?_; case h => simp only [WG, reduceIte, Nat.reduceEqDiff]; done)
    | (refine W_opgU rfl ?h ?_; case h => simp only [upd_at, reduceIte, Nat.reduceEqDiff]; done) | (refine W_callN rfl ?h ?_; case h => simp only [WG, reduceIte, Nat.reduceEqDiff]; done) | simp only [WS] | refine W_regd0 ?_ | refine W_regd ?_)
   refine W_getRet (by repeat (first | exact hg | exact args0_un (Nat.le_of_ble_eq_true rfl) | refine upd_un ?_ rfl)) ?_
   refine ⟨rfl, _, rfl, rfl, ?_, (k1 _).out, rfl⟩
   simp only [AMem.get_out, AMem.get_put, reduceIte]
 ·have hres : fnum b (a, bd) most = ((vget b a).1, a + (vget b a).2.1, false) := by unfold fnum; rw [if_neg hbad]
  rw [hres]
  have hbd : bd = false := by
   cases bd with
   | false => rfl
   | true => exact absurd (.inl rfl) hbad
  subst hbd
  have hz : (vget b a).2.2 = 0 := Decidable.byContradiction fun h => hbad (.inr (.inl h))
  have hle : ¬ most < (vget b a).1 := fun h => hbad (.inr (.inr h))
  have c2 : ((vget b a).2.2 != 0) = false := by simpa using hz
  have c3 : decide (((vget b a).1 : Int) > (most : Int)) = false := decide_eq_false (by omega)
  have hwa : IntKind.i64.wrap ((a : Int) + ((vget b a).2.1 : Int)) = ((a + (vget b a).2.1 : Nat) : Int) := by rw [wr_i64 (by omega) (by omega)]; omega
  have hwn : IntKind.i64.wrap ((vget b a).1 : Int) = ((vget b a).1 : Int) := wr_i64 (by omega) (by omega)
  repeat (first
   | ((first | refine W_opS rfl rfl rfl ?_ | (refine W_opgT rfl rfl ?h ?_; case h => simp only [WG, reduceIte, Nat.reduceEqDiff]; done)); simp only [WB, execE, unE, args0, reduceIte, Nat.reduceEqDiff, Nat.reduceAdd, Nat.reduceLeDiff, hj, c2, c3, hmw, binE, isShift, intBin, WO, fillX, splice, Wo_some])
   | (refine W_opgF rfl rfl ?h ?_; case h => simp only [WG, reduceIte, Nat.reduceEqDiff]; done)
   | (refine W_opgU rfl ?h ?_; case h => simp only [upd_at, reduceIte, Nat.reduceEqDiff]; done) | (refine W_callN rfl ?h ?_; case h => simp only [WG, reduceIte, Nat.reduceEqDiff]; done) | simp only [WS] | refine W_regd0 ?_ | refine W_regd ?_)
  repeat (first | simp only [WS] | refine W_regd0 ?_ | refine W_regd ?_)
  refine W_op rfl rfl ?_
  simp only [WB, execE, unE, args0, reduceIte, Nat.reduceEqDiff, Nat.reduceAdd, Nat.reduceLeDiff, hj, WO, fillX, splice, Wo_some]
  repeat (first | rw [push_no] | rw [push_yes] | rw [W_onil])
  repeat (first
   | ((first | refine W_opS rfl rfl rfl ?_ | (refine W_opgT rfl rfl ?h ?_; case h => simp only [WG, reduceIte, Nat.reduceEqDiff]; done)); simp only [WB, execE, unE, args0, reduceIte, Nat.reduceEqDiff, Nat.reduceAdd, Nat.reduceLeDiff, WO, fillX, splice, Wo_some])
   | (refine W_opgF rfl rfl ?h ?_; case h => simp only [WG, reduceIte, Nat.reduceEqDiff]; done)
   | (refine W_opgU rfl ?h ?_; case h => simp only [upd_at, reduceIte, Nat.reduceEqDiff]; done) | (refine W_callN rfl ?h ?_; case h => simp only [WG, reduceIte, Nat.reduceEqDiff]; done) | simp only [WS] | refine W_regd0 ?_ | refine W_regd ?_)
  refine W_cond ?_
  simp only [WB, execE, unE, args0, reduceIte, Nat.reduceEqDiff, Nat.reduceAdd, Nat.reduceLeDiff, WC]
  repeat (first
   | ((first | refine W_opS rfl rfl rfl ?_ | (refine W_opgT rfl rfl ?h ?_; case h => simp only [WG, reduceIte, Nat.reduceEqDiff]; done)); simp only [WB, execE, unE, args0, reduceIte, Nat.reduceEqDiff, Nat.reduceAdd, Nat.reduceLeDiff, hwa, binE, isShift, intBin, WO, fillX, splice, Wo_some])
   | (refine W_opgF rfl rfl ?h ?_; case h => simp only [WG, reduceIte, Nat.reduceEqDiff]; done)
   | (refine W_opgU rfl ?h ?_; case h => simp only [upd_at, reduceIte, Nat.reduceEqDiff]; done) | (refine W_callN rfl ?h ?_; case h => simp only [WG, reduceIte, Nat.reduceEqDiff]; done) | simp only [WS] | refine W_regd0 ?_ | refine W_regd ?_)
  repeat (first | simp only [WS] | refine W_regd0 ?_ | refine W_regd ?_)
  refine W_op rfl rfl ?_
  simp only [WB, execE, unE, args0, reduceIte, Nat.reduceEqDiff, Nat.reduceAdd, Nat.reduceLeDiff, WO, fillX, splice, Wo_some]
  repeat (first | rw [push_no] | rw [push_yes] | rw [W_onil])
  repeat (first
   | ((first | refine W_op rfl rfl ?_ | (refine W_opgT rfl rfl ?h ?_; case h => simp only [WG, reduceIte, Nat.reduceEqDiff]; done)); simp only [WB, execE, unE, args0, reduceIte, Nat.reduceEqDiff, Nat.reduceAdd, Nat.reduceLeDiff, hwn, WO, fillX, splice, Wo_some])
   | (refine W_opgF rfl rfl ?h ?_; case h => simp only [WG, reduceIte, Nat.reduceEqDiff]; done)
   | (refine W_opgU rfl ?h ?_; case h => simp only [upd_at, reduceIte, Nat.reduceEqDiff]; done) | (refine W_callN rfl ?h ?_; case h => simp only [WG, reduceIte, Nat.reduceEqDiff]; done) | simp only [WS] | refine W_regd0 ?_ | refine W_regd ?_)
  refine W_getRet (by repeat (first | exact hg | exact args0_un (Nat.le_of_ble_eq_true rfl) | refine upd_un ?_ rfl)) ?_
  refine ⟨rfl, _, rfl, rfl, ?_, ?_, rfl⟩
  ·simp only [AMem.get_out, AMem.get_put, reduceIte]
  ·exact ((k1 _).trans (Keep.put _ _ _) (fun x hx => .inl hx)).out
end Go.Proofs.YtfbglgmhhmeoeaaGreatDoor
