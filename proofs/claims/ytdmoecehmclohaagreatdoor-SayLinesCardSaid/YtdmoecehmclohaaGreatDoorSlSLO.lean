/- A tree as the document has it: its nodes, their sets copied. No condition. -/
import Derived.Test.YtdmoecehmclohaaGreatDoorSlVT
import Derived.Test.YtdmoecehmclohaaGreatDoorSlViNode
namespace Go.Proofs.YtdmoecehmclohaaGreatDoor
open Go.Vi
set_option linter.unusedSimpArgs false
set_option linter.unusedVariables false
structure Own (n0 : Nat) (m0 m : AMem) (oj : Option Nat) (d : Nf) : Prop where
  num : InI64 d.num
  kids : Arr m0 1 d.kv d.kl.length (ints d.kl)
  sets : d.sl.length ≤ 8796093022208
  kidn : d.kl.length ≤ 140737488355328
  set : ∃ ty o, RowE m 2 ty d.sv o d.sl.length (flat2 d.sl) ∧ ∀ j, o = some j → n0 ≤ j ∧ oj ≠ some j
theorem Own.step {n0 : Nat} {m0 m m' : AMem} {oj oj' : Option Nat} {d : Nf} (h : Own n0 m0 m oj d) (k : Keep m m' oj.toList) (ho : oj' = oj ∨ ∃ j, oj' = some j ∧ m.next ≤ j) : Own n0 m0 m' oj' d := by
  obtain ⟨h1, h2, h3, h4, ty, o, h5, h6⟩ := h
  refine ⟨h1, h2, h3, h4, ty, o, h5.keep k (fun j hj hm => (h6 j hj).2 (by simpa using hm)), fun j hj => ?_⟩
  refine ⟨(h6 j hj).1, ?_⟩
  rcases ho with rfl | ⟨j', rfl, hj'⟩
  · exact (h6 j hj).2
  · intro he
    cases he
    subst hj
    have := h5.lt
    omega
theorem Own.keep0 {n0 : Nat} {m0 m m' : AMem} {oj : Option Nat} {d : Nf} (h : Own n0 m0 m oj d) (k : Keep m m' []) : Own n0 m0 m' oj d := by
  obtain ⟨h1, h2, h3, h4, ty, o, h5, h6⟩ := h
  exact ⟨h1, h2, h3, h4, ty, o, h5.keep k (by simp), h6⟩
def keyN (d : Nf) : Int × Int := (d.fr, d.to)
set_option maxHeartbeats 16000000 in
theorem call6 {m : AMem} {nv nm : AV} {D : List Nf} {G : Int} (hA : Arr m 10 nv D.length (flatF D)) (hok : ∀ d ∈ D, d.ok m) (h60 : D.length ≤ 60) (hn1 : nm.one = true) :
    Vi.Call T 6 [.agg [nv, .i .i64 G, nm]] m (fun v m' => (∃ nv' D', v = .agg [nv', .i .i64 G, nm] ∧ D'.length = D.length ∧ Arr m' 10 nv' D'.length (flatF D') ∧ D'.map keyN = D.map keyN ∧ ∀ d ∈ D', d.ok m') ∧ Keep m m' []) := by
  have hlenA := hA.lenF
  have ho := hA.one
  refine Vi.Call.ofP T6 (Nat.le_of_ble_eq_true rfl) ?_
  unfold v6
  repeat (first | rw [W_seq] | rw [W_reg] | rw [push_no] | rw [push_yes] | rw [W_onil] | rw [W_skip] | rw [W_blk] | rw [W_b] | refine W_regd0 ?_ | refine W_regd ?_)
  refine W_op rfl rfl ?_
  simp only [WB, execE, unE, args0, reduceIte, Nat.reduceEqDiff, Nat.reduceAdd, Nat.reduceLeDiff, ho, hn1, WO, fillX, splice, Wo_some]
  repeat (first | rw [push_no] | rw [push_yes] | rw [W_onil])
  obtain ⟨mA, hmA, kA, _, gA, dA, _, nA⟩ := mk_new m.inn [nv, .i .i64 G, nm] true (3 : Nat) 3 rfl
  have kA' : Keep m mA [] := kA.ofInn
  have gA' : mA.get m.next = some (.cells [nv, .i .i64 G, nm] true (3 : Nat)) := gA
  have nA' : m.next < mA.next := nA
  rw [← hmA]
  clear hmA gA nA kA
  repeat (first | rw [W_seq] | rw [W_reg] | rw [push_no] | rw [push_yes] | rw [W_onil] | rw [W_skip] | rw [W_blk] | rw [W_b] | refine W_regd0 ?_ | refine W_regd ?_)
  refine W_op rfl rfl ?_
  simp only [WB, execE, unE, args0, reduceIte, Nat.reduceEqDiff, Nat.reduceAdd, Nat.reduceLeDiff, WO, fillX, splice, Wo_some]
  repeat (first | rw [push_no] | rw [push_yes] | rw [W_onil])
  obtain ⟨mB, hmB, kB, _, gB, dB, _, nB⟩ := mk_new mA [.sl none 0 0 true, .i .i64 0, .sl none 0 0 true] true ⟨3, some 34⟩ 3 rfl
  rw [← hmB]
  clear hmB
  have kB' : Keep m mB [] := kA'.trans kB (by simp)
  have gA2 := kB.at nA' (by simp) gA'
  have nB' : m.next < mB.next := Nat.lt_trans nA' nB
  have dB' : mB.ds = [] := dB.trans dA
  repeat (first
    | ((first | refine W_op rfl rfl ?_ | (refine W_opgT rfl rfl ?hg ?_; (case hg => (simp only [WG, reduceIte, Nat.reduceEqDiff]; done)))); simp only [WB, execE, unE, args0, reduceIte, Nat.reduceEqDiff, Nat.reduceAdd, Nat.reduceLeDiff, gA2, ↓hlenA, WO, fillX, splice, Wo_some])
    | (refine W_opgF rfl rfl ?hg ?_; (case hg => (simp only [WG, reduceIte, Nat.reduceEqDiff]; done)))
    | (refine W_opgU rfl ?hg ?_; (case hg => (simp only [upd_at, reduceIte, Nat.reduceEqDiff]; done))) | (refine W_callN rfl ?hg ?_; (case hg => (simp only [WG, reduceIte, Nat.reduceEqDiff]; done))) | rw [W_seq] | rw [W_reg] | rw [push_no] | rw [push_yes] | rw [W_onil] | rw [W_skip] | rw [W_blk] | rw [W_b] | refine W_regd0 ?_ | refine W_regd ?_)
  refine W_cutK [_, _] (fun g' m' => ∃ (A : List Nf) (rv : AV) (oj ty : Option Nat), A.length = D.length ∧ g' 1 = .p (some (m.next, 0)) ∧ g' 2 = .p (some (mA.next, 0)) ∧ g' 3 = rv ∧ RowE m' 10 ty rv oj A.length (flatF A) ∧ A.map keyN = D.map keyN ∧ (∀ j, oj = some j → mB.next ≤ j) ∧ (∀ d ∈ A, Own mB.next m m' oj d) ∧ Keep mB m' [] ∧ m'.ds = []) ?_ ?_
  · simp only [List.cons_append, List.nil_append]
    refine W_loop (fun k g' m' => ∃ (i : Nat) (A : List Nf) (rv : AV) (oj ty : Option Nat), A.length = i ∧ i ≤ D.length ∧ k = D.length - i ∧ g' 1 = .p (some (m.next, 0)) ∧ g' 2 = .p (some (mA.next, 0)) ∧ g' 3 = rv ∧ g' 10 = nv ∧ g' 11 = .i .i64 D.length ∧ g' 12 = .i .i64 i ∧ RowE m' 10 ty rv oj i (flatF A) ∧ A.map keyN = (D.take i).map keyN ∧ (∀ j, oj = some j → mB.next ≤ j) ∧ (∀ d ∈ A, Own mB.next m m' oj d) ∧ Keep mB m' [] ∧ m'.ds = []) D.length ?_ ?_ ?_
    · refine ⟨0, [], _, none, none, rfl, Nat.zero_le _, rfl, ?_, ?_, rfl, ?_, ?_, ?_, ?_, by simp, nofun, by simp, Keep.refl _ _, dB'⟩
      · skip
        simp only [upd_at, upd_none, reduceIte, Nat.reduceEqDiff, args0, List.getD_cons_zero, List.getD_cons_succ, List.getD_nil]
      · skip
        simp only [upd_at, upd_none, reduceIte, Nat.reduceEqDiff, args0, List.getD_cons_zero, List.getD_cons_succ, List.getD_nil]
      · skip
        simp only [upd_at, upd_none, reduceIte, Nat.reduceEqDiff, args0, List.getD_cons_zero, List.getD_cons_succ, List.getD_nil]
      · skip
        simp only [upd_at, upd_none, reduceIte, Nat.reduceEqDiff, args0, List.getD_cons_zero, List.getD_cons_succ, List.getD_nil]
      · skip
        simp only [upd_at, upd_none, reduceIte, Nat.reduceEqDiff, args0, List.getD_cons_zero, List.getD_cons_succ, List.getD_nil, Int.ofNat_zero]
        try rfl
      · skip
        simp only [upd_at, upd_none, reduceIte, Nat.reduceEqDiff, args0, List.getD_cons_zero, List.getD_cons_succ, List.getD_nil]
        exact RowE.nil _ _ _
    · intro i hi
      repeat (first | exact args0_un (Nat.le_of_ble_eq_true rfl) i hi | refine upd_un ?_ rfl i hi; clear i hi; intro i hi)
    · rintro k g m1 ⟨i, A, rv, oj, ty, hAl, hi, rfl, q1, q2, q3, q10, q11, q12, hR, hkey, hoj, hown, k1, d1⟩ hg
      repeat (first
        | ((first | refine W_op rfl rfl ?_ | (refine W_opgT rfl rfl ?hg ?_; (case hg => (simp only [WG, reduceIte, Nat.reduceEqDiff]; done)))); simp only [WB, execE, unE, args0, reduceIte, Nat.reduceEqDiff, Nat.reduceAdd, Nat.reduceLeDiff, q11, q12, binE, isShift, intBin, WO, fillX, splice, Wo_some])
        | (refine W_opgF rfl rfl ?hg ?_; (case hg => (simp only [WG, reduceIte, Nat.reduceEqDiff]; done)))
        | (refine W_opgU rfl ?hg ?_; (case hg => (simp only [upd_at, reduceIte, Nat.reduceEqDiff]; done))) | (refine W_callN rfl ?hg ?_; (case hg => (simp only [WG, reduceIte, Nat.reduceEqDiff]; done))) | rw [W_seq] | rw [W_reg] | rw [push_no] | rw [push_yes] | rw [W_onil] | rw [W_skip] | rw [W_blk] | rw [W_b] | refine W_regd0 ?_ | refine W_regd ?_)
      refine W_cond ?_
      simp only [WB, execE, unE, args0, reduceIte, Nat.reduceEqDiff, Nat.reduceAdd, Nat.reduceLeDiff]
      refine WC_split (fun ht => ?_) (fun hf => ?_)
      · have hlt : i < D.length := by simpa using ht
        obtain ⟨d, hd⟩ : ∃ d, D[i]? = some d := ⟨_, List.getElem?_eq_getElem hlt⟩
        have hdo := hok d (List.mem_of_getElem? hd)
        have o1 := hdo.set.one
        have o2 := hdo.kids.one
        have e1 := one_cells o1
        have e2 := one_cells o2
        have hlenS := hdo.set.lenF
        have hsn := hdo.sets
        have km1 : Keep m m1 [] := kB'.trans k1 (by simp)
        obtain ⟨j, o, cap, ex, hnv, hj, hr⟩ := (hA.keep0 km1).rdE hlt
        rw [flatF_at hd] at hr
        have hix : (0 ≤ (i : Int) ∧ (i : Int) < (D.length : Int)) := ⟨by omega, by omega⟩
        have hwi : IntKind.i64.wrap ((i : Int) + 1) = ((i + 1 : Nat) : Int) := wr_i64 (n := (i : Int) + 1) (by omega) (by omega)
        repeat (first
          | ((first | refine W_opS rfl rfl rfl ?_ | (refine W_opgT rfl rfl ?hg ?_; (case hg => (simp only [WG, reduceIte, Nat.reduceEqDiff]; done)))); simp only [WB, execE, unE, args0, reduceIte, Nat.reduceEqDiff, Nat.reduceAdd, Nat.reduceLeDiff, q10, hnv, q12, hix, Int.toNat_natCast, hr, WO, fillX, splice, Wo_some])
          | (refine W_opgF rfl rfl ?hg ?_; (case hg => (simp only [WG, reduceIte, Nat.reduceEqDiff]; done)))
          | (refine W_opgU rfl ?hg ?_; (case hg => (simp only [upd_at, reduceIte, Nat.reduceEqDiff]; done))) | (refine W_callN rfl ?hg ?_; (case hg => (simp only [WG, reduceIte, Nat.reduceEqDiff]; done))) | rw [W_seq] | rw [W_reg] | rw [push_no] | rw [push_yes] | rw [W_onil] | rw [W_skip] | rw [W_blk] | rw [W_b] | refine W_regd0 ?_ | refine W_regd ?_)
        simp only [Nf.cells]
        repeat (first | rw [W_seq] | rw [W_reg] | rw [push_no] | rw [push_yes] | rw [W_onil] | rw [W_skip] | rw [W_blk] | rw [W_b] | refine W_regd0 ?_ | refine W_regd ?_)
        refine W_op rfl rfl ?_
        simp only [WB, execE, unE, args0, reduceIte, Nat.reduceEqDiff, Nat.reduceAdd, Nat.reduceLeDiff, o1, o2, WO, fillX, splice, Wo_some]
        repeat (first | rw [push_no] | rw [push_yes] | rw [W_onil])
        obtain ⟨mC, hmC, kC, _, gC, dC, _, nC⟩ := mk_put m1 [.i .i64 0, .i .i64 0, .i .i64 0, .i .i64 0, .i .i64 0, .i .i64 0, .i .i64 0, .s ⟨#[]⟩, .sl none 0 0 true, .sl none 0 0 true] [.i .i64 d.k, .i .i64 d.fr, .i .i64 d.to, .i .i64 d.num, .i .i64 d.mn, .i .i64 d.mx, .i .i64 d.md, .s ⟨d.nm.toArray⟩, d.sv, d.kv] true true ⟨10, some 39⟩ ⟨10, some 39⟩ 10 rfl
        rw [← hmC]
        clear hmC
        repeat (first
          | ((first | refine W_opS rfl rfl rfl ?_ | (refine W_opgT rfl rfl ?hg ?_; (case hg => (simp only [WG, reduceIte, Nat.reduceEqDiff]; done)))); simp only [WB, execE, unE, args0, reduceIte, Nat.reduceEqDiff, Nat.reduceAdd, Nat.reduceLeDiff, gC, o1, o2, e1, e2, WO, fillX, splice, Wo_some])
          | (refine W_opgF rfl rfl ?hg ?_; (case hg => (simp only [WG, reduceIte, Nat.reduceEqDiff]; done)))
          | (refine W_opgU rfl ?hg ?_; (case hg => (simp only [upd_at, reduceIte, Nat.reduceEqDiff]; done))) | (refine W_callN rfl ?hg ?_; (case hg => (simp only [WG, reduceIte, Nat.reduceEqDiff]; done))) | rw [W_seq] | rw [W_reg] | rw [push_no] | rw [push_yes] | rw [W_onil] | rw [W_skip] | rw [W_blk] | rw [W_b] | refine W_regd0 ?_ | refine W_regd ?_)
        repeat (first | rw [W_seq] | rw [W_reg] | rw [push_no] | rw [push_yes] | rw [W_onil] | rw [W_skip] | rw [W_blk] | rw [W_b] | refine W_regd0 ?_ | refine W_regd ?_)
        refine W_op rfl rfl ?_
        simp only [WB, execE, unE, args0, reduceIte, Nat.reduceEqDiff, Nat.reduceAdd, Nat.reduceLeDiff, o1, o2, WO, fillX, splice, Wo_some]
        repeat (first | rw [push_no] | rw [push_yes] | rw [W_onil])
        obtain ⟨mD, hmD, kD, _, gD, dD, _, nD⟩ := mk_put mC [.i .i64 0, .i .i64 0, .i .i64 0, .i .i64 0, .i .i64 0, .i .i64 0, .i .i64 0, .s ⟨#[]⟩, .sl none 0 0 true, .sl none 0 0 true] [.i .i64 d.k, .i .i64 d.fr, .i .i64 d.to, .i .i64 d.num, .i .i64 d.mn, .i .i64 d.mx, .i .i64 d.md, .s ⟨d.nm.toArray⟩, .sl none 0 0 true, d.kv] true true ⟨10, some 65⟩ ⟨10, some 65⟩ 10 rfl
        rw [← hmD]
        clear hmD
        have kD1 : Keep m1 mD [] := kC.trans kD (by simp)
        have gC2 := kD.at nC (by simp) gC
        have dD' : mD.ds = [] := dD.trans (dC.trans d1)
        repeat (first
          | ((first | refine W_op rfl rfl ?_ | (refine W_opgT rfl rfl ?hg ?_; (case hg => (simp only [WG, reduceIte, Nat.reduceEqDiff]; done)))); simp only [WB, execE, unE, args0, reduceIte, Nat.reduceEqDiff, Nat.reduceAdd, Nat.reduceLeDiff, gC2, ↓hlenS, WO, fillX, splice, Wo_some])
          | (refine W_opgF rfl rfl ?hg ?_; (case hg => (simp only [WG, reduceIte, Nat.reduceEqDiff]; done)))
          | (refine W_opgU rfl ?hg ?_; (case hg => (simp only [upd_at, reduceIte, Nat.reduceEqDiff]; done))) | (refine W_callN rfl ?hg ?_; (case hg => (simp only [WG, reduceIte, Nat.reduceEqDiff]; done))) | rw [W_seq] | rw [W_reg] | rw [push_no] | rw [push_yes] | rw [W_onil] | rw [W_skip] | rw [W_blk] | rw [W_b] | refine W_regd0 ?_ | refine W_regd ?_)
        refine W_cutK [_, _] (fun g' m' => ∃ (sv : AV) (oc tc : Option Nat), g' 1 = .p (some (m.next, 0)) ∧ g' 2 = .p (some (mA.next, 0)) ∧ g' 3 = rv ∧ g' 6 = .p (some (mC.next, 0)) ∧ g' 10 = nv ∧ g' 11 = .i .i64 D.length ∧ g' 12 = .i .i64 i ∧ m'.get mC.next = some (.cells [.i .i64 d.k, .i .i64 d.fr, .i .i64 d.to, .i .i64 d.num, .i .i64 d.mn, .i .i64 d.mx, .i .i64 d.md, .s ⟨d.nm.toArray⟩, sv, d.kv] true ⟨10, some 65⟩) ∧ RowE m' 2 tc sv oc d.sl.length (flat2 d.sl) ∧ (∀ j, oc = some j → mD.next ≤ j) ∧ Keep mD m' [mC.next] ∧ m'.ds = []) ?_ ?_
        · simp only [List.cons_append, List.nil_append]
          refine W_loop (fun k g' m' => ∃ (t : Nat) (sv : AV) (oc tc : Option Nat), t ≤ d.sl.length ∧ k = d.sl.length - t ∧ g' 1 = .p (some (m.next, 0)) ∧ g' 2 = .p (some (mA.next, 0)) ∧ g' 3 = rv ∧ g' 6 = .p (some (mC.next, 0)) ∧ g' 10 = nv ∧ g' 11 = .i .i64 D.length ∧ g' 12 = .i .i64 i ∧ g' 36 = d.sv ∧ g' 37 = .i .i64 d.sl.length ∧ g' 38 = .i .i64 t ∧ m'.get mC.next = some (.cells [.i .i64 d.k, .i .i64 d.fr, .i .i64 d.to, .i .i64 d.num, .i .i64 d.mn, .i .i64 d.mx, .i .i64 d.md, .s ⟨d.nm.toArray⟩, sv, d.kv] true ⟨10, some 65⟩) ∧ RowE m' 2 tc sv oc t (flat2 (d.sl.take t)) ∧ (∀ j, oc = some j → mD.next ≤ j) ∧ Keep mD m' [mC.next] ∧ m'.ds = []) d.sl.length ?_ ?_ ?_
          · refine ⟨0, _, none, none, Nat.zero_le _, rfl, ?_, ?_, ?_, ?_, ?_, ?_, ?_, ?_, ?_, ?_, gD, RowE.nil _ _ _, nofun, Keep.refl _ _, dD'⟩
            · skip
              simp only [upd_at, upd_none, reduceIte, Nat.reduceEqDiff, args0, List.getD_cons_zero, List.getD_cons_succ, List.getD_nil, q1]
            · skip
              simp only [upd_at, upd_none, reduceIte, Nat.reduceEqDiff, args0, List.getD_cons_zero, List.getD_cons_succ, List.getD_nil, q2]
            · skip
              simp only [upd_at, upd_none, reduceIte, Nat.reduceEqDiff, args0, List.getD_cons_zero, List.getD_cons_succ, List.getD_nil, q3]
            · skip
              simp only [upd_at, upd_none, reduceIte, Nat.reduceEqDiff, args0, List.getD_cons_zero, List.getD_cons_succ, List.getD_nil]
            · skip
              simp only [upd_at, upd_none, reduceIte, Nat.reduceEqDiff, args0, List.getD_cons_zero, List.getD_cons_succ, List.getD_nil, q10, hnv]
            · skip
              simp only [upd_at, upd_none, reduceIte, Nat.reduceEqDiff, args0, List.getD_cons_zero, List.getD_cons_succ, List.getD_nil, q11]
            · skip
              simp only [upd_at, upd_none, reduceIte, Nat.reduceEqDiff, args0, List.getD_cons_zero, List.getD_cons_succ, List.getD_nil, q12]
            · skip
              simp only [upd_at, upd_none, reduceIte, Nat.reduceEqDiff, args0, List.getD_cons_zero, List.getD_cons_succ, List.getD_nil]
            · skip
              simp only [upd_at, upd_none, reduceIte, Nat.reduceEqDiff, args0, List.getD_cons_zero, List.getD_cons_succ, List.getD_nil]
            · skip
              simp only [upd_at, upd_none, reduceIte, Nat.reduceEqDiff, args0, List.getD_cons_zero, List.getD_cons_succ, List.getD_nil, Int.ofNat_zero]
              try rfl
          · intro i hi
            repeat (first | exact hg i hi | refine upd_un ?_ rfl i hi; clear i hi; intro i hi)
          clear q1 q2 q3 q10 q11 q12 hg g
          rintro k g m2 ⟨t, sv, oc, tc, htl, rfl, q1, q2, q3, q6, q10, q11, q12, q36, q37, q38, g6, hS, hoc, k2, d2⟩ hg
          repeat (first
            | ((first | refine W_op rfl rfl ?_ | (refine W_opgT rfl rfl ?hg ?_; (case hg => (simp only [WG, reduceIte, Nat.reduceEqDiff]; done)))); simp only [WB, execE, unE, args0, reduceIte, Nat.reduceEqDiff, Nat.reduceAdd, Nat.reduceLeDiff, q37, q38, binE, isShift, intBin, WO, fillX, splice, Wo_some])
            | (refine W_opgF rfl rfl ?hg ?_; (case hg => (simp only [WG, reduceIte, Nat.reduceEqDiff]; done)))
            | (refine W_opgU rfl ?hg ?_; (case hg => (simp only [upd_at, reduceIte, Nat.reduceEqDiff]; done))) | (refine W_callN rfl ?hg ?_; (case hg => (simp only [WG, reduceIte, Nat.reduceEqDiff]; done))) | rw [W_seq] | rw [W_reg] | rw [push_no] | rw [push_yes] | rw [W_onil] | rw [W_skip] | rw [W_blk] | rw [W_b] | refine W_regd0 ?_ | refine W_regd ?_)
          refine W_cond ?_
          simp only [WB, execE, unE, args0, reduceIte, Nat.reduceEqDiff, Nat.reduceAdd, Nat.reduceLeDiff]
          refine WC_split (fun ht => ?_) (fun hf => ?_)
          · have hlt2 : t < d.sl.length := by simpa using ht
            have km2 : Keep m m2 [] := (km1.trans kD1 (by simp)).trans k2 (by intro x hx; have := List.mem_singleton.1 hx; right; have := km1.next; have := kC.next; omega)
            obtain ⟨p, hp⟩ : ∃ p, d.sl[t]? = some p := ⟨_, List.getElem?_eq_getElem hlt2⟩
            obtain ⟨j2, o2', cap2, ex2, hsv, hj2, hr2⟩ := (hdo.set.keep0 km2).rdE hlt2
            rw [flat2_at hp] at hr2
            have hix2 : (0 ≤ (t : Int) ∧ (t : Int) < (d.sl.length : Int)) := ⟨by omega, by omega⟩
            have hwt : IntKind.i64.wrap ((t : Int) + 1) = ((t + 1 : Nat) : Int) := wr_i64 (n := (t : Int) + 1) (by omega) (by omega)
            have n6 : mC.next < m2.next := Nat.lt_of_lt_of_le nD k2.next
            repeat (first
              | ((first | refine W_opS rfl rfl rfl ?_ | (refine W_opgT rfl rfl ?hg ?_; (case hg => (simp only [WG, reduceIte, Nat.reduceEqDiff]; done)))); simp only [WB, execE, unE, args0, reduceIte, Nat.reduceEqDiff, Nat.reduceAdd, Nat.reduceLeDiff, q36, hsv, q38, hix2, Int.toNat_natCast, hr2, WO, fillX, splice, Wo_some])
              | (refine W_opgF rfl rfl ?hg ?_; (case hg => (simp only [WG, reduceIte, Nat.reduceEqDiff]; done)))
              | (refine W_opgU rfl ?hg ?_; (case hg => (simp only [upd_at, reduceIte, Nat.reduceEqDiff]; done))) | (refine W_callN rfl ?hg ?_; (case hg => (simp only [WG, reduceIte, Nat.reduceEqDiff]; done))) | rw [W_seq] | rw [W_reg] | rw [push_no] | rw [push_yes] | rw [W_onil] | rw [W_skip] | rw [W_blk] | rw [W_b] | refine W_regd0 ?_ | refine W_regd ?_)
            repeat (first | rw [W_seq] | rw [W_reg] | rw [push_no] | rw [push_yes] | rw [W_onil] | rw [W_skip] | rw [W_blk] | rw [W_b] | refine W_regd0 ?_ | refine W_regd ?_)
            refine W_op rfl rfl ?_
            simp only [WB, execE, unE, args0, reduceIte, Nat.reduceEqDiff, Nat.reduceAdd, Nat.reduceLeDiff, WO, fillX, splice, Wo_some]
            repeat (first | rw [push_no] | rw [push_yes] | rw [W_onil])
            obtain ⟨mE, hmE, kE, bE, gE, dE, _, nE⟩ := mk_put m2 [.i .i64 0, .i .i64 0] [.i .i64 p.1, .i .i64 p.2] true true ⟨2, some 68⟩ ⟨2, some 68⟩ 2 rfl
            rw [← hmE]
            clear hmE
            have gE6 := kE.at n6 (by simp) g6
            repeat (first
              | ((first | refine W_opA rfl rfl rfl ?_ | (refine W_opgT rfl rfl ?hg ?_; (case hg => (simp only [WG, reduceIte, Nat.reduceEqDiff]; done)))); simp only [WB, execE, unE, args0, reduceIte, Nat.reduceEqDiff, Nat.reduceAdd, Nat.reduceLeDiff, q6, gE6, bE, WO, fillX, splice, Wo_some])
              | (refine W_opgF rfl rfl ?hg ?_; (case hg => (simp only [WG, reduceIte, Nat.reduceEqDiff]; done)))
              | (refine W_opgU rfl ?hg ?_; (case hg => (simp only [upd_at, reduceIte, Nat.reduceEqDiff]; done))) | (refine W_callN rfl ?hg ?_; (case hg => (simp only [WG, reduceIte, Nat.reduceEqDiff]; done))) | rw [W_seq] | rw [W_reg] | rw [push_no] | rw [push_yes] | rw [W_onil] | rw [W_skip] | rw [W_blk] | rw [W_b] | refine W_regd0 ?_ | refine W_regd ?_)
            refine W_app (n := t) (k := 1) (new := [.i .i64 p.1, .i .i64 p.2]) (ls := flat2 (d.sl.take t)) rfl (((hS.keep kE (by simp)).keep (Keep.new _ _) (by simp)).as ?hrow) ?hsrc rfl rfl (roomyB (by omega) (by omega)) ?_
            case hrow =>
              simp only [WB, execE, unE, args0, reduceIte, Nat.reduceEqDiff, Nat.reduceAdd, Nat.reduceLeDiff]
            case hsrc =>
              simp only [WB, execE, unE, args0, reduceIte, Nat.reduceEqDiff, Nat.reduceAdd, Nat.reduceLeDiff]
              exact src_new rfl
            intro av' oc' m3 ty' r3 ds3 ro3 o3 k3 _
            have kE3 : Keep mE m3 oc.toList := (Keep.new _ _).nil.trans k3 (fun i hi => .inl hi)
            have hoc3 : ∀ k, oc' = some k → mD.next ≤ k := by
              intro k hk
              rcases o3 with h | ⟨k', h, h2⟩
              · exact hoc k (h ▸ hk)
              · rw [h] at hk; cases hk
                have := k2.next
                have := kE.next
                simp only [AMem.next_new] at h2
                omega
            have n6' : mC.next ∉ oc.toList := by
              intro hm
              have := hoc mC.next (by simpa using hm)
              omega
            have g63 := kE3.at (Nat.lt_of_lt_of_le n6 kE.next) n6' gE6
            have oA := r3.one
            have eA := one_cells oA
            repeat (first
              | ((first | refine W_opS rfl rfl rfl ?_ | (refine W_opgT rfl rfl ?hg ?_; (case hg => (simp only [WG, reduceIte, Nat.reduceEqDiff]; done)))); simp only [WB, execE, unE, args0, reduceIte, Nat.reduceEqDiff, Nat.reduceAdd, Nat.reduceLeDiff, q6, g63, WO, fillX, splice, Wo_some])
              | (refine W_opgF rfl rfl ?hg ?_; (case hg => (simp only [WG, reduceIte, Nat.reduceEqDiff]; done)))
              | (refine W_opgU rfl ?hg ?_; (case hg => (simp only [upd_at, reduceIte, Nat.reduceEqDiff]; done))) | (refine W_callN rfl ?hg ?_; (case hg => (simp only [WG, reduceIte, Nat.reduceEqDiff]; done))) | rw [W_seq] | rw [W_reg] | rw [push_no] | rw [push_yes] | rw [W_onil] | rw [W_skip] | rw [W_blk] | rw [W_b] | refine W_regd0 ?_ | refine W_regd ?_)
            repeat (first | rw [W_seq] | rw [W_reg] | rw [push_no] | rw [push_yes] | rw [W_onil] | rw [W_skip] | rw [W_blk] | rw [W_b] | refine W_regd0 ?_ | refine W_regd ?_)
            refine W_op rfl rfl ?_
            simp only [WB, execE, unE, args0, reduceIte, Nat.reduceEqDiff, Nat.reduceAdd, Nat.reduceLeDiff, q6, g63, oA, eA, WO, fillX, splice, Wo_some]
            repeat (first | rw [push_no] | rw [push_yes] | rw [W_onil])
            have k4 := Keep.put m3 mC.next (some (.cells [.i .i64 d.k, .i .i64 d.fr, .i .i64 d.to, .i .i64 d.num, .i .i64 d.mn, .i .i64 d.mx, .i .i64 d.md, .s ⟨d.nm.toArray⟩, av', d.kv] true ⟨10, some 65⟩))
            repeat (first
              | ((first | refine W_op rfl rfl ?_ | (refine W_opgT rfl rfl ?hg ?_; (case hg => (simp only [WG, reduceIte, Nat.reduceEqDiff]; done)))); simp only [WB, execE, unE, args0, reduceIte, Nat.reduceEqDiff, Nat.reduceAdd, Nat.reduceLeDiff, q38, hwt, binE, isShift, intBin, WO, fillX, splice, Wo_some])
              | (refine W_opgF rfl rfl ?hg ?_; (case hg => (simp only [WG, reduceIte, Nat.reduceEqDiff]; done)))
              | (refine W_opgU rfl ?hg ?_; (case hg => (simp only [upd_at, reduceIte, Nat.reduceEqDiff]; done))) | (refine W_callN rfl ?hg ?_; (case hg => (simp only [WG, reduceIte, Nat.reduceEqDiff]; done))) | rw [W_seq] | rw [W_reg] | rw [push_no] | rw [push_yes] | rw [W_onil] | rw [W_skip] | rw [W_blk] | rw [W_b] | refine W_regd0 ?_ | refine W_regd ?_)
            refine W_j (by repeat (first | exact hg | exact args0_un (Nat.le_of_ble_eq_true rfl) | refine upd_un ?_ rfl)) ?_
            refine ⟨d.sl.length - (t + 1), by omega, t + 1, av', oc', ty', by omega, rfl, ?_, ?_, ?_, ?_, ?_, ?_, ?_, ?_, ?_, ?_, ?_, ?_, hoc3, ?_, ?_⟩
            · skip
              simp only [upd_at, upd_none, reduceIte, Nat.reduceEqDiff, args0, List.getD_cons_zero, List.getD_cons_succ, List.getD_nil, q1]
            · skip
              simp only [upd_at, upd_none, reduceIte, Nat.reduceEqDiff, args0, List.getD_cons_zero, List.getD_cons_succ, List.getD_nil, q2]
            · skip
              simp only [upd_at, upd_none, reduceIte, Nat.reduceEqDiff, args0, List.getD_cons_zero, List.getD_cons_succ, List.getD_nil, q3]
            · skip
              simp only [upd_at, upd_none, reduceIte, Nat.reduceEqDiff, args0, List.getD_cons_zero, List.getD_cons_succ, List.getD_nil, q6]
            · skip
              simp only [upd_at, upd_none, reduceIte, Nat.reduceEqDiff, args0, List.getD_cons_zero, List.getD_cons_succ, List.getD_nil, q10]
            · skip
              simp only [upd_at, upd_none, reduceIte, Nat.reduceEqDiff, args0, List.getD_cons_zero, List.getD_cons_succ, List.getD_nil, q11]
            · skip
              simp only [upd_at, upd_none, reduceIte, Nat.reduceEqDiff, args0, List.getD_cons_zero, List.getD_cons_succ, List.getD_nil, q12]
            · skip
              simp only [upd_at, upd_none, reduceIte, Nat.reduceEqDiff, args0, List.getD_cons_zero, List.getD_cons_succ, List.getD_nil, q36, hsv]
            · skip
              simp only [upd_at, upd_none, reduceIte, Nat.reduceEqDiff, args0, List.getD_cons_zero, List.getD_cons_succ, List.getD_nil, q37]
            · skip
              simp only [upd_at, upd_none, reduceIte, Nat.reduceEqDiff, args0, List.getD_cons_zero, List.getD_cons_succ, List.getD_nil]
            · rw [AMem.get_put, if_pos rfl]
            · have e : flat2 (d.sl.take (t + 1)) = flat2 (d.sl.take t) ++ [.i .i64 p.1, .i .i64 p.2] := by
                rw [List.take_add_one, hp, flat2_app]; rfl
              rw [e]
              exact r3.keep k4 (fun j hj hm => by have := hoc3 j hj; have := List.mem_singleton.1 hm; omega)
            · refine ((k2.trans kE (by simp)).trans kE3 ?_).trans k4 (fun x hx => .inl hx)
              intro x hx
              right
              exact hoc x (by simpa using hx)
            · exact ds3.trans (dE.trans d2)
          · refine W_exit rfl ?_
            refine W_j (by repeat (first | exact hg | exact args0_un (Nat.le_of_ble_eq_true rfl) | refine upd_un ?_ rfl)) ?_
            have htd : t = d.sl.length := by simp at hf; omega
            subst htd
            rw [List.take_length] at hS
            exact ⟨sv, oc, tc, q1, q2, q3, q6, q10, q11, q12, g6, hS, hoc, k2, d2⟩
        clear q1 q2 q3 q10 q11 q12 hg g
        rintro g m2 ⟨sv, oc, tc, q1, q2, q3, q6, q10, q11, q12, g6, hS, hoc, k2, d2⟩ hg
        have k12 : Keep m1 m2 [] := kD1.trans k2 (by intro x hx; have := List.mem_singleton.1 hx; right; have := kC.next; omega)
        have km2 : Keep m m2 [] := km1.trans k12 (by simp)
        have b6 : rd m2 mC.next 0 10 = some [.i .i64 d.k, .i .i64 d.fr, .i .i64 d.to, .i .i64 d.num, .i .i64 d.mn, .i .i64 d.mx, .i .i64 d.md, .s ⟨d.nm.toArray⟩, sv, d.kv] := by simp [rd, g6]
        have oS := hS.one
        have hR2 := hR.keep k12 (by simp)
        have n12 := k12.next
        repeat (first
          | ((first | refine W_opA rfl rfl rfl ?_ | (refine W_opgT rfl rfl ?hg ?_; (case hg => (simp only [WG, reduceIte, Nat.reduceEqDiff]; done)))); simp only [WB, execE, unE, args0, reduceIte, Nat.reduceEqDiff, Nat.reduceAdd, Nat.reduceLeDiff, q3, q6, b6, oS, o2, WO, fillX, splice, Wo_some])
          | (refine W_opgF rfl rfl ?hg ?_; (case hg => (simp only [WG, reduceIte, Nat.reduceEqDiff]; done)))
          | (refine W_opgU rfl ?hg ?_; (case hg => (simp only [upd_at, reduceIte, Nat.reduceEqDiff]; done))) | (refine W_callN rfl ?hg ?_; (case hg => (simp only [WG, reduceIte, Nat.reduceEqDiff]; done))) | rw [W_seq] | rw [W_reg] | rw [push_no] | rw [push_yes] | rw [W_onil] | rw [W_skip] | rw [W_blk] | rw [W_b] | refine W_regd0 ?_ | refine W_regd ?_)
        refine W_app (n := i) (k := 1) (new := Nf.cells { d with sv := sv }) (ls := flatF A) rfl ((hR2.keep (Keep.new _ _) (by simp)).as ?hrow) ?hsrc rfl ?hone (roomyB (by omega) (by omega)) ?_
        case hrow =>
          simp only [WB, execE, unE, args0, reduceIte, Nat.reduceEqDiff, Nat.reduceAdd, Nat.reduceLeDiff, q3]
        case hsrc =>
          simp only [WB, execE, unE, args0, reduceIte, Nat.reduceEqDiff, Nat.reduceAdd, Nat.reduceLeDiff]
          exact src_new rfl
        case hone =>
          simp only [Nf.cells, List.all_cons, List.all_nil, one_i, one_s, oS, o2, Bool.and_self]
        intro av' oj' m3 ty' r3 ds3 ro3 o3 k3 _
        have k23 : Keep m2 m3 oj.toList := (Keep.new _ _).nil.trans k3 (fun i hi => .inl hi)
        have o3' : oj' = oj ∨ ∃ j, oj' = some j ∧ m2.next ≤ j := o3.imp id fun ⟨j, h1, h2⟩ => ⟨j, h1, by simp only [AMem.next_new] at h2; omega⟩
        have hoj3 : ∀ k, oj' = some k → mB.next ≤ k := by
          intro k hk
          rcases o3' with h | ⟨k', h, h2⟩
          · exact hoj k (h ▸ hk)
          · rw [h] at hk; cases hk
            have := k1.next
            omega
        have hnew : Own mB.next m m2 oj { d with sv := sv } := by
          refine ⟨hdo.num, hdo.kids, hdo.sets, hdo.kidn, tc, oc, hS, fun j hj => ?_⟩
          have h1 := hoc j hj
          have := kD1.next
          have := k1.next
          refine ⟨by omega, fun he => ?_⟩
          subst he
          have h2 := hR.lt
          omega
        repeat (first
          | ((first | refine W_op rfl rfl ?_ | (refine W_opgT rfl rfl ?hg ?_; (case hg => (simp only [WG, reduceIte, Nat.reduceEqDiff]; done)))); simp only [WB, execE, unE, args0, reduceIte, Nat.reduceEqDiff, Nat.reduceAdd, Nat.reduceLeDiff, q12, hwi, binE, isShift, intBin, WO, fillX, splice, Wo_some])
          | (refine W_opgF rfl rfl ?hg ?_; (case hg => (simp only [WG, reduceIte, Nat.reduceEqDiff]; done)))
          | (refine W_opgU rfl ?hg ?_; (case hg => (simp only [upd_at, reduceIte, Nat.reduceEqDiff]; done))) | (refine W_callN rfl ?hg ?_; (case hg => (simp only [WG, reduceIte, Nat.reduceEqDiff]; done))) | rw [W_seq] | rw [W_reg] | rw [push_no] | rw [push_yes] | rw [W_onil] | rw [W_skip] | rw [W_blk] | rw [W_b] | refine W_regd0 ?_ | refine W_regd ?_)
        refine W_j (by repeat (first | exact hg | exact args0_un (Nat.le_of_ble_eq_true rfl) | refine upd_un ?_ rfl)) ?_
        refine ⟨D.length - (i + 1), by omega, i + 1, A ++ [{ d with sv := sv }], av', oj', ty', by simp [hAl], by omega, rfl, ?_, ?_, ?_, ?_, ?_, ?_, ?_, ?_, hoj3, ?_, ?_, ds3.trans d2⟩
        · skip
          simp only [upd_at, upd_none, reduceIte, Nat.reduceEqDiff, args0, List.getD_cons_zero, List.getD_cons_succ, List.getD_nil, q1]
        · skip
          simp only [upd_at, upd_none, reduceIte, Nat.reduceEqDiff, args0, List.getD_cons_zero, List.getD_cons_succ, List.getD_nil, q2]
        · skip
          simp only [upd_at, upd_none, reduceIte, Nat.reduceEqDiff, args0, List.getD_cons_zero, List.getD_cons_succ, List.getD_nil]
        · skip
          simp only [upd_at, upd_none, reduceIte, Nat.reduceEqDiff, args0, List.getD_cons_zero, List.getD_cons_succ, List.getD_nil, q10, hnv]
        · skip
          simp only [upd_at, upd_none, reduceIte, Nat.reduceEqDiff, args0, List.getD_cons_zero, List.getD_cons_succ, List.getD_nil, q11]
        · skip
          simp only [upd_at, upd_none, reduceIte, Nat.reduceEqDiff, args0, List.getD_cons_zero, List.getD_cons_succ, List.getD_nil]
        · rw [flatF_app]
          have e : flatF [{ d with sv := sv }] = Nf.cells { d with sv := sv } := by simp [flatF]
          rw [e]
          exact r3
        · rw [List.take_add_one, hd, List.map_append, List.map_append, hkey]
          rfl
        · intro d' hd'
          rcases List.mem_append.1 hd' with h | h
          · exact ((hown d' h).keep0 k12).step k23 o3'
          · simp at h; subst h; exact hnew.step k23 o3'
        · refine (k1.trans k12 (by simp)).trans k23 ?_
          intro x hx
          right
          exact hoj x (by simpa using hx)
      · refine W_exit rfl ?_
        refine W_j (by repeat (first | exact hg | exact args0_un (Nat.le_of_ble_eq_true rfl) | refine upd_un ?_ rfl)) ?_
        have hie : i = D.length := by simp at hf; omega
        subst hie
        rw [List.take_length] at hkey
        refine ⟨A, rv, oj, ty, hAl, q1, q2, q3, by rw [hAl]; exact hR, hkey, hoj, hown, k1, d1⟩
  rintro g m1 ⟨A, rv, oj, ty, hAl, q1, q2, q3, hR, hkey, hoj, hown, k1, d1⟩ hg
  have g1A := k1.at nB' (by simp) gA2
  have g1B := k1.at nB (by simp) gB
  have oR := hR.one
  have eR := one_cells oR
  have eN := one_cells hn1
  repeat (first
    | ((first | refine W_opS rfl rfl rfl ?_ | (refine W_opgT rfl rfl ?hg ?_; (case hg => (simp only [WG, reduceIte, Nat.reduceEqDiff]; done)))); simp only [WB, execE, unE, args0, reduceIte, Nat.reduceEqDiff, Nat.reduceAdd, Nat.reduceLeDiff, q1, q2, q3, g1A, oR, eR, hn1, eN, WO, fillX, splice, Wo_some])
    | (refine W_opgF rfl rfl ?hg ?_; (case hg => (simp only [WG, reduceIte, Nat.reduceEqDiff]; done)))
    | (refine W_opgU rfl ?hg ?_; (case hg => (simp only [upd_at, reduceIte, Nat.reduceEqDiff]; done))) | (refine W_callN rfl ?hg ?_; (case hg => (simp only [WG, reduceIte, Nat.reduceEqDiff]; done))) | rw [W_seq] | rw [W_reg] | rw [push_no] | rw [push_yes] | rw [W_onil] | rw [W_skip] | rw [W_blk] | rw [W_b] | refine W_regd0 ?_ | refine W_regd ?_)
  repeat (first | rw [W_seq] | rw [W_reg] | rw [push_no] | rw [push_yes] | rw [W_onil] | rw [W_skip] | rw [W_blk] | rw [W_b] | refine W_regd0 ?_ | refine W_regd ?_)
  refine W_op rfl rfl ?_
  simp only [WB, execE, unE, args0, reduceIte, Nat.reduceEqDiff, Nat.reduceAdd, Nat.reduceLeDiff, q2, g1B, oR, hn1, WO, fillX, splice, Wo_some]
  repeat (first | rw [push_no] | rw [push_yes] | rw [W_onil])
  repeat (first
    | ((first | refine W_op rfl rfl ?_ | (refine W_opgT rfl rfl ?hg ?_; (case hg => (simp only [WG, reduceIte, Nat.reduceEqDiff]; done)))); simp only [WB, execE, unE, args0, reduceIte, Nat.reduceEqDiff, Nat.reduceAdd, Nat.reduceLeDiff, WO, fillX, splice, Wo_some])
    | (refine W_opgF rfl rfl ?hg ?_; (case hg => (simp only [WG, reduceIte, Nat.reduceEqDiff]; done)))
    | (refine W_opgU rfl ?hg ?_; (case hg => (simp only [upd_at, reduceIte, Nat.reduceEqDiff]; done))) | (refine W_callN rfl ?hg ?_; (case hg => (simp only [WG, reduceIte, Nat.reduceEqDiff]; done))) | rw [W_seq] | rw [W_reg] | rw [push_no] | rw [push_yes] | rw [W_onil] | rw [W_skip] | rw [W_blk] | rw [W_b] | refine W_regd0 ?_ | refine W_regd ?_)
  refine W_getRet (by repeat (first | exact hg | exact args0_un (Nat.le_of_ble_eq_true rfl) | refine upd_un ?_ rfl)) ?_
  have km1 : Keep m m1 [] := kB'.trans k1 (by simp)
  have kp := Keep.put m1 mA.next (some (.cells [rv, .i .i64 G, nm] true ⟨3, some 34⟩))
  have kk : Keep m (m1.put mA.next (some (.cells [rv, .i .i64 G, nm] true ⟨3, some 34⟩))) [] := km1.trans kp (by intro x hx; have := List.mem_singleton.1 hx; right; omega)
  have kq : Keep m1 (m1.put mA.next (some (.cells [rv, .i .i64 G, nm] true ⟨3, some 34⟩))) [mA.next] := kp
  refine ⟨d1, [.agg [rv, .i .i64 G, nm]], ?_, ⟨rv, A, rfl, hAl, ?_, hkey, fun d hd => ?_⟩, kk.out⟩
  · simp only [resX, execE, X.at, upd_at, reduceIte, Nat.reduceEqDiff, q2, rd, AMem.get_put]
    rfl
  · exact (hR.keep kq (fun j hj hm => by have := hoj j hj; have := List.mem_singleton.1 hm; omega)).arr.keep0 (Keep.refl _ _).out
  · obtain ⟨h1, h2, h3, h4, tc, o, h5, h6⟩ := hown d hd
    exact ⟨h1, (h5.keep kq (fun j hj hm => by have := (h6 j hj).1; have := List.mem_singleton.1 hm; omega)).arr.keep0 (Keep.refl _ _).out, h2.keep0 kk.out, h3, h4⟩
end Go.Proofs.YtdmoecehmclohaaGreatDoor
