/- May a tree be? Wherever it may, each node's part lies in order. No condition. -/
import Derived.Test.YtdmoecehmclohaaGreatDoorSlSLE
import Derived.Test.YtdmoecehmclohaaGreatDoorSlViNode
namespace Go.Proofs.YtdmoecehmclohaaGreatDoor
open Go.Vi
set_option linter.unusedSimpArgs false
set_option linter.unusedVariables false
set_option maxHeartbeats 16000000 in
theorem call5 {m : AMem} {nv nm : AV} {D : List Nf} {G : Int} {NS : List (List UInt8)} (hA : Arr m 10 nv D.length (flatF D)) (hok : ∀ d ∈ D, d.ok m) (h60 : D.length ≤ 60) (hN : Arr m 1 nm NS.length (NS.map fun x => .s ⟨x.toArray⟩)) (hNl : NS.length ≤ 140737488355328) :
    Vi.Call T 5 [.agg [nv, .i .i64 G, nm]] m (fun v m' => (∃ b, v = .b b ∧ (b = true → ∀ d ∈ D, 0 ≤ d.fr ∧ d.fr ≤ d.to ∧ d.to ≤ 4096)) ∧ Keep m m' []) := by
  have hlenA := hA.lenF
  have hlenN := hN.lenF
  have ho := hA.one
  have hon := hN.one
  refine Vi.Call.ofP T5 (Nat.le_of_ble_eq_true rfl) ?_
  unfold v5
  repeat (first | rw [W_seq] | rw [W_reg] | rw [push_no] | rw [push_yes] | rw [W_onil] | rw [W_skip] | rw [W_blk] | rw [W_b] | refine W_regd0 ?_ | refine W_regd ?_)
  refine W_op rfl rfl ?_
  simp only [WB, execE, unE, args0, reduceIte, Nat.reduceEqDiff, Nat.reduceAdd, Nat.reduceLeDiff, ho, hon, WO, fillX, splice, Wo_some]
  repeat (first | rw [push_no] | rw [push_yes] | rw [W_onil])
  obtain ⟨mB, hmB, kB, bB, gB, dB, _, nB⟩ := mk_new m.inn [nv, .i .i64 G, nm] true (3 : Nat) 3 rfl
  have kB' : Keep m mB [] := kB.ofInn
  have gB' : mB.get m.next = some (.cells [nv, .i .i64 G, nm] true (3 : Nat)) := gB
  have bB' : rd mB m.next 0 3 = some [nv, .i .i64 G, nm] := bB
  have nB' : m.next < mB.next := nB
  rw [← hmB]
  clear hmB gB bB nB
  repeat (first
    | ((first | refine W_op rfl rfl ?_ | (refine W_opgT rfl rfl ?hg ?_; (case hg => (simp only [WG, reduceIte, Nat.reduceEqDiff]; done)))); simp only [WB, execE, unE, args0, reduceIte, Nat.reduceEqDiff, Nat.reduceAdd, Nat.reduceLeDiff, bB', WO, fillX, splice, Wo_some])
    | (refine W_opgF rfl rfl ?hg ?_; (case hg => (simp only [WG, reduceIte, Nat.reduceEqDiff]; done)))
    | (refine W_opgU rfl ?hg ?_; (case hg => (simp only [upd_at, reduceIte, Nat.reduceEqDiff]; done))) | (refine W_callN rfl ?hg ?_; (case hg => (simp only [WG, reduceIte, Nat.reduceEqDiff]; done))) | rw [W_seq] | rw [W_reg] | rw [push_no] | rw [push_yes] | rw [W_onil] | rw [W_skip] | rw [W_blk] | rw [W_b] | refine W_regd0 ?_ | refine W_regd ?_)
  refine W_callA rfl ?hargs (call11 (G := .i .i64 G) rfl hon h60 (D.length - 0) 0 mB rfl (Nat.zero_le _) (hA.keep0 kB') (fun d hd => (hok d hd).keep0 kB')) ?_
  case hargs => simp only [WB, execE, unE, args0, reduceIte, Nat.reduceEqDiff, Nat.reduceAdd, Nat.reduceLeDiff] <;> rfl
  rintro v m1 ⟨⟨e, rfl, he⟩, k1⟩ hs1
  have g1 := k1.at nB' (by simp) gB'
  have kk1 : Keep m m1 [] := kB'.trans k1 (by simp)
  have n1 : m.next < m1.next := Nat.lt_of_lt_of_le nB' k1.next
  have d1 : m1.ds = [] := hs1.ds.trans dB
  by_cases hE : e = (D.length : Int)
  case neg =>
    have c1 : (e != (D.length : Int)) = true := by simpa using hE
    repeat (first
      | ((first | refine W_op rfl rfl ?_ | (refine W_opgT rfl rfl ?hg ?_; (case hg => (simp only [WG, reduceIte, Nat.reduceEqDiff]; done)))); simp only [WB, execE, unE, args0, reduceIte, Nat.reduceEqDiff, Nat.reduceAdd, Nat.reduceLeDiff, g1, c1, ↓hlenA, binE, isShift, intBin, WO, fillX, splice, Wo_some])
      | (refine W_opgF rfl rfl ?hg ?_; (case hg => (simp only [WG, reduceIte, Nat.reduceEqDiff]; done)))
      | (refine W_opgU rfl ?hg ?_; (case hg => (simp only [upd_at, reduceIte, Nat.reduceEqDiff]; done))) | (refine W_callN rfl ?hg ?_; (case hg => (simp only [WG, reduceIte, Nat.reduceEqDiff]; done))) | rw [W_seq] | rw [W_reg] | rw [push_no] | rw [push_yes] | rw [W_onil] | rw [W_skip] | rw [W_blk] | rw [W_b] | refine W_regd0 ?_ | refine W_regd ?_)
    refine W_dnil ?hs ?hnt ?_
    case hs => (simp only [SameIn, SameAt, List.nil_append, List.cons_append, reduceCtorEq, false_and, exists_false, exists_const, false_or, or_false, Option.some.injEq, exists_eq_left', exists_eq', or_true, and_true, WB, execE, unE, args0, reduceIte, Nat.reduceEqDiff, Nat.reduceAdd, Nat.reduceLeDiff, gB', g1])
    case hnt => (simp only [List.nil_append, List.cons_append, List.forall_mem_cons, List.not_mem_nil, false_imp_iff, implies_true, and_true]; repeat' (first | exact hg | exact args0_un (Nat.le_of_ble_eq_true rfl) | refine upd_un ?_ rfl | constructor))
    refine W_cond ?_
    simp only [WB, execE, unE, args0, reduceIte, Nat.reduceEqDiff, Nat.reduceAdd, Nat.reduceLeDiff, WC]
    repeat (first
      | ((first | refine W_op rfl rfl ?_ | (refine W_opgT rfl rfl ?hg ?_; (case hg => (simp only [WG, reduceIte, Nat.reduceEqDiff]; done)))); simp only [WB, execE, unE, args0, reduceIte, Nat.reduceEqDiff, Nat.reduceAdd, Nat.reduceLeDiff, WO, fillX, splice, Wo_some])
      | (refine W_opgF rfl rfl ?hg ?_; (case hg => (simp only [WG, reduceIte, Nat.reduceEqDiff]; done)))
      | (refine W_opgU rfl ?hg ?_; (case hg => (simp only [upd_at, reduceIte, Nat.reduceEqDiff]; done))) | (refine W_callN rfl ?hg ?_; (case hg => (simp only [WG, reduceIte, Nat.reduceEqDiff]; done))) | rw [W_seq] | rw [W_reg] | rw [push_no] | rw [push_yes] | rw [W_onil] | rw [W_skip] | rw [W_blk] | rw [W_b] | refine W_regd0 ?_ | refine W_regd ?_)
    refine W_getRet (by repeat (first | exact hg | exact args0_un (Nat.le_of_ble_eq_true rfl) | refine upd_un ?_ rfl)) ?_
    exact ⟨d1, _, rfl, ⟨_, rfl, nofun⟩, kk1.out⟩
  subst hE
  have c1 : ((D.length : Int) != (D.length : Int)) = false := bne_self_eq_false _
  obtain ⟨hpos, hkids⟩ : 0 < D.length ∧ ∀ (j : Nat) d, D[j]? = some d → ∀ x ∈ d.kl, 0 ≤ x ∧ x < (D.length : Int) := by
    rcases he with h | ⟨e', h1, h2, h3, h4⟩
    · omega
    · obtain rfl : e' = D.length := by omega
      exact ⟨h2, fun j d hd => h4 j d (Nat.zero_le _) ((List.getElem?_eq_some_iff.1 hd).1) hd⟩
  by_cases hz : NS.length = 0
  · have c2 : ((NS.length : Int) == 0) = true := by simpa using hz
    repeat (first
      | ((first | refine W_op rfl rfl ?_ | (refine W_opgT rfl rfl ?hg ?_; (case hg => (simp only [WG, reduceIte, Nat.reduceEqDiff]; done)))); simp only [WB, execE, unE, args0, reduceIte, Nat.reduceEqDiff, Nat.reduceAdd, Nat.reduceLeDiff, g1, c1, c2, ↓hlenA, ↓hlenN, binE, isShift, intBin, WO, fillX, splice, Wo_some])
      | (refine W_opgF rfl rfl ?hg ?_; (case hg => (simp only [WG, reduceIte, Nat.reduceEqDiff]; done)))
      | (refine W_opgU rfl ?hg ?_; (case hg => (simp only [upd_at, reduceIte, Nat.reduceEqDiff]; done))) | (refine W_callN rfl ?hg ?_; (case hg => (simp only [WG, reduceIte, Nat.reduceEqDiff]; done))) | rw [W_seq] | rw [W_reg] | rw [push_no] | rw [push_yes] | rw [W_onil] | rw [W_skip] | rw [W_blk] | rw [W_b] | refine W_regd0 ?_ | refine W_regd ?_)
    refine W_dnil ?hs ?hnt ?_
    case hs => (simp only [SameIn, SameAt, List.nil_append, List.cons_append, reduceCtorEq, false_and, exists_false, exists_const, false_or, or_false, Option.some.injEq, exists_eq_left', exists_eq', or_true, and_true, WB, execE, unE, args0, reduceIte, Nat.reduceEqDiff, Nat.reduceAdd, Nat.reduceLeDiff, gB', g1])
    case hnt => (simp only [List.nil_append, List.cons_append, List.forall_mem_cons, List.not_mem_nil, false_imp_iff, implies_true, and_true]; repeat' (first | exact hg | exact args0_un (Nat.le_of_ble_eq_true rfl) | refine upd_un ?_ rfl | constructor))
    refine W_cond ?_
    simp only [WB, execE, unE, args0, reduceIte, Nat.reduceEqDiff, Nat.reduceAdd, Nat.reduceLeDiff, WC]
    repeat (first
      | ((first | refine W_op rfl rfl ?_ | (refine W_opgT rfl rfl ?hg ?_; (case hg => (simp only [WG, reduceIte, Nat.reduceEqDiff]; done)))); simp only [WB, execE, unE, args0, reduceIte, Nat.reduceEqDiff, Nat.reduceAdd, Nat.reduceLeDiff, WO, fillX, splice, Wo_some])
      | (refine W_opgF rfl rfl ?hg ?_; (case hg => (simp only [WG, reduceIte, Nat.reduceEqDiff]; done)))
      | (refine W_opgU rfl ?hg ?_; (case hg => (simp only [upd_at, reduceIte, Nat.reduceEqDiff]; done))) | (refine W_callN rfl ?hg ?_; (case hg => (simp only [WG, reduceIte, Nat.reduceEqDiff]; done))) | rw [W_seq] | rw [W_reg] | rw [push_no] | rw [push_yes] | rw [W_onil] | rw [W_skip] | rw [W_blk] | rw [W_b] | refine W_regd0 ?_ | refine W_regd ?_)
    refine W_getRet (by repeat (first | exact hg | exact args0_un (Nat.le_of_ble_eq_true rfl) | refine upd_un ?_ rfl)) ?_
    exact ⟨d1, _, rfl, ⟨_, rfl, nofun⟩, kk1.out⟩
  have c2 : ((NS.length : Int) == 0) = false := by simpa using hz
  have hws : IntKind.i64.wrap ((NS.length : Int) - 1) = ((NS.length - 1 : Nat) : Int) := by rw [wr_i64 (by omega) (by omega)]; omega
  by_cases hG : ((NS.length - 1 : Nat) : Int) = G
  case neg =>
    have c3 : (((NS.length - 1 : Nat) : Int) != G) = true := by simpa using hG
    repeat (first
      | ((first | refine W_op rfl rfl ?_ | (refine W_opgT rfl rfl ?hg ?_; (case hg => (simp only [WG, reduceIte, Nat.reduceEqDiff]; done)))); simp only [WB, execE, unE, args0, reduceIte, Nat.reduceEqDiff, Nat.reduceAdd, Nat.reduceLeDiff, g1, c1, c2, c3, hws, ↓hlenA, ↓hlenN, binE, isShift, intBin, WO, fillX, splice, Wo_some])
      | (refine W_opgF rfl rfl ?hg ?_; (case hg => (simp only [WG, reduceIte, Nat.reduceEqDiff]; done)))
      | (refine W_opgU rfl ?hg ?_; (case hg => (simp only [upd_at, reduceIte, Nat.reduceEqDiff]; done))) | (refine W_callN rfl ?hg ?_; (case hg => (simp only [WG, reduceIte, Nat.reduceEqDiff]; done))) | rw [W_seq] | rw [W_reg] | rw [push_no] | rw [push_yes] | rw [W_onil] | rw [W_skip] | rw [W_blk] | rw [W_b] | refine W_regd0 ?_ | refine W_regd ?_)
    refine W_dnil ?hs ?hnt ?_
    case hs => (simp only [SameIn, SameAt, List.nil_append, List.cons_append, reduceCtorEq, false_and, exists_false, exists_const, false_or, or_false, Option.some.injEq, exists_eq_left', exists_eq', or_true, and_true, WB, execE, unE, args0, reduceIte, Nat.reduceEqDiff, Nat.reduceAdd, Nat.reduceLeDiff, gB', g1])
    case hnt => (simp only [List.nil_append, List.cons_append, List.forall_mem_cons, List.not_mem_nil, false_imp_iff, implies_true, and_true]; repeat' (first | exact hg | exact args0_un (Nat.le_of_ble_eq_true rfl) | refine upd_un ?_ rfl | constructor))
    refine W_cond ?_
    simp only [WB, execE, unE, args0, reduceIte, Nat.reduceEqDiff, Nat.reduceAdd, Nat.reduceLeDiff, WC]
    repeat (first
      | ((first | refine W_op rfl rfl ?_ | (refine W_opgT rfl rfl ?hg ?_; (case hg => (simp only [WG, reduceIte, Nat.reduceEqDiff]; done)))); simp only [WB, execE, unE, args0, reduceIte, Nat.reduceEqDiff, Nat.reduceAdd, Nat.reduceLeDiff, WO, fillX, splice, Wo_some])
      | (refine W_opgF rfl rfl ?hg ?_; (case hg => (simp only [WG, reduceIte, Nat.reduceEqDiff]; done)))
      | (refine W_opgU rfl ?hg ?_; (case hg => (simp only [upd_at, reduceIte, Nat.reduceEqDiff]; done))) | (refine W_callN rfl ?hg ?_; (case hg => (simp only [WG, reduceIte, Nat.reduceEqDiff]; done))) | rw [W_seq] | rw [W_reg] | rw [push_no] | rw [push_yes] | rw [W_onil] | rw [W_skip] | rw [W_blk] | rw [W_b] | refine W_regd0 ?_ | refine W_regd ?_)
    refine W_getRet (by repeat (first | exact hg | exact args0_un (Nat.le_of_ble_eq_true rfl) | refine upd_un ?_ rfl)) ?_
    exact ⟨d1, _, rfl, ⟨_, rfl, nofun⟩, kk1.out⟩
  subst hG
  have c3 : (((NS.length - 1 : Nat) : Int) != ((NS.length - 1 : Nat) : Int)) = false := bne_self_eq_false _
  have hN0 := hN
  obtain ⟨jn, on, capn, exn, cn, wrn, esn, rfl, hjn, hgn, hckn⟩ := hN0.full (by omega)
  have hname : ∀ i, i < NS.length → ∃ s : List UInt8, cn[on + i]? = some (.s ⟨s.toArray⟩) := fun i hi => by
    refine ⟨NS[i], (hckn i (by omega)).trans ?_⟩
    rw [List.getElem?_map, List.getElem?_eq_getElem hi]; rfl
  obtain ⟨s0, hs0⟩ := hname 0 (by omega)
  have hs0' : cn[on]? = some (.s ⟨s0.toArray⟩) := hs0
  have hgn1 := kk1.at hjn (by simp) hgn
  have hix0 : ((0 : Int) ≤ 0 ∧ (0 : Int) < (NS.length : Int)) := ⟨by omega, by omega⟩
  have hne := neS s0 []
  repeat (first
    | ((first | refine W_op rfl rfl ?_ | (refine W_opgT rfl rfl ?hg ?_; (case hg => (simp only [WG, reduceIte, Nat.reduceEqDiff]; done)))); simp only [WB, execE, unE, args0, reduceIte, Nat.reduceEqDiff, Nat.reduceAdd, Nat.reduceLeDiff, g1, c1, c2, c3, hws, hix0, Int.toNat_zero, Nat.zero_mul, hgn1, hs0', hne, ↓hlenA, ↓hlenN, binE, isShift, intBin, WO, fillX, splice, Wo_some])
    | (refine W_opgF rfl rfl ?hg ?_; (case hg => (simp only [WG, reduceIte, Nat.reduceEqDiff]; done)))
    | (refine W_opgU rfl ?hg ?_; (case hg => (simp only [upd_at, reduceIte, Nat.reduceEqDiff]; done))) | (refine W_callN rfl ?hg ?_; (case hg => (simp only [WG, reduceIte, Nat.reduceEqDiff]; done))) | rw [W_seq] | rw [W_reg] | rw [push_no] | rw [push_yes] | rw [W_onil] | rw [W_skip] | rw [W_blk] | rw [W_b] | refine W_regd0 ?_ | refine W_regd ?_)
  refine W_dnil ?hs ?hnt ?_
  case hs => (simp only [SameIn, SameAt, List.nil_append, List.cons_append, reduceCtorEq, false_and, exists_false, exists_const, false_or, or_false, Option.some.injEq, exists_eq_left', exists_eq', or_true, and_true, WB, execE, unE, args0, reduceIte, Nat.reduceEqDiff, Nat.reduceAdd, Nat.reduceLeDiff, gB', g1])
  case hnt => (simp only [List.nil_append, List.cons_append, List.forall_mem_cons, List.not_mem_nil, false_imp_iff, implies_true, and_true]; repeat' (first | exact hg | exact args0_un (Nat.le_of_ble_eq_true rfl) | refine upd_un ?_ rfl | constructor))
  refine W_cond ?_
  simp only [WB, execE, unE, args0, reduceIte, Nat.reduceEqDiff, Nat.reduceAdd, Nat.reduceLeDiff]
  refine WC_split (fun ht => ?_) (fun hf => ?_)
  · skip
    repeat (first
      | ((first | refine W_op rfl rfl ?_ | (refine W_opgT rfl rfl ?hg ?_; (case hg => (simp only [WG, reduceIte, Nat.reduceEqDiff]; done)))); simp only [WB, execE, unE, args0, reduceIte, Nat.reduceEqDiff, Nat.reduceAdd, Nat.reduceLeDiff, WO, fillX, splice, Wo_some])
      | (refine W_opgF rfl rfl ?hg ?_; (case hg => (simp only [WG, reduceIte, Nat.reduceEqDiff]; done)))
      | (refine W_opgU rfl ?hg ?_; (case hg => (simp only [upd_at, reduceIte, Nat.reduceEqDiff]; done))) | (refine W_callN rfl ?hg ?_; (case hg => (simp only [WG, reduceIte, Nat.reduceEqDiff]; done))) | rw [W_seq] | rw [W_reg] | rw [push_no] | rw [push_yes] | rw [W_onil] | rw [W_skip] | rw [W_blk] | rw [W_b] | refine W_regd0 ?_ | refine W_regd ?_)
    refine W_getRet (by repeat (first | exact hg | exact args0_un (Nat.le_of_ble_eq_true rfl) | refine upd_un ?_ rfl)) ?_
    exact ⟨d1, _, rfl, ⟨_, rfl, nofun⟩, kk1.out⟩
  repeat (first
    | ((first | refine W_op rfl rfl ?_ | (refine W_opgT rfl rfl ?hg ?_; (case hg => (simp only [WG, reduceIte, Nat.reduceEqDiff]; done)))); simp only [WB, execE, unE, args0, reduceIte, Nat.reduceEqDiff, Nat.reduceAdd, Nat.reduceLeDiff, WO, fillX, splice, Wo_some])
    | (refine W_opgF rfl rfl ?hg ?_; (case hg => (simp only [WG, reduceIte, Nat.reduceEqDiff]; done)))
    | (refine W_opgU rfl ?hg ?_; (case hg => (simp only [upd_at, reduceIte, Nat.reduceEqDiff]; done))) | (refine W_callN rfl ?hg ?_; (case hg => (simp only [WG, reduceIte, Nat.reduceEqDiff]; done))) | rw [W_seq] | rw [W_reg] | rw [push_no] | rw [push_yes] | rw [W_onil] | rw [W_skip] | rw [W_blk] | rw [W_b] | refine W_regd0 ?_ | refine W_regd ?_)
  obtain ⟨jv, ov, capv, exv, cv, wrv, esv, rfl, hjv, hgv, hckv⟩ := hA.full hpos
  refine W_loop (fun k g' m' => ∃ (i gr : Nat), i ≤ D.length ∧ k = D.length - i ∧ g' 1 = .p (some (m.next, 0)) ∧ g' 3 = .i .i64 gr ∧ g' 4 = .i .i64 i ∧ gr ≤ NS.length - 1 ∧ (∀ (t : Nat) d, t < i → D[t]? = some d → 0 ≤ d.fr ∧ d.fr ≤ d.to ∧ d.to ≤ 4096) ∧ Keep m m' [] ∧ m'.get m.next = some (.cells [.sl (some (jv, ov)) D.length capv exv, .i .i64 ((NS.length - 1 : Nat) : Int), .sl (some (jn, on)) NS.length capn exn] true (3 : Nat)) ∧ m.next < m'.next ∧ m'.ds = []) D.length ?_ ?_ ?_
  · refine ⟨0, 0, Nat.zero_le _, rfl, ?_, ?_, ?_, Nat.zero_le _, fun t d h => by omega, kk1, g1, n1, d1⟩
    · skip
      simp only [upd_at, upd_none, reduceIte, Nat.reduceEqDiff, args0, List.getD_cons_zero, List.getD_cons_succ, List.getD_nil]
    · skip
      simp only [upd_at, upd_none, reduceIte, Nat.reduceEqDiff, args0, List.getD_cons_zero, List.getD_cons_succ, List.getD_nil, Int.ofNat_zero]
      try rfl
    · skip
      simp only [upd_at, upd_none, reduceIte, Nat.reduceEqDiff, args0, List.getD_cons_zero, List.getD_cons_succ, List.getD_nil, Int.ofNat_zero]
      try rfl
  · intro i hi
    repeat (first | exact args0_un (Nat.le_of_ble_eq_true rfl) i hi | refine upd_un ?_ rfl i hi; clear i hi; intro i hi)
  clear hs0 hs0' hne hf c1 c2 c3 he hs1 k1 kk1 n1 d1 g1 hgn1 m1
  rintro k g m1 ⟨i, gr, hi, rfl, q1, q3, q4, hgr, hR, k1, g1, n1, d1⟩ hg
  repeat (first
    | ((first | refine W_op rfl rfl ?_ | (refine W_opgT rfl rfl ?hg ?_; (case hg => (simp only [WG, reduceIte, Nat.reduceEqDiff]; done)))); simp only [WB, execE, unE, args0, reduceIte, Nat.reduceEqDiff, Nat.reduceAdd, Nat.reduceLeDiff, q1, q4, g1, ↓hlenA, binE, isShift, intBin, WO, fillX, splice, Wo_some])
    | (refine W_opgF rfl rfl ?hg ?_; (case hg => (simp only [WG, reduceIte, Nat.reduceEqDiff]; done)))
    | (refine W_opgU rfl ?hg ?_; (case hg => (simp only [upd_at, reduceIte, Nat.reduceEqDiff]; done))) | (refine W_callN rfl ?hg ?_; (case hg => (simp only [WG, reduceIte, Nat.reduceEqDiff]; done))) | rw [W_seq] | rw [W_reg] | rw [push_no] | rw [push_yes] | rw [W_onil] | rw [W_skip] | rw [W_blk] | rw [W_b] | refine W_regd0 ?_ | refine W_regd ?_)
  refine W_cond ?_
  simp only [WB, execE, unE, args0, reduceIte, Nat.reduceEqDiff, Nat.reduceAdd, Nat.reduceLeDiff]
  refine WC_split (fun ht => ?_) (fun hf => ?_)
  · have hlt : i < D.length := by simpa using ht
    obtain ⟨d, hd⟩ : ∃ d, D[i]? = some d := ⟨_, List.getElem?_eq_getElem hlt⟩
    have hdo := (hok d (List.mem_of_getElem? hd))
    have hlenK := hdo.kids.lenF
    have hkn := hdo.kidn
    have o1 := hdo.set.one
    have o2 := hdo.kids.one
    have e1 := one_cells o1
    have e2 := one_cells o2
    have hr : rd m1 jv (ov + i * 10) 10 = some d.cells := by
      obtain ⟨j', o', c', x', h1, _, h3⟩ := (hA.keep0 k1).rdE hlt
      simp only [AV.sl.injEq, Option.some.injEq, Prod.mk.injEq, true_and] at h1
      obtain ⟨⟨rfl, rfl⟩, _⟩ := h1
      rw [h3, flatF_at hd]
    have hix : (0 ≤ (i : Int) ∧ (i : Int) < (D.length : Int)) := ⟨by omega, by omega⟩
    have hwi : IntKind.i64.wrap ((i : Int) + 1) = ((i + 1 : Nat) : Int) := wr_i64 (n := (i : Int) + 1) (by omega) (by omega)
    repeat (first
      | ((first | refine W_opS rfl rfl rfl ?_ | (refine W_opgT rfl rfl ?hg ?_; (case hg => (simp only [WG, reduceIte, Nat.reduceEqDiff]; done)))); simp only [WB, execE, unE, args0, reduceIte, Nat.reduceEqDiff, Nat.reduceAdd, Nat.reduceLeDiff, q1, q4, g1, hix, Int.toNat_natCast, hr, WO, fillX, splice, Wo_some])
      | (refine W_opgF rfl rfl ?hg ?_; (case hg => (simp only [WG, reduceIte, Nat.reduceEqDiff]; done)))
      | (refine W_opgU rfl ?hg ?_; (case hg => (simp only [upd_at, reduceIte, Nat.reduceEqDiff]; done))) | (refine W_callN rfl ?hg ?_; (case hg => (simp only [WG, reduceIte, Nat.reduceEqDiff]; done))) | rw [W_seq] | rw [W_reg] | rw [push_no] | rw [push_yes] | rw [W_onil] | rw [W_skip] | rw [W_blk] | rw [W_b] | refine W_regd0 ?_ | refine W_regd ?_)
    simp only [Nf.cells]
    repeat (first | rw [W_seq] | rw [W_reg] | rw [push_no] | rw [push_yes] | rw [W_onil] | rw [W_skip] | rw [W_blk] | rw [W_b] | refine W_regd0 ?_ | refine W_regd ?_)
    refine W_op rfl rfl ?_
    simp only [WB, execE, unE, args0, reduceIte, Nat.reduceEqDiff, Nat.reduceAdd, Nat.reduceLeDiff, o1, o2, WO, fillX, splice, Wo_some]
    repeat (first | rw [push_no] | rw [push_yes] | rw [W_onil])
    obtain ⟨mC, hmC, kC, bC, gC, dC, _, nC⟩ := mk_put m1 [.i .i64 0, .i .i64 0, .i .i64 0, .i .i64 0, .i .i64 0, .i .i64 0, .i .i64 0, .s ⟨#[]⟩, .sl none 0 0 true, .sl none 0 0 true] [.i .i64 d.k, .i .i64 d.fr, .i .i64 d.to, .i .i64 d.num, .i .i64 d.mn, .i .i64 d.mx, .i .i64 d.md, .s ⟨d.nm.toArray⟩, d.sv, d.kv] true true ⟨10, some 65⟩ ⟨10, some 65⟩ 10 rfl
    rw [← hmC]
    clear hmC
    have kC' : Keep m mC [] := k1.trans kC (by simp)
    repeat (first
      | ((first | refine W_op rfl rfl ?_ | (refine W_opgT rfl rfl ?hg ?_; (case hg => (simp only [WG, reduceIte, Nat.reduceEqDiff]; done)))); simp only [WB, execE, unE, args0, reduceIte, Nat.reduceEqDiff, Nat.reduceAdd, Nat.reduceLeDiff, bC, WO, fillX, splice, Wo_some])
      | (refine W_opgF rfl rfl ?hg ?_; (case hg => (simp only [WG, reduceIte, Nat.reduceEqDiff]; done)))
      | (refine W_opgU rfl ?hg ?_; (case hg => (simp only [upd_at, reduceIte, Nat.reduceEqDiff]; done))) | (refine W_callN rfl ?hg ?_; (case hg => (simp only [WG, reduceIte, Nat.reduceEqDiff]; done))) | rw [W_seq] | rw [W_reg] | rw [push_no] | rw [push_yes] | rw [W_onil] | rw [W_skip] | rw [W_blk] | rw [W_b] | refine W_regd0 ?_ | refine W_regd ?_)
    refine W_callA rfl ?hargs (call12 d (hdo.keep0 kC')) ?_
    case hargs => simp only [WB, execE, unE, args0, reduceIte, Nat.reduceEqDiff, Nat.reduceAdd, Nat.reduceLeDiff, Nf.cells] <;> rfl
    rintro v m2 ⟨b, rfl, hb, k2⟩ hs2
    have kk2 : Keep m m2 [] := kC'.trans k2 (by simp)
    have d2 : m2.ds = [] := hs2.ds.trans (dC.trans d1)
    cases b with
    | false =>
      repeat (first
        | ((first | refine W_op rfl rfl ?_ | (refine W_opgT rfl rfl ?hg ?_; (case hg => (simp only [WG, reduceIte, Nat.reduceEqDiff]; done)))); simp only [WB, execE, unE, args0, reduceIte, Nat.reduceEqDiff, Nat.reduceAdd, Nat.reduceLeDiff, WO, fillX, splice, Wo_some])
        | (refine W_opgF rfl rfl ?hg ?_; (case hg => (simp only [WG, reduceIte, Nat.reduceEqDiff]; done)))
        | (refine W_opgU rfl ?hg ?_; (case hg => (simp only [upd_at, reduceIte, Nat.reduceEqDiff]; done))) | (refine W_callN rfl ?hg ?_; (case hg => (simp only [WG, reduceIte, Nat.reduceEqDiff]; done))) | rw [W_seq] | rw [W_reg] | rw [push_no] | rw [push_yes] | rw [W_onil] | rw [W_skip] | rw [W_blk] | rw [W_b] | refine W_regd0 ?_ | refine W_regd ?_)
      refine W_cond ?_
      simp only [WB, execE, unE, args0, reduceIte, Nat.reduceEqDiff, Nat.reduceAdd, Nat.reduceLeDiff, WC]
      repeat (first
        | ((first | refine W_op rfl rfl ?_ | (refine W_opgT rfl rfl ?hg ?_; (case hg => (simp only [WG, reduceIte, Nat.reduceEqDiff]; done)))); simp only [WB, execE, unE, args0, reduceIte, Nat.reduceEqDiff, Nat.reduceAdd, Nat.reduceLeDiff, WO, fillX, splice, Wo_some])
        | (refine W_opgF rfl rfl ?hg ?_; (case hg => (simp only [WG, reduceIte, Nat.reduceEqDiff]; done)))
        | (refine W_opgU rfl ?hg ?_; (case hg => (simp only [upd_at, reduceIte, Nat.reduceEqDiff]; done))) | (refine W_callN rfl ?hg ?_; (case hg => (simp only [WG, reduceIte, Nat.reduceEqDiff]; done))) | rw [W_seq] | rw [W_reg] | rw [push_no] | rw [push_yes] | rw [W_onil] | rw [W_skip] | rw [W_blk] | rw [W_b] | refine W_regd0 ?_ | refine W_regd ?_)
      refine W_getRet (by repeat (first | exact hg | exact args0_un (Nat.le_of_ble_eq_true rfl) | refine upd_un ?_ rfl)) ?_
      exact ⟨d2, _, rfl, ⟨_, rfl, nofun⟩, kk2.out⟩
    | true =>
    have hRd := hb rfl
    have g2 : m2.get m.next = _ := k2.at (Nat.lt_of_lt_of_le n1 kC.next) (by simp) (kC.at n1 (by simp) g1)
    have n2 : m.next < m2.next := Nat.lt_of_lt_of_le (Nat.lt_of_lt_of_le n1 kC.next) k2.next
    have gd := k2.at nC (by simp) gC
    have hgv2 := kk2.at hjv (by simp) hgv
    have hgn2 := kk2.at hjn (by simp) hgn
    repeat (first
      | ((first | refine W_op rfl rfl ?_ | (refine W_opgT rfl rfl ?hg ?_; (case hg => (simp only [WG, reduceIte, Nat.reduceEqDiff]; done)))); simp only [WB, execE, unE, args0, reduceIte, Nat.reduceEqDiff, Nat.reduceAdd, Nat.reduceLeDiff, WO, fillX, splice, Wo_some])
      | (refine W_opgF rfl rfl ?hg ?_; (case hg => (simp only [WG, reduceIte, Nat.reduceEqDiff]; done)))
      | (refine W_opgU rfl ?hg ?_; (case hg => (simp only [upd_at, reduceIte, Nat.reduceEqDiff]; done))) | (refine W_callN rfl ?hg ?_; (case hg => (simp only [WG, reduceIte, Nat.reduceEqDiff]; done))) | rw [W_seq] | rw [W_reg] | rw [push_no] | rw [push_yes] | rw [W_onil] | rw [W_skip] | rw [W_blk] | rw [W_b] | refine W_regd0 ?_ | refine W_regd ?_)
    refine W_cond ?_
    simp only [WB, execE, unE, args0, reduceIte, Nat.reduceEqDiff, Nat.reduceAdd, Nat.reduceLeDiff, WC]
    repeat (first
      | ((first | refine W_op rfl rfl ?_ | (refine W_opgT rfl rfl ?hg ?_; (case hg => (simp only [WG, reduceIte, Nat.reduceEqDiff]; done)))); simp only [WB, execE, unE, args0, reduceIte, Nat.reduceEqDiff, Nat.reduceAdd, Nat.reduceLeDiff, WO, fillX, splice, Wo_some])
      | (refine W_opgF rfl rfl ?hg ?_; (case hg => (simp only [WG, reduceIte, Nat.reduceEqDiff]; done)))
      | (refine W_opgU rfl ?hg ?_; (case hg => (simp only [upd_at, reduceIte, Nat.reduceEqDiff]; done))) | (refine W_callN rfl ?hg ?_; (case hg => (simp only [WG, reduceIte, Nat.reduceEqDiff]; done))) | rw [W_seq] | rw [W_reg] | rw [push_no] | rw [push_yes] | rw [W_onil] | rw [W_skip] | rw [W_blk] | rw [W_b] | refine W_regd0 ?_ | refine W_regd ?_)
    refine W_cutQ [_, _] (fun g' m' => g' 1 = .p (some (m.next, 0)) ∧ g' 3 = .i .i64 gr ∧ g' 4 = .i .i64 i ∧ g' 5 = .p (some (m1.next, 0)) ∧ m' = m2) ?_ ?_
    · simp only [List.cons_append, List.nil_append]
      refine W_loop (fun k g' m' => ∃ kk : Nat, kk ≤ d.kl.length ∧ k = d.kl.length - kk ∧ g' 1 = .p (some (m.next, 0)) ∧ g' 3 = .i .i64 gr ∧ g' 4 = .i .i64 i ∧ g' 5 = .p (some (m1.next, 0)) ∧ g' 6 = .i .i64 kk ∧ m' = m2) d.kl.length ?_ ?_ ?_
      · refine ⟨0, Nat.zero_le _, rfl, ?_, ?_, ?_, ?_, ?_, rfl⟩
        · skip
          simp only [upd_at, upd_none, reduceIte, Nat.reduceEqDiff, args0, List.getD_cons_zero, List.getD_cons_succ, List.getD_nil, q1]
        · skip
          simp only [upd_at, upd_none, reduceIte, Nat.reduceEqDiff, args0, List.getD_cons_zero, List.getD_cons_succ, List.getD_nil, q3]
        · skip
          simp only [upd_at, upd_none, reduceIte, Nat.reduceEqDiff, args0, List.getD_cons_zero, List.getD_cons_succ, List.getD_nil, q4]
        · skip
          simp only [upd_at, upd_none, reduceIte, Nat.reduceEqDiff, args0, List.getD_cons_zero, List.getD_cons_succ, List.getD_nil]
        · skip
          simp only [upd_at, upd_none, reduceIte, Nat.reduceEqDiff, args0, List.getD_cons_zero, List.getD_cons_succ, List.getD_nil, Int.ofNat_zero]
          try rfl
      · intro i hi
        repeat (first | exact hg i hi | exact args0_un (Nat.le_of_ble_eq_true rfl) i hi | refine upd_un ?_ rfl i hi; clear i hi; intro i hi)
      clear q1 q3 q4 hg g
      rintro k g m3 ⟨kk, hkk, rfl, q1, q3, q4, q5, q6, rfl⟩ hg
      repeat (first
        | ((first | refine W_op rfl rfl ?_ | (refine W_opgT rfl rfl ?hg ?_; (case hg => (simp only [WG, reduceIte, Nat.reduceEqDiff]; done)))); simp only [WB, execE, unE, args0, reduceIte, Nat.reduceEqDiff, Nat.reduceAdd, Nat.reduceLeDiff, q5, q6, gd, ↓hlenK, binE, isShift, intBin, WO, fillX, splice, Wo_some])
        | (refine W_opgF rfl rfl ?hg ?_; (case hg => (simp only [WG, reduceIte, Nat.reduceEqDiff]; done)))
        | (refine W_opgU rfl ?hg ?_; (case hg => (simp only [upd_at, reduceIte, Nat.reduceEqDiff]; done))) | (refine W_callN rfl ?hg ?_; (case hg => (simp only [WG, reduceIte, Nat.reduceEqDiff]; done))) | rw [W_seq] | rw [W_reg] | rw [push_no] | rw [push_yes] | rw [W_onil] | rw [W_skip] | rw [W_blk] | rw [W_b] | refine W_regd0 ?_ | refine W_regd ?_)
      refine W_cond ?_
      simp only [WB, execE, unE, args0, reduceIte, Nat.reduceEqDiff, Nat.reduceAdd, Nat.reduceLeDiff]
      refine WC_split (fun ht => ?_) (fun hf => ?_)
      · have hlt2 : kk < d.kl.length := by simpa using ht
        obtain ⟨x, hx⟩ : ∃ x, d.kl[kk]? = some x := ⟨_, List.getElem?_eq_getElem hlt2⟩
        obtain ⟨j2, o2', cap2, ex2, c2, wr2, es2, hkv, hj2, hg2, hck2⟩ := (hdo.kids.keep0 kk2).full (by omega)
        have hcx : c2[o2' + kk]? = some (.i .i64 x) := (hck2 kk (by omega)).trans (ints_get hx)
        rw [hkv] at gd
        obtain ⟨hx0, hx1⟩ := hkids i d hd x (List.mem_of_getElem? hx)
        obtain ⟨xn, rfl⟩ : ∃ xn : Nat, x = (xn : Int) := ⟨x.toNat, by omega⟩
        obtain ⟨dx, hdx⟩ : ∃ dx, D[xn]? = some dx := ⟨_, List.getElem?_eq_getElem (by omega)⟩
        have f1 : cv[ov + xn * 10 + 1]? = some (.i .i64 dx.fr) := by rw [Nat.add_assoc, hckv _ (by omega), flatF_get hdx (by omega)]; rfl
        have f2 : cv[ov + xn * 10 + 2]? = some (.i .i64 dx.to) := by rw [Nat.add_assoc, hckv _ (by omega), flatF_get hdx (by omega)]; rfl
        have hix2 : (0 ≤ (kk : Int) ∧ (kk : Int) < (d.kl.length : Int)) := ⟨by omega, by omega⟩
        have hix3 : (0 ≤ (xn : Int) ∧ (xn : Int) < (D.length : Int)) := ⟨hx0, hx1⟩
        have hwk : IntKind.i64.wrap ((kk : Int) + 1) = ((kk + 1 : Nat) : Int) := wr_i64 (n := (kk : Int) + 1) (by omega) (by omega)
        repeat' (first
          | ((first | refine W_op rfl rfl ?_ | (refine W_opgT rfl rfl ?hg ?_; (case hg => (simp only [WG, reduceIte, Nat.reduceEqDiff]; done)))); simp only [WB, execE, unE, args0, reduceIte, Nat.reduceEqDiff, Nat.reduceAdd, Nat.reduceLeDiff, q1, q5, q6, g2, gd, hgv2, hg2, hcx, f1, f2, hix2, hix3, hwk, Int.toNat_natCast, Nat.mul_one, binE, isShift, intBin, WO, fillX, splice, Wo_some])
          | (refine W_opgF rfl rfl ?hg ?_; (case hg => (simp only [WG, reduceIte, Nat.reduceEqDiff]; done)))
          | (refine W_opgU rfl ?hg ?_; (case hg => (simp only [WG, reduceIte, Nat.reduceEqDiff]; done)))
          | rw [W_seq] | rw [W_reg] | rw [push_no] | rw [push_yes] | rw [W_onil] | rw [W_skip] | rw [W_blk] | rw [W_b] | refine W_regd0 ?_ | refine W_regd ?_
          | (refine W_callN rfl ?hg ?_; (case hg => (simp only [WG, reduceIte, Nat.reduceEqDiff]; done)))
          | refine W_exit rfl ?_
          | (refine W_opgST rfl rfl ?hg ?_ ?_; (case hg => (simp only [WB, execE, unE, args0, reduceIte, Nat.reduceEqDiff, Nat.reduceAdd, Nat.reduceLeDiff, q1, q5, q6, g2, gd, hgv2, hg2, hcx, f1, f2, hix2, hix3, hwk, Int.toNat_natCast, Nat.mul_one, binE, isShift, intBin, WO, fillX, splice, toB_b]; done)); (all_goals (intro hc; simp only [WB, execE, unE, args0, reduceIte, Nat.reduceEqDiff, Nat.reduceAdd, Nat.reduceLeDiff, q1, q5, q6, g2, gd, hgv2, hg2, hcx, f1, f2, hix2, hix3, hwk, Int.toNat_natCast, Nat.mul_one, binE, isShift, intBin, WO, fillX, splice, toB_b] at hc; simp only [hc, WB, execE, unE, args0, reduceIte, Nat.reduceEqDiff, Nat.reduceAdd, Nat.reduceLeDiff, q1, q5, q6, g2, gd, hgv2, hg2, hcx, f1, f2, hix2, hix3, hwk, Int.toNat_natCast, Nat.mul_one, binE, isShift, intBin, WO, fillX, splice, Wo_some])))
          | (refine W_opgSF rfl rfl ?hg ?_ ?_; (case hg => (simp only [WB, execE, unE, args0, reduceIte, Nat.reduceEqDiff, Nat.reduceAdd, Nat.reduceLeDiff, q1, q5, q6, g2, gd, hgv2, hg2, hcx, f1, f2, hix2, hix3, hwk, Int.toNat_natCast, Nat.mul_one, binE, isShift, intBin, WO, fillX, splice, toB_b]; done)); (all_goals (intro hc; simp only [WB, execE, unE, args0, reduceIte, Nat.reduceEqDiff, Nat.reduceAdd, Nat.reduceLeDiff, q1, q5, q6, g2, gd, hgv2, hg2, hcx, f1, f2, hix2, hix3, hwk, Int.toNat_natCast, Nat.mul_one, binE, isShift, intBin, WO, fillX, splice, toB_b] at hc; simp only [hc, WB, execE, unE, args0, reduceIte, Nat.reduceEqDiff, Nat.reduceAdd, Nat.reduceLeDiff, q1, q5, q6, g2, gd, hgv2, hg2, hcx, f1, f2, hix2, hix3, hwk, Int.toNat_natCast, Nat.mul_one, binE, isShift, intBin, WO, fillX, splice, Wo_some])))
          | (refine W_cond ?_; simp only [WB, execE, unE, args0, reduceIte, Nat.reduceEqDiff, Nat.reduceAdd, Nat.reduceLeDiff, q1, q5, q6, g2, gd, hgv2, hg2, hcx, f1, f2, hix2, hix3, hwk, Int.toNat_natCast, Nat.mul_one, binE, isShift, intBin, WO, fillX, splice, WC]; first | (refine WC_split (fun hc => ?_) (fun hc => ?_) <;> (try simp only [hc])) | skip)
          )
        all_goals first
          | (refine W_getRet (by repeat (first | exact hg | exact args0_un (Nat.le_of_ble_eq_true rfl) | refine upd_un ?_ rfl)) ?_
             exact ⟨d2, _, rfl, ⟨_, rfl, nofun⟩, kk2.out⟩)
          | (refine W_j (by repeat (first | exact hg | exact args0_un (Nat.le_of_ble_eq_true rfl) | refine upd_un ?_ rfl)) ?_
             refine ⟨d.kl.length - (kk + 1), by omega, kk + 1, by omega, rfl, ?_, ?_, ?_, ?_, ?_, rfl⟩ <;> simp only [upd_at, upd_none, reduceIte, Nat.reduceEqDiff, args0, List.getD_cons_zero, List.getD_cons_succ, List.getD_nil, q1, q3, q4, q5])
      · refine W_exit rfl ?_
        refine W_j (by repeat (first | exact hg | exact args0_un (Nat.le_of_ble_eq_true rfl) | refine upd_un ?_ rfl)) ?_
        exact ⟨q1, q3, q4, q5, rfl⟩
    clear q1 q3 q4 hg g
    rintro g m3 ⟨q1, q3, q4, q5, rfl⟩ hg
    have hRt : ∀ (t : Nat) d', t < i + 1 → D[t]? = some d' → 0 ≤ d'.fr ∧ d'.fr ≤ d'.to ∧ d'.to ≤ 4096 := by
      intro t d' ht1 hd'
      by_cases h : t = i
      · subst h
        rw [hd] at hd'; cases hd'; exact hRd
      · exact hR t d' (by omega) hd'
    have hwg : IntKind.i64.wrap ((gr : Int) + 1) = ((gr + 1 : Nat) : Int) := wr_i64 (n := (gr : Int) + 1) (by omega) (by omega)
    by_cases h7 : d.k = 7
    case neg =>
      have c1 : (d.k == 7) = false := by simpa using h7
      repeat' (first
        | ((first | refine W_op rfl rfl ?_ | (refine W_opgT rfl rfl ?hg ?_; (case hg => (simp only [WG, reduceIte, Nat.reduceEqDiff]; done)))); simp only [WB, execE, unE, args0, reduceIte, Nat.reduceEqDiff, Nat.reduceAdd, Nat.reduceLeDiff, q3, q4, q5, gd, c1, hwi, binE, isShift, intBin, WO, fillX, splice, Wo_some])
        | (refine W_opgF rfl rfl ?hg ?_; (case hg => (simp only [WG, reduceIte, Nat.reduceEqDiff]; done)))
        | (refine W_opgU rfl ?hg ?_; (case hg => (simp only [WG, reduceIte, Nat.reduceEqDiff]; done)))
        | rw [W_seq] | rw [W_reg] | rw [push_no] | rw [push_yes] | rw [W_onil] | rw [W_skip] | rw [W_blk] | rw [W_b] | refine W_regd0 ?_ | refine W_regd ?_
        | (refine W_callN rfl ?hg ?_; (case hg => (simp only [WG, reduceIte, Nat.reduceEqDiff]; done)))
        | refine W_exit rfl ?_
        | (refine W_opgST rfl rfl ?hg ?_ ?_; (case hg => (simp only [WB, execE, unE, args0, reduceIte, Nat.reduceEqDiff, Nat.reduceAdd, Nat.reduceLeDiff, q3, q4, q5, gd, c1, hwi, binE, isShift, intBin, WO, fillX, splice, toB_b]; done)); (all_goals (intro hc; simp only [WB, execE, unE, args0, reduceIte, Nat.reduceEqDiff, Nat.reduceAdd, Nat.reduceLeDiff, q3, q4, q5, gd, c1, hwi, binE, isShift, intBin, WO, fillX, splice, toB_b] at hc; simp only [hc, WB, execE, unE, args0, reduceIte, Nat.reduceEqDiff, Nat.reduceAdd, Nat.reduceLeDiff, q3, q4, q5, gd, c1, hwi, binE, isShift, intBin, WO, fillX, splice, Wo_some])))
        | (refine W_opgSF rfl rfl ?hg ?_ ?_; (case hg => (simp only [WB, execE, unE, args0, reduceIte, Nat.reduceEqDiff, Nat.reduceAdd, Nat.reduceLeDiff, q3, q4, q5, gd, c1, hwi, binE, isShift, intBin, WO, fillX, splice, toB_b]; done)); (all_goals (intro hc; simp only [WB, execE, unE, args0, reduceIte, Nat.reduceEqDiff, Nat.reduceAdd, Nat.reduceLeDiff, q3, q4, q5, gd, c1, hwi, binE, isShift, intBin, WO, fillX, splice, toB_b] at hc; simp only [hc, WB, execE, unE, args0, reduceIte, Nat.reduceEqDiff, Nat.reduceAdd, Nat.reduceLeDiff, q3, q4, q5, gd, c1, hwi, binE, isShift, intBin, WO, fillX, splice, Wo_some])))
        | (refine W_cond ?_; simp only [WB, execE, unE, args0, reduceIte, Nat.reduceEqDiff, Nat.reduceAdd, Nat.reduceLeDiff, q3, q4, q5, gd, c1, hwi, binE, isShift, intBin, WO, fillX, splice, WC]; first | (refine WC_split (fun hc => ?_) (fun hc => ?_) <;> (try simp only [hc])) | skip)
        )
      all_goals first
        | (refine W_getRet (by repeat (first | exact hg | exact args0_un (Nat.le_of_ble_eq_true rfl) | refine upd_un ?_ rfl)) ?_
           exact trivial)
        | (refine W_j (by repeat (first | exact hg | exact args0_un (Nat.le_of_ble_eq_true rfl) | refine upd_un ?_ rfl)) ?_
           refine ⟨D.length - (i + 1), by omega, i + 1, gr, by omega, rfl, ?_, ?_, ?_, hgr, hRt, kk2, g2, n2, d2⟩ <;> simp only [upd_at, upd_none, reduceIte, Nat.reduceEqDiff, args0, List.getD_cons_zero, List.getD_cons_succ, List.getD_nil, q1, q3, q4])
    have c1 : (d.k == 7) = true := by simpa using h7
    by_cases hle : gr + 1 ≤ NS.length - 1
    · have c2 : decide (((gr + 1 : Nat) : Int) > ((NS.length - 1 : Nat) : Int)) = false := decide_eq_false (by omega)
      obtain ⟨s1, hs1⟩ := hname (gr + 1) (by omega)
      have hixn : (0 ≤ ((gr + 1 : Nat) : Int) ∧ ((gr + 1 : Nat) : Int) < (NS.length : Int)) := ⟨by omega, by omega⟩
      have hne := neS s1 d.nm
      repeat' (first
        | ((first | refine W_op rfl rfl ?_ | (refine W_opgT rfl rfl ?hg ?_; (case hg => (simp only [WG, reduceIte, Nat.reduceEqDiff]; done)))); simp only [WB, execE, unE, args0, reduceIte, Nat.reduceEqDiff, Nat.reduceAdd, Nat.reduceLeDiff, q1, q3, q4, q5, g2, gd, hgn2, hs1, hixn, hne, c1, c2, hwg, hwi, Int.toNat_natCast, Nat.mul_one, binE, isShift, intBin, WO, fillX, splice, Wo_some])
        | (refine W_opgF rfl rfl ?hg ?_; (case hg => (simp only [WG, reduceIte, Nat.reduceEqDiff]; done)))
        | (refine W_opgU rfl ?hg ?_; (case hg => (simp only [WG, reduceIte, Nat.reduceEqDiff]; done)))
        | rw [W_seq] | rw [W_reg] | rw [push_no] | rw [push_yes] | rw [W_onil] | rw [W_skip] | rw [W_blk] | rw [W_b] | refine W_regd0 ?_ | refine W_regd ?_
        | (refine W_callN rfl ?hg ?_; (case hg => (simp only [WG, reduceIte, Nat.reduceEqDiff]; done)))
        | refine W_exit rfl ?_
        | (refine W_opgST rfl rfl ?hg ?_ ?_; (case hg => (simp only [WB, execE, unE, args0, reduceIte, Nat.reduceEqDiff, Nat.reduceAdd, Nat.reduceLeDiff, q1, q3, q4, q5, g2, gd, hgn2, hs1, hixn, hne, c1, c2, hwg, hwi, Int.toNat_natCast, Nat.mul_one, binE, isShift, intBin, WO, fillX, splice, toB_b]; done)); (all_goals (intro hc; simp only [WB, execE, unE, args0, reduceIte, Nat.reduceEqDiff, Nat.reduceAdd, Nat.reduceLeDiff, q1, q3, q4, q5, g2, gd, hgn2, hs1, hixn, hne, c1, c2, hwg, hwi, Int.toNat_natCast, Nat.mul_one, binE, isShift, intBin, WO, fillX, splice, toB_b] at hc; simp only [hc, WB, execE, unE, args0, reduceIte, Nat.reduceEqDiff, Nat.reduceAdd, Nat.reduceLeDiff, q1, q3, q4, q5, g2, gd, hgn2, hs1, hixn, hne, c1, c2, hwg, hwi, Int.toNat_natCast, Nat.mul_one, binE, isShift, intBin, WO, fillX, splice, Wo_some])))
        | (refine W_opgSF rfl rfl ?hg ?_ ?_; (case hg => (simp only [WB, execE, unE, args0, reduceIte, Nat.reduceEqDiff, Nat.reduceAdd, Nat.reduceLeDiff, q1, q3, q4, q5, g2, gd, hgn2, hs1, hixn, hne, c1, c2, hwg, hwi, Int.toNat_natCast, Nat.mul_one, binE, isShift, intBin, WO, fillX, splice, toB_b]; done)); (all_goals (intro hc; simp only [WB, execE, unE, args0, reduceIte, Nat.reduceEqDiff, Nat.reduceAdd, Nat.reduceLeDiff, q1, q3, q4, q5, g2, gd, hgn2, hs1, hixn, hne, c1, c2, hwg, hwi, Int.toNat_natCast, Nat.mul_one, binE, isShift, intBin, WO, fillX, splice, toB_b] at hc; simp only [hc, WB, execE, unE, args0, reduceIte, Nat.reduceEqDiff, Nat.reduceAdd, Nat.reduceLeDiff, q1, q3, q4, q5, g2, gd, hgn2, hs1, hixn, hne, c1, c2, hwg, hwi, Int.toNat_natCast, Nat.mul_one, binE, isShift, intBin, WO, fillX, splice, Wo_some])))
        | (refine W_cond ?_; simp only [WB, execE, unE, args0, reduceIte, Nat.reduceEqDiff, Nat.reduceAdd, Nat.reduceLeDiff, q1, q3, q4, q5, g2, gd, hgn2, hs1, hixn, hne, c1, c2, hwg, hwi, Int.toNat_natCast, Nat.mul_one, binE, isShift, intBin, WO, fillX, splice, WC]; first | (refine WC_split (fun hc => ?_) (fun hc => ?_) <;> (try simp only [hc])) | skip)
        )
      all_goals first
        | (refine W_getRet (by repeat (first | exact hg | exact args0_un (Nat.le_of_ble_eq_true rfl) | refine upd_un ?_ rfl)) ?_
           exact ⟨d2, _, rfl, ⟨_, rfl, nofun⟩, kk2.out⟩)
        | (refine W_j (by repeat (first | exact hg | exact args0_un (Nat.le_of_ble_eq_true rfl) | refine upd_un ?_ rfl)) ?_
           refine ⟨D.length - (i + 1), by omega, i + 1, gr + 1, by omega, rfl, ?_, ?_, ?_, hle, hRt, kk2, g2, n2, d2⟩ <;> simp only [upd_at, upd_none, reduceIte, Nat.reduceEqDiff, args0, List.getD_cons_zero, List.getD_cons_succ, List.getD_nil, q1, q3, q4])
    · have c2 : decide (((gr + 1 : Nat) : Int) > ((NS.length - 1 : Nat) : Int)) = true := decide_eq_true (by omega)
      repeat' (first
        | ((first | refine W_op rfl rfl ?_ | (refine W_opgT rfl rfl ?hg ?_; (case hg => (simp only [WG, reduceIte, Nat.reduceEqDiff]; done)))); simp only [WB, execE, unE, args0, reduceIte, Nat.reduceEqDiff, Nat.reduceAdd, Nat.reduceLeDiff, q1, q3, q4, q5, g2, gd, c1, c2, hwg, hwi, binE, isShift, intBin, WO, fillX, splice, Wo_some])
        | (refine W_opgF rfl rfl ?hg ?_; (case hg => (simp only [WG, reduceIte, Nat.reduceEqDiff]; done)))
        | (refine W_opgU rfl ?hg ?_; (case hg => (simp only [WG, reduceIte, Nat.reduceEqDiff]; done)))
        | rw [W_seq] | rw [W_reg] | rw [push_no] | rw [push_yes] | rw [W_onil] | rw [W_skip] | rw [W_blk] | rw [W_b] | refine W_regd0 ?_ | refine W_regd ?_
        | (refine W_callN rfl ?hg ?_; (case hg => (simp only [WG, reduceIte, Nat.reduceEqDiff]; done)))
        | refine W_exit rfl ?_
        | (refine W_opgST rfl rfl ?hg ?_ ?_; (case hg => (simp only [WB, execE, unE, args0, reduceIte, Nat.reduceEqDiff, Nat.reduceAdd, Nat.reduceLeDiff, q1, q3, q4, q5, g2, gd, c1, c2, hwg, hwi, binE, isShift, intBin, WO, fillX, splice, toB_b]; done)); (all_goals (intro hc; simp only [WB, execE, unE, args0, reduceIte, Nat.reduceEqDiff, Nat.reduceAdd, Nat.reduceLeDiff, q1, q3, q4, q5, g2, gd, c1, c2, hwg, hwi, binE, isShift, intBin, WO, fillX, splice, toB_b] at hc; simp only [hc, WB, execE, unE, args0, reduceIte, Nat.reduceEqDiff, Nat.reduceAdd, Nat.reduceLeDiff, q1, q3, q4, q5, g2, gd, c1, c2, hwg, hwi, binE, isShift, intBin, WO, fillX, splice, Wo_some])))
        | (refine W_opgSF rfl rfl ?hg ?_ ?_; (case hg => (simp only [WB, execE, unE, args0, reduceIte, Nat.reduceEqDiff, Nat.reduceAdd, Nat.reduceLeDiff, q1, q3, q4, q5, g2, gd, c1, c2, hwg, hwi, binE, isShift, intBin, WO, fillX, splice, toB_b]; done)); (all_goals (intro hc; simp only [WB, execE, unE, args0, reduceIte, Nat.reduceEqDiff, Nat.reduceAdd, Nat.reduceLeDiff, q1, q3, q4, q5, g2, gd, c1, c2, hwg, hwi, binE, isShift, intBin, WO, fillX, splice, toB_b] at hc; simp only [hc, WB, execE, unE, args0, reduceIte, Nat.reduceEqDiff, Nat.reduceAdd, Nat.reduceLeDiff, q1, q3, q4, q5, g2, gd, c1, c2, hwg, hwi, binE, isShift, intBin, WO, fillX, splice, Wo_some])))
        | (refine W_cond ?_; simp only [WB, execE, unE, args0, reduceIte, Nat.reduceEqDiff, Nat.reduceAdd, Nat.reduceLeDiff, q1, q3, q4, q5, g2, gd, c1, c2, hwg, hwi, binE, isShift, intBin, WO, fillX, splice, WC]; first | (refine WC_split (fun hc => ?_) (fun hc => ?_) <;> (try simp only [hc])) | skip)
        )
      all_goals first
        | (refine W_getRet (by repeat (first | exact hg | exact args0_un (Nat.le_of_ble_eq_true rfl) | refine upd_un ?_ rfl)) ?_
           exact ⟨d2, _, rfl, ⟨_, rfl, nofun⟩, kk2.out⟩)
        | (refine W_j (by repeat (first | exact hg | exact args0_un (Nat.le_of_ble_eq_true rfl) | refine upd_un ?_ rfl)) ?_
           refine trivial <;> simp only [upd_at, upd_none, reduceIte, Nat.reduceEqDiff, args0, List.getD_cons_zero, List.getD_cons_succ, List.getD_nil])
  · refine W_exit rfl ?_
    repeat (first
      | ((first | refine W_op rfl rfl ?_ | (refine W_opgT rfl rfl ?hg ?_; (case hg => (simp only [WG, reduceIte, Nat.reduceEqDiff]; done)))); simp only [WB, execE, unE, args0, reduceIte, Nat.reduceEqDiff, Nat.reduceAdd, Nat.reduceLeDiff, q1, q3, g1, binE, isShift, intBin, WO, fillX, splice, Wo_some])
      | (refine W_opgF rfl rfl ?hg ?_; (case hg => (simp only [WG, reduceIte, Nat.reduceEqDiff]; done)))
      | (refine W_opgU rfl ?hg ?_; (case hg => (simp only [upd_at, reduceIte, Nat.reduceEqDiff]; done))) | (refine W_callN rfl ?hg ?_; (case hg => (simp only [WG, reduceIte, Nat.reduceEqDiff]; done))) | rw [W_seq] | rw [W_reg] | rw [push_no] | rw [push_yes] | rw [W_onil] | rw [W_skip] | rw [W_blk] | rw [W_b] | refine W_regd0 ?_ | refine W_regd ?_)
    refine W_getRet (by repeat (first | exact hg | exact args0_un (Nat.le_of_ble_eq_true rfl) | refine upd_un ?_ rfl)) ?_
    refine ⟨d1, _, rfl, ⟨_, rfl, fun _ d hd => ?_⟩, k1.out⟩
    obtain ⟨t, ht⟩ := List.getElem?_of_mem hd
    have := (List.getElem?_eq_some_iff.1 ht).1
    exact hR t d (by simp at hf; omega) ht
end Go.Proofs.YtdmoecehmclohaaGreatDoor
