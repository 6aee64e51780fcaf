/- Points, and a session's: which may be, which are there, one more. No condition. -/
import Derived.Test.YtjlckbphpmogjaaGreatDoorSpPW
import Derived.Test.YtjlckbphpmogjaaGreatDoorSpViFx
import Derived.Test.YtjlckbphpmogjaaGreatDoorSpViGlob
namespace Go.Proofs.YtjlckbphpmogjaaGreatDoor
open Go.Vi
set_option linter.unusedSimpArgs false
set_option linter.unusedVariables false

def prt (nN nG w a : Int) : Bool := decide ((w = 1 ∧ 0 ≤ a ∧ a ≤ nN - 1) ∨ (w = 2 ∧ 0 ≤ a ∧ a ≤ 65536) ∨ (w = 3 ∧ 1 ≤ a ∧ a ≤ 14) ∨ (w = 4 ∧ 0 ≤ a ∧ a ≤ nG) ∨ (w = 5 ∧ 1 ≤ a ∧ a ≤ 65536))

theorem call33 {m : AMem} (w a nG : Int) (aT : Option (Nat × Nat)) (nN cN : Nat) (eN : Bool) (nm : AV) (hn : nm.one = true) (hN : nN ≤ 100000) : Vi.Call T 33 [.agg [.i .i64 w, .i .i64 a], .agg [.sl aT nN cN eN, .i .i64 nG, nm]] m (fun v m' => v = .b (prt nN nG w a) ∧ Keep m m' []) := by
  refine Vi.Call.ofP T33 (Nat.le_of_ble_eq_true rfl) ?_
  unfold v33
  have hw : IntKind.i64.wrap ((nN : Int) - 1) = (nN : Int) - 1 := wr_i64 (by omega) (by omega)
  repeat' (first
    | ((first | refine W_op rfl rfl ?_ | (refine W_opgT rfl rfl ?hg ?_; (case hg => (simp only [upd_at, reduceIte, Nat.reduceEqDiff, Bool.not_true, Bool.not_false]; done)))); simp only [WB, execE, unE, args0, reduceIte, Nat.reduceEqDiff, Nat.reduceAdd, Nat.reduceLeDiff, binE, isShift, intBin, hn, hw, WO, fillX, splice, Wo_some])
    | (refine W_opgF rfl rfl ?hg ?_; (case hg => (simp only [upd_at, reduceIte, Nat.reduceEqDiff, Bool.not_true, Bool.not_false]; done)))
    | (refine W_opgU rfl ?hg ?_; (case hg => (simp only [upd_at, reduceIte, Nat.reduceEqDiff, Bool.not_true, Bool.not_false]; done)))
    | rw [W_seq] | rw [W_reg] | rw [push_no] | rw [push_yes] | rw [W_onil] | rw [W_skip] | rw [W_blk] | rw [W_b] | refine W_regd0 ?_ | refine W_regd ?_
    | (refine W_callN rfl ?hg ?_; (case hg => (simp only [upd_at, reduceIte, Nat.reduceEqDiff, Bool.not_true, Bool.not_false]; done)))
    | (refine W_callA rfl (by simp only [WB, execE, unE, args0, reduceIte, Nat.reduceEqDiff, Nat.reduceAdd, Nat.reduceLeDiff, binE, isShift, intBin, hn, hw, WO, fillX, splice] <;> exact rfl) (call75 _ _ _) ?_; rintro _ _ ⟨rfl, rfl⟩ _)
    | (refine W_callK rfl ?hg (by simp only [WB, execE, unE, args0, reduceIte, Nat.reduceEqDiff, Nat.reduceAdd, Nat.reduceLeDiff, binE, isShift, intBin, hn, hw, WO, fillX, splice] <;> exact rfl) (call75 _ _ _) ?_; (case hg => (simp only [upd_at, reduceIte, Nat.reduceEqDiff, Bool.not_true, Bool.not_false]; done)); rintro _ _ ⟨rfl, rfl⟩ _)
    | (refine W_callGT rfl ?hg (by simp only [WB, execE, unE, args0, reduceIte, Nat.reduceEqDiff, Nat.reduceAdd, Nat.reduceLeDiff, binE, isShift, intBin, hn, hw, WO, fillX, splice] <;> exact rfl) (call75 _ _ _) ?h1 ?h2; (case hg => (simp only [WB, execE, unE, args0, reduceIte, Nat.reduceEqDiff, Nat.reduceAdd, Nat.reduceLeDiff, binE, isShift, intBin, hn, hw, WO, fillX, splice, toB_b]; done)); (all_goals (intro hc; simp only [WB, execE, unE, args0, reduceIte, Nat.reduceEqDiff, Nat.reduceAdd, Nat.reduceLeDiff, binE, isShift, intBin, hn, hw, WO, fillX, splice, toB_b] at hc; first | (rintro _ _ ⟨rfl, rfl⟩ _; (try simp only [hc])) | (try simp only [hc]))))
    | (refine W_callGF rfl ?hg (by simp only [WB, execE, unE, args0, reduceIte, Nat.reduceEqDiff, Nat.reduceAdd, Nat.reduceLeDiff, binE, isShift, intBin, hn, hw, WO, fillX, splice] <;> exact rfl) (call75 _ _ _) ?h2 ?h1; (case hg => (simp only [WB, execE, unE, args0, reduceIte, Nat.reduceEqDiff, Nat.reduceAdd, Nat.reduceLeDiff, binE, isShift, intBin, hn, hw, WO, fillX, splice, toB_b]; done)); (all_goals (intro hc; simp only [WB, execE, unE, args0, reduceIte, Nat.reduceEqDiff, Nat.reduceAdd, Nat.reduceLeDiff, binE, isShift, intBin, hn, hw, WO, fillX, splice, toB_b] at hc; first | (rintro _ _ ⟨rfl, rfl⟩ _; (try simp only [hc])) | (try simp only [hc]))))
    | refine W_exit rfl ?_
    | (refine W_opgST rfl rfl ?hg ?h1 ?h2; (case hg => (simp only [WB, execE, unE, args0, reduceIte, Nat.reduceEqDiff, Nat.reduceAdd, Nat.reduceLeDiff, binE, isShift, intBin, hn, hw, WO, fillX, splice, toB_b]; done)); (all_goals (intro hc; simp only [WB, execE, unE, args0, reduceIte, Nat.reduceEqDiff, Nat.reduceAdd, Nat.reduceLeDiff, binE, isShift, intBin, hn, hw, WO, fillX, splice, toB_b] at hc; simp only [hc, WB, execE, unE, args0, reduceIte, Nat.reduceEqDiff, Nat.reduceAdd, Nat.reduceLeDiff, binE, isShift, intBin, hn, hw, WO, fillX, splice, Wo_some])))
    | (refine W_opgSF rfl rfl ?hg ?h1 ?h2; (case hg => (simp only [WB, execE, unE, args0, reduceIte, Nat.reduceEqDiff, Nat.reduceAdd, Nat.reduceLeDiff, binE, isShift, intBin, hn, hw, WO, fillX, splice, toB_b]; done)); (all_goals (intro hc; simp only [WB, execE, unE, args0, reduceIte, Nat.reduceEqDiff, Nat.reduceAdd, Nat.reduceLeDiff, binE, isShift, intBin, hn, hw, WO, fillX, splice, toB_b] at hc; simp only [hc, WB, execE, unE, args0, reduceIte, Nat.reduceEqDiff, Nat.reduceAdd, Nat.reduceLeDiff, binE, isShift, intBin, hn, hw, WO, fillX, splice, Wo_some])))
    | (refine W_cond ?_; simp only [WB, execE, unE, args0, reduceIte, Nat.reduceEqDiff, Nat.reduceAdd, Nat.reduceLeDiff, binE, isShift, intBin, hn, hw, WO, fillX, splice, WC]; first | (refine WC_split (fun hc => ?_) (fun hc => ?_) <;> (try simp only [hc])) | skip)
    )
  all_goals refine W_getRet (by repeat (first | exact hg | exact args0_un (Nat.le_of_ble_eq_true rfl) | refine upd_un ?_ rfl)) ?_
  all_goals refine ⟨rfl, _, rfl, congrArg AV.b ?_, (((Keep.inn m).trans (Keep.new _ _) (by simp)).trans (Keep.new _ _) (by simp)).out⟩
  all_goals (rw [Bool.eq_iff_iff]; simp only [prt, decide_eq_true_eq, decide_eq_false_iff_not, Bool.false_eq_true, false_iff, beq_iff_eq, beq_eq_false_iff_ne, ne_eq] at *; omega)

theorem eqC2 (a b c d : Int) : eqCells [.i .i64 a, .i .i64 b] [.i .i64 c, .i .i64 d] [(0, .i), (1, .i)] = some (decide ((a, b) = (c, d))) := by
  cases h1 : (a == c) <;> cases h2 : (b == d) <;> simp only [eqCells, eqScalar, List.getElem?_cons_zero, List.getElem?_cons_succ, if_true, h1, h2, Option.some.injEq] <;> simp_all

theorem call76 {m : AMem} {av : AV} {n : Nat} {L : List (Int × Int)} (h : Arr m 2 av n (flat2 L)) (hn : L.length = n) (hn64 : n ≤ 100000) (w a : Int) :
    Vi.Call T 76 [av, .agg [.i .i64 w, .i .i64 a]] m (fun v m' => (∃ r : Int, v = .i .i64 r ∧ (0 ≤ r ↔ (w, a) ∈ L)) ∧ Keep m m' []) := by
  refine Vi.Call.ofP T76 (Nat.le_of_ble_eq_true rfl) ?_
  unfold v76
  have hlen := h.lenF
  repeat (first
    | ((first | refine W_op rfl rfl ?_ | (refine W_opgT rfl rfl ?hg ?_; (case hg => (simp only [upd_at, reduceIte, Nat.reduceEqDiff, Bool.not_true, Bool.not_false]; done)))); simp only [WB, execE, unE, args0, reduceIte, Nat.reduceEqDiff, Nat.reduceAdd, Nat.reduceLeDiff, cells_agg, List.all_cons, List.all_nil, AV.one, Bool.and_self, ↓hlen, Wo_some])
    | (refine W_opgF rfl rfl ?hg ?_; (case hg => (simp only [upd_at, reduceIte, Nat.reduceEqDiff, Bool.not_true, Bool.not_false]; done)))
    | rw [W_seq] | rw [W_reg] | rw [push_no] | rw [W_onil] | rw [W_skip] | rw [W_blk] | rw [W_b] | refine W_regd0 ?_)
  obtain ⟨mB, hmB, kB, dB, bB⟩ : ∃ mB : AMem, mB = m.inn.new (.cells [.i .i64 w, .i .i64 a] true (2 : Nat)) ∧ Keep m mB [] ∧ mB.ds = [] ∧ rd mB m.next 0 2 = some [.i .i64 w, .i .i64 a] :=
    ⟨_, rfl, (Keep.new m.inn _).ofInn, rfl, rd_new m.inn _ _ _ rfl⟩
  rw [← hmB]
  clear hmB
  refine W_loop (fun k g' m' => ∃ i : Nat, i ≤ n ∧ k = n - i ∧ g' 0 = av ∧ g' 3 = .p (some (m.next, 0)) ∧ g' 7 = .i .i64 n ∧ g' 8 = .i .i64 i ∧ m' = mB ∧ (w, a) ∉ L.take i) n ?_ ?_ ?_
  · refine ⟨0, Nat.zero_le _, rfl, ?_, ?_, ?_, ?_, rfl, by simp⟩
    · skip
      simp only [upd_at, upd_none, reduceIte, Nat.reduceEqDiff, args0, List.getD_cons_zero, List.getD_cons_succ, List.getD_nil]
    · skip
      simp only [upd_at, upd_none, reduceIte, Nat.reduceEqDiff, args0, List.getD_cons_zero, List.getD_cons_succ, List.getD_nil]
    · skip
      simp only [upd_at, upd_none, reduceIte, Nat.reduceEqDiff, args0, List.getD_cons_zero, List.getD_cons_succ, List.getD_nil]
    · skip
      simp only [upd_at, upd_none, reduceIte, Nat.reduceEqDiff, args0, List.getD_cons_zero, List.getD_cons_succ, List.getD_nil, Int.ofNat_zero]
      try rfl
  · intro i hi
    repeat (first | exact args0_un (Nat.le_of_ble_eq_true rfl) i hi | refine upd_un ?_ rfl i hi; clear i hi; intro i hi)
  · rintro k g m' ⟨i, hi, rfl, q0, q3, q7, q8, rfl, hnot⟩ hg
    repeat (first
      | ((first | refine W_op rfl rfl ?_ | (refine W_opgT rfl rfl ?hg ?_; (case hg => (simp only [upd_at, reduceIte, Nat.reduceEqDiff, Bool.not_true, Bool.not_false]; done)))); simp only [WB, execE, unE, args0, reduceIte, Nat.reduceEqDiff, Nat.reduceAdd, Nat.reduceLeDiff, q7, q8, binE, isShift, intBin, Wo_some])
      | (refine W_opgF rfl rfl ?hg ?_; (case hg => (simp only [upd_at, reduceIte, Nat.reduceEqDiff, Bool.not_true, Bool.not_false]; done)))
      | rw [W_seq] | rw [W_reg] | rw [push_no] | rw [W_onil] | rw [W_skip] | rw [W_blk] | rw [W_b] | refine W_regd0 ?_)
    refine W_cond ?_
    simp only [WB, execE, unE, args0, reduceIte, Nat.reduceEqDiff, Nat.reduceAdd, Nat.reduceLeDiff]
    refine WC_split (fun ht => ?_) (fun hf => ?_)
    · have hlt : i < n := by simpa using ht
      obtain ⟨j, o, cap, ex, rfl, hj, hr⟩ := (h.keep0 kB).rdE hlt
      obtain ⟨p, hp⟩ : ∃ p, L[i]? = some p := ⟨_, List.getElem?_eq_getElem (by omega)⟩
      rw [flat2_at hp] at hr
      have hix : (0 ≤ (i : Int) ∧ (i : Int) < (n : Int)) := ⟨by omega, by omega⟩
      have hw : IntKind.i64.wrap ((i : Int) + 1) = ((i + 1 : Nat) : Int) := wr_i64 (n := (i : Int) + 1) (by omega) (by omega)
      have hsn : L.take (i + 1) = L.take i ++ [p] := by rw [List.take_add_one, hp]; rfl
      repeat (first
        | ((first | refine W_op rfl rfl ?_ | (refine W_opgT rfl rfl ?hg ?_; (case hg => (simp only [upd_at, reduceIte, Nat.reduceEqDiff, Bool.not_true, Bool.not_false]; done)))); simp only [WB, execE, unE, args0, reduceIte, Nat.reduceEqDiff, Nat.reduceAdd, Nat.reduceLeDiff, q0, q3, q7, q8, hix, Int.toNat_natCast, bB, hr, eqC2, binE, isShift, intBin, Wo_some])
        | (refine W_opgF rfl rfl ?hg ?_; (case hg => (simp only [upd_at, reduceIte, Nat.reduceEqDiff, Bool.not_true, Bool.not_false]; done)))
        | rw [W_seq] | rw [W_reg] | rw [push_no] | rw [W_onil] | rw [W_skip] | rw [W_blk] | rw [W_b] | refine W_regd0 ?_)
      cases hA : decide ((w, a) = (p.1, p.2))
      · skip
        refine W_cond ?_
        simp only [WB, execE, unE, args0, reduceIte, Nat.reduceEqDiff, Nat.reduceAdd, Nat.reduceLeDiff, WC]
        repeat (first
          | ((first | refine W_op rfl rfl ?_ | (refine W_opgT rfl rfl ?hg ?_; (case hg => (simp only [upd_at, reduceIte, Nat.reduceEqDiff, Bool.not_true, Bool.not_false]; done)))); simp only [WB, execE, unE, args0, reduceIte, Nat.reduceEqDiff, Nat.reduceAdd, Nat.reduceLeDiff, q8, hw, binE, isShift, intBin, Wo_some])
          | (refine W_opgF rfl rfl ?hg ?_; (case hg => (simp only [upd_at, reduceIte, Nat.reduceEqDiff, Bool.not_true, Bool.not_false]; done)))
          | rw [W_seq] | rw [W_reg] | rw [push_no] | rw [W_onil] | rw [W_skip] | rw [W_blk] | rw [W_b] | refine W_regd0 ?_)
        refine W_j (by repeat (first | exact hg | exact args0_un (Nat.le_of_ble_eq_true rfl) | refine upd_un ?_ rfl)) ?_
        refine ⟨n - (i + 1), by omega, i + 1, by omega, rfl, ?_, ?_, ?_, ?_, rfl, ?_⟩
        · skip
          simp only [upd_at, upd_none, reduceIte, Nat.reduceEqDiff, args0, List.getD_cons_zero, List.getD_cons_succ, List.getD_nil, q0]
        · skip
          simp only [upd_at, upd_none, reduceIte, Nat.reduceEqDiff, args0, List.getD_cons_zero, List.getD_cons_succ, List.getD_nil, q3]
        · skip
          simp only [upd_at, upd_none, reduceIte, Nat.reduceEqDiff, args0, List.getD_cons_zero, List.getD_cons_succ, List.getD_nil, q7]
        · skip
          simp only [upd_at, upd_none, reduceIte, Nat.reduceEqDiff, args0, List.getD_cons_zero, List.getD_cons_succ, List.getD_nil]
        · rw [hsn, List.mem_append, not_or]
          refine ⟨hnot, fun hm => ?_⟩
          simp only [List.mem_cons, List.not_mem_nil, or_false] at hm
          simp [hm] at hA
      · skip
        refine W_cond ?_
        simp only [WB, execE, unE, args0, reduceIte, Nat.reduceEqDiff, Nat.reduceAdd, Nat.reduceLeDiff, WC]
        repeat (first
          | ((first | refine W_op rfl rfl ?_ | (refine W_opgT rfl rfl ?hg ?_; (case hg => (simp only [upd_at, reduceIte, Nat.reduceEqDiff, Bool.not_true, Bool.not_false]; done)))); simp only [WB, execE, unE, args0, reduceIte, Nat.reduceEqDiff, Nat.reduceAdd, Nat.reduceLeDiff, q8, Wo_some])
          | (refine W_opgF rfl rfl ?hg ?_; (case hg => (simp only [upd_at, reduceIte, Nat.reduceEqDiff, Bool.not_true, Bool.not_false]; done)))
          | rw [W_seq] | rw [W_reg] | rw [push_no] | rw [W_onil] | rw [W_skip] | rw [W_blk] | rw [W_b] | refine W_regd0 ?_)
        refine W_getRet (by repeat (first | exact hg | exact args0_un (Nat.le_of_ble_eq_true rfl) | refine upd_un ?_ rfl)) ?_
        refine ⟨dB, _, rfl, ⟨i, rfl, ?_⟩, kB.out⟩
        have : (w, a) = p := of_decide_eq_true hA
        exact ⟨fun _ => this ▸ List.mem_of_getElem? hp, fun _ => by omega⟩
    · refine W_exit rfl ?_
      have hie : i = n := by simp at hf; omega
      subst hie
      rw [← hn, List.take_length] at hnot
      repeat (first
        | ((first | refine W_op rfl rfl ?_ | (refine W_opgT rfl rfl ?hg ?_; (case hg => (simp only [upd_at, reduceIte, Nat.reduceEqDiff, Bool.not_true, Bool.not_false]; done)))); simp only [WB, execE, unE, args0, reduceIte, Nat.reduceEqDiff, Nat.reduceAdd, Nat.reduceLeDiff, Wo_some])
        | (refine W_opgF rfl rfl ?hg ?_; (case hg => (simp only [upd_at, reduceIte, Nat.reduceEqDiff, Bool.not_true, Bool.not_false]; done)))
        | rw [W_seq] | rw [W_reg] | rw [push_no] | rw [W_onil] | rw [W_skip] | rw [W_blk] | rw [W_b] | refine W_regd0 ?_)
      refine W_getRet (by repeat (first | exact hg | exact args0_un (Nat.le_of_ble_eq_true rfl) | refine upd_un ?_ rfl)) ?_
      exact ⟨dB, _, rfl, ⟨-1, rfl, by simp [hnot]⟩, kB.out⟩

theorem call34 {m : AMem} {av : AV} {n : Nat} {L : List (Int × Int)} (h : Arr m 2 av n (flat2 L)) (hn : L.length = n) (hn64 : n ≤ 100000) (w a : Int) :
    Vi.Call T 34 [av, .agg [.i .i64 w, .i .i64 a]] m (fun v m' => v = .b (decide ((w, a) ∈ L)) ∧ Keep m m' []) := by
  refine Vi.Call.ofP T34 (Nat.le_of_ble_eq_true rfl) ?_
  unfold v34
  have bB := rd_new m.inn [.i .i64 w, .i .i64 a] true (2 : Nat) (n := 2) rfl
  simp only [AMem.next_inn] at bB
  repeat (first
    | ((first | refine W_op rfl rfl ?_ | (refine W_opgT rfl rfl ?hg ?_; (case hg => (simp only [upd_at, reduceIte, Nat.reduceEqDiff, Bool.not_true, Bool.not_false]; done)))); simp only [WB, execE, unE, args0, reduceIte, Nat.reduceEqDiff, Nat.reduceAdd, Nat.reduceLeDiff, cells_agg, List.all_cons, List.all_nil, AV.one, Bool.and_self, bB, Wo_some])
    | (refine W_opgF rfl rfl ?hg ?_; (case hg => (simp only [upd_at, reduceIte, Nat.reduceEqDiff, Bool.not_true, Bool.not_false]; done)))
    | rw [W_seq] | rw [W_reg] | rw [push_no] | rw [W_onil] | rw [W_skip] | rw [W_blk] | rw [W_b] | refine W_regd0 ?_)
  have kB : Keep m (m.inn.new (.cells [.i .i64 w, .i .i64 a] true (2 : Nat))) [] := (Keep.new m.inn _).ofInn
  refine W_callA rfl ?hargs (call76 (h.keep0 kB) hn hn64 w a) ?_
  case hargs => simp only [WB, execE, unE, args0, reduceIte, Nat.reduceEqDiff, Nat.reduceAdd, Nat.reduceLeDiff] <;> rfl
  rintro v m1 ⟨⟨r, rfl, hr⟩, k1⟩ hs1
  repeat (first
    | ((first | refine W_op rfl rfl ?_ | (refine W_opgT rfl rfl ?hg ?_; (case hg => (simp only [upd_at, reduceIte, Nat.reduceEqDiff, Bool.not_true, Bool.not_false]; done)))); simp only [WB, execE, unE, args0, reduceIte, Nat.reduceEqDiff, Nat.reduceAdd, Nat.reduceLeDiff, binE, isShift, intBin, Wo_some])
    | (refine W_opgF rfl rfl ?hg ?_; (case hg => (simp only [upd_at, reduceIte, Nat.reduceEqDiff, Bool.not_true, Bool.not_false]; done)))
    | rw [W_seq] | rw [W_reg] | rw [push_no] | rw [W_onil] | rw [W_skip] | rw [W_blk] | rw [W_b] | refine W_regd0 ?_)
  refine W_getRet (by repeat (first | exact hg | exact args0_un (Nat.le_of_ble_eq_true rfl) | refine upd_un ?_ rfl)) ?_
  refine ⟨hs1.ds, _, rfl, congrArg AV.b ?_, (kB.trans k1 (by simp)).out⟩
  rw [Bool.eq_iff_iff]
  simpa using hr

theorem call35 {m : AMem} {av : AV} {n : Nat} {l : List AV} {ty : Option Nat} {oj : Option Nat} (h : RowE m 2 ty av oj n l) (hl : l.all AV.one = true) (hn64 : n ≤ 100000) :
    Vi.Call T 35 [av] m (fun v m' => (∃ ty' oj', RowE m' 2 ty' v oj' n l ∧ ∀ k, oj' = some k → m.next ≤ k) ∧ Keep m m' []) := by
  refine Vi.Call.ofP T35 (Nat.le_of_ble_eq_true rfl) ?_
  unfold v35
  cases oj with
  | none =>
    obtain ⟨h0, rfl, rfl⟩ := h
    repeat (first
      | ((first | refine W_op rfl rfl ?_ | (refine W_opgT rfl rfl ?hg ?_; (case hg => (simp only [upd_at, reduceIte, Nat.reduceEqDiff, Bool.not_true, Bool.not_false]; done)))); simp only [WB, execE, unE, args0, reduceIte, Nat.reduceEqDiff, Nat.reduceAdd, Nat.reduceLeDiff, isNil, Wo_some])
      | (refine W_opgF rfl rfl ?hg ?_; (case hg => (simp only [upd_at, reduceIte, Nat.reduceEqDiff, Bool.not_true, Bool.not_false]; done)))
      | rw [W_seq] | rw [W_reg] | rw [push_no] | rw [W_onil] | rw [W_skip] | rw [W_blk] | rw [W_b] | refine W_regd0 ?_)
    refine W_cond ?_
    simp only [WB, execE, unE, args0, reduceIte, Nat.reduceEqDiff, Nat.reduceAdd, Nat.reduceLeDiff, WC]
    repeat (first
      | ((first | refine W_op rfl rfl ?_ | (refine W_opgT rfl rfl ?hg ?_; (case hg => (simp only [upd_at, reduceIte, Nat.reduceEqDiff, Bool.not_true, Bool.not_false]; done)))); simp only [WB, execE, unE, args0, reduceIte, Nat.reduceEqDiff, Nat.reduceAdd, Nat.reduceLeDiff, Wo_some])
      | (refine W_opgF rfl rfl ?hg ?_; (case hg => (simp only [upd_at, reduceIte, Nat.reduceEqDiff, Bool.not_true, Bool.not_false]; done)))
      | rw [W_seq] | rw [W_reg] | rw [push_no] | rw [W_onil] | rw [W_skip] | rw [W_blk] | rw [W_b] | refine W_regd0 ?_)
    refine W_getRet (by repeat (first | exact hg | exact args0_un (Nat.le_of_ble_eq_true rfl) | refine upd_un ?_ rfl)) ?_
    refine ⟨rfl, _, rfl, ⟨none, none, ⟨h0, rfl, rfl⟩, nofun⟩, (Keep.inn m).out⟩
  | some j =>
    have hA := h.arr
    obtain ⟨h0, c, cap, ex, rfl, hj, hg, hcl, hle, ht⟩ := h
    repeat (first
      | ((first | refine W_op rfl rfl ?_ | (refine W_opgT rfl rfl ?hg ?_; (case hg => (simp only [upd_at, reduceIte, Nat.reduceEqDiff, Bool.not_true, Bool.not_false]; done)))); simp only [WB, execE, unE, args0, reduceIte, Nat.reduceEqDiff, Nat.reduceAdd, Nat.reduceLeDiff, isNil, Wo_some])
      | (refine W_opgF rfl rfl ?hg ?_; (case hg => (simp only [upd_at, reduceIte, Nat.reduceEqDiff, Bool.not_true, Bool.not_false]; done)))
      | rw [W_seq] | rw [W_reg] | rw [push_no] | rw [W_onil] | rw [W_skip] | rw [W_blk] | rw [W_b] | refine W_regd0 ?_)
    refine W_cond ?_
    simp only [WB, execE, unE, args0, reduceIte, Nat.reduceEqDiff, Nat.reduceAdd, Nat.reduceLeDiff, WC]
    repeat (first
      | ((first | refine W_opA rfl rfl rfl ?_ | (refine W_opgT rfl rfl ?hg ?_; (case hg => (simp only [upd_at, reduceIte, Nat.reduceEqDiff, Bool.not_true, Bool.not_false]; done)))); simp only [WB, execE, unE, args0, reduceIte, Nat.reduceEqDiff, Nat.reduceAdd, Nat.reduceLeDiff, fillX, WO, fillX, splice, Wo_some])
      | (refine W_opgF rfl rfl ?hg ?_; (case hg => (simp only [upd_at, reduceIte, Nat.reduceEqDiff, Bool.not_true, Bool.not_false]; done)))
      | (refine W_opgU rfl ?hg ?_; (case hg => (simp only [upd_at, reduceIte, Nat.reduceEqDiff]; done))) | (refine W_callN rfl ?hg ?_; (case hg => (simp only [upd_at, reduceIte, Nat.reduceEqDiff, Bool.not_true, Bool.not_false]; done))) | rw [W_seq] | rw [W_reg] | rw [push_no] | rw [push_yes] | rw [W_onil] | rw [W_skip] | rw [W_blk] | rw [W_b] | refine W_regd0 ?_ | refine W_regd ?_)
    have hne : ¬ m.next = j := by omega
    have hroom : roomy (0 + n) 16 = true := roomyOf (by omega) (by omega)
    have hR0 : RowE (m.inn.new (.cells [] true (2 : Nat))) 2 none (.sl (some (m.next, 0)) 0 0 true) (some m.next) 0 [] :=
      ⟨by simp, [], 0, true, rfl, by simp, by rw [AMem.get_new, if_pos (show m.inn.next = m.next from rfl)], rfl, Nat.le_refl _, rfl⟩
    have hle2 : n * 2 ≤ c.length := by omega
    have hsrc : srcE (m.inn.new (.cells [] true (2 : Nat))) 2 (.sl (some (j, 0)) n cap ex) = some (l, n) := by
      simp only [srcE, rd, AMem.get_new, AMem.next_inn, if_neg hne, AMem.get_inn, hg, Nat.zero_add, if_pos hle2, List.drop_zero, ht, Option.map_some]
    refine W_app (n := 0) (k := n) (new := l) (ls := []) rfl (hR0.as ?_) ?_ h0 hl hroom ?_
    · skip
      simp only [WB, execE, unE, args0, reduceIte, Nat.reduceEqDiff, Nat.reduceAdd, Nat.reduceLeDiff]
    · skip
      simp only [WB, execE, unE, args0, reduceIte, Nat.reduceEqDiff, Nat.reduceAdd, Nat.reduceLeDiff]
      exact hsrc
    intro av' oj' m' ty' r5 ds5 ro5 o5 k5 _
    repeat (first
      | ((first | refine W_op rfl rfl ?_ | (refine W_opgT rfl rfl ?hg ?_; (case hg => (simp only [upd_at, reduceIte, Nat.reduceEqDiff, Bool.not_true, Bool.not_false]; done)))); simp only [WB, execE, unE, args0, reduceIte, Nat.reduceEqDiff, Nat.reduceAdd, Nat.reduceLeDiff, Wo_some])
      | (refine W_opgF rfl rfl ?hg ?_; (case hg => (simp only [upd_at, reduceIte, Nat.reduceEqDiff, Bool.not_true, Bool.not_false]; done)))
      | rw [W_seq] | rw [W_reg] | rw [push_no] | rw [W_onil] | rw [W_skip] | rw [W_blk] | rw [W_b] | refine W_regd0 ?_)
    refine W_getRet (by repeat (first | exact hg | exact args0_un (Nat.le_of_ble_eq_true rfl) | refine upd_un ?_ rfl)) ?_
    refine ⟨ds5, _, rfl, ⟨ty', oj', ?_, ?_⟩, ?_⟩
    · have := r5
      rw [Nat.zero_add, List.nil_append] at this
      simp only [WB, execE, unE, args0, reduceIte, Nat.reduceEqDiff, Nat.reduceAdd, Nat.reduceLeDiff]
      exact this.keep (Keep.refl _ []).out (by simp)
    · intro k hk
      rcases o5 with h | ⟨j', h, h2⟩
      · rw [h] at hk; cases hk; exact Nat.le_refl _
      · rw [h] at hk; cases hk; simp at h2; omega
    · exact ((((Keep.new m.inn _).ofInn).trans k5 (by simp))).out
end Go.Proofs.YtjlckbphpmogjaaGreatDoor
