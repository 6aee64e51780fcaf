/- May a tree be? It always tells; and where it may, each node's part lies in order. No condition. -/
import Derived.Test.YtdmoecehmclohaaGreatDoorSlVT
import Derived.Test.YtdmoecehmclohaaGreatDoorSlViNode
namespace Go.Proofs.YtdmoecehmclohaaGreatDoor
open Go.Vi
set_option linter.unusedSimpArgs false
set_option linter.unusedVariables false
theorem call30 {m : AMem} (x a b : Int) : Vi.Call T 30 [.i .i64 x, .i .i64 a, .i .i64 b] m (fun v m' => v = .b (decide (a ≤ x ∧ x ≤ b)) ∧ m' = m) := by
  refine Vi.Call.ofP T30 (Nat.le_of_ble_eq_true rfl) ?_
  unfold v30
  repeat' (first
    | ((first | refine W_op rfl rfl ?_ | (refine W_opgT rfl rfl ?hg ?_; (case hg => (simp only [WG, reduceIte, Nat.reduceEqDiff]; done)))); simp only [WB, execE, unE, args0, reduceIte, Nat.reduceEqDiff, Nat.reduceAdd, Nat.reduceLeDiff, binE, isShift, intBin, WO, fillX, splice, Wo_some])
    | (refine W_opgF rfl rfl ?hg ?_; (case hg => (simp only [WG, reduceIte, Nat.reduceEqDiff]; done)))
    | (refine W_opgU rfl ?hg ?_; (case hg => (simp only [WG, reduceIte, Nat.reduceEqDiff]; done)))
    | rw [W_seq] | rw [W_reg] | rw [push_no] | rw [push_yes] | rw [W_onil] | rw [W_skip] | rw [W_blk] | rw [W_b] | refine W_regd0 ?_ | refine W_regd ?_
    | (refine W_callN rfl ?hg ?_; (case hg => (simp only [WG, reduceIte, Nat.reduceEqDiff]; done)))
    | refine W_exit rfl ?_
    | (refine W_opgST rfl rfl ?hg ?_ ?_; (case hg => (simp only [WB, execE, unE, args0, reduceIte, Nat.reduceEqDiff, Nat.reduceAdd, Nat.reduceLeDiff, binE, isShift, intBin, WO, fillX, splice, toB_b]; done)); (all_goals (intro hc; simp only [WB, execE, unE, args0, reduceIte, Nat.reduceEqDiff, Nat.reduceAdd, Nat.reduceLeDiff, binE, isShift, intBin, WO, fillX, splice, toB_b] at hc; simp only [hc, WB, execE, unE, args0, reduceIte, Nat.reduceEqDiff, Nat.reduceAdd, Nat.reduceLeDiff, binE, isShift, intBin, WO, fillX, splice, Wo_some])))
    | (refine W_opgSF rfl rfl ?hg ?_ ?_; (case hg => (simp only [WB, execE, unE, args0, reduceIte, Nat.reduceEqDiff, Nat.reduceAdd, Nat.reduceLeDiff, binE, isShift, intBin, WO, fillX, splice, toB_b]; done)); (all_goals (intro hc; simp only [WB, execE, unE, args0, reduceIte, Nat.reduceEqDiff, Nat.reduceAdd, Nat.reduceLeDiff, binE, isShift, intBin, WO, fillX, splice, toB_b] at hc; simp only [hc, WB, execE, unE, args0, reduceIte, Nat.reduceEqDiff, Nat.reduceAdd, Nat.reduceLeDiff, binE, isShift, intBin, WO, fillX, splice, Wo_some])))
    | (refine W_cond ?_; simp only [WB, execE, unE, args0, reduceIte, Nat.reduceEqDiff, Nat.reduceAdd, Nat.reduceLeDiff, binE, isShift, intBin, WO, fillX, splice, WC]; first | (refine WC_split (fun hc => ?_) (fun hc => ?_) <;> (try simp only [hc])) | skip)
    )
  all_goals refine W_getRet (by repeat (first | exact hg | exact args0_un (Nat.le_of_ble_eq_true rfl) | refine upd_un ?_ rfl)) ?_
  all_goals refine ⟨rfl, _, rfl, congrArg AV.b ?_, rfl⟩
  all_goals (rw [Bool.eq_iff_iff]; simp only [decide_eq_true_eq, decide_eq_false_iff_not, Bool.false_eq_true, false_iff, ge_iff_le] at *; omega)
set_option maxHeartbeats 2000000 in
theorem call31 {m : AMem} {av : AV} {L : List (Int × Int)} (hA : Arr m 2 av L.length (flat2 L)) (hn : L.length ≤ 8796093022208) : Vi.Call T 31 [av] m (fun v m' => (∃ b, v = .b b) ∧ m' = m) := by
  have hlen := hA.lenF
  refine Vi.Call.ofP T31 (Nat.le_of_ble_eq_true rfl) ?_
  unfold v31
  repeat (first
    | ((first | refine W_op rfl rfl ?_ | (refine W_opgT rfl rfl ?hg ?_; (case hg => (simp only [WG, reduceIte, Nat.reduceEqDiff]; done)))); simp only [WB, execE, unE, args0, reduceIte, Nat.reduceEqDiff, Nat.reduceAdd, Nat.reduceLeDiff, WO, fillX, splice, Wo_some])
    | (refine W_opgF rfl rfl ?hg ?_; (case hg => (simp only [WG, reduceIte, Nat.reduceEqDiff]; done)))
    | (refine W_opgU rfl ?hg ?_; (case hg => (simp only [upd_at, reduceIte, Nat.reduceEqDiff]; done))) | (refine W_callN rfl ?hg ?_; (case hg => (simp only [WG, reduceIte, Nat.reduceEqDiff]; done))) | rw [W_seq] | rw [W_reg] | rw [push_no] | rw [push_yes] | rw [W_onil] | rw [W_skip] | rw [W_blk] | rw [W_b] | refine W_regd0 ?_ | refine W_regd ?_)
  refine W_loop (fun k g' m' => ∃ i : Nat, i ≤ L.length ∧ k = L.length - i ∧ g' 0 = av ∧ g' 3 = .i .i64 i ∧ m' = m.inn) L.length ?_ ?_ ?_
  · refine ⟨0, Nat.zero_le _, rfl, ?_, ?_, rfl⟩
    · skip
      simp only [upd_at, upd_none, reduceIte, Nat.reduceEqDiff, args0, List.getD_cons_zero, List.getD_cons_succ, List.getD_nil]
    · skip
      simp only [upd_at, upd_none, reduceIte, Nat.reduceEqDiff, args0, List.getD_cons_zero, List.getD_cons_succ, List.getD_nil, Int.ofNat_zero]
      try rfl
  · intro i hi
    repeat (first | exact args0_un (Nat.le_of_ble_eq_true rfl) i hi | refine upd_un ?_ rfl i hi; clear i hi; intro i hi)
  · rintro k g m1 ⟨i, hi, rfl, q0, q3, rfl⟩ hg
    repeat (first
      | ((first | refine W_op rfl rfl ?_ | (refine W_opgT rfl rfl ?hg ?_; (case hg => (simp only [WG, reduceIte, Nat.reduceEqDiff]; done)))); simp only [WB, execE, unE, args0, reduceIte, Nat.reduceEqDiff, Nat.reduceAdd, Nat.reduceLeDiff, q0, q3, ↓hlen, binE, isShift, intBin, WO, fillX, splice, Wo_some])
      | (refine W_opgF rfl rfl ?hg ?_; (case hg => (simp only [WG, reduceIte, Nat.reduceEqDiff]; done)))
      | (refine W_opgU rfl ?hg ?_; (case hg => (simp only [upd_at, reduceIte, Nat.reduceEqDiff]; done))) | (refine W_callN rfl ?hg ?_; (case hg => (simp only [WG, reduceIte, Nat.reduceEqDiff]; done))) | rw [W_seq] | rw [W_reg] | rw [push_no] | rw [push_yes] | rw [W_onil] | rw [W_skip] | rw [W_blk] | rw [W_b] | refine W_regd0 ?_ | refine W_regd ?_)
    refine W_cond ?_
    simp only [WB, execE, unE, args0, reduceIte, Nat.reduceEqDiff, Nat.reduceAdd, Nat.reduceLeDiff]
    refine WC_split (fun ht => ?_) (fun hf => ?_)
    · have hlt : i < L.length := by simpa using ht
      obtain ⟨j, o, cap, ex, c, wr, es, rfl, hj, hgj, hck⟩ := hA.full (by omega)
      obtain ⟨p, hp⟩ : ∃ p, L[i]? = some p := ⟨_, List.getElem?_eq_getElem hlt⟩
      have f0 : c[o + i * 2]? = some (.i .i64 p.1) := (hck _ (by omega)).trans (flat2_get hp).1
      have f1 : c[o + i * 2 + 1]? = some (.i .i64 p.2) := by rw [Nat.add_assoc]; exact (hck _ (by omega)).trans (flat2_get hp).2
      have hix : (0 ≤ (i : Int) ∧ (i : Int) < (L.length : Int)) := ⟨by omega, by omega⟩
      have hwi : IntKind.i64.wrap ((i : Int) + 1) = ((i + 1 : Nat) : Int) := wr_i64 (n := (i : Int) + 1) (by omega) (by omega)
      by_cases h0 : i = 0
      · have c1 : decide ((i : Int) > 0) = false := decide_eq_false (by omega)
        repeat' (first
          | ((first | refine W_op rfl rfl ?_ | (refine W_opgT rfl rfl ?hg ?_; (case hg => (simp only [WG, reduceIte, Nat.reduceEqDiff]; done)))); simp only [WB, execE, unE, args0, reduceIte, Nat.reduceEqDiff, Nat.reduceAdd, Nat.reduceLeDiff, q0, q3, hix, Int.toNat_natCast, hgj, f0, f1, c1, hwi, binE, isShift, intBin, WO, fillX, splice, Wo_some])
          | (refine W_opgF rfl rfl ?hg ?_; (case hg => (simp only [WG, reduceIte, Nat.reduceEqDiff]; done)))
          | (refine W_opgU rfl ?hg ?_; (case hg => (simp only [WG, reduceIte, Nat.reduceEqDiff]; done)))
          | rw [W_seq] | rw [W_reg] | rw [push_no] | rw [push_yes] | rw [W_onil] | rw [W_skip] | rw [W_blk] | rw [W_b] | refine W_regd0 ?_ | refine W_regd ?_
          | (refine W_callN rfl ?hg ?_; (case hg => (simp only [WG, reduceIte, Nat.reduceEqDiff]; done)))
          | refine W_exit rfl ?_
          | (refine W_opgST rfl rfl ?hg ?_ ?_; (case hg => (simp only [WB, execE, unE, args0, reduceIte, Nat.reduceEqDiff, Nat.reduceAdd, Nat.reduceLeDiff, q0, q3, hix, Int.toNat_natCast, hgj, f0, f1, c1, hwi, binE, isShift, intBin, WO, fillX, splice, toB_b]; done)); (all_goals (intro hc; simp only [WB, execE, unE, args0, reduceIte, Nat.reduceEqDiff, Nat.reduceAdd, Nat.reduceLeDiff, q0, q3, hix, Int.toNat_natCast, hgj, f0, f1, c1, hwi, binE, isShift, intBin, WO, fillX, splice, toB_b] at hc; simp only [hc, WB, execE, unE, args0, reduceIte, Nat.reduceEqDiff, Nat.reduceAdd, Nat.reduceLeDiff, q0, q3, hix, Int.toNat_natCast, hgj, f0, f1, c1, hwi, binE, isShift, intBin, WO, fillX, splice, Wo_some])))
          | (refine W_opgSF rfl rfl ?hg ?_ ?_; (case hg => (simp only [WB, execE, unE, args0, reduceIte, Nat.reduceEqDiff, Nat.reduceAdd, Nat.reduceLeDiff, q0, q3, hix, Int.toNat_natCast, hgj, f0, f1, c1, hwi, binE, isShift, intBin, WO, fillX, splice, toB_b]; done)); (all_goals (intro hc; simp only [WB, execE, unE, args0, reduceIte, Nat.reduceEqDiff, Nat.reduceAdd, Nat.reduceLeDiff, q0, q3, hix, Int.toNat_natCast, hgj, f0, f1, c1, hwi, binE, isShift, intBin, WO, fillX, splice, toB_b] at hc; simp only [hc, WB, execE, unE, args0, reduceIte, Nat.reduceEqDiff, Nat.reduceAdd, Nat.reduceLeDiff, q0, q3, hix, Int.toNat_natCast, hgj, f0, f1, c1, hwi, binE, isShift, intBin, WO, fillX, splice, Wo_some])))
          | (refine W_cond ?_; simp only [WB, execE, unE, args0, reduceIte, Nat.reduceEqDiff, Nat.reduceAdd, Nat.reduceLeDiff, q0, q3, hix, Int.toNat_natCast, hgj, f0, f1, c1, hwi, binE, isShift, intBin, WO, fillX, splice, WC]; first | (refine WC_split (fun hc => ?_) (fun hc => ?_) <;> (try simp only [hc])) | skip)
          )
        all_goals first
          | (refine W_getRet (by repeat (first | exact hg | exact args0_un (Nat.le_of_ble_eq_true rfl) | refine upd_un ?_ rfl)) ?_
             exact ⟨rfl, _, rfl, ⟨_, rfl⟩, rfl⟩)
          | (refine W_j (by repeat (first | exact hg | exact args0_un (Nat.le_of_ble_eq_true rfl) | refine upd_un ?_ rfl)) ?_
             refine ⟨L.length - (i + 1), by omega, i + 1, by omega, rfl, ?_, ?_, rfl⟩ <;> simp only [upd_at, upd_none, reduceIte, Nat.reduceEqDiff, args0, List.getD_cons_zero, List.getD_cons_succ, List.getD_nil, q0])
      · have c1 : decide ((i : Int) > 0) = true := decide_eq_true (by omega)
        obtain ⟨p2, hp2⟩ : ∃ p, L[i - 1]? = some p := ⟨_, List.getElem?_eq_getElem (by omega)⟩
        have f3 : c[o + (i - 1) * 2 + 1]? = some (.i .i64 p2.2) := by rw [Nat.add_assoc]; exact (hck _ (by omega)).trans (flat2_get hp2).2
        have hw1 : IntKind.i64.wrap ((i : Int) - 1) = ((i - 1 : Nat) : Int) := by rw [wr_i64 (by omega) (by omega)]; omega
        have hix2 : (0 ≤ ((i - 1 : Nat) : Int) ∧ ((i - 1 : Nat) : Int) < (L.length : Int)) := ⟨by omega, by omega⟩
        repeat' (first
          | ((first | refine W_op rfl rfl ?_ | (refine W_opgT rfl rfl ?hg ?_; (case hg => (simp only [WG, reduceIte, Nat.reduceEqDiff]; done)))); simp only [WB, execE, unE, args0, reduceIte, Nat.reduceEqDiff, Nat.reduceAdd, Nat.reduceLeDiff, q0, q3, hix, hix2, Int.toNat_natCast, hgj, f0, f1, f3, c1, hwi, hw1, binE, isShift, intBin, WO, fillX, splice, Wo_some])
          | (refine W_opgF rfl rfl ?hg ?_; (case hg => (simp only [WG, reduceIte, Nat.reduceEqDiff]; done)))
          | (refine W_opgU rfl ?hg ?_; (case hg => (simp only [WG, reduceIte, Nat.reduceEqDiff]; done)))
          | rw [W_seq] | rw [W_reg] | rw [push_no] | rw [push_yes] | rw [W_onil] | rw [W_skip] | rw [W_blk] | rw [W_b] | refine W_regd0 ?_ | refine W_regd ?_
          | (refine W_callN rfl ?hg ?_; (case hg => (simp only [WG, reduceIte, Nat.reduceEqDiff]; done)))
          | refine W_exit rfl ?_
          | (refine W_opgST rfl rfl ?hg ?_ ?_; (case hg => (simp only [WB, execE, unE, args0, reduceIte, Nat.reduceEqDiff, Nat.reduceAdd, Nat.reduceLeDiff, q0, q3, hix, hix2, Int.toNat_natCast, hgj, f0, f1, f3, c1, hwi, hw1, binE, isShift, intBin, WO, fillX, splice, toB_b]; done)); (all_goals (intro hc; simp only [WB, execE, unE, args0, reduceIte, Nat.reduceEqDiff, Nat.reduceAdd, Nat.reduceLeDiff, q0, q3, hix, hix2, Int.toNat_natCast, hgj, f0, f1, f3, c1, hwi, hw1, binE, isShift, intBin, WO, fillX, splice, toB_b] at hc; simp only [hc, WB, execE, unE, args0, reduceIte, Nat.reduceEqDiff, Nat.reduceAdd, Nat.reduceLeDiff, q0, q3, hix, hix2, Int.toNat_natCast, hgj, f0, f1, f3, c1, hwi, hw1, binE, isShift, intBin, WO, fillX, splice, Wo_some])))
          | (refine W_opgSF rfl rfl ?hg ?_ ?_; (case hg => (simp only [WB, execE, unE, args0, reduceIte, Nat.reduceEqDiff, Nat.reduceAdd, Nat.reduceLeDiff, q0, q3, hix, hix2, Int.toNat_natCast, hgj, f0, f1, f3, c1, hwi, hw1, binE, isShift, intBin, WO, fillX, splice, toB_b]; done)); (all_goals (intro hc; simp only [WB, execE, unE, args0, reduceIte, Nat.reduceEqDiff, Nat.reduceAdd, Nat.reduceLeDiff, q0, q3, hix, hix2, Int.toNat_natCast, hgj, f0, f1, f3, c1, hwi, hw1, binE, isShift, intBin, WO, fillX, splice, toB_b] at hc; simp only [hc, WB, execE, unE, args0, reduceIte, Nat.reduceEqDiff, Nat.reduceAdd, Nat.reduceLeDiff, q0, q3, hix, hix2, Int.toNat_natCast, hgj, f0, f1, f3, c1, hwi, hw1, binE, isShift, intBin, WO, fillX, splice, Wo_some])))
          | (refine W_cond ?_; simp only [WB, execE, unE, args0, reduceIte, Nat.reduceEqDiff, Nat.reduceAdd, Nat.reduceLeDiff, q0, q3, hix, hix2, Int.toNat_natCast, hgj, f0, f1, f3, c1, hwi, hw1, binE, isShift, intBin, WO, fillX, splice, WC]; first | (refine WC_split (fun hc => ?_) (fun hc => ?_) <;> (try simp only [hc])) | skip)
          )
        all_goals first
          | (refine W_getRet (by repeat (first | exact hg | exact args0_un (Nat.le_of_ble_eq_true rfl) | refine upd_un ?_ rfl)) ?_
             exact ⟨rfl, _, rfl, ⟨_, rfl⟩, rfl⟩)
          | (refine W_j (by repeat (first | exact hg | exact args0_un (Nat.le_of_ble_eq_true rfl) | refine upd_un ?_ rfl)) ?_
             refine ⟨L.length - (i + 1), by omega, i + 1, by omega, rfl, ?_, ?_, rfl⟩ <;> simp only [upd_at, upd_none, reduceIte, Nat.reduceEqDiff, args0, List.getD_cons_zero, List.getD_cons_succ, List.getD_nil, q0])
    · refine W_exit rfl ?_
      repeat (first
        | ((first | refine W_op rfl rfl ?_ | (refine W_opgT rfl rfl ?hg ?_; (case hg => (simp only [WG, reduceIte, Nat.reduceEqDiff]; done)))); simp only [WB, execE, unE, args0, reduceIte, Nat.reduceEqDiff, Nat.reduceAdd, Nat.reduceLeDiff, WO, fillX, splice, Wo_some])
        | (refine W_opgF rfl rfl ?hg ?_; (case hg => (simp only [WG, reduceIte, Nat.reduceEqDiff]; done)))
        | (refine W_opgU rfl ?hg ?_; (case hg => (simp only [upd_at, reduceIte, Nat.reduceEqDiff]; done))) | (refine W_callN rfl ?hg ?_; (case hg => (simp only [WG, reduceIte, Nat.reduceEqDiff]; done))) | rw [W_seq] | rw [W_reg] | rw [push_no] | rw [push_yes] | rw [W_onil] | rw [W_skip] | rw [W_blk] | rw [W_b] | refine W_regd0 ?_ | refine W_regd ?_)
      refine W_getRet (by repeat (first | exact hg | exact args0_un (Nat.le_of_ble_eq_true rfl) | refine upd_un ?_ rfl)) ?_
      exact ⟨rfl, _, rfl, ⟨_, rfl⟩, rfl⟩
set_option maxHeartbeats 16000000 in
theorem call12 {m : AMem} (d : Nf) (h : d.ok m) : Vi.Call T 12 [.agg d.cells] m (fun v m' => ∃ b, v = .b b ∧ (b = true → 0 ≤ d.fr ∧ d.fr ≤ d.to ∧ d.to ≤ 4096) ∧ Keep m m' []) := by
  obtain ⟨k, fr, to, num, mn, mx, md, nm, sv, kv, sl, kl⟩ := d
  obtain ⟨_, hset, hkid, hs1, _⟩ := h
  simp only at hset hkid hs1
  have hlenK := hkid.lenF
  have hlenS := hset.lenF
  have o1 := hset.one
  have o2 := hkid.one
  have e1 := one_cells o1
  have e2 := one_cells o2
  have hne := neS nm []
  have hsz := str_size nm
  refine Vi.Call.ofP T12 (Nat.le_of_ble_eq_true rfl) ?_
  unfold v12
  simp only [Nf.cells]
  repeat (first | rw [W_seq] | rw [W_reg] | rw [push_no] | rw [push_yes] | rw [W_onil] | rw [W_skip] | rw [W_blk] | rw [W_b] | refine W_regd0 ?_ | refine W_regd ?_)
  refine W_op rfl rfl ?_
  simp only [WB, execE, unE, args0, reduceIte, Nat.reduceEqDiff, Nat.reduceAdd, Nat.reduceLeDiff, o1, o2, WO, fillX, splice, Wo_some]
  repeat (first | rw [push_no] | rw [push_yes] | rw [W_onil])
  obtain ⟨mB, hmB, kB, bB, g0, dB, _, nB⟩ := mk_new m.inn [.i .i64 k, .i .i64 fr, .i .i64 to, .i .i64 num, .i .i64 mn, .i .i64 mx, .i .i64 md, .s ⟨nm.toArray⟩, sv, kv] true (10 : Nat) 10 rfl
  have kB' : Keep m mB [] := kB.ofInn
  have g0' : mB.get m.next = some (.cells [.i .i64 k, .i .i64 fr, .i .i64 to, .i .i64 num, .i .i64 mn, .i .i64 mx, .i .i64 md, .s ⟨nm.toArray⟩, sv, kv] true (10 : Nat)) := g0
  rw [← hmB]
  clear hmB g0 bB
  have hlist := hset.keep0 kB'
  repeat (first
    | ((first | refine W_op rfl rfl ?_ | (refine W_opgT rfl rfl ?hg ?_; (case hg => (simp only [WG, reduceIte, Nat.reduceEqDiff]; done)))); simp only [WB, execE, unE, args0, reduceIte, Nat.reduceEqDiff, Nat.reduceAdd, Nat.reduceLeDiff, g0', ↓hlenK, WO, fillX, splice, Wo_some])
    | (refine W_opgF rfl rfl ?hg ?_; (case hg => (simp only [WG, reduceIte, Nat.reduceEqDiff]; done)))
    | (refine W_opgU rfl ?hg ?_; (case hg => (simp only [upd_at, reduceIte, Nat.reduceEqDiff]; done))) | (refine W_callN rfl ?hg ?_; (case hg => (simp only [WG, reduceIte, Nat.reduceEqDiff]; done))) | rw [W_seq] | rw [W_reg] | rw [push_no] | rw [push_yes] | rw [W_onil] | rw [W_skip] | rw [W_blk] | rw [W_b] | refine W_regd0 ?_ | refine W_regd ?_)
  refine W_cutQ [_, _] (fun g' m' => g' 1 = .p (some (m.next, 0)) ∧ g' 3 = .i .i64 k ∧ g' 4 = .i .i64 kl.length ∧ m' = mB ∧ (0 ≤ fr ∧ fr ≤ to ∧ to ≤ 4096)) ?_ ?_
  · simp only [List.cons_append, List.nil_append]
    repeat' (first
      | ((first | refine W_op rfl rfl ?_ | (refine W_opgT rfl rfl ?hg ?_; (case hg => (simp only [WG, reduceIte, Nat.reduceEqDiff]; done)))); simp only [WB, execE, unE, args0, reduceIte, Nat.reduceEqDiff, Nat.reduceAdd, Nat.reduceLeDiff, g0', hsz, binE, isShift, intBin, WO, fillX, splice, Wo_some])
      | (refine W_opgF rfl rfl ?hg ?_; (case hg => (simp only [WG, reduceIte, Nat.reduceEqDiff]; done)))
      | (refine W_opgU rfl ?hg ?_; (case hg => (simp only [WG, reduceIte, Nat.reduceEqDiff]; done)))
      | rw [W_seq] | rw [W_reg] | rw [push_no] | rw [push_yes] | rw [W_onil] | rw [W_skip] | rw [W_blk] | rw [W_b] | refine W_regd0 ?_ | refine W_regd ?_
      | (refine W_callN rfl ?hg ?_; (case hg => (simp only [WG, reduceIte, Nat.reduceEqDiff]; done)))
      | (refine W_callA rfl (by simp only [WB, execE, unE, args0, reduceIte, Nat.reduceEqDiff, Nat.reduceAdd, Nat.reduceLeDiff, g0', hsz, binE, isShift, intBin, WO, fillX, splice] <;> exact rfl) (call30 _ _ _) ?_; rintro _ _ ⟨rfl, rfl⟩ _)
      | (refine W_callK rfl ?hg (by simp only [WB, execE, unE, args0, reduceIte, Nat.reduceEqDiff, Nat.reduceAdd, Nat.reduceLeDiff, g0', hsz, binE, isShift, intBin, WO, fillX, splice] <;> exact rfl) (call30 _ _ _) ?_; (case hg => (simp only [WG, reduceIte, Nat.reduceEqDiff]; done)); rintro _ _ ⟨rfl, rfl⟩ _)
      | (refine W_callGT rfl ?hg (by simp only [WB, execE, unE, args0, reduceIte, Nat.reduceEqDiff, Nat.reduceAdd, Nat.reduceLeDiff, g0', hsz, binE, isShift, intBin, WO, fillX, splice] <;> exact rfl) (call30 _ _ _) ?_ ?_; (case hg => (simp only [WB, execE, unE, args0, reduceIte, Nat.reduceEqDiff, Nat.reduceAdd, Nat.reduceLeDiff, g0', hsz, binE, isShift, intBin, WO, fillX, splice, toB_b]; done)); (all_goals (intro hc; simp only [WB, execE, unE, args0, reduceIte, Nat.reduceEqDiff, Nat.reduceAdd, Nat.reduceLeDiff, g0', hsz, binE, isShift, intBin, WO, fillX, splice, toB_b] at hc; first | (rintro _ _ ⟨rfl, rfl⟩ _; (try simp only [hc])) | (try simp only [hc]))))
      | (refine W_callGF rfl ?hg (by simp only [WB, execE, unE, args0, reduceIte, Nat.reduceEqDiff, Nat.reduceAdd, Nat.reduceLeDiff, g0', hsz, binE, isShift, intBin, WO, fillX, splice] <;> exact rfl) (call30 _ _ _) ?_ ?_; (case hg => (simp only [WB, execE, unE, args0, reduceIte, Nat.reduceEqDiff, Nat.reduceAdd, Nat.reduceLeDiff, g0', hsz, binE, isShift, intBin, WO, fillX, splice, toB_b]; done)); (all_goals (intro hc; simp only [WB, execE, unE, args0, reduceIte, Nat.reduceEqDiff, Nat.reduceAdd, Nat.reduceLeDiff, g0', hsz, binE, isShift, intBin, WO, fillX, splice, toB_b] at hc; first | (rintro _ _ ⟨rfl, rfl⟩ _; (try simp only [hc])) | (try simp only [hc]))))
      | refine W_exit rfl ?_
      | (refine W_opgST rfl rfl ?hg ?_ ?_; (case hg => (simp only [WB, execE, unE, args0, reduceIte, Nat.reduceEqDiff, Nat.reduceAdd, Nat.reduceLeDiff, g0', hsz, binE, isShift, intBin, WO, fillX, splice, toB_b]; done)); (all_goals (intro hc; simp only [WB, execE, unE, args0, reduceIte, Nat.reduceEqDiff, Nat.reduceAdd, Nat.reduceLeDiff, g0', hsz, binE, isShift, intBin, WO, fillX, splice, toB_b] at hc; simp only [hc, WB, execE, unE, args0, reduceIte, Nat.reduceEqDiff, Nat.reduceAdd, Nat.reduceLeDiff, g0', hsz, binE, isShift, intBin, WO, fillX, splice, Wo_some])))
      | (refine W_opgSF rfl rfl ?hg ?_ ?_; (case hg => (simp only [WB, execE, unE, args0, reduceIte, Nat.reduceEqDiff, Nat.reduceAdd, Nat.reduceLeDiff, g0', hsz, binE, isShift, intBin, WO, fillX, splice, toB_b]; done)); (all_goals (intro hc; simp only [WB, execE, unE, args0, reduceIte, Nat.reduceEqDiff, Nat.reduceAdd, Nat.reduceLeDiff, g0', hsz, binE, isShift, intBin, WO, fillX, splice, toB_b] at hc; simp only [hc, WB, execE, unE, args0, reduceIte, Nat.reduceEqDiff, Nat.reduceAdd, Nat.reduceLeDiff, g0', hsz, binE, isShift, intBin, WO, fillX, splice, Wo_some])))
      | (refine W_cond ?_; simp only [WB, execE, unE, args0, reduceIte, Nat.reduceEqDiff, Nat.reduceAdd, Nat.reduceLeDiff, g0', hsz, binE, isShift, intBin, WO, fillX, splice, WC]; first | (refine WC_split (fun hc => ?_) (fun hc => ?_) <;> (try simp only [hc])) | skip)
      )
    all_goals first
      | (refine W_getRet (by repeat (first | exact hg | exact args0_un (Nat.le_of_ble_eq_true rfl) | refine upd_un ?_ rfl)) ?_
         exact ⟨dB, _, rfl, _, rfl, by simp, kB'.out⟩)
      | (refine W_j (by repeat (first | exact hg | exact args0_un (Nat.le_of_ble_eq_true rfl) | refine upd_un ?_ rfl)) ?_
         refine ⟨?_, ?_, ?_, rfl, by simp only [decide_eq_false_iff_not, decide_eq_true_eq, Bool.not_eq_false'] at *; omega⟩ <;> simp only [upd_at, upd_none, reduceIte, Nat.reduceEqDiff, args0, List.getD_cons_zero, List.getD_cons_succ, List.getD_nil])
  rintro g1 m1 ⟨q1, q3, q4, rfl, hR⟩ hg
  rw [W_seq]
  refine W_cutQ [_] (fun g' m' => g' 1 = .p (some (m.next, 0)) ∧ g' 3 = .i .i64 k ∧ g' 4 = .i .i64 kl.length ∧ m' = m1) ?_ ?_
  · simp only [List.cons_append, List.nil_append]
    repeat' (first
      | ((first | refine W_op rfl rfl ?_ | (refine W_opgT rfl rfl ?hg ?_; (case hg => (simp only [WG, reduceIte, Nat.reduceEqDiff]; done)))); simp only [WB, execE, unE, args0, reduceIte, Nat.reduceEqDiff, Nat.reduceAdd, Nat.reduceLeDiff, q1, q3, g0', hne, ↓hlenS, binE, isShift, intBin, WO, fillX, splice, Wo_some])
      | (refine W_opgF rfl rfl ?hg ?_; (case hg => (simp only [WG, reduceIte, Nat.reduceEqDiff]; done)))
      | (refine W_opgU rfl ?hg ?_; (case hg => (simp only [WG, reduceIte, Nat.reduceEqDiff]; done)))
      | rw [W_seq] | rw [W_reg] | rw [push_no] | rw [push_yes] | rw [W_onil] | rw [W_skip] | rw [W_blk] | rw [W_b] | refine W_regd0 ?_ | refine W_regd ?_
      | (refine W_callN rfl ?hg ?_; (case hg => (simp only [WG, reduceIte, Nat.reduceEqDiff]; done)))
      | (refine W_callA rfl (by simp only [WB, execE, unE, args0, reduceIte, Nat.reduceEqDiff, Nat.reduceAdd, Nat.reduceLeDiff, q1, q3, g0', hne, ↓hlenS, binE, isShift, intBin, WO, fillX, splice] <;> exact rfl) (call31 hlist hs1) ?_; rintro _ _ ⟨⟨b, rfl⟩, rfl⟩ _)
      | (refine W_callK rfl ?hg (by simp only [WB, execE, unE, args0, reduceIte, Nat.reduceEqDiff, Nat.reduceAdd, Nat.reduceLeDiff, q1, q3, g0', hne, ↓hlenS, binE, isShift, intBin, WO, fillX, splice] <;> exact rfl) (call31 hlist hs1) ?_; (case hg => (simp only [WG, reduceIte, Nat.reduceEqDiff]; done)); rintro _ _ ⟨⟨b, rfl⟩, rfl⟩ _)
      | (refine W_callGT rfl ?hg (by simp only [WB, execE, unE, args0, reduceIte, Nat.reduceEqDiff, Nat.reduceAdd, Nat.reduceLeDiff, q1, q3, g0', hne, ↓hlenS, binE, isShift, intBin, WO, fillX, splice] <;> exact rfl) (call31 hlist hs1) ?_ ?_; (case hg => (simp only [WB, execE, unE, args0, reduceIte, Nat.reduceEqDiff, Nat.reduceAdd, Nat.reduceLeDiff, q1, q3, g0', hne, ↓hlenS, binE, isShift, intBin, WO, fillX, splice, toB_b]; done)); (all_goals (intro hc; simp only [WB, execE, unE, args0, reduceIte, Nat.reduceEqDiff, Nat.reduceAdd, Nat.reduceLeDiff, q1, q3, g0', hne, ↓hlenS, binE, isShift, intBin, WO, fillX, splice, toB_b] at hc; first | (rintro _ _ ⟨⟨b, rfl⟩, rfl⟩ _; (try simp only [hc])) | (try simp only [hc]))))
      | (refine W_callGF rfl ?hg (by simp only [WB, execE, unE, args0, reduceIte, Nat.reduceEqDiff, Nat.reduceAdd, Nat.reduceLeDiff, q1, q3, g0', hne, ↓hlenS, binE, isShift, intBin, WO, fillX, splice] <;> exact rfl) (call31 hlist hs1) ?_ ?_; (case hg => (simp only [WB, execE, unE, args0, reduceIte, Nat.reduceEqDiff, Nat.reduceAdd, Nat.reduceLeDiff, q1, q3, g0', hne, ↓hlenS, binE, isShift, intBin, WO, fillX, splice, toB_b]; done)); (all_goals (intro hc; simp only [WB, execE, unE, args0, reduceIte, Nat.reduceEqDiff, Nat.reduceAdd, Nat.reduceLeDiff, q1, q3, g0', hne, ↓hlenS, binE, isShift, intBin, WO, fillX, splice, toB_b] at hc; first | (rintro _ _ ⟨⟨b, rfl⟩, rfl⟩ _; (try simp only [hc])) | (try simp only [hc]))))
      | refine W_exit rfl ?_
      | (refine W_opgST rfl rfl ?hg ?_ ?_; (case hg => (simp only [WB, execE, unE, args0, reduceIte, Nat.reduceEqDiff, Nat.reduceAdd, Nat.reduceLeDiff, q1, q3, g0', hne, ↓hlenS, binE, isShift, intBin, WO, fillX, splice, toB_b]; done)); (all_goals (intro hc; simp only [WB, execE, unE, args0, reduceIte, Nat.reduceEqDiff, Nat.reduceAdd, Nat.reduceLeDiff, q1, q3, g0', hne, ↓hlenS, binE, isShift, intBin, WO, fillX, splice, toB_b] at hc; simp only [hc, WB, execE, unE, args0, reduceIte, Nat.reduceEqDiff, Nat.reduceAdd, Nat.reduceLeDiff, q1, q3, g0', hne, ↓hlenS, binE, isShift, intBin, WO, fillX, splice, Wo_some])))
      | (refine W_opgSF rfl rfl ?hg ?_ ?_; (case hg => (simp only [WB, execE, unE, args0, reduceIte, Nat.reduceEqDiff, Nat.reduceAdd, Nat.reduceLeDiff, q1, q3, g0', hne, ↓hlenS, binE, isShift, intBin, WO, fillX, splice, toB_b]; done)); (all_goals (intro hc; simp only [WB, execE, unE, args0, reduceIte, Nat.reduceEqDiff, Nat.reduceAdd, Nat.reduceLeDiff, q1, q3, g0', hne, ↓hlenS, binE, isShift, intBin, WO, fillX, splice, toB_b] at hc; simp only [hc, WB, execE, unE, args0, reduceIte, Nat.reduceEqDiff, Nat.reduceAdd, Nat.reduceLeDiff, q1, q3, g0', hne, ↓hlenS, binE, isShift, intBin, WO, fillX, splice, Wo_some])))
      | (refine W_cond ?_; simp only [WB, execE, unE, args0, reduceIte, Nat.reduceEqDiff, Nat.reduceAdd, Nat.reduceLeDiff, q1, q3, g0', hne, ↓hlenS, binE, isShift, intBin, WO, fillX, splice, WC]; first | (refine WC_split (fun hc => ?_) (fun hc => ?_) <;> (try simp only [hc])) | skip)
      )
    all_goals first
      | (refine W_getRet (by repeat (first | exact hg | exact args0_un (Nat.le_of_ble_eq_true rfl) | refine upd_un ?_ rfl)) ?_
         exact ⟨dB, _, rfl, _, rfl, fun _ => hR, kB'.out⟩)
      | (refine W_j (by repeat (first | exact hg | exact args0_un (Nat.le_of_ble_eq_true rfl) | refine upd_un ?_ rfl)) ?_
         refine ⟨?_, ?_, ?_, rfl⟩ <;> simp only [upd_at, upd_none, reduceIte, Nat.reduceEqDiff, args0, List.getD_cons_zero, List.getD_cons_succ, List.getD_nil, q1, q3, q4])
  clear q1 q3 q4 hg g1
  rintro g1 m1 ⟨q1, q3, q4, rfl⟩ hg
  rw [W_seq]
  refine W_cutQ [_] (fun g' m' => g' 1 = .p (some (m.next, 0)) ∧ g' 3 = .i .i64 k ∧ g' 4 = .i .i64 kl.length ∧ m' = m1) ?_ ?_
  · simp only [List.cons_append, List.nil_append]
    repeat' (first
      | ((first | refine W_op rfl rfl ?_ | (refine W_opgT rfl rfl ?hg ?_; (case hg => (simp only [WG, reduceIte, Nat.reduceEqDiff]; done)))); simp only [WB, execE, unE, args0, reduceIte, Nat.reduceEqDiff, Nat.reduceAdd, Nat.reduceLeDiff, q1, q3, q4, g0', binE, isShift, intBin, WO, fillX, splice, Wo_some])
      | (refine W_opgF rfl rfl ?hg ?_; (case hg => (simp only [WG, reduceIte, Nat.reduceEqDiff]; done)))
      | (refine W_opgU rfl ?hg ?_; (case hg => (simp only [WG, reduceIte, Nat.reduceEqDiff]; done)))
      | rw [W_seq] | rw [W_reg] | rw [push_no] | rw [push_yes] | rw [W_onil] | rw [W_skip] | rw [W_blk] | rw [W_b] | refine W_regd0 ?_ | refine W_regd ?_
      | (refine W_callN rfl ?hg ?_; (case hg => (simp only [WG, reduceIte, Nat.reduceEqDiff]; done)))
      | (refine W_callA rfl (by simp only [WB, execE, unE, args0, reduceIte, Nat.reduceEqDiff, Nat.reduceAdd, Nat.reduceLeDiff, q1, q3, q4, g0', binE, isShift, intBin, WO, fillX, splice] <;> exact rfl) (call30 _ _ _) ?_; rintro _ _ ⟨rfl, rfl⟩ _)
      | (refine W_callK rfl ?hg (by simp only [WB, execE, unE, args0, reduceIte, Nat.reduceEqDiff, Nat.reduceAdd, Nat.reduceLeDiff, q1, q3, q4, g0', binE, isShift, intBin, WO, fillX, splice] <;> exact rfl) (call30 _ _ _) ?_; (case hg => (simp only [WG, reduceIte, Nat.reduceEqDiff]; done)); rintro _ _ ⟨rfl, rfl⟩ _)
      | (refine W_callGT rfl ?hg (by simp only [WB, execE, unE, args0, reduceIte, Nat.reduceEqDiff, Nat.reduceAdd, Nat.reduceLeDiff, q1, q3, q4, g0', binE, isShift, intBin, WO, fillX, splice] <;> exact rfl) (call30 _ _ _) ?_ ?_; (case hg => (simp only [WB, execE, unE, args0, reduceIte, Nat.reduceEqDiff, Nat.reduceAdd, Nat.reduceLeDiff, q1, q3, q4, g0', binE, isShift, intBin, WO, fillX, splice, toB_b]; done)); (all_goals (intro hc; simp only [WB, execE, unE, args0, reduceIte, Nat.reduceEqDiff, Nat.reduceAdd, Nat.reduceLeDiff, q1, q3, q4, g0', binE, isShift, intBin, WO, fillX, splice, toB_b] at hc; first | (rintro _ _ ⟨rfl, rfl⟩ _; (try simp only [hc])) | (try simp only [hc]))))
      | (refine W_callGF rfl ?hg (by simp only [WB, execE, unE, args0, reduceIte, Nat.reduceEqDiff, Nat.reduceAdd, Nat.reduceLeDiff, q1, q3, q4, g0', binE, isShift, intBin, WO, fillX, splice] <;> exact rfl) (call30 _ _ _) ?_ ?_; (case hg => (simp only [WB, execE, unE, args0, reduceIte, Nat.reduceEqDiff, Nat.reduceAdd, Nat.reduceLeDiff, q1, q3, q4, g0', binE, isShift, intBin, WO, fillX, splice, toB_b]; done)); (all_goals (intro hc; simp only [WB, execE, unE, args0, reduceIte, Nat.reduceEqDiff, Nat.reduceAdd, Nat.reduceLeDiff, q1, q3, q4, g0', binE, isShift, intBin, WO, fillX, splice, toB_b] at hc; first | (rintro _ _ ⟨rfl, rfl⟩ _; (try simp only [hc])) | (try simp only [hc]))))
      | refine W_exit rfl ?_
      | (refine W_opgST rfl rfl ?hg ?_ ?_; (case hg => (simp only [WB, execE, unE, args0, reduceIte, Nat.reduceEqDiff, Nat.reduceAdd, Nat.reduceLeDiff, q1, q3, q4, g0', binE, isShift, intBin, WO, fillX, splice, toB_b]; done)); (all_goals (intro hc; simp only [WB, execE, unE, args0, reduceIte, Nat.reduceEqDiff, Nat.reduceAdd, Nat.reduceLeDiff, q1, q3, q4, g0', binE, isShift, intBin, WO, fillX, splice, toB_b] at hc; simp only [hc, WB, execE, unE, args0, reduceIte, Nat.reduceEqDiff, Nat.reduceAdd, Nat.reduceLeDiff, q1, q3, q4, g0', binE, isShift, intBin, WO, fillX, splice, Wo_some])))
      | (refine W_opgSF rfl rfl ?hg ?_ ?_; (case hg => (simp only [WB, execE, unE, args0, reduceIte, Nat.reduceEqDiff, Nat.reduceAdd, Nat.reduceLeDiff, q1, q3, q4, g0', binE, isShift, intBin, WO, fillX, splice, toB_b]; done)); (all_goals (intro hc; simp only [WB, execE, unE, args0, reduceIte, Nat.reduceEqDiff, Nat.reduceAdd, Nat.reduceLeDiff, q1, q3, q4, g0', binE, isShift, intBin, WO, fillX, splice, toB_b] at hc; simp only [hc, WB, execE, unE, args0, reduceIte, Nat.reduceEqDiff, Nat.reduceAdd, Nat.reduceLeDiff, q1, q3, q4, g0', binE, isShift, intBin, WO, fillX, splice, Wo_some])))
      | (refine W_cond ?_; simp only [WB, execE, unE, args0, reduceIte, Nat.reduceEqDiff, Nat.reduceAdd, Nat.reduceLeDiff, q1, q3, q4, g0', binE, isShift, intBin, WO, fillX, splice, WC]; first | (refine WC_split (fun hc => ?_) (fun hc => ?_) <;> (try simp only [hc])) | skip)
      )
    all_goals first
      | (refine W_getRet (by repeat (first | exact hg | exact args0_un (Nat.le_of_ble_eq_true rfl) | refine upd_un ?_ rfl)) ?_
         exact ⟨dB, _, rfl, _, rfl, fun _ => hR, kB'.out⟩)
      | (refine W_j (by repeat (first | exact hg | exact args0_un (Nat.le_of_ble_eq_true rfl) | refine upd_un ?_ rfl)) ?_
         refine ⟨?_, ?_, ?_, rfl⟩ <;> simp only [upd_at, upd_none, reduceIte, Nat.reduceEqDiff, args0, List.getD_cons_zero, List.getD_cons_succ, List.getD_nil, q1, q3, q4])
  clear q1 q3 q4 hg g1
  rintro g1 m1 ⟨q1, q3, q4, rfl⟩ hg
  rw [W_seq]
  refine W_cutQ [_] (fun g' m' => g' 1 = .p (some (m.next, 0)) ∧ g' 3 = .i .i64 k ∧ m' = m1) ?_ ?_
  · simp only [List.cons_append, List.nil_append]
    repeat' (first
      | ((first | refine W_op rfl rfl ?_ | (refine W_opgT rfl rfl ?hg ?_; (case hg => (simp only [WG, reduceIte, Nat.reduceEqDiff]; done)))); simp only [WB, execE, unE, args0, reduceIte, Nat.reduceEqDiff, Nat.reduceAdd, Nat.reduceLeDiff, q1, q3, g0', binE, isShift, intBin, WO, fillX, splice, Wo_some])
      | (refine W_opgF rfl rfl ?hg ?_; (case hg => (simp only [WG, reduceIte, Nat.reduceEqDiff]; done)))
      | (refine W_opgU rfl ?hg ?_; (case hg => (simp only [WG, reduceIte, Nat.reduceEqDiff]; done)))
      | rw [W_seq] | rw [W_reg] | rw [push_no] | rw [push_yes] | rw [W_onil] | rw [W_skip] | rw [W_blk] | rw [W_b] | refine W_regd0 ?_ | refine W_regd ?_
      | (refine W_callN rfl ?hg ?_; (case hg => (simp only [WG, reduceIte, Nat.reduceEqDiff]; done)))
      | (refine W_callA rfl (by simp only [WB, execE, unE, args0, reduceIte, Nat.reduceEqDiff, Nat.reduceAdd, Nat.reduceLeDiff, q1, q3, g0', binE, isShift, intBin, WO, fillX, splice] <;> exact rfl) (call30 _ _ _) ?_; rintro _ _ ⟨rfl, rfl⟩ _)
      | (refine W_callK rfl ?hg (by simp only [WB, execE, unE, args0, reduceIte, Nat.reduceEqDiff, Nat.reduceAdd, Nat.reduceLeDiff, q1, q3, g0', binE, isShift, intBin, WO, fillX, splice] <;> exact rfl) (call30 _ _ _) ?_; (case hg => (simp only [WG, reduceIte, Nat.reduceEqDiff]; done)); rintro _ _ ⟨rfl, rfl⟩ _)
      | (refine W_callGT rfl ?hg (by simp only [WB, execE, unE, args0, reduceIte, Nat.reduceEqDiff, Nat.reduceAdd, Nat.reduceLeDiff, q1, q3, g0', binE, isShift, intBin, WO, fillX, splice] <;> exact rfl) (call30 _ _ _) ?_ ?_; (case hg => (simp only [WB, execE, unE, args0, reduceIte, Nat.reduceEqDiff, Nat.reduceAdd, Nat.reduceLeDiff, q1, q3, g0', binE, isShift, intBin, WO, fillX, splice, toB_b]; done)); (all_goals (intro hc; simp only [WB, execE, unE, args0, reduceIte, Nat.reduceEqDiff, Nat.reduceAdd, Nat.reduceLeDiff, q1, q3, g0', binE, isShift, intBin, WO, fillX, splice, toB_b] at hc; first | (rintro _ _ ⟨rfl, rfl⟩ _; (try simp only [hc])) | (try simp only [hc]))))
      | (refine W_callGF rfl ?hg (by simp only [WB, execE, unE, args0, reduceIte, Nat.reduceEqDiff, Nat.reduceAdd, Nat.reduceLeDiff, q1, q3, g0', binE, isShift, intBin, WO, fillX, splice] <;> exact rfl) (call30 _ _ _) ?_ ?_; (case hg => (simp only [WB, execE, unE, args0, reduceIte, Nat.reduceEqDiff, Nat.reduceAdd, Nat.reduceLeDiff, q1, q3, g0', binE, isShift, intBin, WO, fillX, splice, toB_b]; done)); (all_goals (intro hc; simp only [WB, execE, unE, args0, reduceIte, Nat.reduceEqDiff, Nat.reduceAdd, Nat.reduceLeDiff, q1, q3, g0', binE, isShift, intBin, WO, fillX, splice, toB_b] at hc; first | (rintro _ _ ⟨rfl, rfl⟩ _; (try simp only [hc])) | (try simp only [hc]))))
      | refine W_exit rfl ?_
      | (refine W_opgST rfl rfl ?hg ?_ ?_; (case hg => (simp only [WB, execE, unE, args0, reduceIte, Nat.reduceEqDiff, Nat.reduceAdd, Nat.reduceLeDiff, q1, q3, g0', binE, isShift, intBin, WO, fillX, splice, toB_b]; done)); (all_goals (intro hc; simp only [WB, execE, unE, args0, reduceIte, Nat.reduceEqDiff, Nat.reduceAdd, Nat.reduceLeDiff, q1, q3, g0', binE, isShift, intBin, WO, fillX, splice, toB_b] at hc; simp only [hc, WB, execE, unE, args0, reduceIte, Nat.reduceEqDiff, Nat.reduceAdd, Nat.reduceLeDiff, q1, q3, g0', binE, isShift, intBin, WO, fillX, splice, Wo_some])))
      | (refine W_opgSF rfl rfl ?hg ?_ ?_; (case hg => (simp only [WB, execE, unE, args0, reduceIte, Nat.reduceEqDiff, Nat.reduceAdd, Nat.reduceLeDiff, q1, q3, g0', binE, isShift, intBin, WO, fillX, splice, toB_b]; done)); (all_goals (intro hc; simp only [WB, execE, unE, args0, reduceIte, Nat.reduceEqDiff, Nat.reduceAdd, Nat.reduceLeDiff, q1, q3, g0', binE, isShift, intBin, WO, fillX, splice, toB_b] at hc; simp only [hc, WB, execE, unE, args0, reduceIte, Nat.reduceEqDiff, Nat.reduceAdd, Nat.reduceLeDiff, q1, q3, g0', binE, isShift, intBin, WO, fillX, splice, Wo_some])))
      | (refine W_cond ?_; simp only [WB, execE, unE, args0, reduceIte, Nat.reduceEqDiff, Nat.reduceAdd, Nat.reduceLeDiff, q1, q3, g0', binE, isShift, intBin, WO, fillX, splice, WC]; first | (refine WC_split (fun hc => ?_) (fun hc => ?_) <;> (try simp only [hc])) | skip)
      )
    all_goals first
      | (refine W_getRet (by repeat (first | exact hg | exact args0_un (Nat.le_of_ble_eq_true rfl) | refine upd_un ?_ rfl)) ?_
         exact ⟨dB, _, rfl, _, rfl, fun _ => hR, kB'.out⟩)
      | (refine W_j (by repeat (first | exact hg | exact args0_un (Nat.le_of_ble_eq_true rfl) | refine upd_un ?_ rfl)) ?_
         refine ⟨?_, ?_, rfl⟩ <;> simp only [upd_at, upd_none, reduceIte, Nat.reduceEqDiff, args0, List.getD_cons_zero, List.getD_cons_succ, List.getD_nil, q1, q3])
  clear q1 q3 q4 hg g1
  rintro g1 m1 ⟨q1, q3, rfl⟩ hg
  rw [W_seq]
  refine W_cutQ [_] (fun g' m' => g' 1 = .p (some (m.next, 0)) ∧ g' 3 = .i .i64 k ∧ m' = m1) ?_ ?_
  · simp only [List.cons_append, List.nil_append]
    repeat' (first
      | ((first | refine W_op rfl rfl ?_ | (refine W_opgT rfl rfl ?hg ?_; (case hg => (simp only [WG, reduceIte, Nat.reduceEqDiff]; done)))); simp only [WB, execE, unE, args0, reduceIte, Nat.reduceEqDiff, Nat.reduceAdd, Nat.reduceLeDiff, q1, q3, g0', binE, isShift, intBin, WO, fillX, splice, Wo_some])
      | (refine W_opgF rfl rfl ?hg ?_; (case hg => (simp only [WG, reduceIte, Nat.reduceEqDiff]; done)))
      | (refine W_opgU rfl ?hg ?_; (case hg => (simp only [WG, reduceIte, Nat.reduceEqDiff]; done)))
      | rw [W_seq] | rw [W_reg] | rw [push_no] | rw [push_yes] | rw [W_onil] | rw [W_skip] | rw [W_blk] | rw [W_b] | refine W_regd0 ?_ | refine W_regd ?_
      | (refine W_callN rfl ?hg ?_; (case hg => (simp only [WG, reduceIte, Nat.reduceEqDiff]; done)))
      | (refine W_callA rfl (by simp only [WB, execE, unE, args0, reduceIte, Nat.reduceEqDiff, Nat.reduceAdd, Nat.reduceLeDiff, q1, q3, g0', binE, isShift, intBin, WO, fillX, splice] <;> exact rfl) (call30 _ _ _) ?_; rintro _ _ ⟨rfl, rfl⟩ _)
      | (refine W_callK rfl ?hg (by simp only [WB, execE, unE, args0, reduceIte, Nat.reduceEqDiff, Nat.reduceAdd, Nat.reduceLeDiff, q1, q3, g0', binE, isShift, intBin, WO, fillX, splice] <;> exact rfl) (call30 _ _ _) ?_; (case hg => (simp only [WG, reduceIte, Nat.reduceEqDiff]; done)); rintro _ _ ⟨rfl, rfl⟩ _)
      | (refine W_callGT rfl ?hg (by simp only [WB, execE, unE, args0, reduceIte, Nat.reduceEqDiff, Nat.reduceAdd, Nat.reduceLeDiff, q1, q3, g0', binE, isShift, intBin, WO, fillX, splice] <;> exact rfl) (call30 _ _ _) ?_ ?_; (case hg => (simp only [WB, execE, unE, args0, reduceIte, Nat.reduceEqDiff, Nat.reduceAdd, Nat.reduceLeDiff, q1, q3, g0', binE, isShift, intBin, WO, fillX, splice, toB_b]; done)); (all_goals (intro hc; simp only [WB, execE, unE, args0, reduceIte, Nat.reduceEqDiff, Nat.reduceAdd, Nat.reduceLeDiff, q1, q3, g0', binE, isShift, intBin, WO, fillX, splice, toB_b] at hc; first | (rintro _ _ ⟨rfl, rfl⟩ _; (try simp only [hc])) | (try simp only [hc]))))
      | (refine W_callGF rfl ?hg (by simp only [WB, execE, unE, args0, reduceIte, Nat.reduceEqDiff, Nat.reduceAdd, Nat.reduceLeDiff, q1, q3, g0', binE, isShift, intBin, WO, fillX, splice] <;> exact rfl) (call30 _ _ _) ?_ ?_; (case hg => (simp only [WB, execE, unE, args0, reduceIte, Nat.reduceEqDiff, Nat.reduceAdd, Nat.reduceLeDiff, q1, q3, g0', binE, isShift, intBin, WO, fillX, splice, toB_b]; done)); (all_goals (intro hc; simp only [WB, execE, unE, args0, reduceIte, Nat.reduceEqDiff, Nat.reduceAdd, Nat.reduceLeDiff, q1, q3, g0', binE, isShift, intBin, WO, fillX, splice, toB_b] at hc; first | (rintro _ _ ⟨rfl, rfl⟩ _; (try simp only [hc])) | (try simp only [hc]))))
      | refine W_exit rfl ?_
      | (refine W_opgST rfl rfl ?hg ?_ ?_; (case hg => (simp only [WB, execE, unE, args0, reduceIte, Nat.reduceEqDiff, Nat.reduceAdd, Nat.reduceLeDiff, q1, q3, g0', binE, isShift, intBin, WO, fillX, splice, toB_b]; done)); (all_goals (intro hc; simp only [WB, execE, unE, args0, reduceIte, Nat.reduceEqDiff, Nat.reduceAdd, Nat.reduceLeDiff, q1, q3, g0', binE, isShift, intBin, WO, fillX, splice, toB_b] at hc; simp only [hc, WB, execE, unE, args0, reduceIte, Nat.reduceEqDiff, Nat.reduceAdd, Nat.reduceLeDiff, q1, q3, g0', binE, isShift, intBin, WO, fillX, splice, Wo_some])))
      | (refine W_opgSF rfl rfl ?hg ?_ ?_; (case hg => (simp only [WB, execE, unE, args0, reduceIte, Nat.reduceEqDiff, Nat.reduceAdd, Nat.reduceLeDiff, q1, q3, g0', binE, isShift, intBin, WO, fillX, splice, toB_b]; done)); (all_goals (intro hc; simp only [WB, execE, unE, args0, reduceIte, Nat.reduceEqDiff, Nat.reduceAdd, Nat.reduceLeDiff, q1, q3, g0', binE, isShift, intBin, WO, fillX, splice, toB_b] at hc; simp only [hc, WB, execE, unE, args0, reduceIte, Nat.reduceEqDiff, Nat.reduceAdd, Nat.reduceLeDiff, q1, q3, g0', binE, isShift, intBin, WO, fillX, splice, Wo_some])))
      | (refine W_cond ?_; simp only [WB, execE, unE, args0, reduceIte, Nat.reduceEqDiff, Nat.reduceAdd, Nat.reduceLeDiff, q1, q3, g0', binE, isShift, intBin, WO, fillX, splice, WC]; first | (refine WC_split (fun hc => ?_) (fun hc => ?_) <;> (try simp only [hc])) | skip)
      )
    all_goals first
      | (refine W_getRet (by repeat (first | exact hg | exact args0_un (Nat.le_of_ble_eq_true rfl) | refine upd_un ?_ rfl)) ?_
         exact ⟨dB, _, rfl, _, rfl, fun _ => hR, kB'.out⟩)
      | (refine W_j (by repeat (first | exact hg | exact args0_un (Nat.le_of_ble_eq_true rfl) | refine upd_un ?_ rfl)) ?_
         refine ⟨?_, ?_, rfl⟩ <;> simp only [upd_at, upd_none, reduceIte, Nat.reduceEqDiff, args0, List.getD_cons_zero, List.getD_cons_succ, List.getD_nil, q1, q3])
  clear q1 q3 hg g1
  rintro g1 m1 ⟨q1, q3, rfl⟩ hg
  repeat' (first
    | ((first | refine W_op rfl rfl ?_ | (refine W_opgT rfl rfl ?hg ?_; (case hg => (simp only [WG, reduceIte, Nat.reduceEqDiff]; done)))); simp only [WB, execE, unE, args0, reduceIte, Nat.reduceEqDiff, Nat.reduceAdd, Nat.reduceLeDiff, q1, q3, g0', hne, binE, isShift, intBin, WO, fillX, splice, Wo_some])
    | (refine W_opgF rfl rfl ?hg ?_; (case hg => (simp only [WG, reduceIte, Nat.reduceEqDiff]; done)))
    | (refine W_opgU rfl ?hg ?_; (case hg => (simp only [WG, reduceIte, Nat.reduceEqDiff]; done)))
    | rw [W_seq] | rw [W_reg] | rw [push_no] | rw [push_yes] | rw [W_onil] | rw [W_skip] | rw [W_blk] | rw [W_b] | refine W_regd0 ?_ | refine W_regd ?_
    | (refine W_callN rfl ?hg ?_; (case hg => (simp only [WG, reduceIte, Nat.reduceEqDiff]; done)))
    | (refine W_callA rfl (by simp only [WB, execE, unE, args0, reduceIte, Nat.reduceEqDiff, Nat.reduceAdd, Nat.reduceLeDiff, q1, q3, g0', hne, binE, isShift, intBin, WO, fillX, splice] <;> exact rfl) (call30 _ _ _) ?_; rintro _ _ ⟨rfl, rfl⟩ _)
    | (refine W_callK rfl ?hg (by simp only [WB, execE, unE, args0, reduceIte, Nat.reduceEqDiff, Nat.reduceAdd, Nat.reduceLeDiff, q1, q3, g0', hne, binE, isShift, intBin, WO, fillX, splice] <;> exact rfl) (call30 _ _ _) ?_; (case hg => (simp only [WG, reduceIte, Nat.reduceEqDiff]; done)); rintro _ _ ⟨rfl, rfl⟩ _)
    | (refine W_callGT rfl ?hg (by simp only [WB, execE, unE, args0, reduceIte, Nat.reduceEqDiff, Nat.reduceAdd, Nat.reduceLeDiff, q1, q3, g0', hne, binE, isShift, intBin, WO, fillX, splice] <;> exact rfl) (call30 _ _ _) ?_ ?_; (case hg => (simp only [WB, execE, unE, args0, reduceIte, Nat.reduceEqDiff, Nat.reduceAdd, Nat.reduceLeDiff, q1, q3, g0', hne, binE, isShift, intBin, WO, fillX, splice, toB_b]; done)); (all_goals (intro hc; simp only [WB, execE, unE, args0, reduceIte, Nat.reduceEqDiff, Nat.reduceAdd, Nat.reduceLeDiff, q1, q3, g0', hne, binE, isShift, intBin, WO, fillX, splice, toB_b] at hc; first | (rintro _ _ ⟨rfl, rfl⟩ _; (try simp only [hc])) | (try simp only [hc]))))
    | (refine W_callGF rfl ?hg (by simp only [WB, execE, unE, args0, reduceIte, Nat.reduceEqDiff, Nat.reduceAdd, Nat.reduceLeDiff, q1, q3, g0', hne, binE, isShift, intBin, WO, fillX, splice] <;> exact rfl) (call30 _ _ _) ?_ ?_; (case hg => (simp only [WB, execE, unE, args0, reduceIte, Nat.reduceEqDiff, Nat.reduceAdd, Nat.reduceLeDiff, q1, q3, g0', hne, binE, isShift, intBin, WO, fillX, splice, toB_b]; done)); (all_goals (intro hc; simp only [WB, execE, unE, args0, reduceIte, Nat.reduceEqDiff, Nat.reduceAdd, Nat.reduceLeDiff, q1, q3, g0', hne, binE, isShift, intBin, WO, fillX, splice, toB_b] at hc; first | (rintro _ _ ⟨rfl, rfl⟩ _; (try simp only [hc])) | (try simp only [hc]))))
    | refine W_exit rfl ?_
    | (refine W_opgST rfl rfl ?hg ?_ ?_; (case hg => (simp only [WB, execE, unE, args0, reduceIte, Nat.reduceEqDiff, Nat.reduceAdd, Nat.reduceLeDiff, q1, q3, g0', hne, binE, isShift, intBin, WO, fillX, splice, toB_b]; done)); (all_goals (intro hc; simp only [WB, execE, unE, args0, reduceIte, Nat.reduceEqDiff, Nat.reduceAdd, Nat.reduceLeDiff, q1, q3, g0', hne, binE, isShift, intBin, WO, fillX, splice, toB_b] at hc; simp only [hc, WB, execE, unE, args0, reduceIte, Nat.reduceEqDiff, Nat.reduceAdd, Nat.reduceLeDiff, q1, q3, g0', hne, binE, isShift, intBin, WO, fillX, splice, Wo_some])))
    | (refine W_opgSF rfl rfl ?hg ?_ ?_; (case hg => (simp only [WB, execE, unE, args0, reduceIte, Nat.reduceEqDiff, Nat.reduceAdd, Nat.reduceLeDiff, q1, q3, g0', hne, binE, isShift, intBin, WO, fillX, splice, toB_b]; done)); (all_goals (intro hc; simp only [WB, execE, unE, args0, reduceIte, Nat.reduceEqDiff, Nat.reduceAdd, Nat.reduceLeDiff, q1, q3, g0', hne, binE, isShift, intBin, WO, fillX, splice, toB_b] at hc; simp only [hc, WB, execE, unE, args0, reduceIte, Nat.reduceEqDiff, Nat.reduceAdd, Nat.reduceLeDiff, q1, q3, g0', hne, binE, isShift, intBin, WO, fillX, splice, Wo_some])))
    | (refine W_cond ?_; simp only [WB, execE, unE, args0, reduceIte, Nat.reduceEqDiff, Nat.reduceAdd, Nat.reduceLeDiff, q1, q3, g0', hne, binE, isShift, intBin, WO, fillX, splice, WC]; first | (refine WC_split (fun hc => ?_) (fun hc => ?_) <;> (try simp only [hc])) | skip)
    )
  all_goals first
    | (refine W_getRet (by repeat (first | exact hg | exact args0_un (Nat.le_of_ble_eq_true rfl) | refine upd_un ?_ rfl)) ?_
       exact ⟨dB, _, rfl, _, rfl, fun _ => hR, kB'.out⟩)
    | (refine W_j (by repeat (first | exact hg | exact args0_un (Nat.le_of_ble_eq_true rfl) | refine upd_un ?_ rfl)) ?_
       refine trivial <;> simp only [upd_at, upd_none, reduceIte, Nat.reduceEqDiff, args0, List.getD_cons_zero, List.getD_cons_succ, List.getD_nil])
set_option maxHeartbeats 4000000 in
theorem call11 {G nm nv : AV} {D : List Nf} (hg1 : G.one = true) (hn1 : nm.one = true) (h60 : D.length ≤ 60) : ∀ (s i : Nat) (m : AMem), D.length - i = s → i ≤ D.length → Arr m 10 nv D.length (flatF D) → (∀ d ∈ D, d.ok m) →
    Vi.Call T 11 [.agg [nv, G, nm], .i .i64 (i : Int)] m (fun v m' => (∃ e : Int, v = .i .i64 e ∧ (e < 0 ∨ ∃ e' : Nat, e = (e' : Int) ∧ i < e' ∧ e' ≤ D.length ∧ ∀ (j : Nat) d, i ≤ j → j < e' → D[j]? = some d → ∀ x ∈ d.kl, 0 ≤ x ∧ x < (D.length : Int))) ∧ Keep m m' []) := by
  intro s
  induction s using Nat.strongRecOn with
  | _ s ih =>
  intro i m hs hi hA hok
  have hlenN := hA.lenF
  have ho := hA.one
  refine Vi.Call.ofP T11 (Nat.le_of_ble_eq_true rfl) ?_
  unfold v11
  repeat (first | rw [W_seq] | rw [W_reg] | rw [push_no] | rw [push_yes] | rw [W_onil] | rw [W_skip] | rw [W_blk] | rw [W_b] | refine W_regd0 ?_ | refine W_regd ?_)
  refine W_op rfl rfl ?_
  simp only [WB, execE, unE, args0, reduceIte, Nat.reduceEqDiff, Nat.reduceAdd, Nat.reduceLeDiff, ho, hg1, hn1, WO, fillX, splice, Wo_some]
  repeat (first | rw [push_no] | rw [push_yes] | rw [W_onil])
  obtain ⟨mB, hmB, kB, bB, gB, dB, _, nB⟩ := mk_new m.inn [nv, G, nm] true (3 : Nat) 3 rfl
  have kB' : Keep m mB [] := kB.ofInn
  have gB' : mB.get m.next = some (.cells [nv, G, nm] true (3 : Nat)) := gB
  have nB' : m.next < mB.next := nB
  rw [← hmB]
  clear hmB gB bB nB
  by_cases h0 : D.length ≤ i
  · have c1 : decide ((i : Int) ≥ (D.length : Int)) = true := decide_eq_true (by omega)
    repeat (first
      | ((first | refine W_op rfl rfl ?_ | (refine W_opgT rfl rfl ?hg ?_; (case hg => (simp only [WG, reduceIte, Nat.reduceEqDiff]; done)))); simp only [WB, execE, unE, args0, reduceIte, Nat.reduceEqDiff, Nat.reduceAdd, Nat.reduceLeDiff, gB', c1, ↓hlenN, binE, isShift, intBin, WO, fillX, splice, Wo_some])
      | (refine W_opgF rfl rfl ?hg ?_; (case hg => (simp only [WG, reduceIte, Nat.reduceEqDiff]; done)))
      | (refine W_opgU rfl ?hg ?_; (case hg => (simp only [upd_at, reduceIte, Nat.reduceEqDiff]; done))) | (refine W_callN rfl ?hg ?_; (case hg => (simp only [WG, reduceIte, Nat.reduceEqDiff]; done))) | rw [W_seq] | rw [W_reg] | rw [push_no] | rw [push_yes] | rw [W_onil] | rw [W_skip] | rw [W_blk] | rw [W_b] | refine W_regd0 ?_ | refine W_regd ?_)
    refine W_cond ?_
    simp only [WB, execE, unE, args0, reduceIte, Nat.reduceEqDiff, Nat.reduceAdd, Nat.reduceLeDiff, WC]
    repeat (first
      | ((first | refine W_op rfl rfl ?_ | (refine W_opgT rfl rfl ?hg ?_; (case hg => (simp only [WG, reduceIte, Nat.reduceEqDiff]; done)))); simp only [WB, execE, unE, args0, reduceIte, Nat.reduceEqDiff, Nat.reduceAdd, Nat.reduceLeDiff, WO, fillX, splice, Wo_some])
      | (refine W_opgF rfl rfl ?hg ?_; (case hg => (simp only [WG, reduceIte, Nat.reduceEqDiff]; done)))
      | (refine W_opgU rfl ?hg ?_; (case hg => (simp only [upd_at, reduceIte, Nat.reduceEqDiff]; done))) | (refine W_callN rfl ?hg ?_; (case hg => (simp only [WG, reduceIte, Nat.reduceEqDiff]; done))) | rw [W_seq] | rw [W_reg] | rw [push_no] | rw [push_yes] | rw [W_onil] | rw [W_skip] | rw [W_blk] | rw [W_b] | refine W_regd0 ?_ | refine W_regd ?_)
    refine W_getRet (by repeat (first | exact hg | exact args0_un (Nat.le_of_ble_eq_true rfl) | refine upd_un ?_ rfl)) ?_
    exact ⟨dB, _, rfl, ⟨-1, rfl, .inl (by decide)⟩, kB'.out⟩
  have c1 : decide ((i : Int) ≥ (D.length : Int)) = false := decide_eq_false (by omega)
  have hlt : i < D.length := by omega
  have hwi : IntKind.i64.wrap ((i : Int) + 1) = ((i + 1 : Nat) : Int) := wr_i64 (n := (i : Int) + 1) (by omega) (by omega)
  obtain ⟨d, hd⟩ : ∃ d, D[i]? = some d := ⟨_, List.getElem?_eq_getElem hlt⟩
  have hdo := hok d (List.mem_of_getElem? hd)
  have hA0 := hA
  obtain ⟨j, o, cap, ex, c, wr, es, rfl, hj, hgj, hck⟩ := hA0.full (by omega)
  have hc9 : c[o + i * 10 + 9]? = some d.kv := by rw [Nat.add_assoc, hck _ (by omega), flatF_get hd (by omega)]; rfl
  have hix : (0 ≤ (i : Int) ∧ (i : Int) < (D.length : Int)) := ⟨by omega, by omega⟩
  have hlenK := hdo.kids.lenF
  have hkn := hdo.kidn
  repeat (first
    | ((first | refine W_op rfl rfl ?_ | (refine W_opgT rfl rfl ?hg ?_; (case hg => (simp only [WG, reduceIte, Nat.reduceEqDiff]; done)))); simp only [WB, execE, unE, args0, reduceIte, Nat.reduceEqDiff, Nat.reduceAdd, Nat.reduceLeDiff, gB', c1, ↓hlenN, binE, isShift, intBin, WO, fillX, splice, Wo_some])
    | (refine W_opgF rfl rfl ?hg ?_; (case hg => (simp only [WG, reduceIte, Nat.reduceEqDiff]; done)))
    | (refine W_opgU rfl ?hg ?_; (case hg => (simp only [upd_at, reduceIte, Nat.reduceEqDiff]; done))) | (refine W_callN rfl ?hg ?_; (case hg => (simp only [WG, reduceIte, Nat.reduceEqDiff]; done))) | rw [W_seq] | rw [W_reg] | rw [push_no] | rw [push_yes] | rw [W_onil] | rw [W_skip] | rw [W_blk] | rw [W_b] | refine W_regd0 ?_ | refine W_regd ?_)
  refine W_cond ?_
  simp only [WB, execE, unE, args0, reduceIte, Nat.reduceEqDiff, Nat.reduceAdd, Nat.reduceLeDiff, WC]
  repeat (first
    | ((first | refine W_op rfl rfl ?_ | (refine W_opgT rfl rfl ?hg ?_; (case hg => (simp only [WG, reduceIte, Nat.reduceEqDiff]; done)))); simp only [WB, execE, unE, args0, reduceIte, Nat.reduceEqDiff, Nat.reduceAdd, Nat.reduceLeDiff, hwi, binE, isShift, intBin, WO, fillX, splice, Wo_some])
    | (refine W_opgF rfl rfl ?hg ?_; (case hg => (simp only [WG, reduceIte, Nat.reduceEqDiff]; done)))
    | (refine W_opgU rfl ?hg ?_; (case hg => (simp only [upd_at, reduceIte, Nat.reduceEqDiff]; done))) | (refine W_callN rfl ?hg ?_; (case hg => (simp only [WG, reduceIte, Nat.reduceEqDiff]; done))) | rw [W_seq] | rw [W_reg] | rw [push_no] | rw [push_yes] | rw [W_onil] | rw [W_skip] | rw [W_blk] | rw [W_b] | refine W_regd0 ?_ | refine W_regd ?_)
  refine W_loop (fun k g' m' => ∃ (kk nx : Nat), kk ≤ d.kl.length ∧ k = d.kl.length - kk ∧ g' 1 = .i .i64 i ∧ g' 2 = .p (some (m.next, 0)) ∧ g' 5 = .i .i64 nx ∧ g' 6 = .i .i64 kk ∧ i < nx ∧ nx ≤ D.length ∧ (∀ (t : Nat) d', i < t → t < nx → D[t]? = some d' → ∀ x ∈ d'.kl, 0 ≤ x ∧ x < (D.length : Int)) ∧ (∀ x ∈ d.kl.take kk, 0 ≤ x ∧ x < (D.length : Int)) ∧ Keep m m' [] ∧ m'.get m.next = some (.cells [.sl (some (j, o)) D.length cap ex, G, nm] true (3 : Nat)) ∧ m.next < m'.next ∧ m'.ds = []) d.kl.length ?_ ?_ ?_
  · refine ⟨0, i + 1, Nat.zero_le _, rfl, ?_, ?_, ?_, ?_, by omega, by omega, fun t d' h1 h2 => by omega, by simp, kB', gB', nB', dB⟩
    · skip
      simp only [upd_at, upd_none, reduceIte, Nat.reduceEqDiff, args0, List.getD_cons_zero, List.getD_cons_succ, List.getD_nil]
    · skip
      simp only [upd_at, upd_none, reduceIte, Nat.reduceEqDiff, args0, List.getD_cons_zero, List.getD_cons_succ, List.getD_nil]
    · skip
      simp only [upd_at, upd_none, reduceIte, Nat.reduceEqDiff, args0, List.getD_cons_zero, List.getD_cons_succ, List.getD_nil]
    · skip
      simp only [upd_at, upd_none, reduceIte, Nat.reduceEqDiff, args0, List.getD_cons_zero, List.getD_cons_succ, List.getD_nil, Int.ofNat_zero]
      try rfl
  · intro i hi
    repeat (first | exact args0_un (Nat.le_of_ble_eq_true rfl) i hi | refine upd_un ?_ rfl i hi; clear i hi; intro i hi)
  · rintro k g m1 ⟨kk, nx, hkk, rfl, q1, q2, q5, q6, hnx, hnx2, hT, hK, k1, g1, n1, d1⟩ hg
    have gj1 : m1.get j = some (.cells c wr es) := k1.at hj (by simp) hgj
    repeat (first
      | ((first | refine W_op rfl rfl ?_ | (refine W_opgT rfl rfl ?hg ?_; (case hg => (simp only [WG, reduceIte, Nat.reduceEqDiff]; done)))); simp only [WB, execE, unE, args0, reduceIte, Nat.reduceEqDiff, Nat.reduceAdd, Nat.reduceLeDiff, q1, q2, q6, g1, hix, Int.toNat_natCast, gj1, hc9, ↓hlenK, binE, isShift, intBin, WO, fillX, splice, Wo_some])
      | (refine W_opgF rfl rfl ?hg ?_; (case hg => (simp only [WG, reduceIte, Nat.reduceEqDiff]; done)))
      | (refine W_opgU rfl ?hg ?_; (case hg => (simp only [upd_at, reduceIte, Nat.reduceEqDiff]; done))) | (refine W_callN rfl ?hg ?_; (case hg => (simp only [WG, reduceIte, Nat.reduceEqDiff]; done))) | rw [W_seq] | rw [W_reg] | rw [push_no] | rw [push_yes] | rw [W_onil] | rw [W_skip] | rw [W_blk] | rw [W_b] | refine W_regd0 ?_ | refine W_regd ?_)
    refine W_cond ?_
    simp only [WB, execE, unE, args0, reduceIte, Nat.reduceEqDiff, Nat.reduceAdd, Nat.reduceLeDiff]
    refine WC_split (fun ht => ?_) (fun hf => ?_)
    · have hlt2 : kk < d.kl.length := by simpa using ht
      obtain ⟨x, hx⟩ : ∃ x, d.kl[kk]? = some x := ⟨_, List.getElem?_eq_getElem hlt2⟩
      obtain ⟨j2, o2, cap2, ex2, c2, wr2, es2, hkv, hj2, hg2, hck2⟩ := (hdo.kids.keep0 k1).full (by omega)
      have hcx : c2[o2 + kk]? = some (.i .i64 x) := (hck2 kk (by omega)).trans (ints_get hx)
      rw [hkv] at hc9
      have hix2 : (0 ≤ (kk : Int) ∧ (kk : Int) < (d.kl.length : Int)) := ⟨by omega, by omega⟩
      have hwk : IntKind.i64.wrap ((kk : Int) + 1) = ((kk + 1 : Nat) : Int) := wr_i64 (n := (kk : Int) + 1) (by omega) (by omega)
      have b1 : rd m1 m.next 0 3 = some [.sl (some (j, o)) D.length cap ex, G, nm] := by simp [rd, g1]
      by_cases hxe : x = (nx : Int)
      case neg =>
        have c2 : (x != (nx : Int)) = true := by simpa using hxe
        repeat (first
          | ((first | refine W_op rfl rfl ?_ | (refine W_opgT rfl rfl ?hg ?_; (case hg => (simp only [WG, reduceIte, Nat.reduceEqDiff]; done)))); simp only [WB, execE, unE, args0, reduceIte, Nat.reduceEqDiff, Nat.reduceAdd, Nat.reduceLeDiff, q1, q2, q5, q6, g1, hix, hix2, Int.toNat_natCast, Nat.mul_one, gj1, hc9, hg2, hcx, c2, binE, isShift, intBin, WO, fillX, splice, Wo_some])
          | (refine W_opgF rfl rfl ?hg ?_; (case hg => (simp only [WG, reduceIte, Nat.reduceEqDiff]; done)))
          | (refine W_opgU rfl ?hg ?_; (case hg => (simp only [upd_at, reduceIte, Nat.reduceEqDiff]; done))) | (refine W_callN rfl ?hg ?_; (case hg => (simp only [WG, reduceIte, Nat.reduceEqDiff]; done))) | rw [W_seq] | rw [W_reg] | rw [push_no] | rw [push_yes] | rw [W_onil] | rw [W_skip] | rw [W_blk] | rw [W_b] | refine W_regd0 ?_ | refine W_regd ?_)
        refine W_cond ?_
        simp only [WB, execE, unE, args0, reduceIte, Nat.reduceEqDiff, Nat.reduceAdd, Nat.reduceLeDiff, WC]
        repeat (first
          | ((first | refine W_op rfl rfl ?_ | (refine W_opgT rfl rfl ?hg ?_; (case hg => (simp only [WG, reduceIte, Nat.reduceEqDiff]; done)))); simp only [WB, execE, unE, args0, reduceIte, Nat.reduceEqDiff, Nat.reduceAdd, Nat.reduceLeDiff, WO, fillX, splice, Wo_some])
          | (refine W_opgF rfl rfl ?hg ?_; (case hg => (simp only [WG, reduceIte, Nat.reduceEqDiff]; done)))
          | (refine W_opgU rfl ?hg ?_; (case hg => (simp only [upd_at, reduceIte, Nat.reduceEqDiff]; done))) | (refine W_callN rfl ?hg ?_; (case hg => (simp only [WG, reduceIte, Nat.reduceEqDiff]; done))) | rw [W_seq] | rw [W_reg] | rw [push_no] | rw [push_yes] | rw [W_onil] | rw [W_skip] | rw [W_blk] | rw [W_b] | refine W_regd0 ?_ | refine W_regd ?_)
        refine W_getRet (by repeat (first | exact hg | exact args0_un (Nat.le_of_ble_eq_true rfl) | refine upd_un ?_ rfl)) ?_
        exact ⟨d1, _, rfl, ⟨-1, rfl, .inl (by decide)⟩, k1.out⟩
      have c2 : (x != (nx : Int)) = false := by simpa using hxe
      repeat (first
        | ((first | refine W_op rfl rfl ?_ | (refine W_opgT rfl rfl ?hg ?_; (case hg => (simp only [WG, reduceIte, Nat.reduceEqDiff]; done)))); simp only [WB, execE, unE, args0, reduceIte, Nat.reduceEqDiff, Nat.reduceAdd, Nat.reduceLeDiff, q1, q2, q5, q6, g1, hix, hix2, Int.toNat_natCast, Nat.mul_one, gj1, hc9, hg2, hcx, c2, binE, isShift, intBin, WO, fillX, splice, Wo_some])
        | (refine W_opgF rfl rfl ?hg ?_; (case hg => (simp only [WG, reduceIte, Nat.reduceEqDiff]; done)))
        | (refine W_opgU rfl ?hg ?_; (case hg => (simp only [upd_at, reduceIte, Nat.reduceEqDiff]; done))) | (refine W_callN rfl ?hg ?_; (case hg => (simp only [WG, reduceIte, Nat.reduceEqDiff]; done))) | rw [W_seq] | rw [W_reg] | rw [push_no] | rw [push_yes] | rw [W_onil] | rw [W_skip] | rw [W_blk] | rw [W_b] | refine W_regd0 ?_ | refine W_regd ?_)
      refine W_cond ?_
      simp only [WB, execE, unE, args0, reduceIte, Nat.reduceEqDiff, Nat.reduceAdd, Nat.reduceLeDiff, WC]
      repeat (first
        | ((first | refine W_op rfl rfl ?_ | (refine W_opgT rfl rfl ?hg ?_; (case hg => (simp only [WG, reduceIte, Nat.reduceEqDiff]; done)))); simp only [WB, execE, unE, args0, reduceIte, Nat.reduceEqDiff, Nat.reduceAdd, Nat.reduceLeDiff, q2, q5, b1, WO, fillX, splice, Wo_some])
        | (refine W_opgF rfl rfl ?hg ?_; (case hg => (simp only [WG, reduceIte, Nat.reduceEqDiff]; done)))
        | (refine W_opgU rfl ?hg ?_; (case hg => (simp only [upd_at, reduceIte, Nat.reduceEqDiff]; done))) | (refine W_callN rfl ?hg ?_; (case hg => (simp only [WG, reduceIte, Nat.reduceEqDiff]; done))) | rw [W_seq] | rw [W_reg] | rw [push_no] | rw [push_yes] | rw [W_onil] | rw [W_skip] | rw [W_blk] | rw [W_b] | refine W_regd0 ?_ | refine W_regd ?_)
      refine W_callA rfl ?hargs (ih (D.length - nx) (by omega) nx m1 rfl hnx2 (hA.keep0 k1) (fun d hd => (hok d hd).keep0 k1)) ?_
      case hargs => simp only [WB, execE, unE, args0, reduceIte, Nat.reduceEqDiff, Nat.reduceAdd, Nat.reduceLeDiff] <;> rfl
      rintro v m2 ⟨⟨e, rfl, he⟩, k2⟩ hs2
      by_cases hneg : e < 0
      · have c3 : decide (e < 0) = true := decide_eq_true hneg
        repeat (first
          | ((first | refine W_op rfl rfl ?_ | (refine W_opgT rfl rfl ?hg ?_; (case hg => (simp only [WG, reduceIte, Nat.reduceEqDiff]; done)))); simp only [WB, execE, unE, args0, reduceIte, Nat.reduceEqDiff, Nat.reduceAdd, Nat.reduceLeDiff, c3, binE, isShift, intBin, WO, fillX, splice, Wo_some])
          | (refine W_opgF rfl rfl ?hg ?_; (case hg => (simp only [WG, reduceIte, Nat.reduceEqDiff]; done)))
          | (refine W_opgU rfl ?hg ?_; (case hg => (simp only [upd_at, reduceIte, Nat.reduceEqDiff]; done))) | (refine W_callN rfl ?hg ?_; (case hg => (simp only [WG, reduceIte, Nat.reduceEqDiff]; done))) | rw [W_seq] | rw [W_reg] | rw [push_no] | rw [push_yes] | rw [W_onil] | rw [W_skip] | rw [W_blk] | rw [W_b] | refine W_regd0 ?_ | refine W_regd ?_)
        refine W_cond ?_
        simp only [WB, execE, unE, args0, reduceIte, Nat.reduceEqDiff, Nat.reduceAdd, Nat.reduceLeDiff, WC]
        repeat (first
          | ((first | refine W_op rfl rfl ?_ | (refine W_opgT rfl rfl ?hg ?_; (case hg => (simp only [WG, reduceIte, Nat.reduceEqDiff]; done)))); simp only [WB, execE, unE, args0, reduceIte, Nat.reduceEqDiff, Nat.reduceAdd, Nat.reduceLeDiff, WO, fillX, splice, Wo_some])
          | (refine W_opgF rfl rfl ?hg ?_; (case hg => (simp only [WG, reduceIte, Nat.reduceEqDiff]; done)))
          | (refine W_opgU rfl ?hg ?_; (case hg => (simp only [upd_at, reduceIte, Nat.reduceEqDiff]; done))) | (refine W_callN rfl ?hg ?_; (case hg => (simp only [WG, reduceIte, Nat.reduceEqDiff]; done))) | rw [W_seq] | rw [W_reg] | rw [push_no] | rw [push_yes] | rw [W_onil] | rw [W_skip] | rw [W_blk] | rw [W_b] | refine W_regd0 ?_ | refine W_regd ?_)
        refine W_getRet (by repeat (first | exact hg | exact args0_un (Nat.le_of_ble_eq_true rfl) | refine upd_un ?_ rfl)) ?_
        exact ⟨hs2.ds.trans d1, _, rfl, ⟨-1, rfl, .inl (by decide)⟩, (k1.trans k2 (by simp)).out⟩
      have c3 : decide (e < 0) = false := decide_eq_false hneg
      obtain ⟨e', rfl, h1, h2, h3⟩ := he.resolve_left hneg
      repeat (first
        | ((first | refine W_op rfl rfl ?_ | (refine W_opgT rfl rfl ?hg ?_; (case hg => (simp only [WG, reduceIte, Nat.reduceEqDiff]; done)))); simp only [WB, execE, unE, args0, reduceIte, Nat.reduceEqDiff, Nat.reduceAdd, Nat.reduceLeDiff, c3, binE, isShift, intBin, WO, fillX, splice, Wo_some])
        | (refine W_opgF rfl rfl ?hg ?_; (case hg => (simp only [WG, reduceIte, Nat.reduceEqDiff]; done)))
        | (refine W_opgU rfl ?hg ?_; (case hg => (simp only [upd_at, reduceIte, Nat.reduceEqDiff]; done))) | (refine W_callN rfl ?hg ?_; (case hg => (simp only [WG, reduceIte, Nat.reduceEqDiff]; done))) | rw [W_seq] | rw [W_reg] | rw [push_no] | rw [push_yes] | rw [W_onil] | rw [W_skip] | rw [W_blk] | rw [W_b] | refine W_regd0 ?_ | refine W_regd ?_)
      refine W_cond ?_
      simp only [WB, execE, unE, args0, reduceIte, Nat.reduceEqDiff, Nat.reduceAdd, Nat.reduceLeDiff, WC]
      repeat (first
        | ((first | refine W_op rfl rfl ?_ | (refine W_opgT rfl rfl ?hg ?_; (case hg => (simp only [WG, reduceIte, Nat.reduceEqDiff]; done)))); simp only [WB, execE, unE, args0, reduceIte, Nat.reduceEqDiff, Nat.reduceAdd, Nat.reduceLeDiff, q6, hwk, binE, isShift, intBin, WO, fillX, splice, Wo_some])
        | (refine W_opgF rfl rfl ?hg ?_; (case hg => (simp only [WG, reduceIte, Nat.reduceEqDiff]; done)))
        | (refine W_opgU rfl ?hg ?_; (case hg => (simp only [upd_at, reduceIte, Nat.reduceEqDiff]; done))) | (refine W_callN rfl ?hg ?_; (case hg => (simp only [WG, reduceIte, Nat.reduceEqDiff]; done))) | rw [W_seq] | rw [W_reg] | rw [push_no] | rw [push_yes] | rw [W_onil] | rw [W_skip] | rw [W_blk] | rw [W_b] | refine W_regd0 ?_ | refine W_regd ?_)
      refine W_j (by repeat (first | exact hg | exact args0_un (Nat.le_of_ble_eq_true rfl) | refine upd_un ?_ rfl)) ?_
      refine ⟨d.kl.length - (kk + 1), by omega, kk + 1, e', by omega, rfl, ?_, ?_, ?_, ?_, by omega, h2, fun t d' ht1 ht2 hd' => ?_, fun y hy => ?_, k1.trans k2 (by simp), k2.at n1 (by simp) g1, Nat.lt_of_lt_of_le n1 k2.next, hs2.ds.trans d1⟩
      · skip
        simp only [upd_at, upd_none, reduceIte, Nat.reduceEqDiff, args0, List.getD_cons_zero, List.getD_cons_succ, List.getD_nil, q1]
      · skip
        simp only [upd_at, upd_none, reduceIte, Nat.reduceEqDiff, args0, List.getD_cons_zero, List.getD_cons_succ, List.getD_nil, q2]
      · skip
        simp only [upd_at, upd_none, reduceIte, Nat.reduceEqDiff, args0, List.getD_cons_zero, List.getD_cons_succ, List.getD_nil]
      · skip
        simp only [upd_at, upd_none, reduceIte, Nat.reduceEqDiff, args0, List.getD_cons_zero, List.getD_cons_succ, List.getD_nil]
      · by_cases h : t < nx
        · exact hT t d' ht1 h hd'
        · exact h3 t d' (by omega) ht2 hd'
      · rw [List.take_add_one, hx] at hy
        rcases List.mem_append.1 hy with h | h
        · exact hK y h
        · simp at h; subst h; omega
    · refine W_exit rfl ?_
      repeat (first
        | ((first | refine W_op rfl rfl ?_ | (refine W_opgT rfl rfl ?hg ?_; (case hg => (simp only [WG, reduceIte, Nat.reduceEqDiff]; done)))); simp only [WB, execE, unE, args0, reduceIte, Nat.reduceEqDiff, Nat.reduceAdd, Nat.reduceLeDiff, q5, WO, fillX, splice, Wo_some])
        | (refine W_opgF rfl rfl ?hg ?_; (case hg => (simp only [WG, reduceIte, Nat.reduceEqDiff]; done)))
        | (refine W_opgU rfl ?hg ?_; (case hg => (simp only [upd_at, reduceIte, Nat.reduceEqDiff]; done))) | (refine W_callN rfl ?hg ?_; (case hg => (simp only [WG, reduceIte, Nat.reduceEqDiff]; done))) | rw [W_seq] | rw [W_reg] | rw [push_no] | rw [push_yes] | rw [W_onil] | rw [W_skip] | rw [W_blk] | rw [W_b] | refine W_regd0 ?_ | refine W_regd ?_)
      refine W_getRet (by repeat (first | exact hg | exact args0_un (Nat.le_of_ble_eq_true rfl) | refine upd_un ?_ rfl)) ?_
      refine ⟨d1, _, rfl, ⟨nx, rfl, .inr ⟨nx, rfl, hnx, hnx2, fun t d' ht1 ht2 hd' => ?_⟩⟩, k1.out⟩
      by_cases h : t = i
      · subst h
        rw [hd] at hd'; cases hd'
        have : d.kl.take kk = d.kl := List.take_of_length_le (by simp at hf; omega)
        rwa [this] at hK
      · exact hT t d' (by omega) ht2 hd'
end Go.Proofs.YtdmoecehmclohaaGreatDoor
