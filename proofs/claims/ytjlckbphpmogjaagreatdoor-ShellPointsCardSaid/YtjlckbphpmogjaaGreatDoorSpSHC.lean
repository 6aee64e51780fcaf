/- Commands that add and take away points: what is told, and the session then. No condition. -/
import Derived.Test.YtjlckbphpmogjaaGreatDoorSpSHB
import Derived.Test.YtjlckbphpmogjaaGreatDoorSpViFx
import Derived.Test.YtjlckbphpmogjaaGreatDoorSpTZ
namespace Go.Proofs.YtjlckbphpmogjaaGreatDoor
open Go.Vi
set_option linter.unusedSimpArgs false
set_option linter.unusedVariables false

theorem call88 {m : AMem} {js jr : Nat} {B : Nat → AV} {pts rv : AV} {tr : List AV} {L : List (Int × Int)} {oj ty : Option Nat} (hS : Ses m js jr B pts rv tr) (hR : RowE m 2 ty pts oj L.length (flat2 L)) (h1 : 1 ≤ L.length) (hL : L.length ≤ 1000) (hoj : ∀ k, oj = some k → k ≠ js ∧ k ≠ jr) :
    Vi.Call T 88 [.p (some (js, 0)), .i .i64 0] m (fun v m' => v = .i .i64 0 ∧ (∃ pts', Ses m' js jr B pts' rv tr ∧ RowE m' 2 ty pts' oj L.tail.length (flat2 L.tail)) ∧ Keep m m' (js :: oj.toList)) := by
  have hlen := hR.arr.lenF
  cases oj with
  | none =>
    obtain ⟨_, _, h2⟩ := hR
    omega
  | some j =>
    obtain ⟨h0, c, cap, ex, rfl, hj, hg, hc, hn, ht⟩ := hR
    have hne := hoj j rfl
    have ho := hS.obj
    have hji := hS.hi
    refine Vi.Call.ofP T88 (Nat.le_of_ble_eq_true rfl) ?_
    unfold v88
    have c1 : decide ((0 : Int) < 0) = false := rfl
    have c2 : decide ((0 : Int) ≥ (L.length : Int)) = false := decide_eq_false (by omega)
    have hw : IntKind.i64.wrap (0 + 1) = 1 := rfl
    repeat (first
      | ((first | refine W_op rfl rfl ?_ | (refine W_opgT rfl rfl ?hg ?_; (case hg => (simp only [upd_at, reduceIte, Nat.reduceEqDiff, Bool.not_true, Bool.not_false]; done)))); simp only [WB, execE, unE, args0, reduceIte, Nat.reduceEqDiff, Nat.reduceAdd, Nat.reduceLeDiff, ho, sesC, ↓hlen, c1, c2, binE, isShift, intBin, WO, fillX, splice, Wo_some])
      | (refine W_opgF rfl rfl ?hg ?_; (case hg => (simp only [upd_at, reduceIte, Nat.reduceEqDiff, Bool.not_true, Bool.not_false]; done)))
      | (refine W_opgU rfl ?hg ?_; (case hg => (simp only [upd_at, reduceIte, Nat.reduceEqDiff]; done))) | (refine W_callN rfl ?hg ?_; (case hg => (simp only [upd_at, reduceIte, Nat.reduceEqDiff, Bool.not_true, Bool.not_false]; done))) | rw [W_seq] | rw [W_reg] | rw [push_no] | rw [push_yes] | rw [W_onil] | rw [W_skip] | rw [W_blk] | rw [W_b] | refine W_regd0 ?_ | refine W_regd ?_)
    refine W_cond ?_
    simp only [WB, execE, unE, args0, reduceIte, Nat.reduceEqDiff, Nat.reduceAdd, Nat.reduceLeDiff, WC]
    repeat (first
      | ((first | refine W_op rfl rfl ?_ | (refine W_opgT rfl rfl ?hg ?_; (case hg => (simp only [upd_at, reduceIte, Nat.reduceEqDiff, Bool.not_true, Bool.not_false]; done)))); simp only [WB, execE, unE, args0, reduceIte, Nat.reduceEqDiff, Nat.reduceAdd, Nat.reduceLeDiff, ho, sesC, hw, binE, isShift, intBin, WO, fillX, splice, Wo_some])
      | (refine W_opgF rfl rfl ?hg ?_; (case hg => (simp only [upd_at, reduceIte, Nat.reduceEqDiff, Bool.not_true, Bool.not_false]; done)))
      | (refine W_opgU rfl ?hg ?_; (case hg => (simp only [upd_at, reduceIte, Nat.reduceEqDiff]; done))) | (refine W_callN rfl ?hg ?_; (case hg => (simp only [upd_at, reduceIte, Nat.reduceEqDiff, Bool.not_true, Bool.not_false]; done))) | rw [W_seq] | rw [W_reg] | rw [push_no] | rw [push_yes] | rw [W_onil] | rw [W_skip] | rw [W_blk] | rw [W_b] | refine W_regd0 ?_ | refine W_regd ?_)
    have hd := call133 (m := m.inn) (ex := ex) hg hj hc hn h1 ht rfl (by omega)
    refine W_callA rfl ?hargs (hd) ?_
    case hargs => simp only [WB, execE, unE, args0, reduceIte, Nat.reduceEqDiff, Nat.reduceAdd, Nat.reduceLeDiff] <;> rfl
    rintro v m1 ⟨r1, k1⟩ hs1
    have k1' : Keep m m1 [j] := k1.ofInn
    have hS1 := hS.keep k1' (by simp; exact fun h => hne.1 h.symm) (by simp; exact fun h => hne.2 h.symm)
    have ho1 := hS1.obj
    have o1 := r1.one
    have o2 := one_cells r1.one
    repeat (first
      | ((first | refine W_op rfl rfl ?_ | (refine W_opgT rfl rfl ?hg ?_; (case hg => (simp only [upd_at, reduceIte, Nat.reduceEqDiff, Bool.not_true, Bool.not_false]; done)))); simp only [WB, execE, unE, args0, reduceIte, Nat.reduceEqDiff, Nat.reduceAdd, Nat.reduceLeDiff, ho1, sesC, o1, o2, WO, fillX, splice, Wo_some])
      | (refine W_opgF rfl rfl ?hg ?_; (case hg => (simp only [upd_at, reduceIte, Nat.reduceEqDiff, Bool.not_true, Bool.not_false]; done)))
      | (refine W_opgU rfl ?hg ?_; (case hg => (simp only [upd_at, reduceIte, Nat.reduceEqDiff]; done))) | (refine W_callN rfl ?hg ?_; (case hg => (simp only [upd_at, reduceIte, Nat.reduceEqDiff, Bool.not_true, Bool.not_false]; done))) | rw [W_seq] | rw [W_reg] | rw [push_no] | rw [push_yes] | rw [W_onil] | rw [W_skip] | rw [W_blk] | rw [W_b] | refine W_regd0 ?_ | refine W_regd ?_)
    refine W_getRet (by repeat (first | exact hg | exact args0_un (Nat.le_of_ble_eq_true rfl) | refine upd_un ?_ rfl)) ?_
    have hlt : L.tail.length = L.length - 1 := List.length_tail
    refine ⟨hs1.ds, _, rfl, rfl, ⟨v, ?_, ?_⟩, ?_⟩
    · refine ⟨?_, by simpa using hS1.hi, rd_keep hS1.tree (Keep.put _ _ _).out hS1.jhi (by simpa using hS1.ne), by simpa using hS1.jhi, hS1.ne⟩
      rw [AMem.get_out, AMem.get_put, if_pos rfl]
      rfl
    · rw [hlt]
      exact r1.keep ((Keep.put m1 js (some (.cells (sesC jr B v rv) true ⟨12, none⟩))).out (m0 := m)) (fun k hk hm => by cases hk; exact hne.1 (by simpa using hm))
    · exact (((k1'.mono (fp' := js :: (some j).toList) (by simp)).trans (Keep.put m1 js _) (by simp)) : Keep m _ (js :: (some j).toList)).out
end Go.Proofs.YtjlckbphpmogjaaGreatDoor
