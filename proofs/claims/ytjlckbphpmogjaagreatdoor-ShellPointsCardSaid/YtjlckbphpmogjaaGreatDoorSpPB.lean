/- A session's points: one more; all of them. No condition. -/
import Derived.Test.YtjlckbphpmogjaaGreatDoorSpPA
import Derived.Test.YtjlckbphpmogjaaGreatDoorSpViFx
namespace Go.Proofs.YtjlckbphpmogjaaGreatDoor
open Go.Vi
set_option linter.unusedSimpArgs false
set_option linter.unusedVariables false

def sesC (jr : Nat) (B : Nat → AV) (pts rv : AV) : List AV := [.p (some (jr, 0)), B 1, B 2, B 3, B 4, B 5, B 6, B 7, B 8, B 9, pts, rv]

structure Ses (m : AMem) (js jr : Nat) (B : Nat → AV) (pts rv : AV) (tr : List AV) : Prop where
  obj : m.get js = some (.cells (sesC jr B pts rv) true ⟨12, none⟩)
  hi : js < m.next
  tree : rd m jr 1 3 = some tr
  jhi : jr < m.next
  ne : jr ≠ js

theorem Ses.keep {m m' : AMem} {js jr : Nat} {B : Nat → AV} {pts rv : AV} {tr : List AV} {fp : List Nat} (h : Ses m js jr B pts rv tr) (k : Keep m m' fp) (h1 : js ∉ fp) (h2 : jr ∉ fp) : Ses m' js jr B pts rv tr :=
  ⟨k.at h.hi h1 h.obj, Nat.lt_of_lt_of_le h.hi k.next, rd_keep h.tree k h.jhi h2, Nat.lt_of_lt_of_le h.jhi k.next, h.ne⟩
theorem Ses.keep0 {m m' : AMem} {js jr : Nat} {B : Nat → AV} {pts rv : AV} {tr : List AV} (h : Ses m js jr B pts rv tr) (k : Keep m m' []) : Ses m' js jr B pts rv tr := h.keep k (by simp) (by simp)

def addE (nN nG : Int) (L : List (Int × Int)) (p : Int × Int) : Int × List (Int × Int) :=
  if prt nN nG p.1 p.2 = false then (11, L) else if p ∈ L then (37, L) else if 64 ≤ L.length then (13, L) else (0, L ++ [p])

theorem call9 {m : AMem} {js jr : Nat} {B : Nat → AV} {pts rv : AV} {aT : Option (Nat × Nat)} {nN cN : Nat} {eN : Bool} {nG : Int} {nm : AV} {L : List (Int × Int)} {oj ty : Option Nat} (hS : Ses m js jr B pts rv [.sl aT nN cN eN, .i .i64 nG, nm]) (hn : nm.one = true) (hN : nN ≤ 100000)
    (hR : RowE m 2 ty pts oj L.length (flat2 L)) (hL : L.length ≤ 100000) (hoj : ∀ k, oj = some k → k ≠ js ∧ k ≠ jr) (w a : Int) :
    Vi.Call T 9 [.p (some (js, 0)), .agg [.i .i64 w, .i .i64 a]] m (fun v m' => v = .i .i64 (addE nN nG L (w, a)).1 ∧ ∃ pts' oj' ty', Ses m' js jr B pts' rv [.sl aT nN cN eN, .i .i64 nG, nm] ∧ RowE m' 2 ty' pts' oj' (addE nN nG L (w, a)).2.length (flat2 (addE nN nG L (w, a)).2) ∧ (oj' = oj ∨ ∃ k, oj' = some k ∧ m.next ≤ k) ∧ Keep m m' (js :: oj.toList)) := by
  refine Vi.Call.ofP T9 (Nat.le_of_ble_eq_true rfl) ?_
  unfold v9
  repeat (first | rw [W_seq] | rw [W_reg] | rw [push_no] | rw [push_yes] | rw [W_onil] | rw [W_skip] | rw [W_blk] | rw [W_b] | refine W_regd0 ?_ | refine W_regd ?_)
  refine W_op rfl rfl ?_
  simp only [WB, execE, unE, args0, reduceIte, Nat.reduceEqDiff, Nat.reduceAdd, Nat.reduceLeDiff, WO, fillX, splice, Wo_some]
  repeat (first | rw [push_no] | rw [push_yes] | rw [W_onil])
  obtain ⟨mB, hmB, kB, dB, bB⟩ : ∃ mB : AMem, mB = m.inn.new (.cells [.i .i64 w, .i .i64 a] true (2 : Nat)) ∧ Keep m mB [] ∧ mB.ds = [] ∧ rd mB m.next 0 2 = some [.i .i64 w, .i .i64 a] :=
    ⟨_, rfl, (Keep.new m.inn _).ofInn, rfl, rd_new m.inn _ _ _ rfl⟩
  have nB : m.next < mB.next := by rw [hmB]; simp
  rw [← hmB]
  clear hmB
  have hS1 := hS.keep0 kB
  repeat (first
    | ((first | refine W_op rfl rfl ?_ | (refine W_opgT rfl rfl ?hg ?_; (case hg => (simp only [upd_at, reduceIte, Nat.reduceEqDiff, Bool.not_true, Bool.not_false]; done)))); simp only [WB, execE, unE, args0, reduceIte, Nat.reduceEqDiff, Nat.reduceAdd, Nat.reduceLeDiff, hS1.obj, sesC, hS1.tree, bB, WO, fillX, splice, Wo_some])
    | (refine W_opgF rfl rfl ?hg ?_; (case hg => (simp only [upd_at, reduceIte, Nat.reduceEqDiff, Bool.not_true, Bool.not_false]; done)))
    | (refine W_opgU rfl ?hg ?_; (case hg => (simp only [upd_at, reduceIte, Nat.reduceEqDiff]; done))) | (refine W_callN rfl ?hg ?_; (case hg => (simp only [upd_at, reduceIte, Nat.reduceEqDiff, Bool.not_true, Bool.not_false]; done))) | rw [W_seq] | rw [W_reg] | rw [push_no] | rw [push_yes] | rw [W_onil] | rw [W_skip] | rw [W_blk] | rw [W_b] | refine W_regd0 ?_ | refine W_regd ?_)
  refine W_callA rfl ?hargs (call33 w a nG aT nN cN eN nm hn hN) ?_
  case hargs => simp only [WB, execE, unE, args0, reduceIte, Nat.reduceEqDiff, Nat.reduceAdd, Nat.reduceLeDiff] <;> rfl
  rintro v m2 ⟨rfl, k2⟩ hs2
  have kk2 : Keep m m2 [] := kB.trans k2 (by simp)
  have hS2 := hS.keep0 kk2
  have b2 := rd_keep bB k2 nB (by simp)
  cases hA : prt nN nG w a
  · skip
    repeat (first
      | ((first | refine W_op rfl rfl ?_ | (refine W_opgT rfl rfl ?hg ?_; (case hg => (simp only [upd_at, reduceIte, Nat.reduceEqDiff, Bool.not_true, Bool.not_false]; done)))); simp only [WB, execE, unE, args0, reduceIte, Nat.reduceEqDiff, Nat.reduceAdd, Nat.reduceLeDiff, hA, WO, fillX, splice, Wo_some])
      | (refine W_opgF rfl rfl ?hg ?_; (case hg => (simp only [upd_at, reduceIte, Nat.reduceEqDiff, Bool.not_true, Bool.not_false]; done)))
      | (refine W_opgU rfl ?hg ?_; (case hg => (simp only [upd_at, reduceIte, Nat.reduceEqDiff]; done))) | (refine W_callN rfl ?hg ?_; (case hg => (simp only [upd_at, reduceIte, Nat.reduceEqDiff, Bool.not_true, Bool.not_false]; done))) | rw [W_seq] | rw [W_reg] | rw [push_no] | rw [push_yes] | rw [W_onil] | rw [W_skip] | rw [W_blk] | rw [W_b] | refine W_regd0 ?_ | refine W_regd ?_)
    refine W_cond ?_
    simp only [WB, execE, unE, args0, reduceIte, Nat.reduceEqDiff, Nat.reduceAdd, Nat.reduceLeDiff, WC]
    repeat (first
      | ((first | refine W_op rfl rfl ?_ | (refine W_opgT rfl rfl ?hg ?_; (case hg => (simp only [upd_at, reduceIte, Nat.reduceEqDiff, Bool.not_true, Bool.not_false]; done)))); simp only [WB, execE, unE, args0, reduceIte, Nat.reduceEqDiff, Nat.reduceAdd, Nat.reduceLeDiff, WO, fillX, splice, Wo_some])
      | (refine W_opgF rfl rfl ?hg ?_; (case hg => (simp only [upd_at, reduceIte, Nat.reduceEqDiff, Bool.not_true, Bool.not_false]; done)))
      | (refine W_opgU rfl ?hg ?_; (case hg => (simp only [upd_at, reduceIte, Nat.reduceEqDiff]; done))) | (refine W_callN rfl ?hg ?_; (case hg => (simp only [upd_at, reduceIte, Nat.reduceEqDiff, Bool.not_true, Bool.not_false]; done))) | rw [W_seq] | rw [W_reg] | rw [push_no] | rw [push_yes] | rw [W_onil] | rw [W_skip] | rw [W_blk] | rw [W_b] | refine W_regd0 ?_ | refine W_regd ?_)
    refine W_getRet (by repeat (first | exact hg | exact args0_un (Nat.le_of_ble_eq_true rfl) | refine upd_un ?_ rfl)) ?_
    have e : addE nN nG L (w, a) = (11, L) := by simp [addE, hA]
    rw [e]
    exact ⟨hs2.ds.trans dB, _, rfl, rfl, pts, oj, ty, hS2.keep0 (Keep.refl _ _).out, (hR.keep kk2 (by simp)).keep (Keep.refl _ []).out (by simp), .inl rfl, kk2.nil.out⟩
  repeat (first
    | ((first | refine W_op rfl rfl ?_ | (refine W_opgT rfl rfl ?hg ?_; (case hg => (simp only [upd_at, reduceIte, Nat.reduceEqDiff, Bool.not_true, Bool.not_false]; done)))); simp only [WB, execE, unE, args0, reduceIte, Nat.reduceEqDiff, Nat.reduceAdd, Nat.reduceLeDiff, hA, WO, fillX, splice, Wo_some])
    | (refine W_opgF rfl rfl ?hg ?_; (case hg => (simp only [upd_at, reduceIte, Nat.reduceEqDiff, Bool.not_true, Bool.not_false]; done)))
    | (refine W_opgU rfl ?hg ?_; (case hg => (simp only [upd_at, reduceIte, Nat.reduceEqDiff]; done))) | (refine W_callN rfl ?hg ?_; (case hg => (simp only [upd_at, reduceIte, Nat.reduceEqDiff, Bool.not_true, Bool.not_false]; done))) | rw [W_seq] | rw [W_reg] | rw [push_no] | rw [push_yes] | rw [W_onil] | rw [W_skip] | rw [W_blk] | rw [W_b] | refine W_regd0 ?_ | refine W_regd ?_)
  refine W_cond ?_
  simp only [WB, execE, unE, args0, reduceIte, Nat.reduceEqDiff, Nat.reduceAdd, Nat.reduceLeDiff, WC]
  repeat (first
    | ((first | refine W_op rfl rfl ?_ | (refine W_opgT rfl rfl ?hg ?_; (case hg => (simp only [upd_at, reduceIte, Nat.reduceEqDiff, Bool.not_true, Bool.not_false]; done)))); simp only [WB, execE, unE, args0, reduceIte, Nat.reduceEqDiff, Nat.reduceAdd, Nat.reduceLeDiff, hS2.obj, sesC, b2, WO, fillX, splice, Wo_some])
    | (refine W_opgF rfl rfl ?hg ?_; (case hg => (simp only [upd_at, reduceIte, Nat.reduceEqDiff, Bool.not_true, Bool.not_false]; done)))
    | (refine W_opgU rfl ?hg ?_; (case hg => (simp only [upd_at, reduceIte, Nat.reduceEqDiff]; done))) | (refine W_callN rfl ?hg ?_; (case hg => (simp only [upd_at, reduceIte, Nat.reduceEqDiff, Bool.not_true, Bool.not_false]; done))) | rw [W_seq] | rw [W_reg] | rw [push_no] | rw [push_yes] | rw [W_onil] | rw [W_skip] | rw [W_blk] | rw [W_b] | refine W_regd0 ?_ | refine W_regd ?_)
  refine W_callA rfl ?hargs (call34 ((hR.keep kk2 (by simp)).arr) rfl hL w a) ?_
  case hargs => simp only [WB, execE, unE, args0, reduceIte, Nat.reduceEqDiff, Nat.reduceAdd, Nat.reduceLeDiff] <;> rfl
  rintro v m3 ⟨rfl, k3⟩ hs3
  have kk3 : Keep m m3 [] := kk2.trans k3 (by simp)
  have hS3 := hS.keep0 kk3
  have b3 := rd_keep b2 k3 (Nat.lt_of_lt_of_le nB k2.next) (by simp)
  have hR3 := hR.keep kk3 (by simp)
  have d3 : m3.ds = [] := hs3.ds.trans (hs2.ds.trans dB)
  cases hB : decide ((w, a) ∈ L)
  case true =>
    repeat (first
      | ((first | refine W_op rfl rfl ?_ | (refine W_opgT rfl rfl ?hg ?_; (case hg => (simp only [upd_at, reduceIte, Nat.reduceEqDiff, Bool.not_true, Bool.not_false]; done)))); simp only [WB, execE, unE, args0, reduceIte, Nat.reduceEqDiff, Nat.reduceAdd, Nat.reduceLeDiff, hB, WO, fillX, splice, Wo_some])
      | (refine W_opgF rfl rfl ?hg ?_; (case hg => (simp only [upd_at, reduceIte, Nat.reduceEqDiff, Bool.not_true, Bool.not_false]; done)))
      | (refine W_opgU rfl ?hg ?_; (case hg => (simp only [upd_at, reduceIte, Nat.reduceEqDiff]; done))) | (refine W_callN rfl ?hg ?_; (case hg => (simp only [upd_at, reduceIte, Nat.reduceEqDiff, Bool.not_true, Bool.not_false]; done))) | rw [W_seq] | rw [W_reg] | rw [push_no] | rw [push_yes] | rw [W_onil] | rw [W_skip] | rw [W_blk] | rw [W_b] | refine W_regd0 ?_ | refine W_regd ?_)
    refine W_cond ?_
    simp only [WB, execE, unE, args0, reduceIte, Nat.reduceEqDiff, Nat.reduceAdd, Nat.reduceLeDiff, WC]
    repeat (first
      | ((first | refine W_op rfl rfl ?_ | (refine W_opgT rfl rfl ?hg ?_; (case hg => (simp only [upd_at, reduceIte, Nat.reduceEqDiff, Bool.not_true, Bool.not_false]; done)))); simp only [WB, execE, unE, args0, reduceIte, Nat.reduceEqDiff, Nat.reduceAdd, Nat.reduceLeDiff, WO, fillX, splice, Wo_some])
      | (refine W_opgF rfl rfl ?hg ?_; (case hg => (simp only [upd_at, reduceIte, Nat.reduceEqDiff, Bool.not_true, Bool.not_false]; done)))
      | (refine W_opgU rfl ?hg ?_; (case hg => (simp only [upd_at, reduceIte, Nat.reduceEqDiff]; done))) | (refine W_callN rfl ?hg ?_; (case hg => (simp only [upd_at, reduceIte, Nat.reduceEqDiff, Bool.not_true, Bool.not_false]; done))) | rw [W_seq] | rw [W_reg] | rw [push_no] | rw [push_yes] | rw [W_onil] | rw [W_skip] | rw [W_blk] | rw [W_b] | refine W_regd0 ?_ | refine W_regd ?_)
    refine W_getRet (by repeat (first | exact hg | exact args0_un (Nat.le_of_ble_eq_true rfl) | refine upd_un ?_ rfl)) ?_
    have e : addE nN nG L (w, a) = (37, L) := by simp [addE, hA, of_decide_eq_true hB]
    rw [e]
    exact ⟨d3, _, rfl, rfl, pts, oj, ty, hS3.keep0 (Keep.refl _ _).out, hR3.keep (Keep.refl _ []).out (by simp), .inl rfl, kk3.nil.out⟩
  repeat (first
    | ((first | refine W_op rfl rfl ?_ | (refine W_opgT rfl rfl ?hg ?_; (case hg => (simp only [upd_at, reduceIte, Nat.reduceEqDiff, Bool.not_true, Bool.not_false]; done)))); simp only [WB, execE, unE, args0, reduceIte, Nat.reduceEqDiff, Nat.reduceAdd, Nat.reduceLeDiff, hB, WO, fillX, splice, Wo_some])
    | (refine W_opgF rfl rfl ?hg ?_; (case hg => (simp only [upd_at, reduceIte, Nat.reduceEqDiff, Bool.not_true, Bool.not_false]; done)))
    | (refine W_opgU rfl ?hg ?_; (case hg => (simp only [upd_at, reduceIte, Nat.reduceEqDiff]; done))) | (refine W_callN rfl ?hg ?_; (case hg => (simp only [upd_at, reduceIte, Nat.reduceEqDiff, Bool.not_true, Bool.not_false]; done))) | rw [W_seq] | rw [W_reg] | rw [push_no] | rw [push_yes] | rw [W_onil] | rw [W_skip] | rw [W_blk] | rw [W_b] | refine W_regd0 ?_ | refine W_regd ?_)
  refine W_cond ?_
  simp only [WB, execE, unE, args0, reduceIte, Nat.reduceEqDiff, Nat.reduceAdd, Nat.reduceLeDiff, WC]
  have hlen := hR3.arr.lenF
  repeat (first
    | ((first | refine W_op rfl rfl ?_ | (refine W_opgT rfl rfl ?hg ?_; (case hg => (simp only [upd_at, reduceIte, Nat.reduceEqDiff, Bool.not_true, Bool.not_false]; done)))); simp only [WB, execE, unE, args0, reduceIte, Nat.reduceEqDiff, Nat.reduceAdd, Nat.reduceLeDiff, hS3.obj, sesC, ↓hlen, binE, isShift, intBin, WO, fillX, splice, Wo_some])
    | (refine W_opgF rfl rfl ?hg ?_; (case hg => (simp only [upd_at, reduceIte, Nat.reduceEqDiff, Bool.not_true, Bool.not_false]; done)))
    | (refine W_opgU rfl ?hg ?_; (case hg => (simp only [upd_at, reduceIte, Nat.reduceEqDiff]; done))) | (refine W_callN rfl ?hg ?_; (case hg => (simp only [upd_at, reduceIte, Nat.reduceEqDiff, Bool.not_true, Bool.not_false]; done))) | rw [W_seq] | rw [W_reg] | rw [push_no] | rw [push_yes] | rw [W_onil] | rw [W_skip] | rw [W_blk] | rw [W_b] | refine W_regd0 ?_ | refine W_regd ?_)
  cases hC : decide ((L.length : Int) ≥ 64)
  case true =>
    refine W_cond ?_
    simp only [WB, execE, unE, args0, reduceIte, Nat.reduceEqDiff, Nat.reduceAdd, Nat.reduceLeDiff, WC, hC]
    repeat (first
      | ((first | refine W_op rfl rfl ?_ | (refine W_opgT rfl rfl ?hg ?_; (case hg => (simp only [upd_at, reduceIte, Nat.reduceEqDiff, Bool.not_true, Bool.not_false]; done)))); simp only [WB, execE, unE, args0, reduceIte, Nat.reduceEqDiff, Nat.reduceAdd, Nat.reduceLeDiff, WO, fillX, splice, Wo_some])
      | (refine W_opgF rfl rfl ?hg ?_; (case hg => (simp only [upd_at, reduceIte, Nat.reduceEqDiff, Bool.not_true, Bool.not_false]; done)))
      | (refine W_opgU rfl ?hg ?_; (case hg => (simp only [upd_at, reduceIte, Nat.reduceEqDiff]; done))) | (refine W_callN rfl ?hg ?_; (case hg => (simp only [upd_at, reduceIte, Nat.reduceEqDiff, Bool.not_true, Bool.not_false]; done))) | rw [W_seq] | rw [W_reg] | rw [push_no] | rw [push_yes] | rw [W_onil] | rw [W_skip] | rw [W_blk] | rw [W_b] | refine W_regd0 ?_ | refine W_regd ?_)
    refine W_getRet (by repeat (first | exact hg | exact args0_un (Nat.le_of_ble_eq_true rfl) | refine upd_un ?_ rfl)) ?_
    have e : addE nN nG L (w, a) = (13, L) := by
      have h1 := of_decide_eq_true hC
      have h2 : 64 ≤ L.length := by omega
      simp [addE, hA, of_decide_eq_false hB, h2]
    rw [e]
    exact ⟨d3, _, rfl, rfl, pts, oj, ty, hS3.keep0 (Keep.refl _ _).out, hR3.keep (Keep.refl _ []).out (by simp), .inl rfl, kk3.nil.out⟩
  have e : addE nN nG L (w, a) = (0, L ++ [(w, a)]) := by
    have h1 := of_decide_eq_false hC
    have h2 : ¬ 64 ≤ L.length := by omega
    simp [addE, hA, of_decide_eq_false hB, h2]
  have hne : ¬ m3.next = js := by have := hS3.hi; omega
  refine W_cond ?_
  simp only [WB, execE, unE, args0, reduceIte, Nat.reduceEqDiff, Nat.reduceAdd, Nat.reduceLeDiff, WC, hC]
  repeat (first
    | ((first | refine W_opA rfl rfl rfl ?_ | (refine W_opgT rfl rfl ?hg ?_; (case hg => (simp only [upd_at, reduceIte, Nat.reduceEqDiff, Bool.not_true, Bool.not_false]; done)))); simp only [WB, execE, unE, args0, reduceIte, Nat.reduceEqDiff, Nat.reduceAdd, Nat.reduceLeDiff, hS3.obj, sesC, b3, WO, fillX, splice, Wo_some])
    | (refine W_opgF rfl rfl ?hg ?_; (case hg => (simp only [upd_at, reduceIte, Nat.reduceEqDiff, Bool.not_true, Bool.not_false]; done)))
    | (refine W_opgU rfl ?hg ?_; (case hg => (simp only [upd_at, reduceIte, Nat.reduceEqDiff]; done))) | (refine W_callN rfl ?hg ?_; (case hg => (simp only [upd_at, reduceIte, Nat.reduceEqDiff, Bool.not_true, Bool.not_false]; done))) | rw [W_seq] | rw [W_reg] | rw [push_no] | rw [push_yes] | rw [W_onil] | rw [W_skip] | rw [W_blk] | rw [W_b] | refine W_regd0 ?_ | refine W_regd ?_)
  have hR4 : RowE (m3.new (.cells [.i .i64 w, .i .i64 a] true (2 : Nat))) 2 ty pts oj L.length (flat2 L) := hR3.keep (Keep.new _ _) (by simp)
  refine W_app (n := L.length) (k := 1) (new := [.i .i64 w, .i .i64 a]) (ls := flat2 L) rfl (hR4.as ?hrow) ?hsrc rfl rfl (roomyOf (by omega) (by omega)) ?_
  case hrow =>
    simp only [WB, execE, unE, args0, reduceIte, Nat.reduceEqDiff, Nat.reduceAdd, Nat.reduceLeDiff]
  case hsrc =>
    simp only [WB, execE, unE, args0, reduceIte, Nat.reduceEqDiff, Nat.reduceAdd, Nat.reduceLeDiff]
    exact src_new rfl
  intro av' oj' m5 ty' r5 ds5 ro5 o5 k5 _
  have kA : Keep m3 m5 oj.toList := (Keep.new _ _).nil.trans k5 (fun i hi => .inl hi)
  have hn5 : ∀ i ∈ oj.toList, i ≠ js ∧ i ≠ jr := fun i hi => hoj i (by simpa using hi)
  have hS5 := hS3.keep kA (fun h => (hn5 _ h).1 rfl) (fun h => (hn5 _ h).2 rfl)
  have o1 := r5.one
  have o2 := one_cells r5.one
  repeat (first
    | ((first | refine W_op rfl rfl ?_ | (refine W_opgT rfl rfl ?hg ?_; (case hg => (simp only [upd_at, reduceIte, Nat.reduceEqDiff, Bool.not_true, Bool.not_false]; done)))); simp only [WB, execE, unE, args0, reduceIte, Nat.reduceEqDiff, Nat.reduceAdd, Nat.reduceLeDiff, hS5.obj, sesC, o1, o2, WO, fillX, splice, Wo_some])
    | (refine W_opgF rfl rfl ?hg ?_; (case hg => (simp only [upd_at, reduceIte, Nat.reduceEqDiff, Bool.not_true, Bool.not_false]; done)))
    | (refine W_opgU rfl ?hg ?_; (case hg => (simp only [upd_at, reduceIte, Nat.reduceEqDiff]; done))) | (refine W_callN rfl ?hg ?_; (case hg => (simp only [upd_at, reduceIte, Nat.reduceEqDiff, Bool.not_true, Bool.not_false]; done))) | rw [W_seq] | rw [W_reg] | rw [push_no] | rw [push_yes] | rw [W_onil] | rw [W_skip] | rw [W_blk] | rw [W_b] | refine W_regd0 ?_ | refine W_regd ?_)
  refine W_dnil ?hs ?hnt ?_
  case hs => (simp only [SameIn, SameAt, List.nil_append, List.cons_append, reduceCtorEq, false_and, exists_false, exists_const, false_or, or_false, Option.some.injEq, exists_eq_left', exists_eq', or_true, and_true, WB, execE, unE, args0, reduceIte, Nat.reduceEqDiff, Nat.reduceAdd, Nat.reduceLeDiff, hS3.obj, hne, sesC])
  case hnt => (simp only [List.nil_append, List.cons_append, List.forall_mem_cons, List.not_mem_nil, false_imp_iff, implies_true, and_true]; repeat' (first | exact hg | exact args0_un (Nat.le_of_ble_eq_true rfl) | refine upd_un ?_ rfl | constructor))
  repeat (first
    | ((first | refine W_op rfl rfl ?_ | (refine W_opgT rfl rfl ?hg ?_; (case hg => (simp only [upd_at, reduceIte, Nat.reduceEqDiff, Bool.not_true, Bool.not_false]; done)))); simp only [WB, execE, unE, args0, reduceIte, Nat.reduceEqDiff, Nat.reduceAdd, Nat.reduceLeDiff, WO, fillX, splice, Wo_some])
    | (refine W_opgF rfl rfl ?hg ?_; (case hg => (simp only [upd_at, reduceIte, Nat.reduceEqDiff, Bool.not_true, Bool.not_false]; done)))
    | (refine W_opgU rfl ?hg ?_; (case hg => (simp only [upd_at, reduceIte, Nat.reduceEqDiff]; done))) | (refine W_callN rfl ?hg ?_; (case hg => (simp only [upd_at, reduceIte, Nat.reduceEqDiff, Bool.not_true, Bool.not_false]; done))) | rw [W_seq] | rw [W_reg] | rw [push_no] | rw [push_yes] | rw [W_onil] | rw [W_skip] | rw [W_blk] | rw [W_b] | refine W_regd0 ?_ | refine W_regd ?_)
  refine W_getRet (by repeat (first | exact hg | exact args0_un (Nat.le_of_ble_eq_true rfl) | refine upd_un ?_ rfl)) ?_
  rw [e]
  have hj5 : ∀ k, oj' = some k → k ≠ js ∧ k ≠ jr := by
    intro k hk
    rcases o5 with h | ⟨k', h, h2⟩
    · exact hoj k (h ▸ hk)
    · rw [h] at hk; cases hk
      have h1 := hS3.hi; have h3 := hS3.jhi
      simp only [AMem.next_new] at h2
      exact ⟨by omega, by omega⟩
  refine ⟨ds5.trans d3, _, rfl, rfl, av', oj', ty', ?_, ?_, ?_, ?_⟩
  · refine ⟨?_, by simpa using hS5.hi, rd_keep hS5.tree (Keep.put _ _ _).out hS5.jhi (by simpa using hS5.ne), by simpa using hS5.jhi, hS5.ne⟩
    rw [AMem.get_out, AMem.get_put, if_pos rfl]
    rfl
  · have r6 := r5.keep ((Keep.put m5 js (some (.cells (sesC jr B av' rv) true ⟨12, none⟩))).out (m0 := m)) (fun k hk hm => (hj5 k hk).1 (by simpa using hm))
    simp only [flat2_app, List.length_append, List.length_cons, List.length_nil, Nat.zero_add]
    exact r6
  · rcases o5 with h | ⟨k', h, h2⟩
    · exact .inl h
    · exact .inr ⟨k', h, by have := kk3.next; simp only [AMem.next_new] at h2; omega⟩
  · exact (((kk3.nil.trans kA (fun i hi => .inl (List.mem_cons_of_mem _ hi))).trans (Keep.put _ _ _) (fun i hi => .inl (by simp at hi; simp [hi])))).out

theorem call10 {m : AMem} {js jr : Nat} {B : Nat → AV} {pts rv : AV} {tr : List AV} {L : List (Int × Int)} {oj ty : Option Nat} (hS : Ses m js jr B pts rv tr) (hR : RowE m 2 ty pts oj L.length (flat2 L)) (hL : L.length ≤ 100000) :
    Vi.Call T 10 [.p (some (js, 0))] m (fun v m' => (∃ ty' oj', RowE m' 2 ty' v oj' L.length (flat2 L) ∧ ∀ k, oj' = some k → m.next ≤ k) ∧ Keep m m' []) := by
  refine Vi.Call.ofP T10 (Nat.le_of_ble_eq_true rfl) ?_
  unfold v10
  have hS1 := hS.keep0 (Keep.inn m)
  have hone : (flat2 L).all AV.one = true := List.all_eq_true.2 fun x hx => by
    have := List.all_eq_true.1 (flat2_num L) x hx
    cases x <;> simp [AV.num] at this
    rfl
  have ho := hS.obj
  repeat (first
    | ((first | refine W_op rfl rfl ?_ | (refine W_opgT rfl rfl ?hg ?_; (case hg => (simp only [upd_at, reduceIte, Nat.reduceEqDiff, Bool.not_true, Bool.not_false]; done)))); simp only [WB, execE, unE, args0, reduceIte, Nat.reduceEqDiff, Nat.reduceAdd, Nat.reduceLeDiff, ho, sesC, WO, fillX, splice, Wo_some])
    | (refine W_opgF rfl rfl ?hg ?_; (case hg => (simp only [upd_at, reduceIte, Nat.reduceEqDiff, Bool.not_true, Bool.not_false]; done)))
    | (refine W_opgU rfl ?hg ?_; (case hg => (simp only [upd_at, reduceIte, Nat.reduceEqDiff]; done))) | (refine W_callN rfl ?hg ?_; (case hg => (simp only [upd_at, reduceIte, Nat.reduceEqDiff, Bool.not_true, Bool.not_false]; done))) | rw [W_seq] | rw [W_reg] | rw [push_no] | rw [push_yes] | rw [W_onil] | rw [W_skip] | rw [W_blk] | rw [W_b] | refine W_regd0 ?_ | refine W_regd ?_)
  refine W_callA rfl ?hargs (call35 (hR.keep (Keep.inn m) (by simp)) hone hL) ?_
  case hargs => simp only [WB, execE, unE, args0, reduceIte, Nat.reduceEqDiff, Nat.reduceAdd, Nat.reduceLeDiff] <;> rfl
  rintro v m1 ⟨⟨ty', oj', r1, h1⟩, k1⟩ hs1
  repeat (first
    | ((first | refine W_op rfl rfl ?_ | (refine W_opgT rfl rfl ?hg ?_; (case hg => (simp only [upd_at, reduceIte, Nat.reduceEqDiff, Bool.not_true, Bool.not_false]; done)))); simp only [WB, execE, unE, args0, reduceIte, Nat.reduceEqDiff, Nat.reduceAdd, Nat.reduceLeDiff, WO, fillX, splice, Wo_some])
    | (refine W_opgF rfl rfl ?hg ?_; (case hg => (simp only [upd_at, reduceIte, Nat.reduceEqDiff, Bool.not_true, Bool.not_false]; done)))
    | (refine W_opgU rfl ?hg ?_; (case hg => (simp only [upd_at, reduceIte, Nat.reduceEqDiff]; done))) | (refine W_callN rfl ?hg ?_; (case hg => (simp only [upd_at, reduceIte, Nat.reduceEqDiff, Bool.not_true, Bool.not_false]; done))) | rw [W_seq] | rw [W_reg] | rw [push_no] | rw [push_yes] | rw [W_onil] | rw [W_skip] | rw [W_blk] | rw [W_b] | refine W_regd0 ?_ | refine W_regd ?_)
  refine W_getRet (by repeat (first | exact hg | exact args0_un (Nat.le_of_ble_eq_true rfl) | refine upd_un ?_ rfl)) ?_
  exact ⟨hs1.ds, _, rfl, ⟨ty', oj', r1.keep (Keep.refl _ []).out (by simp), h1⟩, ((Keep.inn m).trans k1 (by simp)).out⟩
end Go.Proofs.YtjlckbphpmogjaaGreatDoor
