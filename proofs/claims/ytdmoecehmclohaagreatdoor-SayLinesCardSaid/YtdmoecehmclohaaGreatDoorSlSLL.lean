/- The law SayLines, at any pattern, tree and state. No condition. -/
import Derived.Test.YtdmoecehmclohaaGreatDoorSlSLO
import Derived.Test.YtdmoecehmclohaaGreatDoorSlViNode
import Derived.Test.YtdmoecehmclohaaGreatDoorSlSLT
import Derived.Test.YtdmoecehmclohaaGreatDoorSlSLR
namespace Go.Proofs.YtdmoecehmclohaaGreatDoor
open Go.Vi
set_option linter.unusedSimpArgs false
set_option linter.unusedVariables false
def ndO (d : Nf) : Nd := ⟨d.k, d.fr, d.to, d.num, fun i => [.i .i64 d.mn, .i .i64 d.mx, .i .i64 d.md, .s ⟨d.nm.toArray⟩, d.sv, d.kv].getD i .ni⟩
theorem flatO : ∀ (D : List Nf), flatF D = flatN (D.map ndO)
  | [] => rfl
  | d :: D => by
    show d.cells ++ flatF D = (ndO d).cells ++ flatN (D.map ndO)
    rw [flatO D]; rfl
theorem nd_one {d : Nf} (h1 : d.sv.one = true) (h2 : d.kv.one = true) : ∀ i, ((ndO d).x i).one = true
  | 0 => rfl
  | 1 => rfl
  | 2 => rfl
  | 3 => rfl
  | 4 => h1
  | 5 => h2
  | _ + 6 => rfl
theorem key_all {D D' : List Nf} (h : D'.map keyN = D.map keyN) (hb : ∀ d ∈ D', 0 ≤ d.fr ∧ d.fr ≤ d.to ∧ d.to ≤ 4096) : ∀ d ∈ D, 0 ≤ d.fr ∧ d.fr ≤ d.to ∧ d.to ≤ 4096 := by
  intro d hd
  have h1 : keyN d ∈ D'.map keyN := by rw [h]; exact List.mem_map.2 ⟨d, hd, rfl⟩
  obtain ⟨d', hd', he⟩ := List.mem_map.1 h1
  have := hb d' hd'
  simp only [keyN, Prod.mk.injEq] at he
  rw [he.1, he.2] at this
  exact this
set_option maxHeartbeats 8000000 in
theorem law3 {m : AMem} (hP : P10 m) {pv : AV} {l : List UInt8} (hp : Arr m 1 pv l.length (cellsOfBytes l)) {nv nm : AV} {D : List Nf} {G : Int} {NS : List (List UInt8)} (hA : Arr m 10 nv D.length (flatF D)) (hok : ∀ d ∈ D, d.ok m) (hN : Arr m 1 nm NS.length (NS.map fun x => .s ⟨x.toArray⟩)) (hNl : NS.length ≤ 140737488355328)
    {k kd nd ph pos st dp og : Int} {cp : AV} (hc : cp.one = true) (hk : InI64 k) (hpos : InI64 pos) (hst : InI64 st) (hog : InI64 og) :
    Vi.Call T 3 [pv, .agg [nv, .i .i64 G, nm], .i .i64 k, .agg (stC kd nd ph pos st dp og cp)] m (fun v _ => v = .b true) := by
  have hlenp := hp.lenF
  have hlenN := hA.lenF
  have ho := hA.one
  have hop := hp.one
  have hon := hN.one
  refine Vi.Call.ofP T3 (Nat.le_of_ble_eq_true rfl) ?_
  unfold v3 stC
  repeat (first | rw [W_seq] | rw [W_reg] | rw [push_no] | rw [push_yes] | rw [W_onil] | rw [W_skip] | rw [W_blk] | rw [W_b] | refine W_regd0 ?_ | refine W_regd ?_)
  refine W_op rfl rfl ?_
  simp only [WB, execE, unE, args0, reduceIte, Nat.reduceEqDiff, Nat.reduceAdd, Nat.reduceLeDiff, ho, hon, WO, fillX, splice, Wo_some]
  repeat (first | rw [push_no] | rw [push_yes] | rw [W_onil])
  obtain ⟨mA, hmA, kA, bA, gA, dA, _, nA⟩ := mk_new m.inn [nv, .i .i64 G, nm] true (3 : Nat) 3 rfl
  have kA' : Keep m mA [] := kA.ofInn
  have nA' : m.next < mA.next := nA
  have gA' : mA.get m.next = some (.cells [nv, .i .i64 G, nm] true (3 : Nat)) := gA
  rw [← hmA]
  clear hmA
  repeat (first | rw [W_seq] | rw [W_reg] | rw [push_no] | rw [push_yes] | rw [W_onil] | rw [W_skip] | rw [W_blk] | rw [W_b] | refine W_regd0 ?_ | refine W_regd ?_)
  refine W_op rfl rfl ?_
  simp only [WB, execE, unE, args0, reduceIte, Nat.reduceEqDiff, Nat.reduceAdd, Nat.reduceLeDiff, hc, WO, fillX, splice, Wo_some]
  repeat (first | rw [push_no] | rw [push_yes] | rw [W_onil])
  obtain ⟨mB, hmB, kB, bB, gB, dB, _, nB⟩ := mk_new mA [.i .i64 kd, .i .i64 nd, .i .i64 ph, .i .i64 pos, .i .i64 st, .i .i64 dp, .i .i64 og, cp] true (8 : Nat) 8 rfl
  rw [← hmB]
  clear hmB
  have y0 := kB.at nA' (by simp) gA'
  have kB' : Keep m mB [] := kA'.trans kB (by simp)
  have ny0 : m.next < mB.next := Nat.lt_of_lt_of_le nA' kB.next
  have d0 : mB.ds = [] := dB.trans dA
  have z0 : rd mB m.next 0 3 = some [nv, .i .i64 G, nm] := by simp [rd, y0]
  repeat (first
    | ((first | refine W_op rfl rfl ?_ | (refine W_opgT rfl rfl ?hg ?_; (case hg => (simp only [WG, reduceIte, Nat.reduceEqDiff]; done)))); simp only [WB, execE, unE, args0, reduceIte, Nat.reduceEqDiff, Nat.reduceAdd, Nat.reduceLeDiff, WO, fillX, splice, Wo_some])
    | (refine W_opgF rfl rfl ?hg ?_; (case hg => (simp only [WG, reduceIte, Nat.reduceEqDiff]; done)))
    | (refine W_opgU rfl ?hg ?_; (case hg => (simp only [upd_at, reduceIte, Nat.reduceEqDiff]; done))) | (refine W_callN rfl ?hg ?_; (case hg => (simp only [WG, reduceIte, Nat.reduceEqDiff]; done))) | rw [W_seq] | rw [W_reg] | rw [push_no] | rw [push_yes] | rw [W_onil] | rw [W_skip] | rw [W_blk] | rw [W_b] | refine W_regd0 ?_ | refine W_regd ?_)
  refine W_callA rfl rfl (⟨.b true, _, ⟨1, rfl⟩, And.intro rfl rfl⟩ : Vi.Call T 4 [] _ (fun v m' => v = .b true ∧ m' = mB)) ?_
  rintro v m1 ⟨rfl, rfl⟩ -
  repeat (first
    | ((first | refine W_op rfl rfl ?_ | (refine W_opgT rfl rfl ?hg ?_; (case hg => (simp only [WG, reduceIte, Nat.reduceEqDiff]; done)))); simp only [WB, execE, unE, args0, reduceIte, Nat.reduceEqDiff, Nat.reduceAdd, Nat.reduceLeDiff, WO, fillX, splice, Wo_some])
    | (refine W_opgF rfl rfl ?hg ?_; (case hg => (simp only [WG, reduceIte, Nat.reduceEqDiff]; done)))
    | (refine W_opgU rfl ?hg ?_; (case hg => (simp only [upd_at, reduceIte, Nat.reduceEqDiff]; done))) | (refine W_callN rfl ?hg ?_; (case hg => (simp only [WG, reduceIte, Nat.reduceEqDiff]; done))) | rw [W_seq] | rw [W_reg] | rw [push_no] | rw [push_yes] | rw [W_onil] | rw [W_skip] | rw [W_blk] | rw [W_b] | refine W_regd0 ?_ | refine W_regd ?_)
  refine W_cond ?_
  simp only [WB, execE, unE, args0, reduceIte, Nat.reduceEqDiff, Nat.reduceAdd, Nat.reduceLeDiff, WC]
  by_cases hl : l.length ≤ 500
  case neg =>
    have c1 : decide ((l.length : Int) > 500) = true := decide_eq_true (by omega)
    repeat (first
      | ((first | refine W_op rfl rfl ?_ | (refine W_opgT rfl rfl ?hg ?_; (case hg => (simp only [WG, reduceIte, Nat.reduceEqDiff]; done)))); simp only [WB, execE, unE, args0, reduceIte, Nat.reduceEqDiff, Nat.reduceAdd, Nat.reduceLeDiff, ↓hlenp, c1, binE, isShift, intBin, WO, fillX, splice, Wo_some])
      | (refine W_opgF rfl rfl ?hg ?_; (case hg => (simp only [WG, reduceIte, Nat.reduceEqDiff]; done)))
      | (refine W_opgU rfl ?hg ?_; (case hg => (simp only [upd_at, reduceIte, Nat.reduceEqDiff]; done))) | (refine W_callN rfl ?hg ?_; (case hg => (simp only [WG, reduceIte, Nat.reduceEqDiff]; done))) | rw [W_seq] | rw [W_reg] | rw [push_no] | rw [push_yes] | rw [W_onil] | rw [W_skip] | rw [W_blk] | rw [W_b] | refine W_regd0 ?_ | refine W_regd ?_)
    refine W_cond ?_
    simp only [WB, execE, unE, args0, reduceIte, Nat.reduceEqDiff, Nat.reduceAdd, Nat.reduceLeDiff, WC]
    repeat (first
      | ((first | refine W_op rfl rfl ?_ | (refine W_opgT rfl rfl ?hg ?_; (case hg => (simp only [WG, reduceIte, Nat.reduceEqDiff]; done)))); simp only [WB, execE, unE, args0, reduceIte, Nat.reduceEqDiff, Nat.reduceAdd, Nat.reduceLeDiff, WO, fillX, splice, Wo_some])
      | (refine W_opgF rfl rfl ?hg ?_; (case hg => (simp only [WG, reduceIte, Nat.reduceEqDiff]; done)))
      | (refine W_opgU rfl ?hg ?_; (case hg => (simp only [upd_at, reduceIte, Nat.reduceEqDiff]; done))) | (refine W_callN rfl ?hg ?_; (case hg => (simp only [WG, reduceIte, Nat.reduceEqDiff]; done))) | rw [W_seq] | rw [W_reg] | rw [push_no] | rw [push_yes] | rw [W_onil] | rw [W_skip] | rw [W_blk] | rw [W_b] | refine W_regd0 ?_ | refine W_regd ?_)
    refine W_getRet (by repeat (first | exact hg | exact args0_un (Nat.le_of_ble_eq_true rfl) | refine upd_un ?_ rfl)) ?_
    exact ⟨d0, _, rfl, rfl⟩
  have c1 : decide ((l.length : Int) > 500) = false := decide_eq_false (by omega)
  by_cases h60 : D.length ≤ 60
  case neg =>
    have c2 : decide ((D.length : Int) > 60) = true := decide_eq_true (by omega)
    repeat (first
      | ((first | refine W_op rfl rfl ?_ | (refine W_opgT rfl rfl ?hg ?_; (case hg => (simp only [WG, reduceIte, Nat.reduceEqDiff]; done)))); simp only [WB, execE, unE, args0, reduceIte, Nat.reduceEqDiff, Nat.reduceAdd, Nat.reduceLeDiff, ↓hlenp, ↓hlenN, y0, c1, c2, binE, isShift, intBin, WO, fillX, splice, Wo_some])
      | (refine W_opgF rfl rfl ?hg ?_; (case hg => (simp only [WG, reduceIte, Nat.reduceEqDiff]; done)))
      | (refine W_opgU rfl ?hg ?_; (case hg => (simp only [upd_at, reduceIte, Nat.reduceEqDiff]; done))) | (refine W_callN rfl ?hg ?_; (case hg => (simp only [WG, reduceIte, Nat.reduceEqDiff]; done))) | rw [W_seq] | rw [W_reg] | rw [push_no] | rw [push_yes] | rw [W_onil] | rw [W_skip] | rw [W_blk] | rw [W_b] | refine W_regd0 ?_ | refine W_regd ?_)
    refine W_cond ?_
    simp only [WB, execE, unE, args0, reduceIte, Nat.reduceEqDiff, Nat.reduceAdd, Nat.reduceLeDiff, WC]
    repeat (first
      | ((first | refine W_op rfl rfl ?_ | (refine W_opgT rfl rfl ?hg ?_; (case hg => (simp only [WG, reduceIte, Nat.reduceEqDiff]; done)))); simp only [WB, execE, unE, args0, reduceIte, Nat.reduceEqDiff, Nat.reduceAdd, Nat.reduceLeDiff, WO, fillX, splice, Wo_some])
      | (refine W_opgF rfl rfl ?hg ?_; (case hg => (simp only [WG, reduceIte, Nat.reduceEqDiff]; done)))
      | (refine W_opgU rfl ?hg ?_; (case hg => (simp only [upd_at, reduceIte, Nat.reduceEqDiff]; done))) | (refine W_callN rfl ?hg ?_; (case hg => (simp only [WG, reduceIte, Nat.reduceEqDiff]; done))) | rw [W_seq] | rw [W_reg] | rw [push_no] | rw [push_yes] | rw [W_onil] | rw [W_skip] | rw [W_blk] | rw [W_b] | refine W_regd0 ?_ | refine W_regd ?_)
    refine W_getRet (by repeat (first | exact hg | exact args0_un (Nat.le_of_ble_eq_true rfl) | refine upd_un ?_ rfl)) ?_
    exact ⟨d0, _, rfl, rfl⟩
  have c2 : decide ((D.length : Int) > 60) = false := decide_eq_false (by omega)
  repeat (first
    | ((first | refine W_op rfl rfl ?_ | (refine W_opgT rfl rfl ?hg ?_; (case hg => (simp only [WG, reduceIte, Nat.reduceEqDiff]; done)))); simp only [WB, execE, unE, args0, reduceIte, Nat.reduceEqDiff, Nat.reduceAdd, Nat.reduceLeDiff, ↓hlenp, ↓hlenN, y0, z0, c1, c2, binE, isShift, intBin, WO, fillX, splice, Wo_some])
    | (refine W_opgF rfl rfl ?hg ?_; (case hg => (simp only [WG, reduceIte, Nat.reduceEqDiff]; done)))
    | (refine W_opgU rfl ?hg ?_; (case hg => (simp only [upd_at, reduceIte, Nat.reduceEqDiff]; done))) | (refine W_callN rfl ?hg ?_; (case hg => (simp only [WG, reduceIte, Nat.reduceEqDiff]; done))) | rw [W_seq] | rw [W_reg] | rw [push_no] | rw [push_yes] | rw [W_onil] | rw [W_skip] | rw [W_blk] | rw [W_b] | refine W_regd0 ?_ | refine W_regd ?_)
  refine W_callK rfl ?hg ?hargs (call6 (G := G) (hA.keep0 kB') (fun d hd => (hok d hd).keep0 kB') h60 hon) ?_
  case hg => (simp only [WB, execE, unE, args0, reduceIte, Nat.reduceEqDiff, Nat.reduceAdd, Nat.reduceLeDiff, WO, fillX, splice]; done)
  case hargs => simp only [WB, execE, unE, args0, reduceIte, Nat.reduceEqDiff, Nat.reduceAdd, Nat.reduceLeDiff, WO, fillX, splice] <;> rfl
  rintro v m2 ⟨⟨nv', D', rfl, hDl, hA2, hkey, hok2⟩, k2⟩ hs2
  have kk2 : Keep m m2 [] := kB'.trans k2 (by simp)
  repeat (first
    | ((first | refine W_op rfl rfl ?_ | (refine W_opgT rfl rfl ?hg ?_; (case hg => (simp only [WG, reduceIte, Nat.reduceEqDiff]; done)))); simp only [WB, execE, unE, args0, reduceIte, Nat.reduceEqDiff, Nat.reduceAdd, Nat.reduceLeDiff, WO, fillX, splice, Wo_some])
    | (refine W_opgF rfl rfl ?hg ?_; (case hg => (simp only [WG, reduceIte, Nat.reduceEqDiff]; done)))
    | (refine W_opgU rfl ?hg ?_; (case hg => (simp only [upd_at, reduceIte, Nat.reduceEqDiff]; done))) | (refine W_callN rfl ?hg ?_; (case hg => (simp only [WG, reduceIte, Nat.reduceEqDiff]; done))) | rw [W_seq] | rw [W_reg] | rw [push_no] | rw [push_yes] | rw [W_onil] | rw [W_skip] | rw [W_blk] | rw [W_b] | refine W_regd0 ?_ | refine W_regd ?_)
  refine W_callK rfl ?hg ?hargs (call5 (G := G) hA2 hok2 (by omega) (hN.keep0 kk2) hNl) ?_
  case hg => (simp only [WB, execE, unE, args0, reduceIte, Nat.reduceEqDiff, Nat.reduceAdd, Nat.reduceLeDiff, WO, fillX, splice]; done)
  case hargs => simp only [WB, execE, unE, args0, reduceIte, Nat.reduceEqDiff, Nat.reduceAdd, Nat.reduceLeDiff, WO, fillX, splice] <;> rfl
  rintro v m3 ⟨⟨b, rfl, hb⟩, k3⟩ hs3
  have kB3 : Keep m1 m3 [] := k2.trans k3 (by simp)
  have kk3 : Keep m m3 [] := kk2.trans k3 (by simp)
  have d3 : m3.ds = [] := hs3.ds.trans (hs2.ds.trans d0)
  have y3 := kB3.at ny0 (by simp) y0
  have x3 := kB3.at nB (by simp) gB
  cases b with
  | false =>
    repeat (first
      | ((first | refine W_op rfl rfl ?_ | (refine W_opgT rfl rfl ?hg ?_; (case hg => (simp only [WG, reduceIte, Nat.reduceEqDiff]; done)))); simp only [WB, execE, unE, args0, reduceIte, Nat.reduceEqDiff, Nat.reduceAdd, Nat.reduceLeDiff, WO, fillX, splice, Wo_some])
      | (refine W_opgF rfl rfl ?hg ?_; (case hg => (simp only [WG, reduceIte, Nat.reduceEqDiff]; done)))
      | (refine W_opgU rfl ?hg ?_; (case hg => (simp only [upd_at, reduceIte, Nat.reduceEqDiff]; done))) | (refine W_callN rfl ?hg ?_; (case hg => (simp only [WG, reduceIte, Nat.reduceEqDiff]; done))) | rw [W_seq] | rw [W_reg] | rw [push_no] | rw [push_yes] | rw [W_onil] | rw [W_skip] | rw [W_blk] | rw [W_b] | refine W_regd0 ?_ | refine W_regd ?_)
    refine W_cond ?_
    simp only [WB, execE, unE, args0, reduceIte, Nat.reduceEqDiff, Nat.reduceAdd, Nat.reduceLeDiff, WC]
    repeat (first
      | ((first | refine W_op rfl rfl ?_ | (refine W_opgT rfl rfl ?hg ?_; (case hg => (simp only [WG, reduceIte, Nat.reduceEqDiff]; done)))); simp only [WB, execE, unE, args0, reduceIte, Nat.reduceEqDiff, Nat.reduceAdd, Nat.reduceLeDiff, WO, fillX, splice, Wo_some])
      | (refine W_opgF rfl rfl ?hg ?_; (case hg => (simp only [WG, reduceIte, Nat.reduceEqDiff]; done)))
      | (refine W_opgU rfl ?hg ?_; (case hg => (simp only [upd_at, reduceIte, Nat.reduceEqDiff]; done))) | (refine W_callN rfl ?hg ?_; (case hg => (simp only [WG, reduceIte, Nat.reduceEqDiff]; done))) | rw [W_seq] | rw [W_reg] | rw [push_no] | rw [push_yes] | rw [W_onil] | rw [W_skip] | rw [W_blk] | rw [W_b] | refine W_regd0 ?_ | refine W_regd ?_)
    refine W_getRet (by repeat (first | exact hg | exact args0_un (Nat.le_of_ble_eq_true rfl) | refine upd_un ?_ rfl)) ?_
    exact ⟨d3, _, rfl, rfl⟩
  | true =>
  have hR := key_all hkey (hb rfl)
  by_cases hin : 1 ≤ kd ∧ kd ≤ 14 ∧ 0 ≤ ph ∧ ph ≤ 100000
  case neg =>
    repeat' (first
      | ((first | refine W_op rfl rfl ?_ | (refine W_opgT rfl rfl ?hg ?_; (case hg => (simp only [WG, reduceIte, Nat.reduceEqDiff]; done)))); simp only [WB, execE, unE, args0, reduceIte, Nat.reduceEqDiff, Nat.reduceAdd, Nat.reduceLeDiff, x3, binE, isShift, intBin, WO, fillX, splice, Wo_some])
      | (refine W_opgF rfl rfl ?hg ?_; (case hg => (simp only [WG, reduceIte, Nat.reduceEqDiff]; done)))
      | (refine W_opgU rfl ?hg ?_; (case hg => (simp only [WG, reduceIte, Nat.reduceEqDiff]; done)))
      | rw [W_seq] | rw [W_reg] | rw [push_no] | rw [push_yes] | rw [W_onil] | rw [W_skip] | rw [W_blk] | rw [W_b] | refine W_regd0 ?_ | refine W_regd ?_
      | (refine W_callN rfl ?hg ?_; (case hg => (simp only [WG, reduceIte, Nat.reduceEqDiff]; done)))
      | refine W_exit rfl ?_
      | (refine W_opgST rfl rfl ?hg ?_ ?_; (case hg => (simp only [WB, execE, unE, args0, reduceIte, Nat.reduceEqDiff, Nat.reduceAdd, Nat.reduceLeDiff, x3, binE, isShift, intBin, WO, fillX, splice, toB_b]; done)); (all_goals (intro hc; simp only [WB, execE, unE, args0, reduceIte, Nat.reduceEqDiff, Nat.reduceAdd, Nat.reduceLeDiff, x3, binE, isShift, intBin, WO, fillX, splice, toB_b] at hc; simp only [hc, WB, execE, unE, args0, reduceIte, Nat.reduceEqDiff, Nat.reduceAdd, Nat.reduceLeDiff, x3, binE, isShift, intBin, WO, fillX, splice, Wo_some])))
      | (refine W_opgSF rfl rfl ?hg ?_ ?_; (case hg => (simp only [WB, execE, unE, args0, reduceIte, Nat.reduceEqDiff, Nat.reduceAdd, Nat.reduceLeDiff, x3, binE, isShift, intBin, WO, fillX, splice, toB_b]; done)); (all_goals (intro hc; simp only [WB, execE, unE, args0, reduceIte, Nat.reduceEqDiff, Nat.reduceAdd, Nat.reduceLeDiff, x3, binE, isShift, intBin, WO, fillX, splice, toB_b] at hc; simp only [hc, WB, execE, unE, args0, reduceIte, Nat.reduceEqDiff, Nat.reduceAdd, Nat.reduceLeDiff, x3, binE, isShift, intBin, WO, fillX, splice, Wo_some])))
      | (refine W_cond ?_; simp only [WB, execE, unE, args0, reduceIte, Nat.reduceEqDiff, Nat.reduceAdd, Nat.reduceLeDiff, x3, binE, isShift, intBin, WO, fillX, splice, WC]; first | (refine WC_split (fun hc => ?_) (fun hc => ?_) <;> (try simp only [hc])) | skip)
      )
    all_goals first
      | (refine W_getRet (by repeat (first | exact hg | exact args0_un (Nat.le_of_ble_eq_true rfl) | refine upd_un ?_ rfl)) ?_
         exact ⟨d3, _, rfl, rfl⟩)
      | (exfalso
         simp only [decide_eq_false_iff_not, decide_eq_true_eq] at *
         omega)
  obtain ⟨hk1, hk2, hp0, hp1⟩ := hin
  have c3 : decide (kd < 1) = false := decide_eq_false (by omega)
  have c4 : decide (kd > 14) = false := decide_eq_false (by omega)
  have c5 : decide (ph < 0) = false := decide_eq_false (by omega)
  have c6 : decide (ph > 100000) = false := decide_eq_false (by omega)
  have z3 : rd m3 m.next 0 3 = some [nv, .i .i64 G, nm] := by simp [rd, y3]
  have w3 : rd m3 mA.next 0 8 = some (stC kd nd ph pos st dp og cp) := by simp [rd, x3, stC]
  repeat (first
    | ((first | refine W_op rfl rfl ?_ | (refine W_opgT rfl rfl ?hg ?_; (case hg => (simp only [WG, reduceIte, Nat.reduceEqDiff]; done)))); simp only [WB, execE, unE, args0, reduceIte, Nat.reduceEqDiff, Nat.reduceAdd, Nat.reduceLeDiff, x3, c3, c4, c5, c6, binE, isShift, intBin, WO, fillX, splice, Wo_some])
    | (refine W_opgF rfl rfl ?hg ?_; (case hg => (simp only [WG, reduceIte, Nat.reduceEqDiff]; done)))
    | (refine W_opgU rfl ?hg ?_; (case hg => (simp only [upd_at, reduceIte, Nat.reduceEqDiff]; done))) | (refine W_callN rfl ?hg ?_; (case hg => (simp only [WG, reduceIte, Nat.reduceEqDiff]; done))) | rw [W_seq] | rw [W_reg] | rw [push_no] | rw [push_yes] | rw [W_onil] | rw [W_skip] | rw [W_blk] | rw [W_b] | refine W_regd0 ?_ | refine W_regd ?_)
  refine W_cond ?_
  simp only [WB, execE, unE, args0, reduceIte, Nat.reduceEqDiff, Nat.reduceAdd, Nat.reduceLeDiff, WC]
  repeat (first
    | ((first | refine W_op rfl rfl ?_ | (refine W_opgT rfl rfl ?hg ?_; (case hg => (simp only [WG, reduceIte, Nat.reduceEqDiff]; done)))); simp only [WB, execE, unE, args0, reduceIte, Nat.reduceEqDiff, Nat.reduceAdd, Nat.reduceLeDiff, z3, w3, WO, fillX, splice, Wo_some])
    | (refine W_opgF rfl rfl ?hg ?_; (case hg => (simp only [WG, reduceIte, Nat.reduceEqDiff]; done)))
    | (refine W_opgU rfl ?hg ?_; (case hg => (simp only [upd_at, reduceIte, Nat.reduceEqDiff]; done))) | (refine W_callN rfl ?hg ?_; (case hg => (simp only [WG, reduceIte, Nat.reduceEqDiff]; done))) | rw [W_seq] | rw [W_reg] | rw [push_no] | rw [push_yes] | rw [W_onil] | rw [W_skip] | rw [W_blk] | rw [W_b] | refine W_regd0 ?_ | refine W_regd ?_)
  have hA3 : Arr m3 10 nv D.length (flatN (D.map ndO)) := by rw [← flatO]; exact hA.keep0 kk3
  have hL := call7 (hP.keep kk3 (by simp)) (hp.keep0 kk3) hl (g := .i .i64 G) (nm := nm) hA3 (by simp) h60 rfl hon (fun d hd => by
    obtain ⟨f, hf, rfl⟩ := List.mem_map.1 hd
    obtain ⟨r1, r2, r3⟩ := hR f hf
    exact ⟨r1, r2, r3, (hok f hf).num, nd_one (hok f hf).set.one (hok f hf).kids.one⟩) (k := k) (kd := kd) (nd := nd) (ph := ph) (pos := pos) (st := st) (dp := dp) (og := og) (cp := cp) hk hc ⟨hk1, hk2⟩ hp0 hp1 hpos hst hog
  refine W_callA rfl ?hargs (hL) ?_
  case hargs => simp only [WB, execE, unE, args0, reduceIte, Nat.reduceEqDiff, Nat.reduceAdd, Nat.reduceLeDiff] <;> rfl
  rintro v m4 ⟨rfl, k4⟩ hs4
  have n3 : m.next < m3.next := Nat.lt_of_lt_of_le ny0 kB3.next
  have nA3 : mA.next < m3.next := Nat.lt_of_lt_of_le nB kB3.next
  have y4 := k4.at n3 (by simp) y3
  have x4 := k4.at nA3 (by simp) x3
  have kk4 : Keep m m4 [] := kk3.trans k4 (by simp)
  have d4 : m4.ds = [] := hs4.ds.trans d3
  have he0 : strBin .eql ⟨([] : List UInt8).toArray⟩ ⟨#[]⟩ = some (.b true) := (eqS [] []).trans (by simp)
  by_cases h0 : nd < 0
  · have c7 : decide (nd < 0) = true := decide_eq_true h0
    rw [lineAt_no (.inl h0)]
    repeat (first
      | ((first | refine W_op rfl rfl ?_ | (refine W_opgT rfl rfl ?hg ?_; (case hg => (simp only [WG, reduceIte, Nat.reduceEqDiff]; done)))); simp only [WB, execE, unE, args0, reduceIte, Nat.reduceEqDiff, Nat.reduceAdd, Nat.reduceLeDiff, x4, c7, he0, binE, isShift, intBin, WO, fillX, splice, Wo_some])
      | (refine W_opgF rfl rfl ?hg ?_; (case hg => (simp only [WG, reduceIte, Nat.reduceEqDiff]; done)))
      | (refine W_opgU rfl ?hg ?_; (case hg => (simp only [upd_at, reduceIte, Nat.reduceEqDiff]; done))) | (refine W_callN rfl ?hg ?_; (case hg => (simp only [WG, reduceIte, Nat.reduceEqDiff]; done))) | rw [W_seq] | rw [W_reg] | rw [push_no] | rw [push_yes] | rw [W_onil] | rw [W_skip] | rw [W_blk] | rw [W_b] | refine W_regd0 ?_ | refine W_regd ?_)
    refine W_cond ?_
    simp only [WB, execE, unE, args0, reduceIte, Nat.reduceEqDiff, Nat.reduceAdd, Nat.reduceLeDiff, WC]
    repeat (first
      | ((first | refine W_op rfl rfl ?_ | (refine W_opgT rfl rfl ?hg ?_; (case hg => (simp only [WG, reduceIte, Nat.reduceEqDiff]; done)))); simp only [WB, execE, unE, args0, reduceIte, Nat.reduceEqDiff, Nat.reduceAdd, Nat.reduceLeDiff, he0, binE, isShift, WO, fillX, splice, Wo_some])
      | (refine W_opgF rfl rfl ?hg ?_; (case hg => (simp only [WG, reduceIte, Nat.reduceEqDiff]; done)))
      | (refine W_opgU rfl ?hg ?_; (case hg => (simp only [upd_at, reduceIte, Nat.reduceEqDiff]; done))) | (refine W_callN rfl ?hg ?_; (case hg => (simp only [WG, reduceIte, Nat.reduceEqDiff]; done))) | rw [W_seq] | rw [W_reg] | rw [push_no] | rw [push_yes] | rw [W_onil] | rw [W_skip] | rw [W_blk] | rw [W_b] | refine W_regd0 ?_ | refine W_regd ?_)
    refine W_getRet (by repeat (first | exact hg | exact args0_un (Nat.le_of_ble_eq_true rfl) | refine upd_un ?_ rfl)) ?_
    exact ⟨d4, _, rfl, rfl⟩
  have c7 : decide (nd < 0) = false := decide_eq_false h0
  obtain ⟨i, rfl⟩ : ∃ i : Nat, nd = i := ⟨nd.toNat, by omega⟩
  by_cases h2 : D.length ≤ i
  · have c8 : decide ((i : Int) ≥ (D.length : Int)) = true := decide_eq_true (by omega)
    rw [lineAt_no (.inr (by simp; omega))]
    repeat (first
      | ((first | refine W_op rfl rfl ?_ | (refine W_opgT rfl rfl ?hg ?_; (case hg => (simp only [WG, reduceIte, Nat.reduceEqDiff]; done)))); simp only [WB, execE, unE, args0, reduceIte, Nat.reduceEqDiff, Nat.reduceAdd, Nat.reduceLeDiff, x4, y4, c7, c8, ↓hlenN, he0, binE, isShift, intBin, WO, fillX, splice, Wo_some])
      | (refine W_opgF rfl rfl ?hg ?_; (case hg => (simp only [WG, reduceIte, Nat.reduceEqDiff]; done)))
      | (refine W_opgU rfl ?hg ?_; (case hg => (simp only [upd_at, reduceIte, Nat.reduceEqDiff]; done))) | (refine W_callN rfl ?hg ?_; (case hg => (simp only [WG, reduceIte, Nat.reduceEqDiff]; done))) | rw [W_seq] | rw [W_reg] | rw [push_no] | rw [push_yes] | rw [W_onil] | rw [W_skip] | rw [W_blk] | rw [W_b] | refine W_regd0 ?_ | refine W_regd ?_)
    refine W_cond ?_
    simp only [WB, execE, unE, args0, reduceIte, Nat.reduceEqDiff, Nat.reduceAdd, Nat.reduceLeDiff, WC]
    repeat (first
      | ((first | refine W_op rfl rfl ?_ | (refine W_opgT rfl rfl ?hg ?_; (case hg => (simp only [WG, reduceIte, Nat.reduceEqDiff]; done)))); simp only [WB, execE, unE, args0, reduceIte, Nat.reduceEqDiff, Nat.reduceAdd, Nat.reduceLeDiff, he0, binE, isShift, WO, fillX, splice, Wo_some])
      | (refine W_opgF rfl rfl ?hg ?_; (case hg => (simp only [WG, reduceIte, Nat.reduceEqDiff]; done)))
      | (refine W_opgU rfl ?hg ?_; (case hg => (simp only [upd_at, reduceIte, Nat.reduceEqDiff]; done))) | (refine W_callN rfl ?hg ?_; (case hg => (simp only [WG, reduceIte, Nat.reduceEqDiff]; done))) | rw [W_seq] | rw [W_reg] | rw [push_no] | rw [push_yes] | rw [W_onil] | rw [W_skip] | rw [W_blk] | rw [W_b] | refine W_regd0 ?_ | refine W_regd ?_)
    refine W_getRet (by repeat (first | exact hg | exact args0_un (Nat.le_of_ble_eq_true rfl) | refine upd_un ?_ rfl)) ?_
    exact ⟨d4, _, rfl, rfl⟩
  have c8 : decide ((i : Int) ≥ (D.length : Int)) = false := decide_eq_false (by omega)
  have hlt : i < D.length := by omega
  obtain ⟨j, o, cap, ex, hnv, hj, hr⟩ := (hA.keep0 kk4).rdE hlt
  obtain ⟨d, hd⟩ : ∃ d, D[i]? = some d := ⟨_, List.getElem?_eq_getElem hlt⟩
  rw [flatF_at hd] at hr
  have hdo := hok d (List.mem_of_getElem? hd)
  obtain ⟨r1, r2, r3⟩ := hR d (List.mem_of_getElem? hd)
  have hix : (0 ≤ (i : Int) ∧ (i : Int) < (D.length : Int)) := ⟨by omega, by omega⟩
  have o1 := hdo.set.one
  have o2 := hdo.kids.one
  rw [lineAt_at (d := (ndO d)) (by rw [List.getElem?_map, hd]; rfl)]
  generalize hLD : lineD l (ndO d) k kd ph pos st og = LD
  repeat (first
    | ((first | refine W_op rfl rfl ?_ | (refine W_opgT rfl rfl ?hg ?_; (case hg => (simp only [WG, reduceIte, Nat.reduceEqDiff]; done)))); simp only [WB, execE, unE, args0, reduceIte, Nat.reduceEqDiff, Nat.reduceAdd, Nat.reduceLeDiff, x4, y4, c7, c8, ↓hlenN, binE, isShift, intBin, WO, fillX, splice, Wo_some])
    | (refine W_opgF rfl rfl ?hg ?_; (case hg => (simp only [WG, reduceIte, Nat.reduceEqDiff]; done)))
    | (refine W_opgU rfl ?hg ?_; (case hg => (simp only [upd_at, reduceIte, Nat.reduceEqDiff]; done))) | (refine W_callN rfl ?hg ?_; (case hg => (simp only [WG, reduceIte, Nat.reduceEqDiff]; done))) | rw [W_seq] | rw [W_reg] | rw [push_no] | rw [push_yes] | rw [W_onil] | rw [W_skip] | rw [W_blk] | rw [W_b] | refine W_regd0 ?_ | refine W_regd ?_)
  refine W_cond ?_
  simp only [WB, execE, unE, args0, reduceIte, Nat.reduceEqDiff, Nat.reduceAdd, Nat.reduceLeDiff, WC]
  repeat (first
    | ((first | refine W_opS rfl rfl rfl ?_ | (refine W_opgT rfl rfl ?hg ?_; (case hg => (simp only [WG, reduceIte, Nat.reduceEqDiff]; done)))); simp only [WB, execE, unE, args0, reduceIte, Nat.reduceEqDiff, Nat.reduceAdd, Nat.reduceLeDiff, x4, y4, hnv, hix, Int.toNat_natCast, hr, WO, fillX, splice, Wo_some])
    | (refine W_opgF rfl rfl ?hg ?_; (case hg => (simp only [WG, reduceIte, Nat.reduceEqDiff]; done)))
    | (refine W_opgU rfl ?hg ?_; (case hg => (simp only [upd_at, reduceIte, Nat.reduceEqDiff]; done))) | (refine W_callN rfl ?hg ?_; (case hg => (simp only [WG, reduceIte, Nat.reduceEqDiff]; done))) | rw [W_seq] | rw [W_reg] | rw [push_no] | rw [push_yes] | rw [W_onil] | rw [W_skip] | rw [W_blk] | rw [W_b] | refine W_regd0 ?_ | refine W_regd ?_)
  simp only [Nf.cells]
  repeat (first | rw [W_seq] | rw [W_reg] | rw [push_no] | rw [push_yes] | rw [W_onil] | rw [W_skip] | rw [W_blk] | rw [W_b] | refine W_regd0 ?_ | refine W_regd ?_)
  refine W_op rfl rfl ?_
  simp only [WB, execE, unE, args0, reduceIte, Nat.reduceEqDiff, Nat.reduceAdd, Nat.reduceLeDiff, o1, o2, WO, fillX, splice, Wo_some]
  repeat (first | rw [push_no] | rw [push_yes] | rw [W_onil])
  obtain ⟨mC, hmC, kC, bC, gC, dC, _, nC⟩ := mk_put m4 [.i .i64 0, .i .i64 0, .i .i64 0, .i .i64 0, .i .i64 0, .i .i64 0, .i .i64 0, .s ⟨#[]⟩, .sl none 0 0 true, .sl none 0 0 true] [.i .i64 d.k, .i .i64 d.fr, .i .i64 d.to, .i .i64 d.num, .i .i64 d.mn, .i .i64 d.mx, .i .i64 d.md, .s ⟨d.nm.toArray⟩, d.sv, d.kv] true true ⟨10, some 39⟩ ⟨10, some 39⟩ 10 rfl
  rw [← hmC]
  clear hmC
  have kkC : Keep m mC [] := kk4.trans kC (by simp)
  have xC := kC.at (Nat.lt_of_lt_of_le nA3 k4.next) (by simp) x4
  repeat (first
    | ((first | refine W_op rfl rfl ?_ | (refine W_opgT rfl rfl ?hg ?_; (case hg => (simp only [WG, reduceIte, Nat.reduceEqDiff]; done)))); simp only [WB, execE, unE, args0, reduceIte, Nat.reduceEqDiff, Nat.reduceAdd, Nat.reduceLeDiff, xC, gC, WO, fillX, splice, Wo_some])
    | (refine W_opgF rfl rfl ?hg ?_; (case hg => (simp only [WG, reduceIte, Nat.reduceEqDiff]; done)))
    | (refine W_opgU rfl ?hg ?_; (case hg => (simp only [upd_at, reduceIte, Nat.reduceEqDiff]; done))) | (refine W_callN rfl ?hg ?_; (case hg => (simp only [WG, reduceIte, Nat.reduceEqDiff]; done))) | rw [W_seq] | rw [W_reg] | rw [push_no] | rw [push_yes] | rw [W_onil] | rw [W_skip] | rw [W_blk] | rw [W_b] | refine W_regd0 ?_ | refine W_regd ?_)
  refine W_callA rfl ?hargs (call8 (k := k) (kd := kd) (ph := ph) (pos := pos) (st := st) (og := og) (nk := d.k) (fr := d.fr) (to := d.to) (num := d.num) (hp.keep0 kkC) hl hk r1 r2 r3 hdo.num ⟨hk1, hk2⟩ hp0 hp1 hpos hst hog) ?_
  case hargs => simp only [WB, execE, unE, args0, reduceIte, Nat.reduceEqDiff, Nat.reduceAdd, Nat.reduceLeDiff] <;> rfl
  rintro v m5 ⟨rfl, k5⟩ hs5
  have hLD2 : ([35] ++ digI k ++ [32] ++ spanT d.fr d.to ++ [32] ++ quote (partT l d.fr d.to) ++ [32] ++ eName kd ++ [58, 32] ++ phrT d.k d.num kd ph pos st og) = LD := hLD
  rw [hLD2]
  have he1 : strBin .eql ⟨LD.toArray⟩ ⟨LD.toArray⟩ = some (.b true) := (eqS LD LD).trans (by simp)
  repeat (first
    | ((first | refine W_op rfl rfl ?_ | (refine W_opgT rfl rfl ?hg ?_; (case hg => (simp only [WG, reduceIte, Nat.reduceEqDiff]; done)))); simp only [WB, execE, unE, args0, reduceIte, Nat.reduceEqDiff, Nat.reduceAdd, Nat.reduceLeDiff, he1, binE, isShift, WO, fillX, splice, Wo_some])
    | (refine W_opgF rfl rfl ?hg ?_; (case hg => (simp only [WG, reduceIte, Nat.reduceEqDiff]; done)))
    | (refine W_opgU rfl ?hg ?_; (case hg => (simp only [upd_at, reduceIte, Nat.reduceEqDiff]; done))) | (refine W_callN rfl ?hg ?_; (case hg => (simp only [WG, reduceIte, Nat.reduceEqDiff]; done))) | rw [W_seq] | rw [W_reg] | rw [push_no] | rw [push_yes] | rw [W_onil] | rw [W_skip] | rw [W_blk] | rw [W_b] | refine W_regd0 ?_ | refine W_regd ?_)
  refine W_getRet (by repeat (first | exact hg | exact args0_un (Nat.le_of_ble_eq_true rfl) | refine upd_un ?_ rfl)) ?_
  exact ⟨hs5.ds.trans (dC.trans d4), _, rfl, rfl⟩
end Go.Proofs.YtdmoecehmclohaaGreatDoor
