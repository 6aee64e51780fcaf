/- States: the one ahead of all, are two the same, one of its own; may one stand ahead. No condition. -/
import Derived.Test.YtfbglgmhhmeoeaaGreatDoorWbWE
import Derived.Test.YtfbglgmhhmeoeaaGreatDoorWbViNode
namespace Go.Proofs.YtfbglgmhhmeoeaaGreatDoor
open Go.Vi
set_option linter.unusedSimpArgs false
set_option linter.unusedVariables false
theorem call40 {m : AMem} {av : AV} {l : List Int} (hA : Arr m 1 av l.length (ints l)) (h0 : 0 < l.length) (hn : l.length ≤ 100000) :
  Vi.Call T 40 [av] m (fun v m' => FrI m m' v l ∧ Keep m m' []) := by
 obtain ⟨hl, ⟨h, _⟩ | ⟨j, o, cap, ex, c, wr, es, rfl, hcap, hj, hg, hle, ht⟩⟩ := hA
 ·omega
 refine Vi.Call.ofP T40 (Nat.le_of_ble_eq_true rfl) ?_
 unfold v40
 repeat (first
  | (refine W_op rfl rfl ?_; simp only [WB, execE, unE, args0, reduceIte, Nat.reduceEqDiff, Nat.reduceAdd, Nat.reduceLeDiff, isNil, Wo_some])
  | rw [W_seq] | rw [W_reg] | rw [push_no] | rw [W_onil] | rw [W_skip] | rw [W_blk] | rw [W_b] | refine W_regd0 ?_)
 refine W_cond ?_
 simp only [WB, execE, unE, args0, reduceIte, Nat.reduceEqDiff, Nat.reduceAdd, Nat.reduceLeDiff, WC]
 repeat (first
  | ((first | refine W_opA rfl rfl rfl ?_ | (refine W_opgT rfl rfl ?h ?_; case h => simp only [WG, reduceIte, Nat.reduceEqDiff]; done)); simp only [WB, execE, unE, args0, reduceIte, Nat.reduceEqDiff, Nat.reduceAdd, Nat.reduceLeDiff, fillX, WO, fillX, splice, Wo_some]) | simp only [WS] | refine W_regd0 ?_ | refine W_regd ?_)
 have hne : ¬ m.next = j := by omega
 have hroom : roomy (0 + l.length) 8 = true := roomyOf (by omega) (by omega)
 have hR0 : RowE (m.inn.new (.cells [] true (1 : Nat))) 1 none (.sl (some (m.next, 0)) 0 0 true) (some m.next) 0 [] :=
  ⟨by simp, [], 0, true, rfl, by simp, by rw [AMem.get_new, if_pos (show m.inn.next = m.next from rfl)], rfl, Nat.le_refl _, rfl⟩
 have hsrc : srcE (m.inn.new (.cells [] true (1 : Nat))) 1 (.sl (some (j, o)) l.length cap ex) = some (ints l, l.length) := by
  simp only [srcE, rd, AMem.get_new, AMem.next_inn, if_neg hne, AMem.get_inn, hg, if_pos hle, ht, Option.map_some]
 refine W_app (n := 0) (k := l.length) (new := ints l) (ls := []) rfl (hR0.as ?_) ?_ hl (ints_one l) hroom ?_
 ·skip
  simp only [WB, execE, unE, args0, reduceIte, Nat.reduceEqDiff, Nat.reduceAdd, Nat.reduceLeDiff]
 ·skip
  simp only [WB, execE, unE, args0, reduceIte, Nat.reduceEqDiff, Nat.reduceAdd, Nat.reduceLeDiff]
  exact hsrc
 intro av' oj' m' ty' r5 ds5 ro5 o5 k5 _
 repeat (first
  | (refine W_op rfl rfl ?_; simp only [WB, execE, unE, args0, reduceIte, Nat.reduceEqDiff, Nat.reduceAdd, Nat.reduceLeDiff, Wo_some])
  | rw [W_seq] | rw [W_reg] | rw [push_no] | rw [W_onil] | rw [W_skip] | rw [W_blk] | rw [W_b] | refine W_regd0 ?_)
 refine W_getRet (by repeat (first | exact hg | exact args0_un (Nat.le_of_ble_eq_true rfl) | refine upd_un ?_ rfl)) ?_
 have hk : Keep m m' [] := (((Keep.new m.inn _).ofInn).nil.trans k5 (fun i hi => .inl hi)).mono (by intro i hi; simp at hi; right; omega)
 rw [Nat.zero_add] at r5
 refine ⟨by rw [ds5]; rfl, _, rfl, ⟨ty', oj', (r5.keep (Keep.refl _ []).out (by simp)), fun k hk => ?_⟩, hk.out⟩
 rcases o5 with h | ⟨k', h, h2⟩
 ·rw [h] at hk; cases hk; exact Nat.le_refl _
 ·rw [h] at hk; cases hk
  simp only [AMem.next_new, AMem.next_inn] at h2
  omega
set_option maxHeartbeats 2000000 in
theorem call23 {m : AMem} {s : St} {cv : AV} (hA : Cap m cv s) (h0 : 0 < s.caps.length) (hn : s.caps.length ≤ 100000) :
  Vi.Call T 23 [.agg (stS s cv)] m (fun v m' => (∃ cv', v = .agg (stS s cv') ∧ FrI m m' cv' s.caps) ∧ Keep m m' []) := by
 have ho := Arr.one hA
 refine Vi.Call.ofP T23 (Nat.le_of_ble_eq_true rfl) ?_
 unfold v23
 simp only [stS]
 repeat (first | simp only [WS] | refine W_regd0 ?_ | refine W_regd ?_)
 refine W_op rfl rfl ?_
 simp only [WB, execE, unE, args0, reduceIte, Nat.reduceEqDiff, Nat.reduceAdd, Nat.reduceLeDiff, ho, WO, fillX, splice, Wo_some]
 repeat (first | rw [push_no] | rw [push_yes] | rw [W_onil])
 obtain ⟨mA, hmA, kA, _, gA, dA, _, nA⟩ := mk_new m.inn [.i .i64 s.kd, .i .i64 s.nd, .i .i64 s.ph, .i .i64 s.pos, .i .i64 s.st, .i .i64 s.dp, .i .i64 s.og, cv] true (8 : Nat) 8 rfl
 have kA' : Keep m mA [] := kA.ofInn
 have gA' : mA.get m.next = some (.cells [.i .i64 s.kd, .i .i64 s.nd, .i .i64 s.ph, .i .i64 s.pos, .i .i64 s.st, .i .i64 s.dp, .i .i64 s.og, cv] true (8 : Nat)) := gA
 have nA' : m.next < mA.next := nA
 rw [← hmA]
 clear hmA gA nA kA
 repeat (first | simp only [WS] | refine W_regd0 ?_ | refine W_regd ?_)
 refine W_op rfl rfl ?_
 simp only [WB, execE, unE, args0, reduceIte, Nat.reduceEqDiff, Nat.reduceAdd, Nat.reduceLeDiff, WO, fillX, splice, Wo_some]
 repeat (first | rw [push_no] | rw [push_yes] | rw [W_onil])
 obtain ⟨mB, hmB, kB, _, gB, dB, _, nB⟩ := mk_new mA [.i .i64 0, .i .i64 0, .i .i64 0, .i .i64 0, .i .i64 0, .i .i64 0, .i .i64 0, .sl none 0 0 true] true ⟨8, some 35⟩ 8 rfl
 rw [← hmB]
 clear hmB
 have kB' : Keep m mB [] := kA'.trans kB (by simp)
 have gA2 := kB.at nA' (by simp) gA'
 have nB' : m.next < mB.next := Nat.lt_trans nA' nB
 repeat (first
  | (refine W_op rfl rfl ?_; simp only [WB, execE, unE, args0, reduceIte, Nat.reduceEqDiff, Nat.reduceAdd, Nat.reduceLeDiff, gA2, WO, fillX, splice, Wo_some]) | simp only [WS] | refine W_regd0 ?_ | refine W_regd ?_)
 refine W_callA rfl ?hargs (call40 (Arr.keep0 hA kB') h0 hn) ?_
 case hargs => simp only [WB, execE, unE, args0, reduceIte, Nat.reduceEqDiff, Nat.reduceAdd, Nat.reduceLeDiff] <;> rfl
 rintro v m1 ⟨⟨ty, oj, hR, hoj⟩, k1⟩ hs1
 have g1 := k1.at nB' (by simp) gA2
 have g2 := k1.at nB (by simp) gB
 have oR := hR.one
 have eR := one_cells oR
 have n1 := k1.next
 have kk1 : Keep m m1 [] := kB'.trans k1 (by simp)
 repeat (first
  | (refine W_opS rfl rfl rfl ?_; simp only [WB, execE, unE, args0, reduceIte, Nat.reduceEqDiff, Nat.reduceAdd, Nat.reduceLeDiff, g1, WO, fillX, splice, Wo_some]) | simp only [WS] | refine W_regd0 ?_ | refine W_regd ?_)
 repeat (first | simp only [WS] | refine W_regd0 ?_ | refine W_regd ?_)
 refine W_op rfl rfl ?_
 simp only [WB, execE, unE, args0, reduceIte, Nat.reduceEqDiff, Nat.reduceAdd, Nat.reduceLeDiff, g1, oR, eR, WO, fillX, splice, Wo_some]
 repeat (first | rw [push_no] | rw [push_yes] | rw [W_onil])
 have b2 : rd (m1.put m.next (some (.cells [.i .i64 s.kd, .i .i64 s.nd, .i .i64 s.ph, .i .i64 s.pos, .i .i64 s.st, .i .i64 s.dp, .i .i64 s.og, v] true (8 : Nat)))) m.next 0 8 = some [.i .i64 s.kd, .i .i64 s.nd, .i .i64 s.ph, .i .i64 s.pos, .i .i64 s.st, .i .i64 s.dp, .i .i64 s.og, v] := by simp [rd, AMem.get_put]
 have hne : ¬ m.next = mA.next := by omega
 repeat (first
  | (refine W_opS rfl rfl rfl ?_; simp only [WB, execE, unE, args0, reduceIte, Nat.reduceEqDiff, Nat.reduceAdd, Nat.reduceLeDiff, b2, oR, WO, fillX, splice, Wo_some]) | simp only [WS] | refine W_regd0 ?_ | refine W_regd ?_)
 repeat (first | simp only [WS] | refine W_regd0 ?_ | refine W_regd ?_)
 refine W_op rfl rfl ?_
 simp only [WB, execE, unE, args0, reduceIte, Nat.reduceEqDiff, Nat.reduceAdd, Nat.reduceLeDiff, g2, hne, oR, eR, WO, fillX, splice, Wo_some]
 repeat (first | rw [push_no] | rw [push_yes] | rw [W_onil])
 repeat (first
  | (refine W_op rfl rfl ?_; simp only [WB, execE, unE, args0, reduceIte, Nat.reduceEqDiff, Nat.reduceAdd, Nat.reduceLeDiff, WO, fillX, splice, Wo_some]) | simp only [WS] | refine W_regd0 ?_ | refine W_regd ?_)
 refine W_getRet (by repeat (first | exact hg | exact args0_un (Nat.le_of_ble_eq_true rfl) | refine upd_un ?_ rfl)) ?_
 refine ⟨hs1.ds.trans (dB.trans dA), [.agg [.i .i64 s.kd, .i .i64 s.nd, .i .i64 s.ph, .i .i64 s.pos, .i .i64 s.st, .i .i64 s.dp, .i .i64 s.og, v]], ?_, ⟨v, rfl, ty, oj, ?_, fun k hk => by have := hoj k hk; omega⟩, ?_⟩
 ·simp only [resX, execE, X.at, upd_at, reduceIte, Nat.reduceEqDiff, rd, AMem.get_put]
  rfl
 ·refine (((hR.keep (Keep.put _ _ _) ?_).keep (Keep.put _ _ _) ?_)).keep (Keep.refl _ []).out (by simp)
  ·intro k hk hm; have := hoj k hk; have := List.mem_singleton.1 hm; omega
  ·intro k hk hm; have := hoj k hk; have := List.mem_singleton.1 hm; omega
 ·refine (((kk1.trans (Keep.put _ _ _) ?_).trans (Keep.put _ _ _) ?_)).out
  ·intro x hx; have := List.mem_singleton.1 hx; right; omega
  ·intro x hx; have := List.mem_singleton.1 hx; right; omega
set_option maxHeartbeats 2000000 in
theorem call35 {m : AMem} {g : Nat} (hg9 : g ≤ 99) : Vi.Call T 35 [.i .i64 (g : Int)] m (fun v m' => (∃ cv, v = .agg (stS (St.blank g) cv) ∧ FrI m m' cv (St.blank g).caps) ∧ Keep m m' []) := by
 refine Vi.Call.ofP T35 (Nat.le_of_ble_eq_true rfl) ?_
 unfold v35
 repeat (first | simp only [WS] | refine W_regd0 ?_ | refine W_regd ?_)
 refine W_op rfl rfl ?_
 simp only [WB, execE, unE, args0, reduceIte, Nat.reduceEqDiff, Nat.reduceAdd, Nat.reduceLeDiff, WO, fillX, splice, Wo_some]
 repeat (first | rw [push_no] | rw [push_yes] | rw [W_onil])
 obtain ⟨mA, hmA, kA, _, gA, dA, _, nA⟩ := mk_new m.inn [.i .i64 0, .i .i64 0, .i .i64 0, .i .i64 0, .i .i64 0, .i .i64 0, .i .i64 0, .sl none 0 0 true] true ⟨8, some 35⟩ 8 rfl
 have kA' : Keep m mA [] := kA.ofInn
 have gA' : mA.get m.next = some (.cells [.i .i64 0, .i .i64 0, .i .i64 0, .i .i64 0, .i .i64 0, .i .i64 0, .i .i64 0, .sl none 0 0 true] true ⟨8, some 35⟩) := gA
 have nA' : m.next < mA.next := nA
 rw [← hmA]
 clear hmA gA nA kA
 repeat (first
  | (refine W_opS rfl rfl rfl ?_; simp only [WB, execE, unE, args0, reduceIte, Nat.reduceEqDiff, Nat.reduceAdd, Nat.reduceLeDiff, WO, fillX, splice, Wo_some]) | simp only [WS] | refine W_regd0 ?_ | refine W_regd ?_)
 repeat (first | simp only [WS] | refine W_regd0 ?_ | refine W_regd ?_)
 refine W_op rfl rfl ?_
 simp only [WB, execE, unE, args0, reduceIte, Nat.reduceEqDiff, Nat.reduceAdd, Nat.reduceLeDiff, WO, fillX, splice, Wo_some]
 repeat (first | rw [push_no] | rw [push_yes] | rw [W_onil])
 obtain ⟨mB, hmB, kB, _, gB, dB, _, nB⟩ := mk_put mA [.i .i64 0, .i .i64 0, .i .i64 0, .i .i64 0, .i .i64 0, .i .i64 0, .i .i64 0, .sl none 0 0 true] [.i .i64 0, .i .i64 0, .i .i64 0, .i .i64 0, .i .i64 0, .i .i64 0, .i .i64 (-1), .sl none 0 0 true] true true ⟨8, some 35⟩ ⟨8, some 35⟩ 8 rfl
 rw [← hmB]
 clear hmB
 have kB' : Keep m mB [] := kA'.trans kB (by simp)
 have gA2 := kB.at nA' (by simp) gA'
 have nB' : m.next < mB.next := Nat.lt_trans nA' nB
 have e1 : (if (0 : Int) > (g : Int) then (0 : Int) else (g : Int)) = (g : Int) := by split <;> omega
 have e2 : (if (99 : Int) < (g : Int) then (99 : Int) else (g : Int)) = (g : Int) := by split <;> omega
 have e3 : IntKind.i64.wrap ((g : Int) + 1) = ((g + 1 : Nat) : Int) := wr_i64 (n := (g : Int) + 1) (by omega) (by omega)
 have e4 : IntKind.i64.wrap (2 * ((g + 1 : Nat) : Int)) = ((2 * (g + 1) : Nat) : Int) := by rw [wr_i64 (by omega) (by omega)]; omega
 repeat (first
  | (refine W_op rfl rfl ?_; simp only [WB, execE, unE, args0, reduceIte, Nat.reduceEqDiff, Nat.reduceAdd, Nat.reduceLeDiff, maxE, minE, e1, e2, e3, e4, binE, isShift, intBin, WO, fillX, splice, Wo_some]) | simp only [WS] | refine W_regd0 ?_ | refine W_regd ?_)
 refine W_cutK [_, _] (fun g' m' => ∃ (cv : AV) (ty oj : Option Nat), g' 2 = .p (some (m.next, 0)) ∧ g' 3 = .p (some (mA.next, 0)) ∧ m'.get mA.next = some (.cells [.i .i64 0, .i .i64 0, .i .i64 0, .i .i64 0, .i .i64 0, .i .i64 0, .i .i64 (-1), cv] true ⟨8, some 35⟩) ∧ RowE m' 1 ty cv oj (2 * (g + 1)) (ints (List.replicate (2 * (g + 1)) (-1))) ∧ (∀ k, oj = some k → mB.next ≤ k) ∧ Keep mB m' [mA.next] ∧ m'.ds = []) ?_ ?_
 ·simp only [List.cons_append, List.nil_append]
  refine W_loop (fun q g' m' => ∃ (i : Nat) (cv : AV) (ty oj : Option Nat), i ≤ 2 * (g + 1) ∧ q = 2 * (g + 1) - i ∧ g' 2 = .p (some (m.next, 0)) ∧ g' 3 = .p (some (mA.next, 0)) ∧ g' 9 = .i .i64 ((2 * (g + 1) : Nat) : Int) ∧ g' 10 = .i .i64 (i : Int) ∧ m'.get mA.next = some (.cells [.i .i64 0, .i .i64 0, .i .i64 0, .i .i64 0, .i .i64 0, .i .i64 0, .i .i64 (-1), cv] true ⟨8, some 35⟩) ∧ RowE m' 1 ty cv oj i (ints (List.replicate i (-1))) ∧ (∀ k, oj = some k → mB.next ≤ k) ∧ Keep mB m' [mA.next] ∧ m'.ds = []) (2 * (g + 1)) ?_ ?_ ?_
  ·refine ⟨0, _, none, none, Nat.zero_le _, rfl, ?_, ?_, ?_, ?_, gB, RowE.nil _ _ _, nofun, Keep.refl _ _, dB.trans dA⟩
   ·skip
    simp only [WT, reduceIte, Nat.reduceEqDiff, args0]
   ·skip
    simp only [WT, reduceIte, Nat.reduceEqDiff, args0]
   ·skip
    simp only [WT, reduceIte, Nat.reduceEqDiff, args0]
   ·skip
    simp only [WT, reduceIte, Nat.reduceEqDiff, args0, Int.ofNat_zero]
    try rfl
  ·intro i hi
   repeat (first | exact args0_un (Nat.le_of_ble_eq_true rfl) i hi | refine upd_un ?_ rfl i hi; clear i hi; intro i hi)
  ·rintro q g2 m1 ⟨i, cv, ty, oj, hi, rfl, q2, q3, q9, q10, gC, hR, hoj, k1, d1⟩ hg
   by_cases hlt : i < 2 * (g + 1)
   ·have c1 : decide ((i : Int) < ((2 * (g + 1) : Nat) : Int)) = true := decide_eq_true (by omega)
    have hwi : IntKind.i64.wrap ((i : Int) + 1) = ((i + 1 : Nat) : Int) := wr_i64 (n := (i : Int) + 1) (by omega) (by omega)
    repeat (first
     | (refine W_op rfl rfl ?_; simp only [WB, execE, unE, args0, reduceIte, Nat.reduceEqDiff, Nat.reduceAdd, Nat.reduceLeDiff, q9, q10, c1, binE, isShift, intBin, WO, fillX, splice, Wo_some]) | simp only [WS] | refine W_regd0 ?_ | refine W_regd ?_)
    refine W_cond ?_
    simp only [WB, execE, unE, args0, reduceIte, Nat.reduceEqDiff, Nat.reduceAdd, Nat.reduceLeDiff, WC]
    repeat (first
     | ((first | refine W_opA rfl rfl rfl ?_ | (refine W_opgT rfl rfl ?h ?_; case h => simp only [WG, reduceIte, Nat.reduceEqDiff]; done)); simp only [WB, execE, unE, args0, reduceIte, Nat.reduceEqDiff, Nat.reduceAdd, Nat.reduceLeDiff, q3, gC, WO, fillX, splice, Wo_some]) | simp only [WS] | refine W_regd0 ?_ | refine W_regd ?_)
    refine W_app (n := i) (k := 1) (new := [.i .i64 (-1)]) (ls := ints (List.replicate i (-1))) rfl ((hR.keep (Keep.new _ _) (by simp)).as ?hrow) ?hsrc rfl rfl (roomyOf (by omega) (by omega)) ?_
    case hrow =>
     simp only [WB, execE, unE, args0, reduceIte, Nat.reduceEqDiff, Nat.reduceAdd, Nat.reduceLeDiff]
    case hsrc =>
     simp only [WB, execE, unE, args0, reduceIte, Nat.reduceEqDiff, Nat.reduceAdd, Nat.reduceLeDiff]
     exact src_new rfl
    intro av' oj' m3 ty' r3 ds3 ro3 o3 k3 _
    have k13 : Keep m1 m3 oj.toList := (Keep.new _ _).nil.trans k3 (fun i hi => .inl hi)
    have hoj3 : ∀ k, oj' = some k → mB.next ≤ k := by
     intro k hk
     rcases o3 with h | ⟨k', h, h2⟩
     ·exact hoj k (h ▸ hk)
     ·rw [h] at hk; cases hk
      have := k1.next
      simp only [AMem.next_new] at h2
      omega
    have nmA : mA.next ∉ oj.toList := by
     intro hm; have := hoj mA.next (by simpa using hm); omega
    have gC3 := k13.at (Nat.lt_of_lt_of_le nB k1.next) nmA gC
    have oA := r3.one
    have eA := one_cells oA
    repeat (first
     | (refine W_opS rfl rfl rfl ?_; simp only [WB, execE, unE, args0, reduceIte, Nat.reduceEqDiff, Nat.reduceAdd, Nat.reduceLeDiff, q3, gC3, WO, fillX, splice, Wo_some]) | simp only [WS] | refine W_regd0 ?_ | refine W_regd ?_)
    repeat (first | simp only [WS] | refine W_regd0 ?_ | refine W_regd ?_)
    refine W_op rfl rfl ?_
    simp only [WB, execE, unE, args0, reduceIte, Nat.reduceEqDiff, Nat.reduceAdd, Nat.reduceLeDiff, q3, gC3, oA, eA, WO, fillX, splice, Wo_some]
    repeat (first | rw [push_no] | rw [push_yes] | rw [W_onil])
    repeat (first
     | (refine W_op rfl rfl ?_; simp only [WB, execE, unE, args0, reduceIte, Nat.reduceEqDiff, Nat.reduceAdd, Nat.reduceLeDiff, q10, hwi, binE, isShift, intBin, WO, fillX, splice, Wo_some]) | simp only [WS] | refine W_regd0 ?_ | refine W_regd ?_)
    refine W_j (by repeat (first | exact hg | exact args0_un (Nat.le_of_ble_eq_true rfl) | refine upd_un ?_ rfl)) ?_
    refine ⟨2 * (g + 1) - (i + 1), by omega, i + 1, av', ty', oj', by omega, rfl, ?_, ?_, ?_, ?_, ?_, ?_, hoj3, ?_, ds3.trans d1⟩
    ·skip
     simp only [WT, reduceIte, Nat.reduceEqDiff, args0, q2]
    ·skip
     simp only [WT, reduceIte, Nat.reduceEqDiff, args0, q3]
    ·skip
     simp only [WT, reduceIte, Nat.reduceEqDiff, args0, q9]
    ·skip
     simp only [WT, reduceIte, Nat.reduceEqDiff, args0]
    ·rw [AMem.get_put, if_pos rfl]
    ·have e : ints (List.replicate (i + 1) (-1)) = ints (List.replicate i (-1)) ++ [.i .i64 (-1)] := by
      rw [List.replicate_succ']; simp [ints]
     rw [e]
     exact r3.keep (Keep.put _ _ _) (fun k hk hm => by have := hoj3 k hk; have := List.mem_singleton.1 hm; omega)
    ·refine (k1.trans k13 ?_).trans (Keep.put _ _ _) (fun x hx => .inl hx)
     intro x hx
     right
     exact hoj x (by simpa using hx)
   ·have c1 : decide ((i : Int) < ((2 * (g + 1) : Nat) : Int)) = false := decide_eq_false (by omega)
    repeat (first
     | (refine W_op rfl rfl ?_; simp only [WB, execE, unE, args0, reduceIte, Nat.reduceEqDiff, Nat.reduceAdd, Nat.reduceLeDiff, q9, q10, c1, binE, isShift, intBin, WO, fillX, splice, Wo_some]) | simp only [WS] | refine W_regd0 ?_ | refine W_regd ?_)
    refine W_cond ?_
    simp only [WB, execE, unE, args0, reduceIte, Nat.reduceEqDiff, Nat.reduceAdd, Nat.reduceLeDiff, WC]
    refine W_exit rfl ?_
    refine W_j (by repeat (first | exact hg | exact args0_un (Nat.le_of_ble_eq_true rfl) | refine upd_un ?_ rfl)) ?_
    obtain rfl : i = 2 * (g + 1) := by omega
    exact ⟨cv, ty, oj, q2, q3, gC, hR, hoj, k1, d1⟩
 rintro g2 m1 ⟨cv, ty, oj, q2, q3, gC, hR, hoj, k1, d1⟩ hg
 have oR := hR.one
 have eR := one_cells oR
 have gA3 := k1.at nB' (by simp; omega) gA2
 have bC : rd m1 mA.next 0 8 = some [.i .i64 0, .i .i64 0, .i .i64 0, .i .i64 0, .i .i64 0, .i .i64 0, .i .i64 (-1), cv] := by simp [rd, gC]
 repeat (first
  | (refine W_opS rfl rfl rfl ?_; simp only [WB, execE, unE, args0, reduceIte, Nat.reduceEqDiff, Nat.reduceAdd, Nat.reduceLeDiff, q2, q3, bC, oR, WO, fillX, splice, Wo_some]) | simp only [WS] | refine W_regd0 ?_ | refine W_regd ?_)
 repeat (first | simp only [WS] | refine W_regd0 ?_ | refine W_regd ?_)
 refine W_op rfl rfl ?_
 simp only [WB, execE, unE, args0, reduceIte, Nat.reduceEqDiff, Nat.reduceAdd, Nat.reduceLeDiff, q2, gA3, oR, WO, fillX, splice, Wo_some]
 repeat (first | rw [push_no] | rw [push_yes] | rw [W_onil])
 repeat (first
  | (refine W_op rfl rfl ?_; simp only [WB, execE, unE, args0, reduceIte, Nat.reduceEqDiff, Nat.reduceAdd, Nat.reduceLeDiff, WO, fillX, splice, Wo_some]) | simp only [WS] | refine W_regd0 ?_ | refine W_regd ?_)
 refine W_getRet (by repeat (first | exact hg | exact args0_un (Nat.le_of_ble_eq_true rfl) | refine upd_un ?_ rfl)) ?_
 have n1 := k1.next
 have kk1 : Keep m m1 [] := kB'.trans k1 (by intro x hx; have := List.mem_singleton.1 hx; right; omega)
 refine ⟨d1, [.agg [.i .i64 0, .i .i64 0, .i .i64 0, .i .i64 0, .i .i64 0, .i .i64 0, .i .i64 (-1), cv]], ?_, ⟨cv, rfl, ty, oj, ?_, fun k hk => by have := hoj k hk; omega⟩, ?_⟩
 ·simp only [resX, execE, X.at, upd_at, reduceIte, Nat.reduceEqDiff, q2, rd, AMem.get_put]
  rfl
 ·have hlen : (St.blank g).caps.length = 2 * (g + 1) := by simp [St.blank]
  rw [hlen]
  refine (hR.keep (Keep.put _ _ _) ?_).keep (Keep.refl _ []).out (by simp)
  intro k hk hm; have := hoj k hk; have := List.mem_singleton.1 hm; omega
 ·refine (kk1.trans (Keep.put _ _ _) ?_).out
  intro x hx; have := List.mem_singleton.1 hx; right; omega
theorem call25 {m : AMem} {av bv : AV} {l : List Int} (hA : Arr m 1 av l.length (ints l)) (hB : Arr m 1 bv l.length (ints l)) (hn : l.length ≤ 1000000) :
  Vi.Call T 25 [av, bv] m (fun v m' => v = .b true ∧ m' = m) := by
 have hlen := hA.lenF
 have hlenB := hB.lenF
 refine Vi.Call.ofP T25 (Nat.le_of_ble_eq_true rfl) ?_
 unfold v25
 have c0 : ((l.length : Int) != (l.length : Int)) = false := bne_self_eq_false _
 repeat (first
  | (refine W_op rfl rfl ?_; simp only [WB, execE, unE, args0, reduceIte, Nat.reduceEqDiff, Nat.reduceAdd, Nat.reduceLeDiff, ↓hlen, ↓hlenB, c0, binE, isShift, intBin, WO, fillX, splice, Wo_some]) | simp only [WS] | refine W_regd0 ?_ | refine W_regd ?_)
 refine W_cond ?_
 simp only [WB, execE, unE, args0, reduceIte, Nat.reduceEqDiff, Nat.reduceAdd, Nat.reduceLeDiff, WC]
 repeat (first
  | (refine W_op rfl rfl ?_; simp only [WB, execE, unE, args0, reduceIte, Nat.reduceEqDiff, Nat.reduceAdd, Nat.reduceLeDiff, ↓hlen, WO, fillX, splice, Wo_some]) | simp only [WS] | refine W_regd0 ?_ | refine W_regd ?_)
 refine W_loop (fun q g' m' => ∃ i : Nat, i ≤ l.length ∧ q = l.length - i ∧ g' 0 = av ∧ g' 1 = bv ∧ g' 12 = .i .i64 (l.length : Int) ∧ g' 13 = .i .i64 (i : Int) ∧ m' = m.inn) l.length ?_ ?_ ?_
 ·refine ⟨0, Nat.zero_le _, rfl, ?_, ?_, ?_, ?_, rfl⟩
  ·skip
   simp only [WT, reduceIte, Nat.reduceEqDiff, args0]
  ·skip
   simp only [WT, reduceIte, Nat.reduceEqDiff, args0]
  ·skip
   simp only [WT, reduceIte, Nat.reduceEqDiff, args0]
  ·skip
   simp only [WT, reduceIte, Nat.reduceEqDiff, args0, Int.ofNat_zero]
   try rfl
 ·intro i hi
  repeat (first | exact args0_un (Nat.le_of_ble_eq_true rfl) i hi | refine upd_un ?_ rfl i hi; clear i hi; intro i hi)
 ·rintro q g m1 ⟨i, hi, rfl, q0, q1, q12, q13, rfl⟩ hg
  by_cases hlt : i < l.length
  ·have c1 : decide ((i : Int) < (l.length : Int)) = true := decide_eq_true (by omega)
   obtain ⟨x, hx⟩ : ∃ x, l[i]? = some x := ⟨_, List.getElem?_eq_getElem hlt⟩
   obtain ⟨j, o, cap, ex, cc, wr, es, rfl, hj, hgj, hck⟩ := hA.full (by omega)
   obtain ⟨j2, o2, cap2, ex2, cc2, wr2, es2, rfl, hj2, hgj2, hck2⟩ := hB.full (by omega)
   have hcc : cc[o + i]? = some (.i .i64 x) := (hck _ (by omega)).trans (ints_get hx)
   have hcc2 : cc2[o2 + i]? = some (.i .i64 x) := (hck2 _ (by omega)).trans (ints_get hx)
   have hix : (0 ≤ (i : Int) ∧ (i : Int) < (l.length : Int)) := ⟨by omega, by omega⟩
   have hwi : IntKind.i64.wrap ((i : Int) + 1) = ((i + 1 : Nat) : Int) := wr_i64 (n := (i : Int) + 1) (by omega) (by omega)
   have c2 : (x != x) = false := bne_self_eq_false _
   repeat (first
    | (refine W_op rfl rfl ?_; simp only [WB, execE, unE, args0, reduceIte, Nat.reduceEqDiff, Nat.reduceAdd, Nat.reduceLeDiff, q12, q13, c1, binE, isShift, intBin, WO, fillX, splice, Wo_some]) | simp only [WS] | refine W_regd0 ?_ | refine W_regd ?_)
   refine W_cond ?_
   simp only [WB, execE, unE, args0, reduceIte, Nat.reduceEqDiff, Nat.reduceAdd, Nat.reduceLeDiff, WC]
   repeat (first
    | (refine W_op rfl rfl ?_; simp only [WB, execE, unE, args0, reduceIte, Nat.reduceEqDiff, Nat.reduceAdd, Nat.reduceLeDiff, q0, q1, q13, hix, Int.toNat_natCast, Nat.mul_one, hgj, hgj2, hcc, hcc2, c2, binE, isShift, intBin, WO, fillX, splice, Wo_some]) | simp only [WS] | refine W_regd0 ?_ | refine W_regd ?_)
   refine W_cond ?_
   simp only [WB, execE, unE, args0, reduceIte, Nat.reduceEqDiff, Nat.reduceAdd, Nat.reduceLeDiff, WC]
   repeat (first
    | (refine W_op rfl rfl ?_; simp only [WB, execE, unE, args0, reduceIte, Nat.reduceEqDiff, Nat.reduceAdd, Nat.reduceLeDiff, q13, hwi, binE, isShift, intBin, WO, fillX, splice, Wo_some]) | simp only [WS] | refine W_regd0 ?_ | refine W_regd ?_)
   refine W_j (by repeat (first | exact hg | exact args0_un (Nat.le_of_ble_eq_true rfl) | refine upd_un ?_ rfl)) ?_
   refine ⟨l.length - (i + 1), by omega, i + 1, by omega, rfl, ?_, ?_, ?_, ?_, rfl⟩
   ·skip
    simp only [WT, reduceIte, Nat.reduceEqDiff, args0, q0]
   ·skip
    simp only [WT, reduceIte, Nat.reduceEqDiff, args0, q1]
   ·skip
    simp only [WT, reduceIte, Nat.reduceEqDiff, args0, q12]
   ·skip
    simp only [WT, reduceIte, Nat.reduceEqDiff, args0]
  ·have c1 : decide ((i : Int) < (l.length : Int)) = false := decide_eq_false (by omega)
   repeat (first
    | (refine W_op rfl rfl ?_; simp only [WB, execE, unE, args0, reduceIte, Nat.reduceEqDiff, Nat.reduceAdd, Nat.reduceLeDiff, q12, q13, c1, binE, isShift, intBin, WO, fillX, splice, Wo_some]) | simp only [WS] | refine W_regd0 ?_ | refine W_regd ?_)
   refine W_cond ?_
   simp only [WB, execE, unE, args0, reduceIte, Nat.reduceEqDiff, Nat.reduceAdd, Nat.reduceLeDiff, WC]
   refine W_exit rfl ?_
   repeat (first
    | (refine W_op rfl rfl ?_; simp only [WB, execE, unE, args0, reduceIte, Nat.reduceEqDiff, Nat.reduceAdd, Nat.reduceLeDiff, WO, fillX, splice, Wo_some]) | simp only [WS] | refine W_regd0 ?_ | refine W_regd ?_)
   refine W_getRet (by repeat (first | exact hg | exact args0_un (Nat.le_of_ble_eq_true rfl) | refine upd_un ?_ rfl)) ?_
   exact ⟨rfl, _, rfl, rfl, rfl⟩
set_option maxHeartbeats 2000000 in
theorem call10 {m : AMem} {s : St} {cv cv2 : AV} (hA : Cap m cv s) (hB : Cap m cv2 s) (hn : s.caps.length ≤ 100000) :
  Vi.Call T 10 [.agg (stS s cv), .agg (stS s cv2)] m (fun v m' => v = .b true ∧ Keep m m' []) := by
 have ho := Arr.one hA
 have ho2 := Arr.one hB
 refine Vi.Call.ofP T10 (Nat.le_of_ble_eq_true rfl) ?_
 unfold v10
 simp only [stS]
 repeat (first | simp only [WS] | refine W_regd0 ?_ | refine W_regd ?_)
 refine W_op rfl rfl ?_
 simp only [WB, execE, unE, args0, reduceIte, Nat.reduceEqDiff, Nat.reduceAdd, Nat.reduceLeDiff, ho, WO, fillX, splice, Wo_some]
 repeat (first | rw [push_no] | rw [push_yes] | rw [W_onil])
 obtain ⟨mA, hmA, kA, _, gA, dA, _, nA⟩ := mk_new m.inn [.i .i64 s.kd, .i .i64 s.nd, .i .i64 s.ph, .i .i64 s.pos, .i .i64 s.st, .i .i64 s.dp, .i .i64 s.og, cv] true (8 : Nat) 8 rfl
 have kA' : Keep m mA [] := kA.ofInn
 have gA' : mA.get m.next = some (.cells [.i .i64 s.kd, .i .i64 s.nd, .i .i64 s.ph, .i .i64 s.pos, .i .i64 s.st, .i .i64 s.dp, .i .i64 s.og, cv] true (8 : Nat)) := gA
 have nA' : m.next < mA.next := nA
 rw [← hmA]
 clear hmA gA nA kA
 repeat (first | simp only [WS] | refine W_regd0 ?_ | refine W_regd ?_)
 refine W_op rfl rfl ?_
 simp only [WB, execE, unE, args0, reduceIte, Nat.reduceEqDiff, Nat.reduceAdd, Nat.reduceLeDiff, ho2, WO, fillX, splice, Wo_some]
 repeat (first | rw [push_no] | rw [push_yes] | rw [W_onil])
 obtain ⟨mB, hmB, kB, _, gB, dB, _, nB⟩ := mk_new mA [.i .i64 s.kd, .i .i64 s.nd, .i .i64 s.ph, .i .i64 s.pos, .i .i64 s.st, .i .i64 s.dp, .i .i64 s.og, cv2] true (8 : Nat) 8 rfl
 rw [← hmB]
 clear hmB
 have kB' : Keep m mB [] := kA'.trans kB (by simp)
 have gA2 := kB.at nA' (by simp) gA'
 have heq : eqCells [.i .i64 s.kd, .i .i64 s.nd, .i .i64 s.ph, .i .i64 s.pos, .i .i64 s.st, .i .i64 s.dp, .i .i64 s.og] [.i .i64 s.kd, .i .i64 s.nd, .i .i64 s.ph, .i .i64 s.pos, .i .i64 s.st, .i .i64 s.dp, .i .i64 s.og] [(0, .i), (1, .i), (2, .i), (3, .i), (4, .i), (5, .i), (6, .i)] = some true := by
  simp [eqCells, eqScalar]
 repeat (first
  | ((first | refine W_op rfl rfl ?_ | (refine W_opgT rfl rfl ?h ?_; case h => simp only [WG, reduceIte, Nat.reduceEqDiff]; done)); simp only [WB, execE, unE, args0, reduceIte, Nat.reduceEqDiff, Nat.reduceAdd, Nat.reduceLeDiff, gA2, gB, heq, WO, fillX, splice, Wo_some])
  | (refine W_opgF rfl rfl ?h ?_; case h => simp only [WG, reduceIte, Nat.reduceEqDiff]; done)
  | (refine W_opgU rfl ?h ?_; case h => simp only [upd_at, reduceIte, Nat.reduceEqDiff]; done) | (refine W_callN rfl ?h ?_; case h => simp only [WG, reduceIte, Nat.reduceEqDiff]; done) | simp only [WS] | refine W_regd0 ?_ | refine W_regd ?_)
 refine W_callK rfl ?hg ?hargs (call25 (Arr.keep0 hA kB') (Arr.keep0 hB kB') (by omega)) ?_
 case hg => (simp only [WB, execE, unE, args0, reduceIte, Nat.reduceEqDiff, Nat.reduceAdd, Nat.reduceLeDiff, WO, fillX, splice]; done)
 case hargs => simp only [WB, execE, unE, args0, reduceIte, Nat.reduceEqDiff, Nat.reduceAdd, Nat.reduceLeDiff, WO, fillX, splice] <;> rfl
 rintro v m1 ⟨rfl, rfl⟩ -
 repeat (first
  | ((first | refine W_op rfl rfl ?_ | (refine W_opgT rfl rfl ?h ?_; case h => simp only [WG, reduceIte, Nat.reduceEqDiff]; done)); simp only [WB, execE, unE, args0, reduceIte, Nat.reduceEqDiff, Nat.reduceAdd, Nat.reduceLeDiff, WO, fillX, splice, Wo_some])
  | (refine W_opgF rfl rfl ?h ?_; case h => simp only [WG, reduceIte, Nat.reduceEqDiff]; done)
  | (refine W_opgU rfl ?h ?_; case h => simp only [upd_at, reduceIte, Nat.reduceEqDiff]; done) | (refine W_callN rfl ?h ?_; case h => simp only [WG, reduceIte, Nat.reduceEqDiff]; done) | simp only [WS] | refine W_regd0 ?_ | refine W_regd ?_)
 refine W_getRet (by repeat (first | exact hg | exact args0_un (Nat.le_of_ble_eq_true rfl) | refine upd_un ?_ rfl)) ?_
 exact ⟨dB.trans dA, _, rfl, rfl, kB'.out⟩
theorem call61 {m : AMem} {s : St} {cv : AV} (hA : Cap m cv s) (hn : s.caps.length ≤ 100000) :
  Vi.Call T 61 [.agg (stS s cv)] m (fun v m' => v = .i .i64 (grp s) ∧ Keep m m' []) := by
 have hlen := Arr.lenF hA
 have ho := Arr.one hA
 refine Vi.Call.ofP T61 (Nat.le_of_ble_eq_true rfl) ?_
 unfold v61
 simp only [stS]
 repeat (first | simp only [WS] | refine W_regd0 ?_ | refine W_regd ?_)
 refine W_op rfl rfl ?_
 simp only [WB, execE, unE, args0, reduceIte, Nat.reduceEqDiff, Nat.reduceAdd, Nat.reduceLeDiff, ho, WO, fillX, splice, Wo_some]
 repeat (first | rw [push_no] | rw [push_yes] | rw [W_onil])
 obtain ⟨mA, hmA, kA, _, gA, dA, _, nA⟩ := mk_new m.inn [.i .i64 s.kd, .i .i64 s.nd, .i .i64 s.ph, .i .i64 s.pos, .i .i64 s.st, .i .i64 s.dp, .i .i64 s.og, cv] true (8 : Nat) 8 rfl
 have kA' : Keep m mA [] := kA.ofInn
 have gA' : mA.get m.next = some (.cells [.i .i64 s.kd, .i .i64 s.nd, .i .i64 s.ph, .i .i64 s.pos, .i .i64 s.st, .i .i64 s.dp, .i .i64 s.og, cv] true (8 : Nat)) := gA
 rw [← hmA]
 clear hmA gA nA kA
 have e1 : IntKind.i64.wrap ((s.caps.length : Int).tdiv 2) = (s.caps.length : Int) / 2 := by
  rw [Int.tdiv_eq_ediv_of_nonneg (by omega), wr_i64 (by omega) (by omega)]
 have e2 : IntKind.i64.wrap ((s.caps.length : Int) / 2 - 1) = grp s := by
  rw [wr_i64 (by omega) (by omega)]; rfl
 repeat (first
  | (refine W_op rfl rfl ?_; simp only [WB, execE, unE, args0, reduceIte, Nat.reduceEqDiff, Nat.reduceAdd, Nat.reduceLeDiff, gA', ↓hlen, e1, e2, Int.reduceEq, binE, isShift, intBin, WO, fillX, splice, Wo_some]) | simp only [WS] | refine W_regd0 ?_ | refine W_regd ?_)
 refine W_getRet (by repeat (first | exact hg | exact args0_un (Nat.le_of_ble_eq_true rfl) | refine upd_un ?_ rfl)) ?_
 exact ⟨dA, _, rfl, rfl, kA'.out⟩
theorem call97 {m : AMem} {s : St} {cv : AV} (ho : cv.one = true) :
  Vi.Call T 97 [.agg (stS s cv)] m (fun v m' => v = .agg [.i .i64 s.nd, .i .i64 s.ph, .i .i64 s.pos, .i .i64 s.st, .i .i64 s.dp, .i .i64 s.og] ∧ Keep m m' []) := by
 refine Vi.Call.ofP T97 (Nat.le_of_ble_eq_true rfl) ?_
 unfold v97
 simp only [stS]
 repeat (first | simp only [WS] | refine W_regd0 ?_ | refine W_regd ?_)
 refine W_op rfl rfl ?_
 simp only [WB, execE, unE, args0, reduceIte, Nat.reduceEqDiff, Nat.reduceAdd, Nat.reduceLeDiff, ho, WO, fillX, splice, Wo_some]
 repeat (first | rw [push_no] | rw [push_yes] | rw [W_onil])
 obtain ⟨mA, hmA, kA, _, gA, dA, _, nA⟩ := mk_new m.inn [.i .i64 s.kd, .i .i64 s.nd, .i .i64 s.ph, .i .i64 s.pos, .i .i64 s.st, .i .i64 s.dp, .i .i64 s.og, cv] true (8 : Nat) 8 rfl
 have kA' : Keep m mA [] := kA.ofInn
 have gA' : mA.get m.next = some (.cells [.i .i64 s.kd, .i .i64 s.nd, .i .i64 s.ph, .i .i64 s.pos, .i .i64 s.st, .i .i64 s.dp, .i .i64 s.og, cv] true (8 : Nat)) := gA
 have nA' : m.next < mA.next := nA
 rw [← hmA]
 clear hmA gA nA kA
 repeat (first | simp only [WS] | refine W_regd0 ?_ | refine W_regd ?_)
 refine W_op rfl rfl ?_
 simp only [WB, execE, unE, args0, reduceIte, Nat.reduceEqDiff, Nat.reduceAdd, Nat.reduceLeDiff, WO, fillX, splice, Wo_some]
 repeat (first | rw [push_no] | rw [push_yes] | rw [W_onil])
 obtain ⟨mB, hmB, kB, _, gB, dB, _, nB⟩ := mk_new mA [.i .i64 0, .i .i64 0, .i .i64 0, .i .i64 0, .i .i64 0, .i .i64 0] true ⟨6, some 175⟩ 6 rfl
 rw [← hmB]
 clear hmB
 have kB' : Keep m mB [] := kA'.trans kB (by simp)
 have gA2 := kB.at nA' (by simp) gA'
 repeat (first
  | (refine W_opS rfl rfl rfl ?_; simp only [WB, execE, unE, args0, reduceIte, Nat.reduceEqDiff, Nat.reduceAdd, Nat.reduceLeDiff, gA2, WO, fillX, splice, Wo_some]) | simp only [WS] | refine W_regd0 ?_ | refine W_regd ?_)
 repeat (first | simp only [WS] | refine W_regd0 ?_ | refine W_regd ?_)
 refine W_op rfl rfl ?_
 simp only [WB, execE, unE, args0, reduceIte, Nat.reduceEqDiff, Nat.reduceAdd, Nat.reduceLeDiff, gB, WO, fillX, splice, Wo_some]
 repeat (first | rw [push_no] | rw [push_yes] | rw [W_onil])
 repeat (first
  | (refine W_op rfl rfl ?_; simp only [WB, execE, unE, args0, reduceIte, Nat.reduceEqDiff, Nat.reduceAdd, Nat.reduceLeDiff, WO, fillX, splice, Wo_some]) | simp only [WS] | refine W_regd0 ?_ | refine W_regd ?_)
 refine W_getRet (by repeat (first | exact hg | exact args0_un (Nat.le_of_ble_eq_true rfl) | refine upd_un ?_ rfl)) ?_
 refine ⟨dB.trans dA, [.agg [.i .i64 s.nd, .i .i64 s.ph, .i .i64 s.pos, .i .i64 s.st, .i .i64 s.dp, .i .i64 s.og]], ?_, rfl, ?_⟩
 ·simp only [resX, execE, X.at, upd_at, reduceIte, Nat.reduceEqDiff, rd, AMem.get_put]
  rfl
 ·refine (kB'.trans (Keep.put _ _ _) ?_).out
  intro x hx; have := List.mem_singleton.1 hx; right; omega
def Base (s : St) : Prop := (∃ g : Nat, g ≤ 99 ∧ s = .blank g) ∨ ∃ g : Nat, s.rt g
theorem Base.caps {s : St} (h : Base s) : ∃ g : Nat, g ≤ 99 ∧ s.caps.length = 2 * (g + 1) ∧ grp s = (g : Int) := by
 rcases h with ⟨g, hg, rfl⟩ | ⟨g, hr⟩
 ·refine ⟨g, hg, by simp [St.blank], ?_⟩
  simp only [grp, St.blank, List.length_replicate]; omega
 ·have := hr.1
  have := caps_len hr
  exact ⟨g, by omega, this, by unfold grp; omega⟩
set_option maxHeartbeats 4000000 in
theorem call56 {m : AMem} {s : St} {cv : AV} (hA : Cap m cv s) (hb : Base s) :
  Vi.Call T 56 [.agg (stS s cv)] m (fun v m' => v = .b true ∧ Keep m m' []) := by
 obtain ⟨g, hg, hcl, hgr⟩ := hb.caps
 have ho := Arr.one hA
 refine Vi.Call.ofP T56 (Nat.le_of_ble_eq_true rfl) ?_
 unfold v56
 obtain ⟨C, hC⟩ : ∃ C, C = stS s cv := ⟨_, rfl⟩
 have hCo : C.all AV.one = true := by rw [hC]; simp [stS, ho, one_i]
 have hCl : C.length = 8 := by rw [hC]; rfl
 rw [← hC]
 repeat (first | simp only [WS] | refine W_regd0 ?_ | refine W_regd ?_)
 refine W_op rfl rfl ?_
 simp only [WB, execE, unE, args0, reduceIte, Nat.reduceEqDiff, Nat.reduceAdd, Nat.reduceLeDiff, hCo, WO, fillX, splice, Wo_some]
 repeat (first | rw [push_no] | rw [push_yes] | rw [W_onil])
 obtain ⟨mA, hmA, kA, bA, _, dA, _, nA⟩ := mk_new m.inn C true (8 : Nat) 8 hCl
 have kA' : Keep m mA [] := kA.ofInn
 have bA' : rd mA m.next 0 8 = some C := bA
 have nA' : m.next < mA.next := nA
 rw [← hmA]
 clear hmA bA nA kA
 repeat (first
  | ((first | refine W_op rfl rfl ?_ | (refine W_opgT rfl rfl ?h ?_; case h => simp only [WG, reduceIte, Nat.reduceEqDiff]; done)); simp only [WB, execE, unE, args0, reduceIte, Nat.reduceEqDiff, Nat.reduceAdd, Nat.reduceLeDiff, bA', WO, fillX, splice, Wo_some])
  | (refine W_opgF rfl rfl ?h ?_; case h => simp only [WG, reduceIte, Nat.reduceEqDiff]; done)
  | (refine W_opgU rfl ?h ?_; case h => simp only [upd_at, reduceIte, Nat.reduceEqDiff]; done) | (refine W_callN rfl ?h ?_; case h => simp only [WG, reduceIte, Nat.reduceEqDiff]; done) | simp only [WS] | refine W_regd0 ?_ | refine W_regd ?_)
 refine W_callA rfl ?hargs (call61 (s := s) (cv := cv) (Arr.keep0 hA kA') (by omega)) ?_
 case hargs => simp only [WB, execE, unE, args0, reduceIte, Nat.reduceEqDiff, Nat.reduceAdd, Nat.reduceLeDiff, hC] <;> rfl
 rintro v m1 ⟨rfl, k1⟩ hs1
 have b1 := rd_keep bA' k1 nA' (by simp)
 have n1 : m.next < m1.next := Nat.lt_of_lt_of_le nA' k1.next
 have kk1 : Keep m m1 [] := kA'.trans k1 (by simp)
 rw [hgr]
 repeat (first
  | ((first | refine W_op rfl rfl ?_ | (refine W_opgT rfl rfl ?h ?_; case h => simp only [WG, reduceIte, Nat.reduceEqDiff]; done)); simp only [WB, execE, unE, args0, reduceIte, Nat.reduceEqDiff, Nat.reduceAdd, Nat.reduceLeDiff, WO, fillX, splice, Wo_some])
  | (refine W_opgF rfl rfl ?h ?_; case h => simp only [WG, reduceIte, Nat.reduceEqDiff]; done)
  | (refine W_opgU rfl ?h ?_; case h => simp only [upd_at, reduceIte, Nat.reduceEqDiff]; done) | (refine W_callN rfl ?h ?_; case h => simp only [WG, reduceIte, Nat.reduceEqDiff]; done) | simp only [WS] | refine W_regd0 ?_ | refine W_regd ?_)
 refine W_callA rfl ?hargs (call60 (s := s) (cv := cv) (g := (g : Int)) (Arr.keep0 hA kk1) (by omega) ⟨by omega, by omega⟩ ⟨by omega, by omega⟩) ?_
 case hargs => simp only [WB, execE, unE, args0, reduceIte, Nat.reduceEqDiff, Nat.reduceAdd, Nat.reduceLeDiff, hC] <;> rfl
 rintro v m2 ⟨rfl, k2⟩ hs2
 have b2 := rd_keep b1 k2 n1 (by simp)
 have n2 : m.next < m2.next := Nat.lt_of_lt_of_le n1 k2.next
 have kk2 : Keep m m2 [] := kk1.trans k2 (by simp)
 have d2 : m2.ds = [] := hs2.ds.trans (hs1.ds.trans dA)
 by_cases hr : s.rt g
 ·have c1 : decide (s.rt g) = true := decide_eq_true hr
  rw [c1]
  repeat (first
   | ((first | refine W_op rfl rfl ?_ | (refine W_opgT rfl rfl ?h ?_; case h => simp only [WG, reduceIte, Nat.reduceEqDiff]; done)); simp only [WB, execE, unE, args0, reduceIte, Nat.reduceEqDiff, Nat.reduceAdd, Nat.reduceLeDiff, WO, fillX, splice, Wo_some])
   | (refine W_opgF rfl rfl ?h ?_; case h => simp only [WG, reduceIte, Nat.reduceEqDiff]; done)
   | (refine W_opgU rfl ?h ?_; case h => simp only [upd_at, reduceIte, Nat.reduceEqDiff]; done) | (refine W_callN rfl ?h ?_; case h => simp only [WG, reduceIte, Nat.reduceEqDiff]; done) | simp only [WS] | refine W_regd0 ?_ | refine W_regd ?_)
  refine W_dnil ?hs ?hnt ?_
  case hs => (simp only [SameIn, SameAt, List.nil_append, List.cons_append, reduceCtorEq, false_and, exists_false, exists_const, false_or, or_false, Option.some.injEq, exists_eq_left', exists_eq', or_true, and_true, WB, execE, unE, args0, reduceIte, Nat.reduceEqDiff, Nat.reduceAdd, Nat.reduceLeDiff, bA', b1, b2])
  case hnt => (simp only [List.nil_append, List.cons_append, List.forall_mem_cons, List.not_mem_nil, false_imp_iff, implies_true, and_true]; repeat' (first | exact hg | exact args0_un (Nat.le_of_ble_eq_true rfl) | refine upd_un ?_ rfl | constructor))
  repeat (first
   | ((first | refine W_op rfl rfl ?_ | (refine W_opgT rfl rfl ?h ?_; case h => simp only [WG, reduceIte, Nat.reduceEqDiff]; done)); simp only [WB, execE, unE, args0, reduceIte, Nat.reduceEqDiff, Nat.reduceAdd, Nat.reduceLeDiff, WO, fillX, splice, Wo_some])
   | (refine W_opgF rfl rfl ?h ?_; case h => simp only [WG, reduceIte, Nat.reduceEqDiff]; done)
   | (refine W_opgU rfl ?h ?_; case h => simp only [upd_at, reduceIte, Nat.reduceEqDiff]; done) | (refine W_callN rfl ?h ?_; case h => simp only [WG, reduceIte, Nat.reduceEqDiff]; done) | simp only [WS] | refine W_regd0 ?_ | refine W_regd ?_)
  refine W_getRet (by repeat (first | exact hg | exact args0_un (Nat.le_of_ble_eq_true rfl) | refine upd_un ?_ rfl)) ?_
  exact ⟨d2, _, rfl, rfl, kk2.out⟩
 have c1 : decide (s.rt g) = false := decide_eq_false hr
 have hbl : s = .blank g := by
  rcases hb with ⟨g', hg', rfl⟩ | ⟨g', hr'⟩
  ·have : (St.blank g').caps.length = 2 * (g' + 1) := by simp [St.blank]
   obtain rfl : g' = g := by omega
   rfl
  ·have := caps_len hr'
   obtain rfl : g' = g := by omega
   exact absurd hr' hr
 rw [c1]
 repeat (first
  | ((first | refine W_op rfl rfl ?_ | (refine W_opgT rfl rfl ?h ?_; case h => simp only [WG, reduceIte, Nat.reduceEqDiff]; done)); simp only [WB, execE, unE, args0, reduceIte, Nat.reduceEqDiff, Nat.reduceAdd, Nat.reduceLeDiff, b2, WO, fillX, splice, Wo_some])
  | (refine W_opgF rfl rfl ?h ?_; case h => simp only [WG, reduceIte, Nat.reduceEqDiff]; done)
  | (refine W_opgU rfl ?h ?_; case h => simp only [upd_at, reduceIte, Nat.reduceEqDiff]; done) | (refine W_callN rfl ?h ?_; case h => simp only [WG, reduceIte, Nat.reduceEqDiff]; done) | simp only [WS] | refine W_regd0 ?_ | refine W_regd ?_)
 refine W_callK rfl ?hg ?hargs (call61 (s := s) (cv := cv) (Arr.keep0 hA kk2) (by omega)) ?_
 case hg => (simp only [WB, execE, unE, args0, reduceIte, Nat.reduceEqDiff, Nat.reduceAdd, Nat.reduceLeDiff, hC, WO, fillX, splice]; done)
 case hargs => simp only [WB, execE, unE, args0, reduceIte, Nat.reduceEqDiff, Nat.reduceAdd, Nat.reduceLeDiff, hC, WO, fillX, splice] <;> rfl
 rintro v m3 ⟨rfl, k3⟩ hs3
 have b3 := rd_keep b2 k3 n2 (by simp)
 have n3 : m.next < m3.next := Nat.lt_of_lt_of_le n2 k3.next
 have kk3 : Keep m m3 [] := kk2.trans k3 (by simp)
 have c2 : decide ((g : Int) ≥ 0) = true := decide_eq_true (by omega)
 rw [hgr]
 repeat (first
  | ((first | refine W_op rfl rfl ?_ | (refine W_opgT rfl rfl ?h ?_; case h => simp only [WG, reduceIte, Nat.reduceEqDiff]; done)); simp only [WB, execE, unE, args0, reduceIte, Nat.reduceEqDiff, Nat.reduceAdd, Nat.reduceLeDiff, b3, c2, binE, isShift, intBin, WO, fillX, splice, Wo_some])
  | (refine W_opgF rfl rfl ?h ?_; case h => simp only [WG, reduceIte, Nat.reduceEqDiff]; done)
  | (refine W_opgU rfl ?h ?_; case h => simp only [upd_at, reduceIte, Nat.reduceEqDiff]; done) | (refine W_callN rfl ?h ?_; case h => simp only [WG, reduceIte, Nat.reduceEqDiff]; done) | simp only [WS] | refine W_regd0 ?_ | refine W_regd ?_)
 refine W_callK rfl ?hg ?hargs (call61 (s := s) (cv := cv) (Arr.keep0 hA kk3) (by omega)) ?_
 case hg => (simp only [WB, execE, unE, args0, reduceIte, Nat.reduceEqDiff, Nat.reduceAdd, Nat.reduceLeDiff, hC, WO, fillX, splice]; done)
 case hargs => simp only [WB, execE, unE, args0, reduceIte, Nat.reduceEqDiff, Nat.reduceAdd, Nat.reduceLeDiff, hC, WO, fillX, splice] <;> rfl
 rintro v m4 ⟨rfl, k4⟩ hs4
 have b4 := rd_keep b3 k4 n3 (by simp)
 have n4 : m.next < m4.next := Nat.lt_of_lt_of_le n3 k4.next
 have kk4 : Keep m m4 [] := kk3.trans k4 (by simp)
 rw [hgr]
 repeat (first
  | ((first | refine W_op rfl rfl ?_ | (refine W_opgT rfl rfl ?h ?_; case h => simp only [WG, reduceIte, Nat.reduceEqDiff]; done)); simp only [WB, execE, unE, args0, reduceIte, Nat.reduceEqDiff, Nat.reduceAdd, Nat.reduceLeDiff, WO, fillX, splice, Wo_some])
  | (refine W_opgF rfl rfl ?h ?_; case h => simp only [WG, reduceIte, Nat.reduceEqDiff]; done)
  | (refine W_opgU rfl ?h ?_; case h => simp only [upd_at, reduceIte, Nat.reduceEqDiff]; done) | (refine W_callN rfl ?h ?_; case h => simp only [WG, reduceIte, Nat.reduceEqDiff]; done) | simp only [WS] | refine W_regd0 ?_ | refine W_regd ?_)
 refine W_callK rfl ?hg ?hargs (call35 hg) ?_
 case hg => (simp only [WB, execE, unE, args0, reduceIte, Nat.reduceEqDiff, Nat.reduceAdd, Nat.reduceLeDiff, WO, fillX, splice]; done)
 case hargs => simp only [WB, execE, unE, args0, reduceIte, Nat.reduceEqDiff, Nat.reduceAdd, Nat.reduceLeDiff, WO, fillX, splice] <;> rfl
 rintro v m5 ⟨⟨cv2, rfl, hF⟩, k5⟩ hs5
 have b5 := rd_keep b4 k5 n4 (by simp)
 have kk5 : Keep m m5 [] := kk4.trans k5 (by simp)
 repeat (first
  | ((first | refine W_op rfl rfl ?_ | (refine W_opgT rfl rfl ?h ?_; case h => simp only [WG, reduceIte, Nat.reduceEqDiff]; done)); simp only [WB, execE, unE, args0, reduceIte, Nat.reduceEqDiff, Nat.reduceAdd, Nat.reduceLeDiff, WO, fillX, splice, Wo_some])
  | (refine W_opgF rfl rfl ?h ?_; case h => simp only [WG, reduceIte, Nat.reduceEqDiff]; done)
  | (refine W_opgU rfl ?h ?_; case h => simp only [upd_at, reduceIte, Nat.reduceEqDiff]; done) | (refine W_callN rfl ?h ?_; case h => simp only [WG, reduceIte, Nat.reduceEqDiff]; done) | simp only [WS] | refine W_regd0 ?_ | refine W_regd ?_)
 have hC2 : Cap m5 cv2 s := by rw [hbl]; exact hF.arr
 refine W_callK rfl ?hg ?hargs (call10 (s := s) (cv := cv) (cv2 := cv2) (Arr.keep0 hA kk5) hC2 (by omega)) ?_
 case hg => (simp only [WB, execE, unE, args0, reduceIte, Nat.reduceEqDiff, Nat.reduceAdd, Nat.reduceLeDiff, hC, hbl, WO, fillX, splice]; done)
 case hargs => simp only [WB, execE, unE, args0, reduceIte, Nat.reduceEqDiff, Nat.reduceAdd, Nat.reduceLeDiff, hC, hbl, WO, fillX, splice] <;> rfl
 rintro v m6 ⟨rfl, k6⟩ hs6
 repeat (first
  | ((first | refine W_op rfl rfl ?_ | (refine W_opgT rfl rfl ?h ?_; case h => simp only [WG, reduceIte, Nat.reduceEqDiff]; done)); simp only [WB, execE, unE, args0, reduceIte, Nat.reduceEqDiff, Nat.reduceAdd, Nat.reduceLeDiff, WO, fillX, splice, Wo_some])
  | (refine W_opgF rfl rfl ?h ?_; case h => simp only [WG, reduceIte, Nat.reduceEqDiff]; done)
  | (refine W_opgU rfl ?h ?_; case h => simp only [upd_at, reduceIte, Nat.reduceEqDiff]; done) | (refine W_callN rfl ?h ?_; case h => simp only [WG, reduceIte, Nat.reduceEqDiff]; done) | simp only [WS] | refine W_regd0 ?_ | refine W_regd ?_)
 refine W_dnil ?hs ?hnt ?_
 case hs => (simp only [SameIn, SameAt, List.nil_append, List.cons_append, reduceCtorEq, false_and, exists_false, exists_const, false_or, or_false, Option.some.injEq, exists_eq_left', exists_eq', or_true, and_true, WB, execE, unE, args0, reduceIte, Nat.reduceEqDiff, Nat.reduceAdd, Nat.reduceLeDiff, bA', b1, b2, b3, b4, b5])
 case hnt => (simp only [List.nil_append, List.cons_append, List.forall_mem_cons, List.not_mem_nil, false_imp_iff, implies_true, and_true]; repeat' (first | exact hg | exact args0_un (Nat.le_of_ble_eq_true rfl) | refine upd_un ?_ rfl | constructor))
 repeat (first
  | ((first | refine W_op rfl rfl ?_ | (refine W_opgT rfl rfl ?h ?_; case h => simp only [WG, reduceIte, Nat.reduceEqDiff]; done)); simp only [WB, execE, unE, args0, reduceIte, Nat.reduceEqDiff, Nat.reduceAdd, Nat.reduceLeDiff, WO, fillX, splice, Wo_some])
  | (refine W_opgF rfl rfl ?h ?_; case h => simp only [WG, reduceIte, Nat.reduceEqDiff]; done)
  | (refine W_opgU rfl ?h ?_; case h => simp only [upd_at, reduceIte, Nat.reduceEqDiff]; done) | (refine W_callN rfl ?h ?_; case h => simp only [WG, reduceIte, Nat.reduceEqDiff]; done) | simp only [WS] | refine W_regd0 ?_ | refine W_regd ?_)
 refine W_getRet (by repeat (first | exact hg | exact args0_un (Nat.le_of_ble_eq_true rfl) | refine upd_un ?_ rfl)) ?_
 exact ⟨hs6.ds.trans (hs5.ds.trans (hs4.ds.trans (hs3.ds.trans d2))), _, rfl, rfl, (kk5.trans k6 (by simp)).out⟩
end Go.Proofs.YtfbglgmhhmeoeaaGreatDoor
