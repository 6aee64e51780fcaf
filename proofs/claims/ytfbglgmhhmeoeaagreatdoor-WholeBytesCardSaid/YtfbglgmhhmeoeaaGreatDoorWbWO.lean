/- A tape: its parts, and what is recorded on it. No condition. -/
import Derived.Test.YtfbglgmhhmeoeaaGreatDoorWbWM
import Derived.Test.YtfbglgmhhmeoeaaGreatDoorWbViNode
import Derived.Test.YtfbglgmhhmeoeaaGreatDoorWbWJ
namespace Go.Proofs.YtfbglgmhhmeoeaaGreatDoor
open Go.Vi
set_option linter.unusedSimpArgs false
set_option linter.unusedVariables false
def starts (g ev : Nat) (L : List St) : List Int := (List.range L.length).map fun k => ((tbn g ev L k).length : Int)
def lastOf (L : List St) : St := L.getD (L.length - 1) .zero
def tapeC (g ev : Nat) (bv sv : AV) (s : St) (cv : AV) : List AV := [.i .i64 (g : Int), .i .i64 (ev : Int), .i .i64 16777216, bv, sv, .i .i64 s.kd, .i .i64 s.nd, .i .i64 s.ph, .i .i64 s.pos, .i .i64 s.st, .i .i64 s.dp, .i .i64 s.og, cv]
structure TapeR (m : AMem) (n0 jt g ev : Nat) (L : List St) (bv sv cv : AV) (tb ts tc ob os oc : Option Nat) : Prop where
 obj : m.get jt = some (.cells (tapeC g ev bv sv (lastOf L) cv) true (13 : Nat))
 hi : jt < m.next
 bytes : RowE m 1 tb bv ob (tbn g ev L L.length).length (cellsOfBytes (tbn g ev L L.length))
 starts : RowE m 1 ts sv os L.length (ints (starts g ev L))
 last : RowE m 1 tc cv oc (lastOf L).caps.length (ints (lastOf L).caps)
 apart : ∀ x, (ob = some x → n0 ≤ x ∧ x ≠ jt ∧ os ≠ some x ∧ oc ≠ some x) ∧ (os = some x → n0 ≤ x ∧ x ≠ jt ∧ oc ≠ some x) ∧ (oc = some x → n0 ≤ x ∧ x ≠ jt)
def TapeAt (m : AMem) (n0 jt g ev : Nat) (L : List St) : Prop := ∃ bv sv cv tb ts tc ob os oc, TapeR m n0 jt g ev L bv sv cv tb ts tc ob os oc
theorem TapeR.keep {m m' : AMem} {n0 jt g ev : Nat} {L : List St} {bv sv cv : AV} {tb ts tc ob os oc : Option Nat} {fp : List Nat} (h : TapeR m n0 jt g ev L bv sv cv tb ts tc ob os oc) (k : Keep m m' fp) (hf : ∀ x ∈ fp, x < n0 ∧ x ≠ jt) : TapeR m' n0 jt g ev L bv sv cv tb ts tc ob os oc := by
 obtain ⟨h1, h3, h4, h5, h6, h7⟩ := h
 refine ⟨k.at h3 (fun hm => (hf _ hm).2 rfl) h1, Nat.lt_of_lt_of_le h3 k.next, h4.keep k (fun j hj hm => ?_), h5.keep k (fun j hj hm => ?_), h6.keep k (fun j hj hm => ?_), h7⟩
 ·have := hf _ hm; have := ((h7 j).1 hj).1; omega
 ·have := hf _ hm; have := ((h7 j).2.1 hj).1; omega
 ·have := hf _ hm; have := ((h7 j).2.2 hj).1; omega
theorem TapeAt.keep {m m' : AMem} {n0 jt g ev : Nat} {L : List St} {fp : List Nat} (h : TapeAt m n0 jt g ev L) (k : Keep m m' fp) (hf : ∀ x ∈ fp, x < n0 ∧ x ≠ jt) : TapeAt m' n0 jt g ev L := by
 obtain ⟨bv, sv, cv, tb, ts, tc, ob, os, oc, h⟩ := h
 exact ⟨bv, sv, cv, tb, ts, tc, ob, os, oc, h.keep k hf⟩
theorem tone {m : AMem} {n0 jt g ev : Nat} {L : List St} {bv sv cv : AV} {tb ts tc ob os oc : Option Nat} (h : TapeR m n0 jt g ev L bv sv cv tb ts tc ob os oc) : bv.one = true ∧ sv.one = true ∧ cv.one = true := ⟨h.bytes.one, h.starts.one, h.last.one⟩
theorem call7 {m : AMem} {n0 jt g ev : Nat} {L : List St} (h : TapeAt m n0 jt g ev L) : Vi.Call T 7 [.p (some (jt, 0))] m (fun v m' => v = .i .i64 (L.length : Int) ∧ m' = m) := by
 obtain ⟨bv, sv, cv, tb, ts, tc, ob, os, oc, h⟩ := h
 have hg := h.obj
 have hl := h.starts.arr.lenF
 refine Vi.Call.ofP T7 (Nat.le_of_ble_eq_true rfl) ?_
 unfold v7
 simp only [tapeC] at hg
 repeat (first
  | (refine W_op rfl rfl ?_; simp only [WB, execE, unE, args0, reduceIte, Nat.reduceEqDiff, Nat.reduceAdd, Nat.reduceLeDiff, hg, ↓hl, WO, fillX, splice, Wo_some]) | simp only [WS] | refine W_regd0 ?_ | refine W_regd ?_)
 refine W_getRet (by repeat (first | exact hg | exact args0_un (Nat.le_of_ble_eq_true rfl) | refine upd_un ?_ rfl)) ?_
 exact ⟨rfl, _, rfl, rfl, rfl⟩
theorem call18 {m : AMem} {n0 jt g ev : Nat} {L : List St} (h : TapeAt m n0 jt g ev L) : Vi.Call T 18 [.p (some (jt, 0))] m (fun v m' => v = .i .i64 (g : Int) ∧ m' = m) := by
 obtain ⟨bv, sv, cv, tb, ts, tc, ob, os, oc, h⟩ := h
 have hg := h.obj
 refine Vi.Call.ofP T18 (Nat.le_of_ble_eq_true rfl) ?_
 unfold v18
 simp only [tapeC] at hg
 repeat (first
  | (refine W_op rfl rfl ?_; simp only [WB, execE, unE, args0, reduceIte, Nat.reduceEqDiff, Nat.reduceAdd, Nat.reduceLeDiff, hg, WO, fillX, splice, Wo_some]) | simp only [WS] | refine W_regd0 ?_ | refine W_regd ?_)
 refine W_getRet (by repeat (first | exact hg | exact args0_un (Nat.le_of_ble_eq_true rfl) | refine upd_un ?_ rfl)) ?_
 exact ⟨rfl, _, rfl, rfl, rfl⟩
theorem call19 {m : AMem} {n0 jt g ev : Nat} {L : List St} (h : TapeAt m n0 jt g ev L) : Vi.Call T 19 [.p (some (jt, 0))] m (fun v m' => v = .i .i64 (ev : Int) ∧ m' = m) := by
 obtain ⟨bv, sv, cv, tb, ts, tc, ob, os, oc, h⟩ := h
 have hg := h.obj
 refine Vi.Call.ofP T19 (Nat.le_of_ble_eq_true rfl) ?_
 unfold v19
 simp only [tapeC] at hg
 repeat (first
  | (refine W_op rfl rfl ?_; simp only [WB, execE, unE, args0, reduceIte, Nat.reduceEqDiff, Nat.reduceAdd, Nat.reduceLeDiff, hg, WO, fillX, splice, Wo_some]) | simp only [WS] | refine W_regd0 ?_ | refine W_regd ?_)
 refine W_getRet (by repeat (first | exact hg | exact args0_un (Nat.le_of_ble_eq_true rfl) | refine upd_un ?_ rfl)) ?_
 exact ⟨rfl, _, rfl, rfl, rfl⟩
theorem call39 {m : AMem} {av : AV} {l : List UInt8} {ty oj : Option Nat} (h : RowE m 1 ty av oj l.length (cellsOfBytes l)) (hn : l.length ≤ 100000000) :
  Vi.Call T 39 [av] m (fun v m' => Arr m' 1 v l.length (cellsOfBytes l) ∧ Keep m m' []) := by
 refine Vi.Call.ofP T39 (Nat.le_of_ble_eq_true rfl) ?_
 unfold v39
 cases oj with
 | none =>
   obtain ⟨h0, rfl, h1⟩ := h
   repeat (first
    | (refine W_op rfl rfl ?_; simp only [WB, execE, unE, args0, reduceIte, Nat.reduceEqDiff, Nat.reduceAdd, Nat.reduceLeDiff, isNil, Wo_some])
    | rw [W_seq] | rw [W_reg] | rw [push_no] | rw [W_onil] | rw [W_skip] | rw [W_blk] | rw [W_b] | refine W_regd0 ?_)
   refine W_cond ?_
   simp only [WB, execE, unE, args0, reduceIte, Nat.reduceEqDiff, Nat.reduceAdd, Nat.reduceLeDiff, WC]
   repeat (first
    | (refine W_op rfl rfl ?_; simp only [WB, execE, unE, args0, reduceIte, Nat.reduceEqDiff, Nat.reduceAdd, Nat.reduceLeDiff, Wo_some])
    | rw [W_seq] | rw [W_reg] | rw [push_no] | rw [W_onil] | rw [W_skip] | rw [W_blk] | rw [W_b] | refine W_regd0 ?_)
   refine W_getRet (by repeat (first | exact hg | exact args0_un (Nat.le_of_ble_eq_true rfl) | refine upd_un ?_ rfl)) ?_
   exact ⟨rfl, _, rfl, ⟨h0, .inl ⟨h1, .inr rfl⟩⟩, (Keep.inn m).out⟩
 | some j =>
   have hA := h.arr
   obtain ⟨h0, c, cap, ex, rfl, hj, hg, hcl, hle, ht⟩ := h
   repeat (first
    | (refine W_op rfl rfl ?_; simp only [WB, execE, unE, args0, reduceIte, Nat.reduceEqDiff, Nat.reduceAdd, Nat.reduceLeDiff, isNil, Wo_some])
    | rw [W_seq] | rw [W_reg] | rw [push_no] | rw [W_onil] | rw [W_skip] | rw [W_blk] | rw [W_b] | refine W_regd0 ?_)
   refine W_cond ?_
   simp only [WB, execE, unE, args0, reduceIte, Nat.reduceEqDiff, Nat.reduceAdd, Nat.reduceLeDiff, WC]
   repeat (first
    | ((first | refine W_opA rfl rfl rfl ?_ | (refine W_opgT rfl rfl ?h ?_; case h => simp only [WG, reduceIte, Nat.reduceEqDiff]; done)); simp only [WB, execE, unE, args0, reduceIte, Nat.reduceEqDiff, Nat.reduceAdd, Nat.reduceLeDiff, fillX, WO, fillX, splice, Wo_some]) | simp only [WS] | refine W_regd0 ?_ | refine W_regd ?_)
   have hne : ¬ m.next = j := by omega
   have hroom : roomy (0 + l.length) 1 = true := roomyOf (by omega) (by omega)
   have hR0 : RowE (m.inn.new (.cells [] true (1 : Nat))) 1 none (.sl (some (m.next, 0)) 0 0 true) (some m.next) 0 [] :=
    ⟨by simp, [], 0, true, rfl, by simp, by rw [AMem.get_new, if_pos (show m.inn.next = m.next from rfl)], rfl, Nat.le_refl _, rfl⟩
   have hsrc : srcE (m.inn.new (.cells [] true (1 : Nat))) 1 (.sl (some (j, 0)) l.length cap ex) = some (cellsOfBytes l, l.length) := by
    simp only [srcE, rd, AMem.get_new, AMem.next_inn, if_neg hne, AMem.get_inn, hg, Nat.zero_add, if_pos (show l.length * 1 ≤ c.length by omega), List.drop_zero, ht, Option.map_some]
   refine W_app (n := 0) (k := l.length) (new := cellsOfBytes l) (ls := []) rfl (hR0.as ?_) ?_ h0 (bytes_one l) hroom ?_
   ·skip
    simp only [WB, execE, unE, args0, reduceIte, Nat.reduceEqDiff, Nat.reduceAdd, Nat.reduceLeDiff]
   ·skip
    simp only [WB, execE, unE, args0, reduceIte, Nat.reduceEqDiff, Nat.reduceAdd, Nat.reduceLeDiff]
    exact hsrc
   intro av' oj' m' ty' r5 ds5 ro5 o5 k5 _
   repeat (first
    | (refine W_op rfl rfl ?_; simp only [WB, execE, unE, args0, reduceIte, Nat.reduceEqDiff, Nat.reduceAdd, Nat.reduceLeDiff, Wo_some])
    | rw [W_seq] | rw [W_reg] | rw [push_no] | rw [W_onil] | rw [W_skip] | rw [W_blk] | rw [W_b] | refine W_regd0 ?_)
   refine W_getRet (by repeat (first | exact hg | exact args0_un (Nat.le_of_ble_eq_true rfl) | refine upd_un ?_ rfl)) ?_
   have hk : Keep m m' [] := (((Keep.new m.inn _).ofInn).nil.trans k5 (fun i hi => .inl hi)).mono (by intro i hi; simp at hi; right; omega)
   rw [Nat.zero_add] at r5
   exact ⟨by rw [ds5]; rfl, _, rfl, (r5.keep (Keep.refl _ []).out (by simp)).arr, hk.out⟩
theorem call20 {m : AMem} {n0 jt g ev : Nat} {L : List St} (h : TapeAt m n0 jt g ev L) (hf : (tbn g ev L L.length).length ≤ 16777216) : Vi.Call T 20 [.p (some (jt, 0))] m (fun v m' => Arr m' 1 v (tbn g ev L L.length).length (cellsOfBytes (tbn g ev L L.length)) ∧ Keep m m' []) := by
 obtain ⟨bv, sv, cv, tb, ts, tc, ob, os, oc, h⟩ := h
 have hg := h.obj
 refine Vi.Call.ofP T20 (Nat.le_of_ble_eq_true rfl) ?_
 unfold v20
 simp only [tapeC] at hg
 repeat (first
  | (refine W_op rfl rfl ?_; simp only [WB, execE, unE, args0, reduceIte, Nat.reduceEqDiff, Nat.reduceAdd, Nat.reduceLeDiff, hg, WO, fillX, splice, Wo_some]) | simp only [WS] | refine W_regd0 ?_ | refine W_regd ?_)
 refine W_callA rfl ?hargs (call39 (h.bytes.keep (Keep.inn m) (by simp)) (by omega)) ?_
 case hargs => simp only [WB, execE, unE, args0, reduceIte, Nat.reduceEqDiff, Nat.reduceAdd, Nat.reduceLeDiff] <;> rfl
 rintro v m1 ⟨hv, k1⟩ hs1
 repeat (first
  | (refine W_op rfl rfl ?_; simp only [WB, execE, unE, args0, reduceIte, Nat.reduceEqDiff, Nat.reduceAdd, Nat.reduceLeDiff, WO, fillX, splice, Wo_some]) | simp only [WS] | refine W_regd0 ?_ | refine W_regd ?_)
 refine W_getRet (by repeat (first | exact hg | exact args0_un (Nat.le_of_ble_eq_true rfl) | refine upd_un ?_ rfl)) ?_
 exact ⟨hs1.ds, _, rfl, hv.keep0 (Keep.refl _ []).out, k1.ofInn.out⟩
theorem call15 {m : AMem} {g ev : Nat} (hg : g ≤ 99) (he : ev ≤ 1024) : Vi.Call T 15 [.i .i64 (g : Int), .i .i64 (ev : Int), .i .i64 16777216] m (fun v m' => (if 1 ≤ ev then v = .tup [.p (some (m.next, 0)), .i .i64 0] ∧ ∀ n0, TapeAt m' n0 m.next g ev [] else v = .tup [.p none, .i .i64 10]) ∧ Keep m m' []) := by
 refine Vi.Call.ofP T15 (Nat.le_of_ble_eq_true rfl) ?_
 unfold v15
 have c1 : decide ((g : Int) < 0) = false := decide_eq_false (by omega)
 have c2 : decide ((g : Int) > 99) = false := decide_eq_false (by omega)
 by_cases h1 : 1 ≤ ev
 ·have c3 : decide ((ev : Int) < 1) = false := decide_eq_false (by omega)
  have c4 : decide ((ev : Int) > 1024) = false := decide_eq_false (by omega)
  repeat (first
   | ((first | refine W_op rfl rfl ?_ | (refine W_opgT rfl rfl ?h ?_; case h => simp only [WG, reduceIte, Nat.reduceEqDiff]; done)); simp only [WB, execE, unE, args0, reduceIte, Nat.reduceEqDiff, Nat.reduceAdd, Nat.reduceLeDiff, c1, c2, c3, c4, Int.reduceLT, Int.reduceGT, binE, isShift, intBin, WO, fillX, splice, Wo_some])
   | (refine W_opgF rfl rfl ?h ?_; case h => simp only [WG, reduceIte, Nat.reduceEqDiff]; done)
   | (refine W_opgU rfl ?h ?_; case h => simp only [upd_at, reduceIte, Nat.reduceEqDiff]; done) | (refine W_callN rfl ?h ?_; case h => simp only [WG, reduceIte, Nat.reduceEqDiff]; done) | simp only [WS] | refine W_regd0 ?_ | refine W_regd ?_)
  refine W_cond ?_
  simp only [WB, execE, unE, args0, reduceIte, Nat.reduceEqDiff, Nat.reduceAdd, Nat.reduceLeDiff, WC]
  repeat (first
   | ((first | refine W_op rfl rfl ?_ | (refine W_opgT rfl rfl ?h ?_; case h => simp only [WG, reduceIte, Nat.reduceEqDiff]; done)); simp only [WB, execE, unE, args0, reduceIte, Nat.reduceEqDiff, Nat.reduceAdd, Nat.reduceLeDiff, WO, fillX, splice, Wo_some])
   | (refine W_opgF rfl rfl ?h ?_; case h => simp only [WG, reduceIte, Nat.reduceEqDiff]; done)
   | (refine W_opgU rfl ?h ?_; case h => simp only [upd_at, reduceIte, Nat.reduceEqDiff]; done) | (refine W_callN rfl ?h ?_; case h => simp only [WG, reduceIte, Nat.reduceEqDiff]; done) | simp only [WS] | refine W_regd0 ?_ | refine W_regd ?_)
  refine W_getRet (by repeat (first | exact hg | exact args0_un (Nat.le_of_ble_eq_true rfl) | refine upd_un ?_ rfl)) ?_
  refine ⟨rfl, _, rfl, ?_, ((Keep.new m.inn _).ofInn).out⟩
  rw [if_pos h1]
  refine ⟨rfl, fun n0 => ⟨.sl none 0 0 true, .sl none 0 0 true, .sl none 0 0 true, none, none, none, none, none, none, ?_, by simp, RowE.nil _ _ _, RowE.nil _ _ _, RowE.nil _ _ _, fun x => ⟨nofun, nofun, nofun⟩⟩⟩
  rw [AMem.get_out, AMem.get_new, if_pos (show m.inn.next = m.next from rfl)]
  rfl
 ·have c3 : decide ((ev : Int) < 1) = true := decide_eq_true (by omega)
  repeat (first
   | ((first | refine W_op rfl rfl ?_ | (refine W_opgT rfl rfl ?h ?_; case h => simp only [WG, reduceIte, Nat.reduceEqDiff]; done)); simp only [WB, execE, unE, args0, reduceIte, Nat.reduceEqDiff, Nat.reduceAdd, Nat.reduceLeDiff, c1, c2, c3, binE, isShift, intBin, WO, fillX, splice, Wo_some])
   | (refine W_opgF rfl rfl ?h ?_; case h => simp only [WG, reduceIte, Nat.reduceEqDiff]; done)
   | (refine W_opgU rfl ?h ?_; case h => simp only [upd_at, reduceIte, Nat.reduceEqDiff]; done) | (refine W_callN rfl ?h ?_; case h => simp only [WG, reduceIte, Nat.reduceEqDiff]; done) | simp only [WS] | refine W_regd0 ?_ | refine W_regd ?_)
  refine W_cond ?_
  simp only [WB, execE, unE, args0, reduceIte, Nat.reduceEqDiff, Nat.reduceAdd, Nat.reduceLeDiff, WC]
  repeat (first
   | ((first | refine W_op rfl rfl ?_ | (refine W_opgT rfl rfl ?h ?_; case h => simp only [WG, reduceIte, Nat.reduceEqDiff]; done)); simp only [WB, execE, unE, args0, reduceIte, Nat.reduceEqDiff, Nat.reduceAdd, Nat.reduceLeDiff, WO, fillX, splice, Wo_some])
   | (refine W_opgF rfl rfl ?h ?_; case h => simp only [WG, reduceIte, Nat.reduceEqDiff]; done)
   | (refine W_opgU rfl ?h ?_; case h => simp only [upd_at, reduceIte, Nat.reduceEqDiff]; done) | (refine W_callN rfl ?h ?_; case h => simp only [WG, reduceIte, Nat.reduceEqDiff]; done) | simp only [WS] | refine W_regd0 ?_ | refine W_regd ?_)
  refine W_getRet (by repeat (first | exact hg | exact args0_un (Nat.le_of_ble_eq_true rfl) | refine upd_un ?_ rfl)) ?_
  refine ⟨rfl, _, rfl, ?_, (Keep.inn m).out⟩
  rw [if_neg h1]
  rfl
end Go.Proofs.YtfbglgmhhmeoeaaGreatDoor
namespace Go.Proofs.YtfbglgmhhmeoeaaGreatDoor
open Go.Vi
set_option linter.unusedSimpArgs false
set_option linter.unusedVariables false
theorem denc_pos (was now : St) : 0 < (denc was now).length := by
 have := List.length_pos_iff.2 (vb_ne now.kd.toNat)
 unfold denc
 simp only [List.length_append]; omega
theorem tbn_ge (g ev : Nat) (L : List St) : ∀ n, n ≤ (tbn g ev L n).length
 | 0 => Nat.zero_le _
 | n + 1 => by
   have := tbn_ge g ev L n
   have := denc_pos (wasOf g ev L n) (L.getD n .zero)
   simp only [tbn, List.length_append]; omega
theorem starts_snoc {g ev : Nat} {L : List St} {s : St} : starts g ev (L ++ [s]) = starts g ev L ++ [((tbn g ev L L.length).length : Int)] := by
 unfold starts
 rw [show (L ++ [s]).length = L.length + 1 by simp, List.range_succ, List.map_append]
 congr 1
 ·refine List.map_congr_left fun k hk => ?_
  rw [tbn_app (by have := List.mem_range.1 hk; omega)]
 ·simp [tbn_app (Nat.le_refl L.length)]
theorem lastOf_snoc {L : List St} {s : St} : lastOf (L ++ [s]) = s := by
 unfold lastOf
 rw [List.getD_eq_getElem?_getD]
 simp
theorem base_of {g ev : Nat} {L : List St} (hg : g ≤ 99) (h : ∀ s ∈ L, s.rt g) : Base (wasOf g ev L L.length) ∧ grp (wasOf g ev L L.length) = (g : Int) := by
 obtain ⟨_, h2, h3⟩ := wasOf_ok (ev := ev) h (Nat.le_refl L.length)
 refine ⟨?_, by unfold grp; rw [h2]; omega⟩
 rcases h3 with h | h
 ·exact .inl ⟨g, hg, h⟩
 ·exact .inr ⟨g, h⟩
set_option maxHeartbeats 16000000 in
theorem call37 {m0 m : AMem} {n0 jt g ev : Nat} {L : List St} (hT : TapeAt m0 n0 jt g ev L) (k0 : Keep m0 m []) (hn0 : n0 ≤ m0.next) (hg9 : g ≤ 99) (hev : 1 ≤ ev ∧ ev ≤ 1024) (hL : ∀ s ∈ L, s.rt g) (hf : (tbn g ev L L.length).length ≤ 16777216) {s : St} {cs : AV} (hF : FrI m0 m cs s.caps) (hs : s.rt g) :
  Vi.Call T 37 [.p (some (jt, 0)), .agg (stS s cs)] m (fun v m' => (if 16777216 < (tbn g ev L L.length).length + (denc (wasOf g ev L L.length) s).length then v = .i .i64 13 else v = .i .i64 0 ∧ ∀ m'' fq, Keep m' m'' fq → (∀ x ∈ fq, (x < n0 ∧ x ≠ jt) ∨ (m0.next ≤ x ∧ x < m.next)) → TapeAt m'' n0 jt g ev (L ++ [s])) ∧ ∃ fp, Keep m m' fp ∧ ∀ x ∈ fp, x = jt ∨ (n0 ≤ x ∧ x < m0.next)) := by
 obtain ⟨hbase, hgrp⟩ := base_of (ev := ev) hg9 hL
 obtain ⟨hws, hwc, _⟩ := wasOf_ok (ev := ev) hL (Nat.le_refl L.length)
 have hsc := caps_len hs
 have hdl := denc_len (was := wasOf g ev L L.length) hws hs (by omega)
 have hge := tbn_ge g ev L L.length
 have hC : Cap m cs s := hF.arr
 have hos := Arr.one hC
 obtain ⟨bv, sv, cv, tb, ts, tc, ob, os, oc, hR0⟩ := hT
 have hR := hR0.keep k0 (by simp)
 have n00 := k0.next
 have hhi0 := hR0.hi
 have hob0 : ∀ x, ob = some x → x < m0.next := fun x hx => by have h := hR0.bytes; rw [hx] at h; exact h.lt
 have hos0 : ∀ x, os = some x → x < m0.next := fun x hx => by have h := hR0.starts; rw [hx] at h; exact h.lt
 obtain ⟨ob1, os1, oc1⟩ := tone hR
 have hobj := hR.obj
 have hhi := hR.hi
 have hap := hR.apart
 simp only [tapeC] at hobj
 refine Vi.Call.ofP T37 (Nat.le_of_ble_eq_true rfl) ?_
 unfold v37
 simp only [stS]
 repeat (first | simp only [WS] | refine W_regd0 ?_ | refine W_regd ?_)
 refine W_op rfl rfl ?_
 simp only [WB, execE, unE, args0, reduceIte, Nat.reduceEqDiff, Nat.reduceAdd, Nat.reduceLeDiff, hos, WO, fillX, splice, Wo_some]
 repeat (first | rw [push_no] | rw [push_yes] | rw [W_onil])
 obtain ⟨mA, hmA, kA, _, gA, dA, _, nA⟩ := mk_new m.inn [.i .i64 s.kd, .i .i64 s.nd, .i .i64 s.ph, .i .i64 s.pos, .i .i64 s.st, .i .i64 s.dp, .i .i64 s.og, cs] true (8 : Nat) 8 rfl
 have kA' : Keep m mA [] := kA.ofInn
 have bA' : rd mA m.next 0 8 = some (stS s cs) := by
  have : mA.get m.next = some (.cells [.i .i64 s.kd, .i .i64 s.nd, .i .i64 s.ph, .i .i64 s.pos, .i .i64 s.st, .i .i64 s.dp, .i .i64 s.og, cs] true (8 : Nat)) := gA
  simp [rd, this, stS]
 have nA' : m.next < mA.next := nA
 rw [← hmA]
 clear hmA gA nA kA
 have gt1 := kA'.at hhi (by simp) hobj
 have bt1 : rd mA jt 5 8 = some [.i .i64 (lastOf L).kd, .i .i64 (lastOf L).nd, .i .i64 (lastOf L).ph, .i .i64 (lastOf L).pos, .i .i64 (lastOf L).st, .i .i64 (lastOf L).dp, .i .i64 (lastOf L).og, cv] := by simp [rd, gt1]
 repeat (first
  | ((first | refine W_opS rfl rfl rfl ?_ | (refine W_opgT rfl rfl ?h ?_; case h => simp only [WG, reduceIte, Nat.reduceEqDiff]; done)); simp only [WB, execE, unE, args0, reduceIte, Nat.reduceEqDiff, Nat.reduceAdd, Nat.reduceLeDiff, gt1, bt1, WO, fillX, splice, Wo_some])
  | (refine W_opgF rfl rfl ?h ?_; case h => simp only [WG, reduceIte, Nat.reduceEqDiff]; done)
  | (refine W_opgU rfl ?h ?_; case h => simp only [upd_at, reduceIte, Nat.reduceEqDiff]; done) | (refine W_callN rfl ?h ?_; case h => simp only [WG, reduceIte, Nat.reduceEqDiff]; done) | simp only [WS] | refine W_regd0 ?_ | refine W_regd ?_)
 repeat (first | simp only [WS] | refine W_regd0 ?_ | refine W_regd ?_)
 refine W_op rfl rfl ?_
 simp only [WB, execE, unE, args0, reduceIte, Nat.reduceEqDiff, Nat.reduceAdd, Nat.reduceLeDiff, oc1, WO, fillX, splice, Wo_some]
 repeat (first | rw [push_no] | rw [push_yes] | rw [W_onil])
 obtain ⟨mB, hmB, kB, _, gB, dB, _, nB⟩ := mk_put mA [.i .i64 0, .i .i64 0, .i .i64 0, .i .i64 0, .i .i64 0, .i .i64 0, .i .i64 0, .sl none 0 0 true] [.i .i64 (lastOf L).kd, .i .i64 (lastOf L).nd, .i .i64 (lastOf L).ph, .i .i64 (lastOf L).pos, .i .i64 (lastOf L).st, .i .i64 (lastOf L).dp, .i .i64 (lastOf L).og, cv] true true ⟨8, some 35⟩ ⟨8, some 35⟩ 8 rfl
 rw [← hmB]
 clear hmB
 have kB' : Keep m mB [] := kA'.trans kB (by simp)
 have gt2 := kB'.at hhi (by simp) hobj
 have bA2 := rd_keep bA' kB nA' (by simp)
 have hRB : TapeR mB n0 jt g ev L bv sv cv tb ts tc ob os oc := hR.keep kB' (by simp)
 have dB' : mB.ds = [] := dB.trans dA
 have nAB := nB
 have hrem : (L.length : Int).tmod (ev : Int) = ((L.length % ev : Nat) : Int) := rfl
 have hnez : ((ev : Int) = 0) = False := by simp; omega
 repeat (first
  | ((first | refine W_op rfl rfl ?_ | (refine W_opgT rfl rfl ?h ?_; case h => simp only [WG, reduceIte, Nat.reduceEqDiff]; done)); simp only [WB, execE, unE, args0, reduceIte, Nat.reduceEqDiff, Nat.reduceAdd, Nat.reduceLeDiff, WO, fillX, splice, Wo_some])
  | (refine W_opgF rfl rfl ?h ?_; case h => simp only [WG, reduceIte, Nat.reduceEqDiff]; done)
  | (refine W_opgU rfl ?h ?_; case h => simp only [upd_at, reduceIte, Nat.reduceEqDiff]; done) | (refine W_callN rfl ?h ?_; case h => simp only [WG, reduceIte, Nat.reduceEqDiff]; done) | simp only [WS] | refine W_regd0 ?_ | refine W_regd ?_)
 refine W_callA rfl ?hargs (call7 (⟨bv, sv, cv, tb, ts, tc, ob, os, oc, hRB⟩ : TapeAt mB n0 jt g ev L)) ?_
 case hargs => simp only [WB, execE, unE, args0, reduceIte, Nat.reduceEqDiff, Nat.reduceAdd, Nat.reduceLeDiff] <;> rfl
 rintro v m1 ⟨rfl, rfl⟩ -
 repeat (first
  | ((first | refine W_op rfl rfl ?_ | (refine W_opgT rfl rfl ?h ?_; case h => simp only [WG, reduceIte, Nat.reduceEqDiff]; done)); simp only [WB, execE, unE, args0, reduceIte, Nat.reduceEqDiff, Nat.reduceAdd, Nat.reduceLeDiff, gt2, hrem, hnez, binE, isShift, intBin, WO, fillX, splice, Wo_some])
  | (refine W_opgF rfl rfl ?h ?_; case h => simp only [WG, reduceIte, Nat.reduceEqDiff]; done)
  | (refine W_opgU rfl ?h ?_; case h => simp only [upd_at, reduceIte, Nat.reduceEqDiff]; done) | (refine W_callN rfl ?h ?_; case h => simp only [WG, reduceIte, Nat.reduceEqDiff]; done) | simp only [WS] | refine W_regd0 ?_ | refine W_regd ?_)
 refine W_dnil ?hs ?hnt ?_
 case hs => (simp only [SameIn, SameAt, List.nil_append, List.cons_append, reduceCtorEq, false_and, exists_false, exists_const, false_or, or_false, Option.some.injEq, exists_eq_left', exists_eq', or_true, and_true, WB, execE, unE, args0, reduceIte, Nat.reduceEqDiff, Nat.reduceAdd, Nat.reduceLeDiff, gt2])
 case hnt => (simp only [List.nil_append, List.cons_append, List.forall_mem_cons, List.not_mem_nil, false_imp_iff, implies_true, and_true]; repeat' (first | exact hg | exact args0_un (Nat.le_of_ble_eq_true rfl) | refine upd_un ?_ rfl | constructor))
 refine W_cutQ [_] (fun g' m' => ∃ cw : AV, g' 0 = .p (some (jt, 0)) ∧ g' 3 = .p (some (m.next, 0)) ∧ g' 5 = .p (some (mA.next, 0)) ∧ rd m' mA.next 0 8 = some (stS (wasOf g ev L L.length) cw) ∧ Cap m' cw (wasOf g ev L L.length) ∧ Keep m1 m' [mA.next] ∧ m'.ds = []) ?_ ?_
 ·simp only [List.cons_append, List.nil_append]
  by_cases h0 : L.length % ev = 0
  ·have c1 : (((L.length % ev : Nat) : Int) == 0) = true := by rw [h0]; rfl
   have e : wasOf g ev L L.length = .blank g := by unfold wasOf; rw [if_pos h0]
   rw [e]
   refine W_cond ?_
   simp only [WB, execE, unE, args0, reduceIte, Nat.reduceEqDiff, Nat.reduceAdd, Nat.reduceLeDiff, WC, c1]
   repeat (first
    | ((first | refine W_op rfl rfl ?_ | (refine W_opgT rfl rfl ?h ?_; case h => simp only [WG, reduceIte, Nat.reduceEqDiff]; done)); simp only [WB, execE, unE, args0, reduceIte, Nat.reduceEqDiff, Nat.reduceAdd, Nat.reduceLeDiff, gt2, WO, fillX, splice, Wo_some])
    | (refine W_opgF rfl rfl ?h ?_; case h => simp only [WG, reduceIte, Nat.reduceEqDiff]; done)
    | (refine W_opgU rfl ?h ?_; case h => simp only [upd_at, reduceIte, Nat.reduceEqDiff]; done) | (refine W_callN rfl ?h ?_; case h => simp only [WG, reduceIte, Nat.reduceEqDiff]; done) | simp only [WS] | refine W_regd0 ?_ | refine W_regd ?_)
   refine W_callA rfl ?hargs (call35 hg9) ?_
   case hargs => simp only [WB, execE, unE, args0, reduceIte, Nat.reduceEqDiff, Nat.reduceAdd, Nat.reduceLeDiff] <;> rfl
   rintro v m2 ⟨⟨cw, rfl, hF⟩, k2⟩ hs2
   have gB2 := k2.at nB (by simp) gB
   have ow := Arr.one hF.arr
   repeat (first
    | ((first | refine W_opS rfl rfl rfl ?_ | (refine W_opgT rfl rfl ?h ?_; case h => simp only [WG, reduceIte, Nat.reduceEqDiff]; done)); simp only [WB, execE, unE, args0, reduceIte, Nat.reduceEqDiff, Nat.reduceAdd, Nat.reduceLeDiff, WO, fillX, splice, Wo_some])
    | (refine W_opgF rfl rfl ?h ?_; case h => simp only [WG, reduceIte, Nat.reduceEqDiff]; done)
    | (refine W_opgU rfl ?h ?_; case h => simp only [upd_at, reduceIte, Nat.reduceEqDiff]; done) | (refine W_callN rfl ?h ?_; case h => simp only [WG, reduceIte, Nat.reduceEqDiff]; done) | simp only [WS] | refine W_regd0 ?_ | refine W_regd ?_)
   simp only [stS]
   repeat (first | simp only [WS] | refine W_regd0 ?_ | refine W_regd ?_)
   refine W_op rfl rfl ?_
   simp only [WB, execE, unE, args0, reduceIte, Nat.reduceEqDiff, Nat.reduceAdd, Nat.reduceLeDiff, gB2, ow, WO, fillX, splice, Wo_some]
   repeat (first | rw [push_no] | rw [push_yes] | rw [W_onil])
   refine W_j (by repeat (first | exact hg | exact args0_un (Nat.le_of_ble_eq_true rfl) | refine upd_un ?_ rfl)) ?_
   refine ⟨cw, ?_, ?_, ?_, ?_, ?_, ?_, hs2.ds.trans dB'⟩
   ·skip
    simp only [WT, reduceIte, Nat.reduceEqDiff, args0]
   ·skip
    simp only [WT, reduceIte, Nat.reduceEqDiff, args0]
   ·skip
    simp only [WT, reduceIte, Nat.reduceEqDiff, args0]
   ·simp [rd, AMem.get_put, stS]
   ·obtain ⟨tw, ow2, hw, hww⟩ := hF
    exact (hw.keep (Keep.put _ _ _) (fun z hz hm => by have := hww z hz; have := List.mem_singleton.1 hm; omega)).arr
   ·exact (k2.nil).trans (Keep.put _ _ _) (fun z hz => .inl hz)
  ·have c1 : (((L.length % ev : Nat) : Int) == 0) = false := by simp only [beq_eq_false_iff_ne]; omega
   have e : wasOf g ev L L.length = lastOf L := by unfold wasOf lastOf; rw [if_neg h0]
   rw [e]
   refine W_cond ?_
   simp only [WB, execE, unE, args0, reduceIte, Nat.reduceEqDiff, Nat.reduceAdd, Nat.reduceLeDiff, WC, c1]
   repeat (first
    | ((first | refine W_op rfl rfl ?_ | (refine W_opgT rfl rfl ?h ?_; case h => simp only [WG, reduceIte, Nat.reduceEqDiff]; done)); simp only [WB, execE, unE, args0, reduceIte, Nat.reduceEqDiff, Nat.reduceAdd, Nat.reduceLeDiff, WO, fillX, splice, Wo_some])
    | (refine W_opgF rfl rfl ?h ?_; case h => simp only [WG, reduceIte, Nat.reduceEqDiff]; done)
    | (refine W_opgU rfl ?h ?_; case h => simp only [upd_at, reduceIte, Nat.reduceEqDiff]; done) | (refine W_callN rfl ?h ?_; case h => simp only [WG, reduceIte, Nat.reduceEqDiff]; done) | simp only [WS] | refine W_regd0 ?_ | refine W_regd ?_)
   refine W_j (by repeat (first | exact hg | exact args0_un (Nat.le_of_ble_eq_true rfl) | refine upd_un ?_ rfl)) ?_
   refine ⟨cv, ?_, ?_, ?_, ?_, hRB.last.arr, Keep.refl _ _, dB'⟩
   ·skip
    simp only [WT, reduceIte, Nat.reduceEqDiff, args0]
   ·skip
    simp only [WT, reduceIte, Nat.reduceEqDiff, args0]
   ·skip
    simp only [WT, reduceIte, Nat.reduceEqDiff, args0]
   ·simp [rd, gB, stS]
 rintro gg m2 ⟨cw, q0, q3, q5, bw, hCw, k2, d2⟩ hg
 have n12 := k2.next
 have kk2 : Keep m m2 [] := kB'.trans k2 (fun z hz => .inr (by have := List.mem_singleton.1 hz; omega))
 have bA3 := rd_keep bA2 k2 (by omega) (by simp; omega)
 have gt3 := kk2.at hhi (by simp) hobj
 repeat (first
  | ((first | refine W_op rfl rfl ?_ | (refine W_opgT rfl rfl ?h ?_; case h => simp only [WG, reduceIte, Nat.reduceEqDiff]; done)); simp only [WB, execE, unE, args0, reduceIte, Nat.reduceEqDiff, Nat.reduceAdd, Nat.reduceLeDiff, q3, q5, bw, bA3, WO, fillX, splice, Wo_some])
  | (refine W_opgF rfl rfl ?h ?_; case h => simp only [WG, reduceIte, Nat.reduceEqDiff]; done)
  | (refine W_opgU rfl ?h ?_; case h => simp only [upd_at, reduceIte, Nat.reduceEqDiff]; done) | (refine W_callN rfl ?h ?_; case h => simp only [WG, reduceIte, Nat.reduceEqDiff]; done) | simp only [WS] | refine W_regd0 ?_ | refine W_regd ?_)
 refine W_callA rfl ?hargs (call62 (was := wasOf g ev L L.length) (now := s) (cw := cw) (cn := cs) hCw (Arr.keep0 hC kk2) hbase hws (by omega)) ?_
 case hargs => simp only [WB, execE, unE, args0, reduceIte, Nat.reduceEqDiff, Nat.reduceAdd, Nat.reduceLeDiff] <;> rfl
 rintro v m3 ⟨hv, k3⟩ hs3
 rw [hgrp, if_pos hs] at hv
 obtain ⟨av, rfl, hBy⟩ := hv
 have hBA := hBy.arr
 have hlav := hBA.lenF
 have n23 := k3.next
 have kk3 : Keep m m3 [] := kk2.trans k3 (by simp)
 have bA4 := rd_keep bA3 k3 (by omega) (by simp)
 have gt4 := kk3.at hhi (by simp) hobj
 have d3 : m3.ds = [] := hs3.ds.trans d2
 have hR3 : TapeR m3 n0 jt g ev L bv sv cv tb ts tc ob os oc := hR.keep kk3 (by simp)
 have hlbv := hR3.bytes.arr.lenF
 have c0 : ((0 : Int) != 0) = false := rfl
 have hrt : decide (s.rt g) = true := decide_eq_true hs
 have hw51 : IntKind.i64.wrap (((tbn g ev L L.length).length : Int) + ((denc (wasOf g ev L L.length) s).length : Int)) = (((tbn g ev L L.length).length + (denc (wasOf g ev L L.length) s).length : Nat) : Int) := by rw [wr_i64 (by omega) (by omega)]; omega
 repeat (first
  | ((first | refine W_op rfl rfl ?_ | (refine W_opgT rfl rfl ?h ?_; case h => simp only [WG, reduceIte, Nat.reduceEqDiff]; done)); simp only [WB, execE, unE, args0, reduceIte, Nat.reduceEqDiff, Nat.reduceAdd, Nat.reduceLeDiff, q0, q3, bA4, gt4, WO, fillX, splice, Wo_some])
  | (refine W_opgF rfl rfl ?h ?_; case h => simp only [WG, reduceIte, Nat.reduceEqDiff]; done)
  | (refine W_opgU rfl ?h ?_; case h => simp only [upd_at, reduceIte, Nat.reduceEqDiff]; done) | (refine W_callN rfl ?h ?_; case h => simp only [WG, reduceIte, Nat.reduceEqDiff]; done) | simp only [WS] | refine W_regd0 ?_ | refine W_regd ?_)
 refine W_callA rfl ?hargs (call60 (s := s) (cv := cs) (g := (g : Int)) (Arr.keep0 hC kk3) (by omega) ⟨by omega, by omega⟩ ⟨by omega, by omega⟩) ?_
 case hargs => simp only [WB, execE, unE, args0, reduceIte, Nat.reduceEqDiff, Nat.reduceAdd, Nat.reduceLeDiff] <;> rfl
 rintro v m4 ⟨rfl, k4⟩ hs4
 rw [hrt]
 have n34 := k4.next
 have kk4 : Keep m m4 [] := kk3.trans k4 (by simp)
 have bA5 := rd_keep bA4 k4 (by omega) (by simp)
 have gt5 := kk4.at hhi (by simp) hobj
 have d4 : m4.ds = [] := hs4.ds.trans d3
 have hR4 : TapeR m4 n0 jt g ev L bv sv cv tb ts tc ob os oc := hR.keep kk4 (by simp)
 repeat (first
  | ((first | refine W_op rfl rfl ?_ | (refine W_opgT rfl rfl ?h ?_; case h => simp only [WG, reduceIte, Nat.reduceEqDiff]; done)); simp only [WB, execE, unE, args0, reduceIte, Nat.reduceEqDiff, Nat.reduceAdd, Nat.reduceLeDiff, c0, binE, isShift, intBin, WO, fillX, splice, Wo_some])
  | (refine W_opgF rfl rfl ?h ?_; case h => simp only [WG, reduceIte, Nat.reduceEqDiff]; done)
  | (refine W_opgU rfl ?h ?_; case h => simp only [upd_at, reduceIte, Nat.reduceEqDiff]; done) | (refine W_callN rfl ?h ?_; case h => simp only [WG, reduceIte, Nat.reduceEqDiff]; done) | simp only [WS] | refine W_regd0 ?_ | refine W_regd ?_)
 refine W_cond ?_
 simp only [WB, execE, unE, args0, reduceIte, Nat.reduceEqDiff, Nat.reduceAdd, Nat.reduceLeDiff, WC]
 by_cases hfit : 16777216 < (tbn g ev L L.length).length + (denc (wasOf g ev L L.length) s).length
 ·have c1 : decide ((((tbn g ev L L.length).length + (denc (wasOf g ev L L.length) s).length : Nat) : Int) > 16777216) = true := decide_eq_true (by omega)
  repeat (first
   | ((first | refine W_op rfl rfl ?_ | (refine W_opgT rfl rfl ?h ?_; case h => simp only [WG, reduceIte, Nat.reduceEqDiff]; done)); simp only [WB, execE, unE, args0, reduceIte, Nat.reduceEqDiff, Nat.reduceAdd, Nat.reduceLeDiff, q0, gt5, ↓hlbv, ↓hlav, hw51, c1, binE, isShift, intBin, WO, fillX, splice, Wo_some])
   | (refine W_opgF rfl rfl ?h ?_; case h => simp only [WG, reduceIte, Nat.reduceEqDiff]; done)
   | (refine W_opgU rfl ?h ?_; case h => simp only [upd_at, reduceIte, Nat.reduceEqDiff]; done) | (refine W_callN rfl ?h ?_; case h => simp only [WG, reduceIte, Nat.reduceEqDiff]; done) | simp only [WS] | refine W_regd0 ?_ | refine W_regd ?_)
  refine W_cond ?_
  simp only [WB, execE, unE, args0, reduceIte, Nat.reduceEqDiff, Nat.reduceAdd, Nat.reduceLeDiff, WC]
  repeat (first
   | ((first | refine W_op rfl rfl ?_ | (refine W_opgT rfl rfl ?h ?_; case h => simp only [WG, reduceIte, Nat.reduceEqDiff]; done)); simp only [WB, execE, unE, args0, reduceIte, Nat.reduceEqDiff, Nat.reduceAdd, Nat.reduceLeDiff, WO, fillX, splice, Wo_some])
   | (refine W_opgF rfl rfl ?h ?_; case h => simp only [WG, reduceIte, Nat.reduceEqDiff]; done)
   | (refine W_opgU rfl ?h ?_; case h => simp only [upd_at, reduceIte, Nat.reduceEqDiff]; done) | (refine W_callN rfl ?h ?_; case h => simp only [WG, reduceIte, Nat.reduceEqDiff]; done) | simp only [WS] | refine W_regd0 ?_ | refine W_regd ?_)
  refine W_getRet (by repeat (first | exact hg | exact args0_un (Nat.le_of_ble_eq_true rfl) | refine upd_un ?_ rfl)) ?_
  refine ⟨d4, _, rfl, ?_, [], kk4.out, by simp⟩
  rw [if_pos hfit]
  rfl
 have c1 : decide ((((tbn g ev L L.length).length + (denc (wasOf g ev L L.length) s).length : Nat) : Int) > 16777216) = false := decide_eq_false (by omega)
 repeat (first
  | ((first | refine W_op rfl rfl ?_ | (refine W_opgT rfl rfl ?h ?_; case h => simp only [WG, reduceIte, Nat.reduceEqDiff]; done)); simp only [WB, execE, unE, args0, reduceIte, Nat.reduceEqDiff, Nat.reduceAdd, Nat.reduceLeDiff, q0, gt5, ↓hlbv, ↓hlav, hw51, c1, binE, isShift, intBin, WO, fillX, splice, Wo_some])
  | (refine W_opgF rfl rfl ?h ?_; case h => simp only [WG, reduceIte, Nat.reduceEqDiff]; done)
  | (refine W_opgU rfl ?h ?_; case h => simp only [upd_at, reduceIte, Nat.reduceEqDiff]; done) | (refine W_callN rfl ?h ?_; case h => simp only [WG, reduceIte, Nat.reduceEqDiff]; done) | simp only [WS] | refine W_regd0 ?_ | refine W_regd ?_)
 refine W_cond ?_
 simp only [WB, execE, unE, args0, reduceIte, Nat.reduceEqDiff, Nat.reduceAdd, Nat.reduceLeDiff, WC]
 repeat (first
  | ((first | refine W_opA rfl rfl rfl ?_ | (refine W_opgT rfl rfl ?h ?_; case h => simp only [WG, reduceIte, Nat.reduceEqDiff]; done)); simp only [WB, execE, unE, args0, reduceIte, Nat.reduceEqDiff, Nat.reduceAdd, Nat.reduceLeDiff, q0, gt5, ↓hlbv, WO, fillX, splice, Wo_some])
  | (refine W_opgF rfl rfl ?h ?_; case h => simp only [WG, reduceIte, Nat.reduceEqDiff]; done)
  | (refine W_opgU rfl ?h ?_; case h => simp only [upd_at, reduceIte, Nat.reduceEqDiff]; done) | (refine W_callN rfl ?h ?_; case h => simp only [WG, reduceIte, Nat.reduceEqDiff]; done) | simp only [WS] | refine W_regd0 ?_ | refine W_regd ?_)
 refine W_app (n := L.length) (k := 1) (new := [.i .i64 ((tbn g ev L L.length).length : Int)]) (ls := ints (starts g ev L)) rfl ((hR4.starts.keep (Keep.new _ _) (by simp)).as ?hrow) ?hsrc rfl rfl (roomyOf (by omega) (by omega)) ?_
 case hrow =>
  simp only [WB, execE, unE, args0, reduceIte, Nat.reduceEqDiff, Nat.reduceAdd, Nat.reduceLeDiff]
 case hsrc =>
  simp only [WB, execE, unE, args0, reduceIte, Nat.reduceEqDiff, Nat.reduceAdd, Nat.reduceLeDiff]
  exact src_new rfl
 intro sv5 os5 m5 ts5 r5 ds5 ro5 o5 k5 _
 have kn4 := Keep.new m4 (.cells [.i .i64 ((tbn g ev L L.length).length : Int)] true (1 : Nat))
 have k45 : Keep m4 m5 os.toList := kn4.nil.trans k5 (fun i hi => .inl hi)
 have n45 := k45.next
 have hjs : jt ∉ os.toList := fun hm => ((hap jt).2.1 (by simpa using hm)).2.1 rfl
 have gt6 := k45.at (by omega) hjs gt5
 have os5o := r5.one
 have es5o := one_cells os5o
 have hos5 : ∀ x, os5 = some x → n0 ≤ x ∧ x ≠ jt ∧ ob ≠ some x ∧ oc ≠ some x ∧ (x < m0.next ∨ m.next ≤ x) := by
  intro x hx
  rcases o5 with h | ⟨y, h, h2⟩
  ·have h3 := (hap x).2.1 (h ▸ hx)
   exact ⟨h3.1, h3.2.1, fun hb => ((hap x).1 hb).2.2.1 (h ▸ hx), h3.2.2, .inl (hos0 x (h ▸ hx))⟩
  ·rw [h] at hx; cases hx
   simp only [AMem.next_new] at h2
   refine ⟨by omega, by omega, fun hb => ?_, fun hb => ?_, .inr (by omega)⟩
   ·have hx1 := hR4.bytes
    rw [hb] at hx1
    have := hx1.lt
    omega
   ·have hx1 := hR4.last
    rw [hb] at hx1
    have := hx1.lt
    omega
 have hne4 : ¬ m4.next = jt := by omega
 repeat (first
  | ((first | refine W_opS rfl rfl rfl ?_ | (refine W_opgT rfl rfl ?h ?_; case h => simp only [WG, reduceIte, Nat.reduceEqDiff]; done)); simp only [WB, execE, unE, args0, reduceIte, Nat.reduceEqDiff, Nat.reduceAdd, Nat.reduceLeDiff, q0, gt6, WO, fillX, splice, Wo_some])
  | (refine W_opgF rfl rfl ?h ?_; case h => simp only [WG, reduceIte, Nat.reduceEqDiff]; done)
  | (refine W_opgU rfl ?h ?_; case h => simp only [upd_at, reduceIte, Nat.reduceEqDiff]; done) | (refine W_callN rfl ?h ?_; case h => simp only [WG, reduceIte, Nat.reduceEqDiff]; done) | simp only [WS] | refine W_regd0 ?_ | refine W_regd ?_)
 repeat (first | simp only [WS] | refine W_regd0 ?_ | refine W_regd ?_)
 refine W_op rfl rfl ?_
 simp only [WB, execE, unE, args0, reduceIte, Nat.reduceEqDiff, Nat.reduceAdd, Nat.reduceLeDiff, q0, gt6, os5o, es5o, WO, fillX, splice, Wo_some]
 repeat (first | rw [push_no] | rw [push_yes] | rw [W_onil])
 refine W_dnil ?hs ?hnt ?_
 case hs => (simp only [SameIn, SameAt, List.nil_append, List.cons_append, reduceCtorEq, false_and, exists_false, exists_const, false_or, or_false, Option.some.injEq, exists_eq_left', exists_eq', or_true, and_true, WB, execE, unE, args0, reduceIte, Nat.reduceEqDiff, Nat.reduceAdd, Nat.reduceLeDiff, gt5, gt6, AMem.get_new, hne4, q0])
 case hnt => (simp only [List.nil_append, List.cons_append, List.forall_mem_cons, List.not_mem_nil, false_imp_iff, implies_true, and_true]; repeat' (first | exact hg | exact args0_un (Nat.le_of_ble_eq_true rfl) | refine upd_un ?_ rfl | constructor))
 obtain ⟨m6, hm6⟩ : ∃ m6 : AMem, m6 = m5.put jt (some (.cells [.i .i64 (g : Int), .i .i64 (ev : Int), .i .i64 16777216, bv, sv5, .i .i64 (lastOf L).kd, .i .i64 (lastOf L).nd, .i .i64 (lastOf L).ph, .i .i64 (lastOf L).pos, .i .i64 (lastOf L).st, .i .i64 (lastOf L).dp, .i .i64 (lastOf L).og, cv] true (13 : Nat))) := ⟨_, rfl⟩
 have k56 : Keep m5 m6 [jt] := by rw [hm6]; exact Keep.put _ _ _
 have gt7 : m6.get jt = some (.cells [.i .i64 (g : Int), .i .i64 (ev : Int), .i .i64 16777216, bv, sv5, .i .i64 (lastOf L).kd, .i .i64 (lastOf L).nd, .i .i64 (lastOf L).ph, .i .i64 (lastOf L).pos, .i .i64 (lastOf L).st, .i .i64 (lastOf L).dp, .i .i64 (lastOf L).og, cv] true (13 : Nat)) := by rw [hm6, AMem.get_put, if_pos rfl]
 have nn6 : m6.next = m5.next := by rw [hm6]; rfl
 have d6 : m6.ds = [] := by rw [hm6]; exact ds5.trans d4
 rw [← hm6]
 clear hm6
 have hjb : jt ∉ ob.toList := fun hm => ((hap jt).1 (by simpa using hm)).2.1 rfl
 have hob6 : RowE m6 1 tb bv ob (tbn g ev L L.length).length (cellsOfBytes (tbn g ev L L.length)) := by
  refine ((hR4.bytes.keep k45 (fun z hz hm => ((hap z).1 hz).2.2.1 (by simpa using hm)))).keep k56 (fun z hz hm => ((hap z).1 hz).2.1 (List.mem_singleton.1 hm))
 have hsrc6 : srcE m6 1 av = some (cellsOfBytes (denc (wasOf g ev L L.length) s), (denc (wasOf g ev L L.length) s).length) := by
  obtain ⟨ty9, oj9, hr9, hj9⟩ := hBy
  refine arr_src ((((hr9.keep k4 (by simp)).keep k45 (fun z hz hm => ?_)).keep k56 (fun z hz hm => ?_)).arr)
  ·have h1 := hj9 z hz
   have h2 := hR.starts
   rw [show os = some z by simpa using hm] at h2
   have := h2.lt
   have := kk2.next
   omega
  ·have h1 := hj9 z hz
   have := List.mem_singleton.1 hm
   have := kk2.next
   omega
 repeat (first
  | ((first | refine W_opA rfl rfl rfl ?_ | (refine W_opgT rfl rfl ?h ?_; case h => simp only [WG, reduceIte, Nat.reduceEqDiff]; done)); simp only [WB, execE, unE, args0, reduceIte, Nat.reduceEqDiff, Nat.reduceAdd, Nat.reduceLeDiff, q0, gt7, WO, fillX, splice, Wo_some])
  | (refine W_opgF rfl rfl ?h ?_; case h => simp only [WG, reduceIte, Nat.reduceEqDiff]; done)
  | (refine W_opgU rfl ?h ?_; case h => simp only [upd_at, reduceIte, Nat.reduceEqDiff]; done) | (refine W_callN rfl ?h ?_; case h => simp only [WG, reduceIte, Nat.reduceEqDiff]; done) | simp only [WS] | refine W_regd0 ?_ | refine W_regd ?_)
 refine W_app (n := (tbn g ev L L.length).length) (k := (denc (wasOf g ev L L.length) s).length) (new := cellsOfBytes (denc (wasOf g ev L L.length) s)) (ls := cellsOfBytes (tbn g ev L L.length)) rfl (hob6.as ?hrow) ?hsrc (by rw [bytes_len]; omega) (bytes_one _) (roomyOf (by omega) (by omega)) ?_
 case hrow =>
  simp only [WB, execE, unE, args0, reduceIte, Nat.reduceEqDiff, Nat.reduceAdd, Nat.reduceLeDiff]
 case hsrc =>
  simp only [WB, execE, unE, args0, reduceIte, Nat.reduceEqDiff, Nat.reduceAdd, Nat.reduceLeDiff]
  exact hsrc6
 intro bv7 ob7 m7 tb7 r7 ds7 ro7 o7 k7 _
 have n67 := k7.next
 have gt8 := k7.at (by omega) hjb gt7
 have ob7o := r7.one
 have eb7o := one_cells ob7o
 have hR5s : RowE m7 1 ts5 sv5 os5 (L.length + 1) (ints (starts g ev L) ++ [.i .i64 ((tbn g ev L L.length).length : Int)]) := by
  refine (r5.keep k56 (fun z hz hm => (hos5 z hz).2.1 (List.mem_singleton.1 hm))).keep k7 (fun z hz hm => (hos5 z hz).2.2.1 (by simpa using hm))
 have hob7 : ∀ x, ob7 = some x → n0 ≤ x ∧ x ≠ jt ∧ os5 ≠ some x ∧ oc ≠ some x ∧ (x < m0.next ∨ m.next ≤ x) := by
  intro x hx
  rcases o7 with h | ⟨y, h, h2⟩
  ·have h3 := (hap x).1 (h ▸ hx)
   exact ⟨h3.1, h3.2.1, fun hb => (hos5 x hb).2.2.1 (h ▸ hx), h3.2.2.2, .inl (hob0 x (h ▸ hx))⟩
  ·rw [h] at hx; cases hx
   refine ⟨by omega, by omega, fun hb => ?_, fun hb => ?_, .inr (by omega)⟩
   ·have hx1 := r5
    rw [hb] at hx1
    have := hx1.lt
    omega
   ·have hx1 := hR4.last
    rw [hb] at hx1
    have := hx1.lt
    omega
 have lo7 : Keep m m7 (jt :: (os.toList ++ ob.toList)) := ((kk4.mono (by simp)).trans k45 (fun z hz => .inl (by simp [hz]))).trans k56 (fun z hz => .inl (by simp [List.mem_singleton.1 hz])) |>.trans k7 (fun z hz => .inl (by simp [hz]))
 repeat (first
  | ((first | refine W_opS rfl rfl rfl ?_ | (refine W_opgT rfl rfl ?h ?_; case h => simp only [WG, reduceIte, Nat.reduceEqDiff]; done)); simp only [WB, execE, unE, args0, reduceIte, Nat.reduceEqDiff, Nat.reduceAdd, Nat.reduceLeDiff, q0, gt8, WO, fillX, splice, Wo_some])
  | (refine W_opgF rfl rfl ?h ?_; case h => simp only [WG, reduceIte, Nat.reduceEqDiff]; done)
  | (refine W_opgU rfl ?h ?_; case h => simp only [upd_at, reduceIte, Nat.reduceEqDiff]; done) | (refine W_callN rfl ?h ?_; case h => simp only [WG, reduceIte, Nat.reduceEqDiff]; done) | simp only [WS] | refine W_regd0 ?_ | refine W_regd ?_)
 repeat (first | simp only [WS] | refine W_regd0 ?_ | refine W_regd ?_)
 refine W_op rfl rfl ?_
 simp only [WB, execE, unE, args0, reduceIte, Nat.reduceEqDiff, Nat.reduceAdd, Nat.reduceLeDiff, q0, gt8, ob7o, eb7o, WO, fillX, splice, Wo_some]
 repeat (first | rw [push_no] | rw [push_yes] | rw [W_onil])
 obtain ⟨m8, hm8⟩ : ∃ m8 : AMem, m8 = m7.put jt (some (.cells [.i .i64 (g : Int), .i .i64 (ev : Int), .i .i64 16777216, bv7, sv5, .i .i64 (lastOf L).kd, .i .i64 (lastOf L).nd, .i .i64 (lastOf L).ph, .i .i64 (lastOf L).pos, .i .i64 (lastOf L).st, .i .i64 (lastOf L).dp, .i .i64 (lastOf L).og, cv] true (13 : Nat))) := ⟨_, rfl⟩
 have k78 : Keep m7 m8 [jt] := by rw [hm8]; exact Keep.put _ _ _
 have gt9 : m8.get jt = some (.cells [.i .i64 (g : Int), .i .i64 (ev : Int), .i .i64 16777216, bv7, sv5, .i .i64 (lastOf L).kd, .i .i64 (lastOf L).nd, .i .i64 (lastOf L).ph, .i .i64 (lastOf L).pos, .i .i64 (lastOf L).st, .i .i64 (lastOf L).dp, .i .i64 (lastOf L).og, cv] true (13 : Nat)) := by rw [hm8, AMem.get_put, if_pos rfl]
 have nn8 : m8.next = m7.next := by rw [hm8]; rfl
 have d8 : m8.ds = [] := by rw [hm8]; exact ds7.trans d6
 rw [← hm8]
 clear hm8
 have lo8 : Keep m m8 (jt :: (os.toList ++ ob.toList)) := lo7.trans k78 (fun z hz => .inl (by simp [List.mem_singleton.1 hz]))
 obtain ⟨tcs, ocs, hRs, hocs⟩ := hF
 have hCs8 : Cap m8 cs s := by
  refine (((((hRs.keep kk4 (by simp)).keep k45 (fun z hz hm => ?_)).keep k56 (fun z hz hm => ?_)).keep k7 (fun z hz hm => ?_)).keep k78 (fun z hz hm => ?_)).arr
  ·have := hocs z hz; have := hos0 z (by simpa using hm); omega
  ·have := hocs z hz; have := List.mem_singleton.1 hm; omega
  ·have := hocs z hz; have := hob0 z (by simpa using hm); omega
  ·have := hocs z hz; have := List.mem_singleton.1 hm; omega
 have bA8 : rd m8 m.next 0 8 = some (stS s cs) := by
  refine rd_keep (rd_keep (rd_keep (rd_keep bA5 k45 (by omega) ?_) k56 (by omega) ?_) k7 (by omega) ?_) k78 (by omega) ?_
  ·intro hm; have := hos0 _ (by simpa using hm); omega
  ·intro hm; have := List.mem_singleton.1 hm; omega
  ·intro hm; have := hob0 _ (by simpa using hm); omega
  ·intro hm; have := List.mem_singleton.1 hm; omega
 repeat (first
  | ((first | refine W_op rfl rfl ?_ | (refine W_opgT rfl rfl ?h ?_; case h => simp only [WG, reduceIte, Nat.reduceEqDiff]; done)); simp only [WB, execE, unE, args0, reduceIte, Nat.reduceEqDiff, Nat.reduceAdd, Nat.reduceLeDiff, q0, q3, bA8, WO, fillX, splice, Wo_some])
  | (refine W_opgF rfl rfl ?h ?_; case h => simp only [WG, reduceIte, Nat.reduceEqDiff]; done)
  | (refine W_opgU rfl ?h ?_; case h => simp only [upd_at, reduceIte, Nat.reduceEqDiff]; done) | (refine W_callN rfl ?h ?_; case h => simp only [WG, reduceIte, Nat.reduceEqDiff]; done) | simp only [WS] | refine W_regd0 ?_ | refine W_regd ?_)
 refine W_callA rfl ?hargs (call23 (s := s) (cv := cs) hCs8 (by omega) (by omega)) ?_
 case hargs => simp only [WB, execE, unE, args0, reduceIte, Nat.reduceEqDiff, Nat.reduceAdd, Nat.reduceLeDiff] <;> rfl
 rintro v m9 ⟨⟨cv9, rfl, hF9⟩, k9⟩ hs9
 have n89 := k9.next
 have gt10 := k9.at (by omega) (by simp) gt9
 have o9 := Arr.one hF9.arr
 have e9 := one_cells o9
 repeat (first
  | ((first | refine W_opS rfl rfl rfl ?_ | (refine W_opgT rfl rfl ?h ?_; case h => simp only [WG, reduceIte, Nat.reduceEqDiff]; done)); simp only [WB, execE, unE, args0, reduceIte, Nat.reduceEqDiff, Nat.reduceAdd, Nat.reduceLeDiff, q0, WO, fillX, splice, Wo_some])
  | (refine W_opgF rfl rfl ?h ?_; case h => simp only [WG, reduceIte, Nat.reduceEqDiff]; done)
  | (refine W_opgU rfl ?h ?_; case h => simp only [upd_at, reduceIte, Nat.reduceEqDiff]; done) | (refine W_callN rfl ?h ?_; case h => simp only [WG, reduceIte, Nat.reduceEqDiff]; done) | simp only [WS] | refine W_regd0 ?_ | refine W_regd ?_)
 simp only [stS]
 repeat (first | simp only [WS] | refine W_regd0 ?_ | refine W_regd ?_)
 refine W_op rfl rfl ?_
 simp only [WB, execE, unE, args0, reduceIte, Nat.reduceEqDiff, Nat.reduceAdd, Nat.reduceLeDiff, q0, gt10, o9, e9, WO, fillX, splice, Wo_some]
 repeat (first | rw [push_no] | rw [push_yes] | rw [W_onil])
 repeat (first
  | ((first | refine W_op rfl rfl ?_ | (refine W_opgT rfl rfl ?h ?_; case h => simp only [WG, reduceIte, Nat.reduceEqDiff]; done)); simp only [WB, execE, unE, args0, reduceIte, Nat.reduceEqDiff, Nat.reduceAdd, Nat.reduceLeDiff, WO, fillX, splice, Wo_some])
  | (refine W_opgF rfl rfl ?h ?_; case h => simp only [WG, reduceIte, Nat.reduceEqDiff]; done)
  | (refine W_opgU rfl ?h ?_; case h => simp only [upd_at, reduceIte, Nat.reduceEqDiff]; done) | (refine W_callN rfl ?h ?_; case h => simp only [WG, reduceIte, Nat.reduceEqDiff]; done) | simp only [WS] | refine W_regd0 ?_ | refine W_regd ?_)
 refine W_getRet (by repeat (first | exact hg | exact args0_un (Nat.le_of_ble_eq_true rfl) | refine upd_un ?_ rfl)) ?_
 obtain ⟨m10, hm10⟩ : ∃ m10 : AMem, m10 = m9.put jt (some (.cells (tapeC g ev bv7 sv5 s cv9) true (13 : Nat))) := ⟨_, rfl⟩
 have k910 : Keep m9 m10 [jt] := by rw [hm10]; exact Keep.put _ _ _
 obtain ⟨t9, oc9, hr9, ho9⟩ := hF9
 have lo10 : Keep m m10 (jt :: (os.toList ++ ob.toList)) := (lo8.trans k9 (by simp)).trans k910 (fun z hz => .inl (by simp [List.mem_singleton.1 hz]))
 refine ⟨?_, [.i .i64 0], rfl, ?_, ?_⟩
 ·exact hs9.ds.trans d8
 ·rw [if_neg hfit]
  refine ⟨rfl, fun m'' fq kq hfq => ?_⟩
  change Keep ((m9.put jt (some (.cells (tapeC g ev bv7 sv5 s cv9) true (13 : Nat)))).out m) m'' fq at kq
  rw [← hm10] at kq
  have kall : Keep m7 m10 [jt] := (k78.trans k9 (by simp)).trans k910 (fun z hz => .inl hz)
  have kout : Keep m10 m'' fq := ((Keep.refl m10 []).out (m0 := m)).nil.trans kq (fun z hz => .inl hz)
  have hjq : jt ∉ fq := fun hm => by rcases hfq _ hm with h | h <;> omega
  have hx1 : ∀ x, n0 ≤ x → (x < m0.next ∨ m.next ≤ x) → x ∉ fq := fun x h1 h2 hm => by rcases hfq _ hm with h | h <;> omega
  have n10 := k910.next
  refine ⟨bv7, sv5, cv9, tb7, ts5, t9, ob7, os5, oc9, ⟨?_, ?_, ?_, ?_, ?_, fun x => ⟨fun hx => ?_, fun hx => ?_, fun hx => ?_⟩⟩⟩
  ·rw [lastOf_snoc]
   refine kout.at (by omega) hjq ?_
   rw [hm10, AMem.get_put, if_pos rfl]
  ·have := kout.next
   omega
  ·rw [tbn_snoc, bytes_app, List.length_append]
   exact (r7.keep kall (fun z hz hm => (hob7 z hz).2.1 (List.mem_singleton.1 hm))).keep kout (fun z hz => hx1 z (hob7 z hz).1 (hob7 z hz).2.2.2.2)
  ·rw [starts_snoc, show (L ++ [s]).length = L.length + 1 by simp]
   have e : ints (starts g ev L ++ [((tbn g ev L L.length).length : Int)]) = ints (starts g ev L) ++ [.i .i64 ((tbn g ev L L.length).length : Int)] := by simp [ints]
   rw [e]
   exact (hR5s.keep kall (fun z hz hm => (hos5 z hz).2.1 (List.mem_singleton.1 hm))).keep kout (fun z hz => hx1 z (hos5 z hz).1 (hos5 z hz).2.2.2.2)
  ·rw [lastOf_snoc]
   exact (hr9.keep k910 (fun z hz hm => by have := ho9 z hz; have := List.mem_singleton.1 hm; omega)).keep kout (fun z hz => hx1 z (by have := ho9 z hz; omega) (.inr (by have := ho9 z hz; omega)))
  ·refine ⟨(hob7 x hx).1, (hob7 x hx).2.1, (hob7 x hx).2.2.1, fun hc => ?_⟩
   have h1 := ho9 x hc
   have h2 := r7
   rw [hx] at h2
   have := h2.lt
   omega
  ·refine ⟨(hos5 x hx).1, (hos5 x hx).2.1, fun hc => ?_⟩
   have h1 := ho9 x hc
   have h2 := hR5s
   rw [hx] at h2
   have := h2.lt
   omega
  ·have h1 := ho9 x hx
   exact ⟨by omega, by omega⟩
 ·refine ⟨jt :: (os.toList ++ ob.toList), ?_, fun x hx => ?_⟩
  ·show Keep m ((m9.put jt (some (.cells (tapeC g ev bv7 sv5 s cv9) true (13 : Nat)))).out m) _
   rw [← hm10]
   exact lo10.out
  ·simp only [List.mem_cons, List.mem_append, Option.mem_toList] at hx
   rcases hx with h | h | h
   ·exact .inl h
   ·exact .inr ⟨((hap x).2.1 h).1, hos0 x h⟩
   ·exact .inr ⟨((hap x).1 h).1, hob0 x h⟩
end Go.Proofs.YtfbglgmhhmeoeaaGreatDoor
