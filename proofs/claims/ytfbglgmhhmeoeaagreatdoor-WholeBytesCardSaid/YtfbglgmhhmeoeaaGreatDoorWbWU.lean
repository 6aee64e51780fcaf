/- A file's record is read, and recorded. No condition. -/
import Derived.Test.YtfbglgmhhmeoeaaGreatDoorWbWS
import Derived.Test.YtfbglgmhhmeoeaaGreatDoorWbViNode
namespace Go.Proofs.YtfbglgmhhmeoeaaGreatDoor
open Go.Vi
set_option linter.unusedSimpArgs false
set_option linter.unusedVariables false
def badR (b : List UInt8) (g ev : Nat) (L : List St) (a : Nat) : Bool := decide ((dread (wasOf g ev L L.length) b a).2.2 ≠ 0 ∨ 16777216 < (tbn g ev L L.length).length + (denc (wasOf g ev L L.length) (dread (wasOf g ev L L.length) b a).1).length)
set_option maxHeartbeats 16000000 in
theorem call16 {m : AMem} {n0 jr jt g ev a : Nat} {bv : AV} {b : List UInt8} {L : List St} (hT : TapeAt m n0 jt g ev L) (hok : TOk g ev L) (hn0 : n0 ≤ m.next) (hjr : m.get jr = some (.cells (rdC bv (a, false)) true (3 : Nat))) (hjn : jr < n0) (hjt : jr ≠ jt) (hA : Arr m 1 bv b.length (cellsOfBytes b)) (hl : b.length ≤ 100000000) (ha : a ≤ b.length) {s : St} {cs : AV} (hcs : cs.one = true) (hs : L.length % ev ≠ 0 → s = L.getD (L.length - 1) .zero ∧ Cap m cs s) :
  Vi.Call T 16 [.p (some (jr, 0)), .p (some (jt, 0)), .agg (stS s cs)] m (fun v m' => (∃ cv, v = .agg (stS (dread (wasOf g ev L L.length) b a).1 cv) ∧ cv.one = true ∧ (badR b g ev L a = false → FrI m m' cv (dread (wasOf g ev L L.length) b a).1.caps)) ∧ m'.get jr = some (.cells (rdC bv (a + (dread (wasOf g ev L L.length) b a).2.1, badR b g ev L a)) true (3 : Nat)) ∧ (badR b g ev L a = false → TapeAt m' n0 jt g ev (L ++ [(dread (wasOf g ev L L.length) b a).1])) ∧ ∃ fp, Keep m m' fp ∧ ∀ x ∈ fp, x = jr ∨ x = jt ∨ n0 ≤ x) := by
 have hg9 := hok.hg
 have hev := hok.hev
 have hge := tbn_ge g ev L L.length
 have hfit := hok.fits
 obtain ⟨hws, hwc, hwb⟩ := wasOf_ok (ev := ev) hok.rt (Nat.le_refl L.length)
 obtain ⟨hbase, hgrp⟩ := base_of (ev := ev) hg9 hok.rt
 have hob := hA.one
 have hecb := one_cells hob
 refine Vi.Call.ofP T16 (Nat.le_of_ble_eq_true rfl) ?_
 unfold v16
 simp only [stS]
 repeat (first | simp only [WS] | refine W_regd0 ?_ | refine W_regd ?_)
 refine W_op rfl rfl ?_
 simp only [WB, execE, unE, args0, reduceIte, Nat.reduceEqDiff, Nat.reduceAdd, Nat.reduceLeDiff, hcs, WO, fillX, splice, Wo_some]
 repeat (first | rw [push_no] | rw [push_yes] | rw [W_onil])
 obtain ⟨mA, hmA, kA, _, gA, dA, _, nA⟩ := mk_new m.inn [.i .i64 s.kd, .i .i64 s.nd, .i .i64 s.ph, .i .i64 s.pos, .i .i64 s.st, .i .i64 s.dp, .i .i64 s.og, cs] true (8 : Nat) 8 rfl
 have kA' : Keep m mA [] := kA.ofInn
 have gA' : mA.get m.next = some (.cells [.i .i64 s.kd, .i .i64 s.nd, .i .i64 s.ph, .i .i64 s.pos, .i .i64 s.st, .i .i64 s.dp, .i .i64 s.og, cs] true (8 : Nat)) := gA
 have nA' : m.next < mA.next := nA
 rw [← hmA]
 clear hmA gA nA kA
 repeat (first | simp only [WS] | refine W_regd0 ?_ | refine W_regd ?_)
 refine W_op rfl rfl ?_
 simp only [WB, execE, unE, args0, reduceIte, Nat.reduceEqDiff, Nat.reduceAdd, Nat.reduceLeDiff, WO, fillX, splice, Wo_some]
 repeat (first | rw [push_no] | rw [push_yes] | rw [W_onil])
 obtain ⟨mB, hmB, kB, _, gB, dB, _, nB⟩ := mk_new mA [.i .i64 0, .i .i64 0, .i .i64 0, .i .i64 0, .i .i64 0, .i .i64 0, .i .i64 0, .sl none 0 0 true] true ⟨8, some 35⟩ 8 rfl
 rw [← hmB]
 clear hmB
 have kB' : Keep m mB [] := kA'.trans kB (by simp)
 have gA2 := kB.at nA' (by simp) gA'
 have hTB := hT.keep kB' (by simp)
 have dB' : mB.ds = [] := dB.trans dA
 have hrem : (L.length : Int).tmod (ev : Int) = ((L.length % ev : Nat) : Int) := rfl
 have hnez : ((ev : Int) = 0) = False := by simp; omega
 repeat (first
  | ((first | refine W_op rfl rfl ?_ | (refine W_opgT rfl rfl ?h ?_; case h => simp only [WG, reduceIte, Nat.reduceEqDiff]; done)); simp only [WB, execE, unE, args0, reduceIte, Nat.reduceEqDiff, Nat.reduceAdd, Nat.reduceLeDiff, WO, fillX, splice, Wo_some])
  | (refine W_opgF rfl rfl ?h ?_; case h => simp only [WG, reduceIte, Nat.reduceEqDiff]; done)
  | (refine W_opgU rfl ?h ?_; case h => simp only [upd_at, reduceIte, Nat.reduceEqDiff]; done) | (refine W_callN rfl ?h ?_; case h => simp only [WG, reduceIte, Nat.reduceEqDiff]; done) | simp only [WS] | refine W_regd0 ?_ | refine W_regd ?_)
 refine W_callA rfl ?hargs (call7 hTB) ?_
 case hargs => simp only [WB, execE, unE, args0, reduceIte, Nat.reduceEqDiff, Nat.reduceAdd, Nat.reduceLeDiff] <;> rfl
 rintro v m1 ⟨rfl, rfl⟩ -
 repeat (first
  | ((first | refine W_op rfl rfl ?_ | (refine W_opgT rfl rfl ?h ?_; case h => simp only [WG, reduceIte, Nat.reduceEqDiff]; done)); simp only [WB, execE, unE, args0, reduceIte, Nat.reduceEqDiff, Nat.reduceAdd, Nat.reduceLeDiff, WO, fillX, splice, Wo_some])
  | (refine W_opgF rfl rfl ?h ?_; case h => simp only [WG, reduceIte, Nat.reduceEqDiff]; done)
  | (refine W_opgU rfl ?h ?_; case h => simp only [upd_at, reduceIte, Nat.reduceEqDiff]; done) | (refine W_callN rfl ?h ?_; case h => simp only [WG, reduceIte, Nat.reduceEqDiff]; done) | simp only [WS] | refine W_regd0 ?_ | refine W_regd ?_)
 refine W_callA rfl ?hargs (call19 hTB) ?_
 case hargs => simp only [WB, execE, unE, args0, reduceIte, Nat.reduceEqDiff, Nat.reduceAdd, Nat.reduceLeDiff] <;> rfl
 rintro v m1' ⟨rfl, rfl⟩ -
 repeat (first
  | ((first | refine W_op rfl rfl ?_ | (refine W_opgT rfl rfl ?h ?_; case h => simp only [WG, reduceIte, Nat.reduceEqDiff]; done)); simp only [WB, execE, unE, args0, reduceIte, Nat.reduceEqDiff, Nat.reduceAdd, Nat.reduceLeDiff, hrem, hnez, binE, isShift, intBin, WO, fillX, splice, Wo_some])
  | (refine W_opgF rfl rfl ?h ?_; case h => simp only [WG, reduceIte, Nat.reduceEqDiff]; done)
  | (refine W_opgU rfl ?h ?_; case h => simp only [upd_at, reduceIte, Nat.reduceEqDiff]; done) | (refine W_callN rfl ?h ?_; case h => simp only [WG, reduceIte, Nat.reduceEqDiff]; done) | simp only [WS] | refine W_regd0 ?_ | refine W_regd ?_)
 refine W_cutQ [_] (fun g' m' => ∃ cw : AV, g' 0 = .p (some (jr, 0)) ∧ g' 1 = .p (some (jt, 0)) ∧ g' 5 = .p (some (m.next, 0)) ∧ g' 6 = .p (some (mA.next, 0)) ∧ m'.get m.next = some (.cells (stS (wasOf g ev L L.length) cw) true (8 : Nat)) ∧ Cap m' cw (wasOf g ev L L.length) ∧ Keep m1' m' [m.next] ∧ m'.ds = []) ?_ ?_
 ·simp only [List.cons_append, List.nil_append]
  by_cases h0 : L.length % ev = 0
  ·have c1 : (((L.length % ev : Nat) : Int) == 0) = true := by rw [h0]; rfl
   have e : wasOf g ev L L.length = .blank g := by unfold wasOf; rw [if_pos h0]
   rw [e]
   refine W_cond ?_
   simp only [WB, execE, unE, args0, reduceIte, Nat.reduceEqDiff, Nat.reduceAdd, Nat.reduceLeDiff, WC, c1]
   repeat (first
    | ((first | refine W_op rfl rfl ?_ | (refine W_opgT rfl rfl ?h ?_; case h => simp only [WG, reduceIte, Nat.reduceEqDiff]; done)); simp only [WB, execE, unE, args0, reduceIte, Nat.reduceEqDiff, Nat.reduceAdd, Nat.reduceLeDiff, WO, fillX, splice, Wo_some])
    | (refine W_opgF rfl rfl ?h ?_; case h => simp only [WG, reduceIte, Nat.reduceEqDiff]; done)
    | (refine W_opgU rfl ?h ?_; case h => simp only [upd_at, reduceIte, Nat.reduceEqDiff]; done) | (refine W_callN rfl ?h ?_; case h => simp only [WG, reduceIte, Nat.reduceEqDiff]; done) | simp only [WS] | refine W_regd0 ?_ | refine W_regd ?_)
   refine W_callA rfl ?hargs (call18 hTB) ?_
   case hargs => simp only [WB, execE, unE, args0, reduceIte, Nat.reduceEqDiff, Nat.reduceAdd, Nat.reduceLeDiff] <;> rfl
   rintro v m1 ⟨rfl, rfl⟩ -
   repeat (first
    | ((first | refine W_op rfl rfl ?_ | (refine W_opgT rfl rfl ?h ?_; case h => simp only [WG, reduceIte, Nat.reduceEqDiff]; done)); simp only [WB, execE, unE, args0, reduceIte, Nat.reduceEqDiff, Nat.reduceAdd, Nat.reduceLeDiff, WO, fillX, splice, Wo_some])
    | (refine W_opgF rfl rfl ?h ?_; case h => simp only [WG, reduceIte, Nat.reduceEqDiff]; done)
    | (refine W_opgU rfl ?h ?_; case h => simp only [upd_at, reduceIte, Nat.reduceEqDiff]; done) | (refine W_callN rfl ?h ?_; case h => simp only [WG, reduceIte, Nat.reduceEqDiff]; done) | simp only [WS] | refine W_regd0 ?_ | refine W_regd ?_)
   refine W_callA rfl ?hargs (call35 hg9) ?_
   case hargs => simp only [WB, execE, unE, args0, reduceIte, Nat.reduceEqDiff, Nat.reduceAdd, Nat.reduceLeDiff] <;> rfl
   rintro v m2 ⟨⟨cw, rfl, hF⟩, k2⟩ hs2
   have gA3 := k2.at (by omega) (by simp) gA2
   have ow := Arr.one hF.arr
   repeat (first
    | ((first | refine W_opS rfl rfl rfl ?_ | (refine W_opgT rfl rfl ?h ?_; case h => simp only [WG, reduceIte, Nat.reduceEqDiff]; done)); simp only [WB, execE, unE, args0, reduceIte, Nat.reduceEqDiff, Nat.reduceAdd, Nat.reduceLeDiff, WO, fillX, splice, Wo_some])
    | (refine W_opgF rfl rfl ?h ?_; case h => simp only [WG, reduceIte, Nat.reduceEqDiff]; done)
    | (refine W_opgU rfl ?h ?_; case h => simp only [upd_at, reduceIte, Nat.reduceEqDiff]; done) | (refine W_callN rfl ?h ?_; case h => simp only [WG, reduceIte, Nat.reduceEqDiff]; done) | simp only [WS] | refine W_regd0 ?_ | refine W_regd ?_)
   simp only [stS]
   repeat (first | simp only [WS] | refine W_regd0 ?_ | refine W_regd ?_)
   refine W_op rfl rfl ?_
   simp only [WB, execE, unE, args0, reduceIte, Nat.reduceEqDiff, Nat.reduceAdd, Nat.reduceLeDiff, gA3, ow, WO, fillX, splice, Wo_some]
   repeat (first | rw [push_no] | rw [push_yes] | rw [W_onil])
   refine W_j (by repeat (first | exact hg | exact args0_un (Nat.le_of_ble_eq_true rfl) | refine upd_un ?_ rfl)) ?_
   refine ⟨cw, ?_, ?_, ?_, ?_, ?_, ?_, ?_, hs2.ds.trans dB'⟩
   ·skip
    simp only [WT, reduceIte, Nat.reduceEqDiff, args0]
   ·skip
    simp only [WT, reduceIte, Nat.reduceEqDiff, args0]
   ·skip
    simp only [WT, reduceIte, Nat.reduceEqDiff, args0]
   ·skip
    simp only [WT, reduceIte, Nat.reduceEqDiff, args0]
   ·rw [AMem.get_put, if_pos rfl]
   ·obtain ⟨tw, ow2, hw, hww⟩ := hF
    exact (hw.keep (Keep.put _ _ _) (fun z hz hm => by have := hww z hz; have := List.mem_singleton.1 hm; omega)).arr
   ·exact (k2.nil).trans (Keep.put _ _ _) (fun z hz => .inl hz)
  ·have c1 : (((L.length % ev : Nat) : Int) == 0) = false := by simp only [beq_eq_false_iff_ne]; omega
   obtain ⟨he, hC⟩ := hs h0
   have e : wasOf g ev L L.length = s := by unfold wasOf; rw [if_neg h0, he]
   rw [e]
   refine W_cond ?_
   simp only [WB, execE, unE, args0, reduceIte, Nat.reduceEqDiff, Nat.reduceAdd, Nat.reduceLeDiff, WC, c1]
   repeat (first
    | ((first | refine W_op rfl rfl ?_ | (refine W_opgT rfl rfl ?h ?_; case h => simp only [WG, reduceIte, Nat.reduceEqDiff]; done)); simp only [WB, execE, unE, args0, reduceIte, Nat.reduceEqDiff, Nat.reduceAdd, Nat.reduceLeDiff, WO, fillX, splice, Wo_some])
    | (refine W_opgF rfl rfl ?h ?_; case h => simp only [WG, reduceIte, Nat.reduceEqDiff]; done)
    | (refine W_opgU rfl ?h ?_; case h => simp only [upd_at, reduceIte, Nat.reduceEqDiff]; done) | (refine W_callN rfl ?h ?_; case h => simp only [WG, reduceIte, Nat.reduceEqDiff]; done) | simp only [WS] | refine W_regd0 ?_ | refine W_regd ?_)
   refine W_j (by repeat (first | exact hg | exact args0_un (Nat.le_of_ble_eq_true rfl) | refine upd_un ?_ rfl)) ?_
   refine ⟨cs, ?_, ?_, ?_, ?_, gA2, Arr.keep0 hC kB', Keep.refl _ _, dB'⟩
   ·skip
    simp only [WT, reduceIte, Nat.reduceEqDiff, args0]
   ·skip
    simp only [WT, reduceIte, Nat.reduceEqDiff, args0]
   ·skip
    simp only [WT, reduceIte, Nat.reduceEqDiff, args0]
   ·skip
    simp only [WT, reduceIte, Nat.reduceEqDiff, args0]
 rintro gg m2 ⟨cw, q0, q1, q5, q6, bw, hCw, k2, d2⟩ hg
 have n12 := k2.next
 have kk2 : Keep m m2 [] := kB'.trans k2 (fun z hz => .inr (by have := List.mem_singleton.1 hz; omega))
 have gB2 := k2.at nB (by simp; omega) gB
 repeat (first | simp only [WS] | refine W_regd0 ?_ | refine W_regd ?_)
 refine W_op rfl rfl ?_
 simp only [WB, execE, unE, args0, reduceIte, Nat.reduceEqDiff, Nat.reduceAdd, Nat.reduceLeDiff, WO, fillX, splice, Wo_some]
 repeat (first | rw [push_no] | rw [push_yes] | rw [W_onil])
 obtain ⟨mC, hmC, kC, _, gC, dC, _, nC⟩ := mk_new m2 [.i .i64 0, .i .i64 0, .i .i64 0, .i .i64 0, .i .i64 0, .i .i64 0, .i .i64 0, .sl none 0 0 true] true ⟨8, some 35⟩ 8 rfl
 rw [← hmC]
 clear hmC
 have kk3 : Keep m mC [] := kk2.trans kC (by simp)
 have bw2 := kC.at (by omega) (by simp) bw
 have gr2 := kk3.at (by omega) (by simp) hjr
 have brd : rd mC m.next 0 8 = some (stS (wasOf g ev L L.length) cw) := by simp [rd, bw2, stS]
 repeat (first
  | ((first | refine W_op rfl rfl ?_ | (refine W_opgT rfl rfl ?h ?_; case h => simp only [WG, reduceIte, Nat.reduceEqDiff]; done)); simp only [WB, execE, unE, args0, reduceIte, Nat.reduceEqDiff, Nat.reduceAdd, Nat.reduceLeDiff, q0, q5, brd, gr2, WO, fillX, splice, Wo_some])
  | (refine W_opgF rfl rfl ?h ?_; case h => simp only [WG, reduceIte, Nat.reduceEqDiff]; done)
  | (refine W_opgU rfl ?h ?_; case h => simp only [upd_at, reduceIte, Nat.reduceEqDiff]; done) | (refine W_callN rfl ?h ?_; case h => simp only [WG, reduceIte, Nat.reduceEqDiff]; done) | simp only [WS] | refine W_regd0 ?_ | refine W_regd ?_)
 refine W_callA rfl ?hargs (call36 (was := wasOf g ev L L.length) (cw := cw) (b := b) (a := a) (Arr.keep0 hCw kC) hbase (hA.keep0 kk3) hl ha) ?_
 case hargs => simp only [WB, execE, unE, args0, reduceIte, Nat.reduceEqDiff, Nat.reduceAdd, Nat.reduceLeDiff] <;> rfl
 rintro v m3 ⟨⟨cr, rfl, hF⟩, k3⟩ hs3
 have n3 := k3.next
 have gC3 := k3.at nC (by simp) gC
 have gB3 := (kC.trans k3 (by simp) : Keep m2 m3 []).at (by omega) (by simp) gB2
 have kk5 : Keep m m3 [] := kk3.trans k3 (by simp)
 have d3 : m3.ds = [] := hs3.ds.trans (dC.trans d2)
 have orr : cr.one = true := by
  by_cases he : (dread (wasOf g ev L L.length) b a).2.2 = 0
  ·rw [if_pos he] at hF; exact Arr.one hF.arr
  ·rw [if_neg he] at hF; rw [hF]; rfl
 have hq2 : a + (dread (wasOf g ev L L.length) b a).2.1 ≤ b.length := by
  by_cases he : (dread (wasOf g ev L L.length) b a).2.2 = 0
  ·exact (dread_ok ha he).2
  ·rw [dread_no he]; omega
 have hbadR : badR b g ev L a = decide ((dread (wasOf g ev L L.length) b a).2.2 ≠ 0 ∨ 16777216 < (tbn g ev L L.length).length + (denc (wasOf g ev L L.length) (dread (wasOf g ev L L.length) b a).1).length) := rfl
 have hrt : (dread (wasOf g ev L L.length) b a).2.2 = 0 → (dread (wasOf g ev L L.length) b a).1.rt g := fun he => by
  have := (dread_ok (was := wasOf g ev L L.length) ha he).1
  rwa [hgrp] at this
 generalize hq : dread (wasOf g ev L L.length) b a = q at *
 obtain ⟨s2, dn, er⟩ := q
 simp only at hF hq2 hbadR hrt ⊢
 repeat (first
  | ((first | refine W_opS rfl rfl rfl ?_ | (refine W_opgT rfl rfl ?h ?_; case h => simp only [WG, reduceIte, Nat.reduceEqDiff]; done)); simp only [WB, execE, unE, args0, reduceIte, Nat.reduceEqDiff, Nat.reduceAdd, Nat.reduceLeDiff, stS, WO, fillX, splice, Wo_some])
  | (refine W_opgF rfl rfl ?h ?_; case h => simp only [WG, reduceIte, Nat.reduceEqDiff]; done)
  | (refine W_opgU rfl ?h ?_; case h => simp only [upd_at, reduceIte, Nat.reduceEqDiff]; done) | (refine W_callN rfl ?h ?_; case h => simp only [WG, reduceIte, Nat.reduceEqDiff]; done) | simp only [WS] | refine W_regd0 ?_ | refine W_regd ?_)
 repeat (first | simp only [WS] | refine W_regd0 ?_ | refine W_regd ?_)
 refine W_op rfl rfl ?_
 simp only [WB, execE, unE, args0, reduceIte, Nat.reduceEqDiff, Nat.reduceAdd, Nat.reduceLeDiff, gC3, orr, WO, fillX, splice, Wo_some]
 repeat (first | rw [push_no] | rw [push_yes] | rw [W_onil])
 obtain ⟨m4, hm4⟩ : ∃ m4 : AMem, m4 = m3.put m2.next (some (.cells [.i .i64 s2.kd, .i .i64 s2.nd, .i .i64 s2.ph, .i .i64 s2.pos, .i .i64 s2.st, .i .i64 s2.dp, .i .i64 s2.og, cr] true ⟨8, some 35⟩)) := ⟨_, rfl⟩
 have k34 : Keep m3 m4 [m2.next] := by rw [hm4]; exact Keep.put _ _ _
 have kk4 : Keep m m4 [] := kk5.trans k34 (fun z hz => .inr (by have := List.mem_singleton.1 hz; omega))
 have g4 : rd m4 m2.next 0 8 = some (stS s2 cr) := by simp [hm4, rd, AMem.get_put, stS]
 have gB4 := k34.at (by omega) (by simp; omega) gB3
 have d4 : m4.ds = [] := by rw [hm4]; exact d3
 have nn4 : m4.next = m3.next := by rw [hm4]; rfl
 have gr4 := kk4.at (by omega) (by simp) hjr
 rw [← hm4]
 clear hm4
 have hwa : IntKind.i64.wrap ((a : Int) + (dn : Int)) = ((a + dn : Nat) : Int) := by rw [wr_i64 (by omega) (by omega)]; omega
 repeat (first
  | ((first | refine W_opS rfl rfl rfl ?_ | (refine W_opgT rfl rfl ?h ?_; case h => simp only [WG, reduceIte, Nat.reduceEqDiff]; done)); simp only [WB, execE, unE, args0, reduceIte, Nat.reduceEqDiff, Nat.reduceAdd, Nat.reduceLeDiff, q0, gr4, hwa, binE, isShift, intBin, WO, fillX, splice, Wo_some])
  | (refine W_opgF rfl rfl ?h ?_; case h => simp only [WG, reduceIte, Nat.reduceEqDiff]; done)
  | (refine W_opgU rfl ?h ?_; case h => simp only [upd_at, reduceIte, Nat.reduceEqDiff]; done) | (refine W_callN rfl ?h ?_; case h => simp only [WG, reduceIte, Nat.reduceEqDiff]; done) | simp only [WS] | refine W_regd0 ?_ | refine W_regd ?_)
 repeat (first | simp only [WS] | refine W_regd0 ?_ | refine W_regd ?_)
 refine W_op rfl rfl ?_
 simp only [WB, execE, unE, args0, reduceIte, Nat.reduceEqDiff, Nat.reduceAdd, Nat.reduceLeDiff, q0, gr4, WO, fillX, splice, Wo_some]
 repeat (first | rw [push_no] | rw [push_yes] | rw [W_onil])
 obtain ⟨m5, hm5⟩ : ∃ m5 : AMem, m5 = m4.put jr (some (.cells [bv, .i .i64 ((a + dn : Nat) : Int), .b false] true (3 : Nat))) := ⟨_, rfl⟩
 have k45 : Keep m4 m5 [jr] := by rw [hm5]; exact Keep.put _ _ _
 have g5 := rd_keep g4 k45 (by omega) (by simp; omega)
 have gB5 := k45.at (by omega) (by simp; omega) gB4
 have gr5 : m5.get jr = some (.cells [bv, .i .i64 ((a + dn : Nat) : Int), .b false] true (3 : Nat)) := by rw [hm5, AMem.get_put, if_pos rfl]
 have d5 : m5.ds = [] := by rw [hm5]; exact d4
 have nn5 : m5.next = m4.next := by rw [hm5]; rfl
 have k0' : Keep (m.put jr (some (.cells [bv, .i .i64 ((a + dn : Nat) : Int), .b false] true (3 : Nat)))) m5 [] := by
  refine ⟨by show m.next ≤ m5.next; omega, fun i hi _ => ?_⟩
  have hi' : i < m.next := hi
  rw [hm5, AMem.get_put, AMem.get_put]
  split
  ·rfl
  ·exact kk4.get i hi' (by simp)
 have hT0 : TapeAt (m.put jr (some (.cells [bv, .i .i64 ((a + dn : Nat) : Int), .b false] true (3 : Nat)))) n0 jt g ev L := hT.keep (Keep.put _ _ _) (by intro z hz; have := List.mem_singleton.1 hz; subst this; exact ⟨hjn, hjt⟩)
 rw [← hm5]
 clear hm5
 have kk6 : Keep m m5 [jr] := (kk4.mono (by simp)).trans k45 (fun z hz => .inl hz)
 by_cases he : er = 0
 case neg =>
  have c1 : (er != 0) = true := by simpa using he
  have hbad : badR b g ev L a = true := by rw [hbadR]; exact decide_eq_true (.inl he)
  have hdn : dn = 0 := by have := dread_no (was := wasOf g ev L L.length) (b := b) (a := a) (by rw [hq]; exact he); rw [hq] at this; exact this
  rw [hbad]
  repeat (first
   | ((first | refine W_opS rfl rfl rfl ?_ | (refine W_opgT rfl rfl ?h ?_; case h => simp only [WG, reduceIte, Nat.reduceEqDiff]; done)); simp only [WB, execE, unE, args0, reduceIte, Nat.reduceEqDiff, Nat.reduceAdd, Nat.reduceLeDiff, q0, c1, binE, isShift, intBin, WO, fillX, splice, Wo_some])
   | (refine W_opgF rfl rfl ?h ?_; case h => simp only [WG, reduceIte, Nat.reduceEqDiff]; done)
   | (refine W_opgU rfl ?h ?_; case h => simp only [upd_at, reduceIte, Nat.reduceEqDiff]; done) | (refine W_callN rfl ?h ?_; case h => simp only [WG, reduceIte, Nat.reduceEqDiff]; done) | simp only [WS] | refine W_regd0 ?_ | refine W_regd ?_)
  repeat (first | simp only [WS] | refine W_regd0 ?_ | refine W_regd ?_)
  refine W_op rfl rfl ?_
  simp only [WB, execE, unE, args0, reduceIte, Nat.reduceEqDiff, Nat.reduceAdd, Nat.reduceLeDiff, q0, gr5, WO, fillX, splice, Wo_some]
  repeat (first | rw [push_no] | rw [push_yes] | rw [W_onil])
  obtain ⟨m6, hm6⟩ : ∃ m6 : AMem, m6 = m5.put jr (some (.cells [bv, .i .i64 ((a + dn : Nat) : Int), .b true] true (3 : Nat))) := ⟨_, rfl⟩
  have k56 : Keep m5 m6 [jr] := by rw [hm6]; exact Keep.put _ _ _
  have g6 := rd_keep g5 k56 (by omega) (by simp; omega)
  have gB6 := k56.at (by omega) (by simp; omega) gB5
  have gr6 : m6.get jr = some (.cells [bv, .i .i64 ((a + dn : Nat) : Int), .b true] true (3 : Nat)) := by rw [hm6, AMem.get_put, if_pos rfl]
  have d6 : m6.ds = [] := by rw [hm6]; exact d5
  rw [← hm6]
  clear hm6
  repeat (first
   | ((first | refine W_opS rfl rfl rfl ?_ | (refine W_opgT rfl rfl ?h ?_; case h => simp only [WG, reduceIte, Nat.reduceEqDiff]; done)); simp only [WB, execE, unE, args0, reduceIte, Nat.reduceEqDiff, Nat.reduceAdd, Nat.reduceLeDiff, g6, WO, fillX, splice, Wo_some])
   | (refine W_opgF rfl rfl ?h ?_; case h => simp only [WG, reduceIte, Nat.reduceEqDiff]; done)
   | (refine W_opgU rfl ?h ?_; case h => simp only [upd_at, reduceIte, Nat.reduceEqDiff]; done) | (refine W_callN rfl ?h ?_; case h => simp only [WG, reduceIte, Nat.reduceEqDiff]; done) | simp only [WS] | refine W_regd0 ?_ | refine W_regd ?_)
  simp only [stS]
  repeat (first | simp only [WS] | refine W_regd0 ?_ | refine W_regd ?_)
  refine W_op rfl rfl ?_
  simp only [WB, execE, unE, args0, reduceIte, Nat.reduceEqDiff, Nat.reduceAdd, Nat.reduceLeDiff, q6, gB6, orr, WO, fillX, splice, Wo_some]
  repeat (first | rw [push_no] | rw [push_yes] | rw [W_onil])
  repeat (first
   | ((first | refine W_op rfl rfl ?_ | (refine W_opgT rfl rfl ?h ?_; case h => simp only [WG, reduceIte, Nat.reduceEqDiff]; done)); simp only [WB, execE, unE, args0, reduceIte, Nat.reduceEqDiff, Nat.reduceAdd, Nat.reduceLeDiff, WO, fillX, splice, Wo_some])
   | (refine W_opgF rfl rfl ?h ?_; case h => simp only [WG, reduceIte, Nat.reduceEqDiff]; done)
   | (refine W_opgU rfl ?h ?_; case h => simp only [upd_at, reduceIte, Nat.reduceEqDiff]; done) | (refine W_callN rfl ?h ?_; case h => simp only [WG, reduceIte, Nat.reduceEqDiff]; done) | simp only [WS] | refine W_regd0 ?_ | refine W_regd ?_)
  refine W_getRet (by repeat (first | exact hg | exact args0_un (Nat.le_of_ble_eq_true rfl) | refine upd_un ?_ rfl)) ?_
  have k67 : Keep m6 (m6.put mA.next (some (.cells [.i .i64 s2.kd, .i .i64 s2.nd, .i .i64 s2.ph, .i .i64 s2.pos, .i .i64 s2.st, .i .i64 s2.dp, .i .i64 s2.og, cr] true ⟨8, some 35⟩))) [mA.next] := Keep.put _ _ _
  refine ⟨d6, [.agg (stS s2 cr)], ?_, ⟨cr, rfl, orr, nofun⟩, ?_, nofun, [jr], ?_, by simp⟩
  ·simp only [resX, execE, X.at, upd_at, reduceIte, Nat.reduceEqDiff, q6, rd, AMem.get_put]
   rfl
  ·rw [AMem.get_out, AMem.get_put, if_neg (by omega)]; exact gr6
  ·exact ((kk6.trans k56 (fun z hz => .inl hz)).trans k67 (fun z hz => .inr (by have := List.mem_singleton.1 hz; omega))).out
 have c1 : (er != 0) = false := by simpa using he
 rw [if_pos he] at hF
 have hFA : FrI (m.put jr (some (.cells [bv, .i .i64 ((a + dn : Nat) : Int), .b false] true (3 : Nat)))) m5 cr s2.caps := by
  obtain ⟨ty, oj, hr, ho⟩ := hF
  exact ⟨ty, oj, (hr.keep k34 (fun z hz hm => by have := ho z hz; have := List.mem_singleton.1 hm; omega)).keep k45 (fun z hz hm => by have := ho z hz; have := List.mem_singleton.1 hm; omega), fun z hz => by have := ho z hz; show m.next ≤ z; have := kk3.next; omega⟩
 repeat (first
  | ((first | refine W_op rfl rfl ?_ | (refine W_opgT rfl rfl ?h ?_; case h => simp only [WG, reduceIte, Nat.reduceEqDiff]; done)); simp only [WB, execE, unE, args0, reduceIte, Nat.reduceEqDiff, Nat.reduceAdd, Nat.reduceLeDiff, q1, c1, g5, binE, isShift, intBin, WO, fillX, splice, Wo_some])
  | (refine W_opgF rfl rfl ?h ?_; case h => simp only [WG, reduceIte, Nat.reduceEqDiff]; done)
  | (refine W_opgU rfl ?h ?_; case h => simp only [upd_at, reduceIte, Nat.reduceEqDiff]; done) | (refine W_callN rfl ?h ?_; case h => simp only [WG, reduceIte, Nat.reduceEqDiff]; done) | simp only [WS] | refine W_regd0 ?_ | refine W_regd ?_)
 refine W_callK rfl ?hg ?hargs (call37 (s := s2) (cs := cr) hT0 k0' hn0 hg9 hev hok.rt hfit hFA (hrt he)) ?_
 case hg => (simp only [WB, execE, unE, args0, reduceIte, Nat.reduceEqDiff, Nat.reduceAdd, Nat.reduceLeDiff, WO, fillX, splice]; done)
 case hargs => simp only [WB, execE, unE, args0, reduceIte, Nat.reduceEqDiff, Nat.reduceAdd, Nat.reduceLeDiff, WO, fillX, splice] <;> rfl
 rintro v m6 ⟨hv, fp, k56, hfp⟩ hs6
 have hfp' : ∀ x ∈ fp, x = jt ∨ (n0 ≤ x ∧ x < m.next) := hfp
 have n6 := k56.next
 have hnj : jr ∉ fp := fun hm => by rcases hfp' _ hm with h | h <;> omega
 have hjtm : jt < m.next := by
  obtain ⟨_, _, _, _, _, _, _, _, _, h⟩ := hT
  exact h.hi
 have hnf : ∀ x, m.next ≤ x → x ∉ fp := fun x hx hm => by rcases hfp' _ hm with h | h <;> omega
 have g6 := rd_keep g5 k56 (by omega) (hnf _ (by omega))
 have gB6 := k56.at (by omega) (hnf _ (by omega)) gB5
 have gr6 := k56.at (by omega) hnj gr5
 have d6 : m6.ds = [] := hs6.ds.trans d5
 have hF6 : ∃ ty oj, RowE m6 1 ty cr oj s2.caps.length (ints s2.caps) ∧ ∀ z, oj = some z → m.next ≤ z ∧ mC.next ≤ z := by
  obtain ⟨ty, oj, hr, ho⟩ := hF
  have := kk3.next
  exact ⟨ty, oj, ((hr.keep k34 (fun z hz hm => by have := ho z hz; have := List.mem_singleton.1 hm; omega)).keep k45 (fun z hz hm => by have := ho z hz; have := List.mem_singleton.1 hm; omega)).keep k56 (fun z hz => hnf z (by have := ho z hz; omega)), fun z hz => by have := ho z hz; omega⟩
 obtain ⟨bd, hbd, hvb, hTn⟩ : ∃ bd, badR b g ev L a = bd ∧ (∃ c : Int, v = .i .i64 c ∧ (c != 0) = bd) ∧ (bd = false → ∀ m'' fq, Keep m6 m'' fq → (∀ x ∈ fq, (x < n0 ∧ x ≠ jt) ∨ (m.next ≤ x ∧ x < m5.next)) → TapeAt m'' n0 jt g ev (L ++ [s2])) := by
  by_cases hf : 16777216 < (tbn g ev L L.length).length + (denc (wasOf g ev L L.length) s2).length
  ·rw [if_pos hf] at hv
   exact ⟨true, by rw [hbadR]; exact decide_eq_true (.inr hf), ⟨13, hv, rfl⟩, nofun⟩
  ·rw [if_neg hf] at hv
   exact ⟨false, by rw [hbadR]; exact decide_eq_false (fun h => h.elim (fun h => h he) hf), ⟨0, hv.1, rfl⟩, fun _ => hv.2⟩
 obtain ⟨c, rfl, hc⟩ := hvb
 rw [hbd]
 repeat (first
  | ((first | refine W_opS rfl rfl rfl ?_ | (refine W_opgT rfl rfl ?h ?_; case h => simp only [WG, reduceIte, Nat.reduceEqDiff]; done)); simp only [WB, execE, unE, args0, reduceIte, Nat.reduceEqDiff, Nat.reduceAdd, Nat.reduceLeDiff, q0, hc, binE, isShift, intBin, WO, fillX, splice, Wo_some])
  | (refine W_opgF rfl rfl ?h ?_; case h => simp only [WG, reduceIte, Nat.reduceEqDiff]; done)
  | (refine W_opgU rfl ?h ?_; case h => simp only [upd_at, reduceIte, Nat.reduceEqDiff]; done) | (refine W_callN rfl ?h ?_; case h => simp only [WG, reduceIte, Nat.reduceEqDiff]; done) | simp only [WS] | refine W_regd0 ?_ | refine W_regd ?_)
 repeat (first | simp only [WS] | refine W_regd0 ?_ | refine W_regd ?_)
 refine W_op rfl rfl ?_
 simp only [WB, execE, unE, args0, reduceIte, Nat.reduceEqDiff, Nat.reduceAdd, Nat.reduceLeDiff, q0, gr6, WO, fillX, splice, Wo_some]
 repeat (first | rw [push_no] | rw [push_yes] | rw [W_onil])
 obtain ⟨m7, hm7⟩ : ∃ m7 : AMem, m7 = m6.put jr (some (.cells [bv, .i .i64 ((a + dn : Nat) : Int), .b bd] true (3 : Nat))) := ⟨_, rfl⟩
 have k67 : Keep m6 m7 [jr] := by rw [hm7]; exact Keep.put _ _ _
 have g7 := rd_keep g6 k67 (by omega) (by simp; omega)
 have gB7 := k67.at (by omega) (by simp; omega) gB6
 have gr7 : m7.get jr = some (.cells [bv, .i .i64 ((a + dn : Nat) : Int), .b bd] true (3 : Nat)) := by rw [hm7, AMem.get_put, if_pos rfl]
 have d7 : m7.ds = [] := by rw [hm7]; exact d6
 have nn7 : m7.next = m6.next := by rw [hm7]; rfl
 rw [← hm7]
 clear hm7
 repeat (first
  | ((first | refine W_opS rfl rfl rfl ?_ | (refine W_opgT rfl rfl ?h ?_; case h => simp only [WG, reduceIte, Nat.reduceEqDiff]; done)); simp only [WB, execE, unE, args0, reduceIte, Nat.reduceEqDiff, Nat.reduceAdd, Nat.reduceLeDiff, g7, WO, fillX, splice, Wo_some])
  | (refine W_opgF rfl rfl ?h ?_; case h => simp only [WG, reduceIte, Nat.reduceEqDiff]; done)
  | (refine W_opgU rfl ?h ?_; case h => simp only [upd_at, reduceIte, Nat.reduceEqDiff]; done) | (refine W_callN rfl ?h ?_; case h => simp only [WG, reduceIte, Nat.reduceEqDiff]; done) | simp only [WS] | refine W_regd0 ?_ | refine W_regd ?_)
 simp only [stS]
 repeat (first | simp only [WS] | refine W_regd0 ?_ | refine W_regd ?_)
 refine W_op rfl rfl ?_
 simp only [WB, execE, unE, args0, reduceIte, Nat.reduceEqDiff, Nat.reduceAdd, Nat.reduceLeDiff, q6, gB7, orr, WO, fillX, splice, Wo_some]
 repeat (first | rw [push_no] | rw [push_yes] | rw [W_onil])
 repeat (first
  | ((first | refine W_op rfl rfl ?_ | (refine W_opgT rfl rfl ?h ?_; case h => simp only [WG, reduceIte, Nat.reduceEqDiff]; done)); simp only [WB, execE, unE, args0, reduceIte, Nat.reduceEqDiff, Nat.reduceAdd, Nat.reduceLeDiff, WO, fillX, splice, Wo_some])
  | (refine W_opgF rfl rfl ?h ?_; case h => simp only [WG, reduceIte, Nat.reduceEqDiff]; done)
  | (refine W_opgU rfl ?h ?_; case h => simp only [upd_at, reduceIte, Nat.reduceEqDiff]; done) | (refine W_callN rfl ?h ?_; case h => simp only [WG, reduceIte, Nat.reduceEqDiff]; done) | simp only [WS] | refine W_regd0 ?_ | refine W_regd ?_)
 refine W_getRet (by repeat (first | exact hg | exact args0_un (Nat.le_of_ble_eq_true rfl) | refine upd_un ?_ rfl)) ?_
 have k78 : Keep m7 (m7.put mA.next (some (.cells [.i .i64 s2.kd, .i .i64 s2.nd, .i .i64 s2.ph, .i .i64 s2.pos, .i .i64 s2.st, .i .i64 s2.dp, .i .i64 s2.og, cr] true ⟨8, some 35⟩))) [mA.next] := Keep.put _ _ _
 refine ⟨d7, [.agg (stS s2 cr)], ?_, ⟨cr, rfl, orr, fun _ => ?_⟩, ?_, fun hb => ?_, jr :: fp, ?_, fun x hx => ?_⟩
 ·simp only [resX, execE, X.at, upd_at, reduceIte, Nat.reduceEqDiff, q6, rd, AMem.get_put]
  rfl
 ·obtain ⟨ty, oj, hr, ho⟩ := hF6
  exact ⟨ty, oj, ((hr.keep k67 (fun z hz hm => by have := ho z hz; have := List.mem_singleton.1 hm; omega)).keep k78 (fun z hz hm => by have := ho z hz; have := List.mem_singleton.1 hm; omega)).keep (Keep.refl _ []).out (by simp), fun z hz => (ho z hz).1⟩
 ·rw [AMem.get_out, AMem.get_put, if_neg (by omega)]; exact gr7
 ·refine hTn hb _ [jr, mA.next] ?_ (fun z hz => ?_)
  ·exact ((k67.mono (fun z hz => .inl (by simp [List.mem_singleton.1 hz]))).trans k78 (fun z hz => .inl (by simp [List.mem_singleton.1 hz]))).out
  ·simp only [List.mem_cons, List.not_mem_nil, or_false] at hz
   rcases hz with rfl | rfl
   ·exact .inl ⟨hjn, hjt⟩
   ·exact .inr ⟨by show m.next ≤ mA.next; omega, by omega⟩
 ·exact (((kk6.mono (by simp)).trans k56 (fun z hz => .inl (by simp [hz]))).trans k67 (fun z hz => .inl (by simp [List.mem_singleton.1 hz]))).trans k78 (fun z hz => .inr (by have := List.mem_singleton.1 hz; omega)) |>.out
 ·rcases List.mem_cons.1 hx with h | h
  ·exact .inl h
  ·rcases hfp' x h with h | h
   ·exact .inr (.inl h)
   ·exact .inr (.inr h.1)
end Go.Proofs.YtfbglgmhhmeoeaaGreatDoor
namespace Go.Proofs.YtfbglgmhhmeoeaaGreatDoor
open Go.Vi
set_option linter.unusedSimpArgs false
set_option linter.unusedVariables false
def OpenOk (m' : AMem) (b : List UInt8) (v : AV) : Prop := (fopen b = none ∧ v = .tup [.p none, .i .i64 11]) ∨ ∃ g ev L jt n0, fopen b = some (g, ev, L) ∧ v = .tup [.p (some (jt, 0)), .i .i64 0] ∧ TapeAt m' n0 jt g ev L
theorem frd_step {b : List UInt8} {g ev n a : Nat} {L : List St} : frd b g ev (n + 1) a L = if badR b g ev L a = true then none else frd b g ev n (a + (dread (wasOf g ev L L.length) b a).2.1) (L ++ [(dread (wasOf g ev L L.length) b a).1]) := by
 simp only [frd, badR, decide_eq_true_eq]
 by_cases h1 : (dread (wasOf g ev L L.length) b a).2.2 ≠ 0
 ·rw [if_pos h1, if_pos (.inl h1)]
 ·rw [if_neg h1]
  by_cases h2 : 16777216 < (tbn g ev L L.length).length + (denc (wasOf g ev L L.length) (dread (wasOf g ev L L.length) b a).1).length
  ·rw [if_pos h2, if_pos (.inr h2)]
  ·rw [if_neg h2, if_neg (fun h => h.elim h1 h2)]
theorem tok_snoc {b : List UInt8} {g ev a : Nat} {L : List St} (hL : TOk g ev L) (ha : a ≤ b.length) (hb : badR b g ev L a = false) : TOk g ev (L ++ [(dread (wasOf g ev L L.length) b a).1]) ∧ a + (dread (wasOf g ev L L.length) b a).2.1 ≤ b.length := by
 have h := of_decide_eq_false hb
 have he : (dread (wasOf g ev L L.length) b a).2.2 = 0 := Decidable.byContradiction fun h1 => h (.inl h1)
 have hf : ¬ 16777216 < (tbn g ev L L.length).length + (denc (wasOf g ev L L.length) (dread (wasOf g ev L L.length) b a).1).length := fun h1 => h (.inr h1)
 obtain ⟨h1, h2⟩ := dread_ok (was := wasOf g ev L L.length) ha he
 obtain ⟨_, hgr⟩ := base_of (ev := ev) hL.hg hL.rt
 rw [hgr] at h1
 refine ⟨⟨hL.hg, hL.hev, fun s hs => ?_, by rw [tbn_snoc, List.length_append]; omega⟩, h2⟩
 rcases List.mem_append.1 hs with h | h
 ·exact hL.rt s h
 ·simp at h; exact h ▸ h1
set_option maxHeartbeats 16000000 in
theorem call5 {m : AMem} {bv : AV} {b : List UInt8} (hA : Arr m 1 bv b.length (cellsOfBytes b)) (hl : b.length ≤ 100000000) :
  Vi.Call T 5 [bv] m (fun v m' => OpenOk m' b v ∧ Keep m m' []) := by
 have hob := hA.one
 have hecb := one_cells hob
 have hlen := hA.lenF
 refine Vi.Call.ofP T5 (Nat.le_of_ble_eq_true rfl) ?_
 unfold v5
 repeat (first | simp only [WS] | refine W_regd0 ?_ | refine W_regd ?_)
 refine W_op rfl rfl ?_
 simp only [WB, execE, unE, args0, reduceIte, Nat.reduceEqDiff, Nat.reduceAdd, Nat.reduceLeDiff, WO, fillX, splice, Wo_some]
 repeat (first | rw [push_no] | rw [push_yes] | rw [W_onil])
 repeat (first | simp only [WS] | refine W_regd0 ?_ | refine W_regd ?_)
 refine W_op rfl rfl ?_
 simp only [WB, execE, unE, args0, reduceIte, Nat.reduceEqDiff, Nat.reduceAdd, Nat.reduceLeDiff, WO, fillX, splice, Wo_some]
 repeat (first | rw [push_no] | rw [push_yes] | rw [W_onil])
 repeat (first | simp only [WS] | refine W_regd0 ?_ | refine W_regd ?_)
 refine W_op rfl rfl ?_
 simp only [WB, execE, unE, args0, reduceIte, Nat.reduceEqDiff, Nat.reduceAdd, Nat.reduceLeDiff, WO, fillX, splice, Wo_some]
 repeat (first | rw [push_no] | rw [push_yes] | rw [W_onil])
 repeat (first | simp only [WS] | refine W_regd0 ?_ | refine W_regd ?_)
 refine W_op rfl rfl ?_
 simp only [WB, execE, unE, args0, reduceIte, Nat.reduceEqDiff, Nat.reduceAdd, Nat.reduceLeDiff, WO, fillX, splice, Wo_some]
 repeat (first | rw [push_no] | rw [push_yes] | rw [W_onil])
 obtain ⟨mB, hmB, kB, _, gB, dB, _, nB⟩ := mk_new m.inn [.i .u8 67, .i .u8 76, .i .u8 87, .i .u8 49] true (1 : Nat) 4 rfl
 have kB' : Keep m mB [] := kB.ofInn
 have gB' : mB.get m.next = some (.cells [.i .u8 67, .i .u8 76, .i .u8 87, .i .u8 49] true (1 : Nat)) := gB
 have nB' : m.next < mB.next := nB
 have dB' : mB.ds = [] := dB
 rw [← hmB]
 clear hmB gB nB kB dB
 have hPv : Arr mB 1 (.sl (some (m.next, 0)) 4 4 true) ([67, 76, 87, 49] : List UInt8).length (cellsOfBytes [67, 76, 87, 49]) := ⟨rfl, .inr ⟨m.next, 0, 4, true, _, true, _, rfl, Nat.le_refl _, nB', gB', Nat.le_refl _, rfl⟩⟩
 repeat (first
  | (refine W_op rfl rfl ?_; simp only [WB, execE, unE, args0, reduceIte, Nat.reduceEqDiff, Nat.reduceAdd, Nat.reduceLeDiff, gB', WO, fillX, splice, Wo_some]) | simp only [WS] | refine W_regd0 ?_ | refine W_regd ?_)
 refine W_callA rfl ?hargs (call13 (hA.keep0 kB') hPv (by simp)) ?_
 case hargs => simp only [WB, execE, unE, args0, reduceIte, Nat.reduceEqDiff, Nat.reduceAdd, Nat.reduceLeDiff] <;> rfl
 rintro v m1 ⟨rfl, rfl⟩ -
 by_cases hp : b.take 4 = [67, 76, 87, 49]
 case neg =>
  have e1 : decide (b.take ([67, 76, 87, 49] : List UInt8).length = [67, 76, 87, 49]) = false := decide_eq_false hp
  rw [e1]
  repeat (first
   | (refine W_op rfl rfl ?_; simp only [WB, execE, unE, args0, reduceIte, Nat.reduceEqDiff, Nat.reduceAdd, Nat.reduceLeDiff, WO, fillX, splice, Wo_some]) | simp only [WS] | refine W_regd0 ?_ | refine W_regd ?_)
  refine W_cond ?_
  simp only [WB, execE, unE, args0, reduceIte, Nat.reduceEqDiff, Nat.reduceAdd, Nat.reduceLeDiff, WC]
  repeat (first
   | (refine W_op rfl rfl ?_; simp only [WB, execE, unE, args0, reduceIte, Nat.reduceEqDiff, Nat.reduceAdd, Nat.reduceLeDiff, WO, fillX, splice, Wo_some]) | simp only [WS] | refine W_regd0 ?_ | refine W_regd ?_)
  refine W_getRet (by repeat (first | exact hg | exact args0_un (Nat.le_of_ble_eq_true rfl) | refine upd_un ?_ rfl)) ?_
  refine ⟨dB', _, rfl, .inl ⟨?_, rfl⟩, kB'.out⟩
  unfold fopen; rw [if_pos hp]
 have e1 : decide (b.take ([67, 76, 87, 49] : List UInt8).length = [67, 76, 87, 49]) = true := decide_eq_true hp
 rw [e1]
 have hb4 : 4 ≤ b.length := by
  have := congrArg List.length hp
  simp only [List.length_take, List.length_cons, List.length_nil] at this
  omega
 repeat (first
  | (refine W_op rfl rfl ?_; simp only [WB, execE, unE, args0, reduceIte, Nat.reduceEqDiff, Nat.reduceAdd, Nat.reduceLeDiff, WO, fillX, splice, Wo_some]) | simp only [WS] | refine W_regd0 ?_ | refine W_regd ?_)
 refine W_cond ?_
 simp only [WB, execE, unE, args0, reduceIte, Nat.reduceEqDiff, Nat.reduceAdd, Nat.reduceLeDiff, WC]
 repeat (first | simp only [WS] | refine W_regd0 ?_ | refine W_regd ?_)
 refine W_op rfl rfl ?_
 simp only [WB, execE, unE, args0, reduceIte, Nat.reduceEqDiff, Nat.reduceAdd, Nat.reduceLeDiff, WO, fillX, splice, Wo_some]
 repeat (first | rw [push_no] | rw [push_yes] | rw [W_onil])
 repeat (first | simp only [WS] | refine W_regd0 ?_ | refine W_regd ?_)
 refine W_op rfl rfl ?_
 simp only [WB, execE, unE, args0, reduceIte, Nat.reduceEqDiff, Nat.reduceAdd, Nat.reduceLeDiff, hob, hecb, WO, fillX, splice, Wo_some]
 repeat (first | rw [push_no] | rw [push_yes] | rw [W_onil])
 repeat (first | simp only [WS] | refine W_regd0 ?_ | refine W_regd ?_)
 refine W_op rfl rfl ?_
 simp only [WB, execE, unE, args0, reduceIte, Nat.reduceEqDiff, Nat.reduceAdd, Nat.reduceLeDiff, hob, WO, fillX, splice, Wo_some]
 repeat (first | rw [push_no] | rw [push_yes] | rw [W_onil])
 obtain ⟨mR, hmR, kR, _, gR, dR, _, nR⟩ := mk_new m1 [bv, .i .i64 4, .b false] true (3 : Nat) 3 rfl
 rw [← hmR]
 clear hmR
 have kkR : Keep m mR [] := kB'.trans kR (by simp)
 have dR' : mR.ds = [] := dR.trans dB'
 have hoff : Off bv m1.next := off_new hA (by omega)
 have ha1 := fnum_at (b := b) (r := (4, false)) (most := 99) hb4
 have ha2 := fnum_at (b := b) (r := (fnum b (4, false) 99).2) (most := 1024) ha1
 have ha3 := fnum_at (b := b) (r := (fnum b (fnum b (4, false) 99).2 1024).2) (most := 16777216) ha2
 have hg9 := fnum_le b (4, false) 99
 have he10 := fnum_le b (fnum b (4, false) 99).2 1024
 have hn16 := fnum_le b (fnum b (fnum b (4, false) 99).2 1024).2 16777216
 repeat (first
  | (refine W_op rfl rfl ?_; simp only [WB, execE, unE, args0, reduceIte, Nat.reduceEqDiff, Nat.reduceAdd, Nat.reduceLeDiff, WO, fillX, splice, Wo_some]) | simp only [WS] | refine W_regd0 ?_ | refine W_regd ?_)
 refine W_callA rfl ?hargs (call14 (r := (4, false)) (most := 99) gR (hA.keep0 kkR) hl hb4 (by omega)) ?_
 case hargs => simp only [WB, execE, unE, args0, reduceIte, Nat.reduceEqDiff, Nat.reduceAdd, Nat.reduceLeDiff] <;> rfl
 rintro v m2 ⟨rfl, g2, k2, n2⟩ hs2
 have hA2 := Arr.off (hA.keep0 kkR) k2 hoff
 repeat (first
  | (refine W_op rfl rfl ?_; simp only [WB, execE, unE, args0, reduceIte, Nat.reduceEqDiff, Nat.reduceAdd, Nat.reduceLeDiff, WO, fillX, splice, Wo_some]) | simp only [WS] | refine W_regd0 ?_ | refine W_regd ?_)
 refine W_callA rfl ?hargs (call14 (most := 1024) g2 hA2 hl ha1 (by omega)) ?_
 case hargs => simp only [WB, execE, unE, args0, reduceIte, Nat.reduceEqDiff, Nat.reduceAdd, Nat.reduceLeDiff] <;> rfl
 rintro v m3 ⟨rfl, g3, k3, n3⟩ hs3
 have hA3 := Arr.off hA2 k3 hoff
 repeat (first
  | (refine W_op rfl rfl ?_; simp only [WB, execE, unE, args0, reduceIte, Nat.reduceEqDiff, Nat.reduceAdd, Nat.reduceLeDiff, WO, fillX, splice, Wo_some]) | simp only [WS] | refine W_regd0 ?_ | refine W_regd ?_)
 refine W_callA rfl ?hargs (call14 (most := 16777216) g3 hA3 hl ha2 (by omega)) ?_
 case hargs => simp only [WB, execE, unE, args0, reduceIte, Nat.reduceEqDiff, Nat.reduceAdd, Nat.reduceLeDiff] <;> rfl
 rintro v m4 ⟨rfl, g4, k4, n4⟩ hs4
 have k24 : Keep m m4 [] := ((kkR.trans k2 (fun z hz => .inr (by have := List.mem_singleton.1 hz; omega))).trans k3 (fun z hz => .inr (by have := List.mem_singleton.1 hz; omega))).trans k4 (fun z hz => .inr (by have := List.mem_singleton.1 hz; omega))
 have d4 : m4.ds = [] := hs4.ds.trans (hs3.ds.trans (hs2.ds.trans dR'))
 have hfo : fopen b = (if (fnum b (fnum b (fnum b (4, false) 99).2 1024).2 16777216).2.2 = true then none else if (fnum b (fnum b (4, false) 99).2 1024).1 < 1 then none else match frd b (fnum b (4, false) 99).1 (fnum b (fnum b (4, false) 99).2 1024).1 (fnum b (fnum b (fnum b (4, false) 99).2 1024).2 16777216).1 (fnum b (fnum b (fnum b (4, false) 99).2 1024).2 16777216).2.1 [] with
   | some (a, L) => if a = b.length then some ((fnum b (4, false) 99).1, (fnum b (fnum b (4, false) 99).2 1024).1, L) else none
   | none => none) := by
  unfold fopen; rw [if_neg (by simpa using hp)]; rfl
 generalize (fnum b (4, false) 99).1 = g at *
 generalize hq3 : fnum b (fnum b (fnum b (4, false) 99).2 1024).2 16777216 = q3 at *
 generalize (fnum b (fnum b (4, false) 99).2 1024).1 = ev at *
 obtain ⟨n, a0, bd⟩ := q3
 simp only at g4 hn16 ha3 hfo
 repeat (first
  | (refine W_op rfl rfl ?_; simp only [WB, execE, unE, args0, reduceIte, Nat.reduceEqDiff, Nat.reduceAdd, Nat.reduceLeDiff, g4, WO, fillX, splice, Wo_some]) | simp only [WS] | refine W_regd0 ?_ | refine W_regd ?_)
 cases bd with
 | true =>
   refine W_cond ?_
   simp only [WB, execE, unE, args0, reduceIte, Nat.reduceEqDiff, Nat.reduceAdd, Nat.reduceLeDiff, WC]
   repeat (first
    | (refine W_op rfl rfl ?_; simp only [WB, execE, unE, args0, reduceIte, Nat.reduceEqDiff, Nat.reduceAdd, Nat.reduceLeDiff, WO, fillX, splice, Wo_some]) | simp only [WS] | refine W_regd0 ?_ | refine W_regd ?_)
   refine W_getRet (by repeat (first | exact hg | exact args0_un (Nat.le_of_ble_eq_true rfl) | refine upd_un ?_ rfl)) ?_
   refine ⟨d4, _, rfl, .inl ⟨?_, rfl⟩, k24.out⟩
   rw [hfo, if_pos rfl]
 | false =>
   refine W_cond ?_
   simp only [WB, execE, unE, args0, reduceIte, Nat.reduceEqDiff, Nat.reduceAdd, Nat.reduceLeDiff, WC]
   repeat (first
    | (refine W_op rfl rfl ?_; simp only [WB, execE, unE, args0, reduceIte, Nat.reduceEqDiff, Nat.reduceAdd, Nat.reduceLeDiff, WO, fillX, splice, Wo_some]) | simp only [WS] | refine W_regd0 ?_ | refine W_regd ?_)
   refine W_callA rfl ?hargs (call15 (g := g) (ev := ev) hg9 he10) ?_
   case hargs => simp only [WB, execE, unE, args0, reduceIte, Nat.reduceEqDiff, Nat.reduceAdd, Nat.reduceLeDiff] <;> rfl
   rintro v m5 ⟨hv, k5⟩ hs5
   have n5 := k5.next
   by_cases hev1 : 1 ≤ ev
   case neg =>
    rw [if_neg hev1] at hv
    subst hv
    repeat (first
     | (refine W_op rfl rfl ?_; simp only [WB, execE, unE, args0, reduceIte, Nat.reduceEqDiff, Nat.reduceAdd, Nat.reduceLeDiff, Int.reduceBNe, binE, isShift, intBin, WO, fillX, splice, Wo_some]) | simp only [WS] | refine W_regd0 ?_ | refine W_regd ?_)
    refine W_cond ?_
    simp only [WB, execE, unE, args0, reduceIte, Nat.reduceEqDiff, Nat.reduceAdd, Nat.reduceLeDiff, WC]
    repeat (first
     | (refine W_op rfl rfl ?_; simp only [WB, execE, unE, args0, reduceIte, Nat.reduceEqDiff, Nat.reduceAdd, Nat.reduceLeDiff, WO, fillX, splice, Wo_some]) | simp only [WS] | refine W_regd0 ?_ | refine W_regd ?_)
    refine W_getRet (by repeat (first | exact hg | exact args0_un (Nat.le_of_ble_eq_true rfl) | refine upd_un ?_ rfl)) ?_
    refine ⟨hs5.ds.trans d4, _, rfl, .inl ⟨?_, rfl⟩, (k24.trans k5 (by simp)).out⟩
    rw [hfo, if_neg (by simp), if_pos (by omega)]
   rw [if_pos hev1] at hv
   obtain ⟨rfl, hT⟩ := hv
   rw [if_neg (by simp), if_neg (by omega)] at hfo
   have hjt4 : m4.next < m5.next := by
    obtain ⟨_, _, _, _, _, _, _, _, _, h⟩ := hT 0
    exact h.hi
   have gr5 := k5.at (by omega) (by simp) g4
   have d5 : m5.ds = [] := hs5.ds.trans d4
   repeat (first
    | (refine W_op rfl rfl ?_; simp only [WB, execE, unE, args0, reduceIte, Nat.reduceEqDiff, Nat.reduceAdd, Nat.reduceLeDiff, Int.reduceBNe, binE, isShift, intBin, WO, fillX, splice, Wo_some]) | simp only [WS] | refine W_regd0 ?_ | refine W_regd ?_)
   refine W_cond ?_
   simp only [WB, execE, unE, args0, reduceIte, Nat.reduceEqDiff, Nat.reduceAdd, Nat.reduceLeDiff, WC]
   repeat (first | simp only [WS] | refine W_regd0 ?_ | refine W_regd ?_)
   refine W_op rfl rfl ?_
   simp only [WB, execE, unE, args0, reduceIte, Nat.reduceEqDiff, Nat.reduceAdd, Nat.reduceLeDiff, WO, fillX, splice, Wo_some]
   repeat (first | rw [push_no] | rw [push_yes] | rw [W_onil])
   obtain ⟨m6, hm6, k6, _, g6, d6, _, n6⟩ := mk_new m5 [.i .i64 0, .i .i64 0, .i .i64 0, .i .i64 0, .i .i64 0, .i .i64 0, .i .i64 0, .sl none 0 0 true] true ⟨8, some 35⟩ 8 rfl
   rw [← hm6]
   clear hm6
   have hT6 : TapeAt m6 m6.next m4.next g ev [] := (hT m6.next).keep k6 (by simp)
   have gr6 := k6.at (by omega) (by simp) gr5
   have kk6 : Keep m m6 [] := (k24.trans k5 (by simp)).trans k6 (by simp)
   have d6' : m6.ds = [] := d6.trans d5
   repeat (first
    | (refine W_op rfl rfl ?_; simp only [WB, execE, unE, args0, reduceIte, Nat.reduceEqDiff, Nat.reduceAdd, Nat.reduceLeDiff, WO, fillX, splice, Wo_some]) | simp only [WS] | refine W_regd0 ?_ | refine W_regd ?_)
   refine W_cutQ [_, _] (fun g' m' => ∃ (L : List St) (a : Nat), frd b g ev n a0 [] = some (a, L) ∧ g' 0 = bv ∧ g' 4 = .p (some (m1.next, 0)) ∧ g' 8 = .p (some (m4.next, 0)) ∧ m'.get m1.next = some (.cells (rdC bv (a, false)) true (3 : Nat)) ∧ a ≤ b.length ∧ TapeAt m' m6.next m4.next g ev L ∧ Keep m m' [] ∧ m'.ds = []) ?_ ?_
   ·simp only [List.cons_append, List.nil_append]
    refine W_loop (fun q g' m' => ∃ (i a : Nat) (L : List St) (s : St) (cs : AV), i ≤ n ∧ q = n - i ∧ L.length = i ∧ g' 0 = bv ∧ g' 4 = .p (some (m1.next, 0)) ∧ g' 8 = .p (some (m4.next, 0)) ∧ g' 10 = .p (some (m5.next, 0)) ∧ g' 37 = .i .i64 (n : Int) ∧ g' 38 = .i .i64 (i : Int) ∧ TOk g ev L ∧ frd b g ev n a0 [] = frd b g ev (n - i) a L ∧ m'.get m1.next = some (.cells (rdC bv (a, false)) true (3 : Nat)) ∧ a ≤ b.length ∧ m'.get m5.next = some (.cells (stS s cs) true ⟨8, some 35⟩) ∧ cs.one = true ∧ (i ≠ 0 → s = L.getD (i - 1) .zero ∧ Cap m' cs s) ∧ TapeAt m' m6.next m4.next g ev L ∧ Keep m m' [] ∧ m6.next ≤ m'.next ∧ m'.ds = []) n ?_ ?_ ?_
    ·refine ⟨0, a0, [], .zero, .sl none 0 0 true, by omega, rfl, rfl, ?_, ?_, ?_, ?_, ?_, ?_, ⟨hg9, ⟨hev1, he10⟩, by simp, by simp [tbn]⟩, rfl, gr6, ha3, g6, rfl, fun h => absurd rfl h, hT6, kk6, Nat.le_refl _, d6'⟩
     ·skip
      simp only [WT, reduceIte, Nat.reduceEqDiff, args0]
     ·skip
      simp only [WT, reduceIte, Nat.reduceEqDiff, args0]
     ·skip
      simp only [WT, reduceIte, Nat.reduceEqDiff, args0]
     ·skip
      simp only [WT, reduceIte, Nat.reduceEqDiff, args0]
     ·skip
      simp only [WT, reduceIte, Nat.reduceEqDiff, args0]
     ·skip
      simp only [WT, reduceIte, Nat.reduceEqDiff, args0, Int.ofNat_zero]
      try rfl
    ·intro i hi
     repeat (first | exact args0_un (Nat.le_of_ble_eq_true rfl) i hi | refine upd_un ?_ rfl i hi; clear i hi; intro i hi)
    ·rintro q gg m7 ⟨i, a, L, s, cs, hin, rfl, hLi, q0, q4, q8, q10, q37, q38, hok, hfr, gr7, ha, gw, hcs, hpre, hT7, k7, n7, d7⟩ hg
     by_cases hlt : i < n
     ·have e2 : decide ((i : Int) < (n : Int)) = true := decide_eq_true (by omega)
      have brd : rd m7 m5.next 0 8 = some (stS s cs) := by simp [rd, gw, stS]
      have hs : L.length % ev ≠ 0 → s = L.getD (L.length - 1) .zero ∧ Cap m7 cs s := by
       intro h0
       have hne : i ≠ 0 := fun h => h0 (by rw [hLi, h, Nat.zero_mod])
       rw [hLi]
       exact hpre hne
      have hstep := frd_step (b := b) (g := g) (ev := ev) (n := n - (i + 1)) (a := a) (L := L)
      rw [show n - (i + 1) + 1 = n - i by omega] at hstep
      repeat (first
       | (refine W_op rfl rfl ?_; simp only [WB, execE, unE, args0, reduceIte, Nat.reduceEqDiff, Nat.reduceAdd, Nat.reduceLeDiff, q37, q38, e2, binE, isShift, intBin, WO, fillX, splice, Wo_some]) | simp only [WS] | refine W_regd0 ?_ | refine W_regd ?_)
      refine W_cond ?_
      simp only [WB, execE, unE, args0, reduceIte, Nat.reduceEqDiff, Nat.reduceAdd, Nat.reduceLeDiff, WC]
      repeat (first
       | (refine W_op rfl rfl ?_; simp only [WB, execE, unE, args0, reduceIte, Nat.reduceEqDiff, Nat.reduceAdd, Nat.reduceLeDiff, q4, q8, q10, brd, WO, fillX, splice, Wo_some]) | simp only [WS] | refine W_regd0 ?_ | refine W_regd ?_)
      refine W_callA rfl ?hargs (call16 (s := s) (cs := cs) hT7 hok (by omega) gr7 (by omega) (by omega) (hA.keep0 k7) hl ha hcs hs) ?_
      case hargs => simp only [WB, execE, unE, args0, reduceIte, Nat.reduceEqDiff, Nat.reduceAdd, Nat.reduceLeDiff] <;> rfl
      rintro v m8 ⟨⟨cv, rfl, hcv, hF⟩, gr8, hTn, fp, k8, hfp⟩ hs8
      have htk := fun hb => tok_snoc (b := b) (a := a) hok ha hb
      rw [hstep] at hfr
      generalize hqq : dread (wasOf g ev L L.length) b a = qq at *
      obtain ⟨s2, dn, er⟩ := qq
      simp only at hF gr8 hTn hfr htk ⊢
      have n8 := k8.next
      have hfp2 : ∀ x ∈ fp, x ≠ m5.next ∧ m.next ≤ x := fun x hx => by
       have := hfp x hx
       have := kB'.next
       have := k24.next
       have := kk6.next
       omega
      have gw8 := k8.at (by omega) (fun hm => (hfp2 _ hm).1 rfl) gw
      have k8' : Keep m m8 [] := k7.trans k8 (fun z hz => .inr (hfp2 z hz).2)
      have d8 : m8.ds = [] := hs8.ds.trans d7
      simp only [stS] at gw8
      repeat (first
       | (refine W_opS rfl rfl rfl ?_; simp only [WB, execE, unE, args0, reduceIte, Nat.reduceEqDiff, Nat.reduceAdd, Nat.reduceLeDiff, q10, WO, fillX, splice, Wo_some]) | simp only [WS] | refine W_regd0 ?_ | refine W_regd ?_)
      simp only [stS]
      repeat (first | simp only [WS] | refine W_regd0 ?_ | refine W_regd ?_)
      refine W_op rfl rfl ?_
      simp only [WB, execE, unE, args0, reduceIte, Nat.reduceEqDiff, Nat.reduceAdd, Nat.reduceLeDiff, q10, gw8, hcv, WO, fillX, splice, Wo_some]
      repeat (first | rw [push_no] | rw [push_yes] | rw [W_onil])
      obtain ⟨m9, hm9⟩ : ∃ m9 : AMem, m9 = m8.put m5.next (some (.cells (stS s2 cv) true ⟨8, some 35⟩)) := ⟨_, rfl⟩
      have k89 : Keep m8 m9 [m5.next] := by rw [hm9]; exact Keep.put _ _ _
      have g9 : m9.get m5.next = some (.cells (stS s2 cv) true ⟨8, some 35⟩) := by rw [hm9, AMem.get_put, if_pos rfl]
      have gr9 := k89.at (by omega) (by simp; omega) gr8
      have d9 : m9.ds = [] := by rw [hm9]; exact d8
      have nn9 : m9.next = m8.next := by rw [hm9]; rfl
      simp only [stS] at hm9
      rw [← hm9]
      clear hm9
      have k9' : Keep m m9 [] := k8'.trans k89 (fun z hz => .inr (by have := List.mem_singleton.1 hz; have := k24.next; omega))
      have hwi : IntKind.i64.wrap ((i : Int) + 1) = ((i + 1 : Nat) : Int) := wr_i64 (n := (i : Int) + 1) (by omega) (by omega)
      cases hbd : badR b g ev L a with
      | true =>
        rw [hbd] at gr9 hfr
        repeat (first
         | (refine W_opS rfl rfl rfl ?_; simp only [WB, execE, unE, args0, reduceIte, Nat.reduceEqDiff, Nat.reduceAdd, Nat.reduceLeDiff, q4, gr9, WO, fillX, splice, Wo_some]) | simp only [WS] | refine W_regd0 ?_ | refine W_regd ?_)
        refine W_cond ?_
        simp only [WB, execE, unE, args0, reduceIte, Nat.reduceEqDiff, Nat.reduceAdd, Nat.reduceLeDiff, WC]
        repeat (first
         | (refine W_op rfl rfl ?_; simp only [WB, execE, unE, args0, reduceIte, Nat.reduceEqDiff, Nat.reduceAdd, Nat.reduceLeDiff, WO, fillX, splice, Wo_some]) | simp only [WS] | refine W_regd0 ?_ | refine W_regd ?_)
        refine W_getRet (by repeat (first | exact hg | exact args0_un (Nat.le_of_ble_eq_true rfl) | refine upd_un ?_ rfl)) ?_
        refine ⟨d9, _, rfl, .inl ⟨?_, rfl⟩, k9'.out⟩
        rw [hfo, hfr]
        rfl
      | false =>
        rw [hbd] at gr9 hfr
        obtain ⟨hok2, ha2'⟩ := htk hbd
        repeat (first
         | (refine W_opS rfl rfl rfl ?_; simp only [WB, execE, unE, args0, reduceIte, Nat.reduceEqDiff, Nat.reduceAdd, Nat.reduceLeDiff, q4, gr9, WO, fillX, splice, Wo_some]) | simp only [WS] | refine W_regd0 ?_ | refine W_regd ?_)
        refine W_cond ?_
        simp only [WB, execE, unE, args0, reduceIte, Nat.reduceEqDiff, Nat.reduceAdd, Nat.reduceLeDiff, WC]
        repeat (first
         | (refine W_op rfl rfl ?_; simp only [WB, execE, unE, args0, reduceIte, Nat.reduceEqDiff, Nat.reduceAdd, Nat.reduceLeDiff, q38, hwi, binE, isShift, intBin, WO, fillX, splice, Wo_some]) | simp only [WS] | refine W_regd0 ?_ | refine W_regd ?_)
        refine W_j (by repeat (first | exact hg | exact args0_un (Nat.le_of_ble_eq_true rfl) | refine upd_un ?_ rfl)) ?_
        refine ⟨n - (i + 1), by omega, i + 1, a + dn, L ++ [s2], s2, cv, by omega, rfl, by simp [hLi], ?_, ?_, ?_, ?_, ?_, ?_, hok2, ?_, gr9, ha2', g9, hcv, fun _ => ⟨?_, ?_⟩, ?_, k9', by omega, d9⟩
        ·skip
         simp only [WT, reduceIte, Nat.reduceEqDiff, args0, q0]
        ·skip
         simp only [WT, reduceIte, Nat.reduceEqDiff, args0, q4]
        ·skip
         simp only [WT, reduceIte, Nat.reduceEqDiff, args0, q8]
        ·skip
         simp only [WT, reduceIte, Nat.reduceEqDiff, args0, q10]
        ·skip
         simp only [WT, reduceIte, Nat.reduceEqDiff, args0, q37]
        ·skip
         simp only [WT, reduceIte, Nat.reduceEqDiff, args0]
        ·rw [hfr, if_neg (by simp)]
        ·rw [Nat.add_sub_cancel, ← hLi]; simp
        ·obtain ⟨ty, oj, hr, ho⟩ := hF hbd
         exact (hr.keep k89 (fun z hz hm => by have := ho z hz; have := List.mem_singleton.1 hm; omega)).arr
        ·exact (hTn hbd).keep k89 (fun z hz => by have := List.mem_singleton.1 hz; omega)
     ·have e2 : decide ((i : Int) < (n : Int)) = false := decide_eq_false (by omega)
      obtain rfl : i = n := by omega
      repeat (first
       | (refine W_op rfl rfl ?_; simp only [WB, execE, unE, args0, reduceIte, Nat.reduceEqDiff, Nat.reduceAdd, Nat.reduceLeDiff, q37, q38, e2, binE, isShift, intBin, WO, fillX, splice, Wo_some]) | simp only [WS] | refine W_regd0 ?_ | refine W_regd ?_)
      refine W_cond ?_
      simp only [WB, execE, unE, args0, reduceIte, Nat.reduceEqDiff, Nat.reduceAdd, Nat.reduceLeDiff, WC]
      refine W_exit rfl ?_
      refine W_j (by repeat (first | exact hg | exact args0_un (Nat.le_of_ble_eq_true rfl) | refine upd_un ?_ rfl)) ?_
      refine ⟨L, a, ?_, q0, q4, q8, gr7, ha, hT7, k7, d7⟩
      rw [hfr, Nat.sub_self]
      rfl
   rintro gg m7 ⟨L, a, hfr, q0, q4, q8, gr7, ha, hT7, k7, d7⟩ hg
   rw [hfr] at hfo
   simp only at hfo
   by_cases hal : a = b.length
   ·have e2 : ((a : Int) != (b.length : Int)) = false := by simp [hal]
    repeat (first
     | (refine W_op rfl rfl ?_; simp only [WB, execE, unE, args0, reduceIte, Nat.reduceEqDiff, Nat.reduceAdd, Nat.reduceLeDiff, q0, q4, gr7, ↓hlen, e2, binE, isShift, intBin, WO, fillX, splice, Wo_some]) | simp only [WS] | refine W_regd0 ?_ | refine W_regd ?_)
    refine W_cond ?_
    simp only [WB, execE, unE, args0, reduceIte, Nat.reduceEqDiff, Nat.reduceAdd, Nat.reduceLeDiff, WC]
    repeat (first
     | (refine W_op rfl rfl ?_; simp only [WB, execE, unE, args0, reduceIte, Nat.reduceEqDiff, Nat.reduceAdd, Nat.reduceLeDiff, q8, WO, fillX, splice, Wo_some]) | simp only [WS] | refine W_regd0 ?_ | refine W_regd ?_)
    refine W_getRet (by repeat (first | exact hg | exact args0_un (Nat.le_of_ble_eq_true rfl) | refine upd_un ?_ rfl)) ?_
    refine ⟨d7, _, rfl, .inr ⟨g, ev, L, m4.next, m6.next, ?_, rfl, hT7.keep (Keep.refl _ []).out (by simp)⟩, k7.out⟩
    rw [hfo, if_pos hal]
   ·have e2 : ((a : Int) != (b.length : Int)) = true := by simp; omega
    repeat (first
     | (refine W_op rfl rfl ?_; simp only [WB, execE, unE, args0, reduceIte, Nat.reduceEqDiff, Nat.reduceAdd, Nat.reduceLeDiff, q0, q4, gr7, ↓hlen, e2, binE, isShift, intBin, WO, fillX, splice, Wo_some]) | simp only [WS] | refine W_regd0 ?_ | refine W_regd ?_)
    refine W_cond ?_
    simp only [WB, execE, unE, args0, reduceIte, Nat.reduceEqDiff, Nat.reduceAdd, Nat.reduceLeDiff, WC]
    repeat (first
     | (refine W_op rfl rfl ?_; simp only [WB, execE, unE, args0, reduceIte, Nat.reduceEqDiff, Nat.reduceAdd, Nat.reduceLeDiff, WO, fillX, splice, Wo_some]) | simp only [WS] | refine W_regd0 ?_ | refine W_regd ?_)
    refine W_getRet (by repeat (first | exact hg | exact args0_un (Nat.le_of_ble_eq_true rfl) | refine upd_un ?_ rfl)) ?_
    refine ⟨d7, _, rfl, .inl ⟨?_, rfl⟩, k7.out⟩
    rw [hfo, if_neg hal]
end Go.Proofs.YtfbglgmhhmeoeaaGreatDoor
