/- Points and instructions, line by line; lists of lines held against each other. No condition. -/
import Derived.Test.YtjlckbphpmogjaaGreatDoorSpTY
import Derived.Test.YtjlckbphpmogjaaGreatDoorSpViFx
namespace Go.Proofs.YtjlckbphpmogjaaGreatDoor
open Go.Vi
set_option linter.unusedSimpArgs false
set_option linter.unusedVariables false

def strs (A : List (List UInt8)) : List AV := A.map fun x => .s ⟨x.toArray⟩
def lines (f : Nat → List UInt8) (n : Nat) : List (List UInt8) := (List.range n).map fun i : Nat => digI (i : Int) ++ ([32] ++ f i)
theorem lines_succ (f : Nat → List UInt8) (n : Nat) : strs (lines f (n + 1)) = strs (lines f n) ++ [.s ⟨(digI (n : Int) ++ ([32] ++ f n)).toArray⟩] := by
  simp only [strs, lines, List.range_succ, List.map_append, List.map_cons, List.map_nil]
def ptF (L : List (Int × Int)) (i : Nat) : List UInt8 := pTxt (L.getD i (0, 0)).1 (L.getD i (0, 0)).2
def inF (M : List (List Int)) (i : Nat) : List UInt8 := iTxt (M.getD i [])
theorem ptF_at {L : List (Int × Int)} {i : Nat} {p : Int × Int} (h : L[i]? = some p) : ptF L i = pTxt p.1 p.2 := by
  unfold ptF; rw [List.getD_eq_getElem?_getD, h]; rfl
theorem inF_at {M : List (List Int)} {i : Nat} {l : List Int} (h : M[i]? = some l) : inF M i = iTxt l := by
  unfold inF; rw [List.getD_eq_getElem?_getD, h]; rfl
theorem six {l : List Int} (h : l.length = 6) : ∃ a b c d e f, l = [a, b, c, d, e, f] := by
  match l, h with
  | [a, b, c, d, e, f], _ => exact ⟨a, b, c, d, e, f, rfl⟩
theorem in_small {i : Nat} (h : i ≤ 100000) : InI64 (i : Int) := ⟨by omega, by omega⟩

set_option maxHeartbeats 1000000 in
theorem call16 {m : AMem} (hP : P10 m) {av : AV} {n : Nat} {L : List (Int × Int)} (h : Arr m 2 av n (flat2 L)) (hb : ∀ p ∈ L, InI64 p.1 ∧ InI64 p.2) (hL : L.length = n) (hn : n ≤ 1000) :
    Vi.Call T 16 [av] m (fun v m' => (∃ ty oj, RowE m' 1 ty v oj n (strs (lines (ptF L) n)) ∧ ∀ k, oj = some k → m.next ≤ k) ∧ Keep m m' []) := by
  have hlen := h.lenF
  refine Vi.Call.ofP T16 (Nat.le_of_ble_eq_true rfl) ?_
  unfold v16
  repeat (first
    | ((first | refine W_op rfl rfl ?_ | (refine W_opgT rfl rfl ?hg ?_; (case hg => (simp only [upd_at, reduceIte, Nat.reduceEqDiff, Bool.not_true, Bool.not_false]; done)))); simp only [WB, execE, unE, args0, reduceIte, Nat.reduceEqDiff, Nat.reduceAdd, Nat.reduceLeDiff, ↓hlen, WO, fillX, splice, Wo_some])
    | (refine W_opgF rfl rfl ?hg ?_; (case hg => (simp only [upd_at, reduceIte, Nat.reduceEqDiff, Bool.not_true, Bool.not_false]; done)))
    | (refine W_opgU rfl ?hg ?_; (case hg => (simp only [upd_at, reduceIte, Nat.reduceEqDiff]; done))) | (refine W_callN rfl ?hg ?_; (case hg => (simp only [upd_at, reduceIte, Nat.reduceEqDiff, Bool.not_true, Bool.not_false]; done))) | rw [W_seq] | rw [W_reg] | rw [push_no] | rw [push_yes] | rw [W_onil] | rw [W_skip] | rw [W_blk] | rw [W_b] | refine W_regd0 ?_ | refine W_regd ?_)
  refine W_cutK [_, _] (fun g' m' => ∃ ty oj, RowE m' 1 ty (g' 3) oj n (strs (lines (ptF L) n)) ∧ (∀ k, oj = some k → m.next ≤ k) ∧ Keep m m' [] ∧ m'.ds = []) ?_ ?_
  · simp only [List.cons_append, List.nil_append]
    refine W_loop (fun k g' m' => ∃ (i : Nat) (ty oj : Option Nat), i ≤ n ∧ k = n - i ∧ g' 6 = av ∧ g' 7 = .i .i64 n ∧ g' 8 = .i .i64 i ∧ RowE m' 1 ty (g' 3) oj i (strs (lines (ptF L) i)) ∧ (∀ k, oj = some k → m.next ≤ k) ∧ Keep m m' [] ∧ m'.ds = []) n ?_ ?_ ?_
    · refine ⟨0, none, none, Nat.zero_le _, rfl, ?_, ?_, ?_, ?_, nofun, (Keep.inn m), rfl⟩
      · skip
        simp only [upd_at, upd_none, reduceIte, Nat.reduceEqDiff, args0, List.getD_cons_zero, List.getD_cons_succ, List.getD_nil]
      · skip
        simp only [upd_at, upd_none, reduceIte, Nat.reduceEqDiff, args0, List.getD_cons_zero, List.getD_cons_succ, List.getD_nil]
      · skip
        simp only [upd_at, upd_none, reduceIte, Nat.reduceEqDiff, args0, List.getD_cons_zero, List.getD_cons_succ, List.getD_nil, Int.ofNat_zero]
        try rfl
      · skip
        simp only [upd_at, upd_none, reduceIte, Nat.reduceEqDiff, args0, List.getD_cons_zero, List.getD_cons_succ, List.getD_nil]
        exact RowE.nil _ _ _
    · intro i hi
      repeat (first | exact args0_un (Nat.le_of_ble_eq_true rfl) i hi | refine upd_un ?_ rfl i hi; clear i hi; intro i hi)
    · rintro k g m1 ⟨i, ty, oj, hi, rfl, qa, qn, qi, r1, f1, k1, d1⟩ hg
      repeat (first
        | ((first | refine W_op rfl rfl ?_ | (refine W_opgT rfl rfl ?hg ?_; (case hg => (simp only [upd_at, reduceIte, Nat.reduceEqDiff, Bool.not_true, Bool.not_false]; done)))); simp only [WB, execE, unE, args0, reduceIte, Nat.reduceEqDiff, Nat.reduceAdd, Nat.reduceLeDiff, qn, qi, binE, isShift, intBin, WO, fillX, splice, Wo_some])
        | (refine W_opgF rfl rfl ?hg ?_; (case hg => (simp only [upd_at, reduceIte, Nat.reduceEqDiff, Bool.not_true, Bool.not_false]; done)))
        | (refine W_opgU rfl ?hg ?_; (case hg => (simp only [upd_at, reduceIte, Nat.reduceEqDiff]; done))) | (refine W_callN rfl ?hg ?_; (case hg => (simp only [upd_at, reduceIte, Nat.reduceEqDiff, Bool.not_true, Bool.not_false]; done))) | rw [W_seq] | rw [W_reg] | rw [push_no] | rw [push_yes] | rw [W_onil] | rw [W_skip] | rw [W_blk] | rw [W_b] | refine W_regd0 ?_ | refine W_regd ?_)
      refine W_cond ?_
      simp only [WB, execE, unE, args0, reduceIte, Nat.reduceEqDiff, Nat.reduceAdd, Nat.reduceLeDiff]
      refine WC_split (fun ht => ?_) (fun hf => ?_)
      · have hlt : i < n := by simpa using ht
        generalize hrw : g 3 = row at r1
        obtain ⟨j, o, cap, ex, rfl, hj, hr⟩ := (h.keep0 k1).rdE hlt
        obtain ⟨p, hp⟩ : ∃ p, L[i]? = some p := ⟨_, List.getElem?_eq_getElem (by omega)⟩
        rw [flat2_at hp] at hr
        have hpb := hb p (List.mem_of_getElem? hp)
        have hix : (0 ≤ (i : Int) ∧ (i : Int) < (n : Int)) := ⟨by omega, by omega⟩
        have hwi : IntKind.i64.wrap ((i : Int) + 1) = ((i + 1 : Nat) : Int) := wr_i64 (n := (i : Int) + 1) (by omega) (by omega)
        repeat (first
          | ((first | refine W_opS rfl rfl rfl ?_ | (refine W_opgT rfl rfl ?hg ?_; (case hg => (simp only [upd_at, reduceIte, Nat.reduceEqDiff, Bool.not_true, Bool.not_false]; done)))); simp only [WB, execE, unE, args0, reduceIte, Nat.reduceEqDiff, Nat.reduceAdd, Nat.reduceLeDiff, qa, qi, hix, Int.toNat_natCast, hr, WO, fillX, splice, Wo_some])
          | (refine W_opgF rfl rfl ?hg ?_; (case hg => (simp only [upd_at, reduceIte, Nat.reduceEqDiff, Bool.not_true, Bool.not_false]; done)))
          | (refine W_opgU rfl ?hg ?_; (case hg => (simp only [upd_at, reduceIte, Nat.reduceEqDiff]; done))) | (refine W_callN rfl ?hg ?_; (case hg => (simp only [upd_at, reduceIte, Nat.reduceEqDiff, Bool.not_true, Bool.not_false]; done))) | rw [W_seq] | rw [W_reg] | rw [push_no] | rw [push_yes] | rw [W_onil] | rw [W_skip] | rw [W_blk] | rw [W_b] | refine W_regd0 ?_ | refine W_regd ?_)
        repeat (first | rw [W_seq] | rw [W_reg] | rw [push_no] | rw [push_yes] | rw [W_onil] | rw [W_skip] | rw [W_blk] | rw [W_b] | refine W_regd0 ?_ | refine W_regd ?_)
        refine W_op rfl rfl ?_
        simp only [WB, execE, unE, args0, reduceIte, Nat.reduceEqDiff, Nat.reduceAdd, Nat.reduceLeDiff, WO, fillX, splice, Wo_some]
        repeat (first | rw [push_no] | rw [push_yes] | rw [W_onil])
        obtain ⟨mB, hmB, kB, bB, gB, dB, _, nB⟩ := mk_put m1 [.i .i64 0, .i .i64 0] [.i .i64 p.1, .i .i64 p.2] true true ⟨2, some 31⟩ ⟨2, some 31⟩ 2 rfl
        rw [← hmB]
        clear hmB
        have kkB : Keep m mB [] := k1.trans kB (by simp)
        repeat (first
          | ((first | refine W_op rfl rfl ?_ | (refine W_opgT rfl rfl ?hg ?_; (case hg => (simp only [upd_at, reduceIte, Nat.reduceEqDiff, Bool.not_true, Bool.not_false]; done)))); simp only [WB, execE, unE, args0, reduceIte, Nat.reduceEqDiff, Nat.reduceAdd, Nat.reduceLeDiff, hrw, bB, WO, fillX, splice, Wo_some])
          | (refine W_opgF rfl rfl ?hg ?_; (case hg => (simp only [upd_at, reduceIte, Nat.reduceEqDiff, Bool.not_true, Bool.not_false]; done)))
          | (refine W_opgU rfl ?hg ?_; (case hg => (simp only [upd_at, reduceIte, Nat.reduceEqDiff]; done))) | (refine W_callN rfl ?hg ?_; (case hg => (simp only [upd_at, reduceIte, Nat.reduceEqDiff, Bool.not_true, Bool.not_false]; done))) | rw [W_seq] | rw [W_reg] | rw [push_no] | rw [push_yes] | rw [W_onil] | rw [W_skip] | rw [W_blk] | rw [W_b] | refine W_regd0 ?_ | refine W_regd ?_)
        refine W_callA rfl ?hargs (call13 (hP.keep kkB (by simp)) p.1 p.2 hpb.2) ?_
        case hargs => simp only [WB, execE, unE, args0, reduceIte, Nat.reduceEqDiff, Nat.reduceAdd, Nat.reduceLeDiff] <;> rfl
        rintro v m2 ⟨rfl, k2⟩ hs2
        have kk2 : Keep m m2 [] := kkB.trans k2 (by simp)
        repeat (first
          | ((first | refine W_op rfl rfl ?_ | (refine W_opgT rfl rfl ?hg ?_; (case hg => (simp only [upd_at, reduceIte, Nat.reduceEqDiff, Bool.not_true, Bool.not_false]; done)))); simp only [WB, execE, unE, args0, reduceIte, Nat.reduceEqDiff, Nat.reduceAdd, Nat.reduceLeDiff, WO, fillX, splice, Wo_some])
          | (refine W_opgF rfl rfl ?hg ?_; (case hg => (simp only [upd_at, reduceIte, Nat.reduceEqDiff, Bool.not_true, Bool.not_false]; done)))
          | (refine W_opgU rfl ?hg ?_; (case hg => (simp only [upd_at, reduceIte, Nat.reduceEqDiff]; done))) | (refine W_callN rfl ?hg ?_; (case hg => (simp only [upd_at, reduceIte, Nat.reduceEqDiff, Bool.not_true, Bool.not_false]; done))) | rw [W_seq] | rw [W_reg] | rw [push_no] | rw [push_yes] | rw [W_onil] | rw [W_skip] | rw [W_blk] | rw [W_b] | refine W_regd0 ?_ | refine W_regd ?_)
        have kn2 := Keep.new m2 (.cells [.ifc 3 (.i .i64 (i : Int)), .ifc 9 (.s ⟨(pTxt p.1 p.2).toArray⟩)] true (1 : Nat))
        have hA : Arr (m2.new (.cells [.ifc 3 (.i .i64 (i : Int)), .ifc 9 (.s ⟨(pTxt p.1 p.2).toArray⟩)] true (1 : Nat))) 1 (.sl (some (m2.next, 0)) 2 2 true) 2 [.ifc 3 (.i .i64 (i : Int)), .ifc 9 (.s ⟨(pTxt p.1 p.2).toArray⟩)] :=
          ⟨rfl, .inr ⟨m2.next, 0, 2, true, _, true, _, rfl, Nat.le_refl _, by simp, by rw [AMem.get_new, if_pos rfl], Nat.le_refl _, rfl⟩⟩
        have hwr := call42 (hP.keep (kk2.trans kn2 (by simp)) (by simp)) (i : Int) (pTxt p.1 p.2) (in_small (by omega)) (Nat.le_trans (pTxt_len hpb.2) (by omega)) hA
        refine W_callA rfl ?hargs (hwr) ?_
        case hargs => simp only [WB, execE, unE, args0, reduceIte, Nat.reduceEqDiff, Nat.reduceAdd, Nat.reduceLeDiff] <;> rfl
        rintro v m3 ⟨rfl, k3⟩ hs3
        have kk3 : Keep m1 m3 [] := ((kB.trans k2 (by simp)).trans kn2 (by simp)).trans k3 (by simp)
        have kkm3 : Keep m m3 [] := k1.trans kk3 (by simp)
        repeat (first
          | ((first | refine W_opA rfl rfl rfl ?_ | (refine W_opgT rfl rfl ?hg ?_; (case hg => (simp only [upd_at, reduceIte, Nat.reduceEqDiff, Bool.not_true, Bool.not_false]; done)))); simp only [WB, execE, unE, args0, reduceIte, Nat.reduceEqDiff, Nat.reduceAdd, Nat.reduceLeDiff, hrw, WO, fillX, splice, Wo_some])
          | (refine W_opgF rfl rfl ?hg ?_; (case hg => (simp only [upd_at, reduceIte, Nat.reduceEqDiff, Bool.not_true, Bool.not_false]; done)))
          | (refine W_opgU rfl ?hg ?_; (case hg => (simp only [upd_at, reduceIte, Nat.reduceEqDiff]; done))) | (refine W_callN rfl ?hg ?_; (case hg => (simp only [upd_at, reduceIte, Nat.reduceEqDiff, Bool.not_true, Bool.not_false]; done))) | rw [W_seq] | rw [W_reg] | rw [push_no] | rw [push_yes] | rw [W_onil] | rw [W_skip] | rw [W_blk] | rw [W_b] | refine W_regd0 ?_ | refine W_regd ?_)
        refine W_app (n := i) (k := 1) (new := [.s ⟨(digI (i : Int) ++ ([32] ++ (pTxt p.1 p.2))).toArray⟩]) (ls := strs (lines (ptF L) i)) rfl (((r1.keep kk3 (by simp)).keep (Keep.new _ _) (by simp)).as ?hrow) ?hsrc rfl rfl (roomyOf (by omega) (by omega)) ?_
        case hrow =>
          simp only [WB, execE, unE, args0, reduceIte, Nat.reduceEqDiff, Nat.reduceAdd, Nat.reduceLeDiff, hrw]
        case hsrc =>
          simp only [WB, execE, unE, args0, reduceIte, Nat.reduceEqDiff, Nat.reduceAdd, Nat.reduceLeDiff]
          exact src_new rfl
        intro av' oj' m4 ty' r4 ds4 ro4 o4 k4 _
        have f4 : ∀ k, oj' = some k → m.next ≤ k := by
          intro k hk
          rcases o4 with h | ⟨k', h, h2⟩
          · exact f1 k (h ▸ hk)
          · rw [h] at hk; cases hk
            have := kkm3.next
            simp only [AMem.next_new] at h2
            omega
        have kk4 : Keep m m4 [] := kkm3.trans ((Keep.new _ _).nil.trans k4 (fun i hi => .inl hi)) (by
          intro x hx
          cases oj with
          | none => simp at hx
          | some k => simp at hx; right; rw [hx]; exact f1 k rfl)
        repeat (first
          | ((first | refine W_op rfl rfl ?_ | (refine W_opgT rfl rfl ?hg ?_; (case hg => (simp only [upd_at, reduceIte, Nat.reduceEqDiff, Bool.not_true, Bool.not_false]; done)))); simp only [WB, execE, unE, args0, reduceIte, Nat.reduceEqDiff, Nat.reduceAdd, Nat.reduceLeDiff, qi, hwi, binE, isShift, intBin, WO, fillX, splice, Wo_some])
          | (refine W_opgF rfl rfl ?hg ?_; (case hg => (simp only [upd_at, reduceIte, Nat.reduceEqDiff, Bool.not_true, Bool.not_false]; done)))
          | (refine W_opgU rfl ?hg ?_; (case hg => (simp only [upd_at, reduceIte, Nat.reduceEqDiff]; done))) | (refine W_callN rfl ?hg ?_; (case hg => (simp only [upd_at, reduceIte, Nat.reduceEqDiff, Bool.not_true, Bool.not_false]; done))) | rw [W_seq] | rw [W_reg] | rw [push_no] | rw [push_yes] | rw [W_onil] | rw [W_skip] | rw [W_blk] | rw [W_b] | refine W_regd0 ?_ | refine W_regd ?_)
        refine W_j (by repeat (first | exact hg | exact args0_un (Nat.le_of_ble_eq_true rfl) | refine upd_un ?_ rfl)) ?_
        refine ⟨n - (i + 1), by omega, i + 1, ty', oj', by omega, rfl, ?_, ?_, ?_, ?_, f4, kk4, ds4.trans (hs3.ds.trans (hs2.ds.trans (dB.trans d1)))⟩
        · skip
          simp only [upd_at, upd_none, reduceIte, Nat.reduceEqDiff, args0, List.getD_cons_zero, List.getD_cons_succ, List.getD_nil, qa]
        · skip
          simp only [upd_at, upd_none, reduceIte, Nat.reduceEqDiff, args0, List.getD_cons_zero, List.getD_cons_succ, List.getD_nil, qn]
        · skip
          simp only [upd_at, upd_none, reduceIte, Nat.reduceEqDiff, args0, List.getD_cons_zero, List.getD_cons_succ, List.getD_nil]
        · rw [lines_succ, ptF_at hp]
          simp only [WB, execE, unE, args0, reduceIte, Nat.reduceEqDiff, Nat.reduceAdd, Nat.reduceLeDiff]
          exact r4
      · refine W_exit rfl ?_
        have hie : i = n := by simp at hf; omega
        subst hie
        refine W_j (by repeat (first | exact hg | exact args0_un (Nat.le_of_ble_eq_true rfl) | refine upd_un ?_ rfl)) ?_
        exact ⟨ty, oj, r1, f1, k1, d1⟩
  rintro g m1 ⟨ty, oj, r1, f1, k1, d1⟩ hg
  repeat (first
    | ((first | refine W_op rfl rfl ?_ | (refine W_opgT rfl rfl ?hg ?_; (case hg => (simp only [upd_at, reduceIte, Nat.reduceEqDiff, Bool.not_true, Bool.not_false]; done)))); simp only [WB, execE, unE, args0, reduceIte, Nat.reduceEqDiff, Nat.reduceAdd, Nat.reduceLeDiff, WO, fillX, splice, Wo_some])
    | (refine W_opgF rfl rfl ?hg ?_; (case hg => (simp only [upd_at, reduceIte, Nat.reduceEqDiff, Bool.not_true, Bool.not_false]; done)))
    | (refine W_opgU rfl ?hg ?_; (case hg => (simp only [upd_at, reduceIte, Nat.reduceEqDiff]; done))) | (refine W_callN rfl ?hg ?_; (case hg => (simp only [upd_at, reduceIte, Nat.reduceEqDiff, Bool.not_true, Bool.not_false]; done))) | rw [W_seq] | rw [W_reg] | rw [push_no] | rw [push_yes] | rw [W_onil] | rw [W_skip] | rw [W_blk] | rw [W_b] | refine W_regd0 ?_ | refine W_regd ?_)
  refine W_getRet (by repeat (first | exact hg | exact args0_un (Nat.le_of_ble_eq_true rfl) | refine upd_un ?_ rfl)) ?_
  exact ⟨d1, _, rfl, ⟨ty, oj, r1.keep (Keep.refl _ []).out (by simp), f1⟩, k1.out⟩

set_option maxHeartbeats 1000000 in
theorem call17 {m : AMem} (hP : P10 m) {av : AV} {n : Nat} {L : List (List Int)} {x1 x2 x3 : AV} (ho : av.one = true ∧ x1.one = true ∧ x2.one = true ∧ x3.one = true) (h : Arr m 6 av n (flatL L)) (hb : ∀ l ∈ L, l.length = 6 ∧ ∀ x ∈ l, InI64 x) (hL : L.length = n) (hn : n ≤ 1000) :
    Vi.Call T 17 [.agg [av, x1, x2, x3]] m (fun v m' => (∃ ty oj, RowE m' 1 ty v oj n (strs (lines (inF L) n)) ∧ ∀ k, oj = some k → m.next ≤ k) ∧ Keep m m' []) := by
  have hlen := h.lenF
  refine Vi.Call.ofP T17 (Nat.le_of_ble_eq_true rfl) ?_
  unfold v17
  obtain ⟨ho0, ho1, ho2, ho3⟩ := ho
  repeat (first | rw [W_seq] | rw [W_reg] | rw [push_no] | rw [push_yes] | rw [W_onil] | rw [W_skip] | rw [W_blk] | rw [W_b] | refine W_regd0 ?_ | refine W_regd ?_)
  refine W_op rfl rfl ?_
  simp only [WB, execE, unE, args0, reduceIte, Nat.reduceEqDiff, Nat.reduceAdd, Nat.reduceLeDiff, ho0, ho1, ho2, ho3, WO, fillX, splice, Wo_some]
  repeat (first | rw [push_no] | rw [push_yes] | rw [W_onil])
  obtain ⟨mC, hmC, kC0, bC, gC, dC, _, nC⟩ := mk_new m.inn [av, x1, x2, x3] true (4 : Nat) 4 rfl
  have kC : Keep m mC [] := kC0.ofInn
  have gC' : mC.get m.next = some (.cells [av, x1, x2, x3] true (4 : Nat)) := gC
  rw [← hmC]
  clear hmC
  repeat (first
    | ((first | refine W_op rfl rfl ?_ | (refine W_opgT rfl rfl ?hg ?_; (case hg => (simp only [upd_at, reduceIte, Nat.reduceEqDiff, Bool.not_true, Bool.not_false]; done)))); simp only [WB, execE, unE, args0, reduceIte, Nat.reduceEqDiff, Nat.reduceAdd, Nat.reduceLeDiff, gC', ↓hlen, WO, fillX, splice, Wo_some])
    | (refine W_opgF rfl rfl ?hg ?_; (case hg => (simp only [upd_at, reduceIte, Nat.reduceEqDiff, Bool.not_true, Bool.not_false]; done)))
    | (refine W_opgU rfl ?hg ?_; (case hg => (simp only [upd_at, reduceIte, Nat.reduceEqDiff]; done))) | (refine W_callN rfl ?hg ?_; (case hg => (simp only [upd_at, reduceIte, Nat.reduceEqDiff, Bool.not_true, Bool.not_false]; done))) | rw [W_seq] | rw [W_reg] | rw [push_no] | rw [push_yes] | rw [W_onil] | rw [W_skip] | rw [W_blk] | rw [W_b] | refine W_regd0 ?_ | refine W_regd ?_)
  refine W_cutK [_, _] (fun g' m' => ∃ ty oj, RowE m' 1 ty (g' 3) oj n (strs (lines (inF L) n)) ∧ (∀ k, oj = some k → m.next ≤ k) ∧ Keep m m' [] ∧ m'.ds = []) ?_ ?_
  · simp only [List.cons_append, List.nil_append]
    refine W_loop (fun k g' m' => ∃ (i : Nat) (ty oj : Option Nat), i ≤ n ∧ k = n - i ∧ g' 7 = av ∧ g' 8 = .i .i64 n ∧ g' 9 = .i .i64 i ∧ RowE m' 1 ty (g' 3) oj i (strs (lines (inF L) i)) ∧ (∀ k, oj = some k → m.next ≤ k) ∧ Keep m m' [] ∧ m'.ds = []) n ?_ ?_ ?_
    · refine ⟨0, none, none, Nat.zero_le _, rfl, ?_, ?_, ?_, ?_, nofun, kC, dC⟩
      · skip
        simp only [upd_at, upd_none, reduceIte, Nat.reduceEqDiff, args0, List.getD_cons_zero, List.getD_cons_succ, List.getD_nil]
      · skip
        simp only [upd_at, upd_none, reduceIte, Nat.reduceEqDiff, args0, List.getD_cons_zero, List.getD_cons_succ, List.getD_nil]
      · skip
        simp only [upd_at, upd_none, reduceIte, Nat.reduceEqDiff, args0, List.getD_cons_zero, List.getD_cons_succ, List.getD_nil, Int.ofNat_zero]
        try rfl
      · skip
        simp only [upd_at, upd_none, reduceIte, Nat.reduceEqDiff, args0, List.getD_cons_zero, List.getD_cons_succ, List.getD_nil]
        exact RowE.nil _ _ _
    · intro i hi
      repeat (first | exact args0_un (Nat.le_of_ble_eq_true rfl) i hi | refine upd_un ?_ rfl i hi; clear i hi; intro i hi)
    · rintro k g m1 ⟨i, ty, oj, hi, rfl, qa, qn, qi, r1, f1, k1, d1⟩ hg
      repeat (first
        | ((first | refine W_op rfl rfl ?_ | (refine W_opgT rfl rfl ?hg ?_; (case hg => (simp only [upd_at, reduceIte, Nat.reduceEqDiff, Bool.not_true, Bool.not_false]; done)))); simp only [WB, execE, unE, args0, reduceIte, Nat.reduceEqDiff, Nat.reduceAdd, Nat.reduceLeDiff, qn, qi, binE, isShift, intBin, WO, fillX, splice, Wo_some])
        | (refine W_opgF rfl rfl ?hg ?_; (case hg => (simp only [upd_at, reduceIte, Nat.reduceEqDiff, Bool.not_true, Bool.not_false]; done)))
        | (refine W_opgU rfl ?hg ?_; (case hg => (simp only [upd_at, reduceIte, Nat.reduceEqDiff]; done))) | (refine W_callN rfl ?hg ?_; (case hg => (simp only [upd_at, reduceIte, Nat.reduceEqDiff, Bool.not_true, Bool.not_false]; done))) | rw [W_seq] | rw [W_reg] | rw [push_no] | rw [push_yes] | rw [W_onil] | rw [W_skip] | rw [W_blk] | rw [W_b] | refine W_regd0 ?_ | refine W_regd ?_)
      refine W_cond ?_
      simp only [WB, execE, unE, args0, reduceIte, Nat.reduceEqDiff, Nat.reduceAdd, Nat.reduceLeDiff]
      refine WC_split (fun ht => ?_) (fun hf => ?_)
      · have hlt : i < n := by simpa using ht
        generalize hrw : g 3 = row at r1
        obtain ⟨j, o, cap, ex, rfl, hj, hr⟩ := (h.keep0 k1).rdE hlt
        obtain ⟨l, hp⟩ : ∃ l, L[i]? = some l := ⟨_, List.getElem?_eq_getElem (by omega)⟩
        rw [flatL_at (fun x hx => (hb x hx).1) hp] at hr
        have hpb := hb l (List.mem_of_getElem? hp)
        obtain ⟨a, b, c, d, e, f, rfl⟩ := six hpb.1
        simp only [List.map_cons, List.map_nil] at hr
        have hq := hpb.2
        have hix : (0 ≤ (i : Int) ∧ (i : Int) < (n : Int)) := ⟨by omega, by omega⟩
        have hwi : IntKind.i64.wrap ((i : Int) + 1) = ((i + 1 : Nat) : Int) := wr_i64 (n := (i : Int) + 1) (by omega) (by omega)
        repeat (first
          | ((first | refine W_opS rfl rfl rfl ?_ | (refine W_opgT rfl rfl ?hg ?_; (case hg => (simp only [upd_at, reduceIte, Nat.reduceEqDiff, Bool.not_true, Bool.not_false]; done)))); simp only [WB, execE, unE, args0, reduceIte, Nat.reduceEqDiff, Nat.reduceAdd, Nat.reduceLeDiff, qa, qi, hix, Int.toNat_natCast, hr, WO, fillX, splice, Wo_some])
          | (refine W_opgF rfl rfl ?hg ?_; (case hg => (simp only [upd_at, reduceIte, Nat.reduceEqDiff, Bool.not_true, Bool.not_false]; done)))
          | (refine W_opgU rfl ?hg ?_; (case hg => (simp only [upd_at, reduceIte, Nat.reduceEqDiff]; done))) | (refine W_callN rfl ?hg ?_; (case hg => (simp only [upd_at, reduceIte, Nat.reduceEqDiff, Bool.not_true, Bool.not_false]; done))) | rw [W_seq] | rw [W_reg] | rw [push_no] | rw [push_yes] | rw [W_onil] | rw [W_skip] | rw [W_blk] | rw [W_b] | refine W_regd0 ?_ | refine W_regd ?_)
        repeat (first | rw [W_seq] | rw [W_reg] | rw [push_no] | rw [push_yes] | rw [W_onil] | rw [W_skip] | rw [W_blk] | rw [W_b] | refine W_regd0 ?_ | refine W_regd ?_)
        refine W_op rfl rfl ?_
        simp only [WB, execE, unE, args0, reduceIte, Nat.reduceEqDiff, Nat.reduceAdd, Nat.reduceLeDiff, WO, fillX, splice, Wo_some]
        repeat (first | rw [push_no] | rw [push_yes] | rw [W_onil])
        obtain ⟨mB, hmB, kB, bB, gB, dB, _, nB⟩ := mk_put m1 [.i .i64 0, .i .i64 0, .i .i64 0, .i .i64 0, .i .i64 0, .i .i64 0] [.i .i64 a, .i .i64 b, .i .i64 c, .i .i64 d, .i .i64 e, .i .i64 f] true true ⟨6, some 46⟩ ⟨6, some 46⟩ 6 rfl
        rw [← hmB]
        clear hmB
        have kkB : Keep m mB [] := k1.trans kB (by simp)
        repeat (first
          | ((first | refine W_op rfl rfl ?_ | (refine W_opgT rfl rfl ?hg ?_; (case hg => (simp only [upd_at, reduceIte, Nat.reduceEqDiff, Bool.not_true, Bool.not_false]; done)))); simp only [WB, execE, unE, args0, reduceIte, Nat.reduceEqDiff, Nat.reduceAdd, Nat.reduceLeDiff, hrw, bB, WO, fillX, splice, Wo_some])
          | (refine W_opgF rfl rfl ?hg ?_; (case hg => (simp only [upd_at, reduceIte, Nat.reduceEqDiff, Bool.not_true, Bool.not_false]; done)))
          | (refine W_opgU rfl ?hg ?_; (case hg => (simp only [upd_at, reduceIte, Nat.reduceEqDiff]; done))) | (refine W_callN rfl ?hg ?_; (case hg => (simp only [upd_at, reduceIte, Nat.reduceEqDiff, Bool.not_true, Bool.not_false]; done))) | rw [W_seq] | rw [W_reg] | rw [push_no] | rw [push_yes] | rw [W_onil] | rw [W_skip] | rw [W_blk] | rw [W_b] | refine W_regd0 ?_ | refine W_regd ?_)
        refine W_callA rfl ?hargs (call14 (hP.keep kkB (by simp)) a b c d e f (hq b (by simp)) (hq c (by simp)) (hq d (by simp)) (hq e (by simp)) (hq f (by simp))) ?_
        case hargs => simp only [WB, execE, unE, args0, reduceIte, Nat.reduceEqDiff, Nat.reduceAdd, Nat.reduceLeDiff] <;> rfl
        rintro v m2 ⟨rfl, k2⟩ hs2
        have kk2 : Keep m m2 [] := kkB.trans k2 (by simp)
        repeat (first
          | ((first | refine W_op rfl rfl ?_ | (refine W_opgT rfl rfl ?hg ?_; (case hg => (simp only [upd_at, reduceIte, Nat.reduceEqDiff, Bool.not_true, Bool.not_false]; done)))); simp only [WB, execE, unE, args0, reduceIte, Nat.reduceEqDiff, Nat.reduceAdd, Nat.reduceLeDiff, WO, fillX, splice, Wo_some])
          | (refine W_opgF rfl rfl ?hg ?_; (case hg => (simp only [upd_at, reduceIte, Nat.reduceEqDiff, Bool.not_true, Bool.not_false]; done)))
          | (refine W_opgU rfl ?hg ?_; (case hg => (simp only [upd_at, reduceIte, Nat.reduceEqDiff]; done))) | (refine W_callN rfl ?hg ?_; (case hg => (simp only [upd_at, reduceIte, Nat.reduceEqDiff, Bool.not_true, Bool.not_false]; done))) | rw [W_seq] | rw [W_reg] | rw [push_no] | rw [push_yes] | rw [W_onil] | rw [W_skip] | rw [W_blk] | rw [W_b] | refine W_regd0 ?_ | refine W_regd ?_)
        have kn2 := Keep.new m2 (.cells [.ifc 3 (.i .i64 (i : Int)), .ifc 9 (.s ⟨(iTxt [a, b, c, d, e, f]).toArray⟩)] true (1 : Nat))
        have hA : Arr (m2.new (.cells [.ifc 3 (.i .i64 (i : Int)), .ifc 9 (.s ⟨(iTxt [a, b, c, d, e, f]).toArray⟩)] true (1 : Nat))) 1 (.sl (some (m2.next, 0)) 2 2 true) 2 [.ifc 3 (.i .i64 (i : Int)), .ifc 9 (.s ⟨(iTxt [a, b, c, d, e, f]).toArray⟩)] :=
          ⟨rfl, .inr ⟨m2.next, 0, 2, true, _, true, _, rfl, Nat.le_refl _, by simp, by rw [AMem.get_new, if_pos rfl], Nat.le_refl _, rfl⟩⟩
        have hwr := call42 (hP.keep (kk2.trans kn2 (by simp)) (by simp)) (i : Int) (iTxt [a, b, c, d, e, f]) (in_small (by omega)) (Nat.le_trans (iTxt_len hpb.2) (by omega)) hA
        refine W_callA rfl ?hargs (hwr) ?_
        case hargs => simp only [WB, execE, unE, args0, reduceIte, Nat.reduceEqDiff, Nat.reduceAdd, Nat.reduceLeDiff] <;> rfl
        rintro v m3 ⟨rfl, k3⟩ hs3
        have kk3 : Keep m1 m3 [] := ((kB.trans k2 (by simp)).trans kn2 (by simp)).trans k3 (by simp)
        have kkm3 : Keep m m3 [] := k1.trans kk3 (by simp)
        repeat (first
          | ((first | refine W_opA rfl rfl rfl ?_ | (refine W_opgT rfl rfl ?hg ?_; (case hg => (simp only [upd_at, reduceIte, Nat.reduceEqDiff, Bool.not_true, Bool.not_false]; done)))); simp only [WB, execE, unE, args0, reduceIte, Nat.reduceEqDiff, Nat.reduceAdd, Nat.reduceLeDiff, hrw, WO, fillX, splice, Wo_some])
          | (refine W_opgF rfl rfl ?hg ?_; (case hg => (simp only [upd_at, reduceIte, Nat.reduceEqDiff, Bool.not_true, Bool.not_false]; done)))
          | (refine W_opgU rfl ?hg ?_; (case hg => (simp only [upd_at, reduceIte, Nat.reduceEqDiff]; done))) | (refine W_callN rfl ?hg ?_; (case hg => (simp only [upd_at, reduceIte, Nat.reduceEqDiff, Bool.not_true, Bool.not_false]; done))) | rw [W_seq] | rw [W_reg] | rw [push_no] | rw [push_yes] | rw [W_onil] | rw [W_skip] | rw [W_blk] | rw [W_b] | refine W_regd0 ?_ | refine W_regd ?_)
        refine W_app (n := i) (k := 1) (new := [.s ⟨(digI (i : Int) ++ ([32] ++ (iTxt [a, b, c, d, e, f]))).toArray⟩]) (ls := strs (lines (inF L) i)) rfl (((r1.keep kk3 (by simp)).keep (Keep.new _ _) (by simp)).as ?hrow) ?hsrc rfl rfl (roomyOf (by omega) (by omega)) ?_
        case hrow =>
          simp only [WB, execE, unE, args0, reduceIte, Nat.reduceEqDiff, Nat.reduceAdd, Nat.reduceLeDiff, hrw]
        case hsrc =>
          simp only [WB, execE, unE, args0, reduceIte, Nat.reduceEqDiff, Nat.reduceAdd, Nat.reduceLeDiff]
          exact src_new rfl
        intro av' oj' m4 ty' r4 ds4 ro4 o4 k4 _
        have f4 : ∀ k, oj' = some k → m.next ≤ k := by
          intro k hk
          rcases o4 with h | ⟨k', h, h2⟩
          · exact f1 k (h ▸ hk)
          · rw [h] at hk; cases hk
            have := kkm3.next
            simp only [AMem.next_new] at h2
            omega
        have kk4 : Keep m m4 [] := kkm3.trans ((Keep.new _ _).nil.trans k4 (fun i hi => .inl hi)) (by
          intro x hx
          cases oj with
          | none => simp at hx
          | some k => simp at hx; right; rw [hx]; exact f1 k rfl)
        repeat (first
          | ((first | refine W_op rfl rfl ?_ | (refine W_opgT rfl rfl ?hg ?_; (case hg => (simp only [upd_at, reduceIte, Nat.reduceEqDiff, Bool.not_true, Bool.not_false]; done)))); simp only [WB, execE, unE, args0, reduceIte, Nat.reduceEqDiff, Nat.reduceAdd, Nat.reduceLeDiff, qi, hwi, binE, isShift, intBin, WO, fillX, splice, Wo_some])
          | (refine W_opgF rfl rfl ?hg ?_; (case hg => (simp only [upd_at, reduceIte, Nat.reduceEqDiff, Bool.not_true, Bool.not_false]; done)))
          | (refine W_opgU rfl ?hg ?_; (case hg => (simp only [upd_at, reduceIte, Nat.reduceEqDiff]; done))) | (refine W_callN rfl ?hg ?_; (case hg => (simp only [upd_at, reduceIte, Nat.reduceEqDiff, Bool.not_true, Bool.not_false]; done))) | rw [W_seq] | rw [W_reg] | rw [push_no] | rw [push_yes] | rw [W_onil] | rw [W_skip] | rw [W_blk] | rw [W_b] | refine W_regd0 ?_ | refine W_regd ?_)
        refine W_j (by repeat (first | exact hg | exact args0_un (Nat.le_of_ble_eq_true rfl) | refine upd_un ?_ rfl)) ?_
        refine ⟨n - (i + 1), by omega, i + 1, ty', oj', by omega, rfl, ?_, ?_, ?_, ?_, f4, kk4, ds4.trans (hs3.ds.trans (hs2.ds.trans (dB.trans d1)))⟩
        · skip
          simp only [upd_at, upd_none, reduceIte, Nat.reduceEqDiff, args0, List.getD_cons_zero, List.getD_cons_succ, List.getD_nil, qa]
        · skip
          simp only [upd_at, upd_none, reduceIte, Nat.reduceEqDiff, args0, List.getD_cons_zero, List.getD_cons_succ, List.getD_nil, qn]
        · skip
          simp only [upd_at, upd_none, reduceIte, Nat.reduceEqDiff, args0, List.getD_cons_zero, List.getD_cons_succ, List.getD_nil]
        · rw [lines_succ, inF_at hp]
          simp only [WB, execE, unE, args0, reduceIte, Nat.reduceEqDiff, Nat.reduceAdd, Nat.reduceLeDiff]
          exact r4
      · refine W_exit rfl ?_
        have hie : i = n := by simp at hf; omega
        subst hie
        refine W_j (by repeat (first | exact hg | exact args0_un (Nat.le_of_ble_eq_true rfl) | refine upd_un ?_ rfl)) ?_
        exact ⟨ty, oj, r1, f1, k1, d1⟩
  rintro g m1 ⟨ty, oj, r1, f1, k1, d1⟩ hg
  repeat (first
    | ((first | refine W_op rfl rfl ?_ | (refine W_opgT rfl rfl ?hg ?_; (case hg => (simp only [upd_at, reduceIte, Nat.reduceEqDiff, Bool.not_true, Bool.not_false]; done)))); simp only [WB, execE, unE, args0, reduceIte, Nat.reduceEqDiff, Nat.reduceAdd, Nat.reduceLeDiff, WO, fillX, splice, Wo_some])
    | (refine W_opgF rfl rfl ?hg ?_; (case hg => (simp only [upd_at, reduceIte, Nat.reduceEqDiff, Bool.not_true, Bool.not_false]; done)))
    | (refine W_opgU rfl ?hg ?_; (case hg => (simp only [upd_at, reduceIte, Nat.reduceEqDiff]; done))) | (refine W_callN rfl ?hg ?_; (case hg => (simp only [upd_at, reduceIte, Nat.reduceEqDiff, Bool.not_true, Bool.not_false]; done))) | rw [W_seq] | rw [W_reg] | rw [push_no] | rw [push_yes] | rw [W_onil] | rw [W_skip] | rw [W_blk] | rw [W_b] | refine W_regd0 ?_ | refine W_regd ?_)
  refine W_getRet (by repeat (first | exact hg | exact args0_un (Nat.le_of_ble_eq_true rfl) | refine upd_un ?_ rfl)) ?_
  exact ⟨d1, _, rfl, ⟨ty, oj, r1.keep (Keep.refl _ []).out (by simp), f1⟩, k1.out⟩

end Go.Proofs.YtjlckbphpmogjaaGreatDoor
