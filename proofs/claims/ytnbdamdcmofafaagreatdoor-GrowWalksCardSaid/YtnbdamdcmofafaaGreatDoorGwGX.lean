/- Trees of states: a path that is cut, a state that is added. No condition. -/
import Derived.Test.YtnbdamdcmofafaaGreatDoorGwGW
namespace Go.Proofs.YtnbdamdcmofafaaGreatDoor
open Go.Vi
open AMem (get_inn next_inn ds_inn get_put next_put ds_put get_new next_new ds_new)
open List (getD_cons_zero getD_cons_succ getD_nil length_cons length_nil getElem?_cons_zero getElem?_cons_succ map_cons map_nil)
set_option linter.unusedSimpArgs false
set_option linter.unusedVariables false

theorem Gr.keep {m m' : AMem} {gj : Nat} {fp fp' : List Nat} {up : List Int} {st : List Nat} (h : Gr m gj fp up st) (k : Keep m m' fp') (hd : ∀ i ∈ fp, i ∉ fp') : Gr m' gj fp up st := by
  obtain ⟨u, p, o, ju, jp, jo, hg, hgj, hfp, hnd, hu, hp, ho⟩ := h
  refine ⟨u, p, o, ju, jp, jo, k.at hgj (hd _ (by simp [hfp])) hg, Nat.lt_of_lt_of_le hgj k.next, hfp, hnd, hu.keep k ?_, hp.keep k ?_, ho.keep k ?_⟩
  · rintro j rfl; exact hd j (by simp [hfp])
  · rintro j rfl; exact hd j (by simp [hfp])
  · rintro j rfl; exact hd j (by simp [hfp])

theorem Gr.lt {m : AMem} {gj : Nat} {fp : List Nat} {up : List Int} {st : List Nat} (h : Gr m gj fp up st) : ∀ i ∈ fp, i < m.next := by
  obtain ⟨u, p, o, ju, jp, jo, hg, hgj, rfl, hnd, hu, hp, ho⟩ := h
  intro i hi
  simp only [List.mem_cons, List.mem_append, Option.mem_toList] at hi
  rcases hi with rfl | (rfl | rfl) | rfl
  · exact hgj
  · exact hu.lt
  · exact hp.lt
  · exact ho.lt

theorem chain_pw {up : List Int} (hr : ∀ (k : Nat) u, up[k]? = some u → -1 ≤ u ∧ u < k) : ∀ {st : List Nat}, G.Chain up st → st.Pairwise fun a b => b < a
  | [], _ => List.Pairwise.nil
  | a :: st, h => List.pairwise_cons.2 ⟨fun b hb => G.Chain.sorted hr h b hb, chain_pw hr h.tail⟩

theorem desc_len : ∀ (tl : List Nat) (a : Nat), (a :: tl).Pairwise (fun a b => b < a) → tl.length ≤ a
  | [], _, _ => Nat.zero_le _
  | b :: tl, a, h => by
    have h1 := List.pairwise_cons.1 h
    have h2 := desc_len tl b h1.2
    have := h1.1 b (by simp)
    simp only [List.length_cons]; omega

theorem fp3 {gj : Nat} {ju jp jo : Option Nat} {fp : List Nat} (hfp : fp = gj :: (ju.toList ++ jp.toList ++ jo.toList)) (hnd : fp.Nodup) :
    (∀ x, ju = some x → x ≠ gj) ∧ (∀ x, jp = some x → x ≠ gj) ∧ (∀ x, jo = some x → x ≠ gj) ∧ (∀ x y, ju = some x → jp = some y → x ≠ y) ∧ (∀ x y, ju = some x → jo = some y → x ≠ y) ∧ (∀ x y, jp = some x → jo = some y → x ≠ y) := by
  subst hfp
  refine ⟨?_, ?_, ?_, ?_, ?_, ?_⟩ <;> cases ju <;> cases jp <;> cases jo <;> simp at hnd ⊢ <;> omega

theorem set_on (n a : Nat) (tl : List Nat) (ha : a ∉ tl) : (((List.range n).map fun k => AV.b (decide (k ∈ a :: tl))).set a (.b false)) = (List.range n).map fun k => AV.b (decide (k ∈ tl)) := by
  refine List.ext_getElem? fun k => ?_
  rw [List.getElem?_set]
  simp only [List.length_map, List.length_range]
  by_cases hk : a = k
  · subst hk
    rw [if_pos rfl]
    by_cases hn : a < n
    · rw [if_pos hn, List.getElem?_map, List.getElem?_range hn]; simp [ha]
    · rw [if_neg hn, List.getElem?_eq_none (by simp; omega)]
  · rw [if_neg hk, List.getElem?_map, List.getElem?_map]
    by_cases hn : k < n
    · rw [List.getElem?_range hn]
      simp [show ¬ k = a from fun e => hk e.symm]
    · rw [List.getElem?_eq_none (by simp; omega)]; rfl

set_option maxHeartbeats 4000000 in
theorem call155 {m : AMem} {gj : Nat} {fp : List Nat} {up : List Int} {st : List Nat} (to : Int) (h : Gr m gj fp up st) (hst : ∀ a ∈ st, a < up.length) (hso : st.Pairwise fun a b => b < a) (hlen : up.length ≤ 600) :
    Vi.Call T 155 [.p (some (gj, 0)), .i .i64 to] m (fun _ m' => Gr m' gj fp up (G.cutTo to st) ∧ Keep m m' fp) := by
  refine Vi.Call.ofP T155 (Nat.le_of_ble_eq_true rfl) ?_
  unfold v155
  repeat (first
    | ((first | refine W_op rfl rfl ?_ | (refine W_opgT rfl rfl ?hg ?_; (case hg => (simp only [upd_at, reduceIte, Nat.reduceEqDiff, Bool.not_true, Bool.not_false]; done)))); simp only [decide_true, decide_false, execE, unE, at_t, at_c, upd_at, upd_none, args0, push_no, get_inn, next_inn, ds_inn, get_put, next_put, ds_put, get_new, next_new, ds_new, getD_cons_zero, getD_cons_succ, getD_nil, reduceIte, Nat.reduceEqDiff, Bool.or_true, Bool.true_or, Bool.or_false, Bool.false_or, Bool.not_true, Bool.not_false, Bool.false_eq_true, beq_self_eq_true, beq_true, Bool.true_beq, beq_false, Bool.false_beq, length_cons, length_nil, Nat.zero_add, Nat.add_zero, Nat.reduceAdd, Nat.reduceLeDiff, getElem?_cons_zero, getElem?_cons_succ, Option.map_some, map_cons, map_nil, true_and, and_true, and_self, Wo_some])
    | (refine W_opgF rfl rfl ?hg ?_; (case hg => (simp only [upd_at, reduceIte, Nat.reduceEqDiff, Bool.not_true, Bool.not_false]; done)))
    | rw [W_seq] | rw [W_reg] | rw [push_no] | rw [W_onil] | rw [W_skip] | rw [W_blk] | rw [W_b] | refine W_regd0 ?_)
  refine W_loop (fun k g' m' => ∃ st', k = st'.length ∧ g' 0 = .p (some (gj, 0)) ∧ g' 1 = .i .i64 to ∧ Gr m' gj fp up st' ∧ G.cutTo to st' = G.cutTo to st ∧ st'.Pairwise (fun a b => b < a) ∧ (∀ a ∈ st', a < up.length) ∧ Keep m m' fp ∧ m'.ds = []) st.length ?_ ?_ ?_
  · exact ⟨st, rfl, rfl, rfl, h.keep (Keep.inn m) (by simp), rfl, hso, hst, (Keep.inn m).nil, rfl⟩
  · exact args0_un (Nat.le_of_ble_eq_true rfl)
  · rintro k g m1 ⟨st', rfl, g0, g1, hG, hcut, hso', hst', hk, hds⟩ hg
    obtain ⟨u, p, o, ju, jp, jo, hgg, hgj, hfp, hnd, hu, hp, ho⟩ := hG
    have hlp := hp.lenF (n := st'.length) (by simp)
    cases hA : decide ((st'.length : Int) > 0)
    · have he : st' = [] := by
        have : st'.length = 0 := by simpa using hA
        exact List.length_eq_zero_iff.1 this
      repeat (first
        | ((first | refine W_op rfl rfl ?_ | (refine W_opgT rfl rfl ?hg ?_; (case hg => (simp only [upd_at, reduceIte, Nat.reduceEqDiff, Bool.not_true, Bool.not_false]; done)))); simp only [decide_true, decide_false, execE, unE, at_t, at_c, upd_at, upd_none, args0, push_no, get_inn, next_inn, ds_inn, get_put, next_put, ds_put, get_new, next_new, ds_new, getD_cons_zero, getD_cons_succ, getD_nil, reduceIte, Nat.reduceEqDiff, Bool.or_true, Bool.true_or, Bool.or_false, Bool.false_or, Bool.not_true, Bool.not_false, Bool.false_eq_true, beq_self_eq_true, beq_true, Bool.true_beq, beq_false, Bool.false_beq, length_cons, length_nil, Nat.zero_add, Nat.add_zero, Nat.reduceAdd, Nat.reduceLeDiff, getElem?_cons_zero, getElem?_cons_succ, Option.map_some, map_cons, map_nil, true_and, and_true, and_self, g0, g1, hgg, ↓hlp, binE, isShift, intBin, hA, Wo_some])
        | (refine W_opgF rfl rfl ?hg ?_; (case hg => (simp only [upd_at, reduceIte, Nat.reduceEqDiff, Bool.not_true, Bool.not_false]; done)))
        | rw [W_seq] | rw [W_reg] | rw [push_no] | rw [W_onil] | rw [W_skip] | rw [W_blk] | rw [W_b] | refine W_regd0 ?_)
      refine W_cond ?_
      simp only [decide_true, decide_false, execE, unE, at_t, at_c, upd_at, upd_none, args0, push_no, get_inn, next_inn, ds_inn, get_put, next_put, ds_put, get_new, next_new, ds_new, getD_cons_zero, getD_cons_succ, getD_nil, reduceIte, Nat.reduceEqDiff, Bool.or_true, Bool.true_or, Bool.or_false, Bool.false_or, Bool.not_true, Bool.not_false, Bool.false_eq_true, beq_self_eq_true, beq_true, Bool.true_beq, beq_false, Bool.false_beq, length_cons, length_nil, Nat.zero_add, Nat.add_zero, Nat.reduceAdd, Nat.reduceLeDiff, getElem?_cons_zero, getElem?_cons_succ, Option.map_some, map_cons, map_nil, true_and, and_true, and_self, WC]
      refine W_exit rfl ?_
      refine W_nil (by repeat (first | exact hg | exact args0_un (Nat.le_of_ble_eq_true rfl) | refine upd_un ?_ rfl)) ?_
      exact ⟨hds, [], rfl, by
        rw [← hcut, he]; subst he
        exact Gr.keep (⟨u, p, o, ju, jp, jo, hgg, hgj, hfp, hnd, hu, hp, ho⟩ : Gr m1 gj fp up []) (Keep.refl m1 []).out (by simp), hk.out⟩
    · have hne : st' ≠ [] := by rintro rfl; simp at hA
      obtain ⟨a, tl, rfl⟩ : ∃ a tl, st' = a :: tl := by
        cases st' with
        | nil => exact absurd rfl hne
        | cons a tl => exact ⟨a, tl, rfl⟩
      obtain ⟨q1, q2, q3, q4, q5, q6⟩ := fp3 hfp hnd
      have hal := hst' a (by simp)
      have hatl : a ∉ tl := fun h => by have := (List.pairwise_cons.1 hso').1 a h; omega
      have htl : tl.length < 600 := by have := desc_len tl a hso'; omega
      obtain ⟨k1, c1, ex1, rfl, rfl, hk1, hkg1, hkl1, hc1, _⟩ := hp.atN (n := tl.length + 1) (i := tl.length) (x := .i .i64 (a : Int)) (by simp) (by simp)
      obtain ⟨k2, c2, ex2, rfl, rfl, hk2, hkg2, hkl2, hkc2, _⟩ := ho.atN (n := up.length) (i := a) (x := .b true) (by simp) (by rw [List.getElem?_map, List.getElem?_range hal]; simp)
      have hi1 : 0 ≤ (tl.length : Int) ∧ (tl.length : Int) < ((tl.length + 1 : Nat) : Int) := by omega
      have hi2 : 0 ≤ (a : Int) ∧ (a : Int) < (up.length : Int) := by omega
      have hw : IntKind.i64.wrap (((tl.length + 1 : Nat) : Int) - 1) = (tl.length : Int) := (wrap64' (n := ((tl.length + 1 : Nat) : Int) - 1) (by omega) (by omega)).trans (by omega)
      have hlp' : ∀ (e : X → AV) (x : X) (m2 : AMem), e x = .sl (some (k1, 0)) (tl.length + 1) c1.length ex1 → execE (.len 1 x) e m2 = some (.i .i64 ((tl.length + 1 : Nat) : Int), m2) := fun e x m2 hx => by simp only [execE, hx]
      have hA' : decide ((((tl.length + 1 : Nat) : Int)) > 0) = true := by simp
      have hc2 : a + 1 ≤ c2.length := by omega
      have n1 : ¬ gj = k2 := fun e => q3 _ rfl e.symm
      have n2 : ¬ k2 = gj := q3 _ rfl
      cases hB : ((a : Int) != to)
      · skip
        repeat (first
          | ((first | refine W_op rfl rfl ?_ | (refine W_opgT rfl rfl ?hg ?_; (case hg => (simp only [upd_at, reduceIte, Nat.reduceEqDiff, Bool.not_true, Bool.not_false]; done)))); simp only [decide_true, decide_false, execE, unE, at_t, at_c, upd_at, upd_none, args0, push_no, get_inn, next_inn, ds_inn, get_put, next_put, ds_put, get_new, next_new, ds_new, getD_cons_zero, getD_cons_succ, getD_nil, reduceIte, Nat.reduceEqDiff, Bool.or_true, Bool.true_or, Bool.or_false, Bool.false_or, Bool.not_true, Bool.not_false, Bool.false_eq_true, beq_self_eq_true, beq_true, Bool.true_beq, beq_false, Bool.false_beq, length_cons, length_nil, Nat.zero_add, Nat.add_zero, Nat.reduceAdd, Nat.reduceLeDiff, getElem?_cons_zero, getElem?_cons_succ, Option.map_some, map_cons, map_nil, true_and, and_true, and_self, g0, g1, hgg, ↓hlp', binE, isShift, intBin, hA', hw, hi1, Int.toNat_natCast, Nat.mul_one, hkg1, hc1, hB, Wo_some])
          | (refine W_opgF rfl rfl ?hg ?_; (case hg => (simp only [upd_at, reduceIte, Nat.reduceEqDiff, Bool.not_true, Bool.not_false]; done)))
          | rw [W_seq] | rw [W_reg] | rw [push_no] | rw [W_onil] | rw [W_skip] | rw [W_blk] | rw [W_b] | refine W_regd0 ?_)
        refine W_cond ?_
        simp only [decide_true, decide_false, execE, unE, at_t, at_c, upd_at, upd_none, args0, push_no, get_inn, next_inn, ds_inn, get_put, next_put, ds_put, get_new, next_new, ds_new, getD_cons_zero, getD_cons_succ, getD_nil, reduceIte, Nat.reduceEqDiff, Bool.or_true, Bool.true_or, Bool.or_false, Bool.false_or, Bool.not_true, Bool.not_false, Bool.false_eq_true, beq_self_eq_true, beq_true, Bool.true_beq, beq_false, Bool.false_beq, length_cons, length_nil, Nat.zero_add, Nat.add_zero, Nat.reduceAdd, Nat.reduceLeDiff, getElem?_cons_zero, getElem?_cons_succ, Option.map_some, map_cons, map_nil, true_and, and_true, and_self, WC]
        refine W_exit rfl ?_
        refine W_nil (by repeat (first | exact hg | exact args0_un (Nat.le_of_ble_eq_true rfl) | refine upd_un ?_ rfl)) ?_
        exact ⟨hds, [], rfl, by
          rw [← hcut]
          simp only [G.cutTo]
          rw [if_pos (by simpa using hB)]
          exact Gr.keep (⟨u, _, _, ju, _, _, hgg, hgj, hfp, hnd, hu, hp, ho⟩ : Gr m1 gj fp up (a :: tl)) (Keep.refl m1 []).out (by simp), hk.out⟩
      · skip
        repeat (first
          | ((first | refine W_op rfl rfl ?_ | (refine W_opgT rfl rfl ?hg ?_; (case hg => (simp only [upd_at, reduceIte, Nat.reduceEqDiff, Bool.not_true, Bool.not_false]; done)))); simp only [decide_true, decide_false, execE, unE, at_t, at_c, upd_at, upd_none, args0, push_no, get_inn, next_inn, ds_inn, get_put, next_put, ds_put, get_new, next_new, ds_new, getD_cons_zero, getD_cons_succ, getD_nil, reduceIte, Nat.reduceEqDiff, Bool.or_true, Bool.true_or, Bool.or_false, Bool.false_or, Bool.not_true, Bool.not_false, Bool.false_eq_true, beq_self_eq_true, beq_true, Bool.true_beq, beq_false, Bool.false_beq, length_cons, length_nil, Nat.zero_add, Nat.add_zero, Nat.reduceAdd, Nat.reduceLeDiff, getElem?_cons_zero, getElem?_cons_succ, Option.map_some, map_cons, map_nil, true_and, and_true, and_self, g0, g1, hgg, ↓hlp', binE, isShift, intBin, hA', hw, hi1, Int.toNat_natCast, Nat.mul_one, hkg1, hc1, hB, Wo_some])
          | (refine W_opgF rfl rfl ?hg ?_; (case hg => (simp only [upd_at, reduceIte, Nat.reduceEqDiff, Bool.not_true, Bool.not_false]; done)))
          | rw [W_seq] | rw [W_reg] | rw [push_no] | rw [W_onil] | rw [W_skip] | rw [W_blk] | rw [W_b] | refine W_regd0 ?_)
        refine W_cond ?_
        simp only [decide_true, decide_false, execE, unE, at_t, at_c, upd_at, upd_none, args0, push_no, get_inn, next_inn, ds_inn, get_put, next_put, ds_put, get_new, next_new, ds_new, getD_cons_zero, getD_cons_succ, getD_nil, reduceIte, Nat.reduceEqDiff, Bool.or_true, Bool.true_or, Bool.or_false, Bool.false_or, Bool.not_true, Bool.not_false, Bool.false_eq_true, beq_self_eq_true, beq_true, Bool.true_beq, beq_false, Bool.false_beq, length_cons, length_nil, Nat.zero_add, Nat.add_zero, Nat.reduceAdd, Nat.reduceLeDiff, getElem?_cons_zero, getElem?_cons_succ, Option.map_some, map_cons, map_nil, true_and, and_true, and_self, WC]
        have hsl := fun (e : X → AV) (x y : X) (mm : AMem) (hx : e x = .sl (some (k1, 0)) (tl.length + 1) c1.length ex1) (hy : e y = .i .i64 (tl.length : Nat)) => slc_hi (esz := 1) (m := mm) hx hy (by omega)
        repeat (first
          | ((first | refine W_op rfl rfl ?_ | (refine W_opgT rfl rfl ?hg ?_; (case hg => (simp only [upd_at, reduceIte, Nat.reduceEqDiff, Bool.not_true, Bool.not_false]; done)))); simp only [decide_true, decide_false, execE, unE, at_t, at_c, upd_at, upd_none, args0, push_no, get_inn, next_inn, ds_inn, get_put, next_put, ds_put, get_new, next_new, ds_new, getD_cons_zero, getD_cons_succ, getD_nil, reduceIte, Nat.reduceEqDiff, Bool.or_true, Bool.true_or, Bool.or_false, Bool.false_or, Bool.not_true, Bool.not_false, Bool.false_eq_true, beq_self_eq_true, beq_true, Bool.true_beq, beq_false, Bool.false_beq, length_cons, length_nil, Nat.zero_add, Nat.add_zero, Nat.reduceAdd, Nat.reduceLeDiff, getElem?_cons_zero, getElem?_cons_succ, Option.map_some, map_cons, map_nil, true_and, and_true, and_self, g0, g1, hgg, ↓hlp', binE, isShift, intBin, hw, hi1, Int.toNat_natCast, Nat.mul_one, hkg1, hc1, hi2, hkg2, hc2, n1, n2, ↓hsl, AV.cells, AV.one, List.all_cons, List.all_nil, Bool.and_self, splice, List.take_succ_cons, List.take_zero, List.nil_append, List.cons_append, List.drop_succ_cons, List.drop_zero, List.append_nil, Wo_some])
          | (refine W_opgF rfl rfl ?hg ?_; (case hg => (simp only [upd_at, reduceIte, Nat.reduceEqDiff, Bool.not_true, Bool.not_false]; done)))
          | rw [W_seq] | rw [W_reg] | rw [push_no] | rw [W_onil] | rw [W_skip] | rw [W_blk] | rw [W_b] | refine W_regd0 ?_)
        refine W_j (by repeat (first | exact hg | exact args0_un (Nat.le_of_ble_eq_true rfl) | refine upd_un ?_ rfl)) ?_
        refine ⟨tl.length, by simp, tl, rfl, ?_, ?_, ?_, ?_, (List.pairwise_cons.1 hso').2, fun x hx => hst' x (by simp [hx]), ?_, hds⟩
        · skip
          simp only [upd_at, upd_none, reduceIte, Nat.reduceEqDiff, args0, getD_cons_zero, getD_cons_succ, getD_nil, g0]
        · skip
          simp only [upd_at, upd_none, reduceIte, Nat.reduceEqDiff, args0, getD_cons_zero, getD_cons_succ, getD_nil, g1]
        · have kA : Keep m1 (m1.put k2 (some (.cells (splice c2 a [.b false]) true ⟨1, some 4⟩))) [k2] := Keep.put _ _ _
          have r1 := ho.set hkg2 (i := a) (by simpa using hal) (.b false)
          rw [set_on _ _ _ hatl] at r1
          have r2 := (hp.cut tl.length (by simp)).keep kA (by rintro j ⟨⟩; simpa using q6 _ _ rfl rfl)
          have r3 := hu.keep kA (by intro j hj; simpa using q5 _ _ hj rfl)
          have kB := fun o => Keep.put (m1.put k2 (some (.cells (splice c2 a [.b false]) true ⟨1, some 4⟩))) gj o
          have e : ((a :: tl).reverse.map fun n : Nat => AV.i .i64 (n : Int)).take tl.length = tl.reverse.map fun n : Nat => AV.i .i64 (n : Int) := by
            rw [List.reverse_cons, List.map_append, List.take_append_of_le_length (by simp), List.take_of_length_le (by simp)]
          rw [e] at r2
          refine ⟨_, _, _, ju, some k1, some k2, by rw [AMem.get_put, if_pos rfl], by simpa using hgj, hfp, hnd, r3.keep (kB _) (by intro j hj; simpa using q1 _ hj), r2.keep (kB _) (by rintro j ⟨⟩; simpa using q2 _ rfl), r1.keep (kB _) (by rintro j ⟨⟩; simpa using q3 _ rfl)⟩
        · rw [← hcut]
          simp only [G.cutTo]
          rw [if_neg (by simpa using hB)]
        · refine (hk.trans (Keep.put _ _ _) ?_).trans (Keep.put _ _ _) ?_
          · intro i hi; simp at hi; subst hi; left; simp [hfp]
          · intro i hi; simp at hi; subst hi; left; simp [hfp]
end Go.Proofs.YtnbdamdcmofafaaGreatDoor
