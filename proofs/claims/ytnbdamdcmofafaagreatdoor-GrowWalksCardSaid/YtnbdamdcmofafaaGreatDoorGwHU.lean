/- Trees of states: what grows from one, told in order. No condition. -/
import Derived.Test.YtnbdamdcmofafaaGreatDoorGwGB
import Derived.Test.YtnbdamdcmofafaaGreatDoorGwO
import Derived.Test.YtnbdamdcmofafaaGreatDoorGwViRow2
namespace Go.Proofs.YtnbdamdcmofafaaGreatDoor
open Go.Vi
open AMem (get_inn next_inn ds_inn get_put next_put ds_put get_new next_new ds_new)
open List (getD_cons_zero getD_cons_succ getD_nil length_cons length_nil getElem?_cons_zero getElem?_cons_succ map_cons map_nil)
set_option linter.unusedSimpArgs false
set_option linter.unusedVariables false

structure Tab (m : AMem) (K n L : Nat) (oj : Nat → Option Nat) (lst : Nat → List Nat) : Prop where
  at_ : ∃ c, m.get K = some (.cells c true ⟨1, none⟩) ∧ c.length = n ∧ ∀ k, k < n → ∃ av ty, c[k]? = some av ∧ Row m ty av (oj k) ((lst k).map fun x : Nat => AV.i .i64 (x : Int))
  lo : L ≤ K
  hi : K < m.next
  lows : ∀ k j, k < n → oj k = some j → L ≤ j ∧ j ≠ K
  apart : ∀ k k' j j', k < n → k' < n → k ≠ k' → oj k = some j → oj k' = some j' → j ≠ j'

theorem Tab.keep {m m' : AMem} {K n L : Nat} {oj : Nat → Option Nat} {lst : Nat → List Nat} {fp : List Nat} (h : Tab m K n L oj lst) (k : Keep m m' fp) (hK : K ∉ fp) (hj : ∀ i j, i < n → oj i = some j → j ∉ fp) : Tab m' K n L oj lst := by
  obtain ⟨c, h1, h2, h3⟩ := h.at_
  refine ⟨⟨c, k.at h.hi hK h1, h2, fun i hi => ?_⟩, h.lo, Nat.lt_of_lt_of_le h.hi k.next, h.lows, h.apart⟩
  obtain ⟨av, ty, q1, q2⟩ := h3 i hi
  exact ⟨av, ty, q1, q2.keep k fun j hjj => hj i j hi hjj⟩

theorem inc_len {n : Nat} {W : List Nat} (h : W.Pairwise (· < ·)) (hl : ∀ a ∈ W, a < n) : W.length ≤ n := by
  have := st_len (n := n) (st := W.reverse) (List.pairwise_reverse.2 h) (fun a ha => hl a (List.mem_reverse.1 ha))
  simpa using this

theorem fl_le (up : List Int) (n k : Nat) : (G.fl up n k).length ≤ n := by
  unfold G.fl
  have := List.length_filter_le (fun j => decide (up[j]? = some (k : Int))) (List.range n)
  simpa using this

theorem drop_cons2 {α : Type} {l : List α} {k : Nat} {x : α} (h : l[k]? = some x) : l.drop k = x :: l.drop (k + 1) := by
  have hl := (List.getElem?_eq_some_iff.1 h)
  rw [List.drop_eq_getElem_cons hl.1, hl.2]

set_option maxHeartbeats 4000000 in
theorem call59 {P : Nat → AMem → Prop} {S : AMem → Prop} {m : AMem} {u : AV} {up : List Int} {st : List Nat} {i K L lp : Nat} {oj : Nat → Option Nat} {FP : List Nat} (g : G.GI up st) (hlu : up.length ≤ 600) (hr : up[i]? = some (-1)) (huo : u.one = true)
    (hT : Tab m K up.length L oj (G.fl up up.length)) (hFP : ∀ x ∈ FP, x < L) (hPk : ∀ c m' m'' fp, P c m' → Keep m' m'' fp → (∀ x ∈ fp, L ≤ x) → P c m'') (hSk : ∀ m' m'' fp, S m' → Keep m' m'' fp → (∀ x ∈ fp, L ≤ x) → S m'')
    (hy : ∀ c m', c < up.length → P c m' → CallC T (.y lp) [.i .i64 c] m' (fun v m'' => Keep m' m'' FP ∧ ((v = .b true ∧ P (c + 1) m'') ∨ (v = .b false ∧ S m''))))
    (hP : P i m) :
    Vi.Call T 59 [.agg [u], .i .i64 i, .sl (some (K, 0)) up.length up.length true, .yl lp] m (fun v m' => Tab m' K up.length L oj (G.fl up up.length) ∧ m.next ≤ m'.next ∧ Keep m m' FP ∧ ((v = .b true ∧ ∃ c, G.Stk up i c [] ∧ P c m') ∨ (v = .b false ∧ S m'))) := by
  refine Vi.Call.ofP T59 (Nat.le_of_ble_eq_true rfl) ?_
  unfold v59
  repeat (first
    | ((first | refine W_op rfl rfl ?_ | (refine W_opgT rfl rfl ?hg ?_; (case hg => (simp only [upd_at, reduceIte, Nat.reduceEqDiff, Bool.not_true, Bool.not_false]; done)))); simp only [decide_true, decide_false, execE, unE, at_t, at_c, upd_at, upd_none, args0, push_no, get_inn, next_inn, ds_inn, get_put, next_put, ds_put, get_new, next_new, ds_new, getD_cons_zero, getD_cons_succ, getD_nil, reduceIte, Nat.reduceEqDiff, Bool.or_true, Bool.true_or, Bool.or_false, Bool.false_or, Bool.not_true, Bool.not_false, Bool.false_eq_true, beq_self_eq_true, beq_true, Bool.true_beq, beq_false, Bool.false_beq, length_cons, length_nil, Nat.zero_add, Nat.add_zero, Nat.reduceAdd, Nat.reduceLeDiff, getElem?_cons_zero, getElem?_cons_succ, Option.map_some, map_cons, map_nil, true_and, and_true, and_self, cells_agg, huo, fillX, cells_i, one_i, splice, List.take_zero, List.nil_append, List.drop_succ_cons, List.drop_nil, List.drop_zero, List.append_nil, List.length_cons, List.length_nil, List.all_cons, List.all_nil, Bool.and_self, Nat.le_refl, Wo_some])
    | (refine W_opgF rfl rfl ?hg ?_; (case hg => (simp only [upd_at, reduceIte, Nat.reduceEqDiff, Bool.not_true, Bool.not_false]; done)))
    | rw [W_seq] | rw [W_reg] | rw [push_no] | rw [W_onil] | rw [W_skip] | rw [W_blk] | rw [W_b] | refine W_regd0 ?_)
  obtain ⟨mX, hmX, x1, x2, x3, x4⟩ : ∃ mX : AMem, mX = (m.inn.new (.cells [u] true ⟨1, none⟩)).new (.cells [.i .i64 (i : Int)] true ⟨1, none⟩) ∧ mX.next = m.next + 2 ∧ mX.get (m.next + 1) = some (.cells [.i .i64 (i : Int)] true ⟨1, none⟩) ∧ Keep m mX [] ∧ mX.ds = [] :=
    ⟨_, rfl, rfl, by rw [AMem.get_new, if_pos (show (m.inn.new _).next = m.next + 1 from rfl)], ((Keep.new m.inn _).ofInn).trans (Keep.new _ _) (by simp), rfl⟩
  rw [← hmX]
  clear hmX
  have hKL := hT.lo
  have hKn := hT.hi
  have hTX := hT.keep x3 (by simp) (by simp)
  have hPX := hPk _ _ _ _ hP x3 (by simp)
  have hil := (List.getElem?_eq_some_iff.1 hr).1
  refine W_loop (fun n g' m' => ∃ (c : Nat) (W : List Nat) (j : Nat) (ty : Option Nat), n = up.length - c ∧ G.Stk up i c W ∧ g' 2 = .sl (some (K, 0)) up.length up.length true ∧ g' 3 = .yl lp ∧ Row m' ty (g' 9) (some j) (W.reverse.map fun x : Nat => AV.i .i64 (x : Int)) ∧ m.next < j ∧ (∀ k x, k < up.length → oj k = some x → x ≠ j) ∧ Tab m' K up.length L oj (G.fl up up.length) ∧ P c m' ∧ m.next ≤ m'.next ∧ Keep m m' FP ∧ m'.ds = []) (up.length - i) ?_ ?_ ?_
  · refine ⟨i, [i], m.next + 1, none, rfl, G.Stk.start hr, ?_, ?_, ?_, by omega, ?_, hTX, hPX, by omega, x3.nil, x4⟩
    · skip
      simp only [upd_at, upd_none, reduceIte, Nat.reduceEqDiff, args0, getD_cons_zero, getD_cons_succ, getD_nil]
    · skip
      simp only [upd_at, upd_none, reduceIte, Nat.reduceEqDiff, args0, getD_cons_zero, getD_cons_succ, getD_nil]
    · skip
      simp only [upd_at, upd_none, reduceIte, Nat.reduceEqDiff, args0, getD_cons_zero, getD_cons_succ, getD_nil]
      exact ⟨[.i .i64 (i : Int)], true, rfl, by omega, x2, by simp, by simp⟩
    · intro k x hk hx
      obtain ⟨c, _, _, h3⟩ := hT.at_
      obtain ⟨av, ty, _, h5⟩ := h3 k hk
      rw [hx] at h5
      have := h5.lt; omega
  · intro i hi
    repeat (first | exact args0_un (Nat.le_of_ble_eq_true rfl) i hi | refine upd_un ?_ rfl i hi; clear i hi; intro i hi)
  · rintro n g1 m1 ⟨c, W, j, ty, rfl, hK, g2, g3, rW, hj, hjo, hT1, hP1, hn1, hk1, hds⟩ hg
    have hlW := rW.lenF (n := W.length) (by simp)
    cases W with
    | nil =>
      have hz : decide (((([] : List Nat).length : Nat) : Int) > 0) = false := by decide
      repeat (first
        | ((first | refine W_op rfl rfl ?_ | (refine W_opgT rfl rfl ?hg ?_; (case hg => (simp only [upd_at, reduceIte, Nat.reduceEqDiff, Bool.not_true, Bool.not_false]; done)))); simp only [decide_true, decide_false, execE, unE, at_t, at_c, upd_at, upd_none, args0, push_no, get_inn, next_inn, ds_inn, get_put, next_put, ds_put, get_new, next_new, ds_new, getD_cons_zero, getD_cons_succ, getD_nil, reduceIte, Nat.reduceEqDiff, Bool.or_true, Bool.true_or, Bool.or_false, Bool.false_or, Bool.not_true, Bool.not_false, Bool.false_eq_true, beq_self_eq_true, beq_true, Bool.true_beq, beq_false, Bool.false_beq, length_cons, length_nil, Nat.zero_add, Nat.add_zero, Nat.reduceAdd, Nat.reduceLeDiff, getElem?_cons_zero, getElem?_cons_succ, Option.map_some, map_cons, map_nil, true_and, and_true, and_self, ↓hlW, hz, binE, isShift, intBin, Wo_some])
        | (refine W_opgF rfl rfl ?hg ?_; (case hg => (simp only [upd_at, reduceIte, Nat.reduceEqDiff, Bool.not_true, Bool.not_false]; done)))
        | rw [W_seq] | rw [W_reg] | rw [push_no] | rw [W_onil] | rw [W_skip] | rw [W_blk] | rw [W_b] | refine W_regd0 ?_)
      refine W_cond ?_
      simp only [decide_true, decide_false, execE, unE, at_t, at_c, upd_at, upd_none, args0, push_no, get_inn, next_inn, ds_inn, get_put, next_put, ds_put, get_new, next_new, ds_new, getD_cons_zero, getD_cons_succ, getD_nil, reduceIte, Nat.reduceEqDiff, Bool.or_true, Bool.true_or, Bool.or_false, Bool.false_or, Bool.not_true, Bool.not_false, Bool.false_eq_true, beq_self_eq_true, beq_true, Bool.true_beq, beq_false, Bool.false_beq, length_cons, length_nil, Nat.zero_add, Nat.add_zero, Nat.reduceAdd, Nat.reduceLeDiff, getElem?_cons_zero, getElem?_cons_succ, Option.map_some, map_cons, map_nil, true_and, and_true, and_self, WC]
      refine W_exit rfl ?_
      repeat (first
        | ((first | refine W_op rfl rfl ?_ | (refine W_opgT rfl rfl ?hg ?_; (case hg => (simp only [upd_at, reduceIte, Nat.reduceEqDiff, Bool.not_true, Bool.not_false]; done)))); simp only [decide_true, decide_false, execE, unE, at_t, at_c, upd_at, upd_none, args0, push_no, get_inn, next_inn, ds_inn, get_put, next_put, ds_put, get_new, next_new, ds_new, getD_cons_zero, getD_cons_succ, getD_nil, reduceIte, Nat.reduceEqDiff, Bool.or_true, Bool.true_or, Bool.or_false, Bool.false_or, Bool.not_true, Bool.not_false, Bool.false_eq_true, beq_self_eq_true, beq_true, Bool.true_beq, beq_false, Bool.false_beq, length_cons, length_nil, Nat.zero_add, Nat.add_zero, Nat.reduceAdd, Nat.reduceLeDiff, getElem?_cons_zero, getElem?_cons_succ, Option.map_some, map_cons, map_nil, true_and, and_true, and_self, Wo_some])
        | (refine W_opgF rfl rfl ?hg ?_; (case hg => (simp only [upd_at, reduceIte, Nat.reduceEqDiff, Bool.not_true, Bool.not_false]; done)))
        | rw [W_seq] | rw [W_reg] | rw [push_no] | rw [W_onil] | rw [W_skip] | rw [W_blk] | rw [W_b] | refine W_regd0 ?_)
      refine W_getRet (by repeat (first | exact hg | exact args0_un (Nat.le_of_ble_eq_true rfl) | refine upd_un ?_ rfl)) ?_
      exact ⟨hds, _, rfl, hT1.keep ((Keep.refl m1 []).out (m0 := m)) (by simp) (by simp), hn1, hk1.out, .inl ⟨rfl, c, hK, hPk _ _ _ [] hP1 ((Keep.refl m1 []).out (m0 := m)) (by simp)⟩⟩
    | cons a tl =>
      obtain rfl := hK.head g
      have hal : a < up.length := ((hK.mem a).1 (by simp)).1
      have hWl : (a :: tl).length ≤ up.length := inc_len hK.sorted fun x hx => ((hK.mem x).1 hx).1
      have htl : tl.length ≤ 600 := by simp at hWl; omega
      have hstep := hK.step g
      have hlW := rW.lenF (n := tl.length + 1) (by simp)
      obtain ⟨jj, cc, exx, hjj, hav, hjm, hgj, hcl, hcx, _⟩ := rW.atN (n := tl.length + 1) (i := tl.length) (x := .i .i64 (a : Int)) (by simp) (by simp)
      obtain rfl : j = jj := Option.some.inj hjj
      rw [hav] at rW
      have hz : decide (((tl.length + 1 : Nat) : Int) > 0) = true := by simp
      have hw1 : IntKind.i64.wrap (((tl.length + 1 : Nat) : Int) - 1) = (tl.length : Int) := (wrap64' (n := ((tl.length + 1 : Nat) : Int) - 1) (by omega) (by omega)).trans (by omega)
      have hi1 : (0 ≤ (tl.length : Int) ∧ (tl.length : Int) < ((tl.length + 1 : Nat) : Int)) := ⟨by omega, by omega⟩
      have hlW' : ∀ (e : X → AV) (x : X) (m2 : AMem), e x = .sl (some (j, 0)) (tl.length + 1) cc.length exx → execE (.len 1 x) e m2 = some (.i .i64 ((tl.length + 1 : Nat) : Int), m2) := fun e x m2 hx => by simp only [execE, hx]
      have hsl := fun (e : X → AV) (x y : X) (mm : AMem) (hx : e x = .sl (some (j, 0)) (tl.length + 1) cc.length exx) (hy : e y = .i .i64 (tl.length : Nat)) => slc_hi (esz := 1) (m := mm) hx hy (by omega)
      repeat (first
        | ((first | refine W_op rfl rfl ?_ | (refine W_opgT rfl rfl ?hg ?_; (case hg => (simp only [upd_at, reduceIte, Nat.reduceEqDiff, Bool.not_true, Bool.not_false]; done)))); simp only [decide_true, decide_false, execE, unE, at_t, at_c, upd_at, upd_none, args0, push_no, get_inn, next_inn, ds_inn, get_put, next_put, ds_put, get_new, next_new, ds_new, getD_cons_zero, getD_cons_succ, getD_nil, reduceIte, Nat.reduceEqDiff, Bool.or_true, Bool.true_or, Bool.or_false, Bool.false_or, Bool.not_true, Bool.not_false, Bool.false_eq_true, beq_self_eq_true, beq_true, Bool.true_beq, beq_false, Bool.false_beq, length_cons, length_nil, Nat.zero_add, Nat.add_zero, Nat.reduceAdd, Nat.reduceLeDiff, getElem?_cons_zero, getElem?_cons_succ, Option.map_some, map_cons, map_nil, true_and, and_true, and_self, g3, hav, ↓hlW', hz, hw1, hi1, Int.toNat_natCast, Nat.mul_one, hgj, hcx, ↓hsl, binE, isShift, intBin, Wo_some])
        | (refine W_opgF rfl rfl ?hg ?_; (case hg => (simp only [upd_at, reduceIte, Nat.reduceEqDiff, Bool.not_true, Bool.not_false]; done)))
        | rw [W_seq] | rw [W_reg] | rw [push_no] | rw [W_onil] | rw [W_skip] | rw [W_blk] | rw [W_b] | refine W_regd0 ?_)
      refine W_cond ?_
      simp only [decide_true, decide_false, execE, unE, at_t, at_c, upd_at, upd_none, args0, push_no, get_inn, next_inn, ds_inn, get_put, next_put, ds_put, get_new, next_new, ds_new, getD_cons_zero, getD_cons_succ, getD_nil, reduceIte, Nat.reduceEqDiff, Bool.or_true, Bool.true_or, Bool.or_false, Bool.false_or, Bool.not_true, Bool.not_false, Bool.false_eq_true, beq_self_eq_true, beq_true, Bool.true_beq, beq_false, Bool.false_beq, length_cons, length_nil, Nat.zero_add, Nat.add_zero, Nat.reduceAdd, Nat.reduceLeDiff, getElem?_cons_zero, getElem?_cons_succ, Option.map_some, map_cons, map_nil, true_and, and_true, and_self, WC]
      repeat (first
        | ((first | refine W_op rfl rfl ?_ | (refine W_opgT rfl rfl ?hg ?_; (case hg => (simp only [upd_at, reduceIte, Nat.reduceEqDiff, Bool.not_true, Bool.not_false]; done)))); simp only [decide_true, decide_false, execE, unE, at_t, at_c, upd_at, upd_none, args0, push_no, get_inn, next_inn, ds_inn, get_put, next_put, ds_put, get_new, next_new, ds_new, getD_cons_zero, getD_cons_succ, getD_nil, reduceIte, Nat.reduceEqDiff, Bool.or_true, Bool.true_or, Bool.or_false, Bool.false_or, Bool.not_true, Bool.not_false, Bool.false_eq_true, beq_self_eq_true, beq_true, Bool.true_beq, beq_false, Bool.false_beq, length_cons, length_nil, Nat.zero_add, Nat.add_zero, Nat.reduceAdd, Nat.reduceLeDiff, getElem?_cons_zero, getElem?_cons_succ, Option.map_some, map_cons, map_nil, true_and, and_true, and_self, g3, hav, ↓hlW', hz, hw1, hi1, Int.toNat_natCast, Nat.mul_one, hgj, hcx, ↓hsl, binE, isShift, intBin, Wo_some])
        | (refine W_opgF rfl rfl ?hg ?_; (case hg => (simp only [upd_at, reduceIte, Nat.reduceEqDiff, Bool.not_true, Bool.not_false]; done)))
        | rw [W_seq] | rw [W_reg] | rw [push_no] | rw [W_onil] | rw [W_skip] | rw [W_blk] | rw [W_b] | refine W_regd0 ?_)
      refine W_cvY rfl ?hfv ?hargs (hy a _ hal hP1) ?_
      case hfv => (simp only [decide_true, decide_false, execE, unE, at_t, at_c, upd_at, upd_none, args0, push_no, get_inn, next_inn, ds_inn, get_put, next_put, ds_put, get_new, next_new, ds_new, getD_cons_zero, getD_cons_succ, getD_nil, reduceIte, Nat.reduceEqDiff, Bool.or_true, Bool.true_or, Bool.or_false, Bool.false_or, Bool.not_true, Bool.not_false, Bool.false_eq_true, beq_self_eq_true, beq_true, Bool.true_beq, beq_false, Bool.false_beq, length_cons, length_nil, Nat.zero_add, Nat.add_zero, Nat.reduceAdd, Nat.reduceLeDiff, getElem?_cons_zero, getElem?_cons_succ, Option.map_some, map_cons, map_nil, true_and, and_true, and_self, g3]; done)
      case hargs => simp only [decide_true, decide_false, execE, unE, at_t, at_c, upd_at, upd_none, args0, push_no, get_inn, next_inn, ds_inn, get_put, next_put, ds_put, get_new, next_new, ds_new, getD_cons_zero, getD_cons_succ, getD_nil, reduceIte, Nat.reduceEqDiff, Bool.or_true, Bool.true_or, Bool.or_false, Bool.false_or, Bool.not_true, Bool.not_false, Bool.false_eq_true, beq_self_eq_true, beq_true, Bool.true_beq, beq_false, Bool.false_beq, length_cons, length_nil, Nat.zero_add, Nat.add_zero, Nat.reduceAdd, Nat.reduceLeDiff, getElem?_cons_zero, getElem?_cons_succ, Option.map_some, map_cons, map_nil, true_and, and_true, and_self, g3] <;> rfl
      have hjF : j ∉ FP := fun hm => by have := hFP _ hm; omega
      rintro v m4 ⟨k4, hv⟩ hs4
      have hn4 := k4.next
      have hT4 := hT1.keep k4 (fun hm => by have := hFP _ hm; omega) (fun k x hk hx hm => by have := hFP _ hm; have := (hT.lows k x hk hx).1; omega)
      have rW2 := (rW.cut tl.length (by simp)).keep k4 (by rintro x ⟨⟩; exact hjF)
      have etk : ((a :: tl).reverse.map fun x : Nat => AV.i .i64 (x : Int)).take tl.length = tl.reverse.map fun x : Nat => AV.i .i64 (x : Int) := by
        rw [List.reverse_cons, List.map_append, List.take_append_of_le_length (by simp), List.take_of_length_le (by simp)]
      rw [etk] at rW2
      have d4 : m4.ds = [] := hs4.ds.trans hds
      rcases hv with ⟨rfl, hP4⟩ | ⟨rfl, hS4⟩
      · skip
        repeat (first
          | ((first | refine W_op rfl rfl ?_ | (refine W_opgT rfl rfl ?hg ?_; (case hg => (simp only [upd_at, reduceIte, Nat.reduceEqDiff, Bool.not_true, Bool.not_false]; done)))); simp only [decide_true, decide_false, execE, unE, at_t, at_c, upd_at, upd_none, args0, push_no, get_inn, next_inn, ds_inn, get_put, next_put, ds_put, get_new, next_new, ds_new, getD_cons_zero, getD_cons_succ, getD_nil, reduceIte, Nat.reduceEqDiff, Bool.or_true, Bool.true_or, Bool.or_false, Bool.false_or, Bool.not_true, Bool.not_false, Bool.false_eq_true, beq_self_eq_true, beq_true, Bool.true_beq, beq_false, Bool.false_beq, length_cons, length_nil, Nat.zero_add, Nat.add_zero, Nat.reduceAdd, Nat.reduceLeDiff, getElem?_cons_zero, getElem?_cons_succ, Option.map_some, map_cons, map_nil, true_and, and_true, and_self, Wo_some])
          | (refine W_opgF rfl rfl ?hg ?_; (case hg => (simp only [upd_at, reduceIte, Nat.reduceEqDiff, Bool.not_true, Bool.not_false]; done)))
          | rw [W_seq] | rw [W_reg] | rw [push_no] | rw [W_onil] | rw [W_skip] | rw [W_blk] | rw [W_b] | refine W_regd0 ?_)
        refine W_cond ?_
        simp only [decide_true, decide_false, execE, unE, at_t, at_c, upd_at, upd_none, args0, push_no, get_inn, next_inn, ds_inn, get_put, next_put, ds_put, get_new, next_new, ds_new, getD_cons_zero, getD_cons_succ, getD_nil, reduceIte, Nat.reduceEqDiff, Bool.or_true, Bool.true_or, Bool.or_false, Bool.false_or, Bool.not_true, Bool.not_false, Bool.false_eq_true, beq_self_eq_true, beq_true, Bool.true_beq, beq_false, Bool.false_beq, length_cons, length_nil, Nat.zero_add, Nat.add_zero, Nat.reduceAdd, Nat.reduceLeDiff, getElem?_cons_zero, getElem?_cons_succ, Option.map_some, map_cons, map_nil, true_and, and_true, and_self, WC]
        obtain ⟨ct, ht1, ht2, ht3⟩ := hT4.at_
        obtain ⟨avk, tyk, hck, rK⟩ := ht3 a hal
        have hfl := fl_le up up.length a
        generalize hF : G.fl up up.length a = F at *
        have hlK := rK.lenF (n := F.length) (by simp)
        have hi2 : (0 ≤ (a : Int) ∧ (a : Int) < (up.length : Int)) := ⟨by omega, by omega⟩
        have hw2 : IntKind.i64.wrap ((F.length : Int) - 1) = (F.length : Int) - 1 := wrap64' (n := (F.length : Int) - 1) (by omega) (by omega)
        repeat (first
          | ((first | refine W_op rfl rfl ?_ | (refine W_opgT rfl rfl ?hg ?_; (case hg => (simp only [upd_at, reduceIte, Nat.reduceEqDiff, Bool.not_true, Bool.not_false]; done)))); simp only [decide_true, decide_false, execE, unE, at_t, at_c, upd_at, upd_none, args0, push_no, get_inn, next_inn, ds_inn, get_put, next_put, ds_put, get_new, next_new, ds_new, getD_cons_zero, getD_cons_succ, getD_nil, reduceIte, Nat.reduceEqDiff, Bool.or_true, Bool.true_or, Bool.or_false, Bool.false_or, Bool.not_true, Bool.not_false, Bool.false_eq_true, beq_self_eq_true, beq_true, Bool.true_beq, beq_false, Bool.false_beq, length_cons, length_nil, Nat.zero_add, Nat.add_zero, Nat.reduceAdd, Nat.reduceLeDiff, getElem?_cons_zero, getElem?_cons_succ, Option.map_some, map_cons, map_nil, true_and, and_true, and_self, g2, hi2, Int.toNat_natCast, Nat.mul_one, ht1, hck, ↓hlK, hw2, binE, isShift, intBin, Wo_some])
          | (refine W_opgF rfl rfl ?hg ?_; (case hg => (simp only [upd_at, reduceIte, Nat.reduceEqDiff, Bool.not_true, Bool.not_false]; done)))
          | rw [W_seq] | rw [W_reg] | rw [push_no] | rw [W_onil] | rw [W_skip] | rw [W_blk] | rw [W_b] | refine W_regd0 ?_)
        refine W_cutK [_, _] (fun g' m' => ∃ (j : Nat) (ty : Option Nat), g' 2 = .sl (some (K, 0)) up.length up.length true ∧ g' 3 = .yl lp ∧ Row m' ty (g' 9) (some j) ((F ++ tl).reverse.map fun x : Nat => AV.i .i64 (x : Int)) ∧ m.next < j ∧ (∀ k x, k < up.length → oj k = some x → x ≠ j) ∧ Tab m' K up.length L oj (G.fl up up.length) ∧ P (a + 1) m' ∧ m.next ≤ m'.next ∧ Keep m m' FP ∧ m'.ds = []) ?_ ?_
        · refine W_loop (fun n g' m' => ∃ (r : Nat) (j : Nat) (ty : Option Nat), n = r ∧ r ≤ F.length ∧ g' 10 = .i .i64 a ∧ g' 11 = .i .i64 ((r : Int) - 1) ∧ g' 2 = .sl (some (K, 0)) up.length up.length true ∧ g' 3 = .yl lp ∧ Row m' ty (g' 9) (some j) ((F.drop r ++ tl).reverse.map fun x : Nat => AV.i .i64 (x : Int)) ∧ m.next < j ∧ (∀ k x, k < up.length → oj k = some x → x ≠ j) ∧ Tab m' K up.length L oj (G.fl up up.length) ∧ P (a + 1) m' ∧ m.next ≤ m'.next ∧ Keep m m' FP ∧ m'.ds = []) F.length ?_ ?_ ?_
          · refine ⟨F.length, j, ty, rfl, Nat.le_refl _, ?_, ?_, ?_, ?_, ?_, hj, hjo, hT4, hP4, by omega, hk1.trans k4 (fun x hx => .inl hx), d4⟩
            · skip
              simp only [upd_at, upd_none, reduceIte, Nat.reduceEqDiff, args0, getD_cons_zero, getD_cons_succ, getD_nil]
            · skip
              simp only [upd_at, upd_none, reduceIte, Nat.reduceEqDiff, args0, getD_cons_zero, getD_cons_succ, getD_nil]
            · skip
              simp only [upd_at, upd_none, reduceIte, Nat.reduceEqDiff, args0, getD_cons_zero, getD_cons_succ, getD_nil, g2]
            · skip
              simp only [upd_at, upd_none, reduceIte, Nat.reduceEqDiff, args0, getD_cons_zero, getD_cons_succ, getD_nil, g3]
            · skip
              simp only [upd_at, upd_none, reduceIte, Nat.reduceEqDiff, args0, getD_cons_zero, getD_cons_succ, getD_nil]
              rw [List.drop_length, List.nil_append]
              exact rW2
          · intro i hi
            repeat (first | exact hg i hi | refine upd_un ?_ rfl i hi; clear i hi; intro i hi)
          · clear g2 g3
            rintro n g2' m5 ⟨r, j5, ty5, rfl, hrF, g10, g11, g2, g3, r5, hj5, hjo5, hT5, hP5, hn5, hk5, hds5⟩ hg
            repeat (first
              | ((first | refine W_op rfl rfl ?_ | (refine W_opgT rfl rfl ?hg ?_; (case hg => (simp only [upd_at, reduceIte, Nat.reduceEqDiff, Bool.not_true, Bool.not_false]; done)))); simp only [decide_true, decide_false, execE, unE, at_t, at_c, upd_at, upd_none, args0, push_no, get_inn, next_inn, ds_inn, get_put, next_put, ds_put, get_new, next_new, ds_new, getD_cons_zero, getD_cons_succ, getD_nil, reduceIte, Nat.reduceEqDiff, Bool.or_true, Bool.true_or, Bool.or_false, Bool.false_or, Bool.not_true, Bool.not_false, Bool.false_eq_true, beq_self_eq_true, beq_true, Bool.true_beq, beq_false, Bool.false_beq, length_cons, length_nil, Nat.zero_add, Nat.add_zero, Nat.reduceAdd, Nat.reduceLeDiff, getElem?_cons_zero, getElem?_cons_succ, Option.map_some, map_cons, map_nil, true_and, and_true, and_self, g11, binE, isShift, intBin, Wo_some])
              | (refine W_opgF rfl rfl ?hg ?_; (case hg => (simp only [upd_at, reduceIte, Nat.reduceEqDiff, Bool.not_true, Bool.not_false]; done)))
              | rw [W_seq] | rw [W_reg] | rw [push_no] | rw [W_onil] | rw [W_skip] | rw [W_blk] | rw [W_b] | refine W_regd0 ?_)
            refine W_cond ?_
            simp only [decide_true, decide_false, execE, unE, at_t, at_c, upd_at, upd_none, args0, push_no, get_inn, next_inn, ds_inn, get_put, next_put, ds_put, get_new, next_new, ds_new, getD_cons_zero, getD_cons_succ, getD_nil, reduceIte, Nat.reduceEqDiff, Bool.or_true, Bool.true_or, Bool.or_false, Bool.false_or, Bool.not_true, Bool.not_false, Bool.false_eq_true, beq_self_eq_true, beq_true, Bool.true_beq, beq_false, Bool.false_beq, length_cons, length_nil, Nat.zero_add, Nat.add_zero, Nat.reduceAdd, Nat.reduceLeDiff, getElem?_cons_zero, getElem?_cons_succ, Option.map_some, map_cons, map_nil, true_and, and_true, and_self]
            refine WC_split (fun ht => ?_) (fun hf => ?_)
            · have hr0 : 0 < n := by
                have : (n : Int) - 1 ≥ 0 := by simpa using ht
                omega
              obtain ⟨x, hx⟩ : ∃ x, F[n - 1]? = some x := ⟨_, List.getElem?_eq_getElem (by omega)⟩
              have hdr := drop_cons2 hx
              rw [show n - 1 + 1 = n by omega] at hdr
              obtain ⟨c5, q1, q2, q3⟩ := hT5.at_
              obtain ⟨av5, ty6, hc5, rK5⟩ := q3 a hal
              rw [hF] at rK5
              obtain ⟨y6, c6, ex6, _, hav6, _, hg6, _, hc6, _⟩ := rK5.atN (n := F.length) (i := n - 1) (x := .i .i64 (x : Int)) (by simp) (by rw [List.getElem?_map, hx]; rfl)
              have e11 : (n : Int) - 1 = ((n - 1 : Nat) : Int) := by omega
              rw [e11] at g11
              have hi6 : (0 ≤ ((n - 1 : Nat) : Int) ∧ ((n - 1 : Nat) : Int) < (F.length : Int)) := ⟨by omega, by omega⟩
              have hw6 : IntKind.i64.wrap (((n - 1 : Nat) : Int) - 1) = ((n - 1 : Nat) : Int) - 1 := wrap64' (n := ((n - 1 : Nat) : Int) - 1) (by omega) (by omega)
              have hlen5 : (F.drop n ++ tl).length ≤ 2000 := by simp; omega
              repeat (first
                | ((first | refine W_opN rfl rfl rfl ?_ | (refine W_opgT rfl rfl ?hg ?_; (case hg => (simp only [upd_at, reduceIte, Nat.reduceEqDiff, Bool.not_true, Bool.not_false]; done)))); simp only [decide_true, decide_false, execE, unE, at_t, at_c, upd_at, upd_none, args0, push_no, get_inn, next_inn, ds_inn, get_put, next_put, ds_put, get_new, next_new, ds_new, getD_cons_zero, getD_cons_succ, getD_nil, reduceIte, Nat.reduceEqDiff, Bool.or_true, Bool.true_or, Bool.or_false, Bool.false_or, Bool.not_true, Bool.not_false, Bool.false_eq_true, beq_self_eq_true, beq_true, Bool.true_beq, beq_false, Bool.false_beq, length_cons, length_nil, Nat.zero_add, Nat.add_zero, Nat.reduceAdd, Nat.reduceLeDiff, getElem?_cons_zero, getElem?_cons_succ, Option.map_some, map_cons, map_nil, true_and, and_true, and_self, g2, g10, g11, hi2, hi6, Int.toNat_natCast, Nat.mul_one, q1, hc5, hav6, hg6, hc6, Wo_some])
                | (refine W_opgF rfl rfl ?hg ?_; (case hg => (simp only [upd_at, reduceIte, Nat.reduceEqDiff, Bool.not_true, Bool.not_false]; done)))
                | rw [W_seq] | rw [W_reg] | rw [push_no] | rw [W_onil] | rw [W_skip] | rw [W_blk] | rw [W_b] | refine W_regd0 ?_)
              refine W_push2 rfl rfl rfl ?hs (Row.as r5 ?hrow) ?hone ?hroom ?_
              case hs => simp only [decide_true, decide_false, execE, unE, at_t, at_c, upd_at, upd_none, args0, push_no, get_inn, next_inn, ds_inn, get_put, next_put, ds_put, get_new, next_new, ds_new, getD_cons_zero, getD_cons_succ, getD_nil, reduceIte, Nat.reduceEqDiff, Bool.or_true, Bool.true_or, Bool.or_false, Bool.false_or, Bool.not_true, Bool.not_false, Bool.false_eq_true, beq_self_eq_true, beq_true, Bool.true_beq, beq_false, Bool.false_beq, length_cons, length_nil, Nat.zero_add, Nat.add_zero, Nat.reduceAdd, Nat.reduceLeDiff, getElem?_cons_zero, getElem?_cons_succ, Option.map_some, map_cons, map_nil, true_and, and_true, and_self, g11]
              case hrow => simp only [decide_true, decide_false, execE, unE, at_t, at_c, upd_at, upd_none, args0, push_no, get_inn, next_inn, ds_inn, get_put, next_put, ds_put, get_new, next_new, ds_new, getD_cons_zero, getD_cons_succ, getD_nil, reduceIte, Nat.reduceEqDiff, Bool.or_true, Bool.true_or, Bool.or_false, Bool.false_or, Bool.not_true, Bool.not_false, Bool.false_eq_true, beq_self_eq_true, beq_true, Bool.true_beq, beq_false, Bool.false_beq, length_cons, length_nil, Nat.zero_add, Nat.add_zero, Nat.reduceAdd, Nat.reduceLeDiff, getElem?_cons_zero, getElem?_cons_succ, Option.map_some, map_cons, map_nil, true_and, and_true, and_self, g11]
              case hone => simp only [decide_true, decide_false, execE, unE, at_t, at_c, upd_at, upd_none, args0, push_no, get_inn, next_inn, ds_inn, get_put, next_put, ds_put, get_new, next_new, ds_new, getD_cons_zero, getD_cons_succ, getD_nil, reduceIte, Nat.reduceEqDiff, Bool.or_true, Bool.true_or, Bool.or_false, Bool.false_or, Bool.not_true, Bool.not_false, Bool.false_eq_true, beq_self_eq_true, beq_true, Bool.true_beq, beq_false, Bool.false_beq, length_cons, length_nil, Nat.zero_add, Nat.add_zero, Nat.reduceAdd, Nat.reduceLeDiff, getElem?_cons_zero, getElem?_cons_succ, Option.map_some, map_cons, map_nil, true_and, and_true, and_self, AV.one, g11]
              case hroom => exact roomyOf (by omega) (by simp; omega)
              intro a7 j7 m7 ty7 r7 ds7 ro7 o7 k7
              simp only [decide_true, decide_false, execE, unE, at_t, at_c, upd_at, upd_none, args0, push_no, get_inn, next_inn, ds_inn, get_put, next_put, ds_put, get_new, next_new, ds_new, getD_cons_zero, getD_cons_succ, getD_nil, reduceIte, Nat.reduceEqDiff, Bool.or_true, Bool.true_or, Bool.or_false, Bool.false_or, Bool.not_true, Bool.not_false, Bool.false_eq_true, beq_self_eq_true, beq_true, Bool.true_beq, beq_false, Bool.false_beq, length_cons, length_nil, Nat.zero_add, Nat.add_zero, Nat.reduceAdd, Nat.reduceLeDiff, getElem?_cons_zero, getElem?_cons_succ, Option.map_some, map_cons, map_nil, true_and, and_true, and_self, g11] at r7
              have hlt5 := r5.lt
              have hT7 := hT5.keep k7 (by simp; omega) (fun k x hk hx => by have := hjo5 k x hk hx; simpa using this)
              have hP7 := hPk _ _ _ _ hP5 k7 (by intro x hx; simp at hx; omega)
              have hn7 := k7.next
              repeat (first
                | ((first | refine W_op rfl rfl ?_ | (refine W_opgT rfl rfl ?hg ?_; (case hg => (simp only [upd_at, reduceIte, Nat.reduceEqDiff, Bool.not_true, Bool.not_false]; done)))); simp only [decide_true, decide_false, execE, unE, at_t, at_c, upd_at, upd_none, args0, push_no, get_inn, next_inn, ds_inn, get_put, next_put, ds_put, get_new, next_new, ds_new, getD_cons_zero, getD_cons_succ, getD_nil, reduceIte, Nat.reduceEqDiff, Bool.or_true, Bool.true_or, Bool.or_false, Bool.false_or, Bool.not_true, Bool.not_false, Bool.false_eq_true, beq_self_eq_true, beq_true, Bool.true_beq, beq_false, Bool.false_beq, length_cons, length_nil, Nat.zero_add, Nat.add_zero, Nat.reduceAdd, Nat.reduceLeDiff, getElem?_cons_zero, getElem?_cons_succ, Option.map_some, map_cons, map_nil, true_and, and_true, and_self, g11, hw6, binE, isShift, intBin, Wo_some])
                | (refine W_opgF rfl rfl ?hg ?_; (case hg => (simp only [upd_at, reduceIte, Nat.reduceEqDiff, Bool.not_true, Bool.not_false]; done)))
                | rw [W_seq] | rw [W_reg] | rw [push_no] | rw [W_onil] | rw [W_skip] | rw [W_blk] | rw [W_b] | refine W_regd0 ?_)
              refine W_j (by repeat (first | exact hg | exact args0_un (Nat.le_of_ble_eq_true rfl) | refine upd_un ?_ rfl)) ?_
              refine ⟨n - 1, by omega, n - 1, j7, ty7, rfl, by omega, ?_, ?_, ?_, ?_, ?_, ?_, ?_, hT7, hP7, by omega, hk5.trans k7 (by intro x hx; simp at hx; right; omega), ds7.trans hds5⟩
              · skip
                simp only [upd_at, upd_none, reduceIte, Nat.reduceEqDiff, args0, getD_cons_zero, getD_cons_succ, getD_nil, g10]
              · skip
                simp only [upd_at, upd_none, reduceIte, Nat.reduceEqDiff, args0, getD_cons_zero, getD_cons_succ, getD_nil]
              · skip
                simp only [upd_at, upd_none, reduceIte, Nat.reduceEqDiff, args0, getD_cons_zero, getD_cons_succ, getD_nil, g2]
              · skip
                simp only [upd_at, upd_none, reduceIte, Nat.reduceEqDiff, args0, getD_cons_zero, getD_cons_succ, getD_nil, g3]
              · skip
                simp only [upd_at, upd_none, reduceIte, Nat.reduceEqDiff, args0, getD_cons_zero, getD_cons_succ, getD_nil]
                rw [hdr]
                simpa using r7
              · rcases o7 with h | h
                · have := Option.some.inj h; omega
                · omega
              · intro k x hk hx
                rcases o7 with h | h
                · have := Option.some.inj h; subst this; exact hjo5 k x hk hx
                · obtain ⟨_, tyb, _, b4⟩ := q3 k hk
                  rw [hx] at b4
                  have := b4.lt; omega
            · refine W_exit rfl ?_
              have hr0 : n = 0 := by
                have : ¬ (n : Int) - 1 ≥ 0 := by simpa using hf
                omega
              subst hr0
              refine W_j (by repeat (first | exact hg | exact args0_un (Nat.le_of_ble_eq_true rfl) | refine upd_un ?_ rfl)) ?_
              exact ⟨j5, ty5, g2, g3, r5, hj5, hjo5, hT5, hP5, hn5, hk5, hds5⟩
        · clear g2 g3
          rintro g2' m5 ⟨j5, ty5, g2, g3, r5, hj5, hjo5, hT5, hP5, hn5, hk5, hds5⟩ hg
          repeat (first
            | ((first | refine W_op rfl rfl ?_ | (refine W_opgT rfl rfl ?hg ?_; (case hg => (simp only [upd_at, reduceIte, Nat.reduceEqDiff, Bool.not_true, Bool.not_false]; done)))); simp only [decide_true, decide_false, execE, unE, at_t, at_c, upd_at, upd_none, args0, push_no, get_inn, next_inn, ds_inn, get_put, next_put, ds_put, get_new, next_new, ds_new, getD_cons_zero, getD_cons_succ, getD_nil, reduceIte, Nat.reduceEqDiff, Bool.or_true, Bool.true_or, Bool.or_false, Bool.false_or, Bool.not_true, Bool.not_false, Bool.false_eq_true, beq_self_eq_true, beq_true, Bool.true_beq, beq_false, Bool.false_beq, length_cons, length_nil, Nat.zero_add, Nat.add_zero, Nat.reduceAdd, Nat.reduceLeDiff, getElem?_cons_zero, getElem?_cons_succ, Option.map_some, map_cons, map_nil, true_and, and_true, and_self, Wo_some])
            | (refine W_opgF rfl rfl ?hg ?_; (case hg => (simp only [upd_at, reduceIte, Nat.reduceEqDiff, Bool.not_true, Bool.not_false]; done)))
            | rw [W_seq] | rw [W_reg] | rw [push_no] | rw [W_onil] | rw [W_skip] | rw [W_blk] | rw [W_b] | refine W_regd0 ?_)
          refine W_j (by repeat (first | exact hg | exact args0_un (Nat.le_of_ble_eq_true rfl) | refine upd_un ?_ rfl)) ?_
          refine ⟨up.length - (a + 1), by omega, a + 1, F ++ tl, j5, ty5, rfl, hstep, ?_, ?_, ?_, hj5, hjo5, hT5, hP5, hn5, hk5, hds5⟩
          · exact g2
          · exact g3
          · exact r5
      · skip
        repeat (first
          | ((first | refine W_op rfl rfl ?_ | (refine W_opgT rfl rfl ?hg ?_; (case hg => (simp only [upd_at, reduceIte, Nat.reduceEqDiff, Bool.not_true, Bool.not_false]; done)))); simp only [decide_true, decide_false, execE, unE, at_t, at_c, upd_at, upd_none, args0, push_no, get_inn, next_inn, ds_inn, get_put, next_put, ds_put, get_new, next_new, ds_new, getD_cons_zero, getD_cons_succ, getD_nil, reduceIte, Nat.reduceEqDiff, Bool.or_true, Bool.true_or, Bool.or_false, Bool.false_or, Bool.not_true, Bool.not_false, Bool.false_eq_true, beq_self_eq_true, beq_true, Bool.true_beq, beq_false, Bool.false_beq, length_cons, length_nil, Nat.zero_add, Nat.add_zero, Nat.reduceAdd, Nat.reduceLeDiff, getElem?_cons_zero, getElem?_cons_succ, Option.map_some, map_cons, map_nil, true_and, and_true, and_self, Wo_some])
          | (refine W_opgF rfl rfl ?hg ?_; (case hg => (simp only [upd_at, reduceIte, Nat.reduceEqDiff, Bool.not_true, Bool.not_false]; done)))
          | rw [W_seq] | rw [W_reg] | rw [push_no] | rw [W_onil] | rw [W_skip] | rw [W_blk] | rw [W_b] | refine W_regd0 ?_)
        refine W_cond ?_
        simp only [decide_true, decide_false, execE, unE, at_t, at_c, upd_at, upd_none, args0, push_no, get_inn, next_inn, ds_inn, get_put, next_put, ds_put, get_new, next_new, ds_new, getD_cons_zero, getD_cons_succ, getD_nil, reduceIte, Nat.reduceEqDiff, Bool.or_true, Bool.true_or, Bool.or_false, Bool.false_or, Bool.not_true, Bool.not_false, Bool.false_eq_true, beq_self_eq_true, beq_true, Bool.true_beq, beq_false, Bool.false_beq, length_cons, length_nil, Nat.zero_add, Nat.add_zero, Nat.reduceAdd, Nat.reduceLeDiff, getElem?_cons_zero, getElem?_cons_succ, Option.map_some, map_cons, map_nil, true_and, and_true, and_self, WC]
        repeat (first
          | ((first | refine W_op rfl rfl ?_ | (refine W_opgT rfl rfl ?hg ?_; (case hg => (simp only [upd_at, reduceIte, Nat.reduceEqDiff, Bool.not_true, Bool.not_false]; done)))); simp only [decide_true, decide_false, execE, unE, at_t, at_c, upd_at, upd_none, args0, push_no, get_inn, next_inn, ds_inn, get_put, next_put, ds_put, get_new, next_new, ds_new, getD_cons_zero, getD_cons_succ, getD_nil, reduceIte, Nat.reduceEqDiff, Bool.or_true, Bool.true_or, Bool.or_false, Bool.false_or, Bool.not_true, Bool.not_false, Bool.false_eq_true, beq_self_eq_true, beq_true, Bool.true_beq, beq_false, Bool.false_beq, length_cons, length_nil, Nat.zero_add, Nat.add_zero, Nat.reduceAdd, Nat.reduceLeDiff, getElem?_cons_zero, getElem?_cons_succ, Option.map_some, map_cons, map_nil, true_and, and_true, and_self, Wo_some])
          | (refine W_opgF rfl rfl ?hg ?_; (case hg => (simp only [upd_at, reduceIte, Nat.reduceEqDiff, Bool.not_true, Bool.not_false]; done)))
          | rw [W_seq] | rw [W_reg] | rw [push_no] | rw [W_onil] | rw [W_skip] | rw [W_blk] | rw [W_b] | refine W_regd0 ?_)
        refine W_getRet (by repeat (first | exact hg | exact args0_un (Nat.le_of_ble_eq_true rfl) | refine upd_un ?_ rfl)) ?_
        exact ⟨d4, _, rfl, hT4.keep ((Keep.refl m4 []).out (m0 := m)) (by simp) (by simp), by show m.next ≤ m4.next; omega, (hk1.trans k4 (fun x hx => .inl hx)).out, .inr ⟨rfl, hSk _ _ [] hS4 ((Keep.refl m4 []).out (m0 := m)) (by simp)⟩⟩
end Go.Proofs.YtnbdamdcmofafaaGreatDoor
