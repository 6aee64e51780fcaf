/- Trees of states: a walk, from above. No condition. -/
import Derived.Test.YtnbdamdcmofafaaGreatDoorGwHU
namespace Go.Proofs.YtnbdamdcmofafaaGreatDoor
open Go.Vi
open AMem (get_inn next_inn ds_inn get_put next_put ds_put get_new next_new ds_new)
open List (getD_cons_zero getD_cons_succ getD_nil length_cons length_nil getElem?_cons_zero getElem?_cons_succ map_cons map_nil)
set_option linter.unusedSimpArgs false
set_option linter.unusedVariables false

theorem Tab.push {m m3 : AMem} {K n L : Nat} {oj : Nat → Option Nat} {lst : Nat → List Nat} (h : Tab m K n L oj lst) {k x j : Nat} (hk : k < n) {av : AV} {ty : Option Nat} (hL : L ≤ m.next) (hr : Row m3 ty av (some j) (((lst k).map fun x : Nat => AV.i .i64 (x : Int)) ++ [.i .i64 (x : Int)])) (ho : oj k = some j ∨ m.next ≤ j) (hkp : Keep m m3 (oj k).toList) {c : List AV} (hc : m3.get K = some (.cells c true ⟨1, none⟩)) :
    Tab (m3.put K (some (.cells (splice c k [av]) true ⟨1, none⟩))) K n L (fun i => if i = k then some j else oj i) (fun i => if i = k then lst k ++ [x] else lst i) := by
  obtain ⟨c0, h1, h2, h3⟩ := h.at_
  have hK3 : m3.get K = some (.cells c0 true ⟨1, none⟩) := hkp.at h.hi (by intro hm; simp at hm; exact (h.lows k K hk hm).2 rfl) h1
  rw [hc] at hK3
  simp only [Option.some.injEq, AObj.cells.injEq, and_true] at hK3
  subst hK3
  have hset : splice c k [av] = c.set k av := by
    rw [List.set_eq_take_append_cons_drop, if_pos (by omega)]
    simp [splice]
  have hjK : j ≠ K := by
    rcases ho with e | e
    · exact (h.lows k j hk e).2
    · have := h.hi; omega
  have hjL : L ≤ j := by
    rcases ho with e | e
    · exact (h.lows k j hk e).1
    · omega
  have hkP := Keep.put m3 K (some (.cells (splice c k [av]) true ⟨1, none⟩))
  refine ⟨⟨splice c k [av], by rw [AMem.get_put, if_pos rfl], by rw [hset, List.length_set]; exact h2, fun i hi => ?_⟩, h.lo, by simp; exact Nat.lt_of_lt_of_le h.hi hkp.next, fun i jj hi hj => ?_, fun i i' jj jj' hi hi' hne hj hj' => ?_⟩
  · by_cases e : i = k
    · subst e
      refine ⟨av, ty, by rw [hset, List.getElem?_set, if_pos rfl, if_pos (by omega)], ?_⟩
      simp only [if_true]
      have := hr.keep hkP (by rintro y ⟨⟩; simpa using hjK)
      simpa using this
    · obtain ⟨a, t, q1, q2⟩ := h3 i hi
      refine ⟨a, t, by rw [hset, List.getElem?_set, if_neg (fun e' => e e'.symm)]; exact q1, ?_⟩
      simp only [if_neg e]
      refine (q2.keep hkp fun y hy hm => ?_).keep hkP fun y hy => ?_
      · simp at hm
        exact h.apart i k y y hi hk e hy hm rfl
      · have := (h.lows i y hi hy).2
        simpa using this
  · by_cases e : i = k
    · simp only [if_pos e, Option.some.injEq] at hj
      subst hj
      exact ⟨hjL, hjK⟩
    · simp only [if_neg e] at hj
      exact h.lows i jj hi hj
  · have old : ∀ q, q < n → q ≠ k → ∀ y, oj q = some y → y ≠ j := fun q hq hqk y hy => by
      rcases ho with e | e
      · exact h.apart q k y j hq hk hqk hy e
      · obtain ⟨a, t, _, q2⟩ := h3 q hq
        rw [hy] at q2
        have := q2.lt; omega
    by_cases e : i = k
    · have e' : ¬ i' = k := fun e' => hne (e.trans e'.symm)
      simp only [if_pos e, Option.some.injEq] at hj
      simp only [if_neg e'] at hj'
      subst hj
      exact (old i' hi' e' jj' hj').symm
    · simp only [if_neg e] at hj
      by_cases e' : i' = k
      · simp only [if_pos e', Option.some.injEq] at hj'
        subst hj'
        exact old i hi e jj hj
      · simp only [if_neg e'] at hj'
        exact h.apart i i' jj jj' hi hi' hne hj hj'

theorem Tab.cong {m : AMem} {K n L : Nat} {oj : Nat → Option Nat} {lst lst' : Nat → List Nat} (h : Tab m K n L oj lst) (e : ∀ k, k < n → lst k = lst' k) : Tab m K n L oj lst' := by
  obtain ⟨c, h1, h2, h3⟩ := h.at_
  refine ⟨⟨c, h1, h2, fun k hk => ?_⟩, h.lo, h.hi, h.lows, h.apart⟩
  obtain ⟨av, ty, q1, q2⟩ := h3 k hk
  exact ⟨av, ty, q1, by rw [← e k hk]; exact q2⟩

set_option maxHeartbeats 4000000 in
theorem call58 {P : Nat → AMem → Prop} {S : AMem → Prop} {m : AMem} {u : AV} {ju : Option Nat} {up : List Int} {st : List Nat} {bj lp : Nat} {FP : List Nat} (g0 : G.GI up st) (hlu : up.length ≤ 600) (hu : Row m (some 3) u ju (up.map fun n : Int => .i .i64 n)) (hb : m.get bj = some (.cells [u] true ⟨1, none⟩)) (hbn : bj < m.next) (hbF : bj ∉ FP) (huF : ∀ j, ju = some j → j ∉ FP)
    (hFP : ∀ x ∈ FP, x < m.next) (hPk : ∀ c m' m'' fp, P c m' → Keep m' m'' fp → (∀ x ∈ fp, m.next ≤ x) → P c m'') (hSk : ∀ m' m'' fp, S m' → Keep m' m'' fp → (∀ x ∈ fp, m.next ≤ x) → S m'')
    (hy : ∀ c m', c < up.length → P c m' → CallC T (.y lp) [.i .i64 c] m' (fun v m'' => Keep m' m'' FP ∧ ((v = .b true ∧ P (c + 1) m'') ∨ (v = .b false ∧ S m''))))
    (hP : P 0 m) :
    Vi.Call T 58 [.yl lp, .p (some (bj, 0))] m (fun _ m' => P up.length m' ∨ S m') := by
  have hlen := hu.lenF (n := up.length) (by simp)
  have hou := hu.one
  have hjl : ∀ j, ju = some j → j < m.next := by rintro j rfl; exact hu.lt
  refine Vi.Call.ofP T58 (Nat.le_of_ble_eq_true rfl) ?_
  unfold v58
  have hmk : (0 ≤ (up.length : Int) ∧ (up.length : Int) ≤ (up.length : Int) ∧ (up.length : Int) * 24 ≤ 140737488355328 ∧ (up.length : Int) ≤ 9223372036854775807) := ⟨by omega, by omega, by omega, by omega⟩
  have hmk2 : ∀ (e : X → AV) (mm : AMem) (x : X), e x = .i .i64 up.length → execE (.mks 1 24 [.sl none 0 0 true] x x) e mm = some (.sl (some (mm.next, 0)) up.length up.length true, mm.new (.cells ((List.range up.length).map fun _ => .sl none 0 0 true) true ⟨1, none⟩)) := by
    intro e mm x hx
    simp only [execE, hx]
    have hmk' : (0 ≤ (up.length : Int) ∧ (up.length : Int) ≤ (up.length : Int) ∧ (up.length : Int) * ((24 : Nat) : Int) ≤ 140737488355328 ∧ (up.length : Int) ≤ 9223372036854775807) := ⟨by omega, by omega, by omega, by omega⟩
    rw [if_pos hmk']
    simp only [Int.toNat_natCast, Nat.mul_one]
    congr 4
    refine List.map_congr_left fun k _ => ?_
    rw [Nat.mod_one]; rfl
  have hbne : ¬ m.next = bj := by omega
  repeat (first
    | ((first | refine W_op rfl rfl ?_ | (refine W_opgT rfl rfl ?hg ?_; (case hg => (simp only [upd_at, reduceIte, Nat.reduceEqDiff, Bool.not_true, Bool.not_false]; done)))); simp only [decide_true, decide_false, execE, unE, at_t, at_c, upd_at, upd_none, args0, push_no, get_inn, next_inn, ds_inn, get_put, next_put, ds_put, get_new, next_new, ds_new, getD_cons_zero, getD_cons_succ, getD_nil, reduceIte, Nat.reduceEqDiff, Bool.or_true, Bool.true_or, Bool.or_false, Bool.false_or, Bool.not_true, Bool.not_false, Bool.false_eq_true, beq_self_eq_true, beq_true, Bool.true_beq, beq_false, Bool.false_beq, length_cons, length_nil, Nat.zero_add, Nat.add_zero, Nat.reduceAdd, Nat.reduceLeDiff, getElem?_cons_zero, getElem?_cons_succ, Option.map_some, map_cons, map_nil, true_and, and_true, and_self, hb, hbne, ↓hlen, ↓hmk2, Wo_some])
    | (refine W_opgF rfl rfl ?hg ?_; (case hg => (simp only [upd_at, reduceIte, Nat.reduceEqDiff, Bool.not_true, Bool.not_false]; done)))
    | rw [W_seq] | rw [W_reg] | rw [push_no] | rw [W_onil] | rw [W_skip] | rw [W_blk] | rw [W_b] | refine W_regd0 ?_)
  obtain ⟨mX, hmX, x1, x2, x3, x4⟩ : ∃ mX : AMem, mX = m.inn.new (.cells ((List.range up.length).map fun _ => .sl none 0 0 true) true ⟨1, none⟩) ∧ mX.next = m.next + 1 ∧ mX.get m.next = some (.cells ((List.range up.length).map fun _ => .sl none 0 0 true) true ⟨1, none⟩) ∧ Keep m mX [] ∧ mX.ds = [] :=
    ⟨_, rfl, rfl, by rw [AMem.get_new, if_pos (show m.inn.next = m.next from rfl)], (Keep.new m.inn _).ofInn, rfl⟩
  rw [← hmX]
  clear hmX
  have hTX : Tab mX m.next up.length m.next (fun _ => none) (G.fl up 0) := by
    refine ⟨⟨_, x2, by simp, fun k hk => ⟨.sl none 0 0 true, none, by rw [List.getElem?_map, List.getElem?_range hk]; rfl, rfl, by simp [G.fl]⟩⟩, Nat.le_refl _, by omega, fun k j _ h => by simp at h, fun k k' j j' _ _ _ h => by simp at h⟩
  have huX := hu.keep x3 (by simp)
  have hPX := hPk _ _ _ [] hP x3 (by simp)
  have hbX := x3.at hbn (by simp) hb
  have hlenX := hlen
  refine W_cutK [_, _] (fun g' m' => ∃ (oj : Nat → Option Nat) (jr : Option Nat) (ty : Option Nat), g' 0 = .yl lp ∧ g' 1 = .p (some (bj, 0)) ∧ g' 3 = .sl (some (m.next, 0)) up.length up.length true ∧ Row m' ty (g' 4) jr ((G.rl up up.length).map fun x : Nat => AV.i .i64 (x : Int)) ∧ (∀ j, jr = some j → m.next < j) ∧ Tab m' m.next up.length m.next oj (G.fl up up.length) ∧ Keep m m' [] ∧ m'.ds = []) ?_ ?_
  · refine W_loop (fun n g' m' => ∃ (i : Nat) (oj : Nat → Option Nat) (jr : Option Nat) (ty : Option Nat), i ≤ up.length ∧ n = up.length - i ∧ g' 0 = .yl lp ∧ g' 1 = .p (some (bj, 0)) ∧ g' 3 = .sl (some (m.next, 0)) up.length up.length true ∧ g' 14 = u ∧ g' 15 = .i .i64 up.length ∧ g' 16 = .i .i64 i ∧ Row m' ty (g' 4) jr ((G.rl up i).map fun x : Nat => AV.i .i64 (x : Int)) ∧ (∀ j, jr = some j → m.next < j) ∧ (∀ k x y, k < up.length → oj k = some x → jr = some y → x ≠ y) ∧ Tab m' m.next up.length m.next oj (G.fl up i) ∧ Keep m m' [] ∧ m'.ds = []) up.length ?_ ?_ ?_
    · refine ⟨0, fun _ => none, none, none, Nat.zero_le _, rfl, ?_, ?_, ?_, ?_, ?_, ?_, ?_, nofun, nofun, hTX, x3, x4⟩
      · skip
        simp only [upd_at, upd_none, reduceIte, Nat.reduceEqDiff, args0, getD_cons_zero, getD_cons_succ, getD_nil]
      · skip
        simp only [upd_at, upd_none, reduceIte, Nat.reduceEqDiff, args0, getD_cons_zero, getD_cons_succ, getD_nil]
      · skip
        simp only [upd_at, upd_none, reduceIte, Nat.reduceEqDiff, args0, getD_cons_zero, getD_cons_succ, getD_nil]
      · skip
        simp only [upd_at, upd_none, reduceIte, Nat.reduceEqDiff, args0, getD_cons_zero, getD_cons_succ, getD_nil]
      · skip
        simp only [upd_at, upd_none, reduceIte, Nat.reduceEqDiff, args0, getD_cons_zero, getD_cons_succ, getD_nil]
      · skip
        simp only [upd_at, upd_none, reduceIte, Nat.reduceEqDiff, args0, getD_cons_zero, getD_cons_succ, getD_nil, Int.ofNat_zero]
        try rfl
      · skip
        simp only [upd_at, upd_none, reduceIte, Nat.reduceEqDiff, args0, getD_cons_zero, getD_cons_succ, getD_nil]
        exact ⟨rfl, by simp [G.rl]⟩
    · intro i hi
      repeat (first | exact args0_un (Nat.le_of_ble_eq_true rfl) i hi | refine upd_un ?_ rfl i hi; clear i hi; intro i hi)
    · rintro n g m1 ⟨i, oj, jr, ty, hi, rfl, q0, q1, q3, q14, q15, q16, rR, hjr, hrj, hT1, hk1, hds⟩ hg
      repeat (first
        | ((first | refine W_op rfl rfl ?_ | (refine W_opgT rfl rfl ?hg ?_; (case hg => (simp only [upd_at, reduceIte, Nat.reduceEqDiff, Bool.not_true, Bool.not_false]; done)))); simp only [decide_true, decide_false, execE, unE, at_t, at_c, upd_at, upd_none, args0, push_no, get_inn, next_inn, ds_inn, get_put, next_put, ds_put, get_new, next_new, ds_new, getD_cons_zero, getD_cons_succ, getD_nil, reduceIte, Nat.reduceEqDiff, Bool.or_true, Bool.true_or, Bool.or_false, Bool.false_or, Bool.not_true, Bool.not_false, Bool.false_eq_true, beq_self_eq_true, beq_true, Bool.true_beq, beq_false, Bool.false_beq, length_cons, length_nil, Nat.zero_add, Nat.add_zero, Nat.reduceAdd, Nat.reduceLeDiff, getElem?_cons_zero, getElem?_cons_succ, Option.map_some, map_cons, map_nil, true_and, and_true, and_self, q15, q16, binE, isShift, intBin, Wo_some])
        | (refine W_opgF rfl rfl ?hg ?_; (case hg => (simp only [upd_at, reduceIte, Nat.reduceEqDiff, Bool.not_true, Bool.not_false]; done)))
        | rw [W_seq] | rw [W_reg] | rw [push_no] | rw [W_onil] | rw [W_skip] | rw [W_blk] | rw [W_b] | refine W_regd0 ?_)
      refine W_cond ?_
      simp only [decide_true, decide_false, execE, unE, at_t, at_c, upd_at, upd_none, args0, push_no, get_inn, next_inn, ds_inn, get_put, next_put, ds_put, get_new, next_new, ds_new, getD_cons_zero, getD_cons_succ, getD_nil, reduceIte, Nat.reduceEqDiff, Bool.or_true, Bool.true_or, Bool.or_false, Bool.false_or, Bool.not_true, Bool.not_false, Bool.false_eq_true, beq_self_eq_true, beq_true, Bool.true_beq, beq_false, Bool.false_beq, length_cons, length_nil, Nat.zero_add, Nat.add_zero, Nat.reduceAdd, Nat.reduceLeDiff, getElem?_cons_zero, getElem?_cons_succ, Option.map_some, map_cons, map_nil, true_and, and_true, and_self]
      refine WC_split (fun ht => ?_) (fun hf => ?_)
      · have hlt : i < up.length := by simpa using ht
        obtain ⟨y, hyy⟩ : ∃ y, up[i]? = some y := ⟨_, List.getElem?_eq_getElem hlt⟩
        have hyr := g0.rng i y hyy
        have hu1 := hu.keep hk1 (by simp)
        obtain ⟨z1, c1, ex1, _, hav1, _, hg1, _, hc1, _⟩ := hu1.atN (n := up.length) (i := i) (x := .i .i64 y) (by simp) (by rw [List.getElem?_map, hyy]; rfl)
        have hix : (0 ≤ (i : Int) ∧ (i : Int) < (up.length : Int)) := ⟨by omega, by omega⟩
        have hw : IntKind.i64.wrap ((i : Int) + 1) = ((i + 1 : Nat) : Int) := (wrap64' (n := (i : Int) + 1) (by omega) (by omega)).trans (by omega)
        have hn1 := hk1.next
        have hrll : (G.rl up i).length ≤ 1000 := by
          have := inc_len (n := i) (G.rl_sorted up i) (fun x hx => (G.rl_mem.1 hx).1)
          omega
        cases hA : decide (y < 0)
        · have hy0 : 0 ≤ y := by simpa using hA
          obtain ⟨k, rfl⟩ : ∃ k : Nat, y = k := ⟨y.toNat, by omega⟩
          have hk : k < up.length := by omega
          obtain ⟨c, hcK, hcl, hrows⟩ := hT1.at_
          obtain ⟨avk, tyk, hck, rK⟩ := hrows k hk
          have hfl := fl_le up i k
          have hik : (0 ≤ (k : Int) ∧ (k : Int) < (up.length : Int)) := ⟨by omega, by omega⟩
          repeat (first
            | ((first | refine W_op rfl rfl ?_ | (refine W_opgT rfl rfl ?hg ?_; (case hg => (simp only [upd_at, reduceIte, Nat.reduceEqDiff, Bool.not_true, Bool.not_false]; done)))); simp only [decide_true, decide_false, execE, unE, at_t, at_c, upd_at, upd_none, args0, push_no, get_inn, next_inn, ds_inn, get_put, next_put, ds_put, get_new, next_new, ds_new, getD_cons_zero, getD_cons_succ, getD_nil, reduceIte, Nat.reduceEqDiff, Bool.or_true, Bool.true_or, Bool.or_false, Bool.false_or, Bool.not_true, Bool.not_false, Bool.false_eq_true, beq_self_eq_true, beq_true, Bool.true_beq, beq_false, Bool.false_beq, length_cons, length_nil, Nat.zero_add, Nat.add_zero, Nat.reduceAdd, Nat.reduceLeDiff, getElem?_cons_zero, getElem?_cons_succ, Option.map_some, map_cons, map_nil, true_and, and_true, and_self, q14, q15, q16, hav1, hix, Int.toNat_natCast, Nat.mul_one, hg1, hc1, binE, isShift, intBin, hA, Wo_some])
            | (refine W_opgF rfl rfl ?hg ?_; (case hg => (simp only [upd_at, reduceIte, Nat.reduceEqDiff, Bool.not_true, Bool.not_false]; done)))
            | rw [W_seq] | rw [W_reg] | rw [push_no] | rw [W_onil] | rw [W_skip] | rw [W_blk] | rw [W_b] | refine W_regd0 ?_)
          refine W_cond ?_
          simp only [decide_true, decide_false, execE, unE, at_t, at_c, upd_at, upd_none, args0, push_no, get_inn, next_inn, ds_inn, get_put, next_put, ds_put, get_new, next_new, ds_new, getD_cons_zero, getD_cons_succ, getD_nil, reduceIte, Nat.reduceEqDiff, Bool.or_true, Bool.true_or, Bool.or_false, Bool.false_or, Bool.not_true, Bool.not_false, Bool.false_eq_true, beq_self_eq_true, beq_true, Bool.true_beq, beq_false, Bool.false_beq, length_cons, length_nil, Nat.zero_add, Nat.add_zero, Nat.reduceAdd, Nat.reduceLeDiff, getElem?_cons_zero, getElem?_cons_succ, Option.map_some, map_cons, map_nil, true_and, and_true, and_self, WC]
          repeat (first
            | ((first | refine W_opN rfl rfl rfl ?_ | (refine W_opgT rfl rfl ?hg ?_; (case hg => (simp only [upd_at, reduceIte, Nat.reduceEqDiff, Bool.not_true, Bool.not_false]; done)))); simp only [decide_true, decide_false, execE, unE, at_t, at_c, upd_at, upd_none, args0, push_no, get_inn, next_inn, ds_inn, get_put, next_put, ds_put, get_new, next_new, ds_new, getD_cons_zero, getD_cons_succ, getD_nil, reduceIte, Nat.reduceEqDiff, Bool.or_true, Bool.true_or, Bool.or_false, Bool.false_or, Bool.not_true, Bool.not_false, Bool.false_eq_true, beq_self_eq_true, beq_true, Bool.true_beq, beq_false, Bool.false_beq, length_cons, length_nil, Nat.zero_add, Nat.add_zero, Nat.reduceAdd, Nat.reduceLeDiff, getElem?_cons_zero, getElem?_cons_succ, Option.map_some, map_cons, map_nil, true_and, and_true, and_self, q3, hik, Int.toNat_natCast, Nat.mul_one, hcK, hck, Wo_some])
            | (refine W_opgF rfl rfl ?hg ?_; (case hg => (simp only [upd_at, reduceIte, Nat.reduceEqDiff, Bool.not_true, Bool.not_false]; done)))
            | rw [W_seq] | rw [W_reg] | rw [push_no] | rw [W_onil] | rw [W_skip] | rw [W_blk] | rw [W_b] | refine W_regd0 ?_)
          refine W_push2 rfl rfl rfl ?hs (Row.as rK ?hrow) ?hone ?hroom ?_
          case hs => simp only [decide_true, decide_false, execE, unE, at_t, at_c, upd_at, upd_none, args0, push_no, get_inn, next_inn, ds_inn, get_put, next_put, ds_put, get_new, next_new, ds_new, getD_cons_zero, getD_cons_succ, getD_nil, reduceIte, Nat.reduceEqDiff, Bool.or_true, Bool.true_or, Bool.or_false, Bool.false_or, Bool.not_true, Bool.not_false, Bool.false_eq_true, beq_self_eq_true, beq_true, Bool.true_beq, beq_false, Bool.false_beq, length_cons, length_nil, Nat.zero_add, Nat.add_zero, Nat.reduceAdd, Nat.reduceLeDiff, getElem?_cons_zero, getElem?_cons_succ, Option.map_some, map_cons, map_nil, true_and, and_true, and_self]
          case hrow => simp only [decide_true, decide_false, execE, unE, at_t, at_c, upd_at, upd_none, args0, push_no, get_inn, next_inn, ds_inn, get_put, next_put, ds_put, get_new, next_new, ds_new, getD_cons_zero, getD_cons_succ, getD_nil, reduceIte, Nat.reduceEqDiff, Bool.or_true, Bool.true_or, Bool.or_false, Bool.false_or, Bool.not_true, Bool.not_false, Bool.false_eq_true, beq_self_eq_true, beq_true, Bool.true_beq, beq_false, Bool.false_beq, length_cons, length_nil, Nat.zero_add, Nat.add_zero, Nat.reduceAdd, Nat.reduceLeDiff, getElem?_cons_zero, getElem?_cons_succ, Option.map_some, map_cons, map_nil, true_and, and_true, and_self]
          case hone => simp only [decide_true, decide_false, execE, unE, at_t, at_c, upd_at, upd_none, args0, push_no, get_inn, next_inn, ds_inn, get_put, next_put, ds_put, get_new, next_new, ds_new, getD_cons_zero, getD_cons_succ, getD_nil, reduceIte, Nat.reduceEqDiff, Bool.or_true, Bool.true_or, Bool.or_false, Bool.false_or, Bool.not_true, Bool.not_false, Bool.false_eq_true, beq_self_eq_true, beq_true, Bool.true_beq, beq_false, Bool.false_beq, length_cons, length_nil, Nat.zero_add, Nat.add_zero, Nat.reduceAdd, Nat.reduceLeDiff, getElem?_cons_zero, getElem?_cons_succ, Option.map_some, map_cons, map_nil, true_and, and_true, and_self, AV.one]
          case hroom => exact roomyOf (by omega) (by simp; omega)
          intro a5 j5 m5 ty5 r5 ds5 ro5 o5 k5
          simp only [decide_true, decide_false, execE, unE, at_t, at_c, upd_at, upd_none, args0, push_no, get_inn, next_inn, ds_inn, get_put, next_put, ds_put, get_new, next_new, ds_new, getD_cons_zero, getD_cons_succ, getD_nil, reduceIte, Nat.reduceEqDiff, Bool.or_true, Bool.true_or, Bool.or_false, Bool.false_or, Bool.not_true, Bool.not_false, Bool.false_eq_true, beq_self_eq_true, beq_true, Bool.true_beq, beq_false, Bool.false_beq, length_cons, length_nil, Nat.zero_add, Nat.add_zero, Nat.reduceAdd, Nat.reduceLeDiff, getElem?_cons_zero, getElem?_cons_succ, Option.map_some, map_cons, map_nil, true_and, and_true, and_self] at r5
          have hcK5 : m5.get m.next = some (.cells c true ⟨1, none⟩) := k5.at hT1.hi (by intro hm; simp at hm; exact (hT1.lows k _ hk hm).2 rfl) hcK
          have hT5 := hT1.push (x := i) hk (by omega) r5 o5 k5 hcK5
          have hc5 := one_cells r5.one
          have e5 := r5.one
          have hlt2 : k + 1 ≤ c.length := by omega
          have hn5 := k5.next
          have lo5 : ∀ x, oj k = some x → m.next ≤ x := fun x hx => (hT1.lows k x hk hx).1
          have kA : Keep m (m5.put m.next (some (.cells (splice c k [a5]) true ⟨1, none⟩))) [] := (hk1.trans k5 (by intro x hx; simp at hx; right; exact lo5 x hx)).trans (Keep.put _ _ _) (by intro x hx; simp at hx; right; omega)
          repeat (first
            | ((first | refine W_op rfl rfl ?_ | (refine W_opgT rfl rfl ?hg ?_; (case hg => (simp only [upd_at, reduceIte, Nat.reduceEqDiff, Bool.not_true, Bool.not_false]; done)))); simp only [decide_true, decide_false, execE, unE, at_t, at_c, upd_at, upd_none, args0, push_no, get_inn, next_inn, ds_inn, get_put, next_put, ds_put, get_new, next_new, ds_new, getD_cons_zero, getD_cons_succ, getD_nil, reduceIte, Nat.reduceEqDiff, Bool.or_true, Bool.true_or, Bool.or_false, Bool.false_or, Bool.not_true, Bool.not_false, Bool.false_eq_true, beq_self_eq_true, beq_true, Bool.true_beq, beq_false, Bool.false_beq, length_cons, length_nil, Nat.zero_add, Nat.add_zero, Nat.reduceAdd, Nat.reduceLeDiff, getElem?_cons_zero, getElem?_cons_succ, Option.map_some, map_cons, map_nil, true_and, and_true, and_self, q3, q16, hik, Int.toNat_natCast, Nat.mul_one, hcK5, hc5, e5, List.length_cons, List.length_nil, List.all_cons, List.all_nil, Bool.and_self, hlt2, hw, binE, isShift, intBin, Wo_some])
            | (refine W_opgF rfl rfl ?hg ?_; (case hg => (simp only [upd_at, reduceIte, Nat.reduceEqDiff, Bool.not_true, Bool.not_false]; done)))
            | rw [W_seq] | rw [W_reg] | rw [push_no] | rw [W_onil] | rw [W_skip] | rw [W_blk] | rw [W_b] | refine W_regd0 ?_)
          refine W_j (by repeat (first | exact hg | exact args0_un (Nat.le_of_ble_eq_true rfl) | refine upd_un ?_ rfl)) ?_
          refine ⟨up.length - (i + 1), by omega, i + 1, _, jr, ty, by omega, rfl, ?_, ?_, ?_, ?_, ?_, ?_, ?_, hjr, ?_, hT5.cong ?_, kA, ds5.trans hds⟩
          · skip
            simp only [upd_at, upd_none, reduceIte, Nat.reduceEqDiff, args0, getD_cons_zero, getD_cons_succ, getD_nil, q0]
          · skip
            simp only [upd_at, upd_none, reduceIte, Nat.reduceEqDiff, args0, getD_cons_zero, getD_cons_succ, getD_nil, q1]
          · skip
            simp only [upd_at, upd_none, reduceIte, Nat.reduceEqDiff, args0, getD_cons_zero, getD_cons_succ, getD_nil, q3]
          · skip
            simp only [upd_at, upd_none, reduceIte, Nat.reduceEqDiff, args0, getD_cons_zero, getD_cons_succ, getD_nil, q14, hav1]
          · skip
            simp only [upd_at, upd_none, reduceIte, Nat.reduceEqDiff, args0, getD_cons_zero, getD_cons_succ, getD_nil, q15]
          · skip
            simp only [upd_at, upd_none, reduceIte, Nat.reduceEqDiff, args0, getD_cons_zero, getD_cons_succ, getD_nil]
          · skip
            simp only [upd_at, upd_none, reduceIte, Nat.reduceEqDiff, args0, getD_cons_zero, getD_cons_succ, getD_nil]
            rw [G.rl_succ, if_neg (by rw [hyy]; simp)]
            refine (rR.keep k5 (fun x hx hm => ?_)).keep (Keep.put _ _ _) (fun x hx hm => ?_)
            · simp at hm
              exact hrj k x x hk hm hx rfl
            · simp at hm
              have := hjr x hx; omega
          · intro q x z hq hx hz
            by_cases e : q = k
            · simp only [if_pos e, Option.some.injEq] at hx
              subst hx
              rcases o5 with h5 | h5
              · exact hrj k _ z hk h5 hz
              · have : z < m1.next := by
                  rw [hz] at rR; exact rR.lt
                omega
            · simp only [if_neg e] at hx
              exact hrj q x z hq hx hz
          · intro q hq
            rw [G.fl_succ]
            by_cases e : q = k
            · subst e
              rw [if_pos rfl, if_pos hyy]
            · rw [if_neg e, if_neg (by rw [hyy]; simp; omega)]
        · have hy1 : y = -1 := by
            have : y < 0 := by simpa using hA
            omega
          subst hy1
          repeat (first
            | ((first | refine W_op rfl rfl ?_ | (refine W_opgT rfl rfl ?hg ?_; (case hg => (simp only [upd_at, reduceIte, Nat.reduceEqDiff, Bool.not_true, Bool.not_false]; done)))); simp only [decide_true, decide_false, execE, unE, at_t, at_c, upd_at, upd_none, args0, push_no, get_inn, next_inn, ds_inn, get_put, next_put, ds_put, get_new, next_new, ds_new, getD_cons_zero, getD_cons_succ, getD_nil, reduceIte, Nat.reduceEqDiff, Bool.or_true, Bool.true_or, Bool.or_false, Bool.false_or, Bool.not_true, Bool.not_false, Bool.false_eq_true, beq_self_eq_true, beq_true, Bool.true_beq, beq_false, Bool.false_beq, length_cons, length_nil, Nat.zero_add, Nat.add_zero, Nat.reduceAdd, Nat.reduceLeDiff, getElem?_cons_zero, getElem?_cons_succ, Option.map_some, map_cons, map_nil, true_and, and_true, and_self, q14, q15, q16, hav1, hix, Int.toNat_natCast, Nat.mul_one, hg1, hc1, binE, isShift, intBin, hA, Wo_some])
            | (refine W_opgF rfl rfl ?hg ?_; (case hg => (simp only [upd_at, reduceIte, Nat.reduceEqDiff, Bool.not_true, Bool.not_false]; done)))
            | rw [W_seq] | rw [W_reg] | rw [push_no] | rw [W_onil] | rw [W_skip] | rw [W_blk] | rw [W_b] | refine W_regd0 ?_)
          refine W_cond ?_
          simp only [decide_true, decide_false, execE, unE, at_t, at_c, upd_at, upd_none, args0, push_no, get_inn, next_inn, ds_inn, get_put, next_put, ds_put, get_new, next_new, ds_new, getD_cons_zero, getD_cons_succ, getD_nil, reduceIte, Nat.reduceEqDiff, Bool.or_true, Bool.true_or, Bool.or_false, Bool.false_or, Bool.not_true, Bool.not_false, Bool.false_eq_true, beq_self_eq_true, beq_true, Bool.true_beq, beq_false, Bool.false_beq, length_cons, length_nil, Nat.zero_add, Nat.add_zero, Nat.reduceAdd, Nat.reduceLeDiff, getElem?_cons_zero, getElem?_cons_succ, Option.map_some, map_cons, map_nil, true_and, and_true, and_self, WC]
          repeat (first
            | ((first | refine W_opN rfl rfl rfl ?_ | (refine W_opgT rfl rfl ?hg ?_; (case hg => (simp only [upd_at, reduceIte, Nat.reduceEqDiff, Bool.not_true, Bool.not_false]; done)))); simp only [decide_true, decide_false, execE, unE, at_t, at_c, upd_at, upd_none, args0, push_no, get_inn, next_inn, ds_inn, get_put, next_put, ds_put, get_new, next_new, ds_new, getD_cons_zero, getD_cons_succ, getD_nil, reduceIte, Nat.reduceEqDiff, Bool.or_true, Bool.true_or, Bool.or_false, Bool.false_or, Bool.not_true, Bool.not_false, Bool.false_eq_true, beq_self_eq_true, beq_true, Bool.true_beq, beq_false, Bool.false_beq, length_cons, length_nil, Nat.zero_add, Nat.add_zero, Nat.reduceAdd, Nat.reduceLeDiff, getElem?_cons_zero, getElem?_cons_succ, Option.map_some, map_cons, map_nil, true_and, and_true, and_self, Wo_some])
            | (refine W_opgF rfl rfl ?hg ?_; (case hg => (simp only [upd_at, reduceIte, Nat.reduceEqDiff, Bool.not_true, Bool.not_false]; done)))
            | rw [W_seq] | rw [W_reg] | rw [push_no] | rw [W_onil] | rw [W_skip] | rw [W_blk] | rw [W_b] | refine W_regd0 ?_)
          refine W_push2 rfl rfl rfl ?hs (Row.as rR ?hrow) ?hone ?hroom ?_
          case hs => simp only [decide_true, decide_false, execE, unE, at_t, at_c, upd_at, upd_none, args0, push_no, get_inn, next_inn, ds_inn, get_put, next_put, ds_put, get_new, next_new, ds_new, getD_cons_zero, getD_cons_succ, getD_nil, reduceIte, Nat.reduceEqDiff, Bool.or_true, Bool.true_or, Bool.or_false, Bool.false_or, Bool.not_true, Bool.not_false, Bool.false_eq_true, beq_self_eq_true, beq_true, Bool.true_beq, beq_false, Bool.false_beq, length_cons, length_nil, Nat.zero_add, Nat.add_zero, Nat.reduceAdd, Nat.reduceLeDiff, getElem?_cons_zero, getElem?_cons_succ, Option.map_some, map_cons, map_nil, true_and, and_true, and_self]
          case hrow => simp only [decide_true, decide_false, execE, unE, at_t, at_c, upd_at, upd_none, args0, push_no, get_inn, next_inn, ds_inn, get_put, next_put, ds_put, get_new, next_new, ds_new, getD_cons_zero, getD_cons_succ, getD_nil, reduceIte, Nat.reduceEqDiff, Bool.or_true, Bool.true_or, Bool.or_false, Bool.false_or, Bool.not_true, Bool.not_false, Bool.false_eq_true, beq_self_eq_true, beq_true, Bool.true_beq, beq_false, Bool.false_beq, length_cons, length_nil, Nat.zero_add, Nat.add_zero, Nat.reduceAdd, Nat.reduceLeDiff, getElem?_cons_zero, getElem?_cons_succ, Option.map_some, map_cons, map_nil, true_and, and_true, and_self]
          case hone => simp only [decide_true, decide_false, execE, unE, at_t, at_c, upd_at, upd_none, args0, push_no, get_inn, next_inn, ds_inn, get_put, next_put, ds_put, get_new, next_new, ds_new, getD_cons_zero, getD_cons_succ, getD_nil, reduceIte, Nat.reduceEqDiff, Bool.or_true, Bool.true_or, Bool.or_false, Bool.false_or, Bool.not_true, Bool.not_false, Bool.false_eq_true, beq_self_eq_true, beq_true, Bool.true_beq, beq_false, Bool.false_beq, length_cons, length_nil, Nat.zero_add, Nat.add_zero, Nat.reduceAdd, Nat.reduceLeDiff, getElem?_cons_zero, getElem?_cons_succ, Option.map_some, map_cons, map_nil, true_and, and_true, and_self, AV.one]
          case hroom => exact roomyOf (by omega) (by simp; omega)
          intro a5 j5 m5 ty5 r5 ds5 ro5 o5 k5
          simp only [decide_true, decide_false, execE, unE, at_t, at_c, upd_at, upd_none, args0, push_no, get_inn, next_inn, ds_inn, get_put, next_put, ds_put, get_new, next_new, ds_new, getD_cons_zero, getD_cons_succ, getD_nil, reduceIte, Nat.reduceEqDiff, Bool.or_true, Bool.true_or, Bool.or_false, Bool.false_or, Bool.not_true, Bool.not_false, Bool.false_eq_true, beq_self_eq_true, beq_true, Bool.true_beq, beq_false, Bool.false_beq, length_cons, length_nil, Nat.zero_add, Nat.add_zero, Nat.reduceAdd, Nat.reduceLeDiff, getElem?_cons_zero, getElem?_cons_succ, Option.map_some, map_cons, map_nil, true_and, and_true, and_self] at r5
          have hn5 := k5.next
          have hT5 := hT1.keep k5 (by intro hm; simp at hm; have := hjr _ hm; omega) (fun k x hk hx hm => by simp at hm; exact hrj k x x hk hx hm rfl)
          repeat (first
            | ((first | refine W_op rfl rfl ?_ | (refine W_opgT rfl rfl ?hg ?_; (case hg => (simp only [upd_at, reduceIte, Nat.reduceEqDiff, Bool.not_true, Bool.not_false]; done)))); simp only [decide_true, decide_false, execE, unE, at_t, at_c, upd_at, upd_none, args0, push_no, get_inn, next_inn, ds_inn, get_put, next_put, ds_put, get_new, next_new, ds_new, getD_cons_zero, getD_cons_succ, getD_nil, reduceIte, Nat.reduceEqDiff, Bool.or_true, Bool.true_or, Bool.or_false, Bool.false_or, Bool.not_true, Bool.not_false, Bool.false_eq_true, beq_self_eq_true, beq_true, Bool.true_beq, beq_false, Bool.false_beq, length_cons, length_nil, Nat.zero_add, Nat.add_zero, Nat.reduceAdd, Nat.reduceLeDiff, getElem?_cons_zero, getElem?_cons_succ, Option.map_some, map_cons, map_nil, true_and, and_true, and_self, Wo_some])
            | (refine W_opgF rfl rfl ?hg ?_; (case hg => (simp only [upd_at, reduceIte, Nat.reduceEqDiff, Bool.not_true, Bool.not_false]; done)))
            | rw [W_seq] | rw [W_reg] | rw [push_no] | rw [W_onil] | rw [W_skip] | rw [W_blk] | rw [W_b] | refine W_regd0 ?_)
          refine W_exit rfl ?_
          repeat (first
            | ((first | refine W_op rfl rfl ?_ | (refine W_opgT rfl rfl ?hg ?_; (case hg => (simp only [upd_at, reduceIte, Nat.reduceEqDiff, Bool.not_true, Bool.not_false]; done)))); simp only [decide_true, decide_false, execE, unE, at_t, at_c, upd_at, upd_none, args0, push_no, get_inn, next_inn, ds_inn, get_put, next_put, ds_put, get_new, next_new, ds_new, getD_cons_zero, getD_cons_succ, getD_nil, reduceIte, Nat.reduceEqDiff, Bool.or_true, Bool.true_or, Bool.or_false, Bool.false_or, Bool.not_true, Bool.not_false, Bool.false_eq_true, beq_self_eq_true, beq_true, Bool.true_beq, beq_false, Bool.false_beq, length_cons, length_nil, Nat.zero_add, Nat.add_zero, Nat.reduceAdd, Nat.reduceLeDiff, getElem?_cons_zero, getElem?_cons_succ, Option.map_some, map_cons, map_nil, true_and, and_true, and_self, q16, hw, binE, isShift, intBin, Wo_some])
            | (refine W_opgF rfl rfl ?hg ?_; (case hg => (simp only [upd_at, reduceIte, Nat.reduceEqDiff, Bool.not_true, Bool.not_false]; done)))
            | rw [W_seq] | rw [W_reg] | rw [push_no] | rw [W_onil] | rw [W_skip] | rw [W_blk] | rw [W_b] | refine W_regd0 ?_)
          refine W_j (by repeat (first | exact hg | exact args0_un (Nat.le_of_ble_eq_true rfl) | refine upd_un ?_ rfl)) ?_
          refine ⟨up.length - (i + 1), by omega, i + 1, oj, some j5, ty5, by omega, rfl, ?_, ?_, ?_, ?_, ?_, ?_, ?_, ?_, ?_, hT5.cong ?_, hk1.trans k5 (by intro x hx; simp at hx; have := hjr x hx; right; omega), ds5.trans hds⟩
          · skip
            simp only [upd_at, upd_none, reduceIte, Nat.reduceEqDiff, args0, getD_cons_zero, getD_cons_succ, getD_nil, q0]
          · skip
            simp only [upd_at, upd_none, reduceIte, Nat.reduceEqDiff, args0, getD_cons_zero, getD_cons_succ, getD_nil, q1]
          · skip
            simp only [upd_at, upd_none, reduceIte, Nat.reduceEqDiff, args0, getD_cons_zero, getD_cons_succ, getD_nil, q3]
          · skip
            simp only [upd_at, upd_none, reduceIte, Nat.reduceEqDiff, args0, getD_cons_zero, getD_cons_succ, getD_nil, q14, hav1]
          · skip
            simp only [upd_at, upd_none, reduceIte, Nat.reduceEqDiff, args0, getD_cons_zero, getD_cons_succ, getD_nil, q15]
          · skip
            simp only [upd_at, upd_none, reduceIte, Nat.reduceEqDiff, args0, getD_cons_zero, getD_cons_succ, getD_nil]
          · skip
            simp only [upd_at, upd_none, reduceIte, Nat.reduceEqDiff, args0, getD_cons_zero, getD_cons_succ, getD_nil]
            rw [G.rl_succ, if_pos hyy]
            simpa using r5
          · rintro _ ⟨⟩
            rcases o5 with h | h
            · exact hjr _ h
            · have := hT1.hi; omega
          · rintro k x _ hk hx ⟨⟩
            rcases o5 with h | h
            · exact hrj k x _ hk hx h
            · obtain ⟨_, _, _, b3⟩ := hT1.at_
              obtain ⟨_, _, _, b4⟩ := b3 k hk
              rw [hx] at b4
              have := b4.lt; omega
          · intro q hq
            rw [G.fl_succ, if_neg (by rw [hyy]; simp)]
      · refine W_exit rfl ?_
        have hie : i = up.length := by simp at hf; omega
        subst hie
        refine W_j (by repeat (first | exact hg | exact args0_un (Nat.le_of_ble_eq_true rfl) | refine upd_un ?_ rfl)) ?_
        exact ⟨oj, jr, ty, q0, q1, q3, rR, hjr, hT1, hk1, hds⟩
  · rintro g m1 ⟨oj, jr, ty, q0, q1, q3, rR, hjr, hT1, hk1, hds⟩ hg
    have hn1 := hk1.next
    have hlR := rR.lenF (n := (G.rl up up.length).length) (by simp)
    have hrl : (G.rl up up.length).length ≤ up.length := inc_len (G.rl_sorted up up.length) (fun x hx => (G.rl_mem.1 hx).1)
    have hnr := fun x c t hx h => G.next_root g0 (x := x) (c := c) (t := t) hx h
    obtain ⟨hf0, hf1⟩ := G.root_first g0
    have hmR := fun x (hx : x ∈ G.rl up up.length) => G.rl_mem.1 hx
    have hP1 := hPk _ _ _ _ hP hk1 (by simp)
    have hFr : ∀ j, jr = some j → j ∉ FP := fun j hj hm => by have := hFP j hm; have := hjr j hj; omega
    generalize hR : G.rl up up.length = R at *
    generalize hg4 : g 4 = a4 at *
    repeat (first
      | ((first | refine W_op rfl rfl ?_ | (refine W_opgT rfl rfl ?hg ?_; (case hg => (simp only [upd_at, reduceIte, Nat.reduceEqDiff, Bool.not_true, Bool.not_false]; done)))); simp only [decide_true, decide_false, execE, unE, at_t, at_c, upd_at, upd_none, args0, push_no, get_inn, next_inn, ds_inn, get_put, next_put, ds_put, get_new, next_new, ds_new, getD_cons_zero, getD_cons_succ, getD_nil, reduceIte, Nat.reduceEqDiff, Bool.or_true, Bool.true_or, Bool.or_false, Bool.false_or, Bool.not_true, Bool.not_false, Bool.false_eq_true, beq_self_eq_true, beq_true, Bool.true_beq, beq_false, Bool.false_beq, length_cons, length_nil, Nat.zero_add, Nat.add_zero, Nat.reduceAdd, Nat.reduceLeDiff, getElem?_cons_zero, getElem?_cons_succ, Option.map_some, map_cons, map_nil, true_and, and_true, and_self, hg4, ↓hlR, Wo_some])
      | (refine W_opgF rfl rfl ?hg ?_; (case hg => (simp only [upd_at, reduceIte, Nat.reduceEqDiff, Bool.not_true, Bool.not_false]; done)))
      | rw [W_seq] | rw [W_reg] | rw [push_no] | rw [W_onil] | rw [W_skip] | rw [W_blk] | rw [W_b] | refine W_regd0 ?_)
    refine W_loop (fun n g' m' => ∃ (t c : Nat), t ≤ R.length ∧ n = R.length - t ∧ (∀ x, R[t]? = some x → x = c) ∧ (t = R.length → up.length = c) ∧ g' 0 = .yl lp ∧ g' 1 = .p (some (bj, 0)) ∧ g' 3 = .sl (some (m.next, 0)) up.length up.length true ∧ g' 38 = a4 ∧ g' 39 = .i .i64 R.length ∧ g' 40 = .i .i64 t ∧ P c m' ∧ Tab m' m.next up.length m.next oj (G.fl up up.length) ∧ Keep m1 m' FP ∧ m'.ds = []) R.length ?_ ?_ ?_
    · refine ⟨0, 0, Nat.zero_le _, rfl, hf0, hf1, ?_, ?_, ?_, ?_, ?_, ?_, hP1, hT1, Keep.refl _ _, hds⟩
      · skip
        simp only [upd_at, upd_none, reduceIte, Nat.reduceEqDiff, args0, getD_cons_zero, getD_cons_succ, getD_nil, q0]
      · skip
        simp only [upd_at, upd_none, reduceIte, Nat.reduceEqDiff, args0, getD_cons_zero, getD_cons_succ, getD_nil, q1]
      · skip
        simp only [upd_at, upd_none, reduceIte, Nat.reduceEqDiff, args0, getD_cons_zero, getD_cons_succ, getD_nil, q3]
      · skip
        simp only [upd_at, upd_none, reduceIte, Nat.reduceEqDiff, args0, getD_cons_zero, getD_cons_succ, getD_nil, hg4]
      · skip
        simp only [upd_at, upd_none, reduceIte, Nat.reduceEqDiff, args0, getD_cons_zero, getD_cons_succ, getD_nil]
      · skip
        simp only [upd_at, upd_none, reduceIte, Nat.reduceEqDiff, args0, getD_cons_zero, getD_cons_succ, getD_nil, Int.ofNat_zero]
        try rfl
    · intro i hi
      repeat (first | exact hg i hi | refine upd_un ?_ rfl i hi; clear i hi; intro i hi)
    · clear q0 q1 q3 hg4
      rintro n g m2 ⟨t, c, ht, rfl, hxc, hec, q0, q1, q3, q38, q39, q40, hP2, hT2, hk2, hds2⟩ hg
      repeat (first
        | ((first | refine W_op rfl rfl ?_ | (refine W_opgT rfl rfl ?hg ?_; (case hg => (simp only [upd_at, reduceIte, Nat.reduceEqDiff, Bool.not_true, Bool.not_false]; done)))); simp only [decide_true, decide_false, execE, unE, at_t, at_c, upd_at, upd_none, args0, push_no, get_inn, next_inn, ds_inn, get_put, next_put, ds_put, get_new, next_new, ds_new, getD_cons_zero, getD_cons_succ, getD_nil, reduceIte, Nat.reduceEqDiff, Bool.or_true, Bool.true_or, Bool.or_false, Bool.false_or, Bool.not_true, Bool.not_false, Bool.false_eq_true, beq_self_eq_true, beq_true, Bool.true_beq, beq_false, Bool.false_beq, length_cons, length_nil, Nat.zero_add, Nat.add_zero, Nat.reduceAdd, Nat.reduceLeDiff, getElem?_cons_zero, getElem?_cons_succ, Option.map_some, map_cons, map_nil, true_and, and_true, and_self, q39, q40, binE, isShift, intBin, Wo_some])
        | (refine W_opgF rfl rfl ?hg ?_; (case hg => (simp only [upd_at, reduceIte, Nat.reduceEqDiff, Bool.not_true, Bool.not_false]; done)))
        | rw [W_seq] | rw [W_reg] | rw [push_no] | rw [W_onil] | rw [W_skip] | rw [W_blk] | rw [W_b] | refine W_regd0 ?_)
      refine W_cond ?_
      simp only [decide_true, decide_false, execE, unE, at_t, at_c, upd_at, upd_none, args0, push_no, get_inn, next_inn, ds_inn, get_put, next_put, ds_put, get_new, next_new, ds_new, getD_cons_zero, getD_cons_succ, getD_nil, reduceIte, Nat.reduceEqDiff, Bool.or_true, Bool.true_or, Bool.or_false, Bool.false_or, Bool.not_true, Bool.not_false, Bool.false_eq_true, beq_self_eq_true, beq_true, Bool.true_beq, beq_false, Bool.false_beq, length_cons, length_nil, Nat.zero_add, Nat.add_zero, Nat.reduceAdd, Nat.reduceLeDiff, getElem?_cons_zero, getElem?_cons_succ, Option.map_some, map_cons, map_nil, true_and, and_true, and_self]
      refine WC_split (fun htt => ?_) (fun hff => ?_)
      · have htl : t < R.length := by simpa using htt
        obtain ⟨x, hx⟩ : ∃ x, R[t]? = some x := ⟨_, List.getElem?_eq_getElem htl⟩
        obtain rfl := hxc x hx
        obtain ⟨hxl, hxr⟩ := hmR x (List.mem_of_getElem? hx)
        obtain ⟨z1, c1, ex1, _, hav1, _, hg1, _, hc1, _⟩ := (rR.keep hk2 hFr).atN (n := R.length) (i := t) (x := .i .i64 (x : Int)) (by simp) (by rw [List.getElem?_map, hx]; rfl)
        have hix : (0 ≤ (t : Int) ∧ (t : Int) < (R.length : Int)) := ⟨by omega, by omega⟩
        have hw : IntKind.i64.wrap ((t : Int) + 1) = ((t + 1 : Nat) : Int) := (wrap64' (n := (t : Int) + 1) (by omega) (by omega)).trans (by omega)
        have hb2 := hk2.at (by omega) hbF (hk1.at hbn (by simp) hb)
        have hn2 := hk2.next
        repeat (first
          | ((first | refine W_op rfl rfl ?_ | (refine W_opgT rfl rfl ?hg ?_; (case hg => (simp only [upd_at, reduceIte, Nat.reduceEqDiff, Bool.not_true, Bool.not_false]; done)))); simp only [decide_true, decide_false, execE, unE, at_t, at_c, upd_at, upd_none, args0, push_no, get_inn, next_inn, ds_inn, get_put, next_put, ds_put, get_new, next_new, ds_new, getD_cons_zero, getD_cons_succ, getD_nil, reduceIte, Nat.reduceEqDiff, Bool.or_true, Bool.true_or, Bool.or_false, Bool.false_or, Bool.not_true, Bool.not_false, Bool.false_eq_true, beq_self_eq_true, beq_true, Bool.true_beq, beq_false, Bool.false_beq, length_cons, length_nil, Nat.zero_add, Nat.add_zero, Nat.reduceAdd, Nat.reduceLeDiff, getElem?_cons_zero, getElem?_cons_succ, Option.map_some, map_cons, map_nil, true_and, and_true, and_self, q0, q1, q3, q38, q40, hav1, hix, Int.toNat_natCast, Nat.mul_one, hg1, hc1, hb2, rd, List.length_cons, List.length_nil, List.take_succ_cons, List.take_zero, List.drop_zero, Nat.le_refl, Wo_some])
          | (refine W_opgF rfl rfl ?hg ?_; (case hg => (simp only [upd_at, reduceIte, Nat.reduceEqDiff, Bool.not_true, Bool.not_false]; done)))
          | rw [W_seq] | rw [W_reg] | rw [push_no] | rw [W_onil] | rw [W_skip] | rw [W_blk] | rw [W_b] | refine W_regd0 ?_)
        have h59 := call59 (u := u) g0 hlu hxr hou hT2 hFP hPk hSk hy hP2
        refine W_callA rfl ?hargs (h59) ?_
        case hargs => simp only [decide_true, decide_false, execE, unE, at_t, at_c, upd_at, upd_none, args0, push_no, get_inn, next_inn, ds_inn, get_put, next_put, ds_put, get_new, next_new, ds_new, getD_cons_zero, getD_cons_succ, getD_nil, reduceIte, Nat.reduceEqDiff, Bool.or_true, Bool.true_or, Bool.or_false, Bool.false_or, Bool.not_true, Bool.not_false, Bool.false_eq_true, beq_self_eq_true, beq_true, Bool.true_beq, beq_false, Bool.false_beq, length_cons, length_nil, Nat.zero_add, Nat.add_zero, Nat.reduceAdd, Nat.reduceLeDiff, getElem?_cons_zero, getElem?_cons_succ, Option.map_some, map_cons, map_nil, true_and, and_true, and_self, q0, q3] <;> rfl
        rintro v m3 ⟨hT3, hn3, hk3, hv⟩ hs3
        rcases hv with ⟨rfl, c', hst, hP3⟩ | ⟨rfl, hS3⟩
        · skip
          repeat (first
            | ((first | refine W_op rfl rfl ?_ | (refine W_opgT rfl rfl ?hg ?_; (case hg => (simp only [upd_at, reduceIte, Nat.reduceEqDiff, Bool.not_true, Bool.not_false]; done)))); simp only [decide_true, decide_false, execE, unE, at_t, at_c, upd_at, upd_none, args0, push_no, get_inn, next_inn, ds_inn, get_put, next_put, ds_put, get_new, next_new, ds_new, getD_cons_zero, getD_cons_succ, getD_nil, reduceIte, Nat.reduceEqDiff, Bool.or_true, Bool.true_or, Bool.or_false, Bool.false_or, Bool.not_true, Bool.not_false, Bool.false_eq_true, beq_self_eq_true, beq_true, Bool.true_beq, beq_false, Bool.false_beq, length_cons, length_nil, Nat.zero_add, Nat.add_zero, Nat.reduceAdd, Nat.reduceLeDiff, getElem?_cons_zero, getElem?_cons_succ, Option.map_some, map_cons, map_nil, true_and, and_true, and_self, Wo_some])
            | (refine W_opgF rfl rfl ?hg ?_; (case hg => (simp only [upd_at, reduceIte, Nat.reduceEqDiff, Bool.not_true, Bool.not_false]; done)))
            | rw [W_seq] | rw [W_reg] | rw [push_no] | rw [W_onil] | rw [W_skip] | rw [W_blk] | rw [W_b] | refine W_regd0 ?_)
          refine W_cond ?_
          simp only [decide_true, decide_false, execE, unE, at_t, at_c, upd_at, upd_none, args0, push_no, get_inn, next_inn, ds_inn, get_put, next_put, ds_put, get_new, next_new, ds_new, getD_cons_zero, getD_cons_succ, getD_nil, reduceIte, Nat.reduceEqDiff, Bool.or_true, Bool.true_or, Bool.or_false, Bool.false_or, Bool.not_true, Bool.not_false, Bool.false_eq_true, beq_self_eq_true, beq_true, Bool.true_beq, beq_false, Bool.false_beq, length_cons, length_nil, Nat.zero_add, Nat.add_zero, Nat.reduceAdd, Nat.reduceLeDiff, getElem?_cons_zero, getElem?_cons_succ, Option.map_some, map_cons, map_nil, true_and, and_true, and_self, WC]
          repeat (first
            | ((first | refine W_op rfl rfl ?_ | (refine W_opgT rfl rfl ?hg ?_; (case hg => (simp only [upd_at, reduceIte, Nat.reduceEqDiff, Bool.not_true, Bool.not_false]; done)))); simp only [decide_true, decide_false, execE, unE, at_t, at_c, upd_at, upd_none, args0, push_no, get_inn, next_inn, ds_inn, get_put, next_put, ds_put, get_new, next_new, ds_new, getD_cons_zero, getD_cons_succ, getD_nil, reduceIte, Nat.reduceEqDiff, Bool.or_true, Bool.true_or, Bool.or_false, Bool.false_or, Bool.not_true, Bool.not_false, Bool.false_eq_true, beq_self_eq_true, beq_true, Bool.true_beq, beq_false, Bool.false_beq, length_cons, length_nil, Nat.zero_add, Nat.add_zero, Nat.reduceAdd, Nat.reduceLeDiff, getElem?_cons_zero, getElem?_cons_succ, Option.map_some, map_cons, map_nil, true_and, and_true, and_self, q40, hw, binE, isShift, intBin, Wo_some])
            | (refine W_opgF rfl rfl ?hg ?_; (case hg => (simp only [upd_at, reduceIte, Nat.reduceEqDiff, Bool.not_true, Bool.not_false]; done)))
            | rw [W_seq] | rw [W_reg] | rw [push_no] | rw [W_onil] | rw [W_skip] | rw [W_blk] | rw [W_b] | refine W_regd0 ?_)
          refine W_j (by repeat (first | exact hg | exact args0_un (Nat.le_of_ble_eq_true rfl) | refine upd_un ?_ rfl)) ?_
          obtain ⟨n1, n2⟩ := hnr x c' t hx hst
          refine ⟨R.length - (t + 1), by omega, t + 1, c', by omega, rfl, fun y hy => (n1 y hy).symm, fun he => (n2 he).symm, ?_, ?_, ?_, ?_, ?_, ?_, hP3, hT3, hk2.trans hk3 (fun x hx => .inl hx), hs3.ds.trans hds2⟩
          · skip
            simp only [upd_at, upd_none, reduceIte, Nat.reduceEqDiff, args0, getD_cons_zero, getD_cons_succ, getD_nil, q0]
          · skip
            simp only [upd_at, upd_none, reduceIte, Nat.reduceEqDiff, args0, getD_cons_zero, getD_cons_succ, getD_nil, q1]
          · skip
            simp only [upd_at, upd_none, reduceIte, Nat.reduceEqDiff, args0, getD_cons_zero, getD_cons_succ, getD_nil, q3]
          · skip
            simp only [upd_at, upd_none, reduceIte, Nat.reduceEqDiff, args0, getD_cons_zero, getD_cons_succ, getD_nil, q38, hav1]
          · skip
            simp only [upd_at, upd_none, reduceIte, Nat.reduceEqDiff, args0, getD_cons_zero, getD_cons_succ, getD_nil, q39]
          · skip
            simp only [upd_at, upd_none, reduceIte, Nat.reduceEqDiff, args0, getD_cons_zero, getD_cons_succ, getD_nil]
        · skip
          repeat (first
            | ((first | refine W_op rfl rfl ?_ | (refine W_opgT rfl rfl ?hg ?_; (case hg => (simp only [upd_at, reduceIte, Nat.reduceEqDiff, Bool.not_true, Bool.not_false]; done)))); simp only [decide_true, decide_false, execE, unE, at_t, at_c, upd_at, upd_none, args0, push_no, get_inn, next_inn, ds_inn, get_put, next_put, ds_put, get_new, next_new, ds_new, getD_cons_zero, getD_cons_succ, getD_nil, reduceIte, Nat.reduceEqDiff, Bool.or_true, Bool.true_or, Bool.or_false, Bool.false_or, Bool.not_true, Bool.not_false, Bool.false_eq_true, beq_self_eq_true, beq_true, Bool.true_beq, beq_false, Bool.false_beq, length_cons, length_nil, Nat.zero_add, Nat.add_zero, Nat.reduceAdd, Nat.reduceLeDiff, getElem?_cons_zero, getElem?_cons_succ, Option.map_some, map_cons, map_nil, true_and, and_true, and_self, Wo_some])
            | (refine W_opgF rfl rfl ?hg ?_; (case hg => (simp only [upd_at, reduceIte, Nat.reduceEqDiff, Bool.not_true, Bool.not_false]; done)))
            | rw [W_seq] | rw [W_reg] | rw [push_no] | rw [W_onil] | rw [W_skip] | rw [W_blk] | rw [W_b] | refine W_regd0 ?_)
          refine W_cond ?_
          simp only [decide_true, decide_false, execE, unE, at_t, at_c, upd_at, upd_none, args0, push_no, get_inn, next_inn, ds_inn, get_put, next_put, ds_put, get_new, next_new, ds_new, getD_cons_zero, getD_cons_succ, getD_nil, reduceIte, Nat.reduceEqDiff, Bool.or_true, Bool.true_or, Bool.or_false, Bool.false_or, Bool.not_true, Bool.not_false, Bool.false_eq_true, beq_self_eq_true, beq_true, Bool.true_beq, beq_false, Bool.false_beq, length_cons, length_nil, Nat.zero_add, Nat.add_zero, Nat.reduceAdd, Nat.reduceLeDiff, getElem?_cons_zero, getElem?_cons_succ, Option.map_some, map_cons, map_nil, true_and, and_true, and_self, WC]
          refine W_getRet (by repeat (first | exact hg | exact args0_un (Nat.le_of_ble_eq_true rfl) | refine upd_un ?_ rfl)) ?_
          exact ⟨hs3.ds.trans hds2, [], rfl, .inr (hSk _ _ [] hS3 ((Keep.refl m3 []).out (m0 := m)) (by simp))⟩
      · refine W_exit rfl ?_
        have hte : t = R.length := by simp at hff; omega
        have := hec hte
        subst this
        refine W_nil (by repeat (first | exact hg | exact args0_un (Nat.le_of_ble_eq_true rfl) | refine upd_un ?_ rfl)) ?_
        exact ⟨hds2, [], rfl, .inl (hPk _ _ _ [] hP2 ((Keep.refl m2 []).out (m0 := m)) (by simp))⟩

theorem call28 {m : AMem} {u : AV} (hou : u.one = true) : Vi.Call T 28 [.agg [u]] m (fun v m' => v = .f 58 [] [.p (some (m.next, 0))] ∧ m'.next = m.next + 1 ∧ m'.get m.next = some (.cells [u] true ⟨1, none⟩) ∧ Keep m m' []) := by
  refine Vi.Call.ofP T28 (Nat.le_of_ble_eq_true rfl) ?_
  unfold v28
  repeat (first
    | ((first | refine W_op rfl rfl ?_ | (refine W_opgT rfl rfl ?hg ?_; (case hg => (simp only [upd_at, reduceIte, Nat.reduceEqDiff, Bool.not_true, Bool.not_false]; done)))); simp only [decide_true, decide_false, execE, unE, at_t, at_c, upd_at, upd_none, args0, push_no, get_inn, next_inn, ds_inn, get_put, next_put, ds_put, get_new, next_new, ds_new, getD_cons_zero, getD_cons_succ, getD_nil, reduceIte, Nat.reduceEqDiff, Bool.or_true, Bool.true_or, Bool.or_false, Bool.false_or, Bool.not_true, Bool.not_false, Bool.false_eq_true, beq_self_eq_true, beq_true, Bool.true_beq, beq_false, Bool.false_beq, length_cons, length_nil, Nat.zero_add, Nat.add_zero, Nat.reduceAdd, Nat.reduceLeDiff, getElem?_cons_zero, getElem?_cons_succ, Option.map_some, map_cons, map_nil, true_and, and_true, and_self, cells_agg, hou, List.all_cons, List.all_nil, Bool.and_self, Wo_some])
    | (refine W_opgF rfl rfl ?hg ?_; (case hg => (simp only [upd_at, reduceIte, Nat.reduceEqDiff, Bool.not_true, Bool.not_false]; done)))
    | rw [W_seq] | rw [W_reg] | rw [push_no] | rw [W_onil] | rw [W_skip] | rw [W_blk] | rw [W_b] | refine W_regd0 ?_)
  refine W_getRet (by repeat (first | exact hg | exact args0_un (Nat.le_of_ble_eq_true rfl) | refine upd_un ?_ rfl)) ?_
  refine ⟨rfl, _, rfl, ?_, rfl, ?_, ((Keep.inn m).trans (Keep.new _ _) (by simp)).out⟩
  · skip
    simp only [upd_at, upd_none, reduceIte, Nat.reduceEqDiff, args0, getD_cons_zero, getD_cons_succ, getD_nil]
    rfl
  · rw [AMem.get_out, AMem.get_new, if_pos (show m.inn.next = m.next from rfl)]
end Go.Proofs.YtnbdamdcmofafaaGreatDoor
