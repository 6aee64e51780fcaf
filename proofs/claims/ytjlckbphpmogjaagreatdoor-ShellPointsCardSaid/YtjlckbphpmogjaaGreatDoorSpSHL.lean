/- The law ShellPoints, at any points. No condition. -/
import Derived.Test.YtjlckbphpmogjaaGreatDoorSpSHD
import Derived.Test.YtjlckbphpmogjaaGreatDoorSpViFx
import Derived.Test.YtjlckbphpmogjaaGreatDoorSpSHE
import Derived.Test.YtjlckbphpmogjaaGreatDoorSpF
import Derived.Test.YtjlckbphpmogjaaGreatDoorSpB28
namespace Go.Proofs.YtjlckbphpmogjaaGreatDoor
open Go.Vi
set_option linter.unusedSimpArgs false
set_option linter.unusedVariables false

theorem rd_sub {m : AMem} {j n o k : Nat} {l : List AV} (h : rd m j 0 n = some l) (hk : o + k ≤ n) : rd m j o k = some ((l.drop o).take k) := by
  unfold rd at h ⊢
  match hg : m.get j, h with
  | some (.cells c _ _), h =>
    simp only [hg] at h ⊢
    split at h
    · next hl =>
      simp only [Option.some.injEq, List.drop_zero] at h
      subst h
      rw [if_pos (by omega)]
      rw [List.drop_take, List.take_take, Nat.min_eq_left (by omega)]
    · simp at h

theorem rd_get {m : AMem} {j n : Nat} {l : List AV} (h : rd m j 0 n = some l) {i : Nat} (hi : i < n) : ∃ c wr es, m.get j = some (.cells c wr es) ∧ c[i]? = l[i]? := by
  unfold rd at h
  match hg : m.get j, h with
  | some (.cells c wr es), h =>
    simp only [hg] at h
    split at h
    · simp only [Option.some.injEq, List.drop_zero] at h
      subst h
      exact ⟨c, wr, es, rfl, by rw [List.getElem?_take, if_pos hi]⟩
    · simp at h

def B28 : Nat → AV := fun k => [un, (.i .i64 0), (.i .i64 1), (.i .i64 0), (.i .i64 0), (.i .i64 0), (.i .i64 0), (.i .i64 0), (.i .i64 (-1)), (.sl (some (1075, 0)) 4 4 false)].getD k un

structure At28 (m : AMem) : Prop where
  p10 : P10 m
  tape : ∃ c wr es, m.get 262 = some (.cells c wr es) ∧ c[9]? = some (.p (some (413, 0)))
  offs : ∃ c wr es, m.get 413 = some (.cells c wr es) ∧ c[4]? = some (.sl (some (1029, 0)) 10 10 false)
  slots : m.get 1075 = some (.cells [(.i .i64 (-1)), (.i .i64 (-1)), (.i .i64 (-1)), (.i .i64 (-1))] true ⟨1, some 3⟩)
  next : 1125 ≤ m.next

theorem At28.keep {m m' : AMem} (h : At28 m) (k : Keep m m' [1037]) : At28 m' := by
  have hn := h.next
  obtain ⟨c, wr, es, h1, h2⟩ := h.tape
  obtain ⟨d, wr2, es2, h3, h4⟩ := h.offs
  exact ⟨h.p10.keep k (by decide), ⟨c, wr, es, k.at (by omega) (by decide) h1, h2⟩, ⟨d, wr2, es2, k.at (by omega) (by decide) h3, h4⟩, k.at (by omega) (by decide) h.slots, Nat.le_trans hn k.next⟩

theorem call_beg28 (o : AObj) : Vi.Call T 19 [.sl (some (9, 0)) 5 5 true, .sl (some (10, 0)) 2 2 true, .agg [.i .i64 99, .i .i64 9, .i .i64 999, .i .i64 4]] (mem28 o) (fun v m' => v = .tup [.p (some (1037, 0)), .p (some (1081, 0))] ∧ Ses m' 1037 262 B28 (.sl none 0 0 true) (.i .i64 1) [.sl (some (139, 0)) 5 5 false, .i .i64 1, .sl (some (31, 0)) 2 2 false] ∧ At28 m' ∧ m'.get 8 = some o) := by
  obtain ⟨⟨v, m'⟩, h1, h2⟩ := Option.map_eq_some_iff.1 (beg28 o)
  simp only [Prod.mk.injEq] at h2
  obtain ⟨e1, e2, e3, e4, e5, e6, e7, e8, _, _⟩ := h2
  refine ⟨v, m', ⟨2000, callK_sound 2000 _ _ _ _ h1⟩, e1, ⟨e3, by rw [e2]; decide, rd_sub e4 (by decide), by rw [e2]; decide, by decide⟩, ⟨⟨_, _, e7, by rw [e2]; decide⟩, ?_, ?_, e6, by rw [e2]; decide⟩, e8⟩
  · obtain ⟨c, wr, es, h3, h4⟩ := rd_get e4 (i := 9) (by decide)
    exact ⟨c, wr, es, h3, h4⟩
  · obtain ⟨x, h3, h4⟩ := Option.map_eq_some_iff.1 e5
    cases x with
    | cells c wr es => exact ⟨c, wr, es, h3, by simpa using h4⟩
    | _ => simp at h4

theorem doE_ok {nN nG : Int} {L : List (Int × Int)} {p : Int × Int} (h : (doE nN nG L p).1 = 0) : (doE nN nG L p).2 = L ++ [p] := by
  unfold doE at h ⊢
  split
  · next hp => rw [if_pos hp] at h; simp at h
  · next hp => rw [if_neg hp] at h; exact addE_ok h
theorem doE_no {nN nG : Int} {L : List (Int × Int)} {p : Int × Int} (h : (doE nN nG L p).1 ≠ 0) : (doE nN nG L p).2 = L := by
  unfold doE at h ⊢
  split
  · rfl
  · next hp => rw [if_neg hp] at h; exact addE_no h
theorem lines_at {f : Nat → List UInt8} {n : Nat} : (strs (lines f (n + 1)))[n]? = some (.s ⟨(digI (n : Int) ++ ([32] ++ f n)).toArray⟩) := by
  rw [lines_succ, List.getElem?_append_right (by simp [strs, lines])]
  simp [strs, lines]
theorem ptF_last {A : List (Int × Int)} {p : Int × Int} : ptF (A ++ [p]) A.length = pTxt p.1 p.2 := by
  refine ptF_at ?_
  rw [List.getElem?_append_right (Nat.le_refl _), Nat.sub_self]
  rfl

set_option maxHeartbeats 2000000 in
theorem law5 {o : AObj} {av : AV} {n : Nat} {L : List (Int × Int)} (hA : ∀ m : AMem, m.get 8 = some o → 8 < m.next → Arr m 2 av n (flat2 L)) (hL : L.length = n) (hb : ∀ p ∈ L, InI64 p.1 ∧ InI64 p.2) :
    Vi.Call T 5 [av] (mkM 9 [(8, o), (0, powO)]) (fun v _ => v = .b true) := by
  have hlenA := (hA (mkM 9 [(8, o), (0, powO)]) rfl (by simp [mkM])).lenF
  refine Vi.Call.ofP T5 (Nat.le_of_ble_eq_true rfl) ?_
  unfold v5
  repeat (first
    | ((first | refine W_op rfl rfl ?_ | (refine W_opgT rfl rfl ?hg ?_; (case hg => (simp only [upd_at, reduceIte, Nat.reduceEqDiff, Bool.not_true, Bool.not_false]; done)))); simp only [WB, execE, unE, args0, reduceIte, Nat.reduceEqDiff, Nat.reduceAdd, Nat.reduceLeDiff, WO, fillX, splice, Wo_some])
    | (refine W_opgF rfl rfl ?hg ?_; (case hg => (simp only [upd_at, reduceIte, Nat.reduceEqDiff, Bool.not_true, Bool.not_false]; done)))
    | (refine W_opgU rfl ?hg ?_; (case hg => (simp only [upd_at, reduceIte, Nat.reduceEqDiff]; done))) | (refine W_callN rfl ?hg ?_; (case hg => (simp only [upd_at, reduceIte, Nat.reduceEqDiff, Bool.not_true, Bool.not_false]; done))) | rw [W_seq] | rw [W_reg] | rw [push_no] | rw [push_yes] | rw [W_onil] | rw [W_skip] | rw [W_blk] | rw [W_b] | refine W_regd0 ?_ | refine W_regd ?_)
  refine W_callA rfl rfl (⟨.b true, _, ⟨1, rfl⟩, And.intro rfl rfl⟩ : Vi.Call T 18 [] _ (fun v m' => v = .b true ∧ m' = (mkM 9 [(8, o), (0, powO)]).inn)) ?_
  rintro v m1 ⟨rfl, rfl⟩ -
  repeat (first
    | ((first | refine W_op rfl rfl ?_ | (refine W_opgT rfl rfl ?hg ?_; (case hg => (simp only [upd_at, reduceIte, Nat.reduceEqDiff, Bool.not_true, Bool.not_false]; done)))); simp only [WB, execE, unE, args0, reduceIte, Nat.reduceEqDiff, Nat.reduceAdd, Nat.reduceLeDiff, WO, fillX, splice, Wo_some])
    | (refine W_opgF rfl rfl ?hg ?_; (case hg => (simp only [upd_at, reduceIte, Nat.reduceEqDiff, Bool.not_true, Bool.not_false]; done)))
    | (refine W_opgU rfl ?hg ?_; (case hg => (simp only [upd_at, reduceIte, Nat.reduceEqDiff]; done))) | (refine W_callN rfl ?hg ?_; (case hg => (simp only [upd_at, reduceIte, Nat.reduceEqDiff, Bool.not_true, Bool.not_false]; done))) | rw [W_seq] | rw [W_reg] | rw [push_no] | rw [push_yes] | rw [W_onil] | rw [W_skip] | rw [W_blk] | rw [W_b] | refine W_regd0 ?_ | refine W_regd ?_)
  refine W_cond ?_
  simp only [WB, execE, unE, args0, reduceIte, Nat.reduceEqDiff, Nat.reduceAdd, Nat.reduceLeDiff, WC]
  repeat (first
    | ((first | refine W_op rfl rfl ?_ | (refine W_opgT rfl rfl ?hg ?_; (case hg => (simp only [upd_at, reduceIte, Nat.reduceEqDiff, Bool.not_true, Bool.not_false]; done)))); simp only [WB, execE, unE, args0, reduceIte, Nat.reduceEqDiff, Nat.reduceAdd, Nat.reduceLeDiff, WO, fillX, splice, Wo_some])
    | (refine W_opgF rfl rfl ?hg ?_; (case hg => (simp only [upd_at, reduceIte, Nat.reduceEqDiff, Bool.not_true, Bool.not_false]; done)))
    | (refine W_opgU rfl ?hg ?_; (case hg => (simp only [upd_at, reduceIte, Nat.reduceEqDiff]; done))) | (refine W_callN rfl ?hg ?_; (case hg => (simp only [upd_at, reduceIte, Nat.reduceEqDiff, Bool.not_true, Bool.not_false]; done))) | rw [W_seq] | rw [W_reg] | rw [push_no] | rw [push_yes] | rw [W_onil] | rw [W_skip] | rw [W_blk] | rw [W_b] | refine W_regd0 ?_ | refine W_regd ?_)
  refine W_callA rfl ?hargs (call_beg28 o) ?_
  case hargs => simp only [WB, execE, unE, args0, reduceIte, Nat.reduceEqDiff, Nat.reduceAdd, Nat.reduceLeDiff] <;> rfl
  rintro v mB ⟨rfl, hS, h28, g8⟩ hsB
  have dB : mB.ds = [] := hsB.ds
  clear hsB
  repeat (first
    | ((first | refine W_op rfl rfl ?_ | (refine W_opgT rfl rfl ?hg ?_; (case hg => (simp only [upd_at, reduceIte, Nat.reduceEqDiff, Bool.not_true, Bool.not_false]; done)))); simp only [WB, execE, unE, args0, reduceIte, Nat.reduceEqDiff, Nat.reduceAdd, Nat.reduceLeDiff, isNil, ↓hlenA, binE, isShift, intBin, WO, fillX, splice, Wo_some])
    | (refine W_opgF rfl rfl ?hg ?_; (case hg => (simp only [upd_at, reduceIte, Nat.reduceEqDiff, Bool.not_true, Bool.not_false]; done)))
    | (refine W_opgU rfl ?hg ?_; (case hg => (simp only [upd_at, reduceIte, Nat.reduceEqDiff]; done))) | (refine W_callN rfl ?hg ?_; (case hg => (simp only [upd_at, reduceIte, Nat.reduceEqDiff, Bool.not_true, Bool.not_false]; done))) | rw [W_seq] | rw [W_reg] | rw [push_no] | rw [push_yes] | rw [W_onil] | rw [W_skip] | rw [W_blk] | rw [W_b] | refine W_regd0 ?_ | refine W_regd ?_)
  by_cases hn : n ≤ 30
  case neg =>
    have c1 : decide ((n : Int) > 30) = true := decide_eq_true (by omega)
    refine W_cond ?_
    simp only [WB, execE, unE, args0, reduceIte, Nat.reduceEqDiff, Nat.reduceAdd, Nat.reduceLeDiff, WC, c1]
    repeat (first
      | ((first | refine W_op rfl rfl ?_ | (refine W_opgT rfl rfl ?hg ?_; (case hg => (simp only [upd_at, reduceIte, Nat.reduceEqDiff, Bool.not_true, Bool.not_false]; done)))); simp only [WB, execE, unE, args0, reduceIte, Nat.reduceEqDiff, Nat.reduceAdd, Nat.reduceLeDiff, isNil, WO, fillX, splice, Wo_some])
      | (refine W_opgF rfl rfl ?hg ?_; (case hg => (simp only [upd_at, reduceIte, Nat.reduceEqDiff, Bool.not_true, Bool.not_false]; done)))
      | (refine W_opgU rfl ?hg ?_; (case hg => (simp only [upd_at, reduceIte, Nat.reduceEqDiff]; done))) | (refine W_callN rfl ?hg ?_; (case hg => (simp only [upd_at, reduceIte, Nat.reduceEqDiff, Bool.not_true, Bool.not_false]; done))) | rw [W_seq] | rw [W_reg] | rw [push_no] | rw [push_yes] | rw [W_onil] | rw [W_skip] | rw [W_blk] | rw [W_b] | refine W_regd0 ?_ | refine W_regd ?_)
    refine W_getRet (by repeat (first | exact hg | exact args0_un (Nat.le_of_ble_eq_true rfl) | refine upd_un ?_ rfl)) ?_
    exact ⟨dB, _, rfl, rfl⟩
  have c1 : decide ((n : Int) > 30) = false := decide_eq_false (by omega)
  refine W_cond ?_
  simp only [WB, execE, unE, args0, reduceIte, Nat.reduceEqDiff, Nat.reduceAdd, Nat.reduceLeDiff, WC, c1]
  repeat (first
    | ((first | refine W_op rfl rfl ?_ | (refine W_opgT rfl rfl ?hg ?_; (case hg => (simp only [upd_at, reduceIte, Nat.reduceEqDiff, Bool.not_true, Bool.not_false]; done)))); simp only [WB, execE, unE, args0, reduceIte, Nat.reduceEqDiff, Nat.reduceAdd, Nat.reduceLeDiff, ↓hlenA, WO, fillX, splice, Wo_some])
    | (refine W_opgF rfl rfl ?hg ?_; (case hg => (simp only [upd_at, reduceIte, Nat.reduceEqDiff, Bool.not_true, Bool.not_false]; done)))
    | (refine W_opgU rfl ?hg ?_; (case hg => (simp only [upd_at, reduceIte, Nat.reduceEqDiff]; done))) | (refine W_callN rfl ?hg ?_; (case hg => (simp only [upd_at, reduceIte, Nat.reduceEqDiff, Bool.not_true, Bool.not_false]; done))) | rw [W_seq] | rw [W_reg] | rw [push_no] | rw [push_yes] | rw [W_onil] | rw [W_skip] | rw [W_blk] | rw [W_b] | refine W_regd0 ?_ | refine W_regd ?_)
  have hnB := h28.next
  have hAB := hA mB g8 (by omega)
  have inB : ∀ {x : Nat}, x < 1125 → ∀ {oj : Option Nat}, (∀ k, oj = some k → mB.next ≤ k) → ∀ k, oj = some k → k ≠ x := fun hx _ h k hk he => by have := h k hk; omega
  refine W_cutK [_, _] (fun g' m' => ∃ (A : List (Int × Int)) (pts : AV) (oj ty : Option Nat), g' 3 = .p (some (1037, 0)) ∧ g' 5 = .i .i64 A.length ∧ A.length ≤ 30 ∧ (∀ p ∈ A, InI64 p.1 ∧ InI64 p.2) ∧ Ses m' 1037 262 B28 pts (.i .i64 1) [.sl (some (139, 0)) 5 5 false, .i .i64 1, .sl (some (31, 0)) 2 2 false] ∧ RowE m' 2 ty pts oj A.length (flat2 A) ∧ (∀ k, oj = some k → mB.next ≤ k) ∧ Keep mB m' [1037] ∧ m'.ds = []) ?_ ?_
  · simp only [List.cons_append, List.nil_append]
    refine W_loop (fun k g' m' => ∃ (i : Nat) (A : List (Int × Int)) (pts : AV) (oj ty : Option Nat), i ≤ n ∧ k = n - i ∧ g' 34 = av ∧ g' 35 = .i .i64 n ∧ g' 36 = .i .i64 i ∧ g' 3 = .p (some (1037, 0)) ∧ g' 5 = .i .i64 A.length ∧ A.length ≤ i ∧ (∀ p ∈ A, InI64 p.1 ∧ InI64 p.2) ∧ Ses m' 1037 262 B28 pts (.i .i64 1) [.sl (some (139, 0)) 5 5 false, .i .i64 1, .sl (some (31, 0)) 2 2 false] ∧ RowE m' 2 ty pts oj A.length (flat2 A) ∧ (∀ k, oj = some k → mB.next ≤ k) ∧ Keep mB m' [1037] ∧ m'.ds = []) n ?_ ?_ ?_
    · refine ⟨0, [], _, none, none, Nat.zero_le _, rfl, ?_, ?_, ?_, ?_, ?_, Nat.le_refl _, by simp, hS, RowE.nil _ _ _, nofun, Keep.refl _ _, dB⟩
      · skip
        simp only [upd_at, upd_none, reduceIte, Nat.reduceEqDiff, args0, List.getD_cons_zero, List.getD_cons_succ, List.getD_nil]
      · skip
        simp only [upd_at, upd_none, reduceIte, Nat.reduceEqDiff, args0, List.getD_cons_zero, List.getD_cons_succ, List.getD_nil]
      · skip
        simp only [upd_at, upd_none, reduceIte, Nat.reduceEqDiff, args0, List.getD_cons_zero, List.getD_cons_succ, List.getD_nil, Int.ofNat_zero]
        try rfl
      · skip
        simp only [upd_at, upd_none, reduceIte, Nat.reduceEqDiff, args0, List.getD_cons_zero, List.getD_cons_succ, List.getD_nil]
      · skip
        simp only [upd_at, upd_none, reduceIte, Nat.reduceEqDiff, args0, List.getD_cons_zero, List.getD_cons_succ, List.getD_nil, Int.ofNat_zero]
        try rfl
    · intro i hi
      repeat (first | exact args0_un (Nat.le_of_ble_eq_true rfl) i hi | refine upd_un ?_ rfl i hi; clear i hi; intro i hi)
    · clear hS
      rintro k g m1 ⟨i, A, pts, oj, ty, hi, rfl, qa, qn, qi, q3, q5, hAi, hbA, hS, hR, hoj, k1, d1⟩ hg
      repeat (first
        | ((first | refine W_op rfl rfl ?_ | (refine W_opgT rfl rfl ?hg ?_; (case hg => (simp only [upd_at, reduceIte, Nat.reduceEqDiff, Bool.not_true, Bool.not_false]; done)))); simp only [WB, execE, unE, args0, reduceIte, Nat.reduceEqDiff, Nat.reduceAdd, Nat.reduceLeDiff, qn, qi, binE, isShift, intBin, WO, fillX, splice, Wo_some])
        | (refine W_opgF rfl rfl ?hg ?_; (case hg => (simp only [upd_at, reduceIte, Nat.reduceEqDiff, Bool.not_true, Bool.not_false]; done)))
        | (refine W_opgU rfl ?hg ?_; (case hg => (simp only [upd_at, reduceIte, Nat.reduceEqDiff]; done))) | (refine W_callN rfl ?hg ?_; (case hg => (simp only [upd_at, reduceIte, Nat.reduceEqDiff, Bool.not_true, Bool.not_false]; done))) | rw [W_seq] | rw [W_reg] | rw [push_no] | rw [push_yes] | rw [W_onil] | rw [W_skip] | rw [W_blk] | rw [W_b] | refine W_regd0 ?_ | refine W_regd ?_)
      refine W_cond ?_
      simp only [WB, execE, unE, args0, reduceIte, Nat.reduceEqDiff, Nat.reduceAdd, Nat.reduceLeDiff]
      refine WC_split (fun ht => ?_) (fun hf => ?_)
      · have hlt : i < n := by simpa using ht
        obtain ⟨j, ofs, cap, ex, rfl, hj, hr⟩ := (hA m1 (k1.at (by omega) (by decide) g8) (Nat.lt_of_lt_of_le (by omega) k1.next)).rdE hlt
        obtain ⟨p, hp⟩ : ∃ p, L[i]? = some p := ⟨_, List.getElem?_eq_getElem (by omega)⟩
        rw [flat2_at hp] at hr
        have hpb := hb p (List.mem_of_getElem? hp)
        have hix : (0 ≤ (i : Int) ∧ (i : Int) < (n : Int)) := ⟨by omega, by omega⟩
        have hwi : IntKind.i64.wrap ((i : Int) + 1) = ((i + 1 : Nat) : Int) := wr_i64 (n := (i : Int) + 1) (by omega) (by omega)
        repeat (first
          | ((first | refine W_opS rfl rfl rfl ?_ | (refine W_opgT rfl rfl ?hg ?_; (case hg => (simp only [upd_at, reduceIte, Nat.reduceEqDiff, Bool.not_true, Bool.not_false]; done)))); simp only [WB, execE, unE, args0, reduceIte, Nat.reduceEqDiff, Nat.reduceAdd, Nat.reduceLeDiff, qa, qi, hix, Int.toNat_natCast, hr, WO, fillX, splice, Wo_some])
          | (refine W_opgF rfl rfl ?hg ?_; (case hg => (simp only [upd_at, reduceIte, Nat.reduceEqDiff, Bool.not_true, Bool.not_false]; done)))
          | (refine W_opgU rfl ?hg ?_; (case hg => (simp only [upd_at, reduceIte, Nat.reduceEqDiff]; done))) | (refine W_callN rfl ?hg ?_; (case hg => (simp only [upd_at, reduceIte, Nat.reduceEqDiff, Bool.not_true, Bool.not_false]; done))) | rw [W_seq] | rw [W_reg] | rw [push_no] | rw [push_yes] | rw [W_onil] | rw [W_skip] | rw [W_blk] | rw [W_b] | refine W_regd0 ?_ | refine W_regd ?_)
        repeat (first | rw [W_seq] | rw [W_reg] | rw [push_no] | rw [push_yes] | rw [W_onil] | rw [W_skip] | rw [W_blk] | rw [W_b] | refine W_regd0 ?_ | refine W_regd ?_)
        refine W_op rfl rfl ?_
        simp only [WB, execE, unE, args0, reduceIte, Nat.reduceEqDiff, Nat.reduceAdd, Nat.reduceLeDiff, WO, fillX, splice, Wo_some]
        repeat (first | rw [push_no] | rw [push_yes] | rw [W_onil])
        obtain ⟨mC, hmC, kC, bC, gC, dC, _, nC⟩ := mk_put m1 [.i .i64 0, .i .i64 0] [.i .i64 p.1, .i .i64 p.2] true true ⟨2, some 31⟩ ⟨2, some 31⟩ 2 rfl
        rw [← hmC]
        clear hmC
        have hP : P10 mC := (h28.keep k1).p10.keep kC (by simp)
        have ojC : OkJ 1037 262 oj := fun k hk => ⟨inB (by decide) hoj k hk, inB (by decide) hoj k hk, inB (by decide) hoj k hk⟩
        repeat (first
          | ((first | refine W_op rfl rfl ?_ | (refine W_opgT rfl rfl ?hg ?_; (case hg => (simp only [upd_at, reduceIte, Nat.reduceEqDiff, Bool.not_true, Bool.not_false]; done)))); simp only [WB, execE, unE, args0, reduceIte, Nat.reduceEqDiff, Nat.reduceAdd, Nat.reduceLeDiff, bC, q3, WO, fillX, splice, Wo_some])
          | (refine W_opgF rfl rfl ?hg ?_; (case hg => (simp only [upd_at, reduceIte, Nat.reduceEqDiff, Bool.not_true, Bool.not_false]; done)))
          | (refine W_opgU rfl ?hg ?_; (case hg => (simp only [upd_at, reduceIte, Nat.reduceEqDiff]; done))) | (refine W_callN rfl ?hg ?_; (case hg => (simp only [upd_at, reduceIte, Nat.reduceEqDiff, Bool.not_true, Bool.not_false]; done))) | rw [W_seq] | rw [W_reg] | rw [push_no] | rw [push_yes] | rw [W_onil] | rw [W_skip] | rw [W_blk] | rw [W_b] | refine W_regd0 ?_ | refine W_regd ?_)
        refine W_callA rfl ?hargs (call20a hP (hS.keep0 kC) rfl (by omega) (hR.keep kC (by simp)) (by omega) ojC (by decide) hbA p.1 p.2 hpb.1 hpb.2) ?_
        case hargs => simp only [WB, execE, unE, args0, reduceIte, Nat.reduceEqDiff, Nat.reduceAdd, Nat.reduceLeDiff] <;> rfl
        rintro v m2 ⟨⟨pts2, oj2, ty2, hS2, hR2, ho2⟩, k2, row, rfl, ho, hrow⟩ hs2
        generalize hE : doE _ _ A (p.1, p.2) = E at hS2 hR2 hrow ⊢
        have kB2 : Keep mB m2 [1037] := (k1.trans kC (by simp)).trans k2 (by
          intro x hx
          rcases List.mem_cons.1 hx with h | h
          · exact .inl (by simp [h])
          · cases oj with
            | none => simp at h
            | some k => simp at h; exact .inr (h ▸ hoj k rfl))
        have hoj2 : ∀ k, oj2 = some k → mB.next ≤ k := by
          intro k hk
          rcases ho2 with h | ⟨k', h, h2⟩
          · exact hoj k (h ▸ hk)
          · rw [h] at hk; cases hk
            exact Nat.le_trans k1.next (Nat.le_trans kC.next h2)
        have d2 : m2.ds = [] := hs2.ds.trans (dC.trans d1)
        by_cases he : E.1 = 0
        case neg =>
          have c2 : (E.1 != 0) = true := by simpa using he
          have hA2 : E.2 = A := by subst hE; exact doE_no he
          rw [hA2] at hR2
          repeat (first
            | ((first | refine W_op rfl rfl ?_ | (refine W_opgT rfl rfl ?hg ?_; (case hg => (simp only [upd_at, reduceIte, Nat.reduceEqDiff, Bool.not_true, Bool.not_false]; done)))); simp only [WB, execE, unE, args0, reduceIte, Nat.reduceEqDiff, Nat.reduceAdd, Nat.reduceLeDiff, ho, c2, binE, isShift, intBin, WO, fillX, splice, Wo_some])
            | (refine W_opgF rfl rfl ?hg ?_; (case hg => (simp only [upd_at, reduceIte, Nat.reduceEqDiff, Bool.not_true, Bool.not_false]; done)))
            | (refine W_opgU rfl ?hg ?_; (case hg => (simp only [upd_at, reduceIte, Nat.reduceEqDiff]; done))) | (refine W_callN rfl ?hg ?_; (case hg => (simp only [upd_at, reduceIte, Nat.reduceEqDiff, Bool.not_true, Bool.not_false]; done))) | rw [W_seq] | rw [W_reg] | rw [push_no] | rw [push_yes] | rw [W_onil] | rw [W_skip] | rw [W_blk] | rw [W_b] | refine W_regd0 ?_ | refine W_regd ?_)
          refine W_cond ?_
          simp only [WB, execE, unE, args0, reduceIte, Nat.reduceEqDiff, Nat.reduceAdd, Nat.reduceLeDiff, WC]
          refine W_exit rfl ?_
          repeat (first
            | ((first | refine W_op rfl rfl ?_ | (refine W_opgT rfl rfl ?hg ?_; (case hg => (simp only [upd_at, reduceIte, Nat.reduceEqDiff, Bool.not_true, Bool.not_false]; done)))); simp only [WB, execE, unE, args0, reduceIte, Nat.reduceEqDiff, Nat.reduceAdd, Nat.reduceLeDiff, qi, hwi, binE, isShift, intBin, WO, fillX, splice, Wo_some])
            | (refine W_opgF rfl rfl ?hg ?_; (case hg => (simp only [upd_at, reduceIte, Nat.reduceEqDiff, Bool.not_true, Bool.not_false]; done)))
            | (refine W_opgU rfl ?hg ?_; (case hg => (simp only [upd_at, reduceIte, Nat.reduceEqDiff]; done))) | (refine W_callN rfl ?hg ?_; (case hg => (simp only [upd_at, reduceIte, Nat.reduceEqDiff, Bool.not_true, Bool.not_false]; done))) | rw [W_seq] | rw [W_reg] | rw [push_no] | rw [push_yes] | rw [W_onil] | rw [W_skip] | rw [W_blk] | rw [W_b] | refine W_regd0 ?_ | refine W_regd ?_)
          refine W_j (by repeat (first | exact hg | exact args0_un (Nat.le_of_ble_eq_true rfl) | refine upd_un ?_ rfl)) ?_
          refine ⟨n - (i + 1), by omega, i + 1, A, pts2, oj2, ty2, by omega, rfl, ?_, ?_, ?_, ?_, ?_, by omega, hbA, hS2, hR2, hoj2, kB2, d2⟩
          · skip
            simp only [upd_at, upd_none, reduceIte, Nat.reduceEqDiff, args0, List.getD_cons_zero, List.getD_cons_succ, List.getD_nil, qa]
          · skip
            simp only [upd_at, upd_none, reduceIte, Nat.reduceEqDiff, args0, List.getD_cons_zero, List.getD_cons_succ, List.getD_nil, qn]
          · skip
            simp only [upd_at, upd_none, reduceIte, Nat.reduceEqDiff, args0, List.getD_cons_zero, List.getD_cons_succ, List.getD_nil]
          · skip
            simp only [upd_at, upd_none, reduceIte, Nat.reduceEqDiff, args0, List.getD_cons_zero, List.getD_cons_succ, List.getD_nil, q3]
          · skip
            simp only [upd_at, upd_none, reduceIte, Nat.reduceEqDiff, args0, List.getD_cons_zero, List.getD_cons_succ, List.getD_nil, q5]
        have c2 : ((0 : Int) != 0) = false := rfl
        have hA2 : E.2 = A ++ [p] := by subst hE; exact doE_ok he
        obtain ⟨ty3, oj3, r3⟩ := hrow he
        rw [hA2] at hR2 r3
        have hl1 : (A ++ [p]).length = A.length + 1 := by simp
        have hR2' := hR2
        rw [hl1] at r3
        have hl3 := r3.arr.lenF
        obtain ⟨j3, o3, cap3, ex3, c3, wr3, es3, rfl, hj3, hg3, _, _, hck⟩ := r3.arr.at_ (Nat.lt_succ_self A.length)
        have hc3 : c3[o3 + A.length]? = some (.s ⟨(digI (A.length : Int) ++ ([32] ++ pTxt p.1 p.2)).toArray⟩) := by
          have := hck 0 (by omega)
          simp only [Nat.mul_one, Nat.add_zero] at this
          rw [this, lines_at, ptF_last]
        have hwA : IntKind.i64.wrap ((A.length : Int) + 1) = ((A.length + 1 : Nat) : Int) := wr_i64 (n := (A.length : Int) + 1) (by omega) (by omega)
        have hwS : IntKind.i64.wrap (((A.length + 1 : Nat) : Int) - 1) = (A.length : Int) := by rw [wr_i64 (by omega) (by omega)]; omega
        have hix3 : (0 ≤ (A.length : Int) ∧ (A.length : Int) < ((A.length + 1 : Nat) : Int)) := ⟨by omega, by omega⟩
        have hnC : m1.next ∉ (1037 :: oj.toList) := by
          intro hx
          have := k1.next
          rcases List.mem_cons.1 hx with h | h
          · omega
          · cases oj with
            | none => simp at h
            | some k => simp at h; have := hR.lt; omega
        have b2 := rd_keep bC k2 nC hnC
        have n2 : m1.next < m2.next := Nat.lt_of_lt_of_le nC k2.next
        rw [he]
        repeat (first
          | ((first | refine W_op rfl rfl ?_ | (refine W_opgT rfl rfl ?hg ?_; (case hg => (simp only [upd_at, reduceIte, Nat.reduceEqDiff, Bool.not_true, Bool.not_false]; done)))); simp only [WB, execE, unE, args0, reduceIte, Nat.reduceEqDiff, Nat.reduceAdd, Nat.reduceLeDiff, ho, c2, q5, hwA, binE, isShift, intBin, WO, fillX, splice, Wo_some])
          | (refine W_opgF rfl rfl ?hg ?_; (case hg => (simp only [upd_at, reduceIte, Nat.reduceEqDiff, Bool.not_true, Bool.not_false]; done)))
          | (refine W_opgU rfl ?hg ?_; (case hg => (simp only [upd_at, reduceIte, Nat.reduceEqDiff]; done))) | (refine W_callN rfl ?hg ?_; (case hg => (simp only [upd_at, reduceIte, Nat.reduceEqDiff, Bool.not_true, Bool.not_false]; done))) | rw [W_seq] | rw [W_reg] | rw [push_no] | rw [push_yes] | rw [W_onil] | rw [W_skip] | rw [W_blk] | rw [W_b] | refine W_regd0 ?_ | refine W_regd ?_)
        refine W_cond ?_
        simp only [WB, execE, unE, args0, reduceIte, Nat.reduceEqDiff, Nat.reduceAdd, Nat.reduceLeDiff, WC]
        repeat (first
          | ((first | refine W_op rfl rfl ?_ | (refine W_opgT rfl rfl ?hg ?_; (case hg => (simp only [upd_at, reduceIte, Nat.reduceEqDiff, Bool.not_true, Bool.not_false]; done)))); simp only [WB, execE, unE, args0, reduceIte, Nat.reduceEqDiff, Nat.reduceAdd, Nat.reduceLeDiff, q5, hwA, hwS, hix3, Int.toNat_natCast, Nat.mul_one, hg3, hc3, ↓hl3, bne_self_eq_false, binE, isShift, intBin, WO, fillX, splice, Wo_some])
          | (refine W_opgF rfl rfl ?hg ?_; (case hg => (simp only [upd_at, reduceIte, Nat.reduceEqDiff, Bool.not_true, Bool.not_false]; done)))
          | (refine W_opgU rfl ?hg ?_; (case hg => (simp only [upd_at, reduceIte, Nat.reduceEqDiff]; done))) | (refine W_callN rfl ?hg ?_; (case hg => (simp only [upd_at, reduceIte, Nat.reduceEqDiff, Bool.not_true, Bool.not_false]; done))) | rw [W_seq] | rw [W_reg] | rw [push_no] | rw [push_yes] | rw [W_onil] | rw [W_skip] | rw [W_blk] | rw [W_b] | refine W_regd0 ?_ | refine W_regd ?_)
        refine W_callK rfl ?hg ?hargs (call12 (n := (A.length : Int)) (by omega) (by omega)) ?_
        case hg => (simp only [WB, execE, unE, args0, reduceIte, Nat.reduceEqDiff, Nat.reduceAdd, Nat.reduceLeDiff, WO, fillX, splice]; done)
        case hargs => simp only [WB, execE, unE, args0, reduceIte, Nat.reduceEqDiff, Nat.reduceAdd, Nat.reduceLeDiff, WO, fillX, splice] <;> rfl
        rintro v m3 ⟨rfl, k3⟩ hs3
        have b3 := rd_keep b2 k3 n2 (by simp)
        have g3 := k3.at hj3 (by simp) hg3
        have kB3 : Keep mB m3 [1037] := kB2.trans k3 (by simp)
        have hD : Sm (digI (A.length : Int)) 21 := sm_digI (in_small (by omega))
        have hT : Sm (pTxt p.1 p.2) 40 := ⟨(pTxt_len hpb.2)⟩
        repeat (first
          | ((first | refine W_op rfl rfl ?_ | (refine W_opgT rfl rfl ?hg ?_; (case hg => (simp only [upd_at, reduceIte, Nat.reduceEqDiff, Bool.not_true, Bool.not_false]; done)))); simp only [WB, execE, unE, args0, reduceIte, Nat.reduceEqDiff, Nat.reduceAdd, Nat.reduceLeDiff, b3, binE, isShift, strcatI, Nat.reduceAdd, Nat.reduceLeDiff, WO, fillX, splice, Wo_some])
          | (refine W_opgF rfl rfl ?hg ?_; (case hg => (simp only [upd_at, reduceIte, Nat.reduceEqDiff, Bool.not_true, Bool.not_false]; done)))
          | (refine W_opgU rfl ?hg ?_; (case hg => (simp only [upd_at, reduceIte, Nat.reduceEqDiff]; done))) | (refine W_callN rfl ?hg ?_; (case hg => (simp only [upd_at, reduceIte, Nat.reduceEqDiff, Bool.not_true, Bool.not_false]; done))) | rw [W_seq] | rw [W_reg] | rw [push_no] | rw [push_yes] | rw [W_onil] | rw [W_skip] | rw [W_blk] | rw [W_b] | refine W_regd0 ?_ | refine W_regd ?_)
        refine W_callK rfl ?hg ?hargs (call13 (h28.keep kB3).p10 p.1 p.2 hpb.2) ?_
        case hg => (simp only [WB, execE, unE, args0, reduceIte, Nat.reduceEqDiff, Nat.reduceAdd, Nat.reduceLeDiff, WO, fillX, splice]; done)
        case hargs => simp only [WB, execE, unE, args0, reduceIte, Nat.reduceEqDiff, Nat.reduceAdd, Nat.reduceLeDiff, WO, fillX, splice] <;> rfl
        rintro v m4 ⟨rfl, k4⟩ hs4
        have g4 := k4.at (Nat.lt_of_lt_of_le hj3 k3.next) (by simp) g3
        have kB4 : Keep mB m4 [1037] := kB3.trans k4 (by simp)
        have k24 : Keep m2 m4 [] := k3.trans k4 (by simp)
        have hne : strBin .neq ⟨(digI (A.length : Int) ++ ([32] ++ pTxt p.1 p.2)).toArray⟩ ⟨(digI (A.length : Int) ++ ([32] ++ pTxt p.1 p.2)).toArray⟩ = some (.b false) := by rw [neS]; simp
        repeat (first
          | ((first | refine W_op rfl rfl ?_ | (refine W_opgT rfl rfl ?hg ?_; (case hg => (simp only [upd_at, reduceIte, Nat.reduceEqDiff, Bool.not_true, Bool.not_false]; done)))); simp only [WB, execE, unE, args0, reduceIte, Nat.reduceEqDiff, Nat.reduceAdd, Nat.reduceLeDiff, List.append_assoc, hne, binE, isShift, strcatI, Nat.reduceAdd, Nat.reduceLeDiff, WO, fillX, splice, Wo_some])
          | (refine W_opgF rfl rfl ?hg ?_; (case hg => (simp only [upd_at, reduceIte, Nat.reduceEqDiff, Bool.not_true, Bool.not_false]; done)))
          | (refine W_opgU rfl ?hg ?_; (case hg => (simp only [upd_at, reduceIte, Nat.reduceEqDiff]; done))) | (refine W_callN rfl ?hg ?_; (case hg => (simp only [upd_at, reduceIte, Nat.reduceEqDiff, Bool.not_true, Bool.not_false]; done))) | rw [W_seq] | rw [W_reg] | rw [push_no] | rw [push_yes] | rw [W_onil] | rw [W_skip] | rw [W_blk] | rw [W_b] | refine W_regd0 ?_ | refine W_regd ?_)
        refine W_dnil ?hs ?hnt ?_
        case hs => (simp only [SameIn, SameAt, List.nil_append, List.cons_append, reduceCtorEq, false_and, exists_false, exists_const, false_or, or_false, Option.some.injEq, exists_eq_left', exists_eq', or_true, and_true, WB, execE, unE, args0, reduceIte, Nat.reduceEqDiff, Nat.reduceAdd, Nat.reduceLeDiff, b2, b3, hg3, g3, g4, hc3])
        case hnt => (simp only [List.nil_append, List.cons_append, List.forall_mem_cons, List.not_mem_nil, false_imp_iff, implies_true, and_true]; repeat' (first | exact hg | exact args0_un (Nat.le_of_ble_eq_true rfl) | refine upd_un ?_ rfl | constructor))
        refine W_cond ?_
        simp only [WB, execE, unE, args0, reduceIte, Nat.reduceEqDiff, Nat.reduceAdd, Nat.reduceLeDiff, WC]
        repeat (first
          | ((first | refine W_op rfl rfl ?_ | (refine W_opgT rfl rfl ?hg ?_; (case hg => (simp only [upd_at, reduceIte, Nat.reduceEqDiff, Bool.not_true, Bool.not_false]; done)))); simp only [WB, execE, unE, args0, reduceIte, Nat.reduceEqDiff, Nat.reduceAdd, Nat.reduceLeDiff, qi, hwi, binE, isShift, intBin, WO, fillX, splice, Wo_some])
          | (refine W_opgF rfl rfl ?hg ?_; (case hg => (simp only [upd_at, reduceIte, Nat.reduceEqDiff, Bool.not_true, Bool.not_false]; done)))
          | (refine W_opgU rfl ?hg ?_; (case hg => (simp only [upd_at, reduceIte, Nat.reduceEqDiff]; done))) | (refine W_callN rfl ?hg ?_; (case hg => (simp only [upd_at, reduceIte, Nat.reduceEqDiff, Bool.not_true, Bool.not_false]; done))) | rw [W_seq] | rw [W_reg] | rw [push_no] | rw [push_yes] | rw [W_onil] | rw [W_skip] | rw [W_blk] | rw [W_b] | refine W_regd0 ?_ | refine W_regd ?_)
        refine W_j (by repeat (first | exact hg | exact args0_un (Nat.le_of_ble_eq_true rfl) | refine upd_un ?_ rfl)) ?_
        refine ⟨n - (i + 1), by omega, i + 1, A ++ [p], pts2, oj2, ty2, by omega, rfl, ?_, ?_, ?_, ?_, ?_, by omega, ?_, hS2.keep0 k24, hR2.keep k24 (by simp), hoj2, kB4, hs4.ds.trans (hs3.ds.trans d2)⟩
        · skip
          simp only [upd_at, upd_none, reduceIte, Nat.reduceEqDiff, args0, List.getD_cons_zero, List.getD_cons_succ, List.getD_nil, qa]
        · skip
          simp only [upd_at, upd_none, reduceIte, Nat.reduceEqDiff, args0, List.getD_cons_zero, List.getD_cons_succ, List.getD_nil, qn]
        · skip
          simp only [upd_at, upd_none, reduceIte, Nat.reduceEqDiff, args0, List.getD_cons_zero, List.getD_cons_succ, List.getD_nil]
        · skip
          simp only [upd_at, upd_none, reduceIte, Nat.reduceEqDiff, args0, List.getD_cons_zero, List.getD_cons_succ, List.getD_nil, q3]
        · skip
          simp only [upd_at, upd_none, reduceIte, Nat.reduceEqDiff, args0, List.getD_cons_zero, List.getD_cons_succ, List.getD_nil, hl1]
        · intro q hq
          rcases List.mem_append.1 hq with h | h
          · exact hbA q h
          · simp at h; exact h ▸ hpb
      · refine W_exit rfl ?_
        refine W_j (by repeat (first | exact hg | exact args0_un (Nat.le_of_ble_eq_true rfl) | refine upd_un ?_ rfl)) ?_
        exact ⟨A, pts, oj, ty, q3, q5, by omega, hbA, hS, hR, hoj, k1, d1⟩
  clear hS
  rintro g m1 ⟨A, pts, oj, ty, q3, q5, hA30, hbA, hS, hR, hoj, k1, d1⟩ hg
  rw [W_seq]
  refine W_cutK [_] (fun g' m' => ∃ (pts : AV) (oj ty : Option Nat), g' 3 = .p (some (1037, 0)) ∧ Ses m' 1037 262 B28 pts (.i .i64 1) [.sl (some (139, 0)) 5 5 false, .i .i64 1, .sl (some (31, 0)) 2 2 false] ∧ RowE m' 2 ty pts oj 0 (flat2 []) ∧ (∀ k, oj = some k → mB.next ≤ k) ∧ Keep mB m' [1037] ∧ m'.ds = []) ?_ ?_
  · simp only [List.cons_append, List.nil_append]
    repeat (first
      | ((first | refine W_op rfl rfl ?_ | (refine W_opgT rfl rfl ?hg ?_; (case hg => (simp only [upd_at, reduceIte, Nat.reduceEqDiff, Bool.not_true, Bool.not_false]; done)))); simp only [WB, execE, unE, args0, reduceIte, Nat.reduceEqDiff, Nat.reduceAdd, Nat.reduceLeDiff, WO, fillX, splice, Wo_some])
      | (refine W_opgF rfl rfl ?hg ?_; (case hg => (simp only [upd_at, reduceIte, Nat.reduceEqDiff, Bool.not_true, Bool.not_false]; done)))
      | (refine W_opgU rfl ?hg ?_; (case hg => (simp only [upd_at, reduceIte, Nat.reduceEqDiff]; done))) | (refine W_callN rfl ?hg ?_; (case hg => (simp only [upd_at, reduceIte, Nat.reduceEqDiff, Bool.not_true, Bool.not_false]; done))) | rw [W_seq] | rw [W_reg] | rw [push_no] | rw [push_yes] | rw [W_onil] | rw [W_skip] | rw [W_blk] | rw [W_b] | refine W_regd0 ?_ | refine W_regd ?_)
    refine W_loop (fun k g' m' => ∃ (A : List (Int × Int)) (pts : AV) (oj ty : Option Nat), k = A.length ∧ g' 3 = .p (some (1037, 0)) ∧ g' 5 = .i .i64 A.length ∧ A.length ≤ 30 ∧ (∀ p ∈ A, InI64 p.1 ∧ InI64 p.2) ∧ Ses m' 1037 262 B28 pts (.i .i64 1) [.sl (some (139, 0)) 5 5 false, .i .i64 1, .sl (some (31, 0)) 2 2 false] ∧ RowE m' 2 ty pts oj A.length (flat2 A) ∧ (∀ k, oj = some k → mB.next ≤ k) ∧ Keep mB m' [1037] ∧ m'.ds = []) A.length ?_ ?_ ?_
    · exact ⟨A, pts, oj, ty, rfl, q3, q5, hA30, hbA, hS, hR, hoj, k1, d1⟩
    · exact hg
    · clear hS q3 q5 hA30 hbA hR hoj k1 d1 hg A pts oj ty m1 g
      rintro k g m1 ⟨A, pts, oj, ty, rfl, q3, q5, hA30, hbA, hS, hR, hoj, k1, d1⟩ hg
      repeat (first
        | ((first | refine W_op rfl rfl ?_ | (refine W_opgT rfl rfl ?hg ?_; (case hg => (simp only [upd_at, reduceIte, Nat.reduceEqDiff, Bool.not_true, Bool.not_false]; done)))); simp only [WB, execE, unE, args0, reduceIte, Nat.reduceEqDiff, Nat.reduceAdd, Nat.reduceLeDiff, q5, binE, isShift, intBin, WO, fillX, splice, Wo_some])
        | (refine W_opgF rfl rfl ?hg ?_; (case hg => (simp only [upd_at, reduceIte, Nat.reduceEqDiff, Bool.not_true, Bool.not_false]; done)))
        | (refine W_opgU rfl ?hg ?_; (case hg => (simp only [upd_at, reduceIte, Nat.reduceEqDiff]; done))) | (refine W_callN rfl ?hg ?_; (case hg => (simp only [upd_at, reduceIte, Nat.reduceEqDiff, Bool.not_true, Bool.not_false]; done))) | rw [W_seq] | rw [W_reg] | rw [push_no] | rw [push_yes] | rw [W_onil] | rw [W_skip] | rw [W_blk] | rw [W_b] | refine W_regd0 ?_ | refine W_regd ?_)
      refine W_cond ?_
      simp only [WB, execE, unE, args0, reduceIte, Nat.reduceEqDiff, Nat.reduceAdd, Nat.reduceLeDiff]
      refine WC_split (fun ht => ?_) (fun hf => ?_)
      · have hlt : 1 ≤ A.length := by simp at ht; omega
        have ojC : OkJ 1037 262 oj := fun k hk => ⟨inB (by decide) hoj k hk, inB (by decide) hoj k hk, inB (by decide) hoj k hk⟩
        repeat (first
          | ((first | refine W_op rfl rfl ?_ | (refine W_opgT rfl rfl ?hg ?_; (case hg => (simp only [upd_at, reduceIte, Nat.reduceEqDiff, Bool.not_true, Bool.not_false]; done)))); simp only [WB, execE, unE, args0, reduceIte, Nat.reduceEqDiff, Nat.reduceAdd, Nat.reduceLeDiff, q3, WO, fillX, splice, Wo_some])
          | (refine W_opgF rfl rfl ?hg ?_; (case hg => (simp only [upd_at, reduceIte, Nat.reduceEqDiff, Bool.not_true, Bool.not_false]; done)))
          | (refine W_opgU rfl ?hg ?_; (case hg => (simp only [upd_at, reduceIte, Nat.reduceEqDiff]; done))) | (refine W_callN rfl ?hg ?_; (case hg => (simp only [upd_at, reduceIte, Nat.reduceEqDiff, Bool.not_true, Bool.not_false]; done))) | rw [W_seq] | rw [W_reg] | rw [push_no] | rw [push_yes] | rw [W_onil] | rw [W_skip] | rw [W_blk] | rw [W_b] | refine W_regd0 ?_ | refine W_regd ?_)
        refine W_callA rfl ?hargs (call20r (h28.keep k1).p10 hS hR hlt (by omega) ojC (by decide) hbA) ?_
        case hargs => simp only [WB, execE, unE, args0, reduceIte, Nat.reduceEqDiff, Nat.reduceAdd, Nat.reduceLeDiff] <;> rfl
        rintro v m2 ⟨⟨pts2, oj2, ty2, hS2, hR2, ho2⟩, k2, row, rfl, ho, hrow⟩ hs2
        have kB2 : Keep mB m2 [1037] := k1.trans k2 (by
          intro x hx
          rcases List.mem_cons.1 hx with h | h
          · exact .inl (by simp [h])
          · cases oj with
            | none => simp at h
            | some k => simp at h; exact .inr (h ▸ hoj k rfl))
        have hoj2 : ∀ k, oj2 = some k → mB.next ≤ k := by
          intro k hk
          rcases ho2 with h | ⟨k', h, h2⟩
          · exact hoj k (h ▸ hk)
          · rw [h] at hk; cases hk
            exact Nat.le_trans k1.next h2
        have hlt2 : A.tail.length = A.length - 1 := List.length_tail
        obtain ⟨ty3, oj3, r3⟩ := hrow rfl
        have hl3 := r3.arr.lenF
        have c2 : ((0 : Int) != 0) = false := rfl
        have hwS : IntKind.i64.wrap ((A.length : Int) - 1) = (A.tail.length : Int) := by rw [wr_i64 (by omega) (by omega)]; omega
        repeat (first
          | ((first | refine W_op rfl rfl ?_ | (refine W_opgT rfl rfl ?hg ?_; (case hg => (simp only [upd_at, reduceIte, Nat.reduceEqDiff, Bool.not_true, Bool.not_false]; done)))); simp only [WB, execE, unE, args0, reduceIte, Nat.reduceEqDiff, Nat.reduceAdd, Nat.reduceLeDiff, ho, q5, hwS, c2, ↓hl3, bne_self_eq_false, binE, isShift, intBin, WO, fillX, splice, Wo_some])
          | (refine W_opgF rfl rfl ?hg ?_; (case hg => (simp only [upd_at, reduceIte, Nat.reduceEqDiff, Bool.not_true, Bool.not_false]; done)))
          | (refine W_opgU rfl ?hg ?_; (case hg => (simp only [upd_at, reduceIte, Nat.reduceEqDiff]; done))) | (refine W_callN rfl ?hg ?_; (case hg => (simp only [upd_at, reduceIte, Nat.reduceEqDiff, Bool.not_true, Bool.not_false]; done))) | rw [W_seq] | rw [W_reg] | rw [push_no] | rw [push_yes] | rw [W_onil] | rw [W_skip] | rw [W_blk] | rw [W_b] | refine W_regd0 ?_ | refine W_regd ?_)
        refine W_cond ?_
        simp only [WB, execE, unE, args0, reduceIte, Nat.reduceEqDiff, Nat.reduceAdd, Nat.reduceLeDiff, WC]
        repeat (first
          | ((first | refine W_op rfl rfl ?_ | (refine W_opgT rfl rfl ?hg ?_; (case hg => (simp only [upd_at, reduceIte, Nat.reduceEqDiff, Bool.not_true, Bool.not_false]; done)))); simp only [WB, execE, unE, args0, reduceIte, Nat.reduceEqDiff, Nat.reduceAdd, Nat.reduceLeDiff, q5, hwS, binE, isShift, intBin, WO, fillX, splice, Wo_some])
          | (refine W_opgF rfl rfl ?hg ?_; (case hg => (simp only [upd_at, reduceIte, Nat.reduceEqDiff, Bool.not_true, Bool.not_false]; done)))
          | (refine W_opgU rfl ?hg ?_; (case hg => (simp only [upd_at, reduceIte, Nat.reduceEqDiff]; done))) | (refine W_callN rfl ?hg ?_; (case hg => (simp only [upd_at, reduceIte, Nat.reduceEqDiff, Bool.not_true, Bool.not_false]; done))) | rw [W_seq] | rw [W_reg] | rw [push_no] | rw [push_yes] | rw [W_onil] | rw [W_skip] | rw [W_blk] | rw [W_b] | refine W_regd0 ?_ | refine W_regd ?_)
        refine W_j (by repeat (first | exact hg | exact args0_un (Nat.le_of_ble_eq_true rfl) | refine upd_un ?_ rfl)) ?_
        refine ⟨A.tail.length, by omega, A.tail, pts2, oj2, ty2, rfl, ?_, ?_, by omega, fun q hq => hbA q (List.mem_of_mem_tail hq), hS2, hR2, hoj2, kB2, hs2.ds.trans d1⟩
        · skip
          simp only [upd_at, upd_none, reduceIte, Nat.reduceEqDiff, args0, List.getD_cons_zero, List.getD_cons_succ, List.getD_nil, q3]
        · skip
          simp only [upd_at, upd_none, reduceIte, Nat.reduceEqDiff, args0, List.getD_cons_zero, List.getD_cons_succ, List.getD_nil]
      · refine W_exit rfl ?_
        have hA0 : A = [] := by
          cases A with
          | nil => rfl
          | cons a A => simp at hf
        subst hA0
        refine W_j (by repeat (first | exact hg | exact args0_un (Nat.le_of_ble_eq_true rfl) | refine upd_un ?_ rfl)) ?_
        exact ⟨pts, oj, ty, q3, hS, hR, hoj, k1, d1⟩
  clear hS q3 q5 hA30 hbA hR hoj k1 d1 hg A pts oj ty m1 g
  rintro g m1 ⟨pts, oj, ty, q3, hS, hR, hoj, k1, d1⟩ hg
  have h1 := h28.keep k1
  obtain ⟨c9, wr9, es9, h9, hc9⟩ := h1.tape
  obtain ⟨c4, wr4, es4, h4, hc4⟩ := h1.offs
  have hsl : RowE m1 1 (some 3) (B28 9) (some 1075) 4 [(.i .i64 (-1)), (.i .i64 (-1)), (.i .i64 (-1)), (.i .i64 (-1))] :=
    ⟨rfl, _, 4, false, rfl, Nat.lt_of_lt_of_le (by decide) h1.next, h1.slots, rfl, Nat.le_refl _, rfl⟩
  repeat (first
    | ((first | refine W_op rfl rfl ?_ | (refine W_opgT rfl rfl ?hg ?_; (case hg => (simp only [upd_at, reduceIte, Nat.reduceEqDiff, Bool.not_true, Bool.not_false]; done)))); simp only [WB, execE, unE, args0, reduceIte, Nat.reduceEqDiff, Nat.reduceAdd, Nat.reduceLeDiff, q3, WO, fillX, splice, Wo_some])
    | (refine W_opgF rfl rfl ?hg ?_; (case hg => (simp only [upd_at, reduceIte, Nat.reduceEqDiff, Bool.not_true, Bool.not_false]; done)))
    | (refine W_opgU rfl ?hg ?_; (case hg => (simp only [upd_at, reduceIte, Nat.reduceEqDiff]; done))) | (refine W_callN rfl ?hg ?_; (case hg => (simp only [upd_at, reduceIte, Nat.reduceEqDiff, Bool.not_true, Bool.not_false]; done))) | rw [W_seq] | rw [W_reg] | rw [push_no] | rw [push_yes] | rw [W_onil] | rw [W_skip] | rw [W_blk] | rw [W_b] | refine W_regd0 ?_ | refine W_regd ?_)
  refine W_callA rfl ?hargs (call21 hS h9 hc9 h4 hc4 (by decide) (by decide) (Nat.lt_of_lt_of_le (by decide) h1.next) ⟨rfl, rfl, rfl, rfl, rfl, rfl, rfl⟩ hsl rfl (by decide)) ?_
  case hargs => simp only [WB, execE, unE, args0, reduceIte, Nat.reduceEqDiff, Nat.reduceAdd, Nat.reduceLeDiff] <;> rfl
  rintro v m2 ⟨⟨r, rfl, hr⟩, k2⟩ hs2
  have hr2 := one_cells hr
  have e2 : B28 2 = .i .i64 1 := rfl
  have e3 : B28 3 = .i .i64 0 := rfl
  have e4 : B28 4 = .i .i64 0 := rfl
  have e5 : B28 5 = .i .i64 0 := rfl
  have e6 : B28 6 = .i .i64 0 := rfl
  have e7 : B28 7 = .i .i64 0 := rfl
  have e8 : B28 8 = .i .i64 (-1) := rfl
  simp only [e2, e3, e4, e5, e6, e7, e8]
  repeat (first
    | ((first | refine W_op rfl rfl ?_ | (refine W_opgT rfl rfl ?hg ?_; (case hg => (simp only [upd_at, reduceIte, Nat.reduceEqDiff, Bool.not_true, Bool.not_false]; done)))); simp only [WB, execE, unE, args0, reduceIte, Nat.reduceEqDiff, Nat.reduceAdd, Nat.reduceLeDiff, hr, hr2, q3, beq_self_eq_true, binE, isShift, intBin, WO, fillX, splice, Wo_some])
    | (refine W_opgF rfl rfl ?hg ?_; (case hg => (simp only [upd_at, reduceIte, Nat.reduceEqDiff, Bool.not_true, Bool.not_false]; done)))
    | (refine W_opgU rfl ?hg ?_; (case hg => (simp only [upd_at, reduceIte, Nat.reduceEqDiff]; done))) | (refine W_callN rfl ?hg ?_; (case hg => (simp only [upd_at, reduceIte, Nat.reduceEqDiff, Bool.not_true, Bool.not_false]; done))) | rw [W_seq] | rw [W_reg] | rw [push_no] | rw [push_yes] | rw [W_onil] | rw [W_skip] | rw [W_blk] | rw [W_b] | refine W_regd0 ?_ | refine W_regd ?_)
  have kk : ∀ x y, Keep m1 ((m2.new x).put m2.next y) [] := fun x y => (k2.trans (Keep.new m2 x) (by simp)).trans (Keep.put _ _ _) (by intro i hi; have := List.mem_singleton.1 hi; right; have := k2.next; omega)
  refine W_callK rfl ?hg ?hargs (call10 (L := List.nil) (hS.keep0 (kk _ _)) (hR.keep (kk _ _) (by simp)) (by simp)) ?_
  case hg => (simp only [WB, execE, unE, args0, reduceIte, Nat.reduceEqDiff, Nat.reduceAdd, Nat.reduceLeDiff, WO, fillX, splice]; done)
  case hargs => simp only [WB, execE, unE, args0, reduceIte, Nat.reduceEqDiff, Nat.reduceAdd, Nat.reduceLeDiff, WO, fillX, splice] <;> rfl
  rintro v m3 ⟨⟨ty', oj', r3, _⟩, k3⟩ hs3
  have hl3 := r3.arr.lenF
  simp only [List.length_nil, Int.ofNat_zero, Int.natCast_zero] at hl3
  repeat (first
    | ((first | refine W_op rfl rfl ?_ | (refine W_opgT rfl rfl ?hg ?_; (case hg => (simp only [upd_at, reduceIte, Nat.reduceEqDiff, Bool.not_true, Bool.not_false]; done)))); simp only [WB, execE, unE, args0, reduceIte, Nat.reduceEqDiff, Nat.reduceAdd, Nat.reduceLeDiff, ↓hl3, beq_self_eq_true, binE, isShift, intBin, WO, fillX, splice, Wo_some])
    | (refine W_opgF rfl rfl ?hg ?_; (case hg => (simp only [upd_at, reduceIte, Nat.reduceEqDiff, Bool.not_true, Bool.not_false]; done)))
    | (refine W_opgU rfl ?hg ?_; (case hg => (simp only [upd_at, reduceIte, Nat.reduceEqDiff]; done))) | (refine W_callN rfl ?hg ?_; (case hg => (simp only [upd_at, reduceIte, Nat.reduceEqDiff, Bool.not_true, Bool.not_false]; done))) | rw [W_seq] | rw [W_reg] | rw [push_no] | rw [push_yes] | rw [W_onil] | rw [W_skip] | rw [W_blk] | rw [W_b] | refine W_regd0 ?_ | refine W_regd ?_)
  refine W_getRet (by repeat (first | exact hg | exact args0_un (Nat.le_of_ble_eq_true rfl) | refine upd_un ?_ rfl)) ?_
  exact ⟨hs3.ds.trans (hs2.ds.trans d1), _, rfl, rfl⟩
end Go.Proofs.YtjlckbphpmogjaaGreatDoor
