/- States as bytes: the places that are other ones, and all of a state. No condition. -/
import Derived.Test.YtfbglgmhhmeoeaaGreatDoorWbWG
import Derived.Test.YtfbglgmhhmeoeaaGreatDoorWbViNode
namespace Go.Proofs.YtfbglgmhhmeoeaaGreatDoor
open Go.Vi
set_option linter.unusedSimpArgs false
set_option linter.unusedVariables false
theorem arr_src {m : AMem} {av : AV} {n : Nat} {l : List AV} (h : Arr m 1 av n l) : srcE m 1 av = some (l, n) := by
 obtain ⟨h0, ⟨rfl, rfl | rfl⟩ | ⟨j, o, cap, ex, c, wr, es, rfl, _, hj, hg, hle, ht⟩⟩ := h
 ·obtain rfl : l = [] := List.length_eq_zero_iff.1 (by omega)
  rfl
 ·obtain rfl : l = [] := List.length_eq_zero_iff.1 (by omega)
  rfl
 ·simp only [srcE, rd, hg, if_pos hle, ht, Option.map_some]
theorem ByR.arr {m m' : AMem} {av : AV} {l : List UInt8} (h : ByR m m' av l) : Arr m' 1 av l.length (cellsOfBytes l) := by
 obtain ⟨ty, oj, h, _⟩ := h; exact h.arr
theorem mvl_len : ∀ (l k : List Int) (i last : Nat), last ≤ i → i + l.length ≤ 100000 → (∀ x ∈ l, Small x) → (∀ x ∈ k, Small x) → (mvl i last l k).length ≤ 20 * l.length
 | [], k, i, last, _, _, _, _ => by simp [mvl]
 | a :: l, [], i, last, _, _, _, _ => by simp [mvl]
 | a :: l, x :: k, i, last, h1, h2, h3, h4 => by
   simp only [List.length_cons] at h2
   have ih1 := mvl_len l k (i + 1) last (by omega) (by omega) (fun y hy => h3 y (List.mem_cons_of_mem _ hy)) (fun y hy => h4 y (List.mem_cons_of_mem _ hy))
   have ih2 := mvl_len l k (i + 1) (i + 1) (Nat.le_refl _) (by omega) (fun y hy => h3 y (List.mem_cons_of_mem _ hy)) (fun y hy => h4 y (List.mem_cons_of_mem _ hy))
   have b1 := vb_len64 (n := i - last) (by omega)
   have ha := h3 a (List.mem_cons_self ..)
   have hx := h4 x (List.mem_cons_self ..)
   unfold Small at ha hx
   have b2 := vb_len64 (n := zig (x - a)) (zig_lt ⟨by omega, by omega⟩)
   simp only [mvl, List.length_cons]
   split
   ·omega
   ·simp only [List.length_append]; omega
set_option maxHeartbeats 4000000 in
theorem call99 {m : AMem} {av bv : AV} {l k : List Int} (hA : Arr m 1 av l.length (ints l)) (hB : Arr m 1 bv k.length (ints k)) (hlk : l.length = k.length) (hn : l.length ≤ 1000) (hl : ∀ x ∈ l, Small x) (hk : ∀ x ∈ k, Small x) :
  Vi.Call T 99 [av, bv] m (fun v m' => ByR m m' v (moved l k) ∧ Keep m m' []) := by
 have hlenB := hB.lenF
 have htot := mvl_len l k 0 0 (Nat.le_refl _) (by omega) hl hk
 have hmn := mvn_le l k
 refine Vi.Call.ofP T99 (Nat.le_of_ble_eq_true rfl) ?_
 unfold v99
 repeat (first
  | (refine W_op rfl rfl ?_; simp only [WB, execE, unE, args0, reduceIte, Nat.reduceEqDiff, Nat.reduceAdd, Nat.reduceLeDiff, ↓hlenB, WO, fillX, splice, Wo_some]) | simp only [WS] | refine W_regd0 ?_ | refine W_regd ?_)
 refine W_cutK [_, _] (fun g' m' => ∃ (out : AV) (ty oj : Option Nat), g' 5 = out ∧ g' 6 = .i .i64 (mvn l k : Int) ∧ RowE m' 1 ty out oj (mvl 0 0 l k).length (cellsOfBytes (mvl 0 0 l k)) ∧ (∀ x, oj = some x → m.next ≤ x) ∧ Keep m m' [] ∧ m'.ds = []) ?_ ?_
 ·simp only [List.cons_append, List.nil_append]
  refine W_loop (fun q g' m' => ∃ (i n last : Nat) (o : List UInt8) (out : AV) (ty oj : Option Nat), i ≤ k.length ∧ q = k.length - i ∧ g' 0 = av ∧ g' 1 = bv ∧ g' 5 = out ∧ g' 6 = .i .i64 (n : Int) ∧ g' 7 = .i .i64 (last : Int) ∧ g' 10 = bv ∧ g' 11 = .i .i64 (k.length : Int) ∧ g' 12 = .i .i64 (i : Int) ∧ last ≤ i ∧ n ≤ i ∧ n + mvn (l.drop i) (k.drop i) = mvn l k ∧ o ++ mvl i last (l.drop i) (k.drop i) = mvl 0 0 l k ∧ RowE m' 1 ty out oj o.length (cellsOfBytes o) ∧ (∀ x, oj = some x → m.next ≤ x) ∧ Keep m m' [] ∧ m'.ds = []) k.length ?_ ?_ ?_
  ·refine ⟨0, 0, 0, [], _, none, none, Nat.zero_le _, rfl, ?_, ?_, ?_, ?_, ?_, ?_, ?_, ?_, Nat.le_refl _, Nat.le_refl _, by simp, by simp, RowE.nil _ _ _, nofun, Keep.inn m, rfl⟩
   ·skip
    simp only [WT, reduceIte, Nat.reduceEqDiff, args0]
   ·skip
    simp only [WT, reduceIte, Nat.reduceEqDiff, args0]
   ·skip
    simp only [WT, reduceIte, Nat.reduceEqDiff, args0]
   ·skip
    simp only [WT, reduceIte, Nat.reduceEqDiff, args0, Int.ofNat_zero]
    try rfl
   ·skip
    simp only [WT, reduceIte, Nat.reduceEqDiff, args0, Int.ofNat_zero]
    try rfl
   ·skip
    simp only [WT, reduceIte, Nat.reduceEqDiff, args0]
   ·skip
    simp only [WT, reduceIte, Nat.reduceEqDiff, args0]
   ·skip
    simp only [WT, reduceIte, Nat.reduceEqDiff, args0, Int.ofNat_zero]
    try rfl
  ·intro i hi
   repeat (first | exact args0_un (Nat.le_of_ble_eq_true rfl) i hi | refine upd_un ?_ rfl i hi; clear i hi; intro i hi)
  ·rintro q g m1 ⟨i, n, last, o, out, ty, oj, hi, rfl, q0, q1, q5, q6, q7, q10, q11, q12, hlast, hni, hmv, hout, hR, hoj, k1, d1⟩ hg
   by_cases hlt : i < k.length
   ·have c1 : decide ((i : Int) < (k.length : Int)) = true := decide_eq_true (by omega)
    obtain ⟨x, hx⟩ : ∃ x, k[i]? = some x := ⟨_, List.getElem?_eq_getElem hlt⟩
    obtain ⟨a, ha⟩ : ∃ a, l[i]? = some a := ⟨_, List.getElem?_eq_getElem (by omega)⟩
    have hkd : k.drop i = x :: k.drop (i + 1) := by
     rw [List.drop_eq_getElem_cons hlt]; congr 1
     rw [List.getElem?_eq_getElem hlt] at hx; exact Option.some.inj hx
    have hld : l.drop i = a :: l.drop (i + 1) := by
     rw [List.drop_eq_getElem_cons (by omega)]; congr 1
     rw [List.getElem?_eq_getElem (by omega)] at ha; exact Option.some.inj ha
    rw [hkd, hld] at hmv hout
    simp only [mvn, mvl] at hmv hout
    obtain ⟨ja, oa, capa, exa, ca, wra, esa, rfl, hja, hga, hcka⟩ := hA.full (by omega)
    obtain ⟨jb, ob, capb, exb, cb, wrb, esb, rfl, hjb, hgb, hckb⟩ := hB.full (by omega)
    have hca : ca[oa + i]? = some (.i .i64 a) := (hcka _ (by omega)).trans (ints_get ha)
    have hcb : cb[ob + i]? = some (.i .i64 x) := (hckb _ (by omega)).trans (ints_get hx)
    have ga1 := k1.at hja (by simp) hga
    have gb1 := k1.at hjb (by simp) hgb
    have hixa : (0 ≤ (i : Int) ∧ (i : Int) < (l.length : Int)) := ⟨by omega, by omega⟩
    have hixb : (0 ≤ (i : Int) ∧ (i : Int) < (k.length : Int)) := ⟨by omega, by omega⟩
    have hwi : IntKind.i64.wrap ((i : Int) + 1) = ((i + 1 : Nat) : Int) := wr_i64 (n := (i : Int) + 1) (by omega) (by omega)
    by_cases hxa : x = a
    ·have c2 : (x == a) = true := by simpa using hxa
     rw [if_pos hxa] at hmv hout
     repeat (first
      | (refine W_op rfl rfl ?_; simp only [WB, execE, unE, args0, reduceIte, Nat.reduceEqDiff, Nat.reduceAdd, Nat.reduceLeDiff, q11, q12, c1, binE, isShift, intBin, WO, fillX, splice, Wo_some]) | simp only [WS] | refine W_regd0 ?_ | refine W_regd ?_)
     refine W_cond ?_
     simp only [WB, execE, unE, args0, reduceIte, Nat.reduceEqDiff, Nat.reduceAdd, Nat.reduceLeDiff, WC]
     repeat (first
      | (refine W_op rfl rfl ?_; simp only [WB, execE, unE, args0, reduceIte, Nat.reduceEqDiff, Nat.reduceAdd, Nat.reduceLeDiff, q0, q10, q12, hixa, hixb, Int.toNat_natCast, Nat.mul_one, ga1, gb1, hca, hcb, c2, binE, isShift, intBin, WO, fillX, splice, Wo_some]) | simp only [WS] | refine W_regd0 ?_ | refine W_regd ?_)
     refine W_cond ?_
     simp only [WB, execE, unE, args0, reduceIte, Nat.reduceEqDiff, Nat.reduceAdd, Nat.reduceLeDiff, WC]
     refine W_exit rfl ?_
     repeat (first
      | (refine W_op rfl rfl ?_; simp only [WB, execE, unE, args0, reduceIte, Nat.reduceEqDiff, Nat.reduceAdd, Nat.reduceLeDiff, q12, hwi, binE, isShift, intBin, WO, fillX, splice, Wo_some]) | simp only [WS] | refine W_regd0 ?_ | refine W_regd ?_)
     refine W_j (by repeat (first | exact hg | exact args0_un (Nat.le_of_ble_eq_true rfl) | refine upd_un ?_ rfl)) ?_
     refine ⟨k.length - (i + 1), by omega, i + 1, n, last, o, out, ty, oj, by omega, rfl, ?_, ?_, ?_, ?_, ?_, ?_, ?_, ?_, by omega, by omega, by omega, hout, hR, hoj, k1, d1⟩
     ·skip
      simp only [WT, reduceIte, Nat.reduceEqDiff, args0, q0]
     ·skip
      simp only [WT, reduceIte, Nat.reduceEqDiff, args0, q1]
     ·skip
      simp only [WT, reduceIte, Nat.reduceEqDiff, args0, q5]
     ·skip
      simp only [WT, reduceIte, Nat.reduceEqDiff, args0, q6]
     ·skip
      simp only [WT, reduceIte, Nat.reduceEqDiff, args0, q7]
     ·skip
      simp only [WT, reduceIte, Nat.reduceEqDiff, args0, q10]
     ·skip
      simp only [WT, reduceIte, Nat.reduceEqDiff, args0, q11]
     ·skip
      simp only [WT, reduceIte, Nat.reduceEqDiff, args0]
    ·have c2 : (x == a) = false := by simpa using hxa
     rw [if_neg hxa] at hmv hout
     have hal := hl a (List.mem_of_getElem? ha)
     have hxl := hk x (List.mem_of_getElem? hx)
     unfold Small at hal hxl
     have hw26 : IntKind.i64.wrap ((i : Int) - (last : Int)) = ((i - last : Nat) : Int) := by rw [wr_i64 (by omega) (by omega)]; omega
     have hw27 : IntKind.u64.wrap ((i - last : Nat) : Int) = ((i - last : Nat) : Int) := wr_u64 (by omega)
     have hw36 : IntKind.i64.wrap (x - a) = x - a := wr_i64 (by omega) (by omega)
     have hwn : IntKind.i64.wrap ((n : Int) + 1) = ((n + 1 : Nat) : Int) := wr_i64 (n := (n : Int) + 1) (by omega) (by omega)
     have hol : o.length + ((vb (i - last)).length + ((vb (zig (x - a))).length + (mvl (i + 1) (i + 1) (l.drop (i + 1)) (k.drop (i + 1))).length)) = (mvl 0 0 l k).length := by
      rw [← hout]; simp [List.length_append]
     repeat (first
      | (refine W_op rfl rfl ?_; simp only [WB, execE, unE, args0, reduceIte, Nat.reduceEqDiff, Nat.reduceAdd, Nat.reduceLeDiff, q11, q12, c1, binE, isShift, intBin, WO, fillX, splice, Wo_some]) | simp only [WS] | refine W_regd0 ?_ | refine W_regd ?_)
     refine W_cond ?_
     simp only [WB, execE, unE, args0, reduceIte, Nat.reduceEqDiff, Nat.reduceAdd, Nat.reduceLeDiff, WC]
     repeat (first
      | (refine W_op rfl rfl ?_; simp only [WB, execE, unE, args0, reduceIte, Nat.reduceEqDiff, Nat.reduceAdd, Nat.reduceLeDiff, q0, q10, q12, hixa, hixb, Int.toNat_natCast, Nat.mul_one, ga1, gb1, hca, hcb, c2, binE, isShift, intBin, WO, fillX, splice, Wo_some]) | simp only [WS] | refine W_regd0 ?_ | refine W_regd ?_)
     refine W_cond ?_
     simp only [WB, execE, unE, args0, reduceIte, Nat.reduceEqDiff, Nat.reduceAdd, Nat.reduceLeDiff, WC]
     repeat (first
      | (refine W_op rfl rfl ?_; simp only [WB, execE, unE, args0, reduceIte, Nat.reduceEqDiff, Nat.reduceAdd, Nat.reduceLeDiff, q5, q7, hw26, hw27, binE, isShift, intBin, WO, fillX, splice, Wo_some]) | simp only [WS] | refine W_regd0 ?_ | refine W_regd ?_)
     refine W_callA rfl ?hargs (call38 (i - last) (by omega)) ?_
     case hargs => simp only [WB, execE, unE, args0, reduceIte, Nat.reduceEqDiff, Nat.reduceAdd, Nat.reduceLeDiff] <;> rfl
     rintro v m2 ⟨hV, k2⟩ hs2
     have hsrc2 := arr_src hV.arr
     refine W_app (n := o.length) (k := (vb (i - last)).length) (new := cellsOfBytes (vb (i - last))) (ls := cellsOfBytes o) rfl ((hR.keep k2 (by simp)).as ?hrow) ?hsrc (by rw [bytes_len]; omega) (bytes_one _) (roomyOf (by omega) (by omega)) ?_
     case hrow =>
      simp only [WB, execE, unE, args0, reduceIte, Nat.reduceEqDiff, Nat.reduceAdd, Nat.reduceLeDiff, q5]
     case hsrc =>
      simp only [WB, execE, unE, args0, reduceIte, Nat.reduceEqDiff, Nat.reduceAdd, Nat.reduceLeDiff]
      exact hsrc2
     intro av3 oj3 m3 ty3 r3 ds3 ro3 o3 k3 _
     have hoj3 : ∀ y, oj3 = some y → m.next ≤ y := by
      intro y hy
      rcases o3 with h | ⟨y', h, h2⟩
      ·exact hoj y (h ▸ hy)
      ·rw [h] at hy; cases hy
       have := k1.next; have := k2.next
       omega
     have kk3 : Keep m m3 [] := (k1.trans k2 (by simp)).trans k3 (by intro y hy; right; exact hoj y (by simpa using hy))
     have ga3 := kk3.at hja (by simp) hga
     have gb3 := kk3.at hjb (by simp) hgb
     repeat (first
      | (refine W_op rfl rfl ?_; simp only [WB, execE, unE, args0, reduceIte, Nat.reduceEqDiff, Nat.reduceAdd, Nat.reduceLeDiff, q0, q12, hixa, Int.toNat_natCast, Nat.mul_one, ga3, hca, hw36, binE, isShift, intBin, WO, fillX, splice, Wo_some]) | simp only [WS] | refine W_regd0 ?_ | refine W_regd ?_)
     refine W_callA rfl ?hargs (call98 (n := x - a) ⟨by omega, by omega⟩) ?_
     case hargs => simp only [WB, execE, unE, args0, reduceIte, Nat.reduceEqDiff, Nat.reduceAdd, Nat.reduceLeDiff] <;> rfl
     rintro v4 m4 ⟨hV4, k4⟩ hs4
     have hsrc4 := arr_src hV4.arr
     refine W_app (n := o.length + (vb (i - last)).length) (k := (vb (zig (x - a))).length) (new := cellsOfBytes (vb (zig (x - a)))) (ls := cellsOfBytes o ++ cellsOfBytes (vb (i - last))) rfl ((r3.keep k4 (by simp)).as ?hrow) ?hsrc (by rw [bytes_len]; omega) (bytes_one _) (roomyOf (by omega) (by omega)) ?_
     case hrow =>
      simp only [WB, execE, unE, args0, reduceIte, Nat.reduceEqDiff, Nat.reduceAdd, Nat.reduceLeDiff]
     case hsrc =>
      simp only [WB, execE, unE, args0, reduceIte, Nat.reduceEqDiff, Nat.reduceAdd, Nat.reduceLeDiff]
      exact hsrc4
     intro av5 oj5 m5 ty5 r5 ds5 ro5 o5 k5 _
     have hoj5 : ∀ y, oj5 = some y → m.next ≤ y := by
      intro y hy
      rcases o5 with h | ⟨y', h, h2⟩
      ·exact hoj3 y (h ▸ hy)
      ·rw [h] at hy; cases hy
       have := kk3.next; have := k4.next
       omega
     have kk5 : Keep m m5 [] := (kk3.trans k4 (by simp)).trans k5 (by intro y hy; right; exact hoj3 y (by simpa using hy))
     repeat (first
      | (refine W_op rfl rfl ?_; simp only [WB, execE, unE, args0, reduceIte, Nat.reduceEqDiff, Nat.reduceAdd, Nat.reduceLeDiff, q6, q12, hwn, hwi, binE, isShift, intBin, WO, fillX, splice, Wo_some]) | simp only [WS] | refine W_regd0 ?_ | refine W_regd ?_)
     refine W_j (by repeat (first | exact hg | exact args0_un (Nat.le_of_ble_eq_true rfl) | refine upd_un ?_ rfl)) ?_
     refine ⟨k.length - (i + 1), by omega, i + 1, n + 1, i + 1, o ++ vb (i - last) ++ vb (zig (x - a)), av5, ty5, oj5, by omega, rfl, ?_, ?_, ?_, ?_, ?_, ?_, ?_, ?_, Nat.le_refl _, by omega, by omega, ?_, ?_, hoj5, kk5, ?_⟩
     ·skip
      simp only [WT, reduceIte, Nat.reduceEqDiff, args0, q0]
     ·skip
      simp only [WT, reduceIte, Nat.reduceEqDiff, args0, q1]
     ·skip
      simp only [WT, reduceIte, Nat.reduceEqDiff, args0]
     ·skip
      simp only [WT, reduceIte, Nat.reduceEqDiff, args0]
     ·skip
      simp only [WT, reduceIte, Nat.reduceEqDiff, args0]
     ·skip
      simp only [WT, reduceIte, Nat.reduceEqDiff, args0, q10]
     ·skip
      simp only [WT, reduceIte, Nat.reduceEqDiff, args0, q11]
     ·skip
      simp only [WT, reduceIte, Nat.reduceEqDiff, args0]
     ·rw [← hout]; simp [List.append_assoc]
     ·rw [bytes_app, bytes_app, List.length_append, List.length_append]
      exact r5
     ·exact ds5.trans (hs4.ds.trans (ds3.trans (hs2.ds.trans d1)))
   ·have c1 : decide ((i : Int) < (k.length : Int)) = false := decide_eq_false (by omega)
    have hd1 : l.drop i = [] := List.drop_of_length_le (by omega)
    rw [hd1] at hmv hout
    simp only [mvn, mvl, Nat.add_zero, List.append_nil] at hmv hout
    subst hmv hout
    repeat (first
     | (refine W_op rfl rfl ?_; simp only [WB, execE, unE, args0, reduceIte, Nat.reduceEqDiff, Nat.reduceAdd, Nat.reduceLeDiff, q11, q12, c1, binE, isShift, intBin, WO, fillX, splice, Wo_some]) | simp only [WS] | refine W_regd0 ?_ | refine W_regd ?_)
    refine W_cond ?_
    simp only [WB, execE, unE, args0, reduceIte, Nat.reduceEqDiff, Nat.reduceAdd, Nat.reduceLeDiff, WC]
    refine W_exit rfl ?_
    refine W_j (by repeat (first | exact hg | exact args0_un (Nat.le_of_ble_eq_true rfl) | refine upd_un ?_ rfl)) ?_
    exact ⟨out, ty, oj, q5, q6, hR, hoj, k1, d1⟩
 rintro g m1 ⟨out, ty, oj, q5, q6, hR, hoj, k1, d1⟩ hg
 have hwn : IntKind.u64.wrap (mvn l k : Int) = (mvn l k : Int) := wr_u64 (by omega)
 have hvl := vb_len64 (n := mvn l k) (by omega)
 repeat (first
  | (refine W_op rfl rfl ?_; simp only [WB, execE, unE, args0, reduceIte, Nat.reduceEqDiff, Nat.reduceAdd, Nat.reduceLeDiff, q6, hwn, WO, fillX, splice, Wo_some]) | simp only [WS] | refine W_regd0 ?_ | refine W_regd ?_)
 refine W_callA rfl ?hargs (call38 (mvn l k) (by omega)) ?_
 case hargs => simp only [WB, execE, unE, args0, reduceIte, Nat.reduceEqDiff, Nat.reduceAdd, Nat.reduceLeDiff] <;> rfl
 rintro v m2 ⟨⟨tv, ov, hV, hov⟩, k2⟩ hs2
 have hsrc2 := arr_src ((hR.keep k2 (by simp)).arr)
 repeat (first
  | ((first | refine W_opA rfl rfl rfl ?_ | (refine W_opgT rfl rfl ?h ?_; case h => simp only [WG, reduceIte, Nat.reduceEqDiff]; done)); simp only [WB, execE, unE, args0, reduceIte, Nat.reduceEqDiff, Nat.reduceAdd, Nat.reduceLeDiff, q5, WO, fillX, splice, Wo_some]) | simp only [WS] | refine W_regd0 ?_ | refine W_regd ?_)
 refine W_app (n := (vb (mvn l k)).length) (k := (mvl 0 0 l k).length) (new := cellsOfBytes (mvl 0 0 l k)) (ls := cellsOfBytes (vb (mvn l k))) rfl (hV.as ?hrow) ?hsrc (by rw [bytes_len]; omega) (bytes_one _) (roomyOf (by omega) (by omega)) ?_
 case hrow =>
  simp only [WB, execE, unE, args0, reduceIte, Nat.reduceEqDiff, Nat.reduceAdd, Nat.reduceLeDiff]
 case hsrc =>
  simp only [WB, execE, unE, args0, reduceIte, Nat.reduceEqDiff, Nat.reduceAdd, Nat.reduceLeDiff, q5]
  exact hsrc2
 intro av3 oj3 m3 ty3 r3 ds3 ro3 o3 k3 _
 have hn1 := k1.next
 have hn2 := k2.next
 have kk2 : Keep m m2 [] := k1.trans k2 (by simp)
 have kk3 : Keep m m3 [] := kk2.trans k3 (by intro y hy; right; have := hov y (by simpa using hy); omega)
 repeat (first
  | (refine W_op rfl rfl ?_; simp only [WB, execE, unE, args0, reduceIte, Nat.reduceEqDiff, Nat.reduceAdd, Nat.reduceLeDiff, WO, fillX, splice, Wo_some]) | simp only [WS] | refine W_regd0 ?_ | refine W_regd ?_)
 refine W_getRet (by repeat (first | exact hg | exact args0_un (Nat.le_of_ble_eq_true rfl) | refine upd_un ?_ rfl)) ?_
 refine ⟨ds3.trans (hs2.ds.trans d1), _, rfl, ⟨ty3, oj3, ?_, fun y hy => ?_⟩, kk3.out⟩
 ·unfold moved
  rw [bytes_app, List.length_append]
  exact r3.keep (Keep.refl _ []).out (by simp)
 ·rcases o3 with h | ⟨y', h, h2⟩
  ·have := hov y (h ▸ hy); omega
  ·rw [h] at hy; cases hy
   omega
end Go.Proofs.YtfbglgmhhmeoeaaGreatDoor
