/- The calculus W: rows of one's own whose elements' type isn't told. No condition. -/
import Derived.Test.YtjlckbphpmogjaaGreatDoorSfViRow
namespace Go.Vi
open Go.RowKit
set_option linter.unusedSimpArgs false
set_option linter.unusedVariables false

theorem cells_i (k : IntKind) (n : Int) : (AV.i k n).cells = [.i k n] := rfl
theorem one_i (k : IntKind) (n : Int) : (AV.i k n).one = true := rfl
theorem cells_b (b : Bool) : (AV.b b).cells = [.b b] := rfl
theorem one_b (b : Bool) : (AV.b b).one = true := rfl

theorem Row.app2 {m : AMem} {ty tyE : Option Nat} {av : AV} {oj : Option Nat} {l : List AV} (h : Row m ty av oj l) (x : AV) (bytes : Nat) (hr : roomy (l.length + 1) bytes = true) :
    ∃ av' j m' ty', appE m ⟨1, tyE⟩ bytes av [x] 1 = some (av', m') ∧ Row m' ty' av' (some j) (l ++ [x]) ∧ m'.ds = m.ds ∧ m'.ro = m.ro ∧ (oj = some j ∨ m.next ≤ j) ∧ Keep m m' oj.toList := by
  cases oj with
  | none =>
    obtain ⟨rfl, rfl⟩ := h
    refine ⟨_, m.next, m.new (.cells [x] true ⟨1, tyE⟩), tyE, ?_, ⟨[x], false, rfl, by simp, by rw [AMem.get_new, if_pos rfl], by simp, by simp⟩, rfl, rfl, .inr (Nat.le_refl _), Keep.new _ _⟩
    simp only [appE]
    rw [if_neg (by omega), if_pos (show roomy 1 bytes = true from hr)]
    rfl
  | some j =>
    obtain ⟨c, ex, rfl, hj, hg, hl, ht⟩ := h
    by_cases hc : l.length + 1 ≤ c.length
    · refine ⟨.sl (some (j, 0)) (l.length + 1) c.length ex, j, m.put j (some (.cells (splice c (0 + l.length * 1) [x]) true ⟨1, ty⟩)), ty, ?_, ?_, rfl, rfl, .inl rfl, (Keep.put _ _ _).mono fun i hi => .inl (by simpa using hi)⟩
      · simp only [appE, hg]
        rw [if_pos hc, if_neg (by omega), if_pos ⟨trivial, by simp only [List.length_cons, List.length_nil]; omega⟩]
      · have hlen : (splice c (0 + l.length * 1) [x]).length = c.length := by
          simp only [splice, List.length_append, List.length_take, List.length_cons, List.length_nil, List.length_drop]; omega
        refine ⟨_, ex, by rw [hlen]; simp, by simpa using hj, by rw [AMem.get_put, if_pos rfl], by rw [hlen]; simpa using hc, ?_⟩
        simp only [splice, Nat.zero_add, Nat.mul_one, List.length_append, List.length_cons, List.length_nil, ht]
        have e : l.length + 1 = (l ++ [x]).length := by simp
        rw [e, ← List.append_assoc, List.take_left]
    · have hcl : c.length = l.length := by omega
      have hcl' : c = l := by rw [← ht, ← hcl, List.take_length]
      subst hcl'
      cases ex with
      | true =>
        refine ⟨.sl (some (m.next, 0)) (c.length + 1) (c.length + 1) false, m.next, m.new (.cells ((c.drop 0).take (c.length * 1) ++ [x]) true ⟨1, tyE⟩), tyE, ?_, ?_, rfl, rfl, .inr (Nat.le_refl _), (Keep.new _ _).nil⟩
        · simp only [appE, hg]
          rw [if_neg hc, if_pos ⟨hr, Nat.le_refl _, by omega⟩]
          rfl
        · refine ⟨c ++ [x], false, by simp, by simp, by rw [AMem.get_new, if_pos rfl]; simp, by simp, List.take_of_length_le (by simp)⟩
      | false =>
        refine ⟨.sl (some (m.next, 0)) (c.length + 1) (c.length + 1) false, m.next, (m.put j none).new (.cells ((c.drop 0).take (c.length * 1) ++ [x]) true (ES.grow ⟨1, ty⟩ ⟨1, tyE⟩ 0)), (ES.grow ⟨1, ty⟩ ⟨1, tyE⟩ 0).ty, ?_, ?_, rfl, rfl, .inr (Nat.le_refl _), ?_⟩
        · simp only [appE, hg]
          rw [if_neg hc, if_pos ⟨hr, Nat.le_refl _, by omega⟩]
          simp only [Bool.false_eq_true, if_false]
          rw [if_pos ⟨trivial, trivial, by omega⟩]
        · refine ⟨c ++ [x], false, by simp, by simp, ?_, by simp, List.take_of_length_le (by simp)⟩
          rw [AMem.get_new, AMem.next_put, if_pos rfl]
          simp [ES.grow]
        · exact ⟨by simp, fun i hi hn => by
            rw [AMem.get_new, AMem.next_put, if_neg (by omega), AMem.get_put, if_neg (by simp at hn; omega)]⟩

section
variable {T : Nat → VFn} {nt : Nat} {Q : (Nat → AV) → AMem → Prop} {K : List KI} {g : Nat → AV} {m : AMem}

theorem W_push2 {a b : Nat} {s y : X} {z : List AV} {ty tyE : Option Nat} {bytes : Nat} {oj : Option Nat} {ls : List AV} {l : List VOper} (hda : dOk nt (some a) = true) (hdb : dOk nt (some b) = true) (hz : z.length = 1) (hs : X.at (upd g (some a) (.sl (some (m.next, 0)) 1 1 true)) s = X.at g s)
    (hrow : Row m ty (X.at g s) oj ls) (hone : (X.at g y).one = true) (hroom : roomy (ls.length + 1) bytes = true)
    (h : ∀ av' j m' ty', Row m' ty' av' (some j) (ls ++ [X.at g y]) → m'.ds = m.ds → m'.ro = m.ro → (oj = some j ∨ m.next ≤ j) → Keep m m' oj.toList → W T nt Q (.o l .no :: K) (upd (upd g (some a) (.sl (some (m.next, 0)) 1 1 true)) (some b) av') m') :
    W T nt Q (.o (⟨some a, none, .bsl 1 1 z [(0, 1, y)]⟩ :: ⟨some b, none, .app ⟨1, tyE⟩ bytes s (.t a)⟩ :: l) .no :: K) g m := by
  have hcells : (X.at g y).cells = [X.at g y] := one_cells hone
  obtain ⟨z0, rfl⟩ : ∃ z0, z = [z0] := by
    match z, hz with
    | [z0], _ => exact ⟨z0, rfl⟩
  refine W_op rfl hda ?_
  simp only [execE, fillX, hcells, List.length_cons, List.length_nil, Nat.zero_add, Nat.le_refl, List.all_cons, List.all_nil, hone, Bool.and_self, and_self, if_true, Option.map_some, Wo_some, push_no, splice, List.take_zero, List.nil_append, List.drop_succ_cons, List.drop_nil, List.append_nil, List.drop_zero]
  have hrow' : Row (m.new (.cells [X.at g y] true ⟨1, none⟩)) ty (X.at g s) oj ls := hrow.keep (Keep.new _ _) (by simp)
  obtain ⟨av', j, m', ty', h1, h2, h3, h4, h5, h6⟩ := hrow'.app2 (tyE := tyE) (X.at g y) bytes hroom
  refine W_op rfl hdb ?_
  have hsrc : srcE (m.new (.cells [X.at g y] true ⟨1, none⟩)) 1 (X.at (upd g (some a) (.sl (some (m.next, 0)) 1 1 true)) (.t a)) = some ([X.at g y], 1) := by
    simp [X.at, upd, srcE, rd, AMem.get_new]
  simp only [execE, hsrc, hs, List.all_cons, List.all_nil, hone, Bool.and_self, if_true, h1, Wo_some, push_no]
  exact h av' j m' ty' h2 h3 h4 (h5.imp id fun h => by simp at h; omega) ((Keep.new _ _).nil.trans h6 fun i hi => .inl hi)
end

end Go.Vi
