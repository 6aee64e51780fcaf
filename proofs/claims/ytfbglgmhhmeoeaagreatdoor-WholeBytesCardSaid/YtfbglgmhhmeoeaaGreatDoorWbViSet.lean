/- One cell of a row is set. No condition. -/
import Derived.Test.YtfbglgmhhmeoeaaGreatDoorWbViNode
namespace Go.Vi
open Go.RowKit
set_option linter.unusedSimpArgs false
set_option linter.unusedVariables false
theorem splice_one : ∀ {c : List AV} {p : Nat} {v : AV}, p < c.length → splice c p [v] = c.set p v
  | [], p, v, h => by simp at h
  | a :: c, 0, v, h => by simp [splice]
  | a :: c, p + 1, v, h => by
    have ih := splice_one (c := c) (p := p) (v := v) (by simpa using h)
    simp only [splice, List.length_cons, List.length_nil] at ih ⊢
    rw [List.take_succ_cons, show p + 1 + (0 + 1) = (p + (0 + 1)) + 1 by omega, List.drop_succ_cons, List.set_cons_succ, ← ih]
    rfl
section
variable {T : Nat → VFn} {nt : Nat} {Q : (Nat → AV) → AMem → Prop} {K : List KI} {g : Nat → AV} {m : AMem}
theorem W_set1 {a x : X} {j p : Nat} {c : List AV} {es : ES} {v : AV} {l : List VOper} {hh : Hist} (ha : X.at g a = .p (some (j, p))) (hx : X.at g x = v) (ho : v.one = true) (hg : m.get j = some (.cells c true es)) (hp : p < c.length)
    (h : W T nt Q (.o l (hh.push g m) :: K) g (m.put j (some (.cells (c.set p v) true es)))) : W T nt Q (.o (⟨none, none, .st 1 a x⟩ :: l) hh :: K) g m := by
  refine W_op rfl rfl ?_
  have hc := one_cells ho
  simp only [execE, ha, hx, hg, hc, List.length_cons, List.length_nil, Nat.zero_add, List.all_cons, List.all_nil, ho, Bool.and_self, true_and]
  rw [if_pos (by omega), splice_one hp]
  exact h
end
theorem RowE.set1 {m : AMem} {ty : Option Nat} {av : AV} {j n : Nat} {l : List AV} (h : RowE m 1 ty av (some j) n l) {i : Nat} (hi : i < n) :
    ∃ c cap ex, av = .sl (some (j, 0)) n cap ex ∧ m.get j = some (.cells c true ⟨1, ty⟩) ∧ i < c.length ∧ c[i]? = l[i]? ∧ ∀ x, RowE (m.put j (some (.cells (c.set i x) true ⟨1, ty⟩))) 1 ty av (some j) n (l.set i x) := by
  obtain ⟨h0, c, cap, ex, h1, h2, h3, h4, h5, h6⟩ := h
  refine ⟨c, cap, ex, h1, h3, by omega, ?_, fun x => ⟨by rw [List.length_set]; exact h0, c.set i x, cap, ex, h1, h2, by rw [AMem.get_put, if_pos rfl], by rw [List.length_set]; exact h4, h5, ?_⟩⟩
  · rw [← h6, List.getElem?_take, if_pos (by omega)]
  · rw [List.take_set, h6]
end Go.Vi
