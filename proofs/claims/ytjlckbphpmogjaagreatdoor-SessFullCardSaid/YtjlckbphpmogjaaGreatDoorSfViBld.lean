/- A builder's two cells, and its bytes; what lies below a number is as it was. No condition. -/
import Derived.Test.YtjlckbphpmogjaaGreatDoorSfViRowE
namespace Go.Vi
open Go.RowKit
set_option linter.unusedSimpArgs false
set_option linter.unusedVariables false

structure Lo (n0 : Nat) (m m' : AMem) : Prop where
  next : m.next ≤ m'.next
  get : ∀ i, i < n0 → m'.get i = m.get i

theorem Lo.refl (n0 : Nat) (m : AMem) : Lo n0 m m := ⟨Nat.le_refl _, fun _ _ => rfl⟩
theorem Lo.trans {n0 : Nat} {m m1 m2 : AMem} (h : Lo n0 m m1) (k : Lo n0 m1 m2) : Lo n0 m m2 := ⟨Nat.le_trans h.next k.next, fun i hi => (k.get i hi).trans (h.get i hi)⟩
theorem Lo.of {n0 : Nat} {m m' : AMem} {fp : List Nat} (h : Keep m m' fp) (hl : n0 ≤ m.next) (hf : ∀ x ∈ fp, n0 ≤ x) : Lo n0 m m' :=
  ⟨h.next, fun i hi => h.get i (by omega) fun hm => by have := hf i hm; omega⟩
theorem Lo.keep {m m' : AMem} (h : Lo m.next m m') : Keep m m' [] := ⟨h.next, fun i hi _ => h.get i hi⟩
theorem Lo.keepOf {n0 : Nat} {m0 m m' : AMem} (h : Lo n0 m m') (h0 : Lo n0 m0 m) (hn : m0.next = n0) : Keep m0 m' [] := by
  subst hn; exact (h0.trans h).keep
theorem Lo.inn {n0 : Nat} {m m' : AMem} (h : Lo n0 m.inn m') : Lo n0 m m' := ⟨h.next, h.get⟩
theorem Lo.out {n0 : Nat} {m m' m2 : AMem} (h : Lo n0 m m') : Lo n0 m (m'.out m2) := ⟨h.next, h.get⟩

structure Bld (n0 tb tu : Nat) (m : AMem) (j : Nat) (l : List UInt8) : Prop where
  lo : n0 ≤ j
  hi : j < m.next
  at_ : ∃ a b oj, m.get j = some (.cells [a, b] true ⟨2, some tb⟩) ∧ (a = .p none ∨ a = .p (some (j, 0))) ∧ RowE m 1 (some tu) b oj l.length (cellsOfBytes l) ∧ ∀ k, oj = some k → n0 ≤ k ∧ k ≠ j

theorem Bld.new (m : AMem) (tb tu : Nat) : Bld m.next tb tu (m.new (.cells [.p none, .sl none 0 0 true] true ⟨2, some tb⟩)) m.next [] :=
  ⟨Nat.le_refl _, by simp, .p none, .sl none 0 0 true, none, by rw [AMem.get_new, if_pos rfl], .inl rfl, RowE.nil _ _ _, nofun⟩

theorem Bld.keep {n0 tb tu : Nat} {m m' : AMem} {j : Nat} {l : List UInt8} {fp : List Nat} (h : Bld n0 tb tu m j l) (k : Keep m m' fp) (hf : ∀ x ∈ fp, x < n0) : Bld n0 tb tu m' j l := by
  obtain ⟨a, b, oj, h1, h2, h3, h4⟩ := h.at_
  have h5 := h.lo
  have h6 := h.hi
  refine ⟨h.lo, Nat.lt_of_lt_of_le h6 k.next, a, b, oj, k.at h6 (fun hm => by have := hf j hm; omega) h1, h2, h3.keep k fun i hi hm => ?_, h4⟩
  have := hf i hm; have := (h4 i hi).1; omega

theorem Bld.self {n0 tb tu : Nat} {m : AMem} {j : Nat} {l : List UInt8} (h : Bld n0 tb tu m j l) {a b : AV} (hg : m.get j = some (.cells [a, b] true ⟨2, some tb⟩)) : Bld n0 tb tu (m.put j (some (.cells [.p (some (j, 0)), b] true ⟨2, some tb⟩))) j l := by
  obtain ⟨a', b', oj, h1, h2, h3, h4⟩ := h.at_
  rw [hg] at h1
  simp only [Option.some.injEq, AObj.cells.injEq, List.cons.injEq, and_true] at h1
  obtain ⟨rfl, rfl⟩ := h1
  exact ⟨h.lo, by simpa using h.hi, _, _, oj, by rw [AMem.get_put, if_pos rfl], .inr rfl, h3.keep (Keep.put _ _ _) fun k hk hm => (h4 k hk).2 (by simpa using hm), h4⟩

theorem Bld.put {n0 tb tu : Nat} {m1 : AMem} {j : Nat} {a av : AV} {oj : Option Nat} {l : List UInt8} (hlo : n0 ≤ j) (hhi : j < m1.next) (ha : a = .p none ∨ a = .p (some (j, 0))) (hr : RowE m1 1 (some tu) av oj l.length (cellsOfBytes l)) (ho : ∀ k, oj = some k → n0 ≤ k ∧ k ≠ j) :
    Bld n0 tb tu (m1.put j (some (.cells [a, av] true ⟨2, some tb⟩))) j l :=
  ⟨hlo, by simpa using hhi, _, _, oj, by rw [AMem.get_put, if_pos rfl], ha, hr.keep (Keep.put _ _ _) fun k hk hm => (ho k hk).2 (by simpa using hm), ho⟩

theorem byte_one (c : UInt8) : (AV.i .u8 c.toNat).one = true := rfl

theorem RowE.bytes {m : AMem} {ty : Option Nat} {av : AV} {oj : Option Nat} {l : List UInt8} (h : RowE m 1 ty av oj l.length (cellsOfBytes l)) (hl : l ≠ []) : ∃ j cap ex c, oj = some j ∧ av = .sl (some (j, 0)) l.length cap ex ∧ 0 < cap ∧ m.get j = some (.cells c true ⟨1, ty⟩) ∧ l.length ≤ c.length ∧ c.take l.length = cellsOfBytes l := by
  have h0 : l.length ≠ 0 := fun e => hl (List.length_eq_zero_iff.1 e)
  cases oj with
  | none =>
    obtain ⟨_, _, h2⟩ := h
    exact absurd h2 h0
  | some j =>
    obtain ⟨_, c, cap, ex, h1, h2, h3, h4, h5, h6⟩ := h
    simp only [Nat.mul_one] at h4 h6
    exact ⟨j, cap, ex, c, rfl, h1, by omega, h3, by omega, h6⟩
end Go.Vi
