/- The calculus W: rows whose elements have any number of cells; rows that are read. No condition. -/
import Derived.Test.YtfbglgmhhmeoeaaGreatDoorWbViNum
namespace Go.Vi
open Go.RowKit
set_option linter.unusedSimpArgs false
set_option linter.unusedVariables false
def Arr (m : AMem) (e : Nat) (av : AV) (n : Nat) (l : List AV) : Prop :=
  l.length = n * e ∧ ((n = 0 ∧ (av = .es ∨ av = .sl none 0 0 true)) ∨ ∃ j o cap ex c wr es, av = .sl (some (j, o)) n cap ex ∧ n ≤ cap ∧ j < m.next ∧ m.get j = some (.cells c wr es) ∧ o + n * e ≤ c.length ∧ (c.drop o).take (n * e) = l)
theorem Arr.keep {m m' : AMem} {e n : Nat} {av : AV} {l : List AV} {fp : List Nat} (h : Arr m e av n l) (k : Keep m m' fp) (hn : ∀ j o n c x, av = .sl (some (j, o)) n c x → j ∉ fp) : Arr m' e av n l := by
  obtain ⟨h0, h | ⟨j, o, cap, ex, c, wr, es, h1, hc, h2, h3, h4⟩⟩ := h
  · exact ⟨h0, .inl h⟩
  · exact ⟨h0, .inr ⟨j, o, cap, ex, c, wr, es, h1, hc, Nat.lt_of_lt_of_le h2 k.next, k.at h2 (hn _ _ _ _ _ h1) h3, h4⟩⟩
theorem Arr.keep0 {m m' : AMem} {e n : Nat} {av : AV} {l : List AV} (h : Arr m e av n l) (k : Keep m m' []) : Arr m' e av n l := h.keep k (by simp)
theorem Arr.one {m : AMem} {e n : Nat} {av : AV} {l : List AV} (h : Arr m e av n l) : av.one = true := by
  obtain ⟨_, ⟨_, rfl | rfl⟩ | ⟨_, _, _, _, _, _, _, rfl, _⟩⟩ := h <;> rfl
theorem Arr.lenF {m : AMem} {e n : Nat} {av : AV} {l : List AV} (h : Arr m e av n l) (f : X → AV) (x : X) (m2 : AMem) (hx : f x = av) : execE (.len 1 x) f m2 = some (.i .i64 n, m2) := by
  obtain ⟨_, ⟨rfl, rfl | rfl⟩ | ⟨_, _, _, _, _, _, _, rfl, _⟩⟩ := h <;> simp only [execE, hx] <;> rfl
theorem Arr.at_ {m : AMem} {e n : Nat} {av : AV} {l : List AV} (h : Arr m e av n l) {i : Nat} (hi : i < n) :
    ∃ j o cap ex c wr es, av = .sl (some (j, o)) n cap ex ∧ j < m.next ∧ m.get j = some (.cells c wr es) ∧ o + i * e + e ≤ c.length ∧ (c.drop (o + i * e)).take e = (l.drop (i * e)).take e ∧ ∀ k, k < e → c[o + i * e + k]? = l[i * e + k]? := by
  obtain ⟨h0, ⟨rfl, _⟩ | ⟨j, o, cap, ex, c, wr, es, h1, _, h2, h3, h4, h5⟩⟩ := h
  · omega
  · have hm : i * e + e ≤ n * e := by
      have : (i + 1) * e ≤ n * e := Nat.mul_le_mul_right _ hi
      rwa [Nat.add_mul, Nat.one_mul] at this
    refine ⟨j, o, cap, ex, c, wr, es, h1, h2, h3, by omega, ?_, fun k hk => ?_⟩
    · rw [← h5, List.drop_take, List.drop_drop, List.take_take, Nat.min_eq_left (by omega)]
    · rw [← h5, List.getElem?_take, if_pos (by omega), List.getElem?_drop, Nat.add_assoc]
theorem Arr.nil (m : AMem) (e : Nat) : Arr m e (.sl none 0 0 true) 0 [] := ⟨by simp, .inl ⟨rfl, .inr rfl⟩⟩
def RowE (m : AMem) (e : Nat) (ty : Option Nat) (av : AV) (oj : Option Nat) (n : Nat) (l : List AV) : Prop :=
  l.length = n * e ∧ match oj with
  | none => av = .sl none 0 0 true ∧ n = 0
  | some j => ∃ c cap ex, av = .sl (some (j, 0)) n cap ex ∧ j < m.next ∧ m.get j = some (.cells c true ⟨e, ty⟩) ∧ c.length = cap * e ∧ n ≤ cap ∧ c.take (n * e) = l
theorem RowE.nil (m : AMem) (e : Nat) (ty : Option Nat) : RowE m e ty (.sl none 0 0 true) none 0 [] := ⟨by simp, rfl, rfl⟩
theorem RowE.keep {m m' : AMem} {e n : Nat} {ty : Option Nat} {av : AV} {oj : Option Nat} {l : List AV} {fp : List Nat} (h : RowE m e ty av oj n l) (k : Keep m m' fp) (hn : ∀ j, oj = some j → j ∉ fp) : RowE m' e ty av oj n l := by
  cases oj with
  | none => exact h
  | some j =>
    obtain ⟨h0, c, cap, ex, h1, h2, h3, h4⟩ := h
    exact ⟨h0, c, cap, ex, h1, Nat.lt_of_lt_of_le h2 k.next, k.at h2 (hn j rfl) h3, h4⟩
theorem RowE.as {m : AMem} {e n : Nat} {ty : Option Nat} {av av' : AV} {oj : Option Nat} {l : List AV} (h : RowE m e ty av oj n l) (q : av' = av) : RowE m e ty av' oj n l := q ▸ h
theorem RowE.lt {m : AMem} {e n : Nat} {ty : Option Nat} {av : AV} {j : Nat} {l : List AV} (h : RowE m e ty av (some j) n l) : j < m.next := by
  obtain ⟨_, c, cap, ex, h1, h2, _⟩ := h; exact h2
theorem RowE.arr {m : AMem} {e n : Nat} {ty : Option Nat} {av : AV} {oj : Option Nat} {l : List AV} (h : RowE m e ty av oj n l) : Arr m e av n l := by
  cases oj with
  | none => obtain ⟨h0, rfl, rfl⟩ := h; exact ⟨h0, .inl ⟨rfl, .inr rfl⟩⟩
  | some j =>
    obtain ⟨h0, c, cap, ex, h1, h2, h3, h4, h5, h6⟩ := h
    refine ⟨h0, .inr ⟨j, 0, cap, ex, c, true, _, h1, h5, h2, h3, ?_, by simpa using h6⟩⟩
    have : n * e ≤ cap * e := Nat.mul_le_mul_right _ h5
    omega
theorem RowE.one {m : AMem} {e n : Nat} {ty : Option Nat} {av : AV} {oj : Option Nat} {l : List AV} (h : RowE m e ty av oj n l) : av.one = true := h.arr.one
theorem RowE.app {m : AMem} {e n : Nat} {ty : Option Nat} {av : AV} {oj : Option Nat} {l : List AV} (h : RowE m e ty av oj n l) (tyE : Option Nat) (new : List AV) (k : Nat) (hk : new.length = k * e) (bytes : Nat) (hr : roomy (n + k) bytes = true) :
    ∃ av' oj' m' ty', appE m ⟨e, tyE⟩ bytes av new k = some (av', m') ∧ RowE m' e ty' av' oj' (n + k) (l ++ new) ∧ m'.ds = m.ds ∧ m'.ro = m.ro ∧ (oj' = oj ∨ ∃ j, oj' = some j ∧ m.next ≤ j) ∧ Keep m m' oj.toList ∧ (ty = tyE → ty' = tyE) := by
  by_cases hk0 : k = 0
  · subst hk0
    obtain rfl : new = [] := List.length_eq_zero_iff.1 (by omega)
    refine ⟨av, oj, m, ty, ?_, by simpa using h, rfl, rfl, .inl rfl, Keep.refl _ _, id⟩
    cases oj with
    | none => obtain ⟨_, rfl, _⟩ := h; simp [appE]
    | some j =>
      obtain ⟨_, c, cap, ex, rfl, _, hg, _, hl, _⟩ := h
      simp only [appE, hg]
      rw [if_pos (by omega), if_pos trivial]
  cases oj with
  | none =>
    obtain ⟨h0, rfl, rfl⟩ := h
    obtain rfl : l = [] := List.length_eq_zero_iff.1 (by omega)
    refine ⟨.sl (some (m.next, 0)) k k false, some m.next, m.new (.cells new true ⟨e, tyE⟩), tyE, ?_, ⟨by simpa using hk, new, k, false, by simp, by simp, by rw [AMem.get_new, if_pos rfl], hk, by omega, by simp [List.take_of_length_le, hk]⟩, rfl, rfl, .inr ⟨_, rfl, Nat.le_refl _⟩, Keep.new _ _, fun _ => rfl⟩
    simp only [appE]
    rw [if_neg hk0, if_pos (by simpa using hr)]
  | some j =>
    obtain ⟨h0, c, cap, ex, rfl, hj, hg, hcl, hle, ht⟩ := h
    have hne : n * e ≤ cap * e := Nat.mul_le_mul_right _ hle
    by_cases hc : n + k ≤ cap
    · have hlen : 0 + (n * e + new.length) ≤ c.length := by
        have : (n + k) * e ≤ cap * e := Nat.mul_le_mul_right _ hc
        rw [Nat.add_mul] at this
        omega
      have hsl : (splice c (0 + n * e) new).length = c.length := length_splice _ _ _ (by omega)
      refine ⟨.sl (some (j, 0)) (n + k) cap ex, some j, m.put j (some (.cells (splice c (0 + n * e) new) true ⟨e, ty⟩)), ty, ?_, ?_, rfl, rfl, .inl rfl, (Keep.put _ _ _).mono fun i hi => .inl (by simpa using hi), id⟩
      · simp only [appE, hg]
        rw [if_pos hc, if_neg hk0, if_pos ⟨trivial, hlen⟩]
      · refine ⟨by rw [List.length_append, h0, hk, Nat.add_mul], _, cap, ex, rfl, by simpa using hj, by rw [AMem.get_put, if_pos rfl], by rw [hsl]; exact hcl, hc, ?_⟩
        have e1 : (n + k) * e = (l ++ new).length := by rw [List.length_append, h0, hk, Nat.add_mul]
        simp only [splice, Nat.zero_add, ht]
        rw [e1, ← List.append_assoc, List.take_left]
    · have hd : (c.drop 0).take (n * e) = l := by simpa using ht
      cases ex with
      | true =>
        refine ⟨.sl (some (m.next, 0)) (n + k) (n + k) false, some m.next, m.new (.cells (l ++ new) true ⟨e, tyE⟩), tyE, ?_, ⟨by rw [List.length_append, h0, hk, Nat.add_mul], l ++ new, n + k, false, rfl, by simp, by rw [AMem.get_new, if_pos rfl], by rw [List.length_append, h0, hk, Nat.add_mul], Nat.le_refl _, by rw [List.take_of_length_le]; rw [List.length_append, h0, hk, Nat.add_mul]; exact Nat.le_refl _⟩, rfl, rfl, .inr ⟨_, rfl, Nat.le_refl _⟩, (Keep.new _ _).nil, fun _ => rfl⟩
        simp only [appE, hg]
        rw [if_neg hc, if_pos ⟨hr, hle, by omega⟩]
        simp only [if_true, hd]
      | false =>
        refine ⟨.sl (some (m.next, 0)) (n + k) (n + k) false, some m.next, (m.put j none).new (.cells (l ++ new) true (ES.grow ⟨e, ty⟩ ⟨e, tyE⟩ 0)), (ES.grow ⟨e, ty⟩ ⟨e, tyE⟩ 0).ty, ?_, ⟨by rw [List.length_append, h0, hk, Nat.add_mul], l ++ new, n + k, false, rfl, by simp, by rw [AMem.get_new, AMem.next_put, if_pos rfl]; rfl, by rw [List.length_append, h0, hk, Nat.add_mul], Nat.le_refl _, by rw [List.take_of_length_le]; rw [List.length_append, h0, hk, Nat.add_mul]; exact Nat.le_refl _⟩, rfl, rfl, .inr ⟨_, rfl, Nat.le_refl _⟩, ?_, fun hty => by subst hty; simp [ES.grow]⟩
        · simp only [appE, hg]
          rw [if_neg hc, if_pos ⟨hr, hle, by omega⟩]
          simp only [Bool.false_eq_true, if_false]
          rw [if_pos ⟨trivial, trivial, by omega⟩]
          simp only [hd]
        · exact ⟨by simp, fun i hi hn => by
            rw [AMem.get_new, AMem.next_put, if_neg (by omega), AMem.get_put, if_neg (by simp at hn; omega)]⟩
theorem RowE.cut {m : AMem} {e n cap j : Nat} {ty : Option Nat} {ex : Bool} {l : List AV} (h : RowE m e ty (.sl (some (j, 0)) n cap ex) (some j) n l) (k : Nat) (hk : k ≤ n) : RowE m e ty (.sl (some (j, 0)) k cap ex) (some j) k (l.take (k * e)) := by
  obtain ⟨h0, c, cap', ex', h1, h2, h3, h4, h5, h6⟩ := h
  simp only [AV.sl.injEq, true_and] at h1
  obtain ⟨rfl, rfl⟩ := h1
  have hke : k * e ≤ n * e := Nat.mul_le_mul_right _ hk
  refine ⟨by rw [List.length_take, h0]; omega, c, cap, ex, rfl, h2, h3, h4, by omega, ?_⟩
  rw [← h6, List.take_take, Nat.min_eq_left hke]
section
variable {T : Nat → VFn} {nt : Nat} {Q : (Nat → AV) → AMem → Prop} {K : List KI} {g : Nat → AV} {m : AMem}
theorem W_app {b : Nat} {s x : X} {e n k : Nat} {ty tyE : Option Nat} {bytes : Nat} {oj : Option Nat} {ls new : List AV} {l : List VOper} {hh : Hist} (hdb : dOk nt (some b) = true)
    (hrow : RowE m e ty (X.at g s) oj n ls) (hsrc : srcE m e (X.at g x) = some (new, k)) (hk : new.length = k * e) (hone : new.all AV.one = true) (hroom : roomy (n + k) bytes = true)
    (h : ∀ av' oj' m' ty', RowE m' e ty' av' oj' (n + k) (ls ++ new) → m'.ds = m.ds → m'.ro = m.ro → (oj' = oj ∨ ∃ j, oj' = some j ∧ m.next ≤ j) → Keep m m' oj.toList → (ty = tyE → ty' = tyE) → W T nt Q (.o l (hh.push g m) :: K) (upd g (some b) av') m') :
    W T nt Q (.o (⟨some b, none, .app ⟨e, tyE⟩ bytes s x⟩ :: l) hh :: K) g m := by
  obtain ⟨av', oj', m', ty', h1, h2, h3, h4, h5, h6, h7⟩ := hrow.app tyE new k hk bytes hroom
  refine W_op rfl hdb ?_
  simp only [execE, hsrc, hone, if_true, h1, Wo_some]
  exact h av' oj' m' ty' h2 h3 h4 h5 h6 h7
theorem src_new {e : Nat} {L : List AV} {es : ES} (hL : L.length = e) : srcE (m.new (.cells L true es)) e (.sl (some (m.next, 0)) 1 1 true) = some (L, 1) := by
  simp only [srcE, rd, reduceIte, AMem.get_new, Nat.one_mul, Nat.zero_add, hL, Nat.le_refl, List.drop_zero]
  rw [List.take_of_length_le (by omega)]
  rfl
end
end Go.Vi
namespace Go.Vi
open Go.RowKit
set_option linter.unusedSimpArgs false
set_option linter.unusedVariables false
structure Lo (n0 : Nat) (m m' : AMem) : Prop where
  next : m.next ≤ m'.next
  get : ∀ i, i < n0 → m'.get i = m.get i
theorem Lo.refl (n0 : Nat) (m : AMem) : Lo n0 m m := ⟨Nat.le_refl _, fun _ _ => rfl⟩
theorem Lo.trans {n0 : Nat} {m m1 m2 : AMem} (h : Lo n0 m m1) (k : Lo n0 m1 m2) : Lo n0 m m2 := ⟨Nat.le_trans h.next k.next, fun i hi => (k.get i hi).trans (h.get i hi)⟩
theorem Lo.of {n0 : Nat} {m m' : AMem} {fp : List Nat} (h : Keep m m' fp) (hl : n0 ≤ m.next) (hf : ∀ x ∈ fp, n0 ≤ x) : Lo n0 m m' :=
  ⟨h.next, fun i hi => h.get i (by omega) fun hm => by have := hf i hm; omega⟩
theorem Lo.keep {m m' : AMem} (h : Lo m.next m m') : Keep m m' [] := ⟨h.next, fun i hi _ => h.get i hi⟩
theorem Lo.inn {n0 : Nat} {m m' : AMem} (h : Lo n0 m.inn m') : Lo n0 m m' := ⟨h.next, h.get⟩
theorem Lo.out {n0 : Nat} {m m' m2 : AMem} (h : Lo n0 m m') : Lo n0 m (m'.out m2) := ⟨h.next, h.get⟩
structure Bld (n0 tb tu : Nat) (m : AMem) (j : Nat) (l : List UInt8) : Prop where
  lo : n0 ≤ j
  hi : j < m.next
  at_ : ∃ a b oj, m.get j = some (.cells [a, b] true ⟨2, some tb⟩) ∧ (a = .p none ∨ a = .p (some (j, 0))) ∧ RowE m 1 (some tu) b oj l.length (cellsOfBytes l) ∧ ∀ k, oj = some k → n0 ≤ k ∧ k ≠ j
theorem Bld.new (m : AMem) (tb tu : Nat) : Bld m.next tb tu (m.new (.cells [.p none, .sl none 0 0 true] true ⟨2, some tb⟩)) m.next [] :=
  ⟨Nat.le_refl _, by simp, .p none, .sl none 0 0 true, none, by rw [AMem.get_new, if_pos rfl], .inl rfl, RowE.nil _ _ _, nofun⟩
theorem Bld.keep {n0 tb tu : Nat} {m m' : AMem} {j : Nat} {l : List UInt8} {fp : List Nat} (h : Bld n0 tb tu m j l) (k : Keep m m' fp) (hf : ∀ x ∈ fp, x < n0) : Bld n0 tb tu m' j l := by
  obtain ⟨a, b, oj, h1, h2, h3, h4⟩ := h.at_
  have h5 := h.lo
  have h6 := h.hi
  refine ⟨h.lo, Nat.lt_of_lt_of_le h6 k.next, a, b, oj, k.at h6 (fun hm => by have := hf j hm; omega) h1, h2, h3.keep k fun i hi hm => ?_, h4⟩
  have := hf i hm; have := (h4 i hi).1; omega
theorem Bld.put {n0 tb tu : Nat} {m1 : AMem} {j : Nat} {a av : AV} {oj : Option Nat} {l : List UInt8} (hlo : n0 ≤ j) (hhi : j < m1.next) (ha : a = .p none ∨ a = .p (some (j, 0))) (hr : RowE m1 1 (some tu) av oj l.length (cellsOfBytes l)) (ho : ∀ k, oj = some k → n0 ≤ k ∧ k ≠ j) :
    Bld n0 tb tu (m1.put j (some (.cells [a, av] true ⟨2, some tb⟩))) j l :=
  ⟨hlo, by simpa using hhi, _, _, oj, by rw [AMem.get_put, if_pos rfl], ha, hr.keep (Keep.put _ _ _) fun k hk hm => (ho k hk).2 (by simpa using hm), ho⟩
theorem RowE.bytes {m : AMem} {ty : Option Nat} {av : AV} {oj : Option Nat} {l : List UInt8} (h : RowE m 1 ty av oj l.length (cellsOfBytes l)) (hl : l ≠ []) : ∃ j cap ex c, oj = some j ∧ av = .sl (some (j, 0)) l.length cap ex ∧ 0 < cap ∧ m.get j = some (.cells c true ⟨1, ty⟩) ∧ l.length ≤ c.length ∧ c.take l.length = cellsOfBytes l := by
  have h0 : l.length ≠ 0 := fun e => hl (List.length_eq_zero_iff.1 e)
  cases oj with
  | none =>
    obtain ⟨_, _, h2⟩ := h
    exact absurd h2 h0
  | some j =>
    obtain ⟨_, c, cap, ex, h1, h2, h3, h4, h5, h6⟩ := h
    simp only [Nat.mul_one] at h4 h6
    exact ⟨j, cap, ex, c, rfl, h1, by omega, h3, by omega, h6⟩
end Go.Vi
