/- The calculus W: rows that are the function's own, what is left as it was, and rules for what code does often. No condition. -/
import Derived.Test.YtfbglgmhhmeoeaaGreatDoorWbViW3
namespace Go.Vi
open Go.RowKit
set_option linter.unusedSimpArgs false
set_option linter.unusedVariables false
structure Keep (m m' : AMem) (fp : List Nat) : Prop where
  next : m.next ≤ m'.next
  get : ∀ i, i < m.next → i ∉ fp → m'.get i = m.get i
theorem Keep.refl (m : AMem) (fp : List Nat) : Keep m m fp := ⟨Nat.le_refl _, fun _ _ _ => rfl⟩
theorem Keep.trans {m m1 m2 : AMem} {fp fp1 : List Nat} (h : Keep m m1 fp) (k : Keep m1 m2 fp1) (hs : ∀ i ∈ fp1, i ∈ fp ∨ m.next ≤ i) : Keep m m2 fp :=
  ⟨Nat.le_trans h.next k.next, fun i hi hn => by
    rw [k.get i (Nat.lt_of_lt_of_le hi h.next) (fun hm => by rcases hs i hm with h1 | h1; exact hn h1; omega)]
    exact h.get i hi hn⟩
theorem Keep.mono {m m' : AMem} {fp fp' : List Nat} (h : Keep m m' fp) (hs : ∀ i ∈ fp, i ∈ fp' ∨ m.next ≤ i) : Keep m m' fp' :=
  ⟨h.next, fun i hi hn => h.get i hi fun hm => by rcases hs i hm with h1 | h1; exact hn h1; omega⟩
theorem Keep.nil {m m' : AMem} {fp : List Nat} (h : Keep m m' []) : Keep m m' fp := ⟨h.next, fun i hi _ => h.get i hi (by simp)⟩
theorem Keep.new (m : AMem) (x : AObj) : Keep m (m.new x) [] := ⟨by simp, fun i hi _ => by rw [AMem.get_new, if_neg (by omega)]⟩
theorem Keep.put (m : AMem) (j : Nat) (x : Option AObj) : Keep m (m.put j x) [j] := ⟨by simp, fun i hi hn => by rw [AMem.get_put, if_neg (by simp at hn; omega)]⟩
theorem Keep.inn (m : AMem) : Keep m m.inn [] := ⟨Nat.le_refl _, fun _ _ _ => rfl⟩
theorem Keep.out {m m' m0 : AMem} {fp : List Nat} (h : Keep m m' fp) : Keep m (m'.out m0) fp := ⟨h.next, h.get⟩
theorem Keep.ofInn {m m' : AMem} {fp : List Nat} (h : Keep m.inn m' fp) : Keep m m' fp := ⟨h.next, h.get⟩
theorem Keep.at {m m' : AMem} {fp : List Nat} (h : Keep m m' fp) {j : Nat} {o : AObj} (hj : j < m.next) (hn : j ∉ fp) (hg : m.get j = some o) : m'.get j = some o := (h.get j hj hn).trans hg
def Row (m : AMem) (ty : Option Nat) (av : AV) (oj : Option Nat) (l : List AV) : Prop :=
  match oj with
  | none => av = .sl none 0 0 true ∧ l = []
  | some j => ∃ c ex, av = .sl (some (j, 0)) l.length c.length ex ∧ j < m.next ∧ m.get j = some (.cells c true ⟨1, ty⟩) ∧ l.length ≤ c.length ∧ c.take l.length = l
theorem Row.nil (m : AMem) (ty : Option Nat) : Row m ty (.sl none 0 0 true) none [] := ⟨rfl, rfl⟩
theorem Row.keep {m m' : AMem} {ty : Option Nat} {av : AV} {oj : Option Nat} {l : List AV} {fp : List Nat} (h : Row m ty av oj l) (k : Keep m m' fp) (hn : ∀ j, oj = some j → j ∉ fp) : Row m' ty av oj l := by
  cases oj with
  | none => exact h
  | some j =>
    obtain ⟨c, ex, h1, h2, h3, h4⟩ := h
    exact ⟨c, ex, h1, Nat.lt_of_lt_of_le h2 k.next, k.at h2 (hn j rfl) h3, h4⟩
theorem cells_agg (l : List AV) : (AV.agg l).cells = l := rfl
theorem one_cells {a : AV} (h : a.one = true) : a.cells = [a] := by cases a <;> first | rfl | simp [AV.one] at h
theorem Row.as {m : AMem} {ty : Option Nat} {av av' : AV} {oj : Option Nat} {l : List AV} (h : Row m ty av oj l) (e : av' = av) : Row m ty av' oj l := e ▸ h
theorem Row.lt {m : AMem} {ty : Option Nat} {av : AV} {j : Nat} {l : List AV} (h : Row m ty av (some j) l) : j < m.next := by
  obtain ⟨c, ex, h1, h2, _⟩ := h; exact h2
theorem Row.one {m : AMem} {ty : Option Nat} {av : AV} {oj : Option Nat} {l : List AV} (h : Row m ty av oj l) : av.one = true := by
  cases oj with
  | none => obtain ⟨rfl, _⟩ := h; rfl
  | some j => obtain ⟨c, ex, rfl, _⟩ := h; rfl
theorem Row.app {m : AMem} {ty : Option Nat} {av : AV} {oj : Option Nat} {l : List AV} (h : Row m ty av oj l) (x : AV) (bytes : Nat) (hr : roomy (l.length + 1) bytes = true) :
    ∃ av' j m', appE m ⟨1, ty⟩ bytes av [x] 1 = some (av', m') ∧ Row m' ty av' (some j) (l ++ [x]) ∧ m'.ds = m.ds ∧ m'.ro = m.ro ∧ (oj = some j ∨ m.next ≤ j) ∧ Keep m m' oj.toList := by
  cases oj with
  | none =>
    obtain ⟨rfl, rfl⟩ := h
    refine ⟨_, m.next, m.new (.cells [x] true ⟨1, ty⟩), ?_, ⟨[x], false, rfl, by simp, by rw [AMem.get_new, if_pos rfl], by simp, by simp⟩, rfl, rfl, .inr (Nat.le_refl _), Keep.new _ _⟩
    simp only [appE]
    rw [if_neg (by omega), if_pos (show roomy 1 bytes = true from hr)]
    rfl
  | some j =>
    obtain ⟨c, ex, rfl, hj, hg, hl, ht⟩ := h
    by_cases hc : l.length + 1 ≤ c.length
    · refine ⟨.sl (some (j, 0)) (l.length + 1) c.length ex, j, m.put j (some (.cells (splice c (0 + l.length * 1) [x]) true ⟨1, ty⟩)), ?_, ?_, rfl, rfl, .inl rfl, (Keep.put _ _ _).mono fun i hi => .inl (by simpa using hi)⟩
      · simp only [appE, hg]
        rw [if_pos hc, if_neg (by omega), if_pos ⟨trivial, by simp only [List.length_cons, List.length_nil]; omega⟩]
      · have hlen : (splice c (0 + l.length * 1) [x]).length = c.length := by
          simp only [splice, List.length_append, List.length_take, List.length_cons, List.length_nil, List.length_drop]; omega
        refine ⟨_, ex, by rw [hlen]; simp, by simpa using hj, by rw [AMem.get_put, if_pos rfl], by rw [hlen]; simpa using hc, ?_⟩
        simp only [splice, Nat.zero_add, Nat.mul_one, List.length_append, List.length_cons, List.length_nil, ht]
        have e : l.length + 1 = (l ++ [x]).length := by simp
        rw [e, ← List.append_assoc, List.take_left]
    · have hcl : c.length = l.length := by omega
      have hcl' : c = l := by rw [← ht, ← hcl, List.take_length]
      subst hcl'
      cases ex with
      | true =>
        refine ⟨.sl (some (m.next, 0)) (c.length + 1) (c.length + 1) false, m.next, m.new (.cells ((c.drop 0).take (c.length * 1) ++ [x]) true ⟨1, ty⟩), ?_, ?_, rfl, rfl, .inr (Nat.le_refl _), (Keep.new _ _).nil⟩
        · simp only [appE, hg]
          rw [if_neg hc, if_pos ⟨hr, Nat.le_refl _, by omega⟩]
          rfl
        · refine ⟨c ++ [x], false, by simp, by simp, by rw [AMem.get_new, if_pos rfl]; simp, by simp, List.take_of_length_le (by simp)⟩
      | false =>
        refine ⟨.sl (some (m.next, 0)) (c.length + 1) (c.length + 1) false, m.next, (m.put j none).new (.cells ((c.drop 0).take (c.length * 1) ++ [x]) true (ES.grow ⟨1, ty⟩ ⟨1, ty⟩ 0)), ?_, ?_, rfl, rfl, .inr (Nat.le_refl _), ?_⟩
        · simp only [appE, hg]
          rw [if_neg hc, if_pos ⟨hr, Nat.le_refl _, by omega⟩]
          simp only [Bool.false_eq_true, if_false]
          rw [if_pos ⟨trivial, trivial, by omega⟩]
        · refine ⟨c ++ [x], false, by simp, by simp, ?_, by simp, List.take_of_length_le (by simp)⟩
          rw [AMem.get_new, AMem.next_put, if_pos rfl]
          simp [ES.grow]
        · exact ⟨by simp, fun i hi hn => by
            rw [AMem.get_new, AMem.next_put, if_neg (by omega), AMem.get_put, if_neg (by simp at hn; omega)]⟩
theorem Row.at_ {m : AMem} {ty : Option Nat} {av : AV} {oj : Option Nat} {l : List AV} (h : Row m ty av oj l) {i : Nat} (hi : i < l.length) :
    ∃ j c ex, oj = some j ∧ av = .sl (some (j, 0)) l.length c.length ex ∧ j < m.next ∧ m.get j = some (.cells c true ⟨1, ty⟩) ∧ l.length ≤ c.length ∧ c.take l.length = l ∧ c[i]? = some (l[i]'hi) := by
  cases oj with
  | none => obtain ⟨_, rfl⟩ := h; simp at hi
  | some j =>
    obtain ⟨c, ex, h1, h2, h3, h4, h5⟩ := h
    refine ⟨j, c, ex, rfl, h1, h2, h3, h4, h5, ?_⟩
    have h6 : (c.take l.length)[i]? = l[i]? := by rw [h5]
    rw [List.getElem?_take, if_pos hi] at h6
    rw [h6, List.getElem?_eq_getElem hi]
theorem Row.lenE {m : AMem} {ty : Option Nat} {av : AV} {oj : Option Nat} {l : List AV} (h : Row m ty av oj l) {e : X → AV} {x : X} (hx : e x = av) (m2 : AMem) : execE (.len 1 x) e m2 = some (.i .i64 l.length, m2) := by
  cases oj with
  | none => obtain ⟨rfl, rfl⟩ := h; simp only [execE, hx]; rfl
  | some j => obtain ⟨c, ex, rfl, _⟩ := h; simp only [execE, hx]
theorem Row.lenF {m : AMem} {ty : Option Nat} {av : AV} {oj : Option Nat} {l : List AV} (h : Row m ty av oj l) {n : Nat} (hn : l.length = n) (e : X → AV) (x : X) (m2 : AMem) (hx : e x = av) : execE (.len 1 x) e m2 = some (.i .i64 n, m2) := by
  rw [h.lenE hx, hn]
theorem Row.set {m : AMem} {ty : Option Nat} {av : AV} {j : Nat} {l : List AV} (h : Row m ty av (some j) l) {c : List AV} (hg : m.get j = some (.cells c true ⟨1, ty⟩)) {i : Nat} (hi : i < l.length) (x : AV) :
    Row (m.put j (some (.cells (splice c i [x]) true ⟨1, ty⟩))) ty av (some j) (l.set i x) := by
  obtain ⟨c', ex, h1, h2, h3, h4, h5⟩ := h
  rw [hg] at h3
  simp only [Option.some.injEq, AObj.cells.injEq, and_true] at h3
  subst h3
  have hlen : (splice c i [x]).length = c.length := by
    simp only [splice, List.length_append, List.length_take, List.length_cons, List.length_nil, List.length_drop]; omega
  have hset : splice c i [x] = c.set i x := by
    rw [List.set_eq_take_append_cons_drop, if_pos (by omega)]
    simp [splice]
  refine ⟨splice c i [x], ex, by rw [hlen]; simpa using h1, by simpa using h2, by rw [AMem.get_put, if_pos rfl], by rw [hlen]; simpa using h4, ?_⟩
  rw [hset, List.length_set, List.take_set, h5]
theorem Row.cut {m : AMem} {ty : Option Nat} {j : Nat} {l : List AV} {n cap : Nat} {ex : Bool} (h : Row m ty (.sl (some (j, 0)) n cap ex) (some j) l) (k : Nat) (hk : k ≤ l.length) : Row m ty (.sl (some (j, 0)) k cap ex) (some j) (l.take k) := by
  obtain ⟨c, ex', h1, h2, h3, h4, h5⟩ := h
  simp only [AV.sl.injEq, true_and] at h1
  obtain ⟨rfl, rfl, rfl⟩ := h1
  refine ⟨c, ex, by simp [Nat.min_eq_left hk], h2, h3, by simp; omega, ?_⟩
  rw [List.length_take, Nat.min_eq_left hk]
  rw [← h5, List.take_take, Nat.min_eq_left (by omega)]
section
variable {T : Nat → VFn} {nt : Nat} {Q : (Nat → AV) → AMem → Prop} {K : List KI} {g : Nat → AV} {m : AMem}
theorem FinL_cut {J : (Nat → AV) → AMem → Prop} (h2 : ∀ r m, r.length = nt → J (gOf r) m → FinL T nt Q K .n r m) : ∀ (K1 : List KI) (ex : Ex) (r : List AV) (m : AMem), FinL T nt (fun _ _ => False) (K1 ++ [.j J]) ex r m → FinL T nt Q (K1 ++ K) ex r m
  | [], .n, r, m, h => h2 r m h.1 h.2
  | [], .x _, r, m, h => absurd h.1 (by simp)
  | [], .ret, r, m, h => h.2.elim
  | .c _ :: K1, .n, r, m, ⟨x, hx, hf⟩ => ⟨x, hx, FinL_cut h2 K1 _ _ _ hf⟩
  | .c _ :: K1, .x _, r, m, h => FinL_cut h2 K1 _ _ _ h
  | .c _ :: K1, .ret, r, m, h => FinL_cut h2 K1 _ _ _ h
  | .b _ :: K1, .n, r, m, h => FinL_cut h2 K1 _ _ _ h
  | .b id :: K1, .x i, r, m, h => by
    simp only [List.cons_append, FinL] at h ⊢
    split
    · rename_i hi; rw [if_pos hi] at h; exact FinL_cut h2 K1 _ _ _ h
    · rename_i hi; rw [if_neg hi] at h; exact FinL_cut h2 K1 _ _ _ h
  | .b _ :: K1, .ret, r, m, h => FinL_cut h2 K1 _ _ _ h
  | .o _ _ :: K1, .n, r, m, ⟨rest, x, h1, h3, h4, hf⟩ => ⟨rest, x, h1, h3, h4, FinL_cut h2 K1 _ _ _ hf⟩
  | .o _ _ :: K1, .x _, r, m, h => FinL_cut h2 K1 _ _ _ h
  | .o _ _ :: K1, .ret, r, m, h => FinL_cut h2 K1 _ _ _ h
  | .j _ :: K1, .n, r, m, h => h
  | .j _ :: K1, .x _, r, m, h => FinL_cut h2 K1 _ _ _ h
  | .j _ :: K1, .ret, r, m, h => FinL_cut h2 K1 _ _ _ h
theorem W_cutK (K1 : List KI) (J : (Nat → AV) → AMem → Prop) (h1 : W T nt (fun _ _ => False) (K1 ++ [.j J]) g m) (h2 : ∀ g' m', J g' m' → (∀ i, nt ≤ i → g' i = un) → W T nt Q K g' m') : W T nt Q (K1 ++ K) g m := by
  obtain ⟨r, hr, hf⟩ := h1
  refine ⟨r, hr, FinL_cut (fun r1 m1 hl hJ => ?_) K1 _ _ _ hf⟩
  obtain ⟨r2, hr2, hfin⟩ := h2 _ _ hJ (Agree.of hl).beyond
  obtain rfl : r2 = r1 := Agree.unique hr2 (Agree.of hl)
  exact hfin
end
theorem roomyOf {n bytes : Nat} (hb : bytes ≤ 80) (h : n ≤ 400000000000) : roomy n bytes = true := by
  unfold roomy
  simp only [Bool.and_eq_true, decide_eq_true_eq]
  refine ⟨?_, by omega⟩
  calc (3 * n + 2048) * bytes ≤ (3 * n + 2048) * 80 := Nat.mul_le_mul_left _ hb
    _ ≤ 562949953421312 := by omega
end Go.Vi
namespace Go.Vi
open Go.RowKit
set_option linter.unusedSimpArgs false
set_option linter.unusedVariables false
theorem cells_i (k : IntKind) (n : Int) : (AV.i k n).cells = [.i k n] := rfl
theorem one_i (k : IntKind) (n : Int) : (AV.i k n).one = true := rfl
theorem cells_b (b : Bool) : (AV.b b).cells = [.b b] := rfl
theorem one_b (b : Bool) : (AV.b b).one = true := rfl
section
variable {T : Nat → VFn} {nt : Nat} {Q : (Nat → AV) → AMem → Prop} {K : List KI} {g : Nat → AV} {m : AMem}
end
end Go.Vi
