/- A law's arguments, with the bytes that each slice takes. No condition. -/
import Derived.Test.YtfbglgmhhmeoeaaGreatDoorWbViGlob
import Derived.SizedLaws
import Derived.Test.YtfbglgmhhmeoeaaGreatDoorWbViNode
namespace Go.Vi
open Go.RowKit Go.ChangeShapes Go.WideShapes Go.Deep
set_option linter.unusedSimpArgs false
set_option linter.unusedVariables false
def TypB (P : Program) (B : Nat) (m : AMem) : Nat → TypeId → List AV → Prop
  | 0, _, _ => False
  | n + 1, t, cs => match P.underlying t with
    | some .bool => ∃ b, cs = [.b b]
    | some (.int k) => ∃ x, cs = [.i k x] ∧ (Lit.int k x).wf = true
    | some .string => ∃ s : ByteArray, cs = [.s s] ∧ s.size ≤ maxLen
    | some (.slice e) => cs = [.sl none 0 0 true] ∨ cs = [.es] ∨ ∃ j len cap c, cs = [.sl (some (j, 0)) len cap true] ∧ len ≤ cap ∧ 0 < cap ∧ cap ≤ maxLen ∧ cap * P.bytesOf e ≤ B ∧ j < m.next ∧ m.get j = some (.cells c false ⟨1, none⟩) ∧ cap * P.cellsOf e ≤ c.length ∧ ∀ i, i < cap → TypB P B m n e ((c.drop (i * P.cellsOf e)).take (P.cellsOf e))
    | some (.struct fs) => cs.length = P.cellsOf t ∧ ∀ f ∈ fs.toList, TypB P B m n f.type ((cs.drop f.offset).take (P.cellsOf f.type))
    | _ => False
section
variable {Hh : Type} {enc : TypeId × Value → Hh} {P : Program} {W : World} {G S : Nat}
end
end Go.Vi
namespace Go.Vi
open Go.RowKit
set_option linter.unusedSimpArgs false
set_option linter.unusedVariables false
section
variable {P : Program} {B : Nat} {m : AMem}
theorem TypB.int {d : Nat} {t : TypeId} {k : IntKind} {cs : List AV} (hu : P.underlying t = some (.int k)) (h : TypB P B m (d + 1) t cs) : ∃ x, cs = [.i k x] ∧ (Lit.int k x).wf = true := by
  simp only [TypB, hu] at h; exact h
theorem TypB.str {d : Nat} {t : TypeId} {cs : List AV} (hu : P.underlying t = some .string) (h : TypB P B m (d + 1) t cs) : ∃ s : ByteArray, cs = [.s s] ∧ s.size ≤ maxLen := by
  simp only [TypB, hu] at h; exact h
theorem TypB.strct {d : Nat} {t : TypeId} {fs : Array Field} {cs : List AV} (hu : P.underlying t = some (.struct fs)) (h : TypB P B m (d + 1) t cs) : cs.length = P.cellsOf t ∧ ∀ f ∈ fs.toList, TypB P B m d f.type ((cs.drop f.offset).take (P.cellsOf f.type)) := by
  simp only [TypB, hu] at h; exact h
theorem list_of {α : Type} (f : α → List AV) (R : α → Prop) {k : Nat} : ∀ (n : Nat) (c : List AV), (∀ i, i < n → ∃ x, (c.drop (i * k)).take k = f x ∧ R x) → ∃ L : List α, L.length = n ∧ c.take (n * k) = L.flatMap f ∧ ∀ x ∈ L, R x
  | 0, c, _ => ⟨[], rfl, by simp, by simp⟩
  | n + 1, c, h => by
    obtain ⟨L, h1, h2, h3⟩ := list_of f R n c fun i hi => h i (by omega)
    obtain ⟨x, h4, h5⟩ := h n (by omega)
    refine ⟨L ++ [x], by simp [h1], ?_, fun y hy => ?_⟩
    · rw [Nat.add_mul, Nat.one_mul, List.take_add, h2, h4]; simp
    · rcases List.mem_append.1 hy with hy | hy
      · exact h3 y hy
      · simp at hy; exact hy ▸ h5
theorem TypB.slice {α : Type} (f : α → List AV) (R : α → Prop) {d k : Nat} {t e : TypeId} (hu : P.underlying t = some (.slice e)) (hk : P.cellsOf e = k) (hel : ∀ cs, TypB P B m d e cs → ∃ x, cs = f x ∧ R x) {cs : List AV} (h : TypB P B m (d + 1) t cs) :
    ∃ (a : AV) (L : List α), cs = [a] ∧ a.one = true ∧ Arr m k a L.length (L.flatMap f) ∧ (∀ x ∈ L, R x) ∧ L.length * P.bytesOf e ≤ B := by
  simp only [TypB, hu] at h
  rcases h with rfl | rfl | ⟨j, len, cap, c, rfl, h1, h2, h3, h4, h5, h6, h7, h8⟩
  · exact ⟨_, [], rfl, rfl, Arr.nil m k, by simp, by simp⟩
  · exact ⟨_, [], rfl, rfl, ⟨by simp, .inl ⟨rfl, .inl rfl⟩⟩, by simp, by simp⟩
  · rw [hk] at h7 h8
    obtain ⟨L, g1, g2, g3⟩ := list_of f R (k := k) len c fun i hi => by
      obtain ⟨x, hx, hr⟩ := hel _ (h8 i (by omega))
      exact ⟨x, hx, hr⟩
    have hm : len * k ≤ cap * k := Nat.mul_le_mul_right _ h1
    have hb : len * P.bytesOf e ≤ cap * P.bytesOf e := Nat.mul_le_mul_right _ h1
    refine ⟨_, L, rfl, rfl, ⟨?_, .inr ⟨j, 0, cap, true, c, false, _, by rw [g1], by omega, h5, h6, by rw [g1]; omega, by rw [g1, List.drop_zero, g2]⟩⟩, g3, by rw [g1]; omega⟩
    rw [← g2, List.length_take, g1]; omega
structure Fld (P : Program) (f : Field) (o : Nat) (u : TypeDesc) : Prop where
  off : f.offset = o
  cells : P.cellsOf f.type = 1
  und : P.underlying f.type = some u
theorem flat_one {α : Type} (g : α → AV) : ∀ L : List α, (L.flatMap fun x => [g x]) = L.map g
  | [] => rfl
  | a :: L => by rw [List.flatMap_cons, List.map_cons, flat_one g L]; rfl
theorem u8_of {x : Int} (h : (Lit.int .u8 x).wf = true) : ∃ y : UInt8, x = (y.toNat : Int) := by
  simp only [Lit.wf, IntKind.min, IntKind.max, IntKind.signed, IntKind.bits, Bool.and_eq_true, decide_eq_true_eq] at h
  simp at h
  refine ⟨UInt8.ofNat x.toNat, ?_⟩
  rw [UInt8.toNat_ofNat']
  omega
theorem TypB.bytes {d : Nat} {t e : TypeId} (hu : P.underlying t = some (.slice e)) (he : P.underlying e = some (.int .u8)) (hk : P.cellsOf e = 1) {cs : List AV} (h : TypB P B m (d + 2) t cs) : ∃ (a : AV) (l : List UInt8), cs = [a] ∧ Arr m 1 a l.length (cellsOfBytes l) := by
  obtain ⟨a, L, h1, _, h2, _, _⟩ := TypB.slice (fun y : UInt8 => [.i .u8 (y.toNat : Int)]) (fun _ => True) hu hk (fun cs hc => by
    obtain ⟨x, rfl, hw⟩ := hc.int he
    obtain ⟨y, rfl⟩ := u8_of hw
    exact ⟨y, rfl, trivial⟩) h
  exact ⟨a, L, h1, by rw [flat_one] at h2; exact h2⟩
theorem TypB.ints {d : Nat} {t e : TypeId} (hu : P.underlying t = some (.slice e)) (he : P.underlying e = some (.int .i64)) (hk : P.cellsOf e = 1) {cs : List AV} (h : TypB P B m (d + 2) t cs) : ∃ (a : AV) (l : List Int), cs = [a] ∧ a.one = true ∧ Arr m 1 a l.length (ints l) ∧ l.length * P.bytesOf e ≤ B := by
  obtain ⟨a, L, h1, h0, h2, _, h3⟩ := TypB.slice (fun x : Int => [.i .i64 x]) (fun _ => True) hu hk (fun cs hc => by
    obtain ⟨x, rfl, _⟩ := hc.int he
    exact ⟨x, rfl, trivial⟩) h
  exact ⟨a, L, h1, h0, by rw [flat_one] at h2; exact h2, h3⟩
theorem TypB.pairs {d : Nat} {t e : TypeId} {fs : Array Field} {f0 f1 : Field} (hu : P.underlying t = some (.slice e)) (he : P.underlying e = some (.struct fs)) (hfs : fs.toList = [f0, f1]) (g0 : Fld P f0 0 (.int .i64)) (g1 : Fld P f1 1 (.int .i64)) (hk : P.cellsOf e = 2) {cs : List AV} (h : TypB P B m (d + 3) t cs) :
    ∃ (a : AV) (l : List (Int × Int)), cs = [a] ∧ a.one = true ∧ Arr m 2 a l.length (flat2 l) ∧ l.length * P.bytesOf e ≤ B := by
  obtain ⟨a, L, h1, h0, h2, _, h3⟩ := TypB.slice (fun p : Int × Int => [.i .i64 p.1, .i .i64 p.2]) (fun _ => True) hu hk (fun cs hc => by
    obtain ⟨hl, hf⟩ := hc.strct he
    rw [hk] at hl
    match cs, hl with
    | [x, y], _ =>
      have k0 := hf f0 (by simp [hfs])
      have k1 := hf f1 (by simp [hfs])
      rw [g0.off, g0.cells] at k0
      rw [g1.off, g1.cells] at k1
      obtain ⟨u, e0, _⟩ := k0.int g0.und
      obtain ⟨v, e1, _⟩ := k1.int g1.und
      simp at e0 e1
      exact ⟨(u, v), by simp [e0, e1], trivial⟩) h
  exact ⟨a, L, h1, h0, h2, h3⟩
structure NodeT (P : Program) (tn tl tg ti tr : TypeId) : Prop where
  lst : P.underlying tl = some (.slice tn)
  cells : P.cellsOf tn = 10
  flds : ∃ (fs : Array Field) (f0 f1 f2 f3 f4 f5 f6 f7 f8 f9 : Field), P.underlying tn = some (.struct fs) ∧ fs.toList = [f0, f1, f2, f3, f4, f5, f6, f7, f8, f9] ∧
    Fld P f0 0 (.int .i64) ∧ Fld P f1 1 (.int .i64) ∧ Fld P f2 2 (.int .i64) ∧ Fld P f3 3 (.int .i64) ∧ Fld P f4 4 (.int .i64) ∧ Fld P f5 5 (.int .i64) ∧ Fld P f6 6 (.int .i64) ∧ Fld P f7 7 .string ∧ Fld P f8 8 (.slice tg) ∧ Fld P f9 9 (.slice ti)
  rng : ∃ (fs : Array Field) (f0 f1 : Field), P.underlying tg = some (.struct fs) ∧ fs.toList = [f0, f1] ∧ Fld P f0 0 (.int .i64) ∧ Fld P f1 1 (.int .i64)
  rcells : P.cellsOf tg = 2
  rbytes : P.bytesOf tg = 16
  num : P.underlying ti = some (.int .i64)
  ncells : P.cellsOf ti = 1
  nbytes : P.bytesOf ti = 8
end
end Go.Vi
