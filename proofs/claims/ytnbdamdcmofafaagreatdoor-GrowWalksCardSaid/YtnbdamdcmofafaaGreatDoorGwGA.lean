/- A row of states among a law's arguments. No condition. -/
import Derived.Test.YtnbdamdcmofafaaGreatDoorGwGO
import Derived.Test.YtnbdamdcmofafaaGreatDoorGwViArg
import Derived.KernelRfl
namespace Go.Proofs.YtnbdamdcmofafaaGreatDoor
open Go Go.Vi
set_option linter.unusedSimpArgs false
set_option linter.unusedVariables false

structure StT (P : Program) : Prop where
  cells41 : P.cellsOf 41 = 8
  cells3 : P.cellsOf 3 = 1
  cells29 : P.cellsOf 29 = 1
  und64 : P.underlying 64 = some (.slice 41)
  und29 : P.underlying 29 = some (.slice 3)
  und3 : P.underlying 3 = some (.int .i64)
  und41 : ∃ fs : Array Field, P.underlying 41 = some (.struct fs) ∧ fs.toList.map (fun f => (f.offset, f.type)) = [(0, 3), (1, 3), (2, 3), (3, 3), (4, 3), (5, 3), (6, 3), (7, 29)]

section
variable {P : Program}

theorem typ_slice {m : AMem} {n : Nat} {t e : TypeId} {cs : List AV} (hu : P.underlying t = some (.slice e)) (h : Typ P m (n + 1) t cs) :
    cs = [.sl none 0 0 true] ∨ cs = [.es] ∨ ∃ j len cap c, cs = [.sl (some (j, 0)) len cap true] ∧ len ≤ cap ∧ 0 < cap ∧ cap ≤ maxLen ∧ j < m.next ∧ m.get j = some (.cells c false ⟨1, none⟩) ∧ cap * P.cellsOf e ≤ c.length ∧ ∀ i, i < cap → Typ P m n e ((c.drop (i * P.cellsOf e)).take (P.cellsOf e)) := by
  rw [Typ, hu] at h
  exact h

theorem typ_struct {m : AMem} {n : Nat} {t : TypeId} {fs : Array Field} {cs : List AV} (hu : P.underlying t = some (.struct fs)) (h : Typ P m (n + 1) t cs) :
    cs.length = P.cellsOf t ∧ ∀ f ∈ fs.toList, Typ P m n f.type ((cs.drop f.offset).take (P.cellsOf f.type)) := by
  rw [Typ, hu] at h
  exact h

theorem typ_int (p : StT P) {m : AMem} {d : Nat} {cs : List AV} (h : Typ P m (d + 1) 3 cs) : ∃ x, cs = [.i .i64 x] ∧ (Lit.int .i64 x).wf = true := by
  simpa only [Typ, p.und3] using h

theorem typ_one (p : StT P) {m : AMem} {d : Nat} {cs : List AV} (h : Typ P m (d + 1) 29 cs) : ∃ x, cs = [x] ∧ x.one = true := by
  rcases typ_slice p.und29 h with h | h | ⟨j, len, cap, c, h, _⟩
  · exact ⟨_, h, rfl⟩
  · exact ⟨_, h, rfl⟩
  · exact ⟨_, h, rfl⟩

theorem typ_state (p : StT P) {m : AMem} {d : Nat} {cs : List AV} (h : Typ P m (d + 2) 41 cs) : ∃ k o, S8 cs k o := by
  obtain ⟨fs, hu, hfs⟩ := p.und41
  obtain ⟨hlen, hf⟩ := typ_struct hu h
  rw [p.cells41] at hlen
  have hf' : ∀ q ∈ fs.toList.map (fun f => (f.offset, f.type)), Typ P m (d + 1) q.2 ((cs.drop q.1).take (P.cellsOf q.2)) := by
    intro q hq
    obtain ⟨f, h1, rfl⟩ := List.mem_map.1 hq
    exact hf f h1
  rw [hfs] at hf'
  simp only [List.forall_mem_cons, p.cells3, p.cells29] at hf'
  obtain ⟨f0, f1, f2, f3, f4, f5, f6, f7, _⟩ := hf'
  match cs, hlen with
  | [c0, c1, c2, c3, c4, c5, c6, c7], _ =>
    obtain ⟨x0, e0, _⟩ := typ_int p f0
    obtain ⟨x1, e1, _⟩ := typ_int p f1
    obtain ⟨x2, e2, _⟩ := typ_int p f2
    obtain ⟨x3, e3, _⟩ := typ_int p f3
    obtain ⟨x4, e4, _⟩ := typ_int p f4
    obtain ⟨x5, e5, _⟩ := typ_int p f5
    obtain ⟨x6, e6, _⟩ := typ_int p f6
    obtain ⟨x7, e7, h7⟩ := typ_one p f7
    simp at e0 e1 e2 e3 e4 e5 e6 e7
    subst e0 e1 e2 e3 e4 e5 e6 e7
    exact ⟨x0, x6, rfl, by simp only [List.all_cons, List.all_nil, h7, Bool.and_true]; rfl, rfl, rfl⟩

theorem typ_states (p : StT P) {m : AMem} {d : Nat} {a : AV} (h : Typ P m (d + 3) 64 a.cells) (ho : a.one = true) : ∃ l ks, Sts m a l ∧ Sorts l ks ∧ (l.length : Int) ≤ 9223372036854775807 := by
  have hc := one_cells ho
  rw [hc] at h
  have h' := typ_slice p.und64 h
  rw [p.cells41] at h'
  clear h
  rcases h' with h | h | ⟨j, len, cap, c, h, hlc, hc0, hcm, hj, hg, hcl, ht⟩
  · simp at h; subst h
    exact ⟨[], [], .inl ⟨rfl, .inl rfl⟩, ⟨rfl, by simp⟩, by simp⟩
  · simp at h; subst h
    exact ⟨[], [], .inl ⟨rfl, .inr rfl⟩, ⟨rfl, by simp⟩, by simp⟩
  · simp at h; subst h
    have hex : ∀ i, i < len → ∃ k : Int × Int, S8 ((c.drop (i * 8)).take 8) k.1 k.2 := fun i hi => by
      obtain ⟨k, o, h8⟩ := typ_state p (ht i (by omega))
      exact ⟨(k, o), h8⟩
    obtain ⟨f, hf⟩ := Go.Deep.choose_lt (α := Int × Int) hex
    refine ⟨(List.range len).map fun i => (c.drop (i * 8)).take 8, (List.range len).map f, .inr ⟨j, cap, c, by simp, hj, hg, by simp; omega, fun i s hs => ?_⟩, ⟨by simp, fun i s hs => ?_⟩, ?_⟩
    · rw [List.getElem?_map] at hs
      obtain ⟨y, hy, rfl⟩ := Option.map_eq_some_iff.1 hs
      have hi := (List.getElem?_eq_some_iff.1 hy).1
      simp at hi
      rw [List.getElem?_range hi] at hy
      simp at hy; subst hy; rfl
    · rw [List.getElem?_map] at hs
      obtain ⟨y, hy, rfl⟩ := Option.map_eq_some_iff.1 hs
      have hi := (List.getElem?_eq_some_iff.1 hy).1
      simp at hi
      rw [List.getElem?_range hi] at hy
      simp at hy; subst hy
      exact ⟨f i, by rw [List.getElem?_map, List.getElem?_range hi]; rfl, hf i hi⟩
    · simp only [List.length_map, List.length_range]
      unfold maxLen at hcm
      omega

theorem not_struct {t e : TypeId} (h : P.underlying t = some (.slice e)) : ¬ ∃ fs, P.underlying t = some (.struct fs) := by
  rw [h]; simp

theorem not_structI {t : TypeId} {k : IntKind} (h : P.underlying t = some (.int k)) : ¬ ∃ fs, P.underlying t = some (.struct fs) := by
  rw [h]; simp
end

theorem stT : StT Tryz.prog := ⟨by kernel_rfl, by kernel_rfl, by kernel_rfl, by kernel_rfl, by kernel_rfl, by kernel_rfl, _, Tryz.underlying41, rfl⟩

end Go.Proofs.YtnbdamdcmofafaaGreatDoor
