/- Package-level variables that are laid: their rows of numbers. No condition. -/
import Derived.Test.YtjlckbphpmogjaaGreatDoorSfViArg
import Derived.OpenShut
import Derived.MakeChecks
namespace Go.Vi
open Go.RowKit
set_option linter.unusedSimpArgs false
set_option linter.unusedVariables false

theorem laid_mem {P : Program} {w : World} {n : String} {d : DataW Unit} : ∀ {l : List (String × DataW Unit)} {ps : List MemPlace}, DataW.LaidVars P w l ps → (n, d) ∈ l →
    ∃ g t cs fuel p, P.globalNamed n = some g ∧ (P.globals[g]?).map (·.type) = some t ∧ w.var? P n = some cs ∧ DataW.trod (fun _ => ()) P w 0 (fun _ => true) false fuel t cs.toList = some (d, p)
  | [], _, _, h => by simp at h
  | (n', d') :: r, ps, hl, h => by
    obtain ⟨g, t, cs, fuel, p, q, e1, e2, e3, e4, hr, _⟩ := hl
    rcases List.mem_cons.1 h with h | h
    · simp only [Prod.mk.injEq] at h
      obtain ⟨rfl, rfl⟩ := h
      exact ⟨g, t, cs, fuel, p, e1, e2, e3, e4⟩
    · exact laid_mem hr h

theorem laid_ints {P : Program} {w : World} {laid : List (String × DataW Unit)} {n : String} {k : IntKind} {ns : List Int} {g t e N : Nat} (h : laidMet P laid w) (hm : (n, DataW.agg (ns.map fun x => .lit (.int k x))) ∈ laid)
    (hg : P.globalNamed n = some g) (ht : (P.globals[g]?).map (·.type) = some t) (hu : P.underlying t = some (.array N e)) (he : P.underlying e = some (.int k)) (hc : P.cellsOf e = 1) (hN : P.cellsOf t = N) :
    ∃ (arr : Array Value) (e' : TypeId) (fz : Nat × Nat), w.heap[g]? = some (.cells arr e' fz) ∧ arr.toList = ns.map (.int k ·) := by
  obtain ⟨ps, hl, _⟩ := h
  obtain ⟨g', t', cs, fuel, p, e1, e2, e3, e4⟩ := laid_mem hl hm
  rw [hg] at e1
  simp only [Option.some.injEq] at e1; subst e1
  rw [ht] at e2
  simp only [Option.some.injEq] at e2; subst e2
  obtain ⟨xs, m, _, ex, hlen, hxl, hel⟩ := DataW.trod_array hu e4
  have hh : ∃ e' fz, w.heap[g]? = some (.cells cs e' fz) := by
    simp only [World.var?, hg, Option.bind_some] at e3
    split at e3
    · rename_i c e' fz hw
      simp only [Option.some.injEq] at e3; subst e3
      exact ⟨e', fz, hw⟩
    · simp at e3
  obtain ⟨e', fz, hw⟩ := hh
  refine ⟨cs, e', fz, hw, ?_⟩
  simp only [Prod.mk.injEq, DataW.agg.injEq] at ex
  have hmap := ex.1
  have hlen2 : ns.length = N := by
    have := congrArg List.length hmap
    simp only [List.length_map] at this
    omega
  refine List.ext_getElem? fun i => ?_
  by_cases hi : i < N
  · have h1 := hel i hi
    rw [hc, Nat.mul_one] at h1
    have hx : xs[i]? = some (xs[i]'(by omega)) := List.getElem?_eq_getElem (by omega)
    rw [hx] at h1
    obtain ⟨v, hv, hx2, _⟩ := DataW.trod_int he h1
    have h2 : (ns.map fun x => (DataW.lit (.int k x) : DataW Unit))[i]? = (xs.map (·.1))[i]? := by rw [hmap]
    rw [List.getElem?_map, List.getElem?_map, hx, hx2, List.getElem?_eq_getElem (by omega)] at h2
    simp only [Option.map_some, Option.some.injEq, DataW.lit.injEq, Lit.int.injEq, true_and] at h2
    rw [List.getElem?_map, List.getElem?_eq_getElem (l := ns) (by omega), Option.map_some, h2]
    have h3 : ((cs.toList.drop i).take 1)[0]? = some (.int k v) := by rw [hv]; rfl
    rw [List.getElem?_take, if_pos (by omega), List.getElem?_drop, Nat.add_zero] at h3
    exact h3
  · rw [List.getElem?_eq_none (by omega), List.getElem?_eq_none (by simp; omega)]
end Go.Vi
