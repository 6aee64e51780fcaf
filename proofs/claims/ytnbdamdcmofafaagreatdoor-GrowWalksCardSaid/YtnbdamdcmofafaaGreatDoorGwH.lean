/- Trees of states: the plain law of kids. No condition. -/
import Derived.Test.YtnbdamdcmofafaaGreatDoorGwG
namespace Go.Proofs.YtnbdamdcmofafaaGreatDoor
set_option linter.unusedSimpArgs false
set_option linter.unusedVariables false
namespace G

def kidsS (i : Int) : Nat → List Int → List Nat
  | _, [] => []
  | k, u :: us => (if u = i then [k] else []) ++ if u < i then [] else kidsS i (k + 1) us

def kids (up : List Int) (i : Int) : List Nat := kidsS i (max (i + 1) 0).toNat (up.drop (max (i + 1) 0).toNat)

theorem kidsS_mem (i : Int) : ∀ (us : List Int) (k : Nat), ∀ x ∈ kidsS i k us, k ≤ x ∧ us[x - k]? = some i
  | [], k, x, h => by simp [kidsS] at h
  | u :: us, k, x, h => by
    simp only [kidsS, List.mem_append] at h
    rcases h with h | h
    · split at h
      · rename_i hu
        simp at h; subst h; subst hu
        simp
      · simp at h
    · split at h
      · simp at h
      · obtain ⟨h1, h2⟩ := kidsS_mem i us (k + 1) x h
        refine ⟨by omega, ?_⟩
        rw [show x - k = (x - (k + 1)) + 1 by omega]
        simpa using h2

theorem kidsS_sorted (i : Int) : ∀ (us : List Int) (k : Nat), (kidsS i k us).Pairwise (· < ·)
  | [], k => by simp [kidsS]
  | u :: us, k => by
    simp only [kidsS]
    refine List.pairwise_append.2 ⟨by split <;> simp, by split <;> simp [kidsS_sorted i us (k + 1)], ?_⟩
    intro a ha b hb
    have ha' : a = k := by split at ha <;> simp at ha; exact ha
    split at hb
    · simp at hb
    · have := (kidsS_mem i us (k + 1) b hb).1; omega

theorem kidsS_count (i : Int) : ∀ (us : List Int) (k : Nat), (∀ (c d : Nat) u, us[c]? = some u → u < i → c < d → us[d]? ≠ some i) → (kidsS i k us).length = us.countP (fun u => decide (u = i))
  | [], k, _ => rfl
  | u :: us, k, h => by
    simp only [kidsS, List.length_append, List.countP_cons]
    by_cases hu : u < i
    · have h0 : us.countP (fun u => decide (u = i)) = 0 := by
        rw [List.countP_eq_zero]
        intro x hx
        obtain ⟨d, hd⟩ := List.getElem?_of_mem hx
        have := h 0 (d + 1) u rfl hu (by omega)
        simp only [List.getElem?_cons_succ] at this
        intro he
        simp only [decide_eq_true_eq] at he
        subst he
        exact this hd
      rw [if_neg (by omega), if_pos hu, h0]
      simp [show ¬ u = i by omega]
    · rw [if_neg hu, kidsS_count i us (k + 1) fun c d v hc hv hcd => by
        have := h (c + 1) (d + 1) v (by simpa using hc) hv (by omega)
        simpa using this]
      by_cases he : u = i
      · simp [he]; omega
      · simp [he]

theorem kids_mem {up : List Int} {i : Int} {x : Nat} (h : x ∈ kids up i) : up[x]? = some i ∧ i < x := by
  obtain ⟨h1, h2⟩ := kidsS_mem _ _ _ x h
  rw [List.getElem?_drop] at h2
  refine ⟨by rw [← h2]; congr 1; omega, by omega⟩

theorem kids_count {up : List Int} {st : List Nat} (h : GI up st) {i : Int} (hi : -1 ≤ i) : (kids up i).length = up.countP (fun u => decide (u = i)) := by
  unfold kids
  generalize hk : (max (i + 1) 0).toNat = k0
  have hk0 : (k0 : Int) = i + 1 := by omega
  rw [kidsS_count]
  · conv => rhs; rw [← List.take_append_drop k0 up]
    rw [List.countP_append]
    have h0 : (up.take k0).countP (fun u => decide (u = i)) = 0 := by
      rw [List.countP_eq_zero]
      intro x hx
      obtain ⟨d, hd⟩ := List.getElem?_of_mem hx
      rw [List.getElem?_take] at hd
      split at hd
      · have := h.rng d x hd
        simp; omega
      · simp at hd
    omega
  · intro c d u hc hu hcd hd
    rw [List.getElem?_drop] at hc hd
    have := h.nest (k0 + d) (k0 + c) i u hd hc (by omega) (by omega)
    omega

theorem count_lt (up : List Int) (i : Int) : up.countP (fun u => decide (u < i + 1)) = up.countP (fun u => decide (u < i)) + up.countP (fun u => decide (u = i)) := by
  induction up with
  | nil => rfl
  | cons u up ih =>
    simp only [List.countP_cons, ih]
    by_cases h1 : u < i
    · simp [h1, show u < i + 1 by omega, show ¬ u = i by omega]; omega
    · by_cases h2 : u = i
      · subst h2
        have e1 : decide (u < u + 1) = true := by simp; omega
        have e2 : decide (u < u) = false := by simp
        simp only [e1, e2, decide_true, if_true, Bool.false_eq_true, if_false]
        omega
      · simp [h1, h2, show ¬ u < i + 1 by omega]

theorem count_none {up : List Int} {st : List Nat} (h : GI up st) : up.countP (fun u => decide (u < -1)) = 0 := by
  rw [List.countP_eq_zero]
  intro x hx
  obtain ⟨d, hd⟩ := List.getElem?_of_mem hx
  have := h.rng d x hd
  simp; omega

theorem count_all {up : List Int} {st : List Nat} (h : GI up st) : up.countP (fun u => decide (u < (up.length : Int))) = up.length := by
  rw [List.countP_eq_length]
  intro x hx
  obtain ⟨d, hd⟩ := List.getElem?_of_mem hx
  have := h.rng d x hd
  have := (List.getElem?_eq_some_iff.1 hd).1
  simp; omega

theorem kids_none {up : List Int} {st : List Nat} (h : GI up st) : kids up (-2) = [] := by
  refine List.eq_nil_iff_forall_not_mem.2 fun x hx => ?_
  have := (kids_mem hx).1
  have := h.rng _ _ this
  omega

theorem kids_end (up : List Int) : kids up up.length = [] := by
  refine List.eq_nil_iff_forall_not_mem.2 fun x hx => ?_
  have h1 := kids_mem hx
  have := (List.getElem?_eq_some_iff.1 h1.1).1
  omega

end G
end Go.Proofs.YtnbdamdcmofafaaGreatDoor
