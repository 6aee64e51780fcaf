/- Trees of states: the plain law of paths. No condition. -/
import Derived.Test.YtnbdamdcmofafaaGreatDoorGwH
namespace Go.Proofs.YtnbdamdcmofafaaGreatDoor
set_option linter.unusedSimpArgs false
set_option linter.unusedVariables false
namespace G

theorem kidsS_complete (i : Int) : ∀ (us : List Int) (k d : Nat), us[d]? = some i → (∀ c v, c < d → us[c]? = some v → i ≤ v) → k + d ∈ kidsS i k us
  | [], k, d, h, _ => by simp at h
  | u :: us, k, 0, h, _ => by
    simp at h
    simp [kidsS, h]
  | u :: us, k, d + 1, h, hc => by
    have h0 := hc 0 u (by omega) rfl
    simp only [kidsS, List.mem_append]
    right
    rw [if_neg (by omega)]
    have := kidsS_complete i us (k + 1) d (by simpa using h) fun c v hcd hv => hc (c + 1) v (by omega) (by simpa using hv)
    rwa [show k + (d + 1) = k + 1 + d by omega]

theorem kids_complete {up : List Int} {st : List Nat} (h : GI up st) {i : Int} {x : Nat} (hx : up[x]? = some i) : x ∈ kids up i := by
  have hr := h.rng x i hx
  unfold kids
  generalize hk : (max (i + 1) 0).toNat = k0
  have := kidsS_complete i (up.drop k0) k0 (x - k0) (by rw [List.getElem?_drop, show k0 + (x - k0) = x by omega]; exact hx) fun c v hcd hv => by
    rw [List.getElem?_drop] at hv
    exact h.nest x (k0 + c) i v hx hv (by omega) (by omega)
  rwa [show k0 + (x - k0) = x by omega] at this

theorem path_ex {up : List Int} (hr : ∀ (k : Nat) u, up[k]? = some u → -1 ≤ u ∧ u < k) : ∀ (n i : Nat), i ≤ n → i < up.length → ∃ tl, Chain up (i :: tl)
  | 0, i, hi, hl => by
    obtain ⟨u, hu⟩ : ∃ u, up[i]? = some u := ⟨_, List.getElem?_eq_getElem hl⟩
    have := hr i u hu
    exact ⟨[], by simp only [Chain]; rw [hu]; congr 1; omega⟩
  | n + 1, i, hi, hl => by
    obtain ⟨u, hu⟩ : ∃ u, up[i]? = some u := ⟨_, List.getElem?_eq_getElem hl⟩
    have hb := hr i u hu
    by_cases h0 : u = -1
    · exact ⟨[], by simp only [Chain]; rw [hu, h0]⟩
    · obtain ⟨tl, ht⟩ := path_ex hr n u.toNat (by omega) (by omega)
      exact ⟨u.toNat :: tl, by rw [hu]; congr 1; omega, ht⟩

theorem chain_lt {up : List Int} : ∀ {p : List Nat}, Chain up p → ∀ a ∈ p, a < up.length
  | [], _, a, ha => by simp at ha
  | [b], h, a, ha => by
    simp at ha; subst ha
    exact (List.getElem?_eq_some_iff.1 h).1
  | b :: c :: p, h, a, ha => by
    rcases List.mem_cons.1 ha with rfl | ha
    · exact (List.getElem?_eq_some_iff.1 h.1).1
    · exact chain_lt h.2 a ha

theorem chain_at {up : List Int} : ∀ {p : List Nat}, Chain up p → ∀ (t a : Nat), p[t]? = some a → up[a]? = some (match p[t + 1]? with | some b => (b : Int) | none => -1)
  | [], _, t, a, h => by simp at h
  | [b], hc, 0, a, h => by simp at h; subst h; exact hc
  | [b], hc, t + 1, a, h => by simp at h
  | b :: c :: p, hc, 0, a, h => by simp at h; subst h; exact hc.1
  | b :: c :: p, hc, t + 1, a, h => by simpa using chain_at hc.2 t a (by simpa using h)

end G
end Go.Proofs.YtnbdamdcmofafaaGreatDoor
