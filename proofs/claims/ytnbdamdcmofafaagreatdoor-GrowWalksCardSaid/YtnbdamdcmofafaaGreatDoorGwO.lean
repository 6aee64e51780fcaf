/- Trees of states: the plain law of walks. No condition. -/
import Derived.Test.YtnbdamdcmofafaaGreatDoorGwI
namespace Go.Proofs.YtnbdamdcmofafaaGreatDoor
set_option linter.unusedSimpArgs false
set_option linter.unusedVariables false
namespace G

def fl (up : List Int) (n : Nat) (k : Nat) : List Nat := (List.range n).filter fun j => decide (up[j]? = some (k : Int))

theorem fl_succ (up : List Int) (n k : Nat) : fl up (n + 1) k = if up[n]? = some (k : Int) then fl up n k ++ [n] else fl up n k := by
  unfold fl
  rw [List.range_succ, List.filter_append]
  by_cases h : up[n]? = some (k : Int)
  · simp [h]
  · simp [h]

theorem fl_mem {up : List Int} {n k x : Nat} : x ∈ fl up n k ↔ x < n ∧ up[x]? = some (k : Int) := by
  simp [fl]

theorem fl_sorted (up : List Int) (n k : Nat) : (fl up n k).Pairwise (· < ·) := (List.pairwise_lt_range (n := n)).filter _

def rl (up : List Int) (n : Nat) : List Nat := (List.range n).filter fun j => decide (up[j]? = some (-1))

theorem rl_succ (up : List Int) (n : Nat) : rl up (n + 1) = if up[n]? = some (-1) then rl up n ++ [n] else rl up n := by
  unfold rl
  rw [List.range_succ, List.filter_append]
  by_cases h : up[n]? = some (-1)
  · simp [h]
  · simp [h]

theorem rl_mem {up : List Int} {n x : Nat} : x ∈ rl up n ↔ x < n ∧ up[x]? = some (-1) := by
  simp [rl]

theorem rl_sorted (up : List Int) (n : Nat) : (rl up n).Pairwise (· < ·) := (List.pairwise_lt_range (n := n)).filter _

structure Stk (up : List Int) (i c : Nat) (S : List Nat) : Prop where
  le : i ≤ c
  top : c ≤ up.length
  root : up[i]? = some (-1)
  sorted : S.Pairwise (· < ·)
  mem : ∀ k : Nat, k ∈ S ↔ k < up.length ∧ c ≤ k ∧ (k = i ∨ ∃ u, up[k]? = some u ∧ (i : Int) ≤ u ∧ u < c)
  past : ∀ (k : Nat) u, i < k → k < c → up[k]? = some u → (i : Int) ≤ u

theorem Stk.start {up : List Int} {i : Nat} (hr : up[i]? = some (-1)) : Stk up i i [i] := by
  have hl := (List.getElem?_eq_some_iff.1 hr).1
  refine ⟨Nat.le_refl _, by omega, hr, by simp, fun k => ?_, fun k u h1 h2 => by omega⟩
  simp only [List.mem_singleton]
  constructor
  · rintro rfl; exact ⟨hl, Nat.le_refl _, .inl rfl⟩
  · rintro ⟨_, _, h | ⟨u, _, h1, h2⟩⟩
    · exact h
    · omega

theorem Stk.head {up : List Int} {st : List Nat} (g : GI up st) {i c a : Nat} {S : List Nat} (h : Stk up i c (a :: S)) : a = c := by
  obtain ⟨h1, h2, h3⟩ := (h.mem a).1 (by simp)
  have hle := h.le
  rcases h3 with h3 | ⟨u, hu, h4, h5⟩
  · omega
  · by_cases hac : a = c
    · exact hac
    · exfalso
      have hcl : c < up.length := by omega
      obtain ⟨v, hv⟩ : ∃ v, up[c]? = some v := ⟨_, List.getElem?_eq_getElem hcl⟩
      have hn := g.nest a c u v hu hv h5 (by omega)
      have hvr := g.rng c v hv
      have hc : c ∈ a :: S := (h.mem c).2 ⟨hcl, Nat.le_refl _, .inr ⟨v, hv, by omega, by omega⟩⟩
      rcases List.mem_cons.1 hc with e | e
      · omega
      · have := (List.pairwise_cons.1 h.sorted).1 c e; omega

theorem Stk.stop {up : List Int} {st : List Nat} (g : GI up st) {i c : Nat} (h : Stk up i c []) : i < c ∧ (c < up.length → up[c]? = some (-1)) := by
  have hil := (List.getElem?_eq_some_iff.1 h.root).1
  have hic : i < c := by
    have hle := h.le
    by_cases e : i = c
    · have := (h.mem i).2 ⟨hil, by omega, .inl rfl⟩
      simp at this
    · omega
  refine ⟨hic, fun hc => ?_⟩
  obtain ⟨v, hv⟩ : ∃ v, up[c]? = some v := ⟨_, List.getElem?_eq_getElem hc⟩
  have hvr := g.rng c v hv
  have hlt : v < i := by
    by_cases e : (i : Int) ≤ v
    · have := (h.mem c).2 ⟨hc, Nat.le_refl _, .inr ⟨v, hv, e, by omega⟩⟩
      simp at this
    · omega
  have := g.nest c i v (-1) hv h.root hlt hic
  rw [hv]; congr 1; omega

theorem Stk.step {up : List Int} {st : List Nat} (g : GI up st) {i c : Nat} {S : List Nat} (h : Stk up i c (c :: S)) : Stk up i (c + 1) (fl up up.length c ++ S) := by
  obtain ⟨h1, h2, h3⟩ := (h.mem c).1 (by simp)
  have hs := List.pairwise_cons.1 h.sorted
  have hle := h.le
  have hS : ∀ k ∈ S, ∃ u, up[k]? = some u ∧ (i : Int) ≤ u ∧ u < c ∧ c < k ∧ k < up.length := fun k hk => by
    have hck := hs.1 k hk
    obtain ⟨q1, q2, q3⟩ := (h.mem k).1 (by simp [hk])
    rcases q3 with e | ⟨u, hu, q4, q5⟩
    · omega
    · exact ⟨u, hu, q4, q5, hck, q1⟩
  refine ⟨by omega, by omega, h.root, List.pairwise_append.2 ⟨fl_sorted _ _ _, hs.2, fun a ha b hb => ?_⟩, fun k => ?_, fun k u hk1 hk2 hu => ?_⟩
  · obtain ⟨_, hau⟩ := fl_mem.1 ha
    obtain ⟨u, hu, q1, q2, q3, _⟩ := hS b hb
    rcases Nat.lt_trichotomy a b with e | e | e
    · exact e
    · subst e; rw [hau] at hu; simp at hu; omega
    · have := g.nest a b c u hau hu (by omega) e
      omega
  · rw [List.mem_append, fl_mem]
    constructor
    · rintro (⟨q1, q2⟩ | hk)
      · have := g.rng k _ q2
        exact ⟨q1, by omega, .inr ⟨_, q2, by omega, by omega⟩⟩
      · obtain ⟨u, hu, q1, q2, q3, q4⟩ := hS k hk
        exact ⟨q4, by omega, .inr ⟨u, hu, q1, by omega⟩⟩
    · rintro ⟨q1, q2, q3 | ⟨u, hu, q4, q5⟩⟩
      · omega
      · by_cases e : u = c
        · left; rw [e] at hu; exact ⟨q1, hu⟩
        · right
          have := (h.mem k).2 ⟨q1, by omega, .inr ⟨u, hu, q4, by omega⟩⟩
          rcases List.mem_cons.1 this with e' | e'
          · omega
          · exact e'
  · by_cases e : k = c
    · subst e
      rcases h3 with e | ⟨v, hv, q1, q2⟩
      · omega
      · rw [hu] at hv; simp at hv; omega
    · exact h.past k u hk1 (by omega) hu

theorem get_lt {K : List Nat} (h : K.Pairwise (· < ·)) {p q x y : Nat} (hx : K[p]? = some x) (hy : K[q]? = some y) (hxy : x < y) : p < q := by
  have h1 := (List.getElem?_eq_some_iff.1 hx)
  have h2 := (List.getElem?_eq_some_iff.1 hy)
  rcases Nat.lt_trichotomy p q with e | e | e
  · exact e
  · subst e; rw [hx] at hy; simp at hy; omega
  · have := List.pairwise_iff_getElem.1 h q p h2.1 h1.1 e
    rw [h1.2, h2.2] at this; omega

theorem root_first {up : List Int} {st : List Nat} (g : GI up st) : (∀ x, (rl up up.length)[0]? = some x → x = 0) ∧ (0 = (rl up up.length).length → up.length = 0) := by
  have h0 : 0 < up.length → 0 ∈ rl up up.length := fun h => by
    obtain ⟨v, hv⟩ : ∃ v, up[0]? = some v := ⟨_, List.getElem?_eq_getElem h⟩
    have := g.rng 0 v hv
    exact rl_mem.2 ⟨h, by rw [hv]; congr 1; omega⟩
  constructor
  · intro x hx
    obtain ⟨hxl, _⟩ := rl_mem.1 (List.mem_of_getElem? hx)
    obtain ⟨q, hq⟩ := List.getElem?_of_mem (h0 (by omega))
    by_cases e : x = 0
    · exact e
    · have := get_lt (rl_sorted up up.length) hq hx (by omega)
      omega
  · intro h
    by_cases e : up.length = 0
    · exact e
    · have := List.length_pos_of_mem (h0 (by omega))
      omega

theorem next_root {up : List Int} {x c t : Nat} {st : List Nat} (g : GI up st) (hx : (rl up up.length)[t]? = some x) (h : Stk up x c []) : (∀ y, (rl up up.length)[t + 1]? = some y → c = y) ∧ (t + 1 = (rl up up.length).length → c = up.length) := by
  obtain ⟨hxc, hroot⟩ := h.stop g
  have hcn := h.top
  have hs := rl_sorted up up.length
  constructor
  · intro y hy
    obtain ⟨hyl, hyr⟩ := rl_mem.1 (List.mem_of_getElem? hy)
    have hxy : x < y := by
      have h1 := (List.getElem?_eq_some_iff.1 hx)
      have h2 := (List.getElem?_eq_some_iff.1 hy)
      have := List.pairwise_iff_getElem.1 hs t (t + 1) h1.1 h2.1 (by omega)
      rw [h1.2, h2.2] at this; exact this
    have hcy : c ≤ y := by
      by_cases e : y < c
      · have := h.past y (-1) hxy e hyr
        omega
      · omega
    by_cases e : c = y
    · exact e
    · have hc : c ∈ rl up up.length := rl_mem.2 ⟨by omega, hroot (by omega)⟩
      obtain ⟨q, hq⟩ := List.getElem?_of_mem hc
      have a1 := get_lt hs hx hq hxc
      have a2 := get_lt hs hq hy (by omega)
      omega
  · intro ht
    by_cases e : c = up.length
    · exact e
    · have hc : c ∈ rl up up.length := rl_mem.2 ⟨by omega, hroot (by omega)⟩
      obtain ⟨q, hq⟩ := List.getElem?_of_mem hc
      have a1 := get_lt hs hx hq hxc
      have := (List.getElem?_eq_some_iff.1 hq).1
      omega

end G
end Go.Proofs.YtnbdamdcmofafaaGreatDoor
