/- Trees of states: the plain law of what a state grows from. No condition. -/
namespace Go.Proofs.YtnbdamdcmofafaaGreatDoor
set_option linter.unusedSimpArgs false
set_option linter.unusedVariables false
namespace G

def cutTo (to : Int) : List Nat → List Nat
  | [] => []
  | a :: st => if (a : Int) = to then a :: st else cutTo to st

def fromG (st : List Nat) (i : Nat) (kind origin : Int) : Int :=
  if kind = 1 ∨ kind = 14 then -1
  else if (kind = 7 ∨ kind = 12) ∧ (∃ a ∈ st, (a : Int) = origin) then origin
  else (i : Int) - 1

def growL : List Int → List Nat → List (Int × Int) → List Int × List Nat
  | up, st, [] => (up, st)
  | up, st, (k, o) :: l => growL (up ++ [fromG st up.length k o]) (up.length :: cutTo (fromG st up.length k o) st) l

def ups (l : List (Int × Int)) : List Int := (growL [] [] l).1

def Chain (up : List Int) : List Nat → Prop
  | [] => True
  | [a] => up[a]? = some (-1)
  | a :: b :: st => up[a]? = some (b : Int) ∧ Chain up (b :: st)

structure GI (up : List Int) (st : List Nat) : Prop where
  chain : Chain up st
  head : st.head? = if up.length = 0 then none else some (up.length - 1)
  lt : ∀ a ∈ st, a < up.length
  rng : ∀ (k : Nat) u, up[k]? = some u → -1 ≤ u ∧ u < k
  nest : ∀ (k c : Nat) u v, up[k]? = some u → up[c]? = some v → u < c → c < k → u ≤ v
  open_ : ∀ a ∈ st, ∀ (c : Nat) v, up[c]? = some v → a < c → (a : Int) ≤ v

theorem cut_sub (to : Int) : ∀ (st : List Nat), ∀ a ∈ cutTo to st, a ∈ st
  | [], a, h => by simp [cutTo] at h
  | b :: st, a, h => by
    simp only [cutTo] at h
    split at h
    · exact h
    · exact List.mem_cons_of_mem _ (cut_sub to st a h)

theorem cut_head {to : Int} : ∀ {st : List Nat}, (∃ a ∈ st, (a : Int) = to) → ∃ a st', cutTo to st = a :: st' ∧ (a : Int) = to
  | [], h => by obtain ⟨a, h, _⟩ := h; simp at h
  | b :: st, ⟨a, ha, he⟩ => by
    simp only [cutTo]
    by_cases hb : (b : Int) = to
    · rw [if_pos hb]; exact ⟨b, st, rfl, hb⟩
    · rw [if_neg hb]
      refine cut_head ⟨a, ?_, he⟩
      rcases List.mem_cons.1 ha with rfl | h
      · exact absurd he hb
      · exact h

theorem cut_none {to : Int} : ∀ {st : List Nat}, (¬ ∃ a ∈ st, (a : Int) = to) → cutTo to st = []
  | [], _ => rfl
  | b :: st, h => by
    simp only [cutTo]
    rw [if_neg fun e => h ⟨b, by simp, e⟩]
    exact cut_none fun ⟨a, ha, he⟩ => h ⟨a, by simp [ha], he⟩

theorem Chain.tail {up : List Int} {a : Nat} {st : List Nat} (h : Chain up (a :: st)) : Chain up st := by
  cases st with
  | nil => trivial
  | cons b st => exact h.2

theorem Chain.cut {up : List Int} (to : Int) : ∀ {st : List Nat}, Chain up st → Chain up (cutTo to st)
  | [], _ => trivial
  | b :: st, h => by
    simp only [cutTo]
    split
    · exact h
    · exact Chain.cut to h.tail

theorem Chain.ext {up : List Int} (u : Int) : ∀ {st : List Nat}, (∀ a ∈ st, a < up.length) → Chain up st → Chain (up ++ [u]) st
  | [], _, _ => trivial
  | [a], hl, h => by
    have := hl a (by simp)
    simpa [Chain, List.getElem?_append_left this] using h
  | a :: b :: st, hl, h => by
    have := hl a (by simp)
    refine ⟨by rw [List.getElem?_append_left this]; exact h.1, Chain.ext u (fun x hx => hl x (by simp [hx])) h.2⟩

theorem Chain.sorted {up : List Int} (hr : ∀ (k : Nat) u, up[k]? = some u → -1 ≤ u ∧ u < k) : ∀ {a : Nat} {st : List Nat}, Chain up (a :: st) → ∀ b ∈ st, b < a
  | a, [], _, b, hb => by simp at hb
  | a, c :: st, h, b, hb => by
    have h1 := hr a _ h.1
    rcases List.mem_cons.1 hb with rfl | hb
    · omega
    · have := Chain.sorted hr h.2 b hb
      omega

theorem cut_le {up : List Int} (hr : ∀ (k : Nat) u, up[k]? = some u → -1 ≤ u ∧ u < k) (to : Int) : ∀ {st : List Nat}, Chain up st → ∀ a ∈ cutTo to st, (a : Int) ≤ to
  | [], _, a, h => by simp [cutTo] at h
  | b :: st, hc, a, h => by
    simp only [cutTo] at h
    split at h
    · rename_i hb
      rcases List.mem_cons.1 h with rfl | h
      · omega
      · have := Chain.sorted hr hc a h; omega
    · exact cut_le hr to hc.tail a h

theorem GI.nil : GI [] [] := ⟨trivial, rfl, fun a h => by simp at h, fun k u h => by simp at h, fun k c u v h => by simp at h, fun a h => by simp at h⟩

theorem GI.from_ok {up : List Int} {st : List Nat} (h : GI up st) (kind origin : Int) : fromG st up.length kind origin = -1 ∨ ∃ a ∈ st, (a : Int) = fromG st up.length kind origin := by
  unfold fromG
  split
  · exact .inl rfl
  · split
    · rename_i h2; exact .inr h2.2
    · by_cases h0 : up.length = 0
      · left; omega
      · right
        have := h.head
        rw [if_neg h0] at this
        exact ⟨up.length - 1, List.mem_of_head? this, by omega⟩

theorem GI.step {up : List Int} {st : List Nat} (h : GI up st) (kind origin : Int) : GI (up ++ [fromG st up.length kind origin]) (up.length :: cutTo (fromG st up.length kind origin) st) := by
  have hf := h.from_ok kind origin
  generalize fromG st up.length kind origin = u at *
  have hu : -1 ≤ u ∧ u < up.length := by
    rcases hf with rfl | ⟨a, ha, rfl⟩
    · omega
    · have := h.lt a ha; omega
  have get : ∀ (k : Nat) w, (up ++ [u])[k]? = some w → (k < up.length ∧ up[k]? = some w) ∨ (k = up.length ∧ w = u) := by
    intro k w hk
    rw [List.getElem?_append] at hk
    split at hk
    · rename_i hl; exact .inl ⟨hl, hk⟩
    · rename_i hl
      have : k - up.length = 0 := by
        have := (List.getElem?_eq_some_iff.1 hk).1
        simp at this; omega
      rw [this] at hk
      simp at hk
      exact .inr ⟨by omega, hk.symm⟩
  have hsub : ∀ a ∈ cutTo u st, a < up.length := fun a ha => h.lt a (cut_sub u st a ha)
  refine ⟨?_, by simp, ?_, ?_, ?_, ?_⟩
  · rcases hf with rfl | hin
    · rw [cut_none (to := -1)]
      · simp [Chain]
      · rintro ⟨a, _, ha⟩; omega
    · obtain ⟨a, st', he, hau⟩ := cut_head hin
      have hc := (h.chain.cut u).ext u hsub
      rw [he] at hc ⊢
      exact ⟨by simp [hau], hc⟩
  · intro a ha
    rcases List.mem_cons.1 ha with rfl | ha
    · simp
    · have := hsub a ha; simp; omega
  · intro k w hk
    rcases get k w hk with ⟨_, hk⟩ | ⟨rfl, rfl⟩
    · exact h.rng k w hk
    · exact hu
  · intro k c w v hk hc hwc hck
    rcases get k w hk with ⟨hkl, hk⟩ | ⟨rfl, rfl⟩
    · rcases get c v hc with ⟨_, hc⟩ | ⟨rfl, rfl⟩
      · exact h.nest k c w v hk hc hwc hck
      · omega
    · rcases get c v hc with ⟨_, hc'⟩ | ⟨rfl, rfl⟩
      · rcases hf with rfl | ⟨a, ha, rfl⟩
        · exact (h.rng c v hc').1
        · exact h.open_ a ha c v hc' (by omega)
      · omega
  · intro a ha c v hc hac
    rcases List.mem_cons.1 ha with rfl | ha
    · rcases get c v hc with ⟨hcl, _⟩ | ⟨rfl, _⟩ <;> omega
    · rcases get c v hc with ⟨_, hc⟩ | ⟨rfl, rfl⟩
      · exact h.open_ a (cut_sub u st a ha) c v hc hac
      · exact cut_le h.rng _ h.chain a ha

theorem GI.grow : ∀ (l : List (Int × Int)) {up : List Int} {st : List Nat}, GI up st → GI (growL up st l).1 (growL up st l).2
  | [], _, _, h => h
  | (k, o) :: l, _, _, h => GI.grow l (h.step k o)

theorem growL_len : ∀ (l : List (Int × Int)) (up : List Int) (st : List Nat), (growL up st l).1.length = up.length + l.length
  | [], up, _ => by simp [growL]
  | (k, o) :: l, up, st => by simp only [growL, growL_len l, List.length_append, List.length_cons, List.length_nil]; omega

theorem growL_append : ∀ (l l' : List (Int × Int)) (up : List Int) (st : List Nat), growL up st (l ++ l') = growL (growL up st l).1 (growL up st l).2 l'
  | [], _, _, _ => rfl
  | (k, o) :: l, l', up, st => by simp only [List.cons_append, growL, growL_append l l']

theorem growL_pre : ∀ (l : List (Int × Int)) (up : List Int) (st : List Nat) (i : Nat), i < up.length → (growL up st l).1[i]? = up[i]?
  | [], _, _, _, _ => rfl
  | (k, o) :: l, up, st, i, hi => by
    simp only [growL]
    rw [growL_pre l _ _ i (by simp; omega), List.getElem?_append_left hi]

end G
end Go.Proofs.YtnbdamdcmofafaaGreatDoor
