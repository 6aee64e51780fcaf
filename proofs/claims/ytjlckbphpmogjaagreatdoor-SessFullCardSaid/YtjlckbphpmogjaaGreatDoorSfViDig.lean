/- Numbers in decimal digits, in plain Lean. No condition. -/
namespace Go.Vi
set_option linter.unusedSimpArgs false
set_option linter.unusedVariables false

def nd (u : Nat) : Nat := if u < 10 then 1 else nd (u / 10) + 1
termination_by u
decreasing_by omega

def fixd : Nat → Nat → List UInt8
  | 0, _ => []
  | k + 1, u => fixd k (u / 10) ++ [UInt8.ofNat (48 + u % 10)]

def dig (u : Nat) : List UInt8 := fixd (nd u) u

def digI (n : Int) : List UInt8 := if n < 0 then 45 :: dig n.natAbs else dig n.natAbs

theorem fixd_len : ∀ k u, (fixd k u).length = k
  | 0, _ => rfl
  | k + 1, u => by simp [fixd, fixd_len k]

theorem nd_lt {u : Nat} (h : u < 10) : nd u = 1 := by rw [nd, if_pos h]
theorem nd_ge {u : Nat} (h : ¬ u < 10) : nd u = nd (u / 10) + 1 := by rw [nd, if_neg h]
theorem nd_pos (u : Nat) : 1 ≤ nd u := by
  by_cases h : u < 10
  · rw [nd_lt h]; exact Nat.le_refl 1
  · rw [nd_ge h]; omega

theorem dig_lt {u : Nat} (h : u < 10) : dig u = [UInt8.ofNat (48 + u)] := by
  rw [dig, nd_lt h]; simp [fixd, Nat.mod_eq_of_lt h]

theorem dig_ge {u : Nat} (h : ¬ u < 10) : dig u = dig (u / 10) ++ dig (u % 10) := by
  rw [dig_lt (Nat.mod_lt u (by omega)), dig, nd_ge h, fixd, dig]

theorem dig_len (u : Nat) : (dig u).length = nd u := fixd_len _ _

theorem lt_nd (u : Nat) : u < 10 ^ nd u := by
  induction u using nd.induct with
  | case1 u h => rw [nd_lt h]; omega
  | case2 u h ih => rw [nd_ge h, Nat.pow_succ]; omega

theorem nd_le (u : Nat) (hu : 0 < u) : 10 ^ (nd u - 1) ≤ u := by
  induction u using nd.induct with
  | case1 u h => rw [nd_lt h]; simp; omega
  | case2 u h ih =>
    have h1 := ih (by omega)
    have h2 := nd_pos (u / 10)
    rw [nd_ge h, show nd (u / 10) + 1 - 1 = (nd (u / 10) - 1) + 1 by omega, Nat.pow_succ]; omega

theorem nd_eq {u k : Nat} (hk : 1 ≤ k) (h1 : 10 ^ (k - 1) ≤ u) (h2 : u < 10 ^ k) : nd u = k := by
  have hu : 0 < u := Nat.lt_of_lt_of_le (Nat.pow_pos (by omega)) h1
  have h3 := lt_nd u
  have h4 := nd_le u hu
  have h5 := nd_pos u
  have a : k - 1 < nd u := (Nat.pow_lt_pow_iff_right (by omega)).1 (Nat.lt_of_le_of_lt h1 h3)
  have b : nd u - 1 < k := (Nat.pow_lt_pow_iff_right (by omega)).1 (Nat.lt_of_le_of_lt h4 h2)
  omega

theorem fixd_add : ∀ (j k u : Nat), fixd (k + j) u = fixd k (u / 10 ^ j) ++ fixd j u
  | 0, k, u => by simp [fixd]
  | j + 1, k, u => by
    show fixd ((k + j) + 1) u = _
    simp only [fixd]
    rw [fixd_add j k (u / 10), Nat.div_div_eq_div_mul, show 10 * 10 ^ j = 10 ^ (j + 1) by rw [Nat.pow_succ]; omega, List.append_assoc]

theorem fixd_get : ∀ (k u i : Nat), i < k → (fixd k u)[i]? = some (UInt8.ofNat (48 + u / 10 ^ (k - 1 - i) % 10))
  | 0, _, _, h => absurd h (by omega)
  | k + 1, u, i, h => by
    simp only [fixd]
    by_cases hi : i < k
    · rw [List.getElem?_append_left (by rw [fixd_len]; exact hi), fixd_get k (u / 10) i hi, Nat.div_div_eq_div_mul, show 10 * 10 ^ (k - 1 - i) = 10 ^ (k + 1 - 1 - i) by rw [show k + 1 - 1 - i = (k - 1 - i) + 1 by omega, Nat.pow_succ]; omega]
    · obtain rfl : i = k := by omega
      rw [List.getElem?_append_right (by rw [fixd_len]; omega), fixd_len]
      simp

def IsLen (u l : Nat) : Prop := 2 ^ (l - 1) ≤ u ∧ u < 2 ^ l ∧ 1 ≤ l

theorem len_dig : ∀ l : Fin 64, 2 ^ (l.val + 1) ≤ 10 ^ ((l.val + 1) * 78913 / 262144 + 1) ∧ ((l.val + 1) * 78913 / 262144 = 0 ∨ 10 ^ ((l.val + 1) * 78913 / 262144 - 1) ≤ 2 ^ l.val) ∧ (l.val + 1) * 78913 / 262144 ≤ 19 := by
  decide

theorem nd_len {u l : Nat} (h : IsLen u l) (hl : l ≤ 64) : nd u = l * 78913 / 262144 + (if 10 ^ (l * 78913 / 262144) ≤ u then 1 else 0) := by
  obtain ⟨h1, h2, h3⟩ := h
  have a := len_dig ⟨l - 1, by omega⟩
  simp only [show l - 1 + 1 = l by omega] at a
  obtain ⟨a1, a2, a3⟩ := a
  split
  · rename_i hc
    exact nd_eq (by omega) (by simpa using hc) (by omega)
  · rename_i hc
    have a4 : l * 78913 / 262144 ≠ 0 := by
      intro e
      rw [e] at hc
      have : 0 < 2 ^ (l - 1) := Nat.pow_pos (by omega)
      omega
    rw [Nat.add_zero]
    exact nd_eq (by omega) (by rcases a2 with a2 | a2; exact absurd a2 a4; omega) (by omega)

end Go.Vi
