/- Arguments that are rows of numbers; structs of four cells. No condition. -/
import Derived.Test.YtjlckbphpmogjaaGreatDoorSpViStart
import Derived.Test.YtjlckbphpmogjaaGreatDoorSpViBld
namespace Go.Vi
open Go.RowKit
set_option linter.unusedSimpArgs false
set_option linter.unusedVariables false

theorem flatL_take {k : Nat} : ∀ (i : Nat) (M : List (List Int)), (∀ x ∈ M, x.length = k) → (flatL M).take (i * k) = flatL (M.take i)
  | 0, M, _ => by simp [flatL]
  | i + 1, [], _ => by simp [flatL]
  | i + 1, a :: M, hk => by
    have ha := hk a (List.mem_cons_self ..)
    have ih := flatL_take i M (fun x hx => hk x (List.mem_cons_of_mem _ hx))
    have e : flatL (a :: M) = a.map (.i .i64 ·) ++ flatL M := rfl
    have e2 : (i + 1) * k = (a.map fun x => AV.i .i64 x).length + i * k := by rw [List.length_map, ha, Nat.add_mul, Nat.one_mul, Nat.add_comm]
    rw [e, e2, List.take_length_add_append, ih]
    rfl

theorem arr_pairs {P : Program} {m : AMem} {t e : TypeId} {fs : Array Field} {f1 f2 : Field} {d : Nat} {a : AV} (ht : P.underlying t = some (.slice e)) (he : P.underlying e = some (.struct fs)) (hfs : fs.toList = [f1, f2]) (ho : f1.offset = 0 ∧ f2.offset = 1) (h1 : P.underlying f1.type = some (.int .i64)) (h2 : P.underlying f2.type = some (.int .i64)) (hc : P.cellsOf e = 2 ∧ P.cellsOf f1.type = 1 ∧ P.cellsOf f2.type = 1)
    (h : Typ P m (d + 3) t a.cells) (ha : a.one = true) : ∃ n L, Arr m 2 a n (flat2 L) ∧ L.length = n ∧ ∀ p ∈ L, InI64 p.1 ∧ InI64 p.2 := by
  rcases typ_pairs ht he hfs ho h1 h2 hc h ha with (rfl | rfl) | ⟨j, len, cap, c, L, rfl, q1, q2, q3, q4, q5, q6⟩
  · exact ⟨0, [], Arr.nil m 2, rfl, by simp⟩
  · exact ⟨0, [], ⟨rfl, .inl ⟨rfl, .inl rfl⟩⟩, rfl, by simp⟩
  · have hl : cap * 2 ≤ c.length := by
      have := congrArg List.length q5
      rw [flat2_len, List.length_take] at this
      omega
    have hm : len * 2 ≤ cap * 2 := Nat.mul_le_mul_right _ q1
    refine ⟨len, L.take len, ⟨?_, .inr ⟨j, 0, cap, true, c, false, _, rfl, q1, q2, q3, by omega, ?_⟩⟩, by rw [List.length_take]; omega, fun p hp => q6 p (List.mem_of_mem_take hp)⟩
    · rw [flat2_len, List.length_take]; omega
    · rw [List.drop_zero, ← flat2_take, ← q5, List.take_take, Nat.min_eq_left hm]

theorem arr_rows {P : Program} {m : AMem} {t e : TypeId} {fs : Array Field} {d k : Nat} {a : AV} (ht : P.underlying t = some (.slice e)) (he : P.underlying e = some (.struct fs)) (hcov : coverB P 0 fs.toList = some k) (hc : P.cellsOf e = k) (hf : ∀ f ∈ fs.toList, P.underlying f.type = some (.int .i64) ∧ P.cellsOf f.type = 1)
    (h : Typ P m (d + 3) t [a]) : ∃ n M, Arr m k a n (flatL M) ∧ M.length = n ∧ ∀ l ∈ M, l.length = k ∧ ∀ x ∈ l, InI64 x := by
  rcases typ_rows ht he hcov hc hf h with (rfl | rfl) | ⟨j, len, cap, c, M, rfl, q1, q2, q3, q4, q5, q6, q7⟩
  · exact ⟨0, [], ⟨by simp [flatL], .inl ⟨rfl, .inr rfl⟩⟩, rfl, by simp⟩
  · exact ⟨0, [], ⟨by simp [flatL], .inl ⟨rfl, .inl rfl⟩⟩, rfl, by simp⟩
  · have hm : len * k ≤ cap * k := Nat.mul_le_mul_right _ q1
    have hft := flatL_take (k := k) len M (fun x hx => (q7 x hx).1)
    refine ⟨len, M.take len, ⟨?_, .inr ⟨j, 0, cap, true, c, false, _, rfl, q1, q2, q3, by omega, ?_⟩⟩, by rw [List.length_take]; omega, fun l hl => q7 l (List.mem_of_mem_take hl)⟩
    · rw [← hft, ← q6, List.take_take, Nat.min_eq_left hm, List.length_take, Nat.min_eq_left (by omega)]
    · rw [List.drop_zero, ← hft, ← q6, List.take_take, Nat.min_eq_left hm]

theorem typ_one {P : Program} {m : AMem} {t e : TypeId} {d : Nat} {cs : List AV} (ht : P.underlying t = some (.slice e) ∨ ∃ k, P.underlying t = some (.int k)) (h : Typ P m (d + 1) t cs) : ∃ a, cs = [a] ∧ a.one = true := by
  rw [Typ] at h
  rcases ht with ht | ⟨k, ht⟩
  · simp only [ht] at h
    rcases h with h | h | ⟨j, len, cap, c, h, _⟩
    · exact ⟨_, h, rfl⟩
    · exact ⟨_, h, rfl⟩
    · exact ⟨_, h, rfl⟩
  · simp only [ht] at h
    obtain ⟨x, h, _⟩ := h
    exact ⟨_, h, rfl⟩

theorem typ_four {P : Program} {m : AMem} {t : TypeId} {fs : Array Field} {f0 f1 f2 f3 : Field} {d : Nat} {cs : List AV} (ht : P.underlying t = some (.struct fs)) (hfs : fs.toList = [f0, f1, f2, f3]) (ho : f0.offset = 0 ∧ f1.offset = 1 ∧ f2.offset = 2 ∧ f3.offset = 3) (hc : P.cellsOf t = 4 ∧ P.cellsOf f0.type = 1 ∧ P.cellsOf f1.type = 1 ∧ P.cellsOf f2.type = 1 ∧ P.cellsOf f3.type = 1)
    (h : Typ P m (d + 1) t cs) : ∃ a b c e, cs = [a, b, c, e] ∧ Typ P m d f0.type [a] ∧ Typ P m d f1.type [b] ∧ Typ P m d f2.type [c] ∧ Typ P m d f3.type [e] := by
  rw [Typ] at h
  simp only [ht, hc.1] at h
  obtain ⟨hl, h2⟩ := h
  match cs, hl with
  | [a, b, c, e], _ =>
    have k0 := h2 f0 (by rw [hfs]; simp)
    have k1 := h2 f1 (by rw [hfs]; simp)
    have k2 := h2 f2 (by rw [hfs]; simp)
    have k3 := h2 f3 (by rw [hfs]; simp)
    rw [ho.1, hc.2.1] at k0
    rw [ho.2.1, hc.2.2.1] at k1
    rw [ho.2.2.1, hc.2.2.2.1] at k2
    rw [ho.2.2.2, hc.2.2.2.2] at k3
    exact ⟨a, b, c, e, rfl, k0, k1, k2, k3⟩

end Go.Vi
