/- A law's arguments, with the bytes that each slice takes. No condition. -/
import Derived.Test.YtdmoecehmclohaaGreatDoorSlViGlob
import Derived.SizedLaws
import Derived.Test.YtdmoecehmclohaaGreatDoorSlViNode
namespace Go.Vi
open Go.RowKit Go.ChangeShapes Go.WideShapes Go.Deep
set_option linter.unusedSimpArgs false
set_option linter.unusedVariables false
def TypB (P : Program) (B : Nat) (m : AMem) : Nat → TypeId → List AV → Prop
  | 0, _, _ => False
  | n + 1, t, cs => match P.underlying t with
    | some .bool => ∃ b, cs = [.b b]
    | some (.int k) => ∃ x, cs = [.i k x] ∧ (Lit.int k x).wf = true
    | some .string => ∃ s : ByteArray, cs = [.s s] ∧ s.size ≤ maxLen
    | some (.slice e) => cs = [.sl none 0 0 true] ∨ cs = [.es] ∨ ∃ j len cap c, cs = [.sl (some (j, 0)) len cap true] ∧ len ≤ cap ∧ 0 < cap ∧ cap ≤ maxLen ∧ cap * P.bytesOf e ≤ B ∧ j < m.next ∧ m.get j = some (.cells c false ⟨1, none⟩) ∧ cap * P.cellsOf e ≤ c.length ∧ ∀ i, i < cap → TypB P B m n e ((c.drop (i * P.cellsOf e)).take (P.cellsOf e))
    | some (.struct fs) => cs.length = P.cellsOf t ∧ ∀ f ∈ fs.toList, TypB P B m n f.type ((cs.drop f.offset).take (P.cellsOf f.type))
    | _ => False
theorem mem_weightsAll {H : Type} {P : Program} {e : TypeId} : ∀ {l : List (DataW H)} {d : DataW H}, d ∈ l → ∀ n ∈ d.weights P e, n ∈ DataW.weightsAll P e l
  | a :: l, d, h, n, hn => by
    simp only [DataW.weightsAll, List.mem_append]
    rcases List.mem_cons.1 h with rfl | h
    · exact .inl hn
    · exact .inr (mem_weightsAll h n hn)
theorem slice_weights {H : Type} {P : Program} {t e : TypeId} (hu : P.underlying t = some (.slice e)) {len m B : Nat} (hl : len ≤ m) {D : Nat → DataW H} {pl : List MemPlace}
    (hw : ∀ n ∈ (DataW.slice ((List.range len).map D) ((List.range (m - len)).map fun j => D (len + j)), pl).1.weights P t, n ≤ B) : m * P.bytesOf e ≤ B ∧ ∀ i, i < m → ∀ n ∈ (D i).weights P e, n ≤ B := by
  simp only [DataW.weights, hu, List.length_map, List.length_range, List.mem_cons, List.mem_append] at hw
  refine ⟨?_, fun i hi n hn => hw n (.inr ?_)⟩
  · have := hw _ (.inl rfl)
    rwa [show len + (m - len) = m by omega] at this
  · by_cases h : i < len
    · exact .inl (mem_weightsAll (List.mem_map.2 ⟨i, List.mem_range.2 h, rfl⟩) n hn)
    · exact .inr (mem_weightsAll (List.mem_map.2 ⟨i - len, List.mem_range.2 (by omega), by rw [show len + (i - len) = i by omega]⟩) n hn)
section
variable {Hh : Type} {enc : TypeId × Value → Hh} {P : Program} {W : World} {G S : Nat}
theorem typB_of_trod {B : Nat} (hS : ∀ (b : Nat) (arr : Array Value) (e : TypeId) (fz : Nat × Nat), W.heap[b]? = some (.cells arr e fz) → arr.size < S) : ∀ (d : Nat) (t : TypeId), plainT P d t = true → ∀ {fuel : Nat} {cs : List Value} {x : DataW Hh × List MemPlace}, DataW.trod enc P W 0 (fun _ => true) true fuel t cs = some x → (∀ n ∈ x.1.weights P t, n ≤ B) →
    (∀ v ∈ cs, ∃ a, absV G W.heap.size S v = some a) ∧ TypB P B (startM W G W.heap.size S) d t (cs.map (absD G W.heap.size S))
  | 0, t, hp, _, _, _, _, _ => by simp [plainT] at hp
  | d + 1, t, hp, fuel, cs, x, h, hw => by
    simp only [plainT] at hp
    split at hp
    · rename_i hu
      obtain ⟨b, rfl, _⟩ := DataW.trod_bool hu h
      refine ⟨by simp [absV], ?_⟩
      simp only [TypB, hu]
      exact ⟨b, rfl⟩
    · rename_i k hu
      obtain ⟨n, rfl, _, hw0⟩ := DataW.trod_int hu h
      refine ⟨by simp [absV], ?_⟩
      simp only [TypB, hu]
      exact ⟨n, rfl, hw0⟩
    · rename_i hu
      obtain ⟨s, rfl, _, hw0⟩ := DataW.trod_string hu h
      refine ⟨by simp [absV], ?_⟩
      simp only [TypB, hu]
      exact ⟨s, rfl, hw0⟩
    · rename_i e hu
      simp only [Bool.and_eq_true, decide_eq_true_eq] at hp
      obtain ⟨hpos, hpe⟩ := hp
      rcases open_slice hu h with ⟨rfl, _⟩ | ⟨a, len, cap, m, n, D, Pl, rfl, _, hl, hm, hmm, rfl, hx⟩
      · refine ⟨by simp [absV], ?_⟩
        simp only [TypB, hu]
        exact .inl rfl
      · simp only [if_true] at hmm
        subst hmm
        have hwD := slice_weights hu hl hw
        obtain ⟨b, o, sp⟩ := a
        by_cases hc0 : m = 0
        · subst hc0
          obtain rfl : len = 0 := by omega
          refine ⟨by simp [absV], ?_⟩
          simp only [TypB, hu]
          exact .inr (.inl (by simp [absD, absV]))
        · have hall : ∀ i, i < m * P.cellsOf e → ∃ v, W.cell? ((⟨b, o, sp⟩ : Addr).add i) = some v ∧ ∃ a, absV G W.heap.size S v = some a := by
            intro i hi
            obtain ⟨cs', h1, h2⟩ := hx (i / P.cellsOf e) (by rw [Nat.div_lt_iff_lt_mul hpos]; exact hi)
            obtain ⟨_, hlen, hget⟩ := World.cells?_some h1
            have hmod := Nat.mod_lt i hpos
            have := hget (i % P.cellsOf e) hmod
            rw [add_add, Nat.div_add_mod'] at this
            rw [List.getElem?_eq_getElem (by omega)] at this
            exact ⟨_, this, (typB_of_trod hS d e hpe h2 (hwD.2 _ (by rw [Nat.div_lt_iff_lt_mul hpos]; exact hi))).1 _ (List.getElem_mem _)⟩
          have hpos2 : 0 < m * P.cellsOf e := Nat.mul_pos (by omega) hpos
          have hc0' := hall 0 hpos2
          obtain rfl : sp = none := by
            cases sp with
            | none => rfl
            | some s =>
              exfalso
              obtain ⟨v, hv, _⟩ := hc0'
              rw [show (⟨b, o, some s⟩ : Addr).add 0 = ⟨b, o, some s⟩ from rfl] at hv
              unfold World.cell? at hv
              split at hv <;> simp at hv
          have hadd : ∀ i, (⟨b, o, none⟩ : Addr).add i = ⟨b, o + i, none⟩ := fun i => by
            unfold Addr.add
            split
            · rename_i h0; subst h0; rfl
            · rfl
          have hb : ∃ arr e fz, W.heap[b]? = some (.cells arr e fz) := by
            obtain ⟨v, hv, _⟩ := hc0'
            rw [hadd] at hv
            unfold World.cell? at hv
            split at hv
            · rename_i arr e fz hh; exact ⟨arr, e, fz, hh⟩
            · simp at hv
          obtain ⟨arr, te, fz, hh⟩ := hb
          have hcell : ∀ i, i < m * P.cellsOf e → ∃ v a, (arr.toList.drop o)[i]? = some v ∧ absV G W.heap.size S v = some a := fun i hi => by
            obtain ⟨v, hv, a, ha⟩ := hall i hi
            rw [hadd] at hv
            simp only [World.cell?, hh] at hv
            exact ⟨v, a, by rw [List.getElem?_drop]; simpa using hv, ha⟩
          obtain ⟨w1, w2⟩ := win_get hcell
          have hsz : o + m * P.cellsOf e ≤ arr.size := by
            have := Nat.le_trans w1 (win_le _ _)
            simp only [List.length_drop, Array.length_toList] at this
            omega
          have hblk : b < W.heap.size := (Array.getElem?_eq_some_iff.1 hh).1
          have hoS : o < S := by have := hS _ _ _ _ hh; omega
          have hav : absV G W.heap.size S (.slice (some ⟨b, o, none⟩) len m) = some (.sl (some (G + b * S + o, 0)) len m true) := by
            simp only [absV]
            rw [if_neg (by omega), if_pos ⟨hblk, hoS, trivial⟩]
          refine ⟨fun v hv => ?_, ?_⟩
          · simp only [List.mem_singleton] at hv; subst hv
            exact ⟨_, hav⟩
          · simp only [TypB, hu]
            refine .inr (.inr ⟨G + b * S + o, len, m, _, by simp only [List.map_cons, List.map_nil, absD, hav, Option.getD_some], hl, by omega, hm, hwD.1, by rw [startM_next]; exact num_lt hblk hoS, startM_get hblk hoS hh (by omega), w1, fun i hi => ?_⟩)
            obtain ⟨cs', h1, h2⟩ := hx i hi
            obtain ⟨hcv, ht⟩ := typB_of_trod hS d e hpe h2 (hwD.2 _ hi)
            obtain ⟨_, hlen, hget⟩ := World.cells?_some h1
            have hmul : i * P.cellsOf e + P.cellsOf e ≤ m * P.cellsOf e := by
              have : (i + 1) * P.cellsOf e ≤ m * P.cellsOf e := Nat.mul_le_mul_right _ hi
              rwa [Nat.add_mul, Nat.one_mul] at this
            have heq : ((win (absV G W.heap.size S) (arr.toList.drop o)).drop (i * P.cellsOf e)).take (P.cellsOf e) = cs'.map (absD G W.heap.size S) := by
              refine List.ext_getElem? fun k => ?_
              rw [List.getElem?_take, List.getElem?_drop, List.getElem?_map]
              by_cases hk : k < P.cellsOf e
              · rw [if_pos hk]
                have hg := hget k hk
                rw [add_add, hadd] at hg
                simp only [World.cell?, hh] at hg
                have hv : cs'[k]? = some cs'[k] := List.getElem?_eq_getElem (by omega)
                rw [hv] at hg
                have hg' : (arr.toList.drop o)[i * P.cellsOf e + k]? = some cs'[k] := by rw [List.getElem?_drop]; simpa [Nat.add_assoc] using hg
                rw [w2 _ _ (by omega) hg', hv]
                obtain ⟨a, ha⟩ := hcv _ (List.getElem_mem (by omega : k < cs'.length))
                simp only [Option.map_some, absD, ha, Option.getD_some]
              · rw [if_neg hk, List.getElem?_eq_none (by omega)]; rfl
            rw [heq]; exact ht
    · rename_i fs hu
      simp only [Bool.and_eq_true, decide_eq_true_eq, List.all_eq_true] at hp
      obtain ⟨hcov, hpf⟩ := hp
      obtain ⟨xs, n, _, rfl, hlen, hxs, hf⟩ := DataW.trod_struct hu h
      have each : ∀ f ∈ fs.toList, (∀ v ∈ (cs.drop f.offset).take (P.cellsOf f.type), ∃ a, absV G W.heap.size S v = some a) ∧ TypB P B (startM W G W.heap.size S) d f.type (((cs.drop f.offset).take (P.cellsOf f.type)).map (absD G W.heap.size S)) := by
        intro f hfm
        obtain ⟨i, hi⟩ := List.getElem?_of_mem hfm
        have hi' : fs[i]? = some f := by simpa using hi
        have hlt := (Array.getElem?_eq_some_iff.1 hi').1
        have h1 := hf i f hi'
        rw [List.getElem?_eq_getElem (by omega)] at h1
        refine typB_of_trod hS d f.type (hpf f hfm) h1 (fun q hq => hw q ?_)
        simp only [DataW.weights, hu]
        exact DataW.weights_mem_each (j := i) (by rw [List.getElem?_map]; simp [hi']) (by rw [List.getElem?_map, List.getElem?_eq_getElem (by omega)]; rfl) q hq
      refine ⟨fun v hv => ?_, ?_⟩
      · obtain ⟨i, hi⟩ := List.getElem?_of_mem hv
        have hil : i < P.cellsOf t := by rw [← hlen]; exact (List.getElem?_eq_some_iff.1 hi).1
        obtain ⟨f, hfm, h1, h2⟩ := cover_spec _ _ _ hcov i (Nat.zero_le _) hil
        refine (each f hfm).1 v ?_
        refine List.mem_of_getElem? (i := i - f.offset) ?_
        rw [List.getElem?_take, if_pos (by omega), List.getElem?_drop, show f.offset + (i - f.offset) = i by omega]
        exact hi
      · simp only [TypB, hu]
        refine ⟨by simpa using hlen, fun f hfm => ?_⟩
        have := (each f hfm).2
        rwa [List.map_take, List.map_drop] at this
    · simp at hp
theorem args_startB {B : Nat} {ts : List TypeId} (d : Nat) (hp : ts.all (plainT P d) = true) {vs : List Value} {ds : List (DataW Hh)} {p : List MemPlace} (h : DataW.TrodAll enc P W 0 (fun _ => true) true ts vs ds p)
    (hw : ∀ n ∈ DataW.weightsEach P ts ds, n ≤ B) (hok : ∀ (j : Nat) t v, ts[j]? = some t → vs[j]? = some v → ∃ b0, Value.okWide P W .any b0 t v) :
    ∃ (m : AMem) (ρ : Rho) (avs : List AV), Rep (envOf P G W) ρ m W ∧ VRL ρ avs vs ∧ avs.length = vs.length ∧ G ≤ m.next ∧ m.ds = [] ∧ m.ro = none ∧
      (∀ (g : Nat) (arr : Array Value) (e : TypeId) (fz : Nat × Nat), g < G → W.heap[g]? = some (.cells arr e fz) → ∀ (k : IntKind) (ns : List Int), arr.toList = ns.map (.int k ·) → m.get g = some (.cells (ns.map (.i k ·)) false ⟨1, none⟩)) ∧
      ∀ (j : Nat) t a, ts[j]? = some t → avs[j]? = some a → TypB P B m d t a.cells ∧ ((∃ fs, P.underlying t = some (.struct fs)) → ∃ l, a = .agg l) ∧ ((¬ ∃ fs, P.underlying t = some (.struct fs)) → a.one = true) := by
  obtain ⟨S, hS⟩ := rows_bound W
  have hds : (startM W G W.heap.size S).ds = [] ∧ (startM W G W.heap.size S).ro = none := by
    unfold startM
    generalize startL W G W.heap.size S ++ globL W G W.heap.size S = l
    induction l with
    | nil => exact ⟨rfl, rfl⟩
    | cons q l ih => exact ih
  refine ⟨startM W G W.heap.size S, rho0 G (tgS G W.heap.size S), vs.map (argA G W.heap.size S), startM_rep P W G S, ?_, by simp, by rw [startM_next]; omega, hds.1, hds.2, fun g arr e fz hg hw k ns hn => ?_, ?_⟩
  · induction ts generalizing vs ds p with
    | nil =>
      cases vs with
      | nil => simp [VRL]
      | cons v vs => cases ds <;> simp [DataW.TrodAll] at h
    | cons t ts ih =>
      obtain ⟨v, vs', d0, ds', p0, p', rfl, rfl, rfl, ⟨fuel, h0⟩, h1⟩ := trodAll_cons h
      simp only [List.all_cons, Bool.and_eq_true] at hp
      refine ⟨v, vs', rfl, argA_sound v (typB_of_trod hS d t hp.1 h0 (fun n hn => hw n (by simp only [DataW.weightsEach, List.mem_append]; exact .inl hn))).1, ?_⟩
      exact ih hp.2 h1 (fun n hn => hw n (by simp only [DataW.weightsEach, List.mem_append]; exact .inr hn)) fun j t v hj hv => hok (j + 1) t v (by simpa using hj) (by simpa using hv)
  · rw [startM_glob hg (Array.getElem?_eq_some_iff.1 hw).1 hw, hn]
    congr 2
    clear hn
    induction ns with
    | nil => rfl
    | cons n ns ih => simp only [List.map_cons, win, absV, ih]
  · induction ts generalizing vs ds p with
    | nil => intro j t a hj; simp at hj
    | cons t ts ih =>
      obtain ⟨v, vs', d0, ds', p0, p', rfl, rfl, rfl, ⟨fuel, h0⟩, h1⟩ := trodAll_cons h
      simp only [List.all_cons, Bool.and_eq_true] at hp
      intro j t' a hj ha
      cases j with
      | zero =>
        simp only [List.getElem?_cons_zero, Option.some.injEq] at hj; subst hj
        simp only [List.map_cons, List.getElem?_cons_zero, Option.some.injEq] at ha; subst ha
        obtain ⟨hcv, ht⟩ := typB_of_trod (G := G) hS d t hp.1 h0 (fun n hn => hw n (by simp only [DataW.weightsEach, List.mem_append]; exact .inl hn))
        obtain ⟨b0, hv0⟩ := hok 0 t v rfl rfl
        by_cases hag : ∃ cs, v = .agg cs
        · obtain ⟨cs, rfl⟩ := hag
          refine ⟨ht, fun _ => ⟨_, rfl⟩, fun hns => ?_⟩
          exfalso
          have hpt := hp.1
          cases d with
          | zero => simp [plainT] at hpt
          | succ d =>
            simp only [plainT] at hpt
            split at hpt
            · rename_i hu; obtain ⟨_, h⟩ := okWide_bool hu hv0; cases h
            · rename_i hu; obtain ⟨_, h⟩ := okWide_int hu hv0; cases h
            · rename_i hu; obtain ⟨_, h⟩ := okWide_string hu hv0; cases h
            · rename_i hu; obtain ⟨_, _, _, h⟩ := okWide_slice hu hv0; cases h
            · rename_i fs hu; exact hns ⟨fs, hu⟩
            · simp at hpt
        · have e : v.cells.toList = [v] := by cases v <;> first | rfl | exact absurd ⟨_, rfl⟩ hag
          have e2 : argA G W.heap.size S v = absD G W.heap.size S v := by cases v <;> first | rfl | exact absurd ⟨_, rfl⟩ hag
          obtain ⟨a, ha⟩ := hcv v (by rw [e]; simp)
          have e3 : absD G W.heap.size S v = a := by simp only [absD, ha, Option.getD_some]
          rw [e] at ht
          rw [e2, e3]
          have ho := absV_one v a ha
          refine ⟨?_, fun ⟨fs, hu⟩ => ?_, fun _ => ho⟩
          · have : a.cells = [a] := by cases a <;> first | rfl | (simp [AV.one] at ho)
            rw [this]
            simpa [e3] using ht
          · obtain ⟨cs, h, _⟩ := okWide_struct hu hv0
            exact absurd ⟨cs, h⟩ hag
      | succ j =>
        exact ih hp.2 h1 (fun n hn => hw n (by simp only [DataW.weightsEach, List.mem_append]; exact .inr hn)) (fun j t v hj hv => hok (j + 1) t v (by simpa using hj) (by simpa using hv)) j t' a (by simpa using hj) (by simpa using ha)
end
end Go.Vi
namespace Go.Vi
open Go.RowKit
set_option linter.unusedSimpArgs false
set_option linter.unusedVariables false
section
variable {P : Program} {B : Nat} {m : AMem}
theorem TypB.int {d : Nat} {t : TypeId} {k : IntKind} {cs : List AV} (hu : P.underlying t = some (.int k)) (h : TypB P B m (d + 1) t cs) : ∃ x, cs = [.i k x] ∧ (Lit.int k x).wf = true := by
  simp only [TypB, hu] at h; exact h
theorem TypB.str {d : Nat} {t : TypeId} {cs : List AV} (hu : P.underlying t = some .string) (h : TypB P B m (d + 1) t cs) : ∃ s : ByteArray, cs = [.s s] ∧ s.size ≤ maxLen := by
  simp only [TypB, hu] at h; exact h
theorem TypB.strct {d : Nat} {t : TypeId} {fs : Array Field} {cs : List AV} (hu : P.underlying t = some (.struct fs)) (h : TypB P B m (d + 1) t cs) : cs.length = P.cellsOf t ∧ ∀ f ∈ fs.toList, TypB P B m d f.type ((cs.drop f.offset).take (P.cellsOf f.type)) := by
  simp only [TypB, hu] at h; exact h
theorem list_of {α : Type} (f : α → List AV) (R : α → Prop) {k : Nat} : ∀ (n : Nat) (c : List AV), (∀ i, i < n → ∃ x, (c.drop (i * k)).take k = f x ∧ R x) → ∃ L : List α, L.length = n ∧ c.take (n * k) = L.flatMap f ∧ ∀ x ∈ L, R x
  | 0, c, _ => ⟨[], rfl, by simp, by simp⟩
  | n + 1, c, h => by
    obtain ⟨L, h1, h2, h3⟩ := list_of f R n c fun i hi => h i (by omega)
    obtain ⟨x, h4, h5⟩ := h n (by omega)
    refine ⟨L ++ [x], by simp [h1], ?_, fun y hy => ?_⟩
    · rw [Nat.add_mul, Nat.one_mul, List.take_add, h2, h4]; simp
    · rcases List.mem_append.1 hy with hy | hy
      · exact h3 y hy
      · simp at hy; exact hy ▸ h5
theorem TypB.slice {α : Type} (f : α → List AV) (R : α → Prop) {d k : Nat} {t e : TypeId} (hu : P.underlying t = some (.slice e)) (hk : P.cellsOf e = k) (hel : ∀ cs, TypB P B m d e cs → ∃ x, cs = f x ∧ R x) {cs : List AV} (h : TypB P B m (d + 1) t cs) :
    ∃ (a : AV) (L : List α), cs = [a] ∧ a.one = true ∧ Arr m k a L.length (L.flatMap f) ∧ (∀ x ∈ L, R x) ∧ L.length * P.bytesOf e ≤ B := by
  simp only [TypB, hu] at h
  rcases h with rfl | rfl | ⟨j, len, cap, c, rfl, h1, h2, h3, h4, h5, h6, h7, h8⟩
  · exact ⟨_, [], rfl, rfl, Arr.nil m k, by simp, by simp⟩
  · exact ⟨_, [], rfl, rfl, ⟨by simp, .inl ⟨rfl, .inl rfl⟩⟩, by simp, by simp⟩
  · rw [hk] at h7 h8
    obtain ⟨L, g1, g2, g3⟩ := list_of f R (k := k) len c fun i hi => by
      obtain ⟨x, hx, hr⟩ := hel _ (h8 i (by omega))
      exact ⟨x, hx, hr⟩
    have hm : len * k ≤ cap * k := Nat.mul_le_mul_right _ h1
    have hb : len * P.bytesOf e ≤ cap * P.bytesOf e := Nat.mul_le_mul_right _ h1
    refine ⟨_, L, rfl, rfl, ⟨?_, .inr ⟨j, 0, cap, true, c, false, _, by rw [g1], by omega, h5, h6, by rw [g1]; omega, by rw [g1, List.drop_zero, g2]⟩⟩, g3, by rw [g1]; omega⟩
    rw [← g2, List.length_take, g1]; omega
structure Fld (P : Program) (f : Field) (o : Nat) (u : TypeDesc) : Prop where
  off : f.offset = o
  cells : P.cellsOf f.type = 1
  und : P.underlying f.type = some u
theorem flat_one {α : Type} (g : α → AV) : ∀ L : List α, (L.flatMap fun x => [g x]) = L.map g
  | [] => rfl
  | a :: L => by rw [List.flatMap_cons, List.map_cons, flat_one g L]; rfl
theorem u8_of {x : Int} (h : (Lit.int .u8 x).wf = true) : ∃ y : UInt8, x = (y.toNat : Int) := by
  simp only [Lit.wf, IntKind.min, IntKind.max, IntKind.signed, IntKind.bits, Bool.and_eq_true, decide_eq_true_eq] at h
  simp at h
  refine ⟨UInt8.ofNat x.toNat, ?_⟩
  rw [UInt8.toNat_ofNat']
  omega
theorem TypB.bytes {d : Nat} {t e : TypeId} (hu : P.underlying t = some (.slice e)) (he : P.underlying e = some (.int .u8)) (hk : P.cellsOf e = 1) {cs : List AV} (h : TypB P B m (d + 2) t cs) : ∃ (a : AV) (l : List UInt8), cs = [a] ∧ Arr m 1 a l.length (cellsOfBytes l) := by
  obtain ⟨a, L, h1, _, h2, _, _⟩ := TypB.slice (fun y : UInt8 => [.i .u8 (y.toNat : Int)]) (fun _ => True) hu hk (fun cs hc => by
    obtain ⟨x, rfl, hw⟩ := hc.int he
    obtain ⟨y, rfl⟩ := u8_of hw
    exact ⟨y, rfl, trivial⟩) h
  exact ⟨a, L, h1, by rw [flat_one] at h2; exact h2⟩
theorem TypB.ints {d : Nat} {t e : TypeId} (hu : P.underlying t = some (.slice e)) (he : P.underlying e = some (.int .i64)) (hk : P.cellsOf e = 1) {cs : List AV} (h : TypB P B m (d + 2) t cs) : ∃ (a : AV) (l : List Int), cs = [a] ∧ a.one = true ∧ Arr m 1 a l.length (ints l) ∧ l.length * P.bytesOf e ≤ B := by
  obtain ⟨a, L, h1, h0, h2, _, h3⟩ := TypB.slice (fun x : Int => [.i .i64 x]) (fun _ => True) hu hk (fun cs hc => by
    obtain ⟨x, rfl, _⟩ := hc.int he
    exact ⟨x, rfl, trivial⟩) h
  exact ⟨a, L, h1, h0, by rw [flat_one] at h2; exact h2, h3⟩
theorem TypB.strs {d : Nat} {t e : TypeId} (hu : P.underlying t = some (.slice e)) (he : P.underlying e = some .string) (hk : P.cellsOf e = 1) {cs : List AV} (h : TypB P B m (d + 2) t cs) : ∃ (a : AV) (l : List (List UInt8)), cs = [a] ∧ a.one = true ∧ Arr m 1 a l.length (l.map fun x => .s ⟨x.toArray⟩) ∧ l.length * P.bytesOf e ≤ B := by
  obtain ⟨a, L, h1, h0, h2, _, h3⟩ := TypB.slice (fun x : List UInt8 => [.s ⟨x.toArray⟩]) (fun _ => True) hu hk (fun cs hc => by
    obtain ⟨x, rfl, _⟩ := hc.str he
    exact ⟨x.data.toList, rfl, trivial⟩) h
  exact ⟨a, L, h1, h0, by rw [flat_one] at h2; exact h2, h3⟩
theorem TypB.pairs {d : Nat} {t e : TypeId} {fs : Array Field} {f0 f1 : Field} (hu : P.underlying t = some (.slice e)) (he : P.underlying e = some (.struct fs)) (hfs : fs.toList = [f0, f1]) (g0 : Fld P f0 0 (.int .i64)) (g1 : Fld P f1 1 (.int .i64)) (hk : P.cellsOf e = 2) {cs : List AV} (h : TypB P B m (d + 3) t cs) :
    ∃ (a : AV) (l : List (Int × Int)), cs = [a] ∧ a.one = true ∧ Arr m 2 a l.length (flat2 l) ∧ l.length * P.bytesOf e ≤ B := by
  obtain ⟨a, L, h1, h0, h2, _, h3⟩ := TypB.slice (fun p : Int × Int => [.i .i64 p.1, .i .i64 p.2]) (fun _ => True) hu hk (fun cs hc => by
    obtain ⟨hl, hf⟩ := hc.strct he
    rw [hk] at hl
    match cs, hl with
    | [x, y], _ =>
      have k0 := hf f0 (by simp [hfs])
      have k1 := hf f1 (by simp [hfs])
      rw [g0.off, g0.cells] at k0
      rw [g1.off, g1.cells] at k1
      obtain ⟨u, e0, _⟩ := k0.int g0.und
      obtain ⟨v, e1, _⟩ := k1.int g1.und
      simp at e0 e1
      exact ⟨(u, v), by simp [e0, e1], trivial⟩) h
  exact ⟨a, L, h1, h0, h2, h3⟩
structure NodeT (P : Program) (tn tl tg ti tr : TypeId) : Prop where
  lst : P.underlying tl = some (.slice tn)
  cells : P.cellsOf tn = 10
  flds : ∃ (fs : Array Field) (f0 f1 f2 f3 f4 f5 f6 f7 f8 f9 : Field), P.underlying tn = some (.struct fs) ∧ fs.toList = [f0, f1, f2, f3, f4, f5, f6, f7, f8, f9] ∧
    Fld P f0 0 (.int .i64) ∧ Fld P f1 1 (.int .i64) ∧ Fld P f2 2 (.int .i64) ∧ Fld P f3 3 (.int .i64) ∧ Fld P f4 4 (.int .i64) ∧ Fld P f5 5 (.int .i64) ∧ Fld P f6 6 (.int .i64) ∧ Fld P f7 7 .string ∧ Fld P f8 8 (.slice tg) ∧ Fld P f9 9 (.slice ti)
  rng : ∃ (fs : Array Field) (f0 f1 : Field), P.underlying tg = some (.struct fs) ∧ fs.toList = [f0, f1] ∧ Fld P f0 0 (.int .i64) ∧ Fld P f1 1 (.int .i64)
  rcells : P.cellsOf tg = 2
  rbytes : P.bytesOf tg = 16
  num : P.underlying ti = some (.int .i64)
  ncells : P.cellsOf ti = 1
  nbytes : P.bytesOf ti = 8
theorem TypB.nodes {tn tl tg ti tr : TypeId} (p : NodeT P tn tl tg ti tr) (hB : B ≤ 140737488355328) {d : Nat} {cs : List AV} (h : TypB P B m (d + 5) tl cs) :
    ∃ (a : AV) (D : List Nf), cs = [a] ∧ a.one = true ∧ Arr m 10 a D.length (flatF D) ∧ ∀ x ∈ D, x.ok m := by
  obtain ⟨fs, f0, f1, f2, f3, f4, f5, f6, f7, f8, f9, hu, hfs, g0, g1, g2, g3, g4, g5, g6, g7, g8, g9⟩ := p.flds
  obtain ⟨rs, r0, r1, hru, hrs, q0, q1⟩ := p.rng
  obtain ⟨a, L, h1, h0, h2, h3, _⟩ := TypB.slice Nf.cells (fun x => x.ok m) p.lst p.cells (fun cs hc => by
    obtain ⟨hl, hf⟩ := hc.strct hu
    rw [p.cells] at hl
    match cs, hl with
    | [a0, a1, a2, a3, a4, a5, a6, a7, a8, a9], _ =>
      have k0 := hf f0 (by simp [hfs])
      have k1 := hf f1 (by simp [hfs])
      have k2 := hf f2 (by simp [hfs])
      have k3 := hf f3 (by simp [hfs])
      have k4 := hf f4 (by simp [hfs])
      have k5 := hf f5 (by simp [hfs])
      have k6 := hf f6 (by simp [hfs])
      have k7 := hf f7 (by simp [hfs])
      have k8 := hf f8 (by simp [hfs])
      have k9 := hf f9 (by simp [hfs])
      rw [g0.off, g0.cells] at k0
      rw [g1.off, g1.cells] at k1
      rw [g2.off, g2.cells] at k2
      rw [g3.off, g3.cells] at k3
      rw [g4.off, g4.cells] at k4
      rw [g5.off, g5.cells] at k5
      rw [g6.off, g6.cells] at k6
      rw [g7.off, g7.cells] at k7
      rw [g8.off, g8.cells] at k8
      rw [g9.off, g9.cells] at k9
      obtain ⟨x0, e0, _⟩ := k0.int g0.und
      obtain ⟨x1, e1, _⟩ := k1.int g1.und
      obtain ⟨x2, e2, _⟩ := k2.int g2.und
      obtain ⟨x3, e3, w3⟩ := k3.int g3.und
      obtain ⟨x4, e4, _⟩ := k4.int g4.und
      obtain ⟨x5, e5, _⟩ := k5.int g5.und
      obtain ⟨x6, e6, _⟩ := k6.int g6.und
      obtain ⟨x7, e7, _⟩ := k7.str g7.und
      obtain ⟨x8, l8, e8, _, c8, b8⟩ := k8.pairs g8.und hru hrs q0 q1 p.rcells
      obtain ⟨x9, l9, e9, _, c9, b9⟩ := k9.ints g9.und p.num p.ncells
      rw [p.rbytes] at b8
      rw [p.nbytes] at b9
      simp at e0 e1 e2 e3 e4 e5 e6 e7 e8 e9
      subst e0 e1 e2 e3 e4 e5 e6 e7 e8 e9
      exact ⟨⟨x0, x1, x2, x3, x4, x5, x6, x7.data.toList, a8, a9, l8, l9⟩, rfl, inI64_wf w3, c8, c9, by simp only; omega, by simp only; omega⟩) h
  exact ⟨a, L, h1, h0, h2, h3⟩
end
end Go.Vi
