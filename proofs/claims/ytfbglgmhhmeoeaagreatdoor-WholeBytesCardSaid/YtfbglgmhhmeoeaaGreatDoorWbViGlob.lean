/- A law's arguments, of plain types, as the interpreter finds them: the world of the beginning as an abstract memory. No condition. -/
import Derived.Test.YtfbglgmhhmeoeaaGreatDoorWbViW3
import Derived.Deep.Slices
import Derived.WideShapes
import Derived.OpenShut
import Derived.MakeChecks
namespace Go.Vi
open Go.RowKit Go.ChangeShapes Go.WideShapes Go.Deep
set_option linter.unusedSimpArgs false
set_option linter.unusedVariables false
def absV (G H S : Nat) : Value → Option AV
  | .bool b => some (.b b)
  | .int k n => some (.i k n)
  | .string s => some (.s s)
  | .pointer none => some (.p none)
  | .pointer (some ⟨b, o, none⟩) => if b < H ∧ o < S then some (.p (some (G + b * S + o, 0))) else none
  | .slice none l c => some (.sl none l c true)
  | .slice (some ⟨b, o, sp⟩) l c => if l = 0 ∧ c = 0 then some .es else if b < H ∧ o < S ∧ sp = none then some (.sl (some (G + b * S + o, 0)) l c true) else none
  | .map none => some (.m none)
  | .nilFunc => some .nf
  | .nilIface => some .ni
  | _ => none
def tgS (G H S : Nat) : Nat → Option Tgt := fun j => if G ≤ j ∧ j < G + H * S then some ⟨(j - G) / S, (j - G) % S, 0⟩ else none
theorem num_lt {G H S b o : Nat} (hb : b < H) (ho : o < S) : G + b * S + o < G + H * S := by
  have : (b + 1) * S ≤ H * S := Nat.mul_le_mul_right S hb
  rw [Nat.add_mul, Nat.one_mul] at this
  omega
theorem rhoS_at {G H S b o : Nat} (hb : b < H) (ho : o < S) : rho0 G (tgS G H S) (G + b * S + o) = some ⟨b, o, 0⟩ := by
  have h1 := num_lt (G := G) hb ho
  have e : G + b * S + o - G = b * S + o := by omega
  simp only [rho0, tgS]
  rw [if_neg (by omega), if_pos ⟨by omega, h1⟩, e, Nat.mul_comm b S, Nat.mul_add_div (by omega), Nat.mul_add_mod, Nat.div_eq_of_lt ho, Nat.mod_eq_of_lt ho, Nat.add_zero]
theorem absV_sound {G H S : Nat} : ∀ (v : Value) (a : AV), absV G H S v = some a → VR (rho0 G (tgS G H S)) a v
  | .bool _, _, h | .int _ _, _, h | .string _, _, h | .nilFunc, _, h | .nilIface, _, h | .pointer none, _, h | .slice none _ _, _, h | .map none, _, h => by
    simp only [absV, Option.some.injEq] at h; subst h; simp [VR]
  | .pointer (some ⟨b, o, none⟩), _, h => by
    simp only [absV] at h
    split at h
    · rename_i hh
      simp only [Option.some.injEq] at h; subst h
      exact ⟨_, rhoS_at hh.1 hh.2, by simp⟩
    · simp at h
  | .pointer (some ⟨_, _, some _⟩), _, h => by simp [absV] at h
  | .slice (some ⟨b, o, sp⟩) l c, _, h => by
    simp only [absV] at h
    split at h
    · rename_i hh
      simp only [Option.some.injEq] at h; subst h
      obtain ⟨rfl, rfl⟩ := hh
      exact ⟨_, _, rfl⟩
    · split at h
      · rename_i hh
        simp only [Option.some.injEq] at h; subst h
        obtain ⟨h1, h2, rfl⟩ := hh
        exact ⟨_, rhoS_at h1 h2, by simp⟩
      · simp at h
  | .map (some _), _, h | .float _ _, _, h | .complex _ _ _, _, h | .chan _, _, h | .agg _, _, h | .tuple _, _, h | .func _ _ _, _, h | .iface _ _, _, h => by simp [absV] at h
theorem absV_one {G H S : Nat} : ∀ (v : Value) (a : AV), absV G H S v = some a → a.one = true
  | .bool _, _, h | .int _ _, _, h | .string _, _, h | .nilFunc, _, h | .nilIface, _, h | .pointer none, _, h | .slice none _ _, _, h | .map none, _, h => by
    simp only [absV, Option.some.injEq] at h; subst h; rfl
  | .pointer (some ⟨b, o, none⟩), _, h => by
    simp only [absV] at h
    split at h
    · simp only [Option.some.injEq] at h; subst h; rfl
    · simp at h
  | .pointer (some ⟨_, _, some _⟩), _, h => by simp [absV] at h
  | .slice (some ⟨b, o, sp⟩) l c, _, h => by
    simp only [absV] at h
    split at h
    · simp only [Option.some.injEq] at h; subst h; rfl
    · split at h
      · simp only [Option.some.injEq] at h; subst h; rfl
      · simp at h
  | .map (some _), _, h | .float _ _, _, h | .complex _ _ _, _, h | .chan _, _, h | .agg _, _, h | .tuple _, _, h | .func _ _ _, _, h | .iface _ _, _, h => by simp [absV] at h
def win (f : Value → Option AV) : List Value → List AV
  | [] => []
  | v :: l => match f v with
    | some a => a :: win f l
    | none => []
theorem win_le (f : Value → Option AV) : ∀ l, (win f l).length ≤ l.length
  | [] => Nat.le_refl _
  | v :: l => by
    simp only [win]
    split
    · simpa using win_le f l
    · simp
theorem win_sound {f : Value → Option AV} : ∀ {l : List Value} {k : Nat} {a : AV}, (win f l)[k]? = some a → ∃ v, l[k]? = some v ∧ f v = some a
  | [], k, a, h => by simp [win] at h
  | v :: l, k, a, h => by
    simp only [win] at h
    split at h
    · rename_i b hb
      cases k with
      | zero => simp at h; subst h; exact ⟨v, rfl, hb⟩
      | succ k => simpa using win_sound (by simpa using h)
    · simp at h
theorem win_get {f : Value → Option AV} : ∀ {l : List Value} {n : Nat}, (∀ i, i < n → ∃ v a, l[i]? = some v ∧ f v = some a) → n ≤ (win f l).length ∧ ∀ i v, i < n → l[i]? = some v → (win f l)[i]? = f v
  | l, 0, _ => ⟨Nat.zero_le _, fun i v hi => by omega⟩
  | [], n + 1, h => by obtain ⟨v, a, hv, _⟩ := h 0 (by omega); simp at hv
  | w :: l, n + 1, h => by
    obtain ⟨v, a, hv, ha⟩ := h 0 (by omega)
    simp only [List.getElem?_cons_zero, Option.some.injEq] at hv; subst hv
    obtain ⟨h1, h2⟩ := win_get (f := f) (l := l) (n := n) fun i hi => by simpa using h (i + 1) (by omega)
    simp only [win, ha]
    refine ⟨by simpa using h1, fun i v hi hv => ?_⟩
    cases i with
    | zero => simp at hv; subst hv; simp [ha]
    | succ i => simpa using h2 i v (by omega) (by simpa using hv)
theorem mkM_get_of {n : Nat} : ∀ {l : List (Nat × AObj)} {j : Nat} {o : AObj}, (∀ q ∈ l, q.1 = j → q.2 = o) → (∃ q ∈ l, q.1 = j) → (mkM n l).get j = some o
  | [], _, _, _, ⟨q, hq, _⟩ => by simp at hq
  | (i, x) :: l, j, o, h, ⟨q, hq, hqj⟩ => by
    simp only [mkM, AMem.get_put]
    by_cases hij : i = j
    · rw [if_pos hij]
      exact congrArg some (h (i, x) (by simp) hij)
    · rw [if_neg hij]
      refine mkM_get_of (fun q hq => h q (List.mem_cons_of_mem _ hq)) ⟨q, ?_, hqj⟩
      rcases List.mem_cons.1 hq with rfl | hq
      · exact absurd hqj hij
      · exact hq
def startAt (W : World) (G H S b o : Nat) : Option (Nat × AObj) :=
  match W.heap[b]? with
  | some (.cells arr _ _) => if o ≤ arr.size then some (G + b * S + o, .cells (win (absV G H S) (arr.toList.drop o)) false ⟨1, none⟩) else none
  | _ => none
def startL (W : World) (G H S : Nat) : List (Nat × AObj) := (List.range H).flatMap fun b => (List.range S).filterMap fun o => startAt W G H S b o
def globAt (W : World) (G H S g : Nat) : Option (Nat × AObj) :=
  match W.heap[g]? with
  | some (.cells arr _ _) => some (g, .cells (win (absV G H S) arr.toList) false ⟨1, none⟩)
  | _ => none
def globL (W : World) (G H S : Nat) : List (Nat × AObj) := (List.range (min G H)).filterMap fun g => globAt W G H S g
def startM (W : World) (G H S : Nat) : AMem := mkM (G + H * S) (startL W G H S ++ globL W G H S)
theorem mem_globL {W : World} {G H S : Nat} {q : Nat × AObj} (h : q ∈ globL W G H S) : ∃ g arr e fz, g < G ∧ g < H ∧ W.heap[g]? = some (.cells arr e fz) ∧ q = (g, .cells (win (absV G H S) arr.toList) false ⟨1, none⟩) := by
  simp only [globL, List.mem_filterMap, List.mem_range] at h
  obtain ⟨g, hg, h⟩ := h
  unfold globAt at h
  split at h
  · rename_i arr e fz hw
    simp only [Option.some.injEq] at h
    exact ⟨g, arr, e, fz, by omega, by omega, hw, h.symm⟩
  · simp at h
theorem mem_startL {W : World} {G H S : Nat} {q : Nat × AObj} (h : q ∈ startL W G H S) : ∃ b o arr e fz, b < H ∧ o < S ∧ W.heap[b]? = some (.cells arr e fz) ∧ o ≤ arr.size ∧ q = (G + b * S + o, .cells (win (absV G H S) (arr.toList.drop o)) false ⟨1, none⟩) := by
  simp only [startL, List.mem_flatMap, List.mem_filterMap, List.mem_range] at h
  obtain ⟨b, hb, o, ho, h⟩ := h
  unfold startAt at h
  split at h
  · rename_i arr e fz hw
    split at h
    · rename_i hle
      simp only [Option.some.injEq] at h
      exact ⟨b, o, arr, e, fz, hb, ho, hw, hle, h.symm⟩
    · simp at h
  · simp at h
theorem num_inj {G S b o b' o' : Nat} (ho : o < S) (ho' : o' < S) (h : G + b * S + o = G + b' * S + o') : b = b' ∧ o = o' := by
  have h1 : b * S + o = b' * S + o' := by omega
  have e1 : (b * S + o) / S = b := by rw [Nat.mul_comm, Nat.mul_add_div (by omega), Nat.div_eq_of_lt ho, Nat.add_zero]
  have e2 : (b' * S + o') / S = b' := by rw [Nat.mul_comm, Nat.mul_add_div (by omega), Nat.div_eq_of_lt ho', Nat.add_zero]
  have hb : b = b' := by rw [← e1, h1, e2]
  subst hb
  exact ⟨rfl, by omega⟩
theorem startM_get {W : World} {G H S b o : Nat} {arr : Array Value} {e : TypeId} {fz : Nat × Nat} (hb : b < H) (ho : o < S) (hw : W.heap[b]? = some (.cells arr e fz)) (hle : o ≤ arr.size) :
    (startM W G H S).get (G + b * S + o) = some (.cells (win (absV G H S) (arr.toList.drop o)) false ⟨1, none⟩) := by
  refine mkM_get_of (fun q hq hj => ?_) ⟨(G + b * S + o, .cells (win (absV G H S) (arr.toList.drop o)) false ⟨1, none⟩), ?_, rfl⟩
  · rcases List.mem_append.1 hq with hq | hq
    case inr => obtain ⟨g, _, _, _, hg, _, _, rfl⟩ := mem_globL hq; simp only at hj; omega
    obtain ⟨b', o', arr', e', fz', hb', ho', hw', hle', rfl⟩ := mem_startL hq
    obtain ⟨rfl, rfl⟩ := num_inj ho' ho hj
    rw [hw] at hw'
    simp only [Option.some.injEq, Obj.cells.injEq] at hw'
    obtain ⟨rfl, _, _⟩ := hw'
    rfl
  · refine List.mem_append.2 (.inl ?_)
    simp only [startL, List.mem_flatMap, List.mem_filterMap, List.mem_range]
    refine ⟨b, hb, o, ho, ?_⟩
    simp only [startAt, hw, if_pos hle]
theorem startM_glob {W : World} {G H S g : Nat} {arr : Array Value} {e : TypeId} {fz : Nat × Nat} (hg : g < G) (hH : g < H) (hw : W.heap[g]? = some (.cells arr e fz)) :
    (startM W G H S).get g = some (.cells (win (absV G H S) arr.toList) false ⟨1, none⟩) := by
  refine mkM_get_of (fun q hq hj => ?_) ⟨(g, .cells (win (absV G H S) arr.toList) false ⟨1, none⟩), ?_, rfl⟩
  · rcases List.mem_append.1 hq with hq | hq
    · obtain ⟨b', o', arr', e', fz', hb', ho', hw', hle', rfl⟩ := mem_startL hq; simp only at hj; omega
    · obtain ⟨g', arr', e', fz', _, _, hw', rfl⟩ := mem_globL hq
      simp only at hj
      subst hj
      rw [hw] at hw'
      simp only [Option.some.injEq, Obj.cells.injEq] at hw'
      obtain ⟨rfl, _, _⟩ := hw'
      rfl
  · refine List.mem_append.2 (.inr ?_)
    simp only [globL, List.mem_filterMap, List.mem_range]
    exact ⟨g, by omega, by simp only [globAt, hw]⟩
theorem startM_next (W : World) (G H S : Nat) : (startM W G H S).next = G + H * S := mkM_next _ _
theorem startM_rep (P : Program) (W : World) (G S : Nat) : Rep (envOf P G W) (rho0 G (tgS G W.heap.size S)) (startM W G W.heap.size S) W := by
  refine rep_start P W G _ (by omega) _ (fun j hj => by simp only [tgS]; rw [if_neg (by omega)]) _ fun q hq => ?_
  rcases List.mem_append.1 hq with hq | hq
  case inr =>
    obtain ⟨g, arr, e, fz, hg, hgH, hw, rfl⟩ := mem_globL hq
    refine ⟨by simp only; omega, rfl, fun t ht => ?_⟩
    simp only [rho0, if_pos hg, Option.some.injEq] at ht; subst ht
    have hl := win_le (absV G W.heap.size S) arr.toList
    simp only [Array.length_toList] at hl
    refine ⟨hgH, arr, e, fz, hw, by simp only [Nat.zero_mul]; omega, fun k a hk => ?_, fun h => by simp at h, nofun⟩
    obtain ⟨v, hv, ha⟩ := win_sound hk
    exact ⟨absV_one v a ha, v, by simpa using hv, absV_sound v a ha⟩
  obtain ⟨b, o, arr, e, fz, hb, ho, hw, hle, rfl⟩ := mem_startL hq
  refine ⟨num_lt hb ho, rfl, fun t ht => ?_⟩
  rw [rhoS_at hb ho] at ht
  simp only [Option.some.injEq] at ht; subst ht
  have hl := win_le (absV G W.heap.size S) (arr.toList.drop o)
  simp only [List.length_drop, Array.length_toList] at hl
  refine ⟨hb, arr, e, fz, hw, by simp only [Nat.zero_mul]; omega, fun k a hk => ?_, fun h => by simp at h, nofun⟩
  obtain ⟨v, hv, ha⟩ := win_sound hk
  refine ⟨absV_one v a ha, v, ?_, absV_sound v a ha⟩
  rw [List.getElem?_drop] at hv
  simpa using hv
def coverB (P : Program) : Nat → List Field → Option Nat
  | n, [] => some n
  | n, f :: l => if f.offset = n then coverB P (n + P.cellsOf f.type) l else none
def plainT (P : Program) : Nat → TypeId → Bool
  | 0, _ => false
  | n + 1, t => match P.underlying t with
    | some .bool | some (.int _) | some .string => true
    | some (.slice e) => decide (0 < P.cellsOf e) && plainT P n e
    | some (.struct fs) => decide (coverB P 0 fs.toList = some (P.cellsOf t)) && fs.toList.all fun f => plainT P n f.type
    | _ => false
def Typ (P : Program) (m : AMem) : Nat → TypeId → List AV → Prop
  | 0, _, _ => False
  | n + 1, t, cs => match P.underlying t with
    | some .bool => ∃ b, cs = [.b b]
    | some (.int k) => ∃ x, cs = [.i k x] ∧ (Lit.int k x).wf = true
    | some .string => ∃ s : ByteArray, cs = [.s s] ∧ s.size ≤ maxLen
    | some (.slice e) => cs = [.sl none 0 0 true] ∨ cs = [.es] ∨ ∃ j len cap c, cs = [.sl (some (j, 0)) len cap true] ∧ len ≤ cap ∧ 0 < cap ∧ cap ≤ maxLen ∧ j < m.next ∧ m.get j = some (.cells c false ⟨1, none⟩) ∧ cap * P.cellsOf e ≤ c.length ∧ ∀ i, i < cap → Typ P m n e ((c.drop (i * P.cellsOf e)).take (P.cellsOf e))
    | some (.struct fs) => cs.length = P.cellsOf t ∧ ∀ f ∈ fs.toList, Typ P m n f.type ((cs.drop f.offset).take (P.cellsOf f.type))
    | _ => False
theorem cover_spec {P : Program} : ∀ (l : List Field) (n k : Nat), coverB P n l = some k → ∀ i, n ≤ i → i < k → ∃ f ∈ l, f.offset ≤ i ∧ i < f.offset + P.cellsOf f.type
  | [], n, k, h, i, h1, h2 => by simp only [coverB, Option.some.injEq] at h; omega
  | f :: l, n, k, h, i, h1, h2 => by
    simp only [coverB] at h
    split at h
    · rename_i hf
      by_cases hi : i < f.offset + P.cellsOf f.type
      · exact ⟨f, by simp, by omega, hi⟩
      · obtain ⟨g, hg, h3⟩ := cover_spec l _ k h i (by omega) h2
        exact ⟨g, by simp [hg], h3⟩
    · simp at h
def absD (G H S : Nat) (v : Value) : AV := (absV G H S v).getD un
section
variable {Hh : Type} {enc : TypeId × Value → Hh} {P : Program} {W : World} {G S : Nat}
theorem typ_of_trod (hS : ∀ (b : Nat) (arr : Array Value) (e : TypeId) (fz : Nat × Nat), W.heap[b]? = some (.cells arr e fz) → arr.size < S) : ∀ (d : Nat) (t : TypeId), plainT P d t = true → ∀ {fuel : Nat} {cs : List Value} {x : DataW Hh × List MemPlace}, DataW.trod enc P W 0 (fun _ => true) true fuel t cs = some x →
    (∀ v ∈ cs, ∃ a, absV G W.heap.size S v = some a) ∧ Typ P (startM W G W.heap.size S) d t (cs.map (absD G W.heap.size S))
  | 0, t, hp, _, _, _, _ => by simp [plainT] at hp
  | d + 1, t, hp, fuel, cs, x, h => by
    simp only [plainT] at hp
    split at hp
    · rename_i hu
      obtain ⟨b, rfl, _⟩ := DataW.trod_bool hu h
      refine ⟨by simp [absV], ?_⟩
      simp only [Typ, hu]
      exact ⟨b, rfl⟩
    · rename_i k hu
      obtain ⟨n, rfl, _, hw⟩ := DataW.trod_int hu h
      refine ⟨by simp [absV], ?_⟩
      simp only [Typ, hu]
      exact ⟨n, rfl, hw⟩
    · rename_i hu
      obtain ⟨s, rfl, _, hw⟩ := DataW.trod_string hu h
      refine ⟨by simp [absV], ?_⟩
      simp only [Typ, hu]
      exact ⟨s, rfl, hw⟩
    · rename_i e hu
      simp only [Bool.and_eq_true, decide_eq_true_eq] at hp
      obtain ⟨hpos, hpe⟩ := hp
      rcases open_slice hu h with ⟨rfl, _⟩ | ⟨a, len, cap, m, n, D, Pl, rfl, _, hl, hm, hmm, _, hx⟩
      · refine ⟨by simp [absV], ?_⟩
        simp only [Typ, hu]
        exact .inl rfl
      · simp only [if_true] at hmm
        subst hmm
        obtain ⟨b, o, sp⟩ := a
        by_cases hc0 : m = 0
        · subst hc0
          obtain rfl : len = 0 := by omega
          refine ⟨by simp [absV], ?_⟩
          simp only [Typ, hu]
          exact .inr (.inl (by simp [absD, absV]))
        · have hall : ∀ i, i < m * P.cellsOf e → ∃ v, W.cell? ((⟨b, o, sp⟩ : Addr).add i) = some v ∧ ∃ a, absV G W.heap.size S v = some a := by
            intro i hi
            obtain ⟨cs', h1, h2⟩ := hx (i / P.cellsOf e) (by rw [Nat.div_lt_iff_lt_mul hpos]; exact hi)
            obtain ⟨_, hlen, hget⟩ := World.cells?_some h1
            have hmod := Nat.mod_lt i hpos
            have := hget (i % P.cellsOf e) hmod
            rw [add_add, Nat.div_add_mod'] at this
            rw [List.getElem?_eq_getElem (by omega)] at this
            exact ⟨_, this, (typ_of_trod hS d e hpe h2).1 _ (List.getElem_mem _)⟩
          have hpos2 : 0 < m * P.cellsOf e := Nat.mul_pos (by omega) hpos
          have hc0' := hall 0 hpos2
          obtain rfl : sp = none := by
            cases sp with
            | none => rfl
            | some s =>
              exfalso
              obtain ⟨v, hv, _⟩ := hc0'
              rw [show (⟨b, o, some s⟩ : Addr).add 0 = ⟨b, o, some s⟩ from rfl] at hv
              unfold World.cell? at hv
              split at hv <;> simp at hv
          have hadd : ∀ i, (⟨b, o, none⟩ : Addr).add i = ⟨b, o + i, none⟩ := fun i => by
            unfold Addr.add
            split
            · rename_i h0; subst h0; rfl
            · rfl
          have hb : ∃ arr e fz, W.heap[b]? = some (.cells arr e fz) := by
            obtain ⟨v, hv, _⟩ := hc0'
            rw [hadd] at hv
            unfold World.cell? at hv
            split at hv
            · rename_i arr e fz hh; exact ⟨arr, e, fz, hh⟩
            · simp at hv
          obtain ⟨arr, te, fz, hh⟩ := hb
          have hcell : ∀ i, i < m * P.cellsOf e → ∃ v a, (arr.toList.drop o)[i]? = some v ∧ absV G W.heap.size S v = some a := fun i hi => by
            obtain ⟨v, hv, a, ha⟩ := hall i hi
            rw [hadd] at hv
            simp only [World.cell?, hh] at hv
            exact ⟨v, a, by rw [List.getElem?_drop]; simpa using hv, ha⟩
          obtain ⟨w1, w2⟩ := win_get hcell
          have hsz : o + m * P.cellsOf e ≤ arr.size := by
            have := Nat.le_trans w1 (win_le _ _)
            simp only [List.length_drop, Array.length_toList] at this
            omega
          have hblk : b < W.heap.size := (Array.getElem?_eq_some_iff.1 hh).1
          have hoS : o < S := by have := hS _ _ _ _ hh; omega
          have hav : absV G W.heap.size S (.slice (some ⟨b, o, none⟩) len m) = some (.sl (some (G + b * S + o, 0)) len m true) := by
            simp only [absV]
            rw [if_neg (by omega), if_pos ⟨hblk, hoS, trivial⟩]
          refine ⟨fun v hv => ?_, ?_⟩
          · simp only [List.mem_singleton] at hv; subst hv
            exact ⟨_, hav⟩
          · simp only [Typ, hu]
            refine .inr (.inr ⟨G + b * S + o, len, m, _, by simp only [List.map_cons, List.map_nil, absD, hav, Option.getD_some], hl, by omega, hm, by rw [startM_next]; exact num_lt hblk hoS, startM_get hblk hoS hh (by omega), w1, fun i hi => ?_⟩)
            obtain ⟨cs', h1, h2⟩ := hx i hi
            obtain ⟨hcv, ht⟩ := typ_of_trod hS d e hpe h2
            obtain ⟨_, hlen, hget⟩ := World.cells?_some h1
            have hmul : i * P.cellsOf e + P.cellsOf e ≤ m * P.cellsOf e := by
              have : (i + 1) * P.cellsOf e ≤ m * P.cellsOf e := Nat.mul_le_mul_right _ hi
              rwa [Nat.add_mul, Nat.one_mul] at this
            have heq : ((win (absV G W.heap.size S) (arr.toList.drop o)).drop (i * P.cellsOf e)).take (P.cellsOf e) = cs'.map (absD G W.heap.size S) := by
              refine List.ext_getElem? fun k => ?_
              rw [List.getElem?_take, List.getElem?_drop, List.getElem?_map]
              by_cases hk : k < P.cellsOf e
              · rw [if_pos hk]
                have hg := hget k hk
                rw [add_add, hadd] at hg
                simp only [World.cell?, hh] at hg
                have hv : cs'[k]? = some cs'[k] := List.getElem?_eq_getElem (by omega)
                rw [hv] at hg
                have hg' : (arr.toList.drop o)[i * P.cellsOf e + k]? = some cs'[k] := by rw [List.getElem?_drop]; simpa [Nat.add_assoc] using hg
                rw [w2 _ _ (by omega) hg', hv]
                obtain ⟨a, ha⟩ := hcv _ (List.getElem_mem (by omega : k < cs'.length))
                simp only [Option.map_some, absD, ha, Option.getD_some]
              · rw [if_neg hk, List.getElem?_eq_none (by omega)]; rfl
            rw [heq]; exact ht
    · rename_i fs hu
      simp only [Bool.and_eq_true, decide_eq_true_eq, List.all_eq_true] at hp
      obtain ⟨hcov, hpf⟩ := hp
      obtain ⟨xs, n, _, _, hlen, hxs, hf⟩ := DataW.trod_struct hu h
      have each : ∀ f ∈ fs.toList, (∀ v ∈ (cs.drop f.offset).take (P.cellsOf f.type), ∃ a, absV G W.heap.size S v = some a) ∧ Typ P (startM W G W.heap.size S) d f.type (((cs.drop f.offset).take (P.cellsOf f.type)).map (absD G W.heap.size S)) := by
        intro f hfm
        obtain ⟨i, hi⟩ := List.getElem?_of_mem hfm
        have hi' : fs[i]? = some f := by simpa using hi
        have hlt := (Array.getElem?_eq_some_iff.1 hi').1
        have h1 := hf i f hi'
        rw [List.getElem?_eq_getElem (by omega)] at h1
        exact typ_of_trod hS d f.type (hpf f hfm) h1
      refine ⟨fun v hv => ?_, ?_⟩
      · obtain ⟨i, hi⟩ := List.getElem?_of_mem hv
        have hil : i < P.cellsOf t := by rw [← hlen]; exact (List.getElem?_eq_some_iff.1 hi).1
        obtain ⟨f, hfm, h1, h2⟩ := cover_spec _ _ _ hcov i (Nat.zero_le _) hil
        refine (each f hfm).1 v ?_
        refine List.mem_of_getElem? (i := i - f.offset) ?_
        rw [List.getElem?_take, if_pos (by omega), List.getElem?_drop, show f.offset + (i - f.offset) = i by omega]
        exact hi
      · simp only [Typ, hu]
        refine ⟨by simpa using hlen, fun f hfm => ?_⟩
        have := (each f hfm).2
        rwa [List.map_take, List.map_drop] at this
    · simp at hp
theorem rows_bound (W : World) : ∃ S : Nat, ∀ (b : Nat) (arr : Array Value) (e : TypeId) (fz : Nat × Nat), W.heap[b]? = some (.cells arr e fz) → arr.size < S := by
  have key : ∀ l : List Obj, ∃ S : Nat, ∀ (arr : Array Value) (e : TypeId) (fz : Nat × Nat), Obj.cells arr e fz ∈ l → arr.size < S := by
    intro l
    induction l with
    | nil => exact ⟨0, fun _ _ _ h => by simp at h⟩
    | cons o l ih =>
      obtain ⟨S, hS⟩ := ih
      cases o with
      | cells arr e fz =>
        refine ⟨max S (arr.size + 1), fun a e' f h => ?_⟩
        rcases List.mem_cons.1 h with h | h
        · simp only [Obj.cells.injEq] at h
          obtain ⟨rfl, _, _⟩ := h
          omega
        · have := hS _ _ _ h; omega
      | _ => exact ⟨S, fun a e' f h => hS a e' f (by simpa using h)⟩
  obtain ⟨S, hS⟩ := key W.heap.toList
  exact ⟨S, fun b arr e fz h => hS arr e fz (List.mem_of_getElem? (i := b) (by simpa using h))⟩
def argA (G H S : Nat) : Value → AV
  | .agg cs => .agg (cs.toList.map (absD G H S))
  | v => absD G H S v
theorem absL_sound {G H S : Nat} : ∀ (l : List Value), (∀ v ∈ l, ∃ a, absV G H S v = some a) → VRL (rho0 G (tgS G H S)) (l.map (absD G H S)) l
  | [], _ => by simp [VRL]
  | v :: l, h => by
    obtain ⟨a, ha⟩ := h v (by simp)
    refine ⟨v, l, rfl, ?_, absL_sound l fun u hu => h u (by simp [hu])⟩
    simp only [absD, ha, Option.getD_some]
    exact absV_sound v a ha
theorem argA_sound {G H S : Nat} (v : Value) (h : ∀ u ∈ v.cells.toList, ∃ a, absV G H S u = some a) : VR (rho0 G (tgS G H S)) (argA G H S v) v := by
  by_cases hv : ∃ cs, v = .agg cs
  · obtain ⟨cs, rfl⟩ := hv
    exact ⟨cs, rfl, absL_sound _ h⟩
  · have e : v.cells.toList = [v] := by cases v <;> first | rfl | exact absurd ⟨_, rfl⟩ hv
    have e2 : argA G H S v = absD G H S v := by cases v <;> first | rfl | exact absurd ⟨_, rfl⟩ hv
    obtain ⟨a, ha⟩ := h v (by rw [e]; simp)
    rw [e2]
    simp only [absD, ha, Option.getD_some]
    exact absV_sound v a ha
theorem args_startG {ts : List TypeId} (d : Nat) (hp : ts.all (plainT P d) = true) {vs : List Value} {ds : List (DataW Hh)} {p : List MemPlace} (h : DataW.TrodAll enc P W 0 (fun _ => true) true ts vs ds p)
    (hok : ∀ (j : Nat) t v, ts[j]? = some t → vs[j]? = some v → ∃ b0, Value.okWide P W .any b0 t v) :
    ∃ (m : AMem) (ρ : Rho) (avs : List AV), Rep (envOf P G W) ρ m W ∧ VRL ρ avs vs ∧ avs.length = vs.length ∧ G ≤ m.next ∧ m.ds = [] ∧ m.ro = none ∧
      (∀ (g : Nat) (arr : Array Value) (e : TypeId) (fz : Nat × Nat), g < G → W.heap[g]? = some (.cells arr e fz) → ∀ (k : IntKind) (ns : List Int), arr.toList = ns.map (.int k ·) → m.get g = some (.cells (ns.map (.i k ·)) false ⟨1, none⟩)) ∧
      ∀ (j : Nat) t a, ts[j]? = some t → avs[j]? = some a → Typ P m d t a.cells ∧ ((∃ fs, P.underlying t = some (.struct fs)) → ∃ l, a = .agg l) ∧ ((¬ ∃ fs, P.underlying t = some (.struct fs)) → a.one = true) := by
  obtain ⟨S, hS⟩ := rows_bound W
  have hds : (startM W G W.heap.size S).ds = [] ∧ (startM W G W.heap.size S).ro = none := by
    unfold startM
    generalize startL W G W.heap.size S ++ globL W G W.heap.size S = l
    induction l with
    | nil => exact ⟨rfl, rfl⟩
    | cons q l ih => exact ih
  refine ⟨startM W G W.heap.size S, rho0 G (tgS G W.heap.size S), vs.map (argA G W.heap.size S), startM_rep P W G S, ?_, by simp, by rw [startM_next]; omega, hds.1, hds.2, fun g arr e fz hg hw k ns hn => ?_, ?_⟩
  · induction ts generalizing vs ds p with
    | nil =>
      cases vs with
      | nil => simp [VRL]
      | cons v vs => cases ds <;> simp [DataW.TrodAll] at h
    | cons t ts ih =>
      obtain ⟨v, vs', d0, ds', p0, p', rfl, rfl, rfl, ⟨fuel, h0⟩, h1⟩ := trodAll_cons h
      simp only [List.all_cons, Bool.and_eq_true] at hp
      refine ⟨v, vs', rfl, argA_sound v (typ_of_trod hS d t hp.1 h0).1, ?_⟩
      exact ih hp.2 h1 fun j t v hj hv => hok (j + 1) t v (by simpa using hj) (by simpa using hv)
  · rw [startM_glob hg (Array.getElem?_eq_some_iff.1 hw).1 hw, hn]
    congr 2
    clear hn
    induction ns with
    | nil => rfl
    | cons n ns ih => simp only [List.map_cons, win, absV, ih]
  · induction ts generalizing vs ds p with
    | nil => intro j t a hj; simp at hj
    | cons t ts ih =>
      obtain ⟨v, vs', d0, ds', p0, p', rfl, rfl, rfl, ⟨fuel, h0⟩, h1⟩ := trodAll_cons h
      simp only [List.all_cons, Bool.and_eq_true] at hp
      intro j t' a hj ha
      cases j with
      | zero =>
        simp only [List.getElem?_cons_zero, Option.some.injEq] at hj; subst hj
        simp only [List.map_cons, List.getElem?_cons_zero, Option.some.injEq] at ha; subst ha
        obtain ⟨hcv, ht⟩ := typ_of_trod (G := G) hS d t hp.1 h0
        obtain ⟨b0, hv0⟩ := hok 0 t v rfl rfl
        by_cases hag : ∃ cs, v = .agg cs
        · obtain ⟨cs, rfl⟩ := hag
          refine ⟨ht, fun _ => ⟨_, rfl⟩, fun hns => ?_⟩
          exfalso
          have hpt := hp.1
          cases d with
          | zero => simp [plainT] at hpt
          | succ d =>
            simp only [plainT] at hpt
            split at hpt
            · rename_i hu; obtain ⟨_, h⟩ := okWide_bool hu hv0; cases h
            · rename_i hu; obtain ⟨_, h⟩ := okWide_int hu hv0; cases h
            · rename_i hu; obtain ⟨_, h⟩ := okWide_string hu hv0; cases h
            · rename_i hu; obtain ⟨_, _, _, h⟩ := okWide_slice hu hv0; cases h
            · rename_i fs hu; exact hns ⟨fs, hu⟩
            · simp at hpt
        · have e : v.cells.toList = [v] := by cases v <;> first | rfl | exact absurd ⟨_, rfl⟩ hag
          have e2 : argA G W.heap.size S v = absD G W.heap.size S v := by cases v <;> first | rfl | exact absurd ⟨_, rfl⟩ hag
          obtain ⟨a, ha⟩ := hcv v (by rw [e]; simp)
          have e3 : absD G W.heap.size S v = a := by simp only [absD, ha, Option.getD_some]
          rw [e] at ht
          rw [e2, e3]
          have ho := absV_one v a ha
          refine ⟨?_, fun ⟨fs, hu⟩ => ?_, fun _ => ho⟩
          · have : a.cells = [a] := by cases a <;> first | rfl | (simp [AV.one] at ho)
            rw [this]
            simpa [e3] using ht
          · obtain ⟨cs, h, _⟩ := okWide_struct hu hv0
            exact absurd ⟨cs, h⟩ hag
      | succ j =>
        exact ih hp.2 h1 (fun j t v hj hv => hok (j + 1) t v (by simpa using hj) (by simpa using hv)) j t' a (by simpa using hj) (by simpa using ha)
theorem args_start {ts : List TypeId} (d : Nat) (hp : ts.all (plainT P d) = true) {vs : List Value} {ds : List (DataW Hh)} {p : List MemPlace} (h : DataW.TrodAll enc P W 0 (fun _ => true) true ts vs ds p)
    (hok : ∀ (j : Nat) t v, ts[j]? = some t → vs[j]? = some v → ∃ b0, Value.okWide P W .any b0 t v) :
    ∃ (m : AMem) (ρ : Rho) (avs : List AV), Rep (envOf P G W) ρ m W ∧ VRL ρ avs vs ∧ avs.length = vs.length ∧ G ≤ m.next ∧ m.ds = [] ∧ m.ro = none ∧
      ∀ (j : Nat) t a, ts[j]? = some t → avs[j]? = some a → Typ P m d t a.cells ∧ ((∃ fs, P.underlying t = some (.struct fs)) → ∃ l, a = .agg l) ∧ ((¬ ∃ fs, P.underlying t = some (.struct fs)) → a.one = true) := by
  obtain ⟨m, ρ, avs, h1, h2, h3, h4, h5, h6, _, h7⟩ := args_startG (G := G) d hp h hok
  exact ⟨m, ρ, avs, h1, h2, h3, h4, h5, h6, h7⟩
end
end Go.Vi
namespace Go.Vi
open Go.RowKit
set_option linter.unusedSimpArgs false
set_option linter.unusedVariables false
end Go.Vi
