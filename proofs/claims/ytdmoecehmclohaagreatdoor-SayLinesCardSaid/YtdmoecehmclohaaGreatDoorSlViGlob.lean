/- A law's arguments, of plain types, as the interpreter finds them: the world of the beginning as an abstract memory. No condition. -/
import Derived.Test.YtdmoecehmclohaaGreatDoorSlViW3
import Derived.Deep.Slices
import Derived.WideShapes
import Derived.OpenShut
import Derived.MakeChecks
namespace Go.Vi
open Go.RowKit Go.ChangeShapes Go.WideShapes Go.Deep
set_option linter.unusedSimpArgs false
set_option linter.unusedVariables false
def absV (G H S : Nat) : Value → Option AV
  | .bool b => some (.b b)
  | .int k n => some (.i k n)
  | .string s => some (.s s)
  | .pointer none => some (.p none)
  | .pointer (some ⟨b, o, none⟩) => if b < H ∧ o < S then some (.p (some (G + b * S + o, 0))) else none
  | .slice none l c => some (.sl none l c true)
  | .slice (some ⟨b, o, sp⟩) l c => if l = 0 ∧ c = 0 then some .es else if b < H ∧ o < S ∧ sp = none then some (.sl (some (G + b * S + o, 0)) l c true) else none
  | .map none => some (.m none)
  | .nilFunc => some .nf
  | .nilIface => some .ni
  | _ => none
def tgS (G H S : Nat) : Nat → Option Tgt := fun j => if G ≤ j ∧ j < G + H * S then some ⟨(j - G) / S, (j - G) % S, 0⟩ else none
theorem num_lt {G H S b o : Nat} (hb : b < H) (ho : o < S) : G + b * S + o < G + H * S := by
  have : (b + 1) * S ≤ H * S := Nat.mul_le_mul_right S hb
  rw [Nat.add_mul, Nat.one_mul] at this
  omega
theorem rhoS_at {G H S b o : Nat} (hb : b < H) (ho : o < S) : rho0 G (tgS G H S) (G + b * S + o) = some ⟨b, o, 0⟩ := by
  have h1 := num_lt (G := G) hb ho
  have e : G + b * S + o - G = b * S + o := by omega
  simp only [rho0, tgS]
  rw [if_neg (by omega), if_pos ⟨by omega, h1⟩, e, Nat.mul_comm b S, Nat.mul_add_div (by omega), Nat.mul_add_mod, Nat.div_eq_of_lt ho, Nat.mod_eq_of_lt ho, Nat.add_zero]
theorem absV_sound {G H S : Nat} : ∀ (v : Value) (a : AV), absV G H S v = some a → VR (rho0 G (tgS G H S)) a v
  | .bool _, _, h | .int _ _, _, h | .string _, _, h | .nilFunc, _, h | .nilIface, _, h | .pointer none, _, h | .slice none _ _, _, h | .map none, _, h => by
    simp only [absV, Option.some.injEq] at h; subst h; simp [VR]
  | .pointer (some ⟨b, o, none⟩), _, h => by
    simp only [absV] at h
    split at h
    · rename_i hh
      simp only [Option.some.injEq] at h; subst h
      exact ⟨_, rhoS_at hh.1 hh.2, by simp⟩
    · simp at h
  | .pointer (some ⟨_, _, some _⟩), _, h => by simp [absV] at h
  | .slice (some ⟨b, o, sp⟩) l c, _, h => by
    simp only [absV] at h
    split at h
    · rename_i hh
      simp only [Option.some.injEq] at h; subst h
      obtain ⟨rfl, rfl⟩ := hh
      exact ⟨_, _, rfl⟩
    · split at h
      · rename_i hh
        simp only [Option.some.injEq] at h; subst h
        obtain ⟨h1, h2, rfl⟩ := hh
        exact ⟨_, rhoS_at h1 h2, by simp⟩
      · simp at h
  | .map (some _), _, h | .float _ _, _, h | .complex _ _ _, _, h | .chan _, _, h | .agg _, _, h | .tuple _, _, h | .func _ _ _, _, h | .iface _ _, _, h => by simp [absV] at h
theorem absV_one {G H S : Nat} : ∀ (v : Value) (a : AV), absV G H S v = some a → a.one = true
  | .bool _, _, h | .int _ _, _, h | .string _, _, h | .nilFunc, _, h | .nilIface, _, h | .pointer none, _, h | .slice none _ _, _, h | .map none, _, h => by
    simp only [absV, Option.some.injEq] at h; subst h; rfl
  | .pointer (some ⟨b, o, none⟩), _, h => by
    simp only [absV] at h
    split at h
    · simp only [Option.some.injEq] at h; subst h; rfl
    · simp at h
  | .pointer (some ⟨_, _, some _⟩), _, h => by simp [absV] at h
  | .slice (some ⟨b, o, sp⟩) l c, _, h => by
    simp only [absV] at h
    split at h
    · simp only [Option.some.injEq] at h; subst h; rfl
    · split at h
      · simp only [Option.some.injEq] at h; subst h; rfl
      · simp at h
  | .map (some _), _, h | .float _ _, _, h | .complex _ _ _, _, h | .chan _, _, h | .agg _, _, h | .tuple _, _, h | .func _ _ _, _, h | .iface _ _, _, h => by simp [absV] at h
def win (f : Value → Option AV) : List Value → List AV
  | [] => []
  | v :: l => match f v with
    | some a => a :: win f l
    | none => []
theorem win_le (f : Value → Option AV) : ∀ l, (win f l).length ≤ l.length
  | [] => Nat.le_refl _
  | v :: l => by
    simp only [win]
    split
    · simpa using win_le f l
    · simp
theorem win_sound {f : Value → Option AV} : ∀ {l : List Value} {k : Nat} {a : AV}, (win f l)[k]? = some a → ∃ v, l[k]? = some v ∧ f v = some a
  | [], k, a, h => by simp [win] at h
  | v :: l, k, a, h => by
    simp only [win] at h
    split at h
    · rename_i b hb
      cases k with
      | zero => simp at h; subst h; exact ⟨v, rfl, hb⟩
      | succ k => simpa using win_sound (by simpa using h)
    · simp at h
theorem win_get {f : Value → Option AV} : ∀ {l : List Value} {n : Nat}, (∀ i, i < n → ∃ v a, l[i]? = some v ∧ f v = some a) → n ≤ (win f l).length ∧ ∀ i v, i < n → l[i]? = some v → (win f l)[i]? = f v
  | l, 0, _ => ⟨Nat.zero_le _, fun i v hi => by omega⟩
  | [], n + 1, h => by obtain ⟨v, a, hv, _⟩ := h 0 (by omega); simp at hv
  | w :: l, n + 1, h => by
    obtain ⟨v, a, hv, ha⟩ := h 0 (by omega)
    simp only [List.getElem?_cons_zero, Option.some.injEq] at hv; subst hv
    obtain ⟨h1, h2⟩ := win_get (f := f) (l := l) (n := n) fun i hi => by simpa using h (i + 1) (by omega)
    simp only [win, ha]
    refine ⟨by simpa using h1, fun i v hi hv => ?_⟩
    cases i with
    | zero => simp at hv; subst hv; simp [ha]
    | succ i => simpa using h2 i v (by omega) (by simpa using hv)
theorem mkM_get_of {n : Nat} : ∀ {l : List (Nat × AObj)} {j : Nat} {o : AObj}, (∀ q ∈ l, q.1 = j → q.2 = o) → (∃ q ∈ l, q.1 = j) → (mkM n l).get j = some o
  | [], _, _, _, ⟨q, hq, _⟩ => by simp at hq
  | (i, x) :: l, j, o, h, ⟨q, hq, hqj⟩ => by
    simp only [mkM, AMem.get_put]
    by_cases hij : i = j
    · rw [if_pos hij]
      exact congrArg some (h (i, x) (by simp) hij)
    · rw [if_neg hij]
      refine mkM_get_of (fun q hq => h q (List.mem_cons_of_mem _ hq)) ⟨q, ?_, hqj⟩
      rcases List.mem_cons.1 hq with rfl | hq
      · exact absurd hqj hij
      · exact hq
def startAt (W : World) (G H S b o : Nat) : Option (Nat × AObj) :=
  match W.heap[b]? with
  | some (.cells arr _ _) => if o ≤ arr.size then some (G + b * S + o, .cells (win (absV G H S) (arr.toList.drop o)) false ⟨1, none⟩) else none
  | _ => none
def startL (W : World) (G H S : Nat) : List (Nat × AObj) := (List.range H).flatMap fun b => (List.range S).filterMap fun o => startAt W G H S b o
def globAt (W : World) (G H S g : Nat) : Option (Nat × AObj) :=
  match W.heap[g]? with
  | some (.cells arr _ _) => some (g, .cells (win (absV G H S) arr.toList) false ⟨1, none⟩)
  | _ => none
def globL (W : World) (G H S : Nat) : List (Nat × AObj) := (List.range (min G H)).filterMap fun g => globAt W G H S g
def startM (W : World) (G H S : Nat) : AMem := mkM (G + H * S) (startL W G H S ++ globL W G H S)
theorem mem_globL {W : World} {G H S : Nat} {q : Nat × AObj} (h : q ∈ globL W G H S) : ∃ g arr e fz, g < G ∧ g < H ∧ W.heap[g]? = some (.cells arr e fz) ∧ q = (g, .cells (win (absV G H S) arr.toList) false ⟨1, none⟩) := by
  simp only [globL, List.mem_filterMap, List.mem_range] at h
  obtain ⟨g, hg, h⟩ := h
  unfold globAt at h
  split at h
  · rename_i arr e fz hw
    simp only [Option.some.injEq] at h
    exact ⟨g, arr, e, fz, by omega, by omega, hw, h.symm⟩
  · simp at h
theorem mem_startL {W : World} {G H S : Nat} {q : Nat × AObj} (h : q ∈ startL W G H S) : ∃ b o arr e fz, b < H ∧ o < S ∧ W.heap[b]? = some (.cells arr e fz) ∧ o ≤ arr.size ∧ q = (G + b * S + o, .cells (win (absV G H S) (arr.toList.drop o)) false ⟨1, none⟩) := by
  simp only [startL, List.mem_flatMap, List.mem_filterMap, List.mem_range] at h
  obtain ⟨b, hb, o, ho, h⟩ := h
  unfold startAt at h
  split at h
  · rename_i arr e fz hw
    split at h
    · rename_i hle
      simp only [Option.some.injEq] at h
      exact ⟨b, o, arr, e, fz, hb, ho, hw, hle, h.symm⟩
    · simp at h
  · simp at h
theorem num_inj {G S b o b' o' : Nat} (ho : o < S) (ho' : o' < S) (h : G + b * S + o = G + b' * S + o') : b = b' ∧ o = o' := by
  have h1 : b * S + o = b' * S + o' := by omega
  have e1 : (b * S + o) / S = b := by rw [Nat.mul_comm, Nat.mul_add_div (by omega), Nat.div_eq_of_lt ho, Nat.add_zero]
  have e2 : (b' * S + o') / S = b' := by rw [Nat.mul_comm, Nat.mul_add_div (by omega), Nat.div_eq_of_lt ho', Nat.add_zero]
  have hb : b = b' := by rw [← e1, h1, e2]
  subst hb
  exact ⟨rfl, by omega⟩
theorem startM_get {W : World} {G H S b o : Nat} {arr : Array Value} {e : TypeId} {fz : Nat × Nat} (hb : b < H) (ho : o < S) (hw : W.heap[b]? = some (.cells arr e fz)) (hle : o ≤ arr.size) :
    (startM W G H S).get (G + b * S + o) = some (.cells (win (absV G H S) (arr.toList.drop o)) false ⟨1, none⟩) := by
  refine mkM_get_of (fun q hq hj => ?_) ⟨(G + b * S + o, .cells (win (absV G H S) (arr.toList.drop o)) false ⟨1, none⟩), ?_, rfl⟩
  · rcases List.mem_append.1 hq with hq | hq
    case inr => obtain ⟨g, _, _, _, hg, _, _, rfl⟩ := mem_globL hq; simp only at hj; omega
    obtain ⟨b', o', arr', e', fz', hb', ho', hw', hle', rfl⟩ := mem_startL hq
    obtain ⟨rfl, rfl⟩ := num_inj ho' ho hj
    rw [hw] at hw'
    simp only [Option.some.injEq, Obj.cells.injEq] at hw'
    obtain ⟨rfl, _, _⟩ := hw'
    rfl
  · refine List.mem_append.2 (.inl ?_)
    simp only [startL, List.mem_flatMap, List.mem_filterMap, List.mem_range]
    refine ⟨b, hb, o, ho, ?_⟩
    simp only [startAt, hw, if_pos hle]
theorem startM_glob {W : World} {G H S g : Nat} {arr : Array Value} {e : TypeId} {fz : Nat × Nat} (hg : g < G) (hH : g < H) (hw : W.heap[g]? = some (.cells arr e fz)) :
    (startM W G H S).get g = some (.cells (win (absV G H S) arr.toList) false ⟨1, none⟩) := by
  refine mkM_get_of (fun q hq hj => ?_) ⟨(g, .cells (win (absV G H S) arr.toList) false ⟨1, none⟩), ?_, rfl⟩
  · rcases List.mem_append.1 hq with hq | hq
    · obtain ⟨b', o', arr', e', fz', hb', ho', hw', hle', rfl⟩ := mem_startL hq; simp only at hj; omega
    · obtain ⟨g', arr', e', fz', _, _, hw', rfl⟩ := mem_globL hq
      simp only at hj
      subst hj
      rw [hw] at hw'
      simp only [Option.some.injEq, Obj.cells.injEq] at hw'
      obtain ⟨rfl, _, _⟩ := hw'
      rfl
  · refine List.mem_append.2 (.inr ?_)
    simp only [globL, List.mem_filterMap, List.mem_range]
    exact ⟨g, by omega, by simp only [globAt, hw]⟩
theorem startM_next (W : World) (G H S : Nat) : (startM W G H S).next = G + H * S := mkM_next _ _
theorem startM_rep (P : Program) (W : World) (G S : Nat) : Rep (envOf P G W) (rho0 G (tgS G W.heap.size S)) (startM W G W.heap.size S) W := by
  refine rep_start P W G _ (by omega) _ (fun j hj => by simp only [tgS]; rw [if_neg (by omega)]) _ fun q hq => ?_
  rcases List.mem_append.1 hq with hq | hq
  case inr =>
    obtain ⟨g, arr, e, fz, hg, hgH, hw, rfl⟩ := mem_globL hq
    refine ⟨by simp only; omega, rfl, fun t ht => ?_⟩
    simp only [rho0, if_pos hg, Option.some.injEq] at ht; subst ht
    have hl := win_le (absV G W.heap.size S) arr.toList
    simp only [Array.length_toList] at hl
    refine ⟨hgH, arr, e, fz, hw, by simp only [Nat.zero_mul]; omega, fun k a hk => ?_, fun h => by simp at h, nofun⟩
    obtain ⟨v, hv, ha⟩ := win_sound hk
    exact ⟨absV_one v a ha, v, by simpa using hv, absV_sound v a ha⟩
  obtain ⟨b, o, arr, e, fz, hb, ho, hw, hle, rfl⟩ := mem_startL hq
  refine ⟨num_lt hb ho, rfl, fun t ht => ?_⟩
  rw [rhoS_at hb ho] at ht
  simp only [Option.some.injEq] at ht; subst ht
  have hl := win_le (absV G W.heap.size S) (arr.toList.drop o)
  simp only [List.length_drop, Array.length_toList] at hl
  refine ⟨hb, arr, e, fz, hw, by simp only [Nat.zero_mul]; omega, fun k a hk => ?_, fun h => by simp at h, nofun⟩
  obtain ⟨v, hv, ha⟩ := win_sound hk
  refine ⟨absV_one v a ha, v, ?_, absV_sound v a ha⟩
  rw [List.getElem?_drop] at hv
  simpa using hv
def coverB (P : Program) : Nat → List Field → Option Nat
  | n, [] => some n
  | n, f :: l => if f.offset = n then coverB P (n + P.cellsOf f.type) l else none
def plainT (P : Program) : Nat → TypeId → Bool
  | 0, _ => false
  | n + 1, t => match P.underlying t with
    | some .bool | some (.int _) | some .string => true
    | some (.slice e) => decide (0 < P.cellsOf e) && plainT P n e
    | some (.struct fs) => decide (coverB P 0 fs.toList = some (P.cellsOf t)) && fs.toList.all fun f => plainT P n f.type
    | _ => false
theorem cover_spec {P : Program} : ∀ (l : List Field) (n k : Nat), coverB P n l = some k → ∀ i, n ≤ i → i < k → ∃ f ∈ l, f.offset ≤ i ∧ i < f.offset + P.cellsOf f.type
  | [], n, k, h, i, h1, h2 => by simp only [coverB, Option.some.injEq] at h; omega
  | f :: l, n, k, h, i, h1, h2 => by
    simp only [coverB] at h
    split at h
    · rename_i hf
      by_cases hi : i < f.offset + P.cellsOf f.type
      · exact ⟨f, by simp, by omega, hi⟩
      · obtain ⟨g, hg, h3⟩ := cover_spec l _ k h i (by omega) h2
        exact ⟨g, by simp [hg], h3⟩
    · simp at h
def absD (G H S : Nat) (v : Value) : AV := (absV G H S v).getD un
section
variable {Hh : Type} {enc : TypeId × Value → Hh} {P : Program} {W : World} {G S : Nat}
theorem rows_bound (W : World) : ∃ S : Nat, ∀ (b : Nat) (arr : Array Value) (e : TypeId) (fz : Nat × Nat), W.heap[b]? = some (.cells arr e fz) → arr.size < S := by
  have key : ∀ l : List Obj, ∃ S : Nat, ∀ (arr : Array Value) (e : TypeId) (fz : Nat × Nat), Obj.cells arr e fz ∈ l → arr.size < S := by
    intro l
    induction l with
    | nil => exact ⟨0, fun _ _ _ h => by simp at h⟩
    | cons o l ih =>
      obtain ⟨S, hS⟩ := ih
      cases o with
      | cells arr e fz =>
        refine ⟨max S (arr.size + 1), fun a e' f h => ?_⟩
        rcases List.mem_cons.1 h with h | h
        · simp only [Obj.cells.injEq] at h
          obtain ⟨rfl, _, _⟩ := h
          omega
        · have := hS _ _ _ h; omega
      | _ => exact ⟨S, fun a e' f h => hS a e' f (by simpa using h)⟩
  obtain ⟨S, hS⟩ := key W.heap.toList
  exact ⟨S, fun b arr e fz h => hS arr e fz (List.mem_of_getElem? (i := b) (by simpa using h))⟩
def argA (G H S : Nat) : Value → AV
  | .agg cs => .agg (cs.toList.map (absD G H S))
  | v => absD G H S v
theorem absL_sound {G H S : Nat} : ∀ (l : List Value), (∀ v ∈ l, ∃ a, absV G H S v = some a) → VRL (rho0 G (tgS G H S)) (l.map (absD G H S)) l
  | [], _ => by simp [VRL]
  | v :: l, h => by
    obtain ⟨a, ha⟩ := h v (by simp)
    refine ⟨v, l, rfl, ?_, absL_sound l fun u hu => h u (by simp [hu])⟩
    simp only [absD, ha, Option.getD_some]
    exact absV_sound v a ha
theorem argA_sound {G H S : Nat} (v : Value) (h : ∀ u ∈ v.cells.toList, ∃ a, absV G H S u = some a) : VR (rho0 G (tgS G H S)) (argA G H S v) v := by
  by_cases hv : ∃ cs, v = .agg cs
  · obtain ⟨cs, rfl⟩ := hv
    exact ⟨cs, rfl, absL_sound _ h⟩
  · have e : v.cells.toList = [v] := by cases v <;> first | rfl | exact absurd ⟨_, rfl⟩ hv
    have e2 : argA G H S v = absD G H S v := by cases v <;> first | rfl | exact absurd ⟨_, rfl⟩ hv
    obtain ⟨a, ha⟩ := h v (by rw [e]; simp)
    rw [e2]
    simp only [absD, ha, Option.getD_some]
    exact absV_sound v a ha
end
end Go.Vi
namespace Go.Vi
open Go.RowKit
set_option linter.unusedSimpArgs false
set_option linter.unusedVariables false
theorem laid_mem {P : Program} {w : World} {n : String} {d : DataW Unit} : ∀ {l : List (String × DataW Unit)} {ps : List MemPlace}, DataW.LaidVars P w l ps → (n, d) ∈ l →
    ∃ g t cs fuel p, P.globalNamed n = some g ∧ (P.globals[g]?).map (·.type) = some t ∧ w.var? P n = some cs ∧ DataW.trod (fun _ => ()) P w 0 (fun _ => true) false fuel t cs.toList = some (d, p)
  | [], _, _, h => by simp at h
  | (n', d') :: r, ps, hl, h => by
    obtain ⟨g, t, cs, fuel, p, q, e1, e2, e3, e4, hr, _⟩ := hl
    rcases List.mem_cons.1 h with h | h
    · simp only [Prod.mk.injEq] at h
      obtain ⟨rfl, rfl⟩ := h
      exact ⟨g, t, cs, fuel, p, e1, e2, e3, e4⟩
    · exact laid_mem hr h
theorem laid_ints {P : Program} {w : World} {laid : List (String × DataW Unit)} {n : String} {k : IntKind} {ns : List Int} {g t e N : Nat} (h : laidMet P laid w) (hm : (n, DataW.agg (ns.map fun x => .lit (.int k x))) ∈ laid)
    (hg : P.globalNamed n = some g) (ht : (P.globals[g]?).map (·.type) = some t) (hu : P.underlying t = some (.array N e)) (he : P.underlying e = some (.int k)) (hc : P.cellsOf e = 1) (hN : P.cellsOf t = N) :
    ∃ (arr : Array Value) (e' : TypeId) (fz : Nat × Nat), w.heap[g]? = some (.cells arr e' fz) ∧ arr.toList = ns.map (.int k ·) := by
  obtain ⟨ps, hl, _⟩ := h
  obtain ⟨g', t', cs, fuel, p, e1, e2, e3, e4⟩ := laid_mem hl hm
  rw [hg] at e1
  simp only [Option.some.injEq] at e1; subst e1
  rw [ht] at e2
  simp only [Option.some.injEq] at e2; subst e2
  obtain ⟨xs, m, _, ex, hlen, hxl, hel⟩ := DataW.trod_array hu e4
  have hh : ∃ e' fz, w.heap[g]? = some (.cells cs e' fz) := by
    simp only [World.var?, hg, Option.bind_some] at e3
    split at e3
    · rename_i c e' fz hw
      simp only [Option.some.injEq] at e3; subst e3
      exact ⟨e', fz, hw⟩
    · simp at e3
  obtain ⟨e', fz, hw⟩ := hh
  refine ⟨cs, e', fz, hw, ?_⟩
  simp only [Prod.mk.injEq, DataW.agg.injEq] at ex
  have hmap := ex.1
  have hlen2 : ns.length = N := by
    have := congrArg List.length hmap
    simp only [List.length_map] at this
    omega
  refine List.ext_getElem? fun i => ?_
  by_cases hi : i < N
  · have h1 := hel i hi
    rw [hc, Nat.mul_one] at h1
    have hx : xs[i]? = some (xs[i]'(by omega)) := List.getElem?_eq_getElem (by omega)
    rw [hx] at h1
    obtain ⟨v, hv, hx2, _⟩ := DataW.trod_int he h1
    have h2 : (ns.map fun x => (DataW.lit (.int k x) : DataW Unit))[i]? = (xs.map (·.1))[i]? := by rw [hmap]
    rw [List.getElem?_map, List.getElem?_map, hx, hx2, List.getElem?_eq_getElem (by omega)] at h2
    simp only [Option.map_some, Option.some.injEq, DataW.lit.injEq, Lit.int.injEq, true_and] at h2
    rw [List.getElem?_map, List.getElem?_eq_getElem (l := ns) (by omega), Option.map_some, h2]
    have h3 : ((cs.toList.drop i).take 1)[0]? = some (.int k v) := by rw [hv]; rfl
    rw [List.getElem?_take, if_pos (by omega), List.getElem?_drop, Nat.add_zero] at h3
    exact h3
  · rw [List.getElem?_eq_none (by omega), List.getElem?_eq_none (by simp; omega)]
end Go.Vi
