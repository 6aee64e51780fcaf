/- Each operation of the interpreter does what the model's operation does: literals, cuts, fields of values. No condition. -/
import Derived.Test.YtjlckbphpmogjaaGreatDoorSfViS2
namespace Go.Vi
open Go.RowKit
set_option linter.unusedSimpArgs false
set_option linter.unusedVariables false
section
variable {E : Env} {P : Program} {ρ : Rho} {m m' : AMem} {w : World} {r : List AV} {a : Act} {o : Oper} {v : AV}

theorem foldl_set (off : Nat) : ∀ (vs : List Value) (k : Nat) (arr : Array Value), off + k + vs.length ≤ arr.size →
    ((vs.zipIdx k).foldl (fun cs (x : Value × Nat) => cs.setIfInBounds (off + x.2) x.1) arr).size = arr.size ∧
    ∀ i, ((vs.zipIdx k).foldl (fun cs (x : Value × Nat) => cs.setIfInBounds (off + x.2) x.1) arr)[i]? = if off + k ≤ i ∧ i < off + k + vs.length then vs[i - (off + k)]? else arr[i]?
  | [], k, arr, _ => ⟨rfl, fun i => by rw [if_neg (by simp)]; rfl⟩
  | v :: vs, k, arr, h => by
    simp only [List.length_cons] at h
    obtain ⟨h1, h2⟩ := foldl_set off vs (k + 1) (arr.setIfInBounds (off + k) v) (by simp; omega)
    simp only [List.zipIdx_cons, List.foldl_cons]
    refine ⟨by rw [h1]; simp, fun i => ?_⟩
    rw [h2 i]
    simp only [List.length_cons]
    by_cases hk : off + k = i
    · subst hk
      rw [if_neg (by omega), if_pos (by omega), Array.getElem?_setIfInBounds_self, if_pos (by omega)]; simp
    · by_cases hk2 : off + (k + 1) ≤ i ∧ i < off + (k + 1) + vs.length
      · rw [if_pos hk2, if_pos (by omega), show i - (off + k) = (i - (off + (k + 1))) + 1 by omega]
        simp
      · rw [if_neg hk2, if_neg (by omega), Array.getElem?_setIfInBounds_ne hk]

theorem VRL.splice {c : List AV} {arr arr' : Array Value} {l : List AV} {vs : List Value} (off : Nat) (hc : VRL ρ c arr.toList) (hl : VRL ρ l vs) (h : off + l.length ≤ c.length) (hs : arr'.size = arr.size)
    (hg : ∀ i, arr'[i]? = if off ≤ i ∧ i < off + vs.length then vs[i - off]? else arr[i]?) : VRL ρ (splice c off l) arr'.toList := by
  have h1 := hc.length
  have h2 := hl.length
  refine VRL.of_get (by rw [length_splice _ _ _ h, h1]; simp [hs]) fun k x hk => ?_
  rw [get_splice _ _ _ h] at hk
  rw [Array.getElem?_toList, hg]
  by_cases hin : off ≤ k ∧ k < off + l.length
  · rw [if_pos hin] at hk
    rw [if_pos (by omega)]
    exact hl.get _ _ hk
  · rw [if_neg hin] at hk
    rw [if_neg (by omega)]
    simpa using hc.get _ _ hk

def PS (place : Nat → Option (Nat × Nat)) (ρ : Rho) (r : List AV) : List (Nat × Nat × X) → List (Nat × Value) → Prop
  | [], [] => True
  | (o, n, x) :: ps, (i, v) :: vs => place i = some (o, n) ∧ VR ρ (x.ev r) v ∧ PS place ρ r ps vs
  | _, _ => False

theorem fill_sound {place : Nat → Option (Nat × Nat)} : ∀ (ps : List (Nat × Nat × X)) (parts : List (Nat × Value)) (c : List AV) (arr : Array Value) (res : List AV), PS place ρ r ps parts → VRL ρ c arr.toList → fillE r ps c = some res → ∃ arr', Instr.fill place arr parts = some arr' ∧ VRL ρ res arr'.toList
  | [], [], c, arr, res, _, hc, h => by simp only [fillE, Option.some.injEq] at h; subst h; exact ⟨arr, rfl, hc⟩
  | [], _ :: _, _, _, _, hp, _, _ => by simp [PS] at hp
  | _ :: _, [], _, _, _, hp, _, _ => by simp [PS] at hp
  | (o, n, x) :: ps, (i, v) :: vs, c, arr, res, hp, hc, h => by
    simp only [PS] at hp
    obtain ⟨hi, hv, hps⟩ := hp
    simp only [fillE] at h
    split at h
    · rename_i hh
      obtain ⟨h1, h2, h3⟩ := hh
      have hl : VRL ρ (x.ev r).cells v.cells.toList := hv.cells fun l hl => by rw [hl] at h3; simp [AV.cells, AV.one] at h3
      have e1 := hl.length
      have e2 := hc.length
      simp only [Array.length_toList] at e1 e2
      obtain ⟨g1, g2⟩ := foldl_set o v.cells.toList 0 arr (by simp; omega)
      have hz : v.cells.zipIdx.foldl (fun cs (x : Value × Nat) => cs.setIfInBounds (o + x.2) x.1) arr = (v.cells.toList.zipIdx 0).foldl (fun cs (x : Value × Nat) => cs.setIfInBounds (o + x.2) x.1) arr := by
        rw [← Array.foldl_toList, Array.toList_zipIdx]
      obtain ⟨arr', f1, f2⟩ := fill_sound ps vs (splice c o (x.ev r).cells) (v.cells.zipIdx.foldl (fun cs (x : Value × Nat) => cs.setIfInBounds (o + x.2) x.1) arr) res hps
        (VRL.splice o hc hl (by omega) (by rw [hz]; exact g1) (fun i => by rw [hz]; simpa using g2 i)) h
      refine ⟨arr', ?_, f2⟩
      simp only [Instr.fill, hi]
      rw [if_neg]
      · exact f1
      · simp; omega
    · simp at h

theorem run_mapM_list {α β : Type} {g : α → Sem β} {h : α → β} : ∀ (l : List α), (∀ x ∈ l, (g x).run P w = .ok (h x) w) → (l.mapM g).run P w = .ok (l.map h) w
  | [], _ => rfl
  | x :: l, hx => by
    rw [List.mapM_cons]
    simp [hx x (List.mem_cons_self ..), run_mapM_list l fun y hy => hx y (List.mem_cons_of_mem _ hy)]

theorem run_mapM {α β : Type} {g : α → Sem β} {h : α → β} (l : Array α) (hx : ∀ x ∈ l.toList, (g x).run P w = .ok (h x) w) : (l.mapM g).run P w = .ok (l.map h) w := by
  rw [Array.mapM_eq_mapM_toList]
  simp only [Sem.run_map, run_mapM_list l.toList hx, Result.andThen_ok]
  rw [← Array.toList_map, Array.toArray_toList]

theorem sound_buildS {t : TypeId} {i : TypeInfo} {z : Value} {fs : Array Field} {c : List AV} {parts : Array (Nat × Operand)} {ps : List (Nat × Nat × X)} {sz : Field → Nat}
    (ho : o.op = .build t parts) (hi : P.info? t = some i) (hz : i.zero = some z) (hc : ∀ ρ, VRL ρ c z.cells.toList) (ht : P.underlying t = some (.struct fs)) (hsz : ∀ f ∈ fs.toList, (P.info? f.type).map (·.size) = some (sz f))
    (hp : PS (fun k => (fs.map fun f => (f.offset, sz f))[k]?) ρ r ps (parts.map fun q => (q.1, a.eval q.2)).toList) (hR : Rep E ρ m w) (he : exec (.build c ps) r m = some (v, m')) : Step1 E P (execOp a.eval o) ρ m w v m' := by
  simp only [exec] at he
  obtain ⟨u, hu, he⟩ := Option.map_eq_some_iff.1 he
  simp only [Prod.mk.injEq] at he
  obtain ⟨rfl, rfl⟩ := he
  obtain ⟨arr', f1, f2⟩ := fill_sound ps _ c z.cells u hp (hc ρ) hu
  have hm : (fs.mapM fun f => (do pure (f.offset, ← sizeOf f.type) : Sem (Nat × Nat))).run P w = .ok (fs.map fun f => (f.offset, sz f)) w := run_mapM fs fun f hf => by
    obtain ⟨j, hj, hs⟩ := Option.map_eq_some_iff.1 (hsz f hf)
    simp [run_size hj, hs]
  refine Step1.pure hR (.agg arr') ?_ ⟨arr', rfl, f2⟩
  simp only [execOp, ho, Instr.build, Sem.run_bind, run_zero hi hz, run_und ht, Result.andThen_ok, hm, f1]
  rfl

theorem sound_buildA {t e : TypeId} {i j : TypeInfo} {z : Value} {n esz : Nat} {c : List AV} {parts : Array (Nat × Operand)} {ps : List (Nat × Nat × X)}
    (ho : o.op = .build t parts) (hi : P.info? t = some i) (hz : i.zero = some z) (hc : ∀ ρ, VRL ρ c z.cells.toList) (ht : P.underlying t = some (.array n e)) (hj : P.info? e = some j) (hsz : j.size = esz)
    (hp : PS (fun k => some (k * esz, esz)) ρ r ps (parts.map fun q => (q.1, a.eval q.2)).toList) (hR : Rep E ρ m w) (he : exec (.build c ps) r m = some (v, m')) : Step1 E P (execOp a.eval o) ρ m w v m' := by
  simp only [exec] at he
  obtain ⟨u, hu, he⟩ := Option.map_eq_some_iff.1 he
  simp only [Prod.mk.injEq] at he
  obtain ⟨rfl, rfl⟩ := he
  obtain ⟨arr', f1, f2⟩ := fill_sound ps _ c z.cells u hp (hc ρ) hu
  refine Step1.pure hR (.agg arr') ?_ ⟨arr', rfl, f2⟩
  simp only [execOp, ho, Instr.build, Sem.run_bind, run_zero hi hz, run_und ht, Result.andThen_ok, run_size hj, hsz, f1]
  rfl

theorem fillE_one : ∀ (ps : List (Nat × Nat × X)) (c res : List AV), c.all AV.one = true → fillE r ps c = some res → res.all AV.one = true
  | [], c, res, hc, h => by simp only [fillE, Option.some.injEq] at h; subst h; exact hc
  | (o, n, x) :: ps, c, res, hc, h => by
    simp only [fillE] at h
    split at h
    · rename_i hh
      refine fillE_one ps _ res ?_ h
      unfold splice
      simp only [List.all_append, Bool.and_eq_true]
      refine ⟨?_, hh.2.2, ?_⟩
      · simp only [List.all_eq_true] at hc ⊢; exact fun x hx => hc x (List.mem_of_mem_take hx)
      · simp only [List.all_eq_true] at hc ⊢; exact fun x hx => hc x (List.mem_of_mem_drop hx)
    · simp at h

theorem sound_bsl {t e : TypeId} {j : TypeInfo} {z : Value} {len esz : Nat} {c zc : List AV} {parts : Array (Nat × Operand)} {ps : List (Nat × Nat × X)}
    (ho : o.op = .buildSlice t len parts) (ht : P.underlying t = some (.slice e)) (hj : P.info? e = some j) (hsz : j.size = esz) (hbig : len * esz ≤ 16777216) (hz : j.zero = some z) (hzc : ∀ ρ, VRL ρ zc z.cells.toList) (h0 : zc ≠ [])
    (hc : c = (List.range (len * esz)).map fun k => zc.getD (k % zc.length) un) (h1 : c.all AV.one = true)
    (hp : PS (fun k => some (k * esz, esz)) ρ r ps (parts.map fun q => (q.1, a.eval q.2)).toList) (hR : Rep E ρ m w) (he : exec (.bsl esz len c ps) r m = some (v, m')) : Step1 E P (execOp a.eval o) ρ m w v m' := by
  simp only [exec] at he
  obtain ⟨u, hu, he⟩ := Option.map_eq_some_iff.1 he
  simp only [Prod.mk.injEq] at he
  obtain ⟨rfl, rfl⟩ := he
  have hzl : zc.length = z.cells.size := by have := (hzc ρ).length; simpa using this
  have hzpos : 0 < zc.length := List.length_pos_iff.2 h0
  have hc0 : ∀ zero : Array Value, (len * esz = 0 ∨ zero = z.cells) → VRL ρ c ((Array.range (len * esz)).map fun k => zero[k % zero.size]!).toList := by
    intro zero hzero
    subst hc
    refine VRL.of_get (by simp) fun k x hk => ?_
    rw [List.getElem?_map] at hk
    obtain ⟨q, hq, rfl⟩ := Option.map_eq_some_iff.1 hk
    obtain ⟨hq1, rfl⟩ := List.getElem?_eq_some_iff.1 hq
    simp at hq1
    rcases hzero with hzero | rfl
    · omega
    · have hm : k % zc.length < zc.length := Nat.mod_lt _ hzpos
      obtain ⟨v', e', hr⟩ := (hzc ρ).get (k % zc.length) zc[k % zc.length] (List.getElem?_eq_getElem hm)
      refine ⟨v', ?_, by simpa [List.getD, hm] using hr⟩
      have e2 : z.cells[k % zc.length]? = some v' := by simpa using e'
      simp only [Array.toList_map, List.getElem?_map, Array.getElem?_toList]
      rw [Array.getElem?_range, if_pos hq1]
      simp only [Option.map_some, ← hzl]
      rw [getElem!_def, e2]
  have fin : ∀ zero : Array Value, (len * esz = 0 ∨ zero = z.cells) → (if len * esz = 0 then zero = #[] else zero = z.cells) → Step1 E P (execOp a.eval o) ρ m w (.sl (some (m.next, 0)) len len true) (m.new (.cells u true esz)) := by
    intro zero hz0 hz1
    obtain ⟨arr', f1, f2⟩ := fill_sound ps _ c _ u hp (hc0 zero hz0) hu
    have hone := fillE_one ps c u h1 hu
    obtain ⟨g1, g2⟩ := hR.newRow e u arr'.toList #[] esz 0 f2 (by simpa using hone) (by simp) (0, 0) (by simp) nofun w.drawn
    refine ⟨_, _, .slice (some ⟨w.heap.size, 0, none⟩) len len, .inl ?_, ⟨_, Rho.put_self _ _ _, by simp⟩, g1, g2⟩
    simp only [execOp, ho, Instr.buildSlice, Sem.run_bind, run_und ht, Result.andThen_ok, run_size hj, hsz]
    rw [if_neg (by omega)]
    by_cases h : len * esz = 0
    · rw [if_pos h] at hz1 ⊢
      subst hz1
      simp only [Sem.run_bind, Sem.run_pure, Result.andThen_ok, f1]
      simp [newRow]
    · rw [if_neg h] at hz1 ⊢
      subst hz1
      simp only [Sem.run_bind, Sem.run_pure, run_zero hj hz, Result.andThen_ok, f1]
      simp [newRow]
  by_cases h : len * esz = 0
  · exact fin #[] (.inl h) (by rw [if_pos h])
  · exact fin z.cells (.inr rfl) (by rw [if_neg h])

theorem run_bound {x : X} {v' : Value} {y n : Nat} {code : BoundsCode} (hx : VR ρ (x.ev r) v') (h : boundE (x.ev r) y = some n) : (Instr.sliceBound v' y code).run P w = .ok n w := by
  unfold boundE at h
  split at h
  · rename_i k q e1
    rw [e1] at hx
    split at h
    · rename_i hq
      simp only [Option.some.injEq] at h; subst h
      simp [Instr.sliceBound, hx.int, asIntOf, hq]
    · simp at h
  · simp at h

def OXR (ρ : Rho) (r : List AV) : Option X → Option Value → Prop
  | none, none => True
  | some x, some v => VR ρ (x.ev r) v
  | _, _ => False

theorem run_low {α : Type} {lo : Option X} {lo' : Option Value} {h ll : Nat} (hll : (match lo with | some x => boundE (x.ev r) h | none => some 0) = some ll) (hl : OXR ρ r lo lo') (code : BoundsCode) (K : Nat → Sem α) :
    (match (generalizing := false) lo' with | some v => (do let l ← Instr.sliceBound v h code; K l) | none => (do let l ← pure 0; K l) : Sem α).run P w = (K ll).run P w ∧ ll ≤ h := by
  cases lo <;> cases lo' <;> simp only [OXR] at hl <;> first | exact hl.elim | skip
  · simp at hll; subst hll; exact ⟨rfl, by omega⟩
  · refine ⟨?_, ?_⟩
    · simp only [Sem.run_bind, run_bound hl hll, Result.andThen_ok]
    · simp only [boundE] at hll
      split at hll
      · split at hll
        · simp only [Option.some.injEq] at hll; omega
        · simp at hll
      · simp at hll

theorem run_bounds {lo hi mx : Option X} {lo' hi' mx' : Option Value} (hl : OXR ρ r lo lo') (hh : OXR ρ r hi hi') (hm : OXR ρ r mx mx') {isS : Bool} {len cap cap' l h k : Nat} (hb : boundsE r len cap lo hi mx = some (l, h, k)) (hcap : cap ≤ cap') :
    ∃ k', (Instr.sliceBounds isS len cap' lo' hi' mx').run P w = .ok (l, h, k') w ∧ k' = (if mx.isSome then k else cap') ∧ (mx.isSome = false → k = cap) ∧ l ≤ h ∧ (hi.isSome → h ≤ k) ∧ (mx.isSome → k ≤ cap ∧ h ≤ k) := by
  have bmono : ∀ {x : X} {y y' n : Nat}, boundE (x.ev r) y = some n → y ≤ y' → boundE (x.ev r) y' = some n ∧ n ≤ y := by
    intro x y y' n hb' hy
    unfold boundE at hb' ⊢
    split at hb'
    · split at hb'
      · rename_i hq
        rw [if_pos (by omega)]
        simp only [Option.some.injEq] at hb'
        exact ⟨by rw [hb'], by omega⟩
      · simp at hb'
    · simp at hb'
  unfold boundsE at hb
  split at hb
  · simp at hb
  rename_i mm hmm
  split at hb
  · simp at hb
  rename_i hh' hhh
  split at hb
  · simp at hb
  rename_i ll hll
  simp only [Option.some.injEq, Prod.mk.injEq] at hb
  obtain ⟨rfl, rfl, rfl⟩ := hb
  have hl2 : ll ≤ hh' := (run_low (P := P) (w := w) hll hl .sliceB (fun l => (pure l : Sem Nat))).2
  cases mx with
  | none =>
    cases mx' with
    | some _ => exact hm.elim
    | none =>
      simp only [Option.some.injEq] at hmm
      subst hmm
      refine ⟨cap', ?_, by simp, by simp, hl2, ?_, by simp⟩
      · cases hi <;> cases hi' <;> simp only [OXR] at hh <;> first | exact hh.elim | skip
        · simp at hhh; subst hhh
          unfold Instr.sliceBounds
          simp only [Sem.run_bind, Sem.run_pure, Result.andThen_ok, Option.isSome_none, Bool.false_eq_true, if_false]
          exact (run_low hll hl .sliceB (fun l => (pure (l, len, cap') : Sem (Nat × Nat × Nat)))).1
        · unfold Instr.sliceBounds
          simp only [Sem.run_bind, Sem.run_pure, Result.andThen_ok, Option.isSome_none, Bool.false_eq_true, if_false]
          rw [run_bound hh (bmono hhh hcap).1]
          simp only [Result.andThen_ok]
          exact (run_low hll hl .sliceB (fun l => (pure (l, hh', cap') : Sem (Nat × Nat × Nat)))).1
      · intro hs
        cases hi with
        | none => simp at hs
        | some x => exact (bmono hhh (Nat.le_refl _)).2
  | some x =>
    cases mx' with
    | none => exact hm.elim
    | some mv =>
      have hmb := bmono hmm hcap
      cases hi with
      | none => simp at hhh
      | some y =>
        cases hi' with
        | none => exact hh.elim
        | some hv =>
          refine ⟨mm, ?_, by simp, by simp, hl2, fun _ => (bmono hhh (Nat.le_refl _)).2, fun _ => ⟨hmb.2, (bmono hhh (Nat.le_refl _)).2⟩⟩
          unfold Instr.sliceBounds
          simp only [Sem.run_bind, Result.andThen_ok]
          rw [run_bound hm hmb.1]
          simp only [Result.andThen_ok]
          rw [run_bound hh hhh]
          simp only [Result.andThen_ok, Option.isSome_some, if_true]
          exact (run_low hll hl .slice3C (fun l => (pure (l, hh', mm) : Sem (Nat × Nat × Nat)))).1

theorem sound_sls {t : TypeId} {x : Operand} {x' : X} {lo hi : Option Operand} {lo' hi' : Option X} (ho : o.op = .slice t x lo hi none) (ht : P.underlying t = some .string) (hx : VR ρ (x'.ev r) (a.eval x)) (hl : OXR ρ r lo' (lo.map a.eval)) (hh : OXR ρ r hi' (hi.map a.eval)) (hR : Rep E ρ m w) (he : exec (.sls x' lo' hi') r m = some (v, m')) : Step1 E P (execOp a.eval o) ρ m w v m' := by
  simp only [exec] at he
  split at he
  · rename_i b e1
    rw [e1] at hx
    split at he
    · rename_i l h k hb
      simp only [Option.some.injEq, Prod.mk.injEq] at he
      obtain ⟨rfl, rfl⟩ := he
      obtain ⟨k', hrun, _⟩ := run_bounds (P := P) (w := w) (isS := false) hl hh (show OXR ρ r none none from trivial) hb (Nat.le_refl _)
      refine Step1.pure hR (.string (b.extract l h)) ?_ (VR.mkS _)
      simp only [execOp, ho, hx.str, Instr.sliceAt, Instr.slice, Sem.run_bind, run_und ht, Result.andThen_ok, Option.map_none, Option.isSome_none, Bool.false_eq_true, if_false]
      simp only [hrun, Result.andThen_ok]
      rfl
    · simp at he
  · simp at he

theorem sound_slc {t e : TypeId} {i : TypeInfo} {esz : Nat} {x : Operand} {x' : X} {lo hi mx : Option Operand} {lo' hi' mx' : Option X} (ho : o.op = .slice t x lo hi mx) (ht : P.underlying t = some (.slice e)) (hi0 : P.info? e = some i) (hsz : i.size = esz)
    (hx : VR ρ (x'.ev r) (a.eval x)) (hl : OXR ρ r lo' (lo.map a.eval)) (hh : OXR ρ r hi' (hi.map a.eval)) (hm : OXR ρ r mx' (mx.map a.eval)) (hR : Rep E ρ m w) (he : exec (.slc esz x' lo' hi' mx') r m = some (v, m')) : Step1 E P (execOp a.eval o) ρ m w v m' := by
  simp only [exec] at he
  split at he
  · rename_i q len cap ex e1
    rw [e1] at hx
    split at he
    · rename_i l h k hb
      have fin : ∀ (A : Option Addr) (capc : Nat), a.eval x = .slice A len capc → cap ≤ capc → ∃ k', (execOp a.eval o).run P w = .ok (.value (.slice (if k' = l then A else A.map (·.add (l * esz))) (h - l) (k' - l))) w ∧ k' = (if mx'.isSome then k else capc) ∧ (mx'.isSome = false → k = cap) ∧ l ≤ h := by
        intro A capc hA hcap
        obtain ⟨k', hrun, h1, h2, h3, _⟩ := run_bounds (P := P) (w := w) (isS := true) hl hh hm hb hcap
        refine ⟨k', ?_, h1, h2, h3⟩
        simp [execOp, ho, hA, Instr.sliceAt, Instr.slice, run_und ht, hrun, run_size hi0, hsz]
      split at he
      · simp only [VR] at hx
        simp only [Option.some.injEq, Prod.mk.injEq] at he
        obtain ⟨rfl, rfl⟩ := he
        obtain ⟨k', hrun, h1, h2, h3⟩ := fin none cap hx (Nat.le_refl _)
        have hk : k' = k := by
          cases hmm : mx'.isSome with
          | true => rw [hmm] at h1; simpa using h1
          | false => rw [hmm] at h1; rw [h2 hmm]; simpa using h1
        subst hk
        refine Step1.pure hR _ hrun ?_
        simp [VR]
      · rename_i j q0
        obtain ⟨t', ht', hv⟩ := hx
        obtain ⟨k', hrun, h1, h2, h3⟩ := fin _ _ hv (by split <;> omega)
        split at he
        · rename_i hex
          simp only [Option.some.injEq, Prod.mk.injEq] at he
          obtain ⟨rfl, rfl⟩ := he
          have hk : k' = k := by
            cases hmm : mx'.isSome with
            | true => rw [hmm] at h1; simpa using h1
            | false =>
              rw [hmm] at h1 hex
              have hex' : ex = true := by simpa using hex
              rw [h2 hmm]; simpa [hex'] using h1
          subst hk
          refine Step1.pure hR _ hrun ⟨t', ht', ?_⟩
          simp only [if_true]
          by_cases hkl : k' = l
          · rw [if_pos hkl, if_pos hkl]
          · rw [if_neg hkl, if_neg hkl]; simp [addr_add, Nat.add_assoc]
        · rename_i hex
          have hex1 : ex = false := by cases ex <;> simp_all
          have hex2 : mx'.isSome = false := by cases hq : mx'.isSome <;> simp_all
          rw [hex2] at h1
          simp only [hex1, Bool.false_eq_true, if_false] at h1
          have hk := h2 hex2
          split at he
          · rename_i hlk
            simp only [Option.some.injEq, Prod.mk.injEq] at he
            obtain ⟨rfl, rfl⟩ := he
            refine Step1.pure hR _ hrun ⟨t', ht', ?_⟩
            rw [if_neg (by omega)]
            simp only [Option.map_some, addr_add, Bool.false_eq_true, if_false, Nat.add_assoc]
            congr 1; omega
          · split at he
            · rename_i hl0
              simp only [Option.some.injEq, Prod.mk.injEq] at he
              obtain ⟨rfl, rfl⟩ := he
              subst hl0
              refine Step1.pure hR _ hrun ⟨t', ht', ?_⟩
              simp only [Nat.zero_mul, Option.map_some, addr_add, Nat.add_zero, ite_self, Bool.false_eq_true, if_false, Nat.sub_zero]
              congr 1; omega
            · split at he
              · rename_i hhl
                simp only [Option.some.injEq, Prod.mk.injEq] at he
                obtain ⟨rfl, rfl⟩ := he
                rw [show h - l = 0 by omega] at hrun
                refine Step1.pure hR _ hrun ?_
                split
                · exact ⟨_, _, rfl⟩
                · exact ⟨_, _, rfl⟩
              · simp at he
    · simp at he
  · simp at he

end
end Go.Vi
