/- Each operation of the interpreter does what the model's operation does: literals, cuts, fields of values. No condition. -/
import Derived.Test.YtfbglgmhhmeoeaaGreatDoorWbViS2
namespace Go.Vi
open Go.RowKit
set_option linter.unusedSimpArgs false
set_option linter.unusedVariables false
section
variable {E : Env} {P : Program} {ρ : Rho} {m m' : AMem} {w : World} {r : List AV} {a : Act} {o : Oper} {v : AV}
theorem foldl_set (off : Nat) : ∀ (vs : List Value) (k : Nat) (arr : Array Value), off + k + vs.length ≤ arr.size →
  ((vs.zipIdx k).foldl (fun cs (x : Value × Nat) => cs.setIfInBounds (off + x.2) x.1) arr).size = arr.size ∧
  ∀ i, ((vs.zipIdx k).foldl (fun cs (x : Value × Nat) => cs.setIfInBounds (off + x.2) x.1) arr)[i]? = if off + k ≤ i ∧ i < off + k + vs.length then vs[i - (off + k)]? else arr[i]?
 | [], k, arr, _ => ⟨rfl, fun i => by rw [if_neg (by simp)]; rfl⟩
 | v :: vs, k, arr, h => by
   simp only [List.length_cons] at h
   obtain ⟨h1, h2⟩ := foldl_set off vs (k + 1) (arr.setIfInBounds (off + k) v) (by simp; omega)
   simp only [List.zipIdx_cons, List.foldl_cons]
   refine ⟨by rw [h1]; simp, fun i => ?_⟩
   rw [h2 i]
   simp only [List.length_cons]
   by_cases hk : off + k = i
   ·subst hk
    rw [if_neg (by omega), if_pos (by omega), Array.getElem?_setIfInBounds_self, if_pos (by omega)]; simp
   ·by_cases hk2 : off + (k + 1) ≤ i ∧ i < off + (k + 1) + vs.length
    ·rw [if_pos hk2, if_pos (by omega), show i - (off + k) = (i - (off + (k + 1))) + 1 by omega]
     simp
    ·rw [if_neg hk2, if_neg (by omega), Array.getElem?_setIfInBounds_ne hk]
theorem VRL.splice {c : List AV} {arr arr' : Array Value} {l : List AV} {vs : List Value} (off : Nat) (hc : VRL ρ c arr.toList) (hl : VRL ρ l vs) (h : off + l.length ≤ c.length) (hs : arr'.size = arr.size)
  (hg : ∀ i, arr'[i]? = if off ≤ i ∧ i < off + vs.length then vs[i - off]? else arr[i]?) : VRL ρ (splice c off l) arr'.toList := by
 have h1 := hc.length
 have h2 := hl.length
 refine VRL.of_get (by rw [length_splice _ _ _ h, h1]; simp [hs]) fun k x hk => ?_
 rw [get_splice _ _ _ h] at hk
 rw [Array.getElem?_toList, hg]
 by_cases hin : off ≤ k ∧ k < off + l.length
 ·rw [if_pos hin] at hk
  rw [if_pos (by omega)]
  exact hl.get _ _ hk
 ·rw [if_neg hin] at hk
  rw [if_neg (by omega)]
  simpa using hc.get _ _ hk
def PS (place : Nat → Option (Nat × Nat)) (ρ : Rho) (r : List AV) : List (Nat × Nat × X) → List (Nat × Value) → Prop
 | [], [] => True
 | (o, n, x) :: ps, (i, v) :: vs => place i = some (o, n) ∧ VR ρ (x.ev r) v ∧ PS place ρ r ps vs
 | _, _ => False
theorem fill_sound {place : Nat → Option (Nat × Nat)} : ∀ (ps : List (Nat × Nat × X)) (parts : List (Nat × Value)) (c : List AV) (arr : Array Value) (res : List AV), PS place ρ r ps parts → VRL ρ c arr.toList → fillE r ps c = some res → ∃ arr', Instr.fill place arr parts = some arr' ∧ VRL ρ res arr'.toList
 | [], [], c, arr, res, _, hc, h => by simp only [fillE, Option.some.injEq] at h; subst h; exact ⟨arr, rfl, hc⟩
 | [], _ :: _, _, _, _, hp, _, _ => by simp [PS] at hp
 | _ :: _, [], _, _, _, hp, _, _ => by simp [PS] at hp
 | (o, n, x) :: ps, (i, v) :: vs, c, arr, res, hp, hc, h => by
   simp only [PS] at hp
   obtain ⟨hi, hv, hps⟩ := hp
   simp only [fillE] at h
   split at h
   ·rename_i hh
    obtain ⟨h1, h2, h3⟩ := hh
    have hl : VRL ρ (x.ev r).cells v.cells.toList := hv.cells fun l hl => by rw [hl] at h3; simp [AV.cells, AV.one] at h3
    have e1 := hl.length
    have e2 := hc.length
    simp only [Array.length_toList] at e1 e2
    obtain ⟨g1, g2⟩ := foldl_set o v.cells.toList 0 arr (by simp; omega)
    have hz : v.cells.zipIdx.foldl (fun cs (x : Value × Nat) => cs.setIfInBounds (o + x.2) x.1) arr = (v.cells.toList.zipIdx 0).foldl (fun cs (x : Value × Nat) => cs.setIfInBounds (o + x.2) x.1) arr := by
     rw [← Array.foldl_toList, Array.toList_zipIdx]
    obtain ⟨arr', f1, f2⟩ := fill_sound ps vs (splice c o (x.ev r).cells) (v.cells.zipIdx.foldl (fun cs (x : Value × Nat) => cs.setIfInBounds (o + x.2) x.1) arr) res hps
     (VRL.splice o hc hl (by omega) (by rw [hz]; exact g1) (fun i => by rw [hz]; simpa using g2 i)) h
    refine ⟨arr', ?_, f2⟩
    simp only [Instr.fill, hi]
    rw [if_neg]
    ·exact f1
    ·simp; omega
   ·simp at h
theorem run_mapM_list {α β : Type} {g : α → Sem β} {h : α → β} : ∀ (l : List α), (∀ x ∈ l, (g x).run P w = .ok (h x) w) → (l.mapM g).run P w = .ok (l.map h) w
 | [], _ => rfl
 | x :: l, hx => by
   rw [List.mapM_cons]
   simp [hx x (List.mem_cons_self ..), run_mapM_list l fun y hy => hx y (List.mem_cons_of_mem _ hy)]
theorem run_mapM {α β : Type} {g : α → Sem β} {h : α → β} (l : Array α) (hx : ∀ x ∈ l.toList, (g x).run P w = .ok (h x) w) : (l.mapM g).run P w = .ok (l.map h) w := by
 rw [Array.mapM_eq_mapM_toList]
 simp only [Sem.run_map, run_mapM_list l.toList hx, Result.andThen_ok]
 rw [← Array.toList_map, Array.toArray_toList]
theorem sound_buildS {t : TypeId} {i : TypeInfo} {z : Value} {fs : Array Field} {c : List AV} {parts : Array (Nat × Operand)} {ps : List (Nat × Nat × X)} {sz : Field → Nat}
  (ho : o.op = .build t parts) (hi : P.info? t = some i) (hz : i.zero = some z) (hc : ∀ ρ, VRL ρ c z.cells.toList) (ht : P.underlying t = some (.struct fs)) (hsz : ∀ f ∈ fs.toList, (P.info? f.type).map (·.size) = some (sz f))
  (hp : PS (fun k => (fs.map fun f => (f.offset, sz f))[k]?) ρ r ps (parts.map fun q => (q.1, a.eval q.2)).toList) (hR : Rep E ρ m w) (he : exec (.build c ps) r m = some (v, m')) : Step1 E P (execOp a.eval o) ρ m w v m' := by
 simp only [exec] at he
 obtain ⟨u, hu, he⟩ := Option.map_eq_some_iff.1 he
 simp only [Prod.mk.injEq] at he
 obtain ⟨rfl, rfl⟩ := he
 obtain ⟨arr', f1, f2⟩ := fill_sound ps _ c z.cells u hp (hc ρ) hu
 have hm : (fs.mapM fun f => (do pure (f.offset, ← sizeOf f.type) : Sem (Nat × Nat))).run P w = .ok (fs.map fun f => (f.offset, sz f)) w := run_mapM fs fun f hf => by
  obtain ⟨j, hj, hs⟩ := Option.map_eq_some_iff.1 (hsz f hf)
  simp [run_size hj, hs]
 refine Step1.pure hR (.agg arr') ?_ ⟨arr', rfl, f2⟩
 simp only [execOp, ho, Instr.build, Sem.run_bind, run_zero hi hz, run_und ht, Result.andThen_ok, hm, f1]
 rfl
theorem sound_buildA {t e : TypeId} {i j : TypeInfo} {z : Value} {n esz : Nat} {c : List AV} {parts : Array (Nat × Operand)} {ps : List (Nat × Nat × X)}
  (ho : o.op = .build t parts) (hi : P.info? t = some i) (hz : i.zero = some z) (hc : ∀ ρ, VRL ρ c z.cells.toList) (ht : P.underlying t = some (.array n e)) (hj : P.info? e = some j) (hsz : j.size = esz)
  (hp : PS (fun k => some (k * esz, esz)) ρ r ps (parts.map fun q => (q.1, a.eval q.2)).toList) (hR : Rep E ρ m w) (he : exec (.build c ps) r m = some (v, m')) : Step1 E P (execOp a.eval o) ρ m w v m' := by
 simp only [exec] at he
 obtain ⟨u, hu, he⟩ := Option.map_eq_some_iff.1 he
 simp only [Prod.mk.injEq] at he
 obtain ⟨rfl, rfl⟩ := he
 obtain ⟨arr', f1, f2⟩ := fill_sound ps _ c z.cells u hp (hc ρ) hu
 refine Step1.pure hR (.agg arr') ?_ ⟨arr', rfl, f2⟩
 simp only [execOp, ho, Instr.build, Sem.run_bind, run_zero hi hz, run_und ht, Result.andThen_ok, run_size hj, hsz, f1]
 rfl
theorem fillE_one : ∀ (ps : List (Nat × Nat × X)) (c res : List AV), c.all AV.one = true → fillE r ps c = some res → res.all AV.one = true
 | [], c, res, hc, h => by simp only [fillE, Option.some.injEq] at h; subst h; exact hc
 | (o, n, x) :: ps, c, res, hc, h => by
   simp only [fillE] at h
   split at h
   ·rename_i hh
    refine fillE_one ps _ res ?_ h
    unfold splice
    simp only [List.all_append, Bool.and_eq_true]
    refine ⟨?_, hh.2.2, ?_⟩
    ·simp only [List.all_eq_true] at hc ⊢; exact fun x hx => hc x (List.mem_of_mem_take hx)
    ·simp only [List.all_eq_true] at hc ⊢; exact fun x hx => hc x (List.mem_of_mem_drop hx)
   ·simp at h
theorem sound_bsl {t e : TypeId} {j : TypeInfo} {z : Value} {len esz : Nat} {c zc : List AV} {parts : Array (Nat × Operand)} {ps : List (Nat × Nat × X)}
  (ho : o.op = .buildSlice t len parts) (ht : P.underlying t = some (.slice e)) (hj : P.info? e = some j) (hsz : j.size = esz) (hbig : len * esz ≤ 16777216) (hz : j.zero = some z) (hzc : ∀ ρ, VRL ρ zc z.cells.toList) (h0 : zc ≠ [])
  (hc : c = (List.range (len * esz)).map fun k => zc.getD (k % zc.length) un) (h1 : c.all AV.one = true)
  (hp : PS (fun k => some (k * esz, esz)) ρ r ps (parts.map fun q => (q.1, a.eval q.2)).toList) (hR : Rep E ρ m w) (he : exec (.bsl esz len c ps) r m = some (v, m')) : Step1 E P (execOp a.eval o) ρ m w v m' := by
 simp only [exec] at he
 obtain ⟨u, hu, he⟩ := Option.map_eq_some_iff.1 he
 simp only [Prod.mk.injEq] at he
 obtain ⟨rfl, rfl⟩ := he
 have hzl : zc.length = z.cells.size := by have := (hzc ρ).length; simpa using this
 have hzpos : 0 < zc.length := List.length_pos_iff.2 h0
 have hc0 : ∀ zero : Array Value, (len * esz = 0 ∨ zero = z.cells) → VRL ρ c ((Array.range (len * esz)).map fun k => zero[k % zero.size]!).toList := by
  intro zero hzero
  subst hc
  refine VRL.of_get (by simp) fun k x hk => ?_
  rw [List.getElem?_map] at hk
  obtain ⟨q, hq, rfl⟩ := Option.map_eq_some_iff.1 hk
  obtain ⟨hq1, rfl⟩ := List.getElem?_eq_some_iff.1 hq
  simp at hq1
  rcases hzero with hzero | rfl
  ·omega
  ·have hm : k % zc.length < zc.length := Nat.mod_lt _ hzpos
   obtain ⟨v', e', hr⟩ := (hzc ρ).get (k % zc.length) zc[k % zc.length] (List.getElem?_eq_getElem hm)
   refine ⟨v', ?_, by simpa [List.getD, hm] using hr⟩
   have e2 : z.cells[k % zc.length]? = some v' := by simpa using e'
   simp only [Array.toList_map, List.getElem?_map, Array.getElem?_toList]
   rw [Array.getElem?_range, if_pos hq1]
   simp only [Option.map_some, ← hzl]
   rw [getElem!_def, e2]
 have fin : ∀ zero : Array Value, (len * esz = 0 ∨ zero = z.cells) → (if len * esz = 0 then zero = #[] else zero = z.cells) → Step1 E P (execOp a.eval o) ρ m w (.sl (some (m.next, 0)) len len true) (m.new (.cells u true esz)) := by
  intro zero hz0 hz1
  obtain ⟨arr', f1, f2⟩ := fill_sound ps _ c _ u hp (hc0 zero hz0) hu
  have hone := fillE_one ps c u h1 hu
  obtain ⟨g1, g2⟩ := hR.newRow e u arr'.toList #[] esz 0 f2 (by simpa using hone) (by simp) (0, 0) (by simp) nofun w.drawn
  refine ⟨_, _, .slice (some ⟨w.heap.size, 0, none⟩) len len, .inl ?_, ⟨_, Rho.put_self _ _ _, by simp⟩, g1, g2⟩
  simp only [execOp, ho, Instr.buildSlice, Sem.run_bind, run_und ht, Result.andThen_ok, run_size hj, hsz]
  rw [if_neg (by omega)]
  by_cases h : len * esz = 0
  ·rw [if_pos h] at hz1 ⊢
   subst hz1
   simp only [Sem.run_bind, Sem.run_pure, Result.andThen_ok, f1]
   simp [newRow]
  ·rw [if_neg h] at hz1 ⊢
   subst hz1
   simp only [Sem.run_bind, Sem.run_pure, run_zero hj hz, Result.andThen_ok, f1]
   simp [newRow]
 by_cases h : len * esz = 0
 ·exact fin #[] (.inl h) (by rw [if_pos h])
 ·exact fin z.cells (.inr rfl) (by rw [if_neg h])
theorem run_bound {x : X} {v' : Value} {y n : Nat} {code : BoundsCode} (hx : VR ρ (x.ev r) v') (h : boundE (x.ev r) y = some n) : (Instr.sliceBound v' y code).run P w = .ok n w := by
 unfold boundE at h
 split at h
 ·rename_i k q e1
  rw [e1] at hx
  split at h
  ·rename_i hq
   simp only [Option.some.injEq] at h; subst h
   simp [Instr.sliceBound, hx.int, asIntOf, hq]
  ·simp at h
 ·simp at h
def OXR (ρ : Rho) (r : List AV) : Option X → Option Value → Prop
 | none, none => True
 | some x, some v => VR ρ (x.ev r) v
 | _, _ => False
theorem run_low {α : Type} {lo : Option X} {lo' : Option Value} {h ll : Nat} (hll : (match lo with | some x => boundE (x.ev r) h | none => some 0) = some ll) (hl : OXR ρ r lo lo') (code : BoundsCode) (K : Nat → Sem α) :
  (match (generalizing := false) lo' with | some v => (do let l ← Instr.sliceBound v h code; K l) | none => (do let l ← pure 0; K l) : Sem α).run P w = (K ll).run P w ∧ ll ≤ h := by
 cases lo <;> cases lo' <;> simp only [OXR] at hl <;> first | exact hl.elim | skip
 ·simp at hll; subst hll; exact ⟨rfl, by omega⟩
 ·refine ⟨?_, ?_⟩
  ·simp only [Sem.run_bind, run_bound hl hll, Result.andThen_ok]
  ·simp only [boundE] at hll
   split at hll
   ·split at hll
    ·simp only [Option.some.injEq] at hll; omega
    ·simp at hll
   ·simp at hll
theorem run_bounds {lo hi mx : Option X} {lo' hi' mx' : Option Value} (hl : OXR ρ r lo lo') (hh : OXR ρ r hi hi') (hm : OXR ρ r mx mx') {isS : Bool} {len cap cap' l h k : Nat} (hb : boundsE r len cap lo hi mx = some (l, h, k)) (hcap : cap ≤ cap') :
  ∃ k', (Instr.sliceBounds isS len cap' lo' hi' mx').run P w = .ok (l, h, k') w ∧ k' = (if mx.isSome then k else cap') ∧ (mx.isSome = false → k = cap) ∧ l ≤ h ∧ (hi.isSome → h ≤ k) ∧ (mx.isSome → k ≤ cap ∧ h ≤ k) := by
 have bmono : ∀ {x : X} {y y' n : Nat}, boundE (x.ev r) y = some n → y ≤ y' → boundE (x.ev r) y' = some n ∧ n ≤ y := by
  intro x y y' n hb' hy
  unfold boundE at hb' ⊢
  split at hb'
  ·split at hb'
   ·rename_i hq
    rw [if_pos (by omega)]
    simp only [Option.some.injEq] at hb'
    exact ⟨by rw [hb'], by omega⟩
   ·simp at hb'
  ·simp at hb'
 unfold boundsE at hb
 split at hb
 ·simp at hb
 rename_i mm hmm
 split at hb
 ·simp at hb
 rename_i hh' hhh
 split at hb
 ·simp at hb
 rename_i ll hll
 simp only [Option.some.injEq, Prod.mk.injEq] at hb
 obtain ⟨rfl, rfl, rfl⟩ := hb
 have hl2 : ll ≤ hh' := (run_low (P := P) (w := w) hll hl .sliceB (fun l => (pure l : Sem Nat))).2
 cases mx with
 | none =>
   cases mx' with
   | some _ => exact hm.elim
   | none =>
     simp only [Option.some.injEq] at hmm
     subst hmm
     refine ⟨cap', ?_, by simp, by simp, hl2, ?_, by simp⟩
     ·cases hi <;> cases hi' <;> simp only [OXR] at hh <;> first | exact hh.elim | skip
      ·simp at hhh; subst hhh
       unfold Instr.sliceBounds
       simp only [Sem.run_bind, Sem.run_pure, Result.andThen_ok, Option.isSome_none, Bool.false_eq_true, if_false]
       exact (run_low hll hl .sliceB (fun l => (pure (l, len, cap') : Sem (Nat × Nat × Nat)))).1
      ·unfold Instr.sliceBounds
       simp only [Sem.run_bind, Sem.run_pure, Result.andThen_ok, Option.isSome_none, Bool.false_eq_true, if_false]
       rw [run_bound hh (bmono hhh hcap).1]
       simp only [Result.andThen_ok]
       exact (run_low hll hl .sliceB (fun l => (pure (l, hh', cap') : Sem (Nat × Nat × Nat)))).1
     ·intro hs
      cases hi with
      | none => simp at hs
      | some x => exact (bmono hhh (Nat.le_refl _)).2
 | some x =>
   cases mx' with
   | none => exact hm.elim
   | some mv =>
     have hmb := bmono hmm hcap
     cases hi with
     | none => simp at hhh
     | some y =>
       cases hi' with
       | none => exact hh.elim
       | some hv =>
         refine ⟨mm, ?_, by simp, by simp, hl2, fun _ => (bmono hhh (Nat.le_refl _)).2, fun _ => ⟨hmb.2, (bmono hhh (Nat.le_refl _)).2⟩⟩
         unfold Instr.sliceBounds
         simp only [Sem.run_bind, Result.andThen_ok]
         rw [run_bound hm hmb.1]
         simp only [Result.andThen_ok]
         rw [run_bound hh hhh]
         simp only [Result.andThen_ok, Option.isSome_some, if_true]
         exact (run_low hll hl .slice3C (fun l => (pure (l, hh', mm) : Sem (Nat × Nat × Nat)))).1
theorem sound_sls {t : TypeId} {x : Operand} {x' : X} {lo hi : Option Operand} {lo' hi' : Option X} (ho : o.op = .slice t x lo hi none) (ht : P.underlying t = some .string) (hx : VR ρ (x'.ev r) (a.eval x)) (hl : OXR ρ r lo' (lo.map a.eval)) (hh : OXR ρ r hi' (hi.map a.eval)) (hR : Rep E ρ m w) (he : exec (.sls x' lo' hi') r m = some (v, m')) : Step1 E P (execOp a.eval o) ρ m w v m' := by
 simp only [exec] at he
 split at he
 ·rename_i b e1
  rw [e1] at hx
  split at he
  ·rename_i l h k hb
   simp only [Option.some.injEq, Prod.mk.injEq] at he
   obtain ⟨rfl, rfl⟩ := he
   obtain ⟨k', hrun, _⟩ := run_bounds (P := P) (w := w) (isS := false) hl hh (show OXR ρ r none none from trivial) hb (Nat.le_refl _)
   refine Step1.pure hR (.string (b.extract l h)) ?_ (VR.mkS _)
   simp only [execOp, ho, hx.str, Instr.sliceAt, Instr.slice, Sem.run_bind, run_und ht, Result.andThen_ok, Option.map_none, Option.isSome_none, Bool.false_eq_true, if_false]
   simp only [hrun, Result.andThen_ok]
   rfl
  ·simp at he
 ·simp at he
theorem sound_slc {t e : TypeId} {i : TypeInfo} {esz : Nat} {x : Operand} {x' : X} {lo hi mx : Option Operand} {lo' hi' mx' : Option X} (ho : o.op = .slice t x lo hi mx) (ht : P.underlying t = some (.slice e)) (hi0 : P.info? e = some i) (hsz : i.size = esz)
  (hx : VR ρ (x'.ev r) (a.eval x)) (hl : OXR ρ r lo' (lo.map a.eval)) (hh : OXR ρ r hi' (hi.map a.eval)) (hm : OXR ρ r mx' (mx.map a.eval)) (hR : Rep E ρ m w) (he : exec (.slc esz x' lo' hi' mx') r m = some (v, m')) : Step1 E P (execOp a.eval o) ρ m w v m' := by
 simp only [exec] at he
 split at he
 ·rename_i q len cap ex e1
  rw [e1] at hx
  split at he
  ·rename_i l h k hb
   have fin : ∀ (A : Option Addr) (capc : Nat), a.eval x = .slice A len capc → cap ≤ capc → ∃ k', (execOp a.eval o).run P w = .ok (.value (.slice (if k' = l then A else A.map (·.add (l * esz))) (h - l) (k' - l))) w ∧ k' = (if mx'.isSome then k else capc) ∧ (mx'.isSome = false → k = cap) ∧ l ≤ h := by
    intro A capc hA hcap
    obtain ⟨k', hrun, h1, h2, h3, _⟩ := run_bounds (P := P) (w := w) (isS := true) hl hh hm hb hcap
    refine ⟨k', ?_, h1, h2, h3⟩
    simp [execOp, ho, hA, Instr.sliceAt, Instr.slice, run_und ht, hrun, run_size hi0, hsz]
   split at he
   ·simp only [VR] at hx
    simp only [Option.some.injEq, Prod.mk.injEq] at he
    obtain ⟨rfl, rfl⟩ := he
    obtain ⟨k', hrun, h1, h2, h3⟩ := fin none cap hx (Nat.le_refl _)
    have hk : k' = k := by
     cases hmm : mx'.isSome with
     | true => rw [hmm] at h1; simpa using h1
     | false => rw [hmm] at h1; rw [h2 hmm]; simpa using h1
    subst hk
    refine Step1.pure hR _ hrun ?_
    simp [VR]
   ·rename_i j q0
    obtain ⟨t', ht', hv⟩ := hx
    obtain ⟨k', hrun, h1, h2, h3⟩ := fin _ _ hv (by split <;> omega)
    split at he
    ·rename_i hex
     simp only [Option.some.injEq, Prod.mk.injEq] at he
     obtain ⟨rfl, rfl⟩ := he
     have hk : k' = k := by
      cases hmm : mx'.isSome with
      | true => rw [hmm] at h1; simpa using h1
      | false =>
        rw [hmm] at h1 hex
        have hex' : ex = true := by simpa using hex
        rw [h2 hmm]; simpa [hex'] using h1
     subst hk
     refine Step1.pure hR _ hrun ⟨t', ht', ?_⟩
     simp only [if_true]
     by_cases hkl : k' = l
     ·rw [if_pos hkl, if_pos hkl]
     ·rw [if_neg hkl, if_neg hkl]; simp [addr_add, Nat.add_assoc]
    ·rename_i hex
     have hex1 : ex = false := by cases ex <;> simp_all
     have hex2 : mx'.isSome = false := by cases hq : mx'.isSome <;> simp_all
     rw [hex2] at h1
     simp only [hex1, Bool.false_eq_true, if_false] at h1
     have hk := h2 hex2
     split at he
     ·rename_i hlk
      simp only [Option.some.injEq, Prod.mk.injEq] at he
      obtain ⟨rfl, rfl⟩ := he
      refine Step1.pure hR _ hrun ⟨t', ht', ?_⟩
      rw [if_neg (by omega)]
      simp only [Option.map_some, addr_add, Bool.false_eq_true, if_false, Nat.add_assoc]
      congr 1; omega
     ·split at he
      ·rename_i hl0
       simp only [Option.some.injEq, Prod.mk.injEq] at he
       obtain ⟨rfl, rfl⟩ := he
       subst hl0
       refine Step1.pure hR _ hrun ⟨t', ht', ?_⟩
       simp only [Nat.zero_mul, Option.map_some, addr_add, Nat.add_zero, ite_self, Bool.false_eq_true, if_false, Nat.sub_zero]
       congr 1; omega
      ·split at he
       ·rename_i hhl
        simp only [Option.some.injEq, Prod.mk.injEq] at he
        obtain ⟨rfl, rfl⟩ := he
        rw [show h - l = 0 by omega] at hrun
        refine Step1.pure hR _ hrun ?_
        split
        ·exact ⟨_, _, rfl⟩
        ·exact ⟨_, _, rfl⟩
       ·simp at he
  ·simp at he
 ·rename_i e1
  rw [e1] at hx
  obtain ⟨A, c, hA⟩ := hx
  split at he
  ·rename_i l h k hb
   split at he
   ·rename_i hq
    simp only [Option.some.injEq, Prod.mk.injEq] at he
    obtain ⟨rfl, rfl⟩ := he
    obtain ⟨k', hrun, _, _, h3, _⟩ := run_bounds (P := P) (w := w) (isS := true) hl hh hm hb (Nat.zero_le c)
    have hh0 := hq.2
    subst hh0
    obtain rfl : l = 0 := by omega
    have hrun2 : (execOp a.eval o).run P w = .ok (.value (.slice (if k' = 0 then some A else (some A).map (·.add (0 * esz))) (0 - 0) (k' - 0))) w := by
     simp [execOp, ho, hA, Instr.sliceAt, Instr.slice, run_und ht, hrun, run_size hi0, hsz]
    refine Step1.pure hR _ hrun2 ?_
    split
    ·exact ⟨_, _, rfl⟩
    ·exact ⟨_, _, rfl⟩
   ·simp at he
  ·simp at he
 ·simp at he
end
end Go.Vi
namespace Go.Vi
open Go.RowKit
set_option linter.unusedSimpArgs false
set_option linter.unusedVariables false
section
variable {E : Env} {P : Program} {ρ : Rho} {m m' : AMem} {w : World} {r : List AV} {a : Act} {o : Oper} {v : AV}
theorem exec_builtin {b : Builtin} {xs : Array Operand} {ts : Array TypeId} (ρ' : Operand → Value) (ho : o.op = .call { callee := .builtin b, args := xs, argTypes := ts }) :
  ∃ consts, execOp ρ' o = builtin b ts o.type consts (xs.map ρ') := by
 refine ⟨xs.map fun | .const _ => true | _ => false, ?_⟩
 simp only [execOp, ho, resolve, invoke, pure_bind]
 rfl
theorem sound_len {t : TypeId} {d : TypeDesc} {kd : Nat} {x : Operand} {x' : X} (ho : o.op = .call { callee := .builtin .len, args := #[x], argTypes := #[t] }) (ht : P.underlying t = some d) (hd : (d = .string ∧ kd = 0) ∨ ((∃ e, d = .slice e) ∧ kd = 1) ∨ ((∃ k e, d = .map k e) ∧ kd = 2))
  (hx : VR ρ (x'.ev r) (a.eval x)) (hR : Rep E ρ m w) (he : exec (.len kd x') r m = some (v, m')) : Step1 E P (execOp a.eval o) ρ m w v m' := by
 obtain ⟨cs, hop⟩ := exec_builtin a.eval ho
 have key : ∀ (n : Nat), (Builtin.len_ #[t] o.type #[a.eval x]).run P w = .ok (.int .i64 n) w → (AV.i .i64 n, m) = (v, m') → Step1 E P (execOp a.eval o) ρ m w v m' := by
  intro n h1 h2
  simp only [Prod.mk.injEq] at h2
  obtain ⟨rfl, rfl⟩ := h2
  refine Step1.pure hR _ ?_ (VR.mkI _ _)
  rw [hop]
  simp only [builtin, List.map_toArray, List.map_cons, List.map_nil, Sem.run_bind, h1, Result.andThen_ok]
  rfl
 simp only [exec] at he
 split at he
 ·rename_i s hs
  rw [hs] at hx
  obtain ⟨rfl, _⟩ : d = .string ∧ 0 = 0 := by rcases hd with h | h | h <;> simp_all
  exact key s.size (by simp [Builtin.len_, run_und ht, hx.str, goInt]) (Option.some.inj he)
 ·rename_i q l c e' hs
  rw [hs] at hx
  obtain ⟨e, rfl⟩ : ∃ e, d = .slice e := by rcases hd with h | h | h <;> simp_all
  refine key l ?_ (Option.some.inj he)
  cases q with
  | none => simp only [VR] at hx; simp [Builtin.len_, run_und ht, hx, goInt]
  | some q => obtain ⟨t', _, hv⟩ := hx; simp [Builtin.len_, run_und ht, hv, goInt]
 ·rename_i hs
  rw [hs] at hx
  obtain ⟨e, rfl⟩ : ∃ e, d = .slice e := by rcases hd with h | h | h <;> simp_all
  obtain ⟨_, _, hv⟩ := hx
  exact key 0 (by simp [Builtin.len_, run_und ht, hv, goInt]) (Option.some.inj he)
 ·rename_i hs
  rw [hs] at hx
  obtain ⟨k, e, rfl⟩ : ∃ k e, d = .map k e := by rcases hd with h | h | h <;> simp_all
  simp only [VR] at hx
  exact key 0 (by simp [Builtin.len_, run_und ht, hx, goInt]) (Option.some.inj he)
 ·rename_i j hs
  rw [hs] at hx
  obtain ⟨k, e, rfl⟩ : ∃ k e, d = .map k e := by rcases hd with h | h | h <;> simp_all
  obtain ⟨t', ht', hv⟩ := hx
  split at he
  ·rename_i es hg
   obtain ⟨_, ents, clock, hh, hk, _⟩ := hR.objs j _ t' hg ht'
   have hl : ents.size = es.length := by have := hk.length; simp at this; omega
   refine key es.length ?_ (Option.some.inj he)
   simp [Builtin.len_, run_und ht, hv, goInt, getObj, Sem.run, hh, hl]
  ·simp at he
 ·simp at he
theorem sound_lenA {t e : TypeId} {n : Nat} {x : Operand} (ho : o.op = .call { callee := .builtin .len, args := #[x], argTypes := #[t] }) (ht : P.underlying t = some (.array n e)) (hR : Rep E ρ m w) (he : exec (.lenA n) r m = some (v, m')) : Step1 E P (execOp a.eval o) ρ m w v m' := by
 obtain ⟨cs, hop⟩ := exec_builtin a.eval ho
 simp only [exec, Option.some.injEq, Prod.mk.injEq] at he
 obtain ⟨rfl, rfl⟩ := he
 refine Step1.pure hR _ ?_ (VR.mkI .i64 n)
 rw [hop]
 simp [builtin, Builtin.len_, run_und ht, goInt]
theorem sound_cap {t e : TypeId} {x : Operand} {x' : X} (ho : o.op = .call { callee := .builtin .cap, args := #[x], argTypes := #[t] }) (ht : P.underlying t = some (.slice e)) (hx : VR ρ (x'.ev r) (a.eval x)) (hR : Rep E ρ m w) (he : exec (.cap x') r m = some (v, m')) : Step1 E P (execOp a.eval o) ρ m w v m' := by
 obtain ⟨cs, hop⟩ := exec_builtin a.eval ho
 simp only [exec] at he
 split at he
 ·rename_i l c ex e1
  rw [e1] at hx
  simp only [VR] at hx
  simp only [Option.some.injEq, Prod.mk.injEq] at he
  obtain ⟨rfl, rfl⟩ := he
  refine Step1.pure hR _ ?_ (VR.mkI .i64 c)
  rw [hop]
  simp [builtin, Builtin.cap_, run_und ht, goInt, hx]
 ·rename_i q l c e1
  rw [e1] at hx
  obtain ⟨t', _, hv⟩ := hx
  simp only [Option.some.injEq, Prod.mk.injEq] at he
  obtain ⟨rfl, rfl⟩ := he
  refine Step1.pure hR _ ?_ (VR.mkI .i64 c)
  rw [hop]
  simp [builtin, Builtin.cap_, run_und ht, goInt, hv]
 ·simp at he
/-! ### append -/
theorem VRL.bytes (l : List UInt8) : VRL ρ (cellsOfBytes l) (l.map fun b => .int .u8 b.toNat) := by
 induction l with
 | nil => simp [cellsOfBytes, VRL]
 | cons b l ih => exact ⟨_, _, rfl, VR.mkI _ _, ih⟩
theorem src_sound {esz n : Nat} {x : AV} {x' : Value} {new : List AV} (hx : VR ρ x x') (h : srcE m esz x = some (new, n)) (hR : Rep E ρ m w) :
  (Builtin.lenOf x').run P w = .ok n w ∧ new.length = n * esz ∧ ∀ k, k ≤ n → ∃ vs, (Builtin.firstCells esz k x').run P w = .ok vs w ∧ VRL ρ (new.take (k * esz)) vs.toList := by
 unfold srcE at h
 split at h
 ·rename_i l c ex
  simp only [VR] at hx
  split at h
  ·simp only [Option.some.injEq, Prod.mk.injEq] at h
   obtain ⟨rfl, rfl⟩ := h
   subst hx
   exact ⟨by simp [Builtin.lenOf, *], by simp, fun k hk => ⟨#[], by simp [Builtin.firstCells], by simp [VRL]⟩⟩
  ·simp at h
 ·rename_i j o l c ex
  obtain ⟨t, ht, hv⟩ := hx
  obtain ⟨u, hu, h⟩ := Option.map_eq_some_iff.1 h
  simp only [Prod.mk.injEq] at h
  obtain ⟨rfl, rfl⟩ := h
  unfold rd at hu
  split at hu
  ·rename_i cc wr e hg
   split at hu
   ·rename_i hle
    simp only [Option.some.injEq] at hu
    subst hu
    refine ⟨by simp [Builtin.lenOf, hv], by simp; omega, fun k hk => ?_⟩
    have hk' : k * esz ≤ l * esz := Nat.mul_le_mul_right _ hk
    obtain ⟨vs, h1, h2⟩ := CellsAt.loads (P := P) (hR.objs j _ t hg ht) o (k * esz) (by omega)
    exact ⟨vs, by simp [Builtin.firstCells, hv, h1], by rw [List.take_take, Nat.min_eq_left hk']; exact h2⟩
   ·simp at hu
  ·simp at hu
 ·obtain ⟨b, c, hv⟩ := hx
  simp only [Option.some.injEq, Prod.mk.injEq] at h
  obtain ⟨rfl, rfl⟩ := h
  refine ⟨by simp [Builtin.lenOf, hv], by simp, fun k hk => ⟨#[], ?_, by simp [VRL]⟩⟩
  obtain rfl : k = 0 := by omega
  simp [Builtin.firstCells, hv, loadCells, loadCellsFrom]
 ·rename_i s
  have hv := hx.str
  split at h
  ·rename_i hsz
   subst hsz
   simp only [Option.some.injEq, Prod.mk.injEq] at h
   obtain ⟨rfl, rfl⟩ := h
   refine ⟨by simp [Builtin.lenOf, hv], by simp [cellsOfBytes], fun k hk => ?_⟩
   refine ⟨(s.extract 0 k).data.map fun b => .int .u8 b.toNat, by simp [Builtin.firstCells, hv], ?_⟩
   have : (s.extract 0 k).data.toList = s.data.toList.take k := by simp [ByteArray.data_extract]
   rw [Array.toList_map, this]
   have h2 := (VRL.bytes (ρ := ρ) s.data.toList).take k
   rw [List.map_take, Nat.mul_one]
   exact h2
  ·simp at h
 ·simp at h
theorem growBy_le (n : Nat) : ∀ (k c : Nat), 4 * Builtin.growBy n k c ≤ max (4 * c) (5 * n + 768)
 | 0, c => by simp [Builtin.growBy]; omega
 | k + 1, c => by
   simp only [Builtin.growBy]
   split
   ·omega
   ·have := growBy_le n k (c + (c + 768) / 4); omega
theorem nextcap_le (n c : Nat) (h : c < n) : 2 * Builtin.nextslicecap n c ≤ 3 * n + 2048 := by
 unfold Builtin.nextslicecap
 split
 ·omega
 ·split
  ·omega
  ·have := growBy_le n 4 c; omega
theorem Rep.move {E : Env} {ρ : Rho} {m : AMem} {w w' : World} (h : Rep E ρ m w) {j : Nat} {o o' : AObj} {t t' : Tgt} (hj : m.get j = some o) (hw : o.wr = true) (hr : ρ j = some t) (hb' : t'.blk = t.blk) (ho : w'.os = w.os) (hta : w'.tape = w.tape) (hou : w'.output = w.output) (hsz : w'.heap.size = w.heap.size)
  (hh : ∀ k, k ≠ t.blk → w'.heap[k]? = w.heap[k]?) (hobj : ObjAt E (ρ.put m.next t') w' t' o') : Rep E (ρ.put m.next t') ((m.put j none).new o') w' ∧ Ext ρ m (ρ.put m.next t') ((m.put j none).new o') := by
 have hn := (h.fresh m.next (Nat.le_refl _)).1
 have hle : ρ.le (ρ.put m.next t') := Rho.le_put hn
 have hb := (h.objs j o t hj hr).base hw
 have hjn : j < m.next := Nat.lt_of_not_le fun hle => by rw [(h.fresh j hle).2] at hj; simp at hj
 have hnew : ∀ i u, (ρ.put m.next t') i = some u → (i = m.next ∧ u = t') ∨ (i ≠ m.next ∧ ρ i = some u) := fun i u hi => by
  unfold Rho.put at hi; split at hi
  ·simp at hi; exact .inl ⟨by omega, hi.symm⟩
  ·exact .inr ⟨by omega, hi⟩
 have hget : ∀ i, ((m.put j none).new o').get i = if m.next = i then some o' else if j = i then none else m.get i := fun i => by
  rw [AMem.get_new]; simp only [AMem.next_put]; rw [AMem.get_put]; rfl
 have hother : ∀ i o1 u, j ≠ i → m.get i = some o1 → ρ i = some u → u.blk ≠ t.blk := by
  intro i o1 u hne hi hri
  cases hw1 : o1.wr with
  | true => exact fun e => h.apart i j o1 o u t (fun e => hne e.symm) hi hj hw1 hw hri hr e
  | false => have := (h.objs i o1 u hi hri).old hw1; omega
 refine ⟨⟨by have := h.base; omega, ⟨ho.trans h.below.os, hta.trans h.below.tape, hou.trans h.below.output, by have := h.below.size; omega, fun k hk => (hh k (by omega)).trans (h.below.block k hk)⟩, fun g hg => hle _ _ (h.glob g hg), by have := h.next; simp; omega, fun i hi => ?_, fun i o1 u hi hri => ?_, fun i k o1 o2 t1 t2 hik h1 h2 w1 w2 r1 r2 => ?_⟩, hle, by simp, fun i hi hri => ?_⟩
 ·simp at hi
  obtain ⟨q1, q2⟩ := h.fresh i (by omega)
  refine ⟨by unfold Rho.put; rw [if_neg (by omega)]; exact q1, by rw [hget, if_neg (by omega)]; split <;> first | rfl | exact q2⟩
 ·rw [hget] at hi
  rcases hnew i u hri with ⟨rfl, rfl⟩ | ⟨hne, hri'⟩
  ·simp at hi; subst hi; exact hobj
  ·rw [if_neg (by omega)] at hi
   split at hi
   ·simp at hi
   ·rename_i hji
    exact ((h.objs i o1 u hi hri').mono hle).congr (hh _ (hother i o1 u hji hi hri'))
 ·rw [hget] at h1 h2
  rcases hnew i t1 r1 with ⟨rfl, rfl⟩ | ⟨hne1, r1'⟩
  ·rcases hnew k t2 r2 with ⟨rfl, rfl⟩ | ⟨hne2, r2'⟩
   ·exact absurd rfl hik
   ·rw [if_neg (by omega)] at h2
    split at h2
    ·simp at h2
    ·rename_i hjk
     rw [hb']; exact fun e => hother k o2 t2 hjk h2 r2' e.symm
  ·rw [if_neg (by omega)] at h1
   split at h1
   ·simp at h1
   ·rename_i hji
    rcases hnew k t2 r2 with ⟨rfl, rfl⟩ | ⟨hne2, r2'⟩
    ·rw [hb']; exact hother i o1 t1 hji h1 r1'
    ·rw [if_neg (by omega)] at h2
     split at h2
     ·simp at h2
     ·exact h.apart i k o1 o2 t1 t2 hik h1 h2 w1 w2 r1' r2'
 ·refine ⟨?_, by unfold Rho.put; rw [if_neg (by omega)]; exact hri⟩
  rw [hget, if_neg (by omega), if_neg]
  intro e; subst e; simp [hr] at hri
theorem app_new {e sCap need : Nat} {esz : ES} {z : Value} {old new : List AV} (hzs : z.cells.size = esz.n) (hty : ∀ q, esz.ty = some q → e = q)
  (hR : Rep E ρ m w) (h1 : ∀ x ∈ old ++ new, x.one = true) {vo vn : Array Value} (hvo : VRL ρ old vo.toList) (hvn : VRL ρ new vn.toList) :
  ∃ nc, need ≤ nc ∧ (choose (.appendCap need sCap e)).run P w = .ok nc { w with drawn := w.drawn + 1 } ∧
   Rep E (ρ.put m.next ⟨w.heap.size, 0, nc - need⟩) (m.new (.cells (old ++ new) true esz)) { w with heap := w.heap.push (.cells (vo ++ vn ++ Builtin.zeroCells z.cells (nc - need)) e (0, 0)), drawn := w.drawn + 1 } ∧
   Ext ρ m (ρ.put m.next ⟨w.heap.size, 0, nc - need⟩) (m.new (.cells (old ++ new) true esz)) := by
 refine ⟨(Question.appendCap need sCap e).cut (w.tape w.drawn (.appendCap need sCap e)), by simp [Question.cut], by simp [Question.forced], ?_⟩
 have := hR.newRow e (old ++ new) (vo.toList ++ vn.toList) (Builtin.zeroCells z.cells ((Question.appendCap need sCap e).cut (w.tape w.drawn (.appendCap need sCap e)) - need)) esz ((Question.appendCap need sCap e).cut (w.tape w.drawn (.appendCap need sCap e)) - need) (hvo.append hvn) h1
  (by simp [Builtin.zeroCells, hzs]) (0, 0) (by simp) hty (w.drawn + 1)
 have e1 : (vo.toList ++ vn.toList).toArray = vo ++ vn := by simp
 rw [e1] at this
 exact this
theorem app_passes {need sCap bytes : Nat} (h : sCap < need) (hroom : roomy need bytes = true) : ¬((need : Int) > IntKind.i64.max ∧ (False ∨ bytes = 0)) ∧ ¬(Builtin.nextslicecap need sCap * bytes > 2 ^ 48) := by
 unfold roomy at hroom
 simp only [Bool.and_eq_true, decide_eq_true_eq] at hroom
 have h2 := nextcap_le need sCap h
 refine ⟨?_, ?_⟩
 ·intro ⟨q, _⟩
  have : IntKind.i64.max = 9223372036854775807 := by decide
  omega
 ·have := Nat.mul_le_mul_right bytes h2
  rw [Nat.mul_assoc] at this
  omega
theorem firstCells_slice {esz n : Nat} {A : Addr} {l c : Nat} : Builtin.firstCells esz n (.slice (some A) l c) = loadCells A (n * esz) := rfl
theorem run_app_room {t t2 e ty : TypeId} {i : TypeInfo} {d2 : TypeDesc} {esz len cap n : Nat} {A : Option Addr} {y : Value} {new : Array Value}
  (ht : P.underlying t = some (.slice e)) (ht2 : P.underlying t2 = some d2) (hd2 : ∀ k, d2 ≠ .int k) (hi : P.info? e = some i) (hsz : i.size = esz)
  (hl : (Builtin.lenOf y).run P w = .ok n w) (hf : (Builtin.firstCells esz n y).run P w = .ok new w) (hle : len + n ≤ cap) :
  (Builtin.append_ #[t, t2] ty #[.slice A len cap, y]).run P w =
    (match A with | some q => (storeCells (q.add (len * esz)) new.toList).run P w | none => .ok () w).andThen fun _ w2 => .ok (.slice A (len + n) cap) w2 := by
 have hzeros : (match d2 with | .int _ => true | _ => false) = false := by cases d2 <;> simp at hd2 ⊢
 have hz : (match d2 with | .int _ => pure true | _ => pure false : Sem Bool) = pure false := by cases d2 <;> simp at hd2 ⊢
 unfold Builtin.append_
 simp only [List.getElem?_toArray, List.getElem?_cons_zero, List.getElem?_cons_succ, Sem.run_bind, run_und ht, run_und ht2, Result.andThen_ok, run_size hi, hsz, Sem.run_pure]
 cases d2 <;> simp at hd2
 all_goals
  simp only [Bool.false_eq_true, if_false, Sem.run_bind, hl, Result.andThen_ok]
  rw [if_pos hle]
  simp only [Bool.not_false, if_true, Sem.run_bind, hf, Result.andThen_ok]
  cases A <;> simp
theorem run_app_grow {t t2 e ty : TypeId} {i : TypeInfo} {d2 : TypeDesc} {z : Value} {esz bytes len cap n : Nat} {A : Option Addr} {y : Value} {old new : Array Value} {nc : Nat}
  (ht : P.underlying t = some (.slice e)) (ht2 : P.underlying t2 = some d2) (hd2 : ∀ k, d2 ≠ .int k) (hi : P.info? e = some i) (hsz : i.size = esz) (hby : i.bytes = bytes) (hz : i.zero = some z)
  (hl : (Builtin.lenOf y).run P w = .ok n w) (hlt : cap < len + n) (hroom : roomy (len + n) bytes = true) (hch : (choose (.appendCap (len + n) cap e)).run P w = .ok nc { w with drawn := w.drawn + 1 })
  (ho : (Builtin.firstCells esz len (.slice A len cap)).run P { w with drawn := w.drawn + 1 } = .ok old { w with drawn := w.drawn + 1 }) (hf : (Builtin.firstCells esz n y).run P { w with drawn := w.drawn + 1 } = .ok new { w with drawn := w.drawn + 1 }) :
  (Builtin.append_ #[t, t2] ty #[.slice A len cap, y]).run P w =
    .ok (.slice (some ⟨w.heap.size, 0, none⟩) (len + n) nc) { w with heap := w.heap.push (.cells (old ++ new ++ Builtin.zeroCells z.cells (nc - (len + n))) e (0, 0)), drawn := w.drawn + 1 } := by
 obtain ⟨p1, p2⟩ := app_passes hlt hroom
 unfold Builtin.append_
 simp only [List.getElem?_toArray, List.getElem?_cons_zero, List.getElem?_cons_succ, Sem.run_bind, run_und ht, run_und ht2, Result.andThen_ok, run_size hi, hsz, Sem.run_pure]
 cases d2 <;> simp at hd2
 all_goals
  simp only [Bool.false_eq_true, if_false, Sem.run_bind, hl, Result.andThen_ok]
  rw [if_neg (by omega)]
  simp only [Sem.run_bind, run_info hi, Result.andThen_ok, hby]
  rw [if_neg p1]
  simp only [Sem.run_bind, run_info hi, Result.andThen_ok, hby]
  rw [if_neg p2]
  simp only [Sem.run_bind, hch, Result.andThen_ok, run_askRoom, run_info hi, ho, hf, Bool.not_false, if_true, run_zero hi hz, Sem.run_pure]
  simp [newRow]
  exact ⟨rfl, rfl, rfl⟩
theorem sound_app {t t2 e : TypeId} {i : TypeInfo} {z : Value} {d2 : TypeDesc} {esz : ES} {bytes : Nat} {x y : Operand} {x' y' : X} (ho : o.op = .call { callee := .builtin .append, args := #[x, y], argTypes := #[t, t2] })
  (ht : P.underlying t = some (.slice e)) (ht2 : P.underlying t2 = some d2) (hd2 : ∀ k, d2 ≠ .int k) (hi : P.info? e = some i) (hsz : i.size = esz.n) (hby : i.bytes = bytes) (hz : i.zero = some z) (hzs : z.cells.size = esz.n) (hty : ∀ q, esz.ty = some q → e = q)
  (hx : VR ρ (x'.ev r) (a.eval x)) (hy : VR ρ (y'.ev r) (a.eval y)) (hR : Rep E ρ m w) (he : exec (.app esz bytes x' y') r m = some (v, m')) : Step1 E P (execOp a.eval o) ρ m w v m' := by
 obtain ⟨cs, hop⟩ := exec_builtin a.eval ho
 simp only [exec] at he
 split at he
 case h_2 => simp at he
 rename_i new n hsrc
 split at he
 case isFalse => simp at he
 rename_i hone
 have hone' : ∀ u ∈ new, u.one = true := by simpa using hone
 obtain ⟨s1, s2, s3⟩ := src_sound (P := P) hy hsrc hR
 have hR1 := hR.drawn (w.drawn + 1)
 obtain ⟨vn, f1, f2⟩ := s3 n (Nat.le_refl _)
 obtain ⟨_, _, s3'⟩ := src_sound (P := P) hy hsrc hR1
 obtain ⟨vn', f1', f2'⟩ := s3' n (Nat.le_refl _)
 have htk : new.take (n * esz.n) = new := by rw [← s2]; simp
 rw [htk] at f2 f2'
 have hop2 : execOp a.eval o = (do pure (.value (← Builtin.append_ #[t, t2] o.type #[a.eval x, a.eval y])) : Sem Next) := by
  rw [hop]; simp only [builtin, List.map_toArray, List.map_cons, List.map_nil]
 have stay : ∀ (A : Option Addr) (len cap : Nat), a.eval x = .slice A len cap → n = 0 → len ≤ cap → VR ρ v (.slice A len cap) → m' = m → Step1 E P (execOp a.eval o) ρ m w v m' := by
  intro A len cap hA hn hle hv hm
  subst hn; subst hm
  have hnew : vn = #[] := by have := f2.length; simp at s2; subst s2; simp at this; exact Array.eq_empty_of_size_eq_zero this.symm
  subst hnew
  refine Step1.pure hR _ ?_ hv
  rw [hop2, Sem.run_bind, hA, run_app_room ht ht2 hd2 hi hsz s1 f1 (by omega)]
  cases A <;> simp [storeCells]
 have grow : ∀ (A : Option Addr) (len cap : Nat) (old : List AV), a.eval x = .slice A len cap → cap < len + n → roomy (len + n) bytes = true → (∃ vo, (Builtin.firstCells esz.n len (.slice A len cap)).run P { w with drawn := w.drawn + 1 } = .ok vo { w with drawn := w.drawn + 1 } ∧ VRL ρ old vo.toList) → (∀ u ∈ old, u.one = true) → ∀ e2 : ES, e2.n = esz.n → (∀ q, e2.ty = some q → e = q) →
   Step1 E P (execOp a.eval o) ρ m w (.sl (some (m.next, 0)) (len + n) (len + n) false) (m.new (.cells (old ++ new) true e2)) := by
  intro A len cap old hA hlt hroom ⟨vo, g1, g2⟩ h1 e2 he2 ht2'
  obtain ⟨nc, q1, q2, q3, q4⟩ := app_new (P := P) (e := e) (sCap := cap) (need := len + n) (esz := e2) (by rw [he2]; exact hzs) ht2' hR (old := old) (new := new) (fun u hu => (List.mem_append.1 hu).elim (h1 u) (hone' u)) g2 f2'
  refine ⟨_, _, .slice (some ⟨w.heap.size, 0, none⟩) (len + n) nc, .inl ?_, ⟨_, Rho.put_self _ _ _, ?_⟩, q3, q4⟩
  ·rw [hop2, Sem.run_bind, hA, run_app_grow ht ht2 hd2 hi hsz hby hz s1 hlt hroom q2 g1 f1']
   simp
  ·simp only [Bool.false_eq_true, if_false, Nat.zero_add]
   congr 1; omega
 unfold appE at he
 split at he
 ·rename_i ex e1
  rw [e1] at hx
  simp only [VR] at hx
  split at he
  ·rename_i hn
   simp only [Option.some.injEq, Prod.mk.injEq] at he
   obtain ⟨rfl, rfl⟩ := he
   exact stay none 0 0 hx hn (Nat.le_refl _) (by rw [e1]; simp [VR]) rfl
  ·rename_i hn
   split at he
   ·rename_i hroom
    simp only [Option.some.injEq, Prod.mk.injEq] at he
    obtain ⟨rfl, rfl⟩ := he
    have := grow none 0 0 [] hx (by omega) (by simpa using hroom) ⟨#[], by simp [Builtin.firstCells], by simp [VRL]⟩ (by simp) esz rfl hty
    simpa using this
   ·simp at he
 ·rename_i j q len cap ex e1
  rw [e1] at hx
  obtain ⟨t', ht', hv⟩ := hx
  split at he
  case h_2 => simp at he
  rename_i c wr es hg
  have hobj : CellsAt E ρ w t' c wr es := hR.objs j _ t' hg ht'
  split at he
  ·rename_i hle
   split at he
   ·rename_i hn
    simp only [Option.some.injEq, Prod.mk.injEq] at he
    obtain ⟨rfl, rfl⟩ := he
    exact stay _ _ _ hv hn (by split <;> omega) (by rw [e1]; exact ⟨t', ht', rfl⟩) rfl
   ·rename_i hn
    split at he
    ·rename_i hin
     obtain ⟨rfl, hin⟩ := hin
     simp only [Option.some.injEq, Prod.mk.injEq] at he
     obtain ⟨rfl, rfl⟩ := he
     obtain ⟨w', hst, g1, g2⟩ := hR.store (P := P) hg ht' (q + len * esz.n) new vn.toList f2 hone' (by omega)
     refine ⟨ρ, w', .slice (some ⟨t'.blk, t'.sh + q, none⟩) (len + n) (if ex then cap else cap + t'.xt), .inl ?_, ⟨t', ht', rfl⟩, g1, g2⟩
     rw [hop2, Sem.run_bind, hv, run_app_room ht ht2 hd2 hi hsz s1 f1 (by split <;> omega)]
     rw [← Nat.add_assoc] at hst
     simp [addr_add, hst]
    ·simp at he
  ·rename_i hle
   split at he
   case isFalse => simp at he
   rename_i hcond
   obtain ⟨hroom, hlc, hoc⟩ := hcond
   have hlen : len * esz.n ≤ cap * esz.n := Nat.mul_le_mul_right _ hlc
   have hold : ∀ cc : Nat, ∃ vo, (Builtin.firstCells esz.n len (.slice (some ⟨t'.blk, t'.sh + q, none⟩) len cc)).run P { w with drawn := w.drawn + 1 } = .ok vo { w with drawn := w.drawn + 1 } ∧ VRL ρ ((c.drop q).take (len * esz.n)) vo.toList := by
    intro cc
    obtain ⟨vs, h1, h2⟩ := CellsAt.loads (P := P) (hR1.objs j _ t' hg ht') q (len * esz.n) (by omega)
    exact ⟨vs, by rw [firstCells_slice]; exact h1, h2⟩
   have hold1 : ∀ u ∈ (c.drop q).take (len * esz.n), u.one = true := by
    intro u hu
    obtain ⟨arr, e', fz, _, _, h3, _⟩ := hobj.row
    obtain ⟨k, hk⟩ := List.mem_iff_getElem?.1 (List.mem_of_mem_drop (List.mem_of_mem_take hu))
    exact (h3 k u hk).1
   split at he
   ·rename_i hex
    simp only [Option.some.injEq, Prod.mk.injEq] at he
    obtain ⟨rfl, rfl⟩ := he
    rw [if_pos hex] at hv
    exact grow _ len cap _ hv (by omega) hroom (hold cap) hold1 esz rfl hty
   ·rename_i hex
    rw [if_neg hex] at hv
    split at he
    case isFalse => simp at he
    rename_i hc2
    obtain ⟨rfl, hes, hoc2⟩ := hc2
    simp only [Option.some.injEq, Prod.mk.injEq] at he
    obtain ⟨rfl, rfl⟩ := he
    have hgty : ∀ p, (es.grow esz q).ty = some p → e = p := by
     intro p hp
     simp only [ES.grow] at hp
     split at hp
     ·exact hty p hp
     ·simp at hp
    by_cases hfit : len + n ≤ cap + t'.xt
    ·-- there is room behind what is known: the row is written in place
     obtain ⟨arr, e', fz, a1, a2, a3, a4⟩ := hobj.row
     rw [hes] at a2
     have hnl := f2.length
     have hmul : n * esz.n ≤ (cap - len + t'.xt) * esz.n := Nat.mul_le_mul_right _ (by omega)
     have hmul2 : (cap - len + t'.xt) * esz.n = cap * esz.n - len * esz.n + t'.xt * esz.n := by rw [Nat.add_mul, Nat.sub_mul]
     have hvone : ∀ v ∈ vn.toList, v.oneCell' = true := fun v hv => by
      obtain ⟨k, hk⟩ := List.mem_iff_getElem?.1 hv
      have hk' : k < new.length := by have := (List.getElem?_eq_some_iff.1 hk).1; omega
      obtain ⟨v', e'', r'⟩ := f2.get k new[k] (List.getElem?_eq_getElem hk')
      rw [hk] at e''; simp at e''; subst e''
      exact r'.one (hone' _ (List.getElem_mem hk'))
     obtain ⟨w', arr', hrun, b1, b2, b3, b4, b5, b6, b7, b8⟩ := run_storeCells' (P := P) t'.blk (t'.sh + q + len * esz.n) e' fz vn.toList 0 w arr a1 (by omega) hvone (frz_ok (a4.1 rfl))
     have hn := (hR.fresh m.next (Nat.le_refl _)).1
     have hlep : ρ.le (ρ.put m.next ⟨t'.blk, t'.sh + q, cap + t'.xt - (len + n)⟩) := Rho.le_put hn
     have hmove := hR.move (o' := .cells ((c.drop q).take (len * esz.n) ++ new) true (es.grow esz q)) (t' := ⟨t'.blk, t'.sh + q, cap + t'.xt - (len + n)⟩) hg rfl ht' rfl b1 b2 b3 b4 b5 (by
      have hl1 : ((c.drop q).take (len * esz.n)).length = len * esz.n := by simp; omega
      refine ⟨hobj.own, arr', e', fz, b6, ?_, fun k u hk => ?_, fun _ => by rw [b7]; exact a4.1 rfl, fun p hp => ?_⟩
      ·rw [b7, List.length_append, hl1, s2]
       have h5 : (cap + t'.xt - (len + n)) * (es.grow esz q).n = cap * esz.n + t'.xt * esz.n - (len * esz.n + n * esz.n) := by simp only [ES.grow]; rw [Nat.sub_mul, Nat.add_mul, Nat.add_mul]
       have h6 : (len + n) * esz.n ≤ (cap + t'.xt) * esz.n := Nat.mul_le_mul_right _ hfit
       rw [Nat.add_mul, Nat.add_mul] at h6
       simp only [h5]
       omega
      ·rw [b8]
       rw [List.getElem?_append, hl1] at hk
       by_cases hkl : k < len * esz.n
       ·rw [if_pos hkl] at hk
        rw [if_neg (by simp only; omega)]
        rw [List.getElem?_take, if_pos hkl, List.getElem?_drop] at hk
        obtain ⟨g1, v', g2, g3⟩ := a3 _ u hk
        exact ⟨g1, v', by simpa [Nat.add_assoc] using g2, VR.mono hlep _ _ g3⟩
       ·rw [if_neg hkl] at hk
        have hkn : k - len * esz.n < new.length := (List.getElem?_eq_some_iff.1 hk).1
        rw [if_pos (by simp only; omega)]
        obtain ⟨v', g2, g3⟩ := f2.get _ u hk
        refine ⟨hone' u (List.mem_of_getElem? hk), v', ?_, VR.mono hlep _ _ g3⟩
        rw [show t'.sh + q + k - (t'.sh + q + len * esz.n + 0) = k - len * esz.n by omega]
        exact g2
      ·simp only [ES.grow] at hp
       split at hp
       ·rename_i hq
        obtain ⟨rfl, rfl⟩ := hq
        exact ⟨(a4.2 p hp).1, (a4.2 p hp).2⟩
       ·simp at hp)
     obtain ⟨g1, g2⟩ := hmove
     refine ⟨_, w', .slice (some ⟨t'.blk, t'.sh + q, none⟩) (len + n) (cap + t'.xt), .inl ?_, ⟨_, Rho.put_self _ _ _, ?_⟩, g1, g2⟩
     ·rw [hop2, Sem.run_bind, hv, run_app_room ht ht2 hd2 hi hsz s1 f1 hfit]
      simp [addr_add, hrun]
     ·simp only [Bool.false_eq_true, if_false, Nat.add_zero]
      congr 1; omega
    ·-- there is none: a new row, and the elder one is known no more
     obtain ⟨ρ', w', v', h1, h2, h3, h4⟩ := grow _ len (cap + t'.xt) _ hv (by omega) hroom (hold _) hold1 (es.grow esz q) rfl hgty
     refine ⟨ρ', w', v', h1, h2, ?_, ?_⟩
     ·have hjn : j < m.next := Nat.lt_of_not_le fun hle => by rw [(hR.fresh j hle).2] at hg; simp at hg
      have hget : ∀ i, ((m.put j none).new (.cells ((c.drop q).take (len * esz.n) ++ new) true (es.grow esz q))).get i = if j = i then none else (m.new (.cells ((c.drop q).take (len * esz.n) ++ new) true (es.grow esz q))).get i := fun i => by
       rw [AMem.get_new, AMem.get_new]; simp only [AMem.next_put]; rw [AMem.get_put]
       by_cases hji : j = i
       ·subst hji; have : m.next ≠ j := by omega
        simp [this]
       ·simp [hji]
      refine ⟨h3.base, h3.below, h3.glob, h3.next, fun i hi => ?_, fun i o1 u hi hri => ?_, fun i k o1 o2 t1 t2 hik h1' h2' w1 w2 r1 r2 => ?_⟩
      ·obtain ⟨q1, q2⟩ := h3.fresh i hi
       exact ⟨q1, by rw [hget]; split <;> first | rfl | exact q2⟩
      ·rw [hget] at hi
       split at hi
       ·simp at hi
       ·exact h3.objs i o1 u hi hri
      ·rw [hget] at h1' h2'
       split at h1'
       ·simp at h1'
       ·split at h2'
        ·simp at h2'
        ·exact h3.apart i k o1 o2 t1 t2 hik h1' h2' w1 w2 r1 r2
     ·refine ⟨h4.le, h4.next, fun i hi hri => ?_⟩
      obtain ⟨q1, q2⟩ := h4.keep i hi hri
      refine ⟨?_, q2⟩
      have h7 : m.next ≠ i := by omega
      have h8 : j ≠ i := by intro e; subst e; simp [ht'] at hri
      rw [AMem.get_new]; simp [AMem.get_put, h7, h8]
 ·rename_i e1
  rw [e1] at hx
  obtain ⟨b, c, hv⟩ := hx
  split at he
  ·rename_i hn
   simp only [Option.some.injEq, Prod.mk.injEq] at he
   obtain ⟨rfl, rfl⟩ := he
   exact stay _ _ _ hv hn (by omega) (by rw [e1]; exact ⟨_, _, rfl⟩) rfl
  ·simp at he
 ·simp at he
end
end Go.Vi
