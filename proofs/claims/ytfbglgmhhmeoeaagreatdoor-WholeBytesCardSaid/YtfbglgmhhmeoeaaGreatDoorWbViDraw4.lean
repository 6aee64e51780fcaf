/- Regions that draw their order: the interpreter is right about them; and so about whole programs. No condition. -/
import Derived.Test.YtfbglgmhhmeoeaaGreatDoorWbViDraw3
namespace Go.Vi
open Go.RowKit
set_option linter.unusedSimpArgs false
set_option linter.unusedVariables false
section
variable {E : Env} {P : Program} {C : CallF}
theorem mem_orderOf (ops : Array Oper) (i : Nat) : i ∈ orderOf ops ↔ i < ops.size := by
  unfold orderOf
  simp only [List.mem_append, List.mem_filter, List.mem_range]
  constructor
  · rintro (⟨h, _⟩ | ⟨h, _⟩) <;> exact h
  · intro h
    cases hh : hoistO (ops.getD i default) with
    | true => exact .inl ⟨h, rfl⟩
    | false => exact .inr ⟨h, rfl⟩
theorem nodup_orderOf (ops : Array Oper) : (orderOf ops).Nodup := by
  unfold orderOf
  rw [List.nodup_append]
  refine ⟨List.nodup_range.filter _, List.nodup_range.filter _, ?_⟩
  intro a ha b hb e
  subst e
  simp only [List.mem_filter] at ha hb
  rw [ha.2] at hb; simp at hb
theorem length_orderOf (ops : Array Oper) : (orderOf ops).length = ops.size := by
  have h1 : ∀ (p : Nat → Bool) (l : List Nat), (l.filter p).length + (l.filter fun i => !p i).length = l.length := by
    intro p l
    induction l with
    | nil => rfl
    | cons a l ih => simp only [List.filter_cons]; cases p a <;> simp <;> omega
  have := h1 (fun i => hoistO (ops.getD i default)) (List.range ops.size)
  unfold orderOf
  rw [List.length_append, this, List.length_range]
theorem pairwise_filter_range (n : Nat) (f : Nat → Bool) : ((List.range n).filter f).Pairwise (· < ·) := List.pairwise_lt_range.filter _
theorem getD_lt {l : List Nat} {p : Nat} (h : p < l.length) : l[p]? = some (l.getD p 0) := by simp [h]
theorem draw_setting {ops : Array Oper} {l : List VOper} {ck : List (Nat × Nat)} {r : List AV} {m : AMem} {r' : List AV} {m' : AMem} (hc : compDraw P E.G ops = some (l, ck)) (he : runDraw C l ck r m = some (r', m')) :
    ∃ S : Setting P E.G C, S.ops = ops ∧ S.R 0 = r ∧ S.M 0 = m ∧ S.R S.n = r' ∧ S.M S.n = m' := by
  unfold compDraw at hc
  split at hc
  case h_2 => simp at hc
  rename_i vos hvos
  split at hc
  case isFalse => simp at hc
  rename_i hchk
  simp only [Option.some.injEq, Prod.mk.injEq] at hc
  obtain ⟨rfl, rfl⟩ := hc
  unfold runDraw at he
  split at he
  case h_2 => simp at he
  rename_i st hst
  split at he
  case isFalse => simp at he
  rename_i hck
  obtain ⟨s1, s2, s3⟩ := states_spec hst
  obtain ⟨v1, v2⟩ := compOps_get hvos
  have hlen := length_orderOf ops
  have hmem := mem_orderOf ops
  have hnd := nodup_orderOf ops
  simp only [List.length_map, hlen] at s1
  unfold drawChecks at hchk
  simp only [Bool.and_eq_true, List.all_eq_true, List.mem_range] at hchk
  obtain ⟨⟨⟨k1, k2⟩, k3⟩, k4⟩ := hchk
  have hcolt : ∀ p, p < ops.size → (orderOf ops).getD p 0 < ops.size := fun p hp => by
    rw [← hmem]
    have : p < (orderOf ops).length := by omega
    simp [this]
  have hl : ∀ p, p < ops.size → ((orderOf ops).map (fun i => vos.getD i default))[p]? = some (vos.getD ((orderOf ops).getD p 0) default) := fun p hp => by
    rw [List.getElem?_map, getD_lt (by omega)]; rfl
  have hinj : ∀ p q, p < ops.size → q < ops.size → (orderOf ops).getD p 0 = (orderOf ops).getD q 0 → p = q := fun p q hp hq h => by
    have h1 : p < (orderOf ops).length := by omega
    have h2 : q < (orderOf ops).length := by omega
    have := getD_lt h1
    rw [h, ← getD_lt h2] at this
    exact (List.getElem?_inj h1 hnd).1 this
  have hget : ∀ p, p ≤ ops.size → st[p]? = some (st.getD p default) := fun p hp => by
    have : p < st.length := by omega
    simp [this]
  let h := ((List.range ops.size).filter (fun i => hoistO (ops.getD i default))).length
  have hh : h ≤ ops.size := by
    have := List.length_filter_le (fun i => hoistO (ops.getD i default)) (List.range ops.size)
    simpa [h] using this
  have hhoist : ∀ p, p < h → hoistO (ops.getD ((orderOf ops).getD p 0) default) = true := fun p hp => by
    have e1 : (orderOf ops)[p]? = ((List.range ops.size).filter (fun i => hoistO (ops.getD i default)))[p]? := by
      unfold orderOf; rw [List.getElem?_append_left hp]
    have e2 := getD_lt (l := orderOf ops) (p := p) (by omega)
    rw [e1] at e2
    have := List.mem_of_getElem? e2
    exact (List.mem_filter.1 this).2
  have hrest : ∀ p, h ≤ p → p < ops.size → ((List.range ops.size).filter (fun i => !hoistO (ops.getD i default)))[p - h]? = some ((orderOf ops).getD p 0) := fun p h1 h2 => by
    have e1 : (orderOf ops)[p]? = ((List.range ops.size).filter (fun i => !hoistO (ops.getD i default)))[p - h]? := by
      unfold orderOf; rw [List.getElem?_append_right h1]
    rw [← e1]; exact getD_lt (by omega)
  have hplain : ∀ p, h ≤ p → p < ops.size → hoistO (ops.getD ((orderOf ops).getD p 0) default) = false := fun p h1 h2 => by
    have := List.mem_of_getElem? (hrest p h1 h2)
    simpa using (List.mem_filter.1 this).2
  refine ⟨{ ops := ops, n := ops.size, h := h, co := fun p => (orderOf ops).getD p 0, l := fun p => vos.getD ((orderOf ops).getD p 0) default, B := Region.before ops, R := fun p => (st.getD p default).1, M := fun p => (st.getD p default).2,
            hn := rfl, hh := hh, colt := hcolt, inj := hinj, sur := ?_, comp := ?_, step := ?_, bit := ?_, low := ?_, bitlt := ?_, meet := ?_, effs := ?_, hoisted := hhoist, mono := ?_, reads := ?_ }, rfl, ?_, ?_, ?_, ?_⟩
  · intro i hi
    obtain ⟨p, hp⟩ := List.mem_iff_getElem?.1 ((hmem i).2 hi)
    have h1 := (List.getElem?_eq_some_iff.1 hp).1
    rw [getD_lt h1] at hp
    exact ⟨p, by omega, by simpa using hp⟩
  · intro p hp
    have h1 := hcolt p hp
    refine v2 _ _ ?_
    generalize (orderOf ops).getD p 0 = i at h1 ⊢
    simp [h1]
  · intro p hp
    obtain ⟨x, y, g1, g2, g3⟩ := s3 p _ (hl p hp)
    rw [hget p (by omega)] at g1
    rw [hget (p + 1) (by omega)] at g2
    simp only [Option.some.injEq] at g1 g2
    subst g1; subst g2
    exact g3
  · intro i j hi hj hb
    have := k1 i hi j hj
    rw [hb] at this
    simp only [Bool.not_true, Bool.false_or, List.any_eq_true, Bool.and_eq_true, Bool.or_eq_true, beq_iff_eq] at this
    obtain ⟨e, he, hbind, hor⟩ := this
    exact ⟨e, he, hbind, hor⟩
  · intro i hi e he hb
    have := k2 i hi e he
    rw [hb] at this
    simpa using this
  · intro i j hi hj hb
    have := k3 i hi j hj
    rw [hb] at this
    simpa using this
  · intro p q hpq hq hm
    have := (k4 q hq p hpq).1
    rw [hm] at this
    simpa using this
  · intro p q h1 h2 h3 e1 e2
    have := (k4 q h3 p h2).2
    rw [e1, e2, hplain p h1 (by omega)] at this
    simpa using this
  · intro p q h1 h2 h3
    have a1 := hrest p h1 (by omega)
    have a2 := hrest q (by omega) h3
    have hpw := pairwise_filter_range ops.size (fun i => !hoistO (ops.getD i default))
    obtain ⟨b1, c1⟩ := List.getElem?_eq_some_iff.1 a1
    obtain ⟨b2, c2⟩ := List.getElem?_eq_some_iff.1 a2
    have := List.pairwise_iff_getElem.1 hpw (p - h) (q - h) b1 b2 (by omega)
    rw [c1, c2] at this
    exact this
  · intro p q hp h1 h2 e1 e2 b1 b2 hw
    have hin : (p, q) ∈ drawPairs ops vos (Region.before ops) := by
      unfold drawPairs
      rw [List.mem_flatMap]
      refine ⟨p, List.mem_range.2 hp, ?_⟩
      rw [List.mem_filterMap]
      refine ⟨q, List.mem_range.2 h2, ?_⟩
      simp only [e1, e2, hplain q h1 h2, b1, b2]
      rfl
    have := List.all_eq_true.1 hck _ hin
    simp only [hl p hp] at this
    unfold sameRead at this
    rw [hget p (by omega), hget q (by omega), hget (q + 1) (by omega)] at this
    simp only at this
    rw [if_pos hw] at this
    split at this
    · rename_i v x v1 y v2 z q1 q2 q3
      simp only [Bool.and_eq_true] at this
      have w1 := AV.eq_of_beq _ _ this.1
      have w2 := AV.eq_of_beq _ _ this.2
      subst w1; subst w2
      exact ⟨v, x, y, z, q1, q2, q3⟩
    · simp at this
  · have := hget 0 (by omega)
    rw [s2] at this
    exact (congrArg Prod.fst (Option.some.inj this)).symm
  · have := hget 0 (by omega)
    rw [s2] at this
    exact (congrArg Prod.snd (Option.some.inj this)).symm
  · have h1 : st.getLast? = st[ops.size]? := by rw [List.getLast?_eq_getElem?, s1]; rfl
    rw [h1, hget _ (Nat.le_refl _)] at he
    exact congrArg Prod.fst (Option.some.inj he)
  · have h1 : st.getLast? = st[ops.size]? := by rw [List.getLast?_eq_getElem?, s1]; rfl
    rw [h1, hget _ (Nat.le_refl _)] at he
    exact congrArg Prod.snd (Option.some.inj he)
theorem first_allocs (S : Setting P E.G C) {ρ : Rho} {w : World} (hR : Rep E ρ (S.M 0) w) : ∀ k, k ≤ S.h → (S.M k).next = (S.M 0).next + k ∧ Rep E ρ (S.M k) w ∧ Ext ρ (S.M 0) ρ (S.M k) ∧
    ∀ p, p < k → ∃ ty z, (S.M k).get ((S.M 0).next + p) = some (.cells z true ⟨z.length, some ty⟩) ∧ (S.l p).o = .alloc ty z ∧ S.V p = .p (some ((S.M 0).next + p, 0))
  | 0, _ => ⟨rfl, hR, Ext.refl _ _, fun p hp => by omega⟩
  | k + 1, hk => by
    obtain ⟨h1, h2, h3, h4⟩ := first_allocs S hR k (by omega)
    have hkn : k < S.n := Nat.lt_of_lt_of_le hk S.hh
    have hcomp := S.comp k hkn
    have hh := S.hoisted k (by omega)
    unfold hoistO at hh
    split at hh
    case h_2 => simp at hh
    rename_i t hop hgd
    have hz : ∃ ty z, (S.l k).o = .alloc ty z ∧ (S.l k).g = none := by
      unfold compOper at hcomp
      rw [hgd] at hcomp
      simp only [compG, compVO, hop, isCallOp, Bool.false_eq_true, if_false, compOp] at hcomp
      split at hcomp
      · rename_i g vo hg hvo
        simp only [Option.some.injEq] at hcomp hg
        split at hvo
        · rename_i vo' hvo'
          split at hvo'
          · rename_i z' hz'
            split at hvo'
            · simp only [Option.some.injEq] at hvo'
              subst hvo'
              simp only [VO.isCall, Bool.false_eq_true, if_false, Option.some.injEq] at hvo
              subst hvo
              exact ⟨t, z', by rw [← hcomp], by rw [← hcomp]; exact hg.symm⟩
            · simp at hvo'
          · simp at hvo'
        · simp at hvo
      all_goals simp [isAlloc, hop] at hcomp
    obtain ⟨ty, z, hz1, hz2⟩ := hz
    have hw : wants (S.l k).g (S.R k) = true := by rw [hz2]; rfl
    have hx := (S.stepV hkn).2.1 hw
    rw [hz1] at hx
    simp only [execC, exec, Option.some.injEq, Prod.mk.injEq] at hx
    obtain ⟨x1, x2⟩ := hx
    rw [← x2]
    obtain ⟨g1, g2⟩ := h2.aside (.cells z true ⟨z.length, some ty⟩)
    refine ⟨by simp [h1]; omega, g1, h3.trans g2, fun p hp => ?_⟩
    by_cases hpk : p = k
    · subst hpk
      refine ⟨ty, z, by rw [AMem.get_new, if_pos h1], hz1, by rw [← x1, h1]⟩
    · obtain ⟨ty', z', y1, y2, y3⟩ := h4 p (by omega)
      exact ⟨ty', z', by rw [AMem.get_new, if_neg (by omega)]; exact y1, y2, y3⟩
theorem Setting.same (S : Setting P E.G C) (hC : CallOk E P C) : ∀ k, k ≤ S.n → Same (S.M k) (S.M 0)
  | 0, _ => Same.refl _
  | k + 1, hk => by
    have ih := S.same hC k (by omega)
    obtain ⟨_, h2, h3⟩ := S.stepV (show k < S.n by omega)
    cases hw : wants (S.l k).g (S.R k) with
    | false => rw [(h3 hw).2]; exact ih
    | true =>
      have := execC_same hC (h2 hw)
      exact ⟨this.ds.trans ih.ds, this.ro.trans ih.ro⟩
theorem draw_sound (hC : CallOk E P C) (hm : P.follows .mixedOrders = true) : DrawOk E P C (runDraw C) (compDraw P E.G) := by
  intro id ops l ck r m r' m' hc he ρ w a ro k0 hr hR hF
  obtain ⟨S, rfl, rfl, rfl, rfl, rfl⟩ := draw_setting hc he
  refine wpIn_region_any hm ?_
  have hR1 := hR.drawn (w.drawn + 1)
  obtain ⟨h1, h2, h3, h4⟩ := first_allocs S hR1 S.h (Nat.le_refl _)
  have hfalse : ∀ i, (Array.replicate S.ops.size false).getD i false = false := fun i => by
    simp only [Array.getD_eq_getD_getElem?, Array.getElem?_replicate]
    split <;> rfl
  have hsel : selR (S.R 0) S.d S.V (fun p => (Array.replicate S.ops.size false).getD (S.co p) false) S.n = S.R 0 := by
    have hf : (fun p => (Array.replicate S.ops.size false).getD (S.co p) false) = fun _ => false := funext fun p => hfalse _
    rw [hf]
    have : ∀ k, selR (S.R 0) S.d S.V (fun _ => false) k = S.R 0 := by
      intro k
      induction k with
      | zero => rfl
      | succ k ih => simp only [selR, Bool.false_eq_true, if_false, ih]
    exact this S.n
  have hleft : left S.n (Array.replicate S.ops.size false) = S.ops.size := by
    unfold left
    rw [show (fun i => !(Array.replicate S.ops.size false).getD i false) = fun _ : Nat => true from funext fun i => by rw [hfalse]; rfl]
    simp [S.hn]
  refine any_sound S hC (ρ0 := ρ) (m0 := S.M 0) (ds := a.defers) hF (S.same hC) (fun ρ' a' w' g1 g2 g3 g4 => ⟨rfl, ρ', g1, by rw [g2]; exact hF.next g4.le (S.same hC _ (Nat.le_refl _)), g3, g4⟩) S.ops.size _ ρ S.h a _ ⟨by simp [S.hn], fun i j _ _ hi _ => by rw [hfalse] at hi; simp at hi, Nat.le_refl _, S.hh, fun q hq _ _ => by rw [hfalse]; simp; omega, by rw [hsel]; exact hr, rfl, h2, h3, fun p hp _ => ?_, by omega⟩ hleft
  obtain ⟨ty, z, y1, y2, y3⟩ := h4 p hp
  exact ⟨(hR1.fresh _ (by omega)).1, ty, z, y1, y2, y3⟩
def fnOf (P : Program) (G : Nat) (ext : Nat → VFn) (f : Nat) : VFn :=
  match P.funcs[f]? with
  | some fn => match fn.body with
    | some c => if fn.name = "runtime.NumGoroutine" then .none else
      match compRes P fn.results.toList, compC P G (compDraw P G) c with
      | some res, some body => .go fn.ntmps res body
      | _, _ => .none
    | none => ext f
  | none => .none
def ExtOk (E : Env) (P : Program) (ext : Nat → VFn) : Prop :=
  ∀ f g, ext f = .ext g → ∀ args m v m', g args m = some (v, m') → ∀ ρ w (args' : Array Value), VRL ρ args args'.toList → Rep E ρ m w → ∃ v' ρ' w', (callFunc f args').run P w = .ok (.value v') w' ∧ VR ρ' v v' ∧ Rep E ρ' m' w' ∧ Ext ρ m ρ' m'
theorem progOk {ext : Nat → VFn} (hx : ExtOk E P ext) (hxg : ∀ f nt res b, ext f ≠ .go nt res b) (hxs : ∀ f g, ext f ≠ .sum g) {T : Nat → VFn} (hT : ∀ f, T f = .none ∨ T f = fnOf P E.G ext f ∨ ∃ g, T f = .sum g ∧ SumOk E P f g) : ProgOk E P (compDraw P E.G) T := by
  intro f
  rcases hT f with h | h | ⟨g, h, hg⟩
  · rw [h]; trivial
  rotate_left
  · rw [h]; exact hg
  · rw [h]
    unfold fnOf
    cases hf : P.funcs[f]? with
    | none => trivial
    | some fn =>
      simp only
      cases hb : fn.body with
      | none =>
        simp only
        cases he : ext f with
        | go nt res b => exact absurd he (hxg f nt res b)
        | ext g => exact hx f g he
        | sum g => exact absurd he (hxs f g)
        | none => trivial
      | some c =>
        simp only
        by_cases hn : fn.name = "runtime.NumGoroutine"
        · rw [if_pos hn]; trivial
        · rw [if_neg hn]
          cases hres : compRes P fn.results.toList with
          | none => trivial
          | some res =>
            cases hbody : compC P E.G (compDraw P E.G) c with
            | none => trivial
            | some body => exact ⟨fn, c, rfl, hb, hn, rfl, hres, hbody⟩
abbrev ev (T : Nat → VFn) : Nat → CallF := callF runDraw T
theorem ev_sound {T : Nat → VFn} (hcd : ∀ c vc, compC P E.G (compDraw P E.G) c = some vc ↔ E.cd c vc) (hP : ProgOk E P (compDraw P E.G) T) (hm : P.follows .mixedOrders = true) (n : Nat) : CallOk E P (ev T n) :=
  callF_sound hcd (fun _ hC => draw_sound hC hm) hP n
theorem calls_of_ev {T : Nat → VFn} (hcd : ∀ c vc, compC P E.G (compDraw P E.G) c = some vc ↔ E.cd c vc) (hP : ProgOk E P (compDraw P E.G) T) (hm : P.follows .mixedOrders = true) {n f : Nat} {args : List AV} {m : AMem} {v : AV} {m' : AMem} (h : ev T n (.f f) args m = some (v, m')) {nt : Nat} {res : List VRes} {body : VC} (hf : T f = .go nt res body)
    {ρ : Rho} {w : World} {args' : Array Value} (ha : VRL ρ args args'.toList) (hR : Rep E ρ m w) : Calls P f args' w fun e w' => ∃ v' ρ', e = .returned v' ∧ VR ρ' v v' ∧ Rep E ρ' m' w' ∧ Ext ρ m ρ' m' := by
  have hpf := hP f
  rw [hf] at hpf
  obtain ⟨fn, c, h1, h2, h3, _⟩ := hpf
  rcases (ev_sound hcd hP hm n (.f f) args m v m' h).2 ρ w args' ha hR (fun v' w' => ∃ ρ', VR ρ' v v' ∧ Rep E ρ' m' w' ∧ Ext ρ m ρ' m') (fun v' ρ' w' a b c => ⟨ρ', a, b, c⟩) with ⟨u, w', g1, _⟩ | ⟨_, g2⟩
  · exfalso
    simp [callFunc, h1, h2, h3] at g1
  · refine g2.mono fun e w' he => ?_
    cases e with
    | returned v' => obtain ⟨ρ', a, b, c⟩ := he; exact ⟨v', ρ', rfl, a, b, c⟩
    | panicked _ => exact he.elim
    | outgrown => exact he.elim
end
end Go.Vi
