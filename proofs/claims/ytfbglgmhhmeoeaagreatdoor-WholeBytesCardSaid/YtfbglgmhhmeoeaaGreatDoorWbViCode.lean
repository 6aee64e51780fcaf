/- The interpreter Vi: code and calls do what the machine does. No condition. -/
import Derived.Test.YtfbglgmhhmeoeaaGreatDoorWbViRun
import Derived.Sort.LoopGhostIn
namespace Go.Vi
open Go.RowKit
set_option linter.unusedSimpArgs false
set_option linter.unusedVariables false
abbrev DrawF := List VOper → List (Nat × Nat) → List AV → AMem → Option (List AV × AMem)
section
variable {E : Env} {P : Program} {C : CallF} {D : DrawF} {ρ : Rho} {m m' : AMem} {w : World} {r r' : List AV} {a : Act} {v : AV} {ro : Option Nat} {k0 : Nat}
def Ends (E : Env) (ρ : Rho) (m : AMem) (ex : Ex) (r' : List AV) (m' : AMem) (ro : Option Nat) : Exit → Act → World → Prop := fun e a' w' =>
 e = (match ex with | .n => Exit.normal | .x id => .exit id | .ret => .ret) ∧ ∃ ρ', VRL ρ' r' a'.tmps.toList ∧ Fr ρ' m' ro a'.defers ∧ Rep E ρ' m' w' ∧ Ext ρ m ρ' m'
def DrawOk (E : Env) (P : Program) (C : CallF) (D : DrawF) (compDraw : Array Oper → Option (List VOper × List (Nat × Nat))) : Prop :=
 ∀ id ops l ck r m r' m', compDraw ops = some (l, ck) → D l ck r m = some (r', m') → ∀ ρ w (a : Act) ro k0, VRL ρ r a.tmps.toList → Rep E ρ m w → Fr ρ m ro a.defers → (Code.region id ops true).wpIn (FR ro) k0 P (Ends E ρ m .n r' m' ro) a w
def compC (P : Program) (G : Nat) (compDraw : Array Oper → Option (List VOper × List (Nat × Nat))) : Code → Option VC
 | .skip => some .skip
 | .region _ ops false => (compOps P G ops ops.toList).map .reg
 | .region _ ops true => (compDraw ops).map fun q => .regd q.1 q.2
 | .seq x y => match compC P G compDraw x, compC P G compDraw y with
   | some a, some b => some (.seq a b)
   | _, _ => none
 | .cond c x y => match cx G c, compC P G compDraw x, compC P G compDraw y with
   | some c, some a, some b => some (.cond c a b)
   | _, _, _ => none
 | .block id b => (compC P G compDraw b).map (.blk id)
 | .loop b => (compC P G compDraw b).map .loop
 | .exit id => some (.exit id)
 | .ret => some .ret
 | .rangeFunc f ps x y => match cx G f, compC P G compDraw x, compC P G compDraw y with
   | some f, some a, some b => some (.rfn f ps.toList a b)
   | _, _, _ => none
 | _ => some (.reg [{ d := none, g := none, o := .bad }])
theorem Ends.weaken {ρ1 : Rho} {m1 : AMem} {ex : Ex} {e : Exit} {a' : Act} {w' : World} (hx : Ext ρ m ρ1 m1) (h : Ends E ρ1 m1 ex r' m' ro e a' w') : Ends E ρ m ex r' m' ro e a' w' :=
 let ⟨h1, ρ', g1, g2, g3, g4⟩ := h; ⟨h1, ρ', g1, g2, g3, hx.trans g4⟩
theorem Rep.fr {ρ : Rho} {m : AMem} {w : World} (h : Rep E ρ m w) (ds : List Nat) (ro : Option Nat) : Rep E ρ { m with ds := ds, ro := ro } w :=
 ⟨h.base, h.below, h.glob, h.next, h.fresh, h.objs, h.apart⟩
theorem Ext.fr {ρ ρ' : Rho} {m m' : AMem} (h : Ext ρ m ρ' m') (ds : List Nat) (ro : Option Nat) : Ext ρ m ρ' { m' with ds := ds, ro := ro } := ⟨h.le, h.next, h.keep⟩
theorem Ext.fr0 {ρ ρ' : Rho} {m m' : AMem} {ds : List Nat} {ro : Option Nat} (h : Ext ρ { m with ds := ds, ro := ro } ρ' m') : Ext ρ m ρ' m' := ⟨h.le, h.next, h.keep⟩
theorem enter_sound {ps : Array Tmp} {x y : Code} {vx vy : VC} {fn : FuncId} {l : Nat} {m1 : AMem} (hx : E.cd x vx) (hy : E.cd y vy) (he : enterE m r ps.toList vx vy = some (l, m1)) (hr : VRL ρ r a.tmps.toList) (hR : Rep E ρ m w) (hF : Fr ρ m ro a.defers) :
  ∃ l' mark w1 ρ1 t, (Instr.enterLoop fn a.tmps ps x y ro).run P w = .ok (l', mark) w1 ∧ ρ1 l = some t ∧ t.blk = l' ∧ Rep E ρ1 m1 w1 ∧ Ext ρ m ρ1 m1 ∧ Fr ρ1 m1 ro (mark ++ a.defers) := by
 unfold enterE at he
 split at he
 ·rename_i hro
  simp only [Option.some.injEq, Prod.mk.injEq] at he
  obtain ⟨rfl, rfl⟩ := he
  have hro' : ro = none := by
   have := hF.ro; rw [hro] at this
   cases ro with
   | none => rfl
   | some _ => exact this.elim
  subst hro'
  obtain ⟨g1, g2⟩ := hR.push (w' := w.alloc (.deferred (some []))) .dfr ⟨w.heap.size, 0, 0⟩ (.deferred (some [])) rfl rfl rfl rfl rfl ⟨hR.base, World.alloc_heap_new w _⟩
  have hle1 : ρ.le (ρ.put m.next ⟨w.heap.size, 0, 0⟩) := g2.le
  obtain ⟨k1, k2⟩ := g1.push (w' := (w.alloc (.deferred (some []))).alloc (.loop { state := .ready, pending := none, fn, tmps := a.tmps, params := ps, assign := x, body := y, defers := w.heap.size })) (.loop .ready none r ps.toList vx vy) ⟨w.heap.size + 1, 0, 0⟩ (.loop { state := .ready, pending := none, fn, tmps := a.tmps, params := ps, assign := x, body := y, defers := w.heap.size }) rfl rfl rfl rfl (World.size_alloc ..).symm
   ⟨by have := hR.base; simp only; omega, { state := .ready, pending := none, fn, tmps := a.tmps, params := ps, assign := x, body := y, defers := w.heap.size }, by have := World.alloc_heap_new (w.alloc (.deferred (some []))) (.loop { state := .ready, pending := none, fn, tmps := a.tmps, params := ps, assign := x, body := y, defers := w.heap.size }); rwa [World.size_alloc] at this, rfl, trivial, VRL.mono (hle1.trans (Rho.le_put (by have := (g1.fresh _ (Nat.le_refl _)).1; exact this))) _ _ hr, rfl, hx, hy⟩
  refine ⟨w.heap.size + 1, _, _, _, ⟨w.heap.size + 1, 0, 0⟩, run_enterLoop_outer fn a.tmps ps x y, Rho.put_self _ _ _, rfl, k1.fr _ _, (g2.trans k2).fr _ _, ⟨?_, ?_⟩⟩
  ·show RoR _ m.ro none
   rw [hro]; trivial
  ·exact ⟨⟨⟨w.heap.size, 0, 0⟩, k2.le _ _ (Rho.put_self _ _ _), rfl⟩, hF.ds.mono (g2.trans k2).le⟩
 ·rename_i j hro
  split at he
  ·rename_i st pend r0 ps0 a0 b0 hg
   simp only [Option.some.injEq, Prod.mk.injEq] at he
   obtain ⟨rfl, rfl⟩ := he
   have hF1 := hF.ro
   rw [hro] at hF1
   cases ro with
   | none => exact hF1.elim
   | some l0 =>
     obtain ⟨t0, e0, rfl⟩ := hF1
     obtain ⟨_, L, hL, _⟩ := hR.objs j _ t0 hg e0
     obtain ⟨k1, k2⟩ := hR.push (w' := w.alloc (.loop { state := .ready, pending := none, fn, tmps := a.tmps, params := ps, assign := x, body := y, defers := L.defers })) (.loop .ready none r ps.toList vx vy) ⟨w.heap.size, 0, 0⟩ (.loop { state := .ready, pending := none, fn, tmps := a.tmps, params := ps, assign := x, body := y, defers := L.defers }) rfl rfl rfl rfl rfl
      ⟨hR.base, { state := .ready, pending := none, fn, tmps := a.tmps, params := ps, assign := x, body := y, defers := L.defers }, World.alloc_heap_new w _, rfl, trivial, VRL.mono (Rho.le_put (hR.fresh _ (Nat.le_refl _)).1) _ _ hr, rfl, hx, hy⟩
     refine ⟨w.heap.size, [], _, _, ⟨w.heap.size, 0, 0⟩, ?_, Rho.put_self _ _ _, rfl, k1, k2, hF.next k2.le ⟨rfl, rfl⟩⟩
     unfold Instr.enterLoop
     simp only [Sem.run_bind, run_getLoop hL, run_newObj_alloc, Result.andThen, Sem.run_pure]
  ·simp at he
theorem rfn_sound {f : Operand} {vf : X} {ps : Array Tmp} {x y : Code} {vx vy : VC} {ex : Ex} {n : Nat} (hC : CallOk E P C) (hx : E.cd x vx) (hy : E.cd y vy) (he : run C D n (.rfn vf ps.toList vx vy) r m = some (ex, r', m')) (hv : VR ρ (vf.ev r) (a.eval f)) (hr : VRL ρ r a.tmps.toList) (hR : Rep E ρ m w) (hF : Fr ρ m ro a.defers) :
  (Code.rangeFunc f ps x y).wpIn (FR ro) k0 P (Ends E ρ m ex r' m' ro) a w := by
 simp only [run] at he
 split at he
 case h_2 => simp at he
 rename_i l m1 g first cap hen e1
 rw [e1] at hv
 obtain ⟨f', c', hfv, h1, h2⟩ := hv
 split at he
 case h_2 => simp at he
 rename_i v0 m2 hcall
 split at he
 case h_2 => simp at he
 rename_i st pend r0 ps0 a0 b0 hg
 split at he
 ·simp at he
 rename_i hst
 simp only [Option.some.injEq, Prod.mk.injEq] at he
 obtain ⟨rfl, rfl, rfl⟩ := he
 refine wpIn_rangeFunc fun fn _ => ?_
 obtain ⟨l', mark, w1, ρ1, t, hrun, ht, rfl, hR1, hX1, hF1⟩ := enter_sound (P := P) (fn := fn) hx hy hen hr hR hF
 obtain ⟨hsame, hC⟩ := hC (.it g) _ m1 v0 m2 hcall
 have key : ∀ (pd : Option Code) (wx : World), PendR pend pd → (∃ ρ2, VRL ρ2 r a.tmps.toList ∧ Fr ρ2 (m2.put l none) ro (mark ++ a.defers) ∧ Rep E ρ2 (m2.put l none) wx ∧ Ext ρ m ρ2 (m2.put l none)) →
   (match pd with
    | none => Ends E ρ m (pend.getD .n) r (m2.put l none) ro .normal { a with defers := mark ++ a.defers } wx
    | some c => c.wpIn (FR ro) k0 P (Ends E ρ m (pend.getD .n) r (m2.put l none) ro) { a with defers := mark ++ a.defers } wx) := by
  intro pd wx hp hEnd
  cases pd with
  | none =>
    cases pend with
    | none => exact ⟨rfl, hEnd⟩
    | some e => cases e <;> exact hp.elim
  | some c =>
    cases pend with
    | none => exact hp.elim
    | some e =>
      cases e with
      | n => exact hp.elim
      | ret =>
        cases c <;> first | exact hp.elim | skip
        exact wpIn_ret ⟨rfl, hEnd⟩
      | x i =>
        cases c <;> first | exact hp.elim | skip
        simp only [PendR] at hp
        subst hp
        exact wpIn_exit ⟨rfl, hEnd⟩
 obtain ⟨c1, c2⟩ := hC ρ1 w1 ((f' ++ #[.func (.yield t.blk) #[] #[]]) ++ c') (by
  simp only [Array.toList_append]
  exact ((VRL.mono hX1.le _ _ h1).append (VRL.one (show VR ρ1 (.yl l) (.func (.yield t.blk) #[] #[]) from ⟨t, ht, rfl⟩))).append (VRL.mono hX1.le _ _ h2)) hR1
  (fun _ w3 => ∃ jump w4, (Instr.endLoop t.blk).run P w3 = .ok jump w4 ∧ (match jump with
    | none => Ends E ρ m (pend.getD .n) r (m2.put l none) ro .normal { a with defers := mark ++ a.defers } w4
    | some c => c.wpIn (FR ro) k0 P (Ends E ρ m (pend.getD .n) r (m2.put l none) ro) { a with defers := mark ++ a.defers } w4))
  (fun v' ρ' w' q1 q2 q3 => by
    have ht' := q3.le _ _ ht
    obtain ⟨hb, L, hL, hs, hp, _⟩ := q2.objs l _ t hg ht'
    have hend := run_endLoop (P := P) hL (by rw [hs]; exact hst)
    refine ⟨_, _, hend, ?_⟩
    obtain ⟨z1, z2⟩ := q2.kill (w' := w'.putObj t.blk (.loop { L with state := .exhausted })) hg rfl ht' rfl rfl rfl (by simp) (fun k hk => World.putObj_heap_other hk)
    have hEnd : ∃ ρ2, VRL ρ2 r a.tmps.toList ∧ Fr ρ2 (m2.put l none) ro (mark ++ a.defers) ∧ Rep E ρ2 (m2.put l none) (w'.putObj t.blk (.loop { L with state := .exhausted })) ∧ Ext ρ m ρ2 (m2.put l none) :=
     ⟨ρ', VRL.mono (hX1.le.trans q3.le) _ _ hr, (hF1.next q3.le hsame).next (Rho.le_refl _) ⟨rfl, rfl⟩, z1, (hX1.trans q3).trans z2⟩
    exact key _ _ hp hEnd)
 refine ⟨t.blk, mark, w1, { target := .fn (.func g) c', args := f' ++ #[.func (.yield t.blk) #[] #[]] }, w1, g, (f' ++ #[.func (.yield t.blk) #[] #[]]) ++ c', w1, hrun, ?_, fun _ _ => trivial, ?_, depth_any, ?_⟩
 ·simp only [resolve, hfv]
  simp [Deferred.ofValue, Act.eval]
 ·simp only [invoke]; exact c1
 ·refine (callsIn_wide (n := k0 - 1)).2 (c2.mono fun e w'' he => ?_)
  cases e with
  | returned v => exact he
  | panicked _ => exact he.elim
  | outgrown => exact he.elim
theorem code_sound (hC : CallOk E P C) {compDraw : Array Oper → Option (List VOper × List (Nat × Nat))} (hD : DrawOk E P C D compDraw) (hcd : ∀ c vc, compC P E.G compDraw c = some vc → E.cd c vc) (n : Nat) : ∀ (c : Code) (vc : VC), compC P E.G compDraw c = some vc → ∀ (r : List AV) (m : AMem) (ex : Ex) (r' : List AV) (m' : AMem), run C D n vc r m = some (ex, r', m') → ∀ (ρ : Rho) (w : World) (a : Act) (ro : Option Nat) (k0 : Nat), VRL ρ r a.tmps.toList → Rep E ρ m w → Fr ρ m ro a.defers →
  c.wpIn (FR ro) k0 P (Ends E ρ m ex r' m' ro) a w := by
 intro c
 induction c with
 | skip =>
   intro vc h r m ex r' m' he ρ w a ro k0 hr hR hF
   simp only [compC, Option.some.injEq] at h; subst h
   simp only [run, Option.some.injEq, Prod.mk.injEq] at he
   obtain ⟨rfl, rfl, rfl⟩ := he
   exact wpIn_skip ⟨rfl, ρ, hr, hF, hR, Ext.refl _ _⟩
 | region id ops draw =>
   intro vc h r m ex r' m' he ρ w a ro k0 hr hR hF
   cases draw with
   | false =>
     simp only [compC] at h
     obtain ⟨l, hl, rfl⟩ := Option.map_eq_some_iff.1 h
     simp only [run] at he
     obtain ⟨q, hq, he⟩ := Option.map_eq_some_iff.1 he
     simp only [Prod.mk.injEq] at he
     obtain ⟨rfl, rfl, rfl⟩ := he
     refine wpIn_region_list ?_
     have h2 := ops_sound (Q := Ends E ρ m .n q.1 q.2 ro) (n := k0) hC ops.toList l r m ρ a w hl hq hr hR hF (fun ρ' a' w' g1 g2 g3 g4 => ⟨rfl, ρ', g1, g2, g3, g4⟩)
     exact h2
   | true =>
     simp only [compC] at h
     obtain ⟨q, hq, rfl⟩ := Option.map_eq_some_iff.1 h
     simp only [run] at he
     obtain ⟨q2, hq2, he⟩ := Option.map_eq_some_iff.1 he
     simp only [Prod.mk.injEq] at he
     obtain ⟨rfl, rfl, rfl⟩ := he
     exact hD id ops q.1 q.2 r m _ _ hq hq2 ρ w a ro k0 hr hR hF
 | seq x y ihx ihy =>
   intro vc h r m ex r' m' he ρ w a ro k0 hr hR hF
   simp only [compC] at h
   split at h
   ·rename_i vx vy hx hy
    simp only [Option.some.injEq] at h; subst h
    simp only [run] at he
    refine wpIn_seq ?_
    split at he
    ·rename_i r1 m1 h1
     refine wpIn_mono (ihx vx hx r m .n r1 m1 h1 ρ w a ro k0 hr hR hF) ?_
     rintro e a1 w1 ⟨rfl, ρ1, g1, g2, g3, g4⟩
     refine wpIn_mono (ihy vy hy r1 m1 ex r' m' he ρ1 w1 a1 ro k0 g1 g3 g2) ?_
     rintro e a2 w2 hh
     exact hh.weaken g4
    ·rename_i hne
     refine wpIn_mono (ihx vx hx r m ex r' m' he ρ w a ro k0 hr hR hF) ?_
     rintro e a1 w1 ⟨rfl, hh⟩
     cases ex with
     | n => exact absurd he (by intro h; exact hne _ _ h)
     | x id => exact ⟨rfl, hh⟩
     | ret => exact ⟨rfl, hh⟩
   ·simp at h
 | cond c x y ihx ihy =>
   intro vc h r m ex r' m' he ρ w a ro k0 hr hR hF
   simp only [compC] at h
   split at h
   ·rename_i vc' vx vy hc hx hy
    simp only [Option.some.injEq] at h; subst h
    have hv := cx_sound (a := a) hr hR hc
    simp only [run] at he
    split at he
    ·rename_i e1
     rw [e1] at hv
     exact wpIn_cond_true hv.bool (ihx vx hx r m ex r' m' he ρ w a ro k0 hr hR hF)
    ·rename_i e1
     rw [e1] at hv
     exact wpIn_cond_false hv.bool (ihy vy hy r m ex r' m' he ρ w a ro k0 hr hR hF)
    ·simp at he
   ·simp at h
 | block id b ih =>
   intro vc h r m ex r' m' he ρ w a ro k0 hr hR hF
   simp only [compC] at h
   obtain ⟨vb, hb, rfl⟩ := Option.map_eq_some_iff.1 h
   simp only [run] at he
   refine wpIn_block ?_
   split at he
   ·rename_i i r1 m1 h1
    refine wpIn_mono (ih vb hb r m (.x i) r1 m1 h1 ρ w a ro k0 hr hR hF) ?_
    rintro e a1 w1 ⟨rfl, hh⟩
    simp only [Exit.inBlock]
    split at he
    ·rename_i hid
     simp only [Option.some.injEq, Prod.mk.injEq] at he
     obtain ⟨rfl, rfl, rfl⟩ := he
     rw [if_pos hid]; exact ⟨rfl, hh⟩
    ·rename_i hid
     simp only [Option.some.injEq, Prod.mk.injEq] at he
     obtain ⟨rfl, rfl, rfl⟩ := he
     rw [if_neg hid]; exact ⟨rfl, hh⟩
   ·rename_i hne
    refine wpIn_mono (ih vb hb r m ex r' m' he ρ w a ro k0 hr hR hF) ?_
    rintro e a1 w1 ⟨rfl, hh⟩
    cases ex with
    | x i => exact absurd he (by intro h; exact hne _ _ _ h)
    | n => exact ⟨rfl, hh⟩
    | ret => exact ⟨rfl, hh⟩
 | loop b ih =>
   intro vc h r m ex r' m' he ρ w a ro k0 hr hR hF
   simp only [compC] at h
   obtain ⟨vb, hb, rfl⟩ := Option.map_eq_some_iff.1 h
   simp only [run] at he
   refine wpIn_loop_ghost (I := fun k a1 w1 => ∃ ρ1 r1 m1, loopF (fun r m => run C D n vb r m) k r1 m1 = some (ex, r', m') ∧ VRL ρ1 r1 a1.tmps.toList ∧ Fr ρ1 m1 ro a1.defers ∧ Rep E ρ1 m1 w1 ∧ Ext ρ m ρ1 m1) n ⟨ρ, r, m, he, hr, hF, hR, Ext.refl _ _⟩ ?_
   rintro k a1 w1 ⟨ρ1, r1, m1, hl, g1, g2, g3, g4⟩
   cases k with
   | zero => simp [loopF] at hl
   | succ k =>
     simp only [loopF] at hl
     split at hl
     ·rename_i r2 m2 h2
      refine wpIn_mono (ih vb hb r1 m1 .n r2 m2 h2 ρ1 w1 a1 ro k0 g1 g3 g2) ?_
      rintro e a2 w2 ⟨rfl, ρ2, q1, q2, q3, q4⟩
      exact ⟨k, Nat.lt_succ_self k, ρ2, r2, m2, hl, q1, q2, q3, g4.trans q4⟩
     ·rename_i hne
      refine wpIn_mono (ih vb hb r1 m1 ex r' m' hl ρ1 w1 a1 ro k0 g1 g3 g2) ?_
      rintro e a2 w2 hh
      have hh' := hh.weaken g4
      obtain ⟨rfl, _⟩ := hh
      cases ex with
      | n => exact absurd hl (by intro h; exact hne _ _ h)
      | x i => exact hh'
      | ret => exact hh'
 | exit id =>
   intro vc h r m ex r' m' he ρ w a ro k0 hr hR hF
   simp only [compC, Option.some.injEq] at h; subst h
   simp only [run, Option.some.injEq, Prod.mk.injEq] at he
   obtain ⟨rfl, rfl, rfl⟩ := he
   exact wpIn_exit ⟨rfl, ρ, hr, hF, hR, Ext.refl _ _⟩
 | ret =>
   intro vc h r m ex r' m' he ρ w a ro k0 hr hR hF
   simp only [compC, Option.some.injEq] at h; subst h
   simp only [run, Option.some.injEq, Prod.mk.injEq] at he
   obtain ⟨rfl, rfl, rfl⟩ := he
   exact wpIn_ret ⟨rfl, ρ, hr, hF, hR, Ext.refl _ _⟩
 | rangeFunc f ps x y _ _ =>
   intro vc h r m ex r' m' he ρ w a ro k0 hr hR hF
   simp only [compC] at h
   split at h
   ·rename_i vf vx vy hf hx hy
    simp only [Option.some.injEq] at h; subst h
    exact rfn_sound hC (hcd _ _ hx) (hcd _ _ hy) he (cx_sound (a := a) hr hR hf) hr hR hF
   ·simp at h
 | _ =>
   intro vc h r m ex r' m' he
   simp only [compC, Option.some.injEq] at h; subst h
   simp [run, runOps, stepO, wants, execC, exec] at he
/-! ### Results, functions, calls -/
def compRes (P : Program) : List ResultVar → Option (List VRes)
 | [] => some []
 | .tmp t :: l => (compRes P l).map (.t t :: ·)
 | .cell a t :: l => match P.underlying t, P.info? t, compRes P l with
   | some d, some i, some k => some (.c a (if aggD d then some i.size else none) :: k)
   | _, _, _ => none
def resOne (a : Act) : ResultVar → Sem Value
 | .tmp t => pure (a.tmps.getD t undef)
 | .cell x t => do loadVar t (← asAddr (a.tmps.getD x undef))
theorem res_sound (hr : VRL ρ r a.tmps.toList) (hR : Rep E ρ m w) : ∀ (l : List ResultVar) (vl : List VRes) (vs : List AV), compRes P l = some vl → resE r m vl = some vs → ∃ us, (l.mapM (resOne a)).run P w = .ok us w ∧ VRL ρ vs us
 | [], vl, vs, h, he => by
   simp only [compRes, Option.some.injEq] at h; subst h
   simp only [resE, Option.some.injEq] at he; subst he
   exact ⟨[], rfl, by simp [VRL]⟩
 | .tmp t :: l, vl, vs, h, he => by
   simp only [compRes] at h
   obtain ⟨k, hk, rfl⟩ := Option.map_eq_some_iff.1 h
   simp only [resE] at he
   obtain ⟨ks, hks, rfl⟩ := Option.map_eq_some_iff.1 he
   obtain ⟨us, g1, g2⟩ := res_sound hr hR l k ks hk hks
   have hv := cx_sound (E := E) (a := a) (x := .tmp t) (y := .t t) hr hR rfl
   exact ⟨a.tmps.getD t undef :: us, by rw [List.mapM_cons]; simp [resOne, g1], ⟨_, _, rfl, hv, g2⟩⟩
 | .cell x t :: l, vl, vs, h, he => by
   simp only [compRes] at h
   split at h
   ·rename_i d i k hd hi hk
    simp only [Option.some.injEq] at h; subst h
    have hv := cx_sound (E := E) (a := a) (x := .tmp x) (y := .t x) hr hR rfl
    simp only [Act.eval] at hv
    have ih := fun ks hks => res_sound hr hR l k ks hk hks
    have key : ∀ u v, exec u r m = some (v, m) → (u = .ld (.t x) ∧ aggD d = false ∨ u = .ldn i.size (.t x) ∧ aggD d = true) → ∃ v', (resOne a (.cell x t)).run P w = .ok v' w ∧ VR ρ v v' := by
     intro u v he hu
     rcases hu with ⟨rfl, hag⟩ | ⟨rfl, hag⟩
     ·simp only [exec] at he
      split at he
      ·rename_i j q e1
       rw [e1] at hv
       obtain ⟨t', ht, hv⟩ := hv
       split at he
       ·rename_i c wr es hg
        obtain ⟨u, hu, he⟩ := Option.map_eq_some_iff.1 he
        simp only [Prod.mk.injEq, and_true] at he
        subst he
        obtain ⟨v', hc, hr'⟩ := CellsAt.cell (hR.objs j _ t' hg ht) q u hu
        refine ⟨v', ?_, hr'⟩
        simp [resOne, hv, asAddr, loadVar, run_agg hd, hag, hc]
       ·simp at he
      ·simp at he
     ·simp only [exec] at he
      split at he
      ·rename_i j q e1
       rw [e1] at hv
       obtain ⟨t', ht, hv⟩ := hv
       obtain ⟨u, hu, he⟩ := Option.map_eq_some_iff.1 he
       simp only [Prod.mk.injEq, and_true] at he
       subst he
       unfold rd at hu
       split at hu
       ·rename_i c wr es hg
        split at hu
        ·rename_i hle
         simp only [Option.some.injEq] at hu; subst hu
         obtain ⟨vs, hl, hr'⟩ := CellsAt.loads (P := P) (hR.objs j _ t' hg ht) q i.size hle
         refine ⟨.agg vs, ?_, vs, rfl, hr'⟩
         simp [resOne, hv, asAddr, loadVar, run_agg hd, hag, run_size hi, hl]
        ·simp at hu
       ·simp at hu
      ·simp at he
    have hm : ∀ u q v m2, (u = VO.ld q ∨ ∃ z, u = VO.ldn z q) → exec u r m = some (v, m2) → m2 = m := by
     intro u q v m2 hu he
     rcases hu with rfl | ⟨z, rfl⟩ <;> simp only [exec] at he <;> split at he <;> try (simp at he; done)
     ·split at he
      ·obtain ⟨_, _, he⟩ := Option.map_eq_some_iff.1 he
       simp only [Prod.mk.injEq] at he; exact he.2.symm
      ·simp at he
     ·obtain ⟨_, _, he⟩ := Option.map_eq_some_iff.1 he
      simp only [Prod.mk.injEq] at he; exact he.2.symm
    cases hag : aggD d with
    | false =>
      rw [hag] at he
      simp only [Bool.false_eq_true, if_false, resE] at he
      split at he
      ·rename_i v m2 hx
       obtain rfl := hm _ _ _ _ (.inl rfl) hx
       obtain ⟨ks, hks, rfl⟩ := Option.map_eq_some_iff.1 he
       obtain ⟨us, g1, g2⟩ := ih ks hks
       obtain ⟨v', q1, q2⟩ := key _ v hx (.inl ⟨rfl, hag⟩)
       exact ⟨v' :: us, by rw [List.mapM_cons]; simp [q1, g1], ⟨_, _, rfl, q2, g2⟩⟩
      ·simp at he
    | true =>
      rw [hag] at he
      simp only [if_true, resE] at he
      split at he
      ·rename_i v m2 hx
       obtain rfl := hm _ _ _ _ (.inr ⟨_, rfl⟩) hx
       obtain ⟨ks, hks, rfl⟩ := Option.map_eq_some_iff.1 he
       obtain ⟨us, g1, g2⟩ := ih ks hks
       obtain ⟨v', q1, q2⟩ := key _ v hx (.inr ⟨rfl, hag⟩)
       exact ⟨v' :: us, by rw [List.mapM_cons]; simp [q1, g1], ⟨_, _, rfl, q2, g2⟩⟩
      ·simp at he
   ·simp at h
theorem results_sound {fn : Func} {vl : List VRes} {vs : List AV} (hr : VRL ρ r a.tmps.toList) (hR : Rep E ρ m w) (hc : compRes P fn.results.toList = some vl) (he : resE r m vl = some vs) : ∃ v, (results fn a.tmps).run P w = .ok v w ∧ VR ρ (tupE vs) v := by
 obtain ⟨us, h1, h2⟩ := res_sound (P := P) hr hR fn.results.toList vl vs hc he
 have hl := h2.length
 have hm : (fn.results.mapM (resOne a)).run P w = .ok us.toArray w := by
  rw [Array.mapM_eq_mapM_toList]
  simp [h1]
 have hres : results fn a.tmps = (do let vs ← fn.results.mapM (resOne a); pure (if h : vs.size = 1 then vs[0] else .tuple vs)) := by
  unfold results
  rfl
 rw [hres]
 simp only [Sem.run_bind, hm, Result.andThen_ok, Sem.run_pure]
 refine ⟨_, rfl, ?_⟩
 match vs, us, h2, hl with
 | [], [], h2, _ => exact ⟨#[], rfl, by simp [VRL]⟩
 | [x], [u], h2, _ =>
   obtain ⟨u', l', e, hu, hn⟩ := h2
   simp at e; obtain ⟨rfl, rfl⟩ := e
   exact hu
 | x :: y :: l, u :: u2 :: k, h2, _ =>
   have : ¬((u :: u2 :: k).toArray.size = 1) := by simp
   rw [dif_neg this]
   exact ⟨_, rfl, h2⟩
def leaveE : List Nat → AMem → Option AMem
 | [], m => some m
 | j :: l, m => match m.get j with
   | some .dfr => leaveE l (m.put j none)
   | _ => none
def setMany (r : List AV) : List Nat → List AV → List AV
 | p :: ps, v :: vs => setMany (r.set p v) ps vs
 | _, _ => r
def goF (R : VC → List AV → AMem → Out) (nt : Nat) (res : List VRes) (body : VC) (args : List AV) (m : AMem) : Option (AV × AMem) :=
 match R body (args ++ List.replicate (nt - args.length) un) { m with ds := [], ro := none } with
 | some (.n, r, m1) | some (.ret, r, m1) => match leaveE m1.ds m1 with
   | some m2 => (resE r m2 res).map fun l => (tupE l, { m2 with ds := m.ds, ro := m.ro })
   | none => none
 | _ => none
def jumpOf : Ex → Option Ex
 | .n => none
 | e => some e
def roundF (R : VC → List AV → AMem → Out) (l : Nat) (args : List AV) (m : AMem) : Option (AV × AMem) :=
 match m.get l with
 | some (.loop .ready none r ps asg body) =>
   if args.length = ps.length then
    match R asg (setMany r ps args) { m with ds := [], ro := some l } with
    | some (.n, r1, m1) => match m1.get l with
      | some (.loop .ready none r' ps' asg' body') => match R body r1 (m1.put l (some (.loop .busy none r' ps' asg' body'))) with
        | some (ex, _, m2) => match m2.get l with
          | some (.loop _ _ r2 ps2 asg2 body2) => some (.b (jumpOf ex).isNone, { m2.put l (some (.loop (if (jumpOf ex).isNone then .ready else .done) (jumpOf ex) r2 ps2 asg2 body2)) with ds := m.ds, ro := m.ro })
          | _ => none
        | none => none
      | _ => none
    | _ => none
   else none
 | _ => none
def callF (D : CallF → DrawF) (prog : Nat → VFn) : Nat → CallF
 | 0, _, _, _ => none
 | n + 1, .f f, args, m => match prog f with
   | .go nt res body => goF (run (callF D prog n) (D (callF D prog n)) n) nt res body args m
   | .ext g => (g args m).map fun q => (q.1, { q.2 with ds := m.ds, ro := m.ro })
   | .sum g => (g args m).map fun q => (q.1, { q.2 with ds := m.ds, ro := m.ro })
   | .none => none
 | n + 1, .it f, args, m => match prog f with
   | .go nt res body => goF (run (callF D prog n) (D (callF D prog n)) n) nt res body args m
   | _ => none
 | n + 1, .y l, args, m => roundF (run (callF D prog n) (D (callF D prog n)) n) l args m
def SumOk (E : Env) (P : Program) (f : Nat) (g : List AV → AMem → Option (AV × AMem)) : Prop :=
 ∀ args m v m', g args m = some (v, m') → ∀ ρ w (args' : Array Value), VRL ρ args args'.toList → Rep E ρ m w →
  (callFunc f args').run P w = .ok (.enter f args') w ∧ Calls P f args' w fun e w' => match e with | .returned u => ∃ ρ', VR ρ' v u ∧ Rep E ρ' m' w' ∧ Ext ρ m ρ' m' | _ => False
def ProgOk (E : Env) (P : Program) (compDraw : Array Oper → Option (List VOper × List (Nat × Nat))) (prog : Nat → VFn) : Prop :=
 ∀ f, match prog f with
  | .go nt res body => ∃ fn c, P.funcs[f]? = some fn ∧ fn.body = some c ∧ fn.name ≠ "runtime.NumGoroutine" ∧ fn.ntmps = nt ∧ compRes P fn.results.toList = some res ∧ compC P E.G compDraw c = some body
  | .ext g => ∀ args m v m', g args m = some (v, m') → ∀ ρ w (args' : Array Value), VRL ρ args args'.toList → Rep E ρ m w → ∃ v' ρ' w', (callFunc f args').run P w = .ok (.value v') w' ∧ VR ρ' v v' ∧ Rep E ρ' m' w' ∧ Ext ρ m ρ' m'
  | .sum g => SumOk E P f g
  | .none => True
theorem leave_sound {fn : Func} {tmps : Array Value} {R : Ending → World → Prop} : ∀ (ds : List Nat) (m m2 : AMem) (dl : List Deferred) (w : World), leaveE ds m = some m2 → DefR ρ ds dl → Rep E ρ m w → (∀ w', Rep E ρ m2 w' → Ext ρ m ρ m2 → ∃ v, (results fn tmps).run P w' = .ok v w' ∧ R (.returned v) w') → LeavesInM Fence.wide k0 P fn tmps R dl .returning w
 | [], m, m2, [], w, h, _, hR, hK => by
   simp only [leaveE, Option.some.injEq] at h; subst h
   exact hK w hR (Ext.refl _ _)
 | [], _, _, _ :: _, _, _, h, _, _ => h.elim
 | _ :: _, _, _, [], _, _, h, _, _ => h.elim
 | j :: ds, m, m2, d :: dl, w, h, hd, hR, hK => by
   obtain ⟨⟨t, ht, rfl⟩, hd⟩ := hd
   simp only [leaveE] at h
   split at h
   ·rename_i hg
    have hobj : ObjAt E ρ w t .dfr := hR.objs j _ t hg ht
    obtain ⟨g1, g2⟩ := hR.kill (w' := w.putObj t.blk (.deferred none)) hg rfl ht rfl rfl rfl (by simp) (fun k hk => World.putObj_heap_other hk)
    exact ⟨by simp, .inl ⟨t.blk, _, rfl, run_takeDeferred hobj.2, leave_sound ds _ m2 dl _ h hd g1 fun w' q1 q2 => hK w' q1 (g2.trans q2)⟩⟩
   ·simp at h
theorem setMany_sound : ∀ (ps : List Nat) (args : List AV) (r : List AV) (vs : List Value) (tmps : Array Value), VRL ρ r tmps.toList → VRL ρ args vs → VRL ρ (setMany r ps args) ((ps.zip vs).foldl (fun (tmps : Array Value) (q : Nat × Value) => tmps.setIfInBounds q.1 q.2) tmps).toList
 | [], args, r, vs, tmps, hr, ha => by cases args <;> simpa [setMany] using hr
 | p :: ps, [], r, vs, tmps, hr, ha => by
   simp only [VRL] at ha; subst ha
   simpa [setMany] using hr
 | p :: ps, a :: args, r, vs, tmps, hr, ha => by
   obtain ⟨v, vs', rfl, h1, h2⟩ := ha
   simp only [setMany, List.zip_cons_cons, List.foldl_cons]
   exact setMany_sound ps args _ vs' _ (by rw [Array.toList_setIfInBounds]; exact hr.set p h1) h2
theorem go_sound {D : CallF → DrawF} {compDraw : Array Oper → Option (List VOper × List (Nat × Nat))} {n : Nat} (hcd : ∀ c vc, compC P E.G compDraw c = some vc → E.cd c vc) (hC : CallOk E P C) (hD : DrawOk E P C (D C) compDraw) {f : Nat} {fn : Func} {c : Code} {nt : Nat} {res : List VRes} {body : VC} {args : List AV}
  (h1 : P.funcs[f]? = some fn) (h2 : fn.body = some c) (h3 : fn.name ≠ "runtime.NumGoroutine") (h4 : fn.ntmps = nt) (h5 : compRes P fn.results.toList = some res) (h6 : compC P E.G compDraw c = some body) (h : goF (run C (D C) n) nt res body args m = some (v, m')) :
  Same m' m ∧ ∀ ρ w (args' : Array Value), VRL ρ args args'.toList → Rep E ρ m w → ∀ K : Value → World → Prop, (∀ v' ρ' w', VR ρ' v v' → Rep E ρ' m' w' → Ext ρ m ρ' m' → K v' w') →
   (callFunc f args').run P w = .ok (.enter f args') w ∧ Calls P f args' w fun e w' => match e with | .returned v => K v w' | _ => False := by
 have fin : ∀ (ex : Ex) r m1, run C (D C) n body (args ++ List.replicate (nt - args.length) un) { m with ds := [], ro := none } = some (ex, r, m1) → (ex = .n ∨ ex = .ret) → (match leaveE m1.ds m1 with | some m2 => (resE r m2 res).map fun l => (tupE l, { m2 with ds := m.ds, ro := m.ro }) | none => none) = some (v, m') →
   Same m' m ∧ ∀ ρ w (args' : Array Value), VRL ρ args args'.toList → Rep E ρ m w → ∀ K : Value → World → Prop, (∀ v' ρ' w', VR ρ' v v' → Rep E ρ' m' w' → Ext ρ m ρ' m' → K v' w') →
   Calls P f args' w fun e w' => match e with | .returned v => K v w' | _ => False := by
  intro ex r m1 hrun hex hres
  split at hres
  case h_2 => simp at hres
  rename_i m2 hlv
  obtain ⟨l, hl, hres⟩ := Option.map_eq_some_iff.1 hres
  simp only [Prod.mk.injEq] at hres
  obtain ⟨rfl, rfl⟩ := hres
  refine ⟨⟨rfl, rfl⟩, fun ρ w args' hargs hR K hK => ?_⟩
  have hlen := hargs.length
  simp only [Array.length_toList] at hlen
  have hr0 : VRL ρ (args ++ List.replicate (nt - args.length) un) (args' ++ Array.replicate (fn.ntmps - args'.size) undef).toList := by
   rw [Array.toList_append, Array.toList_replicate, h4, ← hlen]
   refine hargs.append ?_
   refine VRL.of_get (by simp) fun k x hk => ?_
   rw [List.getElem?_replicate] at hk ⊢
   split at hk
   ·rw [if_pos (by assumption)]
    simp only [Option.some.injEq] at hk; subst hk
    exact ⟨undef, rfl, #[], rfl, by simp [VRL]⟩
   ·simp at hk
  refine (callsIn_wide (n := 0)).1 (callsIn_of_wp_marks h1 h2 trivial ?_)
  refine wpIn_mono (code_sound hC hD hcd n c body h6 _ _ ex r m1 hrun ρ w _ none 0 hr0 (hR.fr _ _) ⟨trivial, trivial⟩) ?_
  rintro e a1 w1 ⟨rfl, ρ1, g1, g2, g3, g4⟩
  have hleave : LeavesInM Fence.wide 0 P fn a1.tmps (fun e w' => match e with | .returned v => K v w' | _ => False) a1.defers .returning w1 := by
   refine leave_sound m1.ds m1 m2 a1.defers w1 hlv g2.ds g3 fun w' q1 q2 => ?_
   obtain ⟨v', p1, p2⟩ := results_sound (P := P) g1 q1 h5 hl
   exact ⟨v', p1, hK v' ρ1 w' p2 (q1.fr _ _) ((g4.fr0.trans q2).fr _ _)⟩
  rcases hex with rfl | rfl <;> exact hleave
 have key : Same m' m ∧ ∀ ρ w (args' : Array Value), VRL ρ args args'.toList → Rep E ρ m w → ∀ K : Value → World → Prop, (∀ v' ρ' w', VR ρ' v v' → Rep E ρ' m' w' → Ext ρ m ρ' m' → K v' w') →
   Calls P f args' w fun e w' => match e with | .returned v => K v w' | _ => False := by
  unfold goF at h
  split at h
  ·rename_i r m1 hrun; exact fin _ _ _ hrun (.inl rfl) h
  ·rename_i r m1 hrun; exact fin _ _ _ hrun (.inr rfl) h
  ·simp at h
 exact ⟨key.1, fun ρ w args' a1 a2 K a3 => ⟨by simp [callFunc, h1, h2, h3], key.2 ρ w args' a1 a2 K a3⟩⟩
theorem PendR.jump : ∀ (ex : Ex), PendR (jumpOf ex) (match ex with | .n => none | .x id => some (.exit id) | .ret => some .ret)
 | .n => trivial
 | .x _ => rfl
 | .ret => trivial
theorem round_sound {D : CallF → DrawF} {compDraw : Array Oper → Option (List VOper × List (Nat × Nat))} {n : Nat} (hcd : ∀ c vc, compC P E.G compDraw c = some vc ↔ E.cd c vc) (hC : CallOk E P C) (hD : DrawOk E P C (D C) compDraw) {l : Nat} {args : List AV} (h : roundF (run C (D C) n) l args m = some (v, m')) :
  Same m' m ∧ ∀ ρ w (args' : Array Value), VRL ρ args args'.toList → Rep E ρ m w → ∀ K : Value → World → Prop, (∀ v' ρ' w', VR ρ' v v' → Rep E ρ' m' w' → Ext ρ m ρ' m' → K v' w') → ∀ t, ρ l = some t → RoundTo P t.blk args' w K := by
 unfold roundF at h
 split at h
 case h_2 => simp at h
 rename_i r ps asg body hg
 split at h
 case isFalse => simp at h
 rename_i hlen
 split at h
 case h_2 => simp at h
 rename_i r1 m1 hasg
 split at h
 case h_2 => simp at h
 rename_i r' ps' asg' body' hg1
 split at h
 case h_2 => simp at h
 rename_i ex r2 m2 hbody
 split at h
 case h_2 => simp at h
 rename_i st2 pd2 r3 ps2 asg2 body2 hg2
 simp only [Option.some.injEq, Prod.mk.injEq] at h
 obtain ⟨rfl, rfl⟩ := h
 refine ⟨⟨rfl, rfl⟩, fun ρ w args' hargs hR K hK t ht => ?_⟩
 obtain ⟨hB, L, hL, hLs, hLp, hLr, rfl, hLa, hLb⟩ := hR.objs l _ t hg ht
 have hal := hargs.length
 simp only [Array.length_toList] at hal
 have hy := run_yield (P := P) (args := args') hL (by rw [← hal, hlen]; simp)
 refine ⟨_, _, _, _, hy, ?_⟩
 refine roundIn_of_wpIn trivial ?_
 have htm : VRL ρ (setMany r L.params.toList args) ((L.params.zip args').foldl (fun tmps (t, a) => tmps.setIfInBounds t a) L.tmps).toList := by
  have := setMany_sound L.params.toList args r args'.toList L.tmps hLr hargs
  rw [← Array.foldl_toList, Array.toList_zip]
  exact this
 refine wpIn_mono (code_sound hC hD (fun c vc => (hcd c vc).1) n L.assign asg ((hcd _ _).2 hLa) _ _ .n r1 m1 hasg ρ w { tmps := _, defers := [] } (some t.blk) 0 htm (hR.fr _ _) ⟨⟨t, ht, rfl⟩, trivial⟩) ?_
 rintro e a1 w1 ⟨rfl, ρ1, g1, g2, g3, g4⟩
 have ht1 := g4.le _ _ ht
 obtain ⟨hB1, L1, hL1, hLs1, hLp1, hLr1, rfl, hLa1, hLb1⟩ := g3.objs l _ t hg1 ht1
 refine ⟨_, run_beginRound hL1 hLs1, ?_⟩
 obtain ⟨k1, k2⟩ := g3.write (w' := w1.putObj t.blk (.loop { L1 with state := .busy })) (o' := .loop .busy none r' L1.params.toList asg' body') hg1 rfl ht1 rfl rfl rfl rfl (by simp) (fun k hk => World.putObj_heap_other hk)
  ⟨hB1, _, World.putObj_heap_same (Array.getElem?_eq_some_iff.1 hL1).1, rfl, hLp1, hLr1, rfl, hLa1, hLb1⟩
 have hbd : compC P E.G compDraw L.body = some body := (hcd _ _).2 hLb
 refine wpIn_mono (code_sound hC hD (fun c vc => (hcd c vc).1) n L.body body hbd _ _ ex r2 m2 hbody ρ1 _ a1 (some t.blk) 0 g1 k1 (g2.next (Rho.le_refl _) ⟨rfl, rfl⟩)) ?_
 rintro e a2 w2 ⟨rfl, ρ2, q1, q2, q3, q4⟩
 have ht2 := q4.le _ _ ht1
 obtain ⟨hB2, L2, hL2, hLs2, hLp2, hLr2, rfl, hLa2, hLb2⟩ := q3.objs l _ t hg2 ht2
 have fin : ∀ jump : Option Code, PendR (jumpOf ex) jump → (jump.isNone = (jumpOf ex).isNone) → ∃ v w', (Instr.endRound t.blk jump).run P w2 = .ok v w' ∧ (match (Ending.returned v) with | .returned v => K v w' | _ => False) := by
  intro jump hp hn
  obtain ⟨z1, z2⟩ := q3.write (w' := w2.putObj t.blk (.loop { L2 with state := if jump.isNone then .ready else .done, pending := jump })) (o' := .loop (if (jumpOf ex).isNone then .ready else .done) (jumpOf ex) r3 L2.params.toList asg2 body2) hg2 rfl ht2 rfl rfl rfl rfl (by simp) (fun k hk => World.putObj_heap_other hk)
   ⟨hB2, _, World.putObj_heap_same (Array.getElem?_eq_some_iff.1 hL2).1, by rw [hn], hp, hLr2, rfl, hLa2, hLb2⟩
  exact ⟨_, _, run_endRound jump hL2, hK _ ρ2 _ (by rw [hn]; exact VR.mkB _) (z1.fr _ _) ((((g4.fr0.trans k2).trans q4).trans z2).fr _ _)⟩
 cases ex with
 | n => exact fin none trivial rfl
 | ret => exact fin (some .ret) trivial rfl
 | x id => exact fin (some (.exit id)) rfl rfl
theorem callF_sound {D : CallF → DrawF} {compDraw : Array Oper → Option (List VOper × List (Nat × Nat))} (hcd : ∀ c vc, compC P E.G compDraw c = some vc ↔ E.cd c vc) (hD : ∀ C, CallOk E P C → DrawOk E P C (D C) compDraw) {prog : Nat → VFn} (hP : ProgOk E P compDraw prog) : ∀ n, CallOk E P (callF D prog n)
 | 0 => by intro f args m v m' h; simp [callF] at h
 | n + 1 => by
   have ih := callF_sound hcd hD hP n
   intro c args m v m' h
   cases c with
   | f f =>
     simp only [callF] at h
     have hf := hP f
     split at h
     ·rename_i nt res body hpf
      rw [hpf] at hf
      obtain ⟨fn, c, h1, h2, h3, h4, h5, h6⟩ := hf
      obtain ⟨s1, s2⟩ := go_sound (fun c vc => (hcd c vc).1) ih (hD _ ih) h1 h2 h3 h4 h5 h6 h
      exact ⟨s1, fun ρ w args' a1 a2 K a3 => .inr (s2 ρ w args' a1 a2 K a3)⟩
     ·rename_i g hpf
      rw [hpf] at hf
      obtain ⟨q, hq, h⟩ := Option.map_eq_some_iff.1 h
      simp only [Prod.mk.injEq] at h
      obtain ⟨rfl, rfl⟩ := h
      refine ⟨⟨rfl, rfl⟩, fun ρ w args' hargs hR K hK => ?_⟩
      obtain ⟨v', ρ', w', h1, h2, h3, h4⟩ := hf args m q.1 q.2 hq ρ w args' hargs hR
      exact .inl ⟨v', w', h1, hK v' ρ' w' h2 (h3.fr _ _) (h4.fr _ _)⟩
     ·rename_i g hpf
      rw [hpf] at hf
      obtain ⟨q, hq, h⟩ := Option.map_eq_some_iff.1 h
      simp only [Prod.mk.injEq] at h
      obtain ⟨rfl, rfl⟩ := h
      refine ⟨⟨rfl, rfl⟩, fun ρ w args' hargs hR K hK => ?_⟩
      obtain ⟨h1, h2⟩ := hf args m q.1 q.2 hq ρ w args' hargs hR
      refine .inr ⟨h1, h2.mono fun e w' he => ?_⟩
      cases e with
      | returned u => obtain ⟨ρ', a, b, c⟩ := he; exact hK u ρ' w' a (b.fr _ _) (c.fr _ _)
      | panicked _ => exact he.elim
      | outgrown => exact he.elim
     ·simp at h
   | it f =>
     simp only [callF] at h
     have hf := hP f
     split at h
     ·rename_i nt res body hpf
      rw [hpf] at hf
      obtain ⟨fn, c, h1, h2, h3, h4, h5, h6⟩ := hf
      exact go_sound (fun c vc => (hcd c vc).1) ih (hD _ ih) h1 h2 h3 h4 h5 h6 h
     ·simp at h
   | y l =>
     simp only [callF] at h
     exact round_sound hcd ih (hD _ ih) h
end
end Go.Vi
