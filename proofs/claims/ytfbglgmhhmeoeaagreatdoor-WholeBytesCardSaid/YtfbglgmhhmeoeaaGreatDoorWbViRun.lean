/- The interpreter Vi: code, calls; and that what it tells is what the model's machine does. No condition. -/
import Derived.Test.YtfbglgmhhmeoeaaGreatDoorWbViComp
import Derived.Deep.LoopGhost
import Derived.TacticsIn
import Derived.RangeFuncLeaves
import Derived.RangeFuncRecord
import Derived.OrdersIn
namespace Go.Vi
open Go.RowKit
set_option linter.unusedSimpArgs false
set_option linter.unusedVariables false
inductive VRes where
 | t (n : Nat)
 | c (n : Nat) (size : Option Nat)
 deriving Inhabited
inductive Cl where
 | f (n : Nat)
 | y (l : Nat)
 | it (n : Nat)
 deriving Inhabited
abbrev CallF := Cl → List AV → AMem → Option (AV × AMem)
def setR (r : List AV) (d : Option Nat) (v : AV) : List AV :=
 match d with
 | some d => r.set d v
 | none => r
def wants (g : Option (Nat × Bool)) (r : List AV) : Bool :=
 match g with
 | none => true
 | some (t, b) => match r.getD t un with
   | .b c => c == b
   | _ => false
def execC (C : CallF) (o : VO) (r : List AV) (m : AMem) : Option (AV × AMem) :=
 match o with
 | .call f args => C (.f f) (args.map (X.ev r)) m
 | .cv x args => match x.ev r with
   | .f g first cap => C (.f g) (first ++ args.map (X.ev r) ++ cap) m
   | .yl l => C (.y l) (args.map (X.ev r)) m
   | _ => none
 | o => exec o r m
def stepO (C : CallF) (o : VOper) (r : List AV) (m : AMem) : Option (List AV × AMem) :=
 if wants o.g r then (execC C o.o r m).map fun q => (setR r o.d q.1, q.2) else some (setR r o.d un, m)
def runOps (C : CallF) : List VOper → List AV → AMem → Option (List AV × AMem)
 | [], r, m => some (r, m)
 | o :: l, r, m => match stepO C o r m with
   | some (r', m') => runOps C l r' m'
   | none => none
def enterE (m : AMem) (r : List AV) (ps : List Nat) (asg body : VC) : Option (Nat × AMem) :=
 match m.ro with
 | none => some (m.next + 1, { (m.new .dfr).new (.loop .ready none r ps asg body) with ds := m.next :: m.ds })
 | some l => match m.get l with
   | some (.loop ..) => some (m.next, m.new (.loop .ready none r ps asg body))
   | _ => none
abbrev Out := Option (Ex × List AV × AMem)
def loopF (body : List AV → AMem → Out) : Nat → List AV → AMem → Out
 | 0, _, _ => none
 | k + 1, r, m => match body r m with
   | some (.n, r', m') => loopF body k r' m'
   | x => x
def run (C : CallF) (D : List VOper → List (Nat × Nat) → List AV → AMem → Option (List AV × AMem)) (n : Nat) : VC → List AV → AMem → Out
 | .skip, r, m => some (.n, r, m)
 | .reg l, r, m => (runOps C l r m).map fun q => (.n, q.1, q.2)
 | .regd l ck, r, m => (D l ck r m).map fun q => (.n, q.1, q.2)
 | .seq a b, r, m => match run C D n a r m with
   | some (.n, r', m') => run C D n b r' m'
   | x => x
 | .cond x a b, r, m => match x.ev r with
   | .b true => run C D n a r m
   | .b false => run C D n b r m
   | _ => none
 | .blk id b, r, m => match run C D n b r m with
   | some (.x i, r', m') => if i = id then some (.n, r', m') else some (.x i, r', m')
   | x => x
 | .loop b, r, m => loopF (fun r m => run C D n b r m) n r m
 | .exit id, r, m => some (.x id, r, m)
 | .ret, r, m => some (.ret, r, m)
 | .rfn x ps asg body, r, m => match enterE m r ps asg body, x.ev r with
   | some (l, m1), .f g first cap => match C (.it g) (first ++ [.yl l] ++ cap) m1 with
     | some (_, m2) => match m2.get l with
       | some (.loop st pend _ _ _ _) => if st = .busy then none else some (pend.getD .n, r, m2.put l none)
       | _ => none
     | none => none
   | _, _ => none
def resE (r : List AV) (m : AMem) : List VRes → Option (List AV)
 | [] => some []
 | .t n :: l => (resE r m l).map (r.getD n un :: ·)
 | .c n none :: l => match exec (.ld (.t n)) r m with
   | some (v, _) => (resE r m l).map (v :: ·)
   | none => none
 | .c n (some k) :: l => match exec (.ldn k (.t n)) r m with
   | some (v, _) => (resE r m l).map (v :: ·)
   | none => none
def tupE (l : List AV) : AV :=
 match l with
 | [v] => v
 | l => .tup l
inductive VFn where
 | go (nt : Nat) (res : List VRes) (body : VC)
 | ext (f : List AV → AMem → Option (AV × AMem))
 | sum (f : List AV → AMem → Option (AV × AMem))
 | none
 deriving Inhabited
def FR (ro : Option Nat) : Fence := { Fence.wide with round := ro }
def RoR (ρ : Rho) : Option Nat → Option Nat → Prop
 | none, none => True
 | some j, some l => ∃ t, ρ j = some t ∧ t.blk = l
 | _, _ => False
def DefR (ρ : Rho) : List Nat → List Deferred → Prop
 | [], [] => True
 | j :: ds, d :: l => (∃ t, ρ j = some t ∧ d = { target := .collected t.blk, args := #[] }) ∧ DefR ρ ds l
 | _, _ => False
structure Fr (ρ : Rho) (m : AMem) (ro : Option Nat) (ds : List Deferred) : Prop where
 ro : RoR ρ m.ro ro
 ds : DefR ρ m.ds ds
structure Same (m' m : AMem) : Prop where
 ds : m'.ds = m.ds
 ro : m'.ro = m.ro
theorem Same.refl (m : AMem) : Same m m := ⟨rfl, rfl⟩
theorem RoR.mono {ρ ρ' : Rho} (h : ρ.le ρ') : ∀ {a b : Option Nat}, RoR ρ a b → RoR ρ' a b
 | none, none, _ => trivial
 | some _, some _, ⟨t, e1, e2⟩ => ⟨t, h _ _ e1, e2⟩
 | none, some _, h => h.elim
 | some _, none, h => h.elim
theorem DefR.mono {ρ ρ' : Rho} (h : ρ.le ρ') : ∀ {a : List Nat} {b : List Deferred}, DefR ρ a b → DefR ρ' a b
 | [], [], _ => trivial
 | _ :: _, _ :: _, ⟨⟨t, e1, e2⟩, k⟩ => ⟨⟨t, h _ _ e1, e2⟩, DefR.mono h k⟩
 | [], _ :: _, h => h.elim
 | _ :: _, [], h => h.elim
theorem Fr.next {ρ ρ' : Rho} {m m' : AMem} {ro : Option Nat} {ds : List Deferred} (h : Fr ρ m ro ds) (hle : ρ.le ρ') (hs : Same m' m) : Fr ρ' m' ro ds :=
 ⟨by rw [hs.ro]; exact h.ro.mono hle, by rw [hs.ds]; exact h.ds.mono hle⟩
theorem DefR.det {ρ ρ' : Rho} (hle : ρ.le ρ') : ∀ {ds : List Nat} {a b : List Deferred}, DefR ρ ds a → DefR ρ' ds b → b = a
 | [], [], [], _, _ => rfl
 | j :: ds, x :: a, y :: b, ⟨⟨t, e1, e2⟩, h⟩, ⟨⟨u, e3, e4⟩, k⟩ => by
   have := hle _ _ e1
   rw [e3] at this; simp only [Option.some.injEq] at this; subst this
   rw [e2, e4, DefR.det hle h k]
 | [], _ :: _, _, h, _ => h.elim
 | [], [], _ :: _, _, h => h.elim
 | _ :: _, [], _, h, _ => h.elim
 | _ :: _, _ :: _, [], _, h => h.elim
def Post (E : Env) (ρ : Rho) (m : AMem) (r' : List AV) (m' : AMem) (ro : Option Nat) (K : Act → World → Prop) : Prop :=
 ∀ ρ' a' w', VRL ρ' r' a'.tmps.toList → Fr ρ' m' ro a'.defers → Rep E ρ' m' w' → Ext ρ m ρ' m' → K a' w'
def CallsTo (P : Program) (f : FuncId) (args : Array Value) (w : World) (K : Value → World → Prop) : Prop :=
 (∃ v w', (callFunc f args).run P w = .ok (.value v) w' ∧ K v w') ∨
 ((callFunc f args).run P w = .ok (.enter f args) w ∧ Calls P f args w fun e w' => match e with | .returned v => K v w' | _ => False)
def RoundTo (P : Program) (l : Nat) (args : Array Value) (w : World) (K : Value → World → Prop) : Prop :=
 ∃ fn tmps asg body, (Instr.yield l args).run P w = .ok (.round l fn tmps asg body) w ∧ RoundIn Fence.wide 0 P l fn tmps asg body w fun e w' => match e with | .returned v => K v w' | _ => False
def ClTo (P : Program) (ρ : Rho) (args : Array Value) (w : World) (K : Value → World → Prop) : Cl → Prop
 | .f f => CallsTo P f args w K
 | .y j => ∀ t, ρ j = some t → RoundTo P t.blk args w K
 | .it f => (callFunc f args).run P w = .ok (.enter f args) w ∧ Calls P f args w fun e w' => match e with | .returned v => K v w' | _ => False
def CallOk (E : Env) (P : Program) (C : CallF) : Prop :=
 ∀ c args m v m', C c args m = some (v, m') → Same m' m ∧ ∀ ρ w (args' : Array Value), VRL ρ args args'.toList → Rep E ρ m w → ∀ K : Value → World → Prop, (∀ v' ρ' w', VR ρ' v v' → Rep E ρ' m' w' → Ext ρ m ρ' m' → K v' w') → ClTo P ρ args' w K c
section
variable {E : Env} {P : Program} {C : CallF} {ρ : Rho} {m m' : AMem} {w : World} {r r' : List AV} {a : Act} {o : Oper} {v : AV} {ro : Option Nat} {n : Nat}
theorem VRL.put (hr : VRL ρ r a.tmps.toList) (d : Option Nat) {v : AV} {v' : Value} (hv : VR ρ v v') : VRL ρ (setR r d v) (a.put d v').tmps.toList := by
 cases d with
 | none => exact hr
 | some d =>
   simp only [setR, Act.put, Array.toList_setIfInBounds]
   exact hr.set d hv
theorem put_defers (a : Act) (d : Option Nat) (v : Value) : (a.put d v).defers = a.defers := by cases d <;> rfl
def callVO (G : Nat) : Op → Option VO
 | .call { callee := .value (.func f), args, .. } => (cxs G args.toList).map (.call f)
 | .call { callee := .value x, args, .. } => match cx G x, cxs G args.toList with
   | some x, some l => some (.cv x l)
   | _, _ => none
 | _ => none
def VO.isCall : VO → Bool
 | .call .. | .cv .. => true
 | _ => false
def isCallOp : Op → Bool
 | .call { callee := .value _, .. } => true
 | _ => false
def compVO (P : Program) (G : Nat) (op : Op) : Option VO :=
 if isCallOp op then callVO G op else
 match compOp P G op with
 | some vo => if vo.isCall then none else some vo
 | none => none
theorem execC_plain {vo : VO} (h : vo.isCall = false) : execC C vo r m = exec vo r m := by
 cases vo <;> first | rfl | simp [VO.isCall] at h
theorem appE_same {es : ES} {bytes : Nat} {s : AV} {new : List AV} {k : Nat} (h : appE m es bytes s new k = some (v, m')) : Same m' m := by
 unfold appE at h
 repeat' split at h
 all_goals first
  | (simp at h; done)
  | (simp only [Option.some.injEq, Prod.mk.injEq] at h; obtain ⟨_, rfl⟩ := h; exact ⟨rfl, rfl⟩)
theorem exec_same {vo : VO} (h : exec vo r m = some (v, m')) : Same m' m := by
 cases vo
 case app es bytes s x =>
  simp only [exec] at h
  split at h
  ·split at h
   ·exact appE_same h
   ·simp at h
  ·simp at h
 all_goals
  simp only [exec] at h
  repeat' split at h
  all_goals first
   | (simp at h; done)
   | (simp only [Option.some.injEq, Prod.mk.injEq] at h; obtain ⟨_, rfl⟩ := h; first | exact ⟨rfl, rfl⟩ | (split <;> exact ⟨rfl, rfl⟩))
   | (obtain ⟨_, _, h⟩ := Option.map_eq_some_iff.1 h; simp only [Prod.mk.injEq] at h; obtain ⟨_, rfl⟩ := h; exact ⟨rfl, rfl⟩)
theorem execC_same (hC : CallOk E P C) {vo : VO} (h : execC C vo r m = some (v, m')) : Same m' m := by
 by_cases hc : vo.isCall = true
 ·cases vo <;> simp [VO.isCall] at hc
  case call f xs => exact (hC _ _ _ _ _ h).1
  case cv f xs =>
   simp only [execC] at h
   split at h
   ·exact (hC _ _ _ _ _ h).1
   ·exact (hC _ _ _ _ _ h).1
   ·simp at h
 ·rw [execC_plain (by simpa using hc)] at h
  exact exec_same h
theorem depth_any {k : Nat} : (FR ro).depth.isSome = true → 1 ≤ k := fun h => by simp [FR, Fence.wide] at h
theorem CallsTo.upon {f : FuncId} {args : Array Value} {w : World} {K : Value → World → Prop} (h : CallsTo P f args w K) (next : Act → World → Prop) (Q : Exit → Act → World → Prop) (hn : ∀ v w', K v w' → next (a.put o.dst v) w') : o.uponIn (FR ro) n P a next Q ((callFunc f args).run P w) := by
 rcases h with ⟨v, w', h1, h2⟩ | ⟨h1, h2⟩
 ·rw [h1]; exact hn _ _ h2
 ·rw [h1]
  refine ⟨depth_any, ?_⟩
  refine (callsIn_wide (n := n - 1)).2 (h2.mono fun e w'' he => ?_)
  cases e with
  | returned v => exact hn _ _ he
  | panicked _ => exact he.elim
  | outgrown => exact he.elim
theorem RoundTo.upon {l : Nat} {args : Array Value} {w : World} {K : Value → World → Prop} (h : RoundTo P l args w K) (next : Act → World → Prop) (Q : Exit → Act → World → Prop) (hn : ∀ v w', K v w' → next (a.put o.dst v) w') : o.uponIn (FR ro) n P a next Q ((Instr.yield l args).run P w) := by
 obtain ⟨fn, tmps, asg, body, h1, h2⟩ := h
 rw [h1]
 refine ⟨depth_any, ?_⟩
 refine RoundIn.mono (R := fun e w' => match e with | .returned v => K v w' | _ => False) ⟨trivial, fun c cs _ => h2.2 c cs (room_wide _)⟩ fun e w'' he => ?_
 cases e with
 | returned v => exact hn _ _ he
 | panicked _ => exact he.elim
 | outgrown => exact he.elim
theorem wpIn_of {K : Act → World → Prop} {Q : Exit → Act → World → Prop} (hd : ∀ c, o.op ≠ .defer c) (h : o.uponIn (FR ro) n P a K Q ((execOp a.eval o).run P w)) : o.wpIn (FR ro) n P a w K Q :=
 ⟨fun _ _ => trivial, by rw [Oper.semAt_eq _ _ _ hd]; exact h⟩
theorem op_sound {vo : VO} (hC : CallOk E P C) (hvo : compVO P E.G o.op = some vo) (he : execC C vo r m = some (v, m')) (hr : VRL ρ r a.tmps.toList) (hR : Rep E ρ m w) (hF : Fr ρ m ro a.defers) {K : Act → World → Prop} {Q : Exit → Act → World → Prop} (hK : Post E ρ m (setR r o.dst v) m' ro K) : o.wpIn (FR ro) n P a w K Q := by
 unfold compVO at hvo
 split at hvo
 ·rename_i hcall
  unfold callVO at hvo
  split at hvo
  ·rename_i f args ts hop
   obtain ⟨l, hl, rfl⟩ := Option.map_eq_some_iff.1 hvo
   have hargs := cxs_sound (a := a) hr hR hl
   obtain ⟨hsame, hC⟩ := hC (.f f) _ m v m' he
   have := hC ρ w (args.map a.eval) (by simpa using hargs) hR (fun v' w' => K (a.put o.dst v') w') (fun v' ρ' w' h1 h2 h3 => hK ρ' _ w' ((VRL.mono h3.le _ _ hr).put _ h1) (by rw [put_defers]; exact hF.next h3.le hsame) h2 h3)
   refine wpIn_of (by rw [hop]; intro c hc; cases hc) ?_
   have hx : execOp a.eval o = callFunc f (args.map a.eval) := by
    simp only [execOp, hop, resolve, Deferred.ofValue, Act.eval, pure_bind, invoke, Array.empty_append, Array.append_empty]
   rw [hx]
   exact CallsTo.upon this K Q fun v w' h => h
  ·rename_i x args ts hne hop
   split at hvo
   ·rename_i x' l hx hl
    simp only [Option.some.injEq] at hvo; subst hvo
    have hargs := cxs_sound (a := a) hr hR hl
    have hxv := cx_sound (a := a) hr hR hx
    simp only [execC] at he
    refine wpIn_of (by rw [hop]; intro c hc; cases hc) ?_
    split at he
    ·rename_i g first cap e1
     rw [e1] at hxv
     obtain ⟨f', c', hv, h1, h2⟩ := hxv
     obtain ⟨hsame, hC⟩ := hC (.f g) _ m v m' he
     have := hC ρ w ((f' ++ args.map a.eval) ++ c') (by
      simp only [Array.toList_append]
      exact (h1.append (by simpa using hargs)).append h2) hR (fun v' w' => K (a.put o.dst v') w') (fun v' ρ' w' h1 h2 h3 => hK ρ' _ w' ((VRL.mono h3.le _ _ hr).put _ h1) (by rw [put_defers]; exact hF.next h3.le hsame) h2 h3)
     have hx : execOp a.eval o = callFunc g ((f' ++ args.map a.eval) ++ c') := by
      simp only [execOp, hop, resolve, hv, Deferred.ofValue, pure_bind, invoke]
     rw [hx]
     exact CallsTo.upon this K Q fun v w' h => h
    ·rename_i j e1
     rw [e1] at hxv
     obtain ⟨t, ht, hv⟩ := hxv
     obtain ⟨hsame, hC⟩ := hC (.y j) _ m v m' he
     have := hC ρ w (args.map a.eval) (by simpa using hargs) hR (fun v' w' => K (a.put o.dst v') w') (fun v' ρ' w' h1 h2 h3 => hK ρ' _ w' ((VRL.mono h3.le _ _ hr).put _ h1) (by rw [put_defers]; exact hF.next h3.le hsame) h2 h3)
     have hx : execOp a.eval o = Instr.yield t.blk (args.map a.eval) := by
      simp only [execOp, hop, resolve, hv, Deferred.ofValue, pure_bind, invoke, Array.empty_append, Array.append_empty]
     rw [hx]
     exact RoundTo.upon (this t ht) K Q fun v w' h => h
    ·simp at he
   ·simp at hvo
  ·simp at hvo
 ·split at hvo
  ·rename_i vo' hvo'
   split at hvo
   ·simp at hvo
   ·rename_i hnc
    simp only [Option.some.injEq] at hvo; subst hvo
    rw [execC_plain (by simpa using hnc)] at he
    obtain ⟨ρ', w', v', hrun, h1, h2, h3⟩ := compOp_sound (o := o) (a := a) hr hR hvo' he
    refine wpIn_of (by intro c hc; rw [hc] at hvo'; simp [compOp] at hvo') ?_
    have hF' := hF.next h3.le (exec_same he)
    rcases hrun with hrun | ⟨hrun, rfl⟩
    ·rw [hrun]; exact hK ρ' _ w' ((VRL.mono h3.le _ _ hr).put _ h1) (by rw [put_defers]; exact hF') h2 h3
    ·rw [hrun]; exact hK ρ' _ w' ((VRL.mono h3.le _ _ hr).put _ h1) (by rw [put_defers]; exact hF') h2 h3
  ·simp at hvo
def compG (ops : Array Oper) : Option (Nat × Bool) → Option (Option (Nat × Bool))
 | none => some none
 | some (j, b) => match (ops[j]?).bind (·.dst) with
   | some d => some (some (d, b))
   | none => none
theorem wants_sound {ops : Array Oper} {g : Option (Nat × Bool)} (hg : compG ops o.guard = some g) (hr : VRL ρ r a.tmps.toList) : Region.wanted o (yielded ops a.tmps) = wants g r := by
 unfold Region.wanted
 unfold compG at hg
 split at hg
 ·rename_i h; rw [h]; simp only [Option.some.injEq] at hg; subst hg; rfl
 ·rename_i j b h
  rw [h]
  split at hg
  ·rename_i d hd
   simp only [Option.some.injEq] at hg; subst hg
   simp only [wants, yielded, hd, Option.bind_some]
   by_cases ht : d < r.length
   ·obtain ⟨v, hv, hvr⟩ := hr.get d r[d] (List.getElem?_eq_getElem ht)
    have h2 : a.tmps[d]? = some v := by simpa using hv
    rw [List.getD_eq_getElem?_getD, List.getElem?_eq_getElem ht, h2]
    simp only [Option.getD_some]
    generalize r[d] = q at *
    cases q with
    | b x => simp only [VR] at hvr; subst hvr; cases x <;> cases b <;> rfl
    | p x => cases x <;> simp only [VR] at hvr <;> first | (subst hvr; rfl) | (obtain ⟨_, _, hvr⟩ := hvr; subst hvr; rfl)
    | m x => cases x <;> simp only [VR] at hvr <;> first | (subst hvr; rfl) | (obtain ⟨_, _, hvr⟩ := hvr; subst hvr; rfl)
    | sl x _ _ _ => cases x <;> simp only [VR] at hvr <;> first | (subst hvr; rfl) | (obtain ⟨_, _, hvr⟩ := hvr; subst hvr; rfl)
    | i _ _ | s _ | nf | ni => simp only [VR] at hvr; subst hvr; rfl
    | es => obtain ⟨_, _, hvr⟩ := hvr; subst hvr; rfl
    | f _ _ _ => obtain ⟨_, _, hvr, _⟩ := hvr; subst hvr; rfl
    | ifc _ _ => obtain ⟨_, hvr, _⟩ := hvr; subst hvr; rfl
    | agg _ => obtain ⟨_, hvr, _⟩ := hvr; subst hvr; rfl
    | tup _ => obtain ⟨_, hvr, _⟩ := hvr; subst hvr; rfl
    | yl _ => obtain ⟨_, _, hvr⟩ := hvr; subst hvr; rfl
   ·have hl := hr.length
    have h1 : r[d]? = none := List.getElem?_eq_none (Nat.le_of_not_lt ht)
    have h2 : a.tmps[d]? = none := Array.getElem?_eq_none (by have := Nat.le_of_not_lt ht; simp at hl; omega)
    rw [List.getD_eq_getElem?_getD, h1, h2]
    rfl
  ·simp at hg
def isAlloc : Op → Bool
 | .alloc _ => true
 | _ => false
def compOper (P : Program) (G : Nat) (ops : Array Oper) (o : Oper) : Option VOper :=
 match compG ops o.guard, compVO P G o.op with
 | some g, some vo => some { d := o.dst, g := g, o := vo }
 | some g, none => if isAlloc o.op then none else some { d := o.dst, g := g, o := .bad }
 | none, _ => none
def compOps (P : Program) (G : Nat) (ops : Array Oper) : List Oper → Option (List VOper)
 | [] => some []
 | o :: l => match compOper P G ops o, compOps P G ops l with
   | some x, some k => some (x :: k)
   | _, _ => none
theorem oper_sound {ops : Array Oper} {vo : VOper} (hC : CallOk E P C) (hvo : compOper P E.G ops o = some vo) (he : stepO C vo r m = some (r', m')) (hr : VRL ρ r a.tmps.toList) (hR : Rep E ρ m w) (hF : Fr ρ m ro a.defers) {K : Act → World → Prop} {Q : Exit → Act → World → Prop} (hK : Post E ρ m r' m' ro K) :
  if Region.wanted o (yielded ops a.tmps) then o.wpIn (FR ro) n P a w K Q else (∀ f, o.about P w a.eval = some f → (FR ro).fn f) ∧ K (a.put o.dst undef) w := by
 unfold compOper at hvo
 split at hvo
 ·rename_i g vo' hg hv
  simp only [Option.some.injEq] at hvo; subst hvo
  rw [wants_sound hg hr]
  unfold stepO at he
  split at he
  ·rename_i hw
   obtain ⟨q, hq, he⟩ := Option.map_eq_some_iff.1 he
   simp only [Prod.mk.injEq] at he
   obtain ⟨rfl, rfl⟩ := he
   rw [if_pos hw]
   exact op_sound hC hv hq hr hR hF hK
  ·rename_i hw
   simp only [Option.some.injEq, Prod.mk.injEq] at he
   obtain ⟨rfl, rfl⟩ := he
   rw [if_neg hw]
   exact ⟨fun _ _ => trivial, hK ρ _ w (hr.put _ ⟨#[], rfl, by simp [VRL]⟩) (by rw [put_defers]; exact hF) hR (Ext.refl _ _)⟩
 ·rename_i g hg hv
  split at hvo
  ·simp at hvo
  simp only [Option.some.injEq] at hvo; subst hvo
  rw [wants_sound hg hr]
  unfold stepO at he
  split at he
  ·simp [execC, exec] at he
  ·rename_i hw
   simp only [Option.some.injEq, Prod.mk.injEq] at he
   obtain ⟨rfl, rfl⟩ := he
   rw [if_neg hw]
   exact ⟨fun _ _ => trivial, hK ρ _ w (hr.put _ ⟨#[], rfl, by simp [VRL]⟩) (by rw [put_defers]; exact hF) hR (Ext.refl _ _)⟩
 ·simp at hvo
theorem ops_sound {ops : Array Oper} (hC : CallOk E P C) {Q : Exit → Act → World → Prop} : ∀ (l : List Oper) (vl : List VOper) (r : List AV) (m : AMem) (ρ : Rho) (a : Act) (w : World), compOps P E.G ops l = some vl → runOps C vl r m = some (r', m') → VRL ρ r a.tmps.toList → Rep E ρ m w → Fr ρ m ro a.defers → Post E ρ m r' m' ro (Q .normal) → wpListIn (FR ro) n P ops Q l a w
 | [], vl, r, m, ρ, a, w, hc, he, hr, hR, hF, hK => by
   simp only [compOps, Option.some.injEq] at hc; subst hc
   simp only [runOps, Option.some.injEq, Prod.mk.injEq] at he
   obtain ⟨rfl, rfl⟩ := he
   exact hK ρ a w hr hF hR (Ext.refl _ _)
 | o :: l, vl, r, m, ρ, a, w, hc, he, hr, hR, hF, hK => by
   simp only [compOps] at hc
   split at hc
   ·rename_i x k hx hk
    simp only [Option.some.injEq] at hc; subst hc
    simp only [runOps] at he
    split at he
    ·rename_i r1 m1 h1
     refine oper_sound hC hx h1 hr hR hF (fun ρ' a' w' g1 g2 g3 g4 => ?_)
     exact ops_sound hC l k r1 m1 ρ' a' w' hk he g1 g3 g2 (fun ρ2 a2 w2 q1 q2 q3 q4 => hK ρ2 a2 w2 q1 q2 q3 (g4.trans q4))
    ·simp at he
   ·simp at hc
end
end Go.Vi
