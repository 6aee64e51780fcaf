/- Each operation of the interpreter does what the model's operation does: the plain ones. No condition. -/
import Derived.Test.YtfbglgmhhmeoeaaGreatDoorWbViOps
namespace Go.Vi
open Go.RowKit
set_option linter.unusedSimpArgs false
set_option linter.unusedVariables false
def Step1 (E : Env) (P : Program) (op : Sem Next) (ρ : Rho) (m : AMem) (w : World) (v : AV) (m' : AMem) : Prop :=
 ∃ ρ' w' v', (op.run P w = .ok (.value v') w' ∨ (op.run P w = .ok .skip w' ∧ v' = undef)) ∧ VR ρ' v v' ∧ Rep E ρ' m' w' ∧ Ext ρ m ρ' m'
theorem Step1.pure {E : Env} {P : Program} {op : Sem Next} {ρ : Rho} {m : AMem} {w : World} {v : AV} (hR : Rep E ρ m w) (v' : Value) (h : op.run P w = .ok (.value v') w) (hv : VR ρ v v') : Step1 E P op ρ m w v m :=
 ⟨ρ, w, v', .inl h, hv, hR, Ext.refl _ _⟩
section
variable {E : Env} {P : Program} {ρ : Rho} {m m' : AMem} {w : World} {r : List AV} {a : Act} {o : Oper} {v : AV}
theorem sound_mv {x : Operand} {y : X} (ho : o.op = .move x ∨ o.op = .assign x) (hx : VR ρ (y.ev r) (a.eval x)) (hR : Rep E ρ m w) (he : exec (.mv y) r m = some (v, m')) : Step1 E P (execOp a.eval o) ρ m w v m' := by
 simp only [exec, Option.some.injEq, Prod.mk.injEq] at he
 obtain ⟨rfl, rfl⟩ := he
 refine Step1.pure hR _ ?_ hx
 rcases ho with ho | ho <;> simp [execOp, ho]
theorem sound_pick {c x y : Operand} {c' x' y' : X} (ho : o.op = .pick c x y) (hc : VR ρ (c'.ev r) (a.eval c)) (hx : VR ρ (x'.ev r) (a.eval x)) (hy : VR ρ (y'.ev r) (a.eval y)) (hR : Rep E ρ m w) (he : exec (.pick c' x' y') r m = some (v, m')) : Step1 E P (execOp a.eval o) ρ m w v m' := by
 simp only [exec] at he
 split at he
 ·rename_i t hb
  simp only [Option.some.injEq, Prod.mk.injEq] at he
  obtain ⟨rfl, rfl⟩ := he
  rw [hb] at hc
  simp only [VR] at hc
  cases t with
  | true => exact Step1.pure hR (a.eval x) (by simp [execOp, ho, hc, asBool]) (by simpa using hx)
  | false => exact Step1.pure hR (a.eval y) (by simp [execOp, ho, hc, asBool]) (by simpa using hy)
 ·simp at he
theorem run_info {t : TypeId} {i : TypeInfo} (h : P.info? t = some i) : (typeInfo t).run P w = .ok i w := by simp [typeInfo, h]
theorem run_size {t : TypeId} {i : TypeInfo} (h : P.info? t = some i) : (sizeOf t).run P w = .ok i.size w := by simp [sizeOf, run_info h]
theorem run_zero {t : TypeId} {i : TypeInfo} {z : Value} (h : P.info? t = some i) (hz : i.zero = some z) : (zeroValue t).run P w = .ok z w := by simp [zeroValue, run_info h, hz]
theorem run_und {t : TypeId} {d : TypeDesc} (h : P.underlying t = some d) : (underlying t).run P w = .ok d w := by simp [underlying, h]
def aggD : TypeDesc → Bool
 | .struct _ | .array _ _ => true
 | _ => false
theorem run_agg {t : TypeId} {d : TypeDesc} (h : P.underlying t = some d) : (isAgg t).run P w = .ok (aggD d) w := by
 unfold isAgg
 simp only [Sem.run_bind, run_und h, Result.andThen_ok]
 cases d <;> rfl
theorem sound_alloc {t : TypeId} {i : TypeInfo} {z : Value} {c : List AV} (ho : o.op = .alloc t) (hi : P.info? t = some i) (hz : i.zero = some z) (hc : ∀ ρ, VRL ρ c z.cells.toList) (h1 : c.all AV.one = true) (hR : Rep E ρ m w) (he : exec (.alloc t c) r m = some (v, m')) : Step1 E P (execOp a.eval o) ρ m w v m' := by
 simp only [exec, Option.some.injEq, Prod.mk.injEq] at he
 obtain ⟨rfl, rfl⟩ := he
 obtain ⟨g1, g2⟩ := hR.newRow t c z.cells.toList #[] ⟨c.length, some t⟩ 0 (hc ρ) (by simpa using h1) (by simp) (0, 0) (by simp) (fun q hq => Option.some.inj hq) w.drawn
 refine ⟨_, _, .pointer (some ⟨w.heap.size, 0, none⟩), .inl ?_, ⟨_, Rho.put_self _ _ _, by simp⟩, g1, g2⟩
 simp [execOp, ho, Instr.alloc, run_zero hi hz, newVar, newRow]
theorem sound_box {t : TypeId} {x : Operand} {y : X} {n : Nat} (ho : o.op = .box t x) (hx : VR ρ (y.ev r) (a.eval x)) (hR : Rep E ρ m w) (he : exec (.box n y) r m = some (v, m')) : Step1 E P (execOp a.eval o) ρ m w v m' := by
 simp only [exec] at he
 split at he
 ·rename_i h1
  simp only [Option.some.injEq, Prod.mk.injEq] at he
  obtain ⟨rfl, rfl⟩ := he
  have hl : VRL ρ (y.ev r).cells (a.eval x).cells.toList := hx.cells fun l hl => by rw [hl] at h1; simp [AV.cells, AV.one] at h1
  obtain ⟨g1, g2⟩ := hR.newRow t (y.ev r).cells (a.eval x).cells.toList #[] n 0 hl (by simpa using h1) (by simp) (0, 0) (by simp) nofun w.drawn
  refine ⟨_, _, .pointer (some ⟨w.heap.size, 0, none⟩), .inl ?_, ⟨_, Rho.put_self _ _ _, by simp⟩, g1, g2⟩
  simp [execOp, ho, Instr.box, newVar, newRow]
 ·simp at he
theorem sound_ld {t : TypeId} {d : TypeDesc} {x : Operand} {y : X} (ho : o.op = .load t x) (hd : P.underlying t = some d) (hag : aggD d = false) (hx : VR ρ (y.ev r) (a.eval x)) (hR : Rep E ρ m w) (he : exec (.ld y) r m = some (v, m')) : Step1 E P (execOp a.eval o) ρ m w v m' := by
 simp only [exec] at he
 split at he
 ·rename_i j k hp
  rw [hp] at hx
  obtain ⟨t', ht, hv⟩ := hx
  split at he
  ·rename_i c wr e hg
   obtain ⟨u, hu, he⟩ := Option.map_eq_some_iff.1 he
   simp only [Prod.mk.injEq] at he
   obtain ⟨rfl, rfl⟩ := he
   obtain ⟨v', hc, hr⟩ := CellsAt.cell (hR.objs j _ t' hg ht) k u hu
   refine Step1.pure hR v' ?_ hr
   simp [execOp, ho, Instr.loadAt, hv, Instr.sureAddr, loadVar, run_agg hd, hag, hc]
  ·simp at he
 ·simp at he
theorem sound_ldn {t : TypeId} {d : TypeDesc} {i : TypeInfo} {x : Operand} {y : X} {n : Nat} (ho : o.op = .load t x) (hd : P.underlying t = some d) (hag : aggD d = true) (hi : P.info? t = some i) (hn : i.size = n) (hx : VR ρ (y.ev r) (a.eval x)) (hR : Rep E ρ m w) (he : exec (.ldn n y) r m = some (v, m')) : Step1 E P (execOp a.eval o) ρ m w v m' := by
 simp only [exec] at he
 split at he
 ·rename_i j k hp
  rw [hp] at hx
  obtain ⟨t', ht, hv⟩ := hx
  obtain ⟨u, hu, he⟩ := Option.map_eq_some_iff.1 he
  simp only [Prod.mk.injEq] at he
  obtain ⟨rfl, rfl⟩ := he
  unfold rd at hu
  split at hu
  ·rename_i c wr e hg
   split at hu
   ·rename_i hle
    simp only [Option.some.injEq] at hu
    subst hu
    obtain ⟨vs, hl, hr⟩ := CellsAt.loads (P := P) (hR.objs j _ t' hg ht) k n hle
    refine Step1.pure hR (.agg vs) ?_ ⟨vs, rfl, hr⟩
    simp [execOp, ho, Instr.loadAt, hv, Instr.sureAddr, loadVar, run_agg hd, hag, run_size hi, hn, hl]
   ·simp at hu
  ·simp at hu
 ·simp at he
theorem sound_st {t : TypeId} {i : TypeInfo} {x z : Operand} {y u : X} {n : Nat} (ho : o.op = .store t x z) (hi : P.info? t = some i) (hn : i.size = n) (hx : VR ρ (y.ev r) (a.eval x)) (hz : VR ρ (u.ev r) (a.eval z)) (hR : Rep E ρ m w) (he : exec (.st n y u) r m = some (v, m')) : Step1 E P (execOp a.eval o) ρ m w v m' := by
 simp only [exec] at he
 split at he
 ·rename_i j k hp
  rw [hp] at hx
  obtain ⟨t', ht, hv⟩ := hx
  split at he
  ·rename_i c wr e hg
   split at he
   ·rename_i hc
    obtain ⟨c1, c2, rfl, c4⟩ := hc
    simp only [Option.some.injEq, Prod.mk.injEq] at he
    obtain ⟨rfl, rfl⟩ := he
    have hl : VRL ρ (u.ev r).cells (a.eval z).cells.toList := hz.cells fun l hl => by rw [hl] at c2; simp [AV.cells, AV.one] at c2
    obtain ⟨w', hrun, g1, g2⟩ := hR.store (P := P) hg ht k (u.ev r).cells _ hl (by simpa using c2) (by omega)
    have hsz : (a.eval z).cells.size = n := by have := hl.length; simp at this; omega
    refine ⟨ρ, w', undef, .inr ⟨?_, rfl⟩, ⟨#[], rfl, by simp [VRL]⟩, g1, g2⟩
    simp [execOp, ho, Instr.storeAt, hv, Instr.sureAddr, storeVar, run_size hi, hn, hsz, hrun]
   ·simp at he
  ·simp at he
 ·simp at he
theorem sound_nc {x : Operand} {y : X} (ho : o.op = .nilCheck x) (hx : VR ρ (y.ev r) (a.eval x)) (hR : Rep E ρ m w) (he : exec (.nc y) r m = some (v, m')) : Step1 E P (execOp a.eval o) ρ m w v m' := by
 simp only [exec] at he
 have key : ∀ u : AV, y.ev r = u → (∀ z : Option Unit, z = z) → (u ≠ .p none ∧ u ≠ .ni ∧ u ≠ .nf ∧ (∀ l, u ≠ .agg l) ∧ ∀ l, u ≠ .tup l) → v = u ∧ m' = m → Step1 E P (execOp a.eval o) ρ m w v m' := by
  intro u hu _ hne he
  obtain ⟨rfl, rfl⟩ := he
  rw [hu] at hx
  refine Step1.pure hR (a.eval x) ?_ hx
  obtain ⟨n1, n2, n3, _, _⟩ := hne
  cases v with
  | p q => cases q with
    | none => exact absurd rfl n1
    | some q => obtain ⟨t, _, hv⟩ := hx; simp [execOp, ho, hv]
  | sl q _ _ _ => cases q with
    | none => simp only [VR] at hx; simp [execOp, ho, hx]
    | some q => obtain ⟨t, _, hv⟩ := hx; simp [execOp, ho, hv]
  | m q => cases q with
    | none => simp only [VR] at hx; simp [execOp, ho, hx]
    | some q => obtain ⟨t, _, hv⟩ := hx; simp [execOp, ho, hv]
  | b _ | i _ _ | s _ => simp only [VR] at hx; simp [execOp, ho, hx]
  | nf => exact absurd rfl n3
  | ni => exact absurd rfl n2
  | es => obtain ⟨_, _, hv⟩ := hx; simp [execOp, ho, hv]
  | f _ _ _ => obtain ⟨_, _, hv, _⟩ := hx; simp [execOp, ho, hv]
  | ifc _ _ => obtain ⟨_, hv, _⟩ := hx; simp [execOp, ho, hv]
  | agg _ => simp_all
  | tup _ => simp_all
  | yl _ => obtain ⟨_, _, hv⟩ := hx; simp [execOp, ho, hv]
 split at he
 all_goals first
  | (simp at he; done)
  | (simp only [Option.some.injEq, Prod.mk.injEq] at he
     refine key _ rfl (fun _ => rfl) ?_ ⟨he.1.symm, he.2.symm⟩
     refine ⟨?_, ?_, ?_, ?_, ?_⟩ <;> simp_all)
end
end Go.Vi
namespace Go.Vi
open Go.RowKit
set_option linter.unusedSimpArgs false
set_option linter.unusedVariables false
section
variable {E : Env} {P : Program} {ρ : Rho} {m m' : AMem} {w : World} {r : List AV} {a : Act} {o : Oper} {v : AV}
theorem VR.int {k : IntKind} {n : Int} {u : Value} (h : VR ρ (.i k n) u) : u = .int k n := by simpa only [VR] using h
theorem VR.str {s : ByteArray} {u : Value} (h : VR ρ (.s s) u) : u = .string s := by simpa only [VR] using h
theorem VR.bool {b : Bool} {u : Value} (h : VR ρ (.b b) u) : u = .bool b := by simpa only [VR] using h
theorem VR.mkI (k : IntKind) (n : Int) : VR ρ (.i k n) (.int k n) := by simp only [VR]
theorem VR.mkS (s : ByteArray) : VR ρ (.s s) (.string s) := by simp only [VR]
theorem VR.mkB (b : Bool) : VR ρ (.b b) (.bool b) := by simp only [VR]
theorem run_intBin (op : BinOp) (t : TypeId) (k k' : IntKind) (x y : Int) (hk : (isShift op || k == k') = true) (h : intBin op k x y = some v) : ∃ v', (binOp op t (.int k x) (.int k' y)).run P w = .ok v' w ∧ VR ρ v v' := by
 cases op
 case shl =>
  simp only [intBin] at h; split at h
  ·simp at h
  ·simp only [Option.some.injEq] at h; subst h
   refine ⟨_, ?_, VR.mkI _ _⟩
   simp only [binOp, Op.shift]; rw [if_neg (by assumption)]; rfl
 case shr =>
  simp only [intBin] at h; split at h
  ·simp at h
  ·simp only [Option.some.injEq] at h; subst h
   refine ⟨_, ?_, VR.mkI _ _⟩
   simp only [binOp, Op.shift]; rw [if_neg (by assumption)]; rfl
 all_goals
  have e : k = k' := by simpa [isShift] using hk
  subst e
 case quo =>
  simp only [intBin] at h; split at h
  ·simp at h
  ·simp only [Option.some.injEq] at h; subst h
   refine ⟨_, ?_, VR.mkI _ _⟩
   simp only [binOp, Op.intDiv, ne_eq, not_true, if_false]; rw [if_neg (by assumption)]; rfl
 case rem =>
  simp only [intBin] at h; split at h
  ·simp at h
  ·simp only [Option.some.injEq] at h; subst h
   refine ⟨_, ?_, VR.mkI _ _⟩
   simp only [binOp, Op.intDiv, ne_eq, not_true, if_false]; rw [if_neg (by assumption)]; rfl
 all_goals
  simp only [intBin, Option.some.injEq] at h
  subst h
  first
   | exact ⟨_, by simp only [binOp, ne_eq, not_true, if_false]; rfl, VR.mkI _ _⟩
   | exact ⟨_, by simp only [binOp, ne_eq, not_true, if_false]; rfl, VR.mkB _⟩
theorem run_strBin (op : BinOp) (t : TypeId) (x y : ByteArray) (h : strBin op x y = some v) : ∃ v', (binOp op t (.string x) (.string y)).run P w = .ok v' w ∧ VR ρ v v' := by
 cases op <;> simp only [strBin] at h
 case add =>
  split at h
  ·simp at h
  ·simp only [Option.some.injEq] at h; subst h
   refine ⟨_, ?_, VR.mkS _⟩
   simp only [binOp, Op.stringOp]; rw [if_neg (by assumption)]; rfl
 all_goals first
  | (simp at h; done)
  | (simp only [Option.some.injEq] at h; subst h; exact ⟨_, by simp only [binOp, Op.stringOp]; rfl, VR.mkB _⟩)
theorem sound_bin {op : BinOp} {t t2 : TypeId} {x y : Operand} {x' y' : X} (ho : o.op = .binOp op t x y t2) (hx : VR ρ (x'.ev r) (a.eval x)) (hy : VR ρ (y'.ev r) (a.eval y)) (hR : Rep E ρ m w) (he : exec (.bin op x' y') r m = some (v, m')) : Step1 E P (execOp a.eval o) ρ m w v m' := by
 simp only [exec] at he
 obtain ⟨u, hu, he⟩ := Option.map_eq_some_iff.1 he
 simp only [Prod.mk.injEq] at he
 obtain ⟨rfl, rfl⟩ := he
 unfold binE at hu
 split at hu
 ·rename_i k p k' q e1 e2
  rw [e1] at hx; rw [e2] at hy
  split at hu
  ·rename_i hk
   obtain ⟨v', hrun, hv⟩ := run_intBin (P := P) (w := w) (ρ := ρ) op t k k' p q hk hu
   refine Step1.pure hR v' ?_ hv
   have hg : (eqGuard op t x y (.int k p) (.int k' q)).run P w = .ok () w := by unfold eqGuard; split <;> rfl
   simp [execOp, ho, hx.int, hy.int, hg, hrun]
  ·simp at hu
 ·rename_i p q e1 e2
  rw [e1] at hx; rw [e2] at hy
  obtain ⟨v', hrun, hv⟩ := run_strBin (P := P) (w := w) (ρ := ρ) op t p q hu
  refine Step1.pure hR v' ?_ hv
  have hg : (eqGuard op t x y (.string p) (.string q)).run P w = .ok () w := by unfold eqGuard; split <;> rfl
  simp [execOp, ho, hx.str, hy.str, hg, hrun]
 ·simp at hu
theorem equal_succ (t : TypeId) (x y : Value) : Op.equal t x y = Op.equalIn (9999 + 1) t x y := rfl
theorem sound_eqb {op : BinOp} {neg : Bool} {t t2 : TypeId} {x y : Operand} {x' y' : X} (ho : o.op = .binOp op t x y t2) (hop : op = if neg then .neq else .eql) (ht : P.underlying t = some .bool) (hx : VR ρ (x'.ev r) (a.eval x)) (hy : VR ρ (y'.ev r) (a.eval y)) (hR : Rep E ρ m w) (he : exec (.eqb neg x' y') r m = some (v, m')) : Step1 E P (execOp a.eval o) ρ m w v m' := by
 simp only [exec] at he
 split at he
 ·rename_i p q e1 e2
  rw [e1] at hx; rw [e2] at hy
  simp only [Option.some.injEq, Prod.mk.injEq] at he
  obtain ⟨rfl, rfl⟩ := he
  have hg : (eqGuard op t x y (.bool p) (.bool q)).run P w = .ok () w := by unfold eqGuard; split <;> rfl
  have hq : (Op.equal t (.bool p) (.bool q)).run P w = .ok (p == q) w := by rw [equal_succ, Op.equalIn]; simp [run_und ht]
  cases neg with
  | true => simp only [if_true] at hop; subst hop; exact Step1.pure hR (.bool !(p == q)) (by simp [execOp, ho, hx.bool, hy.bool, hg, binOp, hq]) (by simpa using VR.mkB _)
  | false => simp only [Bool.false_eq_true, if_false] at hop; subst hop; exact Step1.pure hR (.bool (p == q)) (by simp [execOp, ho, hx.bool, hy.bool, hg, binOp, hq]) (by simpa using VR.mkB _)
 ·simp at he
def nilKind : TypeDesc → Option NK
 | .slice _ => some .sl
 | .map _ _ => some .m
 | .func _ _ _ => some .f
 | .pointer _ => some .p
 | .interface _ => some .i
 | _ => none
def Operand.lit : Operand → Bool
 | .const _ => true
 | _ => false
def vNil : NK → Value → Option Bool
 | .sl, .slice none _ _ | .m, .map none | .f, .nilFunc | .p, .pointer none | .i, .nilIface => some true
 | .sl, .slice (some _) _ _ | .m, .map (some _) | .f, .func .. | .p, .pointer (some _) | .i, .iface .. => some false
 | _, _ => none
theorem isNil_v {kd : NK} {x : AV} {u : Value} {q : Bool} (h : isNil kd x = some q) (hv : VR ρ x u) : vNil kd u = some q := by
 unfold isNil at h
 split at h <;> first
  | (simp at h; done)
  | (simp only [Option.some.injEq] at h; subst h
     first
      | (simp only [VR] at hv; subst hv; rfl)
      | (obtain ⟨_, _, hv⟩ := hv; subst hv; rfl)
      | (obtain ⟨_, _, hv, _⟩ := hv; subst hv; rfl)
      | (obtain ⟨_, hv, _⟩ := hv; subst hv; rfl)
      | (rename_i z; obtain ⟨z1, z2⟩ := z; obtain ⟨_, _, hv⟩ := hv; subst hv; rfl)
      | (rename_i z _ _ _; obtain ⟨z1, z2⟩ := z; obtain ⟨_, _, hv⟩ := hv; subst hv; rfl))
theorem vNil_sl {u : Value} {q : Bool} (h : vNil .sl u = some q) : ∃ b n c, u = .slice b n c ∧ q = b.isNone := by
 cases u <;> simp only [vNil] at h <;> first | (simp at h; done) | (rename_i b n c; cases b <;> simp at h <;> exact ⟨_, _, _, rfl, by simp [h]⟩)
theorem vNil_m {u : Value} {q : Bool} (h : vNil .m u = some q) : ∃ b, u = .map b ∧ q = b.isNone := by
 cases u <;> simp only [vNil] at h <;> first | (simp at h; done) | (rename_i b; cases b <;> simp at h <;> exact ⟨_, rfl, by simp [h]⟩)
theorem vNil_p {u : Value} {q : Bool} (h : vNil .p u = some q) : ∃ b, u = .pointer b ∧ q = b.isNone := by
 cases u <;> simp only [vNil] at h <;> first | (simp at h; done) | (rename_i b; cases b <;> simp at h <;> exact ⟨_, rfl, by simp [h]⟩)
theorem vNil_f {u : Value} {q : Bool} (h : vNil .f u = some q) : (u = .nilFunc ∧ q = true) ∨ (∃ f x y, u = .func f x y) ∧ q = false := by
 cases u <;> simp only [vNil] at h <;> simp at h <;> first | exact .inl ⟨rfl, by simp [h]⟩ | exact .inr ⟨⟨_, _, _, rfl⟩, by simp [h]⟩
theorem vNil_i {u : Value} {q : Bool} (h : vNil .i u = some q) : (u = .nilIface ∧ q = true) ∨ (∃ t x, u = .iface t x) ∧ q = false := by
 cases u <;> simp only [vNil] at h <;> simp at h <;> first | exact .inl ⟨rfl, by simp [h]⟩ | exact .inr ⟨⟨_, _, rfl⟩, by simp [h]⟩
theorem run_eqNil {t : TypeId} {d : TypeDesc} {kd : NK} (ht : P.underlying t = some d) (hk : nilKind d = some kd) {x y : Value} {p q : Bool} (hx : vNil kd x = some p) (hy : vNil kd y = some q) (hpq : (p || q) = true) : (Op.equal t x y).run P w = .ok (p == q) w := by
 rw [equal_succ, Op.equalIn]
 simp only [Sem.run_bind, run_und ht, Result.andThen_ok]
 cases kd
 case sl =>
  obtain ⟨b, n, c, rfl, rfl⟩ := vNil_sl hx
  obtain ⟨b', n', c', rfl, rfl⟩ := vNil_sl hy
  cases d <;> simp [nilKind] at hk
  cases b <;> cases b' <;> first | rfl | simp at hpq
 case m =>
  obtain ⟨b, rfl, rfl⟩ := vNil_m hx
  obtain ⟨b', rfl, rfl⟩ := vNil_m hy
  cases d <;> simp [nilKind] at hk
  cases b <;> cases b' <;> first | rfl | simp at hpq
 case p =>
  obtain ⟨b, rfl, rfl⟩ := vNil_p hx
  obtain ⟨b', rfl, rfl⟩ := vNil_p hy
  cases d <;> simp [nilKind] at hk
  cases b <;> cases b' <;> first | rfl | simp at hpq
 case f =>
  cases d <;> simp [nilKind] at hk
  rcases vNil_f hx with ⟨rfl, rfl⟩ | ⟨⟨f, x1, x2, rfl⟩, rfl⟩ <;> rcases vNil_f hy with ⟨rfl, rfl⟩ | ⟨⟨f', y1, y2, rfl⟩, rfl⟩ <;> first | rfl | simp at hpq
 case i =>
  cases d <;> simp [nilKind] at hk
  rcases vNil_i hx with ⟨rfl, rfl⟩ | ⟨⟨f, x1, rfl⟩, rfl⟩ <;> rcases vNil_i hy with ⟨rfl, rfl⟩ | ⟨⟨f', y1, rfl⟩, rfl⟩ <;> first | rfl | simp at hpq
theorem run_guardNil {op : BinOp} {t : TypeId} {kd : NK} {x y : Operand} {X1 Y1 : Value} {p : Bool} (hlit : (Operand.lit x || Operand.lit y) = true) (hx : vNil kd X1 = some p) : (eqGuard op t x y X1 Y1).run P w = .ok () w := by
 unfold eqGuard
 cases op <;> first | rfl | skip
 all_goals
  simp only [Bool.not_true, Bool.false_eq_true, if_false]
  split
  ·cases x <;> cases y <;> simp_all [Operand.lit]
  ·cases kd <;> simp [vNil] at hx
  ·rfl
theorem sound_eqn {op : BinOp} {neg : Bool} {t t2 : TypeId} {d : TypeDesc} {kd : NK} {x y : Operand} {x' y' : X} (ho : o.op = .binOp op t x y t2) (hop : op = if neg then .neq else .eql) (ht : P.underlying t = some d) (hk : nilKind d = some kd) (hlit : (Operand.lit x || Operand.lit y) = true) (hx : VR ρ (x'.ev r) (a.eval x)) (hy : VR ρ (y'.ev r) (a.eval y)) (hR : Rep E ρ m w) (he : exec (.eqn kd neg x' y') r m = some (v, m')) : Step1 E P (execOp a.eval o) ρ m w v m' := by
 simp only [exec] at he
 split at he
 ·rename_i p q e1 e2
  split at he
  ·rename_i hpq
   simp only [Option.some.injEq, Prod.mk.injEq] at he
   obtain ⟨rfl, rfl⟩ := he
   have g1 := isNil_v e1 hx
   have g2 := isNil_v e2 hy
   have hq := run_eqNil (w := w) ht hk g1 g2 hpq
   have hg : (eqGuard op t x y (a.eval x) (a.eval y)).run P w = .ok () w := run_guardNil hlit g1
   have hb : (binOp .eql t (a.eval x) (a.eval y)).run P w = .ok (.bool (p == q)) w ∧ (binOp .neq t (a.eval x) (a.eval y)).run P w = .ok (.bool !(p == q)) w := by
    have n1 : vNil kd (a.eval x) ≠ none := by rw [g1]; simp
    generalize a.eval x = X1 at *
    generalize a.eval y = Y1 at *
    cases kd <;> cases X1 <;> simp [vNil] at g1 n1 <;> cases Y1 <;> simp [vNil] at g2 <;> simp [binOp, hq]
   cases neg with
   | true => simp only [if_true] at hop; subst hop; exact Step1.pure hR (.bool !(p == q)) (by simp only [execOp, ho, Sem.run_bind, hg, Result.andThen_ok, hb.2]; rfl) (by simpa using VR.mkB _)
   | false => simp only [Bool.false_eq_true, if_false] at hop; subst hop; exact Step1.pure hR (.bool (p == q)) (by simp only [execOp, ho, Sem.run_bind, hg, Result.andThen_ok, hb.1]; rfl) (by simpa using VR.mkB _)
  ·simp at he
 ·simp at he
theorem sound_un {op : UnOp} {t : TypeId} {x : Operand} {x' : X} (ho : o.op = .unOp op t x) (hx : VR ρ (x'.ev r) (a.eval x)) (hR : Rep E ρ m w) (he : exec (.un op x') r m = some (v, m')) : Step1 E P (execOp a.eval o) ρ m w v m' := by
 simp only [exec] at he
 obtain ⟨u, hu, he⟩ := Option.map_eq_some_iff.1 he
 simp only [Prod.mk.injEq] at he
 obtain ⟨rfl, rfl⟩ := he
 unfold unE at hu
 split at hu
 ·rename_i k n e1
  rw [e1] at hx
  simp only [Option.some.injEq] at hu; subst hu
  exact Step1.pure hR (.int k (k.wrap (0 - n))) (by simp [execOp, ho, hx.int, Op.unary, Op.intArith]) (VR.mkI _ _)
 ·rename_i k n e1
  rw [e1] at hx
  simp only [Option.some.injEq] at hu; subst hu
  exact Step1.pure hR _ (by simp only [execOp, ho, hx.int, Op.unary, Op.intBits]; rfl) (VR.mkI _ _)
 ·rename_i b e1
  rw [e1] at hx
  simp only [Option.some.injEq] at hu; subst hu
  exact Step1.pure hR (.bool !b) (by simp [execOp, ho, hx.bool, Op.unary]) (VR.mkB _)
 ·simp at hu
theorem sound_cvi {s t : TypeId} {d : TypeDesc} {k : IntKind} {x : Operand} {x' : X} (ho : o.op = .convert s t x) (hs : P.underlying s = some d) (ht : P.underlying t = some (.int k)) (hx : VR ρ (x'.ev r) (a.eval x)) (hR : Rep E ρ m w) (he : exec (.cvi k x') r m = some (v, m')) : Step1 E P (execOp a.eval o) ρ m w v m' := by
 simp only [exec] at he
 split at he
 ·rename_i k0 n e1
  rw [e1] at hx
  simp only [Option.some.injEq, Prod.mk.injEq] at he
  obtain ⟨rfl, rfl⟩ := he
  refine Step1.pure hR (.int k (k.wrap n)) ?_ (VR.mkI _ _)
  have hc : (convert s t (.int k0 n)).run P w = .ok (.int k (k.wrap n)) w := by
   simp only [convert, Sem.run_bind, run_und hs, run_und ht, Result.andThen_ok, Conv.intToInt]
   rfl
  simp [execOp, ho, hx.int, hc]
 ·simp at he
theorem sound_ext {x : Operand} {x' : X} {k : Nat} (ho : o.op = .extract x k) (hx : VR ρ (x'.ev r) (a.eval x)) (hR : Rep E ρ m w) (he : exec (.ext x' k) r m = some (v, m')) : Step1 E P (execOp a.eval o) ρ m w v m' := by
 simp only [exec] at he
 split at he
 ·rename_i l e1
  rw [e1] at hx
  obtain ⟨cs, hv, hl⟩ := hx
  obtain ⟨u, hu, he⟩ := Option.map_eq_some_iff.1 he
  simp only [Prod.mk.injEq] at he
  obtain ⟨rfl, rfl⟩ := he
  obtain ⟨v', hk, hr⟩ := hl.get k u hu
  refine Step1.pure hR v' ?_ hr
  have : cs[k]? = some v' := by simpa using hk
  simp [execOp, ho, hv, Instr.extract, this]
 ·simp at he
theorem sound_fa {t : TypeId} {fs : Array Field} {f : Field} {i : TypeInfo} {n : Nat} {x : Operand} {x' : X} {off : Nat} (ho : o.op = .fieldAddr t x n) (ht : P.underlying t = some (.struct fs)) (hf : fs[n]? = some f) (hi : P.info? f.type = some i) (hsz : i.size ≠ 0) (hoff : f.offset = off) (hx : VR ρ (x'.ev r) (a.eval x)) (hR : Rep E ρ m w) (he : exec (.fa off x') r m = some (v, m')) : Step1 E P (execOp a.eval o) ρ m w v m' := by
 simp only [exec] at he
 split at he
 ·rename_i j k e1
  rw [e1] at hx
  obtain ⟨t', ht', hv⟩ := hx
  simp only [Option.some.injEq, Prod.mk.injEq] at he
  obtain ⟨rfl, rfl⟩ := he
  refine Step1.pure hR (.pointer (some ⟨t'.blk, t'.sh + (k + off), none⟩)) ?_ ⟨t', ht', rfl⟩
  simp [execOp, ho, hv, Instr.fieldAt, run_und ht, hf, Instr.sureAddr, fieldPlace, run_size hi, hsz, addr_add, hoff, Nat.add_assoc]
 ·simp at he
theorem sound_ia {t e : TypeId} {i : TypeInfo} {x y : Operand} {x' y' : X} {esz : Nat} (ho : o.op = .indexAddr t x y) (ht : P.underlying t = some (.slice e)) (hi : P.info? e = some i) (hsz : i.size = esz) (hx : VR ρ (x'.ev r) (a.eval x)) (hy : VR ρ (y'.ev r) (a.eval y)) (hR : Rep E ρ m w) (he : exec (.ia esz x' y') r m = some (v, m')) : Step1 E P (execOp a.eval o) ρ m w v m' := by
 simp only [exec] at he
 split at he
 ·rename_i j k len cp ex kk n e1 e2
  rw [e1] at hx; rw [e2] at hy
  obtain ⟨t', ht', hv⟩ := hx
  split at he
  ·rename_i hn
   simp only [Option.some.injEq, Prod.mk.injEq] at he
   obtain ⟨rfl, rfl⟩ := he
   refine Step1.pure hR (.pointer (some ⟨t'.blk, t'.sh + (k + n.toNat * esz), none⟩)) ?_ ⟨t', ht', rfl⟩
   simp [execOp, ho, hv, hy.int, Instr.indexAt, asIntOf, run_und ht, hn, run_size hi, hsz, addr_add, Nat.add_assoc]
  ·simp at he
 ·simp at he
theorem sound_iaA {t e : TypeId} {i : TypeInfo} {x y : Operand} {x' y' : X} {len esz : Nat} (ho : o.op = .indexAddr t x y) (ht : P.underlying t = some (.array len e)) (hi : P.info? e = some i) (hsz : i.size = esz) (hx : VR ρ (x'.ev r) (a.eval x)) (hy : VR ρ (y'.ev r) (a.eval y)) (hR : Rep E ρ m w) (he : exec (.iaA len esz x' y') r m = some (v, m')) : Step1 E P (execOp a.eval o) ρ m w v m' := by
 simp only [exec] at he
 split at he
 ·rename_i j k kk n e1 e2
  rw [e1] at hx; rw [e2] at hy
  obtain ⟨t', ht', hv⟩ := hx
  split at he
  ·rename_i hn
   simp only [Option.some.injEq, Prod.mk.injEq] at he
   obtain ⟨rfl, rfl⟩ := he
   refine Step1.pure hR (.pointer (some ⟨t'.blk, t'.sh + (k + n.toNat * esz), none⟩)) ?_ ⟨t', ht', rfl⟩
   simp [execOp, ho, hv, hy.int, Instr.indexAt, asIntOf, run_und ht, Instr.sureAddr, hn, run_size hi, hsz, addr_add, Nat.add_assoc]
  ·simp at he
 ·simp at he
theorem sound_ixs {t : TypeId} {x y : Operand} {x' y' : X} (ho : o.op = .index t x y) (ht : P.underlying t = some .string) (hx : VR ρ (x'.ev r) (a.eval x)) (hy : VR ρ (y'.ev r) (a.eval y)) (hR : Rep E ρ m w) (he : exec (.ixs x' y') r m = some (v, m')) : Step1 E P (execOp a.eval o) ρ m w v m' := by
 simp only [exec] at he
 split at he
 ·rename_i b k n e1 e2
  rw [e1] at hx; rw [e2] at hy
  split at he
  ·rename_i hn
   obtain ⟨u, hu, he⟩ := Option.map_eq_some_iff.1 he
   simp only [Prod.mk.injEq] at he
   obtain ⟨rfl, rfl⟩ := he
   refine Step1.pure hR (.int .u8 u.toNat) ?_ (VR.mkI _ _)
   have hb : b[n.toNat]? = some u := by
    obtain ⟨h1, h2⟩ := List.getElem?_eq_some_iff.1 hu
    have h3 : n.toNat < b.size := by simpa using h1
    rw [getElem?_pos b n.toNat h3]
    simp only [Array.getElem_toList] at h2
    rw [← h2]; rfl
   simp [execOp, ho, hx.str, hy.int, Instr.index, asIntOf, run_und ht, hn, hb]
  ·simp at he
 ·simp at he
end
end Go.Vi
