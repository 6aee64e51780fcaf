/- Each operation of the interpreter does what the model's operation does: the plain ones. No condition. -/
import Derived.Test.YtjlckbphpmogjaaGreatDoorSfViOps
namespace Go.Vi
open Go.RowKit
set_option linter.unusedSimpArgs false
set_option linter.unusedVariables false

def Step1 (E : Env) (P : Program) (op : Sem Next) (ρ : Rho) (m : AMem) (w : World) (v : AV) (m' : AMem) : Prop :=
  ∃ ρ' w' v', (op.run P w = .ok (.value v') w' ∨ (op.run P w = .ok .skip w' ∧ v' = undef)) ∧ VR ρ' v v' ∧ Rep E ρ' m' w' ∧ Ext ρ m ρ' m'

theorem Step1.pure {E : Env} {P : Program} {op : Sem Next} {ρ : Rho} {m : AMem} {w : World} {v : AV} (hR : Rep E ρ m w) (v' : Value) (h : op.run P w = .ok (.value v') w) (hv : VR ρ v v') : Step1 E P op ρ m w v m :=
  ⟨ρ, w, v', .inl h, hv, hR, Ext.refl _ _⟩

section
variable {E : Env} {P : Program} {ρ : Rho} {m m' : AMem} {w : World} {r : List AV} {a : Act} {o : Oper} {v : AV}

theorem sound_mv {x : Operand} {y : X} (ho : o.op = .move x ∨ o.op = .assign x) (hx : VR ρ (y.ev r) (a.eval x)) (hR : Rep E ρ m w) (he : exec (.mv y) r m = some (v, m')) : Step1 E P (execOp a.eval o) ρ m w v m' := by
  simp only [exec, Option.some.injEq, Prod.mk.injEq] at he
  obtain ⟨rfl, rfl⟩ := he
  refine Step1.pure hR _ ?_ hx
  rcases ho with ho | ho <;> simp [execOp, ho]

theorem sound_pick {c x y : Operand} {c' x' y' : X} (ho : o.op = .pick c x y) (hc : VR ρ (c'.ev r) (a.eval c)) (hx : VR ρ (x'.ev r) (a.eval x)) (hy : VR ρ (y'.ev r) (a.eval y)) (hR : Rep E ρ m w) (he : exec (.pick c' x' y') r m = some (v, m')) : Step1 E P (execOp a.eval o) ρ m w v m' := by
  simp only [exec] at he
  split at he
  · rename_i t hb
    simp only [Option.some.injEq, Prod.mk.injEq] at he
    obtain ⟨rfl, rfl⟩ := he
    rw [hb] at hc
    simp only [VR] at hc
    cases t with
    | true => exact Step1.pure hR (a.eval x) (by simp [execOp, ho, hc, asBool]) (by simpa using hx)
    | false => exact Step1.pure hR (a.eval y) (by simp [execOp, ho, hc, asBool]) (by simpa using hy)
  · simp at he

theorem run_info {t : TypeId} {i : TypeInfo} (h : P.info? t = some i) : (typeInfo t).run P w = .ok i w := by simp [typeInfo, h]
theorem run_size {t : TypeId} {i : TypeInfo} (h : P.info? t = some i) : (sizeOf t).run P w = .ok i.size w := by simp [sizeOf, run_info h]
theorem run_zero {t : TypeId} {i : TypeInfo} {z : Value} (h : P.info? t = some i) (hz : i.zero = some z) : (zeroValue t).run P w = .ok z w := by simp [zeroValue, run_info h, hz]
theorem run_und {t : TypeId} {d : TypeDesc} (h : P.underlying t = some d) : (underlying t).run P w = .ok d w := by simp [underlying, h]

def aggD : TypeDesc → Bool
  | .struct _ | .array _ _ => true
  | _ => false
theorem run_agg {t : TypeId} {d : TypeDesc} (h : P.underlying t = some d) : (isAgg t).run P w = .ok (aggD d) w := by
  unfold isAgg
  simp only [Sem.run_bind, run_und h, Result.andThen_ok]
  cases d <;> rfl

theorem sound_alloc {t : TypeId} {i : TypeInfo} {z : Value} {c : List AV} (ho : o.op = .alloc t) (hi : P.info? t = some i) (hz : i.zero = some z) (hc : ∀ ρ, VRL ρ c z.cells.toList) (h1 : c.all AV.one = true) (hR : Rep E ρ m w) (he : exec (.alloc t c) r m = some (v, m')) : Step1 E P (execOp a.eval o) ρ m w v m' := by
  simp only [exec, Option.some.injEq, Prod.mk.injEq] at he
  obtain ⟨rfl, rfl⟩ := he
  obtain ⟨g1, g2⟩ := hR.newRow t c z.cells.toList #[] ⟨c.length, some t⟩ 0 (hc ρ) (by simpa using h1) (by simp) (0, 0) (by simp) (fun q hq => Option.some.inj hq) w.drawn
  refine ⟨_, _, .pointer (some ⟨w.heap.size, 0, none⟩), .inl ?_, ⟨_, Rho.put_self _ _ _, by simp⟩, g1, g2⟩
  simp [execOp, ho, Instr.alloc, run_zero hi hz, newVar, newRow]

theorem sound_box {t : TypeId} {x : Operand} {y : X} {n : Nat} (ho : o.op = .box t x) (hx : VR ρ (y.ev r) (a.eval x)) (hR : Rep E ρ m w) (he : exec (.box n y) r m = some (v, m')) : Step1 E P (execOp a.eval o) ρ m w v m' := by
  simp only [exec] at he
  split at he
  · rename_i h1
    simp only [Option.some.injEq, Prod.mk.injEq] at he
    obtain ⟨rfl, rfl⟩ := he
    have hl : VRL ρ (y.ev r).cells (a.eval x).cells.toList := hx.cells fun l hl => by rw [hl] at h1; simp [AV.cells, AV.one] at h1
    obtain ⟨g1, g2⟩ := hR.newRow t (y.ev r).cells (a.eval x).cells.toList #[] n 0 hl (by simpa using h1) (by simp) (0, 0) (by simp) nofun w.drawn
    refine ⟨_, _, .pointer (some ⟨w.heap.size, 0, none⟩), .inl ?_, ⟨_, Rho.put_self _ _ _, by simp⟩, g1, g2⟩
    simp [execOp, ho, Instr.box, newVar, newRow]
  · simp at he

theorem sound_ld {t : TypeId} {d : TypeDesc} {x : Operand} {y : X} (ho : o.op = .load t x) (hd : P.underlying t = some d) (hag : aggD d = false) (hx : VR ρ (y.ev r) (a.eval x)) (hR : Rep E ρ m w) (he : exec (.ld y) r m = some (v, m')) : Step1 E P (execOp a.eval o) ρ m w v m' := by
  simp only [exec] at he
  split at he
  · rename_i j k hp
    rw [hp] at hx
    obtain ⟨t', ht, hv⟩ := hx
    split at he
    · rename_i c wr e hg
      obtain ⟨u, hu, he⟩ := Option.map_eq_some_iff.1 he
      simp only [Prod.mk.injEq] at he
      obtain ⟨rfl, rfl⟩ := he
      obtain ⟨v', hc, hr⟩ := CellsAt.cell (hR.objs j _ t' hg ht) k u hu
      refine Step1.pure hR v' ?_ hr
      simp [execOp, ho, Instr.loadAt, hv, Instr.sureAddr, loadVar, run_agg hd, hag, hc]
    · simp at he
  · simp at he

theorem sound_ldn {t : TypeId} {d : TypeDesc} {i : TypeInfo} {x : Operand} {y : X} {n : Nat} (ho : o.op = .load t x) (hd : P.underlying t = some d) (hag : aggD d = true) (hi : P.info? t = some i) (hn : i.size = n) (hx : VR ρ (y.ev r) (a.eval x)) (hR : Rep E ρ m w) (he : exec (.ldn n y) r m = some (v, m')) : Step1 E P (execOp a.eval o) ρ m w v m' := by
  simp only [exec] at he
  split at he
  · rename_i j k hp
    rw [hp] at hx
    obtain ⟨t', ht, hv⟩ := hx
    obtain ⟨u, hu, he⟩ := Option.map_eq_some_iff.1 he
    simp only [Prod.mk.injEq] at he
    obtain ⟨rfl, rfl⟩ := he
    unfold rd at hu
    split at hu
    · rename_i c wr e hg
      split at hu
      · rename_i hle
        simp only [Option.some.injEq] at hu
        subst hu
        obtain ⟨vs, hl, hr⟩ := CellsAt.loads (P := P) (hR.objs j _ t' hg ht) k n hle
        refine Step1.pure hR (.agg vs) ?_ ⟨vs, rfl, hr⟩
        simp [execOp, ho, Instr.loadAt, hv, Instr.sureAddr, loadVar, run_agg hd, hag, run_size hi, hn, hl]
      · simp at hu
    · simp at hu
  · simp at he

theorem sound_st {t : TypeId} {i : TypeInfo} {x z : Operand} {y u : X} {n : Nat} (ho : o.op = .store t x z) (hi : P.info? t = some i) (hn : i.size = n) (hx : VR ρ (y.ev r) (a.eval x)) (hz : VR ρ (u.ev r) (a.eval z)) (hR : Rep E ρ m w) (he : exec (.st n y u) r m = some (v, m')) : Step1 E P (execOp a.eval o) ρ m w v m' := by
  simp only [exec] at he
  split at he
  · rename_i j k hp
    rw [hp] at hx
    obtain ⟨t', ht, hv⟩ := hx
    split at he
    · rename_i c wr e hg
      split at he
      · rename_i hc
        obtain ⟨c1, c2, rfl, c4⟩ := hc
        simp only [Option.some.injEq, Prod.mk.injEq] at he
        obtain ⟨rfl, rfl⟩ := he
        have hl : VRL ρ (u.ev r).cells (a.eval z).cells.toList := hz.cells fun l hl => by rw [hl] at c2; simp [AV.cells, AV.one] at c2
        obtain ⟨w', hrun, g1, g2⟩ := hR.store (P := P) hg ht k (u.ev r).cells _ hl (by simpa using c2) (by omega)
        have hsz : (a.eval z).cells.size = n := by have := hl.length; simp at this; omega
        refine ⟨ρ, w', undef, .inr ⟨?_, rfl⟩, ⟨#[], rfl, by simp [VRL]⟩, g1, g2⟩
        simp [execOp, ho, Instr.storeAt, hv, Instr.sureAddr, storeVar, run_size hi, hn, hsz, hrun]
      · simp at he
    · simp at he
  · simp at he

theorem sound_nc {x : Operand} {y : X} (ho : o.op = .nilCheck x) (hx : VR ρ (y.ev r) (a.eval x)) (hR : Rep E ρ m w) (he : exec (.nc y) r m = some (v, m')) : Step1 E P (execOp a.eval o) ρ m w v m' := by
  simp only [exec] at he
  have key : ∀ u : AV, y.ev r = u → (∀ z : Option Unit, z = z) → (u ≠ .p none ∧ u ≠ .ni ∧ u ≠ .nf ∧ (∀ l, u ≠ .agg l) ∧ ∀ l, u ≠ .tup l) → v = u ∧ m' = m → Step1 E P (execOp a.eval o) ρ m w v m' := by
    intro u hu _ hne he
    obtain ⟨rfl, rfl⟩ := he
    rw [hu] at hx
    refine Step1.pure hR (a.eval x) ?_ hx
    obtain ⟨n1, n2, n3, _, _⟩ := hne
    cases v with
    | p q => cases q with
      | none => exact absurd rfl n1
      | some q => obtain ⟨t, _, hv⟩ := hx; simp [execOp, ho, hv]
    | sl q _ _ _ => cases q with
      | none => simp only [VR] at hx; simp [execOp, ho, hx]
      | some q => obtain ⟨t, _, hv⟩ := hx; simp [execOp, ho, hv]
    | m q => cases q with
      | none => simp only [VR] at hx; simp [execOp, ho, hx]
      | some q => obtain ⟨t, _, hv⟩ := hx; simp [execOp, ho, hv]
    | b _ | i _ _ | s _ => simp only [VR] at hx; simp [execOp, ho, hx]
    | nf => exact absurd rfl n3
    | ni => exact absurd rfl n2
    | es => obtain ⟨_, _, hv⟩ := hx; simp [execOp, ho, hv]
    | f _ _ _ => obtain ⟨_, _, hv, _⟩ := hx; simp [execOp, ho, hv]
    | ifc _ _ => obtain ⟨_, hv, _⟩ := hx; simp [execOp, ho, hv]
    | agg _ => simp_all
    | tup _ => simp_all
    | yl _ => obtain ⟨_, _, hv⟩ := hx; simp [execOp, ho, hv]
  split at he
  all_goals first
    | (simp at he; done)
    | (simp only [Option.some.injEq, Prod.mk.injEq] at he
       refine key _ rfl (fun _ => rfl) ?_ ⟨he.1.symm, he.2.symm⟩
       refine ⟨?_, ?_, ?_, ?_, ?_⟩ <;> simp_all)

end
end Go.Vi
