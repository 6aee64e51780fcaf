/- Each operation of the interpreter does what the model's operation does: pointers held against each other, pointers that pass through unsafe.Pointer, bytes that become a string where they lie. No condition. -/
import Derived.Test.YtfbglgmhhmeoeaaGreatDoorWbViS6
namespace Go.Vi
open Go.RowKit
set_option linter.unusedSimpArgs false
set_option linter.unusedVariables false
section
variable {E : Env} {P : Program} {ρ : Rho} {m m' : AMem} {w : World} {r : List AV} {a : Act} {o : Oper} {v : AV}
theorem sound_eqp {op : BinOp} {neg : Bool} {t t2 e : TypeId} {i : TypeInfo} {x y : Operand} {x' y' : X} (ho : o.op = .binOp op t x y t2) (hop : op = if neg then .neq else .eql) (ht : P.underlying t = some (.pointer e)) (hi : P.info? e = some i) (hsz : i.size ≠ 0)
  (hx : VR ρ (x'.ev r) (a.eval x)) (hy : VR ρ (y'.ev r) (a.eval y)) (hR : Rep E ρ m w) (he : exec (.eqp neg x' y') r m = some (v, m')) : Step1 E P (execOp a.eval o) ρ m w v m' := by
 simp only [exec] at he
 split at he
 ·rename_i j p k q e1 e2
  rw [e1] at hx; rw [e2] at hy
  split at he
  ·rename_i hjk
   subst hjk
   obtain ⟨t', ht', hxv⟩ := hx
   obtain ⟨t'', ht'', hyv⟩ := hy
   rw [ht'] at ht''; simp only [Option.some.injEq] at ht''; subst ht''
   simp only [Option.some.injEq, Prod.mk.injEq] at he
   obtain ⟨rfl, rfl⟩ := he
   have hg : (eqGuard op t x y (a.eval x) (a.eval y)).run P w = .ok () w := by
    rw [hxv, hyv]
    unfold eqGuard
    cases op <;> rfl
   have hab : ((⟨t'.blk, t'.sh + p, none⟩ : Addr) == ⟨t'.blk, t'.sh + q, none⟩) = (p == q) := by
    by_cases hpq : p = q
    ·subst hpq; simp
    ·have h1 : (p == q) = false := by simpa using hpq
     rw [h1]
     simp; omega
   have hq : (Op.equal t (.pointer (some ⟨t'.blk, t'.sh + p, none⟩)) (.pointer (some ⟨t'.blk, t'.sh + q, none⟩))).run P w = .ok (p == q) w := by
    rw [equal_succ, Op.equalIn]
    simp only [Sem.run_bind, run_und ht, Result.andThen_ok, run_size hi]
    rw [if_pos hsz]
    simp only [sameAddr, beq_self_eq_true, if_true, hab, Sem.run_pure]
   cases neg with
   | true => simp only [if_true] at hop; subst hop; exact Step1.pure hR (.bool !(p == q)) (by simp only [execOp, ho, Sem.run_bind, hg, Result.andThen_ok]; rw [hxv, hyv]; simp [binOp, hq]) (by simpa using VR.mkB _)
   | false => simp only [Bool.false_eq_true, if_false] at hop; subst hop; exact Step1.pure hR (.bool (p == q)) (by simp only [execOp, ho, Sem.run_bind, hg, Result.andThen_ok]; rw [hxv, hyv]; simp [binOp, hq]) (by simpa using VR.mkB _)
  ·simp at he
 ·simp at he
theorem run_viewAt {b n : Nat} {e : TypeId} (h : w.shape? b = some (e, n)) : (viewAt b).run P w = .ok none w := by
 simp [viewAt, run_shape, h]
theorem run_seenAt {q : Addr} {n : Nat} {e : TypeId} (h : w.shape? q.block = some (e, n)) : (Conv.seenAt q).run P w = .ok q w := by
 simp [Conv.seenAt, run_viewAt h]
theorem sound_pcv {s t e : TypeId} {i : TypeInfo} {x : Operand} {x' : X} (ho : o.op = .convert s t x) (hs : P.underlying s = some (.pointer e)) (ht : P.underlying t = some .unsafePointer) (hi : P.info? e = some i) (hsz : i.size ≠ 0) (hx : VR ρ (x'.ev r) (a.eval x)) (hR : Rep E ρ m w) (he : exec (.pcv x') r m = some (v, m')) : Step1 E P (execOp a.eval o) ρ m w v m' := by
 simp only [exec] at he
 split at he
 ·rename_i e1
  rw [e1] at hx; simp only [VR] at hx
  simp only [Option.some.injEq, Prod.mk.injEq] at he
  obtain ⟨rfl, rfl⟩ := he
  exact Step1.pure hR (.pointer none) (by simp [execOp, ho, hx, convert, run_und hs, run_und ht, Conv.unsafePointer]) (by simp [VR])
 ·rename_i j p e1
  rw [e1] at hx
  have hx2 := hx
  obtain ⟨t', ht', hv⟩ := hx
  split at he
  case h_2 => simp at he
  rename_i c wr es hg
  split at he
  case isFalse => simp at he
  rename_i hlt
  simp only [Option.some.injEq, Prod.mk.injEq] at he
  obtain ⟨rfl, rfl⟩ := he
  have hobj : CellsAt E ρ w t' c wr es := hR.objs j _ t' hg ht'
  obtain ⟨arr, el, fz, a1, a2, a3, a4⟩ := hobj.row
  have hshape : w.shape? t'.blk = some (el, arr.size) := by simp [World.shape?, a1]
  refine Step1.pure hR (.pointer (some ⟨t'.blk, t'.sh + p, none⟩)) ?_ (hv ▸ hx2)
  have hns : ¬(t'.sh + p ≥ arr.size) := by omega
  simp [execOp, ho, hv, convert, run_und hs, run_und ht, Conv.unsafePointer, run_seenAt (P := P) (q := ⟨t'.blk, t'.sh + p, none⟩) hshape, cellsIn, run_shape, hshape, run_size hi, hsz, hns]
 ·simp at he
theorem liesAt_self {u : TypeId} {d count off n : Nat} (hd : P.depth = d + 1) (hs : P.cellsOf u ≠ 0) (h1 : off % P.cellsOf u = 0) (h2 : off / P.cellsOf u + n ≤ count) : liesAt P P.depth u count off u n = true := by
 rw [hd, liesAt, hd, rowAt]
 simp only [hs, if_false, h1, beq_self_eq_true, Bool.true_and, h2, decide_true, sameLayout, Bool.true_or]
theorem run_program : (program).run P w = .ok P w := rfl
theorem run_variablesAt {u : TypeId} {d n : Nat} {q : Addr} {cells : Nat} (hd : P.depth = d + 1) (hs : P.cellsOf u ≠ 0) (h : w.shape? q.block = some (u, cells)) (h1 : q.off % P.cellsOf u = 0) (h2 : q.off / P.cellsOf u + n ≤ cells / P.cellsOf u) : (variablesAt q u n).run P w = .ok true w := by
 simp only [variablesAt, Sem.run_bind, run_program, Result.andThen_ok, run_shape, h, Sem.run_pure, liesAt_self hd hs h1 h2]
theorem sound_pcu {s t u : TypeId} {i : TypeInfo} {d : Nat} {x : Operand} {x' : X} (ho : o.op = .convert s t x) (hs : P.underlying s = some .unsafePointer) (ht : P.underlying t = some (.pointer u)) (hi : P.info? u = some i) (hsz : i.size ≠ 0) (hd : P.depth = d + 1) (hx : VR ρ (x'.ev r) (a.eval x)) (hR : Rep E ρ m w) (he : exec (.pcu u i.size x') r m = some (v, m')) : Step1 E P (execOp a.eval o) ρ m w v m' := by
 have hcu : P.cellsOf u = i.size := by simp [Program.cellsOf, hi]
 simp only [exec] at he
 split at he
 ·rename_i e1
  rw [e1] at hx; simp only [VR] at hx
  simp only [Option.some.injEq, Prod.mk.injEq] at he
  obtain ⟨rfl, rfl⟩ := he
  exact Step1.pure hR (.pointer none) (by simp [execOp, ho, hx, convert, run_und hs, run_und ht, Conv.unsafePointer]) (by simp [VR])
 ·rename_i j p e1
  rw [e1] at hx
  have hx2 := hx
  obtain ⟨t', ht', hv⟩ := hx
  split at he
  case h_2 => simp at he
  rename_i c wr es hg
  split at he
  case isFalse => simp at he
  rename_i hc
  obtain ⟨hty, hn, rfl, hle⟩ := hc
  simp only [Option.some.injEq, Prod.mk.injEq] at he
  obtain ⟨rfl, rfl⟩ := he
  have hobj : CellsAt E ρ w t' c wr es := hR.objs j _ t' hg ht'
  obtain ⟨arr, el, fz, a1, a2, a3, a4⟩ := hobj.row
  obtain ⟨rfl, hmod⟩ := a4.2 u hty
  have hshape : w.shape? t'.blk = some (el, arr.size) := by simp [World.shape?, a1]
  rw [hn] at hmod
  have hva : (variablesAt ⟨t'.blk, t'.sh + 0, none⟩ el 1).run P w = .ok true w := by
   refine run_variablesAt hd (by rw [hcu]; exact hsz) hshape (by rw [hcu]; simpa using hmod) ?_
   rw [hcu, Nat.add_zero]
   have h0 : 0 < i.size := Nat.pos_of_ne_zero hsz
   have : (t'.sh / i.size + 1) * i.size ≤ arr.size := by
    have := Nat.div_add_mod t'.sh i.size
    rw [hmod, Nat.mul_comm] at this
    rw [Nat.add_mul, Nat.one_mul]; omega
   exact (Nat.le_div_iff_mul_le h0).2 this
  refine Step1.pure hR (.pointer (some ⟨t'.blk, t'.sh + 0, none⟩)) ?_ (hv ▸ hx2)
  simp [execOp, ho, hv, convert, run_und hs, run_und ht, Conv.unsafePointer, run_seenAt (P := P) (q := ⟨t'.blk, t'.sh, none⟩) hshape, run_size hi, hsz, show (variablesAt ⟨t'.blk, t'.sh, none⟩ el 1).run P w = .ok true w from hva]
 ·simp at he
theorem sound_usd {t : TypeId} {x : Operand} {x' : X} (ho : o.op = .call { callee := .builtin .unsafeSliceData, args := #[x], argTypes := #[t] }) (hx : VR ρ (x'.ev r) (a.eval x)) (hR : Rep E ρ m w) (he : exec (.usd x') r m = some (v, m')) : Step1 E P (execOp a.eval o) ρ m w v m' := by
 obtain ⟨cs, hop⟩ := exec_builtin a.eval ho
 simp only [exec] at he
 split at he
 ·rename_i l c ex e1
  rw [e1] at hx; simp only [VR] at hx
  simp only [Option.some.injEq, Prod.mk.injEq] at he
  obtain ⟨rfl, rfl⟩ := he
  refine Step1.pure hR (.pointer none) ?_ (by simp [VR])
  rw [hop]
  simp only [List.map_toArray, List.map_cons, List.map_nil, hx]
  rfl
 ·rename_i j p l c ex e1
  rw [e1] at hx
  obtain ⟨t', ht', hv⟩ := hx
  split at he
  ·simp at he
  ·rename_i hc
   simp only [Option.some.injEq, Prod.mk.injEq] at he
   obtain ⟨rfl, rfl⟩ := he
   refine Step1.pure hR (.pointer (some ⟨t'.blk, t'.sh + p, none⟩)) ?_ ⟨t', ht', rfl⟩
   rw [hop]
   simp only [List.map_toArray, List.map_cons, List.map_nil, hv]
   obtain ⟨k, hk⟩ : ∃ k, (if ex = true then c else c + t'.xt) = k + 1 := Nat.exists_eq_succ_of_ne_zero (by split <;> omega)
   rw [hk]
   rfl
 ·simp at he
theorem sound_i2s {s t : TypeId} {k : IntKind} {x : Operand} {x' : X} (ho : o.op = .convert s t x) (hs : P.underlying s = some (.int k)) (ht : P.underlying t = some .string) (hx : VR ρ (x'.ev r) (a.eval x)) (hR : Rep E ρ m w) (he : exec (.i2s x') r m = some (v, m')) : Step1 E P (execOp a.eval o) ρ m w v m' := by
 simp only [exec] at he
 split at he
 ·rename_i k0 n e1
  rw [e1] at hx
  simp only [Option.some.injEq, Prod.mk.injEq] at he
  obtain ⟨rfl, rfl⟩ := he
  exact Step1.pure hR (.string (Utf8.encode n)) (by simp [execOp, ho, hx.int, convert, run_und hs, run_und ht, Conv.intToString]) (VR.mkS _)
 ·simp at he
theorem Rep.kill {w' : World} (h : Rep E ρ m w) {j : Nat} {o : AObj} {t : Tgt} (hj : m.get j = some o) (hw : o.wr = true) (hr : ρ j = some t) (ho : w'.os = w.os) (hta : w'.tape = w.tape) (hou : w'.output = w.output) (hsz : w'.heap.size = w.heap.size)
  (hh : ∀ k, k ≠ t.blk → w'.heap[k]? = w.heap[k]?) : Rep E ρ (m.put j none) w' ∧ Ext ρ m ρ (m.put j none) := by
 have hb := (h.objs j o t hj hr).base hw
 have hjn : j < m.next := Nat.lt_of_not_le fun hle => by rw [(h.fresh j hle).2] at hj; simp at hj
 refine ⟨⟨by have := h.base; omega, ⟨ho.trans h.below.os, hta.trans h.below.tape, hou.trans h.below.output, by have := h.below.size; omega, fun k hk => (hh k (by omega)).trans (h.below.block k hk)⟩, h.glob, h.next, fun i hi => ?_, fun i o1 u hi hri => ?_, fun i k o1 o2 t1 t2 hik h1 h2 w1 w2 r1 r2 => ?_⟩, Rho.le_refl _, Nat.le_refl _, fun i hi hri => ⟨?_, hri⟩⟩
 ·simp at hi
  exact ⟨(h.fresh i hi).1, by rw [AMem.get_put, if_neg (by omega)]; exact (h.fresh i hi).2⟩
 ·rw [AMem.get_put] at hi
  split at hi
  ·simp at hi
  ·rename_i hne
   have h1 := h.objs i o1 u hi hri
   refine h1.congr (hh _ ?_)
   cases hw1 : o1.wr with
   | true => exact fun e => h.apart i j o1 o u t (fun e => hne e.symm) hi hj hw1 hw hri hr e
   | false => have := h1.old hw1; omega
 ·rw [AMem.get_put] at h1 h2
  split at h1
  ·simp at h1
  ·split at h2
   ·simp at h2
   ·exact h.apart i k o1 o2 t1 t2 hik h1 h2 w1 w2 r1 r2
 ·rw [AMem.get_put, if_neg]
  intro e; subst e; simp [hr] at hri
theorem run_loadBytes {b q : Nat} : ∀ (n i : Nat) (l : List AV) (bs : List UInt8) (acc : ByteArray), l.length = n → bytesOfCells l = some bs → (∀ k x, l[k]? = some x → ∃ v', w.cell? ⟨b, q + i + k, none⟩ = some v' ∧ VR ρ x v') → (loadBytes ⟨b, q + i, none⟩ acc n).run P w = .ok ⟨acc.data ++ bs.toArray⟩ w
 | 0, i, l, bs, acc, hl, hb, h => by
   obtain rfl : l = [] := List.length_eq_zero_iff.1 hl
   simp only [bytesOfCells, Option.some.injEq] at hb; subst hb
   simp [loadBytes]
 | n + 1, i, x :: l, bs, acc, hl, hb, h => by
   obtain ⟨k, rfl⟩ : ∃ k, x = .i .u8 k := by
    unfold bytesOfCells at hb
    split at hb <;> simp_all
   simp only [bytesOfCells] at hb
   obtain ⟨bs', hb', rfl⟩ := Option.map_eq_some_iff.1 hb
   obtain ⟨v', hc, hv⟩ := h 0 _ rfl
   have hvi := hv.int; subst hvi
   rw [loadBytes]
   have hload : (load ⟨b, q + i, none⟩).run P w = .ok (.int .u8 k) w := by
    rw [Nat.add_zero] at hc
    simp [load, Sem.run, hc]
   simp only [Sem.run_bind, hload, Result.andThen_ok, addr_add]
   have ih := run_loadBytes n (i + 1) l bs' (acc.push k.toNat.toUInt8) (by simpa using hl) hb' (fun k x hk => by
    obtain ⟨u, hu, ru⟩ := h (k + 1) x (by simpa using hk)
    exact ⟨u, by rw [show q + (i + 1) + k = q + i + (k + 1) by omega]; exact hu, ru⟩)
   rw [Nat.add_assoc, ih]
   simp [ByteArray.push]
theorem sound_ustr {t t2 u : TypeId} {d : Nat} {x y : Operand} {x' y' : X} (ho : o.op = .call { callee := .builtin .unsafeString, args := #[x, y], argTypes := #[t, t2] }) (ht : P.underlying t = some (.pointer u)) (hcu : P.cellsOf u = 1) (hd : P.depth = d + 1)
  (hx : VR ρ (x'.ev r) (a.eval x)) (hy : VR ρ (y'.ev r) (a.eval y)) (hR : Rep E ρ m w) (he : exec (.ustr u x' y') r m = some (v, m')) : Step1 E P (execOp a.eval o) ρ m w v m' := by
 obtain ⟨cs, hop⟩ := exec_builtin a.eval ho
 simp only [exec] at he
 split at he
 ·rename_i kk k e1 e2
  rw [e1] at hx; rw [e2] at hy
  simp only [VR] at hx
  have hyi := hy.int
  split at he
  ·rename_i hk
   subst hk
   simp only [Option.some.injEq, Prod.mk.injEq] at he
   obtain ⟨rfl, rfl⟩ := he
   refine Step1.pure hR (.string .empty) ?_ (VR.mkS _)
   rw [hop]
   simp only [List.map_toArray, List.map_cons, List.map_nil, hx, hyi]
   rfl
  ·simp at he
 ·rename_i j p kk k e1 e2
  rw [e1] at hx; rw [e2] at hy
  obtain ⟨t', ht', hv⟩ := hx
  have hyi := hy.int
  split at he
  ·rename_i hk
   subst hk
   simp only [Option.some.injEq, Prod.mk.injEq] at he
   obtain ⟨rfl, rfl⟩ := he
   refine Step1.pure hR (.string .empty) ?_ (VR.mkS _)
   rw [hop]
   simp only [List.map_toArray, List.map_cons, List.map_nil, hv, hyi]
   rfl
  ·rename_i hk
   split at he
   ·simp at he
   rename_i hk2
   split at he
   case h_2 => simp at he
   rename_i c es hg
   split at he
   case isFalse => simp at he
   rename_i hc
   obtain ⟨hty, hle⟩ := hc
   obtain ⟨bs, hbs, he⟩ := Option.map_eq_some_iff.1 he
   simp only [Prod.mk.injEq] at he
   obtain ⟨rfl, rfl⟩ := he
   have hobj : CellsAt E ρ w t' c true es := hR.objs j _ t' hg ht'
   obtain ⟨arr, el, fz, a1, a2, a3, a4⟩ := hobj.row
   obtain ⟨rfl, _⟩ := a4.2 u hty
   have hshape : w.shape? t'.blk = some (el, arr.size) := by simp [World.shape?, a1]
   have hva : (variablesAt ⟨t'.blk, t'.sh + p, none⟩ el k.toNat).run P w = .ok true w :=
    run_variablesAt hd (by rw [hcu]; decide) hshape (by rw [hcu]; exact Nat.mod_one _) (by rw [hcu, Nat.div_one, Nat.div_one]; simp only; omega)
   have hlb := run_loadBytes (P := P) (ρ := ρ) (w := w) (b := t'.blk) (q := t'.sh + p) k.toNat 0 ((c.drop p).take k.toNat) bs .empty (by simp; omega) hbs (fun i x hi => by
    rw [List.getElem?_take] at hi
    split at hi
    ·rw [List.getElem?_drop] at hi
     obtain ⟨u', hu, hru⟩ := CellsAt.cell hobj (p + i) x hi
     exact ⟨u', by rw [Nat.add_zero, Nat.add_assoc]; exact hu, hru⟩
    ·simp at hi)
   have hB : E.B ≤ t'.blk := by simpa using hobj.own
   obtain ⟨g1, g2⟩ := hR.kill (w' := w.freeze ⟨t'.blk, t'.sh + p, none⟩ k.toNat) hg rfl ht' (by unfold World.freeze; split <;> rfl) (by unfold World.freeze; split <;> rfl) (by unfold World.freeze; split <;> rfl) (by unfold World.freeze; split <;> simp) (fun i hi => by
    unfold World.freeze
    split
    ·rfl
    ·simp only [Array.getElem?_modify]; rw [if_neg (fun e => hi e.symm)])
   refine ⟨ρ, _, .string ⟨bs.toArray⟩, .inl ?_, VR.mkS _, g1, g2⟩
   rw [hop]
   have n0 : ¬ k < 0 := fun h => hk2 (.inl h)
   have n1 : ¬ 9223372036854775807 < k := fun h => hk2 (.inr h)
   have n2 : ¬ k.toNat = 0 := by omega
   simp only [Nat.add_zero] at hlb
   simp only [List.map_toArray, List.map_cons, List.map_nil, hv, hyi]
   simp only [builtin, Sem.run_bind]
   have hmain : (Builtin.unsafeString_ #[t, t2] o.type #[.pointer (some ⟨t'.blk, t'.sh + p, none⟩), .int kk k]).run P w = .ok (.string ⟨bs.toArray⟩) (w.freeze ⟨t'.blk, t'.sh + p, none⟩ k.toNat) := by
    refine (Sem.run_bind (x := asInt (.int kk k)) ..).trans ?_
    simp only [asInt, asIntOf, Sem.run_pure, Result.andThen_ok]
    simp [n0, n1, hk, elemOf, run_und ht, hva, hlb, run_freeze, IntKind.max, IntKind.bits, IntKind.signed]
   rw [hmain]; rfl
 ·simp at he
end
end Go.Vi
