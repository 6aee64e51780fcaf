/- How the abstract memory and the world go together: new objects, writes, reads. No condition. -/
import Derived.Test.YtfbglgmhhmeoeaaGreatDoorWbViBase
namespace Go.Vi
open Go.RowKit
set_option linter.unusedSimpArgs false
set_option linter.unusedVariables false
theorem CellsAt.congr {E : Env} {ρ : Rho} {w w' : World} {t : Tgt} {c : List AV} {wr : Bool} {esz : ES} (h : CellsAt E ρ w t c wr esz) (hw : w'.heap[t.blk]? = w.heap[t.blk]?) : CellsAt E ρ w' t c wr esz :=
 ⟨h.own, by rw [hw]; exact h.row⟩
theorem CellsAt.mono {E : Env} {ρ ρ' : Rho} {w : World} {t : Tgt} {c : List AV} {wr : Bool} {esz : ES} (hρ : ρ.le ρ') (h : CellsAt E ρ w t c wr esz) : CellsAt E ρ' w t c wr esz := by
 obtain ⟨arr, e, fz, h1, h2, h3, h4⟩ := h.row
 exact ⟨h.own, arr, e, fz, h1, h2, fun k a hk => ⟨(h3 k a hk).1, by obtain ⟨v, e, r⟩ := (h3 k a hk).2; exact ⟨v, e, VR.mono hρ _ _ r⟩⟩, h4⟩
theorem ObjAt.congr {E : Env} {ρ : Rho} {w w' : World} {t : Tgt} {o : AObj} (h : ObjAt E ρ w t o) (hw : w'.heap[t.blk]? = w.heap[t.blk]?) : ObjAt E ρ w' t o := by
 cases o with
 | cells c wr esz => exact CellsAt.congr h hw
 | map es => obtain ⟨hb, ents, clock, he, hr⟩ := h; exact ⟨hb, ents, clock, hw.trans he, hr⟩
 | loop st pend r ps asg body => obtain ⟨hb, L, he, hr⟩ := h; exact ⟨hb, L, hw.trans he, hr⟩
 | dfr => exact ⟨h.1, hw.trans h.2⟩
 | sit s pos => exact ⟨h.1, h.2.1, hw.trans h.2.2⟩
theorem ObjAt.mono {E : Env} {ρ ρ' : Rho} {w : World} {t : Tgt} {o : AObj} (hρ : ρ.le ρ') (h : ObjAt E ρ w t o) : ObjAt E ρ' w t o := by
 cases o with
 | cells c wr esz => exact CellsAt.mono hρ h
 | map es => obtain ⟨hb, ents, clock, he, h1, h2⟩ := h; exact ⟨hb, ents, clock, he, VRL.mono hρ _ _ h1, VRL.mono hρ _ _ h2⟩
 | loop st pend r ps asg body => obtain ⟨hb, L, he, h1, h2, h3, h4⟩ := h; exact ⟨hb, L, he, h1, h2, VRL.mono hρ _ _ h3, h4⟩
 | dfr => exact h
 | sit s pos => exact h
theorem ObjAt.lt {E : Env} {ρ : Rho} {w : World} {t : Tgt} {o : AObj} (h : ObjAt E ρ w t o) : t.blk < w.heap.size := by
 cases o with
 | cells c wr esz => obtain ⟨arr, e, fz, h1, _⟩ := h.row; exact (Array.getElem?_eq_some_iff.1 h1).1
 | map es => obtain ⟨_, _, _, he, _⟩ := h; exact (Array.getElem?_eq_some_iff.1 he).1
 | loop st pend r ps asg body => obtain ⟨_, L, he, _⟩ := h; exact (Array.getElem?_eq_some_iff.1 he).1
 | dfr => exact (Array.getElem?_eq_some_iff.1 h.2).1
 | sit s pos => exact (Array.getElem?_eq_some_iff.1 h.2.2).1
theorem ObjAt.base {E : Env} {ρ : Rho} {w : World} {t : Tgt} {o : AObj} (h : ObjAt E ρ w t o) (hw : o.wr = true) : E.B ≤ t.blk := by
 cases o with
 | cells c wr esz => have := h.own; simp [AObj.wr] at hw; subst hw; simpa using this
 | map es => exact h.1
 | loop st pend r ps asg body => exact h.1
 | dfr => exact h.1
 | sit s pos => exact h.1
theorem ObjAt.old {E : Env} {ρ : Rho} {w : World} {t : Tgt} {o : AObj} (h : ObjAt E ρ w t o) (hw : o.wr = false) : t.blk < E.B := by
 cases o with
 | cells c wr esz => have := h.own; simp [AObj.wr] at hw; subst hw; simpa using this
 | map es => simp [AObj.wr] at hw
 | loop st pend r ps asg body => simp [AObj.wr] at hw
 | dfr => simp [AObj.wr] at hw
 | sit s pos => simp [AObj.wr] at hw
def Rho.put (ρ : Rho) (j : Nat) (t : Tgt) : Rho := fun k => if j = k then some t else ρ k
theorem Rho.le_put {ρ : Rho} {j : Nat} {t : Tgt} (h : ρ j = none) : ρ.le (ρ.put j t) := fun k u hk => by
 unfold Rho.put; split
 ·subst_vars; simp [h] at hk
 ·exact hk
theorem Rho.put_self (ρ : Rho) (j : Nat) (t : Tgt) : ρ.put j t j = some t := by simp [Rho.put]
theorem Rep.drawn {E : Env} {ρ : Rho} {m : AMem} {w : World} (h : Rep E ρ m w) (n : Nat) : Rep E ρ m { w with drawn := n } :=
 ⟨h.base, ⟨h.below.os, h.below.tape, h.below.output, h.below.size, h.below.block⟩, h.glob, h.next, h.fresh, fun j o t hj hr => (h.objs j o t hj hr).congr rfl, h.apart⟩
theorem Rep.push {E : Env} {ρ : Rho} {m : AMem} {w w' : World} (h : Rep E ρ m w) (o : AObj) (t : Tgt) (O : Obj) (hh : w'.heap = w.heap.push O) (ho : w'.os = w.os) (hta : w'.tape = w.tape) (hou : w'.output = w.output) (ht : t.blk = w.heap.size) (hobj : ObjAt E (ρ.put m.next t) w' t o) :
  Rep E (ρ.put m.next t) (m.new o) w' ∧ Ext ρ m (ρ.put m.next t) (m.new o) := by
 have hn := (h.fresh m.next (Nat.le_refl _)).1
 have hle : ρ.le (ρ.put m.next t) := Rho.le_put hn
 have hold : ∀ k, k < w.heap.size → w'.heap[k]? = w.heap[k]? := fun k hk => by rw [hh, Array.getElem?_push, if_neg (by omega)]
 have hsz : w'.heap.size = w.heap.size + 1 := by rw [hh]; simp
 have hnew : ∀ j u, (ρ.put m.next t) j = some u → (j = m.next ∧ u = t) ∨ ρ j = some u := fun j u hj => by
  unfold Rho.put at hj; split at hj
  ·simp at hj; exact .inl ⟨by omega, hj.symm⟩
  ·exact .inr hj
 refine ⟨⟨by have := h.base; omega, ⟨ho.trans h.below.os, hta.trans h.below.tape, hou.trans h.below.output, by have := h.below.size; omega, fun k hk => (hold k (by have := h.base; omega)).trans (h.below.block k hk)⟩, fun g hg => hle _ _ (h.glob g hg), by have := h.next; simp; omega, fun j hj => ?_, fun j o' u hj hr => ?_, fun i j o1 o2 t1 t2 hij h1 h2 w1 w2 r1 r2 => ?_⟩, hle, by simp, fun j hj hr => ?_⟩
 ·simp at hj
  obtain ⟨a, b⟩ := h.fresh j (by omega)
  exact ⟨by unfold Rho.put; rw [if_neg (by omega)]; exact a, by rw [AMem.get_new, if_neg (by omega)]; exact b⟩
 ·rw [AMem.get_new] at hj
  rcases hnew j u hr with ⟨rfl, rfl⟩ | hr'
  ·simp at hj; subst hj; exact hobj
  ·split at hj
   ·subst_vars; simp [hn] at hr'
   ·have := h.objs j o' u hj hr'
    exact (this.mono hle).congr (hold _ this.lt)
 ·rw [AMem.get_new] at h1 h2
  rcases hnew i t1 r1 with ⟨rfl, rfl⟩ | r1'
  ·rcases hnew j t2 r2 with ⟨rfl, rfl⟩ | r2'
   ·exact absurd rfl hij
   ·rw [if_neg hij] at h2
    have := (h.objs j o2 t2 h2 r2').lt
    omega
  ·rcases hnew j t2 r2 with ⟨rfl, rfl⟩ | r2'
   ·rw [if_neg (fun e => hij e.symm)] at h1
    have := (h.objs i o1 t1 h1 r1').lt
    omega
   ·split at h1
    ·subst_vars; simp [hn] at r1'
    ·split at h2
     ·subst_vars; simp [hn] at r2'
     ·exact h.apart i j o1 o2 t1 t2 hij h1 h2 w1 w2 r1' r2'
 ·exact ⟨by rw [AMem.get_new, if_neg (by omega)], by unfold Rho.put; rw [if_neg (by omega)]; exact hr⟩
theorem Rep.write {E : Env} {ρ : Rho} {m : AMem} {w w' : World} (h : Rep E ρ m w) {j : Nat} {o o' : AObj} {t : Tgt} (hj : m.get j = some o) (hw : o.wr = true) (hr : ρ j = some t) (_hw' : o'.wr = true) (ho : w'.os = w.os) (hta : w'.tape = w.tape) (hou : w'.output = w.output) (hsz : w'.heap.size = w.heap.size)
  (hh : ∀ k, k ≠ t.blk → w'.heap[k]? = w.heap[k]?) (hobj : ObjAt E ρ w' t o') : Rep E ρ (m.put j (some o')) w' ∧ Ext ρ m ρ (m.put j (some o')) := by
 have hb := (h.objs j o t hj hr).base hw
 have hjn : j < m.next := Nat.lt_of_not_le fun hle => by rw [(h.fresh j hle).2] at hj; simp at hj
 refine ⟨⟨by have := h.base; omega, ⟨ho.trans h.below.os, hta.trans h.below.tape, hou.trans h.below.output, by have := h.below.size; omega, fun k hk => (hh k (by omega)).trans (h.below.block k hk)⟩, h.glob, h.next, fun i hi => ?_, fun i o1 u hi hri => ?_, fun i k o1 o2 t1 t2 hik h1 h2 w1 w2 r1 r2 => ?_⟩, Rho.le_refl _, Nat.le_refl _, fun i hi hri => ⟨?_, hri⟩⟩
 ·simp at hi
  exact ⟨(h.fresh i hi).1, by rw [AMem.get_put, if_neg (by omega)]; exact (h.fresh i hi).2⟩
 ·rw [AMem.get_put] at hi
  split at hi
  ·subst_vars
   simp at hi; subst hi
   rw [hr] at hri; simp at hri; subst hri
   exact hobj
  ·rename_i hne
   have h1 := h.objs i o1 u hi hri
   refine h1.congr (hh _ ?_)
   cases hw1 : o1.wr with
   | true => exact fun e => h.apart i j o1 o u t (fun e => hne e.symm) hi hj hw1 hw hri hr e
   | false => have := h1.old hw1; omega
 ·rw [AMem.get_put] at h1 h2
  have g1 : ∃ o1', m.get i = some o1' ∧ o1'.wr = true := by
   split at h1
   ·subst_vars; exact ⟨o, hj, hw⟩
   ·exact ⟨o1, h1, w1⟩
  have g2 : ∃ o2', m.get k = some o2' ∧ o2'.wr = true := by
   split at h2
   ·subst_vars; exact ⟨o, hj, hw⟩
   ·exact ⟨o2, h2, w2⟩
  obtain ⟨p1, e1, q1⟩ := g1
  obtain ⟨p2, e2, q2⟩ := g2
  exact h.apart i k p1 p2 t1 t2 hik e1 e2 q1 q2 r1 r2
 ·rw [AMem.get_put, if_neg]
  intro e; subst e; simp [hr] at hri
/-! ### Reading and writing rows of cells -/
theorem frz_ok {fz : Nat × Nat} {n : Nat} (h : fz.1 = fz.2 ∨ n ≤ fz.1) : ∀ o, o < n → ¬(fz.1 ≤ o ∧ o < fz.2) := fun o ho hh => by omega
theorem addr_add (b o n : Nat) : (⟨b, o, none⟩ : Addr).add n = ⟨b, o + n, none⟩ := by
 unfold Addr.add; split <;> simp_all
theorem CellsAt.cell {E : Env} {ρ : Rho} {w : World} {t : Tgt} {c : List AV} {wr : Bool} {esz : ES} (h : CellsAt E ρ w t c wr esz) (k : Nat) (a : AV) (hk : c[k]? = some a) : ∃ v, w.cell? ⟨t.blk, t.sh + k, none⟩ = some v ∧ VR ρ a v := by
 obtain ⟨arr, e, fz, h1, _, h3, _⟩ := h.row
 obtain ⟨v, hv, r⟩ := (h3 k a hk).2
 exact ⟨v, by simp [World.cell?, h1, hv], r⟩
theorem run_loadCellsFrom' {P : Program} {ρ : Rho} {w : World} (b o : Nat) : ∀ (c : List AV) (i : Nat) (acc : Array Value) (l : List AV), VRL ρ l acc.toList → (∀ k a, c[k]? = some a → ∃ v, w.cell? ⟨b, o + i + k, none⟩ = some v ∧ VR ρ a v) →
  ∃ vs, (loadCellsFrom ⟨b, o, none⟩ i c.length acc).run P w = .ok vs w ∧ VRL ρ (l ++ c) vs.toList
 | [], i, acc, l, hl, _ => ⟨acc, rfl, by simpa using hl⟩
 | a :: c, i, acc, l, hl, h => by
   obtain ⟨v, hv, r⟩ := h 0 a rfl
   obtain ⟨vs, e, hvs⟩ := run_loadCellsFrom' (P := P) b o c (i + 1) (acc.push v) (l ++ [a]) (by simpa using hl.append (VRL.one r)) (fun k x hk => by
    obtain ⟨u, hu, ru⟩ := h (k + 1) x (by simpa using hk)
    exact ⟨u, by rw [show o + (i + 1) + k = o + i + (k + 1) by omega]; exact hu, ru⟩)
   refine ⟨vs, ?_, by simpa using hvs⟩
   simp only [List.length_cons, loadCellsFrom, Sem.run_bind, addr_add, run_load]
   rw [show o + i + 0 = o + i from rfl] at hv
   simp [hv, e]
theorem CellsAt.loads {P : Program} {E : Env} {ρ : Rho} {w : World} {t : Tgt} {c : List AV} {wr : Bool} {esz : ES} (h : CellsAt E ρ w t c wr esz) (o n : Nat) (hn : o + n ≤ c.length) :
  ∃ vs, (loadCells ⟨t.blk, t.sh + o, none⟩ n).run P w = .ok vs w ∧ VRL ρ ((c.drop o).take n) vs.toList := by
 have hl : ((c.drop o).take n).length = n := by simp; omega
 obtain ⟨vs, e, r⟩ := run_loadCellsFrom' (P := P) (ρ := ρ) (w := w) t.blk (t.sh + o) ((c.drop o).take n) 0 #[] [] (by simp [VRL]) (fun k a hk => by
  rw [List.getElem?_take] at hk
  split at hk
  ·rw [List.getElem?_drop] at hk
   obtain ⟨v, hv, r⟩ := h.cell (o + k) a hk
   exact ⟨v, by rw [show t.sh + o + 0 + k = t.sh + (o + k) by omega]; exact hv, r⟩
  ·simp at hk)
 rw [hl] at e
 exact ⟨vs, e, by simpa using r⟩
theorem run_storeCells' {P : Program} (b o : Nat) (e : TypeId) (fz : Nat × Nat) : ∀ (vs : List Value) (i : Nat) (w : World) (arr : Array Value), w.heap[b]? = some (.cells arr e fz) → o + i + vs.length ≤ arr.size → (∀ v ∈ vs, v.oneCell' = true) → (∀ k, k < arr.size → ¬(fz.1 ≤ k ∧ k < fz.2)) →
  ∃ w' arr', (storeCells ⟨b, o, none⟩ vs i).run P w = .ok () w' ∧ w'.os = w.os ∧ w'.tape = w.tape ∧ w'.output = w.output ∧ w'.heap.size = w.heap.size ∧ (∀ k, k ≠ b → w'.heap[k]? = w.heap[k]?) ∧
   w'.heap[b]? = some (.cells arr' e fz) ∧ arr'.size = arr.size ∧ (∀ k, arr'[k]? = if o + i ≤ k ∧ k < o + i + vs.length then vs[k - (o + i)]? else arr[k]?)
 | [], i, w, arr, hb, _, _, _ => ⟨w, arr, rfl, rfl, rfl, rfl, rfl, fun _ _ => rfl, hb, rfl, fun k => by rw [if_neg (by simp)]⟩
 | v :: vs, i, w, arr, hb, hl, h1, hf => by
   have hbl := (Array.getElem?_eq_some_iff.1 hb).1
   simp only [List.length_cons] at hl
   have hc : w.cell? ⟨b, o + i, none⟩ = some arr[o + i] := by
    simp only [World.cell?, hb]; simp
   have hz : w.frozen? ⟨b, o + i, none⟩ = false := by
    have := hf (o + i) (by omega)
    simp only [World.frozen?, hb]; simpa using this
   have hset : (w.setCell ⟨b, o + i, none⟩ v).heap[b]? = some (.cells (arr.setIfInBounds (o + i) v) e fz) := by
    simp only [World.setCell, Array.getElem?_modify]; rw [if_pos trivial, hb]; rfl
   obtain ⟨w', arr', hr, e1, e2, e3, e4, e5, e6, e7, e8⟩ := run_storeCells' (P := P) b o e fz vs (i + 1) (w.setCell ⟨b, o + i, none⟩ v) (arr.setIfInBounds (o + i) v) hset (by simp; omega) (fun u hu => h1 u (List.mem_cons_of_mem _ hu)) (by simpa using hf)
   refine ⟨w', arr', ?_, e1, e2, e3, by rw [e4]; simp [World.setCell], fun k hk => (e5 k hk).trans (by simp only [World.setCell, Array.getElem?_modify]; rw [if_neg (by omega)]), e6, by simpa using e7, fun k => ?_⟩
   ·have hone := h1 v (List.mem_cons_self ..)
    simp only [storeCells, Sem.run_bind, addr_add]
    rw [run_store P w _ v _ hone, hc]
    simp [hz, hr]
   ·rw [e8 k]
    simp only [List.length_cons]
    by_cases hk : o + i = k
    ·subst hk
     rw [if_neg (by omega), if_pos (by omega), Array.getElem?_setIfInBounds_self]
     rw [if_pos (by omega)]; simp
    ·by_cases hk2 : o + (i + 1) ≤ k ∧ k < o + (i + 1) + vs.length
     ·rw [if_pos hk2, if_pos (by omega), show k - (o + i) = (k - (o + (i + 1))) + 1 by omega]
      simp
     ·rw [if_neg hk2, if_neg (by omega), Array.getElem?_setIfInBounds_ne hk]
def splice (c : List AV) (o : Nat) (vs : List AV) : List AV := c.take o ++ (vs ++ c.drop (o + vs.length))
theorem length_splice (c : List AV) (o : Nat) (vs : List AV) (h : o + vs.length ≤ c.length) : (splice c o vs).length = c.length := by
 simp [splice]; omega
theorem get_splice (c : List AV) (o : Nat) (vs : List AV) (h : o + vs.length ≤ c.length) (k : Nat) : (splice c o vs)[k]? = if o ≤ k ∧ k < o + vs.length then vs[k - o]? else c[k]? := by
 unfold splice
 rw [List.getElem?_append, List.length_take, Nat.min_eq_left (by omega)]
 by_cases h1 : k < o
 ·rw [if_pos h1, if_neg (by omega), List.getElem?_take, if_pos h1]
 ·rw [if_neg h1, List.getElem?_append]
  by_cases h2 : k - o < vs.length
  ·rw [if_pos h2, if_pos (by omega)]
  ·rw [if_neg h2, if_neg (by omega), List.getElem?_drop]
   congr 1; omega
theorem Rep.store {P : Program} {E : Env} {ρ : Rho} {m : AMem} {w : World} (h : Rep E ρ m w) {j : Nat} {c : List AV} {esz : ES} {t : Tgt} (hj : m.get j = some (.cells c true esz)) (hr : ρ j = some t) (o : Nat) (l : List AV) (vs : List Value) (hl : VRL ρ l vs) (h1 : ∀ a ∈ l, a.one = true) (hn : o + l.length ≤ c.length) :
  ∃ w', (storeCells ⟨t.blk, t.sh + o, none⟩ vs).run P w = .ok () w' ∧ Rep E ρ (m.put j (some (.cells (splice c o l) true esz))) w' ∧ Ext ρ m ρ (m.put j (some (.cells (splice c o l) true esz))) := by
 have hobj : CellsAt E ρ w t c true esz := h.objs j _ t hj hr
 obtain ⟨arr, e, fz, a1, a2, a3, a4⟩ := hobj.row
 have hlen := hl.length
 have hone : ∀ v ∈ vs, v.oneCell' = true := fun v hv => by
  obtain ⟨k, hk⟩ := List.mem_iff_getElem?.1 hv
  have hk' : k < l.length := by have := (List.getElem?_eq_some_iff.1 hk).1; omega
  obtain ⟨v', e', r⟩ := hl.get k l[k] (List.getElem?_eq_getElem hk')
  rw [hk] at e'; simp at e'; subst e'
  exact r.one (h1 _ (List.getElem_mem hk'))
 obtain ⟨w', arr', hrun, e1, e2, e3, e4, e5, e6, e7, e8⟩ := run_storeCells' (P := P) t.blk (t.sh + o) e fz vs 0 w arr a1 (by omega) hone (frz_ok (a4.1 rfl))
 refine ⟨w', hrun, h.write (o := .cells c true esz) hj rfl hr rfl e1 e2 e3 e4 e5 ⟨hobj.own, arr', e, fz, e6, by rw [length_splice _ _ _ hn, e7]; exact a2, fun k a hk => ?_, fun _ => by rw [e7]; exact a4.1 rfl, a4.2⟩⟩
 rw [get_splice _ _ _ hn] at hk
 rw [e8]
 by_cases hin : o ≤ k ∧ k < o + l.length
 ·rw [if_pos hin] at hk
  rw [if_pos (by omega), show t.sh + k - (t.sh + o + 0) = k - o by omega]
  exact ⟨h1 a (List.mem_of_getElem? hk), hl.get _ _ hk⟩
 ·rw [if_neg hin] at hk
  rw [if_neg (by omega)]
  exact a3 k a hk
theorem Rep.newRow {E : Env} {ρ : Rho} {m : AMem} {w : World} (h : Rep E ρ m w) (e : TypeId) (c : List AV) (vs : List Value) (rest : Array Value) (esz : ES) (xt : Nat) (hl : VRL ρ c vs) (h1 : ∀ a ∈ c, a.one = true) (hrest : xt * esz.n ≤ rest.size) (fz : Nat × Nat) (hfz : fz.1 = fz.2 ∨ vs.length + rest.size ≤ fz.1) (hty : ∀ q, esz.ty = some q → e = q) (dr : Nat) :
  Rep E (ρ.put m.next ⟨w.heap.size, 0, xt⟩) (m.new (.cells c true esz)) { w with heap := w.heap.push (.cells (vs.toArray ++ rest) e fz), drawn := dr } ∧
  Ext ρ m (ρ.put m.next ⟨w.heap.size, 0, xt⟩) (m.new (.cells c true esz)) := by
 have hle : ρ.le (ρ.put m.next ⟨w.heap.size, 0, xt⟩) := Rho.le_put (h.fresh m.next (Nat.le_refl _)).1
 refine h.push (.cells c true esz) ⟨w.heap.size, 0, xt⟩ (.cells (vs.toArray ++ rest) e fz) rfl rfl rfl rfl rfl ⟨by simpa using h.base, vs.toArray ++ rest, e, fz, by simp, ?_, fun k a hk => ⟨h1 a (List.mem_of_getElem? hk), ?_⟩, fun _ => by simpa using hfz, fun q hq => ⟨hty q hq, by simp⟩⟩
 ·have := hl.length; simp; omega
 ·obtain ⟨v, hv, r⟩ := hl.get k a hk
  refine ⟨v, ?_, VR.mono hle _ _ r⟩
  have hkl := (List.getElem?_eq_some_iff.1 hv).1
  simp only [Nat.zero_add]
  rw [Array.getElem?_append_left (by simpa using hkl)]
  simpa using hv
end Go.Vi
