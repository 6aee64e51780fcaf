/- Regions that draw their order: the interpreter's answer is every order's. No condition. -/
import Derived.Test.YtfbglgmhhmeoeaaGreatDoorWbViDraw2
namespace Go.Vi
open Go.RowKit
set_option linter.unusedSimpArgs false
set_option linter.unusedVariables false
section
variable {E : Env} {P : Program} {C : CallF}
structure Setting (P : Program) (G : Nat) (C : CallF) where
  ops : Array Oper
  n : Nat
  h : Nat
  co : Nat → Nat
  l : Nat → VOper
  B : Array Nat
  R : Nat → List AV
  M : Nat → AMem
  hn : n = ops.size
  hh : h ≤ n
  colt : ∀ p, p < n → co p < n
  inj : ∀ p q, p < n → q < n → co p = co q → p = q
  sur : ∀ i, i < n → ∃ p, p < n ∧ co p = i
  comp : ∀ p, p < n → compOper P G ops (ops.getD (co p) default) = some (l p)
  step : ∀ p, p < n → stepO C (l p) (R p) (M p) = some (R (p + 1), M (p + 1))
  bit : ∀ i j, i < n → j < n → (B.getD i 0).testBit j = true → ∃ e ∈ (ops.getD i default).after.toList, Region.binds .any e = true ∧ (e.on = j ∨ (B.getD e.on 0).testBit j = true)
  low : ∀ i, i < n → ∀ e ∈ (ops.getD i default).after.toList, Region.binds .any e = true → e.on < i
  bitlt : ∀ i j, i < n → j < n → (B.getD i 0).testBit j = true → j < i
  meet : ∀ p q, p < q → q < n → (l p).meets (l q) = true → (B.getD (co q) 0).testBit (co p) = true
  effs : ∀ p q, h ≤ p → p < q → q < n → (l p).o.eff = true → (l q).o.eff = true → (B.getD (co q) 0).testBit (co p) = true
  hoisted : ∀ p, p < h → hoistO (ops.getD (co p) default) = true
  mono : ∀ p q, h ≤ p → p < q → q < n → co p < co q
  reads : ∀ p q, p < n → h ≤ q → q < n → (l p).o.rd = true → (l q).o.eff = true → (B.getD (co p) 0).testBit (co q) = false → (B.getD (co q) 0).testBit (co p) = false → wants (l p).g (R p) = true →
    ∃ v a b c, exec (l p).o (R p) (M p) = some (v, a) ∧ exec (l p).o (R p) (M q) = some (v, b) ∧ exec (l p).o (R p) (M (q + 1)) = some (v, c)
variable {G : Nat}
def Setting.V (S : Setting P G C) (p : Nat) : AV :=
  if wants (S.l p).g (S.R p) then ((execC C (S.l p).o (S.R p) (S.M p)).map (·.1)).getD un else un
theorem Setting.stepV (S : Setting P G C) {p : Nat} (hp : p < S.n) : S.R (p + 1) = setR (S.R p) (S.l p).d (S.V p) ∧
    (wants (S.l p).g (S.R p) = true → execC C (S.l p).o (S.R p) (S.M p) = some (S.V p, S.M (p + 1))) ∧
    (wants (S.l p).g (S.R p) = false → S.V p = un ∧ S.M (p + 1) = S.M p) := by
  have h := S.step p hp
  unfold stepO at h
  split at h
  · rename_i hw
    obtain ⟨q, hq, h⟩ := Option.map_eq_some_iff.1 h
    simp only [Prod.mk.injEq] at h
    have hv : S.V p = q.1 := by unfold Setting.V; rw [if_pos hw, hq]; rfl
    refine ⟨by rw [hv]; exact h.1.symm, fun _ => by rw [hq, hv, ← h.2], fun h2 => by rw [hw] at h2; simp at h2⟩
  · rename_i hw
    simp only [Option.some.injEq, Prod.mk.injEq] at h
    have hv : S.V p = un := by unfold Setting.V; rw [if_neg hw]
    exact ⟨by rw [hv]; exact h.1.symm, fun h2 => absurd h2 hw, fun _ => ⟨hv, h.2.symm⟩⟩
abbrev Setting.d (S : Setting P G C) (p : Nat) : Option Nat := (S.l p).d
theorem Setting.regs (S : Setting P G C) : ∀ k, k ≤ S.n → S.R k = selR (S.R 0) S.d S.V (fun _ => true) k
  | 0, _ => rfl
  | k + 1, h => by
    rw [(S.stepV (show k < S.n by omega)).1, S.regs k (by omega)]
    simp [selR]
theorem Setting.still (S : Setting P G C) {a b : Nat} (hab : a ≤ b) (hb : b ≤ S.n) (h : ∀ q, a ≤ q → q < b → (S.l q).o.eff = false) : S.M b = S.M a := by
  obtain ⟨k, rfl⟩ := Nat.exists_eq_add_of_le hab
  clear hab
  induction k with
  | zero => rfl
  | succ k ih =>
    have h1 := ih (by omega) fun q h1 h2 => h q h1 (by omega)
    rw [← h1]
    have hk : a + k < S.n := by omega
    obtain ⟨_, h2, h3⟩ := S.stepV hk
    have he := h (a + k) (by omega) (by omega)
    cases hw : wants (S.l (a + k)).g (S.R (a + k)) with
    | false => exact (h3 hw).2
    | true =>
      have h4 := h2 hw
      have hnc : (S.l (a + k)).o.isCall = false := by
        revert he; cases (S.l (a + k)).o <;> simp [VO.eff, VO.isCall]
      rw [execC_plain hnc] at h4
      exact (exec_still he h4).1
structure Inv (E : Env) (S : Setting P E.G C) (ρ0 : Rho) (m0 : AMem) (ds : List Deferred) (listed : Array Bool) (ρ : Rho) (c : Nat) (a : Act) (w : World) : Prop where
  size : listed.size = S.n
  closed : ∀ i j, i < S.n → j < S.n → listed.getD i false = true → (S.B.getD i 0).testBit j = true → listed.getD j false = true
  c1 : S.h ≤ c
  c2 : c ≤ S.n
  cut : ∀ q, S.h ≤ q → q < S.n → (S.l q).o.eff = true → (listed.getD (S.co q) false = true ↔ q < c)
  regs : VRL ρ (selR (S.R 0) S.d S.V (fun p => listed.getD (S.co p) false) S.n) a.tmps.toList
  defers : a.defers = ds
  rep : Rep E ρ (S.M c) w
  ext : Ext ρ0 m0 ρ (S.M c)
  hst : ∀ p, p < S.h → listed.getD (S.co p) false = false → ρ (m0.next + p) = none ∧ ∃ ty z, (S.M c).get (m0.next + p) = some (.cells z true ⟨z.length, some ty⟩) ∧ (S.l p).o = .alloc ty z ∧ S.V p = .p (some (m0.next + p, 0))
  nx : m0.next + S.h ≤ (S.M c).next
theorem step_at (S : Setting P E.G C) {ρ0 : Rho} {m0 : AMem} {ds : List Deferred} {listed : Array Bool} {ρ : Rho} {c : Nat} {a : Act} {w : World} (I : Inv E S ρ0 m0 ds listed ρ c a w) {p : Nat} (hp : p < S.n) (hnl : listed.getD (S.co p) false = false) (hpre : ∀ j, j < S.n → (S.B.getD (S.co p) 0).testBit j = true → listed.getD j false = true) :
    (∀ t ∈ (S.l p).slots, (selR (S.R 0) S.d S.V (fun p => listed.getD (S.co p) false) S.n).getD t un = (S.R p).getD t un) ∧
    (∀ t : Nat, (selR (S.R 0) S.d S.V (fun q => (listed.setIfInBounds (S.co p) true).getD (S.co q) false) S.n)[t]? = (setR (selR (S.R 0) S.d S.V (fun p => listed.getD (S.co p) false) S.n) (S.l p).d (S.V p))[t]?) := by
  have hco := S.colt p hp
  -- an operation that comes behind, and meets this one, has not been done
  have later : ∀ q, p < q → q < S.n → (S.l p).meets (S.l q) = true → listed.getD (S.co q) false = false := by
    intro q h1 h2 h3
    cases hq : listed.getD (S.co q) false with
    | false => rfl
    | true =>
      have := I.closed (S.co q) (S.co p) (S.colt q h2) hco hq (S.meet p q h1 h2 h3)
      rw [hnl] at this; simp at this
  refine ⟨fun t ht => ?_, fun t => ?_⟩
  · have e : (selR (S.R 0) S.d S.V (fun p => listed.getD (S.co p) false) S.n)[t]? = (S.R p)[t]? := by
      rw [S.regs p (by omega)]
      have h1 : (selR (S.R 0) S.d S.V (fun _ => true) p)[t]? = (selR (S.R 0) S.d S.V (fun q => decide (q < p)) p)[t]? := selR_congr p fun q hq _ => by simp [hq]
      have h2 : ∀ k, p ≤ k → (selR (S.R 0) S.d S.V (fun q => decide (q < p)) k)[t]? = (selR (S.R 0) S.d S.V (fun q => decide (q < p)) p)[t]? := by
        intro k hk
        obtain ⟨k, rfl⟩ := Nat.exists_eq_add_of_le hk
        clear hk
        induction k with
        | zero => rfl
        | succ k ih =>
          have hpk : ¬(p + k < p) := by omega
          rw [← ih, ← Nat.add_assoc]
          simp [selR, hpk]
      rw [h1, ← h2 S.n (by omega)]
      refine selR_congr S.n fun q hq hd => ?_
      by_cases hqp : q < p
      · simp only [hqp, decide_true]
        refine hpre _ (S.colt q hq) (S.meet q p hqp hp ?_)
        simp only [VOper.meets, show (S.l q).d = some t from hd]
        simp [ht]
      · by_cases hqe : q = p
        · subst hqe; simp [hnl]
        · simp only [hqp, decide_false]
          refine later q (by omega) hq ?_
          simp only [VOper.meets, show (S.l q).d = some t from hd]
          simp [ht]
    simp only [List.getD_eq_getElem?_getD, e]
  · refine selR_insert (s := fun p => listed.getD (S.co p) false) (K := S.n) (fun q hqn => ?_) hnl t S.n (Nat.le_refl _) hp fun q h1 h2 h3 h4 => ?_
    · by_cases hq : q = p
      · subst hq
        have : S.co q < listed.size := by rw [I.size]; exact hco
        simp [this]
      · have hqp : (q == p) = false := by simp [hq]
        rw [hqp, Bool.or_false]
        exact getD_set_ne false fun e => hq (S.inj q p hqn hp e.symm)
    · refine later q h1 h2 ?_
      have h4' : (S.l p).d = some t := h4
      have h3' : (S.l q).d = some t := h3
      simp [VOper.meets, h4', h3']
theorem getD_true_false {listed : Array Bool} {i n : Nat} (hs : listed.size = n) (hi : i < n) : listed.getD i true = listed.getD i false := by
  have : i < listed.size := by omega
  simp [this]
def left (n : Nat) (listed : Array Bool) : Nat := (List.range n).countP fun i => !listed.getD i false
theorem left_set {n i : Nat} {listed : Array Bool} (hs : listed.size = n) (hi : i < n) (hl : listed.getD i false = false) : left n (listed.setIfInBounds i true) + 1 = left n listed := by
  unfold left
  have key : ∀ k, k ≤ n → (List.range k).countP (fun j => !(listed.setIfInBounds i true).getD j false) + (if i < k then 1 else 0) = (List.range k).countP fun j => !listed.getD j false := by
    intro k
    induction k with
    | zero => intro _; simp
    | succ k ih =>
      intro hk
      have ih := ih (by omega)
      rw [List.range_succ, List.countP_append, List.countP_append, ← ih]
      simp only [List.countP_cons, List.countP_nil, Nat.zero_add]
      by_cases hik : i = k
      · subst hik
        have h1 : i < listed.size := by omega
        have h2 : (listed.setIfInBounds i true).getD i false = true := by simp [h1]
        rw [h2, hl]
        simp
      · rw [getD_set_ne false hik]
        have e5 : (if i < k + 1 then 1 else 0) = (if i < k then 1 else 0) := by
          by_cases h3 : i < k
          · rw [if_pos h3, if_pos (Nat.lt_succ_of_lt h3)]
          · rw [if_neg h3, if_neg (fun h4 => h3 (Nat.lt_of_le_of_ne (Nat.le_of_lt_succ h4) hik))]
        rw [e5]; omega
  have := key n (Nat.le_refl _)
  rw [if_pos hi] at this
  exact this
theorem none_left {n : Nat} {listed : Array Bool} (h : left n listed = 0) : ∀ i, i < n → listed.getD i false = true := by
  intro i hi
  unfold left at h
  rw [List.countP_eq_zero] at h
  have := h i (List.mem_range.2 hi)
  simpa using this
theorem ready_nil (S : Setting P E.G C) {listed : Array Bool} (hs : listed.size = S.n) (h : Region.ready .any S.ops listed = []) : ∀ i, i < S.n → listed.getD i false = true := by
  intro i
  induction i using Nat.strongRecOn with
  | _ i ih =>
    intro hi
    cases hl : listed.getD i false with
    | true => rfl
    | false =>
      have hio : i < S.ops.size := by rw [← S.hn]; exact hi
      have : i ∈ Region.ready .any S.ops listed := by
        rw [mem_ready]
        refine ⟨by rw [getD_true_false hs hi]; exact hl, S.ops[i], Array.getElem?_eq_getElem hio, fun e he hb => ?_⟩
        have hd : S.ops.getD i default = S.ops[i] := by simp [hio]
        have hlt := S.low i hi e (by rw [hd]; simpa using he) hb
        exact ih e.on hlt (by omega)
      rw [h] at this; simp at this
theorem Setting.final (S : Setting P E.G C) {ρ0 : Rho} {m0 : AMem} {ds : List Deferred} {listed : Array Bool} {ρ : Rho} {c : Nat} {a : Act} {w : World} (I : Inv E S ρ0 m0 ds listed ρ c a w) (hall : ∀ i, i < S.n → listed.getD i false = true) : VRL ρ (S.R S.n) a.tmps.toList ∧ a.defers = ds ∧ Rep E ρ (S.M S.n) w ∧ Ext ρ0 m0 ρ (S.M S.n) := by
  have hM : S.M S.n = S.M c := S.still I.c2 (Nat.le_refl _) fun q h1 h2 => by
    cases he : (S.l q).o.eff with
    | false => rfl
    | true =>
      have := (I.cut q (Nat.le_trans I.c1 h1) h2 he).1 (hall _ (S.colt q h2))
      omega
  have hRR : selR (S.R 0) S.d S.V (fun p => listed.getD (S.co p) false) S.n = S.R S.n := by
    rw [S.regs S.n (Nat.le_refl _)]
    exact List.ext_getElem? fun t => selR_congr S.n fun q hq _ => hall _ (S.colt q hq)
  rw [hM]
  exact ⟨hRR ▸ I.regs, I.defers, I.rep, I.ext⟩
theorem Setting.reads_at (S : Setting P E.G C) {ρ0 : Rho} {m0 : AMem} {ds : List Deferred} {listed : Array Bool} {ρ : Rho} {c : Nat} {a : Act} {w : World} (I : Inv E S ρ0 m0 ds listed ρ c a w) {p : Nat} (hp : p < S.n) (hnl : listed.getD (S.co p) false = false) (hpre : ∀ j, j < S.n → (S.B.getD (S.co p) 0).testBit j = true → listed.getD j false = true)
    (hrd : (S.l p).o.rd = true) (hw : wants (S.l p).g (S.R p) = true) (hph : S.h ≤ p) : exec (S.l p).o (S.R p) (S.M c) = some (S.V p, S.M c) := by
  have heff : (S.l p).o.eff = false := by revert hrd; cases (S.l p).o <;> simp [VO.eff, VO.rd]
  have hnc : (S.l p).o.isCall = false := by revert hrd; cases (S.l p).o <;> simp [VO.isCall, VO.rd]
  have hx := (S.stepV hp).2.1 hw
  rw [execC_plain hnc] at hx
  have hx' : exec (S.l p).o (S.R p) (S.M p) = some (S.V p, S.M p) := by
    have := (exec_still heff hx).1
    rw [this] at hx; exact hx
  -- the same, at the memory ahead of, and behind, an operation of no order to this one
  have at_ : ∀ q, S.h ≤ q → q < S.n → (S.l q).o.eff = true → (S.B.getD (S.co p) 0).testBit (S.co q) = false → (S.B.getD (S.co q) 0).testBit (S.co p) = false → exec (S.l p).o (S.R p) (S.M q) = some (S.V p, S.M q) ∧ exec (S.l p).o (S.R p) (S.M (q + 1)) = some (S.V p, S.M (q + 1)) := by
    intro q h1 h2 h3 h4 h5
    obtain ⟨v, x, y, z, e1, e2, e3⟩ := S.reads p q hp h1 h2 hrd h3 h4 h5 hw
    rw [hx'] at e1
    simp only [Option.some.injEq, Prod.mk.injEq] at e1
    obtain ⟨rfl, _⟩ := e1
    have g2 := (exec_still heff e2).1
    have g3 := (exec_still heff e3).1
    subst g2; subst g3
    exact ⟨e2, e3⟩
  by_cases hcp : c ≤ p
  · -- the first operation between that may change memory
    by_cases hex : ∃ q, c ≤ q ∧ q < p ∧ (S.l q).o.eff = true
    · obtain ⟨q, ⟨h1, h2, h3⟩, hmin⟩ := exists_least hex
      have hq : S.h ≤ q := Nat.le_trans I.c1 h1
      have hqn : q < S.n := by omega
      have hM : S.M q = S.M c := S.still h1 (by omega) fun x x1 x2 => by
        cases he : (S.l x).o.eff with
        | false => rfl
        | true => have := hmin x ⟨x1, by omega, he⟩; omega
      have hnq : listed.getD (S.co q) false = false := by
        cases hh : listed.getD (S.co q) false with
        | false => rfl
        | true => have := (I.cut q hq hqn h3).1 hh; omega
      have b1 : (S.B.getD (S.co p) 0).testBit (S.co q) = false := by
        cases hh : (S.B.getD (S.co p) 0).testBit (S.co q) with
        | false => rfl
        | true => have := hpre _ (S.colt q hqn) hh; rw [hnq] at this; simp at this
      have b2 : (S.B.getD (S.co q) 0).testBit (S.co p) = false := by
        cases hh : (S.B.getD (S.co q) 0).testBit (S.co p) with
        | false => rfl
        | true =>
          have x1 := S.bitlt _ _ (S.colt q hqn) (S.colt p hp) hh
          have x2 := S.mono q p hq h2 hp
          omega
      rw [← hM]
      exact (at_ q hq hqn h3 b1 b2).1
    · have hM : S.M p = S.M c := S.still hcp (by omega) fun x x1 x2 => by
        cases he : (S.l x).o.eff with
        | false => rfl
        | true => exact absurd ⟨x, x1, x2, he⟩ hex
      rw [← hM]; exact hx'
  · -- the last operation between that may have changed memory
    by_cases hex : ∃ k, k ≤ c ∧ p ≤ c - 1 - k ∧ c - 1 - k < c ∧ (S.l (c - 1 - k)).o.eff = true
    · obtain ⟨k, ⟨h0, h1, h2, h3⟩, hmin⟩ := exists_least hex
      have hcn := I.c2
      have hM : S.M c = S.M (c - 1 - k + 1) := S.still (by omega) hcn fun x x1 x2 => by
        cases he : (S.l x).o.eff with
        | false => rfl
        | true =>
          have h6 : c - 1 - (c - 1 - x) = x := by omega
          have := hmin (c - 1 - x) ⟨by omega, by omega, by omega, by rw [h6]; exact he⟩
          omega
      generalize c - 1 - k = q at *
      have hqp : q ≠ p := fun e => by subst e; rw [heff] at h3; simp at h3
      have hq : S.h ≤ q := by omega
      have hqn : q < S.n := by omega
      have hlq : listed.getD (S.co q) false = true := (I.cut q hq hqn h3).2 h2
      have b1 : (S.B.getD (S.co p) 0).testBit (S.co q) = false := by
        cases hh : (S.B.getD (S.co p) 0).testBit (S.co q) with
        | false => rfl
        | true =>
          have x1 := S.bitlt _ _ (S.colt p hp) (S.colt q hqn) hh
          have x2 := S.mono p q hph (by omega) hqn
          omega
      have b2 : (S.B.getD (S.co q) 0).testBit (S.co p) = false := by
        cases hh : (S.B.getD (S.co q) 0).testBit (S.co p) with
        | false => rfl
        | true => have := I.closed _ _ (S.colt q hqn) (S.colt p hp) hlq hh; rw [hnl] at this; simp at this
      rw [hM]
      exact (at_ q hq hqn h3 b1 b2).2
    · have hM : S.M c = S.M p := S.still (by omega) I.c2 fun x x1 x2 => by
        cases he : (S.l x).o.eff with
        | false => rfl
        | true =>
          have h6 : c - 1 - (c - 1 - x) = x := by omega
          exact absurd ⟨c - 1 - x, by omega, by omega, by omega, by rw [h6]; exact he⟩ hex
      rw [hM]; exact hx'
theorem any_sound (S : Setting P E.G C) (hC : CallOk E P C) {ρ0 : Rho} {m0 : AMem} {ds : List Deferred} {Q : Exit → Act → World → Prop} {ro : Option Nat} {k0 : Nat} (hF0 : Fr ρ0 m0 ro ds) (hS : ∀ k, k ≤ S.n → Same (S.M k) m0) (hfin : ∀ ρ a w, VRL ρ (S.R S.n) a.tmps.toList → a.defers = ds → Rep E ρ (S.M S.n) w → Ext ρ0 m0 ρ (S.M S.n) → Q .normal a w) :
    ∀ (fuel : Nat) (listed : Array Bool) (ρ : Rho) (c : Nat) (a : Act) (w : World), Inv E S ρ0 m0 ds listed ρ c a w → left S.n listed = fuel → wpAnyIn (FR ro) k0 P .any S.ops Q fuel listed a w
  | 0, listed, ρ, c, a, w, I, hl => by
    have hall := none_left hl
    refine ⟨?_, ?_⟩
    · cases hr : Region.ready .any S.ops listed with
      | nil => rfl
      | cons i is =>
        have hi : i ∈ Region.ready .any S.ops listed := by rw [hr]; simp
        rw [mem_ready] at hi
        obtain ⟨h1, o, ho, _⟩ := hi
        have hin : i < S.n := by rw [S.hn]; exact (Array.getElem?_eq_some_iff.1 ho).1
        rw [getD_true_false I.size hin, hall i hin] at h1
        simp at h1
    · obtain ⟨h1, h2, h3, h4⟩ := S.final I hall
      exact hfin ρ a w h1 h2 h3 h4
  | fuel + 1, listed, ρ, c, a, w, I, hl => by
    refine ⟨fun hr => ?_, fun i hi => ?_⟩
    · obtain ⟨h1, h2, h3, h4⟩ := S.final I (ready_nil S I.size hr)
      exact hfin ρ a w h1 h2 h3 h4
    · rw [mem_ready] at hi
      obtain ⟨h1, o, ho, hpreds⟩ := hi
      have hin : i < S.n := by rw [S.hn]; exact (Array.getElem?_eq_some_iff.1 ho).1
      obtain ⟨p, hp, rfl⟩ := S.sur i hin
      have hnl : listed.getD (S.co p) false = false := by rw [← getD_true_false I.size hin]; exact h1
      have hio : S.ops.getD (S.co p) default = o := by
        have h5 := (Array.getElem?_eq_some_iff.1 ho)
        obtain ⟨h6, h7⟩ := h5
        simp [h6, h7]
      have hpre : ∀ j, j < S.n → (S.B.getD (S.co p) 0).testBit j = true → listed.getD j false = true := by
        intro j hj hb
        obtain ⟨e, he, hbind, hor⟩ := S.bit _ j hin hj hb
        rw [hio] at he
        have hle := hpreds e (by simpa using he) hbind
        rcases hor with rfl | hb2
        · exact hle
        · have hlow := S.low _ hin e (by rw [hio]; exact he) hbind
          exact I.closed e.on j (by omega) hj hle hb2
      obtain ⟨hslots, hins⟩ := step_at S I hp hnl hpre
      have hcomp := S.comp p hp
      rw [hio] at hcomp
      have hsize' : (listed.setIfInBounds (S.co p) true).size = S.n := by simp [I.size]
      have hleft := left_set I.size hin hnl
      have hset : ∀ q, q < S.n → (listed.setIfInBounds (S.co p) true).getD (S.co q) false = true → listed.getD (S.co q) false = true ∨ q = p := by
        intro q hq hh
        by_cases hqp : S.co p = S.co q
        · exact .inr (S.inj q p hq hp hqp.symm)
        · rw [getD_set_ne false hqp] at hh; exact .inl hh
      have hset2 : ∀ j, listed.getD j false = true → (listed.setIfInBounds (S.co p) true).getD j false = true := fun j hj => getD_set_true hj
      have hself : (listed.setIfInBounds (S.co p) true).getD (S.co p) false = true := by
        have : S.co p < listed.size := by rw [I.size]; exact hin
        simp [this]
      have hclosed' : ∀ i j, i < S.n → j < S.n → (listed.setIfInBounds (S.co p) true).getD i false = true → (S.B.getD i 0).testBit j = true → (listed.setIfInBounds (S.co p) true).getD j false = true := by
        intro i j hi hj hh hb
        by_cases hip : S.co p = i
        · subst hip; exact hset2 j (hpre j hj hb)
        · rw [getD_set_ne false hip] at hh
          exact hset2 j (I.closed i j hi hj hh hb)
      have hregs' : ∀ ρ' (a' : Act), VRL ρ' (setR (selR (S.R 0) S.d S.V (fun p => listed.getD (S.co p) false) S.n) (S.l p).d (S.V p)) a'.tmps.toList → VRL ρ' (selR (S.R 0) S.d S.V (fun q => (listed.setIfInBounds (S.co p) true).getD (S.co q) false) S.n) a'.tmps.toList := by
        intro ρ' a' hh
        have : selR (S.R 0) S.d S.V (fun q => (listed.setIfInBounds (S.co p) true).getD (S.co q) false) S.n = setR (selR (S.R 0) S.d S.V (fun p => listed.getD (S.co p) false) S.n) (S.l p).d (S.V p) := List.ext_getElem? hins
        rw [this]; exact hh
      -- once the step is known, the rest follows
      have go : ∀ (c' : Nat) (ρ' : Rho) (a' : Act) (w' : World), S.h ≤ c' → c' ≤ S.n → (∀ q, S.h ≤ q → q < S.n → (S.l q).o.eff = true → ((listed.setIfInBounds (S.co p) true).getD (S.co q) false = true ↔ q < c')) →
          VRL ρ' (setR (selR (S.R 0) S.d S.V (fun p => listed.getD (S.co p) false) S.n) (S.l p).d (S.V p)) a'.tmps.toList → a'.defers = a.defers → Rep E ρ' (S.M c') w' → Ext ρ0 m0 ρ' (S.M c') → m0.next + S.h ≤ (S.M c').next →
          (∀ q, q < S.h → (listed.setIfInBounds (S.co p) true).getD (S.co q) false = false → ρ' (m0.next + q) = none ∧ (S.M c').get (m0.next + q) = (S.M c).get (m0.next + q)) →
          wpAnyIn (FR ro) k0 P .any S.ops Q fuel (listed.setIfInBounds (S.co p) true) a' w' := by
        intro c' ρ' a' w' k1 k2 k3 k4 k5 k6 k7 k8 k9
        refine any_sound S hC hF0 hS hfin fuel _ ρ' c' a' w' ⟨hsize', hclosed', k1, k2, k3, hregs' ρ' a' k4, k5.trans I.defers, k6, k7, fun q hq hql => ?_, k8⟩ (by omega)
        obtain ⟨x1, x2⟩ := k9 q hq hql
        have hql' : listed.getD (S.co q) false = false := by
          cases hh : listed.getD (S.co q) false with
          | false => rfl
          | true => rw [hset2 _ hh] at hql; simp at hql
        obtain ⟨_, ty, z, y1, y2, y3⟩ := I.hst q hq hql'
        exact ⟨x1, ty, z, by rw [x2]; exact y1, y2, y3⟩
      unfold wpOpIn
      rw [ho]
      by_cases hph : p < S.h
      · -- a new variable, whose object was laid aside
        have hhoist := S.hoisted p hph
        rw [hio] at hhoist
        obtain ⟨hnone, ty, z, hget, hoz, hV⟩ := I.hst p hph hnl
        unfold hoistO at hhoist
        split at hhoist
        case h_2 => simp at hhoist
        rename_i t hop hgd
        have hz : zeroC P t = some z ∧ z.all AV.one = true ∧ (S.l p).d = o.dst ∧ ty = t := by
          unfold compOper at hcomp
          rw [hgd] at hcomp
          simp only [compG, compVO, hop, isCallOp, Bool.false_eq_true, if_false, compOp] at hcomp
          split at hcomp
          · rename_i g vo hg hvo
            simp only [Option.some.injEq] at hcomp
            split at hvo
            · rename_i vo' hvo'
              split at hvo'
              · rename_i z' hz'
                split at hvo'
                · rename_i hone
                  simp only [Option.some.injEq] at hvo'
                  subst hvo'
                  simp only [VO.isCall, Bool.false_eq_true, if_false, Option.some.injEq] at hvo
                  subst hvo
                  rw [← hcomp] at hoz
                  simp only [VO.alloc.injEq] at hoz
                  obtain ⟨q1, q2⟩ := hoz
                  subst q1; subst q2
                  exact ⟨hz', hone, by rw [← hcomp], rfl⟩
                · simp at hvo'
              · simp at hvo'
            · simp at hvo
          all_goals simp [isAlloc, hop] at hcomp
        obtain ⟨hz1, hz2, hz3, hz4⟩ := hz
        have hz5 := hz4.symm
        subst hz5
        obtain ⟨ti, zv, hi, hzv, hzc⟩ := zeroC_spec hz1
        have hw : Region.wanted o (yielded S.ops a.tmps) = true := by unfold Region.wanted; rw [hgd]
        simp only [hw, if_true]
        refine wpIn_of (by rw [hop]; intro c hc; cases hc) ?_
        have hrun : (execOp a.eval o).run P w = .ok (.value (.pointer (some ⟨w.heap.size, 0, none⟩))) { w with heap := w.heap.push (.cells zv.cells t (0, 0)) } := by
          simp [execOp, hop, Instr.alloc, run_zero hi hzv, newVar, newRow]
        rw [hrun]
        have hlt : m0.next + p < (S.M c).next := by have := I.nx; omega
        have hle : ρ.le (ρ.put (m0.next + p) ⟨w.heap.size, 0, 0⟩) := Rho.le_put hnone
        have hrep := I.rep.realize hlt hnone _ hget ⟨w.heap.size, 0, 0⟩ (.cells zv.cells t (0, 0)) (w' := { w with heap := w.heap.push (.cells zv.cells t (0, 0)) }) rfl rfl rfl rfl rfl
          ⟨by simpa using I.rep.base, zv.cells, t, (0, 0), by simp, by have := (hzc ρ).length; simp at this; simp; omega, fun k x hk => ⟨List.all_eq_true.1 hz2 x (List.mem_of_getElem? hk), by
            obtain ⟨u, hu, hr⟩ := (hzc (ρ.put (m0.next + p) ⟨w.heap.size, 0, 0⟩)).get k x hk
            exact ⟨u, by simpa using hu, hr⟩⟩, fun _ => .inl rfl, fun q hq => ⟨Option.some.inj hq, by simp⟩⟩
        refine go c _ _ _ I.c1 I.c2 (fun q h1 h2 h3 => ?_) ?_ (put_defers ..) hrep ?_ I.nx (fun q h1 h2 => ⟨?_, rfl⟩)
        · have hqp : q ≠ p := by omega
          rw [getD_set_ne false fun e => hqp (S.inj q p h2 hp e.symm)]
          exact I.cut q h1 h2 h3
        · rw [hz3, hV]
          exact (VRL.mono hle _ _ I.regs).put _ ⟨_, Rho.put_self _ _ _, by simp⟩
        · refine ⟨I.ext.le.trans hle, I.ext.next, fun j hj hr => ?_⟩
          obtain ⟨q1, q2⟩ := I.ext.keep j hj hr
          exact ⟨q1, by unfold Rho.put; rw [if_neg (by omega)]; exact q2⟩
        · have hqp : q ≠ p := by
            intro e; subst e; rw [hself] at h2; simp at h2
          have hql' : listed.getD (S.co q) false = false := by
            cases hh : listed.getD (S.co q) false with
            | false => rfl
            | true => rw [hset2 _ hh] at h2; simp at h2
          unfold Rho.put
          rw [if_neg (by omega)]
          exact (I.hst q h1 hql').1
      · -- any other operation
        have hph' : S.h ≤ p := by omega
        obtain ⟨_, hst2, hst3⟩ := S.stepV hp
        have hwants : wants (S.l p).g (selR (S.R 0) S.d S.V (fun p => listed.getD (S.co p) false) S.n) = wants (S.l p).g (S.R p) := by
          cases hg : (S.l p).g with
          | none => rfl
          | some g =>
            obtain ⟨t, b⟩ := g
            have := hslots t (by simp [VOper.slots, hg, gTm])
            simp only [wants, this]
        have hexec : ∀ mm, execC C (S.l p).o (selR (S.R 0) S.d S.V (fun p => listed.getD (S.co p) false) S.n) mm = execC C (S.l p).o (S.R p) mm := fun mm => execC_congr fun t ht => hslots t (by simp [VOper.slots, ht])
        -- where memory stands
        have hMc : (S.l p).o.eff = true → S.M c = S.M p ∧ c ≤ p := by
          intro heff
          have hcp : c ≤ p := by
            cases Nat.lt_or_ge p c with
            | inl hlt => have := (I.cut p hph' hp heff).2 hlt; rw [hnl] at this; simp at this
            | inr hge => exact hge
          refine ⟨(S.still hcp (by omega) fun q h1 h2 => ?_).symm, hcp⟩
          cases he : (S.l q).o.eff with
          | false => rfl
          | true =>
            have hq : S.h ≤ q := Nat.le_trans I.c1 h1
            have := (I.cut q hq (by omega) he).1 (hpre _ (S.colt q (by omega)) (S.effs q p hq h2 hp he heff))
            omega
        have fin : ∀ mm', stepO C (S.l p) (selR (S.R 0) S.d S.V (fun p => listed.getD (S.co p) false) S.n) (S.M c) = some (setR (selR (S.R 0) S.d S.V (fun p => listed.getD (S.co p) false) S.n) (S.l p).d (S.V p), mm') →
            (∃ c', S.h ≤ c' ∧ c' ≤ S.n ∧ S.M c' = mm' ∧ (∀ q, S.h ≤ q → q < S.n → (S.l q).o.eff = true → ((listed.setIfInBounds (S.co p) true).getD (S.co q) false = true ↔ q < c'))) →
            (if Region.wanted o (yielded S.ops a.tmps) then o.wpIn (FR ro) k0 P a w (wpAnyIn (FR ro) k0 P .any S.ops Q fuel (listed.setIfInBounds (S.co p) true)) Q else (∀ f, o.about P w a.eval = some f → (FR ro).fn f) ∧ wpAnyIn (FR ro) k0 P .any S.ops Q fuel (listed.setIfInBounds (S.co p) true) (a.put o.dst undef) w) := by
          intro mm' hs ⟨c', k1, k2, k3, k4⟩
          subst k3
          have hfr : Fr ρ (S.M c) ro a.defers := by rw [I.defers]; exact hF0.next I.ext.le (hS c I.c2)
          refine oper_sound hC hcomp hs I.regs I.rep hfr (fun ρ' a' w' g1 g2 g3 g4 => ?_)
          have g2' : a'.defers = a.defers := by
            have e1 := g2.ds
            rw [(hS c' k2).ds, ← (hS c I.c2).ds] at e1
            exact DefR.det g4.le hfr.ds e1
          refine go c' ρ' a' w' k1 k2 k4 g1 g2' g3 (I.ext.trans g4) (Nat.le_trans I.nx g4.next) fun q h1 h2 => ?_
          have hql' : listed.getD (S.co q) false = false := by
            cases hh : listed.getD (S.co q) false with
            | false => rfl
            | true => rw [hset2 _ hh] at h2; simp at h2
          obtain ⟨x1, _⟩ := I.hst q h1 hql'
          obtain ⟨y1, y2⟩ := g4.keep (m0.next + q) (by have := I.nx; omega) x1
          exact ⟨y2, y1⟩
        have same : (S.l p).o.eff = false → (∀ q, S.h ≤ q → q < S.n → (S.l q).o.eff = true → ((listed.setIfInBounds (S.co p) true).getD (S.co q) false = true ↔ q < c)) := by
          intro he q h1 h2 h3
          have hqp : q ≠ p := fun e => by subst e; rw [he] at h3; simp at h3
          rw [getD_set_ne false fun e => hqp (S.inj q p h2 hp e.symm)]
          exact I.cut q h1 h2 h3
        cases heff : (S.l p).o.eff with
        | true =>
          obtain ⟨hM, hcp⟩ := hMc heff
          refine fin (S.M (p + 1)) ?_ ⟨p + 1, by omega, by omega, rfl, fun q h1 h2 h3 => ?_⟩
          · unfold stepO
            rw [hwants, hexec, hM]
            cases hw : wants (S.l p).g (S.R p) with
            | true => simp [hst2 hw]
            | false => obtain ⟨q1, q2⟩ := hst3 hw; simp [q1, q2]
          · by_cases hqp : q = p
            · subst hqp; simp [hself]
            · rw [getD_set_ne false fun e => hqp (S.inj q p h2 hp e.symm)]
              constructor
              · intro hh
                have hn : ¬(p < q) := fun hlt => by
                  have := I.closed _ _ (S.colt q h2) hin hh (S.effs p q hph' hlt h2 heff h3)
                  rw [hnl] at this; simp at this
                omega
              · intro hlt
                exact hpre _ (S.colt q h2) (S.effs q p h1 (by omega) hp h3 heff)
        | false =>
          have hnc : (S.l p).o.isCall = false := by revert heff; cases (S.l p).o <;> simp [VO.eff, VO.isCall]
          refine fin (S.M c) ?_ ⟨c, I.c1, I.c2, rfl, same heff⟩
          unfold stepO
          rw [hwants, hexec]
          cases hw : wants (S.l p).g (S.R p) with
          | false => obtain ⟨q1, _⟩ := hst3 hw; simp [q1]
          | true =>
            rw [execC_plain hnc]
            cases hrd : (S.l p).o.rd with
            | true => simp [S.reads_at I hp hnl hpre hrd hw hph']
            | false =>
              have hx := hst2 hw
              rw [execC_plain hnc] at hx
              simp [(exec_still heff hx).2 hrd (S.M c)]
end
end Go.Vi
