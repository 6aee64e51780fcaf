/- The calculus W: what stands beyond the registers; guarded calls; rows of bytes. No condition. -/
import Derived.Test.YtfbglgmhhmeoeaaGreatDoorWbViK2
namespace Go.Vi
open Go.RowKit
set_option linter.unusedSimpArgs false
set_option linter.unusedVariables false
section
variable {T : Nat → VFn} {nt : Nat} {Q : (Nat → AV) → AMem → Prop} {K : List KI} {g : Nat → AV} {m : AMem}
theorem upd_un {d : Option Nat} {v : AV} (h : ∀ i, nt ≤ i → g i = un) (hd : dOk nt d = true) : ∀ i, nt ≤ i → upd g d v i = un := by
  intro i hi
  cases d with
  | none => exact h i hi
  | some d =>
    have : d < nt := by simpa [dOk] using hd
    rw [upd_at, if_neg (by omega)]; exact h i hi
theorem args0_un {args : List AV} (h : args.length ≤ nt) : ∀ i, nt ≤ i → args0 args i = un := by
  intro i hi
  unfold args0
  rw [List.getD_eq_getElem?_getD, List.getElem?_eq_none (by omega)]; rfl
theorem W_opgT {d : Option Nat} {t : Nat} {b : Bool} {vo : VO} {l : List VOper} {hh : Hist} (hc : vo.isCall = false) (hd : dOk nt d = true) (hg : g t = .b b) (h : Wo T nt Q (.o l (hh.push g m) :: K) g d (execE vo (X.at g) m)) : W T nt Q (.o (⟨d, some (t, b), vo⟩ :: l) hh :: K) g m :=
  W_opg hc hd hg (fun _ => h) (fun hne => absurd rfl hne)
theorem W_opgF {d : Option Nat} {t : Nat} {b : Bool} {vo : VO} {l : List VOper} {hh : Hist} (hc : vo.isCall = false) (hd : dOk nt d = true) (hg : g t = .b (!b)) (h : W T nt Q (.o l (hh.push g m) :: K) (upd g d un) m) : W T nt Q (.o (⟨d, some (t, b), vo⟩ :: l) hh :: K) g m :=
  W_opg hc hd hg (fun e => by cases b <;> simp at e) (fun _ => h)
theorem W_callA {d : Option Nat} {f : Nat} {xs : List X} {args : List AV} {l : List VOper} {hh : Hist} {R : AV → AMem → Prop} (hd : dOk nt d = true) (ha : xs.map (X.at g) = args) (hr : Vi.Call T f args m R) (h : ∀ v m', R v m' → Same m' m → W T nt Q (.o l (hh.push g m) :: K) (upd g d v) m') : W T nt Q (.o (⟨d, none, .call f xs⟩ :: l) hh :: K) g m := by
  subst ha
  exact W_callR hd hr h
theorem W_getRet (hg : ∀ i, nt ≤ i → g i = un) (h : Q g m) : W T nt Q (.c .ret :: K) g m := W_ret (W_nil hg h)
end
def Bytes (m : AMem) : AV → List UInt8 → Prop
  | .sl none n _ _, l => n = 0 ∧ l = []
  | .es, l => l = []
  | .sl (some (j, o)) n _ _, l => n = l.length ∧ j < m.next ∧ ∃ c wr es, m.get j = some (.cells c wr es) ∧ o + n ≤ c.length ∧ (c.drop o).take n = cellsOfBytes l
  | _, _ => False
theorem Bytes.keep {m m' : AMem} {a : AV} {l : List UInt8} (h : Bytes m a l) (hn : m.next ≤ m'.next) (hk : ∀ i, i < m.next → m'.get i = m.get i) : Bytes m' a l := by
  unfold Bytes at h ⊢
  split at h
  · exact h
  · exact h
  · obtain ⟨h1, h2, c, wr, es, h3, h4⟩ := h
    exact ⟨h1, by omega, c, wr, es, by rw [hk _ h2]; exact h3, h4⟩
  · exact h.elim
theorem Bytes.len {m : AMem} {a : AV} {l : List UInt8} (h : Bytes m a l) (e : X → AV) (x : X) (hx : e x = a) (m2 : AMem) : execE (.len 1 x) e m2 = some (.i .i64 l.length, m2) := by
  unfold Bytes at h
  simp only [execE, hx]
  split at h
  · obtain ⟨rfl, rfl⟩ := h; rfl
  · subst h; rfl
  · obtain ⟨rfl, _⟩ := h; rfl
  · exact h.elim
theorem Bytes.at_ {m : AMem} {a : AV} {l : List UInt8} (h : Bytes m a l) {i : Nat} (hi : i < l.length) : ∃ j o n cap ex c wr es, a = .sl (some (j, o)) n cap ex ∧ n = l.length ∧ j < m.next ∧ m.get j = some (.cells c wr es) ∧ c[o + i]? = some (.i .u8 (l[i]'hi).toNat) := by
  unfold Bytes at h
  split at h
  · obtain ⟨_, rfl⟩ := h; simp at hi
  · subst h; simp at hi
  · rename_i j o n cap ex
    obtain ⟨h1, h2, c, wr, es, h3, h4, h5⟩ := h
    refine ⟨j, o, n, cap, ex, c, wr, es, rfl, h1, h2, h3, ?_⟩
    have h6 : ((c.drop o).take n)[i]? = (cellsOfBytes l)[i]? := by rw [h5]
    rw [List.getElem?_take, if_pos (by omega), List.getElem?_drop] at h6
    rw [h6]
    simp [cellsOfBytes, hi]
  · exact h.elim
end Go.Vi
namespace Go.Vi
open Go.RowKit
set_option linter.unusedSimpArgs false
set_option linter.unusedVariables false
def CallC (T : Nat → VFn) (c : Cl) (args : List AV) (m : AMem) (R : AV → AMem → Prop) : Prop := ∃ v m', (∃ n, ev T n c args m = some (v, m')) ∧ R v m'
section
variable {T : Nat → VFn} {nt : Nat} {Q : (Nat → AV) → AMem → Prop} {K : List KI} {g : Nat → AV} {m : AMem}
theorem CallC.mono {c : Cl} {args : List AV} {R R' : AV → AMem → Prop} (h : CallC T c args m R) (hr : ∀ v m', R v m' → Same m' m → R' v m') : CallC T c args m R' :=
  let ⟨v, m', ⟨n, h1⟩, h2⟩ := h; ⟨v, m', ⟨n, h1⟩, hr _ _ h2 (ev_same h1)⟩
theorem CallC.of_call {f : Nat} {args : List AV} {R : AV → AMem → Prop} {nt : Nat} {res : List VRes} {body : VC} (hf : T f = .go nt res body) (h : Vi.Call T f args m R) : CallC T (.it f) args m R := by
  obtain ⟨v, m', ⟨n, hn⟩, hr⟩ := h
  refine ⟨v, m', ⟨n, ?_⟩, hr⟩
  cases n with
  | zero => simp [ev, callF] at hn
  | succ n =>
    simp only [ev, callF, hf] at hn ⊢
    exact hn
def updMany (g : Nat → AV) : List Nat → List AV → Nat → AV
  | p :: ps, v :: vs => updMany (upd g (some p) v) ps vs
  | _, _ => g
theorem updMany_nil (g : Nat → AV) (vs : List AV) : updMany g [] vs = g := rfl
theorem updMany_cons (g : Nat → AV) (p : Nat) (ps : List Nat) (v : AV) (vs : List AV) : updMany g (p :: ps) (v :: vs) = updMany (upd g (some p) v) ps vs := rfl
theorem Agree.setMany {nt : Nat} : ∀ {ps : List Nat} {vs : List AV} {r : List AV} {g : Nat → AV}, Agree nt r g → (ps.all fun p => decide (p < nt)) = true → Agree nt (setMany r ps vs) (updMany g ps vs)
  | [], vs, r, g, h, _ => by cases vs <;> exact h
  | p :: ps, [], r, g, h, _ => h
  | p :: ps, v :: vs, r, g, h, hp => by
    simp only [List.all_cons, Bool.and_eq_true, decide_eq_true_eq] at hp
    show Agree nt (Vi.setMany (r.set p v) ps vs) (updMany (upd g (some p) v) ps vs)
    exact Agree.setMany (h.set (d := some p) (fun k hk => by simp only [Option.some.injEq] at hk; omega) v) hp.2
def RoundEnd (R : AV → AMem → Prop) (l : Nat) (m : AMem) (ex : Ex) (m2 : AMem) : Prop :=
  ∃ st pd r2 ps2 asg2 body2, m2.get l = some (.loop st pd r2 ps2 asg2 body2) ∧
    R (.b (jumpOf ex).isNone) { m2.put l (some (.loop (if (jumpOf ex).isNone then .ready else .done) (jumpOf ex) r2 ps2 asg2 body2)) with ds := m.ds, ro := m.ro }
theorem CallC.round {l i : Nat} {args : List AV} {R : AV → AMem → Prop} {r : List AV} {ps : List Nat} {asg body : VC} (hr : Agree nt r g) (hps : (ps.all fun p => decide (p < nt)) = true) (hl : m.get l = some (.loop .ready none r ps asg body)) (hlen : args.length = ps.length)
    (h : W T nt (fun _ _ => False) [.c asg, .j (fun g1 m1 => ∃ r' ps' asg' body', m1.get l = some (.loop .ready none r' ps' asg' body') ∧
      W T nt (fun _ m2 => RoundEnd R l m .ret m2) [.c body, .j (fun _ m2 => RoundEnd R l m .n m2), .b i, .j (fun _ m2 => RoundEnd R l m (.x i) m2)] g1 (m1.put l (some (.loop .busy none r' ps' asg' body'))))] (updMany g ps args) { m with ds := [], ro := some l }) : CallC T (.y l) args m R := by
  obtain ⟨r0, hr0, ⟨ex1, r1, m1⟩, ⟨n1, h1⟩, hf1⟩ := h
  obtain rfl : r0 = setMany r ps args := Agree.unique hr0 (hr.setMany hps)
  have hex1 : ex1 = .n := by
    cases ex1 with
    | n => rfl
    | x k => exact absurd hf1.1 (by simp)
    | ret => exact hf1.2.elim
  subst hex1
  obtain ⟨hlr, r', ps', asg', body', hg1, r2, hr2, ⟨ex2, r3, m2⟩, ⟨n2, h2⟩, hf2⟩ := hf1
  obtain rfl : r2 = r1 := Agree.unique hr2 (Agree.of hlr)
  have hend : RoundEnd R l m ex2 m2 := by
    cases ex2 with
    | n => exact hf2.2
    | x k =>
      simp only [FinL] at hf2
      split at hf2
      · rename_i hk; subst hk; exact hf2.2
      · exact absurd hf2.1 (by simp)
    | ret => exact hf2.2
  obtain ⟨st, pd, r4, ps4, asg4, body4, hg2, hR⟩ := hend
  refine ⟨_, _, ⟨max n1 n2 + 1, ?_⟩, hR⟩
  show callF runDraw T (max n1 n2 + 1) (.y l) args m = _
  have e1 := RunC.at h1 (Nat.le_max_left n1 n2)
  have e2 := RunC.at h2 (Nat.le_max_right n1 n2)
  simp only [callF, roundF, hl, if_pos hlen]
  simp only [ev] at e1 e2
  rw [e1]
  simp only [hg1]
  rw [e2]
  simp only [hg2]
def WE (T : Nat → VFn) (nt : Nat) (Q : (Nat → AV) → AMem → Prop) (K : List KI) (g : Nat → AV) : Option Ex → AMem → Prop
  | none, m => W T nt Q K g m
  | some .n, m => W T nt Q K g m
  | some .ret, m => W T nt Q (.c .ret :: K) g m
  | some (.x i), m => W T nt Q (.c (.exit i) :: K) g m
theorem W_rfnG {x : X} {ps : List Nat} {asg body : VC} {k : Nat} {first cap : List AV} (hun : ∀ i, nt ≤ i → g i = un) (hx : X.at g x = .f k first cap)
    (h : ∀ r, Agree nt r g → ∃ l m1 R, enterE m r ps asg body = some (l, m1) ∧ CallC T (.it k) (first ++ [.yl l] ++ cap) m1 R ∧
      ∀ v m2, R v m2 → Same m2 m1 → ∃ st pend r' ps' asg' body', m2.get l = some (.loop st pend r' ps' asg' body') ∧ st ≠ .busy ∧ WE T nt Q K g pend (m2.put l none)) : W T nt Q (.c (.rfn x ps asg body) :: K) g m := by
  have hr : Agree nt ((List.range nt).map g) g := Agree.mk' hun
  obtain ⟨l, m1, R, he, ⟨v, m2, ⟨n, hn⟩, hR⟩, hk⟩ := h _ hr
  obtain ⟨st, pend, r', ps', asg', body', hg, hst, hw⟩ := hk v m2 hR (ev_same hn)
  have hrun : RunC T (.rfn x ps asg body) ((List.range nt).map g) m (pend.getD .n, (List.range nt).map g, m2.put l none) := by
    refine ⟨n, ?_⟩
    simp only [run]
    rw [he, hr.ev, hx]
    simp only
    rw [hn]
    simp only [hg, if_neg hst]
  refine ⟨_, hr, _, hrun, ?_⟩
  cases pend with
  | none =>
    obtain ⟨r1, hr1, hf⟩ := hw
    rw [Agree.unique hr1 hr] at hf
    exact hf
  | some e =>
    cases e with
    | n =>
      obtain ⟨r1, hr1, hf⟩ := hw
      rw [Agree.unique hr1 hr] at hf
      exact hf
    | ret =>
      obtain ⟨r1, hr1, ⟨ex, r2, m3⟩, ⟨q, hq⟩, hf⟩ := hw
      rw [Agree.unique hr1 hr] at hq
      simp only [run, Option.some.injEq, Prod.mk.injEq] at hq
      obtain ⟨rfl, rfl, rfl⟩ := hq
      exact hf
    | x i =>
      obtain ⟨r1, hr1, ⟨ex, r2, m3⟩, ⟨q, hq⟩, hf⟩ := hw
      rw [Agree.unique hr1 hr] at hq
      simp only [run, Option.some.injEq, Prod.mk.injEq] at hq
      obtain ⟨rfl, rfl, rfl⟩ := hq
      exact hf
theorem W_rfn {x : X} {ps : List Nat} {asg body : VC} {k : Nat} {first cap : List AV} (R : AV → AMem → Prop) (hun : ∀ i, nt ≤ i → g i = un) (hx : X.at g x = .f k first cap) (hro : m.ro = none)
    (h : ∀ r, Agree nt r g → CallC T (.it k) (first ++ [.yl (m.next + 1)] ++ cap) { (m.new .dfr).new (.loop .ready none r ps asg body) with ds := m.next :: m.ds } R)
    (hk : ∀ v m2, R v m2 → m2.ds = m.next :: m.ds → m2.ro = none → ∃ st pend r' ps' asg' body', m2.get (m.next + 1) = some (.loop st pend r' ps' asg' body') ∧ st ≠ .busy ∧ WE T nt Q K g pend (m2.put (m.next + 1) none)) : W T nt Q (.c (.rfn x ps asg body) :: K) g m :=
  W_rfnG hun hx fun r hr => ⟨_, _, R, by simp only [enterE, hro], h r hr, fun v m2 h2 hs => hk v m2 h2 hs.ds (by rw [hs.ro]; exact hro)⟩
theorem W_cvY {d : Option Nat} {f : X} {j : Nat} {xs : List X} {args : List AV} {l : List VOper} {hh : Hist} {R : AV → AMem → Prop} (hd : dOk nt d = true) (hfv : X.at g f = .yl j) (ha : xs.map (X.at g) = args) (hr : CallC T (.y j) args m R) (h : ∀ v m', R v m' → Same m' m → W T nt Q (.o l (hh.push g m) :: K) (upd g d v) m') : W T nt Q (.o (⟨d, none, .cv f xs⟩ :: l) hh :: K) g m := by
  subst ha
  obtain ⟨v, m', ⟨n, hn⟩, hR⟩ := hr
  obtain ⟨r', hr', hf⟩ := h v m' hR (ev_same hn)
  obtain ⟨r, hra, rfl⟩ := Agree.unset (dOk_spec hd) hr'
  refine ⟨r, hra, W_step (n := n) hra ?_ hf⟩
  simp only [stepO, wants, if_true, execC]
  rw [hra.ev, hfv]
  simp only
  rw [hn]
  rfl
theorem W_cvR {d : Option Nat} {f : X} {k : Nat} {first cap : List AV} {xs : List X} {args : List AV} {l : List VOper} {hh : Hist} {R : AV → AMem → Prop} (hd : dOk nt d = true) (hfv : X.at g f = .f k first cap) (ha : first ++ xs.map (X.at g) ++ cap = args) (hr : Vi.Call T k args m R) (h : ∀ v m', R v m' → Same m' m → W T nt Q (.o l (hh.push g m) :: K) (upd g d v) m') : W T nt Q (.o (⟨d, none, .cv f xs⟩ :: l) hh :: K) g m := by
  subst ha
  obtain ⟨v, m', h1, h2⟩ := hr
  obtain ⟨n, hn⟩ := h1
  exact W_cv hd hfv ⟨n, hn⟩ (h v m' h2 (ev_same hn))
theorem W_callG {d : Option Nat} {t : Nat} {b c : Bool} {f : Nat} {xs : List X} {args : List AV} {l : List VOper} {hh : Hist} {R : AV → AMem → Prop} (hd : dOk nt d = true) (hg : g t = .b c) (ha : xs.map (X.at g) = args) (hr : c = b → Vi.Call T f args m R)
    (h1 : ∀ v m', c = b → R v m' → Same m' m → W T nt Q (.o l (hh.push g m) :: K) (upd g d v) m') (h2 : c ≠ b → W T nt Q (.o l (hh.push g m) :: K) (upd g d un) m) : W T nt Q (.o (⟨d, some (t, b), .call f xs⟩ :: l) hh :: K) g m := by
  subst ha
  by_cases hcb : c = b
  · obtain ⟨v, m', ⟨n, hn⟩, hR⟩ := hr hcb
    obtain ⟨r', hr', hf⟩ := h1 v m' hcb hR (ev_same hn)
    obtain ⟨r, hra, rfl⟩ := Agree.unset (dOk_spec hd) hr'
    refine ⟨r, hra, W_step (n := n) hra ?_ hf⟩
    unfold stepO
    rw [if_pos (by simp only [wants, hra.2 t, hg, hcb, beq_self_eq_true])]
    simp only [execC]
    rw [hra.ev, hn]
    rfl
  · obtain ⟨r', hr', hf⟩ := h2 hcb
    obtain ⟨r, hr0, rfl⟩ := Agree.unset (dOk_spec hd) hr'
    refine ⟨r, hr0, W_step (n := 0) hr0 ?_ hf⟩
    unfold stepO
    rw [if_neg (by simp only [wants, hr0.2 t, hg]; simpa using hcb)]
end
end Go.Vi
