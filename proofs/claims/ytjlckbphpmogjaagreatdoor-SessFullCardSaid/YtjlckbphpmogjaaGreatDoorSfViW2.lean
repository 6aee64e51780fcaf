/- The calculus W: what stands beyond the registers; guarded calls; rows of bytes. No condition. -/
import Derived.Test.YtjlckbphpmogjaaGreatDoorSfViK2
namespace Go.Vi
open Go.RowKit
set_option linter.unusedSimpArgs false
set_option linter.unusedVariables false

section
variable {T : Nat → VFn} {nt : Nat} {Q : (Nat → AV) → AMem → Prop} {K : List KI} {g : Nat → AV} {m : AMem}

theorem upd_un {d : Option Nat} {v : AV} (h : ∀ i, nt ≤ i → g i = un) (hd : dOk nt d = true) : ∀ i, nt ≤ i → upd g d v i = un := by
  intro i hi
  cases d with
  | none => exact h i hi
  | some d =>
    have : d < nt := by simpa [dOk] using hd
    rw [upd_at, if_neg (by omega)]; exact h i hi

theorem args0_un {args : List AV} (h : args.length ≤ nt) : ∀ i, nt ≤ i → args0 args i = un := by
  intro i hi
  unfold args0
  rw [List.getD_eq_getElem?_getD, List.getElem?_eq_none (by omega)]; rfl

theorem W_opgT {d : Option Nat} {t : Nat} {b : Bool} {vo : VO} {l : List VOper} {hh : Hist} (hc : vo.isCall = false) (hd : dOk nt d = true) (hg : g t = .b b) (h : Wo T nt Q (.o l (hh.push g m) :: K) g d (execE vo (X.at g) m)) : W T nt Q (.o (⟨d, some (t, b), vo⟩ :: l) hh :: K) g m :=
  W_opg hc hd hg (fun _ => h) (fun hne => absurd rfl hne)

theorem W_opgF {d : Option Nat} {t : Nat} {b : Bool} {vo : VO} {l : List VOper} {hh : Hist} (hc : vo.isCall = false) (hd : dOk nt d = true) (hg : g t = .b (!b)) (h : W T nt Q (.o l (hh.push g m) :: K) (upd g d un) m) : W T nt Q (.o (⟨d, some (t, b), vo⟩ :: l) hh :: K) g m :=
  W_opg hc hd hg (fun e => by cases b <;> simp at e) (fun _ => h)

theorem W_callA {d : Option Nat} {f : Nat} {xs : List X} {args : List AV} {l : List VOper} {hh : Hist} {R : AV → AMem → Prop} (hd : dOk nt d = true) (ha : xs.map (X.at g) = args) (hr : Vi.Call T f args m R) (h : ∀ v m', R v m' → Same m' m → W T nt Q (.o l (hh.push g m) :: K) (upd g d v) m') : W T nt Q (.o (⟨d, none, .call f xs⟩ :: l) hh :: K) g m := by
  subst ha
  exact W_callR hd hr h

theorem W_getRet (hg : ∀ i, nt ≤ i → g i = un) (h : Q g m) : W T nt Q (.c .ret :: K) g m := W_ret (W_nil hg h)
end

def Bytes (m : AMem) : AV → List UInt8 → Prop
  | .sl none n _ _, l => n = 0 ∧ l = []
  | .es, l => l = []
  | .sl (some (j, o)) n _ _, l => n = l.length ∧ j < m.next ∧ ∃ c wr es, m.get j = some (.cells c wr es) ∧ o + n ≤ c.length ∧ (c.drop o).take n = cellsOfBytes l
  | _, _ => False

theorem Bytes.keep {m m' : AMem} {a : AV} {l : List UInt8} (h : Bytes m a l) (hn : m.next ≤ m'.next) (hk : ∀ i, i < m.next → m'.get i = m.get i) : Bytes m' a l := by
  unfold Bytes at h ⊢
  split at h
  · exact h
  · exact h
  · obtain ⟨h1, h2, c, wr, es, h3, h4⟩ := h
    exact ⟨h1, by omega, c, wr, es, by rw [hk _ h2]; exact h3, h4⟩
  · exact h.elim

theorem Bytes.len {m : AMem} {a : AV} {l : List UInt8} (h : Bytes m a l) (e : X → AV) (x : X) (hx : e x = a) (m2 : AMem) : execE (.len 1 x) e m2 = some (.i .i64 l.length, m2) := by
  unfold Bytes at h
  simp only [execE, hx]
  split at h
  · obtain ⟨rfl, rfl⟩ := h; rfl
  · subst h; rfl
  · obtain ⟨rfl, _⟩ := h; rfl
  · exact h.elim

theorem Bytes.at_ {m : AMem} {a : AV} {l : List UInt8} (h : Bytes m a l) {i : Nat} (hi : i < l.length) : ∃ j o n cap ex c wr es, a = .sl (some (j, o)) n cap ex ∧ n = l.length ∧ j < m.next ∧ m.get j = some (.cells c wr es) ∧ c[o + i]? = some (.i .u8 (l[i]'hi).toNat) := by
  unfold Bytes at h
  split at h
  · obtain ⟨_, rfl⟩ := h; simp at hi
  · subst h; simp at hi
  · rename_i j o n cap ex
    obtain ⟨h1, h2, c, wr, es, h3, h4, h5⟩ := h
    refine ⟨j, o, n, cap, ex, c, wr, es, rfl, h1, h2, h3, ?_⟩
    have h6 : ((c.drop o).take n)[i]? = (cellsOfBytes l)[i]? := by rw [h5]
    rw [List.getElem?_take, if_pos (by omega), List.getElem?_drop] at h6
    rw [h6]
    simp [cellsOfBytes, hi]
  · exact h.elim

end Go.Vi
