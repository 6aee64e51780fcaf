/- The calculus W: where a guard isn't known, both ways. No condition. -/
import Derived.Test.YtjlckbphpmogjaaGreatDoorSfViBld
namespace Go.Vi
open Go.RowKit
set_option linter.unusedSimpArgs false
set_option linter.unusedVariables false

theorem one_s (x : ByteArray) : (AV.s x).one = true := rfl
theorem one_p (a : Option (Nat × Nat)) : (AV.p a).one = true := rfl
theorem one_sl (a : Option (Nat × Nat)) (l c : Nat) (e : Bool) : (AV.sl a l c e).one = true := rfl
theorem one_es : AV.es.one = true := rfl
theorem one_ni : AV.ni.one = true := rfl
theorem one_ifc (t : Nat) (v : AV) : (AV.ifc t v).one = true := rfl
theorem cells_s (x : ByteArray) : (AV.s x).cells = [.s x] := rfl
theorem cells_p (a : Option (Nat × Nat)) : (AV.p a).cells = [.p a] := rfl
theorem cells_sl (a : Option (Nat × Nat)) (l c : Nat) (e : Bool) : (AV.sl a l c e).cells = [.sl a l c e] := rfl
theorem cells_ni : AV.ni.cells = [.ni] := rfl
theorem cells_ifc (t : Nat) (v : AV) : (AV.ifc t v).cells = [.ifc t v] := rfl

def toB : AV → Bool
  | .b x => x
  | _ => false
theorem toB_b (x : Bool) : toB (.b x) = x := rfl

section
variable {T : Nat → VFn} {nt : Nat} {Q : (Nat → AV) → AMem → Prop} {K : List KI} {g : Nat → AV} {m : AMem}

theorem W_opgST {d : Option Nat} {t : Nat} {vo : VO} {l : List VOper} {hh : Hist} (hc : vo.isCall = false) (hd : dOk nt d = true) (hg : g t = .b (toB (g t))) (h1 : toB (g t) = true → Wo T nt Q (.o l (hh.push g m) :: K) g d (execE vo (X.at g) m)) (h2 : toB (g t) = false → W T nt Q (.o l (hh.push g m) :: K) (upd g d un) m) : W T nt Q (.o (⟨d, some (t, true), vo⟩ :: l) hh :: K) g m :=
  W_opg hc hd hg h1 (fun h => h2 (by simpa using h))

theorem W_opgSF {d : Option Nat} {t : Nat} {vo : VO} {l : List VOper} {hh : Hist} (hc : vo.isCall = false) (hd : dOk nt d = true) (hg : g t = .b (toB (g t))) (h2 : toB (g t) = true → W T nt Q (.o l (hh.push g m) :: K) (upd g d un) m) (h1 : toB (g t) = false → Wo T nt Q (.o l (hh.push g m) :: K) g d (execE vo (X.at g) m)) : W T nt Q (.o (⟨d, some (t, false), vo⟩ :: l) hh :: K) g m :=
  W_opg hc hd hg h1 (fun h => h2 (by simpa using h))

theorem W_callGT {d : Option Nat} {t : Nat} {f : Nat} {xs : List X} {args : List AV} {l : List VOper} {hh : Hist} {R : AV → AMem → Prop} (hd : dOk nt d = true) (hg : g t = .b (toB (g t))) (ha : xs.map (X.at g) = args) (hr : Vi.Call T f args m R)
    (h1 : toB (g t) = true → ∀ v m', R v m' → Same m' m → W T nt Q (.o l (hh.push g m) :: K) (upd g d v) m') (h2 : toB (g t) = false → W T nt Q (.o l (hh.push g m) :: K) (upd g d un) m) : W T nt Q (.o (⟨d, some (t, true), .call f xs⟩ :: l) hh :: K) g m :=
  W_callG hd hg ha (fun _ => hr) (fun v m' hc => h1 hc v m') (fun h => h2 (by simpa using h))

theorem W_callGF {d : Option Nat} {t : Nat} {f : Nat} {xs : List X} {args : List AV} {l : List VOper} {hh : Hist} {R : AV → AMem → Prop} (hd : dOk nt d = true) (hg : g t = .b (toB (g t))) (ha : xs.map (X.at g) = args) (hr : Vi.Call T f args m R)
    (h2 : toB (g t) = true → W T nt Q (.o l (hh.push g m) :: K) (upd g d un) m) (h1 : toB (g t) = false → ∀ v m', R v m' → Same m' m → W T nt Q (.o l (hh.push g m) :: K) (upd g d v) m') : W T nt Q (.o (⟨d, some (t, false), .call f xs⟩ :: l) hh :: K) g m :=
  W_callG hd hg ha (fun _ => hr) (fun v m' hc => h1 hc v m') (fun h => h2 (by simpa using h))

theorem W_opA {d : Option Nat} {vo : VO} {l : List VOper} {hh : Hist} (hc : vo.isCall = false) (_hb : (match vo with | .app .. => true | _ => false) = false) (hd : dOk nt d = true) (h : Wo T nt Q (.o l (hh.push g m) :: K) g d (execE vo (X.at g) m)) : W T nt Q (.o (⟨d, none, vo⟩ :: l) hh :: K) g m := W_op hc hd h

theorem W_callK {d : Option Nat} {t : Nat} {b : Bool} {f : Nat} {xs : List X} {args : List AV} {l : List VOper} {hh : Hist} {R : AV → AMem → Prop} (hd : dOk nt d = true) (hg : g t = .b b) (ha : xs.map (X.at g) = args) (hr : Vi.Call T f args m R)
    (h1 : ∀ v m', R v m' → Same m' m → W T nt Q (.o l (hh.push g m) :: K) (upd g d v) m') : W T nt Q (.o (⟨d, some (t, b), .call f xs⟩ :: l) hh :: K) g m :=
  W_callG hd hg ha (fun _ => hr) (fun v m' _ => h1 v m') (fun h => absurd rfl h)

theorem W_opgU {d : Option Nat} {t : Nat} {b : Bool} {vo : VO} {l : List VOper} {hh : Hist} (hd : dOk nt d = true) (hg : g t = un) (h2 : W T nt Q (.o l (hh.push g m) :: K) (upd g d un) m) : W T nt Q (.o (⟨d, some (t, b), vo⟩ :: l) hh :: K) g m := by
  obtain ⟨r', hr', hf⟩ := h2
  obtain ⟨r, hr0, rfl⟩ := Agree.unset (dOk_spec hd) hr'
  refine ⟨r, hr0, W_step (n := 0) hr0 ?_ hf⟩
  unfold stepO
  rw [if_neg (by simp only [wants, hr0.2 t, hg]; simp)]

theorem W_callN {d : Option Nat} {t : Nat} {b : Bool} {f : Nat} {xs : List X} {l : List VOper} {hh : Hist} (hd : dOk nt d = true) (hg : g t = .b (!b)) (h2 : W T nt Q (.o l (hh.push g m) :: K) (upd g d un) m) : W T nt Q (.o (⟨d, some (t, b), .call f xs⟩ :: l) hh :: K) g m := by
  obtain ⟨r', hr', hf⟩ := h2
  obtain ⟨r, hr0, rfl⟩ := Agree.unset (dOk_spec hd) hr'
  refine ⟨r, hr0, W_step (n := 0) hr0 ?_ hf⟩
  unfold stepO
  rw [if_neg (by simp only [wants, hr0.2 t, hg]; cases b <;> simp)]
end

theorem Arr.rdE {m : AMem} {e n : Nat} {av : AV} {l : List AV} (h : Arr m e av n l) {i : Nat} (hi : i < n) : ∃ j o cap ex, av = .sl (some (j, o)) n cap ex ∧ j < m.next ∧ rd m j (o + i * e) e = some ((l.drop (i * e)).take e) := by
  obtain ⟨j, o, cap, ex, c, wr, es, h1, h2, h3, h4, h5, _⟩ := h.at_ hi
  exact ⟨j, o, cap, ex, h1, h2, by simp only [rd, h3]; rw [if_pos h4, h5]⟩

theorem rd_new (m : AMem) (L : List AV) (wr : Bool) (es : ES) {n : Nat} (hn : L.length = n) : rd (m.new (.cells L wr es)) m.next 0 n = some L := by
  subst hn
  simp only [rd, AMem.get_new, if_true, Nat.zero_add, Nat.le_refl, List.drop_zero, List.take_length]

theorem rd_keep {m m' : AMem} {fp : List Nat} {j o n : Nat} {L : List AV} (h : rd m j o n = some L) (k : Keep m m' fp) (hj : j < m.next) (hn : j ∉ fp) : rd m' j o n = some L := by
  unfold rd at h ⊢
  rw [k.get j hj hn]; exact h

theorem mk_put (m : AMem) (L0 L : List AV) (wr wr2 : Bool) (es es2 : ES) (n : Nat) (hn : L.length = n) : ∃ mB : AMem, mB = (m.new (.cells L0 wr es)).put m.next (some (.cells L wr2 es2)) ∧ Keep m mB [] ∧ rd mB m.next 0 n = some L ∧ mB.get m.next = some (.cells L wr2 es2) ∧ mB.ds = m.ds ∧ mB.ro = m.ro ∧ m.next < mB.next := by
  have hg : ((m.new (.cells L0 wr es)).put m.next (some (.cells L wr2 es2))).get m.next = some (.cells L wr2 es2) := by rw [AMem.get_put, if_pos rfl]
  refine ⟨_, rfl, (Keep.new m _).trans (Keep.put _ _ _) (by intro i hi; simp at hi; right; omega), ?_, hg, rfl, rfl, by simp⟩
  subst hn
  simp only [rd, hg, Nat.zero_add, Nat.le_refl, if_true, List.drop_zero, List.take_length]

theorem mk_new (m : AMem) (L : List AV) (wr : Bool) (es : ES) (n : Nat) (hn : L.length = n) : ∃ mB : AMem, mB = m.new (.cells L wr es) ∧ Keep m mB [] ∧ rd mB m.next 0 n = some L ∧ mB.get m.next = some (.cells L wr es) ∧ mB.ds = m.ds ∧ mB.ro = m.ro ∧ m.next < mB.next :=
  ⟨_, rfl, Keep.new m _, rd_new m _ _ _ hn, by rw [AMem.get_new, if_pos rfl], rfl, rfl, by simp⟩

def isApp : VO → Bool
  | .app .. => true
  | _ => false

theorem inn_out (m : AMem) : m.inn.out m = m := rfl
end Go.Vi
