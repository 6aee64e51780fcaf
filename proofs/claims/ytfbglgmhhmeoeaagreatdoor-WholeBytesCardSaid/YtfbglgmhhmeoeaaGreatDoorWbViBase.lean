/- The abstract values and the abstract memory of the interpreter Vi, and how they stand to the model's values and worlds. No condition. -/
import Derived.Orders
import Derived.Below
import Derived.Laws.Sem
import Derived.Laws.Entries
namespace Go.Vi
open Go.RowKit
set_option linter.unusedSimpArgs false
set_option linter.unusedVariables false
inductive AV where
 | b (x : Bool)
 | i (k : IntKind) (n : Int)
 | s (x : ByteArray)
 | p (a : Option (Nat × Nat))
 | sl (a : Option (Nat × Nat)) (len cap : Nat) (ex : Bool)
 | es
 | m (r : Option Nat)
 | f (fn : Nat) (first cap : List AV)
 | nf
 | ifc (t : Nat) (v : AV)
 | ni
 | agg (l : List AV)
 | tup (l : List AV)
 | yl (j : Nat)
 deriving Inhabited
abbrev un : AV := .tup []
structure Tgt where
 blk : Nat
 sh : Nat
 xt : Nat
abbrev Rho := Nat → Option Tgt
mutual
def VR (ρ : Rho) : AV → Value → Prop
 | .b x, v => v = .bool x
 | .i k n, v => v = .int k n
 | .s x, v => v = .string x
 | .p none, v => v = .pointer none
 | .p (some (j, o)), v => ∃ t, ρ j = some t ∧ v = .pointer (some ⟨t.blk, t.sh + o, none⟩)
 | .sl none l c _, v => v = .slice none l c
 | .sl (some (j, o)) l c ex, v => ∃ t, ρ j = some t ∧ v = .slice (some ⟨t.blk, t.sh + o, none⟩) l (if ex then c else c + t.xt)
 | .es, v => ∃ a c, v = .slice (some a) 0 c
 | .m none, v => v = .map none
 | .m (some j), v => ∃ t, ρ j = some t ∧ v = .map (some t.blk)
 | .f fn a c, v => ∃ a' c', v = .func (.func fn) a' c' ∧ VRL ρ a a'.toList ∧ VRL ρ c c'.toList
 | .nf, v => v = .nilFunc
 | .ifc t x, v => ∃ y, v = .iface t y ∧ VR ρ x y
 | .ni, v => v = .nilIface
 | .agg l, v => ∃ cs, v = .agg cs ∧ VRL ρ l cs.toList
 | .tup l, v => ∃ cs, v = .tuple cs ∧ VRL ρ l cs.toList
 | .yl j, v => ∃ t, ρ j = some t ∧ v = .func (.yield t.blk) #[] #[]
def VRL (ρ : Rho) : List AV → List Value → Prop
 | [], vs => vs = []
 | a :: l, vs => ∃ v vs', vs = v :: vs' ∧ VR ρ a v ∧ VRL ρ l vs'
end
def Rho.le (ρ ρ' : Rho) : Prop := ∀ j t, ρ j = some t → ρ' j = some t
theorem Rho.le_refl (ρ : Rho) : ρ.le ρ := fun _ _ h => h
theorem Rho.le.trans {a b c : Rho} (h : a.le b) (k : b.le c) : a.le c := fun _ _ x => k _ _ (h _ _ x)
mutual
theorem VR.mono {ρ ρ' : Rho} (h : ρ.le ρ') : ∀ (a : AV) (v : Value), VR ρ a v → VR ρ' a v
 | .b _, _, r | .i _ _, _, r | .s _, _, r | .p none, _, r | .sl none _ _ _, _, r | .es, _, r | .m none, _, r | .nf, _, r | .ni, _, r => by
   simpa [VR] using r
 | .p (some (_, _)), _, ⟨t, ht, e⟩ => ⟨t, h _ _ ht, e⟩
 | .sl (some (_, _)) _ _ _, _, ⟨t, ht, e⟩ => ⟨t, h _ _ ht, e⟩
 | .m (some _), _, ⟨t, ht, e⟩ => ⟨t, h _ _ ht, e⟩
 | .f _ a c, _, ⟨a', c', e, ha, hc⟩ => ⟨a', c', e, VRL.mono h a _ ha, VRL.mono h c _ hc⟩
 | .ifc _ x, _, ⟨y, e, hx⟩ => ⟨y, e, VR.mono h x y hx⟩
 | .agg l, _, ⟨cs, e, hl⟩ => ⟨cs, e, VRL.mono h l _ hl⟩
 | .tup l, _, ⟨cs, e, hl⟩ => ⟨cs, e, VRL.mono h l _ hl⟩
 | .yl _, _, ⟨t, ht, e⟩ => ⟨t, h _ _ ht, e⟩
theorem VRL.mono {ρ ρ' : Rho} (h : ρ.le ρ') : ∀ (l : List AV) (vs : List Value), VRL ρ l vs → VRL ρ' l vs
 | [], _, r => by simpa [VRL] using r
 | a :: l, _, ⟨v, vs', e, ha, hl⟩ => ⟨v, vs', e, VR.mono h a v ha, VRL.mono h l vs' hl⟩
end
theorem VRL.length {ρ : Rho} : ∀ {l : List AV} {vs : List Value}, VRL ρ l vs → l.length = vs.length
 | [], _, h => by simp only [VRL] at h; simp [h]
 | _ :: _, _, ⟨_, _, e, _, hl⟩ => by subst e; simp [VRL.length hl]
theorem VRL.get {ρ : Rho} : ∀ {l : List AV} {vs : List Value}, VRL ρ l vs → ∀ (k : Nat) (a : AV), l[k]? = some a → ∃ v, vs[k]? = some v ∧ VR ρ a v
 | [], _, _, _, _, hk => by simp at hk
 | x :: l, _, ⟨v, vs', e, ha, hl⟩, 0, a, hk => by subst e; simp at hk; subst hk; exact ⟨v, rfl, ha⟩
 | x :: l, _, ⟨v, vs', e, ha, hl⟩, k + 1, a, hk => by subst e; simpa using VRL.get hl k a (by simpa using hk)
theorem VRL.of_get {ρ : Rho} : ∀ {l : List AV} {vs : List Value}, l.length = vs.length → (∀ (k : Nat) (a : AV), l[k]? = some a → ∃ v, vs[k]? = some v ∧ VR ρ a v) → VRL ρ l vs
 | [], vs, hl, _ => by simp only [VRL]; exact List.eq_nil_of_length_eq_zero hl.symm
 | x :: l, [], hl, _ => by simp at hl
 | x :: l, v :: vs, hl, h => by
   obtain ⟨v', e, hv⟩ := h 0 x rfl
   simp at e; subst e
   exact ⟨v, vs, rfl, hv, VRL.of_get (by simpa using hl) fun k a hk => by simpa using h (k + 1) a (by simpa using hk)⟩
theorem VRL.append {ρ : Rho} : ∀ {l l' : List AV} {vs vs' : List Value}, VRL ρ l vs → VRL ρ l' vs' → VRL ρ (l ++ l') (vs ++ vs')
 | [], _, _, _, h, h' => by simp only [VRL] at h; subst h; simpa using h'
 | x :: l, _, _, _, ⟨v, vs', e, ha, hl⟩, h' => by subst e; exact ⟨v, _, rfl, ha, VRL.append hl h'⟩
theorem VRL.nil {ρ : Rho} : VRL ρ [] [] := by simp [VRL]
theorem VRL.one {ρ : Rho} {a : AV} {v : Value} (h : VR ρ a v) : VRL ρ [a] [v] := ⟨v, [], rfl, h, VRL.nil⟩
theorem VRL.take {ρ : Rho} {l : List AV} {vs : List Value} (h : VRL ρ l vs) (n : Nat) : VRL ρ (l.take n) (vs.take n) :=
 VRL.of_get (by simp [h.length]) fun k a hk => by
  rw [List.getElem?_take] at hk ⊢
  split at hk
  ·rw [if_pos (by assumption)]; exact h.get k a hk
  ·simp at hk
theorem VRL.drop {ρ : Rho} {l : List AV} {vs : List Value} (h : VRL ρ l vs) (n : Nat) : VRL ρ (l.drop n) (vs.drop n) :=
 VRL.of_get (by simp [h.length]) fun k a hk => by
  rw [List.getElem?_drop] at hk ⊢; exact h.get _ a hk
theorem VRL.set {ρ : Rho} {l : List AV} {vs : List Value} (h : VRL ρ l vs) (n : Nat) {a : AV} {v : Value} (hv : VR ρ a v) : VRL ρ (l.set n a) (vs.set n v) :=
 VRL.of_get (by simp [h.length]) fun k x hk => by
  rw [List.getElem?_set] at hk ⊢
  have hl := h.length
  split at hk
  ·rename_i e
   rw [if_pos e]
   split at hk
   ·rw [if_pos (by omega)]; simp at hk; subst hk; exact ⟨v, rfl, hv⟩
   ·simp at hk
  ·rename_i e
   rw [if_neg e]; exact h.get k x hk
def AV.one : AV → Bool
 | .agg _ | .tup _ => false
 | _ => true
theorem VR.one {ρ : Rho} {a : AV} {v : Value} (h : VR ρ a v) (ho : a.one = true) : v.oneCell' = true := by
 cases a <;> simp [AV.one] at ho
 all_goals (first
  | (simp only [VR] at h; subst h; rfl)
  | (rename_i x; cases x <;> simp only [VR] at h <;> first | (subst h; rfl) | (obtain ⟨_, _, h⟩ := h; subst h; rfl))
  | (obtain ⟨_, _, h, _⟩ := h; subst h; rfl)
  | (obtain ⟨_, _, h⟩ := h; subst h; rfl)
  | (rename_i x _ _ _; cases x <;> simp only [VR] at h <;> first | (subst h; rfl) | (obtain ⟨_, _, h⟩ := h; subst h; rfl))
  | (obtain ⟨_, h, _⟩ := h; subst h; rfl))
def AV.cells : AV → List AV
 | .agg l => l
 | v => [v]
theorem VR.cells {ρ : Rho} {a : AV} {v : Value} (h : VR ρ a v) (ht : ∀ l, a ≠ .tup l) : VRL ρ a.cells v.cells.toList := by
 by_cases ha : ∃ l, a = .agg l
 ·obtain ⟨l, rfl⟩ := ha
  obtain ⟨cs, rfl, hl⟩ := h
  exact hl
 ·have ho : a.one = true := by cases a <;> simp_all [AV.one]
  have h1 := h.one ho
  have e1 : a.cells = [a] := by cases a <;> simp_all [AV.cells]
  have e2 : v.cells = #[v] := by cases v <;> simp_all [Value.cells, Value.oneCell']
  rw [e1, e2]
  exact VRL.one h
structure ES where
 n : Nat
 ty : Option Nat
 deriving Inhabited, DecidableEq
instance : Coe Nat ES := ⟨fun n => ⟨n, none⟩⟩
def ES.grow (a b : ES) (o : Nat) : ES := ⟨b.n, if a = b ∧ o = 0 then b.ty else none⟩
inductive X where
 | t (n : Nat)
 | c (v : AV)
 deriving Inhabited
def X.ev (r : List AV) : X → AV
 | .t n => r.getD n un
 | .c v => v
inductive SK where
 | i | b | s
 deriving Inhabited, DecidableEq
inductive NK where
 | sl | m | f | p | i
 deriving Inhabited, DecidableEq
inductive VO where
 | mv (x : X)
 | pick (c a b : X)
 | alloc (ty : Nat) (z : List AV)
 | box (esz : Nat) (x : X)
 | build (z : List AV) (ps : List (Nat × Nat × X))
 | bsl (esz len : Nat) (z : List AV) (ps : List (Nat × Nat × X))
 | ld (x : X)
 | ldn (n : Nat) (x : X)
 | st (n : Nat) (a x : X)
 | nc (x : X)
 | bin (op : BinOp) (x y : X)
 | eqb (neg : Bool) (x y : X)
 | eqn (kd : NK) (neg : Bool) (x y : X)
 | eqa (neg : Bool) (ks : List (Nat × SK)) (x y : X)
 | eqp (neg : Bool) (x y : X)
 | un (op : UnOp) (x : X)
 | cvi (k : IntKind) (x : X)
 | cvs (x : X)
 | sbs (x : X)
 | fn (f : X) (first cap : List X)
 | fnc (f : Nat) (first cap : List X)
 | mks (esz bytes : Nat) (z : List AV) (l c : X)
 | slc (esz : Nat) (x : X) (lo hi mx : Option X)
 | sls (x : X) (lo hi : Option X)
 | sla (n esz : Nat) (x : X) (lo hi : Option X)
 | fa (off : Nat) (x : X)
 | fl (off : Nat) (n : Option Nat) (x : X)
 | ia (esz : Nat) (x i : X)
 | iaA (len esz : Nat) (x i : X)
 | ixs (x i : X)
 | ixA (len esz : Nat) (n : Option Nat) (x i : X)
 | ext (x : X) (k : Nat)
 | len (kd : Nat) (x : X)
 | lenA (n : Nat)
 | cap (x : X)
 | app (es : ES) (bytes : Nat) (s x : X)
 | cpy (esz : Nat) (d s : X)
 | clr (z : List AV) (x : X)
 | mn (xs : List X)
 | mx (xs : List X)
 | mkm
 | lkp (sk : SK) (z : AV) (ok : Bool) (m k : X)
 | mup (sk : SK) (m k v : X)
 | cvm (x : X)
 | mif (t : Nat) (x : X)
 | tas (t : Nat) (z : AV) (x : X)
 | rgs (x : X)
 | nxs (x : X)
 | i2s (x : X)
 | pcv (x : X)
 | pcu (u n : Nat) (x : X)
 | usd (x : X)
 | ustr (u : Nat) (p n : X)
 | bad
 | call (f : Nat) (args : List X)
 | cv (f : X) (args : List X)
 deriving Inhabited
structure VOper where
 d : Option Nat
 g : Option (Nat × Bool)
 o : VO
 deriving Inhabited
inductive VC where
 | skip
 | reg (l : List VOper)
 | regd (l : List VOper) (ck : List (Nat × Nat))
 | seq (a b : VC)
 | cond (x : X) (a b : VC)
 | blk (id : Nat) (b : VC)
 | loop (b : VC)
 | exit (id : Nat)
 | ret
 | rfn (x : X) (ps : List Nat) (asg body : VC)
 deriving Inhabited
inductive Ex where
 | n
 | x (id : Nat)
 | ret
 deriving Inhabited, DecidableEq
/-! ### The memory -/
inductive AObj where
 | cells (c : List AV) (wr : Bool) (esz : ES)
 | map (es : List (AV × AV))
 | loop (st : LoopState) (pend : Option Ex) (r : List AV) (ps : List Nat) (asg body : VC)
 | dfr
 | sit (s : ByteArray) (pos : Nat)
 deriving Inhabited
inductive Trie where
 | nil
 | node (v : Option AObj) (l r : Trie)
 deriving Inhabited
def path : Nat → Nat → List Bool
 | 0, _ => []
 | k + 1, n => if n = 0 then [] else (n % 2 == 1) :: path k (n / 2)
def Trie.getP : Trie → List Bool → Option AObj
 | .nil, _ => none
 | .node v _ _, [] => v
 | .node _ l _, false :: p => l.getP p
 | .node _ _ r, true :: p => r.getP p
def Trie.setP : List Bool → Option AObj → Trie → Trie
 | [], x, .nil => .node x .nil .nil
 | [], x, .node _ l r => .node x l r
 | false :: p, x, .nil => .node none (setP p x .nil) .nil
 | true :: p, x, .nil => .node none .nil (setP p x .nil)
 | false :: p, x, .node v l r => .node v (setP p x l) r
 | true :: p, x, .node v l r => .node v l (setP p x r)
theorem Trie.getP_nil (p : List Bool) : Trie.nil.getP p = none := by cases p <;> rfl
theorem Trie.getP_setP (x : Option AObj) : ∀ (p q : List Bool) (t : Trie), (Trie.setP p x t).getP q = if p = q then x else t.getP q
 | [], [], t => by cases t <;> simp [setP, getP]
 | [], b :: q, t => by cases t <;> cases b <;> simp [setP, getP]
 | a :: p, [], t => by cases t <;> cases a <;> simp [setP, getP]
 | a :: p, b :: q, t => by
   cases t <;> cases a <;> cases b <;> first | simp [setP, getP, Trie.getP_setP x p q] | simp [setP, getP, getP_nil, Trie.getP_setP x p q]
theorem path_inj : ∀ (k l n m : Nat), n ≤ k → m ≤ l → path k n = path l m → n = m
 | 0, l, n, m, hn, hm, h => by
   obtain rfl : n = 0 := by omega
   cases l with
   | zero => omega
   | succ l => simp only [path] at h; split at h <;> simp_all
 | k + 1, 0, n, m, hn, hm, h => by
   obtain rfl : m = 0 := by omega
   simp only [path] at h; split at h <;> simp_all
 | k + 1, l + 1, n, m, hn, hm, h => by
   simp only [path] at h
   split at h <;> split at h
   ·omega
   ·simp at h
   ·simp at h
   ·simp only [List.cons.injEq] at h
    have := path_inj k l (n / 2) (m / 2) (by omega) (by omega) h.2
    have h1 := h.1
    have h2 : n % 2 = m % 2 := by
     have e1 : n % 2 = 0 ∨ n % 2 = 1 := by omega
     have e2 : m % 2 = 0 ∨ m % 2 = 1 := by omega
     rcases e1 with e1 | e1 <;> rcases e2 with e2 | e2 <;> simp_all
    omega
structure AMem where
 next : Nat
 t : Trie
 ds : List Nat := []
 ro : Option Nat := none
 deriving Inhabited
def AMem.get (m : AMem) (j : Nat) : Option AObj := m.t.getP (path j j)
def AMem.put (m : AMem) (j : Nat) (x : Option AObj) : AMem := { m with t := m.t.setP (path j j) x }
def AMem.new (m : AMem) (x : AObj) : AMem := { m with next := m.next + 1, t := m.t.setP (path m.next m.next) (some x) }
@[simp] theorem AMem.ro_put (m : AMem) (j : Nat) (x : Option AObj) : (m.put j x).ro = m.ro := rfl
@[simp] theorem AMem.ro_new (m : AMem) (x : AObj) : (m.new x).ro = m.ro := rfl
@[simp] theorem AMem.ds_put (m : AMem) (j : Nat) (x : Option AObj) : (m.put j x).ds = m.ds := rfl
@[simp] theorem AMem.ds_new (m : AMem) (x : AObj) : (m.new x).ds = m.ds := rfl
theorem AMem.get_put (m : AMem) (j k : Nat) (x : Option AObj) : (m.put j x).get k = if j = k then x else m.get k := by
 unfold AMem.get AMem.put
 rw [Trie.getP_setP]
 by_cases h : j = k
 ·subst h; simp
 ·rw [if_neg h, if_neg (fun e => h (path_inj _ _ _ _ (Nat.le_refl _) (Nat.le_refl _) e))]
theorem AMem.get_new (m : AMem) (k : Nat) (x : AObj) : (m.new x).get k = if m.next = k then some x else m.get k := by
 unfold AMem.get AMem.new
 rw [Trie.getP_setP]
 by_cases h : m.next = k
 ·subst h; simp
 ·rw [if_neg h, if_neg (fun e => h (path_inj _ _ _ _ (Nat.le_refl _) (Nat.le_refl _) e))]
@[simp] theorem AMem.next_put (m : AMem) (j : Nat) (x : Option AObj) : (m.put j x).next = m.next := rfl
@[simp] theorem AMem.next_new (m : AMem) (x : AObj) : (m.new x).next = m.next + 1 := rfl
structure Env where
 B : Nat
 W : World
 G : Nat
 cd : Code → VC → Prop
structure CellsAt (E : Env) (ρ : Rho) (w : World) (t : Tgt) (c : List AV) (wr : Bool) (esz : ES) : Prop where
 own : if wr then E.B ≤ t.blk else t.blk < E.B
 row : ∃ arr e fz, w.heap[t.blk]? = some (.cells arr e fz) ∧ t.sh + c.length + t.xt * esz.n ≤ arr.size ∧
  (∀ k a, c[k]? = some a → a.one = true ∧ ∃ v, arr[t.sh + k]? = some v ∧ VR ρ a v) ∧
  (wr = true → fz.1 = fz.2 ∨ arr.size ≤ fz.1) ∧ (∀ q, esz.ty = some q → e = q ∧ t.sh % esz.n = 0)
def PendR : Option Ex → Option Code → Prop
 | none, none => True
 | some .ret, some .ret => True
 | some (.x id), some (.exit i) => id = i
 | _, _ => False
def ObjAt (E : Env) (ρ : Rho) (w : World) (t : Tgt) : AObj → Prop
 | .cells c wr esz => CellsAt E ρ w t c wr esz
 | .map es => E.B ≤ t.blk ∧ ∃ ents clock, w.heap[t.blk]? = some (.map ents clock) ∧
    VRL ρ (es.map (·.1)) (ents.toList.map (·.key)) ∧ VRL ρ (es.map (·.2)) (ents.toList.map (·.val))
 | .loop st pend r ps asg body => E.B ≤ t.blk ∧ ∃ L : Loop, w.heap[t.blk]? = some (.loop L) ∧ L.state = st ∧ PendR pend L.pending ∧ VRL ρ r L.tmps.toList ∧ L.params.toList = ps ∧ E.cd L.assign asg ∧ E.cd L.body body
 | .dfr => E.B ≤ t.blk ∧ w.heap[t.blk]? = some (.deferred (some []))
 | .sit s pos => E.B ≤ t.blk ∧ t.sh = 0 ∧ w.heap[t.blk]? = some (.stringIter s pos)
def AObj.wr : AObj → Bool
 | .cells _ w _ => w
 | .map _ => true
 | .loop .. => true
 | .dfr => true
 | .sit .. => true
structure Rep (E : Env) (ρ : Rho) (m : AMem) (w : World) : Prop where
 base : E.B ≤ w.heap.size
 below : Below E.B E.W w
 glob : ∀ g, g < E.G → ρ g = some ⟨g, 0, 0⟩
 next : E.G ≤ m.next
 fresh : ∀ j, m.next ≤ j → ρ j = none ∧ m.get j = none
 objs : ∀ j o t, m.get j = some o → ρ j = some t → ObjAt E ρ w t o
 apart : ∀ i j o o' t t', i ≠ j → m.get i = some o → m.get j = some o' → o.wr = true → o'.wr = true → ρ i = some t → ρ j = some t' → t.blk ≠ t'.blk
structure Ext (ρ : Rho) (m : AMem) (ρ' : Rho) (m' : AMem) : Prop where
 le : ρ.le ρ'
 next : m.next ≤ m'.next
 keep : ∀ j, j < m.next → ρ j = none → m'.get j = m.get j ∧ ρ' j = none
theorem Ext.refl (ρ : Rho) (m : AMem) : Ext ρ m ρ m := ⟨Rho.le_refl ρ, Nat.le_refl _, fun _ _ h => ⟨rfl, h⟩⟩
theorem Ext.trans {ρ ρ1 ρ2 : Rho} {m m1 m2 : AMem} (h : Ext ρ m ρ1 m1) (k : Ext ρ1 m1 ρ2 m2) : Ext ρ m ρ2 m2 :=
 ⟨h.le.trans k.le, Nat.le_trans h.next k.next, fun j hj hr => by
  obtain ⟨e1, r1⟩ := h.keep j hj hr
  obtain ⟨e2, r2⟩ := k.keep j (Nat.lt_of_lt_of_le hj h.next) r1
  exact ⟨e2.trans e1, r2⟩⟩
end Go.Vi
