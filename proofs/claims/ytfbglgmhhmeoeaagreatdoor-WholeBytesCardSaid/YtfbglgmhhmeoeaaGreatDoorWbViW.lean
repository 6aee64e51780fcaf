/- A calculus over the interpreter Vi: registers as functions, code as a stack of what is still to do. No condition. -/
import Derived.Test.YtfbglgmhhmeoeaaGreatDoorWbViDraw4
namespace Go.Vi
open Go.RowKit
set_option linter.unusedSimpArgs false
set_option linter.unusedVariables false
def fillX (e : X → AV) : List (Nat × Nat × X) → List AV → Option (List AV)
  | [], c => some c
  | (o, n, x) :: ps, c =>
    if (e x).cells.length = n ∧ o + n ≤ c.length ∧ (e x).cells.all AV.one = true then fillX e ps (splice c o (e x).cells) else none
def boundsX (e : X → AV) (len cap : Nat) (lo hi mx : Option X) : Option (Nat × Nat × Nat) :=
  match (match mx with | some x => boundE (e x) cap | none => some cap) with
  | none => none
  | some m =>
    match (match hi with | some x => boundE (e x) m | none => if mx.isSome then none else some len) with
    | none => none
    | some h =>
      match (match lo with | some x => boundE (e x) h | none => some 0) with
      | none => none
      | some l => some (l, h, m)
def execE (o : VO) (e : X → AV) (m : AMem) : Option (AV × AMem) :=
  match o with
  | .mv x => some (e x, m)
  | .pick c a b => match e c with
    | .b t => some (if t then e a else e b, m)
    | _ => none
  | .alloc ty z => some (.p (some (m.next, 0)), m.new (.cells z true ⟨z.length, some ty⟩))
  | .box esz x => if (e x).cells.all AV.one then some (.p (some (m.next, 0)), m.new (.cells (e x).cells true esz)) else none
  | .build z ps => (fillX e ps z).map fun c => (.agg c, m)
  | .bsl esz len z ps => (fillX e ps z).map fun c => (.sl (some (m.next, 0)) len len true, m.new (.cells c true esz))
  | .ld x => match e x with
    | .p (some (j, o)) => match m.get j with
      | some (.cells c _ _) => (c[o]?).map (·, m)
      | _ => none
    | _ => none
  | .ldn n x => match e x with
    | .p (some (j, o)) => (rd m j o n).map fun c => (.agg c, m)
    | _ => none
  | .st n a x => match e a with
    | .p (some (j, o)) => match m.get j with
      | some (.cells c wr es) =>
        if (e x).cells.length = n ∧ (e x).cells.all AV.one = true ∧ wr = true ∧ o + n ≤ c.length then some (un, m.put j (some (.cells (splice c o (e x).cells) wr es))) else none
      | _ => none
    | _ => none
  | .nc x => match e x with
    | .p none | .ni | .nf | .agg _ | .tup _ => none
    | v => some (v, m)
  | .bin op x y => (binE op (e x) (e y)).map (·, m)
  | .eqb neg x y => match e x, e y with
    | .b a, .b c => some (.b (if neg then !(a == c) else a == c), m)
    | _, _ => none
  | .eqn kd neg x y => match isNil kd (e x), isNil kd (e y) with
    | some a, some c => if a || c then some (.b (if neg then !(a == c) else a == c), m) else none
    | _, _ => none
  | .eqa neg ks x y => match e x, e y with
    | .agg a, .agg c => (eqCells a c ks).map fun q => (.b (if neg then !q else q), m)
    | _, _ => none
  | .eqp neg x y => match e x, e y with
    | .p (some (j, o)), .p (some (k, q)) => if j = k then some (.b (if neg then !(o == q) else o == q), m) else none
    | _, _ => none
  | .un op x => (unE op (e x)).map (·, m)
  | .cvi k x => match e x with
    | .i _ n => some (.i k (k.wrap n), m)
    | _ => none
  | .cvs x => match e x with
    | .sl none _ _ _ => some (.s .empty, m)
    | .es => some (.s .empty, m)
    | .sl (some (j, o)) n _ _ => match rd m j o n with
      | some c => (bytesOfCells c).map fun l => (.s ⟨l.toArray⟩, m)
      | none => none
    | _ => none
  | .sbs x => match e x with
    | .s x => some (.sl (some (m.next, 0)) x.size x.size false, m.new (.cells (cellsOfBytes x.data.toList) true ⟨1, none⟩))
    | _ => none
  | .fn f first cap => match e f with
    | .f g [] [] => some (.f g (first.map e) (cap.map e), m)
    | _ => none
  | .fnc g first cap => some (.f g (first.map e) (cap.map e), m)
  | .mks esz bytes z l c => match e l, e c with
    | .i .i64 a, .i .i64 b =>
      if 0 ≤ a ∧ a ≤ b ∧ b * bytes ≤ 140737488355328 ∧ b ≤ 9223372036854775807 then some (.sl (some (m.next, 0)) a.toNat b.toNat true, m.new (.cells ((List.range (b.toNat * esz)).map fun k => z.getD (k % esz) un) true esz)) else none
    | _, _ => none
  | .slc esz x lo hi mx => match e x with
    | .sl a len cap ex => match boundsX e len cap lo hi mx with
      | some (l, h, k) => match a with
        | none => some (.sl none (h - l) (k - l) true, m)
        | some (j, o) =>
          if ex || mx.isSome then some (.sl (some (j, if k = l then o else o + l * esz)) (h - l) (k - l) true, m)
          else if l < k then some (.sl (some (j, o + l * esz)) (h - l) (k - l) false, m)
          else if l = 0 then some (.sl (some (j, o)) (h - l) (k - l) false, m)
          else if h ≤ l then some (.es, m) else none
      | none => none
    | .es => match boundsX e 0 0 lo hi mx with
      | some (_, h, _) => if mx.isSome = false ∧ h = 0 then some (.es, m) else none
      | none => none
    | _ => none
  | .sls x lo hi => match e x with
    | .s b => match boundsX e b.size b.size lo hi none with
      | some (l, h, _) => some (.s (b.extract l h), m)
      | none => none
    | _ => none
  | .sla n esz x lo hi => match e x with
    | .p (some (j, o)) => match boundsX e n n lo hi none with
      | some (l, h, k) => some (.sl (some (j, if k = l then o else o + l * esz)) (h - l) (k - l) true, m)
      | none => none
    | _ => none
  | .fa off x => match e x with
    | .p (some (j, o)) => some (.p (some (j, o + off)), m)
    | _ => none
  | .fl off n x => match e x with
    | .agg l => match n with
      | some k => some (.agg ((l.drop off).take k), m)
      | none => (l[off]?).map (·, m)
    | _ => none
  | .ia esz x i => match e x, e i with
    | .sl (some (j, o)) len _ _, .i _ k => if 0 ≤ k ∧ k < len then some (.p (some (j, o + k.toNat * esz)), m) else none
    | _, _ => none
  | .iaA len esz x i => match e x, e i with
    | .p (some (j, o)), .i _ k => if 0 ≤ k ∧ k < len then some (.p (some (j, o + k.toNat * esz)), m) else none
    | _, _ => none
  | .ixs x i => match e x, e i with
    | .s b, .i _ k => if 0 ≤ k then (b.data.toList[k.toNat]?).map fun c => (.i .u8 c.toNat, m) else none
    | _, _ => none
  | .ixA len esz n x i => match e x, e i with
    | .agg l, .i _ k => if 0 ≤ k ∧ k < len then (match n with
      | some q => some (.agg ((l.drop (k.toNat * esz)).take q), m)
      | none => (l[k.toNat * esz]?).map (·, m)) else none
    | _, _ => none
  | .ext x k => match e x with
    | .tup l => (l[k]?).map (·, m)
    | _ => none
  | .len kd x => match kd, e x with
    | 0, .s b => some (.i .i64 b.size, m)
    | 1, .sl _ n _ _ => some (.i .i64 n, m)
    | 1, .es => some (.i .i64 0, m)
    | 2, .m none => some (.i .i64 0, m)
    | 2, .m (some j) => match m.get j with
      | some (.map es) => some (.i .i64 es.length, m)
      | _ => none
    | _, _ => none
  | .lenA n => some (.i .i64 n, m)
  | .cap x => match e x with
    | .sl none _ c _ => some (.i .i64 c, m)
    | .sl (some _) _ c true => some (.i .i64 c, m)
    | _ => none
  | .app es bytes s x => match srcE m es.n (e x) with
    | some (new, n) => if new.all AV.one then appE m es bytes (e s) new n else none
    | none => none
  | .cpy esz d s => match srcE m esz (e s) with
    | some (new, n) => match e d with
      | .sl none len _ _ => some (.i .i64 (min n len : Nat), m)
      | .es => some (.i .i64 0, m)
      | .sl (some (j, o)) len _ _ => match m.get j with
        | some (.cells c wr es) =>
          if (new.take (min n len * esz)).all AV.one = true ∧ (min n len = 0 ∨ wr = true) ∧ o + (new.take (min n len * esz)).length ≤ c.length then
            some (.i .i64 (min n len : Nat), if min n len = 0 then m else m.put j (some (.cells (splice c o (new.take (min n len * esz))) wr es))) else none
        | _ => none
      | _ => none
    | none => none
  | .clr z x => match e x with
    | .sl none _ _ _ => some (un, m)
    | .sl (some _) 0 _ _ => some (un, m)
    | .es => some (un, m)
    | .sl (some (j, o)) (n + 1) _ _ => match m.get j with
      | some (.cells c true es) =>
        if o + (n + 1) * z.length ≤ c.length then some (un, m.put j (some (.cells (splice c o ((List.range ((n + 1) * z.length)).map fun k => z.getD (k % z.length) un)) true es))) else none
      | _ => none
    | _ => none
  | .mn xs => match xs.map e with
    | a :: l => (minE l a).map (·, m)
    | [] => none
  | .mx xs => match xs.map e with
    | a :: l => (maxE l a).map (·, m)
    | [] => none
  | .mkm => some (.m (some m.next), m.new (.map []))
  | .lkp sk z ok mm k => match e mm with
    | .m none => some (if ok then .tup [z, .b false] else z, m)
    | .m (some j) => match m.get j with
      | some (.map es) => match findE sk (e k) es 0 with
        | some (some (_, v)) => some (if ok then .tup [v, .b true] else v, m)
        | some none => some (if ok then .tup [z, .b false] else z, m)
        | none => none
      | _ => none
    | _ => none
  | .mup sk mm k v => match e mm with
    | .m (some j) => match m.get j with
      | some (.map es) => match findE sk (e k) es 0 with
        | some (some (i, _)) => some (un, m.put j (some (.map (es.set i (e k, e v)))))
        | some none => some (un, m.put j (some (.map (es ++ [(e k, e v)]))))
        | none => none
      | _ => none
    | _ => none
  | .cvm x => match e x with
    | .sl (some (j, o)) len cap ex => match m.get j with
      | some (.cells _ true _) => some (.sl (some (j, o)) len cap ex, m)
      | _ => none
    | _ => none
  | .mif t x => some (.ifc t (e x), m)
  | .rgs x => match e x with
    | .s s => some (.p (some (m.next, 0)), m.new (.sit s 0))
    | _ => none
  | .nxs x => match e x with
    | .p (some (j, o)) => match m.get j with
      | some (.sit s pos) => if o = 0 then (if pos < s.size then some (.tup [.b true, .i .i64 pos, .i .i32 (Utf8.decode s pos).1], m.put j (some (.sit s (pos + (Utf8.decode s pos).2)))) else some (.tup [.b false], m)) else none
      | _ => none
    | _ => none
  | .tas t z x => match e x with
    | .ifc u v => if u = t then some (.tup [v, .b true], m) else some (.tup [z, .b false], m)
    | .ni => some (.tup [z, .b false], m)
    | _ => none
  | .pcv x => match e x with
    | .p none => some (.p none, m)
    | .p (some (j, o)) => match m.get j with
      | some (.cells c _ _) => if o < c.length then some (.p (some (j, o)), m) else none
      | _ => none
    | _ => none
  | .pcu u n x => match e x with
    | .p none => some (.p none, m)
    | .p (some (j, o)) => match m.get j with
      | some (.cells c _ es) => if es.ty = some u ∧ es.n = n ∧ o = 0 ∧ n ≤ c.length then some (.p (some (j, o)), m) else none
      | _ => none
    | _ => none
  | .usd x => match e x with
    | .sl none _ _ _ => some (.p none, m)
    | .sl (some (j, o)) _ c _ => if c = 0 then none else some (.p (some (j, o)), m)
    | _ => none
  | .ustr u p n => match e p, e n with
    | .p none, .i _ k => if k = 0 then some (.s .empty, m) else none
    | .p (some (j, o)), .i _ k => if k = 0 then some (.s .empty, m) else
      if k < 0 ∨ 9223372036854775807 < k then none else
      match m.get j with
      | some (.cells c true es) => if es.ty = some u ∧ o + k.toNat ≤ c.length then (bytesOfCells ((c.drop o).take k.toNat)).map fun l => (.s ⟨l.toArray⟩, m.put j none) else none
      | _ => none
    | _, _ => none
  | .i2s x => match e x with
    | .i _ n => some (.s (Utf8.encode n), m)
    | _ => none
  | .bad => none
  | .call .. | .cv .. => none
theorem fillX_eq (r : List AV) : ∀ (ps : List (Nat × Nat × X)) (c : List AV), fillX (X.ev r) ps c = fillE r ps c
  | [], c => rfl
  | (o, n, x) :: ps, c => by simp only [fillX, fillE, fillX_eq r ps]
theorem execE_eq (o : VO) (r : List AV) (m : AMem) : exec o r m = execE o (X.ev r) m := by
  cases o <;> first | rfl | (simp only [exec, execE, fillX_eq]; done)
def X.at (g : Nat → AV) : X → AV
  | .t n => g n
  | .c v => v
def upd (g : Nat → AV) (d : Option Nat) (v : AV) : Nat → AV :=
  match d with
  | some d => fun j => if j = d then v else g j
  | none => g
theorem at_t (g : Nat → AV) (n : Nat) : X.at g (.t n) = g n := rfl
theorem at_c (g : Nat → AV) (v : AV) : X.at g (.c v) = v := rfl
theorem upd_none (g : Nat → AV) (v : AV) : upd g none v = g := rfl
theorem upd_at (g : Nat → AV) (d : Nat) (v : AV) (j : Nat) : upd g (some d) v j = if j = d then v else g j := rfl
def Agree (nt : Nat) (r : List AV) (g : Nat → AV) : Prop := r.length = nt ∧ ∀ i, r.getD i un = g i
theorem Agree.ev {nt : Nat} {r : List AV} {g : Nat → AV} (h : Agree nt r g) : X.ev r = X.at g := by
  funext x
  cases x with
  | t n => exact h.2 n
  | c v => rfl
theorem Agree.set {nt : Nat} {r : List AV} {g : Nat → AV} (h : Agree nt r g) {d : Option Nat} (hd : ∀ k, d = some k → k < nt) (v : AV) : Agree nt (setR r d v) (upd g d v) := by
  cases d with
  | none => exact h
  | some d =>
    have hlt := hd d rfl
    refine ⟨by simp [setR, h.1], fun i => ?_⟩
    simp only [setR, upd, List.getD_eq_getElem?_getD, List.getElem?_set]
    by_cases hi : d = i
    · subst hi
      rw [if_pos rfl, if_pos (by rw [h.1]; exact hlt), if_pos rfl]; rfl
    · rw [if_neg hi, if_neg (fun e => hi e.symm), ← h.2 i, List.getD_eq_getElem?_getD]
theorem Agree.mk' {nt : Nat} {g : Nat → AV} (hg : ∀ i, nt ≤ i → g i = un) : Agree nt ((List.range nt).map g) g := by
  refine ⟨by simp, fun i => ?_⟩
  rw [List.getD_eq_getElem?_getD, List.getElem?_map]
  by_cases hi : i < nt
  · rw [List.getElem?_range hi]; rfl
  · rw [List.getElem?_eq_none (by simp; omega), hg i (by omega)]; rfl
theorem Agree.unique {nt : Nat} {r r' : List AV} {g : Nat → AV} (h : Agree nt r g) (h' : Agree nt r' g) : r = r' := by
  refine List.ext_getElem (by rw [h.1, h'.1]) fun i h1 h2 => ?_
  have e1 := h.2 i
  have e2 := h'.2 i
  rw [List.getD_eq_getElem?_getD, List.getElem?_eq_getElem h1] at e1
  rw [List.getD_eq_getElem?_getD, List.getElem?_eq_getElem h2] at e2
  exact e1.trans e2.symm
theorem Agree.beyond {nt : Nat} {r : List AV} {g : Nat → AV} (h : Agree nt r g) : ∀ i, nt ≤ i → g i = un := fun i hi => by
  rw [← h.2 i, List.getD_eq_getElem?_getD, List.getElem?_eq_none (by rw [h.1]; exact hi)]; rfl
theorem Agree.unset {nt : Nat} {r' : List AV} {g : Nat → AV} {d : Option Nat} {v : AV} (hd : ∀ k, d = some k → k < nt) (h : Agree nt r' (upd g d v)) : ∃ r, Agree nt r g ∧ r' = setR r d v := by
  have hg : ∀ i, nt ≤ i → g i = un := fun i hi => by
    have := h.beyond i hi
    cases d with
    | none => exact this
    | some d =>
      have hlt := hd d rfl
      rw [show upd g (some d) v i = if i = d then v else g i from rfl, if_neg (by omega)] at this
      exact this
  exact ⟨_, Agree.mk' hg, Agree.unique h ((Agree.mk' hg).set hd v)⟩
/-! ### More fuel tells the same -/
def CallF.le (C C' : CallF) : Prop := ∀ f args m x, C f args m = some x → C' f args m = some x
section
variable {C C' : CallF}
theorem execC_le (h : C.le C') {o : VO} {r : List AV} {m : AMem} {x : AV × AMem} (he : execC C o r m = some x) : execC C' o r m = some x := by
  unfold execC at he ⊢
  split at he
  · exact h _ _ _ _ he
  · split at he
    · exact h _ _ _ _ he
    · exact h _ _ _ _ he
    · simp at he
  · exact he
theorem stepO_le (h : C.le C') {o : VOper} {r : List AV} {m : AMem} {x : List AV × AMem} (he : stepO C o r m = some x) : stepO C' o r m = some x := by
  unfold stepO at he ⊢
  split at he
  · rename_i hw
    rw [if_pos hw]
    obtain ⟨q, hq, he⟩ := Option.map_eq_some_iff.1 he
    rw [execC_le h hq]; simpa using he
  · rename_i hw
    rw [if_neg hw]; exact he
theorem runOps_le (h : C.le C') : ∀ {l : List VOper} {r : List AV} {m : AMem} {x : List AV × AMem}, runOps C l r m = some x → runOps C' l r m = some x
  | [], _, _, _, he => he
  | o :: l, r, m, x, he => by
    simp only [runOps] at he ⊢
    split at he
    · rename_i h1
      rw [stepO_le h h1]
      exact runOps_le h he
    · simp at he
theorem states_le (h : C.le C') : ∀ {l : List VOper} {r : List AV} {m : AMem} {x}, states C l r m = some x → states C' l r m = some x
  | [], _, _, _, he => he
  | o :: l, r, m, x, he => by
    simp only [states] at he ⊢
    split at he
    · rename_i h1
      rw [stepO_le h h1]
      obtain ⟨q, hq, he⟩ := Option.map_eq_some_iff.1 he
      simp only [states_le h hq, Option.map_some, he]
    · simp at he
theorem runDraw_le (h : C.le C') {l : List VOper} {ck} {r : List AV} {m : AMem} {x} (he : runDraw C l ck r m = some x) : runDraw C' l ck r m = some x := by
  unfold runDraw at he ⊢
  split at he
  · rename_i st hst
    rw [states_le h hst]; exact he
  · simp at he
theorem loopF_le {b b' : List AV → AMem → Out} (h : ∀ r m x, b r m = some x → b' r m = some x) : ∀ {k k' : Nat} {r : List AV} {m : AMem} {x}, k ≤ k' → loopF b k r m = some x → loopF b' k' r m = some x
  | 0, _, _, _, _, _, he => by simp [loopF] at he
  | k + 1, 0, _, _, _, hk, _ => by omega
  | k + 1, k' + 1, r, m, x, hk, he => by
    simp only [loopF] at he ⊢
    cases hb : b r m with
    | none => rw [hb] at he; simp at he
    | some y =>
      rw [hb] at he
      rw [h _ _ _ hb]
      obtain ⟨ex, r1, m1⟩ := y
      cases ex with
      | n => exact loopF_le h (by omega) he
      | x i => exact he
      | ret => exact he
theorem run_le (h : C.le C') {n n' : Nat} (hn : n ≤ n') : ∀ (c : VC) {r : List AV} {m : AMem} {x}, run C (runDraw C) n c r m = some x → run C' (runDraw C') n' c r m = some x
  | .skip, _, _, _, he => he
  | .reg l, r, m, x, he => by
    simp only [run] at he ⊢
    obtain ⟨q, hq, he⟩ := Option.map_eq_some_iff.1 he
    rw [runOps_le h hq]; simpa using he
  | .regd l ck, r, m, x, he => by
    simp only [run] at he ⊢
    obtain ⟨q, hq, he⟩ := Option.map_eq_some_iff.1 he
    rw [runDraw_le h hq]; simpa using he
  | .seq a b, r, m, x, he => by
    simp only [run] at he ⊢
    cases hb : run C (runDraw C) n a r m with
    | none => rw [hb] at he; simp at he
    | some y =>
      rw [hb] at he
      rw [run_le h hn a hb]
      obtain ⟨ex, r1, m1⟩ := y
      cases ex with
      | n => exact run_le h hn b he
      | x i => exact he
      | ret => exact he
  | .cond x a b, r, m, y, he => by
    simp only [run] at he ⊢
    split at he
    · exact run_le h hn a he
    · exact run_le h hn b he
    · simp at he
  | .blk id b, r, m, x, he => by
    simp only [run] at he ⊢
    cases hb : run C (runDraw C) n b r m with
    | none => rw [hb] at he; simp at he
    | some y =>
      rw [hb] at he
      rw [run_le h hn b hb]
      exact he
  | .loop b, r, m, x, he => by
    simp only [run] at he ⊢
    exact loopF_le (fun r m x hx => run_le h hn b hx) hn he
  | .exit _, _, _, _, he => he
  | .ret, _, _, _, he => he
  | .rfn x ps a b, r, m, y, he => by
    simp only [run] at he ⊢
    split at he
    · rename_i l m1 g first cap hen e1
      split at he
      · rename_i v m2 hc
        rw [h _ _ _ _ hc]; exact he
      · simp at he
    · simp at he
end
def RLe (R R' : VC → List AV → AMem → Out) : Prop := ∀ c r m x, R c r m = some x → R' c r m = some x
theorem goF_le {R R' : VC → List AV → AMem → Out} (h : RLe R R') {nt : Nat} {res : List VRes} {body : VC} {args : List AV} {m : AMem} {x : AV × AMem} (he : goF R nt res body args m = some x) : goF R' nt res body args m = some x := by
  unfold goF at he ⊢
  cases hr : R body (args ++ List.replicate (nt - args.length) un) { m with ds := [], ro := none } with
  | none => rw [hr] at he; simp at he
  | some y => rw [hr] at he; rw [h _ _ _ _ hr]; exact he
theorem roundF_le {R R' : VC → List AV → AMem → Out} (h : RLe R R') {l : Nat} {args : List AV} {m : AMem} {x : AV × AMem} (he : roundF R l args m = some x) : roundF R' l args m = some x := by
  unfold roundF at he ⊢
  split at he
  · rename_i r ps asg body hg
    split at he
    · rename_i hlen
      rw [if_pos hlen]
      split at he
      · rename_i r1 m1 ha
        rw [h _ _ _ _ ha]
        simp only
        split at he
        · rename_i r' ps' asg' body' hg1
          split at he
          · rename_i ex r2 m2 hb
            rw [h _ _ _ _ hb]; exact he
          · simp at he
        · simp at he
      · simp at he
    · simp at he
  · simp at he
theorem ev_mono {T : Nat → VFn} : ∀ (n : Nat), (ev T n).le (ev T (n + 1))
  | 0 => fun f args m x h => by simp [ev, callF] at h
  | n + 1 => fun f args m x h => by
    have hR : RLe (run (callF runDraw T n) (runDraw (callF runDraw T n)) n) (run (callF runDraw T (n + 1)) (runDraw (callF runDraw T (n + 1))) (n + 1)) := fun c r m x hx => run_le (ev_mono n) (Nat.le_succ n) c hx
    show callF runDraw T (n + 1 + 1) f args m = some x
    have h' : callF runDraw T (n + 1) f args m = some x := h
    clear h
    cases f with
    | f f =>
      simp only [callF] at h' ⊢
      split at h'
      · exact goF_le hR h'
      · exact h'
      · exact h'
      · simp at h'
    | it f =>
      simp only [callF] at h' ⊢
      split at h'
      · exact goF_le hR h'
      · simp at h'
    | y l =>
      simp only [callF] at h' ⊢
      exact roundF_le hR h'
theorem goF_same {R : VC → List AV → AMem → Out} {nt : Nat} {res : List VRes} {body : VC} {args : List AV} {m m' : AMem} {v : AV} (he : goF R nt res body args m = some (v, m')) : Same m' m := by
  unfold goF at he
  split at he
  · split at he
    · obtain ⟨l, _, he⟩ := Option.map_eq_some_iff.1 he
      simp only [Prod.mk.injEq] at he
      obtain ⟨_, rfl⟩ := he; exact ⟨rfl, rfl⟩
    · simp at he
  · split at he
    · obtain ⟨l, _, he⟩ := Option.map_eq_some_iff.1 he
      simp only [Prod.mk.injEq] at he
      obtain ⟨_, rfl⟩ := he; exact ⟨rfl, rfl⟩
    · simp at he
  · simp at he
theorem ev_same {T : Nat → VFn} : ∀ {n : Nat} {c : Cl} {args : List AV} {m m' : AMem} {v : AV}, ev T n c args m = some (v, m') → Same m' m
  | 0, c, args, m, m', v, h => by simp [ev, callF] at h
  | n + 1, .f f, args, m, m', v, h => by
    simp only [ev, callF] at h
    split at h
    · exact goF_same h
    · obtain ⟨q, _, h⟩ := Option.map_eq_some_iff.1 h
      simp only [Prod.mk.injEq] at h
      obtain ⟨_, rfl⟩ := h; exact ⟨rfl, rfl⟩
    · obtain ⟨q, _, h⟩ := Option.map_eq_some_iff.1 h
      simp only [Prod.mk.injEq] at h
      obtain ⟨_, rfl⟩ := h; exact ⟨rfl, rfl⟩
    · simp at h
  | n + 1, .it f, args, m, m', v, h => by
    simp only [ev, callF] at h
    split at h
    · exact goF_same h
    · simp at h
  | n + 1, .y l, args, m, m', v, h => by
    simp only [ev, callF, roundF] at h
    repeat' split at h
    all_goals first
      | (simp at h; done)
      | (simp only [Option.some.injEq, Prod.mk.injEq] at h; obtain ⟨_, rfl⟩ := h; exact ⟨rfl, rfl⟩)
theorem ev_le {T : Nat → VFn} {n k : Nat} (h : n ≤ k) : (ev T n).le (ev T k) := by
  obtain ⟨d, rfl⟩ := Nat.exists_eq_add_of_le h
  clear h
  induction d with
  | zero => exact fun _ _ _ _ h => h
  | succ d ih => exact fun f a m x h => ev_mono (n + d) f a m x (ih f a m x h)
section
theorem beq_refl : ∀ v : AV, v.beq v = true := by
  intro v
  exact AV.rec (motive_1 := fun v => v.beq v = true) (motive_2 := fun l => AV.beqL l l = true) (by simp [AV.beq]) (by simp [AV.beq]) (by simp [AV.beq]) (by simp [AV.beq]) (by simp [AV.beq]) (by simp [AV.beq]) (by simp [AV.beq])
    (by intro _ _ _ h1 h2; simp [AV.beq, h1, h2]) (by simp [AV.beq]) (by intro _ _ h; simp [AV.beq, h]) (by simp [AV.beq]) (by intro _ h; simp [AV.beq, h]) (by intro _ h; simp [AV.beq, h]) (by simp [AV.beq]) (by simp [AV.beqL]) (by intro _ _ h1 h2; simp [AV.beqL, h1, h2]) v
theorem runOps_states {C : CallF} : ∀ {l : List VOper} {r : List AV} {m : AMem} {x : List AV × AMem}, runOps C l r m = some x → ∃ st, states C l r m = some st ∧ st.getLast? = some x
  | [], r, m, x, h => by
    simp only [runOps, Option.some.injEq] at h; subst h
    exact ⟨_, rfl, rfl⟩
  | o :: l, r, m, x, h => by
    simp only [runOps] at h
    split at h
    · rename_i r' m' hs
      obtain ⟨st, h1, h2⟩ := runOps_states h
      refine ⟨(r, m) :: st, by simp only [states, hs, h1, Option.map_some], ?_⟩
      cases st with
      | nil => simp at h2
      | cons y st => simpa [List.getLast?_cons_cons] using h2
    · simp at h
theorem states_runOps {C : CallF} : ∀ {l : List VOper} {r : List AV} {m : AMem} {st : List (List AV × AMem)}, states C l r m = some st → ∃ x, st.getLast? = some x ∧ runOps C l r m = some x
  | [], r, m, st, h => by
    simp only [states, Option.some.injEq] at h; subst h
    exact ⟨_, rfl, rfl⟩
  | o :: l, r, m, st, h => by
    simp only [states] at h
    split at h
    · rename_i r' m' hs
      obtain ⟨s, h2, rfl⟩ := Option.map_eq_some_iff.1 h
      obtain ⟨x, h3, h4⟩ := states_runOps h2
      refine ⟨x, ?_, by simp only [runOps, hs, h4]⟩
      cases s with
      | nil => simp at h3
      | cons y s => simpa [List.getLast?_cons_cons] using h3
    · simp at h
end
/-! ### What is reached -/
def Runs (T : Nat → VFn) (f : Nat) (args : List AV) (m : AMem) (v : AV) (m' : AMem) : Prop := ∃ n, ev T n (.f f) args m = some (v, m')
def RunC (T : Nat → VFn) (c : VC) (r : List AV) (m : AMem) (x : Ex × List AV × AMem) : Prop := ∃ n, run (ev T n) (runDraw (ev T n)) n c r m = some x
theorem RunC.at {T : Nat → VFn} {c : VC} {r : List AV} {m : AMem} {x} {n k : Nat} (h : run (ev T n) (runDraw (ev T n)) n c r m = some x) (hk : n ≤ k) : run (ev T k) (runDraw (ev T k)) k c r m = some x := run_le (ev_le hk) hk c h
def gOf (r : List AV) : Nat → AV := fun i => r.getD i un
theorem Agree.gOf {nt : Nat} {r : List AV} {g : Nat → AV} (h : Agree nt r g) : gOf r = g := funext h.2
theorem Agree.of {nt : Nat} {r : List AV} (h : r.length = nt) : Agree nt r (Vi.gOf r) := ⟨h, fun _ => rfl⟩
inductive Hist where
  | no
  | yes (full : List VOper) (ck : List (Nat × Nat)) (st : List ((Nat → AV) × AMem))
def Hist.push : Hist → (Nat → AV) → AMem → Hist
  | .no, _, _ => .no
  | .yes f ck st, g, m => .yes f ck (st ++ [(g, m)])
def Hist.ok (nt : Nat) : Hist → List (List AV × AMem) → Prop
  | .no, _ => True
  | .yes f ck st, rest => (ck.all fun x => match f[x.1]? with | some o => sameRead o (st.map (fun s => ((List.range nt).map s.1, s.2)) ++ rest) x.1 x.2 | none => false) = true
inductive KI where
  | c (c : VC)
  | b (id : Nat)
  | o (l : List VOper) (h : Hist)
  | j (J : (Nat → AV) → AMem → Prop)
def FinL (T : Nat → VFn) (nt : Nat) (Q : (Nat → AV) → AMem → Prop) : List KI → Ex → List AV → AMem → Prop
  | [], ex, r, m => (ex = .n ∨ ex = .ret) ∧ Q (gOf r) m
  | .c c :: K, .n, r, m => ∃ x : Ex × List AV × AMem, RunC T c r m x ∧ FinL T nt Q K x.1 x.2.1 x.2.2
  | .c _ :: K, .x i, r, m => FinL T nt Q K (.x i) r m
  | .c _ :: K, .ret, r, m => FinL T nt Q K .ret r m
  | .b _ :: K, .n, r, m => FinL T nt Q K .n r m
  | .b id :: K, .x i, r, m => if i = id then FinL T nt Q K .n r m else FinL T nt Q K (.x i) r m
  | .b _ :: K, .ret, r, m => FinL T nt Q K .ret r m
  | .o l h :: K, .n, r, m => ∃ (rest : List (List AV × AMem)) (x : List AV × AMem), (∃ n, states (ev T n) l r m = some rest) ∧ h.ok nt rest ∧ rest.getLast? = some x ∧ FinL T nt Q K .n x.1 x.2
  | .o _ _ :: K, .x i, r, m => FinL T nt Q K (.x i) r m
  | .o _ _ :: K, .ret, r, m => FinL T nt Q K .ret r m
  | .j J :: _, .n, r, m => r.length = nt ∧ J (gOf r) m
  | .j _ :: K, .x i, r, m => FinL T nt Q K (.x i) r m
  | .j _ :: K, .ret, r, m => FinL T nt Q K .ret r m
def W (T : Nat → VFn) (nt : Nat) (Q : (Nat → AV) → AMem → Prop) (K : List KI) (g : Nat → AV) (m : AMem) : Prop :=
  ∃ r, Agree nt r g ∧ FinL T nt Q K .n r m
section
variable {T : Nat → VFn} {nt : Nat} {Q : (Nat → AV) → AMem → Prop} {K : List KI} {g : Nat → AV} {m : AMem}
theorem RunC.seq {a b : VC} {r : List AV} {x} : RunC T (.seq a b) r m x ↔ ∃ y, RunC T a r m y ∧ (match y with | (.n, r', m') => RunC T b r' m' x | (ex, r', m') => x = (ex, r', m')) := by
  constructor
  · rintro ⟨n, h⟩
    simp only [run] at h
    cases ha : run (ev T n) (runDraw (ev T n)) n a r m with
    | none => rw [ha] at h; simp at h
    | some y =>
      rw [ha] at h
      refine ⟨y, ⟨n, ha⟩, ?_⟩
      obtain ⟨ex, r1, m1⟩ := y
      cases ex with
      | n => exact ⟨n, h⟩
      | x i => simpa using h.symm
      | ret => simpa using h.symm
  · rintro ⟨⟨ex, r1, m1⟩, ⟨n, ha⟩, h⟩
    cases ex with
    | n =>
      obtain ⟨k, hb⟩ := h
      refine ⟨max n k, ?_⟩
      simp only [run]
      rw [RunC.at ha (Nat.le_max_left ..)]
      exact RunC.at hb (Nat.le_max_right ..)
    | x i => simp only at h; subst h; exact ⟨n, by simp only [run, ha]⟩
    | ret => simp only at h; subst h; exact ⟨n, by simp only [run, ha]⟩
theorem W_seq {a b : VC} : W T nt Q (.c (.seq a b) :: K) g m = W T nt Q (.c a :: .c b :: K) g m := by
  apply propext
  refine exists_congr fun r => and_congr_right fun _ => ?_
  simp only [FinL]
  constructor
  · rintro ⟨x, hx, hf⟩
    obtain ⟨y, hy, h⟩ := RunC.seq.1 hx
    refine ⟨y, hy, ?_⟩
    obtain ⟨ex, r1, m1⟩ := y
    cases ex with
    | n => exact ⟨x, h, hf⟩
    | x i => simp only at h; subst h; exact hf
    | ret => simp only at h; subst h; exact hf
  · rintro ⟨⟨ex, r1, m1⟩, hy, h⟩
    cases ex with
    | n =>
      obtain ⟨x, hx, hf⟩ := h
      exact ⟨x, RunC.seq.2 ⟨_, hy, hx⟩, hf⟩
    | x i => exact ⟨_, RunC.seq.2 ⟨_, hy, rfl⟩, h⟩
    | ret => exact ⟨_, RunC.seq.2 ⟨_, hy, rfl⟩, h⟩
theorem W_skip : W T nt Q (.c .skip :: K) g m = W T nt Q K g m := by
  apply propext
  refine exists_congr fun r => and_congr_right fun _ => ?_
  simp only [FinL]
  constructor
  · rintro ⟨x, ⟨n, hx⟩, hf⟩
    simp only [run, Option.some.injEq] at hx
    subst hx; exact hf
  · intro h; exact ⟨_, ⟨0, rfl⟩, h⟩
theorem W_reg {l : List VOper} : W T nt Q (.c (.reg l) :: K) g m = W T nt Q (.o l .no :: K) g m := by
  apply propext
  refine exists_congr fun r => and_congr_right fun _ => ?_
  simp only [FinL]
  constructor
  · rintro ⟨x, ⟨n, hx⟩, hf⟩
    simp only [run] at hx
    obtain ⟨q, hq, rfl⟩ := Option.map_eq_some_iff.1 hx
    obtain ⟨st, h1, h2⟩ := runOps_states hq
    exact ⟨st, q, ⟨n, h1⟩, trivial, h2, hf⟩
  · rintro ⟨st, x, ⟨n, hx⟩, _, h2, hf⟩
    obtain ⟨x', h3, h4⟩ := states_runOps hx
    rw [h2] at h3; simp only [Option.some.injEq] at h3; subst h3
    exact ⟨(.n, x.1, x.2), ⟨n, by simp only [run, h4, Option.map_some]⟩, hf⟩
theorem W_blk {id : Nat} {b : VC} : W T nt Q (.c (.blk id b) :: K) g m = W T nt Q (.c b :: .b id :: K) g m := by
  apply propext
  refine exists_congr fun r => and_congr_right fun _ => ?_
  simp only [FinL]
  constructor
  · rintro ⟨x, ⟨n, hx⟩, hf⟩
    simp only [run] at hx
    cases hb : run (ev T n) (runDraw (ev T n)) n b r m with
    | none => rw [hb] at hx; simp at hx
    | some y =>
      rw [hb] at hx
      refine ⟨y, ⟨n, hb⟩, ?_⟩
      obtain ⟨ex, r1, m1⟩ := y
      cases ex with
      | n => simp only [Option.some.injEq] at hx; subst hx; exact hf
      | ret => simp only [Option.some.injEq] at hx; subst hx; exact hf
      | x i =>
        simp only at hx
        simp only [FinL]
        split at hx
        · rename_i hid
          simp only [Option.some.injEq] at hx; subst hx
          rw [if_pos hid]; exact hf
        · rename_i hid
          simp only [Option.some.injEq] at hx; subst hx
          rw [if_neg hid]; exact hf
  · rintro ⟨⟨ex, r1, m1⟩, ⟨n, hx⟩, hf⟩
    cases ex with
    | n => exact ⟨(.n, r1, m1), ⟨n, by simp only [run, hx]⟩, hf⟩
    | ret => exact ⟨(.ret, r1, m1), ⟨n, by simp only [run, hx]⟩, hf⟩
    | x i =>
      simp only [FinL] at hf
      split at hf
      · rename_i hid
        exact ⟨(.n, r1, m1), ⟨n, by simp only [run, hx, if_pos hid]⟩, hf⟩
      · rename_i hid
        exact ⟨(.x i, r1, m1), ⟨n, by simp only [run, hx, if_neg hid]⟩, hf⟩
theorem W_b {id : Nat} : W T nt Q (.b id :: K) g m = W T nt Q K g m := rfl
theorem W_onil : W T nt Q (.o [] .no :: K) g m = W T nt Q K g m := by
  apply propext
  refine exists_congr fun r => and_congr_right fun _ => ?_
  simp only [FinL]
  constructor
  · rintro ⟨st, x, ⟨n, hx⟩, _, h2, hf⟩
    simp only [states, Option.some.injEq] at hx
    subst hx
    simp only [List.getLast?_singleton, Option.some.injEq] at h2
    subst h2; exact hf
  · intro h; exact ⟨_, _, ⟨0, rfl⟩, trivial, rfl, h⟩
def SameAt (o : VOper) (a b c : (Nat → AV) × AMem) : Prop :=
  (∃ t b c, o.g = some (t, b) ∧ a.1 t = .b c ∧ c ≠ b) ∨ ∃ v, (execE o.o (X.at a.1) a.2).map (·.1) = some v ∧ (execE o.o (X.at a.1) b.2).map (·.1) = some v ∧ (execE o.o (X.at a.1) c.2).map (·.1) = some v
def SameIn (full : List VOper) (st : List ((Nat → AV) × AMem)) : List (Nat × Nat) → Prop
  | [] => True
  | (p, q) :: l => (match full[p]?, st[p]?, st[q]?, st[q + 1]? with
    | some o, some a, some b, some c => SameAt o a b c
    | _, _, _, _ => False) ∧ SameIn full st l
theorem sameRead_of {o : VOper} {st : List ((Nat → AV) × AMem)} {p q : Nat} {a b c : (Nat → AV) × AMem} (hnt : ∀ s ∈ st, ∀ i, nt ≤ i → s.1 i = un) (ha : st[p]? = some a) (hb : st[q]? = some b) (hc : st[q + 1]? = some c) (h : SameAt o a b c) : sameRead o (st.map fun s => ((List.range nt).map s.1, s.2)) p q = true := by
  unfold sameRead
  simp only [List.getElem?_map, ha, hb, hc, Option.map_some]
  have hag : Agree nt ((List.range nt).map a.1) a.1 := Agree.mk' (hnt a (List.mem_of_getElem? ha))
  split
  · rename_i hw
    rcases h with ⟨t, b, c, h1, h2, h3⟩ | ⟨v, h1, h2, h3⟩
    · simp only [wants, h1, hag.2 t, h2] at hw
      exact absurd (by simpa using hw) h3
    · obtain ⟨x1, e1, v1⟩ := Option.map_eq_some_iff.1 h1
      obtain ⟨x2, e2, v2⟩ := Option.map_eq_some_iff.1 h2
      obtain ⟨x3, e3, v3⟩ := Option.map_eq_some_iff.1 h3
      simp only [execE_eq, hag.ev, e1, e2, e3, v1, v2, v3, beq_refl, Bool.and_self]
  · rfl
theorem W_dnil {full : List VOper} {ck : List (Nat × Nat)} {st : List ((Nat → AV) × AMem)} (hs : SameIn full (st ++ [(g, m)]) ck) (hnt : ∀ s ∈ st, ∀ i, nt ≤ i → s.1 i = un) (h : W T nt Q K g m) : W T nt Q (.o [] (.yes full ck st) :: K) g m := by
  obtain ⟨r, hr, hf⟩ := h
  refine ⟨r, hr, [(r, m)], (r, m), ⟨0, rfl⟩, ?_, rfl, hf⟩
  have hr' : (List.range nt).map g = r := Agree.unique (Agree.mk' hr.beyond) hr
  have hst : st.map (fun s => ((List.range nt).map s.1, s.2)) ++ [(r, m)] = (st ++ [(g, m)]).map (fun s => ((List.range nt).map s.1, s.2)) := by simp [hr']
  simp only [Hist.ok]
  rw [hst]
  have hnt' : ∀ s ∈ st ++ [(g, m)], ∀ i, nt ≤ i → s.1 i = un := by
    intro s hs i hi
    rcases List.mem_append.1 hs with h | h
    · exact hnt s h i hi
    · simp at h; subst h; exact hr.beyond i hi
  generalize st ++ [(g, m)] = ss at *
  clear hst
  induction ck with
  | nil => rfl
  | cons x ck ih =>
    obtain ⟨p, q⟩ := x
    obtain ⟨h1, h2⟩ := hs
    simp only [List.all_cons, Bool.and_eq_true]
    refine ⟨?_, ih h2⟩
    split at h1
    · rename_i o a b c e1 e2 e3 e4
      simp only [e1]
      exact sameRead_of hnt' e2 e3 e4 h1
    · exact h1.elim
theorem W_ret (h : W T nt Q [] g m) : W T nt Q (.c .ret :: K) g m := by
  obtain ⟨r, hr, _, hq⟩ := h
  refine ⟨r, hr, (.ret, r, m), ⟨0, rfl⟩, ?_⟩
  clear hr
  induction K with
  | nil => exact ⟨.inr rfl, hq⟩
  | cons k K ih => cases k <;> exact ih
def outOf (id : Nat) : List KI → Option (List KI)
  | [] => none
  | .b i :: K => if id = i then some K else outOf id K
  | .c _ :: K => outOf id K
  | .o _ _ :: K => outOf id K
  | .j _ :: K => outOf id K
theorem W_exit {id : Nat} {K' : List KI} (ho : outOf id K = some K') (h : W T nt Q K' g m) : W T nt Q (.c (.exit id) :: K) g m := by
  obtain ⟨r, hr, hf⟩ := h
  refine ⟨r, hr, (.x id, r, m), ⟨0, rfl⟩, ?_⟩
  clear hr
  induction K with
  | nil => simp [outOf] at ho
  | cons k K ih =>
    cases k with
    | c c => exact ih ho
    | o l h => exact ih ho
    | j J => exact ih ho
    | b i =>
      simp only [outOf] at ho
      simp only [FinL]
      split at ho
      · rename_i hid
        simp only [Option.some.injEq] at ho; subst ho
        rw [if_pos hid]; exact hf
      · rename_i hid
        rw [if_neg hid]; exact ih ho
def WC (T : Nat → VFn) (nt : Nat) (Q : (Nat → AV) → AMem → Prop) (K : List KI) (g : Nat → AV) (m : AMem) (a b : VC) : AV → Prop
  | .b true => W T nt Q (.c a :: K) g m
  | .b false => W T nt Q (.c b :: K) g m
  | _ => False
theorem W_cond {x : X} {a b : VC} (h : WC T nt Q K g m a b (X.at g x)) : W T nt Q (.c (.cond x a b) :: K) g m := by
  have key : ∀ (t : Bool) (c : VC), X.at g x = .b t → c = (if t then a else b) → W T nt Q (.c c :: K) g m → W T nt Q (.c (.cond x a b) :: K) g m := by
    rintro t c hx rfl ⟨r, hr, ⟨y, ⟨n, hy⟩, hf⟩⟩
    refine ⟨r, hr, y, ⟨n, ?_⟩, hf⟩
    simp only [run, hr.ev, hx]
    cases t <;> exact hy
  generalize hv : X.at g x = v at h
  cases v with
  | b t => cases t with
    | true => exact key true a hv rfl h
    | false => exact key false b hv rfl h
  | _ => exact h.elim
theorem WC_split {a b : VC} {t : Bool} (h1 : t = true → W T nt Q (.c a :: K) g m) (h2 : t = false → W T nt Q (.c b :: K) g m) : WC T nt Q K g m a b (.b t) := by
  cases t
  · exact h2 rfl
  · exact h1 rfl
def dOk (nt : Nat) : Option Nat → Bool
  | none => true
  | some d => decide (d < nt)
theorem dOk_spec {d : Option Nat} (h : dOk nt d = true) : ∀ k, d = some k → k < nt := by
  rintro k rfl; simpa [dOk] using h
def Wo (T : Nat → VFn) (nt : Nat) (Q : (Nat → AV) → AMem → Prop) (K : List KI) (g : Nat → AV) (d : Option Nat) : Option (AV × AMem) → Prop
  | some (v, m') => W T nt Q K (upd g d v) m'
  | none => False
theorem Wo_some {d : Option Nat} {v : AV} {m' : AMem} : Wo T nt Q K g d (some (v, m')) = W T nt Q K (upd g d v) m' := rfl
theorem W_step {o : VOper} {l : List VOper} {hh : Hist} {r r' : List AV} {m' : AMem} {n : Nat} (hr : Agree nt r g) (hs : stepO (ev T n) o r m = some (r', m')) (h : FinL T nt Q (.o l (hh.push g m) :: K) .n r' m') : FinL T nt Q (.o (o :: l) hh :: K) .n r m := by
  obtain ⟨rest, x, ⟨k, hk⟩, hok, hlast, hf⟩ := h
  refine ⟨(r, m) :: rest, x, ⟨max n k, ?_⟩, ?_, ?_, hf⟩
  · simp only [states]
    rw [stepO_le (ev_le (Nat.le_max_left ..)) hs]
    simp only [states_le (ev_le (Nat.le_max_right n k)) hk, Option.map_some]
  · cases hh with
    | no => trivial
    | yes full ck st =>
      have hr' : (List.range nt).map g = r := Agree.unique (Agree.mk' hr.beyond) hr
      simpa [Hist.ok, Hist.push, hr'] using hok
  · cases rest with
    | nil => simp at hlast
    | cons y rest => simpa [List.getLast?_cons_cons] using hlast
theorem W_op {d : Option Nat} {vo : VO} {l : List VOper} {hh : Hist} (hc : vo.isCall = false) (hd : dOk nt d = true) (h : Wo T nt Q (.o l (hh.push g m) :: K) g d (execE vo (X.at g) m)) : W T nt Q (.o (⟨d, none, vo⟩ :: l) hh :: K) g m := by
  cases he : execE vo (X.at g) m with
  | none => rw [he] at h; exact h.elim
  | some q =>
    rw [he] at h
    obtain ⟨v, m'⟩ := q
    obtain ⟨r', hr', hf⟩ := h
    obtain ⟨r, hr, rfl⟩ := Agree.unset (dOk_spec hd) hr'
    refine ⟨r, hr, W_step (n := 0) hr ?_ hf⟩
    simp only [stepO, wants, if_true]
    rw [execC_plain hc, execE_eq, hr.ev, he]
    rfl
theorem W_opg {d : Option Nat} {t : Nat} {b c : Bool} {vo : VO} {l : List VOper} {hh : Hist} (hc : vo.isCall = false) (hd : dOk nt d = true) (hg : g t = .b c) (h1 : c = b → Wo T nt Q (.o l (hh.push g m) :: K) g d (execE vo (X.at g) m)) (h2 : c ≠ b → W T nt Q (.o l (hh.push g m) :: K) (upd g d un) m) : W T nt Q (.o (⟨d, some (t, b), vo⟩ :: l) hh :: K) g m := by
  by_cases hcb : c = b
  · have h := h1 hcb
    cases he : execE vo (X.at g) m with
    | none => rw [he] at h; exact h.elim
    | some q =>
      rw [he] at h
      obtain ⟨v, m'⟩ := q
      obtain ⟨r', hr', hf⟩ := h
      obtain ⟨r, hr, rfl⟩ := Agree.unset (dOk_spec hd) hr'
      refine ⟨r, hr, W_step (n := 0) hr ?_ hf⟩
      unfold stepO
      rw [if_pos (by simp only [wants, hr.2 t, hg, hcb, beq_self_eq_true])]
      simp only
      rw [execC_plain hc, execE_eq, hr.ev, he]
      rfl
  · obtain ⟨r', hr', hf⟩ := h2 hcb
    obtain ⟨r, hr, rfl⟩ := Agree.unset (dOk_spec hd) hr'
    refine ⟨r, hr, W_step (n := 0) hr ?_ hf⟩
    unfold stepO
    rw [if_neg (by simp only [wants, hr.2 t, hg]; simpa using hcb)]
theorem W_call {d : Option Nat} {f : Nat} {xs : List X} {l : List VOper} {hh : Hist} {v : AV} {m' : AMem} (hd : dOk nt d = true) (hr : Runs T f (xs.map (X.at g)) m v m') (h : W T nt Q (.o l (hh.push g m) :: K) (upd g d v) m') : W T nt Q (.o (⟨d, none, .call f xs⟩ :: l) hh :: K) g m := by
  obtain ⟨r', hr', hf⟩ := h
  obtain ⟨r, hra, rfl⟩ := Agree.unset (dOk_spec hd) hr'
  obtain ⟨n, hn⟩ := hr
  refine ⟨r, hra, W_step (n := n) hra ?_ hf⟩
  simp only [stepO, wants, if_true, execC]
  rw [hra.ev, hn]
  rfl
theorem W_cv {d : Option Nat} {f : X} {k : Nat} {first cap : List AV} {xs : List X} {l : List VOper} {hh : Hist} {v : AV} {m' : AMem} (hd : dOk nt d = true) (hfv : X.at g f = .f k first cap) (hr : Runs T k (first ++ xs.map (X.at g) ++ cap) m v m') (h : W T nt Q (.o l (hh.push g m) :: K) (upd g d v) m') : W T nt Q (.o (⟨d, none, .cv f xs⟩ :: l) hh :: K) g m := by
  obtain ⟨r', hr', hf⟩ := h
  obtain ⟨r, hra, rfl⟩ := Agree.unset (dOk_spec hd) hr'
  obtain ⟨n, hn⟩ := hr
  refine ⟨r, hra, W_step (n := n) hra ?_ hf⟩
  simp only [stepO, wants, if_true, execC]
  rw [hra.ev, hfv]
  simp only
  rw [hn]
  rfl
theorem W_loop {b : VC} (I : Nat → (Nat → AV) → AMem → Prop) (n0 : Nat) (h0 : I n0 g m) (hg : ∀ i, nt ≤ i → g i = un) (round : ∀ n g m, I n g m → (∀ i, nt ≤ i → g i = un) → W T nt Q (.c b :: .j (fun g' m' => ∃ n', n' < n ∧ I n' g' m') :: K) g m) : W T nt Q (.c (.loop b) :: K) g m := by
  have key : ∀ n r m, Agree nt r (gOf r) → I n (gOf r) m → ∃ x, RunC T (.loop b) r m x ∧ FinL T nt Q K x.1 x.2.1 x.2.2 := by
    intro n
    induction n using Nat.strongRecOn with
    | _ n ih =>
      intro r m hr hI
      obtain ⟨r1, hr1, y, hy, hf⟩ := round n (gOf r) m hI (fun i hi => by
        rw [← hr.2 i, List.getD_eq_getElem?_getD, List.getElem?_eq_none (by rw [hr.1]; exact hi)]; rfl)
      obtain rfl : r1 = r := Agree.unique hr1 hr
      obtain ⟨ex, r2, m2⟩ := y
      obtain ⟨k, hk⟩ := hy
      cases ex with
      | n =>
        obtain ⟨hl, n', hn', hI'⟩ := hf
        obtain ⟨x, ⟨k2, hx⟩, hfx⟩ := ih n' hn' r2 m2 (Agree.of hl) hI'
        refine ⟨x, ⟨max k k2 + 1, ?_⟩, hfx⟩
        simp only [run, loopF] at hx ⊢
        have h1 := RunC.at hk (show k ≤ max k k2 + 1 by omega)
        rw [h1]
        exact loopF_le (fun r m x hx => run_le (ev_le (by omega)) (by omega) b hx) (by omega) hx
      | x i =>
        refine ⟨(.x i, r2, m2), ⟨k + 1, ?_⟩, hf⟩
        simp only [run, loopF]
        rw [RunC.at hk (Nat.le_succ k)]
      | ret =>
        refine ⟨(.ret, r2, m2), ⟨k + 1, ?_⟩, hf⟩
        simp only [run, loopF]
        rw [RunC.at hk (Nat.le_succ k)]
  have hr : Agree nt ((List.range nt).map g) g := Agree.mk' hg
  refine ⟨_, hr, ?_⟩
  have e := hr.gOf
  exact key n0 _ m (by rw [e]; exact hr) (by rw [e]; exact h0)
theorem W_j {J : (Nat → AV) → AMem → Prop} (hg : ∀ i, nt ≤ i → g i = un) (h : J g m) : W T nt Q (.j J :: K) g m := by
  have hr : Agree nt ((List.range nt).map g) g := Agree.mk' hg
  exact ⟨_, hr, hr.1, by rw [hr.gOf]; exact h⟩
theorem W_nil (hg : ∀ i, nt ≤ i → g i = un) (h : Q g m) : W T nt Q [] g m := by
  have hr : Agree nt ((List.range nt).map g) g := Agree.mk' hg
  exact ⟨_, hr, .inl rfl, by rw [hr.gOf]; exact h⟩
def args0 (args : List AV) : Nat → AV := fun i => args.getD i un
def Call (T : Nat → VFn) (f : Nat) (args : List AV) (m : AMem) (R : AV → AMem → Prop) : Prop := ∃ v m', Runs T f args m v m' ∧ R v m'
theorem Call.mono {f : Nat} {args : List AV} {R R' : AV → AMem → Prop} (h : Call T f args m R) (hr : ∀ v m', R v m' → R' v m') : Call T f args m R' :=
  let ⟨v, m', h1, h2⟩ := h; ⟨v, m', h1, hr _ _ h2⟩
def resX (g : Nat → AV) (m : AMem) : List VRes → Option (List AV)
  | [] => some []
  | .t n :: l => (resX g m l).map (g n :: ·)
  | .c n none :: l => match execE (.ld (.t n)) (X.at g) m with
    | some (v, _) => (resX g m l).map (v :: ·)
    | none => none
  | .c n (some k) :: l => match execE (.ldn k (.t n)) (X.at g) m with
    | some (v, _) => (resX g m l).map (v :: ·)
    | none => none
theorem resX_eq (r : List AV) (m : AMem) : ∀ l, resE r m l = resX (gOf r) m l
  | [] => rfl
  | .t n :: l => by simp only [resE, resX, resX_eq r m l]; rfl
  | .c n none :: l => by simp only [resE, resX, resX_eq r m l, execE_eq]; rfl
  | .c n (some k) :: l => by simp only [resE, resX, resX_eq r m l, execE_eq]; rfl
def AMem.inn (m : AMem) : AMem := { m with ds := [], ro := none }
def AMem.out (m' m : AMem) : AMem := { m' with ds := m.ds, ro := m.ro }
@[simp] theorem AMem.get_inn (m : AMem) (j : Nat) : m.inn.get j = m.get j := rfl
@[simp] theorem AMem.next_inn (m : AMem) : m.inn.next = m.next := rfl
@[simp] theorem AMem.ds_inn (m : AMem) : m.inn.ds = [] := rfl
@[simp] theorem AMem.ro_inn (m : AMem) : m.inn.ro = none := rfl
@[simp] theorem AMem.get_out (m' m : AMem) (j : Nat) : (m'.out m).get j = m'.get j := rfl
@[simp] theorem AMem.next_out (m' m : AMem) : (m'.out m).next = m'.next := rfl
@[simp] theorem AMem.ds_out (m' m : AMem) : (m'.out m).ds = m.ds := rfl
@[simp] theorem AMem.ro_out (m' m : AMem) : (m'.out m).ro = m.ro := rfl
theorem Call.of {f : Nat} {args : List AV} {R : AV → AMem → Prop} {nt : Nat} {res : List VRes} {body : VC} (hf : T f = .go nt res body) (ha : args.length ≤ nt) (h : W T nt (fun g' m' => ∃ m2 l, leaveE m'.ds m' = some m2 ∧ resX g' m2 res = some l ∧ R (tupE l) (m2.out m)) [.c body] (args0 args) m.inn) : Call T f args m R := by
  obtain ⟨r, hr, ⟨ex, r1, m1⟩, ⟨n, hn⟩, hex, m2, l, hlv, hl, hv⟩ := h
  have hr0 : r = args ++ List.replicate (nt - args.length) un := by
    refine Agree.unique hr ⟨by simp; omega, fun i => ?_⟩
    simp only [args0, List.getD_eq_getElem?_getD]
    by_cases hi : i < args.length
    · rw [List.getElem?_append_left hi]
    · rw [List.getElem?_append_right (by omega), List.getElem?_eq_none (l := args) (by omega), List.getElem?_replicate]
      split <;> rfl
  subst hr0
  rw [← resX_eq] at hl
  simp only at hex hl hlv
  refine ⟨_, _, ⟨n + 1, ?_⟩, hv⟩
  show callF runDraw T (n + 1) (.f f) args m = _
  rw [callF, hf]
  simp only [goF]
  rw [show run (callF runDraw T n) (runDraw (callF runDraw T n)) n body _ { m with ds := [], ro := none } = _ from hn]
  rcases hex with rfl | rfl <;> simp only [hlv, hl, Option.map_some] <;> rfl
theorem Call.ofP {f : Nat} {args : List AV} {R : AV → AMem → Prop} {nt : Nat} {res : List VRes} {body : VC} (hf : T f = .go nt res body) (ha : args.length ≤ nt) (h : W T nt (fun g' m' => m'.ds = [] ∧ ∃ l, resX g' m' res = some l ∧ R (tupE l) (m'.out m)) [.c body] (args0 args) m.inn) : Call T f args m R := by
  refine Call.of hf ha ?_
  obtain ⟨r, hr, x, hx, hex, hds, l, hl⟩ := h
  exact ⟨r, hr, x, hx, hex, x.2.2, l, by rw [hds]; rfl, hl⟩
theorem W_callR {d : Option Nat} {f : Nat} {xs : List X} {l : List VOper} {hh : Hist} {R : AV → AMem → Prop} (hd : dOk nt d = true) (hr : Call T f (xs.map (X.at g)) m R) (h : ∀ v m', R v m' → Same m' m → W T nt Q (.o l (hh.push g m) :: K) (upd g d v) m') : W T nt Q (.o (⟨d, none, .call f xs⟩ :: l) hh :: K) g m := by
  obtain ⟨v, m', h1, h2⟩ := hr
  obtain ⟨n, hn⟩ := h1
  exact W_call hd ⟨n, hn⟩ (h v m' h2 (ev_same hn))
theorem W_regd0 {l : List VOper} (h : W T nt Q (.o l .no :: K) g m) : W T nt Q (.c (.regd l []) :: K) g m := by
  obtain ⟨r, hr, st, x, ⟨n, hx⟩, _, h2, hf⟩ := h
  refine ⟨r, hr, (.n, x.1, x.2), ⟨n, ?_⟩, hf⟩
  simp only [run, runDraw, hx, List.all_nil, if_true, h2, Option.map_some]
theorem W_regd {l : List VOper} {ck : List (Nat × Nat)} (h : W T nt Q (.o l (.yes l ck []) :: K) g m) : W T nt Q (.c (.regd l ck) :: K) g m := by
  obtain ⟨r, hr, st, x, ⟨n, hx⟩, hok, h2, hf⟩ := h
  refine ⟨r, hr, (.n, x.1, x.2), ⟨n, ?_⟩, hf⟩
  simp only [Hist.ok, List.map_nil, List.nil_append] at hok
  simp only [run, runDraw, hx, h2]
  exact (congrArg (Option.map _) (if_pos hok)).trans rfl
theorem push_no : Hist.push .no g m = .no := rfl
theorem push_yes {f : List VOper} {ck : List (Nat × Nat)} {st : List ((Nat → AV) × AMem)} : Hist.push (.yes f ck st) g m = .yes f ck (st ++ [(g, m)]) := rfl
end
end Go.Vi
