/- Each operation of the interpreter does what the model's operation does: structs held against each other, maps, marks, interface values. No condition. -/
import Derived.Test.YtfbglgmhhmeoeaaGreatDoorWbViS5
import Derived.Laws.StructEq
import Derived.ChangeKeysEq
namespace Go.Vi
open Go.RowKit
set_option linter.unusedSimpArgs false
set_option linter.unusedVariables false
section
variable {E : Env} {P : Program} {ρ : Rho} {m m' : AMem} {w : World} {r : List AV} {a : Act} {o : Oper} {v : AV}
def skOf : TypeDesc → Option SK
 | .int _ => some .i
 | .bool => some .b
 | .string => some .s
 | _ => none
theorem run_eqScalar {t : TypeId} {d : TypeDesc} {sk : SK} {x y : AV} {x' y' : Value} {q : Bool} (n : Nat) (ht : P.underlying t = some d) (hd : skOf d = some sk) (hx : VR ρ x x') (hy : VR ρ y y') (h : eqScalar sk x y = some q) : (Op.equalIn (n + 1) t x' y').run P w = .ok q w := by
 unfold eqScalar at h
 split at h
 ·rename_i k a k' b
  split at h
  ·rename_i hk
   subst hk
   simp only [Option.some.injEq] at h; subst h
   have e1 := hx.int; have e2 := hy.int; subst e1; subst e2
   cases d <;> simp [skOf] at hd
   rw [Op.equalIn]; simp [run_und ht]
  ·simp at h
 ·simp only [Option.some.injEq] at h; subst h
  have e1 := hx.bool; have e2 := hy.bool; subst e1; subst e2
  cases d <;> simp [skOf] at hd
  rw [Op.equalIn]; simp [run_und ht]
 ·simp only [Option.some.injEq] at h; subst h
  have e1 := hx.str; have e2 := hy.str; subst e1; subst e2
  cases d <;> simp [skOf] at hd
  rw [Op.equalIn]; simp [run_und ht]
 ·simp at h
theorem skOf_agg {d : TypeDesc} {sk : SK} (h : skOf d = some sk) : aggD d = false := by cases d <;> simp [skOf] at h <;> rfl
def fieldKs (P : Program) : List Field → Option (List (Nat × SK))
 | [] => some []
 | f :: l => if f.name = "_" then none else
   match P.underlying f.type with
   | some d => match skOf d, fieldKs P l with
     | some k, some ks => some ((f.offset, k) :: ks)
     | _, _ => none
   | none => none
theorem run_part {t : TypeId} {d : TypeDesc} {cs : Array Value} {off : Nat} {u : Value} (ht : P.underlying t = some d) (hd : aggD d = false) (hu : cs[off]? = some u) : (part t cs off).run P w = .ok u w := by
 simp [part, run_agg ht, hd, hu]
theorem run_eqFields {x y : List AV} {xs ys : Array Value} (n : Nat) (hx : VRL ρ x xs.toList) (hy : VRL ρ y ys.toList) : ∀ (fs : List Field) (ks : List (Nat × SK)) (q : Bool), fieldKs P fs = some ks → eqCells x y ks = some q → (Op.eqFields (n + 1) xs ys fs).run P w = .ok q w
 | [], ks, q, h, he => by
   simp only [fieldKs, Option.some.injEq] at h; subst h
   simp only [eqCells, Option.some.injEq] at he; subst he
   simp [Op.eqFields]
 | f :: fs, ks, q, h, he => by
   simp only [fieldKs] at h
   split at h
   ·simp at h
   rename_i hn
   split at h
   ·rename_i d hd
    split at h
    ·rename_i k ks' hk hks
     simp only [Option.some.injEq] at h; subst h
     simp only [eqCells] at he
     split at he
     ·rename_i a b ha hb
      obtain ⟨a', ha', hra⟩ := hx.get _ a ha
      obtain ⟨b', hb', hrb⟩ := hy.get _ b hb
      have p1 := run_part (w := w) hd (skOf_agg hk) (show xs[f.offset]? = some a' by simpa using ha')
      have p2 := run_part (w := w) hd (skOf_agg hk) (show ys[f.offset]? = some b' by simpa using hb')
      rw [Op.eqFields]
      simp only [ne_eq, hn, not_false_eq_true, if_true, Sem.run_bind, p1, p2, Result.andThen_ok]
      split at he
      ·rename_i hq
       simp only [run_eqScalar n hd hk hra hrb hq, Result.andThen_ok]
       simpa using run_eqFields n hx hy fs ks' q hks he
      ·rename_i hq
       simp only [Option.some.injEq] at he; subst he
       simp only [run_eqScalar n hd hk hra hrb hq, Result.andThen_ok]
       simp
      ·simp at he
     ·simp at he
    ·simp at h
   ·simp at h
theorem run_eqItems {x y : List AV} {xs ys : Array Value} (n : Nat) {e : TypeId} {d : TypeDesc} {k : SK} (hd : P.underlying e = some d) (hk : skOf d = some k) (hc : P.cellsOf e = 1) (hx : VRL ρ x xs.toList) (hy : VRL ρ y ys.toList) : ∀ (is : List Nat) (q : Bool), eqCells x y (is.map fun i => (i, k)) = some q → (Op.eqItems (n + 1) e (P.cellsOf e) xs ys is).run P w = .ok q w
 | [], q, he => by simp only [List.map_nil, eqCells, Option.some.injEq] at he; subst he; simp [Op.eqItems]
 | i :: is, q, he => by
   simp only [List.map_cons, eqCells] at he
   split at he
   ·rename_i a b ha hb
    obtain ⟨a', ha', hra⟩ := hx.get _ a ha
    obtain ⟨b', hb', hrb⟩ := hy.get _ b hb
    have p1 := run_part (w := w) hd (skOf_agg hk) (show xs[i]? = some a' by simpa using ha')
    have p2 := run_part (w := w) hd (skOf_agg hk) (show ys[i]? = some b' by simpa using hb')
    rw [Op.eqItems]
    simp only [hc, Nat.mul_one, Sem.run_bind, p1, p2, Result.andThen_ok]
    split at he
    ·rename_i hq
     simp only [run_eqScalar n hd hk hra hrb hq, Result.andThen_ok]
     have ih := run_eqItems n hd hk hc hx hy is q he
     rw [hc] at ih
     simpa using ih
    ·rename_i hq
     simp only [Option.some.injEq] at he; subst he
     simp only [run_eqScalar n hd hk hra hrb hq, Result.andThen_ok]
     simp
    ·simp at he
   ·simp at he
def eqKs (P : Program) (t : TypeId) : Option (List (Nat × SK)) :=
 match P.underlying t with
 | some (.struct fs) => if P.stoodInHeld t = false then fieldKs P fs.toList else none
 | some (.array n e) => match P.underlying e, P.info? e with
   | some d, some i => match skOf d with
     | some k => if i.size = 1 then some ((List.range n).map fun j => (j, k)) else none
     | none => none
   | _, _ => none
 | _ => none
theorem run_eqAgg {t : TypeId} {ks : List (Nat × SK)} {x y : List AV} {xs ys : Array Value} {q : Bool} (h : eqKs P t = some ks) (hx : VRL ρ x xs.toList) (hy : VRL ρ y ys.toList) (he : eqCells x y ks = some q) : (Op.equal t (.agg xs) (.agg ys)).run P w = .ok q w := by
 rw [equal_succ]
 unfold eqKs at h
 split at h
 ·rename_i fs ht
  split at h
  ·rename_i hs
   have hf : P.fieldsOf t = fs := by simp [Program.fieldsOf, ht]
   rw [run_equalIn_struct (P := P) w 9999 t xs ys (by rw [hf]; exact ht) hs, hf]
   exact run_eqFields 9998 hx hy fs.toList ks q h he
  ·simp at h
 ·rename_i n e ht
  split at h
  ·rename_i d i hd hi
   split at h
   ·rename_i k hk
    split at h
    ·rename_i hsz
     simp only [Option.some.injEq] at h; subst h
     have hc : P.cellsOf e = 1 := by simp [Program.cellsOf, hi, hsz]
     rw [run_equalIn_array w 9999 xs ys ht hi]
     exact run_eqItems 9998 hd hk hc hx hy (List.range n) q he
    ·simp at h
   ·simp at h
  ·simp at h
 ·simp at h
theorem sound_eqa {op : BinOp} {neg : Bool} {ks : List (Nat × SK)} {t t2 : TypeId} {x y : Operand} {x' y' : X} (ho : o.op = .binOp op t x y t2) (hop : op = if neg then .neq else .eql) (hk : eqKs P t = some ks) (hg0 : P.eqGuardType P.depth t = false) (hx : VR ρ (x'.ev r) (a.eval x)) (hy : VR ρ (y'.ev r) (a.eval y)) (hR : Rep E ρ m w) (he : exec (.eqa neg ks x' y') r m = some (v, m')) : Step1 E P (execOp a.eval o) ρ m w v m' := by
 simp only [exec] at he
 split at he
 ·rename_i p q e1 e2
  rw [e1] at hx; rw [e2] at hy
  obtain ⟨xs, hxv, hx⟩ := hx
  obtain ⟨ys, hyv, hy⟩ := hy
  obtain ⟨u, hu, he⟩ := Option.map_eq_some_iff.1 he
  simp only [Prod.mk.injEq] at he
  obtain ⟨rfl, rfl⟩ := he
  have hg : (eqGuard op t x y (.agg xs) (.agg ys)).run P w = .ok () w := by
   unfold eqGuard
   cases op <;> first | rfl | skip
   all_goals simp [hg0]
  have hq := run_eqAgg (w := w) hk hx hy hu
  cases neg with
  | true => simp only [if_true] at hop; subst hop; exact Step1.pure hR (.bool !u) (by simp [execOp, ho, hxv, hyv, hg, binOp, hq]) (by simpa using VR.mkB _)
  | false => simp only [Bool.false_eq_true, if_false] at hop; subst hop; exact Step1.pure hR (.bool u) (by simp [execOp, ho, hxv, hyv, hg, binOp, hq]) (by simpa using VR.mkB _)
 ·simp at he
/-! ### Maps -/
theorem sound_mkm {t : TypeId} {res : Option Operand} {k e : TypeId} (ho : o.op = .makeMap t res) (hres : res = none ∨ ∃ ik n, res = some (.const (.int ik n))) (ht : P.underlying t = some (.map k e)) (hR : Rep E ρ m w) (he : exec .mkm r m = some (v, m')) : Step1 E P (execOp a.eval o) ρ m w v m' := by
 simp only [exec, Option.some.injEq, Prod.mk.injEq] at he
 obtain ⟨rfl, rfl⟩ := he
 obtain ⟨g1, g2⟩ := hR.push (w' := { w with heap := w.heap.push (.map #[] 0) }) (.map []) ⟨w.heap.size, 0, 0⟩ (.map #[] 0) rfl rfl rfl rfl rfl ⟨hR.base, #[], 0, by simp, by simp [VRL], by simp [VRL]⟩
 refine ⟨_, _, .map (some w.heap.size), .inl ?_, ⟨_, Rho.put_self _ _ _, rfl⟩, g1, g2⟩
 rcases hres with rfl | ⟨ik, n, rfl⟩
 ·simp [execOp, ho, Instr.makeMap]
 ·simp [execOp, ho, Instr.makeMap, run_und ht, Act.eval, asInt, asIntOf]
theorem sameNow_of {sk : SK} {d : TypeDesc} {x y : AV} {x' y' : Value} {q : Bool} (hd : skOf d = some sk) (hx : VR ρ x x') (hy : VR ρ y y') (h : eqScalar sk x y = some q) (hb : sk ≠ .b) : Instr.sameNow d x' y' = some q := by
 unfold eqScalar at h
 split at h
 ·split at h
  ·rename_i hk
   subst hk
   simp only [Option.some.injEq] at h; subst h
   have e1 := hx.int; have e2 := hy.int; subst e1; subst e2
   cases d <;> simp [skOf] at hd
   simp [Instr.sameNow]
  ·simp at h
 ·exact absurd rfl hb
 ·simp only [Option.some.injEq] at h; subst h
  have e1 := hx.str; have e2 := hy.str; subst e1; subst e2
  cases d <;> simp [skOf] at hd
  simp [Instr.sameNow]
 ·simp at h
theorem findNow_of {sk : SK} {d : TypeDesc} {k : AV} {k' : Value} (hd : skOf d = some sk) (hb : sk ≠ .b) (hk : VR ρ k k') : ∀ (es : List (AV × AV)) (ents : List MapEntry) (i : Nat) (res : Option (Nat × AV)), VRL ρ (es.map (·.1)) (ents.map (·.key)) → VRL ρ (es.map (·.2)) (ents.map (·.val)) → findE sk k es i = some res →
  ∃ res', Instr.findNow d k' ents i = some res' ∧ (match res, res' with | none, none => True | some (j, x), some (j', x') => j = j' ∧ VR ρ x x' ∧ i ≤ j ∧ ∃ e, ents[j - i]? = some e ∧ Instr.sameNow d k' e.key = some true | _, _ => False)
 | [], ents, i, res, h1, h2, h => by
   simp only [findE, Option.some.injEq] at h; subst h
   simp only [List.map_nil, VRL] at h1
   obtain rfl : ents = [] := by simpa using h1
   exact ⟨none, rfl, trivial⟩
 | e :: es, ents, i, res, h1, h2, h => by
   obtain ⟨kv, vs, q1, hkv, q2⟩ := h1
   obtain ⟨vv, us, p1, hvv, p2⟩ := h2
   match ents, q1, p1 with
   | en :: ents, q1, p1 =>
     simp only [List.map_cons, List.cons.injEq] at q1 p1
     obtain ⟨rfl, rfl⟩ := q1
     obtain ⟨rfl, rfl⟩ := p1
     simp only [findE] at h
     split at h
     ·rename_i hq
      simp only [Option.some.injEq] at h; subst h
      have hs := sameNow_of hd hk hkv hq hb
      refine ⟨some (i, en.val), ?_, rfl, hvv, Nat.le_refl _, en, by simp, hs⟩
      simp [Instr.findNow, hs]
     ·rename_i hq
      have hs := sameNow_of hd hk hkv hq hb
      obtain ⟨res', g1, g2⟩ := findNow_of hd hb hk es ents (i + 1) res q2 p2 h
      refine ⟨res', by simp [Instr.findNow, hs, g1], ?_⟩
      cases res with
      | none => cases res' <;> simp at g2 ⊢
      | some rr =>
        cases res' with
        | none => simp at g2
        | some rr' =>
          obtain ⟨j, x⟩ := rr; obtain ⟨j', x'⟩ := rr'
          obtain ⟨rfl, w1, w2, e', w3, w4⟩ := g2
          refine ⟨rfl, w1, by omega, e', ?_, w4⟩
          rw [show j - i = (j - (i + 1)) + 1 by omega]
          simpa using w3
     ·simp at h
theorem run_checkKey {kt : TypeId} {d : TypeDesc} {sk : SK} {k : Value} {b : Bool} (ht : P.underlying kt = some d) (hd : skOf d = some sk) : (Instr.checkKey b 10000 kt k).run P w = .ok () w := by
 rw [show (10000 : Nat) = 9999 + 1 from rfl, Instr.checkKey]
 simp only [Sem.run_bind, run_und ht, Result.andThen_ok]
 cases d <;> simp [skOf] at hd <;> rfl
theorem sound_lkp {t kt e : TypeId} {d : TypeDesc} {sk : SK} {i : TypeInfo} {zv : Value} {z : AV} {ok : Bool} {x y : Operand} {x' y' : X} (ho : o.op = .lookup t x y ok) (ht : P.underlying t = some (.map kt e)) (hkt : P.underlying kt = some d) (hd : skOf d = some sk) (hb : sk ≠ .b) (hi : P.info? e = some i) (hz : i.zero = some zv) (hzv : ∀ ρ, VR ρ z zv)
  (hx : VR ρ (x'.ev r) (a.eval x)) (hy : VR ρ (y'.ev r) (a.eval y)) (hR : Rep E ρ m w) (he : exec (.lkp sk z ok x' y') r m = some (v, m')) : Step1 E P (execOp a.eval o) ρ m w v m' := by
 have fin : ∀ (u : AV) (u' : Value) (q : Bool), VR ρ u u' → VR ρ (if ok then .tup [u, .b q] else u) (if ok then .tuple #[u', .bool q] else u') := by
  intro u u' q hu
  cases ok with
  | true => exact ⟨#[u', .bool q], rfl, u', [.bool q], rfl, hu, VRL.one (VR.mkB _)⟩
  | false => exact hu
 simp only [exec] at he
 split at he
 ·rename_i e1
  rw [e1] at hx; simp only [VR] at hx
  simp only [Option.some.injEq, Prod.mk.injEq] at he
  obtain ⟨rfl, rfl⟩ := he
  refine Step1.pure hR (if ok then .tuple #[zv, .bool false] else zv) ?_ (by simpa using fin z zv false (hzv ρ))
  simp only [execOp, ho, Instr.lookup, Sem.run_bind, run_und ht, Result.andThen_ok, hx, Sem.run_pure, run_checkKey hkt hd, Instr.findKey, run_und hkt, Instr.findNow, run_zero hi hz]
 ·rename_i j e1
  rw [e1] at hx
  obtain ⟨t', ht', hv⟩ := hx
  split at he
  case h_2 => simp at he
  rename_i es hg
  obtain ⟨_, ents, clock, hh, h1, h2⟩ := hR.objs j _ t' hg ht'
  split at he
  ·rename_i n u hf
   simp only [Option.some.injEq, Prod.mk.injEq] at he
   obtain ⟨rfl, rfl⟩ := he
   obtain ⟨res', g1, g2⟩ := findNow_of hd hb hy es ents.toList 0 _ h1 h2 hf
   cases res' with
   | none => exact g2.elim
   | some rr =>
     obtain ⟨j', u'⟩ := rr
     obtain ⟨_, hu, _⟩ := g2
     refine Step1.pure hR (if ok then .tuple #[u', .bool true] else u') ?_ (fin u u' true hu)
     simp only [execOp, ho, Instr.lookup, Sem.run_bind, run_und ht, Result.andThen_ok, hv, getObj, Sem.run, hh, run_checkKey hkt hd, Instr.findKey, run_und hkt, g1, Sem.run_pure]
  ·rename_i hf
   simp only [Option.some.injEq, Prod.mk.injEq] at he
   obtain ⟨rfl, rfl⟩ := he
   obtain ⟨res', g1, g2⟩ := findNow_of hd hb hy es ents.toList 0 _ h1 h2 hf
   cases res' with
   | some _ => exact g2.elim
   | none =>
     refine Step1.pure hR (if ok then .tuple #[zv, .bool false] else zv) ?_ (fin z zv false (hzv ρ))
     simp only [execOp, ho, Instr.lookup, Sem.run_bind, run_und ht, Result.andThen_ok, hv, getObj, Sem.run, hh, run_checkKey hkt hd, Instr.findKey, run_und hkt, g1, Sem.run_pure, run_zero hi hz]
  ·simp at he
 ·simp at he
theorem sound_mup {t kt e : TypeId} {d : TypeDesc} {sk : SK} {x y z : Operand} {x' y' z' : X} (ho : o.op = .mapUpdate t x y z ∨ o.op = .insert t x y z) (ht : P.underlying t = some (.map kt e)) (hkt : P.underlying kt = some d) (hd : skOf d = some sk) (hb : sk = .i)
  (hx : VR ρ (x'.ev r) (a.eval x)) (hy : VR ρ (y'.ev r) (a.eval y)) (hz : VR ρ (z'.ev r) (a.eval z)) (hR : Rep E ρ m w) (he : exec (.mup sk x' y' z') r m = some (v, m')) : Step1 E P (execOp a.eval o) ρ m w v m' := by
 have hop : execOp a.eval o = (do Instr.mapUpdate t (a.eval x) (a.eval y) (a.eval z); pure .skip) := by
  rcases ho with ho | ho <;> simp only [execOp, ho]
 have hun : VR ρ un undef := ⟨#[], rfl, by simp [VRL]⟩
 simp only [exec] at he
 split at he
 ·rename_i j e1
  rw [e1] at hx
  obtain ⟨t', ht', hv⟩ := hx
  split at he
  case h_2 => simp at he
  rename_i es hg
  have hobj : ObjAt E ρ w t' (.map es) := hR.objs j _ t' hg ht'
  obtain ⟨hB, ents, clock, hh, h1, h2⟩ := hobj
  have hbl := (Array.getElem?_eq_some_iff.1 hh).1
  have hset : ∀ (O : Obj), (setObj t'.blk O).run P w = .ok () { w with heap := w.heap.setIfInBounds t'.blk O } := fun O => by
   simp [setObj, Sem.run, hh]
  have hold : ∀ (O : Obj) k, k ≠ t'.blk → (w.heap.setIfInBounds t'.blk O)[k]? = w.heap[k]? := fun O k hk => Array.getElem?_setIfInBounds_ne (by omega)
  split at he
  ·rename_i i u hf
   simp only [Option.some.injEq, Prod.mk.injEq] at he
   obtain ⟨rfl, rfl⟩ := he
   obtain ⟨res', g1, g2⟩ := findNow_of hd (by rw [hb]; decide) hy es ents.toList 0 _ h1 h2 hf
   cases res' with
   | none => exact g2.elim
   | some rr =>
     obtain ⟨j', u'⟩ := rr
     obtain ⟨rfl, hu, _, en, hen, hsame⟩ := g2
     simp only [Nat.sub_zero, Array.getElem?_toList] at hen
     have hkeep : (Instr.keyThatStays (((ents[i]?).map (·.key)).getD (a.eval y)) (a.eval y)).run P w = .ok (a.eval y) w := by
      rw [hen]
      simp only [Option.map_some, Option.getD_some]
      unfold Instr.keyThatStays
      have : Instr.sameBits 10000 en.key (a.eval y) = true := by
       unfold Instr.sameNow at hsame
       split at hsame
       ·rename_i k1 p k2 q e2 e3
        split at hsame
        ·rename_i hk
         simp only [Option.some.injEq, beq_iff_eq] at hsame
         rw [e3, e2, hk, hsame]; simp [Instr.sameBits]
        ·simp at hsame
       ·simp [skOf] at hd; rw [hb] at hd; simp at hd
       ·simp [skOf] at hd; rw [hb] at hd; simp at hd
       ·simp at hsame
      rw [if_pos this]; rfl
     obtain ⟨g3, g4⟩ := hR.write (w' := { w with heap := w.heap.setIfInBounds t'.blk (.map (ents.modify i fun e => { e with key := a.eval y, val := a.eval z }) clock) }) (o' := .map (es.set i (y'.ev r, z'.ev r))) hg rfl ht' rfl rfl rfl rfl (by simp) (hold _) (by
      refine ⟨hB, ents.modify i fun e => { e with key := a.eval y, val := a.eval z }, clock, by simp [hbl], ?_, ?_⟩
      ·have hm : (ents.modify i fun e => { e with key := a.eval y, val := a.eval z }).toList.map (·.key) = (ents.toList.map (·.key)).set i (a.eval y) := by
        apply List.ext_getElem?
        intro k
        simp only [Array.toList_modify, List.getElem?_map, List.getElem?_set, List.getElem?_modify]
        by_cases hik : i = k
        ·subst hik
         by_cases hlt : i < ents.size
         ·rw [if_pos rfl, if_pos (by simpa using hlt)]; simp [hlt]
         ·rw [if_pos rfl, if_neg (by simpa using hlt)]; simp [hlt]
        ·simp [hik]
       rw [hm, List.map_set]
       exact h1.set i hy
      ·have hm : (ents.modify i fun e => { e with key := a.eval y, val := a.eval z }).toList.map (·.val) = (ents.toList.map (·.val)).set i (a.eval z) := by
        apply List.ext_getElem?
        intro k
        simp only [Array.toList_modify, List.getElem?_map, List.getElem?_set, List.getElem?_modify]
        by_cases hik : i = k
        ·subst hik
         by_cases hlt : i < ents.size
         ·rw [if_pos rfl, if_pos (by simpa using hlt)]; simp [hlt]
         ·rw [if_pos rfl, if_neg (by simpa using hlt)]; simp [hlt]
        ·simp [hik]
       rw [hm, List.map_set]
       exact h2.set i hz)
     refine ⟨ρ, _, undef, .inr ⟨?_, rfl⟩, hun, g3, g4⟩
     rw [hop]
     simp only [Instr.mapUpdate, Sem.run_bind, run_und ht, Result.andThen_ok, hv, getObj, Sem.run, hh, run_checkKey hkt hd, Instr.findKey, run_und hkt, g1, Sem.run_pure, hkeep, hset]
  ·rename_i hf
   simp only [Option.some.injEq, Prod.mk.injEq] at he
   obtain ⟨rfl, rfl⟩ := he
   obtain ⟨res', g1, g2⟩ := findNow_of hd (by rw [hb]; decide) hy es ents.toList 0 _ h1 h2 hf
   cases res' with
   | some _ => exact g2.elim
   | none =>
     obtain ⟨g3, g4⟩ := hR.write (w' := { w with heap := w.heap.setIfInBounds t'.blk (.map (ents.push { key := a.eval y, val := a.eval z, born := clock }) (clock + 1)) }) (o' := .map (es ++ [(y'.ev r, z'.ev r)])) hg rfl ht' rfl rfl rfl rfl (by simp) (hold _) (by
      refine ⟨hB, ents.push { key := a.eval y, val := a.eval z, born := clock }, clock + 1, by simp [hbl], ?_, ?_⟩
      ·simp only [List.map_append, Array.toList_push, List.map_cons, List.map_nil]
       exact h1.append (VRL.one hy)
      ·simp only [List.map_append, Array.toList_push, List.map_cons, List.map_nil]
       exact h2.append (VRL.one hz))
     refine ⟨ρ, _, undef, .inr ⟨?_, rfl⟩, hun, g3, g4⟩
     rw [hop]
     simp only [Instr.mapUpdate, Sem.run_bind, run_und ht, Result.andThen_ok, hv, getObj, Sem.run, hh, run_checkKey hkt hd, Instr.findKey, run_und hkt, g1, Sem.run_pure, hset]
  ·simp at he
 ·simp at he
theorem sound_cvm {s t e : TypeId} {x : Operand} {x' : X} (ho : o.op = .convert s t x) (hst : s = t) (ht : P.underlying t = some (.slice e)) (he8 : P.underlying e = some (.int .u8)) (hx : VR ρ (x'.ev r) (a.eval x)) (hR : Rep E ρ m w) (he : exec (.cvm x') r m = some (v, m')) : Step1 E P (execOp a.eval o) ρ m w v m' := by
 subst hst
 simp only [exec] at he
 split at he
 ·rename_i j q len cap ex e1
  rw [e1] at hx
  split at he
  case h_2 => simp at he
  rename_i c es hg
  simp only [Option.some.injEq, Prod.mk.injEq] at he
  obtain ⟨rfl, rfl⟩ := he
  have hx2 := hx
  obtain ⟨t', ht', hv⟩ := hx
  have hobj : CellsAt E ρ w t' c true es := hR.objs j _ t' hg ht'
  obtain ⟨arr, el, fz, a1, a2, a3, a4⟩ := hobj.row
  have hbl := (Array.getElem?_eq_some_iff.1 a1).1
  let fz2 : Nat × Nat := if fz.1 == fz.2 then (arr.size, arr.size + 1) else (min fz.1 arr.size, max fz.2 (arr.size + 1))
  have hfz2 : arr.size ≤ fz2.1 := by
   simp only [fz2]
   split
   ·exact Nat.le_refl _
   ·rename_i hne
    have hne' : fz.1 ≠ fz.2 := by simpa using hne
    rcases a4.1 rfl with h | h
    ·exact absurd h hne'
    ·exact Nat.le_min.2 ⟨h, Nat.le_refl _⟩
  have hfr : (w.freeze ⟨t'.blk, arr.size, none⟩ 1).heap[t'.blk]? = some (.cells arr el fz2) := by
   unfold World.freeze
   rw [if_neg (by decide)]
   simp only [Array.getElem?_modify]
   rw [if_pos trivial, a1]
   rfl
  have hrest : ∀ k, k ≠ t'.blk → (w.freeze ⟨t'.blk, arr.size, none⟩ 1).heap[k]? = w.heap[k]? := fun k hk => by
   unfold World.freeze
   rw [if_neg (by decide)]
   simp only [Array.getElem?_modify]
   rw [if_neg (fun e => hk e.symm)]
  have hsz : (w.freeze ⟨t'.blk, arr.size, none⟩ 1).heap.size = w.heap.size := by unfold World.freeze; simp
  have hB : E.B ≤ t'.blk := by simpa using hobj.own
  have hrep : Rep E ρ m (w.freeze ⟨t'.blk, arr.size, none⟩ 1) := by
   refine ⟨by rw [hsz]; exact hR.base, ⟨by unfold World.freeze; exact hR.below.os, by unfold World.freeze; exact hR.below.tape, by unfold World.freeze; exact hR.below.output, by rw [hsz]; exact hR.below.size, fun k hk => (hrest k (by omega)).trans (hR.below.block k hk)⟩, hR.glob, hR.next, hR.fresh, fun i o' u hi hri => ?_, hR.apart⟩
   have h1 := hR.objs i o' u hi hri
   by_cases hij : i = j
   ·subst hij
    rw [hg] at hi; simp at hi; subst hi
    rw [ht'] at hri; simp at hri; subst hri
    exact ⟨hobj.own, arr, el, fz2, hfr, a2, a3, fun _ => .inr hfz2, a4.2⟩
   ·refine h1.congr (hrest _ ?_)
    cases hw1 : o'.wr with
    | true => exact fun e => hR.apart i j o' _ u t' hij hi hg hw1 rfl hri ht' e
    | false => have := h1.old hw1; omega
  refine ⟨ρ, _, a.eval x, .inl ?_, hx2, hrep, Ext.refl _ _⟩
  have hshape : w.shape? t'.blk = some (el, arr.size) := by simp [World.shape?, a1]
  simp only [execOp, ho, convert, Sem.run_bind, run_und ht, run_und he8, Result.andThen_ok, hv, beq_self_eq_true, markStringish, run_shape, hshape, run_freeze, Sem.run_pure]
 ·simp at he
theorem sound_mif {t : TypeId} {d : TypeDesc} {x : Operand} {x' : X} (ho : o.op = .makeInterface t x) (ht : P.underlying t = some d) (hd : ∀ ms, d ≠ .interface ms) (hx : VR ρ (x'.ev r) (a.eval x)) (hR : Rep E ρ m w) (he : exec (.mif t x') r m = some (v, m')) : Step1 E P (execOp a.eval o) ρ m w v m' := by
 simp only [exec, Option.some.injEq, Prod.mk.injEq] at he
 obtain ⟨rfl, rfl⟩ := he
 refine Step1.pure hR (.iface t (a.eval x)) ?_ ⟨_, rfl, hx⟩
 simp only [execOp, ho, Instr.makeInterface, Sem.run_bind, run_und ht, Result.andThen_ok]
 cases d <;> first | (exact absurd rfl (hd _)) | rfl
theorem sound_rgs {t : TypeId} {x : Operand} {x' : X} (ho : o.op = .range t x) (ht : P.underlying t = some .string) (hx : VR ρ (x'.ev r) (a.eval x)) (hR : Rep E ρ m w) (he : exec (.rgs x') r m = some (v, m')) : Step1 E P (execOp a.eval o) ρ m w v m' := by
 simp only [exec] at he
 split at he
 ·rename_i s hs
  rw [hs] at hx
  have hv := hx.str
  simp only [Option.some.injEq, Prod.mk.injEq] at he
  obtain ⟨rfl, rfl⟩ := he
  obtain ⟨g1, g2⟩ := hR.push (w' := { w with heap := w.heap.push (.stringIter s 0) }) (.sit s 0) ⟨w.heap.size, 0, 0⟩ (.stringIter s 0) rfl rfl rfl rfl rfl ⟨hR.base, rfl, by simp⟩
  refine ⟨_, _, .pointer (some ⟨w.heap.size, 0, none⟩), .inl ?_, ⟨_, Rho.put_self _ _ _, rfl⟩, g1, g2⟩
  simp [execOp, ho, Instr.range, run_und ht, hv]
 ·simp at he
theorem sound_nxs {x : Operand} {x' : X} (ho : o.op = .next x true) (hx : VR ρ (x'.ev r) (a.eval x)) (hR : Rep E ρ m w) (he : exec (.nxs x') r m = some (v, m')) : Step1 E P (execOp a.eval o) ρ m w v m' := by
 simp only [exec] at he
 split at he
 ·rename_i j q e1
  rw [e1] at hx
  obtain ⟨t', ht', hv⟩ := hx
  split at he
  ·rename_i s pos hg
   have hobj : ObjAt E ρ w t' (.sit s pos) := hR.objs j _ t' hg ht'
   obtain ⟨hB, hsh, hh⟩ := hobj
   have hbl := (Array.getElem?_eq_some_iff.1 hh).1
   split at he
   ·rename_i hq
    subst hq
    have hv' : a.eval x = .pointer (some ⟨t'.blk, 0, none⟩) := by rw [hv, hsh]
    have hget : (getObj t'.blk).run P w = .ok (.stringIter s pos) w := by simp [getObj, Sem.run, hh]
    have hset : ∀ (O : Obj), (setObj t'.blk O).run P w = .ok () { w with heap := w.heap.setIfInBounds t'.blk O } := fun O => by
     simp [setObj, Sem.run, hh]
    split at he
    ·rename_i hlt
     simp only [Option.some.injEq, Prod.mk.injEq] at he
     obtain ⟨rfl, rfl⟩ := he
     obtain ⟨g1, g2⟩ := hR.write (w' := { w with heap := w.heap.setIfInBounds t'.blk (.stringIter s (pos + (Utf8.decode s pos).2)) }) (o' := .sit s (pos + (Utf8.decode s pos).2)) hg rfl ht' rfl rfl rfl rfl (by simp) (fun k hk => Array.getElem?_setIfInBounds_ne (by omega)) ⟨hB, hsh, by simp [hbl]⟩
     refine ⟨_, _, .tuple #[.bool true, .int .i64 pos, .int .i32 (Utf8.decode s pos).1], .inl ?_, ⟨_, rfl, _, _, rfl, rfl, _, _, rfl, rfl, _, _, rfl, rfl, rfl⟩, g1, g2⟩
     simp only [execOp, ho, Instr.next, hv', Sem.run_bind, hget, Result.andThen_ok, hlt, if_true, hset, Sem.run_pure]
     rfl
    ·rename_i hlt
     simp only [Option.some.injEq, Prod.mk.injEq] at he
     obtain ⟨rfl, rfl⟩ := he
     refine Step1.pure hR (.tuple #[.bool false]) ?_ ⟨_, rfl, _, _, rfl, rfl, rfl⟩
     simp only [execOp, ho, Instr.next, hv', Sem.run_bind, hget, Result.andThen_ok, hlt, if_false, Sem.run_pure]
   ·simp at he
  ·simp at he
 ·simp at he
theorem sound_tas {t xt : TypeId} {d : TypeDesc} {i : TypeInfo} {zv : Value} {z : AV} {x : Operand} {x' : X} (ho : o.op = .typeAssert x xt t true) (ht : P.underlying t = some d) (hd : ∀ ms, d ≠ .interface ms) (hi : P.info? t = some i) (hz : i.zero = some zv) (hzv : ∀ ρ, VR ρ z zv) (hx : VR ρ (x'.ev r) (a.eval x)) (hR : Rep E ρ m w) (he : exec (.tas t z x') r m = some (v, m')) : Step1 E P (execOp a.eval o) ρ m w v m' := by
 simp only [exec] at he
 split at he
 ·rename_i u b hs
  rw [hs] at hx
  obtain ⟨y, hv, hy⟩ := hx
  split at he
  ·rename_i hut
   simp only [Option.some.injEq, Prod.mk.injEq] at he
   obtain ⟨rfl, rfl⟩ := he
   subst hut
   refine Step1.pure hR (.tuple #[y, .bool true]) ?_ ⟨_, rfl, _, _, rfl, hy, _, _, rfl, rfl, rfl⟩
   simp only [execOp, ho, Instr.typeAssert, Sem.run_bind, run_und ht, Result.andThen_ok, hv]
   cases d <;> first | (exact absurd rfl (hd _)) | simp
  ·rename_i hut
   simp only [Option.some.injEq, Prod.mk.injEq] at he
   obtain ⟨rfl, rfl⟩ := he
   refine Step1.pure hR (.tuple #[zv, .bool false]) ?_ ⟨_, rfl, _, _, rfl, hzv _, _, _, rfl, rfl, rfl⟩
   simp only [execOp, ho, Instr.typeAssert, Sem.run_bind, run_und ht, Result.andThen_ok, hv]
   cases d <;> first | (exact absurd rfl (hd _)) | simp [hut, run_zero hi hz]
 ·rename_i hs
  rw [hs] at hx
  simp only [VR] at hx
  simp only [Option.some.injEq, Prod.mk.injEq] at he
  obtain ⟨rfl, rfl⟩ := he
  refine Step1.pure hR (.tuple #[zv, .bool false]) ?_ ⟨_, rfl, _, _, rfl, hzv _, _, _, rfl, rfl, rfl⟩
  simp only [execOp, ho, Instr.typeAssert, Sem.run_bind, run_und ht, Result.andThen_ok, hx]
  cases d <;> first | (exact absurd rfl (hd _)) | simp [run_zero hi hz]
 ·simp at he
end
end Go.Vi
