/- The model's operations as the interpreter's, and that each does what the model's does. No condition. -/
import Derived.Test.YtfbglgmhhmeoeaaGreatDoorWbViS7
namespace Go.Vi
open Go.RowKit
set_option linter.unusedSimpArgs false
set_option linter.unusedVariables false
def of1 : Value → Option AV
 | .bool b => some (.b b)
 | .int k n => some (.i k n)
 | .string s => some (.s s)
 | .pointer none => some (.p none)
 | .slice none l c => some (.sl none l c true)
 | .map none => some (.m none)
 | .func (.func f) a c => if a.size = 0 ∧ c.size = 0 then some (.f f [] []) else none
 | .nilFunc => some .nf
 | .nilIface => some .ni
 | .iface t v => (of1 v).map (.ifc t)
 | _ => none
def ofL : List Value → Option (List AV)
 | [] => some []
 | v :: l => match of1 v with
   | some a => (ofL l).map (a :: ·)
   | none => none
def ofV : Value → Option AV
 | .agg cs => (ofL cs.toList).map .agg
 | .tuple cs => (ofL cs.toList).map .tup
 | v => of1 v
theorem of1_sound {ρ : Rho} : ∀ (v : Value) (a : AV), of1 v = some a → VR ρ a v
 | .bool _, _, h | .int _ _, _, h | .string _, _, h | .nilFunc, _, h | .nilIface, _, h => by
   simp only [of1, Option.some.injEq] at h; subst h; simp [VR]
 | .pointer none, _, h | .slice none _ _, _, h | .map none, _, h => by
   simp only [of1, Option.some.injEq] at h; subst h; simp [VR]
 | .pointer (some _), _, h | .slice (some _) _ _, _, h | .map (some _), _, h => by simp [of1] at h
 | .float _ _, _, h | .complex _ _ _, _, h | .chan _, _, h | .agg _, _, h | .tuple _, _, h => by simp [of1] at h
 | .func f x c, a, h => by
   cases f with
   | func f =>
     simp only [of1] at h
     split at h
     ·rename_i hh
      simp only [Option.some.injEq] at h; subst h
      obtain rfl := Array.eq_empty_of_size_eq_zero hh.1
      obtain rfl := Array.eq_empty_of_size_eq_zero hh.2
      exact ⟨#[], #[], rfl, by simp [VRL], by simp [VRL]⟩
     ·simp at h
   | _ => simp [of1] at h
 | .iface t v, a, h => by
   simp only [of1] at h
   obtain ⟨b, hb, rfl⟩ := Option.map_eq_some_iff.1 h
   exact ⟨v, rfl, of1_sound v b hb⟩
theorem ofL_sound {ρ : Rho} : ∀ (l : List Value) (a : List AV), ofL l = some a → VRL ρ a l
 | [], a, h => by simp only [ofL, Option.some.injEq] at h; subst h; simp [VRL]
 | v :: l, a, h => by
   simp only [ofL] at h
   split at h
   ·rename_i b hb
    obtain ⟨c, hc, rfl⟩ := Option.map_eq_some_iff.1 h
    exact ⟨v, l, rfl, of1_sound v b hb, ofL_sound l c hc⟩
   ·simp at h
theorem ofV_sound {ρ : Rho} (v : Value) (a : AV) (h : ofV v = some a) : VR ρ a v := by
 unfold ofV at h
 split at h
 ·obtain ⟨c, hc, rfl⟩ := Option.map_eq_some_iff.1 h
  exact ⟨_, rfl, ofL_sound _ c hc⟩
 ·obtain ⟨c, hc, rfl⟩ := Option.map_eq_some_iff.1 h
  exact ⟨_, rfl, ofL_sound _ c hc⟩
 ·exact of1_sound v a h
def cx (G : Nat) : Operand → Option X
 | .tmp t => some (.t t)
 | .const v => (ofV v).map .c
 | .global g => if g < G then some (.c (.p (some (g, 0)))) else none
 | .func f => some (.c (.f f [] []))
theorem cx_sound {E : Env} {ρ : Rho} {m : AMem} {w : World} {r : List AV} {a : Act} (hr : VRL ρ r a.tmps.toList) (hR : Rep E ρ m w) {x : Operand} {y : X} (h : cx E.G x = some y) : VR ρ (y.ev r) (a.eval x) := by
 cases x with
 | tmp t =>
   simp only [cx, Option.some.injEq] at h; subst h
   simp only [X.ev, Act.eval]
   by_cases ht : t < r.length
   ·obtain ⟨v, hv, hvr⟩ := hr.get t r[t] (List.getElem?_eq_getElem ht)
    have h2 : a.tmps[t]? = some v := by simpa using hv
    rw [List.getD_eq_getElem?_getD, List.getElem?_eq_getElem ht, Array.getD_eq_getD_getElem?, h2]
    exact hvr
   ·have hl := hr.length
    have h1 : r[t]? = none := List.getElem?_eq_none (Nat.le_of_not_lt ht)
    have h2 : a.tmps[t]? = none := Array.getElem?_eq_none (by have := Nat.le_of_not_lt ht; simp at hl; omega)
    rw [List.getD_eq_getElem?_getD, h1, Array.getD_eq_getD_getElem?, h2]
    exact ⟨#[], rfl, by simp [VRL]⟩
 | const v =>
   simp only [cx] at h
   obtain ⟨b, hb, rfl⟩ := Option.map_eq_some_iff.1 h
   exact ofV_sound v b hb
 | global g =>
   simp only [cx] at h
   split at h
   ·rename_i hg
    simp only [Option.some.injEq] at h; subst h
    exact ⟨_, hR.glob g hg, by simp [Act.eval]⟩
   ·simp at h
 | func f =>
   simp only [cx, Option.some.injEq] at h; subst h
   exact ⟨#[], #[], rfl, by simp [VRL], by simp [VRL]⟩
def cxs (G : Nat) : List Operand → Option (List X)
 | [] => some []
 | x :: l => match cx G x, cxs G l with
   | some y, some k => some (y :: k)
   | _, _ => none
theorem cxs_sound {E : Env} {ρ : Rho} {m : AMem} {w : World} {r : List AV} {a : Act} (hr : VRL ρ r a.tmps.toList) (hR : Rep E ρ m w) : ∀ {xs : List Operand} {ys : List X}, cxs E.G xs = some ys → VRL ρ (ys.map (X.ev r)) (xs.map a.eval)
 | [], ys, h => by simp only [cxs, Option.some.injEq] at h; subst h; simp [VRL]
 | x :: l, ys, h => by
   simp only [cxs] at h
   split at h
   ·rename_i y k hy hk
    simp only [Option.some.injEq] at h; subst h
    exact ⟨_, _, rfl, cx_sound hr hR hy, cxs_sound hr hR hk⟩
   ·simp at h
def cxo (G : Nat) : Option Operand → Option (Option X)
 | none => some none
 | some x => (cx G x).map some
theorem cxo_sound {E : Env} {ρ : Rho} {m : AMem} {w : World} {r : List AV} {a : Act} (hr : VRL ρ r a.tmps.toList) (hR : Rep E ρ m w) {x : Option Operand} {y : Option X} (h : cxo E.G x = some y) : OXR ρ r y (x.map a.eval) := by
 cases x with
 | none => simp only [cxo, Option.some.injEq] at h; subst h; trivial
 | some x =>
   simp only [cxo] at h
   obtain ⟨b, hb, rfl⟩ := Option.map_eq_some_iff.1 h
   exact cx_sound hr hR hb
def zeroC (P : Program) (t : TypeId) : Option (List AV) :=
 match P.info? t with
 | some i => match i.zero with
   | some z => ofL z.cells.toList
   | none => none
 | none => none
theorem zeroC_spec {P : Program} {t : TypeId} {c : List AV} (h : zeroC P t = some c) : ∃ i z, P.info? t = some i ∧ i.zero = some z ∧ (∀ ρ, VRL ρ c z.cells.toList) := by
 unfold zeroC at h
 split at h
 ·rename_i i hi
  split at h
  ·rename_i z hz
   exact ⟨i, z, hi, hz, fun ρ => ofL_sound _ c h⟩
  ·simp at h
 ·simp at h
def cps (G : Nat) (place : Nat → Option (Nat × Nat)) : List (Nat × Operand) → Option (List (Nat × Nat × X))
 | [] => some []
 | (k, x) :: l => match place k, cx G x, cps G place l with
   | some (o, n), some y, some q => some ((o, n, y) :: q)
   | _, _, _ => none
theorem cps_sound {E : Env} {ρ : Rho} {m : AMem} {w : World} {r : List AV} {a : Act} (hr : VRL ρ r a.tmps.toList) (hR : Rep E ρ m w) {place : Nat → Option (Nat × Nat)} : ∀ {xs : List (Nat × Operand)} {ys : List (Nat × Nat × X)}, cps E.G place xs = some ys → PS place ρ r ys (xs.map fun q => (q.1, a.eval q.2))
 | [], ys, h => by simp only [cps, Option.some.injEq] at h; subst h; simp [PS]
 | (k, x) :: l, ys, h => by
   simp only [cps] at h
   split at h
   ·rename_i o n y q hp hy hq
    simp only [Option.some.injEq] at h; subst h
    exact ⟨hp, cx_sound hr hR hy, cps_sound hr hR hq⟩
   ·simp at h
def unary? : BinOp → Option Bool
 | .eql => some false
 | .neq => some true
 | _ => none
def compEqp (P : Program) (d : TypeDesc) (n : Bool) (x y : X) : Option VO :=
 match d with
 | .pointer e => match P.info? e with
   | some i => if i.size ≠ 0 then some (.eqp n x y) else none
   | none => none
 | _ => none
def compBin (P : Program) (op : BinOp) (t : TypeId) (x y : Operand) (x' y' : X) : Option VO :=
 match P.underlying t with
 | some (.int _) => some (.bin op x' y')
 | some .string => some (.bin op x' y')
 | some .bool => (unary? op).map fun n => .eqb n x' y'
 | some d => match nilKind d, unary? op with
   | some kd, some n => if (Operand.lit x || Operand.lit y) = true then some (.eqn kd n x' y') else compEqp P d n x' y'
   | none, some n => if P.eqGuardType P.depth t = false then (eqKs P t).map fun ks => .eqa n ks x' y' else none
   | _, _ => none
 | none => none
def compConv (P : Program) (s t : TypeId) (x : X) : Option VO :=
 match P.underlying s, P.underlying t with
 | some _, some (.int k) => some (.cvi k x)
 | some (.int _), some .string => some (.i2s x)
 | some (.slice e), some .string => match P.underlying e with
   | some (.int .u8) => some (.cvs x)
   | _ => none
 | some .string, some (.slice e) => match P.underlying e with
   | some (.int .u8) => some (.sbs x)
   | _ => none
 | some (.slice _), some (.slice e) => match P.underlying e with
   | some (.int .u8) => if s = t then some (.cvm x) else none
   | _ => none
 | some (.pointer e), some .unsafePointer => match P.info? e with
   | some i => if i.size ≠ 0 then some (.pcv x) else none
   | none => none
 | some .unsafePointer, some (.pointer u) => match P.info? u with
   | some i => if i.size ≠ 0 ∧ P.depth ≠ 0 then some (.pcu u i.size x) else none
   | none => none
 | _, _ => none
def isIface : TypeDesc → Bool
 | .interface _ => true
 | _ => false
def isIntD : TypeDesc → Bool
 | .int _ => true
 | _ => false
def compBuiltin (P : Program) (b : Builtin) (ts : List TypeId) (xs : List X) : Option VO :=
 match b, ts, xs with
 | .len, [t], [x] => match P.underlying t with
   | some .string => some (.len 0 x)
   | some (.slice _) => some (.len 1 x)
   | some (.map _ _) => some (.len 2 x)
   | some (.array n _) => some (.lenA n)
   | _ => none
 | .cap, [t], [x] => match P.underlying t with
   | some (.slice _) => some (.cap x)
   | _ => none
 | .append, [t, t2], [x, y] => match P.underlying t, P.underlying t2 with
   | some (.slice e), some d2 => match P.info? e, zeroC P e with
     | some i, some z => if isIntD d2 = false ∧ z.length = i.size then some (.app ⟨i.size, some e⟩ i.bytes x y) else none
     | _, _ => none
   | _, _ => none
 | .copy, [t, _], [x, y] => match P.underlying t with
   | some (.slice e) => match P.info? e with
     | some i => some (.cpy i.size x y)
     | none => none
   | _ => none
 | .clear, [t], [x] => match P.underlying t with
   | some (.slice e) => match zeroC P e with
     | some z => if z ≠ [] ∧ z.all AV.one = true then some (.clr z x) else none
     | none => none
   | _ => none
 | .unsafeSliceData, [_], [x] => some (.usd x)
 | .unsafeString, [t, _], [x, y] => match P.underlying t with
   | some (.pointer u) => if P.cellsOf u = 1 ∧ P.depth ≠ 0 then some (.ustr u x y) else none
   | _ => none
 | .min, _, xs => some (.mn xs)
 | .max, _, xs => some (.mx xs)
 | _, _, _ => none
def compOp (P : Program) (G : Nat) (op : Op) : Option VO :=
 match op with
 | .move x | .assign x => (cx G x).map .mv
 | .pick c a b => match cx G c, cx G a, cx G b with
   | some c, some a, some b => some (.pick c a b)
   | _, _, _ => none
 | .alloc t => match zeroC P t with
   | some z => if z.all AV.one = true then some (.alloc t z) else none
   | none => none
 | .box t x => match cx G x with
   | some x => some (.box (P.cellsOf t) x)
   | none => none
 | .build t parts => match zeroC P t, P.underlying t with
   | some z, some (.struct fs) => if fs.toList.all (fun f => (P.info? f.type).isSome) = true then
      (cps G (fun k => (fs.map fun f => (f.offset, P.cellsOf f.type))[k]?) parts.toList).map (.build z) else none
   | some z, some (.array _ e) => match P.info? e with
     | some i => (cps G (fun k => some (k * i.size, i.size)) parts.toList).map (.build z)
     | none => none
   | _, _ => none
 | .buildSlice t len parts => match P.underlying t with
   | some (.slice e) => match P.info? e, zeroC P e with
     | some i, some z => if len * i.size ≤ 16777216 ∧ z ≠ [] ∧ ((List.range (len * i.size)).map fun k => z.getD (k % z.length) un).all AV.one = true then
        (cps G (fun k => some (k * i.size, i.size)) parts.toList).map (.bsl i.size len ((List.range (len * i.size)).map fun k => z.getD (k % z.length) un)) else none
     | _, _ => none
   | _ => none
 | .load t x => match cx G x, P.underlying t, P.info? t with
   | some x, some d, some i => some (if aggD d then .ldn i.size x else .ld x)
   | _, _, _ => none
 | .store t a x => match cx G a, cx G x, P.info? t with
   | some a, some x, some i => some (.st i.size a x)
   | _, _, _ => none
 | .nilCheck x => (cx G x).map .nc
 | .binOp op t x y _ => match cx G x, cx G y with
   | some x', some y' => compBin P op t x y x' y'
   | _, _ => none
 | .unOp op _ x => (cx G x).map (.un op)
 | .convert s t x => match cx G x with
   | some x => compConv P s t x
   | none => none
 | .makeFunc (.func g) first captured => match cxs G first.toList, cxs G captured.toList with
   | some f, some c => some (.fnc g f c)
   | _, _ => none
 | .makeSlice t l c => match cx G l, cx G c, P.underlying t with
   | some l, some c, some (.slice e) => match P.info? e, zeroC P e with
     | some i, some z => if z.length = i.size ∧ z ≠ [] ∧ z.all AV.one = true then some (.mks i.size i.bytes z l c) else none
     | _, _ => none
   | _, _, _ => none
 | .slice t x lo hi mx => match cx G x, cxo G lo, cxo G hi, cxo G mx with
   | some x, some lo', some hi', some mx' => match P.underlying t with
     | some .string => if mx.isNone = true then some (.sls x lo' hi') else none
     | some (.slice e) => match P.info? e with
       | some i => some (.slc i.size x lo' hi' mx')
       | none => none
     | some (.array n e) => match P.info? e with
       | some i => if mx.isNone = true then some (.sla n i.size x lo' hi') else none
       | none => none
     | _ => none
   | _, _, _, _ => none
 | .fieldAddr t x k => match cx G x, P.underlying t with
   | some x, some (.struct fs) => match fs[k]? with
     | some f => match P.info? f.type with
       | some i => if i.size ≠ 0 then some (.fa f.offset x) else none
       | none => none
     | none => none
   | _, _ => none
 | .field t x k => match cx G x, P.underlying t with
   | some x, some (.struct fs) => match fs[k]? with
     | some f => match P.underlying f.type, P.info? f.type with
       | some d, some i => some (.fl f.offset (if aggD d then some i.size else none) x)
       | _, _ => none
     | none => none
   | _, _ => none
 | .indexAddr t x y => match cx G x, cx G y, P.underlying t with
   | some x, some y, some (.slice e) => match P.info? e with
     | some i => some (.ia i.size x y)
     | none => none
   | some x, some y, some (.array n e) => match P.info? e with
     | some i => some (.iaA n i.size x y)
     | none => none
   | _, _, _ => none
 | .index t x y => match cx G x, cx G y, P.underlying t with
   | some x, some y, some .string => some (.ixs x y)
   | some x, some y, some (.array n e) => match P.info? e, P.underlying e with
     | some i, some d => some (.ixA n i.size (if aggD d then some i.size else none) x y)
     | _, _ => none
   | _, _, _ => none
 | .extract x k => (cx G x).map fun x => .ext x k
 | .makeMap t res => match P.underlying t, res with
   | some (.map _ _), none => some .mkm
   | some (.map _ _), some (.const (.int _ _)) => some .mkm
   | _, _ => none
 | .lookup t x y ok => match cx G x, cx G y, P.underlying t with
   | some x, some y, some (.map kt e) => match (P.underlying kt).bind skOf, P.info? e with
     | some sk, some i => match i.zero with
       | some z => match ofV z with
         | some z' => if sk ≠ .b then some (.lkp sk z' ok x y) else none
         | none => none
       | none => none
     | _, _ => none
   | _, _, _ => none
 | .mapUpdate t x y z | .insert t x y z => match cx G x, cx G y, cx G z, P.underlying t with
   | some x, some y, some z, some (.map kt _) => match (P.underlying kt).bind skOf with
     | some sk => if sk = .i then some (.mup sk x y z) else none
     | none => none
   | _, _, _, _ => none
 | .makeInterface t x => match cx G x, P.underlying t with
   | some x, some d => if isIface d = false then some (.mif t x) else none
   | _, _ => none
 | .range t x => match cx G x, P.underlying t with
   | some x, some .string => some (.rgs x)
   | _, _ => none
 | .next x true => (cx G x).map .nxs
 | .typeAssert x _ t true => match cx G x, P.underlying t, P.info? t with
   | some x, some d, some i => match i.zero with
     | some z => match ofV z with
       | some z' => if isIface d = false then some (.tas t z' x) else none
       | none => none
     | none => none
   | _, _, _ => none
 | .call { callee := .builtin b, args, argTypes } => match cxs G args.toList with
   | some xs => compBuiltin P b argTypes.toList xs
   | none => none
 | _ => none
section
variable {E : Env} {P : Program} {ρ : Rho} {m m' : AMem} {w : World} {r : List AV} {a : Act} {o : Oper} {v : AV}
theorem unary_op {op : BinOp} {n : Bool} (h : unary? op = some n) : op = if n then .neq else .eql := by
 cases op <;> simp [unary?] at h <;> subst h <;> rfl
theorem compBin_sound {op : BinOp} {t t2 : TypeId} {x y : Operand} {x' y' : X} {vo : VO} (ho : o.op = .binOp op t x y t2) (hx : VR ρ (x'.ev r) (a.eval x)) (hy : VR ρ (y'.ev r) (a.eval y)) (hR : Rep E ρ m w) (h : compBin P op t x y x' y' = some vo) (he : exec vo r m = some (v, m')) : Step1 E P (execOp a.eval o) ρ m w v m' := by
 unfold compBin at h
 split at h
 ·simp only [Option.some.injEq] at h; subst h
  exact sound_bin ho hx hy hR he
 ·simp only [Option.some.injEq] at h; subst h
  exact sound_bin ho hx hy hR he
 ·rename_i ht
  obtain ⟨n, hn, rfl⟩ := Option.map_eq_some_iff.1 h
  exact sound_eqb ho (unary_op hn) ht hx hy hR he
 ·rename_i d _ _ _ ht
  split at h
  ·rename_i kd n hk hn
   split at h
   ·rename_i hl
    simp only [Option.some.injEq] at h; subst h
    exact sound_eqn ho (unary_op hn) ht hk hl hx hy hR he
   ·unfold compEqp at h
    split at h
    ·split at h
     ·rename_i i hi
      split at h
      ·rename_i hc
       simp only [Option.some.injEq] at h; subst h
       exact sound_eqp ho (unary_op hn) ht hi hc hx hy hR he
      ·simp at h
     ·simp at h
    ·simp at h
  ·rename_i n hk hn
   split at h
   ·rename_i hg
    obtain ⟨ks, hks, rfl⟩ := Option.map_eq_some_iff.1 h
    exact sound_eqa ho (unary_op hn) hks hg hx hy hR he
   ·simp at h
  ·simp at h
 ·simp at h
theorem compConv_sound {s t : TypeId} {x : Operand} {x' : X} {vo : VO} (ho : o.op = .convert s t x) (hx : VR ρ (x'.ev r) (a.eval x)) (hR : Rep E ρ m w) (h : compConv P s t x' = some vo) (he : exec vo r m = some (v, m')) : Step1 E P (execOp a.eval o) ρ m w v m' := by
 unfold compConv at h
 split at h
 ·rename_i d k hs ht
  simp only [Option.some.injEq] at h; subst h
  exact sound_cvi ho hs ht hx hR he
 ·rename_i k hs ht
  simp only [Option.some.injEq] at h; subst h
  exact sound_i2s ho hs ht hx hR he
 ·rename_i e hs ht
  split at h
  ·rename_i h8
   simp only [Option.some.injEq] at h; subst h
   exact sound_cvs ho hs h8 ht hx hR he
  ·simp at h
 ·rename_i e hs ht
  split at h
  ·rename_i h8
   simp only [Option.some.injEq] at h; subst h
   exact sound_sbs ho hs ht h8 hx hR he
  ·simp at h
 ·rename_i e0 e hs ht
  split at h
  ·rename_i h8
   split at h
   ·rename_i hst
    simp only [Option.some.injEq] at h; subst h
    exact sound_cvm ho hst ht h8 hx hR he
   ·simp at h
  ·simp at h
 ·rename_i e hs ht
  split at h
  ·rename_i i hi
   split at h
   ·rename_i hsz
    simp only [Option.some.injEq] at h; subst h
    exact sound_pcv ho hs ht hi hsz hx hR he
   ·simp at h
  ·simp at h
 ·rename_i u hs ht
  split at h
  ·rename_i i hi
   split at h
   ·rename_i hsz
    simp only [Option.some.injEq] at h; subst h
    obtain ⟨d, hd⟩ := Nat.exists_eq_succ_of_ne_zero hsz.2
    exact sound_pcu ho hs ht hi hsz.1 hd hx hR he
   ·simp at h
  ·simp at h
 ·simp at h
theorem arr1 {α : Type} {xs : Array α} {x : α} (h : xs.toList = [x]) : xs = #[x] := by cases xs; simp at h; simp [h]
theorem arr2 {α : Type} {xs : Array α} {x y : α} (h : xs.toList = [x, y]) : xs = #[x, y] := by cases xs; simp at h; simp [h]
theorem one_arg {xs : List Operand} {x' : X} (hx : VRL ρ ([x'].map (X.ev r)) (xs.map a.eval)) : ∃ x, xs = [x] ∧ VR ρ (x'.ev r) (a.eval x) := by
 obtain ⟨u, vs, e, hu, hn⟩ := hx
 simp only [VRL, List.map_nil] at hn; subst hn
 match xs, e with
 | [x], e => simp at e; subst e; exact ⟨x, rfl, hu⟩
theorem two_args {xs : List Operand} {x' y' : X} (hx : VRL ρ ([x', y'].map (X.ev r)) (xs.map a.eval)) : ∃ x y, xs = [x, y] ∧ VR ρ (x'.ev r) (a.eval x) ∧ VR ρ (y'.ev r) (a.eval y) := by
 obtain ⟨u, vs, e, hu, u2, vs2, e2, hu2, hn⟩ := hx
 simp only [VRL, List.map_nil] at hn; subst hn; subst e2
 match xs, e with
 | [x, y], e => simp at e; obtain ⟨rfl, rfl⟩ := e; exact ⟨x, y, rfl, hu, hu2⟩
theorem compBuiltin_sound {b : Builtin} {xs : Array Operand} {ts : Array TypeId} {ys : List X} {vo : VO} (ho : o.op = .call { callee := .builtin b, args := xs, argTypes := ts }) (hx : VRL ρ (ys.map (X.ev r)) (xs.toList.map a.eval)) (hR : Rep E ρ m w) (h : compBuiltin P b ts.toList ys = some vo) (he : exec vo r m = some (v, m')) : Step1 E P (execOp a.eval o) ρ m w v m' := by
 unfold compBuiltin at h
 split at h
 ·rename_i t y hts
  obtain rfl := arr1 hts
  obtain ⟨x, hxs, hx1⟩ := one_arg hx
  obtain rfl := arr1 hxs
  split at h <;> rename_i ht <;> first
   | (simp at h; done)
   | (simp only [Option.some.injEq] at h; subst h)
  ·exact sound_len ho ht (.inl ⟨rfl, rfl⟩) hx1 hR he
  ·exact sound_len ho ht (.inr (.inl ⟨⟨_, rfl⟩, rfl⟩)) hx1 hR he
  ·exact sound_len ho ht (.inr (.inr ⟨⟨_, _, rfl⟩, rfl⟩)) hx1 hR he
  ·exact sound_lenA ho ht hR he
 ·rename_i t y hts
  obtain rfl := arr1 hts
  obtain ⟨x, hxs, hx1⟩ := one_arg hx
  obtain rfl := arr1 hxs
  split at h
  ·rename_i ht
   simp only [Option.some.injEq] at h; subst h
   exact sound_cap ho ht hx1 hR he
  ·simp at h
 ·rename_i t t2 y1 y2 hts
  obtain rfl := arr2 hts
  obtain ⟨x, y, hxs, hx1, hx2⟩ := two_args hx
  obtain rfl := arr2 hxs
  split at h
  ·rename_i e d2 ht ht2
   split at h
   ·rename_i i z hi hz
    split at h
    ·rename_i hc
     simp only [Option.some.injEq] at h; subst h
     obtain ⟨i', zv, hi', hzv, hzc⟩ := zeroC_spec hz
     rw [hi] at hi'; simp at hi'; subst hi'
     refine sound_app ho ht ht2 (fun k hk => ?_) hi rfl rfl hzv ?_ ?_ hx1 hx2 hR he
     ·subst hk; simp [isIntD] at hc
     ·have := (hzc ρ).length; simp at this; simp only; omega
     ·intro q hq; exact Option.some.inj hq
    ·simp at h
   ·simp at h
  ·simp at h
 ·rename_i t t2 y1 y2 hts
  obtain rfl := arr2 hts
  obtain ⟨x, y, hxs, hx1, hx2⟩ := two_args hx
  obtain rfl := arr2 hxs
  split at h
  ·rename_i e ht
   split at h
   ·rename_i i hi
    simp only [Option.some.injEq] at h; subst h
    exact sound_cpy ho ht hi rfl hx1 hx2 hR he
   ·simp at h
  ·simp at h
 ·rename_i t y hts
  obtain rfl := arr1 hts
  obtain ⟨x, hxs, hx1⟩ := one_arg hx
  obtain rfl := arr1 hxs
  split at h
  ·rename_i e ht
   split at h
   ·rename_i z hz
    split at h
    ·rename_i hc
     simp only [Option.some.injEq] at h; subst h
     obtain ⟨i, zv, hi, hzv, hzc⟩ := zeroC_spec hz
     exact sound_clr ho ht hi hzv hzc hc.1 hc.2 hx1 hR he
    ·simp at h
   ·simp at h
  ·simp at h
 ·rename_i t y hts
  obtain rfl := arr1 hts
  obtain ⟨x, hxs, hx1⟩ := one_arg hx
  obtain rfl := arr1 hxs
  simp only [Option.some.injEq] at h; subst h
  exact sound_usd ho hx1 hR he
 ·rename_i t t2 y1 y2 hts
  obtain rfl := arr2 hts
  obtain ⟨x, y, hxs, hx1, hx2⟩ := two_args hx
  obtain rfl := arr2 hxs
  split at h
  ·rename_i u ht
   split at h
   ·rename_i hc
    simp only [Option.some.injEq] at h; subst h
    obtain ⟨d, hd⟩ := Nat.exists_eq_succ_of_ne_zero hc.2
    exact sound_ustr ho ht hc.1 hd hx1 hx2 hR he
   ·simp at h
  ·simp at h
 ·simp only [Option.some.injEq] at h; subst h
  exact sound_mn ho (by simpa using hx) hR he
 ·simp only [Option.some.injEq] at h; subst h
  exact sound_mx ho (by simpa using hx) hR he
 ·simp at h
theorem compOp_sound {vo : VO} (hr : VRL ρ r a.tmps.toList) (hR : Rep E ρ m w) (h : compOp P E.G o.op = some vo) (he : exec vo r m = some (v, m')) : Step1 E P (execOp a.eval o) ρ m w v m' := by
 have cs := fun {x : Operand} {y : X} (h : cx E.G x = some y) => cx_sound (r := r) (a := a) hr hR h
 unfold compOp at h
 split at h
 ·rename_i x ho
  obtain ⟨y, hy, rfl⟩ := Option.map_eq_some_iff.1 h
  exact sound_mv (.inl ho) (cs hy) hR he
 ·rename_i x ho
  obtain ⟨y, hy, rfl⟩ := Option.map_eq_some_iff.1 h
  exact sound_mv (.inr ho) (cs hy) hR he
 ·rename_i x y z ho
  split at h
  ·rename_i h1 h2 h3
   simp only [Option.some.injEq] at h; subst h
   exact sound_pick ho (cs h1) (cs h2) (cs h3) hR he
  ·simp at h
 ·rename_i t ho
  split at h
  ·rename_i z hz
   split at h
   ·rename_i h1
    simp only [Option.some.injEq] at h; subst h
    obtain ⟨i, zv, hi, hzv, hzc⟩ := zeroC_spec hz
    exact sound_alloc ho hi hzv hzc h1 hR he
   ·simp at h
  ·simp at h
 ·rename_i t x ho
  split at h
  ·rename_i y hy
   simp only [Option.some.injEq] at h; subst h
   exact sound_box ho (cs hy) hR he
  ·simp at h
 ·rename_i t parts ho
  split at h
  ·rename_i z fs hz ht
   split at h
   ·rename_i hall
    obtain ⟨ps, hps, rfl⟩ := Option.map_eq_some_iff.1 h
    obtain ⟨i, zv, hi, hzv, hzc⟩ := zeroC_spec hz
    refine sound_buildS ho hi hzv hzc ht (fun f hf => ?_) (by simpa using cps_sound hr hR hps) hR he
    have := List.all_eq_true.1 hall f hf
    obtain ⟨j, hj⟩ := Option.isSome_iff_exists.1 this
    simp [Program.cellsOf, hj]
   ·simp at h
  ·rename_i z n e hz ht
   split at h
   ·rename_i i hi
    obtain ⟨ps, hps, rfl⟩ := Option.map_eq_some_iff.1 h
    obtain ⟨i2, zv, hi2, hzv, hzc⟩ := zeroC_spec hz
    exact sound_buildA ho hi2 hzv hzc ht hi rfl (by simpa using cps_sound hr hR hps) hR he
   ·simp at h
  ·simp at h
 ·rename_i t len parts ho
  split at h
  ·rename_i e ht
   split at h
   ·rename_i i z hi hz
    split at h
    ·rename_i hc
     obtain ⟨ps, hps, rfl⟩ := Option.map_eq_some_iff.1 h
     obtain ⟨i2, zv, hi2, hzv, hzc⟩ := zeroC_spec hz
     rw [hi] at hi2; simp at hi2; subst hi2
     exact sound_bsl ho ht hi rfl hc.1 hzv hzc hc.2.1 rfl hc.2.2 (by simpa using cps_sound hr hR hps) hR he
    ·simp at h
   ·simp at h
  ·simp at h
 ·rename_i t x ho
  split at h
  ·rename_i y d i hy hd hi
   simp only [Option.some.injEq] at h; subst h
   cases hag : aggD d with
   | true => rw [hag] at he; exact sound_ldn ho hd hag hi rfl (cs hy) hR he
   | false => rw [hag] at he; exact sound_ld ho hd hag (cs hy) hR he
  ·simp at h
 ·rename_i t x y ho
  split at h
  ·rename_i x' y' i hx hy hi
   simp only [Option.some.injEq] at h; subst h
   exact sound_st ho hi rfl (cs hx) (cs hy) hR he
  ·simp at h
 ·rename_i x ho
  obtain ⟨y, hy, rfl⟩ := Option.map_eq_some_iff.1 h
  exact sound_nc ho (cs hy) hR he
 ·rename_i op t x y t2 ho
  split at h
  ·rename_i x' y' hx hy
   exact compBin_sound ho (cs hx) (cs hy) hR h he
  ·simp at h
 ·rename_i op t x ho
  obtain ⟨y, hy, rfl⟩ := Option.map_eq_some_iff.1 h
  exact sound_un ho (cs hy) hR he
 ·rename_i s t x ho
  split at h
  ·rename_i x' hx
   exact compConv_sound ho (cs hx) hR h he
  ·simp at h
 ·rename_i g first captured ho
  split at h
  ·rename_i f c hf hc
   simp only [Option.some.injEq] at h; subst h
   exact sound_fn ho rfl (by simpa using cxs_sound hr hR hf) (by simpa using cxs_sound hr hR hc) hR he
  ·simp at h
 ·rename_i t x y ho
  split at h
  ·rename_i x' y' e hx hy ht
   split at h
   ·rename_i i z hi hz
    split at h
    ·rename_i hc
     simp only [Option.some.injEq] at h; subst h
     obtain ⟨i2, zv, hi2, hzv, hzc⟩ := zeroC_spec hz
     rw [hi] at hi2; simp at hi2; subst hi2
     exact sound_mks ho ht hi rfl rfl hzv hzc hc.1 hc.2.1 hc.2.2 (cs hx) (cs hy) hR he
    ·simp at h
   ·simp at h
  ·simp at h
 ·rename_i t x lo hi mx ho
  split at h
  ·rename_i x' lo' hi' mx' hx hlo hhi hmx
   split at h
   ·rename_i ht
    split at h
    ·rename_i hn
     simp only [Option.some.injEq] at h; subst h
     obtain rfl : mx = none := by simpa using hn
     exact sound_sls ho ht (cs hx) (cxo_sound hr hR hlo) (cxo_sound hr hR hhi) hR he
    ·simp at h
   ·rename_i e ht
    split at h
    ·rename_i i hi
     simp only [Option.some.injEq] at h; subst h
     exact sound_slc ho ht hi rfl (cs hx) (cxo_sound hr hR hlo) (cxo_sound hr hR hhi) (cxo_sound hr hR hmx) hR he
    ·simp at h
   ·rename_i n e ht
    split at h
    ·rename_i i hi
     split at h
     ·rename_i hn
      simp only [Option.some.injEq] at h; subst h
      obtain rfl : mx = none := by simpa using hn
      exact sound_sla ho ht hi rfl (cs hx) (cxo_sound hr hR hlo) (cxo_sound hr hR hhi) hR he
     ·simp at h
    ·simp at h
   ·simp at h
  ·simp at h
 ·rename_i t x k ho
  split at h
  ·rename_i x' fs hx ht
   split at h
   ·rename_i f hf
    split at h
    ·rename_i i hi
     split at h
     ·rename_i hz
      simp only [Option.some.injEq] at h; subst h
      exact sound_fa ho ht hf hi hz rfl (cs hx) hR he
     ·simp at h
    ·simp at h
   ·simp at h
  ·simp at h
 ·rename_i t x k ho
  split at h
  ·rename_i x' fs hx ht
   split at h
   ·rename_i f hf
    split at h
    ·rename_i d i hd hi
     simp only [Option.some.injEq] at h; subst h
     refine sound_fl ho ht hf rfl hd ?_ (cs hx) hR he
     cases hag : aggD d with
     | true => simp [hi]
     | false => simp
    ·simp at h
   ·simp at h
  ·simp at h
 ·rename_i t x y ho
  split at h
  ·rename_i x' y' e hx hy ht
   split at h
   ·rename_i i hi
    simp only [Option.some.injEq] at h; subst h
    exact sound_ia ho ht hi rfl (cs hx) (cs hy) hR he
   ·simp at h
  ·rename_i x' y' n e hx hy ht
   split at h
   ·rename_i i hi
    simp only [Option.some.injEq] at h; subst h
    exact sound_iaA ho ht hi rfl (cs hx) (cs hy) hR he
   ·simp at h
  ·simp at h
 ·rename_i t x y ho
  split at h
  ·rename_i x' y' hx hy ht
   simp only [Option.some.injEq] at h; subst h
   exact sound_ixs ho ht (cs hx) (cs hy) hR he
  ·rename_i x' y' n e hx hy ht
   split at h
   ·rename_i i d hi hd
    simp only [Option.some.injEq] at h; subst h
    refine sound_ixA ho ht hd hi rfl ?_ (cs hx) (cs hy) hR he
    cases hag : aggD d with
    | true => simp
    | false => simp
   ·simp at h
  ·simp at h
 ·rename_i x k ho
  obtain ⟨y, hy, rfl⟩ := Option.map_eq_some_iff.1 h
  exact sound_ext ho (cs hy) hR he
 ·rename_i t res ho
  split at h
  ·rename_i ht
   simp only [Option.some.injEq] at h; subst h
   exact sound_mkm ho (.inl rfl) ht hR he
  ·rename_i ht
   simp only [Option.some.injEq] at h; subst h
   exact sound_mkm ho (.inr ⟨_, _, rfl⟩) ht hR he
  ·simp at h
 ·rename_i t x y ok ho
  split at h
  ·rename_i x' y' kt e hx hy ht
   split at h
   ·rename_i sk i hsk hi
    obtain ⟨d, hd, hskd⟩ := Option.bind_eq_some_iff.1 hsk
    split at h
    ·rename_i z hz
     split at h
     ·rename_i z' hz'
      split at h
      ·rename_i hb
       simp only [Option.some.injEq] at h; subst h
       exact sound_lkp ho ht hd hskd hb hi hz (fun ρ => ofV_sound z z' hz') (cs hx) (cs hy) hR he
      ·simp at h
     ·simp at h
    ·simp at h
   ·simp at h
  ·simp at h
 ·rename_i t x y z ho
  split at h
  ·rename_i x' y' z' kt e hx hy hz ht
   split at h
   ·rename_i sk hsk
    obtain ⟨d, hd, hskd⟩ := Option.bind_eq_some_iff.1 hsk
    split at h
    ·rename_i hb
     simp only [Option.some.injEq] at h; subst h
     exact sound_mup (.inl ho) ht hd hskd hb (cs hx) (cs hy) (cs hz) hR he
    ·simp at h
   ·simp at h
  ·simp at h
 ·rename_i t x y z ho
  split at h
  ·rename_i x' y' z' kt e hx hy hz ht
   split at h
   ·rename_i sk hsk
    obtain ⟨d, hd, hskd⟩ := Option.bind_eq_some_iff.1 hsk
    split at h
    ·rename_i hb
     simp only [Option.some.injEq] at h; subst h
     exact sound_mup (.inr ho) ht hd hskd hb (cs hx) (cs hy) (cs hz) hR he
    ·simp at h
   ·simp at h
  ·simp at h
 ·rename_i t x ho
  split at h
  ·rename_i x' d hx ht
   split at h
   ·rename_i hd
    simp only [Option.some.injEq] at h; subst h
    exact sound_mif ho ht (fun ms hms => by subst hms; simp [isIface] at hd) (cs hx) hR he
   ·simp at h
  ·simp at h
 ·rename_i t x ho
  split at h
  ·rename_i x' hx ht
   simp only [Option.some.injEq] at h; subst h
   exact sound_rgs ho ht (cs hx) hR he
  ·simp at h
 ·rename_i x ho
  obtain ⟨x', hx, rfl⟩ := Option.map_eq_some_iff.1 h
  exact sound_nxs ho (cs hx) hR he
 ·rename_i x xt t ho
  split at h
  ·rename_i x' d i hx ht hi
   split at h
   ·rename_i z hz
    split at h
    ·rename_i z' hz'
     split at h
     ·rename_i hd
      simp only [Option.some.injEq] at h; subst h
      exact sound_tas ho ht (fun ms hms => by subst hms; simp [isIface] at hd) hi hz (fun ρ => ofV_sound z z' hz') (cs hx) hR he
     ·simp at h
    ·simp at h
   ·simp at h
  ·simp at h
 ·rename_i b args ts ho
  split at h
  ·rename_i xs hxs
   exact compBuiltin_sound ho (cxs_sound hr hR hxs) hR h he
  ·simp at h
 ·simp at h
end
end Go.Vi
