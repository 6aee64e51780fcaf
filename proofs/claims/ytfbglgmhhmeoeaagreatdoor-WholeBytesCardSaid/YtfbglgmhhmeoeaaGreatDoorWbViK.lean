/- The interpreter Vi once more, made for the kernel: registers in a tree, each step a small term. No condition. -/
import Derived.Test.YtfbglgmhhmeoeaaGreatDoorWbViExt3
namespace Go.Vi
open Go.RowKit
set_option linter.unusedSimpArgs false
set_option linter.unusedVariables false
def k_mv (x : X) (e : X → AV) (m : AMem) : Option (AV × AMem) :=
  some (e x, m)
def k_pick (c : X) (a : X) (b : X) (e : X → AV) (m : AMem) : Option (AV × AMem) :=
  match e c with
    | .b t => some (if t then e a else e b, m)
    | _ => none
def k_alloc (ty : Nat) (z : List AV) (e : X → AV) (m : AMem) : Option (AV × AMem) :=
  some (.p (some (m.next, 0)), m.new (.cells z true ⟨z.length, some ty⟩))
def k_box (esz : Nat) (x : X) (e : X → AV) (m : AMem) : Option (AV × AMem) :=
  if (e x).cells.all AV.one then some (.p (some (m.next, 0)), m.new (.cells (e x).cells true esz)) else none
def k_build (z : List AV) (ps : List (Nat × Nat × X)) (e : X → AV) (m : AMem) : Option (AV × AMem) :=
  (fillX e ps z).map fun c => (.agg c, m)
def k_bsl (esz : Nat) (len : Nat) (z : List AV) (ps : List (Nat × Nat × X)) (e : X → AV) (m : AMem) : Option (AV × AMem) :=
  (fillX e ps z).map fun c => (.sl (some (m.next, 0)) len len true, m.new (.cells c true esz))
def k_ld (x : X) (e : X → AV) (m : AMem) : Option (AV × AMem) :=
  match e x with
    | .p (some (j, o)) => match m.get j with
      | some (.cells c _ _) => (c[o]?).map (·, m)
      | _ => none
    | _ => none
def k_ldn (n : Nat) (x : X) (e : X → AV) (m : AMem) : Option (AV × AMem) :=
  match e x with
    | .p (some (j, o)) => (rd m j o n).map fun c => (.agg c, m)
    | _ => none
def k_st (n : Nat) (a : X) (x : X) (e : X → AV) (m : AMem) : Option (AV × AMem) :=
  match e a with
    | .p (some (j, o)) => match m.get j with
      | some (.cells c wr es) =>
        if (e x).cells.length = n ∧ (e x).cells.all AV.one = true ∧ wr = true ∧ o + n ≤ c.length then some (un, m.put j (some (.cells (splice c o (e x).cells) wr es))) else none
      | _ => none
    | _ => none
def k_nc (x : X) (e : X → AV) (m : AMem) : Option (AV × AMem) :=
  match e x with
    | .p none | .ni | .nf | .agg _ | .tup _ => none
    | v => some (v, m)
def k_bin (op : BinOp) (x : X) (y : X) (e : X → AV) (m : AMem) : Option (AV × AMem) :=
  (binE op (e x) (e y)).map (·, m)
def k_eqb (neg : Bool) (x : X) (y : X) (e : X → AV) (m : AMem) : Option (AV × AMem) :=
  match e x, e y with
    | .b a, .b c => some (.b (if neg then !(a == c) else a == c), m)
    | _, _ => none
def k_eqn (kd : NK) (neg : Bool) (x : X) (y : X) (e : X → AV) (m : AMem) : Option (AV × AMem) :=
  match isNil kd (e x), isNil kd (e y) with
    | some a, some c => if a || c then some (.b (if neg then !(a == c) else a == c), m) else none
    | _, _ => none
def k_eqa (neg : Bool) (ks : List (Nat × SK)) (x : X) (y : X) (e : X → AV) (m : AMem) : Option (AV × AMem) :=
  match e x, e y with
    | .agg a, .agg c => (eqCells a c ks).map fun q => (.b (if neg then !q else q), m)
    | _, _ => none
def k_eqp (neg : Bool) (x : X) (y : X) (e : X → AV) (m : AMem) : Option (AV × AMem) :=
  match e x, e y with
    | .p (some (j, o)), .p (some (k, q)) => if j = k then some (.b (if neg then !(o == q) else o == q), m) else none
    | _, _ => none
def k_un (op : UnOp) (x : X) (e : X → AV) (m : AMem) : Option (AV × AMem) :=
  (unE op (e x)).map (·, m)
def k_cvi (k : IntKind) (x : X) (e : X → AV) (m : AMem) : Option (AV × AMem) :=
  match e x with
    | .i _ n => some (.i k (k.wrap n), m)
    | _ => none
def k_cvs (x : X) (e : X → AV) (m : AMem) : Option (AV × AMem) :=
  match e x with
    | .sl none _ _ _ => some (.s .empty, m)
    | .es => some (.s .empty, m)
    | .sl (some (j, o)) n _ _ => match rd m j o n with
      | some c => (bytesOfCells c).map fun l => (.s ⟨l.toArray⟩, m)
      | none => none
    | _ => none
def k_sbs (x : X) (e : X → AV) (m : AMem) : Option (AV × AMem) :=
  match e x with
    | .s x => some (.sl (some (m.next, 0)) x.size x.size false, m.new (.cells (cellsOfBytes x.data.toList) true ⟨1, none⟩))
    | _ => none
def k_fn (f : X) (first : List X) (cap : List X) (e : X → AV) (m : AMem) : Option (AV × AMem) :=
  match e f with
    | .f g [] [] => some (.f g (first.map e) (cap.map e), m)
    | _ => none
def k_fnc (g : Nat) (first : List X) (cap : List X) (e : X → AV) (m : AMem) : Option (AV × AMem) :=
  some (.f g (first.map e) (cap.map e), m)
def k_mks (esz : Nat) (bytes : Nat) (z : List AV) (l : X) (c : X) (e : X → AV) (m : AMem) : Option (AV × AMem) :=
  match e l, e c with
    | .i .i64 a, .i .i64 b =>
      if 0 ≤ a ∧ a ≤ b ∧ b * bytes ≤ 140737488355328 ∧ b ≤ 9223372036854775807 then some (.sl (some (m.next, 0)) a.toNat b.toNat true, m.new (.cells ((List.range (b.toNat * esz)).map fun k => z.getD (k % esz) un) true esz)) else none
    | _, _ => none
def k_slc (esz : Nat) (x : X) (lo : Option X) (hi : Option X) (mx : Option X) (e : X → AV) (m : AMem) : Option (AV × AMem) :=
  match e x with
    | .sl a len cap ex => match boundsX e len cap lo hi mx with
      | some (l, h, k) => match a with
        | none => some (.sl none (h - l) (k - l) true, m)
        | some (j, o) =>
          if ex || mx.isSome then some (.sl (some (j, if k = l then o else o + l * esz)) (h - l) (k - l) true, m)
          else if l < k then some (.sl (some (j, o + l * esz)) (h - l) (k - l) false, m)
          else if l = 0 then some (.sl (some (j, o)) (h - l) (k - l) false, m)
          else if h ≤ l then some (.es, m) else none
      | none => none
    | .es => match boundsX e 0 0 lo hi mx with
      | some (_, h, _) => if mx.isSome = false ∧ h = 0 then some (.es, m) else none
      | none => none
    | _ => none
def k_sls (x : X) (lo : Option X) (hi : Option X) (e : X → AV) (m : AMem) : Option (AV × AMem) :=
  match e x with
    | .s b => match boundsX e b.size b.size lo hi none with
      | some (l, h, _) => some (.s (b.extract l h), m)
      | none => none
    | _ => none
def k_sla (n : Nat) (esz : Nat) (x : X) (lo : Option X) (hi : Option X) (e : X → AV) (m : AMem) : Option (AV × AMem) :=
  match e x with
    | .p (some (j, o)) => match boundsX e n n lo hi none with
      | some (l, h, k) => some (.sl (some (j, if k = l then o else o + l * esz)) (h - l) (k - l) true, m)
      | none => none
    | _ => none
def k_fa (off : Nat) (x : X) (e : X → AV) (m : AMem) : Option (AV × AMem) :=
  match e x with
    | .p (some (j, o)) => some (.p (some (j, o + off)), m)
    | _ => none
def k_fl (off : Nat) (n : Option Nat) (x : X) (e : X → AV) (m : AMem) : Option (AV × AMem) :=
  match e x with
    | .agg l => match n with
      | some k => some (.agg ((l.drop off).take k), m)
      | none => (l[off]?).map (·, m)
    | _ => none
def k_ia (esz : Nat) (x : X) (i : X) (e : X → AV) (m : AMem) : Option (AV × AMem) :=
  match e x, e i with
    | .sl (some (j, o)) len _ _, .i _ k => if 0 ≤ k ∧ k < len then some (.p (some (j, o + k.toNat * esz)), m) else none
    | _, _ => none
def k_iaA (len : Nat) (esz : Nat) (x : X) (i : X) (e : X → AV) (m : AMem) : Option (AV × AMem) :=
  match e x, e i with
    | .p (some (j, o)), .i _ k => if 0 ≤ k ∧ k < len then some (.p (some (j, o + k.toNat * esz)), m) else none
    | _, _ => none
def k_ixs (x : X) (i : X) (e : X → AV) (m : AMem) : Option (AV × AMem) :=
  match e x, e i with
    | .s b, .i _ k => if 0 ≤ k then (b.data.toList[k.toNat]?).map fun c => (.i .u8 c.toNat, m) else none
    | _, _ => none
def k_ixA (len : Nat) (esz : Nat) (n : Option Nat) (x : X) (i : X) (e : X → AV) (m : AMem) : Option (AV × AMem) :=
  match e x, e i with
    | .agg l, .i _ k => if 0 ≤ k ∧ k < len then (match n with
      | some q => some (.agg ((l.drop (k.toNat * esz)).take q), m)
      | none => (l[k.toNat * esz]?).map (·, m)) else none
    | _, _ => none
def k_ext (x : X) (k : Nat) (e : X → AV) (m : AMem) : Option (AV × AMem) :=
  match e x with
    | .tup l => (l[k]?).map (·, m)
    | _ => none
def k_len (kd : Nat) (x : X) (e : X → AV) (m : AMem) : Option (AV × AMem) :=
  match kd, e x with
    | 0, .s b => some (.i .i64 b.size, m)
    | 1, .sl _ n _ _ => some (.i .i64 n, m)
    | 1, .es => some (.i .i64 0, m)
    | 2, .m none => some (.i .i64 0, m)
    | 2, .m (some j) => match m.get j with
      | some (.map es) => some (.i .i64 es.length, m)
      | _ => none
    | _, _ => none
def k_lenA (n : Nat) (e : X → AV) (m : AMem) : Option (AV × AMem) :=
  some (.i .i64 n, m)
def k_cap (x : X) (e : X → AV) (m : AMem) : Option (AV × AMem) :=
  match e x with
    | .sl none _ c _ => some (.i .i64 c, m)
    | .sl (some _) _ c true => some (.i .i64 c, m)
    | _ => none
def k_app (es : ES) (bytes : Nat) (s : X) (x : X) (e : X → AV) (m : AMem) : Option (AV × AMem) :=
  match srcE m es.n (e x) with
    | some (new, n) => if new.all AV.one then appE m es bytes (e s) new n else none
    | none => none
def k_cpy (esz : Nat) (d : X) (s : X) (e : X → AV) (m : AMem) : Option (AV × AMem) :=
  match srcE m esz (e s) with
    | some (new, n) => match e d with
      | .sl none len _ _ => some (.i .i64 (min n len : Nat), m)
      | .es => some (.i .i64 0, m)
      | .sl (some (j, o)) len _ _ => match m.get j with
        | some (.cells c wr es) =>
          if (new.take (min n len * esz)).all AV.one = true ∧ (min n len = 0 ∨ wr = true) ∧ o + (new.take (min n len * esz)).length ≤ c.length then
            some (.i .i64 (min n len : Nat), if min n len = 0 then m else m.put j (some (.cells (splice c o (new.take (min n len * esz))) wr es))) else none
        | _ => none
      | _ => none
    | none => none
def k_clr (z : List AV) (x : X) (e : X → AV) (m : AMem) : Option (AV × AMem) :=
  match e x with
    | .sl none _ _ _ => some (un, m)
    | .sl (some _) 0 _ _ => some (un, m)
    | .es => some (un, m)
    | .sl (some (j, o)) (n + 1) _ _ => match m.get j with
      | some (.cells c true es) =>
        if o + (n + 1) * z.length ≤ c.length then some (un, m.put j (some (.cells (splice c o ((List.range ((n + 1) * z.length)).map fun k => z.getD (k % z.length) un)) true es))) else none
      | _ => none
    | _ => none
def k_mn (xs : List X) (e : X → AV) (m : AMem) : Option (AV × AMem) :=
  match xs.map e with
    | a :: l => (minE l a).map (·, m)
    | [] => none
def k_mx (xs : List X) (e : X → AV) (m : AMem) : Option (AV × AMem) :=
  match xs.map e with
    | a :: l => (maxE l a).map (·, m)
    | [] => none
def k_mkm (e : X → AV) (m : AMem) : Option (AV × AMem) :=
  some (.m (some m.next), m.new (.map []))
def k_lkp (sk : SK) (z : AV) (ok : Bool) (mm : X) (k : X) (e : X → AV) (m : AMem) : Option (AV × AMem) :=
  match e mm with
    | .m none => some (if ok then .tup [z, .b false] else z, m)
    | .m (some j) => match m.get j with
      | some (.map es) => match findE sk (e k) es 0 with
        | some (some (_, v)) => some (if ok then .tup [v, .b true] else v, m)
        | some none => some (if ok then .tup [z, .b false] else z, m)
        | none => none
      | _ => none
    | _ => none
def k_mup (sk : SK) (mm : X) (k : X) (v : X) (e : X → AV) (m : AMem) : Option (AV × AMem) :=
  match e mm with
    | .m (some j) => match m.get j with
      | some (.map es) => match findE sk (e k) es 0 with
        | some (some (i, _)) => some (un, m.put j (some (.map (es.set i (e k, e v)))))
        | some none => some (un, m.put j (some (.map (es ++ [(e k, e v)]))))
        | none => none
      | _ => none
    | _ => none
def k_cvm (x : X) (e : X → AV) (m : AMem) : Option (AV × AMem) :=
  match e x with
    | .sl (some (j, o)) len cap ex => match m.get j with
      | some (.cells _ true _) => some (.sl (some (j, o)) len cap ex, m)
      | _ => none
    | _ => none
def k_mif (t : Nat) (x : X) (e : X → AV) (m : AMem) : Option (AV × AMem) :=
  some (.ifc t (e x), m)
def k_rgs (x : X) (e : X → AV) (m : AMem) : Option (AV × AMem) :=
  match e x with
    | .s s => some (.p (some (m.next, 0)), m.new (.sit s 0))
    | _ => none
def k_nxs (x : X) (e : X → AV) (m : AMem) : Option (AV × AMem) :=
  match e x with
    | .p (some (j, o)) => match m.get j with
      | some (.sit s pos) => if o = 0 then (if pos < s.size then some (.tup [.b true, .i .i64 pos, .i .i32 (Utf8.decode s pos).1], m.put j (some (.sit s (pos + (Utf8.decode s pos).2)))) else some (.tup [.b false], m)) else none
      | _ => none
    | _ => none
def k_tas (t : Nat) (z : AV) (x : X) (e : X → AV) (m : AMem) : Option (AV × AMem) :=
  match e x with
    | .ifc u v => if u = t then some (.tup [v, .b true], m) else some (.tup [z, .b false], m)
    | .ni => some (.tup [z, .b false], m)
    | _ => none
def k_pcv (x : X) (e : X → AV) (m : AMem) : Option (AV × AMem) :=
  match e x with
    | .p none => some (.p none, m)
    | .p (some (j, o)) => match m.get j with
      | some (.cells c _ _) => if o < c.length then some (.p (some (j, o)), m) else none
      | _ => none
    | _ => none
def k_pcu (u : Nat) (n : Nat) (x : X) (e : X → AV) (m : AMem) : Option (AV × AMem) :=
  match e x with
    | .p none => some (.p none, m)
    | .p (some (j, o)) => match m.get j with
      | some (.cells c _ es) => if es.ty = some u ∧ es.n = n ∧ o = 0 ∧ n ≤ c.length then some (.p (some (j, o)), m) else none
      | _ => none
    | _ => none
def k_usd (x : X) (e : X → AV) (m : AMem) : Option (AV × AMem) :=
  match e x with
    | .sl none _ _ _ => some (.p none, m)
    | .sl (some (j, o)) _ c _ => if c = 0 then none else some (.p (some (j, o)), m)
    | _ => none
def k_ustr (u : Nat) (p : X) (n : X) (e : X → AV) (m : AMem) : Option (AV × AMem) :=
  match e p, e n with
    | .p none, .i _ k => if k = 0 then some (.s .empty, m) else none
    | .p (some (j, o)), .i _ k => if k = 0 then some (.s .empty, m) else
      if k < 0 ∨ 9223372036854775807 < k then none else
      match m.get j with
      | some (.cells c true es) => if es.ty = some u ∧ o + k.toNat ≤ c.length then (bytesOfCells ((c.drop o).take k.toNat)).map fun l => (.s ⟨l.toArray⟩, m.put j none) else none
      | _ => none
    | _, _ => none
def k_i2s (x : X) (e : X → AV) (m : AMem) : Option (AV × AMem) :=
  match e x with
    | .i _ n => some (.s (Utf8.encode n), m)
    | _ => none
def k_bad (e : X → AV) (m : AMem) : Option (AV × AMem) :=
  none
def execK (o : VO) (e : X → AV) (m : AMem) : Option (AV × AMem) :=
  match o with
  | .mv x => k_mv x e m
  | .pick c a b => k_pick c a b e m
  | .alloc ty z => k_alloc ty z e m
  | .box esz x => k_box esz x e m
  | .build z ps => k_build z ps e m
  | .bsl esz len z ps => k_bsl esz len z ps e m
  | .ld x => k_ld x e m
  | .ldn n x => k_ldn n x e m
  | .st n a x => k_st n a x e m
  | .nc x => k_nc x e m
  | .bin op x y => k_bin op x y e m
  | .eqb neg x y => k_eqb neg x y e m
  | .eqn kd neg x y => k_eqn kd neg x y e m
  | .eqa neg ks x y => k_eqa neg ks x y e m
  | .eqp neg x y => k_eqp neg x y e m
  | .un op x => k_un op x e m
  | .cvi k x => k_cvi k x e m
  | .cvs x => k_cvs x e m
  | .sbs x => k_sbs x e m
  | .fn f first cap => k_fn f first cap e m
  | .fnc g first cap => k_fnc g first cap e m
  | .mks esz bytes z l c => k_mks esz bytes z l c e m
  | .slc esz x lo hi mx => k_slc esz x lo hi mx e m
  | .sls x lo hi => k_sls x lo hi e m
  | .sla n esz x lo hi => k_sla n esz x lo hi e m
  | .fa off x => k_fa off x e m
  | .fl off n x => k_fl off n x e m
  | .ia esz x i => k_ia esz x i e m
  | .iaA len esz x i => k_iaA len esz x i e m
  | .ixs x i => k_ixs x i e m
  | .ixA len esz n x i => k_ixA len esz n x i e m
  | .ext x k => k_ext x k e m
  | .len kd x => k_len kd x e m
  | .lenA n => k_lenA n e m
  | .cap x => k_cap x e m
  | .app es bytes s x => k_app es bytes s x e m
  | .cpy esz d s => k_cpy esz d s e m
  | .clr z x => k_clr z x e m
  | .mn xs => k_mn xs e m
  | .mx xs => k_mx xs e m
  | .mkm => k_mkm e m
  | .lkp sk z ok mm k => k_lkp sk z ok mm k e m
  | .mup sk mm k v => k_mup sk mm k v e m
  | .cvm x => k_cvm x e m
  | .mif t x => k_mif t x e m
  | .tas t z x => k_tas t z x e m
  | .rgs x => k_rgs x e m
  | .nxs x => k_nxs x e m
  | .pcv x => k_pcv x e m
  | .pcu u n x => k_pcu u n x e m
  | .usd x => k_usd x e m
  | .ustr u p n => k_ustr u p n e m
  | .i2s x => k_i2s x e m
  | .bad => k_bad e m
  | .call .. | .cv .. => none
theorem execK_eq (o : VO) (e : X → AV) (m : AMem) : execK o e m = execE o e m := by cases o <;> rfl
inductive RT where
  | nil
  | node (v : AV) (l r : RT)
  deriving Inhabited
def RT.full : Nat → RT
  | 0 => .nil
  | k + 1 => .node un (RT.full k) (RT.full k)
def RT.get : RT → Nat → AV
  | .nil, _ => un
  | .node v l r, n => bif Nat.beq n 0 then v else bif Nat.beq (n % 2) 1 then l.get (n / 2) else r.get (n / 2 - 1)
def RT.set : RT → Nat → AV → RT
  | .nil, _, _ => .nil
  | .node v l r, n, x => bif Nat.beq n 0 then .node x l r else bif Nat.beq (n % 2) 1 then .node v (l.set (n / 2) x) r else .node v l (r.set (n / 2 - 1) x)
def RT.ok : Nat → RT → Prop
  | 0, _ => True
  | k + 1, .node _ l r => RT.ok k l ∧ RT.ok k r
  | _ + 1, .nil => False
theorem beqF {a b : Nat} (h : a ≠ b) : Nat.beq a b = false := by
  cases hh : Nat.beq a b
  · rfl
  · exact absurd (Nat.eq_of_beq_eq_true hh) h
theorem beqT {a b : Nat} (h : a = b) : Nat.beq a b = true := by subst h; exact Nat.beq_refl a
theorem RT.ok_full : ∀ k, RT.ok k (RT.full k)
  | 0 => trivial
  | k + 1 => ⟨RT.ok_full k, RT.ok_full k⟩
theorem RT.get_full : ∀ k n, (RT.full k).get n = un
  | 0, _ => rfl
  | k + 1, n => by
    simp only [RT.full, RT.get, RT.get_full k]
    cases Nat.beq n 0 <;> cases Nat.beq (n % 2) 1 <;> rfl
theorem RT.ok_set : ∀ {k : Nat} {t : RT} {n : Nat} {x : AV}, RT.ok k t → RT.ok k (t.set n x)
  | 0, _, _, _, _ => trivial
  | k + 1, .node v l r, n, x, h => by
    simp only [RT.set]
    cases Nat.beq n 0
    · cases Nat.beq (n % 2) 1
      · exact ⟨h.1, RT.ok_set h.2⟩
      · exact ⟨RT.ok_set h.1, h.2⟩
    · exact h
theorem RT.get_set : ∀ {k : Nat} {t : RT} {n : Nat} {x : AV}, RT.ok k t → n + 1 < 2 ^ k → ∀ i, (t.set n x).get i = if i = n then x else t.get i
  | 0, t, n, x, _, hn, i => by simp at hn
  | k + 1, .node v l r, n, x, h, hn, i => by
    have hp : 2 ^ (k + 1) = 2 * 2 ^ k := by rw [Nat.pow_succ]; omega
    simp only [RT.set]
    by_cases h0 : n = 0
    · subst h0
      simp only [show Nat.beq 0 0 = true from rfl, cond_true, RT.get]
      by_cases hi : i = 0
      · subst hi; rfl
      · rw [if_neg hi, show Nat.beq i 0 = false from beqF hi]; rfl
    · rw [show Nat.beq n 0 = false from beqF h0]
      simp only [cond_false]
      by_cases h1 : n % 2 = 1
      · rw [show Nat.beq (n % 2) 1 = true from beqT h1]
        simp only [cond_true, RT.get]
        by_cases hi : i = 0
        · subst hi; rw [if_neg (fun e => h0 e.symm)]; rfl
        · rw [show Nat.beq i 0 = false from beqF hi]
          simp only [cond_false]
          by_cases h2 : i % 2 = 1
          · rw [show Nat.beq (i % 2) 1 = true from beqT h2]
            simp only [cond_true]
            rw [RT.get_set h.1 (by omega)]
            by_cases h3 : i = n
            · subst h3; simp
            · rw [if_neg h3, if_neg (by omega)]
          · rw [show Nat.beq (i % 2) 1 = false from beqF h2]
            simp only [cond_false]
            rw [if_neg (by intro e; subst e; exact h2 h1)]
      · rw [show Nat.beq (n % 2) 1 = false from beqF h1]
        simp only [cond_false, RT.get]
        by_cases hi : i = 0
        · subst hi; rw [if_neg (fun e => h0 e.symm)]; rfl
        · rw [show Nat.beq i 0 = false from beqF hi]
          simp only [cond_false]
          by_cases h2 : i % 2 = 1
          · rw [show Nat.beq (i % 2) 1 = true from beqT h2]
            simp only [cond_true]
            rw [if_neg (by intro e; subst e; exact h1 h2)]
          · rw [show Nat.beq (i % 2) 1 = false from beqF h2]
            simp only [cond_false]
            rw [RT.get_set h.2 (by omega)]
            by_cases h3 : i = n
            · subst h3; simp
            · rw [if_neg h3, if_neg (by omega)]
def RT.fill : RT → Nat → List AV → RT
  | t, _, [] => t
  | t, i, v :: l => RT.fill (t.set i v) (i + 1) l
def kSet (nt : Nat) (t : RT) (d : Option Nat) (v : AV) : Option RT :=
  match d with
  | none => some t
  | some d => bif Nat.blt d nt then some (t.set d v) else none
def kCv (C : CallF) (f : AV) (args : List AV) (m : AMem) : Option (AV × AMem) :=
  match f with
  | .f g first cap => C (.f g) (first ++ args ++ cap) m
  | .yl l => C (.y l) args m
  | _ => none
def execKC (C : CallF) (o : VO) (t : RT) (m : AMem) : Option (AV × AMem) :=
  match o with
  | .call f args => C (.f f) (args.map (X.at t.get)) m
  | .cv x args => kCv C (X.at t.get x) (args.map (X.at t.get)) m
  | o => execK o (X.at t.get) m
def kPair (x : Option RT) (m : AMem) : Option (RT × AMem) :=
  match x with
  | some t => some (t, m)
  | none => none
def kPut (nt : Nat) (t : RT) (d : Option Nat) (x : Option (AV × AMem)) : Option (RT × AMem) :=
  match x with
  | some (v, m) => kPair (kSet nt t d v) m
  | none => none
def kIs (b : Bool) (v : AV) : Bool :=
  match v with
  | .b c => c == b
  | _ => false
def wantsK (g : Option (Nat × Bool)) (t : RT) : Bool :=
  match g with
  | none => true
  | some (x, b) => kIs b (t.get x)
def stepK (nt : Nat) (C : CallF) (o : VOper) (t : RT) (m : AMem) : Option (RT × AMem) :=
  match wantsK o.g t with
  | true => kPut nt t o.d (execKC C o.o t m)
  | false => kPair (kSet nt t o.d un) m
def kNext {β : Type} (x : Option (RT × AMem)) (f : RT → AMem → Option β) : Option β :=
  match x with
  | some (t, m) => f t m
  | none => none
def runOpsK (nt : Nat) (C : CallF) : List VOper → RT → AMem → Option (RT × AMem)
  | [], t, m => some (t, m)
  | o :: l, t, m => kNext (stepK nt C o t m) fun t m => runOpsK nt C l t m
def kCons (x : RT × AMem) (l : Option (List (RT × AMem))) : Option (List (RT × AMem)) :=
  match l with
  | some l => some (x :: l)
  | none => none
def statesK (nt : Nat) (C : CallF) : List VOper → RT → AMem → Option (List (RT × AMem))
  | [], t, m => some [(t, m)]
  | o :: l, t, m => kNext (stepK nt C o t m) fun t' m' => kCons (t, m) (statesK nt C l t' m')
def kSame (a b c : Option (AV × AMem)) : Bool :=
  match a, b, c with
  | some (v, _), some (v1, _), some (v2, _) => v.beq v1 && v.beq v2
  | _, _, _ => false
def sameK (o : VOper) (st : List (RT × AMem)) (p q : Nat) : Bool :=
  match st[p]?, st[q]?, st[q + 1]? with
  | some (t, m), some (_, m1), some (_, m2) => match wantsK o.g t with
    | true => kSame (execK o.o (X.at t.get) m) (execK o.o (X.at t.get) m1) (execK o.o (X.at t.get) m2)
    | false => true
  | _, _, _ => false
def kCk (l : List VOper) (st : List (RT × AMem)) : List (Nat × Nat) → Bool
  | [] => true
  | (p, q) :: ck => (match l[p]? with | some o => sameK o st p q | none => false) && kCk l st ck
def kLast (l : List VOper) (ck : List (Nat × Nat)) (st : Option (List (RT × AMem))) : Option (RT × AMem) :=
  match st with
  | some st => bif kCk l st ck then st.getLast? else none
  | none => none
def runDrawK (nt : Nat) (C : CallF) (l : List VOper) (ck : List (Nat × Nat)) (t : RT) (m : AMem) : Option (RT × AMem) :=
  match ck with
  | [] => runOpsK nt C l t m
  | _ => kLast l ck (statesK nt C l t m)
abbrev OutK := Option (Ex × RT × AMem)
def kN (x : Option (RT × AMem)) : OutK :=
  match x with
  | some (t, m) => some (.n, t, m)
  | none => none
def kSeq (x : OutK) (f : RT → AMem → OutK) : OutK :=
  match x with
  | some (.n, t, m) => f t m
  | x => x
def kCond (v : AV) (a b : OutK) : OutK :=
  match v with
  | .b true => a
  | .b false => b
  | _ => none
def kBlk (id : Nat) (x : OutK) : OutK :=
  match x with
  | some (.x i, t, m) => bif Nat.beq i id then some (.n, t, m) else some (.x i, t, m)
  | x => x
def loopK (body : RT → AMem → OutK) : Nat → RT → AMem → OutK
  | 0, _, _ => none
  | k + 1, t, m => kSeq (body t m) fun t m => loopK body k t m
def kLeave (t : RT) (l : Nat) (x : Option (AV × AMem)) : OutK :=
  match x with
  | some (_, m2) => match m2.get l with
    | some (.loop st pend _ _ _ _) => if st = .busy then none else some (pend.getD .n, t, m2.put l none)
    | _ => none
  | none => none
def kRfn (C : CallF) (t : RT) (x : Option (Nat × AMem)) (f : AV) : OutK :=
  match x, f with
  | some (l, m1), .f g first cap => kLeave t l (C (.it g) (first ++ [.yl l] ++ cap) m1)
  | _, _ => none
def runK (nt : Nat) (C : CallF) (n : Nat) : VC → RT → AMem → OutK
  | .skip, t, m => some (.n, t, m)
  | .reg l, t, m => kN (runOpsK nt C l t m)
  | .regd l ck, t, m => kN (runDrawK nt C l ck t m)
  | .seq a b, t, m => kSeq (runK nt C n a t m) fun t m => runK nt C n b t m
  | .cond x a b, t, m => kCond (X.at t.get x) (runK nt C n a t m) (runK nt C n b t m)
  | .blk id b, t, m => kBlk id (runK nt C n b t m)
  | .loop b, t, m => loopK (fun t m => runK nt C n b t m) n t m
  | .exit id, t, m => some (.x id, t, m)
  | .ret, t, m => some (.ret, t, m)
  | .rfn x ps a b, t, m => kRfn C t (enterE m ((List.range nt).map t.get) ps a b) (X.at t.get x)
def resK (g : Nat → AV) (m : AMem) : List VRes → Option (List AV)
  | [] => some []
  | .t n :: l => (resK g m l).map (g n :: ·)
  | .c n none :: l => match k_ld (.t n) (X.at g) m with
    | some (v, _) => (resK g m l).map (v :: ·)
    | none => none
  | .c n (some k) :: l => match k_ldn k (.t n) (X.at g) m with
    | some (v, _) => (resK g m l).map (v :: ·)
    | none => none
def kOut (m : AMem) (x : Option (List AV)) (m2 : AMem) : Option (AV × AMem) :=
  match x with
  | some l => some (tupE l, { m2 with ds := m.ds, ro := m.ro })
  | none => none
def kEnd (res : List VRes) (m : AMem) (t : RT) (x : Option AMem) : Option (AV × AMem) :=
  match x with
  | some m2 => kOut m (resK t.get m2 res) m2
  | none => none
def kRet (res : List VRes) (m : AMem) (x : OutK) : Option (AV × AMem) :=
  match x with
  | some (.n, t, m1) => kEnd res m t (leaveE m1.ds m1)
  | some (.ret, t, m1) => kEnd res m t (leaveE m1.ds m1)
  | _ => none
def goK (C : CallF) (n nt : Nat) (res : List VRes) (body : VC) (args : List AV) (m : AMem) : Option (AV × AMem) :=
  bif Nat.ble nt 254 && Nat.ble args.length nt then kRet res m (runK nt C n body (RT.fill (RT.full 8) 0 args) { m with ds := [], ro := none }) else none
def kRoundEnd (m : AMem) (l : Nat) (x : OutK) : Option (AV × AMem) :=
  match x with
  | some (ex, _, m2) => match m2.get l with
    | some (.loop _ _ r2 ps2 asg2 body2) => some (.b (jumpOf ex).isNone, { m2.put l (some (.loop (if (jumpOf ex).isNone then .ready else .done) (jumpOf ex) r2 ps2 asg2 body2)) with ds := m.ds, ro := m.ro })
    | _ => none
  | none => none
def kRoundMid (C : CallF) (n nt : Nat) (m : AMem) (l : Nat) (body : VC) (x : OutK) : Option (AV × AMem) :=
  match x with
  | some (.n, t1, m1) => match m1.get l with
    | some (.loop .ready none r' ps' asg' body') => kRoundEnd m l (runK nt C n body t1 (m1.put l (some (.loop .busy none r' ps' asg' body'))))
    | _ => none
  | _ => none
def roundK (C : CallF) (n : Nat) (l : Nat) (args : List AV) (m : AMem) : Option (AV × AMem) :=
  match m.get l with
  | some (.loop .ready none r ps asg body) =>
    bif Nat.beq args.length ps.length && Nat.ble r.length 254 then kRoundMid C n r.length m l body (runK r.length C n asg (RT.fill (RT.full 8) 0 (setMany r ps args)) { m with ds := [], ro := some l }) else none
  | _ => none
def kFn (C : CallF) (n : Nat) (f : VFn) (it : Bool) (args : List AV) (m : AMem) : Option (AV × AMem) :=
  match f with
  | .go nt res body => goK C n nt res body args m
  | .ext g => bif it then none else (g args m).map fun q => (q.1, { q.2 with ds := m.ds, ro := m.ro })
  | .sum g => bif it then none else (g args m).map fun q => (q.1, { q.2 with ds := m.ds, ro := m.ro })
  | .none => none
def callK (T : Nat → VFn) : Nat → CallF
  | 0, _, _, _ => none
  | n + 1, .f f, args, m => kFn (callK T n) n (T f) false args m
  | n + 1, .it f, args, m => kFn (callK T n) n (T f) true args m
  | n + 1, .y l, args, m => roundK (callK T n) n l args m
end Go.Vi
