/- The operations of the interpreter Vi: what each does to abstract values and memory. No condition. -/
import Derived.Test.YtfbglgmhhmeoeaaGreatDoorWbViMem
namespace Go.Vi
open Go.RowKit
set_option linter.unusedSimpArgs false
set_option linter.unusedVariables false
def intBin (op : BinOp) (k : IntKind) (a b : Int) : Option AV :=
 match op with
 | .add => some (.i k (k.wrap (a + b)))
 | .sub => some (.i k (k.wrap (a - b)))
 | .mul => some (.i k (k.wrap (a * b)))
 | .quo => if b = 0 then none else some (.i k (k.wrap (a.tdiv b)))
 | .rem => if b = 0 then none else some (.i k (a.tmod b))
 | .and => some (.i k (k.wrap (BitVec.ofInt k.bits a &&& BitVec.ofInt k.bits b).toNat))
 | .or => some (.i k (k.wrap (BitVec.ofInt k.bits a ||| BitVec.ofInt k.bits b).toNat))
 | .xor => some (.i k (k.wrap (BitVec.ofInt k.bits a ^^^ BitVec.ofInt k.bits b).toNat))
 | .andNot => some (.i k (k.wrap (BitVec.ofInt k.bits a &&& ~~~BitVec.ofInt k.bits b).toNat))
 | .shl => if b < 0 then none else some (.i k (k.wrap (a * 2 ^ (min b.toNat k.bits))))
 | .shr => if b < 0 then none else some (.i k (a.fdiv (2 ^ (min b.toNat k.bits))))
 | .eql => some (.b (a == b))
 | .neq => some (.b (a != b))
 | .lss => some (.b (decide (a < b)))
 | .leq => some (.b (decide (a ≤ b)))
 | .gtr => some (.b (decide (a > b)))
 | .geq => some (.b (decide (a ≥ b)))
def strBin (op : BinOp) (x y : ByteArray) : Option AV :=
 match op with
 | .add => if ((x.size + y.size : Nat) : Int) > IntKind.i64.max then none else some (.s (x ++ y))
 | .eql => some (.b (x.toList == y.toList))
 | .neq => some (.b (!(x.toList == y.toList)))
 | .lss => some (.b (Op.bytesLess x.toList y.toList))
 | .leq => some (.b (Op.bytesLess x.toList y.toList || x.toList == y.toList))
 | .gtr => some (.b (!(Op.bytesLess x.toList y.toList || x.toList == y.toList)))
 | .geq => some (.b (!Op.bytesLess x.toList y.toList))
 | _ => none
def isShift : BinOp → Bool
 | .shl | .shr => true
 | _ => false
def binE (op : BinOp) (x y : AV) : Option AV :=
 match x, y with
 | .i k a, .i k' b => if isShift op || k == k' then intBin op k a b else none
 | .s a, .s b => strBin op a b
 | _, _ => none
def unE (op : UnOp) (x : AV) : Option AV :=
 match op, x with
 | .neg, .i k n => some (.i k (k.wrap (0 - n)))
 | .xor, .i k n => some (.i k (k.wrap (BitVec.ofInt k.bits (if k.signed then -1 else k.max) ^^^ BitVec.ofInt k.bits n).toNat))
 | .not, .b b => some (.b !b)
 | _, _ => none
def fillE (r : List AV) : List (Nat × Nat × X) → List AV → Option (List AV)
 | [], c => some c
 | (o, n, x) :: ps, c =>
   if (x.ev r).cells.length = n ∧ o + n ≤ c.length ∧ (x.ev r).cells.all AV.one = true then fillE r ps (splice c o (x.ev r).cells) else none
def isNil : NK → AV → Option Bool
 | .sl, .sl none _ _ _ | .m, .m none | .f, .nf | .p, .p none | .i, .ni => some true
 | .sl, .sl (some _) _ _ _ | .sl, .es | .m, .m (some _) | .f, .f .. | .p, .p (some _) | .i, .ifc .. => some false
 | _, _ => none
def eqScalar : SK → AV → AV → Option Bool
 | .i, .i k a, .i k' b => if k = k' then some (a == b) else none
 | .b, .b a, .b b => some (a == b)
 | .s, .s a, .s b => some (a == b)
 | _, _, _ => none
def eqCells (x y : List AV) : List (Nat × SK) → Option Bool
 | [] => some true
 | (o, k) :: l => match x[o]?, y[o]? with
   | some a, some b => match eqScalar k a b with
     | some true => eqCells x y l
     | some false => some false
     | none => none
   | _, _ => none
def boundE (v : AV) (y : Nat) : Option Nat :=
 match v with
 | .i _ n => if 0 ≤ n ∧ n ≤ y then some n.toNat else none
 | _ => none
def boundsE (r : List AV) (len cap : Nat) (lo hi mx : Option X) : Option (Nat × Nat × Nat) :=
 match (match mx with | some x => boundE (x.ev r) cap | none => some cap) with
 | none => none
 | some m =>
   match (match hi with | some x => boundE (x.ev r) m | none => if mx.isSome then none else some len) with
   | none => none
   | some h =>
     match (match lo with | some x => boundE (x.ev r) h | none => some 0) with
     | none => none
     | some l => some (l, h, m)
def rd (m : AMem) (j o n : Nat) : Option (List AV) :=
 match m.get j with
 | some (.cells c _ _) => if o + n ≤ c.length then some ((c.drop o).take n) else none
 | _ => none
def bytesOfCells : List AV → Option (List UInt8)
 | [] => some []
 | .i .u8 n :: l => (bytesOfCells l).map (UInt8.ofNat n.toNat :: ·)
 | _ :: _ => none
def cellsOfBytes (l : List UInt8) : List AV := l.map fun b => .i .u8 b.toNat
def srcE (m : AMem) (esz : Nat) : AV → Option (List AV × Nat)
 | .sl none n _ _ => if n = 0 then some ([], 0) else none
 | .sl (some (j, o)) n _ _ => (rd m j o (n * esz)).map (·, n)
 | .es => some ([], 0)
 | .s x => if esz = 1 then some (cellsOfBytes x.data.toList, x.size) else none
 | _ => none
def roomy (need bytes : Nat) : Bool := decide ((3 * need + 2048) * bytes ≤ 562949953421312) && decide (need ≤ 9223372036854775807)
def appE (m : AMem) (es : ES) (bytes : Nat) (s : AV) (new : List AV) (n : Nat) : Option (AV × AMem) :=
 match s with
 | .sl none 0 0 _ =>
   if n = 0 then some (s, m) else
   if roomy n bytes then some (.sl (some (m.next, 0)) n n false, m.new (.cells new true es)) else none
 | .sl (some (j, o)) len cap ex =>
   match m.get j with
   | some (.cells c wr e) =>
     if len + n ≤ cap then
      if n = 0 then some (s, m) else
      if wr = true ∧ o + (len * es.n + new.length) ≤ c.length then some (.sl (some (j, o)) (len + n) cap ex, m.put j (some (.cells (splice c (o + len * es.n) new) wr e))) else none
     else if roomy (len + n) bytes = true ∧ len ≤ cap ∧ o + cap * es.n ≤ c.length then
      if ex then some (.sl (some (m.next, 0)) (len + n) (len + n) false, m.new (.cells ((c.drop o).take (len * es.n) ++ new) true es))
      else if wr = true ∧ e.n = es.n ∧ o + cap * es.n = c.length then
       some (.sl (some (m.next, 0)) (len + n) (len + n) false, (m.put j none).new (.cells ((c.drop o).take (len * es.n) ++ new) true (e.grow es o)))
      else none
     else none
   | _ => none
 | .es => if n = 0 then some (s, m) else none
 | _ => none
def minE : List AV → AV → Option AV
 | [], a => some a
 | .i k y :: l, .i k' x => if k = k' then minE l (.i k (if y < x then y else x)) else none
 | _, _ => none
def maxE : List AV → AV → Option AV
 | [], a => some a
 | .i k y :: l, .i k' x => if k = k' then maxE l (.i k (if y > x then y else x)) else none
 | _, _ => none
def findE (sk : SK) (k : AV) : List (AV × AV) → Nat → Option (Option (Nat × AV))
 | [], _ => some none
 | e :: es, i => match eqScalar sk k e.1 with
   | some true => some (some (i, e.2))
   | some false => findE sk k es (i + 1)
   | none => none
def exec (o : VO) (r : List AV) (m : AMem) : Option (AV × AMem) :=
 match o with
 | .mv x => some (x.ev r, m)
 | .pick c a b => match c.ev r with
   | .b t => some (if t then a.ev r else b.ev r, m)
   | _ => none
 | .alloc ty z => some (.p (some (m.next, 0)), m.new (.cells z true ⟨z.length, some ty⟩))
 | .box esz x => if (x.ev r).cells.all AV.one then some (.p (some (m.next, 0)), m.new (.cells (x.ev r).cells true esz)) else none
 | .build z ps => (fillE r ps z).map fun c => (.agg c, m)
 | .bsl esz len z ps => (fillE r ps z).map fun c => (.sl (some (m.next, 0)) len len true, m.new (.cells c true esz))
 | .ld x => match x.ev r with
   | .p (some (j, o)) => match m.get j with
     | some (.cells c _ _) => (c[o]?).map (·, m)
     | _ => none
   | _ => none
 | .ldn n x => match x.ev r with
   | .p (some (j, o)) => (rd m j o n).map fun c => (.agg c, m)
   | _ => none
 | .st n a x => match a.ev r with
   | .p (some (j, o)) => match m.get j with
     | some (.cells c wr e) =>
       if (x.ev r).cells.length = n ∧ (x.ev r).cells.all AV.one = true ∧ wr = true ∧ o + n ≤ c.length then some (un, m.put j (some (.cells (splice c o (x.ev r).cells) wr e))) else none
     | _ => none
   | _ => none
 | .nc x => match x.ev r with
   | .p none | .ni | .nf | .agg _ | .tup _ => none
   | v => some (v, m)
 | .bin op x y => (binE op (x.ev r) (y.ev r)).map (·, m)
 | .eqb neg x y => match x.ev r, y.ev r with
   | .b a, .b c => some (.b (if neg then !(a == c) else a == c), m)
   | _, _ => none
 | .eqn kd neg x y => match isNil kd (x.ev r), isNil kd (y.ev r) with
   | some a, some c => if a || c then some (.b (if neg then !(a == c) else a == c), m) else none
   | _, _ => none
 | .eqa neg ks x y => match x.ev r, y.ev r with
   | .agg a, .agg c => (eqCells a c ks).map fun q => (.b (if neg then !q else q), m)
   | _, _ => none
 | .eqp neg x y => match x.ev r, y.ev r with
   | .p (some (j, o)), .p (some (k, q)) => if j = k then some (.b (if neg then !(o == q) else o == q), m) else none
   | _, _ => none
 | .un op x => (unE op (x.ev r)).map (·, m)
 | .cvi k x => match x.ev r with
   | .i _ n => some (.i k (k.wrap n), m)
   | _ => none
 | .cvs x => match x.ev r with
   | .sl none _ _ _ => some (.s .empty, m)
   | .es => some (.s .empty, m)
   | .sl (some (j, o)) n _ _ => match rd m j o n with
     | some c => (bytesOfCells c).map fun l => (.s ⟨l.toArray⟩, m)
     | none => none
   | _ => none
 | .sbs x => match x.ev r with
   | .s x => some (.sl (some (m.next, 0)) x.size x.size false, m.new (.cells (cellsOfBytes x.data.toList) true ⟨1, none⟩))
   | _ => none
 | .fn f first cap => match f.ev r with
   | .f g [] [] => some (.f g (first.map (X.ev r)) (cap.map (X.ev r)), m)
   | _ => none
 | .fnc g first cap => some (.f g (first.map (X.ev r)) (cap.map (X.ev r)), m)
 | .mks esz bytes z l c => match l.ev r, c.ev r with
   | .i .i64 a, .i .i64 b =>
     if 0 ≤ a ∧ a ≤ b ∧ b * bytes ≤ 140737488355328 ∧ b ≤ 9223372036854775807 then some (.sl (some (m.next, 0)) a.toNat b.toNat true, m.new (.cells ((List.range (b.toNat * esz)).map fun k => z.getD (k % esz) un) true esz)) else none
   | _, _ => none
 | .slc esz x lo hi mx => match x.ev r with
   | .sl a len cap ex => match boundsE r len cap lo hi mx with
     | some (l, h, k) => match a with
       | none => some (.sl none (h - l) (k - l) true, m)
       | some (j, o) =>
         if ex || mx.isSome then some (.sl (some (j, if k = l then o else o + l * esz)) (h - l) (k - l) true, m)
         else if l < k then some (.sl (some (j, o + l * esz)) (h - l) (k - l) false, m)
         else if l = 0 then some (.sl (some (j, o)) (h - l) (k - l) false, m)
         else if h ≤ l then some (.es, m) else none
     | none => none
   | .es => match boundsE r 0 0 lo hi mx with
     | some (_, h, _) => if mx.isSome = false ∧ h = 0 then some (.es, m) else none
     | none => none
   | _ => none
 | .sls x lo hi => match x.ev r with
   | .s b => match boundsE r b.size b.size lo hi none with
     | some (l, h, _) => some (.s (b.extract l h), m)
     | none => none
   | _ => none
 | .sla n esz x lo hi => match x.ev r with
   | .p (some (j, o)) => match boundsE r n n lo hi none with
     | some (l, h, k) => some (.sl (some (j, if k = l then o else o + l * esz)) (h - l) (k - l) true, m)
     | none => none
   | _ => none
 | .fa off x => match x.ev r with
   | .p (some (j, o)) => some (.p (some (j, o + off)), m)
   | _ => none
 | .fl off n x => match x.ev r with
   | .agg l => match n with
     | some k => some (.agg ((l.drop off).take k), m)
     | none => (l[off]?).map (·, m)
   | _ => none
 | .ia esz x i => match x.ev r, i.ev r with
   | .sl (some (j, o)) len _ _, .i _ k => if 0 ≤ k ∧ k < len then some (.p (some (j, o + k.toNat * esz)), m) else none
   | _, _ => none
 | .iaA len esz x i => match x.ev r, i.ev r with
   | .p (some (j, o)), .i _ k => if 0 ≤ k ∧ k < len then some (.p (some (j, o + k.toNat * esz)), m) else none
   | _, _ => none
 | .ixs x i => match x.ev r, i.ev r with
   | .s b, .i _ k => if 0 ≤ k then (b.data.toList[k.toNat]?).map fun c => (.i .u8 c.toNat, m) else none
   | _, _ => none
 | .ixA len esz n x i => match x.ev r, i.ev r with
   | .agg l, .i _ k => if 0 ≤ k ∧ k < len then (match n with
     | some q => some (.agg ((l.drop (k.toNat * esz)).take q), m)
     | none => (l[k.toNat * esz]?).map (·, m)) else none
   | _, _ => none
 | .ext x k => match x.ev r with
   | .tup l => (l[k]?).map (·, m)
   | _ => none
 | .len kd x => match kd, x.ev r with
   | 0, .s b => some (.i .i64 b.size, m)
   | 1, .sl _ n _ _ => some (.i .i64 n, m)
   | 1, .es => some (.i .i64 0, m)
   | 2, .m none => some (.i .i64 0, m)
   | 2, .m (some j) => match m.get j with
     | some (.map es) => some (.i .i64 es.length, m)
     | _ => none
   | _, _ => none
 | .lenA n => some (.i .i64 n, m)
 | .cap x => match x.ev r with
   | .sl none _ c _ => some (.i .i64 c, m)
   | .sl (some _) _ c true => some (.i .i64 c, m)
   | _ => none
 | .app es bytes s x => match srcE m es.n (x.ev r) with
   | some (new, n) => if new.all AV.one then appE m es bytes (s.ev r) new n else none
   | none => none
 | .cpy esz d s => match srcE m esz (s.ev r) with
   | some (new, n) => match d.ev r with
     | .sl none len _ _ => some (.i .i64 (min n len : Nat), m)
     | .es => some (.i .i64 0, m)
     | .sl (some (j, o)) len _ _ => match m.get j with
       | some (.cells c wr e) =>
         if (new.take (min n len * esz)).all AV.one = true ∧ (min n len = 0 ∨ wr = true) ∧ o + (new.take (min n len * esz)).length ≤ c.length then
          some (.i .i64 (min n len : Nat), if min n len = 0 then m else m.put j (some (.cells (splice c o (new.take (min n len * esz))) wr e))) else none
       | _ => none
     | _ => none
   | none => none
 | .clr z x => match x.ev r with
   | .sl none _ _ _ => some (un, m)
   | .sl (some _) 0 _ _ => some (un, m)
   | .es => some (un, m)
   | .sl (some (j, o)) (n + 1) _ _ => match m.get j with
     | some (.cells c true e) =>
       if o + (n + 1) * z.length ≤ c.length then some (un, m.put j (some (.cells (splice c o ((List.range ((n + 1) * z.length)).map fun k => z.getD (k % z.length) un)) true e))) else none
     | _ => none
   | _ => none
 | .mn xs => match xs.map (X.ev r) with
   | a :: l => (minE l a).map (·, m)
   | [] => none
 | .mx xs => match xs.map (X.ev r) with
   | a :: l => (maxE l a).map (·, m)
   | [] => none
 | .mkm => some (.m (some m.next), m.new (.map []))
 | .lkp sk z ok mm k => match mm.ev r with
   | .m none => some (if ok then .tup [z, .b false] else z, m)
   | .m (some j) => match m.get j with
     | some (.map es) => match findE sk (k.ev r) es 0 with
       | some (some (_, v)) => some (if ok then .tup [v, .b true] else v, m)
       | some none => some (if ok then .tup [z, .b false] else z, m)
       | none => none
     | _ => none
   | _ => none
 | .mup sk mm k v => match mm.ev r with
   | .m (some j) => match m.get j with
     | some (.map es) => match findE sk (k.ev r) es 0 with
       | some (some (i, _)) => some (un, m.put j (some (.map (es.set i (k.ev r, v.ev r)))))
       | some none => some (un, m.put j (some (.map (es ++ [(k.ev r, v.ev r)]))))
       | none => none
     | _ => none
   | _ => none
 | .cvm x => match x.ev r with
   | .sl (some (j, o)) len cap ex => match m.get j with
     | some (.cells _ true _) => some (.sl (some (j, o)) len cap ex, m)
     | _ => none
   | _ => none
 | .mif t x => some (.ifc t (x.ev r), m)
 | .rgs x => match x.ev r with
   | .s s => some (.p (some (m.next, 0)), m.new (.sit s 0))
   | _ => none
 | .nxs x => match x.ev r with
   | .p (some (j, o)) => match m.get j with
     | some (.sit s pos) => if o = 0 then (if pos < s.size then some (.tup [.b true, .i .i64 pos, .i .i32 (Utf8.decode s pos).1], m.put j (some (.sit s (pos + (Utf8.decode s pos).2)))) else some (.tup [.b false], m)) else none
     | _ => none
   | _ => none
 | .tas t z x => match x.ev r with
   | .ifc u v => if u = t then some (.tup [v, .b true], m) else some (.tup [z, .b false], m)
   | .ni => some (.tup [z, .b false], m)
   | _ => none
 | .pcv x => match x.ev r with
   | .p none => some (.p none, m)
   | .p (some (j, o)) => match m.get j with
     | some (.cells c _ _) => if o < c.length then some (.p (some (j, o)), m) else none
     | _ => none
   | _ => none
 | .pcu u n x => match x.ev r with
   | .p none => some (.p none, m)
   | .p (some (j, o)) => match m.get j with
     | some (.cells c _ es) => if es.ty = some u ∧ es.n = n ∧ o = 0 ∧ n ≤ c.length then some (.p (some (j, o)), m) else none
     | _ => none
   | _ => none
 | .usd x => match x.ev r with
   | .sl none _ _ _ => some (.p none, m)
   | .sl (some (j, o)) _ c _ => if c = 0 then none else some (.p (some (j, o)), m)
   | _ => none
 | .ustr u p n => match p.ev r, n.ev r with
   | .p none, .i _ k => if k = 0 then some (.s .empty, m) else none
   | .p (some (j, o)), .i _ k => if k = 0 then some (.s .empty, m) else
     if k < 0 ∨ 9223372036854775807 < k then none else
     match m.get j with
     | some (.cells c true es) => if es.ty = some u ∧ o + k.toNat ≤ c.length then (bytesOfCells ((c.drop o).take k.toNat)).map fun l => (.s ⟨l.toArray⟩, m.put j none) else none
     | _ => none
   | _, _ => none
 | .i2s x => match x.ev r with
   | .i _ n => some (.s (Utf8.encode n), m)
   | _ => none
 | .bad => none
 | .call .. | .cv .. => none
end Go.Vi
