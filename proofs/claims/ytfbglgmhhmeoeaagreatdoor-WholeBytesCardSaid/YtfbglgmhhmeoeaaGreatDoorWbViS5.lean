/- Each operation of the interpreter does what the model's operation does: copy, clear, make, bytes and strings, maps, numbers at once. No condition. -/
import Derived.Test.YtfbglgmhhmeoeaaGreatDoorWbViS4
import Derived.Laws.IdiomStrings
namespace Go.Vi
open Go.RowKit
set_option linter.unusedSimpArgs false
set_option linter.unusedVariables false
section
variable {E : Env} {P : Program} {ρ : Rho} {m m' : AMem} {w : World} {r : List AV} {a : Act} {o : Oper} {v : AV}
theorem sound_cpy {t t2 e : TypeId} {i : TypeInfo} {esz : Nat} {x y : Operand} {x' y' : X} (ho : o.op = .call { callee := .builtin .copy, args := #[x, y], argTypes := #[t, t2] }) (ht : P.underlying t = some (.slice e)) (hi : P.info? e = some i) (hsz : i.size = esz)
  (hx : VR ρ (x'.ev r) (a.eval x)) (hy : VR ρ (y'.ev r) (a.eval y)) (hR : Rep E ρ m w) (he : exec (.cpy esz x' y') r m = some (v, m')) : Step1 E P (execOp a.eval o) ρ m w v m' := by
 obtain ⟨cs, hop⟩ := exec_builtin a.eval ho
 simp only [exec] at he
 split at he
 case h_2 => simp at he
 rename_i new n hsrc
 obtain ⟨s1, s2, s3⟩ := src_sound (P := P) hy hsrc hR
 have hop2 : execOp a.eval o = (do pure (.value (← Builtin.copy_ #[t, t2] o.type #[a.eval x, a.eval y])) : Sem Next) := by
  rw [hop]; simp only [builtin, List.map_toArray, List.map_cons, List.map_nil]
 have run : ∀ (A : Option Addr) (len cap : Nat), a.eval x = .slice A len cap → ∃ vs : Array Value, VRL ρ (new.take (min n len * esz)) vs.toList ∧ (execOp a.eval o).run P w =
   ((match A with | some q => (storeCells q vs.toList).run P w | none => .ok () w).andThen fun _ w2 => .ok (.value (.int .i64 (min n len : Nat))) w2) := by
  intro A len cap hA
  obtain ⟨vs, h1, h2⟩ := s3 (min n len) (Nat.min_le_left _ _)
  refine ⟨vs, h2, ?_⟩
  rw [hop2]
  simp only [Sem.run_bind, Builtin.copy_, List.getElem?_toArray, List.getElem?_cons_zero, List.getElem?_cons_succ, run_und ht, Result.andThen_ok, hA, s1, run_size hi, hsz, Nat.min_def] at h1 ⊢
  rw [h1]
  cases A with
  | none => simp [goInt]
  | some q => simp [goInt]; cases Sem.run P (storeCells q vs.toList) w <;> rfl
 split at he
 ·rename_i len c ex e1
  rw [e1] at hx
  simp only [VR] at hx
  simp only [Option.some.injEq, Prod.mk.injEq] at he
  obtain ⟨rfl, rfl⟩ := he
  obtain ⟨vs, _, h2⟩ := run _ _ _ hx
  exact Step1.pure hR _ (by rw [h2]; rfl) (VR.mkI _ _)
 ·rename_i e1
  rw [e1] at hx
  obtain ⟨b, c, hv⟩ := hx
  simp only [Option.some.injEq, Prod.mk.injEq] at he
  obtain ⟨rfl, rfl⟩ := he
  obtain ⟨vs, h1, h2⟩ := run _ _ _ hv
  have : vs = #[] := by have := h1.length; simp at this; exact Array.eq_empty_of_size_eq_zero this.symm
  subst this
  refine Step1.pure hR (.int .i64 0) (by rw [h2]; simp [storeCells]) (VR.mkI _ _)
 ·rename_i j q len c ex e1
  rw [e1] at hx
  obtain ⟨t', ht', hv⟩ := hx
  obtain ⟨vs, h1, h2⟩ := run _ _ _ hv
  split at he
  case h_2 => simp at he
  rename_i cc wr es hg
  split at he
  case isFalse => simp at he
  rename_i hc
  obtain ⟨c1, c2, c3⟩ := hc
  simp only [Option.some.injEq, Prod.mk.injEq] at he
  obtain ⟨rfl, rfl⟩ := he
  by_cases h0 : min n len = 0
  ·rw [if_pos h0]
   have : vs = #[] := by have := h1.length; rw [h0] at this; simp at this; exact Array.eq_empty_of_size_eq_zero this.symm
   subst this
   exact Step1.pure hR (.int .i64 (min n len : Nat)) (by rw [h2]; simp [storeCells]) (VR.mkI _ _)
  ·rw [if_neg h0]
   have hwr : wr = true := c2.resolve_left h0
   subst hwr
   obtain ⟨w', hst, g1, g2⟩ := hR.store (P := P) hg ht' q (new.take (min n len * esz)) vs.toList h1 (by simpa using c1) c3
   refine ⟨ρ, w', .int .i64 (min n len : Nat), .inl ?_, VR.mkI _ _, g1, g2⟩
   rw [h2]
   simp [hst]
 ·simp at he
theorem rep_zero {z : List AV} {zv : Value} (hz : VRL ρ z zv.cells.toList) (k : Nat) : VRL ρ ((List.range (k * z.length)).map fun q => z.getD (q % z.length) un) ((Array.range (k * z.length)).map fun i => zv.cells[i % zv.cells.size]!).toList := by
 have hl : z.length = zv.cells.size := by have := hz.length; simpa using this
 refine VRL.of_get (by simp) fun q x hq => ?_
 rw [List.getElem?_map] at hq
 obtain ⟨p, hp, rfl⟩ := Option.map_eq_some_iff.1 hq
 obtain ⟨hp1, rfl⟩ := List.getElem?_eq_some_iff.1 hp
 simp at hp1
 have hz0 : 0 < z.length := by
  rcases Nat.eq_zero_or_pos z.length with h | h
  ·rw [h] at hp1; omega
  ·exact h
 have hm : q % z.length < z.length := Nat.mod_lt _ hz0
 obtain ⟨v', e', hr⟩ := hz.get (q % z.length) z[q % z.length] (List.getElem?_eq_getElem hm)
 refine ⟨v', ?_, by simpa [List.getD, hm] using hr⟩
 have e2 : zv.cells[q % z.length]? = some v' := by simpa using e'
 simp only [Array.toList_map, List.getElem?_map, Array.getElem?_toList]
 rw [Array.getElem?_range, if_pos hp1]
 simp only [Option.map_some, ← hl]
 rw [getElem!_def, e2]
theorem rep_zero_one {z : List AV} (h1 : z.all AV.one = true) (h0 : z ≠ []) (k : Nat) : ∀ x ∈ (List.range k).map fun q => z.getD (q % z.length) un, x.one = true := by
 intro x hx
 obtain ⟨q, _, rfl⟩ := List.mem_map.1 hx
 have hm : q % z.length < z.length := Nat.mod_lt _ (List.length_pos_iff.2 h0)
 simp only [List.all_eq_true] at h1
 rw [List.getD_eq_getElem?_getD, List.getElem?_eq_getElem hm]
 exact h1 _ (List.getElem_mem hm)
theorem sound_clr {t e : TypeId} {i : TypeInfo} {zv : Value} {z : List AV} {x : Operand} {x' : X} (ho : o.op = .call { callee := .builtin .clear, args := #[x], argTypes := #[t] }) (ht : P.underlying t = some (.slice e)) (hi : P.info? e = some i) (hz : i.zero = some zv) (hc : ∀ ρ, VRL ρ z zv.cells.toList) (h0 : z ≠ []) (h1 : z.all AV.one = true)
  (hx : VR ρ (x'.ev r) (a.eval x)) (hR : Rep E ρ m w) (he : exec (.clr z x') r m = some (v, m')) : Step1 E P (execOp a.eval o) ρ m w v m' := by
 obtain ⟨cs, hop⟩ := exec_builtin a.eval ho
 have hop2 : execOp a.eval o = (do pure (.value (← Builtin.clear_ #[t] o.type #[a.eval x])) : Sem Next) := by
  rw [hop]; simp only [builtin, List.map_toArray, List.map_cons, List.map_nil]
 have hun : VR ρ un (.tuple #[]) := ⟨#[], rfl, by simp [VRL]⟩
 simp only [exec] at he
 split at he
 ·rename_i l c ex e1
  rw [e1] at hx; simp only [VR] at hx
  simp only [Option.some.injEq, Prod.mk.injEq] at he
  obtain ⟨rfl, rfl⟩ := he
  exact Step1.pure hR (.tuple #[]) (by rw [hop2]; simp [Builtin.clear_, run_und ht, hx]) hun
 ·rename_i q c ex e1
  rw [e1] at hx; obtain ⟨t', _, hv⟩ := hx
  simp only [Option.some.injEq, Prod.mk.injEq] at he
  obtain ⟨rfl, rfl⟩ := he
  exact Step1.pure hR (.tuple #[]) (by rw [hop2]; simp [Builtin.clear_, run_und ht, hv]) hun
 ·rename_i e1
  rw [e1] at hx; obtain ⟨_, _, hv⟩ := hx
  simp only [Option.some.injEq, Prod.mk.injEq] at he
  obtain ⟨rfl, rfl⟩ := he
  exact Step1.pure hR (.tuple #[]) (by rw [hop2]; simp [Builtin.clear_, run_und ht, hv]) hun
 ·rename_i j q n c ex e1
  rw [e1] at hx; obtain ⟨t', ht', hv⟩ := hx
  split at he
  case h_2 => simp at he
  rename_i cc es hg
  split at he
  case isFalse => simp at he
  rename_i hle
  simp only [Option.some.injEq, Prod.mk.injEq] at he
  obtain ⟨rfl, rfl⟩ := he
  have hzl : z.length = zv.cells.size := by have := (hc ρ).length; simpa using this
  obtain ⟨w', hst, g1, g2⟩ := hR.store (P := P) hg ht' q _ _ (rep_zero (hc ρ) (n + 1)) (rep_zero_one h1 h0 _) (by simpa using hle)
  refine ⟨ρ, w', .tuple #[], .inl ?_, hun, g1, g2⟩
  rw [hop2]
  rw [hzl] at hst
  simp only [Sem.run_bind, Builtin.clear_, List.getElem?_toArray, List.getElem?_cons_zero, run_und ht, Result.andThen_ok, hv, run_zero hi hz, Builtin.zeroCells, hst]
  rfl
 ·simp at he
theorem sound_mks {t e : TypeId} {i : TypeInfo} {zv : Value} {z : List AV} {esz bytes : Nat} {x y : Operand} {x' y' : X} (ho : o.op = .makeSlice t x y) (ht : P.underlying t = some (.slice e)) (hi : P.info? e = some i) (hsz : i.size = esz) (hby : i.bytes = bytes) (hz : i.zero = some zv) (hc : ∀ ρ, VRL ρ z zv.cells.toList) (hzs : z.length = esz) (h0 : z ≠ []) (h1 : z.all AV.one = true)
  (hx : VR ρ (x'.ev r) (a.eval x)) (hy : VR ρ (y'.ev r) (a.eval y)) (hR : Rep E ρ m w) (he : exec (.mks esz bytes z x' y') r m = some (v, m')) : Step1 E P (execOp a.eval o) ρ m w v m' := by
 simp only [exec] at he
 split at he
 ·rename_i p q e1 e2
  rw [e1] at hx; rw [e2] at hy
  split at he
  ·rename_i hb
   obtain ⟨b1, b2, b3, b4⟩ := hb
   simp only [Option.some.injEq, Prod.mk.injEq] at he
   obtain ⟨rfl, rfl⟩ := he
   have hw : ∀ u : Int, 0 ≤ u → u ≤ 9223372036854775807 → IntKind.i64.wrap u = u := by
    intro u h1 h2
    have e1 : u % (2 ^ 64 : Int) = u := Int.emod_eq_of_lt h1 (by omega)
    simp only [IntKind.wrap, IntKind.bits, IntKind.signed, e1]
    rw [if_neg]
    simp; omega
   subst hzs
   have hzr := rep_zero (hc ρ) q.toNat
   have hzl : z.length = zv.cells.size := by have := (hc ρ).length; simpa using this
   obtain ⟨g1, g2⟩ := hR.newRow e _ _ #[] z.length 0 hzr (rep_zero_one h1 h0 _) (by simp) (0, 0) (by simp) nofun w.drawn
   refine ⟨_, _, .slice (some ⟨w.heap.size, 0, none⟩) p.toNat q.toNat, .inl ?_, ⟨_, Rho.put_self _ _ _, by simp⟩, g1, g2⟩
   have hpos : 0 < z.length := List.length_pos_iff.2 h0
   have hbm : (bytes : Int) * q ≤ 140737488355328 := by rw [Int.mul_comm]; exact b3
   simp only [execOp, ho, Instr.makeSlice, Sem.run_bind, run_und ht, Result.andThen_ok, hx.int, hy.int, asInt, asIntOf, Sem.run_pure, run_info hi, hby, hw p b1 (by omega), hw q (by omega) b4]
   rw [if_neg (by simp; omega)]
   simp only [run_askRoom, Sem.run_bind, Result.andThen_ok, run_size hi, hsz]
   by_cases hn : q.toNat * z.length = 0
   ·rw [if_pos hn]
    have hq0 : q.toNat = 0 := (Nat.mul_eq_zero.1 hn).resolve_right (by omega)
    have h9 : Array.map (fun _ : Nat => (default : Value)) (Array.range 0) = #[] := by apply Array.ext'; simp
    simp [hq0, newRow, h9]
   ·rw [if_neg hn]
    have hA : ∀ (f : Nat → Value) (n : Nat), Array.map f (Array.range n) = (List.map f (List.range n)).toArray := fun f n => by apply Array.ext'; simp
    simp only [Sem.run_bind, run_zero hi hz, Result.andThen_ok, Sem.run_pure]
    simp [newRow, hA]
  ·simp at he
 ·simp at he
theorem loop_bytes {P : Program} {W : World} {f : Value → ByteArray → Sem (ForInStep ByteArray)} (hf : ∀ n s, f (.int .u8 n) s = pure (ForInStep.yield (s.push (UInt8.ofNat n.toNat)))) : ∀ (l : List AV) (vs : List Value) (bs : List UInt8) (acc : ByteArray), VRL ρ l vs → bytesOfCells l = some bs →
  (forIn vs acc f : Sem ByteArray).run P W = .ok ⟨(acc.data.toList ++ bs).toArray⟩ W
 | [], vs, bs, acc, h, hb => by
   simp only [VRL] at h; subst h
   simp only [bytesOfCells, Option.some.injEq] at hb; subst hb
   simp
 | x :: l, vs, bs, acc, ⟨v, vs', e, hx, hl⟩, hb => by
   subst e
   unfold bytesOfCells at hb
   split at hb
   ·simp at *
   ·rename_i n l2 heq
    simp only [List.cons.injEq] at heq
    obtain ⟨rfl, rfl⟩ := heq
    obtain ⟨b2, hb2, rfl⟩ := Option.map_eq_some_iff.1 hb
    have hv := hx.int
    subst hv
    simp only [List.forIn_cons, hf, Sem.run_bind, Sem.run_pure, Result.andThen_ok]
    rw [loop_bytes hf l vs' b2 _ hl hb2]
    simp
   ·simp at hb
theorem sound_cvs {s t e : TypeId} {x : Operand} {x' : X} (ho : o.op = .convert s t x) (hs : P.underlying s = some (.slice e)) (he8 : P.underlying e = some (.int .u8)) (ht : P.underlying t = some .string) (hx : VR ρ (x'.ev r) (a.eval x)) (hR : Rep E ρ m w) (he : exec (.cvs x') r m = some (v, m')) : Step1 E P (execOp a.eval o) ρ m w v m' := by
 simp only [exec] at he
 split at he
 ·rename_i l c ex e1
  rw [e1] at hx; simp only [VR] at hx
  simp only [Option.some.injEq, Prod.mk.injEq] at he
  obtain ⟨rfl, rfl⟩ := he
  exact Step1.pure hR (.string .empty) (by simp [execOp, ho, convert, run_und hs, run_und ht, run_und he8, hx, Conv.bytesToString]) (VR.mkS _)
 ·rename_i e1
  rw [e1] at hx; obtain ⟨b, c, hv⟩ := hx
  simp only [Option.some.injEq, Prod.mk.injEq] at he
  obtain ⟨rfl, rfl⟩ := he
  exact Step1.pure hR (.string .empty) (by simp [execOp, ho, convert, run_und hs, run_und ht, run_und he8, hv, Conv.bytesToString, loadCells, loadCellsFrom]) (VR.mkS _)
 ·rename_i j q n c ex e1
  rw [e1] at hx; obtain ⟨t', ht', hv⟩ := hx
  split at he
  case h_2 => simp at he
  rename_i cc hrd
  obtain ⟨bs, hb, he⟩ := Option.map_eq_some_iff.1 he
  simp only [Prod.mk.injEq] at he
  obtain ⟨rfl, rfl⟩ := he
  unfold rd at hrd
  split at hrd
  ·rename_i c2 wr es hg
   split at hrd
   ·rename_i hle
    simp only [Option.some.injEq] at hrd
    subst hrd
    obtain ⟨vs, h1, h2⟩ := CellsAt.loads (P := P) (hR.objs j _ t' hg ht') q n hle
    refine Step1.pure hR (.string ⟨bs.toArray⟩) ?_ (VR.mkS _)
    simp only [execOp, ho, convert, Sem.run_bind, run_und hs, run_und ht, run_und he8, Result.andThen_ok, hv, Conv.bytesToString, h1]
    rw [← Array.forIn_toList, loop_bytes (fun _ _ => rfl) _ _ bs ByteArray.empty h2 hb]
    rfl
   ·simp at hrd
  ·simp at hrd
 ·simp at he
theorem sound_sbs {s t e : TypeId} {x : Operand} {x' : X} (ho : o.op = .convert s t x) (hs : P.underlying s = some .string) (ht : P.underlying t = some (.slice e)) (he8 : P.underlying e = some (.int .u8)) (hx : VR ρ (x'.ev r) (a.eval x)) (hR : Rep E ρ m w) (he : exec (.sbs x') r m = some (v, m')) : Step1 E P (execOp a.eval o) ρ m w v m' := by
 simp only [exec] at he
 split at he
 ·rename_i b e1
  rw [e1] at hx
  simp only [Option.some.injEq, Prod.mk.injEq] at he
  obtain ⟨rfl, rfl⟩ := he
  have hnc := grownCap_ge w b.size 0 e
  have hconv := run_bytes_of_string (P := P) w s t e b hs ht he8
  generalize grownCap w b.size 0 e = nc at *
  obtain ⟨g1, g2⟩ := hR.newRow e (cellsOfBytes b.data.toList) (b.data.toList.map fun c => .int .u8 c.toNat) (Array.replicate (nc - b.size) (.int .u8 0)) ⟨1, none⟩ (nc - b.size) (VRL.bytes _) (by intro u hu; obtain ⟨q, _, rfl⟩ := List.mem_map.1 hu; rfl) (by simp) ((bytesRow b nc).size, (bytesRow b nc).size + 1) (.inr (by simp [bytesRow])) nofun (w.drawn + 1)
  refine ⟨_, _, .slice (some ⟨w.heap.size, 0, none⟩) b.size nc, .inl ?_, ⟨_, Rho.put_self _ _ _, by simp; omega⟩, g1, g2⟩
  have hrow : bytesRow b nc = (b.data.toList.map fun c => Value.int .u8 c.toNat).toArray ++ Array.replicate (nc - b.size) (.int .u8 0) := by
   unfold bytesRow; rw [← List.map_toArray]
  simp only [execOp, ho, hx.str, Sem.run_bind, hconv, Result.andThen_ok]
  rw [hrow]; rfl
 ·simp at he
theorem sound_fn {f : Fn} {g : Nat} {first captured : Array Operand} {fs cs : List X} (ho : o.op = .makeFunc f first captured) (hf : f = .func g) (h1 : VRL ρ (fs.map (X.ev r)) (first.map a.eval).toList) (h2 : VRL ρ (cs.map (X.ev r)) (captured.map a.eval).toList) (hR : Rep E ρ m w) (he : exec (.fnc g fs cs) r m = some (v, m')) : Step1 E P (execOp a.eval o) ρ m w v m' := by
 simp only [exec, Option.some.injEq, Prod.mk.injEq] at he
 obtain ⟨rfl, rfl⟩ := he
 subst hf
 exact Step1.pure hR (.func (.func g) (first.map a.eval) (captured.map a.eval)) (by simp [execOp, ho, Instr.makeFunc]) ⟨_, _, rfl, h1, h2⟩
theorem sound_fl {t : TypeId} {fs : Array Field} {f : Field} {d : TypeDesc} {k : Nat} {x : Operand} {x' : X} {off : Nat} {n : Option Nat} (ho : o.op = .field t x k) (ht : P.underlying t = some (.struct fs)) (hf : fs[k]? = some f) (hoff : f.offset = off) (hd : P.underlying f.type = some d) (hn : match n with | none => aggD d = false | some q => aggD d = true ∧ (P.info? f.type).map (·.size) = some q)
  (hx : VR ρ (x'.ev r) (a.eval x)) (hR : Rep E ρ m w) (he : exec (.fl off n x') r m = some (v, m')) : Step1 E P (execOp a.eval o) ρ m w v m' := by
 simp only [exec] at he
 split at he
 ·rename_i l e1
  rw [e1] at hx
  obtain ⟨cs, hv, hl⟩ := hx
  split at he
  ·rename_i q
   simp only [Option.some.injEq, Prod.mk.injEq] at he
   obtain ⟨rfl, rfl⟩ := he
   obtain ⟨i, hi, hq⟩ := Option.map_eq_some_iff.1 hn.2
   refine Step1.pure hR (.agg (cs.extract off (off + q))) ?_ ⟨_, rfl, ?_⟩
   ·simp [execOp, ho, Instr.field, run_und ht, hf, hv, asAgg, part, run_agg hd, hn.1, hoff, run_size hi, hq]
   ·have := (hl.drop off).take q
    rw [Array.toList_extract, List.extract_eq_take_drop]
    simpa using this
  ·obtain ⟨u, hu, he⟩ := Option.map_eq_some_iff.1 he
   simp only [Prod.mk.injEq] at he
   obtain ⟨rfl, rfl⟩ := he
   obtain ⟨v', hk, hr⟩ := hl.get off u hu
   have hk' : cs[off]? = some v' := by simpa using hk
   exact Step1.pure hR v' (by simp [execOp, ho, Instr.field, run_und ht, hf, hv, asAgg, part, run_agg hd, hn, hoff, hk']) hr
 ·simp at he
theorem sound_ixA {t e : TypeId} {d : TypeDesc} {i : TypeInfo} {len esz : Nat} {x y : Operand} {x' y' : X} {n : Option Nat} (ho : o.op = .index t x y) (ht : P.underlying t = some (.array len e)) (hd : P.underlying e = some d) (hi : P.info? e = some i) (hsz : i.size = esz) (hn : match n with | none => aggD d = false | some q => aggD d = true ∧ q = esz)
  (hx : VR ρ (x'.ev r) (a.eval x)) (hy : VR ρ (y'.ev r) (a.eval y)) (hR : Rep E ρ m w) (he : exec (.ixA len esz n x' y') r m = some (v, m')) : Step1 E P (execOp a.eval o) ρ m w v m' := by
 simp only [exec] at he
 split at he
 ·rename_i l k q e1 e2
  rw [e1] at hx; rw [e2] at hy
  obtain ⟨cs, hv, hl⟩ := hx
  split at he
  case isFalse => simp at he
  rename_i hq
  split at he
  ·rename_i q'
   simp only [Option.some.injEq, Prod.mk.injEq] at he
   obtain ⟨rfl, rfl⟩ := he
   obtain ⟨hn1, rfl⟩ := hn
   refine Step1.pure hR (.agg (cs.extract (q.toNat * q') (q.toNat * q' + q'))) ?_ ⟨_, rfl, ?_⟩
   ·simp [execOp, ho, Instr.index, run_und ht, hv, hy.int, asIntOf, hq, part, run_agg hd, hn1, run_size hi, hsz]
   ·have := (hl.drop (q.toNat * q')).take q'
    rw [Array.toList_extract, List.extract_eq_take_drop]
    simpa using this
  ·obtain ⟨u, hu, he⟩ := Option.map_eq_some_iff.1 he
   simp only [Prod.mk.injEq] at he
   obtain ⟨rfl, rfl⟩ := he
   obtain ⟨v', hk, hr⟩ := hl.get _ u hu
   have hk' : cs[q.toNat * esz]? = some v' := by simpa using hk
   exact Step1.pure hR v' (by simp [execOp, ho, Instr.index, run_und ht, hv, hy.int, asIntOf, hq, part, run_agg hd, hn, run_size hi, hsz, hk']) hr
 ·simp at he
theorem sound_sla {t e : TypeId} {i : TypeInfo} {len esz : Nat} {x : Operand} {x' : X} {lo hi : Option Operand} {lo' hi' : Option X} (ho : o.op = .slice t x lo hi none) (ht : P.underlying t = some (.array len e)) (hi0 : P.info? e = some i) (hsz : i.size = esz)
  (hx : VR ρ (x'.ev r) (a.eval x)) (hl : OXR ρ r lo' (lo.map a.eval)) (hh : OXR ρ r hi' (hi.map a.eval)) (hR : Rep E ρ m w) (he : exec (.sla len esz x' lo' hi') r m = some (v, m')) : Step1 E P (execOp a.eval o) ρ m w v m' := by
 simp only [exec] at he
 split at he
 ·rename_i j q e1
  rw [e1] at hx
  obtain ⟨t', ht', hv⟩ := hx
  split at he
  ·rename_i l h k hb
   simp only [Option.some.injEq, Prod.mk.injEq] at he
   obtain ⟨rfl, rfl⟩ := he
   obtain ⟨k', hrun, h1, h2, h3, _⟩ := run_bounds (P := P) (w := w) (isS := false) hl hh (show OXR ρ r none none from trivial) hb (Nat.le_refl _)
   have hk : k' = k := by rw [h1, h2 rfl]; rfl
   subst hk
   refine Step1.pure hR (.slice (some (if k' = l then ⟨t'.blk, t'.sh + q, none⟩ else ⟨t'.blk, t'.sh + q + l * esz, none⟩)) (h - l) (k' - l)) ?_ ⟨t', ht', ?_⟩
   ·simp [execOp, ho, hv, Instr.sliceAt, run_und ht, Instr.sureAddr, hrun, run_size hi0, hsz, addr_add]
   ·simp only [if_true]
    by_cases hkl : k' = l
    ·rw [if_pos hkl, if_pos hkl]
    ·rw [if_neg hkl, if_neg hkl]; simp [Nat.add_assoc]
  ·simp at he
 ·simp at he
theorem foldlM_min : ∀ (l : List AV) (x : AV) (u : AV) (vs : List Value) (xv : Value), VRL ρ l vs → VR ρ x xv → minE l x = some u → ∃ uv, (vs.foldlM Builtin.min2 xv : Sem Value).run P w = .ok uv w ∧ VR ρ u uv
 | [], x, u, vs, xv, hl, hx, h => by
   simp only [VRL] at hl; subst hl
   simp only [minE, Option.some.injEq] at h; subst h
   exact ⟨xv, rfl, hx⟩
 | y :: l, x, u, vs, xv, ⟨yv, vs', e, hy, hl⟩, hx, h => by
   subst e
   unfold minE at h
   split at h
   ·simp at *
   ·rename_i k p l2 k' q heq
    simp only [List.cons.injEq] at heq
    obtain ⟨rfl, rfl⟩ := heq
    split at h
    ·rename_i hk
     subst hk
     obtain ⟨uv, h1, h2⟩ := foldlM_min l _ u vs' (.int k (if p < q then p else q)) hl (VR.mkI _ _) h
     refine ⟨uv, ?_, h2⟩
     rw [hx.int, hy.int]
     simp only [List.foldlM_cons, Builtin.min2, pure_bind]
     exact h1
    ·simp at h
   ·simp at h
theorem foldlM_max : ∀ (l : List AV) (x : AV) (u : AV) (vs : List Value) (xv : Value), VRL ρ l vs → VR ρ x xv → maxE l x = some u → ∃ uv, (vs.foldlM Builtin.max2 xv : Sem Value).run P w = .ok uv w ∧ VR ρ u uv
 | [], x, u, vs, xv, hl, hx, h => by
   simp only [VRL] at hl; subst hl
   simp only [maxE, Option.some.injEq] at h; subst h
   exact ⟨xv, rfl, hx⟩
 | y :: l, x, u, vs, xv, ⟨yv, vs', e, hy, hl⟩, hx, h => by
   subst e
   unfold maxE at h
   split at h
   ·simp at *
   ·rename_i k p l2 k' q heq
    simp only [List.cons.injEq] at heq
    obtain ⟨rfl, rfl⟩ := heq
    split at h
    ·rename_i hk
     subst hk
     obtain ⟨uv, h1, h2⟩ := foldlM_max l _ u vs' (.int k (if p > q then p else q)) hl (VR.mkI _ _) h
     refine ⟨uv, ?_, h2⟩
     rw [hx.int, hy.int]
     simp only [List.foldlM_cons, Builtin.max2, pure_bind]
     exact h1
    ·simp at h
   ·simp at h
theorem sound_mn {xs : Array Operand} {ts : Array TypeId} {ys : List X} (ho : o.op = .call { callee := .builtin .min, args := xs, argTypes := ts }) (hx : VRL ρ (ys.map (X.ev r)) (xs.map a.eval).toList) (hR : Rep E ρ m w) (he : exec (.mn ys) r m = some (v, m')) : Step1 E P (execOp a.eval o) ρ m w v m' := by
 obtain ⟨cs, hop⟩ := exec_builtin a.eval ho
 simp only [exec] at he
 split at he
 ·rename_i x l e1
  obtain ⟨u, hu, he⟩ := Option.map_eq_some_iff.1 he
  simp only [Prod.mk.injEq] at he
  obtain ⟨rfl, rfl⟩ := he
  rw [e1] at hx
  obtain ⟨xv, vs, hvs, hx1, hl⟩ := hx
  obtain ⟨uv, h1, h2⟩ := foldlM_min (P := P) (w := w) l x u vs xv hl hx1 hu
  refine Step1.pure hR uv ?_ h2
  rw [hop]
  simp only [builtin, Sem.run_bind, Builtin.min_, hvs, h1, Result.andThen_ok]
  rfl
 ·simp at he
theorem sound_mx {xs : Array Operand} {ts : Array TypeId} {ys : List X} (ho : o.op = .call { callee := .builtin .max, args := xs, argTypes := ts }) (hx : VRL ρ (ys.map (X.ev r)) (xs.map a.eval).toList) (hR : Rep E ρ m w) (he : exec (.mx ys) r m = some (v, m')) : Step1 E P (execOp a.eval o) ρ m w v m' := by
 obtain ⟨cs, hop⟩ := exec_builtin a.eval ho
 simp only [exec] at he
 split at he
 ·rename_i x l e1
  obtain ⟨u, hu, he⟩ := Option.map_eq_some_iff.1 he
  simp only [Prod.mk.injEq] at he
  obtain ⟨rfl, rfl⟩ := he
  rw [e1] at hx
  obtain ⟨xv, vs, hvs, hx1, hl⟩ := hx
  obtain ⟨uv, h1, h2⟩ := foldlM_max (P := P) (w := w) l x u vs xv hl hx1 hu
  refine Step1.pure hR uv ?_ h2
  rw [hop]
  simp only [builtin, Sem.run_bind, Builtin.max_, hvs, h1, Result.andThen_ok]
  rfl
 ·simp at he
end
end Go.Vi
