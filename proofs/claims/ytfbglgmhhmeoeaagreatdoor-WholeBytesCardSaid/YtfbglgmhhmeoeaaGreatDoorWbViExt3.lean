/- Functions without a text, as the interpreter has them; and tables of functions. No condition. -/
import Derived.Test.YtfbglgmhhmeoeaaGreatDoorWbViLaw
import Derived.Lib.MakeNoZero
import GoSem.Extern.BytealgIndexByte
namespace Go.Vi
open Go.RowKit
set_option linter.unusedSimpArgs false
set_option linter.unusedVariables false
def xSame : List AV → AMem → Option (AV × AMem)
  | [v], m => some (v, m)
  | _, _ => none
def xIndexByte : List AV → AMem → Option (AV × AMem) := fun _ _ => none
def xIndexString : List AV → AMem → Option (AV × AMem) := fun _ _ => none
def AllOk (P : Program) (G : Nat) (ext : Nat → VFn) : Nat → List VFn → Prop
  | _, [] => True
  | i, x :: l => (x = .none ∨ x = fnOf P G ext i) ∧ AllOk P G ext (i + 1) l
theorem AllOk.get {P : Program} {G : Nat} {ext : Nat → VFn} : ∀ {i : Nat} {l : List VFn}, AllOk P G ext i l → ∀ k, l.getD k .none = .none ∨ l.getD k .none = fnOf P G ext (i + k)
  | _, [], _, _ => .inl rfl
  | i, x :: l, h, 0 => h.1
  | i, x :: l, h, k + 1 => by
    have := AllOk.get h.2 k
    rw [show i + (k + 1) = i + 1 + k by omega]
    exact this
end Go.Vi
namespace Go.Vi
open Go.RowKit
set_option linter.unusedSimpArgs false
set_option linter.unusedVariables false
def xMakeNoZero (u : Nat) : List AV → AMem → Option (AV × AMem)
  | [.i .i64 n], m => if 0 ≤ n ∧ n ≤ 1000000 then some (.sl (some (m.next, 0)) n.toNat 0 false, m.new (.cells [] true ⟨1, some u⟩)) else none
  | _, _ => none
theorem noZero_sound {E : Env} {P : Program} {ρ : Rho} {m : AMem} {w : World} {n : Int} (ps : Array TypeId) (t : TypeId) {e : TypeId} (ht : P.underlying t = some (.slice e)) (h0 : 0 ≤ n) (h1 : n ≤ 1000000) (hR : Rep E ρ m w) :
    ∃ v' ρ' w', (Extern.BytealgMakeNoZero.makeNoZero ps #[t] #[.int .i64 n]).run P w = .ok v' w' ∧ VR ρ' (.sl (some (m.next, 0)) n.toNat 0 false) v' ∧ Rep E ρ' (m.new (.cells [] true ⟨1, some e⟩)) w' ∧ Ext ρ m ρ' (m.new (.cells [] true ⟨1, some e⟩)) := by
  obtain ⟨k, rfl⟩ : ∃ k : Nat, n = k := ⟨n.toNat, by omega⟩
  obtain ⟨cs, hr, h2, h3⟩ := Go.Lib.run_makeNoZero (P := P) w ps t e ht k (by omega)
  obtain ⟨g1, g2⟩ := hR.newRow e [] [] cs ⟨1, some e⟩ cs.size VRL.nil (by simp) (by simp) (0, 0) (by simp) (by simp) (w.drawn + 2)
  refine ⟨_, ρ.put m.next ⟨w.heap.size, 0, cs.size⟩, _, hr, ?_, ?_, g2⟩
  · exact ⟨_, Rho.put_self _ _ _, by simp⟩
  · have e1 : (([] : List Value).toArray ++ cs) = cs := by simp
    rw [e1] at g1
    exact g1
end Go.Vi
namespace Go.Vi
open Go.RowKit
set_option linter.unusedSimpArgs false
set_option linter.unusedVariables false
def findByte (x : ByteArray) (c : UInt8) : Int :=
  match (List.range x.size).find? fun i => x[i]! == c with
  | some i => i
  | none => -1
def xFindByte : List AV → AMem → Option (AV × AMem)
  | [.s x, .i .u8 n], m => some (.i .i64 (findByte x n.toNat.toUInt8), m)
  | _, _ => none
theorem findByte_run {P : Program} {w : World} (x : ByteArray) (n : Int) : (Extern.BytealgIndexByte.indexByte #[.string x, .int .u8 n]).run P w = .ok (.int .i64 (findByte x n.toNat.toUInt8)) w := by
  have hdef : Extern.BytealgIndexByte.indexByte #[.string x, .int .u8 n] = (match (List.range x.size).find? (fun i => x[i]! == n.toNat.toUInt8) with | some i => pure (goInt i) | none => pure (goInt (-1))) := rfl
  rw [hdef]
  unfold findByte
  cases (List.range x.size).find? (fun i => x[i]! == n.toNat.toUInt8) <;> rfl
theorem callFunc_ext {P : Program} {f : FuncId} {fn : Func} {e : Array Value → Sem Value} {args : Array Value} {w : World} (hf : P.funcs[f]? = some fn) (hn : (fn.name == "runtime.NumGoroutine") = false) (hb : fn.body.isNone = true) (hx : (Extern.findNext fn).isNone = true) (he : Extern.find fn = some e) :
    (callFunc f args).run P w = ((e args).run P w).andThen fun v w' => .ok (.value v) w' := by
  have hx' : Extern.findNext fn = none := by simpa using hx
  have hn' : fn.name ≠ "runtime.NumGoroutine" := by simpa using hn
  have hb' : fn.body = none := by simpa using hb
  unfold callFunc
  simp [hf, hn', hb', hx', he]
end Go.Vi
