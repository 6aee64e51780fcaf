/- A new row of bytes that nobody has written: none of them is told. No condition. -/
import Derived.Test.YtjlckbphpmogjaaGreatDoorSfViExt
import Derived.Lib.MakeNoZero
namespace Go.Vi
open Go.RowKit
set_option linter.unusedSimpArgs false
set_option linter.unusedVariables false

def xMakeNoZero (u : Nat) : List AV → AMem → Option (AV × AMem)
  | [.i .i64 n], m => if 0 ≤ n ∧ n ≤ 1000000 then some (.sl (some (m.next, 0)) n.toNat 0 false, m.new (.cells [] true ⟨1, some u⟩)) else none
  | _, _ => none

theorem noZero_sound {E : Env} {P : Program} {ρ : Rho} {m : AMem} {w : World} {n : Int} (ps : Array TypeId) (t : TypeId) {e : TypeId} (ht : P.underlying t = some (.slice e)) (h0 : 0 ≤ n) (h1 : n ≤ 1000000) (hR : Rep E ρ m w) :
    ∃ v' ρ' w', (Extern.BytealgMakeNoZero.makeNoZero ps #[t] #[.int .i64 n]).run P w = .ok v' w' ∧ VR ρ' (.sl (some (m.next, 0)) n.toNat 0 false) v' ∧ Rep E ρ' (m.new (.cells [] true ⟨1, some e⟩)) w' ∧ Ext ρ m ρ' (m.new (.cells [] true ⟨1, some e⟩)) := by
  obtain ⟨k, rfl⟩ : ∃ k : Nat, n = k := ⟨n.toNat, by omega⟩
  obtain ⟨cs, hr, h2, h3⟩ := Go.Lib.run_makeNoZero (P := P) w ps t e ht k (by omega)
  obtain ⟨g1, g2⟩ := hR.newRow e [] [] cs ⟨1, some e⟩ cs.size VRL.nil (by simp) (by simp) (0, 0) (by simp) (by simp) (w.drawn + 2)
  refine ⟨_, ρ.put m.next ⟨w.heap.size, 0, cs.size⟩, _, hr, ?_, ?_, g2⟩
  · exact ⟨_, Rho.put_self _ _ _, by simp⟩
  · have e1 : (([] : List Value).toArray ++ cs) = cs := by simp
    rw [e1] at g1
    exact g1
end Go.Vi
