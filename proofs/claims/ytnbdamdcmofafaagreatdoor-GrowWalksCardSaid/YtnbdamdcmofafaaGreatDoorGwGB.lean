/- Trees of states: what the laws on them share. No condition. -/
import Derived.Test.YtnbdamdcmofafaaGreatDoorGwGO
namespace Go.Proofs.YtnbdamdcmofafaaGreatDoor
open Go.Vi
set_option linter.unusedSimpArgs false
set_option linter.unusedVariables false

theorem callAnc {f : Nat} (hf : T f = .sum anc) (m : AMem) : Vi.Call T f [] m (fun v m' => v = .b true ∧ m' = m.out m) :=
  ⟨.b true, m, ⟨1, by show callF runDraw T 1 (.f f) [] m = _; simp only [callF, hf, anc, Option.map_some]⟩, rfl, rfl⟩

theorem ups_len (ks : List (Int × Int)) : (G.ups ks).length = ks.length := by
  unfold G.ups; rw [G.growL_len]; simp

theorem ups_gi (ks : List (Int × Int)) : ∃ st, G.GI (G.ups ks) st := ⟨_, G.GI.grow ks G.GI.nil⟩

def hd : List Nat → Int
  | [] => -1
  | a :: _ => a

theorem chain_next {up : List Int} {a : Nat} {tl : List Nat} (h : G.Chain up (a :: tl)) : up[a]? = some (hd tl) := by
  cases tl with
  | nil => exact h
  | cons b tl => exact h.1

end Go.Proofs.YtnbdamdcmofafaaGreatDoor
