/- The law's example, as the kernel runs it: whatever two rows of the arguments are there. No condition. -/
import Derived.Test.YtnbdamdcmofafaaGreatDoorQuS
namespace Go.Proofs.YtnbdamdcmofafaaGreatDoor
open Go.Vi
set_option linter.unusedSimpArgs false
set_option linter.unusedVariables false

theorem anchor_runs (oa ob : AObj) : (callK T 2000 (.f 29) [] (mkM 8 [(6, oa), (7, ob)])).map (fun q => (q.1, q.2.get 6, q.2.get 7, Nat.ble 8 q.2.next)) = some (.b true, some oa, some ob, true) := by kernel_rfl

theorem call29 (oa ob : AObj) : Vi.Call T 29 [] (mkM 8 [(6, oa), (7, ob)]) (fun v m' => v = .b true ∧ m'.get 6 = some oa ∧ m'.get 7 = some ob ∧ 8 ≤ m'.next) := by
  obtain ⟨⟨v, m'⟩, h1, h2⟩ := Option.map_eq_some_iff.1 (anchor_runs oa ob)
  simp only [Prod.mk.injEq] at h2
  exact ⟨v, m', ⟨2000, callK_sound 2000 _ _ _ _ h1⟩, h2.1, h2.2.1, h2.2.2.1, Nat.le_of_ble_eq_true h2.2.2.2⟩

end Go.Proofs.YtnbdamdcmofafaaGreatDoor
