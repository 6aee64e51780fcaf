/- The law GrowKids, at whatever arguments there are. No condition. -/
import Derived.Test.YtnbdamdcmofafaaGreatDoorGkGM
import Derived.Test.YtnbdamdcmofafaaGreatDoorGkGA
namespace Go.Proofs.YtnbdamdcmofafaaGreatDoor
open Go Go.Vi
set_option linter.unusedSimpArgs false
set_option linter.unusedVariables false

theorem law6_gen {P : Program} (p : StT P) (m : AMem) (avs : List AV) (hl : avs.length = 1) (ht : ∀ (j : Nat) t a, [64][j]? = some t → avs[j]? = some a → Typ P m 8 t a.cells ∧ ((∃ fs, P.underlying t = some (.struct fs)) → ∃ l, a = .agg l) ∧ ((¬ ∃ fs, P.underlying t = some (.struct fs)) → a.one = true)) : Vi.Call T 6 avs m (fun v _ => v = .b true) := by
  match avs, hl with
  | [a], _ =>
    obtain ⟨h1, _, h2⟩ := ht 0 64 a rfl rfl
    obtain ⟨l, ks, hS, hks, hn⟩ := typ_states p (d := 5) h1 (h2 (not_struct p.und64))
    exact law6 hS hks hn

theorem law6_at (m : AMem) (avs : List AV) (hl : avs.length = 1) (ht : ∀ (j : Nat) t a, [64][j]? = some t → avs[j]? = some a → Typ Tryz.prog m 8 t a.cells ∧ ((∃ fs, Tryz.prog.underlying t = some (.struct fs)) → ∃ l, a = .agg l) ∧ ((¬ ∃ fs, Tryz.prog.underlying t = some (.struct fs)) → a.one = true)) : Vi.Call T 6 avs m (fun v _ => v = .b true) :=
  law6_gen stT m avs hl ht

end Go.Proofs.YtnbdamdcmofafaaGreatDoor
