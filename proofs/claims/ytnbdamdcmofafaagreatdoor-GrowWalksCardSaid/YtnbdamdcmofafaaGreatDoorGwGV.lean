/- The law GrowWalks, at whatever arguments there are. No condition. -/
import Derived.Test.YtnbdamdcmofafaaGreatDoorGwHX
import Derived.Test.YtnbdamdcmofafaaGreatDoorGwGA
namespace Go.Proofs.YtnbdamdcmofafaaGreatDoor
open Go Go.Vi
set_option linter.unusedSimpArgs false
set_option linter.unusedVariables false

theorem law8_gen {P : Program} (p : StT P) (m : AMem) (avs : List AV) (hl : avs.length = 2) (ht : ∀ (j : Nat) t a, [64, 3][j]? = some t → avs[j]? = some a → Typ P m 8 t a.cells ∧ ((∃ fs, P.underlying t = some (.struct fs)) → ∃ l, a = .agg l) ∧ ((¬ ∃ fs, P.underlying t = some (.struct fs)) → a.one = true)) : Vi.Call T 8 avs m (fun v _ => v = .b true) := by
  match avs, hl with
  | [a, b], _ =>
    obtain ⟨h1, _, h2⟩ := ht 0 64 a rfl rfl
    obtain ⟨h3, _, h4⟩ := ht 1 3 b rfl rfl
    obtain ⟨l, ks, hS, hks, hn⟩ := typ_states p (d := 5) h1 (h2 (not_struct p.und64))
    obtain ⟨x, hx, _⟩ := typ_int p (d := 7) h3
    rw [one_cells (h4 (not_structI p.und3))] at hx
    simp at hx; subst hx
    exact law8 hS hks hn

theorem law8_at (m : AMem) (avs : List AV) (hl : avs.length = 2) (ht : ∀ (j : Nat) t a, [64, 3][j]? = some t → avs[j]? = some a → Typ Tryz.prog m 8 t a.cells ∧ ((∃ fs, Tryz.prog.underlying t = some (.struct fs)) → ∃ l, a = .agg l) ∧ ((¬ ∃ fs, Tryz.prog.underlying t = some (.struct fs)) → a.one = true)) : Vi.Call T 8 avs m (fun v _ => v = .b true) :=
  law8_gen stT m avs hl ht

end Go.Proofs.YtnbdamdcmofafaaGreatDoor
