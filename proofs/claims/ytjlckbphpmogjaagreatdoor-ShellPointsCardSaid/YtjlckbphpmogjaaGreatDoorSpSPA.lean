/- The law ShellPoints, at whatever arguments there are. No condition. -/
import Derived.Test.YtjlckbphpmogjaaGreatDoorSpSHL
import Derived.Test.YtjlckbphpmogjaaGreatDoorSpViGlob
import Derived.Test.YtjlckbphpmogjaaGreatDoorSpViArgs
import Derived.KernelRfl
namespace Go.Proofs.YtjlckbphpmogjaaGreatDoor
open Go Go.Vi
set_option linter.unusedSimpArgs false
set_option linter.unusedVariables false

theorem powO_eq : AObj.cells (((List.range 20).map fun i : Nat => ((10 ^ i : Nat) : Int)).map fun x => AV.i .u64 x) false ⟨1, none⟩ = powO := by
  simp only [powO, List.map_map]
  rfl

theorem tp28 : ∃ (fs : Array Field) (f1 f2 : Field), Tryz.prog.underlying 31 = some (.struct fs) ∧ fs.toList = [f1, f2] ∧ (f1.offset = 0 ∧ f2.offset = 1) ∧ Tryz.prog.underlying f1.type = some (.int .i64) ∧ Tryz.prog.underlying f2.type = some (.int .i64) ∧ (Tryz.prog.cellsOf 31 = 2 ∧ Tryz.prog.cellsOf f1.type = 1 ∧ Tryz.prog.cellsOf f2.type = 1) :=
  ⟨_, _, _, Tryz.underlying31, rfl, ⟨rfl, rfl⟩, by kernel_rfl, by kernel_rfl, by kernel_rfl, by kernel_rfl, by kernel_rfl⟩

theorem pairs28 {P : Program} (lp : P.underlying 34 = some (.slice 31)) (tp : ∃ (fs : Array Field) (f1 f2 : Field), P.underlying 31 = some (.struct fs) ∧ fs.toList = [f1, f2] ∧ (f1.offset = 0 ∧ f2.offset = 1) ∧ P.underlying f1.type = some (.int .i64) ∧ P.underlying f2.type = some (.int .i64) ∧ (P.cellsOf 31 = 2 ∧ P.cellsOf f1.type = 1 ∧ P.cellsOf f2.type = 1))
    {m : AMem} {a : AV} (h : Typ P m 8 34 a.cells ∧ ((∃ fs, P.underlying 34 = some (.struct fs)) → ∃ l, a = .agg l) ∧ ((¬ ∃ fs, P.underlying 34 = some (.struct fs)) → a.one = true)) :
    ((a = .sl none 0 0 true ∨ a = .es)) ∨ ∃ j len cap c L, a = .sl (some (j, 0)) len cap true ∧ len ≤ cap ∧ j < m.next ∧ m.get j = some (.cells c false ⟨1, none⟩) ∧ L.length = cap ∧ c.take (cap * 2) = flat2 L ∧ ∀ p ∈ L, InI64 p.1 ∧ InI64 p.2 := by
  obtain ⟨h1, _, h2⟩ := h
  obtain ⟨fs, f1, f2, e1, e2, e3, e4, e5, e6⟩ := tp
  exact typ_pairs (d := 5) lp e1 e2 e3 e4 e5 e6 h1 (h2 (by rintro ⟨fs, hfs⟩; rw [lp] at hfs; simp at hfs))
theorem lp28 : Tryz.prog.underlying 34 = some (.slice 31) := by kernel_rfl

theorem row5 {W : World} {m : AMem} {ρ : Rho} {avs : List AV} {args' : Array Value} (hR : Rep (envOf Tryz.prog 8 W) ρ m W) (ha : VRL ρ avs args'.toList) {arr : Array Value} {ep : TypeId} {fzp : Nat × Nat} (hw : W.heap[0]? = some (.cells arr ep fzp)) (hns : arr.toList = ((List.range 20).map fun i : Nat => ((10 ^ i : Nat) : Int)).map (.int .u64 ·))
    (hl : avs.length = 1) (ht : ∀ (j : Nat) t a, [34][j]? = some t → avs[j]? = some a → Typ Tryz.prog m 8 t a.cells ∧ ((∃ fs, Tryz.prog.underlying t = some (.struct fs)) → ∃ l, a = .agg l) ∧ ((¬ ∃ fs, Tryz.prog.underlying t = some (.struct fs)) → a.one = true)) :
    ∃ ρ' m' avs', Rep (envOf Tryz.prog 8 W) ρ' m' W ∧ VRL ρ' avs' args'.toList ∧ Vi.Call T 5 avs' m' (fun v _ => v = .b true) := by
  match avs, hl with
  | [a], _ =>
    have key := pairs28 lp28 tp28 (ht 0 34 a rfl rfl)
    rcases key with h | ⟨j, len, cap, c, L, rfl, hle, hj, hg, hL, hc, hb⟩
    · have hrep := rep_row (gp := 0) hR (by decide) hw hns none [] [] 0 nofun rfl rfl
      rw [powO_eq] at hrep
      refine ⟨_, _, [a], hrep, ?_, ?_⟩
      · rcases h with rfl | rfl <;> simpa only [VRL, VR] using ha
      · exact law5 (n := 0) (L := []) (fun m _ _ => ⟨rfl, .inl ⟨rfl, h.symm⟩⟩) rfl (by simp)
    · have hrep := rep_row (gp := 0) hR (by decide) hw hns (some j) c (flat2 L) (cap * 2) (by intro i hi; cases hi; exact hg) hc.symm (flat2_num L)
      rw [powO_eq] at hrep
      refine ⟨_, _, [.sl (some (8, 0)) len cap true], hrep, ?_, ?_⟩
      · obtain ⟨v, vs, e, ⟨t, ht, hv⟩, hn⟩ := ha
        refine ⟨v, vs, e, ⟨t, ?_, hv⟩, hn⟩
        simpa [rho0] using ht
      · exact law5 (n := len) (L := L.take len) (fun m h1 h2 => ⟨by rw [flat2_len, List.length_take]; omega, .inr ⟨8, 0, cap, true, flat2 L, false, ⟨1, none⟩, rfl, hle, h2, h1, by rw [flat2_len]; omega, by rw [List.drop_zero, flat2_take]⟩⟩)
          (by rw [List.length_take]; omega) (fun p hp => hb p (List.mem_of_mem_take hp))
end Go.Proofs.YtjlckbphpmogjaaGreatDoor
