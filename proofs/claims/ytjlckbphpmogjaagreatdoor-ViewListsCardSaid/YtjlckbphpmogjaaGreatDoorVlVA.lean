/- The law ViewLists, at whatever arguments there are. No condition. -/
import Derived.Test.YtjlckbphpmogjaaGreatDoorVlVL
import Derived.Test.YtjlckbphpmogjaaGreatDoorVlViGlob
import Derived.Test.YtjlckbphpmogjaaGreatDoorVlViArgs
import Derived.KernelRfl
namespace Go.Proofs.YtjlckbphpmogjaaGreatDoor
open Go Go.Vi
set_option linter.unusedSimpArgs false
set_option linter.unusedVariables false

structure VTy (P : Program) : Prop where
  lp : P.underlying 34 = some (.slice 31)
  tp : ∃ (fs : Array Field) (f1 f2 : Field), P.underlying 31 = some (.struct fs) ∧ fs.toList = [f1, f2] ∧ (f1.offset = 0 ∧ f2.offset = 1) ∧ P.underlying f1.type = some (.int .i64) ∧ P.underlying f2.type = some (.int .i64) ∧ (P.cellsOf 31 = 2 ∧ P.cellsOf f1.type = 1 ∧ P.cellsOf f2.type = 1)
  tc : ∃ (fs : Array Field) (f0 f1 f2 f3 : Field), P.underlying 41 = some (.struct fs) ∧ fs.toList = [f0, f1, f2, f3] ∧ (f0.offset = 0 ∧ f1.offset = 1 ∧ f2.offset = 2 ∧ f3.offset = 3) ∧ (P.cellsOf 41 = 4 ∧ P.cellsOf f0.type = 1 ∧ P.cellsOf f1.type = 1 ∧ P.cellsOf f2.type = 1 ∧ P.cellsOf f3.type = 1) ∧ P.underlying f0.type = some (.slice 46) ∧ (∃ e1, P.underlying f1.type = some (.slice e1)) ∧ (∃ e2, P.underlying f2.type = some (.slice e2)) ∧ P.underlying f3.type = some (.int .i64)
  ti : ∃ (fs : Array Field), P.underlying 46 = some (.struct fs) ∧ coverB P 0 fs.toList = some 6 ∧ P.cellsOf 46 = 6 ∧ ∀ f ∈ fs.toList, P.underlying f.type = some (.int .i64) ∧ P.cellsOf f.type = 1

theorem law4_gen {P : Program} (p : VTy P) (m : AMem) (hP : P10 m) (avs : List AV) (hl : avs.length = 2) (ht : ∀ (j : Nat) t a, [34, 41][j]? = some t → avs[j]? = some a → Typ P m 8 t a.cells ∧ ((∃ fs, P.underlying t = some (.struct fs)) → ∃ l, a = .agg l) ∧ ((¬ ∃ fs, P.underlying t = some (.struct fs)) → a.one = true)) : Vi.Call T 4 avs m (fun v _ => v = .b true) := by
  match avs, hl with
  | [a, b], _ =>
    obtain ⟨h1, _, h2⟩ := ht 0 34 a rfl rfl
    obtain ⟨k1, k2, _⟩ := ht 1 41 b rfl rfl
    obtain ⟨fsp, f1, f2, p1, p2, p3, p4, p5, p6⟩ := p.tp
    obtain ⟨fsc, c0, c1, c2, c3, d1, d2, d3, d4, d5, ⟨e1, d6⟩, ⟨e2, d7⟩, d8⟩ := p.tc
    obtain ⟨fsi, i1, i2, i3, i4⟩ := p.ti
    have ha := h2 (by rintro ⟨fs, hfs⟩; rw [p.lp] at hfs; simp at hfs)
    obtain ⟨n, L, hA, hL, hb⟩ := arr_pairs (d := 5) p.lp p1 p2 p3 p4 p5 p6 h1 ha
    obtain ⟨l, rfl⟩ := k2 ⟨_, d1⟩
    obtain ⟨x0, x1, x2, x3, hx, t0, t1, t2, t3⟩ := typ_four (d := 7) d1 d2 d3 d4 k1
    have hx' : l = [x0, x1, x2, x3] := hx
    subst hx'
    obtain ⟨y0, z0, o0⟩ := typ_one (d := 6) (.inl d5) t0
    obtain ⟨y1, z1, o1⟩ := typ_one (d := 6) (.inl d6) t1
    obtain ⟨y2, z2, o2⟩ := typ_one (d := 6) (.inl d7) t2
    obtain ⟨y3, z3, o3⟩ := typ_one (e := 0) (d := 6) (.inr ⟨_, d8⟩) t3
    simp only [List.cons.injEq, and_true] at z0 z1 z2 z3
    subst z0; subst z1; subst z2; subst z3
    obtain ⟨k0, M, hB, hM, hb2⟩ := arr_rows (d := 4) d5 i1 i2 i3 i4 t0
    exact law4 hP hA hL hb hB hM hb2 ⟨o0, o1, o2, o3⟩

theorem vTy : VTy Tryz.prog := ⟨by kernel_rfl, ⟨_, _, _, Tryz.underlying31, rfl, ⟨rfl, rfl⟩, by kernel_rfl, by kernel_rfl, by kernel_rfl, by kernel_rfl, by kernel_rfl⟩,
  ⟨_, _, _, _, _, Tryz.underlying41, rfl, ⟨rfl, rfl, rfl, rfl⟩, ⟨by kernel_rfl, by kernel_rfl, by kernel_rfl, by kernel_rfl, by kernel_rfl⟩, by kernel_rfl, ⟨_, Tryz.underlying38⟩, ⟨_, Tryz.underlying39⟩, by kernel_rfl⟩,
  ⟨_, Tryz.underlying46, by kernel_rfl, by kernel_rfl, by
    intro f hf
    simp only [List.mem_cons, List.not_mem_nil, or_false] at hf
    rcases hf with rfl | rfl | rfl | rfl | rfl | rfl <;> exact ⟨by kernel_rfl, by kernel_rfl⟩⟩⟩

theorem law4_at (m : AMem) (hP : P10 m) (avs : List AV) (hl : avs.length = 2) (ht : ∀ (j : Nat) t a, [34, 41][j]? = some t → avs[j]? = some a → Typ Tryz.prog m 8 t a.cells ∧ ((∃ fs, Tryz.prog.underlying t = some (.struct fs)) → ∃ l, a = .agg l) ∧ ((¬ ∃ fs, Tryz.prog.underlying t = some (.struct fs)) → a.one = true)) : Vi.Call T 4 avs m (fun v _ => v = .b true) :=
  law4_gen vTy m hP avs hl ht

end Go.Proofs.YtjlckbphpmogjaaGreatDoor
