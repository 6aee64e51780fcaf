/- The law SayLines, at whatever arguments there are. No condition. -/
import Derived.Test.YtdmoecehmclohaaGreatDoorSlSLL
import Derived.Test.YtdmoecehmclohaaGreatDoorSlViArgC
import Derived.KernelRfl
namespace Go.Proofs.YtdmoecehmclohaaGreatDoor
open Go Go.Vi
set_option linter.unusedSimpArgs false
set_option linter.unusedVariables false
theorem nodeT : NodeT Tryz.prog 39 23 68 3 39 :=
  ⟨by kernel_rfl, by kernel_rfl, ⟨_, _, _, _, _, _, _, _, _, _, _, Tryz.underlying39, rfl, ⟨by kernel_rfl, by kernel_rfl, by kernel_rfl⟩, ⟨by kernel_rfl, by kernel_rfl, by kernel_rfl⟩, ⟨by kernel_rfl, by kernel_rfl, by kernel_rfl⟩, ⟨by kernel_rfl, by kernel_rfl, by kernel_rfl⟩, ⟨by kernel_rfl, by kernel_rfl, by kernel_rfl⟩, ⟨by kernel_rfl, by kernel_rfl, by kernel_rfl⟩, ⟨by kernel_rfl, by kernel_rfl, by kernel_rfl⟩, ⟨by kernel_rfl, by kernel_rfl, by kernel_rfl⟩, ⟨by kernel_rfl, by kernel_rfl, by kernel_rfl⟩, ⟨by kernel_rfl, by kernel_rfl, by kernel_rfl⟩⟩,
    ⟨_, _, _, Tryz.underlying68, rfl, ⟨by kernel_rfl, by kernel_rfl, by kernel_rfl⟩, ⟨by kernel_rfl, by kernel_rfl, by kernel_rfl⟩⟩, by kernel_rfl, by kernel_rfl, by kernel_rfl, by kernel_rfl, by kernel_rfl⟩
theorem treeT : ∃ (fs : Array Field) (f0 f1 f2 : Field), Tryz.prog.underlying 26 = some (.struct fs) ∧ fs.toList = [f0, f1, f2] ∧ (f0.type = 23 ∧ f2.type = 24) ∧ Fld Tryz.prog f0 0 (.slice 39) ∧ Fld Tryz.prog f1 1 (.int .i64) ∧ Fld Tryz.prog f2 2 (.slice 9) ∧ Tryz.prog.cellsOf 26 = 3 :=
  ⟨_, _, _, _, Tryz.underlying26, rfl, ⟨rfl, rfl⟩, ⟨by kernel_rfl, by kernel_rfl, by kernel_rfl⟩, ⟨by kernel_rfl, by kernel_rfl, by kernel_rfl⟩, ⟨by kernel_rfl, by kernel_rfl, by kernel_rfl⟩, by kernel_rfl⟩
theorem stateT : ∃ (fs : Array Field) (f0 f1 f2 f3 f4 f5 f6 f7 : Field), Tryz.prog.underlying 29 = some (.struct fs) ∧ fs.toList = [f0, f1, f2, f3, f4, f5, f6, f7] ∧ Fld Tryz.prog f0 0 (.int .i64) ∧ Fld Tryz.prog f1 1 (.int .i64) ∧ Fld Tryz.prog f2 2 (.int .i64) ∧ Fld Tryz.prog f3 3 (.int .i64) ∧ Fld Tryz.prog f4 4 (.int .i64) ∧ Fld Tryz.prog f5 5 (.int .i64) ∧ Fld Tryz.prog f6 6 (.int .i64) ∧ Fld Tryz.prog f7 7 (.slice 3) ∧ Tryz.prog.cellsOf 29 = 8 :=
  ⟨_, _, _, _, _, _, _, _, _, Tryz.underlying29, rfl, ⟨by kernel_rfl, by kernel_rfl, by kernel_rfl⟩, ⟨by kernel_rfl, by kernel_rfl, by kernel_rfl⟩, ⟨by kernel_rfl, by kernel_rfl, by kernel_rfl⟩, ⟨by kernel_rfl, by kernel_rfl, by kernel_rfl⟩, ⟨by kernel_rfl, by kernel_rfl, by kernel_rfl⟩, ⟨by kernel_rfl, by kernel_rfl, by kernel_rfl⟩, ⟨by kernel_rfl, by kernel_rfl, by kernel_rfl⟩, ⟨by kernel_rfl, by kernel_rfl, by kernel_rfl⟩, by kernel_rfl⟩
theorem byT : Tryz.prog.underlying 22 = some (.slice 5) ∧ Tryz.prog.underlying 5 = some (.int .u8) ∧ Tryz.prog.cellsOf 5 = 1 := ⟨by kernel_rfl, by kernel_rfl, by kernel_rfl⟩
theorem nmT : Tryz.prog.underlying 9 = some .string ∧ Tryz.prog.cellsOf 9 = 1 ∧ Tryz.prog.bytesOf 9 = 16 := ⟨by kernel_rfl, by kernel_rfl, by kernel_rfl⟩
theorem inT : Tryz.prog.underlying 3 = some (.int .i64) ∧ Tryz.prog.cellsOf 3 = 1 := ⟨by kernel_rfl, by kernel_rfl⟩
theorem tree_of {P : Program} {tn tl ts tt : TypeId} {B : Nat} (hB : B ≤ 140737488355328) {m : AMem} {tg ti : TypeId} (p : NodeT P tn tl tg ti tn) (q : ∃ (fs : Array Field) (f0 f1 f2 : Field), P.underlying tt = some (.struct fs) ∧ fs.toList = [f0, f1, f2] ∧ (f0.type = tl ∧ f2.type = ts) ∧ Fld P f0 0 (.slice tn) ∧ Fld P f1 1 (.int .i64) ∧ Fld P f2 2 (.slice 9) ∧ P.cellsOf tt = 3)
    (hs : P.underlying 9 = some .string ∧ P.cellsOf 9 = 1 ∧ P.bytesOf 9 = 16) {cs : List AV} (h : TypB P B m 8 tt cs) :
    ∃ (nv nm : AV) (G : Int) (D : List Nf) (NS : List (List UInt8)), cs = [nv, .i .i64 G, nm] ∧ Arr m 10 nv D.length (flatF D) ∧ (∀ d ∈ D, d.ok m) ∧ Arr m 1 nm NS.length (NS.map fun x => .s ⟨x.toArray⟩) ∧ NS.length ≤ 140737488355328 := by
  obtain ⟨fs, f0, f1, f2, hu, hfs, ⟨t0, t2⟩, g0, g1, g2, hc⟩ := q
  obtain ⟨hl, hf⟩ := h.strct hu
  rw [hc] at hl
  match cs, hl with
  | [a0, a1, a2], _ =>
    have k0 := hf f0 (by simp [hfs])
    have k1 := hf f1 (by simp [hfs])
    have k2 := hf f2 (by simp [hfs])
    rw [g0.off, g0.cells, t0] at k0
    rw [g1.off, g1.cells] at k1
    rw [g2.off, g2.cells] at k2
    obtain ⟨x0, D, e0, _, hD, hok⟩ := TypB.nodes (d := 2) p hB k0
    obtain ⟨x1, e1, _⟩ := k1.int g1.und
    obtain ⟨x2, NS, e2, _, hN, hb⟩ := TypB.strs (d := 5) g2.und hs.1 hs.2.1 k2
    rw [hs.2.2] at hb
    simp at e0 e1 e2
    subst e0 e1 e2
    exact ⟨a0, a2, x1, D, NS, rfl, hD, hok, hN, by omega⟩
theorem state_of {P : Program} {tt : TypeId} {B : Nat} {m : AMem} (q : ∃ (fs : Array Field) (f0 f1 f2 f3 f4 f5 f6 f7 : Field), P.underlying tt = some (.struct fs) ∧ fs.toList = [f0, f1, f2, f3, f4, f5, f6, f7] ∧ Fld P f0 0 (.int .i64) ∧ Fld P f1 1 (.int .i64) ∧ Fld P f2 2 (.int .i64) ∧ Fld P f3 3 (.int .i64) ∧ Fld P f4 4 (.int .i64) ∧ Fld P f5 5 (.int .i64) ∧ Fld P f6 6 (.int .i64) ∧ Fld P f7 7 (.slice 3) ∧ P.cellsOf tt = 8)
    (hi : P.underlying 3 = some (.int .i64) ∧ P.cellsOf 3 = 1) {cs : List AV} (h : TypB P B m 8 tt cs) :
    ∃ (kd nd ph pos st dp og : Int) (cp : AV), cs = stC kd nd ph pos st dp og cp ∧ cp.one = true ∧ InI64 pos ∧ InI64 st ∧ InI64 og := by
  obtain ⟨fs, f0, f1, f2, f3, f4, f5, f6, f7, hu, hfs, g0, g1, g2, g3, g4, g5, g6, g7, hc⟩ := q
  obtain ⟨hl, hf⟩ := h.strct hu
  rw [hc] at hl
  match cs, hl with
  | [a0, a1, a2, a3, a4, a5, a6, a7], _ =>
    have k0 := hf f0 (by simp [hfs])
    have k1 := hf f1 (by simp [hfs])
    have k2 := hf f2 (by simp [hfs])
    have k3 := hf f3 (by simp [hfs])
    have k4 := hf f4 (by simp [hfs])
    have k5 := hf f5 (by simp [hfs])
    have k6 := hf f6 (by simp [hfs])
    have k7 := hf f7 (by simp [hfs])
    rw [g0.off, g0.cells] at k0
    rw [g1.off, g1.cells] at k1
    rw [g2.off, g2.cells] at k2
    rw [g3.off, g3.cells] at k3
    rw [g4.off, g4.cells] at k4
    rw [g5.off, g5.cells] at k5
    rw [g6.off, g6.cells] at k6
    rw [g7.off, g7.cells] at k7
    obtain ⟨x0, e0, _⟩ := k0.int g0.und
    obtain ⟨x1, e1, _⟩ := k1.int g1.und
    obtain ⟨x2, e2, _⟩ := k2.int g2.und
    obtain ⟨x3, e3, w3⟩ := k3.int g3.und
    obtain ⟨x4, e4, w4⟩ := k4.int g4.und
    obtain ⟨x5, e5, _⟩ := k5.int g5.und
    obtain ⟨x6, e6, w6⟩ := k6.int g6.und
    obtain ⟨x7, _, e7, o7, _⟩ := TypB.ints (d := 5) g7.und hi.1 hi.2 k7
    simp at e0 e1 e2 e3 e4 e5 e6 e7
    subst e0 e1 e2 e3 e4 e5 e6 e7
    exact ⟨x0, x1, x2, x3, x4, x5, x6, a7, rfl, o7, inI64_wf w3, inI64_wf w4, inI64_wf w6⟩
theorem args_of {P : Program} (nT : NodeT P 39 23 68 3 39) (tT : ∃ (fs : Array Field) (f0 f1 f2 : Field), P.underlying 26 = some (.struct fs) ∧ fs.toList = [f0, f1, f2] ∧ (f0.type = 23 ∧ f2.type = 24) ∧ Fld P f0 0 (.slice 39) ∧ Fld P f1 1 (.int .i64) ∧ Fld P f2 2 (.slice 9) ∧ P.cellsOf 26 = 3) (sT : ∃ (fs : Array Field) (f0 f1 f2 f3 f4 f5 f6 f7 : Field), P.underlying 29 = some (.struct fs) ∧ fs.toList = [f0, f1, f2, f3, f4, f5, f6, f7] ∧ Fld P f0 0 (.int .i64) ∧ Fld P f1 1 (.int .i64) ∧ Fld P f2 2 (.int .i64) ∧ Fld P f3 3 (.int .i64) ∧ Fld P f4 4 (.int .i64) ∧ Fld P f5 5 (.int .i64) ∧ Fld P f6 6 (.int .i64) ∧ Fld P f7 7 (.slice 3) ∧ P.cellsOf 29 = 8) (bT : P.underlying 22 = some (.slice 5) ∧ P.underlying 5 = some (.int .u8) ∧ P.cellsOf 5 = 1) (nmT : P.underlying 9 = some .string ∧ P.cellsOf 9 = 1 ∧ P.bytesOf 9 = 16) (iT : P.underlying 3 = some (.int .i64) ∧ P.cellsOf 3 = 1)
    {m : AMem} {avs : List AV} (hl : avs.length = 4) {B : Nat} (hB : B ≤ 140737488355328)
    (ht : ∀ (j : Nat) t a, [22, 26, 3, 29][j]? = some t → avs[j]? = some a → TypB P B m 8 t a.cells ∧ ((∃ fs, P.underlying t = some (.struct fs)) → ∃ l, a = .agg l) ∧ ((¬ ∃ fs, P.underlying t = some (.struct fs)) → a.one = true)) :
    ∃ (pv nv nm : AV) (G k : Int) (l : List UInt8) (D : List Nf) (NS : List (List UInt8)) (kd nd ph pos st dp og : Int) (cp : AV), avs = [pv, .agg [nv, .i .i64 G, nm], .i .i64 k, .agg (stC kd nd ph pos st dp og cp)] ∧ Arr m 1 pv l.length (cellsOfBytes l) ∧ Arr m 10 nv D.length (flatF D) ∧ (∀ d ∈ D, d.ok m) ∧ Arr m 1 nm NS.length (NS.map fun x => .s ⟨x.toArray⟩) ∧ NS.length ≤ 140737488355328 ∧ cp.one = true ∧ InI64 k ∧ InI64 pos ∧ InI64 st ∧ InI64 og := by
  match avs, hl with
  | [a, b, c, d], _ =>
    obtain ⟨h0, _, o0⟩ := ht 0 22 a rfl rfl
    obtain ⟨h1, s1, _⟩ := ht 1 26 b rfl rfl
    obtain ⟨h2, _, o2⟩ := ht 2 3 c rfl rfl
    obtain ⟨h3, s3, _⟩ := ht 3 29 d rfl rfl
    have o0' := o0 (by rintro ⟨fs, hfs⟩; rw [bT.1] at hfs; simp at hfs)
    have o2' := o2 (by rintro ⟨fs, hfs⟩; rw [iT.1] at hfs; simp at hfs)
    obtain ⟨l1, rfl⟩ := s1 (by obtain ⟨fs, _, _, _, h, _⟩ := tT; exact ⟨fs, h⟩)
    obtain ⟨l3, rfl⟩ := s3 (by obtain ⟨fs, _, _, _, _, _, _, _, _, h, _⟩ := sT; exact ⟨fs, h⟩)
    rw [one_cells o0'] at h0
    rw [one_cells o2'] at h2
    obtain ⟨x0, l, e0, hp⟩ := TypB.bytes (d := 6) bT.1 bT.2.1 bT.2.2 h0
    obtain ⟨nv, nm, G, D, NS, e1, hA, hok, hN, hNl⟩ := tree_of hB nT tT nmT h1
    obtain ⟨k, e2, wk⟩ := TypB.int (d := 7) iT.1 h2
    obtain ⟨kd, nd, ph, pos, st, dp, og, cp, e3, hc, hpos, hst, hog⟩ := state_of sT iT h3
    simp only [List.cons.injEq, and_true] at e0 e2
    subst e0 e2
    simp only [cells_agg] at e1 e3
    subst e1 e3
    exact ⟨a, nv, nm, G, k, l, D, NS, kd, nd, ph, pos, st, dp, og, cp, rfl, hp, hA, hok, hN, hNl, hc, inI64_wf wk, hpos, hst, hog⟩
theorem row3 (m : AMem) (hP : P10 m) (avs : List AV) (hl : avs.length = 4) {B : Nat} (hB : B ≤ 140737488355328)
    (ht : ∀ (j : Nat) t a, [22, 26, 3, 29][j]? = some t → avs[j]? = some a → TypB Tryz.prog B m 8 t a.cells ∧ ((∃ fs, Tryz.prog.underlying t = some (.struct fs)) → ∃ l, a = .agg l) ∧ ((¬ ∃ fs, Tryz.prog.underlying t = some (.struct fs)) → a.one = true)) :
    Vi.Call T 3 avs m (fun v _ => v = .b true) := by
  obtain ⟨pv, nv, nm, G, k, l, D, NS, kd, nd, ph, pos, st, dp, og, cp, rfl, hp, hA, hok, hN, hNl, hc, hk, hpos, hst, hog⟩ := args_of nodeT treeT stateT byT nmT inT hl hB ht
  exact law3 hP hp hA hok hN hNl hc hk hpos hst hog
end Go.Proofs.YtdmoecehmclohaaGreatDoor
