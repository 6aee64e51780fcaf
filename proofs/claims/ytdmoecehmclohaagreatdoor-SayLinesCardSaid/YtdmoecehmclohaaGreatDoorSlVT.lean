/- The table of the program's functions for the interpreter. No condition. -/
import Derived.Test.YtdmoecehmclohaaGreatDoorSlV0
import Derived.Test.YtdmoecehmclohaaGreatDoorSlV1
namespace Go.Proofs.YtdmoecehmclohaaGreatDoor
open Go.Vi
def tbl : List VFn :=
  [.none,
  .none,
  .none,
  .go 96 [.t 8] v3,
  .go 41 [.t 0] v4,
  .go 114 [.t 2] v5,
  .go 60 [.c 2 (some 3)] v6,
  .go 69 [.t 8] v7,
  .go 54 [.t 4] v8,
  .go 87 [.t 6, .t 7, .t 8] v9,
  .go 27 [.c 4 (some 8), .t 5, .t 6] v10,
  .go 42 [.t 4] v11,
  .go 183 [.t 2] v12,
  .go 46 [.t 2] v13,
  .go 5 [.t 2] v14,
  .go 13 [.t 2] v15,
  .go 14 [.t 2] v16,
  .go 101 [.t 4] v17,
  .go 35 [.t 2] v18,
  .go 55 [.t 2] v19,
  .go 81 [.t 2] v20,
  .go 43 [.t 2] v21,
  .go 32 [.c 2 (some 3), .t 3, .t 4] v22,
  .go 13 [.c 2 (some 1), .t 3] v23,
  .go 27 [.c 2 (some 4)] v24,
  .go 67 [.t 6, .t 7] v25,
  .go 35 [.t 6, .t 7] v26,
  .go 28 [] v27,
  .go 8 [.t 2] v28,
  .go 42 [.t 4, .t 5] v29,
  .go 15 [.t 6] v30,
  .go 56 [.t 2] v31,
  .go 17 [.t 4] v32,
  .go 19 [.t 4, .t 5] v33,
  .go 14 [.t 2] v34,
  .go 5 [.t 2] v35,
  .go 22 [.t 4] v36,
  .go 8 [.t 4] v37,
  .go 21 [.t 4] v38,
  .go 11 [.t 4] v39,
  .go 27 [.t 2] v40,
  .go 85 [.c 2 (some 3), .t 3, .t 4] v41,
  .go 27 [.t 2, .t 3] v42,
  .go 15 [.t 2] v43,
  .go 28 [.t 2] v44,
  .go 85 [] v45,
  .go 33 [.t 12] v46,
  .go 95 [.t 2] v47,
  .go 6 [.t 2] v48,
  .go 13 [.t 2, .t 3] v49,
  .go 18 [.t 4, .t 5] v50,
  .go 15 [.t 4] v51,
  .go 64 [.c 2 (some 8), .t 3] v52,
  .go 7 [.t 2] v53,
  .go 85 [.t 4] v54,
  .go 7 [.t 2] v55,
  .go 8 [.t 2] v56,
  .go 64 [.c 6 (some 8), .t 7] v57,
  .go 20 [] v58,
  .go 54 [.t 4] v59,
  .go 21 [.t 4] v60,
  .go 54 [.c 4 (some 11)] v61,
  .go 20 [.t 2] v62,
  .none,
  .go 38 [.t 4] v64,
  .none,
  .go 53 [.t 6] v66,
  .go 4 [.t 2] v67,
  .go 86 [.c 4 (some 2)] v68,
  .go 69 [] v69,
  .none,
  .none,
  .go 49 [] v72,
  .go 9 [.t 2] v73,
  .go 15 [.t 6] v74,
  .go 7 [.t 2] v75,
  .none,
  .go 119 [.t 6] v77,
  .go 79 [.t 2] v78,
  .go 48 [.t 4] v79,
  .go 15 [.t 4] v80,
  .go 96 [] v81,
  .go 201 [] v82,
  .go 19 [.c 2 (some 8)] v83,
  .go 76 [.t 4, .t 5] v84,
  .go 62 [.t 4] v85,
  .go 8 [.c 2 (some 8)] v86,
  .go 101 [.c 6 (some 8), .t 7, .t 8] v87,
  .ext xSame,
  .go 15 [.t 2] v89,
  .go 15 [.t 2] v90,
  .go 167 [] v91,
  .none,
  .go 48 [.c 4 (some 11)] v93,
  .go 19 [.t 4] v94,
  .go 24 [] v95,
  .go 38 [.t 4, .t 5] v96,
  .none,
  .none,
  .go 27 [.c 4 (some 2)] v99,
  .go 21 [.t 6] v100,
  .go 26 [.t 4] v101,
  .go 73 [.t 2] v102,
  .go 161 [.t 6] v103,
  .go 19 [.t 4] v104,
  .go 79 [.t 6] v105,
  .go 30 [.t 4, .t 5] v106,
  .go 14 [.t 4] v107,
  .go 45 [.c 2 (some 6), .t 3] v108,
  .go 69 [] v109,
  .go 45 [.t 4] v110,
  .none,
  .none,
  .go 21 [.t 4] v113,
  .go 48 [] v114,
  .go 28 [] v115,
  .go 12 [.t 6] v116,
  .none,
  .none,
  .none,
  .go 52 [.t 6] v120,
  .none,
  .go 26 [] v122,
  .none,
  .none,
  .go 19 [.t 2] v125,
  .go 8 [.t 2] v126,
  .go 16 [.c 2 (some 6)] v127,
  .go 6 [.t 2] v128,
  .go 49 [.t 4] v129,
  .go 20 [.t 2] v130,
  .go 15 [.t 6] v131,
  .go 9 [.t 4] v132,
  .go 6 [.t 2] v133,
  .go 8 [.t 2] v134,
  .go 50 [.t 4] v135,
  .go 51 [.t 4] v136,
  .none,
  .go 6 [.t 2] v138,
  .go 25 [.t 2] v139,
  .go 4 [.t 2] v140,
  .none,
  .none,
  .go 25 [.t 2] v143,
  .go 101 [.t 4] v144,
  .go 22 [.t 2, .t 3] v145,
  .none,
  .go 18 [.c 2 (some 2), .t 3] v147,
  .go 14 [] v148,
  .none,
  .none,
  .none,
  .go 17 [.t 6] v152,
  .go 23 [.t 6] v153,
  .none,
  .none,
  .go 51 [.t 4, .t 5] v156,
  .go 23 [.c 2 (some 6), .t 3] v157,
  .go 22 [] v158,
  .go 4 [.t 2] v159,
  .go 8 [.t 2] v160,
  .go 54 [.t 4] v161,
  .go 34 [.t 6] v162,
  .go 8 [.t 2] v163,
  .go 14 [] v164,
  .go 14 [.t 4] v165,
  .go 19 [.t 4] v166,
  .none,
  .none,
  .none,
  .none,
  .none,
  .none,
  .go 45 [.t 4] v173,
  .go 10 [.t 2] v174,
  .go 19 [.t 4] v175,
  .go 65 [.t 4, .t 5, .t 6] v176,
  .go 21 [.t 4, .t 5, .t 6] v177,
  .none,
  .none,
  .go 19 [] v180,
  .go 38 [.c 2 (some 4), .t 3] v181,
  .go 126 [.c 4 (some 11), .t 5] v182,
  .none,
  .go 63 [.c 4 (some 4), .t 5, .t 6] v184,
  .none,
  .go 148 [] v186,
  .go 8 [.t 2] v187,
  .none,
  .go 19 [] v189,
  .go 9 [.t 4] v190,
  .go 14 [.t 3] v191,
  .none,
  .none,
  .none,
  .none,
  .none,
  .go 26 [.t 4] v197,
  .go 11 [.t 2] v198,
  .go 11 [.t 2] v199,
  .none,
  .none,
  .none,
  .go 18 [.c 8 (some 11)] v203,
  .none,
  .none,
  .none,
  .none,
  .go 13 [.t 4] v208,
  .go 8 [.t 2] v209,
  .go 32 [.c 4 (some 4), .t 5] v210,
  .go 17 [.t 4] v211,
  .go 53 [] v212,
  .none,
  .none,
  .none,
  .none,
  .none,
  .none,
  .none,
  .none,
  .go 19 [.t 4] v221]
def T0 (f : Nat) : VFn := tbl.getD f .none
def anc : List AV → AMem → Option (AV × AMem)
  | [], m => some (.b true, m)
  | _, _ => none
def T (f : Nat) : VFn :=
  if f = 4 then .sum anc else
  T0 f
theorem extOk (f : Nat) (g : List AV → AMem → Option (AV × AMem)) (h : (Tryz.prog.funcs[f]?).map (·.body.isNone) = some true) (hg : ext f = .ext g) : VFn.ext g = fnOf Tryz.prog Tryz.prog.globals.size ext f := by
  unfold fnOf
  cases hf : Tryz.prog.funcs[f]? with
  | none => rw [hf] at h; simp at h
  | some fn =>
    rw [hf] at h
    have hb : fn.body = none := by simpa using h
    simp only [hb, hg]
set_option maxRecDepth 100000 in
theorem tblOk : AllOk Tryz.prog Tryz.prog.globals.size ext 0 tbl :=
  And.intro (.inl rfl) (
  And.intro (.inl rfl) (
  And.intro (.inl rfl) (
  And.intro (.inr fn3.symm) (
  And.intro (.inr fn4.symm) (
  And.intro (.inr fn5.symm) (
  And.intro (.inr fn6.symm) (
  And.intro (.inr fn7.symm) (
  And.intro (.inr fn8.symm) (
  And.intro (.inr fn9.symm) (
  And.intro (.inr fn10.symm) (
  And.intro (.inr fn11.symm) (
  And.intro (.inr fn12.symm) (
  And.intro (.inr fn13.symm) (
  And.intro (.inr fn14.symm) (
  And.intro (.inr fn15.symm) (
  And.intro (.inr fn16.symm) (
  And.intro (.inr fn17.symm) (
  And.intro (.inr fn18.symm) (
  And.intro (.inr fn19.symm) (
  And.intro (.inr fn20.symm) (
  And.intro (.inr fn21.symm) (
  And.intro (.inr fn22.symm) (
  And.intro (.inr fn23.symm) (
  And.intro (.inr fn24.symm) (
  And.intro (.inr fn25.symm) (
  And.intro (.inr fn26.symm) (
  And.intro (.inr fn27.symm) (
  And.intro (.inr fn28.symm) (
  And.intro (.inr fn29.symm) (
  And.intro (.inr fn30.symm) (
  And.intro (.inr fn31.symm) (
  And.intro (.inr fn32.symm) (
  And.intro (.inr fn33.symm) (
  And.intro (.inr fn34.symm) (
  And.intro (.inr fn35.symm) (
  And.intro (.inr fn36.symm) (
  And.intro (.inr fn37.symm) (
  And.intro (.inr fn38.symm) (
  And.intro (.inr fn39.symm) (
  And.intro (.inr fn40.symm) (
  And.intro (.inr fn41.symm) (
  And.intro (.inr fn42.symm) (
  And.intro (.inr fn43.symm) (
  And.intro (.inr fn44.symm) (
  And.intro (.inr fn45.symm) (
  And.intro (.inr fn46.symm) (
  And.intro (.inr fn47.symm) (
  And.intro (.inr fn48.symm) (
  And.intro (.inr fn49.symm) (
  And.intro (.inr fn50.symm) (
  And.intro (.inr fn51.symm) (
  And.intro (.inr fn52.symm) (
  And.intro (.inr fn53.symm) (
  And.intro (.inr fn54.symm) (
  And.intro (.inr fn55.symm) (
  And.intro (.inr fn56.symm) (
  And.intro (.inr fn57.symm) (
  And.intro (.inr fn58.symm) (
  And.intro (.inr fn59.symm) (
  And.intro (.inr fn60.symm) (
  And.intro (.inr fn61.symm) (
  And.intro (.inr fn62.symm) (
  And.intro (.inl rfl) (
  And.intro (.inr fn64.symm) (
  And.intro (.inl rfl) (
  And.intro (.inr fn66.symm) (
  And.intro (.inr fn67.symm) (
  And.intro (.inr fn68.symm) (
  And.intro (.inr fn69.symm) (
  And.intro (.inl rfl) (
  And.intro (.inl rfl) (
  And.intro (.inr fn72.symm) (
  And.intro (.inr fn73.symm) (
  And.intro (.inr fn74.symm) (
  And.intro (.inr fn75.symm) (
  And.intro (.inl rfl) (
  And.intro (.inr fn77.symm) (
  And.intro (.inr fn78.symm) (
  And.intro (.inr fn79.symm) (
  And.intro (.inr fn80.symm) (
  And.intro (.inr fn81.symm) (
  And.intro (.inr fn82.symm) (
  And.intro (.inr fn83.symm) (
  And.intro (.inr fn84.symm) (
  And.intro (.inr fn85.symm) (
  And.intro (.inr fn86.symm) (
  And.intro (.inr fn87.symm) (
  And.intro (.inr (extOk 88 xSame (by kernel_rfl) rfl)) (
  And.intro (.inr fn89.symm) (
  And.intro (.inr fn90.symm) (
  And.intro (.inr fn91.symm) (
  And.intro (.inl rfl) (
  And.intro (.inr fn93.symm) (
  And.intro (.inr fn94.symm) (
  And.intro (.inr fn95.symm) (
  And.intro (.inr fn96.symm) (
  And.intro (.inl rfl) (
  And.intro (.inl rfl) (
  And.intro (.inr fn99.symm) (
  And.intro (.inr fn100.symm) (
  And.intro (.inr fn101.symm) (
  And.intro (.inr fn102.symm) (
  And.intro (.inr fn103.symm) (
  And.intro (.inr fn104.symm) (
  And.intro (.inr fn105.symm) (
  And.intro (.inr fn106.symm) (
  And.intro (.inr fn107.symm) (
  And.intro (.inr fn108.symm) (
  And.intro (.inr fn109.symm) (
  And.intro (.inr fn110.symm) (
  And.intro (.inl rfl) (
  And.intro (.inl rfl) (
  And.intro (.inr fn113.symm) (
  And.intro (.inr fn114.symm) (
  And.intro (.inr fn115.symm) (
  And.intro (.inr fn116.symm) (
  And.intro (.inl rfl) (
  And.intro (.inl rfl) (
  And.intro (.inl rfl) (
  And.intro (.inr fn120.symm) (
  And.intro (.inl rfl) (
  And.intro (.inr fn122.symm) (
  And.intro (.inl rfl) (
  And.intro (.inl rfl) (
  And.intro (.inr fn125.symm) (
  And.intro (.inr fn126.symm) (
  And.intro (.inr fn127.symm) (
  And.intro (.inr fn128.symm) (
  And.intro (.inr fn129.symm) (
  And.intro (.inr fn130.symm) (
  And.intro (.inr fn131.symm) (
  And.intro (.inr fn132.symm) (
  And.intro (.inr fn133.symm) (
  And.intro (.inr fn134.symm) (
  And.intro (.inr fn135.symm) (
  And.intro (.inr fn136.symm) (
  And.intro (.inl rfl) (
  And.intro (.inr fn138.symm) (
  And.intro (.inr fn139.symm) (
  And.intro (.inr fn140.symm) (
  And.intro (.inl rfl) (
  And.intro (.inl rfl) (
  And.intro (.inr fn143.symm) (
  And.intro (.inr fn144.symm) (
  And.intro (.inr fn145.symm) (
  And.intro (.inl rfl) (
  And.intro (.inr fn147.symm) (
  And.intro (.inr fn148.symm) (
  And.intro (.inl rfl) (
  And.intro (.inl rfl) (
  And.intro (.inl rfl) (
  And.intro (.inr fn152.symm) (
  And.intro (.inr fn153.symm) (
  And.intro (.inl rfl) (
  And.intro (.inl rfl) (
  And.intro (.inr fn156.symm) (
  And.intro (.inr fn157.symm) (
  And.intro (.inr fn158.symm) (
  And.intro (.inr fn159.symm) (
  And.intro (.inr fn160.symm) (
  And.intro (.inr fn161.symm) (
  And.intro (.inr fn162.symm) (
  And.intro (.inr fn163.symm) (
  And.intro (.inr fn164.symm) (
  And.intro (.inr fn165.symm) (
  And.intro (.inr fn166.symm) (
  And.intro (.inl rfl) (
  And.intro (.inl rfl) (
  And.intro (.inl rfl) (
  And.intro (.inl rfl) (
  And.intro (.inl rfl) (
  And.intro (.inl rfl) (
  And.intro (.inr fn173.symm) (
  And.intro (.inr fn174.symm) (
  And.intro (.inr fn175.symm) (
  And.intro (.inr fn176.symm) (
  And.intro (.inr fn177.symm) (
  And.intro (.inl rfl) (
  And.intro (.inl rfl) (
  And.intro (.inr fn180.symm) (
  And.intro (.inr fn181.symm) (
  And.intro (.inr fn182.symm) (
  And.intro (.inl rfl) (
  And.intro (.inr fn184.symm) (
  And.intro (.inl rfl) (
  And.intro (.inr fn186.symm) (
  And.intro (.inr fn187.symm) (
  And.intro (.inl rfl) (
  And.intro (.inr fn189.symm) (
  And.intro (.inr fn190.symm) (
  And.intro (.inr fn191.symm) (
  And.intro (.inl rfl) (
  And.intro (.inl rfl) (
  And.intro (.inl rfl) (
  And.intro (.inl rfl) (
  And.intro (.inl rfl) (
  And.intro (.inr fn197.symm) (
  And.intro (.inr fn198.symm) (
  And.intro (.inr fn199.symm) (
  And.intro (.inl rfl) (
  And.intro (.inl rfl) (
  And.intro (.inl rfl) (
  And.intro (.inr fn203.symm) (
  And.intro (.inl rfl) (
  And.intro (.inl rfl) (
  And.intro (.inl rfl) (
  And.intro (.inl rfl) (
  And.intro (.inr fn208.symm) (
  And.intro (.inr fn209.symm) (
  And.intro (.inr fn210.symm) (
  And.intro (.inr fn211.symm) (
  And.intro (.inr fn212.symm) (
  And.intro (.inl rfl) (
  And.intro (.inl rfl) (
  And.intro (.inl rfl) (
  And.intro (.inl rfl) (
  And.intro (.inl rfl) (
  And.intro (.inl rfl) (
  And.intro (.inl rfl) (
  And.intro (.inl rfl) (
  And.intro (.inr fn221.symm) (
  trivial))))))))))))))))))))))))))))))))))))))))))))))))))))))))))))))))))))))))))))))))))))))))))))))))))))))))))))))))))))))))))))))))))))))))))))))))))))))))))))))))))))))))))))))))))))))))))))))))))))))))))))))))))))))))))))))
theorem T0_ok (f : Nat) : T0 f = .none ∨ T0 f = fnOf Tryz.prog Tryz.prog.globals.size ext f := by
  have := tblOk.get f
  rwa [Nat.zero_add] at this
theorem T3 : T 3 = .go 96 [.t 8] v3 := rfl
theorem T0_4 : T0 4 = .go 41 [.t 0] v4 := rfl
theorem T5 : T 5 = .go 114 [.t 2] v5 := rfl
theorem T6 : T 6 = .go 60 [.c 2 (some 3)] v6 := rfl
theorem T7 : T 7 = .go 69 [.t 8] v7 := rfl
theorem T8 : T 8 = .go 54 [.t 4] v8 := rfl
theorem T11 : T 11 = .go 42 [.t 4] v11 := rfl
theorem T12 : T 12 = .go 183 [.t 2] v12 := rfl
theorem T13 : T 13 = .go 46 [.t 2] v13 := rfl
theorem T14 : T 14 = .go 5 [.t 2] v14 := rfl
theorem T15 : T 15 = .go 13 [.t 2] v15 := rfl
theorem T16 : T 16 = .go 14 [.t 2] v16 := rfl
theorem T17 : T 17 = .go 101 [.t 4] v17 := rfl
theorem T18 : T 18 = .go 35 [.t 2] v18 := rfl
theorem T19 : T 19 = .go 55 [.t 2] v19 := rfl
theorem T20 : T 20 = .go 81 [.t 2] v20 := rfl
theorem T30 : T 30 = .go 15 [.t 6] v30 := rfl
theorem T31 : T 31 = .go 56 [.t 2] v31 := rfl
theorem T32 : T 32 = .go 17 [.t 4] v32 := rfl
theorem T33 : T 33 = .go 19 [.t 4, .t 5] v33 := rfl
theorem T34 : T 34 = .go 14 [.t 2] v34 := rfl
theorem T35 : T 35 = .go 5 [.t 2] v35 := rfl
theorem T36 : T 36 = .go 22 [.t 4] v36 := rfl
theorem T37 : T 37 = .go 8 [.t 4] v37 := rfl
theorem T38 : T 38 = .go 21 [.t 4] v38 := rfl
theorem T39 : T 39 = .go 11 [.t 4] v39 := rfl
theorem T40 : T 40 = .go 27 [.t 2] v40 := rfl
theorem T58 : T 58 = .go 20 [] v58 := rfl
theorem T59 : T 59 = .go 54 [.t 4] v59 := rfl
theorem T60 : T 60 = .go 21 [.t 4] v60 := rfl
theorem T89 : T 89 = .go 15 [.t 2] v89 := rfl
theorem T90 : T 90 = .go 15 [.t 2] v90 := rfl
theorem T91 : T 91 = .go 167 [] v91 := rfl
theorem T138 : T 138 = .go 6 [.t 2] v138 := rfl
theorem T139 : T 139 = .go 25 [.t 2] v139 := rfl
theorem T140 : T 140 = .go 4 [.t 2] v140 := rfl
theorem T_ok {Q : Nat → Prop} (h : Q 4) (f : Nat) : T f = .none ∨ T f = fnOf Tryz.prog Tryz.prog.globals.size ext f ∨ ∃ g, T f = .sum g ∧ (g = anc ∧ Q f) := by
  unfold T
  by_cases h4 : f = 4
  · subst h4; exact .inr (.inr ⟨anc, by simp, rfl, by simp [h]⟩)
  rw [if_neg h4]
  exact (T0_ok f).imp id .inl
end Go.Proofs.YtdmoecehmclohaaGreatDoor
