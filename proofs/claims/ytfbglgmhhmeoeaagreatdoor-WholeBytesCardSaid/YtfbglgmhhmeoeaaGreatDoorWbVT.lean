/- The table of the program's functions for the interpreter. No condition. -/
import Derived.Test.YtfbglgmhhmeoeaaGreatDoorWbV0
import Derived.Test.YtfbglgmhhmeoeaaGreatDoorWbV1
namespace Go.Proofs.YtfbglgmhhmeoeaaGreatDoor
open Go.Vi
def tbl : List VFn :=
 [.none,
 .none,
 .none,
 .go 64 [.c 2 none] v3,
 .go 31 [.t 0] v4,
 .go 57 [.t 2, .t 3] v5,
 .go 13 [.t 2] v6,
 .go 8 [.t 2] v7,
 .go 4 [.t 2] v8,
 .go 27 [.c 4 (some 8), .t 5, .t 6] v9,
 .go 45 [.t 4] v10,
 .go 58 [.t 8, .t 9] v11,
 .go 2 [.c 0 (some 4)] v12,
 .go 18 [.t 4] v13,
 .go 52 [.t 4] v14,
 .go 35 [.t 6, .t 7] v15,
 .go 53 [.c 6 (some 8)] v16,
 .go 26 [.t 6] v17,
 .go 7 [.t 2] v18,
 .go 7 [.t 2] v19,
 .go 8 [.t 2] v20,
 .go 24 [] v21,
 .go 64 [.c 6 (some 8), .t 7] v22,
 .go 8 [.c 2 (some 8)] v23,
 .go 42 [.t 4, .t 5] v24,
 .go 26 [.t 4] v25,
 .go 87 [.t 6, .t 7, .t 8] v26,
 .go 10 [.t 2] v27,
 .go 4 [.t 2] v28,
 .go 8 [.t 4] v29,
 .none,
 .go 5 [.t 2] v31,
 .go 27 [.t 4] v32,
 .go 10 [.t 4] v33,
 .go 65 [.t 4, .t 5, .t 6] v34,
 .go 19 [.c 2 (some 8)] v35,
 .go 101 [.c 6 (some 8), .t 7, .t 8] v36,
 .go 85 [.t 4] v37,
 .go 20 [.t 2] v38,
 .go 8 [.t 2] v39,
 .go 8 [.t 2] v40,
 .go 43 [.t 2] v41,
 .go 32 [.c 2 (some 3), .t 3, .t 4] v42,
 .go 13 [.c 2 (some 1), .t 3] v43,
 .go 27 [.c 2 (some 4)] v44,
 .go 67 [.t 6, .t 7] v45,
 .go 28 [] v46,
 .go 8 [.t 2] v47,
 .go 24 [] v48,
 .go 25 [] v49,
 .go 8 [.t 4] v50,
 .go 16 [.t 4] v51,
 .go 5 [.t 2] v52,
 .go 81 [.c 2 (some 4), .t 3] v53,
 .go 48 [.t 4, .t 5] v54,
 .go 11 [.t 2] v55,
 .go 19 [.t 2] v56,
 .go 50 [.t 4] v57,
 .go 51 [.t 4] v58,
 .go 68 [] v59,
 .go 62 [.t 4] v60,
 .go 8 [.t 2] v61,
 .go 76 [.t 4, .t 5] v62,
 .go 85 [.c 2 (some 3), .t 3, .t 4] v63,
 .go 27 [.t 2, .t 3] v64,
 .go 15 [.t 2] v65,
 .go 28 [.t 2] v66,
 .go 85 [] v67,
 .go 33 [.t 12] v68,
 .go 95 [.t 2] v69,
 .go 6 [.t 2] v70,
 .go 13 [.t 2, .t 3] v71,
 .go 18 [.t 4, .t 5] v72,
 .go 15 [.t 4] v73,
 .go 64 [.c 2 (some 8), .t 3] v74,
 .go 7 [.t 2] v75,
 .go 7 [.t 2] v76,
 .go 29 [.t 4] v77,
 .go 8 [.t 4] v78,
 .go 21 [.t 4] v79,
 .go 54 [.t 4] v80,
 .go 65 [.t 4] v81,
 .go 9 [.t 2] v82,
 .go 19 [.t 4] v83,
 .go 2 [.t 0] v84,
 .go 13 [.t 2, .t 3] v85,
 .none,
 .go 24 [.t 2, .t 3] v87,
 .go 64 [.t 2] v88,
 .none,
 .none,
 .go 30 [.t 2, .t 3] v91,
 .go 37 [.t 4] v92,
 .go 21 [.t 4, .t 5, .t 6] v93,
 .go 15 [.t 6] v94,
 .go 9 [.t 4] v95,
 .go 6 [.t 2] v96,
 .go 16 [.c 2 (some 6)] v97,
 .go 6 [.t 2] v98,
 .go 49 [.t 4] v99,
 .go 54 [.c 4 (some 11)] v100,
 .go 20 [.t 2] v101,
 .none,
 .go 38 [.t 4] v103,
 .go 53 [.t 6] v104,
 .go 4 [.t 2] v105,
 .go 86 [.c 4 (some 2)] v106,
 .go 69 [] v107,
 .none,
 .none,
 .go 49 [] v110,
 .go 9 [.t 2] v111,
 .go 15 [.t 6] v112,
 .go 7 [.t 2] v113,
 .none,
 .go 119 [.t 6] v115,
 .go 79 [.t 2] v116,
 .go 48 [.t 4] v117,
 .go 15 [.t 4] v118,
 .go 96 [] v119,
 .go 201 [] v120,
 .ext xFindByte,
 .go 15 [.t 2] v122,
 .none,
 .none,
 .none,
 .none,
 .none,
 .go 26 [.t 6, .t 7] v128,
 .go 13 [.t 2] v129,
 .none,
 .none,
 .none,
 .none,
 .go 7 [.t 2] v134,
 .none,
 .none,
 .go 13 [.c 2 (some 8), .t 3] v137,
 .none,
 .go 7 [.t 2] v139,
 .none,
 .go 69 [.t 8] v141,
 .go 19 [.t 4] v142,
 .none,
 .go 15 [.t 2] v144,
 .go 22 [.t 4] v145,
 .none,
 .none,
 .none,
 .go 11 [.t 2] v149,
 .go 19 [.t 4] v150,
 .go 10 [.t 2] v151,
 .go 48 [.c 4 (some 11)] v152,
 .go 19 [.t 4] v153,
 .go 24 [] v154,
 .go 38 [.t 4, .t 5] v155,
 .none,
 .none,
 .go 27 [.c 4 (some 2)] v158,
 .go 21 [.t 6] v159,
 .go 26 [.t 4] v160,
 .go 73 [.t 2] v161,
 .go 161 [.t 6] v162,
 .go 19 [.t 4] v163,
 .go 79 [.t 6] v164,
 .go 30 [.t 4, .t 5] v165,
 .go 14 [.t 4] v166,
 .go 45 [.c 2 (some 6), .t 3] v167,
 .go 69 [] v168,
 .go 45 [.t 4] v169,
 .none,
 .none,
 .go 21 [.t 4] v172,
 .go 48 [] v173,
 .go 28 [] v174,
 .go 12 [.t 6] v175,
 .none,
 .none,
 .none,
 .go 52 [.t 6] v179,
 .none,
 .go 26 [] v181,
 .none,
 .none,
 .none,
 .go 25 [.t 2] v185,
 .none,
 .none,
 .none,
 .none,
 .go 14 [.t 2] v190,
 .go 172 [.t 6, .t 7] v191,
 .none,
 .none,
 .none,
 .none,
 .none,
 .none,
 .none,
 .none,
 .none,
 .none,
 .none,
 .none,
 .go 11 [.t 2] v204,
 .none,
 .none,
 .go 46 [.t 2] v207,
 .go 13 [.t 2] v208,
 .go 101 [.t 4] v209,
 .none,
 .none,
 .none,
 .none,
 .none,
 .none,
 .go 25 [.t 2] v216,
 .go 101 [.t 4] v217,
 .go 22 [.t 2, .t 3] v218,
 .none,
 .go 18 [.c 2 (some 2), .t 3] v220,
 .go 14 [] v221,
 .none,
 .none,
 .none,
 .go 17 [.t 6] v225,
 .go 23 [.t 6] v226,
 .none,
 .none,
 .go 51 [.t 4, .t 5] v229,
 .go 23 [.c 2 (some 6), .t 3] v230,
 .go 22 [] v231,
 .go 4 [.t 2] v232,
 .go 8 [.t 2] v233,
 .go 54 [.t 4] v234,
 .go 34 [.t 6] v235,
 .go 8 [.t 2] v236,
 .go 14 [] v237,
 .go 14 [.t 4] v238,
 .go 19 [.t 4] v239,
 .none,
 .none,
 .none,
 .none,
 .none,
 .none,
 .none,
 .none,
 .none,
 .none,
 .none,
 .none,
 .none,
 .none,
 .none,
 .none,
 .none,
 .none,
 .none,
 .go 17 [.t 4] v259,
 .none,
 .go 14 [.t 2] v261,
 .none,
 .none,
 .none,
 .none,
 .none,
 .go 19 [] v267,
 .go 38 [.c 2 (some 4), .t 3] v268,
 .go 126 [.c 4 (some 11), .t 5] v269,
 .none,
 .go 63 [.c 4 (some 4), .t 5, .t 6] v271,
 .none,
 .go 148 [] v273,
 .go 8 [.t 2] v274,
 .none,
 .go 19 [] v276,
 .go 9 [.t 4] v277,
 .go 14 [.t 3] v278,
 .none,
 .none,
 .none,
 .none,
 .none,
 .none,
 .none,
 .none,
 .none,
 .none,
 .none,
 .none,
 .go 20 [] v291,
 .none,
 .none,
 .none,
 .none,
 .none,
 .none,
 .go 18 [.c 8 (some 11)] v298,
 .none,
 .none,
 .none,
 .none,
 .go 13 [.t 4] v303,
 .go 8 [.t 2] v304,
 .go 32 [.c 4 (some 4), .t 5] v305,
 .go 17 [.t 4] v306,
 .go 53 [] v307,
 .none,
 .none,
 .none,
 .none,
 .none,
 .none,
 .none,
 .none,
 .go 19 [.t 4] v316,
 .none,
 .none,
 .none,
 .none,
 .ext xSame]
def T0 (f : Nat) : VFn := tbl.getD f .none
def anc : List AV → AMem → Option (AV × AMem)
 | [], m => some (.b true, m)
 | _, _ => none
def T (f : Nat) : VFn :=
 if f = 4 then .sum anc else
 T0 f
theorem extOk (f : Nat) (g : List AV → AMem → Option (AV × AMem)) (h : (Tryz.prog.funcs[f]?).map (·.body.isNone) = some true) (hg : ext f = .ext g) : VFn.ext g = fnOf Tryz.prog Tryz.prog.globals.size ext f := by
 unfold fnOf
 cases hf : Tryz.prog.funcs[f]? with
 | none => rw [hf] at h; simp at h
 | some fn =>
   rw [hf] at h
   have hb : fn.body = none := by simpa using h
   simp only [hb, hg]
set_option maxRecDepth 100000 in
theorem tblOk : AllOk Tryz.prog Tryz.prog.globals.size ext 0 tbl :=
 And.intro (.inl rfl) (
 And.intro (.inl rfl) (
 And.intro (.inl rfl) (
 And.intro (.inr fn3.symm) (
 And.intro (.inr fn4.symm) (
 And.intro (.inr fn5.symm) (
 And.intro (.inr fn6.symm) (
 And.intro (.inr fn7.symm) (
 And.intro (.inr fn8.symm) (
 And.intro (.inr fn9.symm) (
 And.intro (.inr fn10.symm) (
 And.intro (.inr fn11.symm) (
 And.intro (.inr fn12.symm) (
 And.intro (.inr fn13.symm) (
 And.intro (.inr fn14.symm) (
 And.intro (.inr fn15.symm) (
 And.intro (.inr fn16.symm) (
 And.intro (.inr fn17.symm) (
 And.intro (.inr fn18.symm) (
 And.intro (.inr fn19.symm) (
 And.intro (.inr fn20.symm) (
 And.intro (.inr fn21.symm) (
 And.intro (.inr fn22.symm) (
 And.intro (.inr fn23.symm) (
 And.intro (.inr fn24.symm) (
 And.intro (.inr fn25.symm) (
 And.intro (.inr fn26.symm) (
 And.intro (.inr fn27.symm) (
 And.intro (.inr fn28.symm) (
 And.intro (.inr fn29.symm) (
 And.intro (.inl rfl) (
 And.intro (.inr fn31.symm) (
 And.intro (.inr fn32.symm) (
 And.intro (.inr fn33.symm) (
 And.intro (.inr fn34.symm) (
 And.intro (.inr fn35.symm) (
 And.intro (.inr fn36.symm) (
 And.intro (.inr fn37.symm) (
 And.intro (.inr fn38.symm) (
 And.intro (.inr fn39.symm) (
 And.intro (.inr fn40.symm) (
 And.intro (.inr fn41.symm) (
 And.intro (.inr fn42.symm) (
 And.intro (.inr fn43.symm) (
 And.intro (.inr fn44.symm) (
 And.intro (.inr fn45.symm) (
 And.intro (.inr fn46.symm) (
 And.intro (.inr fn47.symm) (
 And.intro (.inr fn48.symm) (
 And.intro (.inr fn49.symm) (
 And.intro (.inr fn50.symm) (
 And.intro (.inr fn51.symm) (
 And.intro (.inr fn52.symm) (
 And.intro (.inr fn53.symm) (
 And.intro (.inr fn54.symm) (
 And.intro (.inr fn55.symm) (
 And.intro (.inr fn56.symm) (
 And.intro (.inr fn57.symm) (
 And.intro (.inr fn58.symm) (
 And.intro (.inr fn59.symm) (
 And.intro (.inr fn60.symm) (
 And.intro (.inr fn61.symm) (
 And.intro (.inr fn62.symm) (
 And.intro (.inr fn63.symm) (
 And.intro (.inr fn64.symm) (
 And.intro (.inr fn65.symm) (
 And.intro (.inr fn66.symm) (
 And.intro (.inr fn67.symm) (
 And.intro (.inr fn68.symm) (
 And.intro (.inr fn69.symm) (
 And.intro (.inr fn70.symm) (
 And.intro (.inr fn71.symm) (
 And.intro (.inr fn72.symm) (
 And.intro (.inr fn73.symm) (
 And.intro (.inr fn74.symm) (
 And.intro (.inr fn75.symm) (
 And.intro (.inr fn76.symm) (
 And.intro (.inr fn77.symm) (
 And.intro (.inr fn78.symm) (
 And.intro (.inr fn79.symm) (
 And.intro (.inr fn80.symm) (
 And.intro (.inr fn81.symm) (
 And.intro (.inr fn82.symm) (
 And.intro (.inr fn83.symm) (
 And.intro (.inr fn84.symm) (
 And.intro (.inr fn85.symm) (
 And.intro (.inl rfl) (
 And.intro (.inr fn87.symm) (
 And.intro (.inr fn88.symm) (
 And.intro (.inl rfl) (
 And.intro (.inl rfl) (
 And.intro (.inr fn91.symm) (
 And.intro (.inr fn92.symm) (
 And.intro (.inr fn93.symm) (
 And.intro (.inr fn94.symm) (
 And.intro (.inr fn95.symm) (
 And.intro (.inr fn96.symm) (
 And.intro (.inr fn97.symm) (
 And.intro (.inr fn98.symm) (
 And.intro (.inr fn99.symm) (
 And.intro (.inr fn100.symm) (
 And.intro (.inr fn101.symm) (
 And.intro (.inl rfl) (
 And.intro (.inr fn103.symm) (
 And.intro (.inr fn104.symm) (
 And.intro (.inr fn105.symm) (
 And.intro (.inr fn106.symm) (
 And.intro (.inr fn107.symm) (
 And.intro (.inl rfl) (
 And.intro (.inl rfl) (
 And.intro (.inr fn110.symm) (
 And.intro (.inr fn111.symm) (
 And.intro (.inr fn112.symm) (
 And.intro (.inr fn113.symm) (
 And.intro (.inl rfl) (
 And.intro (.inr fn115.symm) (
 And.intro (.inr fn116.symm) (
 And.intro (.inr fn117.symm) (
 And.intro (.inr fn118.symm) (
 And.intro (.inr fn119.symm) (
 And.intro (.inr fn120.symm) (
 And.intro (.inr (extOk 121 xFindByte (by kernel_rfl) rfl)) (
 And.intro (.inr fn122.symm) (
 And.intro (.inl rfl) (
 And.intro (.inl rfl) (
 And.intro (.inl rfl) (
 And.intro (.inl rfl) (
 And.intro (.inl rfl) (
 And.intro (.inr fn128.symm) (
 And.intro (.inr fn129.symm) (
 And.intro (.inl rfl) (
 And.intro (.inl rfl) (
 And.intro (.inl rfl) (
 And.intro (.inl rfl) (
 And.intro (.inr fn134.symm) (
 And.intro (.inl rfl) (
 And.intro (.inl rfl) (
 And.intro (.inr fn137.symm) (
 And.intro (.inl rfl) (
 And.intro (.inr fn139.symm) (
 And.intro (.inl rfl) (
 And.intro (.inr fn141.symm) (
 And.intro (.inr fn142.symm) (
 And.intro (.inl rfl) (
 And.intro (.inr fn144.symm) (
 And.intro (.inr fn145.symm) (
 And.intro (.inl rfl) (
 And.intro (.inl rfl) (
 And.intro (.inl rfl) (
 And.intro (.inr fn149.symm) (
 And.intro (.inr fn150.symm) (
 And.intro (.inr fn151.symm) (
 And.intro (.inr fn152.symm) (
 And.intro (.inr fn153.symm) (
 And.intro (.inr fn154.symm) (
 And.intro (.inr fn155.symm) (
 And.intro (.inl rfl) (
 And.intro (.inl rfl) (
 And.intro (.inr fn158.symm) (
 And.intro (.inr fn159.symm) (
 And.intro (.inr fn160.symm) (
 And.intro (.inr fn161.symm) (
 And.intro (.inr fn162.symm) (
 And.intro (.inr fn163.symm) (
 And.intro (.inr fn164.symm) (
 And.intro (.inr fn165.symm) (
 And.intro (.inr fn166.symm) (
 And.intro (.inr fn167.symm) (
 And.intro (.inr fn168.symm) (
 And.intro (.inr fn169.symm) (
 And.intro (.inl rfl) (
 And.intro (.inl rfl) (
 And.intro (.inr fn172.symm) (
 And.intro (.inr fn173.symm) (
 And.intro (.inr fn174.symm) (
 And.intro (.inr fn175.symm) (
 And.intro (.inl rfl) (
 And.intro (.inl rfl) (
 And.intro (.inl rfl) (
 And.intro (.inr fn179.symm) (
 And.intro (.inl rfl) (
 And.intro (.inr fn181.symm) (
 And.intro (.inl rfl) (
 And.intro (.inl rfl) (
 And.intro (.inl rfl) (
 And.intro (.inr fn185.symm) (
 And.intro (.inl rfl) (
 And.intro (.inl rfl) (
 And.intro (.inl rfl) (
 And.intro (.inl rfl) (
 And.intro (.inr fn190.symm) (
 And.intro (.inr fn191.symm) (
 And.intro (.inl rfl) (
 And.intro (.inl rfl) (
 And.intro (.inl rfl) (
 And.intro (.inl rfl) (
 And.intro (.inl rfl) (
 And.intro (.inl rfl) (
 And.intro (.inl rfl) (
 And.intro (.inl rfl) (
 And.intro (.inl rfl) (
 And.intro (.inl rfl) (
 And.intro (.inl rfl) (
 And.intro (.inl rfl) (
 And.intro (.inr fn204.symm) (
 And.intro (.inl rfl) (
 And.intro (.inl rfl) (
 And.intro (.inr fn207.symm) (
 And.intro (.inr fn208.symm) (
 And.intro (.inr fn209.symm) (
 And.intro (.inl rfl) (
 And.intro (.inl rfl) (
 And.intro (.inl rfl) (
 And.intro (.inl rfl) (
 And.intro (.inl rfl) (
 And.intro (.inl rfl) (
 And.intro (.inr fn216.symm) (
 And.intro (.inr fn217.symm) (
 And.intro (.inr fn218.symm) (
 And.intro (.inl rfl) (
 And.intro (.inr fn220.symm) (
 And.intro (.inr fn221.symm) (
 And.intro (.inl rfl) (
 And.intro (.inl rfl) (
 And.intro (.inl rfl) (
 And.intro (.inr fn225.symm) (
 And.intro (.inr fn226.symm) (
 And.intro (.inl rfl) (
 And.intro (.inl rfl) (
 And.intro (.inr fn229.symm) (
 And.intro (.inr fn230.symm) (
 And.intro (.inr fn231.symm) (
 And.intro (.inr fn232.symm) (
 And.intro (.inr fn233.symm) (
 And.intro (.inr fn234.symm) (
 And.intro (.inr fn235.symm) (
 And.intro (.inr fn236.symm) (
 And.intro (.inr fn237.symm) (
 And.intro (.inr fn238.symm) (
 And.intro (.inr fn239.symm) (
 And.intro (.inl rfl) (
 And.intro (.inl rfl) (
 And.intro (.inl rfl) (
 And.intro (.inl rfl) (
 And.intro (.inl rfl) (
 And.intro (.inl rfl) (
 And.intro (.inl rfl) (
 And.intro (.inl rfl) (
 And.intro (.inl rfl) (
 And.intro (.inl rfl) (
 And.intro (.inl rfl) (
 And.intro (.inl rfl) (
 And.intro (.inl rfl) (
 And.intro (.inl rfl) (
 And.intro (.inl rfl) (
 And.intro (.inl rfl) (
 And.intro (.inl rfl) (
 And.intro (.inl rfl) (
 And.intro (.inl rfl) (
 And.intro (.inr fn259.symm) (
 And.intro (.inl rfl) (
 And.intro (.inr fn261.symm) (
 And.intro (.inl rfl) (
 And.intro (.inl rfl) (
 And.intro (.inl rfl) (
 And.intro (.inl rfl) (
 And.intro (.inl rfl) (
 And.intro (.inr fn267.symm) (
 And.intro (.inr fn268.symm) (
 And.intro (.inr fn269.symm) (
 And.intro (.inl rfl) (
 And.intro (.inr fn271.symm) (
 And.intro (.inl rfl) (
 And.intro (.inr fn273.symm) (
 And.intro (.inr fn274.symm) (
 And.intro (.inl rfl) (
 And.intro (.inr fn276.symm) (
 And.intro (.inr fn277.symm) (
 And.intro (.inr fn278.symm) (
 And.intro (.inl rfl) (
 And.intro (.inl rfl) (
 And.intro (.inl rfl) (
 And.intro (.inl rfl) (
 And.intro (.inl rfl) (
 And.intro (.inl rfl) (
 And.intro (.inl rfl) (
 And.intro (.inl rfl) (
 And.intro (.inl rfl) (
 And.intro (.inl rfl) (
 And.intro (.inl rfl) (
 And.intro (.inl rfl) (
 And.intro (.inr fn291.symm) (
 And.intro (.inl rfl) (
 And.intro (.inl rfl) (
 And.intro (.inl rfl) (
 And.intro (.inl rfl) (
 And.intro (.inl rfl) (
 And.intro (.inl rfl) (
 And.intro (.inr fn298.symm) (
 And.intro (.inl rfl) (
 And.intro (.inl rfl) (
 And.intro (.inl rfl) (
 And.intro (.inl rfl) (
 And.intro (.inr fn303.symm) (
 And.intro (.inr fn304.symm) (
 And.intro (.inr fn305.symm) (
 And.intro (.inr fn306.symm) (
 And.intro (.inr fn307.symm) (
 And.intro (.inl rfl) (
 And.intro (.inl rfl) (
 And.intro (.inl rfl) (
 And.intro (.inl rfl) (
 And.intro (.inl rfl) (
 And.intro (.inl rfl) (
 And.intro (.inl rfl) (
 And.intro (.inl rfl) (
 And.intro (.inr fn316.symm) (
 And.intro (.inl rfl) (
 And.intro (.inl rfl) (
 And.intro (.inl rfl) (
 And.intro (.inl rfl) (
 And.intro (.inr (extOk 321 xSame (by kernel_rfl) rfl)) (
 trivial))))))))))))))))))))))))))))))))))))))))))))))))))))))))))))))))))))))))))))))))))))))))))))))))))))))))))))))))))))))))))))))))))))))))))))))))))))))))))))))))))))))))))))))))))))))))))))))))))))))))))))))))))))))))))))))))))))))))))))))))))))))))))))))))))))))))))))))))))))))))))))))))))))))))))))))))))))))))))))))))))
theorem T0_ok (f : Nat) : T0 f = .none ∨ T0 f = fnOf Tryz.prog Tryz.prog.globals.size ext f := by
 have := tblOk.get f
 rwa [Nat.zero_add] at this
theorem T3 : T 3 = .go 64 [.c 2 none] v3 := rfl
theorem T0_4 : T0 4 = .go 31 [.t 0] v4 := rfl
theorem T5 : T 5 = .go 57 [.t 2, .t 3] v5 := rfl
theorem T6 : T 6 = .go 13 [.t 2] v6 := rfl
theorem T7 : T 7 = .go 8 [.t 2] v7 := rfl
theorem T8 : T 8 = .go 4 [.t 2] v8 := rfl
theorem T9 : T 9 = .go 27 [.c 4 (some 8), .t 5, .t 6] v9 := rfl
theorem T10 : T 10 = .go 45 [.t 4] v10 := rfl
theorem T13 : T 13 = .go 18 [.t 4] v13 := rfl
theorem T14 : T 14 = .go 52 [.t 4] v14 := rfl
theorem T15 : T 15 = .go 35 [.t 6, .t 7] v15 := rfl
theorem T16 : T 16 = .go 53 [.c 6 (some 8)] v16 := rfl
theorem T17 : T 17 = .go 26 [.t 6] v17 := rfl
theorem T18 : T 18 = .go 7 [.t 2] v18 := rfl
theorem T19 : T 19 = .go 7 [.t 2] v19 := rfl
theorem T20 : T 20 = .go 8 [.t 2] v20 := rfl
theorem T21 : T 21 = .go 24 [] v21 := rfl
theorem T22 : T 22 = .go 64 [.c 6 (some 8), .t 7] v22 := rfl
theorem T23 : T 23 = .go 8 [.c 2 (some 8)] v23 := rfl
theorem T24 : T 24 = .go 42 [.t 4, .t 5] v24 := rfl
theorem T25 : T 25 = .go 26 [.t 4] v25 := rfl
theorem T33 : T 33 = .go 10 [.t 4] v33 := rfl
theorem T34 : T 34 = .go 65 [.t 4, .t 5, .t 6] v34 := rfl
theorem T35 : T 35 = .go 19 [.c 2 (some 8)] v35 := rfl
theorem T36 : T 36 = .go 101 [.c 6 (some 8), .t 7, .t 8] v36 := rfl
theorem T37 : T 37 = .go 85 [.t 4] v37 := rfl
theorem T38 : T 38 = .go 20 [.t 2] v38 := rfl
theorem T39 : T 39 = .go 8 [.t 2] v39 := rfl
theorem T40 : T 40 = .go 8 [.t 2] v40 := rfl
theorem T55 : T 55 = .go 11 [.t 2] v55 := rfl
theorem T56 : T 56 = .go 19 [.t 2] v56 := rfl
theorem T57 : T 57 = .go 50 [.t 4] v57 := rfl
theorem T58 : T 58 = .go 51 [.t 4] v58 := rfl
theorem T59 : T 59 = .go 68 [] v59 := rfl
theorem T60 : T 60 = .go 62 [.t 4] v60 := rfl
theorem T61 : T 61 = .go 8 [.t 2] v61 := rfl
theorem T62 : T 62 = .go 76 [.t 4, .t 5] v62 := rfl
theorem T93 : T 93 = .go 21 [.t 4, .t 5, .t 6] v93 := rfl
theorem T94 : T 94 = .go 15 [.t 6] v94 := rfl
theorem T95 : T 95 = .go 9 [.t 4] v95 := rfl
theorem T96 : T 96 = .go 6 [.t 2] v96 := rfl
theorem T97 : T 97 = .go 16 [.c 2 (some 6)] v97 := rfl
theorem T98 : T 98 = .go 6 [.t 2] v98 := rfl
theorem T99 : T 99 = .go 49 [.t 4] v99 := rfl
theorem T149 : T 149 = .go 11 [.t 2] v149 := rfl
theorem T150 : T 150 = .go 19 [.t 4] v150 := rfl
theorem T151 : T 151 = .go 10 [.t 2] v151 := rfl
theorem T_ok {Q : Nat → Prop} (h : Q 4) (f : Nat) : T f = .none ∨ T f = fnOf Tryz.prog Tryz.prog.globals.size ext f ∨ ∃ g, T f = .sum g ∧ (g = anc ∧ Q f) := by
 unfold T
 by_cases h4 : f = 4
 ·subst h4; exact .inr (.inr ⟨anc, by simp, rfl, by simp [h]⟩)
 rw [if_neg h4]
 exact (T0_ok f).imp id .inl
end Go.Proofs.YtfbglgmhhmeoeaaGreatDoor
