/- The table of the program's functions for the interpreter. No condition. -/
import Derived.Test.YtnbdamdcmofafaaGreatDoorGwV0
import Derived.Test.YtnbdamdcmofafaaGreatDoorGwV1
import Derived.Test.YtnbdamdcmofafaaGreatDoorGwV2
namespace Go.Proofs.YtnbdamdcmofafaaGreatDoor
open Go.Vi

def tbl : List VFn :=
  [.none,
  .none,
  .none,
  .none,
  .none,
  .none,
  .none,
  .none,
  .go 33 [.c 4 none] v8,
  .none,
  .none,
  .none,
  .go 95 [.t 2] v12,
  .go 13 [.c 2 (some 1), .t 3] v13,
  .go 67 [.t 6, .t 7] v14,
  .go 64 [.c 2 (some 8), .t 3] v15,
  .none,
  .go 7 [.t 2] v17,
  .none,
  .go 6 [.t 2] v19,
  .go 8 [.t 2] v20,
  .go 47 [.t 0] v21,
  .go 5 [.c 2 (some 1)] v22,
  .none,
  .none,
  .none,
  .none,
  .none,
  .go 4 [.t 2] v28,
  .none,
  .none,
  .none,
  .none,
  .none,
  .none,
  .none,
  .none,
  .none,
  .go 15 [.t 6] v38,
  .go 7 [.t 2] v39,
  .go 45 [.t 2] v40,
  .go 119 [.t 6] v41,
  .go 79 [.t 2] v42,
  .go 15 [.t 2] v43,
  .go 13 [.t 2, .t 3] v44,
  .go 18 [.t 4, .t 5] v45,
  .go 15 [.t 4] v46,
  .go 96 [] v47,
  .go 201 [] v48,
  .none,
  .none,
  .none,
  .none,
  .go 7 [.t 2] v53,
  .go 87 [.t 6, .t 7, .t 8] v54,
  .go 19 [.c 2 (some 1)] v55,
  .go 4 [.t 2] v56,
  .go 18 [] v57,
  .go 51 [] v58,
  .go 52 [.t 8] v59,
  .none,
  .none,
  .none,
  .none,
  .none,
  .none,
  .none,
  .none,
  .none,
  .none,
  .none,
  .none,
  .go 32 [.c 2 (some 3), .t 3, .t 4] v72,
  .none,
  .go 27 [.c 2 (some 4)] v74,
  .go 26 [.t 4] v75,
  .go 73 [.t 2] v76,
  .go 161 [.t 6] v77,
  .go 19 [.t 4] v78,
  .go 79 [.t 6] v79,
  .go 4 [.t 2] v80,
  .go 48 [.t 4] v81,
  .go 15 [.t 4] v82,
  .go 45 [.c 2 (some 6), .t 3] v83,
  .go 69 [] v84,
  .go 45 [.t 4] v85,
  .go 25 [] v86,
  .go 73 [] v87,
  .go 21 [.t 4] v88,
  .go 48 [] v89,
  .go 28 [] v90,
  .go 12 [.t 6] v91,
  .go 22 [] v92,
  .go 87 [.t 6] v93,
  .go 57 [.t 4, .t 5] v94,
  .go 52 [.t 6] v95,
  .go 14 [.t 4] v96,
  .go 24 [.t 4, .t 5] v97,
  .go 26 [] v98,
  .go 56 [] v99,
  .go 87 [] v100,
  .none,
  .none,
  .none,
  .go 43 [.t 2] v104,
  .go 35 [.t 6, .t 7] v105,
  .go 28 [] v106,
  .go 46 [] v107,
  .go 24 [] v108,
  .go 8 [.t 2] v109,
  .go 64 [.c 6 (some 8), .t 7] v110,
  .go 8 [.c 2 (some 8)] v111,
  .none,
  .none,
  .none,
  .none,
  .none,
  .none,
  .none,
  .none,
  .none,
  .go 85 [.c 2 (some 3), .t 3, .t 4] v121,
  .go 27 [.t 2, .t 3] v122,
  .go 28 [.t 2] v123,
  .go 85 [] v124,
  .go 33 [.t 12] v125,
  .go 18 [.c 2 (some 2), .t 3] v126,
  .go 14 [] v127,
  .go 17 [.t 4] v128,
  .go 18 [.t 2] v129,
  .go 20 [.t 4] v130,
  .go 17 [.t 6] v131,
  .go 23 [.t 6] v132,
  .go 40 [.t 6] v133,
  .go 24 [] v134,
  .go 38 [.t 4, .t 5] v135,
  .go 30 [.t 4, .t 5] v136,
  .go 23 [.c 2 (some 6), .t 3] v137,
  .go 22 [] v138,
  .go 4 [.t 2] v139,
  .go 8 [.t 2] v140,
  .go 54 [.t 4] v141,
  .go 34 [.t 6] v142,
  .go 8 [.t 2] v143,
  .go 14 [] v144,
  .go 14 [.t 4] v145,
  .go 19 [.t 4] v146,
  .go 9 [.t 4] v147,
  .go 64 [.t 10, .t 11] v148,
  .go 97 [] v149,
  .go 71 [] v150,
  .go 29 [.c 2 (some 6), .t 3] v151,
  .go 55 [] v152,
  .go 85 [.t 4] v153,
  .go 58 [.t 4] v154,
  .go 57 [] v155,
  .go 19 [.c 2 (some 8)] v156,
  .go 101 [.c 6 (some 8), .t 7, .t 8] v157,
  .go 8 [.t 2] v158,
  .none,
  .none,
  .none,
  .go 54 [.c 4 (some 11)] v162,
  .go 20 [.t 2] v163,
  .go 19 [] v164,
  .go 38 [.t 4] v165,
  .go 19 [.t 4] v166,
  .go 53 [.t 6] v167,
  .go 86 [.c 4 (some 2)] v168,
  .go 69 [] v169,
  .go 100 [] v170,
  .go 72 [] v171,
  .go 49 [] v172,
  .go 9 [.t 2] v173,
  .go 148 [] v174,
  .go 8 [.t 2] v175,
  .go 6 [.t 2] v176,
  .go 22 [.t 2, .t 3] v177,
  .go 17 [.t 4, .t 5] v178,
  .go 51 [.t 4, .t 5] v179,
  .go 19 [] v180,
  .go 9 [.t 4] v181,
  .go 14 [.t 3] v182,
  .go 10 [.t 2] v183,
  .go 8 [.t 4] v184,
  .go 10 [.t 4] v185,
  .go 32 [.t 6] v186,
  .go 49 [.c 2 (some 6), .t 3] v187,
  .go 76 [.t 4, .t 5] v188,
  .go 62 [.t 4] v189,
  .go 19 [.t 2] v190,
  .go 50 [.t 4] v191,
  .go 51 [.t 4] v192,
  .go 68 [] v193,
  .go 8 [.t 2] v194,
  .none,
  .none,
  .none,
  .none,
  .go 48 [.c 4 (some 11)] v199,
  .go 19 [.t 4] v200,
  .go 34 [.c 6 (some 2)] v201,
  .go 29 [.c 4 (some 2)] v202,
  .go 27 [.c 4 (some 2)] v203,
  .go 21 [.t 6] v204,
  .go 53 [] v205,
  .go 60 [] v206,
  .go 67 [] v207,
  .go 63 [.t 8, .t 9] v208,
  .go 34 [] v209,
  .go 141 [.t 8] v210,
  .go 90 [.t 10] v211,
  .go 178 [.t 10, .t 11] v212,
  .go 19 [.t 2] v213,
  .go 25 [.t 2] v214,
  .go 122 [.t 2, .t 3] v215,
  .go 19 [.t 4] v216,
  .go 11 [.t 2] v217,
  .go 13 [.t 2] v218,
  .go 16 [.c 2 (some 6)] v219,
  .go 6 [.t 2] v220,
  .go 49 [.t 4] v221,
  .go 20 [.t 2] v222,
  .go 15 [.t 6] v223,
  .go 9 [.t 4] v224,
  .go 6 [.t 2] v225,
  .go 45 [.t 4] v226,
  .go 65 [.t 4, .t 5, .t 6] v227,
  .go 21 [.t 4, .t 5, .t 6] v228,
  .none,
  .none,
  .none,
  .none,
  .go 25 [.t 2] v233,
  .go 101 [.t 4] v234,
  .go 6 [.t 2] v235,
  .go 82 [] v236,
  .go 7 [.t 2] v237,
  .go 33 [.t 2] v238,
  .go 18 [.t 8] v239,
  .go 41 [.t 12] v240,
  .go 17 [.t 2, .t 3] v241,
  .go 58 [.t 2] v242,
  .go 10 [.t 2] v243,
  .go 19 [.t 4] v244,
  .go 26 [.t 4] v245,
  .go 11 [.t 2] v246,
  .go 11 [.t 2] v247,
  .none,
  .none,
  .go 19 [] v250,
  .go 38 [.c 2 (some 4), .t 3] v251,
  .go 126 [.c 4 (some 11), .t 5] v252,
  .go 36 [.c 6 (some 11)] v253,
  .go 63 [.c 4 (some 4), .t 5, .t 6] v254,
  .go 32 [.t 10, .t 11] v255,
  .go 64 [.t 0] v256,
  .go 19 [.t 4] v257,
  .go 8 [.t 3] v258,
  .go 35 [.t 2] v259,
  .go 20 [.t 0] v260,
  .go 25 [.t 4] v261,
  .go 8 [.t 0] v262,
  .go 11 [] v263,
  .go 47 [.t 4] v264,
  .go 130 [.c 4 (some 11), .t 5] v265,
  .go 70 [.t 6, .t 7, .t 8, .t 9] v266,
  .go 18 [.c 8 (some 11)] v267,
  .go 7 [.t 2] v268,
  .go 18 [.c 8 (some 11)] v269,
  .go 10 [.t 6] v270,
  .go 80 [.c 2 (some 11)] v271,
  .go 13 [.t 4] v272,
  .go 8 [.t 2] v273,
  .go 32 [.c 4 (some 4), .t 5] v274,
  .go 17 [.t 4] v275,
  .go 134 [] v276,
  .go 108 [.c 4 (some 8)] v277,
  .go 66 [.c 4 (some 5), .t 5, .t 6] v278,
  .go 37 [.t 2] v279,
  .go 38 [.t 2] v280,
  .go 98 [.c 4 (some 5), .t 5] v281,
  .go 55 [.c 4 (some 4), .t 5] v282,
  .go 49 [] v283,
  .go 56 [] v284,
  .go 65 [] v285,
  .go 57 [.t 6, .t 7] v286,
  .go 32 [] v287,
  .go 133 [.t 6] v288,
  .go 17 [.t 4] v289,
  .go 84 [.t 8] v290,
  .go 168 [.t 8, .t 9] v291,
  .go 12 [.t 6] v292,
  .go 30 [.c 4 (some 8)] v293,
  .go 44 [.c 4 (some 8)] v294,
  .go 64 [.c 2 (some 8)] v295,
  .go 46 [.c 4 (some 5), .t 5] v296,
  .go 24 [.t 4] v297,
  .go 8 [.t 2] v298,
  .go 47 [.t 0] v299,
  .go 71 [.c 4 (some 5), .t 5, .t 6] v300,
  .go 14 [.t 2] v301,
  .go 9 [.t 2] v302,
  .go 60 [.t 4, .t 5, .t 6] v303,
  .go 25 [.t 4, .t 5] v304,
  .go 76 [] v305,
  .go 15 [.t 6] v306,
  .go 36 [.t 10] v307,
  .go 19 [.t 4] v308,
  .go 9 [.t 4] v309,
  .go 32 [.t 6] v310,
  .go 8 [.t 4] v311,
  .go 53 [.c 4 (some 5), .t 5] v312,
  .go 35 [.c 4 (some 5), .t 5] v313,
  .go 58 [.c 4 (some 5), .t 5] v314,
  .go 18 [.t 2] v315,
  .go 29 [.t 2, .t 3] v316,
  .go 17 [.t 2] v317,
  .go 28 [.t 8, .t 9] v318,
  .go 18 [.t 4] v319,
  .go 13 [.t 4, .t 5, .t 6] v320,
  .go 11 [.t 4, .t 5] v321,
  .go 36 [.t 6, .t 7] v322,
  .go 21 [.t 2] v323,
  .go 23 [.t 4, .t 5, .t 6] v324,
  .go 15 [.t 4, .t 5] v325,
  .go 31 [.t 2] v326,
  .go 143 [.t 4] v327,
  .go 8 [.t 4] v328,
  .ext xIndexString,
  .go 6 [.t 2] v330,
  .go 81 [.t 4] v331,
  .ext xIndexByte,
  .go 39 [.t 2, .t 3] v333]

def T0 (f : Nat) : VFn := tbl.getD f .none

def anc : List AV → AMem → Option (AV × AMem)
  | [], m => some (.b true, m)
  | _, _ => none

def T (f : Nat) : VFn :=
  if f = 21 then .sum anc else
  T0 f

theorem extOk (f : Nat) (g : List AV → AMem → Option (AV × AMem)) (h : (Tryz.prog.funcs[f]?).map (·.body.isNone) = some true) (hg : ext f = .ext g) : VFn.ext g = fnOf Tryz.prog Tryz.prog.globals.size ext f := by
  unfold fnOf
  cases hf : Tryz.prog.funcs[f]? with
  | none => rw [hf] at h; simp at h
  | some fn =>
    rw [hf] at h
    have hb : fn.body = none := by simpa using h
    simp only [hb, hg]

set_option maxRecDepth 100000 in
theorem tblOk : AllOk Tryz.prog Tryz.prog.globals.size ext 0 tbl :=
  And.intro (.inl rfl) (
  And.intro (.inl rfl) (
  And.intro (.inl rfl) (
  And.intro (.inl rfl) (
  And.intro (.inl rfl) (
  And.intro (.inl rfl) (
  And.intro (.inl rfl) (
  And.intro (.inl rfl) (
  And.intro (.inr fn8.symm) (
  And.intro (.inl rfl) (
  And.intro (.inl rfl) (
  And.intro (.inl rfl) (
  And.intro (.inr fn12.symm) (
  And.intro (.inr fn13.symm) (
  And.intro (.inr fn14.symm) (
  And.intro (.inr fn15.symm) (
  And.intro (.inl rfl) (
  And.intro (.inr fn17.symm) (
  And.intro (.inl rfl) (
  And.intro (.inr fn19.symm) (
  And.intro (.inr fn20.symm) (
  And.intro (.inr fn21.symm) (
  And.intro (.inr fn22.symm) (
  And.intro (.inl rfl) (
  And.intro (.inl rfl) (
  And.intro (.inl rfl) (
  And.intro (.inl rfl) (
  And.intro (.inl rfl) (
  And.intro (.inr fn28.symm) (
  And.intro (.inl rfl) (
  And.intro (.inl rfl) (
  And.intro (.inl rfl) (
  And.intro (.inl rfl) (
  And.intro (.inl rfl) (
  And.intro (.inl rfl) (
  And.intro (.inl rfl) (
  And.intro (.inl rfl) (
  And.intro (.inl rfl) (
  And.intro (.inr fn38.symm) (
  And.intro (.inr fn39.symm) (
  And.intro (.inr fn40.symm) (
  And.intro (.inr fn41.symm) (
  And.intro (.inr fn42.symm) (
  And.intro (.inr fn43.symm) (
  And.intro (.inr fn44.symm) (
  And.intro (.inr fn45.symm) (
  And.intro (.inr fn46.symm) (
  And.intro (.inr fn47.symm) (
  And.intro (.inr fn48.symm) (
  And.intro (.inl rfl) (
  And.intro (.inl rfl) (
  And.intro (.inl rfl) (
  And.intro (.inl rfl) (
  And.intro (.inr fn53.symm) (
  And.intro (.inr fn54.symm) (
  And.intro (.inr fn55.symm) (
  And.intro (.inr fn56.symm) (
  And.intro (.inr fn57.symm) (
  And.intro (.inr fn58.symm) (
  And.intro (.inr fn59.symm) (
  And.intro (.inl rfl) (
  And.intro (.inl rfl) (
  And.intro (.inl rfl) (
  And.intro (.inl rfl) (
  And.intro (.inl rfl) (
  And.intro (.inl rfl) (
  And.intro (.inl rfl) (
  And.intro (.inl rfl) (
  And.intro (.inl rfl) (
  And.intro (.inl rfl) (
  And.intro (.inl rfl) (
  And.intro (.inl rfl) (
  And.intro (.inr fn72.symm) (
  And.intro (.inl rfl) (
  And.intro (.inr fn74.symm) (
  And.intro (.inr fn75.symm) (
  And.intro (.inr fn76.symm) (
  And.intro (.inr fn77.symm) (
  And.intro (.inr fn78.symm) (
  And.intro (.inr fn79.symm) (
  And.intro (.inr fn80.symm) (
  And.intro (.inr fn81.symm) (
  And.intro (.inr fn82.symm) (
  And.intro (.inr fn83.symm) (
  And.intro (.inr fn84.symm) (
  And.intro (.inr fn85.symm) (
  And.intro (.inr fn86.symm) (
  And.intro (.inr fn87.symm) (
  And.intro (.inr fn88.symm) (
  And.intro (.inr fn89.symm) (
  And.intro (.inr fn90.symm) (
  And.intro (.inr fn91.symm) (
  And.intro (.inr fn92.symm) (
  And.intro (.inr fn93.symm) (
  And.intro (.inr fn94.symm) (
  And.intro (.inr fn95.symm) (
  And.intro (.inr fn96.symm) (
  And.intro (.inr fn97.symm) (
  And.intro (.inr fn98.symm) (
  And.intro (.inr fn99.symm) (
  And.intro (.inr fn100.symm) (
  And.intro (.inl rfl) (
  And.intro (.inl rfl) (
  And.intro (.inl rfl) (
  And.intro (.inr fn104.symm) (
  And.intro (.inr fn105.symm) (
  And.intro (.inr fn106.symm) (
  And.intro (.inr fn107.symm) (
  And.intro (.inr fn108.symm) (
  And.intro (.inr fn109.symm) (
  And.intro (.inr fn110.symm) (
  And.intro (.inr fn111.symm) (
  And.intro (.inl rfl) (
  And.intro (.inl rfl) (
  And.intro (.inl rfl) (
  And.intro (.inl rfl) (
  And.intro (.inl rfl) (
  And.intro (.inl rfl) (
  And.intro (.inl rfl) (
  And.intro (.inl rfl) (
  And.intro (.inl rfl) (
  And.intro (.inr fn121.symm) (
  And.intro (.inr fn122.symm) (
  And.intro (.inr fn123.symm) (
  And.intro (.inr fn124.symm) (
  And.intro (.inr fn125.symm) (
  And.intro (.inr fn126.symm) (
  And.intro (.inr fn127.symm) (
  And.intro (.inr fn128.symm) (
  And.intro (.inr fn129.symm) (
  And.intro (.inr fn130.symm) (
  And.intro (.inr fn131.symm) (
  And.intro (.inr fn132.symm) (
  And.intro (.inr fn133.symm) (
  And.intro (.inr fn134.symm) (
  And.intro (.inr fn135.symm) (
  And.intro (.inr fn136.symm) (
  And.intro (.inr fn137.symm) (
  And.intro (.inr fn138.symm) (
  And.intro (.inr fn139.symm) (
  And.intro (.inr fn140.symm) (
  And.intro (.inr fn141.symm) (
  And.intro (.inr fn142.symm) (
  And.intro (.inr fn143.symm) (
  And.intro (.inr fn144.symm) (
  And.intro (.inr fn145.symm) (
  And.intro (.inr fn146.symm) (
  And.intro (.inr fn147.symm) (
  And.intro (.inr fn148.symm) (
  And.intro (.inr fn149.symm) (
  And.intro (.inr fn150.symm) (
  And.intro (.inr fn151.symm) (
  And.intro (.inr fn152.symm) (
  And.intro (.inr fn153.symm) (
  And.intro (.inr fn154.symm) (
  And.intro (.inr fn155.symm) (
  And.intro (.inr fn156.symm) (
  And.intro (.inr fn157.symm) (
  And.intro (.inr fn158.symm) (
  And.intro (.inl rfl) (
  And.intro (.inl rfl) (
  And.intro (.inl rfl) (
  And.intro (.inr fn162.symm) (
  And.intro (.inr fn163.symm) (
  And.intro (.inr fn164.symm) (
  And.intro (.inr fn165.symm) (
  And.intro (.inr fn166.symm) (
  And.intro (.inr fn167.symm) (
  And.intro (.inr fn168.symm) (
  And.intro (.inr fn169.symm) (
  And.intro (.inr fn170.symm) (
  And.intro (.inr fn171.symm) (
  And.intro (.inr fn172.symm) (
  And.intro (.inr fn173.symm) (
  And.intro (.inr fn174.symm) (
  And.intro (.inr fn175.symm) (
  And.intro (.inr fn176.symm) (
  And.intro (.inr fn177.symm) (
  And.intro (.inr fn178.symm) (
  And.intro (.inr fn179.symm) (
  And.intro (.inr fn180.symm) (
  And.intro (.inr fn181.symm) (
  And.intro (.inr fn182.symm) (
  And.intro (.inr fn183.symm) (
  And.intro (.inr fn184.symm) (
  And.intro (.inr fn185.symm) (
  And.intro (.inr fn186.symm) (
  And.intro (.inr fn187.symm) (
  And.intro (.inr fn188.symm) (
  And.intro (.inr fn189.symm) (
  And.intro (.inr fn190.symm) (
  And.intro (.inr fn191.symm) (
  And.intro (.inr fn192.symm) (
  And.intro (.inr fn193.symm) (
  And.intro (.inr fn194.symm) (
  And.intro (.inl rfl) (
  And.intro (.inl rfl) (
  And.intro (.inl rfl) (
  And.intro (.inl rfl) (
  And.intro (.inr fn199.symm) (
  And.intro (.inr fn200.symm) (
  And.intro (.inr fn201.symm) (
  And.intro (.inr fn202.symm) (
  And.intro (.inr fn203.symm) (
  And.intro (.inr fn204.symm) (
  And.intro (.inr fn205.symm) (
  And.intro (.inr fn206.symm) (
  And.intro (.inr fn207.symm) (
  And.intro (.inr fn208.symm) (
  And.intro (.inr fn209.symm) (
  And.intro (.inr fn210.symm) (
  And.intro (.inr fn211.symm) (
  And.intro (.inr fn212.symm) (
  And.intro (.inr fn213.symm) (
  And.intro (.inr fn214.symm) (
  And.intro (.inr fn215.symm) (
  And.intro (.inr fn216.symm) (
  And.intro (.inr fn217.symm) (
  And.intro (.inr fn218.symm) (
  And.intro (.inr fn219.symm) (
  And.intro (.inr fn220.symm) (
  And.intro (.inr fn221.symm) (
  And.intro (.inr fn222.symm) (
  And.intro (.inr fn223.symm) (
  And.intro (.inr fn224.symm) (
  And.intro (.inr fn225.symm) (
  And.intro (.inr fn226.symm) (
  And.intro (.inr fn227.symm) (
  And.intro (.inr fn228.symm) (
  And.intro (.inl rfl) (
  And.intro (.inl rfl) (
  And.intro (.inl rfl) (
  And.intro (.inl rfl) (
  And.intro (.inr fn233.symm) (
  And.intro (.inr fn234.symm) (
  And.intro (.inr fn235.symm) (
  And.intro (.inr fn236.symm) (
  And.intro (.inr fn237.symm) (
  And.intro (.inr fn238.symm) (
  And.intro (.inr fn239.symm) (
  And.intro (.inr fn240.symm) (
  And.intro (.inr fn241.symm) (
  And.intro (.inr fn242.symm) (
  And.intro (.inr fn243.symm) (
  And.intro (.inr fn244.symm) (
  And.intro (.inr fn245.symm) (
  And.intro (.inr fn246.symm) (
  And.intro (.inr fn247.symm) (
  And.intro (.inl rfl) (
  And.intro (.inl rfl) (
  And.intro (.inr fn250.symm) (
  And.intro (.inr fn251.symm) (
  And.intro (.inr fn252.symm) (
  And.intro (.inr fn253.symm) (
  And.intro (.inr fn254.symm) (
  And.intro (.inr fn255.symm) (
  And.intro (.inr fn256.symm) (
  And.intro (.inr fn257.symm) (
  And.intro (.inr fn258.symm) (
  And.intro (.inr fn259.symm) (
  And.intro (.inr fn260.symm) (
  And.intro (.inr fn261.symm) (
  And.intro (.inr fn262.symm) (
  And.intro (.inr fn263.symm) (
  And.intro (.inr fn264.symm) (
  And.intro (.inr fn265.symm) (
  And.intro (.inr fn266.symm) (
  And.intro (.inr fn267.symm) (
  And.intro (.inr fn268.symm) (
  And.intro (.inr fn269.symm) (
  And.intro (.inr fn270.symm) (
  And.intro (.inr fn271.symm) (
  And.intro (.inr fn272.symm) (
  And.intro (.inr fn273.symm) (
  And.intro (.inr fn274.symm) (
  And.intro (.inr fn275.symm) (
  And.intro (.inr fn276.symm) (
  And.intro (.inr fn277.symm) (
  And.intro (.inr fn278.symm) (
  And.intro (.inr fn279.symm) (
  And.intro (.inr fn280.symm) (
  And.intro (.inr fn281.symm) (
  And.intro (.inr fn282.symm) (
  And.intro (.inr fn283.symm) (
  And.intro (.inr fn284.symm) (
  And.intro (.inr fn285.symm) (
  And.intro (.inr fn286.symm) (
  And.intro (.inr fn287.symm) (
  And.intro (.inr fn288.symm) (
  And.intro (.inr fn289.symm) (
  And.intro (.inr fn290.symm) (
  And.intro (.inr fn291.symm) (
  And.intro (.inr fn292.symm) (
  And.intro (.inr fn293.symm) (
  And.intro (.inr fn294.symm) (
  And.intro (.inr fn295.symm) (
  And.intro (.inr fn296.symm) (
  And.intro (.inr fn297.symm) (
  And.intro (.inr fn298.symm) (
  And.intro (.inr fn299.symm) (
  And.intro (.inr fn300.symm) (
  And.intro (.inr fn301.symm) (
  And.intro (.inr fn302.symm) (
  And.intro (.inr fn303.symm) (
  And.intro (.inr fn304.symm) (
  And.intro (.inr fn305.symm) (
  And.intro (.inr fn306.symm) (
  And.intro (.inr fn307.symm) (
  And.intro (.inr fn308.symm) (
  And.intro (.inr fn309.symm) (
  And.intro (.inr fn310.symm) (
  And.intro (.inr fn311.symm) (
  And.intro (.inr fn312.symm) (
  And.intro (.inr fn313.symm) (
  And.intro (.inr fn314.symm) (
  And.intro (.inr fn315.symm) (
  And.intro (.inr fn316.symm) (
  And.intro (.inr fn317.symm) (
  And.intro (.inr fn318.symm) (
  And.intro (.inr fn319.symm) (
  And.intro (.inr fn320.symm) (
  And.intro (.inr fn321.symm) (
  And.intro (.inr fn322.symm) (
  And.intro (.inr fn323.symm) (
  And.intro (.inr fn324.symm) (
  And.intro (.inr fn325.symm) (
  And.intro (.inr fn326.symm) (
  And.intro (.inr fn327.symm) (
  And.intro (.inr fn328.symm) (
  And.intro (.inr (extOk 329 xIndexString (by kernel_rfl) rfl)) (
  And.intro (.inr fn330.symm) (
  And.intro (.inr fn331.symm) (
  And.intro (.inr (extOk 332 xIndexByte (by kernel_rfl) rfl)) (
  And.intro (.inr fn333.symm) (
  trivial))))))))))))))))))))))))))))))))))))))))))))))))))))))))))))))))))))))))))))))))))))))))))))))))))))))))))))))))))))))))))))))))))))))))))))))))))))))))))))))))))))))))))))))))))))))))))))))))))))))))))))))))))))))))))))))))))))))))))))))))))))))))))))))))))))))))))))))))))))))))))))))))))))))))))))))))))))))))))))))))))))))))))))))

theorem T0_ok (f : Nat) : T0 f = .none ∨ T0 f = fnOf Tryz.prog Tryz.prog.globals.size ext f := by
  have := tblOk.get f
  rwa [Nat.zero_add] at this

theorem T8 : T 8 = .go 33 [.c 4 none] v8 := rfl
theorem T12 : T 12 = .go 95 [.t 2] v12 := rfl
theorem T13 : T 13 = .go 13 [.c 2 (some 1), .t 3] v13 := rfl
theorem T14 : T 14 = .go 67 [.t 6, .t 7] v14 := rfl
theorem T15 : T 15 = .go 64 [.c 2 (some 8), .t 3] v15 := rfl
theorem T17 : T 17 = .go 7 [.t 2] v17 := rfl
theorem T19 : T 19 = .go 6 [.t 2] v19 := rfl
theorem T20 : T 20 = .go 8 [.t 2] v20 := rfl
theorem T0_21 : T0 21 = .go 47 [.t 0] v21 := rfl
theorem T22 : T 22 = .go 5 [.c 2 (some 1)] v22 := rfl
theorem T28 : T 28 = .go 4 [.t 2] v28 := rfl
theorem T38 : T 38 = .go 15 [.t 6] v38 := rfl
theorem T39 : T 39 = .go 7 [.t 2] v39 := rfl
theorem T40 : T 40 = .go 45 [.t 2] v40 := rfl
theorem T41 : T 41 = .go 119 [.t 6] v41 := rfl
theorem T42 : T 42 = .go 79 [.t 2] v42 := rfl
theorem T43 : T 43 = .go 15 [.t 2] v43 := rfl
theorem T44 : T 44 = .go 13 [.t 2, .t 3] v44 := rfl
theorem T45 : T 45 = .go 18 [.t 4, .t 5] v45 := rfl
theorem T46 : T 46 = .go 15 [.t 4] v46 := rfl
theorem T47 : T 47 = .go 96 [] v47 := rfl
theorem T48 : T 48 = .go 201 [] v48 := rfl
theorem T53 : T 53 = .go 7 [.t 2] v53 := rfl
theorem T54 : T 54 = .go 87 [.t 6, .t 7, .t 8] v54 := rfl
theorem T55 : T 55 = .go 19 [.c 2 (some 1)] v55 := rfl
theorem T56 : T 56 = .go 4 [.t 2] v56 := rfl
theorem T57 : T 57 = .go 18 [] v57 := rfl
theorem T58 : T 58 = .go 51 [] v58 := rfl
theorem T59 : T 59 = .go 52 [.t 8] v59 := rfl
theorem T72 : T 72 = .go 32 [.c 2 (some 3), .t 3, .t 4] v72 := rfl
theorem T74 : T 74 = .go 27 [.c 2 (some 4)] v74 := rfl
theorem T75 : T 75 = .go 26 [.t 4] v75 := rfl
theorem T76 : T 76 = .go 73 [.t 2] v76 := rfl
theorem T77 : T 77 = .go 161 [.t 6] v77 := rfl
theorem T78 : T 78 = .go 19 [.t 4] v78 := rfl
theorem T79 : T 79 = .go 79 [.t 6] v79 := rfl
theorem T80 : T 80 = .go 4 [.t 2] v80 := rfl
theorem T81 : T 81 = .go 48 [.t 4] v81 := rfl
theorem T82 : T 82 = .go 15 [.t 4] v82 := rfl
theorem T83 : T 83 = .go 45 [.c 2 (some 6), .t 3] v83 := rfl
theorem T84 : T 84 = .go 69 [] v84 := rfl
theorem T85 : T 85 = .go 45 [.t 4] v85 := rfl
theorem T86 : T 86 = .go 25 [] v86 := rfl
theorem T87 : T 87 = .go 73 [] v87 := rfl
theorem T88 : T 88 = .go 21 [.t 4] v88 := rfl
theorem T89 : T 89 = .go 48 [] v89 := rfl
theorem T90 : T 90 = .go 28 [] v90 := rfl
theorem T91 : T 91 = .go 12 [.t 6] v91 := rfl
theorem T92 : T 92 = .go 22 [] v92 := rfl
theorem T93 : T 93 = .go 87 [.t 6] v93 := rfl
theorem T94 : T 94 = .go 57 [.t 4, .t 5] v94 := rfl
theorem T95 : T 95 = .go 52 [.t 6] v95 := rfl
theorem T96 : T 96 = .go 14 [.t 4] v96 := rfl
theorem T97 : T 97 = .go 24 [.t 4, .t 5] v97 := rfl
theorem T98 : T 98 = .go 26 [] v98 := rfl
theorem T99 : T 99 = .go 56 [] v99 := rfl
theorem T100 : T 100 = .go 87 [] v100 := rfl
theorem T104 : T 104 = .go 43 [.t 2] v104 := rfl
theorem T105 : T 105 = .go 35 [.t 6, .t 7] v105 := rfl
theorem T106 : T 106 = .go 28 [] v106 := rfl
theorem T107 : T 107 = .go 46 [] v107 := rfl
theorem T108 : T 108 = .go 24 [] v108 := rfl
theorem T109 : T 109 = .go 8 [.t 2] v109 := rfl
theorem T110 : T 110 = .go 64 [.c 6 (some 8), .t 7] v110 := rfl
theorem T111 : T 111 = .go 8 [.c 2 (some 8)] v111 := rfl
theorem T121 : T 121 = .go 85 [.c 2 (some 3), .t 3, .t 4] v121 := rfl
theorem T122 : T 122 = .go 27 [.t 2, .t 3] v122 := rfl
theorem T123 : T 123 = .go 28 [.t 2] v123 := rfl
theorem T124 : T 124 = .go 85 [] v124 := rfl
theorem T125 : T 125 = .go 33 [.t 12] v125 := rfl
theorem T126 : T 126 = .go 18 [.c 2 (some 2), .t 3] v126 := rfl
theorem T127 : T 127 = .go 14 [] v127 := rfl
theorem T128 : T 128 = .go 17 [.t 4] v128 := rfl
theorem T129 : T 129 = .go 18 [.t 2] v129 := rfl
theorem T130 : T 130 = .go 20 [.t 4] v130 := rfl
theorem T131 : T 131 = .go 17 [.t 6] v131 := rfl
theorem T132 : T 132 = .go 23 [.t 6] v132 := rfl
theorem T133 : T 133 = .go 40 [.t 6] v133 := rfl
theorem T134 : T 134 = .go 24 [] v134 := rfl
theorem T135 : T 135 = .go 38 [.t 4, .t 5] v135 := rfl
theorem T136 : T 136 = .go 30 [.t 4, .t 5] v136 := rfl
theorem T137 : T 137 = .go 23 [.c 2 (some 6), .t 3] v137 := rfl
theorem T138 : T 138 = .go 22 [] v138 := rfl
theorem T139 : T 139 = .go 4 [.t 2] v139 := rfl
theorem T140 : T 140 = .go 8 [.t 2] v140 := rfl
theorem T141 : T 141 = .go 54 [.t 4] v141 := rfl
theorem T142 : T 142 = .go 34 [.t 6] v142 := rfl
theorem T143 : T 143 = .go 8 [.t 2] v143 := rfl
theorem T144 : T 144 = .go 14 [] v144 := rfl
theorem T145 : T 145 = .go 14 [.t 4] v145 := rfl
theorem T146 : T 146 = .go 19 [.t 4] v146 := rfl
theorem T147 : T 147 = .go 9 [.t 4] v147 := rfl
theorem T148 : T 148 = .go 64 [.t 10, .t 11] v148 := rfl
theorem T149 : T 149 = .go 97 [] v149 := rfl
theorem T150 : T 150 = .go 71 [] v150 := rfl
theorem T151 : T 151 = .go 29 [.c 2 (some 6), .t 3] v151 := rfl
theorem T152 : T 152 = .go 55 [] v152 := rfl
theorem T153 : T 153 = .go 85 [.t 4] v153 := rfl
theorem T154 : T 154 = .go 58 [.t 4] v154 := rfl
theorem T155 : T 155 = .go 57 [] v155 := rfl
theorem T156 : T 156 = .go 19 [.c 2 (some 8)] v156 := rfl
theorem T157 : T 157 = .go 101 [.c 6 (some 8), .t 7, .t 8] v157 := rfl
theorem T158 : T 158 = .go 8 [.t 2] v158 := rfl
theorem T162 : T 162 = .go 54 [.c 4 (some 11)] v162 := rfl
theorem T163 : T 163 = .go 20 [.t 2] v163 := rfl
theorem T164 : T 164 = .go 19 [] v164 := rfl
theorem T165 : T 165 = .go 38 [.t 4] v165 := rfl
theorem T166 : T 166 = .go 19 [.t 4] v166 := rfl
theorem T167 : T 167 = .go 53 [.t 6] v167 := rfl
theorem T168 : T 168 = .go 86 [.c 4 (some 2)] v168 := rfl
theorem T169 : T 169 = .go 69 [] v169 := rfl
theorem T170 : T 170 = .go 100 [] v170 := rfl
theorem T171 : T 171 = .go 72 [] v171 := rfl
theorem T172 : T 172 = .go 49 [] v172 := rfl
theorem T173 : T 173 = .go 9 [.t 2] v173 := rfl
theorem T174 : T 174 = .go 148 [] v174 := rfl
theorem T175 : T 175 = .go 8 [.t 2] v175 := rfl
theorem T176 : T 176 = .go 6 [.t 2] v176 := rfl
theorem T177 : T 177 = .go 22 [.t 2, .t 3] v177 := rfl
theorem T178 : T 178 = .go 17 [.t 4, .t 5] v178 := rfl
theorem T179 : T 179 = .go 51 [.t 4, .t 5] v179 := rfl
theorem T180 : T 180 = .go 19 [] v180 := rfl
theorem T181 : T 181 = .go 9 [.t 4] v181 := rfl
theorem T182 : T 182 = .go 14 [.t 3] v182 := rfl
theorem T183 : T 183 = .go 10 [.t 2] v183 := rfl
theorem T184 : T 184 = .go 8 [.t 4] v184 := rfl
theorem T185 : T 185 = .go 10 [.t 4] v185 := rfl
theorem T186 : T 186 = .go 32 [.t 6] v186 := rfl
theorem T187 : T 187 = .go 49 [.c 2 (some 6), .t 3] v187 := rfl
theorem T188 : T 188 = .go 76 [.t 4, .t 5] v188 := rfl
theorem T189 : T 189 = .go 62 [.t 4] v189 := rfl
theorem T190 : T 190 = .go 19 [.t 2] v190 := rfl
theorem T191 : T 191 = .go 50 [.t 4] v191 := rfl
theorem T192 : T 192 = .go 51 [.t 4] v192 := rfl
theorem T193 : T 193 = .go 68 [] v193 := rfl
theorem T194 : T 194 = .go 8 [.t 2] v194 := rfl
theorem T199 : T 199 = .go 48 [.c 4 (some 11)] v199 := rfl
theorem T200 : T 200 = .go 19 [.t 4] v200 := rfl
theorem T201 : T 201 = .go 34 [.c 6 (some 2)] v201 := rfl
theorem T202 : T 202 = .go 29 [.c 4 (some 2)] v202 := rfl
theorem T203 : T 203 = .go 27 [.c 4 (some 2)] v203 := rfl
theorem T204 : T 204 = .go 21 [.t 6] v204 := rfl
theorem T205 : T 205 = .go 53 [] v205 := rfl
theorem T206 : T 206 = .go 60 [] v206 := rfl
theorem T207 : T 207 = .go 67 [] v207 := rfl
theorem T208 : T 208 = .go 63 [.t 8, .t 9] v208 := rfl
theorem T209 : T 209 = .go 34 [] v209 := rfl
theorem T210 : T 210 = .go 141 [.t 8] v210 := rfl
theorem T211 : T 211 = .go 90 [.t 10] v211 := rfl
theorem T212 : T 212 = .go 178 [.t 10, .t 11] v212 := rfl
theorem T213 : T 213 = .go 19 [.t 2] v213 := rfl
theorem T214 : T 214 = .go 25 [.t 2] v214 := rfl
theorem T215 : T 215 = .go 122 [.t 2, .t 3] v215 := rfl
theorem T216 : T 216 = .go 19 [.t 4] v216 := rfl
theorem T217 : T 217 = .go 11 [.t 2] v217 := rfl
theorem T218 : T 218 = .go 13 [.t 2] v218 := rfl
theorem T219 : T 219 = .go 16 [.c 2 (some 6)] v219 := rfl
theorem T220 : T 220 = .go 6 [.t 2] v220 := rfl
theorem T221 : T 221 = .go 49 [.t 4] v221 := rfl
theorem T222 : T 222 = .go 20 [.t 2] v222 := rfl
theorem T223 : T 223 = .go 15 [.t 6] v223 := rfl
theorem T224 : T 224 = .go 9 [.t 4] v224 := rfl
theorem T225 : T 225 = .go 6 [.t 2] v225 := rfl
theorem T226 : T 226 = .go 45 [.t 4] v226 := rfl
theorem T227 : T 227 = .go 65 [.t 4, .t 5, .t 6] v227 := rfl
theorem T228 : T 228 = .go 21 [.t 4, .t 5, .t 6] v228 := rfl
theorem T233 : T 233 = .go 25 [.t 2] v233 := rfl
theorem T234 : T 234 = .go 101 [.t 4] v234 := rfl
theorem T235 : T 235 = .go 6 [.t 2] v235 := rfl
theorem T236 : T 236 = .go 82 [] v236 := rfl
theorem T237 : T 237 = .go 7 [.t 2] v237 := rfl
theorem T238 : T 238 = .go 33 [.t 2] v238 := rfl
theorem T239 : T 239 = .go 18 [.t 8] v239 := rfl
theorem T240 : T 240 = .go 41 [.t 12] v240 := rfl
theorem T241 : T 241 = .go 17 [.t 2, .t 3] v241 := rfl
theorem T242 : T 242 = .go 58 [.t 2] v242 := rfl
theorem T243 : T 243 = .go 10 [.t 2] v243 := rfl
theorem T244 : T 244 = .go 19 [.t 4] v244 := rfl
theorem T245 : T 245 = .go 26 [.t 4] v245 := rfl
theorem T246 : T 246 = .go 11 [.t 2] v246 := rfl
theorem T247 : T 247 = .go 11 [.t 2] v247 := rfl
theorem T250 : T 250 = .go 19 [] v250 := rfl
theorem T251 : T 251 = .go 38 [.c 2 (some 4), .t 3] v251 := rfl
theorem T252 : T 252 = .go 126 [.c 4 (some 11), .t 5] v252 := rfl
theorem T253 : T 253 = .go 36 [.c 6 (some 11)] v253 := rfl
theorem T254 : T 254 = .go 63 [.c 4 (some 4), .t 5, .t 6] v254 := rfl
theorem T255 : T 255 = .go 32 [.t 10, .t 11] v255 := rfl
theorem T256 : T 256 = .go 64 [.t 0] v256 := rfl
theorem T257 : T 257 = .go 19 [.t 4] v257 := rfl
theorem T258 : T 258 = .go 8 [.t 3] v258 := rfl
theorem T259 : T 259 = .go 35 [.t 2] v259 := rfl
theorem T260 : T 260 = .go 20 [.t 0] v260 := rfl
theorem T261 : T 261 = .go 25 [.t 4] v261 := rfl
theorem T262 : T 262 = .go 8 [.t 0] v262 := rfl
theorem T263 : T 263 = .go 11 [] v263 := rfl
theorem T264 : T 264 = .go 47 [.t 4] v264 := rfl
theorem T265 : T 265 = .go 130 [.c 4 (some 11), .t 5] v265 := rfl
theorem T266 : T 266 = .go 70 [.t 6, .t 7, .t 8, .t 9] v266 := rfl
theorem T267 : T 267 = .go 18 [.c 8 (some 11)] v267 := rfl
theorem T268 : T 268 = .go 7 [.t 2] v268 := rfl
theorem T269 : T 269 = .go 18 [.c 8 (some 11)] v269 := rfl
theorem T270 : T 270 = .go 10 [.t 6] v270 := rfl
theorem T271 : T 271 = .go 80 [.c 2 (some 11)] v271 := rfl
theorem T272 : T 272 = .go 13 [.t 4] v272 := rfl
theorem T273 : T 273 = .go 8 [.t 2] v273 := rfl
theorem T274 : T 274 = .go 32 [.c 4 (some 4), .t 5] v274 := rfl
theorem T275 : T 275 = .go 17 [.t 4] v275 := rfl
theorem T276 : T 276 = .go 134 [] v276 := rfl
theorem T277 : T 277 = .go 108 [.c 4 (some 8)] v277 := rfl
theorem T278 : T 278 = .go 66 [.c 4 (some 5), .t 5, .t 6] v278 := rfl
theorem T279 : T 279 = .go 37 [.t 2] v279 := rfl
theorem T280 : T 280 = .go 38 [.t 2] v280 := rfl
theorem T281 : T 281 = .go 98 [.c 4 (some 5), .t 5] v281 := rfl
theorem T282 : T 282 = .go 55 [.c 4 (some 4), .t 5] v282 := rfl
theorem T283 : T 283 = .go 49 [] v283 := rfl
theorem T284 : T 284 = .go 56 [] v284 := rfl
theorem T285 : T 285 = .go 65 [] v285 := rfl
theorem T286 : T 286 = .go 57 [.t 6, .t 7] v286 := rfl
theorem T287 : T 287 = .go 32 [] v287 := rfl
theorem T288 : T 288 = .go 133 [.t 6] v288 := rfl
theorem T289 : T 289 = .go 17 [.t 4] v289 := rfl
theorem T290 : T 290 = .go 84 [.t 8] v290 := rfl
theorem T291 : T 291 = .go 168 [.t 8, .t 9] v291 := rfl
theorem T292 : T 292 = .go 12 [.t 6] v292 := rfl
theorem T293 : T 293 = .go 30 [.c 4 (some 8)] v293 := rfl
theorem T294 : T 294 = .go 44 [.c 4 (some 8)] v294 := rfl
theorem T295 : T 295 = .go 64 [.c 2 (some 8)] v295 := rfl
theorem T296 : T 296 = .go 46 [.c 4 (some 5), .t 5] v296 := rfl
theorem T297 : T 297 = .go 24 [.t 4] v297 := rfl
theorem T298 : T 298 = .go 8 [.t 2] v298 := rfl
theorem T299 : T 299 = .go 47 [.t 0] v299 := rfl
theorem T300 : T 300 = .go 71 [.c 4 (some 5), .t 5, .t 6] v300 := rfl
theorem T301 : T 301 = .go 14 [.t 2] v301 := rfl
theorem T302 : T 302 = .go 9 [.t 2] v302 := rfl
theorem T303 : T 303 = .go 60 [.t 4, .t 5, .t 6] v303 := rfl
theorem T304 : T 304 = .go 25 [.t 4, .t 5] v304 := rfl
theorem T305 : T 305 = .go 76 [] v305 := rfl
theorem T306 : T 306 = .go 15 [.t 6] v306 := rfl
theorem T307 : T 307 = .go 36 [.t 10] v307 := rfl
theorem T308 : T 308 = .go 19 [.t 4] v308 := rfl
theorem T309 : T 309 = .go 9 [.t 4] v309 := rfl
theorem T310 : T 310 = .go 32 [.t 6] v310 := rfl
theorem T311 : T 311 = .go 8 [.t 4] v311 := rfl
theorem T312 : T 312 = .go 53 [.c 4 (some 5), .t 5] v312 := rfl
theorem T313 : T 313 = .go 35 [.c 4 (some 5), .t 5] v313 := rfl
theorem T314 : T 314 = .go 58 [.c 4 (some 5), .t 5] v314 := rfl
theorem T315 : T 315 = .go 18 [.t 2] v315 := rfl
theorem T316 : T 316 = .go 29 [.t 2, .t 3] v316 := rfl
theorem T317 : T 317 = .go 17 [.t 2] v317 := rfl
theorem T318 : T 318 = .go 28 [.t 8, .t 9] v318 := rfl
theorem T319 : T 319 = .go 18 [.t 4] v319 := rfl
theorem T320 : T 320 = .go 13 [.t 4, .t 5, .t 6] v320 := rfl
theorem T321 : T 321 = .go 11 [.t 4, .t 5] v321 := rfl
theorem T322 : T 322 = .go 36 [.t 6, .t 7] v322 := rfl
theorem T323 : T 323 = .go 21 [.t 2] v323 := rfl
theorem T324 : T 324 = .go 23 [.t 4, .t 5, .t 6] v324 := rfl
theorem T325 : T 325 = .go 15 [.t 4, .t 5] v325 := rfl
theorem T326 : T 326 = .go 31 [.t 2] v326 := rfl
theorem T327 : T 327 = .go 143 [.t 4] v327 := rfl
theorem T328 : T 328 = .go 8 [.t 4] v328 := rfl
theorem T330 : T 330 = .go 6 [.t 2] v330 := rfl
theorem T331 : T 331 = .go 81 [.t 4] v331 := rfl
theorem T333 : T 333 = .go 39 [.t 2, .t 3] v333 := rfl

theorem T_ok {Q : Nat → Prop} (h : Q 21) (f : Nat) : T f = .none ∨ T f = fnOf Tryz.prog Tryz.prog.globals.size ext f ∨ ∃ g, T f = .sum g ∧ (g = anc ∧ Q f) := by
  unfold T
  by_cases h21 : f = 21
  · subst h21; exact .inr (.inr ⟨anc, by simp, rfl, by simp [h]⟩)
  rw [if_neg h21]
  exact (T0_ok f).imp id .inl

theorem T329 : T 329 = .ext xIndexString := rfl
theorem T332 : T 332 = .ext xIndexByte := rfl

end Go.Proofs.YtnbdamdcmofafaaGreatDoor
