/- The table of the program's functions for the interpreter. No condition. -/
import Derived.Test.YtjlckbphpmogjaaGreatDoorVlV0
import Derived.Test.YtjlckbphpmogjaaGreatDoorVlV1
import Derived.Test.YtjlckbphpmogjaaGreatDoorVlV2
namespace Go.Proofs.YtjlckbphpmogjaaGreatDoor
open Go.Vi

def tbl : List VFn :=
  [.none,
  .none,
  .none,
  .none,
  .go 67 [.t 4] v4,
  .none,
  .none,
  .none,
  .none,
  .none,
  .none,
  .go 63 [.t 0] v11,
  .go 35 [.t 2] v12,
  .go 25 [.t 2] v13,
  .go 25 [.t 2] v14,
  .go 26 [.t 4] v15,
  .go 25 [.t 2] v16,
  .go 26 [.t 2] v17,
  .none,
  .none,
  .none,
  .none,
  .none,
  .none,
  .none,
  .go 8 [.t 2] v25,
  .none,
  .go 27 [.c 4 (some 8), .t 5, .t 6] v27,
  .go 45 [.t 4] v28,
  .none,
  .none,
  .go 87 [.t 6, .t 7, .t 8] v31,
  .none,
  .none,
  .none,
  .none,
  .go 66 [.t 6] v36,
  .go 5 [.t 2] v37,
  .go 14 [.t 2] v38,
  .go 11 [.t 2] v39,
  .go 14 [.t 2] v40,
  .go 75 [.t 4] v41,
  .go 33 [.t 2] v42,
  .none,
  .none,
  .none,
  .none,
  .none,
  .none,
  .none,
  .none,
  .go 8 [.c 2 (some 8)] v51,
  .none,
  .none,
  .none,
  .go 35 [.t 6, .t 7] v55,
  .none,
  .none,
  .none,
  .none,
  .none,
  .none,
  .go 64 [.c 6 (some 8), .t 7] v62,
  .go 42 [.t 4, .t 5] v63,
  .go 26 [.t 4] v64,
  .none,
  .none,
  .go 43 [.t 2] v67,
  .go 32 [.c 2 (some 3), .t 3, .t 4] v68,
  .go 13 [.c 2 (some 1), .t 3] v69,
  .go 27 [.c 2 (some 4)] v70,
  .go 67 [.t 6, .t 7] v71,
  .go 28 [] v72,
  .go 8 [.t 2] v73,
  .none,
  .go 15 [.t 6] v75,
  .none,
  .go 25 [.t 4] v77,
  .go 5 [.t 2] v78,
  .go 25 [] v79,
  .go 19 [.t 4, .t 5] v80,
  .go 14 [.t 2] v81,
  .none,
  .none,
  .none,
  .none,
  .none,
  .none,
  .none,
  .none,
  .none,
  .none,
  .none,
  .none,
  .none,
  .none,
  .none,
  .none,
  .none,
  .go 8 [.t 2] v99,
  .none,
  .go 65 [.t 4, .t 5, .t 6] v101,
  .go 19 [.c 2 (some 8)] v102,
  .go 101 [.c 6 (some 8), .t 7, .t 8] v103,
  .go 85 [.t 4] v104,
  .go 20 [.t 2] v105,
  .none,
  .none,
  .none,
  .go 85 [.c 2 (some 3), .t 3, .t 4] v109,
  .go 27 [.t 2, .t 3] v110,
  .go 15 [.t 2] v111,
  .go 28 [.t 2] v112,
  .go 85 [] v113,
  .go 33 [.t 12] v114,
  .go 95 [.t 2] v115,
  .go 6 [.t 2] v116,
  .go 13 [.t 2, .t 3] v117,
  .go 18 [.t 4, .t 5] v118,
  .go 15 [.t 4] v119,
  .go 64 [.c 2 (some 8), .t 3] v120,
  .go 7 [.t 2] v121,
  .go 7 [.t 2] v122,
  .none,
  .go 84 [.t 6] v124,
  .go 54 [.t 4] v125,
  .go 20 [] v126,
  .go 30 [] v127,
  .none,
  .none,
  .none,
  .none,
  .none,
  .none,
  .none,
  .none,
  .none,
  .none,
  .none,
  .go 46 [.t 2] v139,
  .none,
  .none,
  .none,
  .none,
  .go 11 [.t 2] v144,
  .go 19 [.t 2] v145,
  .go 50 [.t 4] v146,
  .go 51 [.t 4] v147,
  .go 68 [] v148,
  .go 62 [.t 4] v149,
  .go 8 [.t 2] v150,
  .go 76 [.t 4, .t 5] v151,
  .go 54 [.c 4 (some 11)] v152,
  .go 20 [.t 2] v153,
  .go 19 [] v154,
  .go 38 [.t 4] v155,
  .go 19 [.t 4] v156,
  .go 53 [.t 6] v157,
  .go 4 [.t 2] v158,
  .go 86 [.c 4 (some 2)] v159,
  .go 69 [] v160,
  .go 100 [] v161,
  .go 72 [] v162,
  .go 49 [] v163,
  .go 9 [.t 2] v164,
  .go 15 [.t 6] v165,
  .go 7 [.t 2] v166,
  .go 45 [.t 2] v167,
  .go 119 [.t 6] v168,
  .go 79 [.t 2] v169,
  .go 48 [.t 4] v170,
  .go 15 [.t 4] v171,
  .go 96 [] v172,
  .go 201 [] v173,
  .go 49 [.t 4, .t 5, .t 6] v174,
  .go 29 [.t 6] v175,
  .go 15 [.t 2] v176,
  .go 15 [.t 2] v177,
  .go 167 [] v178,
  .go 102 [.t 10, .t 11] v179,
  .ext xSame,
  .ext (xMakeNoZero 5),
  .go 8 [.t 4] v182,
  .none,
  .none,
  .none,
  .none,
  .none,
  .none,
  .go 17 [.t 4] v189,
  .none,
  .none,
  .none,
  .none,
  .none,
  .go 21 [.t 4, .t 5, .t 6] v195,
  .go 15 [.t 6] v196,
  .go 9 [.t 4] v197,
  .go 6 [.t 2] v198,
  .go 16 [.c 2 (some 6)] v199,
  .go 6 [.t 2] v200,
  .go 49 [.t 4] v201,
  .go 48 [.c 4 (some 11)] v202,
  .go 19 [.t 4] v203,
  .go 24 [] v204,
  .go 38 [.t 4, .t 5] v205,
  .go 34 [.c 6 (some 2)] v206,
  .go 29 [.c 4 (some 2)] v207,
  .go 27 [.c 4 (some 2)] v208,
  .go 21 [.t 6] v209,
  .go 26 [.t 4] v210,
  .go 73 [.t 2] v211,
  .go 161 [.t 6] v212,
  .go 19 [.t 4] v213,
  .go 79 [.t 6] v214,
  .go 30 [.t 4, .t 5] v215,
  .go 14 [.t 4] v216,
  .go 45 [.c 2 (some 6), .t 3] v217,
  .go 69 [] v218,
  .go 45 [.t 4] v219,
  .go 25 [] v220,
  .go 73 [] v221,
  .go 21 [.t 4] v222,
  .go 48 [] v223,
  .go 28 [] v224,
  .go 12 [.t 6] v225,
  .go 22 [] v226,
  .go 87 [.t 6] v227,
  .go 57 [.t 4, .t 5] v228,
  .go 52 [.t 6] v229,
  .go 24 [.t 4, .t 5] v230,
  .go 26 [] v231,
  .go 56 [] v232,
  .go 87 [] v233,
  .go 28 [.t 2, .t 3] v234,
  .go 6 [.t 2] v235,
  .go 25 [.t 2] v236,
  .go 4 [.t 2] v237,
  .go 8 [.t 2] v238,
  .go 8 [.t 2] v239,
  .ext xFindByte,
  .none,
  .none,
  .none,
  .none,
  .none,
  .none,
  .none,
  .go 11 [.t 2] v248,
  .go 19 [.t 4] v249,
  .go 10 [.t 2] v250,
  .go 25 [.t 2] v251,
  .go 101 [.t 4] v252,
  .go 22 [.t 2, .t 3] v253,
  .go 6 [.t 2] v254,
  .go 18 [.c 2 (some 2), .t 3] v255,
  .go 14 [] v256,
  .go 17 [.t 4] v257,
  .go 18 [.t 2] v258,
  .go 20 [.t 4] v259,
  .go 17 [.t 6] v260,
  .go 23 [.t 6] v261,
  .go 40 [.t 6] v262,
  .go 17 [.t 4, .t 5] v263,
  .go 51 [.t 4, .t 5] v264,
  .go 23 [.c 2 (some 6), .t 3] v265,
  .go 22 [] v266,
  .go 4 [.t 2] v267,
  .go 8 [.t 2] v268,
  .go 54 [.t 4] v269,
  .go 34 [.t 6] v270,
  .go 8 [.t 2] v271,
  .go 14 [] v272,
  .go 14 [.t 4] v273,
  .go 19 [.t 4] v274,
  .go 9 [.t 4] v275,
  .go 64 [.t 10, .t 11] v276,
  .go 97 [] v277,
  .go 71 [] v278,
  .go 29 [.c 2 (some 6), .t 3] v279,
  .go 55 [] v280,
  .go 18 [.t 2, .t 3] v281,
  .go 14 [.t 2] v282,
  .go 14 [.t 2] v283,
  .none,
  .none,
  .none,
  .none,
  .none,
  .go 19 [] v289,
  .go 38 [.c 2 (some 4), .t 3] v290,
  .go 126 [.c 4 (some 11), .t 5] v291,
  .go 36 [.c 6 (some 11)] v292,
  .go 63 [.c 4 (some 4), .t 5, .t 6] v293,
  .go 122 [.t 2, .t 3] v294,
  .go 148 [] v295,
  .go 8 [.t 2] v296,
  .go 6 [.t 2] v297,
  .go 19 [] v298,
  .go 9 [.t 4] v299,
  .go 14 [.t 3] v300,
  .go 10 [.t 2] v301,
  .go 8 [.t 4] v302,
  .go 10 [.t 4] v303,
  .go 32 [.t 6] v304,
  .go 49 [.c 2 (some 6), .t 3] v305,
  .go 21 [.t 2] v306,
  .go 16 [.t 4] v307,
  .none,
  .none,
  .none,
  .none,
  .none,
  .none,
  .none,
  .go 47 [.t 4] v315,
  .go 130 [.c 4 (some 11), .t 5] v316,
  .go 70 [.t 6, .t 7, .t 8, .t 9] v317,
  .go 18 [.c 8 (some 11)] v318,
  .go 7 [.t 2] v319,
  .go 18 [.c 8 (some 11)] v320,
  .go 10 [.t 6] v321,
  .go 80 [.c 2 (some 11)] v322,
  .go 13 [.t 4] v323,
  .go 8 [.t 2] v324,
  .go 32 [.c 4 (some 4), .t 5] v325,
  .go 17 [.t 4] v326,
  .go 53 [] v327,
  .go 60 [] v328,
  .go 67 [] v329,
  .go 63 [.t 8, .t 9] v330,
  .go 34 [] v331,
  .go 141 [.t 8] v332,
  .go 90 [.t 10] v333,
  .go 178 [.t 10, .t 11] v334,
  .go 19 [.t 2] v335,
  .go 19 [.t 4] v336,
  .go 11 [.t 2] v337,
  .go 13 [.t 2] v338,
  .go 78 [.t 4] v339,
  .none,
  .none,
  .go 108 [.c 4 (some 8)] v342,
  .go 66 [.c 4 (some 5), .t 5, .t 6] v343,
  .go 37 [.t 2] v344,
  .go 38 [.t 2] v345,
  .go 98 [.c 4 (some 5), .t 5] v346,
  .go 55 [.c 4 (some 4), .t 5] v347,
  .go 82 [] v348,
  .go 7 [.t 2] v349,
  .go 33 [.t 2] v350,
  .go 18 [.t 8] v351,
  .go 41 [.t 12] v352,
  .go 17 [.t 2, .t 3] v353,
  .go 58 [.t 2] v354,
  .go 12 [.t 6] v355,
  .go 30 [.c 4 (some 8)] v356,
  .go 44 [.c 4 (some 8)] v357,
  .go 64 [.c 2 (some 8)] v358,
  .go 46 [.c 4 (some 5), .t 5] v359,
  .go 24 [.t 4] v360,
  .go 8 [.t 2] v361,
  .go 47 [.t 0] v362,
  .go 71 [.c 4 (some 5), .t 5, .t 6] v363,
  .go 14 [.t 2] v364,
  .go 9 [.t 2] v365,
  .go 60 [.t 4, .t 5, .t 6] v366,
  .go 25 [.t 4, .t 5] v367,
  .go 32 [.t 10, .t 11] v368,
  .go 64 [.t 0] v369,
  .go 19 [.t 4] v370,
  .go 8 [.t 3] v371,
  .go 35 [.t 2] v372,
  .go 20 [.t 0] v373,
  .go 25 [.t 4] v374,
  .go 8 [.t 0] v375,
  .go 11 [] v376,
  .go 19 [.t 4] v377,
  .go 9 [.t 4] v378,
  .go 32 [.t 6] v379,
  .go 8 [.t 4] v380,
  .go 53 [.c 4 (some 5), .t 5] v381,
  .go 35 [.c 4 (some 5), .t 5] v382,
  .go 58 [.c 4 (some 5), .t 5] v383,
  .go 18 [.t 2] v384,
  .go 29 [.t 2, .t 3] v385,
  .go 17 [.t 2] v386,
  .go 134 [] v387,
  .go 18 [.t 4] v388,
  .go 13 [.t 4, .t 5, .t 6] v389,
  .go 11 [.t 4, .t 5] v390,
  .go 36 [.t 6, .t 7] v391,
  .go 49 [] v392,
  .go 56 [] v393,
  .go 65 [] v394,
  .go 57 [.t 6, .t 7] v395,
  .go 32 [] v396,
  .go 133 [.t 6] v397,
  .go 17 [.t 4] v398,
  .go 84 [.t 8] v399,
  .go 168 [.t 8, .t 9] v400,
  .go 23 [.t 4, .t 5, .t 6] v401,
  .go 15 [.t 4, .t 5] v402,
  .go 31 [.t 2] v403,
  .go 76 [] v404,
  .go 15 [.t 6] v405,
  .go 36 [.t 10] v406,
  .go 143 [.t 4] v407,
  .go 28 [.t 8, .t 9] v408,
  .ext xIndexString,
  .go 6 [.t 2] v410,
  .go 81 [.t 4] v411,
  .go 39 [.t 2, .t 3] v412]

def T0 (f : Nat) : VFn := tbl.getD f .none

def anc : List AV → AMem → Option (AV × AMem)
  | [], m => some (.b true, m)
  | _, _ => none

def T (f : Nat) : VFn :=
  if f = 11 then .sum anc else
  T0 f

theorem extOk (f : Nat) (g : List AV → AMem → Option (AV × AMem)) (h : (Tryz.prog.funcs[f]?).map (·.body.isNone) = some true) (hg : ext f = .ext g) : VFn.ext g = fnOf Tryz.prog Tryz.prog.globals.size ext f := by
  unfold fnOf
  cases hf : Tryz.prog.funcs[f]? with
  | none => rw [hf] at h; simp at h
  | some fn =>
    rw [hf] at h
    have hb : fn.body = none := by simpa using h
    simp only [hb, hg]

set_option maxRecDepth 100000 in
theorem tblOk : AllOk Tryz.prog Tryz.prog.globals.size ext 0 tbl :=
  And.intro (.inl rfl) (
  And.intro (.inl rfl) (
  And.intro (.inl rfl) (
  And.intro (.inl rfl) (
  And.intro (.inr fn4.symm) (
  And.intro (.inl rfl) (
  And.intro (.inl rfl) (
  And.intro (.inl rfl) (
  And.intro (.inl rfl) (
  And.intro (.inl rfl) (
  And.intro (.inl rfl) (
  And.intro (.inr fn11.symm) (
  And.intro (.inr fn12.symm) (
  And.intro (.inr fn13.symm) (
  And.intro (.inr fn14.symm) (
  And.intro (.inr fn15.symm) (
  And.intro (.inr fn16.symm) (
  And.intro (.inr fn17.symm) (
  And.intro (.inl rfl) (
  And.intro (.inl rfl) (
  And.intro (.inl rfl) (
  And.intro (.inl rfl) (
  And.intro (.inl rfl) (
  And.intro (.inl rfl) (
  And.intro (.inl rfl) (
  And.intro (.inr fn25.symm) (
  And.intro (.inl rfl) (
  And.intro (.inr fn27.symm) (
  And.intro (.inr fn28.symm) (
  And.intro (.inl rfl) (
  And.intro (.inl rfl) (
  And.intro (.inr fn31.symm) (
  And.intro (.inl rfl) (
  And.intro (.inl rfl) (
  And.intro (.inl rfl) (
  And.intro (.inl rfl) (
  And.intro (.inr fn36.symm) (
  And.intro (.inr fn37.symm) (
  And.intro (.inr fn38.symm) (
  And.intro (.inr fn39.symm) (
  And.intro (.inr fn40.symm) (
  And.intro (.inr fn41.symm) (
  And.intro (.inr fn42.symm) (
  And.intro (.inl rfl) (
  And.intro (.inl rfl) (
  And.intro (.inl rfl) (
  And.intro (.inl rfl) (
  And.intro (.inl rfl) (
  And.intro (.inl rfl) (
  And.intro (.inl rfl) (
  And.intro (.inl rfl) (
  And.intro (.inr fn51.symm) (
  And.intro (.inl rfl) (
  And.intro (.inl rfl) (
  And.intro (.inl rfl) (
  And.intro (.inr fn55.symm) (
  And.intro (.inl rfl) (
  And.intro (.inl rfl) (
  And.intro (.inl rfl) (
  And.intro (.inl rfl) (
  And.intro (.inl rfl) (
  And.intro (.inl rfl) (
  And.intro (.inr fn62.symm) (
  And.intro (.inr fn63.symm) (
  And.intro (.inr fn64.symm) (
  And.intro (.inl rfl) (
  And.intro (.inl rfl) (
  And.intro (.inr fn67.symm) (
  And.intro (.inr fn68.symm) (
  And.intro (.inr fn69.symm) (
  And.intro (.inr fn70.symm) (
  And.intro (.inr fn71.symm) (
  And.intro (.inr fn72.symm) (
  And.intro (.inr fn73.symm) (
  And.intro (.inl rfl) (
  And.intro (.inr fn75.symm) (
  And.intro (.inl rfl) (
  And.intro (.inr fn77.symm) (
  And.intro (.inr fn78.symm) (
  And.intro (.inr fn79.symm) (
  And.intro (.inr fn80.symm) (
  And.intro (.inr fn81.symm) (
  And.intro (.inl rfl) (
  And.intro (.inl rfl) (
  And.intro (.inl rfl) (
  And.intro (.inl rfl) (
  And.intro (.inl rfl) (
  And.intro (.inl rfl) (
  And.intro (.inl rfl) (
  And.intro (.inl rfl) (
  And.intro (.inl rfl) (
  And.intro (.inl rfl) (
  And.intro (.inl rfl) (
  And.intro (.inl rfl) (
  And.intro (.inl rfl) (
  And.intro (.inl rfl) (
  And.intro (.inl rfl) (
  And.intro (.inl rfl) (
  And.intro (.inl rfl) (
  And.intro (.inr fn99.symm) (
  And.intro (.inl rfl) (
  And.intro (.inr fn101.symm) (
  And.intro (.inr fn102.symm) (
  And.intro (.inr fn103.symm) (
  And.intro (.inr fn104.symm) (
  And.intro (.inr fn105.symm) (
  And.intro (.inl rfl) (
  And.intro (.inl rfl) (
  And.intro (.inl rfl) (
  And.intro (.inr fn109.symm) (
  And.intro (.inr fn110.symm) (
  And.intro (.inr fn111.symm) (
  And.intro (.inr fn112.symm) (
  And.intro (.inr fn113.symm) (
  And.intro (.inr fn114.symm) (
  And.intro (.inr fn115.symm) (
  And.intro (.inr fn116.symm) (
  And.intro (.inr fn117.symm) (
  And.intro (.inr fn118.symm) (
  And.intro (.inr fn119.symm) (
  And.intro (.inr fn120.symm) (
  And.intro (.inr fn121.symm) (
  And.intro (.inr fn122.symm) (
  And.intro (.inl rfl) (
  And.intro (.inr fn124.symm) (
  And.intro (.inr fn125.symm) (
  And.intro (.inr fn126.symm) (
  And.intro (.inr fn127.symm) (
  And.intro (.inl rfl) (
  And.intro (.inl rfl) (
  And.intro (.inl rfl) (
  And.intro (.inl rfl) (
  And.intro (.inl rfl) (
  And.intro (.inl rfl) (
  And.intro (.inl rfl) (
  And.intro (.inl rfl) (
  And.intro (.inl rfl) (
  And.intro (.inl rfl) (
  And.intro (.inl rfl) (
  And.intro (.inr fn139.symm) (
  And.intro (.inl rfl) (
  And.intro (.inl rfl) (
  And.intro (.inl rfl) (
  And.intro (.inl rfl) (
  And.intro (.inr fn144.symm) (
  And.intro (.inr fn145.symm) (
  And.intro (.inr fn146.symm) (
  And.intro (.inr fn147.symm) (
  And.intro (.inr fn148.symm) (
  And.intro (.inr fn149.symm) (
  And.intro (.inr fn150.symm) (
  And.intro (.inr fn151.symm) (
  And.intro (.inr fn152.symm) (
  And.intro (.inr fn153.symm) (
  And.intro (.inr fn154.symm) (
  And.intro (.inr fn155.symm) (
  And.intro (.inr fn156.symm) (
  And.intro (.inr fn157.symm) (
  And.intro (.inr fn158.symm) (
  And.intro (.inr fn159.symm) (
  And.intro (.inr fn160.symm) (
  And.intro (.inr fn161.symm) (
  And.intro (.inr fn162.symm) (
  And.intro (.inr fn163.symm) (
  And.intro (.inr fn164.symm) (
  And.intro (.inr fn165.symm) (
  And.intro (.inr fn166.symm) (
  And.intro (.inr fn167.symm) (
  And.intro (.inr fn168.symm) (
  And.intro (.inr fn169.symm) (
  And.intro (.inr fn170.symm) (
  And.intro (.inr fn171.symm) (
  And.intro (.inr fn172.symm) (
  And.intro (.inr fn173.symm) (
  And.intro (.inr fn174.symm) (
  And.intro (.inr fn175.symm) (
  And.intro (.inr fn176.symm) (
  And.intro (.inr fn177.symm) (
  And.intro (.inr fn178.symm) (
  And.intro (.inr fn179.symm) (
  And.intro (.inr (extOk 180 xSame (by kernel_rfl) rfl)) (
  And.intro (.inr (extOk 181 (xMakeNoZero 5) (by kernel_rfl) rfl)) (
  And.intro (.inr fn182.symm) (
  And.intro (.inl rfl) (
  And.intro (.inl rfl) (
  And.intro (.inl rfl) (
  And.intro (.inl rfl) (
  And.intro (.inl rfl) (
  And.intro (.inl rfl) (
  And.intro (.inr fn189.symm) (
  And.intro (.inl rfl) (
  And.intro (.inl rfl) (
  And.intro (.inl rfl) (
  And.intro (.inl rfl) (
  And.intro (.inl rfl) (
  And.intro (.inr fn195.symm) (
  And.intro (.inr fn196.symm) (
  And.intro (.inr fn197.symm) (
  And.intro (.inr fn198.symm) (
  And.intro (.inr fn199.symm) (
  And.intro (.inr fn200.symm) (
  And.intro (.inr fn201.symm) (
  And.intro (.inr fn202.symm) (
  And.intro (.inr fn203.symm) (
  And.intro (.inr fn204.symm) (
  And.intro (.inr fn205.symm) (
  And.intro (.inr fn206.symm) (
  And.intro (.inr fn207.symm) (
  And.intro (.inr fn208.symm) (
  And.intro (.inr fn209.symm) (
  And.intro (.inr fn210.symm) (
  And.intro (.inr fn211.symm) (
  And.intro (.inr fn212.symm) (
  And.intro (.inr fn213.symm) (
  And.intro (.inr fn214.symm) (
  And.intro (.inr fn215.symm) (
  And.intro (.inr fn216.symm) (
  And.intro (.inr fn217.symm) (
  And.intro (.inr fn218.symm) (
  And.intro (.inr fn219.symm) (
  And.intro (.inr fn220.symm) (
  And.intro (.inr fn221.symm) (
  And.intro (.inr fn222.symm) (
  And.intro (.inr fn223.symm) (
  And.intro (.inr fn224.symm) (
  And.intro (.inr fn225.symm) (
  And.intro (.inr fn226.symm) (
  And.intro (.inr fn227.symm) (
  And.intro (.inr fn228.symm) (
  And.intro (.inr fn229.symm) (
  And.intro (.inr fn230.symm) (
  And.intro (.inr fn231.symm) (
  And.intro (.inr fn232.symm) (
  And.intro (.inr fn233.symm) (
  And.intro (.inr fn234.symm) (
  And.intro (.inr fn235.symm) (
  And.intro (.inr fn236.symm) (
  And.intro (.inr fn237.symm) (
  And.intro (.inr fn238.symm) (
  And.intro (.inr fn239.symm) (
  And.intro (.inr (extOk 240 xFindByte (by kernel_rfl) rfl)) (
  And.intro (.inl rfl) (
  And.intro (.inl rfl) (
  And.intro (.inl rfl) (
  And.intro (.inl rfl) (
  And.intro (.inl rfl) (
  And.intro (.inl rfl) (
  And.intro (.inl rfl) (
  And.intro (.inr fn248.symm) (
  And.intro (.inr fn249.symm) (
  And.intro (.inr fn250.symm) (
  And.intro (.inr fn251.symm) (
  And.intro (.inr fn252.symm) (
  And.intro (.inr fn253.symm) (
  And.intro (.inr fn254.symm) (
  And.intro (.inr fn255.symm) (
  And.intro (.inr fn256.symm) (
  And.intro (.inr fn257.symm) (
  And.intro (.inr fn258.symm) (
  And.intro (.inr fn259.symm) (
  And.intro (.inr fn260.symm) (
  And.intro (.inr fn261.symm) (
  And.intro (.inr fn262.symm) (
  And.intro (.inr fn263.symm) (
  And.intro (.inr fn264.symm) (
  And.intro (.inr fn265.symm) (
  And.intro (.inr fn266.symm) (
  And.intro (.inr fn267.symm) (
  And.intro (.inr fn268.symm) (
  And.intro (.inr fn269.symm) (
  And.intro (.inr fn270.symm) (
  And.intro (.inr fn271.symm) (
  And.intro (.inr fn272.symm) (
  And.intro (.inr fn273.symm) (
  And.intro (.inr fn274.symm) (
  And.intro (.inr fn275.symm) (
  And.intro (.inr fn276.symm) (
  And.intro (.inr fn277.symm) (
  And.intro (.inr fn278.symm) (
  And.intro (.inr fn279.symm) (
  And.intro (.inr fn280.symm) (
  And.intro (.inr fn281.symm) (
  And.intro (.inr fn282.symm) (
  And.intro (.inr fn283.symm) (
  And.intro (.inl rfl) (
  And.intro (.inl rfl) (
  And.intro (.inl rfl) (
  And.intro (.inl rfl) (
  And.intro (.inl rfl) (
  And.intro (.inr fn289.symm) (
  And.intro (.inr fn290.symm) (
  And.intro (.inr fn291.symm) (
  And.intro (.inr fn292.symm) (
  And.intro (.inr fn293.symm) (
  And.intro (.inr fn294.symm) (
  And.intro (.inr fn295.symm) (
  And.intro (.inr fn296.symm) (
  And.intro (.inr fn297.symm) (
  And.intro (.inr fn298.symm) (
  And.intro (.inr fn299.symm) (
  And.intro (.inr fn300.symm) (
  And.intro (.inr fn301.symm) (
  And.intro (.inr fn302.symm) (
  And.intro (.inr fn303.symm) (
  And.intro (.inr fn304.symm) (
  And.intro (.inr fn305.symm) (
  And.intro (.inr fn306.symm) (
  And.intro (.inr fn307.symm) (
  And.intro (.inl rfl) (
  And.intro (.inl rfl) (
  And.intro (.inl rfl) (
  And.intro (.inl rfl) (
  And.intro (.inl rfl) (
  And.intro (.inl rfl) (
  And.intro (.inl rfl) (
  And.intro (.inr fn315.symm) (
  And.intro (.inr fn316.symm) (
  And.intro (.inr fn317.symm) (
  And.intro (.inr fn318.symm) (
  And.intro (.inr fn319.symm) (
  And.intro (.inr fn320.symm) (
  And.intro (.inr fn321.symm) (
  And.intro (.inr fn322.symm) (
  And.intro (.inr fn323.symm) (
  And.intro (.inr fn324.symm) (
  And.intro (.inr fn325.symm) (
  And.intro (.inr fn326.symm) (
  And.intro (.inr fn327.symm) (
  And.intro (.inr fn328.symm) (
  And.intro (.inr fn329.symm) (
  And.intro (.inr fn330.symm) (
  And.intro (.inr fn331.symm) (
  And.intro (.inr fn332.symm) (
  And.intro (.inr fn333.symm) (
  And.intro (.inr fn334.symm) (
  And.intro (.inr fn335.symm) (
  And.intro (.inr fn336.symm) (
  And.intro (.inr fn337.symm) (
  And.intro (.inr fn338.symm) (
  And.intro (.inr fn339.symm) (
  And.intro (.inl rfl) (
  And.intro (.inl rfl) (
  And.intro (.inr fn342.symm) (
  And.intro (.inr fn343.symm) (
  And.intro (.inr fn344.symm) (
  And.intro (.inr fn345.symm) (
  And.intro (.inr fn346.symm) (
  And.intro (.inr fn347.symm) (
  And.intro (.inr fn348.symm) (
  And.intro (.inr fn349.symm) (
  And.intro (.inr fn350.symm) (
  And.intro (.inr fn351.symm) (
  And.intro (.inr fn352.symm) (
  And.intro (.inr fn353.symm) (
  And.intro (.inr fn354.symm) (
  And.intro (.inr fn355.symm) (
  And.intro (.inr fn356.symm) (
  And.intro (.inr fn357.symm) (
  And.intro (.inr fn358.symm) (
  And.intro (.inr fn359.symm) (
  And.intro (.inr fn360.symm) (
  And.intro (.inr fn361.symm) (
  And.intro (.inr fn362.symm) (
  And.intro (.inr fn363.symm) (
  And.intro (.inr fn364.symm) (
  And.intro (.inr fn365.symm) (
  And.intro (.inr fn366.symm) (
  And.intro (.inr fn367.symm) (
  And.intro (.inr fn368.symm) (
  And.intro (.inr fn369.symm) (
  And.intro (.inr fn370.symm) (
  And.intro (.inr fn371.symm) (
  And.intro (.inr fn372.symm) (
  And.intro (.inr fn373.symm) (
  And.intro (.inr fn374.symm) (
  And.intro (.inr fn375.symm) (
  And.intro (.inr fn376.symm) (
  And.intro (.inr fn377.symm) (
  And.intro (.inr fn378.symm) (
  And.intro (.inr fn379.symm) (
  And.intro (.inr fn380.symm) (
  And.intro (.inr fn381.symm) (
  And.intro (.inr fn382.symm) (
  And.intro (.inr fn383.symm) (
  And.intro (.inr fn384.symm) (
  And.intro (.inr fn385.symm) (
  And.intro (.inr fn386.symm) (
  And.intro (.inr fn387.symm) (
  And.intro (.inr fn388.symm) (
  And.intro (.inr fn389.symm) (
  And.intro (.inr fn390.symm) (
  And.intro (.inr fn391.symm) (
  And.intro (.inr fn392.symm) (
  And.intro (.inr fn393.symm) (
  And.intro (.inr fn394.symm) (
  And.intro (.inr fn395.symm) (
  And.intro (.inr fn396.symm) (
  And.intro (.inr fn397.symm) (
  And.intro (.inr fn398.symm) (
  And.intro (.inr fn399.symm) (
  And.intro (.inr fn400.symm) (
  And.intro (.inr fn401.symm) (
  And.intro (.inr fn402.symm) (
  And.intro (.inr fn403.symm) (
  And.intro (.inr fn404.symm) (
  And.intro (.inr fn405.symm) (
  And.intro (.inr fn406.symm) (
  And.intro (.inr fn407.symm) (
  And.intro (.inr fn408.symm) (
  And.intro (.inr (extOk 409 xIndexString (by kernel_rfl) rfl)) (
  And.intro (.inr fn410.symm) (
  And.intro (.inr fn411.symm) (
  And.intro (.inr fn412.symm) (
  trivial)))))))))))))))))))))))))))))))))))))))))))))))))))))))))))))))))))))))))))))))))))))))))))))))))))))))))))))))))))))))))))))))))))))))))))))))))))))))))))))))))))))))))))))))))))))))))))))))))))))))))))))))))))))))))))))))))))))))))))))))))))))))))))))))))))))))))))))))))))))))))))))))))))))))))))))))))))))))))))))))))))))))))))))))))))))))))))))))))))))))))))))))))))))))))))))))))))))))))))))))))))))))))))))

theorem T0_ok (f : Nat) : T0 f = .none ∨ T0 f = fnOf Tryz.prog Tryz.prog.globals.size ext f := by
  have := tblOk.get f
  rwa [Nat.zero_add] at this

theorem T4 : T 4 = .go 67 [.t 4] v4 := rfl
theorem T0_11 : T0 11 = .go 63 [.t 0] v11 := rfl
theorem T12 : T 12 = .go 35 [.t 2] v12 := rfl
theorem T13 : T 13 = .go 25 [.t 2] v13 := rfl
theorem T14 : T 14 = .go 25 [.t 2] v14 := rfl
theorem T15 : T 15 = .go 26 [.t 4] v15 := rfl
theorem T16 : T 16 = .go 25 [.t 2] v16 := rfl
theorem T17 : T 17 = .go 26 [.t 2] v17 := rfl
theorem T25 : T 25 = .go 8 [.t 2] v25 := rfl
theorem T27 : T 27 = .go 27 [.c 4 (some 8), .t 5, .t 6] v27 := rfl
theorem T28 : T 28 = .go 45 [.t 4] v28 := rfl
theorem T31 : T 31 = .go 87 [.t 6, .t 7, .t 8] v31 := rfl
theorem T36 : T 36 = .go 66 [.t 6] v36 := rfl
theorem T37 : T 37 = .go 5 [.t 2] v37 := rfl
theorem T38 : T 38 = .go 14 [.t 2] v38 := rfl
theorem T39 : T 39 = .go 11 [.t 2] v39 := rfl
theorem T40 : T 40 = .go 14 [.t 2] v40 := rfl
theorem T41 : T 41 = .go 75 [.t 4] v41 := rfl
theorem T42 : T 42 = .go 33 [.t 2] v42 := rfl
theorem T51 : T 51 = .go 8 [.c 2 (some 8)] v51 := rfl
theorem T55 : T 55 = .go 35 [.t 6, .t 7] v55 := rfl
theorem T62 : T 62 = .go 64 [.c 6 (some 8), .t 7] v62 := rfl
theorem T63 : T 63 = .go 42 [.t 4, .t 5] v63 := rfl
theorem T64 : T 64 = .go 26 [.t 4] v64 := rfl
theorem T67 : T 67 = .go 43 [.t 2] v67 := rfl
theorem T68 : T 68 = .go 32 [.c 2 (some 3), .t 3, .t 4] v68 := rfl
theorem T69 : T 69 = .go 13 [.c 2 (some 1), .t 3] v69 := rfl
theorem T70 : T 70 = .go 27 [.c 2 (some 4)] v70 := rfl
theorem T71 : T 71 = .go 67 [.t 6, .t 7] v71 := rfl
theorem T72 : T 72 = .go 28 [] v72 := rfl
theorem T73 : T 73 = .go 8 [.t 2] v73 := rfl
theorem T75 : T 75 = .go 15 [.t 6] v75 := rfl
theorem T77 : T 77 = .go 25 [.t 4] v77 := rfl
theorem T78 : T 78 = .go 5 [.t 2] v78 := rfl
theorem T79 : T 79 = .go 25 [] v79 := rfl
theorem T80 : T 80 = .go 19 [.t 4, .t 5] v80 := rfl
theorem T81 : T 81 = .go 14 [.t 2] v81 := rfl
theorem T99 : T 99 = .go 8 [.t 2] v99 := rfl
theorem T101 : T 101 = .go 65 [.t 4, .t 5, .t 6] v101 := rfl
theorem T102 : T 102 = .go 19 [.c 2 (some 8)] v102 := rfl
theorem T103 : T 103 = .go 101 [.c 6 (some 8), .t 7, .t 8] v103 := rfl
theorem T104 : T 104 = .go 85 [.t 4] v104 := rfl
theorem T105 : T 105 = .go 20 [.t 2] v105 := rfl
theorem T109 : T 109 = .go 85 [.c 2 (some 3), .t 3, .t 4] v109 := rfl
theorem T110 : T 110 = .go 27 [.t 2, .t 3] v110 := rfl
theorem T111 : T 111 = .go 15 [.t 2] v111 := rfl
theorem T112 : T 112 = .go 28 [.t 2] v112 := rfl
theorem T113 : T 113 = .go 85 [] v113 := rfl
theorem T114 : T 114 = .go 33 [.t 12] v114 := rfl
theorem T115 : T 115 = .go 95 [.t 2] v115 := rfl
theorem T116 : T 116 = .go 6 [.t 2] v116 := rfl
theorem T117 : T 117 = .go 13 [.t 2, .t 3] v117 := rfl
theorem T118 : T 118 = .go 18 [.t 4, .t 5] v118 := rfl
theorem T119 : T 119 = .go 15 [.t 4] v119 := rfl
theorem T120 : T 120 = .go 64 [.c 2 (some 8), .t 3] v120 := rfl
theorem T121 : T 121 = .go 7 [.t 2] v121 := rfl
theorem T122 : T 122 = .go 7 [.t 2] v122 := rfl
theorem T124 : T 124 = .go 84 [.t 6] v124 := rfl
theorem T125 : T 125 = .go 54 [.t 4] v125 := rfl
theorem T126 : T 126 = .go 20 [] v126 := rfl
theorem T127 : T 127 = .go 30 [] v127 := rfl
theorem T139 : T 139 = .go 46 [.t 2] v139 := rfl
theorem T144 : T 144 = .go 11 [.t 2] v144 := rfl
theorem T145 : T 145 = .go 19 [.t 2] v145 := rfl
theorem T146 : T 146 = .go 50 [.t 4] v146 := rfl
theorem T147 : T 147 = .go 51 [.t 4] v147 := rfl
theorem T148 : T 148 = .go 68 [] v148 := rfl
theorem T149 : T 149 = .go 62 [.t 4] v149 := rfl
theorem T150 : T 150 = .go 8 [.t 2] v150 := rfl
theorem T151 : T 151 = .go 76 [.t 4, .t 5] v151 := rfl
theorem T152 : T 152 = .go 54 [.c 4 (some 11)] v152 := rfl
theorem T153 : T 153 = .go 20 [.t 2] v153 := rfl
theorem T154 : T 154 = .go 19 [] v154 := rfl
theorem T155 : T 155 = .go 38 [.t 4] v155 := rfl
theorem T156 : T 156 = .go 19 [.t 4] v156 := rfl
theorem T157 : T 157 = .go 53 [.t 6] v157 := rfl
theorem T158 : T 158 = .go 4 [.t 2] v158 := rfl
theorem T159 : T 159 = .go 86 [.c 4 (some 2)] v159 := rfl
theorem T160 : T 160 = .go 69 [] v160 := rfl
theorem T161 : T 161 = .go 100 [] v161 := rfl
theorem T162 : T 162 = .go 72 [] v162 := rfl
theorem T163 : T 163 = .go 49 [] v163 := rfl
theorem T164 : T 164 = .go 9 [.t 2] v164 := rfl
theorem T165 : T 165 = .go 15 [.t 6] v165 := rfl
theorem T166 : T 166 = .go 7 [.t 2] v166 := rfl
theorem T167 : T 167 = .go 45 [.t 2] v167 := rfl
theorem T168 : T 168 = .go 119 [.t 6] v168 := rfl
theorem T169 : T 169 = .go 79 [.t 2] v169 := rfl
theorem T170 : T 170 = .go 48 [.t 4] v170 := rfl
theorem T171 : T 171 = .go 15 [.t 4] v171 := rfl
theorem T172 : T 172 = .go 96 [] v172 := rfl
theorem T173 : T 173 = .go 201 [] v173 := rfl
theorem T174 : T 174 = .go 49 [.t 4, .t 5, .t 6] v174 := rfl
theorem T175 : T 175 = .go 29 [.t 6] v175 := rfl
theorem T176 : T 176 = .go 15 [.t 2] v176 := rfl
theorem T177 : T 177 = .go 15 [.t 2] v177 := rfl
theorem T178 : T 178 = .go 167 [] v178 := rfl
theorem T179 : T 179 = .go 102 [.t 10, .t 11] v179 := rfl
theorem T182 : T 182 = .go 8 [.t 4] v182 := rfl
theorem T189 : T 189 = .go 17 [.t 4] v189 := rfl
theorem T195 : T 195 = .go 21 [.t 4, .t 5, .t 6] v195 := rfl
theorem T196 : T 196 = .go 15 [.t 6] v196 := rfl
theorem T197 : T 197 = .go 9 [.t 4] v197 := rfl
theorem T198 : T 198 = .go 6 [.t 2] v198 := rfl
theorem T199 : T 199 = .go 16 [.c 2 (some 6)] v199 := rfl
theorem T200 : T 200 = .go 6 [.t 2] v200 := rfl
theorem T201 : T 201 = .go 49 [.t 4] v201 := rfl
theorem T202 : T 202 = .go 48 [.c 4 (some 11)] v202 := rfl
theorem T203 : T 203 = .go 19 [.t 4] v203 := rfl
theorem T204 : T 204 = .go 24 [] v204 := rfl
theorem T205 : T 205 = .go 38 [.t 4, .t 5] v205 := rfl
theorem T206 : T 206 = .go 34 [.c 6 (some 2)] v206 := rfl
theorem T207 : T 207 = .go 29 [.c 4 (some 2)] v207 := rfl
theorem T208 : T 208 = .go 27 [.c 4 (some 2)] v208 := rfl
theorem T209 : T 209 = .go 21 [.t 6] v209 := rfl
theorem T210 : T 210 = .go 26 [.t 4] v210 := rfl
theorem T211 : T 211 = .go 73 [.t 2] v211 := rfl
theorem T212 : T 212 = .go 161 [.t 6] v212 := rfl
theorem T213 : T 213 = .go 19 [.t 4] v213 := rfl
theorem T214 : T 214 = .go 79 [.t 6] v214 := rfl
theorem T215 : T 215 = .go 30 [.t 4, .t 5] v215 := rfl
theorem T216 : T 216 = .go 14 [.t 4] v216 := rfl
theorem T217 : T 217 = .go 45 [.c 2 (some 6), .t 3] v217 := rfl
theorem T218 : T 218 = .go 69 [] v218 := rfl
theorem T219 : T 219 = .go 45 [.t 4] v219 := rfl
theorem T220 : T 220 = .go 25 [] v220 := rfl
theorem T221 : T 221 = .go 73 [] v221 := rfl
theorem T222 : T 222 = .go 21 [.t 4] v222 := rfl
theorem T223 : T 223 = .go 48 [] v223 := rfl
theorem T224 : T 224 = .go 28 [] v224 := rfl
theorem T225 : T 225 = .go 12 [.t 6] v225 := rfl
theorem T226 : T 226 = .go 22 [] v226 := rfl
theorem T227 : T 227 = .go 87 [.t 6] v227 := rfl
theorem T228 : T 228 = .go 57 [.t 4, .t 5] v228 := rfl
theorem T229 : T 229 = .go 52 [.t 6] v229 := rfl
theorem T230 : T 230 = .go 24 [.t 4, .t 5] v230 := rfl
theorem T231 : T 231 = .go 26 [] v231 := rfl
theorem T232 : T 232 = .go 56 [] v232 := rfl
theorem T233 : T 233 = .go 87 [] v233 := rfl
theorem T234 : T 234 = .go 28 [.t 2, .t 3] v234 := rfl
theorem T235 : T 235 = .go 6 [.t 2] v235 := rfl
theorem T236 : T 236 = .go 25 [.t 2] v236 := rfl
theorem T237 : T 237 = .go 4 [.t 2] v237 := rfl
theorem T238 : T 238 = .go 8 [.t 2] v238 := rfl
theorem T239 : T 239 = .go 8 [.t 2] v239 := rfl
theorem T248 : T 248 = .go 11 [.t 2] v248 := rfl
theorem T249 : T 249 = .go 19 [.t 4] v249 := rfl
theorem T250 : T 250 = .go 10 [.t 2] v250 := rfl
theorem T251 : T 251 = .go 25 [.t 2] v251 := rfl
theorem T252 : T 252 = .go 101 [.t 4] v252 := rfl
theorem T253 : T 253 = .go 22 [.t 2, .t 3] v253 := rfl
theorem T254 : T 254 = .go 6 [.t 2] v254 := rfl
theorem T255 : T 255 = .go 18 [.c 2 (some 2), .t 3] v255 := rfl
theorem T256 : T 256 = .go 14 [] v256 := rfl
theorem T257 : T 257 = .go 17 [.t 4] v257 := rfl
theorem T258 : T 258 = .go 18 [.t 2] v258 := rfl
theorem T259 : T 259 = .go 20 [.t 4] v259 := rfl
theorem T260 : T 260 = .go 17 [.t 6] v260 := rfl
theorem T261 : T 261 = .go 23 [.t 6] v261 := rfl
theorem T262 : T 262 = .go 40 [.t 6] v262 := rfl
theorem T263 : T 263 = .go 17 [.t 4, .t 5] v263 := rfl
theorem T264 : T 264 = .go 51 [.t 4, .t 5] v264 := rfl
theorem T265 : T 265 = .go 23 [.c 2 (some 6), .t 3] v265 := rfl
theorem T266 : T 266 = .go 22 [] v266 := rfl
theorem T267 : T 267 = .go 4 [.t 2] v267 := rfl
theorem T268 : T 268 = .go 8 [.t 2] v268 := rfl
theorem T269 : T 269 = .go 54 [.t 4] v269 := rfl
theorem T270 : T 270 = .go 34 [.t 6] v270 := rfl
theorem T271 : T 271 = .go 8 [.t 2] v271 := rfl
theorem T272 : T 272 = .go 14 [] v272 := rfl
theorem T273 : T 273 = .go 14 [.t 4] v273 := rfl
theorem T274 : T 274 = .go 19 [.t 4] v274 := rfl
theorem T275 : T 275 = .go 9 [.t 4] v275 := rfl
theorem T276 : T 276 = .go 64 [.t 10, .t 11] v276 := rfl
theorem T277 : T 277 = .go 97 [] v277 := rfl
theorem T278 : T 278 = .go 71 [] v278 := rfl
theorem T279 : T 279 = .go 29 [.c 2 (some 6), .t 3] v279 := rfl
theorem T280 : T 280 = .go 55 [] v280 := rfl
theorem T281 : T 281 = .go 18 [.t 2, .t 3] v281 := rfl
theorem T282 : T 282 = .go 14 [.t 2] v282 := rfl
theorem T283 : T 283 = .go 14 [.t 2] v283 := rfl
theorem T289 : T 289 = .go 19 [] v289 := rfl
theorem T290 : T 290 = .go 38 [.c 2 (some 4), .t 3] v290 := rfl
theorem T291 : T 291 = .go 126 [.c 4 (some 11), .t 5] v291 := rfl
theorem T292 : T 292 = .go 36 [.c 6 (some 11)] v292 := rfl
theorem T293 : T 293 = .go 63 [.c 4 (some 4), .t 5, .t 6] v293 := rfl
theorem T294 : T 294 = .go 122 [.t 2, .t 3] v294 := rfl
theorem T295 : T 295 = .go 148 [] v295 := rfl
theorem T296 : T 296 = .go 8 [.t 2] v296 := rfl
theorem T297 : T 297 = .go 6 [.t 2] v297 := rfl
theorem T298 : T 298 = .go 19 [] v298 := rfl
theorem T299 : T 299 = .go 9 [.t 4] v299 := rfl
theorem T300 : T 300 = .go 14 [.t 3] v300 := rfl
theorem T301 : T 301 = .go 10 [.t 2] v301 := rfl
theorem T302 : T 302 = .go 8 [.t 4] v302 := rfl
theorem T303 : T 303 = .go 10 [.t 4] v303 := rfl
theorem T304 : T 304 = .go 32 [.t 6] v304 := rfl
theorem T305 : T 305 = .go 49 [.c 2 (some 6), .t 3] v305 := rfl
theorem T306 : T 306 = .go 21 [.t 2] v306 := rfl
theorem T307 : T 307 = .go 16 [.t 4] v307 := rfl
theorem T315 : T 315 = .go 47 [.t 4] v315 := rfl
theorem T316 : T 316 = .go 130 [.c 4 (some 11), .t 5] v316 := rfl
theorem T317 : T 317 = .go 70 [.t 6, .t 7, .t 8, .t 9] v317 := rfl
theorem T318 : T 318 = .go 18 [.c 8 (some 11)] v318 := rfl
theorem T319 : T 319 = .go 7 [.t 2] v319 := rfl
theorem T320 : T 320 = .go 18 [.c 8 (some 11)] v320 := rfl
theorem T321 : T 321 = .go 10 [.t 6] v321 := rfl
theorem T322 : T 322 = .go 80 [.c 2 (some 11)] v322 := rfl
theorem T323 : T 323 = .go 13 [.t 4] v323 := rfl
theorem T324 : T 324 = .go 8 [.t 2] v324 := rfl
theorem T325 : T 325 = .go 32 [.c 4 (some 4), .t 5] v325 := rfl
theorem T326 : T 326 = .go 17 [.t 4] v326 := rfl
theorem T327 : T 327 = .go 53 [] v327 := rfl
theorem T328 : T 328 = .go 60 [] v328 := rfl
theorem T329 : T 329 = .go 67 [] v329 := rfl
theorem T330 : T 330 = .go 63 [.t 8, .t 9] v330 := rfl
theorem T331 : T 331 = .go 34 [] v331 := rfl
theorem T332 : T 332 = .go 141 [.t 8] v332 := rfl
theorem T333 : T 333 = .go 90 [.t 10] v333 := rfl
theorem T334 : T 334 = .go 178 [.t 10, .t 11] v334 := rfl
theorem T335 : T 335 = .go 19 [.t 2] v335 := rfl
theorem T336 : T 336 = .go 19 [.t 4] v336 := rfl
theorem T337 : T 337 = .go 11 [.t 2] v337 := rfl
theorem T338 : T 338 = .go 13 [.t 2] v338 := rfl
theorem T339 : T 339 = .go 78 [.t 4] v339 := rfl
theorem T342 : T 342 = .go 108 [.c 4 (some 8)] v342 := rfl
theorem T343 : T 343 = .go 66 [.c 4 (some 5), .t 5, .t 6] v343 := rfl
theorem T344 : T 344 = .go 37 [.t 2] v344 := rfl
theorem T345 : T 345 = .go 38 [.t 2] v345 := rfl
theorem T346 : T 346 = .go 98 [.c 4 (some 5), .t 5] v346 := rfl
theorem T347 : T 347 = .go 55 [.c 4 (some 4), .t 5] v347 := rfl
theorem T348 : T 348 = .go 82 [] v348 := rfl
theorem T349 : T 349 = .go 7 [.t 2] v349 := rfl
theorem T350 : T 350 = .go 33 [.t 2] v350 := rfl
theorem T351 : T 351 = .go 18 [.t 8] v351 := rfl
theorem T352 : T 352 = .go 41 [.t 12] v352 := rfl
theorem T353 : T 353 = .go 17 [.t 2, .t 3] v353 := rfl
theorem T354 : T 354 = .go 58 [.t 2] v354 := rfl
theorem T355 : T 355 = .go 12 [.t 6] v355 := rfl
theorem T356 : T 356 = .go 30 [.c 4 (some 8)] v356 := rfl
theorem T357 : T 357 = .go 44 [.c 4 (some 8)] v357 := rfl
theorem T358 : T 358 = .go 64 [.c 2 (some 8)] v358 := rfl
theorem T359 : T 359 = .go 46 [.c 4 (some 5), .t 5] v359 := rfl
theorem T360 : T 360 = .go 24 [.t 4] v360 := rfl
theorem T361 : T 361 = .go 8 [.t 2] v361 := rfl
theorem T362 : T 362 = .go 47 [.t 0] v362 := rfl
theorem T363 : T 363 = .go 71 [.c 4 (some 5), .t 5, .t 6] v363 := rfl
theorem T364 : T 364 = .go 14 [.t 2] v364 := rfl
theorem T365 : T 365 = .go 9 [.t 2] v365 := rfl
theorem T366 : T 366 = .go 60 [.t 4, .t 5, .t 6] v366 := rfl
theorem T367 : T 367 = .go 25 [.t 4, .t 5] v367 := rfl
theorem T368 : T 368 = .go 32 [.t 10, .t 11] v368 := rfl
theorem T369 : T 369 = .go 64 [.t 0] v369 := rfl
theorem T370 : T 370 = .go 19 [.t 4] v370 := rfl
theorem T371 : T 371 = .go 8 [.t 3] v371 := rfl
theorem T372 : T 372 = .go 35 [.t 2] v372 := rfl
theorem T373 : T 373 = .go 20 [.t 0] v373 := rfl
theorem T374 : T 374 = .go 25 [.t 4] v374 := rfl
theorem T375 : T 375 = .go 8 [.t 0] v375 := rfl
theorem T376 : T 376 = .go 11 [] v376 := rfl
theorem T377 : T 377 = .go 19 [.t 4] v377 := rfl
theorem T378 : T 378 = .go 9 [.t 4] v378 := rfl
theorem T379 : T 379 = .go 32 [.t 6] v379 := rfl
theorem T380 : T 380 = .go 8 [.t 4] v380 := rfl
theorem T381 : T 381 = .go 53 [.c 4 (some 5), .t 5] v381 := rfl
theorem T382 : T 382 = .go 35 [.c 4 (some 5), .t 5] v382 := rfl
theorem T383 : T 383 = .go 58 [.c 4 (some 5), .t 5] v383 := rfl
theorem T384 : T 384 = .go 18 [.t 2] v384 := rfl
theorem T385 : T 385 = .go 29 [.t 2, .t 3] v385 := rfl
theorem T386 : T 386 = .go 17 [.t 2] v386 := rfl
theorem T387 : T 387 = .go 134 [] v387 := rfl
theorem T388 : T 388 = .go 18 [.t 4] v388 := rfl
theorem T389 : T 389 = .go 13 [.t 4, .t 5, .t 6] v389 := rfl
theorem T390 : T 390 = .go 11 [.t 4, .t 5] v390 := rfl
theorem T391 : T 391 = .go 36 [.t 6, .t 7] v391 := rfl
theorem T392 : T 392 = .go 49 [] v392 := rfl
theorem T393 : T 393 = .go 56 [] v393 := rfl
theorem T394 : T 394 = .go 65 [] v394 := rfl
theorem T395 : T 395 = .go 57 [.t 6, .t 7] v395 := rfl
theorem T396 : T 396 = .go 32 [] v396 := rfl
theorem T397 : T 397 = .go 133 [.t 6] v397 := rfl
theorem T398 : T 398 = .go 17 [.t 4] v398 := rfl
theorem T399 : T 399 = .go 84 [.t 8] v399 := rfl
theorem T400 : T 400 = .go 168 [.t 8, .t 9] v400 := rfl
theorem T401 : T 401 = .go 23 [.t 4, .t 5, .t 6] v401 := rfl
theorem T402 : T 402 = .go 15 [.t 4, .t 5] v402 := rfl
theorem T403 : T 403 = .go 31 [.t 2] v403 := rfl
theorem T404 : T 404 = .go 76 [] v404 := rfl
theorem T405 : T 405 = .go 15 [.t 6] v405 := rfl
theorem T406 : T 406 = .go 36 [.t 10] v406 := rfl
theorem T407 : T 407 = .go 143 [.t 4] v407 := rfl
theorem T408 : T 408 = .go 28 [.t 8, .t 9] v408 := rfl
theorem T410 : T 410 = .go 6 [.t 2] v410 := rfl
theorem T411 : T 411 = .go 81 [.t 4] v411 := rfl
theorem T412 : T 412 = .go 39 [.t 2, .t 3] v412 := rfl

theorem T_ok {Q : Nat → Prop} (h : Q 11) (f : Nat) : T f = .none ∨ T f = fnOf Tryz.prog Tryz.prog.globals.size ext f ∨ ∃ g, T f = .sum g ∧ (g = anc ∧ Q f) := by
  unfold T
  by_cases h11 : f = 11
  · subst h11; exact .inr (.inr ⟨anc, by simp, rfl, by simp [h]⟩)
  rw [if_neg h11]
  exact (T0_ok f).imp id .inl

theorem T180 : T 180 = .ext xSame := rfl
theorem T181 : T 181 = .ext (xMakeNoZero 5) := rfl
theorem T240 : T 240 = .ext xFindByte := rfl
theorem T409 : T 409 = .ext xIndexString := rfl

end Go.Proofs.YtjlckbphpmogjaaGreatDoor
