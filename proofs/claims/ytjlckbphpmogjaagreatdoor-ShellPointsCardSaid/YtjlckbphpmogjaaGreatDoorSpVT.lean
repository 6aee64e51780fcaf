/- The table of the program's functions for the interpreter. No condition. -/
import Derived.Test.YtjlckbphpmogjaaGreatDoorSpV0
import Derived.Test.YtjlckbphpmogjaaGreatDoorSpV1
namespace Go.Proofs.YtjlckbphpmogjaaGreatDoor
open Go.Vi

def tbl : List VFn :=
  [.none,
  .none,
  .none,
  .none,
  .none,
  .go 108 [.t 2] v5,
  .none,
  .none,
  .none,
  .go 40 [.t 4] v9,
  .go 8 [.t 2] v10,
  .none,
  .go 35 [.t 2] v12,
  .go 25 [.t 2] v13,
  .go 25 [.t 2] v14,
  .none,
  .go 25 [.t 2] v16,
  .go 26 [.t 2] v17,
  .go 19 [.t 0] v18,
  .go 42 [.t 6, .t 7] v19,
  .go 48 [.t 4, .t 5] v20,
  .go 13 [.c 2 (some 8), .t 3] v21,
  .none,
  .none,
  .none,
  .go 8 [.t 2] v25,
  .none,
  .none,
  .go 45 [.t 4] v28,
  .none,
  .go 7 [.t 2] v30,
  .go 87 [.t 6, .t 7, .t 8] v31,
  .go 10 [.t 2] v32,
  .go 38 [.t 4] v33,
  .go 9 [.t 4] v34,
  .go 8 [.t 2] v35,
  .none,
  .go 5 [.t 2] v37,
  .go 14 [.t 2] v38,
  .go 11 [.t 2] v39,
  .go 14 [.t 2] v40,
  .go 75 [.t 4] v41,
  .go 33 [.t 2] v42,
  .go 58 [.t 8, .t 9] v43,
  .go 26 [.t 4] v44,
  .go 64 [.t 2] v45,
  .go 27 [.t 4, .t 5] v46,
  .none,
  .go 30 [.t 2, .t 3] v48,
  .go 37 [.t 4] v49,
  .go 11 [.t 2] v50,
  .go 8 [.c 2 (some 8)] v51,
  .none,
  .none,
  .none,
  .go 35 [.t 6, .t 7] v55,
  .none,
  .none,
  .none,
  .none,
  .none,
  .none,
  .go 64 [.c 6 (some 8), .t 7] v62,
  .go 42 [.t 4, .t 5] v63,
  .go 26 [.t 4] v64,
  .none,
  .none,
  .go 43 [.t 2] v67,
  .go 32 [.c 2 (some 3), .t 3, .t 4] v68,
  .go 13 [.c 2 (some 1), .t 3] v69,
  .go 27 [.c 2 (some 4)] v70,
  .go 67 [.t 6, .t 7] v71,
  .go 28 [] v72,
  .go 8 [.t 2] v73,
  .go 24 [] v74,
  .go 15 [.t 6] v75,
  .go 19 [.t 4] v76,
  .none,
  .go 5 [.t 2] v78,
  .go 25 [] v79,
  .go 19 [.t 4, .t 5] v80,
  .go 14 [.t 2] v81,
  .go 4 [.t 2] v82,
  .go 8 [.t 4] v83,
  .go 6 [.t 2] v84,
  .go 27 [.t 4] v85,
  .go 13 [.t 2, .t 3] v86,
  .go 13 [.t 2] v87,
  .go 27 [.t 4] v88,
  .go 7 [.t 2] v89,
  .none,
  .none,
  .go 69 [.t 8] v92,
  .go 19 [.t 4] v93,
  .go 25 [.t 2] v94,
  .go 15 [.t 2] v95,
  .none,
  .none,
  .none,
  .go 8 [.t 2] v99,
  .none,
  .go 65 [.t 4, .t 5, .t 6] v101,
  .go 19 [.c 2 (some 8)] v102,
  .go 101 [.c 6 (some 8), .t 7, .t 8] v103,
  .go 85 [.t 4] v104,
  .go 20 [.t 2] v105,
  .none,
  .go 11 [.t 2] v107,
  .go 31 [.c 6 (some 8)] v108,
  .go 85 [.c 2 (some 3), .t 3, .t 4] v109,
  .go 27 [.t 2, .t 3] v110,
  .go 15 [.t 2] v111,
  .go 28 [.t 2] v112,
  .go 85 [] v113,
  .go 33 [.t 12] v114,
  .go 95 [.t 2] v115,
  .go 6 [.t 2] v116,
  .go 13 [.t 2, .t 3] v117,
  .go 18 [.t 4, .t 5] v118,
  .go 15 [.t 4] v119,
  .go 64 [.c 2 (some 8), .t 3] v120,
  .go 7 [.t 2] v121,
  .go 7 [.t 2] v122,
  .go 29 [.t 4] v123,
  .none,
  .go 54 [.t 4] v125,
  .go 20 [] v126,
  .go 30 [] v127,
  .go 25 [] v128,
  .go 8 [.t 4] v129,
  .go 16 [.t 4] v130,
  .go 81 [.c 2 (some 4), .t 3] v131,
  .go 2 [.t 0] v132,
  .go 33 [.t 6] v133,
  .none,
  .none,
  .none,
  .none,
  .none,
  .go 46 [.t 2] v139,
  .go 13 [.t 2] v140,
  .go 101 [.t 4] v141,
  .none,
  .none,
  .go 11 [.t 2] v144,
  .go 19 [.t 2] v145,
  .go 50 [.t 4] v146,
  .none,
  .none,
  .go 62 [.t 4] v149,
  .go 8 [.t 2] v150,
  .go 76 [.t 4, .t 5] v151,
  .go 54 [.c 4 (some 11)] v152,
  .go 20 [.t 2] v153,
  .none,
  .go 38 [.t 4] v155,
  .go 19 [.t 4] v156,
  .go 53 [.t 6] v157,
  .go 4 [.t 2] v158,
  .go 86 [.c 4 (some 2)] v159,
  .none,
  .go 100 [] v161,
  .none,
  .go 49 [] v163,
  .go 9 [.t 2] v164,
  .go 15 [.t 6] v165,
  .go 7 [.t 2] v166,
  .go 45 [.t 2] v167,
  .go 119 [.t 6] v168,
  .go 79 [.t 2] v169,
  .go 48 [.t 4] v170,
  .go 15 [.t 4] v171,
  .go 96 [] v172,
  .go 201 [] v173,
  .none,
  .none,
  .go 15 [.t 2] v176,
  .go 15 [.t 2] v177,
  .go 167 [] v178,
  .none,
  .ext xSame,
  .ext (xMakeNoZero 5),
  .go 8 [.t 4] v182,
  .go 21 [.t 4] v183,
  .go 65 [.t 4] v184,
  .go 9 [.t 2] v185,
  .none,
  .none,
  .none,
  .go 17 [.t 4] v189,
  .go 22 [.t 4] v190,
  .go 8 [.t 4] v191,
  .none,
  .none,
  .none,
  .none,
  .go 15 [.t 6] v196,
  .go 9 [.t 4] v197,
  .go 6 [.t 2] v198,
  .go 16 [.c 2 (some 6)] v199,
  .go 6 [.t 2] v200,
  .go 49 [.t 4] v201,
  .go 48 [.c 4 (some 11)] v202,
  .go 19 [.t 4] v203,
  .go 24 [] v204,
  .go 38 [.t 4, .t 5] v205,
  .go 34 [.c 6 (some 2)] v206,
  .go 29 [.c 4 (some 2)] v207,
  .none,
  .go 21 [.t 6] v209,
  .go 26 [.t 4] v210,
  .go 73 [.t 2] v211,
  .go 161 [.t 6] v212,
  .go 19 [.t 4] v213,
  .go 79 [.t 6] v214,
  .go 30 [.t 4, .t 5] v215,
  .go 14 [.t 4] v216,
  .go 45 [.c 2 (some 6), .t 3] v217,
  .go 69 [] v218,
  .go 45 [.t 4] v219,
  .none,
  .none,
  .go 21 [.t 4] v222,
  .go 48 [] v223,
  .go 28 [] v224,
  .go 12 [.t 6] v225,
  .none,
  .none,
  .none,
  .go 52 [.t 6] v229,
  .go 24 [.t 4, .t 5] v230,
  .go 26 [] v231,
  .go 56 [] v232,
  .none,
  .none,
  .go 6 [.t 2] v235,
  .go 25 [.t 2] v236,
  .go 4 [.t 2] v237,
  .none,
  .none,
  .ext xFindByte,
  .none,
  .none,
  .none,
  .none,
  .none,
  .none,
  .none,
  .none,
  .go 19 [.t 4] v249,
  .go 10 [.t 2] v250,
  .go 25 [.t 2] v251,
  .go 101 [.t 4] v252,
  .go 22 [.t 2, .t 3] v253,
  .go 6 [.t 2] v254,
  .go 18 [.c 2 (some 2), .t 3] v255,
  .go 14 [] v256,
  .none,
  .none,
  .none,
  .go 17 [.t 6] v260,
  .go 23 [.t 6] v261,
  .go 40 [.t 6] v262,
  .none,
  .go 51 [.t 4, .t 5] v264,
  .go 23 [.c 2 (some 6), .t 3] v265,
  .go 22 [] v266,
  .go 4 [.t 2] v267,
  .go 8 [.t 2] v268,
  .go 54 [.t 4] v269,
  .go 34 [.t 6] v270,
  .go 8 [.t 2] v271,
  .go 14 [] v272,
  .go 14 [.t 4] v273,
  .go 19 [.t 4] v274,
  .none,
  .none,
  .go 97 [] v277,
  .go 71 [] v278,
  .none,
  .none,
  .none,
  .none,
  .none,
  .none,
  .none,
  .none,
  .none,
  .none,
  .go 19 [] v289,
  .go 38 [.c 2 (some 4), .t 3] v290,
  .go 126 [.c 4 (some 11), .t 5] v291,
  .go 36 [.c 6 (some 11)] v292,
  .go 63 [.c 4 (some 4), .t 5, .t 6] v293,
  .none,
  .go 148 [] v295,
  .go 8 [.t 2] v296,
  .none,
  .go 19 [] v298,
  .go 9 [.t 4] v299,
  .go 14 [.t 3] v300,
  .none,
  .none,
  .none,
  .none,
  .none,
  .none,
  .none,
  .none,
  .none,
  .none,
  .none,
  .none,
  .none,
  .none,
  .none,
  .go 130 [.c 4 (some 11), .t 5] v316,
  .none,
  .go 18 [.c 8 (some 11)] v318,
  .none,
  .none,
  .go 10 [.t 6] v321,
  .none,
  .go 13 [.t 4] v323,
  .go 8 [.t 2] v324,
  .go 32 [.c 4 (some 4), .t 5] v325,
  .go 17 [.t 4] v326,
  .go 53 [] v327,
  .none,
  .none,
  .none,
  .none,
  .none,
  .none,
  .none,
  .none,
  .go 19 [.t 4] v336,
  .none,
  .none,
  .none,
  .none,
  .none,
  .go 108 [.c 4 (some 8)] v342]

def T0 (f : Nat) : VFn := tbl.getD f .none

def anc : List AV → AMem → Option (AV × AMem)
  | [], m => some (.b true, m)
  | _, _ => none

def T (f : Nat) : VFn :=
  if f = 18 then .sum anc else
  T0 f

theorem extOk (f : Nat) (g : List AV → AMem → Option (AV × AMem)) (h : (Tryz.prog.funcs[f]?).map (·.body.isNone) = some true) (hg : ext f = .ext g) : VFn.ext g = fnOf Tryz.prog Tryz.prog.globals.size ext f := by
  unfold fnOf
  cases hf : Tryz.prog.funcs[f]? with
  | none => rw [hf] at h; simp at h
  | some fn =>
    rw [hf] at h
    have hb : fn.body = none := by simpa using h
    simp only [hb, hg]

set_option maxRecDepth 100000 in
theorem tblOk : AllOk Tryz.prog Tryz.prog.globals.size ext 0 tbl :=
  And.intro (.inl rfl) (
  And.intro (.inl rfl) (
  And.intro (.inl rfl) (
  And.intro (.inl rfl) (
  And.intro (.inl rfl) (
  And.intro (.inr fn5.symm) (
  And.intro (.inl rfl) (
  And.intro (.inl rfl) (
  And.intro (.inl rfl) (
  And.intro (.inr fn9.symm) (
  And.intro (.inr fn10.symm) (
  And.intro (.inl rfl) (
  And.intro (.inr fn12.symm) (
  And.intro (.inr fn13.symm) (
  And.intro (.inr fn14.symm) (
  And.intro (.inl rfl) (
  And.intro (.inr fn16.symm) (
  And.intro (.inr fn17.symm) (
  And.intro (.inr fn18.symm) (
  And.intro (.inr fn19.symm) (
  And.intro (.inr fn20.symm) (
  And.intro (.inr fn21.symm) (
  And.intro (.inl rfl) (
  And.intro (.inl rfl) (
  And.intro (.inl rfl) (
  And.intro (.inr fn25.symm) (
  And.intro (.inl rfl) (
  And.intro (.inl rfl) (
  And.intro (.inr fn28.symm) (
  And.intro (.inl rfl) (
  And.intro (.inr fn30.symm) (
  And.intro (.inr fn31.symm) (
  And.intro (.inr fn32.symm) (
  And.intro (.inr fn33.symm) (
  And.intro (.inr fn34.symm) (
  And.intro (.inr fn35.symm) (
  And.intro (.inl rfl) (
  And.intro (.inr fn37.symm) (
  And.intro (.inr fn38.symm) (
  And.intro (.inr fn39.symm) (
  And.intro (.inr fn40.symm) (
  And.intro (.inr fn41.symm) (
  And.intro (.inr fn42.symm) (
  And.intro (.inr fn43.symm) (
  And.intro (.inr fn44.symm) (
  And.intro (.inr fn45.symm) (
  And.intro (.inr fn46.symm) (
  And.intro (.inl rfl) (
  And.intro (.inr fn48.symm) (
  And.intro (.inr fn49.symm) (
  And.intro (.inr fn50.symm) (
  And.intro (.inr fn51.symm) (
  And.intro (.inl rfl) (
  And.intro (.inl rfl) (
  And.intro (.inl rfl) (
  And.intro (.inr fn55.symm) (
  And.intro (.inl rfl) (
  And.intro (.inl rfl) (
  And.intro (.inl rfl) (
  And.intro (.inl rfl) (
  And.intro (.inl rfl) (
  And.intro (.inl rfl) (
  And.intro (.inr fn62.symm) (
  And.intro (.inr fn63.symm) (
  And.intro (.inr fn64.symm) (
  And.intro (.inl rfl) (
  And.intro (.inl rfl) (
  And.intro (.inr fn67.symm) (
  And.intro (.inr fn68.symm) (
  And.intro (.inr fn69.symm) (
  And.intro (.inr fn70.symm) (
  And.intro (.inr fn71.symm) (
  And.intro (.inr fn72.symm) (
  And.intro (.inr fn73.symm) (
  And.intro (.inr fn74.symm) (
  And.intro (.inr fn75.symm) (
  And.intro (.inr fn76.symm) (
  And.intro (.inl rfl) (
  And.intro (.inr fn78.symm) (
  And.intro (.inr fn79.symm) (
  And.intro (.inr fn80.symm) (
  And.intro (.inr fn81.symm) (
  And.intro (.inr fn82.symm) (
  And.intro (.inr fn83.symm) (
  And.intro (.inr fn84.symm) (
  And.intro (.inr fn85.symm) (
  And.intro (.inr fn86.symm) (
  And.intro (.inr fn87.symm) (
  And.intro (.inr fn88.symm) (
  And.intro (.inr fn89.symm) (
  And.intro (.inl rfl) (
  And.intro (.inl rfl) (
  And.intro (.inr fn92.symm) (
  And.intro (.inr fn93.symm) (
  And.intro (.inr fn94.symm) (
  And.intro (.inr fn95.symm) (
  And.intro (.inl rfl) (
  And.intro (.inl rfl) (
  And.intro (.inl rfl) (
  And.intro (.inr fn99.symm) (
  And.intro (.inl rfl) (
  And.intro (.inr fn101.symm) (
  And.intro (.inr fn102.symm) (
  And.intro (.inr fn103.symm) (
  And.intro (.inr fn104.symm) (
  And.intro (.inr fn105.symm) (
  And.intro (.inl rfl) (
  And.intro (.inr fn107.symm) (
  And.intro (.inr fn108.symm) (
  And.intro (.inr fn109.symm) (
  And.intro (.inr fn110.symm) (
  And.intro (.inr fn111.symm) (
  And.intro (.inr fn112.symm) (
  And.intro (.inr fn113.symm) (
  And.intro (.inr fn114.symm) (
  And.intro (.inr fn115.symm) (
  And.intro (.inr fn116.symm) (
  And.intro (.inr fn117.symm) (
  And.intro (.inr fn118.symm) (
  And.intro (.inr fn119.symm) (
  And.intro (.inr fn120.symm) (
  And.intro (.inr fn121.symm) (
  And.intro (.inr fn122.symm) (
  And.intro (.inr fn123.symm) (
  And.intro (.inl rfl) (
  And.intro (.inr fn125.symm) (
  And.intro (.inr fn126.symm) (
  And.intro (.inr fn127.symm) (
  And.intro (.inr fn128.symm) (
  And.intro (.inr fn129.symm) (
  And.intro (.inr fn130.symm) (
  And.intro (.inr fn131.symm) (
  And.intro (.inr fn132.symm) (
  And.intro (.inr fn133.symm) (
  And.intro (.inl rfl) (
  And.intro (.inl rfl) (
  And.intro (.inl rfl) (
  And.intro (.inl rfl) (
  And.intro (.inl rfl) (
  And.intro (.inr fn139.symm) (
  And.intro (.inr fn140.symm) (
  And.intro (.inr fn141.symm) (
  And.intro (.inl rfl) (
  And.intro (.inl rfl) (
  And.intro (.inr fn144.symm) (
  And.intro (.inr fn145.symm) (
  And.intro (.inr fn146.symm) (
  And.intro (.inl rfl) (
  And.intro (.inl rfl) (
  And.intro (.inr fn149.symm) (
  And.intro (.inr fn150.symm) (
  And.intro (.inr fn151.symm) (
  And.intro (.inr fn152.symm) (
  And.intro (.inr fn153.symm) (
  And.intro (.inl rfl) (
  And.intro (.inr fn155.symm) (
  And.intro (.inr fn156.symm) (
  And.intro (.inr fn157.symm) (
  And.intro (.inr fn158.symm) (
  And.intro (.inr fn159.symm) (
  And.intro (.inl rfl) (
  And.intro (.inr fn161.symm) (
  And.intro (.inl rfl) (
  And.intro (.inr fn163.symm) (
  And.intro (.inr fn164.symm) (
  And.intro (.inr fn165.symm) (
  And.intro (.inr fn166.symm) (
  And.intro (.inr fn167.symm) (
  And.intro (.inr fn168.symm) (
  And.intro (.inr fn169.symm) (
  And.intro (.inr fn170.symm) (
  And.intro (.inr fn171.symm) (
  And.intro (.inr fn172.symm) (
  And.intro (.inr fn173.symm) (
  And.intro (.inl rfl) (
  And.intro (.inl rfl) (
  And.intro (.inr fn176.symm) (
  And.intro (.inr fn177.symm) (
  And.intro (.inr fn178.symm) (
  And.intro (.inl rfl) (
  And.intro (.inr (extOk 180 xSame (by kernel_rfl) rfl)) (
  And.intro (.inr (extOk 181 (xMakeNoZero 5) (by kernel_rfl) rfl)) (
  And.intro (.inr fn182.symm) (
  And.intro (.inr fn183.symm) (
  And.intro (.inr fn184.symm) (
  And.intro (.inr fn185.symm) (
  And.intro (.inl rfl) (
  And.intro (.inl rfl) (
  And.intro (.inl rfl) (
  And.intro (.inr fn189.symm) (
  And.intro (.inr fn190.symm) (
  And.intro (.inr fn191.symm) (
  And.intro (.inl rfl) (
  And.intro (.inl rfl) (
  And.intro (.inl rfl) (
  And.intro (.inl rfl) (
  And.intro (.inr fn196.symm) (
  And.intro (.inr fn197.symm) (
  And.intro (.inr fn198.symm) (
  And.intro (.inr fn199.symm) (
  And.intro (.inr fn200.symm) (
  And.intro (.inr fn201.symm) (
  And.intro (.inr fn202.symm) (
  And.intro (.inr fn203.symm) (
  And.intro (.inr fn204.symm) (
  And.intro (.inr fn205.symm) (
  And.intro (.inr fn206.symm) (
  And.intro (.inr fn207.symm) (
  And.intro (.inl rfl) (
  And.intro (.inr fn209.symm) (
  And.intro (.inr fn210.symm) (
  And.intro (.inr fn211.symm) (
  And.intro (.inr fn212.symm) (
  And.intro (.inr fn213.symm) (
  And.intro (.inr fn214.symm) (
  And.intro (.inr fn215.symm) (
  And.intro (.inr fn216.symm) (
  And.intro (.inr fn217.symm) (
  And.intro (.inr fn218.symm) (
  And.intro (.inr fn219.symm) (
  And.intro (.inl rfl) (
  And.intro (.inl rfl) (
  And.intro (.inr fn222.symm) (
  And.intro (.inr fn223.symm) (
  And.intro (.inr fn224.symm) (
  And.intro (.inr fn225.symm) (
  And.intro (.inl rfl) (
  And.intro (.inl rfl) (
  And.intro (.inl rfl) (
  And.intro (.inr fn229.symm) (
  And.intro (.inr fn230.symm) (
  And.intro (.inr fn231.symm) (
  And.intro (.inr fn232.symm) (
  And.intro (.inl rfl) (
  And.intro (.inl rfl) (
  And.intro (.inr fn235.symm) (
  And.intro (.inr fn236.symm) (
  And.intro (.inr fn237.symm) (
  And.intro (.inl rfl) (
  And.intro (.inl rfl) (
  And.intro (.inr (extOk 240 xFindByte (by kernel_rfl) rfl)) (
  And.intro (.inl rfl) (
  And.intro (.inl rfl) (
  And.intro (.inl rfl) (
  And.intro (.inl rfl) (
  And.intro (.inl rfl) (
  And.intro (.inl rfl) (
  And.intro (.inl rfl) (
  And.intro (.inl rfl) (
  And.intro (.inr fn249.symm) (
  And.intro (.inr fn250.symm) (
  And.intro (.inr fn251.symm) (
  And.intro (.inr fn252.symm) (
  And.intro (.inr fn253.symm) (
  And.intro (.inr fn254.symm) (
  And.intro (.inr fn255.symm) (
  And.intro (.inr fn256.symm) (
  And.intro (.inl rfl) (
  And.intro (.inl rfl) (
  And.intro (.inl rfl) (
  And.intro (.inr fn260.symm) (
  And.intro (.inr fn261.symm) (
  And.intro (.inr fn262.symm) (
  And.intro (.inl rfl) (
  And.intro (.inr fn264.symm) (
  And.intro (.inr fn265.symm) (
  And.intro (.inr fn266.symm) (
  And.intro (.inr fn267.symm) (
  And.intro (.inr fn268.symm) (
  And.intro (.inr fn269.symm) (
  And.intro (.inr fn270.symm) (
  And.intro (.inr fn271.symm) (
  And.intro (.inr fn272.symm) (
  And.intro (.inr fn273.symm) (
  And.intro (.inr fn274.symm) (
  And.intro (.inl rfl) (
  And.intro (.inl rfl) (
  And.intro (.inr fn277.symm) (
  And.intro (.inr fn278.symm) (
  And.intro (.inl rfl) (
  And.intro (.inl rfl) (
  And.intro (.inl rfl) (
  And.intro (.inl rfl) (
  And.intro (.inl rfl) (
  And.intro (.inl rfl) (
  And.intro (.inl rfl) (
  And.intro (.inl rfl) (
  And.intro (.inl rfl) (
  And.intro (.inl rfl) (
  And.intro (.inr fn289.symm) (
  And.intro (.inr fn290.symm) (
  And.intro (.inr fn291.symm) (
  And.intro (.inr fn292.symm) (
  And.intro (.inr fn293.symm) (
  And.intro (.inl rfl) (
  And.intro (.inr fn295.symm) (
  And.intro (.inr fn296.symm) (
  And.intro (.inl rfl) (
  And.intro (.inr fn298.symm) (
  And.intro (.inr fn299.symm) (
  And.intro (.inr fn300.symm) (
  And.intro (.inl rfl) (
  And.intro (.inl rfl) (
  And.intro (.inl rfl) (
  And.intro (.inl rfl) (
  And.intro (.inl rfl) (
  And.intro (.inl rfl) (
  And.intro (.inl rfl) (
  And.intro (.inl rfl) (
  And.intro (.inl rfl) (
  And.intro (.inl rfl) (
  And.intro (.inl rfl) (
  And.intro (.inl rfl) (
  And.intro (.inl rfl) (
  And.intro (.inl rfl) (
  And.intro (.inl rfl) (
  And.intro (.inr fn316.symm) (
  And.intro (.inl rfl) (
  And.intro (.inr fn318.symm) (
  And.intro (.inl rfl) (
  And.intro (.inl rfl) (
  And.intro (.inr fn321.symm) (
  And.intro (.inl rfl) (
  And.intro (.inr fn323.symm) (
  And.intro (.inr fn324.symm) (
  And.intro (.inr fn325.symm) (
  And.intro (.inr fn326.symm) (
  And.intro (.inr fn327.symm) (
  And.intro (.inl rfl) (
  And.intro (.inl rfl) (
  And.intro (.inl rfl) (
  And.intro (.inl rfl) (
  And.intro (.inl rfl) (
  And.intro (.inl rfl) (
  And.intro (.inl rfl) (
  And.intro (.inl rfl) (
  And.intro (.inr fn336.symm) (
  And.intro (.inl rfl) (
  And.intro (.inl rfl) (
  And.intro (.inl rfl) (
  And.intro (.inl rfl) (
  And.intro (.inl rfl) (
  And.intro (.inr fn342.symm) (
  trivial)))))))))))))))))))))))))))))))))))))))))))))))))))))))))))))))))))))))))))))))))))))))))))))))))))))))))))))))))))))))))))))))))))))))))))))))))))))))))))))))))))))))))))))))))))))))))))))))))))))))))))))))))))))))))))))))))))))))))))))))))))))))))))))))))))))))))))))))))))))))))))))))))))))))))))))))))))))))))))))))))))))))))))))))))))))))

theorem T0_ok (f : Nat) : T0 f = .none ∨ T0 f = fnOf Tryz.prog Tryz.prog.globals.size ext f := by
  have := tblOk.get f
  rwa [Nat.zero_add] at this

theorem T5 : T 5 = .go 108 [.t 2] v5 := rfl
theorem T9 : T 9 = .go 40 [.t 4] v9 := rfl
theorem T10 : T 10 = .go 8 [.t 2] v10 := rfl
theorem T12 : T 12 = .go 35 [.t 2] v12 := rfl
theorem T13 : T 13 = .go 25 [.t 2] v13 := rfl
theorem T14 : T 14 = .go 25 [.t 2] v14 := rfl
theorem T16 : T 16 = .go 25 [.t 2] v16 := rfl
theorem T17 : T 17 = .go 26 [.t 2] v17 := rfl
theorem T0_18 : T0 18 = .go 19 [.t 0] v18 := rfl
theorem T19 : T 19 = .go 42 [.t 6, .t 7] v19 := rfl
theorem T20 : T 20 = .go 48 [.t 4, .t 5] v20 := rfl
theorem T21 : T 21 = .go 13 [.c 2 (some 8), .t 3] v21 := rfl
theorem T25 : T 25 = .go 8 [.t 2] v25 := rfl
theorem T28 : T 28 = .go 45 [.t 4] v28 := rfl
theorem T30 : T 30 = .go 7 [.t 2] v30 := rfl
theorem T31 : T 31 = .go 87 [.t 6, .t 7, .t 8] v31 := rfl
theorem T32 : T 32 = .go 10 [.t 2] v32 := rfl
theorem T33 : T 33 = .go 38 [.t 4] v33 := rfl
theorem T34 : T 34 = .go 9 [.t 4] v34 := rfl
theorem T35 : T 35 = .go 8 [.t 2] v35 := rfl
theorem T37 : T 37 = .go 5 [.t 2] v37 := rfl
theorem T38 : T 38 = .go 14 [.t 2] v38 := rfl
theorem T39 : T 39 = .go 11 [.t 2] v39 := rfl
theorem T40 : T 40 = .go 14 [.t 2] v40 := rfl
theorem T41 : T 41 = .go 75 [.t 4] v41 := rfl
theorem T42 : T 42 = .go 33 [.t 2] v42 := rfl
theorem T43 : T 43 = .go 58 [.t 8, .t 9] v43 := rfl
theorem T44 : T 44 = .go 26 [.t 4] v44 := rfl
theorem T45 : T 45 = .go 64 [.t 2] v45 := rfl
theorem T46 : T 46 = .go 27 [.t 4, .t 5] v46 := rfl
theorem T48 : T 48 = .go 30 [.t 2, .t 3] v48 := rfl
theorem T49 : T 49 = .go 37 [.t 4] v49 := rfl
theorem T50 : T 50 = .go 11 [.t 2] v50 := rfl
theorem T51 : T 51 = .go 8 [.c 2 (some 8)] v51 := rfl
theorem T55 : T 55 = .go 35 [.t 6, .t 7] v55 := rfl
theorem T62 : T 62 = .go 64 [.c 6 (some 8), .t 7] v62 := rfl
theorem T63 : T 63 = .go 42 [.t 4, .t 5] v63 := rfl
theorem T64 : T 64 = .go 26 [.t 4] v64 := rfl
theorem T67 : T 67 = .go 43 [.t 2] v67 := rfl
theorem T68 : T 68 = .go 32 [.c 2 (some 3), .t 3, .t 4] v68 := rfl
theorem T69 : T 69 = .go 13 [.c 2 (some 1), .t 3] v69 := rfl
theorem T70 : T 70 = .go 27 [.c 2 (some 4)] v70 := rfl
theorem T71 : T 71 = .go 67 [.t 6, .t 7] v71 := rfl
theorem T72 : T 72 = .go 28 [] v72 := rfl
theorem T73 : T 73 = .go 8 [.t 2] v73 := rfl
theorem T74 : T 74 = .go 24 [] v74 := rfl
theorem T75 : T 75 = .go 15 [.t 6] v75 := rfl
theorem T76 : T 76 = .go 19 [.t 4] v76 := rfl
theorem T78 : T 78 = .go 5 [.t 2] v78 := rfl
theorem T79 : T 79 = .go 25 [] v79 := rfl
theorem T80 : T 80 = .go 19 [.t 4, .t 5] v80 := rfl
theorem T81 : T 81 = .go 14 [.t 2] v81 := rfl
theorem T82 : T 82 = .go 4 [.t 2] v82 := rfl
theorem T83 : T 83 = .go 8 [.t 4] v83 := rfl
theorem T84 : T 84 = .go 6 [.t 2] v84 := rfl
theorem T85 : T 85 = .go 27 [.t 4] v85 := rfl
theorem T86 : T 86 = .go 13 [.t 2, .t 3] v86 := rfl
theorem T87 : T 87 = .go 13 [.t 2] v87 := rfl
theorem T88 : T 88 = .go 27 [.t 4] v88 := rfl
theorem T89 : T 89 = .go 7 [.t 2] v89 := rfl
theorem T92 : T 92 = .go 69 [.t 8] v92 := rfl
theorem T93 : T 93 = .go 19 [.t 4] v93 := rfl
theorem T94 : T 94 = .go 25 [.t 2] v94 := rfl
theorem T95 : T 95 = .go 15 [.t 2] v95 := rfl
theorem T99 : T 99 = .go 8 [.t 2] v99 := rfl
theorem T101 : T 101 = .go 65 [.t 4, .t 5, .t 6] v101 := rfl
theorem T102 : T 102 = .go 19 [.c 2 (some 8)] v102 := rfl
theorem T103 : T 103 = .go 101 [.c 6 (some 8), .t 7, .t 8] v103 := rfl
theorem T104 : T 104 = .go 85 [.t 4] v104 := rfl
theorem T105 : T 105 = .go 20 [.t 2] v105 := rfl
theorem T107 : T 107 = .go 11 [.t 2] v107 := rfl
theorem T108 : T 108 = .go 31 [.c 6 (some 8)] v108 := rfl
theorem T109 : T 109 = .go 85 [.c 2 (some 3), .t 3, .t 4] v109 := rfl
theorem T110 : T 110 = .go 27 [.t 2, .t 3] v110 := rfl
theorem T111 : T 111 = .go 15 [.t 2] v111 := rfl
theorem T112 : T 112 = .go 28 [.t 2] v112 := rfl
theorem T113 : T 113 = .go 85 [] v113 := rfl
theorem T114 : T 114 = .go 33 [.t 12] v114 := rfl
theorem T115 : T 115 = .go 95 [.t 2] v115 := rfl
theorem T116 : T 116 = .go 6 [.t 2] v116 := rfl
theorem T117 : T 117 = .go 13 [.t 2, .t 3] v117 := rfl
theorem T118 : T 118 = .go 18 [.t 4, .t 5] v118 := rfl
theorem T119 : T 119 = .go 15 [.t 4] v119 := rfl
theorem T120 : T 120 = .go 64 [.c 2 (some 8), .t 3] v120 := rfl
theorem T121 : T 121 = .go 7 [.t 2] v121 := rfl
theorem T122 : T 122 = .go 7 [.t 2] v122 := rfl
theorem T123 : T 123 = .go 29 [.t 4] v123 := rfl
theorem T125 : T 125 = .go 54 [.t 4] v125 := rfl
theorem T126 : T 126 = .go 20 [] v126 := rfl
theorem T127 : T 127 = .go 30 [] v127 := rfl
theorem T128 : T 128 = .go 25 [] v128 := rfl
theorem T129 : T 129 = .go 8 [.t 4] v129 := rfl
theorem T130 : T 130 = .go 16 [.t 4] v130 := rfl
theorem T131 : T 131 = .go 81 [.c 2 (some 4), .t 3] v131 := rfl
theorem T132 : T 132 = .go 2 [.t 0] v132 := rfl
theorem T133 : T 133 = .go 33 [.t 6] v133 := rfl
theorem T139 : T 139 = .go 46 [.t 2] v139 := rfl
theorem T140 : T 140 = .go 13 [.t 2] v140 := rfl
theorem T141 : T 141 = .go 101 [.t 4] v141 := rfl
theorem T144 : T 144 = .go 11 [.t 2] v144 := rfl
theorem T145 : T 145 = .go 19 [.t 2] v145 := rfl
theorem T146 : T 146 = .go 50 [.t 4] v146 := rfl
theorem T149 : T 149 = .go 62 [.t 4] v149 := rfl
theorem T150 : T 150 = .go 8 [.t 2] v150 := rfl
theorem T151 : T 151 = .go 76 [.t 4, .t 5] v151 := rfl
theorem T152 : T 152 = .go 54 [.c 4 (some 11)] v152 := rfl
theorem T153 : T 153 = .go 20 [.t 2] v153 := rfl
theorem T155 : T 155 = .go 38 [.t 4] v155 := rfl
theorem T156 : T 156 = .go 19 [.t 4] v156 := rfl
theorem T157 : T 157 = .go 53 [.t 6] v157 := rfl
theorem T158 : T 158 = .go 4 [.t 2] v158 := rfl
theorem T159 : T 159 = .go 86 [.c 4 (some 2)] v159 := rfl
theorem T161 : T 161 = .go 100 [] v161 := rfl
theorem T163 : T 163 = .go 49 [] v163 := rfl
theorem T164 : T 164 = .go 9 [.t 2] v164 := rfl
theorem T165 : T 165 = .go 15 [.t 6] v165 := rfl
theorem T166 : T 166 = .go 7 [.t 2] v166 := rfl
theorem T167 : T 167 = .go 45 [.t 2] v167 := rfl
theorem T168 : T 168 = .go 119 [.t 6] v168 := rfl
theorem T169 : T 169 = .go 79 [.t 2] v169 := rfl
theorem T170 : T 170 = .go 48 [.t 4] v170 := rfl
theorem T171 : T 171 = .go 15 [.t 4] v171 := rfl
theorem T172 : T 172 = .go 96 [] v172 := rfl
theorem T173 : T 173 = .go 201 [] v173 := rfl
theorem T176 : T 176 = .go 15 [.t 2] v176 := rfl
theorem T177 : T 177 = .go 15 [.t 2] v177 := rfl
theorem T178 : T 178 = .go 167 [] v178 := rfl
theorem T182 : T 182 = .go 8 [.t 4] v182 := rfl
theorem T183 : T 183 = .go 21 [.t 4] v183 := rfl
theorem T184 : T 184 = .go 65 [.t 4] v184 := rfl
theorem T185 : T 185 = .go 9 [.t 2] v185 := rfl
theorem T189 : T 189 = .go 17 [.t 4] v189 := rfl
theorem T190 : T 190 = .go 22 [.t 4] v190 := rfl
theorem T191 : T 191 = .go 8 [.t 4] v191 := rfl
theorem T196 : T 196 = .go 15 [.t 6] v196 := rfl
theorem T197 : T 197 = .go 9 [.t 4] v197 := rfl
theorem T198 : T 198 = .go 6 [.t 2] v198 := rfl
theorem T199 : T 199 = .go 16 [.c 2 (some 6)] v199 := rfl
theorem T200 : T 200 = .go 6 [.t 2] v200 := rfl
theorem T201 : T 201 = .go 49 [.t 4] v201 := rfl
theorem T202 : T 202 = .go 48 [.c 4 (some 11)] v202 := rfl
theorem T203 : T 203 = .go 19 [.t 4] v203 := rfl
theorem T204 : T 204 = .go 24 [] v204 := rfl
theorem T205 : T 205 = .go 38 [.t 4, .t 5] v205 := rfl
theorem T206 : T 206 = .go 34 [.c 6 (some 2)] v206 := rfl
theorem T207 : T 207 = .go 29 [.c 4 (some 2)] v207 := rfl
theorem T209 : T 209 = .go 21 [.t 6] v209 := rfl
theorem T210 : T 210 = .go 26 [.t 4] v210 := rfl
theorem T211 : T 211 = .go 73 [.t 2] v211 := rfl
theorem T212 : T 212 = .go 161 [.t 6] v212 := rfl
theorem T213 : T 213 = .go 19 [.t 4] v213 := rfl
theorem T214 : T 214 = .go 79 [.t 6] v214 := rfl
theorem T215 : T 215 = .go 30 [.t 4, .t 5] v215 := rfl
theorem T216 : T 216 = .go 14 [.t 4] v216 := rfl
theorem T217 : T 217 = .go 45 [.c 2 (some 6), .t 3] v217 := rfl
theorem T218 : T 218 = .go 69 [] v218 := rfl
theorem T219 : T 219 = .go 45 [.t 4] v219 := rfl
theorem T222 : T 222 = .go 21 [.t 4] v222 := rfl
theorem T223 : T 223 = .go 48 [] v223 := rfl
theorem T224 : T 224 = .go 28 [] v224 := rfl
theorem T225 : T 225 = .go 12 [.t 6] v225 := rfl
theorem T229 : T 229 = .go 52 [.t 6] v229 := rfl
theorem T230 : T 230 = .go 24 [.t 4, .t 5] v230 := rfl
theorem T231 : T 231 = .go 26 [] v231 := rfl
theorem T232 : T 232 = .go 56 [] v232 := rfl
theorem T235 : T 235 = .go 6 [.t 2] v235 := rfl
theorem T236 : T 236 = .go 25 [.t 2] v236 := rfl
theorem T237 : T 237 = .go 4 [.t 2] v237 := rfl
theorem T249 : T 249 = .go 19 [.t 4] v249 := rfl
theorem T250 : T 250 = .go 10 [.t 2] v250 := rfl
theorem T251 : T 251 = .go 25 [.t 2] v251 := rfl
theorem T252 : T 252 = .go 101 [.t 4] v252 := rfl
theorem T253 : T 253 = .go 22 [.t 2, .t 3] v253 := rfl
theorem T254 : T 254 = .go 6 [.t 2] v254 := rfl
theorem T255 : T 255 = .go 18 [.c 2 (some 2), .t 3] v255 := rfl
theorem T256 : T 256 = .go 14 [] v256 := rfl
theorem T260 : T 260 = .go 17 [.t 6] v260 := rfl
theorem T261 : T 261 = .go 23 [.t 6] v261 := rfl
theorem T262 : T 262 = .go 40 [.t 6] v262 := rfl
theorem T264 : T 264 = .go 51 [.t 4, .t 5] v264 := rfl
theorem T265 : T 265 = .go 23 [.c 2 (some 6), .t 3] v265 := rfl
theorem T266 : T 266 = .go 22 [] v266 := rfl
theorem T267 : T 267 = .go 4 [.t 2] v267 := rfl
theorem T268 : T 268 = .go 8 [.t 2] v268 := rfl
theorem T269 : T 269 = .go 54 [.t 4] v269 := rfl
theorem T270 : T 270 = .go 34 [.t 6] v270 := rfl
theorem T271 : T 271 = .go 8 [.t 2] v271 := rfl
theorem T272 : T 272 = .go 14 [] v272 := rfl
theorem T273 : T 273 = .go 14 [.t 4] v273 := rfl
theorem T274 : T 274 = .go 19 [.t 4] v274 := rfl
theorem T277 : T 277 = .go 97 [] v277 := rfl
theorem T278 : T 278 = .go 71 [] v278 := rfl
theorem T289 : T 289 = .go 19 [] v289 := rfl
theorem T290 : T 290 = .go 38 [.c 2 (some 4), .t 3] v290 := rfl
theorem T291 : T 291 = .go 126 [.c 4 (some 11), .t 5] v291 := rfl
theorem T292 : T 292 = .go 36 [.c 6 (some 11)] v292 := rfl
theorem T293 : T 293 = .go 63 [.c 4 (some 4), .t 5, .t 6] v293 := rfl
theorem T295 : T 295 = .go 148 [] v295 := rfl
theorem T296 : T 296 = .go 8 [.t 2] v296 := rfl
theorem T298 : T 298 = .go 19 [] v298 := rfl
theorem T299 : T 299 = .go 9 [.t 4] v299 := rfl
theorem T300 : T 300 = .go 14 [.t 3] v300 := rfl
theorem T316 : T 316 = .go 130 [.c 4 (some 11), .t 5] v316 := rfl
theorem T318 : T 318 = .go 18 [.c 8 (some 11)] v318 := rfl
theorem T321 : T 321 = .go 10 [.t 6] v321 := rfl
theorem T323 : T 323 = .go 13 [.t 4] v323 := rfl
theorem T324 : T 324 = .go 8 [.t 2] v324 := rfl
theorem T325 : T 325 = .go 32 [.c 4 (some 4), .t 5] v325 := rfl
theorem T326 : T 326 = .go 17 [.t 4] v326 := rfl
theorem T327 : T 327 = .go 53 [] v327 := rfl
theorem T336 : T 336 = .go 19 [.t 4] v336 := rfl
theorem T342 : T 342 = .go 108 [.c 4 (some 8)] v342 := rfl

theorem T_ok {Q : Nat → Prop} (h : Q 18) (f : Nat) : T f = .none ∨ T f = fnOf Tryz.prog Tryz.prog.globals.size ext f ∨ ∃ g, T f = .sum g ∧ (g = anc ∧ Q f) := by
  unfold T
  by_cases h18 : f = 18
  · subst h18; exact .inr (.inr ⟨anc, by simp, rfl, by simp [h]⟩)
  rw [if_neg h18]
  exact (T0_ok f).imp id .inl

theorem T180 : T 180 = .ext xSame := rfl
theorem T181 : T 181 = .ext (xMakeNoZero 5) := rfl
theorem T240 : T 240 = .ext xFindByte := rfl

end Go.Proofs.YtjlckbphpmogjaaGreatDoor
