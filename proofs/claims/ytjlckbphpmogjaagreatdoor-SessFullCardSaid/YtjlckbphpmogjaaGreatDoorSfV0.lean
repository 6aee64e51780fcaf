/- The functions of the program as the interpreter's code, part 0; each is what the program's text gives. No condition. -/
import Derived.Test.YtjlckbphpmogjaaGreatDoorProg
import Derived.Test.YtjlckbphpmogjaaGreatDoorSfVE
import Derived.KernelRfl
namespace Go.Proofs.YtjlckbphpmogjaaGreatDoor
open Go.Vi

def v3 : VC :=
 .seq (.reg [⟨some 2, none, .mv (.c (.b false))⟩])
 (.seq (.seq (.reg [⟨some 8, none, .call 7 []⟩,⟨some 9, none, .un .not (.t 8)⟩])
 (.cond (.t 9) (.seq (.reg [⟨some 2, none, .mv (.c (.b false))⟩])
 (.ret))
 (.skip)))
 (.seq (.seq (.reg [⟨some 10, none, .mv (.t 0)⟩,⟨some 11, none, .bin .lss (.t 10) (.c (.i .i64 0))⟩,⟨some 12, none, .mv (.t 11)⟩,⟨some 13, some (12, false), .mv (.t 0)⟩,⟨some 14, some (12, false), .bin .gtr (.t 13) (.c (.i .i64 100))⟩,⟨some 15, none, .pick (.t 12) (.c (.b true)) (.t 14)⟩])
 (.cond (.t 15) (.seq (.reg [⟨some 2, none, .mv (.c (.b true))⟩])
 (.ret))
 (.skip)))
 (.seq (.reg [⟨some 17, none, .bsl 1 1 [(.i .u8 0)] [(0, 1, (.c (.i .u8 97)))]⟩,⟨some 18, none, .cvm (.t 17)⟩,⟨some 19, none, .bsl 1 1 [(.i .u8 0)] [(0, 1, (.c (.i .u8 97)))]⟩,⟨some 20, none, .cvm (.t 19)⟩,⟨some 21, none, .build [(.i .i64 0), (.i .i64 0), (.i .i64 0), (.i .i64 0)] [(0, 1, (.c (.i .i64 9))), (1, 1, (.c (.i .i64 9))), (2, 1, (.c (.i .i64 999))), (3, 1, (.c (.i .i64 1)))]⟩,⟨some 22, none, .call 8 [(.t 18), (.t 20), (.t 21)]⟩,⟨some 16, none, .mv (.t 22)⟩,⟨some 23, none, .ext (.t 16) 0⟩,⟨some 24, none, .ext (.t 16) 1⟩,⟨some 3, none, .mv (.t 23)⟩,⟨some 4, none, .mv (.t 24)⟩])
 (.seq (.seq (.reg [⟨some 25, none, .mv (.t 3)⟩,⟨some 26, none, .eqn .p false (.t 25) (.c (.p none))⟩])
 (.cond (.t 26) (.seq (.reg [⟨some 2, none, .mv (.c (.b false))⟩])
 (.ret))
 (.skip)))
 (.seq (.seq (.reg [⟨some 27, none, .mv (.t 0)⟩,⟨some 28, none, .mv (.c (.i .i64 0))⟩])
 (.blk 0 (.loop (.seq (.reg [⟨some 29, none, .bin .lss (.t 28) (.t 27)⟩])
 (.seq (.cond (.t 29) (.skip)
 (.exit 0))
 (.seq (.blk 1 (.seq (.reg [⟨some 30, none, .mv (.t 28)⟩,⟨some 5, none, .mv (.t 30)⟩])
 (.seq (.reg [⟨some 31, none, .mv (.t 5)⟩,⟨some 32, none, .build [(.i .i64 0), (.i .i64 0)] [(0, 1, (.c (.i .i64 2))), (1, 1, (.t 31))]⟩,⟨some 6, none, .alloc 31 [(.i .i64 0), (.i .i64 0)]⟩,⟨none, none, .st 2 (.t 6) (.t 32)⟩])
 (.seq (.reg [⟨some 33, none, .mv (.t 3)⟩,⟨some 34, none, .ldn 2 (.t 6)⟩,⟨some 35, none, .call 9 [(.t 33), (.t 34)]⟩,⟨some 7, none, .mv (.t 35)⟩])
 (.seq (.reg [⟨some 36, none, .mv (.t 5)⟩,⟨some 37, none, .bin .lss (.t 36) (.c (.i .i64 64))⟩,⟨some 38, none, .mv (.t 37)⟩,⟨some 39, some (38, true), .mv (.t 7)⟩,⟨some 40, some (38, true), .bin .neq (.t 39) (.c (.i .i64 0))⟩,⟨some 41, some (38, true), .mv (.t 40)⟩,⟨some 42, some (41, false), .mv (.t 3)⟩,⟨some 43, some (41, false), .ldn 2 (.t 6)⟩,⟨some 44, some (41, false), .call 9 [(.t 42), (.t 43)]⟩,⟨some 45, some (41, false), .bin .neq (.t 44) (.c (.i .i64 37))⟩,⟨some 46, some (38, true), .pick (.t 41) (.c (.b true)) (.t 45)⟩,⟨some 47, none, .pick (.t 38) (.t 46) (.c (.b false))⟩,⟨some 48, none, .mv (.t 47)⟩,⟨some 49, some (48, false), .mv (.t 5)⟩,⟨some 50, some (48, false), .bin .geq (.t 49) (.c (.i .i64 64))⟩,⟨some 51, some (48, false), .mv (.t 50)⟩,⟨some 52, some (51, true), .mv (.t 7)⟩,⟨some 53, some (51, true), .bin .neq (.t 52) (.c (.i .i64 13))⟩,⟨some 54, some (48, false), .pick (.t 51) (.t 53) (.c (.b false))⟩,⟨some 55, none, .pick (.t 48) (.c (.b true)) (.t 54)⟩])
 (.cond (.t 55) (.seq (.reg [⟨some 2, none, .mv (.c (.b false))⟩])
 (.ret))
 (.skip)))))))
 (.reg [⟨some 56, none, .bin .add (.t 28) (.c (.i .i64 1))⟩,⟨some 28, none, .mv (.t 56)⟩])))))))
 (.seq (.reg [⟨some 57, none, .mv (.t 3)⟩,⟨some 58, none, .call 10 [(.t 57)]⟩,⟨some 59, none, .len 1 (.t 58)⟩,⟨some 60, none, .mv (.t 0)⟩,⟨some 61, none, .mn [(.t 60), (.c (.i .i64 64))]⟩,⟨some 62, none, .bin .eql (.t 59) (.t 61)⟩,⟨some 2, none, .mv (.t 62)⟩])
 (.ret)))))))
theorem fn3 : F 3 = .go 63 [.t 2] v3 := by rw [F, fnOf, Tryz.func3]; kernel_rfl

def v7 : VC :=
 .seq (.reg [⟨some 0, none, .mv (.c (.b false))⟩])
 (.seq (.reg [⟨some 7, none, .bsl 1 3 [(.i .u8 0), (.i .u8 0), (.i .u8 0)] [(0, 1, (.c (.i .u8 97))), (1, 1, (.c (.i .u8 124))), (2, 1, (.c (.i .u8 98)))]⟩,⟨some 8, none, .cvm (.t 7)⟩,⟨some 9, none, .bsl 1 1 [(.i .u8 0)] [(0, 1, (.c (.i .u8 98)))]⟩,⟨some 10, none, .cvm (.t 9)⟩,⟨some 11, none, .build [(.i .i64 0), (.i .i64 0), (.i .i64 0), (.i .i64 0)] [(0, 1, (.c (.i .i64 99))), (1, 1, (.c (.i .i64 9))), (2, 1, (.c (.i .i64 999))), (3, 1, (.c (.i .i64 4)))]⟩,⟨some 12, none, .call 8 [(.t 8), (.t 10), (.t 11)]⟩,⟨some 6, none, .mv (.t 12)⟩,⟨some 13, none, .ext (.t 6) 0⟩,⟨some 14, none, .ext (.t 6) 1⟩,⟨some 1, none, .mv (.t 13)⟩,⟨some 2, none, .mv (.t 14)⟩])
 (.seq (.seq (.reg [⟨some 15, none, .mv (.t 1)⟩,⟨some 16, none, .eqn .p false (.t 15) (.c (.p none))⟩,⟨some 17, none, .mv (.t 16)⟩,⟨some 18, some (17, false), .mv (.t 2)⟩,⟨some 19, some (17, false), .len 1 (.t 18)⟩,⟨some 20, some (17, false), .bin .neq (.t 19) (.c (.i .i64 6))⟩,⟨some 21, none, .pick (.t 17) (.c (.b true)) (.t 20)⟩])
 (.cond (.t 21) (.seq (.reg [⟨some 0, none, .mv (.c (.b false))⟩])
 (.ret))
 (.skip)))
 (.seq (.reg [⟨some 22, none, .mv (.t 1)⟩,⟨some 23, none, .call 29 [(.t 22)]⟩,⟨some 3, none, .mv (.t 23)⟩])
 (.seq (.reg [⟨some 24, none, .mv (.t 1)⟩,⟨some 25, none, .call 30 [(.t 24)]⟩,⟨some 4, none, .mv (.t 25)⟩])
 (.seq (.reg [⟨some 26, none, .mv (.t 1)⟩,⟨some 27, none, .call 29 [(.t 26)]⟩,⟨some 5, none, .mv (.t 27)⟩])
 (.seq (.reg [⟨some 28, none, .mv (.t 3)⟩,⟨some 29, none, .bin .eql (.t 28) (.c (.i .i64 0))⟩,⟨some 30, none, .mv (.t 29)⟩,⟨some 31, some (30, true), .mv (.t 4)⟩,⟨some 32, some (30, true), .bin .eql (.t 31) (.c (.i .i64 3))⟩,⟨some 33, none, .pick (.t 30) (.t 32) (.c (.b false))⟩,⟨some 34, none, .mv (.t 33)⟩,⟨some 35, some (34, true), .mv (.t 5)⟩,⟨some 36, some (34, true), .bin .eql (.t 35) (.c (.i .i64 0))⟩,⟨some 37, none, .pick (.t 34) (.t 36) (.c (.b false))⟩,⟨some 38, none, .mv (.t 37)⟩,⟨some 39, some (38, true), .mv (.t 1)⟩,⟨some 40, some (38, true), .call 30 [(.t 39)]⟩,⟨some 41, some (38, true), .bin .eql (.t 40) (.c (.i .i64 5))⟩,⟨some 42, none, .pick (.t 38) (.t 41) (.c (.b false))⟩,⟨some 43, none, .mv (.t 42)⟩,⟨some 44, some (43, true), .mv (.t 1)⟩,⟨some 45, some (43, true), .call 29 [(.t 44)]⟩,⟨some 46, some (43, true), .bin .eql (.t 45) (.c (.i .i64 70))⟩,⟨some 47, none, .pick (.t 43) (.t 46) (.c (.b false))⟩,⟨some 0, none, .mv (.t 47)⟩])
 (.ret)))))))
theorem fn7 : F 7 = .go 48 [.t 0] v7 := by rw [F, fnOf, Tryz.func7]; kernel_rfl

def v8 : VC :=
 .seq (.reg [⟨some 5, none, .box 4 (.t 2)⟩,⟨some 6, none, .mv (.c (.p none))⟩,⟨some 7, none, .mv (.c (.sl none 0 0 true))⟩])
 (.seq (.seq (.reg [⟨some 14, none, .mv (.t 0)⟩,⟨some 15, none, .len 1 (.t 14)⟩,⟨some 16, none, .bin .gtr (.t 15) (.c (.i .i64 500))⟩,⟨some 17, none, .mv (.t 16)⟩,⟨some 18, some (17, false), .mv (.t 1)⟩,⟨some 19, some (17, false), .len 1 (.t 18)⟩,⟨some 20, some (17, false), .bin .gtr (.t 19) (.c (.i .i64 300))⟩,⟨some 21, none, .pick (.t 17) (.c (.b true)) (.t 20)⟩,⟨some 22, none, .mv (.t 21)⟩,⟨some 23, some (22, false), .fa 0 (.t 5)⟩,⟨some 24, some (22, false), .ld (.t 23)⟩,⟨some 25, some (22, false), .bin .gtr (.t 24) (.c (.i .i64 2000))⟩,⟨some 26, none, .pick (.t 22) (.c (.b true)) (.t 25)⟩])
 (.cond (.t 26) (.seq (.reg [⟨some 6, none, .mv (.c (.p none))⟩,⟨some 7, none, .mv (.c (.sl none 0 0 true))⟩])
 (.ret))
 (.skip)))
 (.seq (.reg [⟨some 28, none, .mv (.t 0)⟩,⟨some 29, none, .mv (.t 1)⟩,⟨some 30, none, .ldn 4 (.t 5)⟩,⟨some 31, none, .call 31 [(.t 28), (.t 29), (.t 30)]⟩,⟨some 27, none, .mv (.t 31)⟩,⟨some 32, none, .ext (.t 27) 0⟩,⟨some 33, none, .ext (.t 27) 1⟩,⟨some 34, none, .ext (.t 27) 2⟩,⟨some 8, none, .mv (.t 32)⟩,⟨some 9, none, .mv (.t 33)⟩,⟨some 10, none, .mv (.t 34)⟩])
 (.seq (.seq (.reg [⟨some 35, none, .mv (.t 9)⟩,⟨some 36, none, .bin .neq (.t 35) (.c (.i .i64 0))⟩,⟨some 37, none, .mv (.t 36)⟩,⟨some 38, some (37, false), .mv (.t 8)⟩,⟨some 39, some (37, false), .eqn .p false (.t 38) (.c (.p none))⟩,⟨some 40, none, .pick (.t 37) (.c (.b true)) (.t 39)⟩])
 (.cond (.t 40) (.seq (.reg [⟨some 6, none, .mv (.c (.p none))⟩,⟨some 7, none, .mv (.c (.sl none 0 0 true))⟩])
 (.ret))
 (.skip)))
 (.seq (.reg [⟨some 11, none, .alloc 24 [(.sl none 0 0 true)]⟩])
 (.seq (.seq (.reg [⟨some 41, none, .mv (.t 8)⟩,⟨some 42, none, .nc (.t 41)⟩,⟨some 43, none, .fa 9 (.t 42)⟩,⟨some 44, none, .ld (.t 43)⟩,⟨some 45, none, .call 26 [(.t 44)]⟩])
 (.blk 0 (.rfn (.t 45) [46, 47] (.reg [⟨some 13, none, .alloc 60 [(.i .i64 0), (.i .i64 0), (.i .i64 0), (.i .i64 0), (.i .i64 0), (.i .i64 0), (.i .i64 0), (.sl none 0 0 true)]⟩,⟨none, none, .st 8 (.t 13) (.t 47)⟩])
 (.blk 1 (.reg [⟨some 48, none, .ld (.t 11)⟩,⟨some 49, none, .ldn 8 (.t 13)⟩,⟨some 50, none, .bsl 8 1 [(.i .i64 0), (.i .i64 0), (.i .i64 0), (.i .i64 0), (.i .i64 0), (.i .i64 0), (.i .i64 0), (.sl none 0 0 true)] [(0, 8, (.t 49))]⟩,⟨some 51, none, .app ⟨8, (some 60)⟩ 80 (.t 48) (.t 50)⟩,⟨none, none, .st 1 (.t 11) (.t 51)⟩])))))
 (.seq (.regd [⟨some 52, none, .mv (.t 8)⟩,⟨some 53, none, .call 32 [(.t 52)]⟩,⟨some 54, none, .ld (.t 11)⟩,⟨some 6, none, .mv (.t 53)⟩,⟨some 7, none, .mv (.t 54)⟩] [(2, 1)])
 (.ret)))))))
theorem fn8 : F 8 = .go 55 [.t 6, .t 7] v8 := by rw [F, fnOf, Tryz.func8]; kernel_rfl

def v9 : VC :=
 .seq (.reg [⟨some 3, none, .box 2 (.t 1)⟩,⟨some 4, none, .mv (.c (.i .i64 0))⟩])
 (.seq (.blk 0 (.seq (.regd [⟨some 6, none, .ldn 2 (.t 3)⟩,⟨some 7, none, .mv (.t 0)⟩,⟨some 8, none, .nc (.t 7)⟩,⟨some 9, none, .fa 0 (.t 8)⟩,⟨some 10, none, .ld (.t 9)⟩,⟨some 11, none, .nc (.t 10)⟩,⟨some 12, none, .fa 1 (.t 11)⟩,⟨some 13, none, .ldn 3 (.t 12)⟩,⟨some 14, none, .call 33 [(.t 6), (.t 13)]⟩,⟨some 15, none, .un .not (.t 14)⟩,⟨some 5, none, .mv (.t 15)⟩] [])
 (.cond (.t 5) (.seq (.reg [⟨some 4, none, .mv (.c (.i .i64 11))⟩])
 (.ret))
 (.seq (.regd [⟨some 17, none, .mv (.t 0)⟩,⟨some 18, none, .nc (.t 17)⟩,⟨some 19, none, .fa 10 (.t 18)⟩,⟨some 20, none, .ld (.t 19)⟩,⟨some 21, none, .ldn 2 (.t 3)⟩,⟨some 22, none, .call 34 [(.t 20), (.t 21)]⟩,⟨some 16, none, .mv (.t 22)⟩] [])
 (.cond (.t 16) (.seq (.reg [⟨some 4, none, .mv (.c (.i .i64 37))⟩])
 (.ret))
 (.seq (.reg [⟨some 24, none, .mv (.t 0)⟩,⟨some 25, none, .nc (.t 24)⟩,⟨some 26, none, .fa 10 (.t 25)⟩,⟨some 27, none, .ld (.t 26)⟩,⟨some 28, none, .len 1 (.t 27)⟩,⟨some 29, none, .bin .geq (.t 28) (.c (.i .i64 64))⟩,⟨some 23, none, .mv (.t 29)⟩])
 (.cond (.t 23) (.seq (.reg [⟨some 4, none, .mv (.c (.i .i64 13))⟩])
 (.ret))
 (.skip))))))))
 (.seq (.regd [⟨some 30, none, .mv (.t 0)⟩,⟨some 31, none, .mv (.t 0)⟩,⟨some 32, none, .nc (.t 31)⟩,⟨some 33, none, .fa 10 (.t 32)⟩,⟨some 34, none, .ld (.t 33)⟩,⟨some 35, none, .ldn 2 (.t 3)⟩,⟨some 36, none, .bsl 2 1 [(.i .i64 0), (.i .i64 0)] [(0, 2, (.t 35))]⟩,⟨some 37, none, .app ⟨2, (some 31)⟩ 16 (.t 34) (.t 36)⟩,⟨some 38, none, .nc (.t 30)⟩,⟨some 39, none, .fa 10 (.t 38)⟩,⟨none, none, .st 1 (.t 39) (.t 37)⟩] [(4, 6)])
 (.seq (.reg [⟨some 4, none, .mv (.c (.i .i64 0))⟩])
 (.ret))))
theorem fn9 : F 9 = .go 40 [.t 4] v9 := by rw [F, fnOf, Tryz.func9]; kernel_rfl

def v10 : VC :=
 .seq (.reg [⟨some 2, none, .mv (.c (.sl none 0 0 true))⟩])
 (.seq (.reg [⟨some 3, none, .mv (.t 0)⟩,⟨some 4, none, .nc (.t 3)⟩,⟨some 5, none, .fa 10 (.t 4)⟩,⟨some 6, none, .ld (.t 5)⟩,⟨some 7, none, .call 35 [(.t 6)]⟩,⟨some 2, none, .mv (.t 7)⟩])
 (.ret))
theorem fn10 : F 10 = .go 8 [.t 2] v10 := by rw [F, fnOf, Tryz.func10]; kernel_rfl

def v25 : VC :=
 .seq (.reg [⟨some 2, none, .mv (.c (.i .i64 0))⟩])
 (.seq (.reg [⟨some 3, none, .mv (.t 0)⟩,⟨some 4, none, .nc (.t 3)⟩,⟨some 5, none, .fa 4 (.t 4)⟩,⟨some 6, none, .ld (.t 5)⟩,⟨some 7, none, .len 1 (.t 6)⟩,⟨some 2, none, .mv (.t 7)⟩])
 (.ret))
theorem fn25 : F 25 = .go 8 [.t 2] v25 := by rw [F, fnOf, Tryz.func25]; kernel_rfl

def v26 : VC :=
 .seq (.reg [⟨some 1, none, .box 1 (.t 0)⟩,⟨some 2, none, .mv (.c .nf)⟩])
 (.seq (.reg [⟨some 3, none, .fnc 61 [] [(.t 1)]⟩,⟨some 2, none, .mv (.t 3)⟩])
 (.ret))
theorem fn26 : F 26 = .go 4 [.t 2] v26 := by rw [F, fnOf, Tryz.func26]; kernel_rfl

def v28 : VC :=
 .seq (.reg [⟨some 2, none, .box 8 (.t 0)⟩,⟨some 3, none, .box 8 (.t 1)⟩,⟨some 4, none, .mv (.c (.b false))⟩])
 (.seq (.reg [⟨some 6, none, .fa 0 (.t 2)⟩,⟨some 7, none, .ld (.t 6)⟩,⟨some 8, none, .fa 1 (.t 2)⟩,⟨some 9, none, .ld (.t 8)⟩,⟨some 10, none, .fa 2 (.t 2)⟩,⟨some 11, none, .ld (.t 10)⟩,⟨some 12, none, .fa 3 (.t 2)⟩,⟨some 13, none, .ld (.t 12)⟩,⟨some 14, none, .fa 4 (.t 2)⟩,⟨some 15, none, .ld (.t 14)⟩,⟨some 16, none, .fa 5 (.t 2)⟩,⟨some 17, none, .ld (.t 16)⟩,⟨some 18, none, .fa 6 (.t 2)⟩,⟨some 19, none, .ld (.t 18)⟩,⟨some 20, none, .build [(.i .i64 0), (.i .i64 0), (.i .i64 0), (.i .i64 0), (.i .i64 0), (.i .i64 0), (.i .i64 0)] [(0, 1, (.t 7)), (1, 1, (.t 9)), (2, 1, (.t 11)), (3, 1, (.t 13)), (4, 1, (.t 15)), (5, 1, (.t 17)), (6, 1, (.t 19))]⟩,⟨some 21, none, .fa 0 (.t 3)⟩,⟨some 22, none, .ld (.t 21)⟩,⟨some 23, none, .fa 1 (.t 3)⟩,⟨some 24, none, .ld (.t 23)⟩,⟨some 25, none, .fa 2 (.t 3)⟩,⟨some 26, none, .ld (.t 25)⟩,⟨some 27, none, .fa 3 (.t 3)⟩,⟨some 28, none, .ld (.t 27)⟩,⟨some 29, none, .fa 4 (.t 3)⟩,⟨some 30, none, .ld (.t 29)⟩,⟨some 31, none, .fa 5 (.t 3)⟩,⟨some 32, none, .ld (.t 31)⟩,⟨some 33, none, .fa 6 (.t 3)⟩,⟨some 34, none, .ld (.t 33)⟩,⟨some 35, none, .build [(.i .i64 0), (.i .i64 0), (.i .i64 0), (.i .i64 0), (.i .i64 0), (.i .i64 0), (.i .i64 0)] [(0, 1, (.t 22)), (1, 1, (.t 24)), (2, 1, (.t 26)), (3, 1, (.t 28)), (4, 1, (.t 30)), (5, 1, (.t 32)), (6, 1, (.t 34))]⟩,⟨some 36, none, .eqa false [(0, .i), (1, .i), (2, .i), (3, .i), (4, .i), (5, .i), (6, .i)] (.t 20) (.t 35)⟩,⟨some 5, none, .mv (.t 36)⟩])
 (.seq (.reg [⟨some 37, none, .mv (.t 5)⟩,⟨some 38, none, .mv (.t 37)⟩,⟨some 39, some (38, true), .fa 7 (.t 2)⟩,⟨some 40, some (38, true), .ld (.t 39)⟩,⟨some 41, some (38, true), .fa 7 (.t 3)⟩,⟨some 42, some (38, true), .ld (.t 41)⟩,⟨some 43, some (38, true), .call 64 [(.t 40), (.t 42)]⟩,⟨some 44, none, .pick (.t 38) (.t 43) (.c (.b false))⟩,⟨some 4, none, .mv (.t 44)⟩])
 (.ret)))
theorem fn28 : F 28 = .go 45 [.t 4] v28 := by rw [F, fnOf, Tryz.func28]; kernel_rfl

def v29 : VC :=
 .seq (.reg [⟨some 2, none, .mv (.c (.i .i64 0))⟩])
 (.seq (.reg [⟨some 3, none, .mv (.t 0)⟩,⟨some 4, none, .call 65 [(.t 3), (.c (.f 66 [] []))]⟩,⟨some 2, none, .mv (.t 4)⟩])
 (.ret))
theorem fn29 : F 29 = .go 5 [.t 2] v29 := by rw [F, fnOf, Tryz.func29]; kernel_rfl

def v30 : VC :=
 .seq (.reg [⟨some 2, none, .mv (.c (.i .i64 0))⟩])
 (.seq (.reg [⟨some 3, none, .mv (.t 0)⟩,⟨some 4, none, .nc (.t 3)⟩,⟨some 5, none, .fa 1 (.t 4)⟩,⟨some 6, none, .ld (.t 5)⟩,⟨some 2, none, .mv (.t 6)⟩])
 (.ret))
theorem fn30 : F 30 = .go 7 [.t 2] v30 := by rw [F, fnOf, Tryz.func30]; kernel_rfl

def v31 : VC :=
 .seq (.reg [⟨some 5, none, .box 4 (.t 2)⟩,⟨some 6, none, .mv (.c (.p none))⟩,⟨some 7, none, .mv (.c (.i .i64 0))⟩,⟨some 8, none, .mv (.c (.i .i64 0))⟩])
 (.seq (.seq (.reg [⟨some 15, none, .ldn 4 (.t 5)⟩,⟨some 16, none, .call 67 [(.t 15)]⟩,⟨some 17, none, .un .not (.t 16)⟩])
 (.cond (.t 17) (.seq (.reg [⟨some 6, none, .mv (.c (.p none))⟩,⟨some 7, none, .mv (.c (.i .i64 10))⟩,⟨some 8, none, .mv (.c (.i .i64 0))⟩])
 (.ret))
 (.skip)))
 (.seq (.reg [⟨some 19, none, .mv (.t 0)⟩,⟨some 20, none, .call 68 [(.t 19)]⟩,⟨some 18, none, .mv (.t 20)⟩,⟨some 21, none, .ext (.t 18) 0⟩,⟨some 22, none, .ext (.t 18) 1⟩,⟨some 23, none, .ext (.t 18) 2⟩,⟨some 9, none, .alloc 82 [(.sl none 0 0 true), (.i .i64 0), (.sl none 0 0 true)]⟩,⟨none, none, .st 3 (.t 9) (.t 21)⟩,⟨some 10, none, .mv (.t 22)⟩,⟨some 11, none, .mv (.t 23)⟩])
 (.seq (.seq (.reg [⟨some 24, none, .mv (.t 10)⟩,⟨some 25, none, .bin .neq (.t 24) (.c (.i .i64 0))⟩])
 (.cond (.t 25) (.seq (.reg [⟨some 26, none, .mv (.t 10)⟩,⟨some 27, none, .mv (.t 11)⟩,⟨some 6, none, .mv (.c (.p none))⟩,⟨some 7, none, .mv (.t 26)⟩,⟨some 8, none, .mv (.t 27)⟩])
 (.ret))
 (.skip)))
 (.seq (.reg [⟨some 29, none, .mv (.t 1)⟩,⟨some 30, none, .call 69 [(.t 29)]⟩,⟨some 28, none, .mv (.t 30)⟩,⟨some 31, none, .ext (.t 28) 0⟩,⟨some 32, none, .ext (.t 28) 1⟩,⟨some 12, none, .alloc 84 [(.sl none 0 0 true)]⟩,⟨none, none, .st 1 (.t 12) (.t 31)⟩,⟨some 10, none, .mv (.t 32)⟩])
 (.seq (.seq (.reg [⟨some 33, none, .mv (.t 10)⟩,⟨some 34, none, .bin .neq (.t 33) (.c (.i .i64 0))⟩])
 (.cond (.t 34) (.seq (.reg [⟨some 35, none, .mv (.t 10)⟩,⟨some 6, none, .mv (.c (.p none))⟩,⟨some 7, none, .mv (.t 35)⟩,⟨some 8, none, .mv (.c (.i .i64 0))⟩])
 (.ret))
 (.skip)))
 (.seq (.regd [⟨some 36, none, .bsl 1 0 [] []⟩,⟨some 37, none, .mv (.t 0)⟩,⟨some 38, none, .app ⟨1, (some 5)⟩ 1 (.t 36) (.t 37)⟩,⟨some 39, none, .ldn 3 (.t 9)⟩,⟨some 40, none, .ldn 3 (.t 9)⟩,⟨some 41, none, .call 70 [(.t 40)]⟩,⟨some 42, none, .ldn 1 (.t 12)⟩,⟨some 43, none, .build [(.sl none 0 0 true), (.sl none 0 0 true), (.i .i64 0), (.sl none 0 0 true), (.sl none 0 0 true), (.sl none 0 0 true), (.sl none 0 0 true), (.i .i64 0), (.sl none 0 0 true), (.p none), (.i .i64 0), (.i .i64 0)] [(0, 1, (.t 38)), (1, 3, (.t 39)), (4, 4, (.t 41)), (8, 1, (.t 42))]⟩,⟨some 44, none, .box 12 (.t 43)⟩,⟨some 13, none, .mv (.t 44)⟩] [(3, 0), (3, 2), (3, 5), (4, 0), (4, 2), (6, 0), (6, 2), (6, 5)])
 (.seq (.regd [⟨some 46, none, .mv (.t 13)⟩,⟨some 47, none, .nc (.t 46)⟩,⟨some 48, none, .fa 4 (.t 47)⟩,⟨some 49, none, .ldn 4 (.t 48)⟩,⟨some 50, none, .ldn 1 (.t 12)⟩,⟨some 51, none, .fa 0 (.t 5)⟩,⟨some 52, none, .ld (.t 51)⟩,⟨some 53, none, .fa 1 (.t 5)⟩,⟨some 54, none, .ld (.t 53)⟩,⟨some 55, none, .build [(.i .i64 0), (.i .i64 0), (.i .i64 0)] [(0, 1, (.t 52)), (1, 1, (.t 54))]⟩,⟨some 56, none, .call 71 [(.t 49), (.t 50), (.t 55)]⟩,⟨some 45, none, .mv (.t 56)⟩,⟨some 57, none, .ext (.t 45) 0⟩,⟨some 58, none, .ext (.t 45) 1⟩,⟨some 14, none, .mv (.t 57)⟩,⟨some 10, none, .mv (.t 58)⟩] [])
 (.seq (.seq (.reg [⟨some 59, none, .mv (.t 10)⟩,⟨some 60, none, .bin .neq (.t 59) (.c (.i .i64 0))⟩])
 (.cond (.t 60) (.seq (.reg [⟨some 61, none, .mv (.t 10)⟩,⟨some 6, none, .mv (.c (.p none))⟩,⟨some 7, none, .mv (.t 61)⟩,⟨some 8, none, .mv (.c (.i .i64 0))⟩])
 (.ret))
 (.skip)))
 (.seq (.seq (.reg [⟨some 63, none, .mv (.t 13)⟩,⟨some 64, none, .fa 1 (.t 9)⟩,⟨some 65, none, .ld (.t 64)⟩,⟨some 66, none, .fa 3 (.t 5)⟩,⟨some 67, none, .ld (.t 66)⟩,⟨some 68, none, .fa 2 (.t 5)⟩,⟨some 69, none, .ld (.t 68)⟩,⟨some 70, none, .call 55 [(.t 65), (.t 67), (.t 69)]⟩,⟨some 62, none, .mv (.t 70)⟩,⟨some 71, none, .ext (.t 62) 0⟩,⟨some 72, none, .ext (.t 62) 1⟩,⟨some 73, none, .nc (.t 63)⟩,⟨some 74, none, .fa 9 (.t 73)⟩,⟨none, none, .st 1 (.t 74) (.t 71)⟩,⟨some 10, none, .mv (.t 72)⟩])
 (.seq (.reg [⟨some 75, none, .mv (.t 10)⟩,⟨some 76, none, .bin .neq (.t 75) (.c (.i .i64 0))⟩])
 (.cond (.t 76) (.seq (.reg [⟨some 77, none, .mv (.t 10)⟩,⟨some 6, none, .mv (.c (.p none))⟩,⟨some 7, none, .mv (.t 77)⟩,⟨some 8, none, .mv (.c (.i .i64 0))⟩])
 (.ret))
 (.skip))))
 (.seq (.reg [⟨some 78, none, .mv (.t 13)⟩,⟨some 79, none, .mv (.t 14)⟩,⟨some 80, none, .call 72 [(.t 78), (.t 79)]⟩])
 (.seq (.reg [⟨some 81, none, .mv (.t 13)⟩,⟨some 82, none, .mv (.t 14)⟩,⟨some 83, none, .call 73 [(.t 82)]⟩,⟨some 84, none, .nc (.t 81)⟩,⟨some 85, none, .fa 11 (.t 84)⟩,⟨none, none, .st 1 (.t 85) (.t 83)⟩])
 (.seq (.reg [⟨some 86, none, .mv (.t 13)⟩,⟨some 6, none, .mv (.t 86)⟩,⟨some 7, none, .mv (.c (.i .i64 0))⟩,⟨some 8, none, .mv (.c (.i .i64 0))⟩])
 (.ret)))))))))))))
theorem fn31 : F 31 = .go 87 [.t 6, .t 7, .t 8] v31 := by rw [F, fnOf, Tryz.func31]; kernel_rfl

def v32 : VC :=
 .seq (.reg [⟨some 2, none, .mv (.c (.p none))⟩])
 (.seq (.reg [⟨some 4, none, .mv (.t 0)⟩,⟨some 5, none, .build [(.p none), (.i .i64 0), (.i .i64 0), (.i .i64 0), (.i .i64 0), (.i .i64 0), (.i .i64 0), (.i .i64 0), (.i .i64 0), (.sl none 0 0 true), (.sl none 0 0 true), (.i .i64 0)] [(0, 1, (.t 4))]⟩,⟨some 6, none, .box 12 (.t 5)⟩,⟨some 3, none, .mv (.t 6)⟩])
 (.seq (.reg [⟨some 7, none, .mv (.t 3)⟩,⟨some 8, none, .call 74 [(.t 7), (.c (.i .i64 0))]⟩])
 (.seq (.reg [⟨some 9, none, .mv (.t 3)⟩,⟨some 2, none, .mv (.t 9)⟩])
 (.ret))))
theorem fn32 : F 32 = .go 10 [.t 2] v32 := by rw [F, fnOf, Tryz.func32]; kernel_rfl

def v33 : VC :=
 .seq (.reg [⟨some 2, none, .box 2 (.t 0)⟩,⟨some 3, none, .box 3 (.t 1)⟩,⟨some 4, none, .mv (.c (.b false))⟩])
 (.seq (.seq (.reg [⟨some 5, none, .fa 0 (.t 2)⟩,⟨some 6, none, .ld (.t 5)⟩])
 (.blk 0 (.seq (.reg [⟨some 8, none, .bin .eql (.t 6) (.c (.i .i64 1))⟩,⟨some 7, none, .mv (.t 8)⟩])
 (.cond (.t 7) (.seq (.reg [⟨some 9, none, .fa 1 (.t 2)⟩,⟨some 10, none, .ld (.t 9)⟩,⟨some 11, none, .fa 0 (.t 3)⟩,⟨some 12, none, .ld (.t 11)⟩,⟨some 13, none, .len 1 (.t 12)⟩,⟨some 14, none, .bin .sub (.t 13) (.c (.i .i64 1))⟩,⟨some 15, none, .call 75 [(.t 10), (.c (.i .i64 0)), (.t 14)]⟩,⟨some 4, none, .mv (.t 15)⟩])
 (.ret))
 (.seq (.reg [⟨some 17, none, .bin .eql (.t 6) (.c (.i .i64 2))⟩,⟨some 16, none, .mv (.t 17)⟩])
 (.cond (.t 16) (.seq (.reg [⟨some 18, none, .fa 1 (.t 2)⟩,⟨some 19, none, .ld (.t 18)⟩,⟨some 20, none, .call 75 [(.t 19), (.c (.i .i64 0)), (.c (.i .i64 65536))]⟩,⟨some 4, none, .mv (.t 20)⟩])
 (.ret))
 (.seq (.reg [⟨some 22, none, .bin .eql (.t 6) (.c (.i .i64 3))⟩,⟨some 21, none, .mv (.t 22)⟩])
 (.cond (.t 21) (.seq (.reg [⟨some 23, none, .fa 1 (.t 2)⟩,⟨some 24, none, .ld (.t 23)⟩,⟨some 25, none, .call 75 [(.t 24), (.c (.i .i64 1)), (.c (.i .i64 14))]⟩,⟨some 4, none, .mv (.t 25)⟩])
 (.ret))
 (.seq (.reg [⟨some 27, none, .bin .eql (.t 6) (.c (.i .i64 4))⟩,⟨some 26, none, .mv (.t 27)⟩])
 (.cond (.t 26) (.seq (.reg [⟨some 28, none, .fa 1 (.t 2)⟩,⟨some 29, none, .ld (.t 28)⟩,⟨some 30, none, .fa 1 (.t 3)⟩,⟨some 31, none, .ld (.t 30)⟩,⟨some 32, none, .call 75 [(.t 29), (.c (.i .i64 0)), (.t 31)]⟩,⟨some 4, none, .mv (.t 32)⟩])
 (.ret))
 (.seq (.reg [⟨some 34, none, .bin .eql (.t 6) (.c (.i .i64 5))⟩,⟨some 33, none, .mv (.t 34)⟩])
 (.cond (.t 33) (.seq (.reg [⟨some 35, none, .fa 1 (.t 2)⟩,⟨some 36, none, .ld (.t 35)⟩,⟨some 37, none, .call 75 [(.t 36), (.c (.i .i64 1)), (.c (.i .i64 65536))]⟩,⟨some 4, none, .mv (.t 37)⟩])
 (.ret))
 (.skip)))))))))))))
 (.seq (.reg [⟨some 4, none, .mv (.c (.b false))⟩])
 (.ret)))
theorem fn33 : F 33 = .go 38 [.t 4] v33 := by rw [F, fnOf, Tryz.func33]; kernel_rfl

def v34 : VC :=
 .seq (.reg [⟨some 3, none, .box 2 (.t 1)⟩,⟨some 4, none, .mv (.c (.b false))⟩])
 (.seq (.reg [⟨some 5, none, .mv (.t 0)⟩,⟨some 6, none, .ldn 2 (.t 3)⟩,⟨some 7, none, .call 76 [(.t 5), (.t 6)]⟩,⟨some 8, none, .bin .geq (.t 7) (.c (.i .i64 0))⟩,⟨some 4, none, .mv (.t 8)⟩])
 (.ret))
theorem fn34 : F 34 = .go 9 [.t 4] v34 := by rw [F, fnOf, Tryz.func34]; kernel_rfl

def v35 : VC :=
 .seq (.reg [⟨some 2, none, .mv (.c (.sl none 0 0 true))⟩])
 (.seq (.seq (.reg [⟨some 3, none, .mv (.t 0)⟩,⟨some 4, none, .eqn .sl false (.t 3) (.c (.sl none 0 0 true))⟩])
 (.cond (.t 4) (.seq (.reg [⟨some 2, none, .mv (.c (.sl none 0 0 true))⟩])
 (.ret))
 (.skip)))
 (.seq (.reg [⟨some 5, none, .bsl 2 0 [] []⟩,⟨some 6, none, .mv (.t 0)⟩,⟨some 7, none, .app ⟨2, (some 31)⟩ 16 (.t 5) (.t 6)⟩,⟨some 2, none, .mv (.t 7)⟩])
 (.ret)))
theorem fn35 : F 35 = .go 8 [.t 2] v35 := by rw [F, fnOf, Tryz.func35]; kernel_rfl

def v50 : VC :=
 .seq (.reg [⟨some 2, none, .mv (.c (.i .i64 0))⟩])
 (.seq (.reg [⟨some 3, none, .mv (.t 0)⟩,⟨some 4, none, .nc (.t 3)⟩,⟨some 5, none, .fa 0 (.t 4)⟩,⟨some 6, none, .ld (.t 5)⟩,⟨some 7, none, .nc (.t 6)⟩,⟨some 8, none, .fa 9 (.t 7)⟩,⟨some 9, none, .ld (.t 8)⟩,⟨some 10, none, .call 25 [(.t 9)]⟩,⟨some 2, none, .mv (.t 10)⟩])
 (.ret))
theorem fn50 : F 50 = .go 11 [.t 2] v50 := by rw [F, fnOf, Tryz.func50]; kernel_rfl

def v51 : VC :=
 .seq (.reg [⟨some 1, none, .box 8 (.t 0)⟩,⟨some 2, none, .alloc 60 [(.i .i64 0), (.i .i64 0), (.i .i64 0), (.i .i64 0), (.i .i64 0), (.i .i64 0), (.i .i64 0), (.sl none 0 0 true)]⟩])
 (.seq (.reg [⟨some 3, none, .fa 7 (.t 1)⟩,⟨some 4, none, .ld (.t 3)⟩,⟨some 5, none, .call 99 [(.t 4)]⟩,⟨some 6, none, .fa 7 (.t 1)⟩,⟨none, none, .st 1 (.t 6) (.t 5)⟩])
 (.seq (.reg [⟨some 7, none, .ldn 8 (.t 1)⟩,⟨none, none, .st 8 (.t 2) (.t 7)⟩])
 (.ret)))
theorem fn51 : F 51 = .go 8 [.c 2 (some 8)] v51 := by rw [F, fnOf, Tryz.func51]; kernel_rfl

def v55 : VC :=
 .seq (.reg [⟨some 6, none, .mv (.c (.p none))⟩,⟨some 7, none, .mv (.c (.i .i64 0))⟩])
 (.seq (.seq (.reg [⟨some 8, none, .mv (.t 0)⟩,⟨some 9, none, .bin .lss (.t 8) (.c (.i .i64 0))⟩,⟨some 10, none, .mv (.t 9)⟩,⟨some 11, some (10, false), .mv (.t 0)⟩,⟨some 12, some (10, false), .bin .gtr (.t 11) (.c (.i .i64 99))⟩,⟨some 13, none, .pick (.t 10) (.c (.b true)) (.t 12)⟩,⟨some 14, none, .mv (.t 13)⟩,⟨some 15, some (14, false), .mv (.t 1)⟩,⟨some 16, some (14, false), .bin .lss (.t 15) (.c (.i .i64 1))⟩,⟨some 17, none, .pick (.t 14) (.c (.b true)) (.t 16)⟩,⟨some 18, none, .mv (.t 17)⟩,⟨some 19, some (18, false), .mv (.t 1)⟩,⟨some 20, some (18, false), .bin .gtr (.t 19) (.c (.i .i64 1024))⟩,⟨some 21, none, .pick (.t 18) (.c (.b true)) (.t 20)⟩,⟨some 22, none, .mv (.t 21)⟩,⟨some 23, some (22, false), .mv (.t 2)⟩,⟨some 24, some (22, false), .bin .lss (.t 23) (.c (.i .i64 0))⟩,⟨some 25, none, .pick (.t 22) (.c (.b true)) (.t 24)⟩,⟨some 26, none, .mv (.t 25)⟩,⟨some 27, some (26, false), .mv (.t 2)⟩,⟨some 28, some (26, false), .bin .gtr (.t 27) (.c (.i .i64 16777216))⟩,⟨some 29, none, .pick (.t 26) (.c (.b true)) (.t 28)⟩])
 (.cond (.t 29) (.seq (.reg [⟨some 6, none, .mv (.c (.p none))⟩,⟨some 7, none, .mv (.c (.i .i64 10))⟩])
 (.ret))
 (.skip)))
 (.seq (.reg [⟨some 30, none, .mv (.t 0)⟩,⟨some 31, none, .mv (.t 1)⟩,⟨some 32, none, .mv (.t 2)⟩,⟨some 33, none, .build [(.i .i64 0), (.i .i64 0), (.i .i64 0), (.sl none 0 0 true), (.sl none 0 0 true), (.i .i64 0), (.i .i64 0), (.i .i64 0), (.i .i64 0), (.i .i64 0), (.i .i64 0), (.i .i64 0), (.sl none 0 0 true)] [(0, 1, (.t 30)), (1, 1, (.t 31)), (2, 1, (.t 32))]⟩,⟨some 34, none, .box 13 (.t 33)⟩,⟨some 6, none, .mv (.t 34)⟩,⟨some 7, none, .mv (.c (.i .i64 0))⟩])
 (.ret)))
theorem fn55 : F 55 = .go 35 [.t 6, .t 7] v55 := by rw [F, fnOf, Tryz.func55]; kernel_rfl

def v61 : VC :=
 .seq (.reg [⟨some 3, none, .alloc 60 [(.i .i64 0), (.i .i64 0), (.i .i64 0), (.i .i64 0), (.i .i64 0), (.i .i64 0), (.i .i64 0), (.sl none 0 0 true)]⟩])
 (.seq (.reg [⟨some 5, none, .ld (.t 1)⟩,⟨some 6, none, .call 25 [(.t 5)]⟩,⟨some 7, none, .mv (.c (.i .i64 0))⟩])
 (.blk 0 (.loop (.seq (.reg [⟨some 8, none, .bin .lss (.t 7) (.t 6)⟩])
 (.seq (.cond (.t 8) (.skip)
 (.exit 0))
 (.seq (.blk 1 (.seq (.reg [⟨some 9, none, .mv (.t 7)⟩,⟨some 4, none, .mv (.t 9)⟩])
 (.seq (.reg [⟨some 11, none, .ld (.t 1)⟩,⟨some 12, none, .ldn 8 (.t 3)⟩,⟨some 13, none, .mv (.t 4)⟩,⟨some 14, none, .call 62 [(.t 11), (.t 12), (.t 13)]⟩,⟨some 10, none, .mv (.t 14)⟩,⟨some 15, none, .ext (.t 10) 0⟩,⟨some 16, none, .ext (.t 10) 1⟩,⟨none, none, .st 8 (.t 3) (.t 15)⟩])
 (.seq (.reg [⟨some 17, none, .mv (.t 0)⟩,⟨some 18, none, .mv (.t 4)⟩,⟨some 19, none, .ldn 8 (.t 3)⟩,⟨some 20, none, .call 51 [(.t 19)]⟩,⟨some 21, none, .cv (.t 17) [(.t 18), (.t 20)]⟩,⟨some 22, none, .un .not (.t 21)⟩])
 (.cond (.t 22) (.ret)
 (.skip))))))
 (.reg [⟨some 23, none, .bin .add (.t 7) (.c (.i .i64 1))⟩,⟨some 7, none, .mv (.t 23)⟩])))))))
theorem fn61 : F 61 = .go 24 [] v61 := by rw [F, fnOf, Tryz.func61]; kernel_rfl

def v62 : VC :=
 .seq (.reg [⟨some 4, none, .box 8 (.t 1)⟩,⟨some 6, none, .alloc 60 [(.i .i64 0), (.i .i64 0), (.i .i64 0), (.i .i64 0), (.i .i64 0), (.i .i64 0), (.i .i64 0), (.sl none 0 0 true)]⟩,⟨some 7, none, .mv (.c (.i .i64 0))⟩])
 (.seq (.seq (.reg [⟨some 11, none, .mv (.t 2)⟩,⟨some 12, none, .bin .lss (.t 11) (.c (.i .i64 0))⟩,⟨some 13, none, .mv (.t 12)⟩,⟨some 14, some (13, false), .mv (.t 2)⟩,⟨some 15, some (13, false), .mv (.t 0)⟩,⟨some 16, some (13, false), .call 25 [(.t 15)]⟩,⟨some 17, some (13, false), .bin .geq (.t 14) (.t 16)⟩,⟨some 18, none, .pick (.t 13) (.c (.b true)) (.t 17)⟩])
 (.cond (.t 18) (.seq (.reg [⟨some 19, none, .build [(.i .i64 0), (.i .i64 0), (.i .i64 0), (.i .i64 0), (.i .i64 0), (.i .i64 0), (.i .i64 0), (.sl none 0 0 true)] []⟩,⟨none, none, .st 8 (.t 6) (.t 19)⟩,⟨some 7, none, .mv (.c (.i .i64 12))⟩])
 (.ret))
 (.skip)))
 (.seq (.seq (.reg [⟨some 20, none, .mv (.t 2)⟩,⟨some 21, none, .mv (.t 0)⟩,⟨some 22, none, .nc (.t 21)⟩,⟨some 23, none, .fa 1 (.t 22)⟩,⟨some 24, none, .ld (.t 23)⟩,⟨some 25, none, .bin .rem (.t 20) (.t 24)⟩,⟨some 26, none, .bin .eql (.t 25) (.c (.i .i64 0))⟩])
 (.cond (.t 26) (.reg [⟨some 27, none, .mv (.t 0)⟩,⟨some 28, none, .nc (.t 27)⟩,⟨some 29, none, .fa 0 (.t 28)⟩,⟨some 30, none, .ld (.t 29)⟩,⟨some 31, none, .call 102 [(.t 30)]⟩,⟨none, none, .st 8 (.t 4) (.t 31)⟩])
 (.skip)))
 (.seq (.seq (.regd [⟨some 32, none, .fa 7 (.t 4)⟩,⟨some 33, none, .ld (.t 32)⟩,⟨some 34, none, .len 1 (.t 33)⟩,⟨some 35, none, .mv (.t 0)⟩,⟨some 36, none, .nc (.t 35)⟩,⟨some 37, none, .fa 0 (.t 36)⟩,⟨some 38, none, .ld (.t 37)⟩,⟨some 39, none, .bin .add (.t 38) (.c (.i .i64 1))⟩,⟨some 40, none, .bin .mul (.c (.i .i64 2)) (.t 39)⟩,⟨some 41, none, .bin .neq (.t 34) (.t 40)⟩] [])
 (.cond (.t 41) (.seq (.reg [⟨some 42, none, .build [(.i .i64 0), (.i .i64 0), (.i .i64 0), (.i .i64 0), (.i .i64 0), (.i .i64 0), (.i .i64 0), (.sl none 0 0 true)] []⟩,⟨none, none, .st 8 (.t 6) (.t 42)⟩,⟨some 7, none, .mv (.c (.i .i64 11))⟩])
 (.ret))
 (.skip)))
 (.seq (.regd [⟨some 8, none, .alloc 60 [(.i .i64 0), (.i .i64 0), (.i .i64 0), (.i .i64 0), (.i .i64 0), (.i .i64 0), (.i .i64 0), (.sl none 0 0 true)]⟩,⟨some 44, none, .ldn 8 (.t 4)⟩,⟨some 45, none, .mv (.t 0)⟩,⟨some 46, none, .nc (.t 45)⟩,⟨some 47, none, .fa 3 (.t 46)⟩,⟨some 48, none, .ld (.t 47)⟩,⟨some 49, none, .mv (.t 0)⟩,⟨some 50, none, .nc (.t 49)⟩,⟨some 51, none, .fa 4 (.t 50)⟩,⟨some 52, none, .ld (.t 51)⟩,⟨some 53, none, .mv (.t 2)⟩,⟨some 54, none, .ia 1 (.t 52) (.t 53)⟩,⟨some 55, none, .ld (.t 54)⟩,⟨some 56, none, .call 103 [(.t 44), (.t 48), (.t 55)]⟩,⟨some 43, none, .mv (.t 56)⟩,⟨some 57, none, .ext (.t 43) 0⟩,⟨some 58, none, .ext (.t 43) 1⟩,⟨some 59, none, .ext (.t 43) 2⟩,⟨none, none, .st 8 (.t 8) (.t 57)⟩,⟨some 9, none, .mv (.t 58)⟩,⟨some 10, none, .mv (.t 59)⟩] [])
 (.seq (.seq (.reg [⟨some 60, none, .mv (.t 10)⟩,⟨some 61, none, .bin .neq (.t 60) (.c (.i .i64 0))⟩])
 (.cond (.t 61) (.seq (.reg [⟨some 62, none, .build [(.i .i64 0), (.i .i64 0), (.i .i64 0), (.i .i64 0), (.i .i64 0), (.i .i64 0), (.i .i64 0), (.sl none 0 0 true)] []⟩,⟨none, none, .st 8 (.t 6) (.t 62)⟩,⟨some 7, none, .mv (.c (.i .i64 11))⟩])
 (.ret))
 (.skip)))
 (.seq (.reg [⟨some 63, none, .ldn 8 (.t 8)⟩,⟨none, none, .st 8 (.t 6) (.t 63)⟩,⟨some 7, none, .mv (.c (.i .i64 0))⟩])
 (.ret)))))))
theorem fn62 : F 62 = .go 64 [.c 6 (some 8), .t 7] v62 := by rw [F, fnOf, Tryz.func62]; kernel_rfl

def v63 : VC :=
 .seq (.reg [⟨some 4, none, .mv (.c (.sl none 0 0 true))⟩,⟨some 5, none, .mv (.c (.i .i64 0))⟩])
 (.seq (.seq (.reg [⟨some 9, none, .mv (.t 1)⟩,⟨some 10, none, .bin .lss (.t 9) (.c (.i .i64 0))⟩,⟨some 11, none, .mv (.t 10)⟩,⟨some 12, some (11, false), .mv (.t 1)⟩,⟨some 13, some (11, false), .mv (.t 0)⟩,⟨some 14, some (11, false), .call 25 [(.t 13)]⟩,⟨some 15, some (11, false), .bin .geq (.t 12) (.t 14)⟩,⟨some 16, none, .pick (.t 11) (.c (.b true)) (.t 15)⟩])
 (.cond (.t 16) (.seq (.reg [⟨some 4, none, .mv (.c (.sl none 0 0 true))⟩,⟨some 5, none, .mv (.c (.i .i64 12))⟩])
 (.ret))
 (.skip)))
 (.seq (.reg [⟨some 6, none, .mv (.c (.sl none 0 0 true))⟩])
 (.seq (.reg [⟨some 7, none, .alloc 60 [(.i .i64 0), (.i .i64 0), (.i .i64 0), (.i .i64 0), (.i .i64 0), (.i .i64 0), (.i .i64 0), (.sl none 0 0 true)]⟩])
 (.seq (.seq (.reg [⟨some 17, none, .mv (.t 1)⟩,⟨some 18, none, .mv (.t 1)⟩,⟨some 19, none, .mv (.t 0)⟩,⟨some 20, none, .nc (.t 19)⟩,⟨some 21, none, .fa 1 (.t 20)⟩,⟨some 22, none, .ld (.t 21)⟩,⟨some 23, none, .bin .rem (.t 18) (.t 22)⟩,⟨some 24, none, .bin .sub (.t 17) (.t 23)⟩,⟨some 8, none, .mv (.t 24)⟩])
 (.blk 0 (.loop (.seq (.seq (.reg [⟨some 25, none, .mv (.t 8)⟩,⟨some 26, none, .mv (.t 1)⟩,⟨some 27, none, .bin .leq (.t 25) (.t 26)⟩])
 (.cond (.t 27) (.skip)
 (.exit 0)))
 (.seq (.blk 1 (.seq (.reg [⟨some 31, none, .mv (.t 0)⟩,⟨some 32, none, .ldn 8 (.t 7)⟩,⟨some 33, none, .mv (.t 8)⟩,⟨some 34, none, .call 62 [(.t 31), (.t 32), (.t 33)]⟩,⟨some 30, none, .mv (.t 34)⟩,⟨some 35, none, .ext (.t 30) 0⟩,⟨some 36, none, .ext (.t 30) 1⟩,⟨none, none, .st 8 (.t 7) (.t 35)⟩])
 (.reg [⟨some 37, none, .mv (.t 6)⟩,⟨some 38, none, .ldn 8 (.t 7)⟩,⟨some 39, none, .bsl 8 1 [(.i .i64 0), (.i .i64 0), (.i .i64 0), (.i .i64 0), (.i .i64 0), (.i .i64 0), (.i .i64 0), (.sl none 0 0 true)] [(0, 8, (.t 38))]⟩,⟨some 40, none, .app ⟨8, (some 60)⟩ 80 (.t 37) (.t 39)⟩,⟨some 6, none, .mv (.t 40)⟩])))
 (.reg [⟨some 28, none, .mv (.t 8)⟩,⟨some 29, none, .bin .add (.t 28) (.c (.i .i64 1))⟩,⟨some 8, none, .mv (.t 29)⟩]))))))
 (.seq (.reg [⟨some 41, none, .mv (.t 6)⟩,⟨some 4, none, .mv (.t 41)⟩,⟨some 5, none, .mv (.c (.i .i64 0))⟩])
 (.ret))))))
theorem fn63 : F 63 = .go 42 [.t 4, .t 5] v63 := by rw [F, fnOf, Tryz.func63]; kernel_rfl

def v64 : VC :=
 .seq (.reg [⟨some 4, none, .mv (.c (.b false))⟩])
 (.seq (.seq (.reg [⟨some 6, none, .mv (.t 0)⟩,⟨some 7, none, .len 1 (.t 6)⟩,⟨some 8, none, .mv (.t 1)⟩,⟨some 9, none, .len 1 (.t 8)⟩,⟨some 10, none, .bin .neq (.t 7) (.t 9)⟩])
 (.cond (.t 10) (.seq (.reg [⟨some 4, none, .mv (.c (.b false))⟩])
 (.ret))
 (.skip)))
 (.seq (.seq (.reg [⟨some 11, none, .mv (.t 0)⟩,⟨some 12, none, .len 1 (.t 11)⟩,⟨some 13, none, .mv (.c (.i .i64 0))⟩])
 (.blk 0 (.loop (.seq (.reg [⟨some 14, none, .bin .lss (.t 13) (.t 12)⟩])
 (.seq (.cond (.t 14) (.skip)
 (.exit 0))
 (.seq (.blk 1 (.seq (.reg [⟨some 15, none, .mv (.t 13)⟩,⟨some 5, none, .mv (.t 15)⟩])
 (.seq (.regd [⟨some 16, none, .mv (.t 0)⟩,⟨some 17, none, .mv (.t 5)⟩,⟨some 18, none, .ia 1 (.t 16) (.t 17)⟩,⟨some 19, none, .ld (.t 18)⟩,⟨some 20, none, .mv (.t 1)⟩,⟨some 21, none, .mv (.t 5)⟩,⟨some 22, none, .ia 1 (.t 20) (.t 21)⟩,⟨some 23, none, .ld (.t 22)⟩,⟨some 24, none, .bin .neq (.t 19) (.t 23)⟩] [])
 (.cond (.t 24) (.seq (.reg [⟨some 4, none, .mv (.c (.b false))⟩])
 (.ret))
 (.skip)))))
 (.reg [⟨some 25, none, .bin .add (.t 13) (.c (.i .i64 1))⟩,⟨some 13, none, .mv (.t 25)⟩])))))))
 (.seq (.reg [⟨some 4, none, .mv (.c (.b true))⟩])
 (.ret))))
theorem fn64 : F 64 = .go 26 [.t 4] v64 := by rw [F, fnOf, Tryz.func64]; kernel_rfl

def v65 : VC :=
 .seq (.reg [⟨some 4, none, .mv (.c (.i .i64 0))⟩])
 (.seq (.seq (.reg [⟨some 6, none, .mv (.t 0)⟩,⟨some 7, none, .call 107 [(.t 6)]⟩])
 (.cond (.t 7) (.seq (.reg [⟨some 4, none, .mv (.c (.i .i64 70))⟩])
 (.ret))
 (.skip)))
 (.seq (.blk 0 (.loop (.seq (.seq (.reg [⟨some 8, none, .mv (.t 0)⟩,⟨some 9, none, .call 107 [(.t 8)]⟩,⟨some 10, none, .un .not (.t 9)⟩])
 (.cond (.t 10) (.skip)
 (.exit 0)))
 (.blk 1 (.seq (.reg [⟨some 11, none, .mv (.t 0)⟩,⟨some 12, none, .nc (.t 11)⟩,⟨some 13, none, .fa 2 (.t 12)⟩,⟨some 14, none, .ldn 8 (.t 13)⟩,⟨some 5, none, .alloc 60 [(.i .i64 0), (.i .i64 0), (.i .i64 0), (.i .i64 0), (.i .i64 0), (.i .i64 0), (.i .i64 0), (.sl none 0 0 true)]⟩,⟨none, none, .st 8 (.t 5) (.t 14)⟩])
 (.seq (.regd [⟨some 15, none, .mv (.t 0)⟩,⟨some 16, none, .mv (.t 0)⟩,⟨some 17, none, .mv (.t 0)⟩,⟨some 18, none, .nc (.t 17)⟩,⟨some 19, none, .fa 1 (.t 18)⟩,⟨some 20, none, .ld (.t 19)⟩,⟨some 21, none, .ldn 8 (.t 5)⟩,⟨some 22, none, .call 108 [(.t 16), (.t 20), (.t 21)]⟩,⟨some 23, none, .nc (.t 15)⟩,⟨some 24, none, .fa 2 (.t 23)⟩,⟨none, none, .st 8 (.t 24) (.t 22)⟩] [])
 (.seq (.reg [⟨some 25, none, .mv (.t 0)⟩,⟨some 26, none, .nc (.t 25)⟩,⟨some 27, none, .fa 1 (.t 26)⟩,⟨some 28, none, .ld (.t 27)⟩,⟨some 29, none, .bin .add (.t 28) (.c (.i .i64 1))⟩,⟨some 30, none, .nc (.t 25)⟩,⟨some 31, none, .fa 1 (.t 30)⟩,⟨none, none, .st 1 (.t 31) (.t 29)⟩])
 (.seq (.regd [⟨some 32, none, .mv (.t 1)⟩,⟨some 33, none, .ldn 8 (.t 5)⟩,⟨some 34, none, .mv (.t 0)⟩,⟨some 35, none, .nc (.t 34)⟩,⟨some 36, none, .fa 2 (.t 35)⟩,⟨some 37, none, .ldn 8 (.t 36)⟩,⟨some 38, none, .cv (.t 32) [(.t 33), (.t 37)]⟩] [])
 (.cond (.t 38) (.exit 0)
 (.skip))))))))))
 (.seq (.reg [⟨some 4, none, .mv (.c (.i .i64 0))⟩])
 (.ret))))
theorem fn65 : F 65 = .go 39 [.t 4] v65 := by rw [F, fnOf, Tryz.func65]; kernel_rfl

def v66 : VC :=
 .seq (.reg [⟨some 2, none, .box 8 (.t 0)⟩,⟨some 3, none, .box 8 (.t 1)⟩,⟨some 4, none, .mv (.c (.b false))⟩])
 (.seq (.reg [⟨some 5, none, .fa 0 (.t 3)⟩,⟨some 6, none, .ld (.t 5)⟩,⟨some 7, none, .bin .eql (.t 6) (.c (.i .i64 7))⟩,⟨some 8, none, .mv (.t 7)⟩,⟨some 9, some (8, false), .fa 0 (.t 3)⟩,⟨some 10, some (8, false), .ld (.t 9)⟩,⟨some 11, some (8, false), .bin .eql (.t 10) (.c (.i .i64 12))⟩,⟨some 12, none, .pick (.t 8) (.c (.b true)) (.t 11)⟩,⟨some 4, none, .mv (.t 12)⟩])
 (.ret))
theorem fn66 : F 66 = .go 13 [.t 4] v66 := by rw [F, fnOf, Tryz.func66]; kernel_rfl

def v67 : VC :=
 .seq (.reg [⟨some 1, none, .box 4 (.t 0)⟩,⟨some 2, none, .mv (.c (.b false))⟩])
 (.seq (.reg [⟨some 4, none, .fa 0 (.t 1)⟩,⟨some 5, none, .ld (.t 4)⟩,⟨some 6, none, .bin .geq (.t 5) (.c (.i .i64 0))⟩,⟨some 7, none, .mv (.t 6)⟩,⟨some 8, some (7, true), .fa 0 (.t 1)⟩,⟨some 9, some (7, true), .ld (.t 8)⟩,⟨some 10, some (7, true), .bin .leq (.t 9) (.c (.i .i64 1048576))⟩,⟨some 11, none, .pick (.t 7) (.t 10) (.c (.b false))⟩,⟨some 12, none, .mv (.t 11)⟩,⟨some 13, some (12, true), .fa 1 (.t 1)⟩,⟨some 14, some (12, true), .ld (.t 13)⟩,⟨some 15, some (12, true), .bin .geq (.t 14) (.c (.i .i64 0))⟩,⟨some 16, none, .pick (.t 12) (.t 15) (.c (.b false))⟩,⟨some 17, none, .mv (.t 16)⟩,⟨some 18, some (17, true), .fa 1 (.t 1)⟩,⟨some 19, some (17, true), .ld (.t 18)⟩,⟨some 20, some (17, true), .bin .leq (.t 19) (.c (.i .i64 65536))⟩,⟨some 21, none, .pick (.t 17) (.t 20) (.c (.b false))⟩,⟨some 3, none, .mv (.t 21)⟩])
 (.seq (.reg [⟨some 22, none, .mv (.t 3)⟩,⟨some 23, none, .mv (.t 22)⟩,⟨some 24, some (23, true), .fa 2 (.t 1)⟩,⟨some 25, some (23, true), .ld (.t 24)⟩,⟨some 26, some (23, true), .bin .geq (.t 25) (.c (.i .i64 0))⟩,⟨some 27, none, .pick (.t 23) (.t 26) (.c (.b false))⟩,⟨some 28, none, .mv (.t 27)⟩,⟨some 29, some (28, true), .fa 2 (.t 1)⟩,⟨some 30, some (28, true), .ld (.t 29)⟩,⟨some 31, some (28, true), .bin .leq (.t 30) (.c (.i .i64 16777216))⟩,⟨some 32, none, .pick (.t 28) (.t 31) (.c (.b false))⟩,⟨some 33, none, .mv (.t 32)⟩,⟨some 34, some (33, true), .fa 3 (.t 1)⟩,⟨some 35, some (33, true), .ld (.t 34)⟩,⟨some 36, some (33, true), .bin .geq (.t 35) (.c (.i .i64 1))⟩,⟨some 37, none, .pick (.t 33) (.t 36) (.c (.b false))⟩,⟨some 38, none, .mv (.t 37)⟩,⟨some 39, some (38, true), .fa 3 (.t 1)⟩,⟨some 40, some (38, true), .ld (.t 39)⟩,⟨some 41, some (38, true), .bin .leq (.t 40) (.c (.i .i64 1024))⟩,⟨some 42, none, .pick (.t 38) (.t 41) (.c (.b false))⟩,⟨some 2, none, .mv (.t 42)⟩])
 (.ret)))
theorem fn67 : F 67 = .go 43 [.t 2] v67 := by rw [F, fnOf, Tryz.func67]; kernel_rfl

def v68 : VC :=
 .seq (.reg [⟨some 2, none, .alloc 82 [(.sl none 0 0 true), (.i .i64 0), (.sl none 0 0 true)]⟩,⟨some 3, none, .mv (.c (.i .i64 0))⟩,⟨some 4, none, .mv (.c (.i .i64 0))⟩])
 (.seq (.reg [⟨some 11, none, .mv (.t 0)⟩,⟨some 12, none, .call 109 [(.t 11)]⟩,⟨some 10, none, .mv (.t 12)⟩,⟨some 13, none, .ext (.t 10) 0⟩,⟨some 14, none, .ext (.t 10) 1⟩,⟨some 15, none, .ext (.t 10) 2⟩,⟨some 5, none, .alloc 82 [(.sl none 0 0 true), (.i .i64 0), (.sl none 0 0 true)]⟩,⟨none, none, .st 3 (.t 5) (.t 13)⟩,⟨some 6, none, .mv (.t 14)⟩,⟨some 7, none, .mv (.t 15)⟩])
 (.seq (.seq (.reg [⟨some 16, none, .mv (.t 6)⟩,⟨some 17, none, .bin .neq (.t 16) (.c (.i .i64 0))⟩])
 (.cond (.t 17) (.seq (.reg [⟨some 18, none, .build [(.sl none 0 0 true), (.i .i64 0), (.sl none 0 0 true)] []⟩,⟨some 19, none, .mv (.t 6)⟩,⟨some 20, none, .mv (.t 7)⟩,⟨none, none, .st 3 (.t 2) (.t 18)⟩,⟨some 3, none, .mv (.t 19)⟩,⟨some 4, none, .mv (.t 20)⟩])
 (.ret))
 (.skip)))
 (.seq (.seq (.reg [⟨some 22, none, .ldn 3 (.t 5)⟩,⟨some 23, none, .call 110 [(.t 22)]⟩,⟨some 21, none, .mv (.t 23)⟩,⟨some 24, none, .ext (.t 21) 0⟩,⟨some 25, none, .ext (.t 21) 1⟩,⟨some 8, none, .mv (.t 24)⟩,⟨some 9, none, .mv (.t 25)⟩])
 (.seq (.reg [⟨some 26, none, .mv (.t 8)⟩,⟨some 27, none, .bin .neq (.t 26) (.c (.i .i64 0))⟩])
 (.cond (.t 27) (.seq (.reg [⟨some 28, none, .build [(.sl none 0 0 true), (.i .i64 0), (.sl none 0 0 true)] []⟩,⟨some 29, none, .mv (.t 8)⟩,⟨some 30, none, .mv (.t 9)⟩,⟨none, none, .st 3 (.t 2) (.t 28)⟩,⟨some 3, none, .mv (.t 29)⟩,⟨some 4, none, .mv (.t 30)⟩])
 (.ret))
 (.skip))))
 (.seq (.reg [⟨some 31, none, .ldn 3 (.t 5)⟩,⟨none, none, .st 3 (.t 2) (.t 31)⟩,⟨some 3, none, .mv (.c (.i .i64 0))⟩,⟨some 4, none, .mv (.c (.i .i64 0))⟩])
 (.ret)))))
theorem fn68 : F 68 = .go 32 [.c 2 (some 3), .t 3, .t 4] v68 := by rw [F, fnOf, Tryz.func68]; kernel_rfl

def v69 : VC :=
 .seq (.reg [⟨some 2, none, .alloc 84 [(.sl none 0 0 true)]⟩,⟨some 3, none, .mv (.c (.i .i64 0))⟩])
 (.seq (.reg [⟨some 5, none, .mv (.t 0)⟩,⟨some 6, none, .call 111 [(.t 5)]⟩,⟨some 4, none, .mv (.t 6)⟩])
 (.seq (.seq (.reg [⟨some 7, none, .mv (.t 4)⟩,⟨some 8, none, .len 1 (.t 7)⟩,⟨some 9, none, .bin .gtr (.t 8) (.c (.i .i64 65536))⟩])
 (.cond (.t 9) (.seq (.reg [⟨some 10, none, .build [(.sl none 0 0 true)] []⟩,⟨none, none, .st 1 (.t 2) (.t 10)⟩,⟨some 3, none, .mv (.c (.i .i64 15))⟩])
 (.ret))
 (.skip)))
 (.seq (.reg [⟨some 11, none, .mv (.t 4)⟩,⟨some 12, none, .build [(.sl none 0 0 true)] [(0, 1, (.t 11))]⟩,⟨none, none, .st 1 (.t 2) (.t 12)⟩,⟨some 3, none, .mv (.c (.i .i64 0))⟩])
 (.ret))))
theorem fn69 : F 69 = .go 13 [.c 2 (some 1), .t 3] v69 := by rw [F, fnOf, Tryz.func69]; kernel_rfl

def v70 : VC :=
 .seq (.reg [⟨some 1, none, .box 3 (.t 0)⟩,⟨some 2, none, .alloc 41 [(.sl none 0 0 true), (.sl none 0 0 true), (.sl none 0 0 true), (.i .i64 0)]⟩])
 (.seq (.regd [⟨some 4, none, .ldn 3 (.t 1)⟩,⟨some 5, none, .ldn 3 (.t 1)⟩,⟨some 6, none, .call 112 [(.t 5)]⟩,⟨some 7, none, .build [(.sl none 0 0 true), (.sl none 0 0 true), (.sl none 0 0 true), (.i .i64 0), (.sl none 0 0 true), (.i .i64 0), (.sl none 0 0 true), (.sl none 0 0 true)] [(4, 3, (.t 4)), (7, 1, (.t 6))]⟩,⟨some 8, none, .box 8 (.t 7)⟩,⟨some 3, none, .mv (.t 8)⟩] [(0, 2)])
 (.seq (.reg [⟨some 9, none, .mv (.t 3)⟩,⟨some 10, none, .fa 1 (.t 1)⟩,⟨some 11, none, .ld (.t 10)⟩,⟨some 12, none, .nc (.t 9)⟩,⟨some 13, none, .fa 0 (.t 12)⟩,⟨some 14, none, .fa 3 (.t 13)⟩,⟨none, none, .st 1 (.t 14) (.t 11)⟩])
 (.seq (.seq (.reg [⟨some 15, none, .fa 0 (.t 1)⟩,⟨some 16, none, .ld (.t 15)⟩,⟨some 17, none, .len 1 (.t 16)⟩,⟨some 18, none, .bin .gtr (.t 17) (.c (.i .i64 0))⟩])
 (.cond (.t 18) (.reg [⟨some 19, none, .mv (.t 3)⟩,⟨some 20, none, .call 113 [(.t 19), (.c (.i .i64 0))]⟩])
 (.skip)))
 (.seq (.reg [⟨some 21, none, .mv (.t 3)⟩,⟨some 22, none, .call 114 [(.t 21), (.c (.i .i64 0)), (.c (.i .i64 19)), (.c (.i .i64 0)), (.c (.i .i64 0)), (.c (.i .i64 0))]⟩])
 (.seq (.reg [⟨some 23, none, .mv (.t 3)⟩,⟨some 24, none, .nc (.t 23)⟩,⟨some 25, none, .fa 0 (.t 24)⟩,⟨some 26, none, .ldn 4 (.t 25)⟩,⟨none, none, .st 4 (.t 2) (.t 26)⟩])
 (.ret))))))
theorem fn70 : F 70 = .go 27 [.c 2 (some 4)] v70 := by rw [F, fnOf, Tryz.func70]; kernel_rfl

def v71 : VC :=
 .seq (.reg [⟨some 3, none, .box 4 (.t 0)⟩,⟨some 4, none, .box 1 (.t 1)⟩,⟨some 5, none, .box 3 (.t 2)⟩,⟨some 6, none, .mv (.c (.p none))⟩,⟨some 7, none, .mv (.c (.i .i64 0))⟩])
 (.seq (.seq (.reg [⟨some 11, none, .ldn 4 (.t 3)⟩,⟨some 12, none, .call 115 [(.t 11)]⟩,⟨some 13, none, .un .not (.t 12)⟩])
 (.cond (.t 13) (.seq (.reg [⟨some 6, none, .mv (.c (.p none))⟩,⟨some 7, none, .mv (.c (.i .i64 50))⟩])
 (.ret))
 (.skip)))
 (.seq (.seq (.regd [⟨some 14, none, .fa 0 (.t 5)⟩,⟨some 15, none, .ld (.t 14)⟩,⟨some 16, none, .bin .lss (.t 15) (.c (.i .i64 0))⟩,⟨some 17, none, .mv (.t 16)⟩,⟨some 18, some (17, false), .fa 0 (.t 5)⟩,⟨some 19, some (17, false), .ld (.t 18)⟩,⟨some 20, some (17, false), .bin .gtr (.t 19) (.c (.i .i64 1048576))⟩,⟨some 21, none, .pick (.t 17) (.c (.b true)) (.t 20)⟩,⟨some 22, none, .mv (.t 21)⟩,⟨some 23, some (22, false), .fa 2 (.t 5)⟩,⟨some 24, some (22, false), .ld (.t 23)⟩,⟨some 25, some (22, false), .bin .lss (.t 24) (.c (.i .i64 0))⟩,⟨some 26, none, .pick (.t 22) (.c (.b true)) (.t 25)⟩,⟨some 27, none, .mv (.t 26)⟩,⟨some 28, some (27, false), .fa 2 (.t 5)⟩,⟨some 29, some (27, false), .ld (.t 28)⟩,⟨some 30, some (27, false), .ldn 1 (.t 4)⟩,⟨some 31, some (27, false), .call 116 [(.t 30)]⟩,⟨some 32, some (27, false), .bin .gtr (.t 29) (.t 31)⟩,⟨some 33, none, .pick (.t 27) (.c (.b true)) (.t 32)⟩] [(15, 17)])
 (.cond (.t 33) (.seq (.reg [⟨some 6, none, .mv (.c (.p none))⟩,⟨some 7, none, .mv (.c (.i .i64 10))⟩])
 (.ret))
 (.skip)))
 (.seq (.reg [⟨some 35, none, .fa 1 (.t 5)⟩,⟨some 36, none, .ld (.t 35)⟩,⟨some 37, none, .call 117 [(.t 36)]⟩,⟨some 34, none, .mv (.t 37)⟩,⟨some 38, none, .ext (.t 34) 0⟩,⟨some 39, none, .ext (.t 34) 1⟩,⟨some 8, none, .mv (.t 38)⟩,⟨some 9, none, .mv (.t 39)⟩])
 (.seq (.seq (.reg [⟨some 40, none, .mv (.t 9)⟩,⟨some 41, none, .bin .neq (.t 40) (.c (.i .i64 0))⟩])
 (.cond (.t 41) (.seq (.reg [⟨some 42, none, .mv (.t 9)⟩,⟨some 6, none, .mv (.c (.p none))⟩,⟨some 7, none, .mv (.t 42)⟩])
 (.ret))
 (.skip)))
 (.seq (.reg [⟨some 43, none, .ldn 4 (.t 3)⟩,⟨some 44, none, .ldn 1 (.t 4)⟩,⟨some 45, none, .ldn 3 (.t 5)⟩,⟨some 46, none, .mv (.t 8)⟩,⟨some 47, none, .fa 2 (.t 5)⟩,⟨some 48, none, .ld (.t 47)⟩,⟨some 49, none, .build [(.sl none 0 0 true), (.sl none 0 0 true), (.sl none 0 0 true), (.i .i64 0), (.sl none 0 0 true), (.i .i64 0), (.i .i64 0), (.i .i64 0), (.p none), (.p none), (.i .i64 0), (.i .i64 0), (.i .i64 0), (.i .i64 0), (.i .i64 0), (.b false), (.b false), (.i .i64 0), (.i .i64 0), (.i .i64 0), (.i .i64 0), (.i .i64 0), (.i .i64 0), (.i .i64 0), (.sl none 0 0 true), (.b false)] [(0, 4, (.t 43)), (4, 1, (.t 44)), (5, 3, (.t 45)), (9, 1, (.t 46)), (15, 1, (.c (.b true))), (12, 1, (.t 48))]⟩,⟨some 50, none, .box 26 (.t 49)⟩,⟨some 10, none, .mv (.t 50)⟩])
 (.seq (.seq (.reg [⟨some 52, none, .mv (.t 10)⟩,⟨some 53, none, .mv (.t 10)⟩,⟨some 54, none, .fa 2 (.t 3)⟩,⟨some 55, none, .ld (.t 54)⟩,⟨some 56, none, .len 1 (.t 55)⟩,⟨some 57, none, .call 119 [(.t 53), (.t 56)]⟩,⟨some 58, none, .call 118 [(.t 57), (.c (.i .i64 (-1)))]⟩,⟨some 51, none, .mv (.t 58)⟩,⟨some 59, none, .ext (.t 51) 0⟩,⟨some 60, none, .ext (.t 51) 1⟩,⟨some 61, none, .nc (.t 52)⟩,⟨some 62, none, .fa 8 (.t 61)⟩,⟨none, none, .st 1 (.t 62) (.t 59)⟩,⟨some 9, none, .mv (.t 60)⟩])
 (.seq (.reg [⟨some 63, none, .mv (.t 9)⟩,⟨some 64, none, .bin .neq (.t 63) (.c (.i .i64 0))⟩])
 (.cond (.t 64) (.seq (.reg [⟨some 65, none, .mv (.t 9)⟩,⟨some 6, none, .mv (.c (.p none))⟩,⟨some 7, none, .mv (.t 65)⟩])
 (.ret))
 (.skip))))
 (.seq (.reg [⟨some 66, none, .mv (.t 10)⟩,⟨some 6, none, .mv (.t 66)⟩,⟨some 7, none, .mv (.c (.i .i64 0))⟩])
 (.ret))))))))
theorem fn71 : F 71 = .go 67 [.t 6, .t 7] v71 := by rw [F, fnOf, Tryz.func71]; kernel_rfl

def v72 : VC :=
 .blk 0 (.loop (.blk 1 (.seq (.reg [⟨some 7, none, .mv (.t 1)⟩,⟨some 8, none, .call 120 [(.t 7)]⟩,⟨some 6, none, .mv (.t 8)⟩,⟨some 9, none, .ext (.t 6) 0⟩,⟨some 10, none, .ext (.t 6) 1⟩,⟨some 4, none, .alloc 60 [(.i .i64 0), (.i .i64 0), (.i .i64 0), (.i .i64 0), (.i .i64 0), (.i .i64 0), (.i .i64 0), (.sl none 0 0 true)]⟩,⟨none, none, .st 8 (.t 4) (.t 9)⟩,⟨some 5, none, .mv (.t 10)⟩])
 (.seq (.seq (.reg [⟨some 11, none, .mv (.t 5)⟩,⟨some 12, none, .un .not (.t 11)⟩])
 (.cond (.t 12) (.seq (.reg [⟨some 13, none, .mv (.t 0)⟩,⟨some 14, none, .mv (.t 1)⟩,⟨some 15, none, .call 121 [(.t 14)]⟩,⟨some 16, none, .nc (.t 13)⟩,⟨some 17, none, .fa 10 (.t 16)⟩,⟨none, none, .st 1 (.t 17) (.t 15)⟩])
 (.ret))
 (.skip)))
 (.seq (.regd [⟨some 18, none, .mv (.t 0)⟩,⟨some 19, none, .nc (.t 18)⟩,⟨some 20, none, .fa 9 (.t 19)⟩,⟨some 21, none, .ld (.t 20)⟩,⟨some 22, none, .ldn 8 (.t 4)⟩,⟨some 23, none, .call 104 [(.t 21), (.t 22)]⟩,⟨some 24, none, .bin .neq (.t 23) (.c (.i .i64 0))⟩] [])
 (.cond (.t 24) (.seq (.reg [⟨some 25, none, .mv (.t 0)⟩,⟨some 26, none, .nc (.t 25)⟩,⟨some 27, none, .fa 10 (.t 26)⟩,⟨none, none, .st 1 (.t 27) (.c (.i .i64 4))⟩])
 (.ret))
 (.skip)))))))
theorem fn72 : F 72 = .go 28 [] v72 := by rw [F, fnOf, Tryz.func72]; kernel_rfl

def v73 : VC :=
 .seq (.reg [⟨some 2, none, .mv (.c (.i .i64 0))⟩])
 (.seq (.reg [⟨some 3, none, .mv (.t 0)⟩,⟨some 4, none, .nc (.t 3)⟩,⟨some 5, none, .fa 9 (.t 4)⟩,⟨some 6, none, .ld (.t 5)⟩,⟨some 7, none, .call 122 [(.t 6)]⟩,⟨some 2, none, .mv (.t 7)⟩])
 (.ret))
theorem fn73 : F 73 = .go 8 [.t 2] v73 := by rw [F, fnOf, Tryz.func73]; kernel_rfl

def v74 : VC :=
 .seq (.reg [⟨some 5, none, .mv (.t 0)⟩,⟨some 6, none, .mv (.t 1)⟩,⟨some 7, none, .call 123 [(.t 5), (.t 6)]⟩,⟨some 4, none, .mv (.t 7)⟩])
 (.seq (.reg [⟨some 8, none, .mv (.t 4)⟩,⟨some 9, none, .len 1 (.t 8)⟩,⟨some 10, none, .bin .gtr (.t 9) (.c (.i .i64 0))⟩])
 (.cond (.t 10) (.reg [⟨some 11, none, .mv (.t 0)⟩,⟨some 12, none, .mv (.t 0)⟩,⟨some 13, none, .mv (.t 1)⟩,⟨some 14, none, .mv (.t 4)⟩,⟨some 15, none, .mv (.t 4)⟩,⟨some 16, none, .len 1 (.t 15)⟩,⟨some 17, none, .bin .sub (.t 16) (.c (.i .i64 1))⟩,⟨some 18, none, .ia 8 (.t 14) (.t 17)⟩,⟨some 19, none, .ldn 8 (.t 18)⟩,⟨some 20, none, .nc (.t 11)⟩,⟨some 21, none, .fa 1 (.t 20)⟩,⟨none, none, .st 1 (.t 21) (.t 13)⟩,⟨some 22, none, .nc (.t 12)⟩,⟨some 23, none, .fa 2 (.t 22)⟩,⟨none, none, .st 8 (.t 23) (.t 19)⟩])
 (.skip)))
theorem fn74 : F 74 = .go 24 [] v74 := by rw [F, fnOf, Tryz.func74]; kernel_rfl

def v75 : VC :=
 .seq (.reg [⟨some 6, none, .mv (.c (.b false))⟩])
 (.seq (.reg [⟨some 7, none, .mv (.t 0)⟩,⟨some 8, none, .mv (.t 1)⟩,⟨some 9, none, .bin .geq (.t 7) (.t 8)⟩,⟨some 10, none, .mv (.t 9)⟩,⟨some 11, some (10, true), .mv (.t 0)⟩,⟨some 12, some (10, true), .mv (.t 2)⟩,⟨some 13, some (10, true), .bin .leq (.t 11) (.t 12)⟩,⟨some 14, none, .pick (.t 10) (.t 13) (.c (.b false))⟩,⟨some 6, none, .mv (.t 14)⟩])
 (.ret))
theorem fn75 : F 75 = .go 15 [.t 6] v75 := by rw [F, fnOf, Tryz.func75]; kernel_rfl

def v76 : VC :=
 .seq (.reg [⟨some 3, none, .box 2 (.t 1)⟩,⟨some 4, none, .mv (.c (.i .i64 0))⟩])
 (.seq (.seq (.reg [⟨some 6, none, .mv (.t 0)⟩,⟨some 7, none, .len 1 (.t 6)⟩,⟨some 8, none, .mv (.c (.i .i64 0))⟩])
 (.blk 0 (.loop (.seq (.reg [⟨some 9, none, .bin .lss (.t 8) (.t 7)⟩])
 (.seq (.cond (.t 9) (.skip)
 (.exit 0))
 (.seq (.blk 1 (.seq (.reg [⟨some 10, none, .mv (.t 8)⟩,⟨some 5, none, .mv (.t 10)⟩])
 (.seq (.regd [⟨some 11, none, .ldn 2 (.t 3)⟩,⟨some 12, none, .mv (.t 0)⟩,⟨some 13, none, .mv (.t 5)⟩,⟨some 14, none, .ia 2 (.t 12) (.t 13)⟩,⟨some 15, none, .ldn 2 (.t 14)⟩,⟨some 16, none, .eqa false [(0, .i), (1, .i)] (.t 11) (.t 15)⟩] [])
 (.cond (.t 16) (.seq (.reg [⟨some 17, none, .mv (.t 5)⟩,⟨some 4, none, .mv (.t 17)⟩])
 (.ret))
 (.skip)))))
 (.reg [⟨some 18, none, .bin .add (.t 8) (.c (.i .i64 1))⟩,⟨some 8, none, .mv (.t 18)⟩])))))))
 (.seq (.reg [⟨some 4, none, .mv (.c (.i .i64 (-1)))⟩])
 (.ret)))
theorem fn76 : F 76 = .go 19 [.t 4] v76 := by rw [F, fnOf, Tryz.func76]; kernel_rfl

def v99 : VC :=
 .seq (.reg [⟨some 2, none, .mv (.c (.sl none 0 0 true))⟩])
 (.seq (.seq (.reg [⟨some 3, none, .mv (.t 0)⟩,⟨some 4, none, .eqn .sl false (.t 3) (.c (.sl none 0 0 true))⟩])
 (.cond (.t 4) (.seq (.reg [⟨some 2, none, .mv (.c (.sl none 0 0 true))⟩])
 (.ret))
 (.skip)))
 (.seq (.reg [⟨some 5, none, .bsl 1 0 [] []⟩,⟨some 6, none, .mv (.t 0)⟩,⟨some 7, none, .app ⟨1, (some 3)⟩ 8 (.t 5) (.t 6)⟩,⟨some 2, none, .mv (.t 7)⟩])
 (.ret)))
theorem fn99 : F 99 = .go 8 [.t 2] v99 := by rw [F, fnOf, Tryz.func99]; kernel_rfl

def v101 : VC :=
 .seq (.reg [⟨some 4, none, .mv (.c (.i .u64 0))⟩,⟨some 5, none, .mv (.c (.i .i64 0))⟩,⟨some 6, none, .mv (.c (.i .i64 0))⟩])
 (.seq (.seq (.reg [⟨some 11, none, .mv (.t 1)⟩,⟨some 12, none, .bin .lss (.t 11) (.c (.i .i64 0))⟩,⟨some 13, none, .mv (.t 12)⟩,⟨some 14, some (13, false), .mv (.t 1)⟩,⟨some 15, some (13, false), .mv (.t 0)⟩,⟨some 16, some (13, false), .len 1 (.t 15)⟩,⟨some 17, some (13, false), .bin .gtr (.t 14) (.t 16)⟩,⟨some 18, none, .pick (.t 13) (.c (.b true)) (.t 17)⟩])
 (.cond (.t 18) (.seq (.reg [⟨some 4, none, .mv (.c (.i .u64 0))⟩,⟨some 5, none, .mv (.c (.i .i64 0))⟩,⟨some 6, none, .mv (.c (.i .i64 10))⟩])
 (.ret))
 (.skip)))
 (.seq (.reg [⟨some 7, none, .mv (.c (.i .u64 0))⟩])
 (.seq (.seq (.reg [⟨some 19, none, .mv (.t 0)⟩,⟨some 20, none, .len 1 (.t 19)⟩,⟨some 21, none, .mv (.t 1)⟩,⟨some 22, none, .bin .sub (.t 20) (.t 21)⟩,⟨some 23, none, .mn [(.t 22), (.c (.i .i64 10))]⟩,⟨some 24, none, .mv (.c (.i .i64 0))⟩])
 (.blk 0 (.loop (.seq (.reg [⟨some 25, none, .bin .lss (.t 24) (.t 23)⟩])
 (.seq (.cond (.t 25) (.skip)
 (.exit 0))
 (.seq (.blk 1 (.seq (.reg [⟨some 26, none, .mv (.t 24)⟩,⟨some 8, none, .mv (.t 26)⟩])
 (.seq (.reg [⟨some 27, none, .mv (.t 0)⟩,⟨some 28, none, .mv (.t 1)⟩,⟨some 29, none, .mv (.t 8)⟩,⟨some 30, none, .bin .add (.t 28) (.t 29)⟩,⟨some 31, none, .ia 1 (.t 27) (.t 30)⟩,⟨some 32, none, .ld (.t 31)⟩,⟨some 33, none, .cvi .u64 (.t 32)⟩,⟨some 9, none, .mv (.t 33)⟩])
 (.seq (.reg [⟨some 34, none, .mv (.t 9)⟩,⟨some 35, none, .bin .rem (.t 34) (.c (.i .u64 128))⟩,⟨some 10, none, .mv (.t 35)⟩])
 (.seq (.seq (.reg [⟨some 36, none, .mv (.t 8)⟩,⟨some 37, none, .bin .mul (.c (.i .i64 7)) (.t 36)⟩,⟨some 38, none, .mv (.t 10)⟩,⟨some 39, none, .call 144 [(.t 38)]⟩,⟨some 40, none, .bin .add (.t 37) (.t 39)⟩,⟨some 41, none, .bin .gtr (.t 40) (.c (.i .i64 64))⟩])
 (.cond (.t 41) (.seq (.reg [⟨some 4, none, .mv (.c (.i .u64 0))⟩,⟨some 5, none, .mv (.c (.i .i64 0))⟩,⟨some 6, none, .mv (.c (.i .i64 11))⟩])
 (.ret))
 (.skip)))
 (.seq (.reg [⟨some 42, none, .mv (.t 7)⟩,⟨some 43, none, .mv (.t 10)⟩,⟨some 44, none, .mv (.t 8)⟩,⟨some 45, none, .bin .mul (.c (.i .i64 7)) (.t 44)⟩,⟨some 46, none, .bin .shl (.t 43) (.t 45)⟩,⟨some 47, none, .bin .or (.t 42) (.t 46)⟩,⟨some 7, none, .mv (.t 47)⟩])
 (.seq (.reg [⟨some 48, none, .mv (.t 9)⟩,⟨some 49, none, .bin .lss (.t 48) (.c (.i .u64 128))⟩])
 (.cond (.t 49) (.seq (.seq (.reg [⟨some 50, none, .mv (.t 9)⟩,⟨some 51, none, .bin .eql (.t 50) (.c (.i .u64 0))⟩,⟨some 52, none, .mv (.t 51)⟩,⟨some 53, some (52, true), .mv (.t 8)⟩,⟨some 54, some (52, true), .bin .gtr (.t 53) (.c (.i .i64 0))⟩,⟨some 55, none, .pick (.t 52) (.t 54) (.c (.b false))⟩])
 (.cond (.t 55) (.seq (.reg [⟨some 4, none, .mv (.c (.i .u64 0))⟩,⟨some 5, none, .mv (.c (.i .i64 0))⟩,⟨some 6, none, .mv (.c (.i .i64 11))⟩])
 (.ret))
 (.skip)))
 (.seq (.reg [⟨some 56, none, .mv (.t 7)⟩,⟨some 57, none, .mv (.t 8)⟩,⟨some 58, none, .bin .add (.t 57) (.c (.i .i64 1))⟩,⟨some 4, none, .mv (.t 56)⟩,⟨some 5, none, .mv (.t 58)⟩,⟨some 6, none, .mv (.c (.i .i64 0))⟩])
 (.ret)))
 (.skip)))))))))
 (.reg [⟨some 59, none, .bin .add (.t 24) (.c (.i .i64 1))⟩,⟨some 24, none, .mv (.t 59)⟩])))))))
 (.seq (.seq (.reg [⟨some 60, none, .mv (.t 0)⟩,⟨some 61, none, .len 1 (.t 60)⟩,⟨some 62, none, .mv (.t 1)⟩,⟨some 63, none, .bin .sub (.t 61) (.t 62)⟩,⟨some 64, none, .bin .lss (.t 63) (.c (.i .i64 10))⟩])
 (.cond (.t 64) (.seq (.reg [⟨some 4, none, .mv (.c (.i .u64 0))⟩,⟨some 5, none, .mv (.c (.i .i64 0))⟩,⟨some 6, none, .mv (.c (.i .i64 14))⟩])
 (.ret))
 (.skip)))
 (.seq (.reg [⟨some 4, none, .mv (.c (.i .u64 0))⟩,⟨some 5, none, .mv (.c (.i .i64 0))⟩,⟨some 6, none, .mv (.c (.i .i64 11))⟩])
 (.ret))))))
theorem fn101 : F 101 = .go 65 [.t 4, .t 5, .t 6] v101 := by rw [F, fnOf, Tryz.func101]; kernel_rfl

def v102 : VC :=
 .seq (.reg [⟨some 2, none, .alloc 60 [(.i .i64 0), (.i .i64 0), (.i .i64 0), (.i .i64 0), (.i .i64 0), (.i .i64 0), (.i .i64 0), (.sl none 0 0 true)]⟩])
 (.seq (.reg [⟨some 4, none, .build [(.i .i64 0), (.i .i64 0), (.i .i64 0), (.i .i64 0), (.i .i64 0), (.i .i64 0), (.i .i64 0), (.sl none 0 0 true)] [(6, 1, (.c (.i .i64 (-1))))]⟩,⟨some 3, none, .alloc 60 [(.i .i64 0), (.i .i64 0), (.i .i64 0), (.i .i64 0), (.i .i64 0), (.i .i64 0), (.i .i64 0), (.sl none 0 0 true)]⟩,⟨none, none, .st 8 (.t 3) (.t 4)⟩])
 (.seq (.seq (.reg [⟨some 5, none, .mv (.t 0)⟩,⟨some 6, none, .mx [(.t 5), (.c (.i .i64 0))]⟩,⟨some 7, none, .mn [(.t 6), (.c (.i .i64 99))]⟩,⟨some 8, none, .bin .add (.t 7) (.c (.i .i64 1))⟩,⟨some 9, none, .bin .mul (.c (.i .i64 2)) (.t 8)⟩,⟨some 10, none, .mv (.c (.i .i64 0))⟩])
 (.blk 0 (.loop (.seq (.reg [⟨some 11, none, .bin .lss (.t 10) (.t 9)⟩])
 (.seq (.cond (.t 11) (.skip)
 (.exit 0))
 (.seq (.blk 1 (.reg [⟨some 12, none, .fa 7 (.t 3)⟩,⟨some 13, none, .ld (.t 12)⟩,⟨some 14, none, .bsl 1 1 [(.i .i64 0)] [(0, 1, (.c (.i .i64 (-1))))]⟩,⟨some 15, none, .app ⟨1, (some 3)⟩ 8 (.t 13) (.t 14)⟩,⟨some 16, none, .fa 7 (.t 3)⟩,⟨none, none, .st 1 (.t 16) (.t 15)⟩]))
 (.reg [⟨some 17, none, .bin .add (.t 10) (.c (.i .i64 1))⟩,⟨some 10, none, .mv (.t 17)⟩])))))))
 (.seq (.reg [⟨some 18, none, .ldn 8 (.t 3)⟩,⟨none, none, .st 8 (.t 2) (.t 18)⟩])
 (.ret))))
theorem fn102 : F 102 = .go 19 [.c 2 (some 8)] v102 := by rw [F, fnOf, Tryz.func102]; kernel_rfl

def v103 : VC :=
 .seq (.reg [⟨some 3, none, .box 8 (.t 0)⟩,⟨some 6, none, .alloc 60 [(.i .i64 0), (.i .i64 0), (.i .i64 0), (.i .i64 0), (.i .i64 0), (.i .i64 0), (.i .i64 0), (.sl none 0 0 true)]⟩,⟨some 7, none, .mv (.c (.i .i64 0))⟩,⟨some 8, none, .mv (.c (.i .i64 0))⟩])
 (.seq (.seq (.reg [⟨some 14, none, .ldn 8 (.t 3)⟩,⟨some 15, none, .call 145 [(.t 14)]⟩,⟨some 16, none, .un .not (.t 15)⟩])
 (.cond (.t 16) (.seq (.reg [⟨some 17, none, .build [(.i .i64 0), (.i .i64 0), (.i .i64 0), (.i .i64 0), (.i .i64 0), (.i .i64 0), (.i .i64 0), (.sl none 0 0 true)] []⟩,⟨none, none, .st 8 (.t 6) (.t 17)⟩,⟨some 7, none, .mv (.c (.i .i64 0))⟩,⟨some 8, none, .mv (.c (.i .i64 11))⟩])
 (.ret))
 (.skip)))
 (.seq (.seq (.reg [⟨some 18, none, .mv (.t 2)⟩,⟨some 19, none, .bin .lss (.t 18) (.c (.i .i64 0))⟩,⟨some 20, none, .mv (.t 19)⟩,⟨some 21, some (20, false), .mv (.t 2)⟩,⟨some 22, some (20, false), .mv (.t 1)⟩,⟨some 23, some (20, false), .len 1 (.t 22)⟩,⟨some 24, some (20, false), .bin .gtr (.t 21) (.t 23)⟩,⟨some 25, none, .pick (.t 20) (.c (.b true)) (.t 24)⟩])
 (.cond (.t 25) (.seq (.reg [⟨some 26, none, .build [(.i .i64 0), (.i .i64 0), (.i .i64 0), (.i .i64 0), (.i .i64 0), (.i .i64 0), (.i .i64 0), (.sl none 0 0 true)] []⟩,⟨none, none, .st 8 (.t 6) (.t 26)⟩,⟨some 7, none, .mv (.c (.i .i64 0))⟩,⟨some 8, none, .mv (.c (.i .i64 10))⟩])
 (.ret))
 (.skip)))
 (.seq (.reg [⟨some 27, none, .mv (.t 1)⟩,⟨some 28, none, .mv (.t 2)⟩,⟨some 29, none, .build [(.sl none 0 0 true), (.i .i64 0), (.i .i64 0)] [(0, 1, (.t 27)), (1, 1, (.t 28))]⟩,⟨some 30, none, .box 3 (.t 29)⟩,⟨some 9, none, .mv (.t 30)⟩])
 (.seq (.reg [⟨some 31, none, .ldn 8 (.t 3)⟩,⟨some 32, none, .call 51 [(.t 31)]⟩,⟨some 10, none, .alloc 60 [(.i .i64 0), (.i .i64 0), (.i .i64 0), (.i .i64 0), (.i .i64 0), (.i .i64 0), (.i .i64 0), (.sl none 0 0 true)]⟩,⟨none, none, .st 8 (.t 10) (.t 32)⟩])
 (.seq (.reg [⟨some 33, none, .mv (.t 9)⟩,⟨some 34, none, .call 146 [(.t 33), (.c (.i .i64 14))]⟩,⟨some 35, none, .fa 0 (.t 10)⟩,⟨none, none, .st 1 (.t 35) (.t 34)⟩])
 (.seq (.reg [⟨some 36, none, .mv (.t 9)⟩,⟨some 37, none, .call 146 [(.t 36), (.c (.i .i64 127))]⟩,⟨some 11, none, .mv (.t 37)⟩])
 (.seq (.seq (.reg [⟨some 38, none, .fa 1 (.t 10)⟩,⟨some 39, none, .fa 2 (.t 10)⟩,⟨some 40, none, .fa 3 (.t 10)⟩,⟨some 41, none, .fa 4 (.t 10)⟩,⟨some 42, none, .fa 5 (.t 10)⟩,⟨some 43, none, .fa 6 (.t 10)⟩,⟨some 44, none, .build [(.p none), (.p none), (.p none), (.p none), (.p none), (.p none)] [(0, 1, (.t 38)), (1, 1, (.t 39)), (2, 1, (.t 40)), (3, 1, (.t 41)), (4, 1, (.t 42)), (5, 1, (.t 43))]⟩,⟨some 45, none, .mv (.c (.i .i64 0))⟩])
 (.blk 0 (.loop (.seq (.reg [⟨some 46, none, .bin .lss (.t 45) (.c (.i .i64 6))⟩])
 (.seq (.cond (.t 46) (.skip)
 (.exit 0))
 (.seq (.blk 1 (.seq (.reg [⟨some 47, none, .mv (.t 45)⟩,⟨some 48, none, .ixA 6 1 none (.t 44) (.t 45)⟩,⟨some 12, none, .mv (.t 47)⟩,⟨some 13, none, .mv (.t 48)⟩])
 (.seq (.reg [⟨some 49, none, .mv (.t 11)⟩,⟨some 50, none, .mv (.t 12)⟩,⟨some 51, none, .bin .shr (.t 49) (.t 50)⟩,⟨some 52, none, .bin .and (.t 51) (.c (.i .i64 1))⟩,⟨some 53, none, .bin .eql (.t 52) (.c (.i .i64 1))⟩])
 (.cond (.t 53) (.reg [⟨some 54, none, .mv (.t 13)⟩,⟨some 55, none, .mv (.t 9)⟩,⟨some 56, none, .mv (.t 13)⟩,⟨some 57, none, .nc (.t 56)⟩,⟨some 58, none, .ld (.t 57)⟩,⟨some 59, none, .call 147 [(.t 55), (.t 58)]⟩,⟨some 60, none, .nc (.t 54)⟩,⟨none, none, .st 1 (.t 60) (.t 59)⟩])
 (.skip)))))
 (.reg [⟨some 61, none, .bin .add (.t 45) (.c (.i .i64 1))⟩,⟨some 45, none, .mv (.t 61)⟩])))))))
 (.seq (.seq (.reg [⟨some 62, none, .mv (.t 11)⟩,⟨some 63, none, .bin .and (.t 62) (.c (.i .i64 64))⟩,⟨some 64, none, .bin .neq (.t 63) (.c (.i .i64 0))⟩])
 (.cond (.t 64) (.reg [⟨some 65, none, .mv (.t 9)⟩,⟨some 66, none, .fa 7 (.t 10)⟩,⟨some 67, none, .ld (.t 66)⟩,⟨some 68, none, .call 148 [(.t 65), (.t 67)]⟩])
 (.skip)))
 (.seq (.seq (.regd [⟨some 69, none, .mv (.t 9)⟩,⟨some 70, none, .nc (.t 69)⟩,⟨some 71, none, .fa 2 (.t 70)⟩,⟨some 72, none, .ld (.t 71)⟩,⟨some 73, none, .bin .eql (.t 72) (.c (.i .i64 0))⟩,⟨some 74, none, .mv (.t 73)⟩,⟨some 75, some (74, true), .ldn 8 (.t 10)⟩,⟨some 76, some (74, true), .ldn 8 (.t 3)⟩,⟨some 77, some (74, true), .call 150 [(.t 76)]⟩,⟨some 78, some (74, true), .call 149 [(.t 75), (.t 77)]⟩,⟨some 79, some (74, true), .un .not (.t 78)⟩,⟨some 80, none, .pick (.t 74) (.t 79) (.c (.b false))⟩] [(6, 8)])
 (.cond (.t 80) (.reg [⟨some 81, none, .mv (.t 9)⟩,⟨some 82, none, .nc (.t 81)⟩,⟨some 83, none, .fa 2 (.t 82)⟩,⟨none, none, .st 1 (.t 83) (.c (.i .i64 11))⟩])
 (.skip)))
 (.seq (.seq (.reg [⟨some 84, none, .mv (.t 9)⟩,⟨some 85, none, .nc (.t 84)⟩,⟨some 86, none, .fa 2 (.t 85)⟩,⟨some 87, none, .ld (.t 86)⟩,⟨some 88, none, .bin .neq (.t 87) (.c (.i .i64 0))⟩])
 (.cond (.t 88) (.seq (.regd [⟨some 89, none, .build [(.i .i64 0), (.i .i64 0), (.i .i64 0), (.i .i64 0), (.i .i64 0), (.i .i64 0), (.i .i64 0), (.sl none 0 0 true)] []⟩,⟨some 90, none, .mv (.t 9)⟩,⟨some 91, none, .nc (.t 90)⟩,⟨some 92, none, .fa 2 (.t 91)⟩,⟨some 93, none, .ld (.t 92)⟩,⟨none, none, .st 8 (.t 6) (.t 89)⟩,⟨some 7, none, .mv (.c (.i .i64 0))⟩,⟨some 8, none, .mv (.t 93)⟩] [(4, 5)])
 (.ret))
 (.skip)))
 (.seq (.regd [⟨some 94, none, .ldn 8 (.t 10)⟩,⟨some 95, none, .mv (.t 9)⟩,⟨some 96, none, .nc (.t 95)⟩,⟨some 97, none, .fa 1 (.t 96)⟩,⟨some 98, none, .ld (.t 97)⟩,⟨some 99, none, .mv (.t 2)⟩,⟨some 100, none, .bin .sub (.t 98) (.t 99)⟩,⟨none, none, .st 8 (.t 6) (.t 94)⟩,⟨some 7, none, .mv (.t 100)⟩,⟨some 8, none, .mv (.c (.i .i64 0))⟩] [(4, 7)])
 (.ret))))))))))))
theorem fn103 : F 103 = .go 101 [.c 6 (some 8), .t 7, .t 8] v103 := by rw [F, fnOf, Tryz.func103]; kernel_rfl

def v104 : VC :=
 .seq (.reg [⟨some 3, none, .box 8 (.t 1)⟩,⟨some 4, none, .mv (.c (.i .i64 0))⟩])
 (.seq (.reg [⟨some 8, none, .mv (.t 0)⟩,⟨some 9, none, .nc (.t 8)⟩,⟨some 10, none, .fa 5 (.t 9)⟩,⟨some 11, none, .ldn 8 (.t 10)⟩,⟨some 5, none, .alloc 60 [(.i .i64 0), (.i .i64 0), (.i .i64 0), (.i .i64 0), (.i .i64 0), (.i .i64 0), (.i .i64 0), (.sl none 0 0 true)]⟩,⟨none, none, .st 8 (.t 5) (.t 11)⟩])
 (.seq (.seq (.regd [⟨some 12, none, .mv (.t 0)⟩,⟨some 13, none, .call 25 [(.t 12)]⟩,⟨some 14, none, .mv (.t 0)⟩,⟨some 15, none, .nc (.t 14)⟩,⟨some 16, none, .fa 1 (.t 15)⟩,⟨some 17, none, .ld (.t 16)⟩,⟨some 18, none, .bin .rem (.t 13) (.t 17)⟩,⟨some 19, none, .bin .eql (.t 18) (.c (.i .i64 0))⟩] [(5, 1)])
 (.cond (.t 19) (.reg [⟨some 20, none, .mv (.t 0)⟩,⟨some 21, none, .nc (.t 20)⟩,⟨some 22, none, .fa 0 (.t 21)⟩,⟨some 23, none, .ld (.t 22)⟩,⟨some 24, none, .call 102 [(.t 23)]⟩,⟨none, none, .st 8 (.t 5) (.t 24)⟩])
 (.skip)))
 (.seq (.reg [⟨some 26, none, .ldn 8 (.t 5)⟩,⟨some 27, none, .ldn 8 (.t 3)⟩,⟨some 28, none, .call 151 [(.t 26), (.t 27)]⟩,⟨some 25, none, .mv (.t 28)⟩,⟨some 29, none, .ext (.t 25) 0⟩,⟨some 30, none, .ext (.t 25) 1⟩,⟨some 6, none, .mv (.t 29)⟩,⟨some 7, none, .mv (.t 30)⟩])
 (.seq (.blk 0 (.seq (.regd [⟨some 32, none, .ldn 8 (.t 3)⟩,⟨some 33, none, .mv (.t 0)⟩,⟨some 34, none, .nc (.t 33)⟩,⟨some 35, none, .fa 0 (.t 34)⟩,⟨some 36, none, .ld (.t 35)⟩,⟨some 37, none, .call 149 [(.t 32), (.t 36)]⟩,⟨some 38, none, .un .not (.t 37)⟩,⟨some 39, none, .mv (.t 38)⟩,⟨some 40, some (39, false), .mv (.t 7)⟩,⟨some 41, some (39, false), .bin .neq (.t 40) (.c (.i .i64 0))⟩,⟨some 42, none, .pick (.t 39) (.c (.b true)) (.t 41)⟩,⟨some 31, none, .mv (.t 42)⟩] [])
 (.cond (.t 31) (.seq (.reg [⟨some 4, none, .mv (.c (.i .i64 11))⟩])
 (.ret))
 (.seq (.regd [⟨some 44, none, .mv (.t 0)⟩,⟨some 45, none, .nc (.t 44)⟩,⟨some 46, none, .fa 3 (.t 45)⟩,⟨some 47, none, .ld (.t 46)⟩,⟨some 48, none, .len 1 (.t 47)⟩,⟨some 49, none, .mv (.t 6)⟩,⟨some 50, none, .len 1 (.t 49)⟩,⟨some 51, none, .bin .add (.t 48) (.t 50)⟩,⟨some 52, none, .mv (.t 0)⟩,⟨some 53, none, .nc (.t 52)⟩,⟨some 54, none, .fa 2 (.t 53)⟩,⟨some 55, none, .ld (.t 54)⟩,⟨some 56, none, .bin .gtr (.t 51) (.t 55)⟩,⟨some 43, none, .mv (.t 56)⟩] [])
 (.cond (.t 43) (.seq (.reg [⟨some 4, none, .mv (.c (.i .i64 13))⟩])
 (.ret))
 (.skip))))))
 (.seq (.regd [⟨some 57, none, .mv (.t 0)⟩,⟨some 58, none, .mv (.t 0)⟩,⟨some 59, none, .nc (.t 58)⟩,⟨some 60, none, .fa 4 (.t 59)⟩,⟨some 61, none, .ld (.t 60)⟩,⟨some 62, none, .mv (.t 0)⟩,⟨some 63, none, .nc (.t 62)⟩,⟨some 64, none, .fa 3 (.t 63)⟩,⟨some 65, none, .ld (.t 64)⟩,⟨some 66, none, .len 1 (.t 65)⟩,⟨some 67, none, .bsl 1 1 [(.i .i64 0)] [(0, 1, (.t 66))]⟩,⟨some 68, none, .app ⟨1, (some 3)⟩ 8 (.t 61) (.t 67)⟩,⟨some 69, none, .nc (.t 57)⟩,⟨some 70, none, .fa 4 (.t 69)⟩,⟨none, none, .st 1 (.t 70) (.t 68)⟩] [(4, 10)])
 (.seq (.reg [⟨some 71, none, .mv (.t 0)⟩,⟨some 72, none, .mv (.t 0)⟩,⟨some 73, none, .nc (.t 72)⟩,⟨some 74, none, .fa 3 (.t 73)⟩,⟨some 75, none, .ld (.t 74)⟩,⟨some 76, none, .mv (.t 6)⟩,⟨some 77, none, .app ⟨1, (some 5)⟩ 1 (.t 75) (.t 76)⟩,⟨some 78, none, .nc (.t 71)⟩,⟨some 79, none, .fa 3 (.t 78)⟩,⟨none, none, .st 1 (.t 79) (.t 77)⟩])
 (.seq (.reg [⟨some 80, none, .mv (.t 0)⟩,⟨some 81, none, .ldn 8 (.t 3)⟩,⟨some 82, none, .call 51 [(.t 81)]⟩,⟨some 83, none, .nc (.t 80)⟩,⟨some 84, none, .fa 5 (.t 83)⟩,⟨none, none, .st 8 (.t 84) (.t 82)⟩])
 (.seq (.reg [⟨some 4, none, .mv (.c (.i .i64 0))⟩])
 (.ret)))))))))
theorem fn104 : F 104 = .go 85 [.t 4] v104 := by rw [F, fnOf, Tryz.func104]; kernel_rfl

def v105 : VC :=
 .seq (.reg [⟨some 2, none, .mv (.c (.sl none 0 0 true))⟩])
 (.seq (.reg [⟨some 3, none, .mv (.c (.sl none 0 0 true))⟩])
 (.seq (.blk 0 (.loop (.seq (.seq (.reg [⟨some 4, none, .mv (.t 0)⟩,⟨some 5, none, .bin .geq (.t 4) (.c (.i .u64 128))⟩])
 (.cond (.t 5) (.skip)
 (.exit 0)))
 (.seq (.blk 1 (.reg [⟨some 8, none, .mv (.t 3)⟩,⟨some 9, none, .mv (.t 0)⟩,⟨some 10, none, .bin .rem (.t 9) (.c (.i .u64 128))⟩,⟨some 11, none, .bin .or (.t 10) (.c (.i .u64 128))⟩,⟨some 12, none, .cvi .u8 (.t 11)⟩,⟨some 13, none, .bsl 1 1 [(.i .u8 0)] [(0, 1, (.t 12))]⟩,⟨some 14, none, .app ⟨1, (some 5)⟩ 1 (.t 8) (.t 13)⟩,⟨some 3, none, .mv (.t 14)⟩]))
 (.reg [⟨some 6, none, .mv (.t 0)⟩,⟨some 7, none, .bin .shr (.t 6) (.c (.i .u64 7))⟩,⟨some 0, none, .mv (.t 7)⟩])))))
 (.seq (.reg [⟨some 15, none, .mv (.t 3)⟩,⟨some 16, none, .mv (.t 0)⟩,⟨some 17, none, .cvi .u8 (.t 16)⟩,⟨some 18, none, .bsl 1 1 [(.i .u8 0)] [(0, 1, (.t 17))]⟩,⟨some 19, none, .app ⟨1, (some 5)⟩ 1 (.t 15) (.t 18)⟩,⟨some 2, none, .mv (.t 19)⟩])
 (.ret))))
theorem fn105 : F 105 = .go 20 [.t 2] v105 := by rw [F, fnOf, Tryz.func105]; kernel_rfl

def v107 : VC :=
 .seq (.reg [⟨some 2, none, .mv (.c (.b false))⟩])
 (.seq (.regd [⟨some 3, none, .mv (.t 0)⟩,⟨some 4, none, .nc (.t 3)⟩,⟨some 5, none, .fa 1 (.t 4)⟩,⟨some 6, none, .ld (.t 5)⟩,⟨some 7, none, .mv (.t 0)⟩,⟨some 8, none, .call 50 [(.t 7)]⟩,⟨some 9, none, .bin .sub (.t 8) (.c (.i .i64 1))⟩,⟨some 10, none, .bin .geq (.t 6) (.t 9)⟩,⟨some 2, none, .mv (.t 10)⟩] [(3, 5)])
 (.ret))
theorem fn107 : F 107 = .go 11 [.t 2] v107 := by rw [F, fnOf, Tryz.func107]; kernel_rfl

def v108 : VC :=
 .seq (.reg [⟨some 5, none, .box 8 (.t 2)⟩,⟨some 6, none, .alloc 60 [(.i .i64 0), (.i .i64 0), (.i .i64 0), (.i .i64 0), (.i .i64 0), (.i .i64 0), (.i .i64 0), (.sl none 0 0 true)]⟩])
 (.seq (.regd [⟨some 7, none, .alloc 60 [(.i .i64 0), (.i .i64 0), (.i .i64 0), (.i .i64 0), (.i .i64 0), (.i .i64 0), (.i .i64 0), (.sl none 0 0 true)]⟩,⟨some 10, none, .mv (.t 0)⟩,⟨some 11, none, .nc (.t 10)⟩,⟨some 12, none, .fa 0 (.t 11)⟩,⟨some 13, none, .ld (.t 12)⟩,⟨some 14, none, .nc (.t 13)⟩,⟨some 15, none, .fa 9 (.t 14)⟩,⟨some 16, none, .ld (.t 15)⟩,⟨some 17, none, .ldn 8 (.t 5)⟩,⟨some 18, none, .mv (.t 1)⟩,⟨some 19, none, .bin .add (.t 18) (.c (.i .i64 1))⟩,⟨some 20, none, .call 62 [(.t 16), (.t 17), (.t 19)]⟩,⟨some 9, none, .mv (.t 20)⟩,⟨some 21, none, .ext (.t 9) 0⟩,⟨some 22, none, .ext (.t 9) 1⟩,⟨none, none, .st 8 (.t 7) (.t 21)⟩,⟨some 8, none, .mv (.t 22)⟩] [])
 (.seq (.reg [⟨some 23, none, .mv (.t 0)⟩,⟨some 24, none, .nc (.t 23)⟩,⟨some 25, none, .fa 11 (.t 24)⟩,⟨some 26, none, .ld (.t 25)⟩,⟨some 27, none, .bin .add (.t 26) (.c (.i .i64 1))⟩,⟨some 28, none, .nc (.t 23)⟩,⟨some 29, none, .fa 11 (.t 28)⟩,⟨none, none, .st 1 (.t 29) (.t 27)⟩])
 (.seq (.reg [⟨some 30, none, .ldn 8 (.t 7)⟩,⟨none, none, .st 8 (.t 6) (.t 30)⟩])
 (.ret))))
theorem fn108 : F 108 = .go 31 [.c 6 (some 8)] v108 := by rw [F, fnOf, Tryz.func108]; kernel_rfl

def v109 : VC :=
 .seq (.reg [⟨some 2, none, .alloc 82 [(.sl none 0 0 true), (.i .i64 0), (.sl none 0 0 true)]⟩,⟨some 3, none, .mv (.c (.i .i64 0))⟩,⟨some 4, none, .mv (.c (.i .i64 0))⟩])
 (.seq (.seq (.reg [⟨some 10, none, .mv (.t 0)⟩,⟨some 11, none, .len 1 (.t 10)⟩,⟨some 12, none, .bin .gtr (.t 11) (.c (.i .i64 4096))⟩])
 (.cond (.t 12) (.seq (.reg [⟨some 13, none, .build [(.sl none 0 0 true), (.i .i64 0), (.sl none 0 0 true)] []⟩,⟨none, none, .st 3 (.t 2) (.t 13)⟩,⟨some 3, none, .mv (.c (.i .i64 15))⟩,⟨some 4, none, .mv (.c (.i .i64 0))⟩])
 (.ret))
 (.skip)))
 (.seq (.reg [⟨some 14, none, .mv (.t 0)⟩,⟨some 15, none, .bsl 1 1 [(.s ⟨#[]⟩)] [(0, 1, (.c (.s ⟨#[]⟩)))]⟩,⟨some 16, none, .build [(.sl none 0 0 true), (.i .i64 0), (.b false), (.b false), (.b false), (.b false), (.i .i64 0), (.sl none 0 0 true), (.i .i64 0), (.i .i64 0)] [(0, 1, (.t 14)), (7, 1, (.t 15))]⟩,⟨some 17, none, .box 10 (.t 16)⟩,⟨some 5, none, .mv (.t 17)⟩])
 (.seq (.reg [⟨some 18, none, .mv (.t 5)⟩,⟨some 19, none, .call 152 [(.t 18), (.c (.i .i64 0))]⟩,⟨some 6, none, .alloc 232 [(.i .i64 0), (.i .i64 0), (.i .i64 0), (.i .i64 0), (.i .i64 0), (.i .i64 0), (.i .i64 0), (.s ⟨#[]⟩), (.sl none 0 0 true), (.sl none 0 0 true), (.sl none 0 0 true)]⟩,⟨none, none, .st 11 (.t 6) (.t 19)⟩])
 (.seq (.seq (.reg [⟨some 20, none, .mv (.t 5)⟩,⟨some 21, none, .call 153 [(.t 20)]⟩,⟨some 22, none, .un .not (.t 21)⟩])
 (.cond (.t 22) (.reg [⟨some 23, none, .mv (.t 5)⟩,⟨some 24, none, .mv (.t 5)⟩,⟨some 25, none, .nc (.t 24)⟩,⟨some 26, none, .fa 1 (.t 25)⟩,⟨some 27, none, .ld (.t 26)⟩,⟨some 28, none, .call 154 [(.t 23), (.c (.i .i64 30)), (.t 27)]⟩])
 (.skip)))
 (.seq (.seq (.reg [⟨some 29, none, .mv (.t 5)⟩,⟨some 30, none, .nc (.t 29)⟩,⟨some 31, none, .fa 8 (.t 30)⟩,⟨some 32, none, .ld (.t 31)⟩,⟨some 33, none, .bin .neq (.t 32) (.c (.i .i64 0))⟩])
 (.cond (.t 33) (.seq (.regd [⟨some 34, none, .build [(.sl none 0 0 true), (.i .i64 0), (.sl none 0 0 true)] []⟩,⟨some 35, none, .mv (.t 5)⟩,⟨some 36, none, .nc (.t 35)⟩,⟨some 37, none, .fa 8 (.t 36)⟩,⟨some 38, none, .ld (.t 37)⟩,⟨some 39, none, .mv (.t 5)⟩,⟨some 40, none, .nc (.t 39)⟩,⟨some 41, none, .fa 9 (.t 40)⟩,⟨some 42, none, .ld (.t 41)⟩,⟨none, none, .st 3 (.t 2) (.t 34)⟩,⟨some 3, none, .mv (.t 38)⟩,⟨some 4, none, .mv (.t 42)⟩] [(4, 9), (8, 9)])
 (.ret))
 (.skip)))
 (.seq (.regd [⟨some 7, none, .alloc 82 [(.sl none 0 0 true), (.i .i64 0), (.sl none 0 0 true)]⟩,⟨some 43, none, .ldn 11 (.t 6)⟩,⟨some 44, none, .call 155 [(.t 43), (.c (.sl none 0 0 true))]⟩,⟨some 45, none, .mv (.t 5)⟩,⟨some 46, none, .nc (.t 45)⟩,⟨some 47, none, .fa 6 (.t 46)⟩,⟨some 48, none, .ld (.t 47)⟩,⟨some 49, none, .mv (.t 5)⟩,⟨some 50, none, .nc (.t 49)⟩,⟨some 51, none, .fa 7 (.t 50)⟩,⟨some 52, none, .ld (.t 51)⟩,⟨some 53, none, .build [(.sl none 0 0 true), (.i .i64 0), (.sl none 0 0 true)] [(0, 1, (.t 44)), (1, 1, (.t 48)), (2, 1, (.t 52))]⟩,⟨none, none, .st 3 (.t 7) (.t 53)⟩] [(6, 2), (10, 2)])
 (.seq (.seq (.reg [⟨some 54, none, .fa 0 (.t 7)⟩,⟨some 55, none, .ld (.t 54)⟩,⟨some 56, none, .len 1 (.t 55)⟩,⟨some 57, none, .mv (.c (.i .i64 0))⟩])
 (.blk 0 (.loop (.seq (.reg [⟨some 58, none, .bin .lss (.t 57) (.t 56)⟩])
 (.seq (.cond (.t 58) (.skip)
 (.exit 0))
 (.seq (.blk 1 (.seq (.reg [⟨some 59, none, .mv (.t 57)⟩,⟨some 60, none, .ia 10 (.t 55) (.t 57)⟩,⟨some 61, none, .ldn 10 (.t 60)⟩,⟨some 9, none, .alloc 209 [(.i .i64 0), (.i .i64 0), (.i .i64 0), (.i .i64 0), (.i .i64 0), (.i .i64 0), (.i .i64 0), (.s ⟨#[]⟩), (.sl none 0 0 true), (.sl none 0 0 true)]⟩,⟨some 8, none, .mv (.t 59)⟩,⟨none, none, .st 10 (.t 9) (.t 61)⟩])
 (.seq (.reg [⟨some 62, none, .fa 0 (.t 9)⟩,⟨some 63, none, .ld (.t 62)⟩,⟨some 64, none, .bin .eql (.t 63) (.c (.i .i64 4))⟩,⟨some 65, none, .mv (.t 64)⟩,⟨some 66, some (65, true), .fa 7 (.t 9)⟩,⟨some 67, some (65, true), .ld (.t 66)⟩,⟨some 68, some (65, true), .bin .neq (.t 67) (.c (.s ⟨#[]⟩))⟩,⟨some 69, none, .pick (.t 65) (.t 68) (.c (.b false))⟩])
 (.cond (.t 69) (.regd [⟨some 70, none, .fa 0 (.t 7)⟩,⟨some 71, none, .ld (.t 70)⟩,⟨some 72, none, .mv (.t 8)⟩,⟨some 73, none, .mv (.t 5)⟩,⟨some 74, none, .nc (.t 73)⟩,⟨some 75, none, .fa 7 (.t 74)⟩,⟨some 76, none, .ld (.t 75)⟩,⟨some 77, none, .fa 7 (.t 9)⟩,⟨some 78, none, .ld (.t 77)⟩,⟨some 79, none, .call 156 [(.t 76), (.t 78)]⟩,⟨some 80, none, .mx [(.t 79), (.c (.i .i64 0))]⟩,⟨some 81, none, .ia 10 (.t 71) (.t 72)⟩,⟨some 82, none, .fa 3 (.t 81)⟩,⟨none, none, .st 1 (.t 82) (.t 80)⟩] [(1, 9)])
 (.skip)))))
 (.reg [⟨some 83, none, .bin .add (.t 57) (.c (.i .i64 1))⟩,⟨some 57, none, .mv (.t 83)⟩])))))))
 (.seq (.reg [⟨some 84, none, .ldn 3 (.t 7)⟩,⟨none, none, .st 3 (.t 2) (.t 84)⟩,⟨some 3, none, .mv (.c (.i .i64 0))⟩,⟨some 4, none, .mv (.c (.i .i64 0))⟩])
 (.ret)))))))))
theorem fn109 : F 109 = .go 85 [.c 2 (some 3), .t 3, .t 4] v109 := by rw [F, fnOf, Tryz.func109]; kernel_rfl

def v110 : VC :=
 .seq (.reg [⟨some 1, none, .box 3 (.t 0)⟩,⟨some 2, none, .mv (.c (.i .i64 0))⟩,⟨some 3, none, .mv (.c (.i .i64 0))⟩])
 (.seq (.reg [⟨some 8, none, .ldn 3 (.t 1)⟩,⟨some 9, none, .call 112 [(.t 8)]⟩,⟨some 4, none, .mv (.t 9)⟩])
 (.seq (.seq (.reg [⟨some 10, none, .fa 0 (.t 1)⟩,⟨some 11, none, .ld (.t 10)⟩,⟨some 12, none, .len 1 (.t 11)⟩,⟨some 13, none, .mv (.c (.i .i64 0))⟩])
 (.blk 0 (.loop (.seq (.reg [⟨some 14, none, .bin .lss (.t 13) (.t 12)⟩])
 (.seq (.cond (.t 14) (.skip)
 (.exit 0))
 (.seq (.blk 1 (.seq (.reg [⟨some 15, none, .ia 10 (.t 11) (.t 13)⟩,⟨some 16, none, .ldn 10 (.t 15)⟩,⟨some 6, none, .alloc 209 [(.i .i64 0), (.i .i64 0), (.i .i64 0), (.i .i64 0), (.i .i64 0), (.i .i64 0), (.i .i64 0), (.s ⟨#[]⟩), (.sl none 0 0 true), (.sl none 0 0 true)]⟩,⟨none, none, .st 10 (.t 6) (.t 16)⟩])
 (.seq (.reg [⟨some 17, none, .ldn 3 (.t 1)⟩,⟨some 18, none, .ldn 10 (.t 6)⟩,⟨some 19, none, .mv (.t 4)⟩,⟨some 20, none, .call 157 [(.t 17), (.t 18), (.t 19)]⟩,⟨some 7, none, .mv (.t 20)⟩])
 (.seq (.reg [⟨some 21, none, .mv (.t 7)⟩,⟨some 22, none, .bin .neq (.t 21) (.c (.i .i64 0))⟩])
 (.cond (.t 22) (.seq (.regd [⟨some 23, none, .mv (.t 7)⟩,⟨some 24, none, .fa 1 (.t 6)⟩,⟨some 25, none, .ld (.t 24)⟩,⟨some 2, none, .mv (.t 23)⟩,⟨some 3, none, .mv (.t 25)⟩] [])
 (.ret))
 (.skip))))))
 (.reg [⟨some 26, none, .bin .add (.t 13) (.c (.i .i64 1))⟩,⟨some 13, none, .mv (.t 26)⟩])))))))
 (.seq (.reg [⟨some 2, none, .mv (.c (.i .i64 0))⟩,⟨some 3, none, .mv (.c (.i .i64 0))⟩])
 (.ret))))
theorem fn110 : F 110 = .go 27 [.t 2, .t 3] v110 := by rw [F, fnOf, Tryz.func110]; kernel_rfl

def v111 : VC :=
 .seq (.reg [⟨some 2, none, .mv (.c (.sl none 0 0 true))⟩])
 (.seq (.reg [⟨some 3, none, .alloc 58 [(.sl none 0 0 true)]⟩])
 (.seq (.seq (.reg [⟨some 6, none, .mv (.t 0)⟩,⟨some 7, none, .call 158 [(.t 6)]⟩])
 (.blk 0 (.rfn (.t 7) [8, 9] (.reg [⟨some 5, none, .mv (.t 9)⟩])
 (.blk 1 (.reg [⟨some 10, none, .ld (.t 3)⟩,⟨some 11, none, .mv (.t 5)⟩,⟨some 12, none, .bsl 1 1 [(.i .i64 0)] [(0, 1, (.t 11))]⟩,⟨some 13, none, .app ⟨1, (some 3)⟩ 8 (.t 10) (.t 12)⟩,⟨none, none, .st 1 (.t 3) (.t 13)⟩])))))
 (.seq (.reg [⟨some 14, none, .ld (.t 3)⟩,⟨some 2, none, .mv (.t 14)⟩])
 (.ret))))
theorem fn111 : F 111 = .go 15 [.t 2] v111 := by rw [F, fnOf, Tryz.func111]; kernel_rfl

def v112 : VC :=
 .seq (.reg [⟨some 1, none, .box 3 (.t 0)⟩,⟨some 2, none, .mv (.c (.sl none 0 0 true))⟩])
 (.seq (.reg [⟨some 5, none, .fa 0 (.t 1)⟩,⟨some 6, none, .ld (.t 5)⟩,⟨some 7, none, .len 1 (.t 6)⟩,⟨some 8, none, .mks 2 16 [(.i .i64 0), (.i .i64 0)] (.t 7) (.t 7)⟩,⟨some 3, none, .mv (.t 8)⟩])
 (.seq (.seq (.reg [⟨some 9, none, .fa 0 (.t 1)⟩,⟨some 10, none, .ld (.t 9)⟩,⟨some 11, none, .len 1 (.t 10)⟩,⟨some 12, none, .bin .sub (.t 11) (.c (.i .i64 1))⟩,⟨some 4, none, .mv (.t 12)⟩])
 (.blk 0 (.loop (.seq (.seq (.reg [⟨some 13, none, .mv (.t 4)⟩,⟨some 14, none, .bin .geq (.t 13) (.c (.i .i64 0))⟩])
 (.cond (.t 14) (.skip)
 (.exit 0)))
 (.seq (.blk 1 (.reg [⟨some 17, none, .mv (.t 3)⟩,⟨some 18, none, .mv (.t 4)⟩,⟨some 19, none, .fa 0 (.t 1)⟩,⟨some 20, none, .ld (.t 19)⟩,⟨some 21, none, .mv (.t 4)⟩,⟨some 22, none, .ia 10 (.t 20) (.t 21)⟩,⟨some 23, none, .ldn 10 (.t 22)⟩,⟨some 24, none, .mv (.t 3)⟩,⟨some 25, none, .call 159 [(.t 23), (.t 24)]⟩,⟨some 26, none, .ia 2 (.t 17) (.t 18)⟩,⟨none, none, .st 2 (.t 26) (.t 25)⟩]))
 (.reg [⟨some 15, none, .mv (.t 4)⟩,⟨some 16, none, .bin .sub (.t 15) (.c (.i .i64 1))⟩,⟨some 4, none, .mv (.t 16)⟩]))))))
 (.seq (.reg [⟨some 27, none, .mv (.t 3)⟩,⟨some 2, none, .mv (.t 27)⟩])
 (.ret))))
theorem fn112 : F 112 = .go 28 [.t 2] v112 := by rw [F, fnOf, Tryz.func112]; kernel_rfl

def v113 : VC :=
 .seq (.reg [⟨some 7, none, .mv (.t 0)⟩,⟨some 8, none, .nc (.t 7)⟩,⟨some 9, none, .fa 4 (.t 8)⟩,⟨some 10, none, .fa 0 (.t 9)⟩,⟨some 11, none, .ld (.t 10)⟩,⟨some 12, none, .mv (.t 1)⟩,⟨some 13, none, .ia 10 (.t 11) (.t 12)⟩,⟨some 14, none, .ldn 10 (.t 13)⟩,⟨some 4, none, .alloc 209 [(.i .i64 0), (.i .i64 0), (.i .i64 0), (.i .i64 0), (.i .i64 0), (.i .i64 0), (.i .i64 0), (.s ⟨#[]⟩), (.sl none 0 0 true), (.sl none 0 0 true)]⟩,⟨none, none, .st 10 (.t 4) (.t 14)⟩])
 (.seq (.reg [⟨some 15, none, .fa 0 (.t 4)⟩,⟨some 16, none, .ld (.t 15)⟩])
 (.blk 0 (.seq (.reg [⟨some 22, none, .bin .eql (.t 16) (.c (.i .i64 5))⟩,⟨some 21, none, .mv (.t 22)⟩])
 (.cond (.t 21) (.seq (.reg [⟨some 23, none, .fa 9 (.t 4)⟩,⟨some 24, none, .ld (.t 23)⟩,⟨some 25, none, .len 1 (.t 24)⟩,⟨some 26, none, .mv (.c (.i .i64 0))⟩])
 (.blk 1 (.loop (.seq (.reg [⟨some 27, none, .bin .lss (.t 26) (.t 25)⟩])
 (.seq (.cond (.t 27) (.skip)
 (.exit 1))
 (.seq (.blk 2 (.seq (.reg [⟨some 28, none, .ia 1 (.t 24) (.t 26)⟩,⟨some 29, none, .ld (.t 28)⟩,⟨some 6, none, .mv (.t 29)⟩])
 (.reg [⟨some 30, none, .mv (.t 0)⟩,⟨some 31, none, .mv (.t 6)⟩,⟨some 32, none, .call 113 [(.t 30), (.t 31)]⟩])))
 (.reg [⟨some 33, none, .bin .add (.t 26) (.c (.i .i64 1))⟩,⟨some 26, none, .mv (.t 33)⟩])))))))
 (.seq (.reg [⟨some 35, none, .bin .eql (.t 16) (.c (.i .i64 6))⟩,⟨some 34, none, .mv (.t 35)⟩])
 (.cond (.t 34) (.reg [⟨some 36, none, .mv (.t 0)⟩,⟨some 37, none, .mv (.t 1)⟩,⟨some 38, none, .fa 9 (.t 4)⟩,⟨some 39, none, .ld (.t 38)⟩,⟨some 40, none, .call 160 [(.t 36), (.t 37), (.t 39)]⟩])
 (.seq (.reg [⟨some 42, none, .bin .eql (.t 16) (.c (.i .i64 7))⟩,⟨some 41, none, .mv (.t 42)⟩])
 (.cond (.t 41) (.seq (.reg [⟨some 43, none, .mv (.t 0)⟩,⟨some 44, none, .mv (.t 1)⟩,⟨some 45, none, .fa 3 (.t 4)⟩,⟨some 46, none, .ld (.t 45)⟩,⟨some 47, none, .call 114 [(.t 43), (.t 44), (.c (.i .i64 11)), (.t 46), (.c (.i .i64 0)), (.c (.i .i64 0))]⟩])
 (.seq (.reg [⟨some 48, none, .mv (.t 0)⟩,⟨some 49, none, .fa 9 (.t 4)⟩,⟨some 50, none, .ld (.t 49)⟩,⟨some 51, none, .ia 1 (.t 50) (.c (.i .i64 0))⟩,⟨some 52, none, .ld (.t 51)⟩,⟨some 53, none, .call 113 [(.t 48), (.t 52)]⟩])
 (.reg [⟨some 54, none, .mv (.t 0)⟩,⟨some 55, none, .mv (.t 1)⟩,⟨some 56, none, .fa 3 (.t 4)⟩,⟨some 57, none, .ld (.t 56)⟩,⟨some 58, none, .call 114 [(.t 54), (.t 55), (.c (.i .i64 12)), (.t 57), (.c (.i .i64 0)), (.c (.i .i64 0))]⟩])))
 (.seq (.reg [⟨some 60, none, .bin .eql (.t 16) (.c (.i .i64 8))⟩,⟨some 59, none, .mv (.t 60)⟩])
 (.cond (.t 59) (.reg [⟨some 61, none, .mv (.t 0)⟩,⟨some 62, none, .mv (.t 1)⟩,⟨some 63, none, .ldn 10 (.t 4)⟩,⟨some 64, none, .call 161 [(.t 61), (.t 62), (.t 63)]⟩])
 (.seq (.reg [⟨some 66, none, .bin .eql (.t 16) (.c (.i .i64 9))⟩,⟨some 65, none, .mv (.t 66)⟩])
 (.cond (.t 65) (.seq (.reg [⟨some 67, none, .mv (.t 0)⟩,⟨some 68, none, .mv (.t 1)⟩,⟨some 69, none, .call 114 [(.t 67), (.t 68), (.c (.i .i64 13)), (.c (.i .i64 (-1))), (.c (.i .i64 0)), (.c (.i .i64 0))]⟩])
 (.seq (.reg [⟨some 70, none, .mv (.t 0)⟩,⟨some 71, none, .fa 9 (.t 4)⟩,⟨some 72, none, .ld (.t 71)⟩,⟨some 73, none, .ia 1 (.t 72) (.c (.i .i64 0))⟩,⟨some 74, none, .ld (.t 73)⟩,⟨some 75, none, .call 113 [(.t 70), (.t 74)]⟩])
 (.reg [⟨some 76, none, .mv (.t 0)⟩,⟨some 77, none, .mv (.t 1)⟩,⟨some 78, none, .call 114 [(.t 76), (.t 77), (.c (.i .i64 16)), (.c (.i .i64 0)), (.c (.i .i64 0)), (.c (.i .i64 0))]⟩])))
 (.seq (.reg [⟨some 80, none, .bin .eql (.t 16) (.c (.i .i64 10))⟩,⟨some 79, none, .mv (.t 80)⟩])
 (.cond (.t 79) (.reg [⟨some 81, none, .mv (.t 0)⟩,⟨some 82, none, .mv (.t 1)⟩,⟨some 83, none, .ldn 10 (.t 4)⟩,⟨some 84, none, .call 162 [(.t 81), (.t 82), (.t 83)]⟩])
 (.reg [⟨some 17, none, .mv (.t 0)⟩,⟨some 18, none, .mv (.t 1)⟩,⟨some 19, none, .ldn 10 (.t 4)⟩,⟨some 20, none, .call 163 [(.t 17), (.t 18), (.t 19)]⟩])))))))))))))))
theorem fn113 : F 113 = .go 85 [] v113 := by rw [F, fnOf, Tryz.func113]; kernel_rfl

def v114 : VC :=
 .seq (.reg [⟨some 12, none, .mv (.c (.i .i64 0))⟩])
 (.seq (.reg [⟨some 13, none, .mv (.t 0)⟩,⟨some 14, none, .mv (.t 0)⟩,⟨some 15, none, .nc (.t 14)⟩,⟨some 16, none, .fa 0 (.t 15)⟩,⟨some 17, none, .fa 0 (.t 16)⟩,⟨some 18, none, .ld (.t 17)⟩,⟨some 19, none, .mv (.t 2)⟩,⟨some 20, none, .mv (.t 3)⟩,⟨some 21, none, .mv (.t 4)⟩,⟨some 22, none, .mv (.t 5)⟩,⟨some 23, none, .mv (.t 1)⟩,⟨some 24, none, .build [(.i .i64 0), (.i .i64 0), (.i .i64 0), (.i .i64 0), (.i .i64 0), (.i .i64 0)] [(0, 1, (.t 19)), (1, 1, (.t 20)), (2, 1, (.t 21)), (3, 1, (.t 22)), (4, 1, (.t 23))]⟩,⟨some 25, none, .bsl 6 1 [(.i .i64 0), (.i .i64 0), (.i .i64 0), (.i .i64 0), (.i .i64 0), (.i .i64 0)] [(0, 6, (.t 24))]⟩,⟨some 26, none, .app ⟨6, (some 46)⟩ 48 (.t 18) (.t 25)⟩,⟨some 27, none, .nc (.t 13)⟩,⟨some 28, none, .fa 0 (.t 27)⟩,⟨some 29, none, .fa 0 (.t 28)⟩,⟨none, none, .st 1 (.t 29) (.t 26)⟩])
 (.seq (.reg [⟨some 30, none, .mv (.t 0)⟩,⟨some 31, none, .call 164 [(.t 30)]⟩,⟨some 32, none, .bin .sub (.t 31) (.c (.i .i64 1))⟩,⟨some 12, none, .mv (.t 32)⟩])
 (.ret)))
theorem fn114 : F 114 = .go 33 [.t 12] v114 := by rw [F, fnOf, Tryz.func114]; kernel_rfl

def v115 : VC :=
 .seq (.reg [⟨some 1, none, .box 4 (.t 0)⟩,⟨some 2, none, .mv (.c (.b false))⟩])
 (.seq (.seq (.reg [⟨some 10, none, .fa 0 (.t 1)⟩,⟨some 11, none, .ld (.t 10)⟩,⟨some 12, none, .len 1 (.t 11)⟩,⟨some 13, none, .bin .eql (.t 12) (.c (.i .i64 0))⟩,⟨some 14, none, .mv (.t 13)⟩,⟨some 15, some (14, false), .fa 2 (.t 1)⟩,⟨some 16, some (14, false), .ld (.t 15)⟩,⟨some 17, some (14, false), .len 1 (.t 16)⟩,⟨some 18, some (14, false), .bin .gtr (.t 17) (.c (.i .i64 4096))⟩,⟨some 19, none, .pick (.t 14) (.c (.b true)) (.t 18)⟩,⟨some 20, none, .mv (.t 19)⟩,⟨some 21, some (20, false), .fa 3 (.t 1)⟩,⟨some 22, some (20, false), .ld (.t 21)⟩,⟨some 23, some (20, false), .call 165 [(.t 22), (.c (.i .i64 0)), (.c (.i .i64 99))]⟩,⟨some 24, some (20, false), .un .not (.t 23)⟩,⟨some 25, none, .pick (.t 20) (.c (.b true)) (.t 24)⟩])
 (.cond (.t 25) (.seq (.reg [⟨some 2, none, .mv (.c (.b false))⟩])
 (.ret))
 (.skip)))
 (.seq (.seq (.reg [⟨some 26, none, .fa 1 (.t 1)⟩,⟨some 27, none, .ld (.t 26)⟩,⟨some 28, none, .len 1 (.t 27)⟩,⟨some 29, none, .mv (.c (.i .i64 0))⟩])
 (.blk 0 (.loop (.seq (.reg [⟨some 30, none, .bin .lss (.t 29) (.t 28)⟩])
 (.seq (.cond (.t 30) (.skip)
 (.exit 0))
 (.seq (.blk 1 (.seq (.reg [⟨some 31, none, .ia 1 (.t 27) (.t 29)⟩,⟨some 32, none, .ld (.t 31)⟩,⟨some 4, none, .mv (.t 32)⟩])
 (.seq (.reg [⟨some 33, none, .mv (.t 4)⟩,⟨some 34, none, .call 166 [(.t 33)]⟩,⟨some 35, none, .un .not (.t 34)⟩])
 (.cond (.t 35) (.seq (.reg [⟨some 2, none, .mv (.c (.b false))⟩])
 (.ret))
 (.skip)))))
 (.reg [⟨some 36, none, .bin .add (.t 29) (.c (.i .i64 1))⟩,⟨some 29, none, .mv (.t 36)⟩])))))))
 (.seq (.seq (.reg [⟨some 37, none, .fa 2 (.t 1)⟩,⟨some 38, none, .ld (.t 37)⟩,⟨some 39, none, .len 1 (.t 38)⟩,⟨some 40, none, .mv (.c (.i .i64 0))⟩])
 (.blk 2 (.loop (.seq (.reg [⟨some 41, none, .bin .lss (.t 40) (.t 39)⟩])
 (.seq (.cond (.t 41) (.skip)
 (.exit 2))
 (.seq (.blk 3 (.seq (.reg [⟨some 42, none, .ia 3 (.t 38) (.t 40)⟩,⟨some 43, none, .ldn 3 (.t 42)⟩,⟨some 6, none, .alloc 248 [(.i .i64 0), (.i .i64 0), (.i .i64 0)]⟩,⟨none, none, .st 3 (.t 6) (.t 43)⟩])
 (.seq (.reg [⟨some 44, none, .ldn 3 (.t 6)⟩,⟨some 45, none, .call 167 [(.t 44)]⟩,⟨some 46, none, .un .not (.t 45)⟩])
 (.cond (.t 46) (.seq (.reg [⟨some 2, none, .mv (.c (.b false))⟩])
 (.ret))
 (.skip)))))
 (.reg [⟨some 47, none, .bin .add (.t 40) (.c (.i .i64 1))⟩,⟨some 40, none, .mv (.t 47)⟩])))))))
 (.seq (.seq (.reg [⟨some 48, none, .fa 0 (.t 1)⟩,⟨some 49, none, .ld (.t 48)⟩,⟨some 50, none, .len 1 (.t 49)⟩,⟨some 51, none, .mv (.c (.i .i64 0))⟩])
 (.blk 4 (.loop (.seq (.reg [⟨some 52, none, .bin .lss (.t 51) (.t 50)⟩])
 (.seq (.cond (.t 52) (.skip)
 (.exit 4))
 (.seq (.blk 5 (.seq (.reg [⟨some 53, none, .mv (.t 51)⟩,⟨some 54, none, .ia 6 (.t 49) (.t 51)⟩,⟨some 55, none, .ldn 6 (.t 54)⟩,⟨some 8, none, .alloc 46 [(.i .i64 0), (.i .i64 0), (.i .i64 0), (.i .i64 0), (.i .i64 0), (.i .i64 0)]⟩,⟨some 7, none, .mv (.t 53)⟩,⟨none, none, .st 6 (.t 8) (.t 55)⟩])
 (.seq (.reg [⟨some 56, none, .mv (.t 7)⟩,⟨some 57, none, .fa 0 (.t 1)⟩,⟨some 58, none, .ld (.t 57)⟩,⟨some 59, none, .len 1 (.t 58)⟩,⟨some 60, none, .bin .sub (.t 59) (.c (.i .i64 1))⟩,⟨some 61, none, .bin .eql (.t 56) (.t 60)⟩,⟨some 9, none, .mv (.t 61)⟩])
 (.seq (.reg [⟨some 62, none, .fa 0 (.t 8)⟩,⟨some 63, none, .ld (.t 62)⟩,⟨some 64, none, .call 165 [(.t 63), (.c (.i .i64 1)), (.c (.i .i64 19))]⟩,⟨some 65, none, .un .not (.t 64)⟩,⟨some 66, none, .mv (.t 65)⟩,⟨some 67, some (66, false), .fa 0 (.t 8)⟩,⟨some 68, some (66, false), .ld (.t 67)⟩,⟨some 69, some (66, false), .bin .eql (.t 68) (.c (.i .i64 19))⟩,⟨some 70, some (66, false), .mv (.t 9)⟩,⟨some 71, some (66, false), .eqb true (.t 69) (.t 70)⟩,⟨some 72, none, .pick (.t 66) (.c (.b true)) (.t 71)⟩,⟨some 73, none, .mv (.t 72)⟩,⟨some 74, some (73, false), .fa 4 (.t 8)⟩,⟨some 75, some (73, false), .ld (.t 74)⟩,⟨some 76, some (73, false), .call 165 [(.t 75), (.c (.i .i64 0)), (.c (.i .i64 16384))]⟩,⟨some 77, some (73, false), .un .not (.t 76)⟩,⟨some 78, none, .pick (.t 73) (.c (.b true)) (.t 77)⟩,⟨some 79, none, .mv (.t 78)⟩,⟨some 80, some (79, false), .fa 5 (.t 8)⟩,⟨some 81, some (79, false), .ld (.t 80)⟩,⟨some 82, some (79, false), .call 165 [(.t 81), (.c (.i .i64 0)), (.c (.i .i64 16384))]⟩,⟨some 83, some (79, false), .un .not (.t 82)⟩,⟨some 84, none, .pick (.t 79) (.c (.b true)) (.t 83)⟩,⟨some 85, none, .mv (.t 84)⟩,⟨some 86, some (85, false), .ldn 4 (.t 1)⟩,⟨some 87, some (85, false), .mv (.t 7)⟩,⟨some 88, some (85, false), .ldn 6 (.t 8)⟩,⟨some 89, some (85, false), .call 168 [(.t 86), (.t 87), (.t 88)]⟩,⟨some 90, some (85, false), .un .not (.t 89)⟩,⟨some 91, none, .pick (.t 85) (.c (.b true)) (.t 90)⟩])
 (.cond (.t 91) (.seq (.reg [⟨some 2, none, .mv (.c (.b false))⟩])
 (.ret))
 (.skip))))))
 (.reg [⟨some 92, none, .bin .add (.t 51) (.c (.i .i64 1))⟩,⟨some 51, none, .mv (.t 92)⟩])))))))
 (.seq (.reg [⟨some 93, none, .ldn 4 (.t 1)⟩,⟨some 94, none, .call 169 [(.t 93)]⟩,⟨some 2, none, .mv (.t 94)⟩])
 (.ret))))))
theorem fn115 : F 115 = .go 95 [.t 2] v115 := by rw [F, fnOf, Tryz.func115]; kernel_rfl

def v116 : VC :=
 .seq (.reg [⟨some 1, none, .box 1 (.t 0)⟩,⟨some 2, none, .mv (.c (.i .i64 0))⟩])
 (.seq (.reg [⟨some 3, none, .fa 0 (.t 1)⟩,⟨some 4, none, .ld (.t 3)⟩,⟨some 5, none, .len 1 (.t 4)⟩,⟨some 2, none, .mv (.t 5)⟩])
 (.ret))
theorem fn116 : F 116 = .go 6 [.t 2] v116 := by rw [F, fnOf, Tryz.func116]; kernel_rfl

def v117 : VC :=
 .seq (.reg [⟨some 2, none, .mv (.c (.p none))⟩,⟨some 3, none, .mv (.c (.i .i64 0))⟩])
 (.seq (.seq (.reg [⟨some 4, none, .mv (.t 0)⟩,⟨some 5, none, .bin .lss (.t 4) (.c (.i .i64 0))⟩,⟨some 6, none, .mv (.t 5)⟩,⟨some 7, some (6, false), .mv (.t 0)⟩,⟨some 8, some (6, false), .bin .gtr (.t 7) (.c (.i .i64 65536))⟩,⟨some 9, none, .pick (.t 6) (.c (.b true)) (.t 8)⟩])
 (.cond (.t 9) (.seq (.reg [⟨some 2, none, .mv (.c (.p none))⟩,⟨some 3, none, .mv (.c (.i .i64 10))⟩])
 (.ret))
 (.skip)))
 (.seq (.reg [⟨some 10, none, .mv (.t 0)⟩,⟨some 11, none, .build [(.i .i64 0), (.i .i64 0), (.sl none 0 0 true), (.sl none 0 0 true)] [(0, 1, (.t 10))]⟩,⟨some 12, none, .box 4 (.t 11)⟩,⟨some 2, none, .mv (.t 12)⟩,⟨some 3, none, .mv (.c (.i .i64 0))⟩])
 (.ret)))
theorem fn117 : F 117 = .go 13 [.t 2, .t 3] v117 := by rw [F, fnOf, Tryz.func117]; kernel_rfl

def v118 : VC :=
 .seq (.reg [⟨some 4, none, .mv (.c (.p none))⟩,⟨some 5, none, .mv (.c (.i .i64 0))⟩])
 (.seq (.seq (.reg [⟨some 6, none, .mv (.t 0)⟩,⟨some 7, none, .bin .lss (.t 6) (.c (.i .i64 0))⟩,⟨some 8, none, .mv (.t 7)⟩,⟨some 9, some (8, false), .mv (.t 0)⟩,⟨some 10, some (8, false), .bin .gtr (.t 9) (.c (.i .i64 65536))⟩,⟨some 11, none, .pick (.t 8) (.c (.b true)) (.t 10)⟩])
 (.cond (.t 11) (.seq (.reg [⟨some 4, none, .mv (.c (.p none))⟩,⟨some 5, none, .mv (.c (.i .i64 10))⟩])
 (.ret))
 (.skip)))
 (.seq (.reg [⟨some 12, none, .mv (.t 1)⟩,⟨some 13, none, .bsl 1 1 [(.i .i64 0)] [(0, 1, (.t 12))]⟩,⟨some 14, none, .mv (.t 0)⟩,⟨some 15, none, .call 170 [(.t 13), (.t 14)]⟩,⟨some 16, none, .build [(.sl none 0 0 true), (.sl none 0 0 true)] [(0, 1, (.t 15))]⟩,⟨some 17, none, .box 2 (.t 16)⟩,⟨some 4, none, .mv (.t 17)⟩,⟨some 5, none, .mv (.c (.i .i64 0))⟩])
 (.ret)))
theorem fn118 : F 118 = .go 18 [.t 4, .t 5] v118 := by rw [F, fnOf, Tryz.func118]; kernel_rfl

def v119 : VC :=
 .seq (.reg [⟨some 4, none, .mv (.c (.i .i64 0))⟩])
 (.seq (.reg [⟨some 5, none, .mv (.t 0)⟩,⟨some 6, none, .mv (.t 0)⟩,⟨some 7, none, .nc (.t 6)⟩,⟨some 8, none, .fa 0 (.t 7)⟩,⟨some 9, none, .fa 2 (.t 8)⟩,⟨some 10, none, .ld (.t 9)⟩,⟨some 11, none, .len 1 (.t 10)⟩,⟨some 12, none, .call 171 [(.t 5), (.t 11)]⟩,⟨some 13, none, .mv (.t 1)⟩,⟨some 14, none, .bin .add (.t 12) (.t 13)⟩,⟨some 4, none, .mv (.t 14)⟩])
 (.ret))
theorem fn119 : F 119 = .go 15 [.t 4] v119 := by rw [F, fnOf, Tryz.func119]; kernel_rfl

def v120 : VC :=
 .seq (.reg [⟨some 2, none, .alloc 60 [(.i .i64 0), (.i .i64 0), (.i .i64 0), (.i .i64 0), (.i .i64 0), (.i .i64 0), (.i .i64 0), (.sl none 0 0 true)]⟩,⟨some 3, none, .mv (.c (.b false))⟩])
 (.seq (.seq (.regd [⟨some 4, none, .mv (.t 0)⟩,⟨some 5, none, .nc (.t 4)⟩,⟨some 6, none, .fa 14 (.t 5)⟩,⟨some 7, none, .ld (.t 6)⟩,⟨some 8, none, .bin .eql (.t 7) (.c (.i .i64 0))⟩,⟨some 9, none, .mv (.t 8)⟩,⟨some 10, some (9, true), .mv (.t 0)⟩,⟨some 11, some (9, true), .nc (.t 10)⟩,⟨some 12, some (9, true), .fa 13 (.t 11)⟩,⟨some 13, some (9, true), .ld (.t 12)⟩,⟨some 14, some (9, true), .mv (.t 0)⟩,⟨some 15, some (9, true), .nc (.t 14)⟩,⟨some 16, some (9, true), .fa 5 (.t 15)⟩,⟨some 17, some (9, true), .fa 0 (.t 16)⟩,⟨some 18, some (9, true), .ld (.t 17)⟩,⟨some 19, some (9, true), .bin .eql (.t 13) (.t 18)⟩,⟨some 20, none, .pick (.t 9) (.t 19) (.c (.b false))⟩] [])
 (.cond (.t 20) (.reg [⟨some 21, none, .mv (.t 0)⟩,⟨some 22, none, .nc (.t 21)⟩,⟨some 23, none, .fa 14 (.t 22)⟩,⟨none, none, .st 1 (.t 23) (.c (.i .i64 2))⟩])
 (.skip)))
 (.seq (.reg [⟨some 24, none, .mv (.t 0)⟩,⟨some 25, none, .nc (.t 24)⟩,⟨some 26, none, .fa 25 (.t 25)⟩,⟨none, none, .st 1 (.t 26) (.c (.b false))⟩])
 (.seq (.blk 0 (.loop (.seq (.seq (.reg [⟨some 27, none, .mv (.t 0)⟩,⟨some 28, none, .nc (.t 27)⟩,⟨some 29, none, .fa 14 (.t 28)⟩,⟨some 30, none, .ld (.t 29)⟩,⟨some 31, none, .bin .eql (.t 30) (.c (.i .i64 0))⟩,⟨some 32, none, .mv (.t 31)⟩,⟨some 33, some (32, true), .mv (.t 0)⟩,⟨some 34, some (32, true), .nc (.t 33)⟩,⟨some 35, some (32, true), .fa 25 (.t 34)⟩,⟨some 36, some (32, true), .ld (.t 35)⟩,⟨some 37, some (32, true), .un .not (.t 36)⟩,⟨some 38, none, .pick (.t 32) (.t 37) (.c (.b false))⟩])
 (.cond (.t 38) (.skip)
 (.exit 0)))
 (.blk 1 (.seq (.reg [⟨some 39, none, .mv (.t 0)⟩,⟨some 40, none, .nc (.t 39)⟩,⟨some 41, none, .fa 15 (.t 40)⟩,⟨some 42, none, .ld (.t 41)⟩])
 (.cond (.t 42) (.reg [⟨some 43, none, .mv (.t 0)⟩,⟨some 44, none, .call 172 [(.t 43)]⟩])
 (.reg [⟨some 45, none, .mv (.t 0)⟩,⟨some 46, none, .call 173 [(.t 45)]⟩])))))))
 (.seq (.seq (.reg [⟨some 47, none, .mv (.t 0)⟩,⟨some 48, none, .nc (.t 47)⟩,⟨some 49, none, .fa 25 (.t 48)⟩,⟨some 50, none, .ld (.t 49)⟩,⟨some 51, none, .un .not (.t 50)⟩])
 (.cond (.t 51) (.seq (.reg [⟨some 52, none, .build [(.i .i64 0), (.i .i64 0), (.i .i64 0), (.i .i64 0), (.i .i64 0), (.i .i64 0), (.i .i64 0), (.sl none 0 0 true)] []⟩,⟨none, none, .st 8 (.t 2) (.t 52)⟩,⟨some 3, none, .mv (.c (.b false))⟩])
 (.ret))
 (.skip)))
 (.seq (.reg [⟨some 53, none, .mv (.t 0)⟩,⟨some 54, none, .nc (.t 53)⟩,⟨some 55, none, .fa 13 (.t 54)⟩,⟨some 56, none, .ld (.t 55)⟩,⟨some 57, none, .bin .add (.t 56) (.c (.i .i64 1))⟩,⟨some 58, none, .nc (.t 53)⟩,⟨some 59, none, .fa 13 (.t 58)⟩,⟨none, none, .st 1 (.t 59) (.t 57)⟩])
 (.seq (.reg [⟨some 60, none, .mv (.t 0)⟩,⟨some 61, none, .nc (.t 60)⟩,⟨some 62, none, .fa 17 (.t 61)⟩,⟨some 63, none, .ldn 8 (.t 62)⟩,⟨none, none, .st 8 (.t 2) (.t 63)⟩,⟨some 3, none, .mv (.c (.b true))⟩])
 (.ret)))))))
theorem fn120 : F 120 = .go 64 [.c 2 (some 8), .t 3] v120 := by rw [F, fnOf, Tryz.func120]; kernel_rfl

def v121 : VC :=
 .seq (.reg [⟨some 2, none, .mv (.c (.i .i64 0))⟩])
 (.seq (.reg [⟨some 3, none, .mv (.t 0)⟩,⟨some 4, none, .nc (.t 3)⟩,⟨some 5, none, .fa 14 (.t 4)⟩,⟨some 6, none, .ld (.t 5)⟩,⟨some 2, none, .mv (.t 6)⟩])
 (.ret))
theorem fn121 : F 121 = .go 7 [.t 2] v121 := by rw [F, fnOf, Tryz.func121]; kernel_rfl

def v122 : VC :=
 .seq (.reg [⟨some 2, none, .mv (.c (.i .i64 0))⟩])
 (.seq (.reg [⟨some 3, none, .mv (.t 0)⟩,⟨some 4, none, .nc (.t 3)⟩,⟨some 5, none, .fa 1 (.t 4)⟩,⟨some 6, none, .ld (.t 5)⟩,⟨some 2, none, .mv (.t 6)⟩])
 (.ret))
theorem fn122 : F 122 = .go 7 [.t 2] v122 := by rw [F, fnOf, Tryz.func122]; kernel_rfl

def v123 : VC :=
 .seq (.reg [⟨some 4, none, .mv (.c (.sl none 0 0 true))⟩])
 (.seq (.reg [⟨some 8, none, .mv (.t 0)⟩,⟨some 9, none, .nc (.t 8)⟩,⟨some 10, none, .fa 0 (.t 9)⟩,⟨some 11, none, .ld (.t 10)⟩,⟨some 12, none, .nc (.t 11)⟩,⟨some 13, none, .fa 9 (.t 12)⟩,⟨some 14, none, .ld (.t 13)⟩,⟨some 15, none, .mv (.t 1)⟩,⟨some 16, none, .call 63 [(.t 14), (.t 15)]⟩,⟨some 7, none, .mv (.t 16)⟩,⟨some 17, none, .ext (.t 7) 0⟩,⟨some 18, none, .ext (.t 7) 1⟩,⟨some 5, none, .mv (.t 17)⟩,⟨some 6, none, .mv (.t 18)⟩])
 (.seq (.reg [⟨some 19, none, .mv (.t 0)⟩,⟨some 20, none, .nc (.t 19)⟩,⟨some 21, none, .fa 11 (.t 20)⟩,⟨some 22, none, .ld (.t 21)⟩,⟨some 23, none, .mv (.t 5)⟩,⟨some 24, none, .len 1 (.t 23)⟩,⟨some 25, none, .bin .add (.t 22) (.t 24)⟩,⟨some 26, none, .nc (.t 19)⟩,⟨some 27, none, .fa 11 (.t 26)⟩,⟨none, none, .st 1 (.t 27) (.t 25)⟩])
 (.seq (.reg [⟨some 28, none, .mv (.t 5)⟩,⟨some 4, none, .mv (.t 28)⟩])
 (.ret))))
theorem fn123 : F 123 = .go 29 [.t 4] v123 := by rw [F, fnOf, Tryz.func123]; kernel_rfl

def v144 : VC :=
 .seq (.reg [⟨some 2, none, .mv (.c (.i .i64 0))⟩])
 (.seq (.reg [⟨some 3, none, .mv (.c (.i .i64 0))⟩])
 (.seq (.blk 0 (.loop (.seq (.seq (.reg [⟨some 4, none, .mv (.t 0)⟩,⟨some 5, none, .bin .gtr (.t 4) (.c (.i .u64 0))⟩])
 (.cond (.t 5) (.skip)
 (.exit 0)))
 (.seq (.blk 1 (.reg [⟨some 8, none, .mv (.t 3)⟩,⟨some 9, none, .bin .add (.t 8) (.c (.i .i64 1))⟩,⟨some 3, none, .mv (.t 9)⟩]))
 (.reg [⟨some 6, none, .mv (.t 0)⟩,⟨some 7, none, .bin .shr (.t 6) (.c (.i .u64 1))⟩,⟨some 0, none, .mv (.t 7)⟩])))))
 (.seq (.reg [⟨some 10, none, .mv (.t 3)⟩,⟨some 2, none, .mv (.t 10)⟩])
 (.ret))))
theorem fn144 : F 144 = .go 11 [.t 2] v144 := by rw [F, fnOf, Tryz.func144]; kernel_rfl

def v145 : VC :=
 .seq (.reg [⟨some 1, none, .box 8 (.t 0)⟩,⟨some 2, none, .mv (.c (.b false))⟩])
 (.seq (.regd [⟨some 3, none, .ldn 8 (.t 1)⟩,⟨some 4, none, .ldn 8 (.t 1)⟩,⟨some 5, none, .call 150 [(.t 4)]⟩,⟨some 6, none, .call 149 [(.t 3), (.t 5)]⟩,⟨some 7, none, .mv (.t 6)⟩,⟨some 8, some (7, false), .ldn 8 (.t 1)⟩,⟨some 9, some (7, false), .call 150 [(.t 8)]⟩,⟨some 10, some (7, false), .bin .geq (.t 9) (.c (.i .i64 0))⟩,⟨some 11, some (7, false), .mv (.t 10)⟩,⟨some 12, some (11, true), .ldn 8 (.t 1)⟩,⟨some 13, some (11, true), .ldn 8 (.t 1)⟩,⟨some 14, some (11, true), .call 150 [(.t 13)]⟩,⟨some 15, some (11, true), .call 102 [(.t 14)]⟩,⟨some 16, some (11, true), .call 28 [(.t 12), (.t 15)]⟩,⟨some 17, some (7, false), .pick (.t 11) (.t 16) (.c (.b false))⟩,⟨some 18, none, .pick (.t 7) (.c (.b true)) (.t 17)⟩,⟨some 2, none, .mv (.t 18)⟩] [(0, 2), (9, 11), (9, 12)])
 (.ret))
theorem fn145 : F 145 = .go 19 [.t 2] v145 := by rw [F, fnOf, Tryz.func145]; kernel_rfl

def v146 : VC :=
 .seq (.reg [⟨some 4, none, .mv (.c (.i .i64 0))⟩])
 (.seq (.seq (.reg [⟨some 8, none, .mv (.t 0)⟩,⟨some 9, none, .nc (.t 8)⟩,⟨some 10, none, .fa 2 (.t 9)⟩,⟨some 11, none, .ld (.t 10)⟩,⟨some 12, none, .bin .neq (.t 11) (.c (.i .i64 0))⟩])
 (.cond (.t 12) (.seq (.reg [⟨some 4, none, .mv (.c (.i .i64 0))⟩])
 (.ret))
 (.skip)))
 (.seq (.regd [⟨some 14, none, .mv (.t 0)⟩,⟨some 15, none, .nc (.t 14)⟩,⟨some 16, none, .fa 0 (.t 15)⟩,⟨some 17, none, .ld (.t 16)⟩,⟨some 18, none, .mv (.t 0)⟩,⟨some 19, none, .nc (.t 18)⟩,⟨some 20, none, .fa 1 (.t 19)⟩,⟨some 21, none, .ld (.t 20)⟩,⟨some 22, none, .call 101 [(.t 17), (.t 21)]⟩,⟨some 13, none, .mv (.t 22)⟩,⟨some 23, none, .ext (.t 13) 0⟩,⟨some 24, none, .ext (.t 13) 1⟩,⟨some 25, none, .ext (.t 13) 2⟩,⟨some 5, none, .mv (.t 23)⟩,⟨some 6, none, .mv (.t 24)⟩,⟨some 7, none, .mv (.t 25)⟩] [])
 (.seq (.seq (.reg [⟨some 26, none, .mv (.t 7)⟩,⟨some 27, none, .bin .eql (.t 26) (.c (.i .i64 0))⟩,⟨some 28, none, .mv (.t 27)⟩,⟨some 29, some (28, true), .mv (.t 5)⟩,⟨some 30, some (28, true), .mv (.t 1)⟩,⟨some 31, some (28, true), .cvi .u64 (.t 30)⟩,⟨some 32, some (28, true), .bin .gtr (.t 29) (.t 31)⟩,⟨some 33, none, .pick (.t 28) (.t 32) (.c (.b false))⟩])
 (.cond (.t 33) (.reg [⟨some 7, none, .mv (.c (.i .i64 11))⟩])
 (.skip)))
 (.seq (.seq (.reg [⟨some 34, none, .mv (.t 0)⟩,⟨some 35, none, .mv (.t 7)⟩,⟨some 36, none, .nc (.t 34)⟩,⟨some 37, none, .fa 2 (.t 36)⟩,⟨none, none, .st 1 (.t 37) (.t 35)⟩])
 (.seq (.reg [⟨some 38, none, .mv (.t 7)⟩,⟨some 39, none, .bin .neq (.t 38) (.c (.i .i64 0))⟩])
 (.cond (.t 39) (.seq (.reg [⟨some 4, none, .mv (.c (.i .i64 0))⟩])
 (.ret))
 (.skip))))
 (.seq (.reg [⟨some 40, none, .mv (.t 0)⟩,⟨some 41, none, .nc (.t 40)⟩,⟨some 42, none, .fa 1 (.t 41)⟩,⟨some 43, none, .ld (.t 42)⟩,⟨some 44, none, .mv (.t 6)⟩,⟨some 45, none, .bin .add (.t 43) (.t 44)⟩,⟨some 46, none, .nc (.t 40)⟩,⟨some 47, none, .fa 1 (.t 46)⟩,⟨none, none, .st 1 (.t 47) (.t 45)⟩])
 (.seq (.reg [⟨some 48, none, .mv (.t 5)⟩,⟨some 49, none, .cvi .i64 (.t 48)⟩,⟨some 4, none, .mv (.t 49)⟩])
 (.ret)))))))
theorem fn146 : F 146 = .go 50 [.t 4] v146 := by rw [F, fnOf, Tryz.func146]; kernel_rfl

def v147 : VC :=
 .seq (.reg [⟨some 4, none, .mv (.c (.i .i64 0))⟩])
 (.seq (.seq (.reg [⟨some 8, none, .mv (.t 0)⟩,⟨some 9, none, .nc (.t 8)⟩,⟨some 10, none, .fa 2 (.t 9)⟩,⟨some 11, none, .ld (.t 10)⟩,⟨some 12, none, .bin .neq (.t 11) (.c (.i .i64 0))⟩])
 (.cond (.t 12) (.seq (.reg [⟨some 13, none, .mv (.t 1)⟩,⟨some 4, none, .mv (.t 13)⟩])
 (.ret))
 (.skip)))
 (.seq (.regd [⟨some 15, none, .mv (.t 0)⟩,⟨some 16, none, .nc (.t 15)⟩,⟨some 17, none, .fa 0 (.t 16)⟩,⟨some 18, none, .ld (.t 17)⟩,⟨some 19, none, .mv (.t 0)⟩,⟨some 20, none, .nc (.t 19)⟩,⟨some 21, none, .fa 1 (.t 20)⟩,⟨some 22, none, .ld (.t 21)⟩,⟨some 23, none, .call 195 [(.t 18), (.t 22)]⟩,⟨some 14, none, .mv (.t 23)⟩,⟨some 24, none, .ext (.t 14) 0⟩,⟨some 25, none, .ext (.t 14) 1⟩,⟨some 26, none, .ext (.t 14) 2⟩,⟨some 5, none, .mv (.t 24)⟩,⟨some 6, none, .mv (.t 25)⟩,⟨some 7, none, .mv (.t 26)⟩] [])
 (.seq (.seq (.reg [⟨some 27, none, .mv (.t 7)⟩,⟨some 28, none, .bin .eql (.t 27) (.c (.i .i64 0))⟩,⟨some 29, none, .mv (.t 28)⟩,⟨some 30, some (29, true), .mv (.t 5)⟩,⟨some 31, some (29, true), .bin .eql (.t 30) (.c (.i .i64 0))⟩,⟨some 32, none, .pick (.t 29) (.t 31) (.c (.b false))⟩])
 (.cond (.t 32) (.reg [⟨some 7, none, .mv (.c (.i .i64 11))⟩])
 (.skip)))
 (.seq (.seq (.reg [⟨some 33, none, .mv (.t 0)⟩,⟨some 34, none, .mv (.t 7)⟩,⟨some 35, none, .nc (.t 33)⟩,⟨some 36, none, .fa 2 (.t 35)⟩,⟨none, none, .st 1 (.t 36) (.t 34)⟩])
 (.seq (.reg [⟨some 37, none, .mv (.t 7)⟩,⟨some 38, none, .bin .neq (.t 37) (.c (.i .i64 0))⟩])
 (.cond (.t 38) (.seq (.reg [⟨some 39, none, .mv (.t 1)⟩,⟨some 4, none, .mv (.t 39)⟩])
 (.ret))
 (.skip))))
 (.seq (.reg [⟨some 40, none, .mv (.t 0)⟩,⟨some 41, none, .nc (.t 40)⟩,⟨some 42, none, .fa 1 (.t 41)⟩,⟨some 43, none, .ld (.t 42)⟩,⟨some 44, none, .mv (.t 6)⟩,⟨some 45, none, .bin .add (.t 43) (.t 44)⟩,⟨some 46, none, .nc (.t 40)⟩,⟨some 47, none, .fa 1 (.t 46)⟩,⟨none, none, .st 1 (.t 47) (.t 45)⟩])
 (.seq (.reg [⟨some 48, none, .mv (.t 1)⟩,⟨some 49, none, .mv (.t 5)⟩,⟨some 50, none, .bin .add (.t 48) (.t 49)⟩,⟨some 4, none, .mv (.t 50)⟩])
 (.ret)))))))
theorem fn147 : F 147 = .go 51 [.t 4] v147 := by rw [F, fnOf, Tryz.func147]; kernel_rfl

def v148 : VC :=
 .seq (.reg [⟨some 7, none, .mv (.t 0)⟩,⟨some 8, none, .mv (.t 1)⟩,⟨some 9, none, .len 1 (.t 8)⟩,⟨some 10, none, .call 146 [(.t 7), (.t 9)]⟩,⟨some 4, none, .mv (.t 10)⟩])
 (.seq (.seq (.reg [⟨some 11, none, .mv (.t 4)⟩,⟨some 12, none, .bin .eql (.t 11) (.c (.i .i64 0))⟩,⟨some 13, none, .mv (.t 12)⟩,⟨some 14, some (13, true), .mv (.t 0)⟩,⟨some 15, some (13, true), .nc (.t 14)⟩,⟨some 16, some (13, true), .fa 2 (.t 15)⟩,⟨some 17, some (13, true), .ld (.t 16)⟩,⟨some 18, some (13, true), .bin .eql (.t 17) (.c (.i .i64 0))⟩,⟨some 19, none, .pick (.t 13) (.t 18) (.c (.b false))⟩])
 (.cond (.t 19) (.reg [⟨some 20, none, .mv (.t 0)⟩,⟨some 21, none, .nc (.t 20)⟩,⟨some 22, none, .fa 2 (.t 21)⟩,⟨none, none, .st 1 (.t 22) (.c (.i .i64 11))⟩])
 (.skip)))
 (.seq (.reg [⟨some 5, none, .mv (.c (.i .i64 0))⟩])
 (.seq (.reg [⟨some 23, none, .mv (.t 4)⟩,⟨some 24, none, .mv (.c (.i .i64 0))⟩])
 (.blk 0 (.loop (.seq (.reg [⟨some 25, none, .bin .lss (.t 24) (.t 23)⟩])
 (.seq (.cond (.t 25) (.skip)
 (.exit 0))
 (.seq (.blk 1 (.seq (.reg [⟨some 26, none, .mv (.t 0)⟩,⟨some 27, none, .mv (.t 1)⟩,⟨some 28, none, .len 1 (.t 27)⟩,⟨some 29, none, .bin .sub (.t 28) (.c (.i .i64 1))⟩,⟨some 30, none, .mv (.t 5)⟩,⟨some 31, none, .bin .sub (.t 29) (.t 30)⟩,⟨some 32, none, .mx [(.t 31), (.c (.i .i64 0))]⟩,⟨some 33, none, .call 146 [(.t 26), (.t 32)]⟩,⟨some 6, none, .mv (.t 33)⟩])
 (.seq (.seq (.reg [⟨some 34, none, .mv (.t 0)⟩,⟨some 35, none, .nc (.t 34)⟩,⟨some 36, none, .fa 2 (.t 35)⟩,⟨some 37, none, .ld (.t 36)⟩,⟨some 38, none, .bin .eql (.t 37) (.c (.i .i64 0))⟩,⟨some 39, none, .mv (.t 38)⟩,⟨some 40, some (39, true), .mv (.t 5)⟩,⟨some 41, some (39, true), .mv (.t 1)⟩,⟨some 42, some (39, true), .len 1 (.t 41)⟩,⟨some 43, some (39, true), .bin .geq (.t 40) (.t 42)⟩,⟨some 44, none, .pick (.t 39) (.t 43) (.c (.b false))⟩])
 (.cond (.t 44) (.reg [⟨some 45, none, .mv (.t 0)⟩,⟨some 46, none, .nc (.t 45)⟩,⟨some 47, none, .fa 2 (.t 46)⟩,⟨none, none, .st 1 (.t 47) (.c (.i .i64 11))⟩])
 (.skip)))
 (.seq (.seq (.reg [⟨some 48, none, .mv (.t 0)⟩,⟨some 49, none, .nc (.t 48)⟩,⟨some 50, none, .fa 2 (.t 49)⟩,⟨some 51, none, .ld (.t 50)⟩,⟨some 52, none, .bin .neq (.t 51) (.c (.i .i64 0))⟩])
 (.cond (.t 52) (.ret)
 (.skip)))
 (.seq (.reg [⟨some 53, none, .mv (.t 5)⟩,⟨some 54, none, .mv (.t 6)⟩,⟨some 55, none, .bin .add (.t 53) (.t 54)⟩,⟨some 5, none, .mv (.t 55)⟩])
 (.seq (.reg [⟨some 56, none, .mv (.t 1)⟩,⟨some 57, none, .mv (.t 5)⟩,⟨some 58, none, .mv (.t 0)⟩,⟨some 59, none, .mv (.t 1)⟩,⟨some 60, none, .mv (.t 5)⟩,⟨some 61, none, .ia 1 (.t 59) (.t 60)⟩,⟨some 62, none, .ld (.t 61)⟩,⟨some 63, none, .call 147 [(.t 58), (.t 62)]⟩,⟨some 64, none, .ia 1 (.t 56) (.t 57)⟩,⟨none, none, .st 1 (.t 64) (.t 63)⟩])
 (.reg [⟨some 65, none, .mv (.t 5)⟩,⟨some 66, none, .bin .add (.t 65) (.c (.i .i64 1))⟩,⟨some 5, none, .mv (.t 66)⟩])))))))
 (.reg [⟨some 67, none, .bin .add (.t 24) (.c (.i .i64 1))⟩,⟨some 24, none, .mv (.t 67)⟩])))))))))
theorem fn148 : F 148 = .go 68 [] v148 := by rw [F, fnOf, Tryz.func148]; kernel_rfl

def v149 : VC :=
 .seq (.reg [⟨some 2, none, .box 8 (.t 0)⟩,⟨some 4, none, .mv (.c (.b false))⟩])
 (.seq (.seq (.reg [⟨some 8, none, .mv (.t 1)⟩,⟨some 9, none, .call 196 [(.t 8), (.c (.i .i64 0)), (.c (.i .i64 99))]⟩,⟨some 10, none, .un .not (.t 9)⟩,⟨some 11, none, .mv (.t 10)⟩,⟨some 12, some (11, false), .fa 7 (.t 2)⟩,⟨some 13, some (11, false), .ld (.t 12)⟩,⟨some 14, some (11, false), .len 1 (.t 13)⟩,⟨some 15, some (11, false), .mv (.t 1)⟩,⟨some 16, some (11, false), .bin .add (.t 15) (.c (.i .i64 1))⟩,⟨some 17, some (11, false), .bin .mul (.c (.i .i64 2)) (.t 16)⟩,⟨some 18, some (11, false), .bin .neq (.t 14) (.t 17)⟩,⟨some 19, none, .pick (.t 11) (.c (.b true)) (.t 18)⟩])
 (.cond (.t 19) (.seq (.reg [⟨some 4, none, .mv (.c (.b false))⟩])
 (.ret))
 (.skip)))
 (.seq (.reg [⟨some 20, none, .fa 0 (.t 2)⟩,⟨some 21, none, .ld (.t 20)⟩,⟨some 22, none, .call 196 [(.t 21), (.c (.i .i64 1)), (.c (.i .i64 14))]⟩,⟨some 23, none, .mv (.t 22)⟩,⟨some 24, some (23, true), .fa 1 (.t 2)⟩,⟨some 25, some (23, true), .ld (.t 24)⟩,⟨some 26, some (23, true), .call 196 [(.t 25), (.c (.i .i64 0)), (.c (.i .i64 16384))]⟩,⟨some 27, none, .pick (.t 23) (.t 26) (.c (.b false))⟩,⟨some 28, none, .mv (.t 27)⟩,⟨some 29, some (28, true), .fa 2 (.t 2)⟩,⟨some 30, some (28, true), .ld (.t 29)⟩,⟨some 31, some (28, true), .call 196 [(.t 30), (.c (.i .i64 0)), (.c (.i .i64 16384))]⟩,⟨some 32, none, .pick (.t 28) (.t 31) (.c (.b false))⟩,⟨some 5, none, .mv (.t 32)⟩])
 (.seq (.reg [⟨some 33, none, .fa 3 (.t 2)⟩,⟨some 34, none, .ld (.t 33)⟩,⟨some 35, none, .call 196 [(.t 34), (.c (.i .i64 0)), (.c (.i .i64 65536))]⟩,⟨some 36, none, .mv (.t 35)⟩,⟨some 37, some (36, true), .fa 4 (.t 2)⟩,⟨some 38, some (36, true), .ld (.t 37)⟩,⟨some 39, some (36, true), .call 196 [(.t 38), (.c (.i .i64 0)), (.c (.i .i64 65536))]⟩,⟨some 40, none, .pick (.t 36) (.t 39) (.c (.b false))⟩,⟨some 6, none, .mv (.t 40)⟩])
 (.seq (.reg [⟨some 41, none, .fa 5 (.t 2)⟩,⟨some 42, none, .ld (.t 41)⟩,⟨some 43, none, .call 196 [(.t 42), (.c (.i .i64 0)), (.c (.i .i64 65536))]⟩,⟨some 44, none, .mv (.t 43)⟩,⟨some 45, some (44, true), .fa 6 (.t 2)⟩,⟨some 46, some (44, true), .ld (.t 45)⟩,⟨some 47, some (44, true), .call 196 [(.t 46), (.c (.i .i64 (-1))), (.c (.i .i64 1048576))]⟩,⟨some 48, none, .pick (.t 44) (.t 47) (.c (.b false))⟩,⟨some 7, none, .mv (.t 48)⟩])
 (.seq (.reg [⟨some 49, none, .mv (.t 5)⟩,⟨some 50, none, .mv (.t 49)⟩,⟨some 51, some (50, true), .mv (.t 6)⟩,⟨some 52, none, .pick (.t 50) (.t 51) (.c (.b false))⟩,⟨some 53, none, .mv (.t 52)⟩,⟨some 54, some (53, true), .mv (.t 7)⟩,⟨some 55, none, .pick (.t 53) (.t 54) (.c (.b false))⟩,⟨some 56, none, .mv (.t 55)⟩,⟨some 57, some (56, true), .fa 7 (.t 2)⟩,⟨some 58, some (56, true), .ld (.t 57)⟩,⟨some 59, some (56, true), .call 197 [(.t 58), (.c (.f 198 [] []))]⟩,⟨some 60, some (56, true), .un .not (.t 59)⟩,⟨some 61, none, .pick (.t 56) (.t 60) (.c (.b false))⟩,⟨some 4, none, .mv (.t 61)⟩])
 (.ret))))))
theorem fn149 : F 149 = .go 62 [.t 4] v149 := by rw [F, fnOf, Tryz.func149]; kernel_rfl

def v150 : VC :=
 .seq (.reg [⟨some 1, none, .box 8 (.t 0)⟩,⟨some 2, none, .mv (.c (.i .i64 0))⟩])
 (.seq (.reg [⟨some 3, none, .fa 7 (.t 1)⟩,⟨some 4, none, .ld (.t 3)⟩,⟨some 5, none, .len 1 (.t 4)⟩,⟨some 6, none, .bin .quo (.t 5) (.c (.i .i64 2))⟩,⟨some 7, none, .bin .sub (.t 6) (.c (.i .i64 1))⟩,⟨some 2, none, .mv (.t 7)⟩])
 (.ret))
theorem fn150 : F 150 = .go 8 [.t 2] v150 := by rw [F, fnOf, Tryz.func150]; kernel_rfl

def v151 : VC :=
 .seq (.reg [⟨some 2, none, .box 8 (.t 0)⟩,⟨some 3, none, .box 8 (.t 1)⟩,⟨some 4, none, .mv (.c (.sl none 0 0 true))⟩,⟨some 5, none, .mv (.c (.i .i64 0))⟩])
 (.seq (.seq (.regd [⟨some 13, none, .ldn 8 (.t 2)⟩,⟨some 14, none, .call 145 [(.t 13)]⟩,⟨some 15, none, .un .not (.t 14)⟩,⟨some 16, none, .mv (.t 15)⟩,⟨some 17, some (16, false), .ldn 8 (.t 3)⟩,⟨some 18, some (16, false), .ldn 8 (.t 2)⟩,⟨some 19, some (16, false), .call 150 [(.t 18)]⟩,⟨some 20, some (16, false), .call 149 [(.t 17), (.t 19)]⟩,⟨some 21, some (16, false), .un .not (.t 20)⟩,⟨some 22, none, .pick (.t 16) (.c (.b true)) (.t 21)⟩] [(4, 6)])
 (.cond (.t 22) (.seq (.reg [⟨some 4, none, .mv (.c (.sl none 0 0 true))⟩,⟨some 5, none, .mv (.c (.i .i64 11))⟩])
 (.ret))
 (.skip)))
 (.seq (.regd [⟨some 6, none, .alloc 285 [(.i .i64 0), (.i .i64 0), (.i .i64 0), (.i .i64 0), (.i .i64 0), (.i .i64 0)]⟩,⟨some 7, none, .alloc 285 [(.i .i64 0), (.i .i64 0), (.i .i64 0), (.i .i64 0), (.i .i64 0), (.i .i64 0)]⟩,⟨some 23, none, .ldn 8 (.t 2)⟩,⟨some 24, none, .call 199 [(.t 23)]⟩,⟨some 25, none, .ldn 8 (.t 3)⟩,⟨some 26, none, .call 199 [(.t 25)]⟩,⟨none, none, .st 6 (.t 6) (.t 24)⟩,⟨none, none, .st 6 (.t 7) (.t 26)⟩] [(4, 3)])
 (.seq (.reg [⟨some 8, none, .mv (.c (.i .u64 0))⟩])
 (.seq (.reg [⟨some 9, none, .mv (.c (.sl none 0 0 true))⟩])
 (.seq (.seq (.reg [⟨some 27, none, .mv (.c (.i .i64 0))⟩])
 (.blk 0 (.loop (.seq (.reg [⟨some 28, none, .bin .lss (.t 27) (.c (.i .i64 6))⟩])
 (.seq (.cond (.t 28) (.skip)
 (.exit 0))
 (.seq (.blk 1 (.seq (.reg [⟨some 29, none, .mv (.t 27)⟩,⟨some 10, none, .mv (.t 29)⟩])
 (.seq (.regd [⟨some 30, none, .mv (.t 10)⟩,⟨some 31, none, .iaA 6 1 (.t 6) (.t 30)⟩,⟨some 32, none, .ld (.t 31)⟩,⟨some 33, none, .mv (.t 10)⟩,⟨some 34, none, .iaA 6 1 (.t 7) (.t 33)⟩,⟨some 35, none, .ld (.t 34)⟩,⟨some 36, none, .bin .neq (.t 32) (.t 35)⟩] [])
 (.cond (.t 36) (.seq (.reg [⟨some 37, none, .mv (.t 8)⟩,⟨some 38, none, .mv (.t 10)⟩,⟨some 39, none, .bin .shl (.c (.i .u64 1)) (.t 38)⟩,⟨some 40, none, .bin .or (.t 37) (.t 39)⟩,⟨some 8, none, .mv (.t 40)⟩])
 (.regd [⟨some 41, none, .mv (.t 9)⟩,⟨some 42, none, .mv (.t 10)⟩,⟨some 43, none, .iaA 6 1 (.t 7) (.t 42)⟩,⟨some 44, none, .ld (.t 43)⟩,⟨some 45, none, .mv (.t 10)⟩,⟨some 46, none, .iaA 6 1 (.t 6) (.t 45)⟩,⟨some 47, none, .ld (.t 46)⟩,⟨some 48, none, .bin .sub (.t 44) (.t 47)⟩,⟨some 49, none, .call 200 [(.t 48)]⟩,⟨some 50, none, .app ⟨1, (some 5)⟩ 1 (.t 41) (.t 49)⟩,⟨some 9, none, .mv (.t 50)⟩] []))
 (.skip)))))
 (.reg [⟨some 51, none, .bin .add (.t 27) (.c (.i .i64 1))⟩,⟨some 27, none, .mv (.t 51)⟩])))))))
 (.seq (.reg [⟨some 52, none, .fa 7 (.t 2)⟩,⟨some 53, none, .ld (.t 52)⟩,⟨some 54, none, .fa 7 (.t 3)⟩,⟨some 55, none, .ld (.t 54)⟩,⟨some 56, none, .call 201 [(.t 53), (.t 55)]⟩,⟨some 11, none, .mv (.t 56)⟩])
 (.seq (.seq (.reg [⟨some 57, none, .mv (.t 11)⟩,⟨some 58, none, .ia 1 (.t 57) (.c (.i .i64 0))⟩,⟨some 59, none, .ld (.t 58)⟩,⟨some 60, none, .bin .gtr (.t 59) (.c (.i .u8 0))⟩])
 (.cond (.t 60) (.seq (.reg [⟨some 61, none, .mv (.t 8)⟩,⟨some 62, none, .bin .or (.t 61) (.c (.i .u64 64))⟩,⟨some 8, none, .mv (.t 62)⟩])
 (.reg [⟨some 63, none, .mv (.t 9)⟩,⟨some 64, none, .mv (.t 11)⟩,⟨some 65, none, .app ⟨1, (some 5)⟩ 1 (.t 63) (.t 64)⟩,⟨some 9, none, .mv (.t 65)⟩]))
 (.skip)))
 (.seq (.reg [⟨some 66, none, .fa 0 (.t 3)⟩,⟨some 67, none, .ld (.t 66)⟩,⟨some 68, none, .cvi .u64 (.t 67)⟩,⟨some 69, none, .call 105 [(.t 68)]⟩,⟨some 70, none, .mv (.t 8)⟩,⟨some 71, none, .call 105 [(.t 70)]⟩,⟨some 72, none, .app ⟨1, (some 5)⟩ 1 (.t 69) (.t 71)⟩,⟨some 12, none, .mv (.t 72)⟩])
 (.seq (.reg [⟨some 73, none, .mv (.t 12)⟩,⟨some 74, none, .mv (.t 9)⟩,⟨some 75, none, .app ⟨1, (some 5)⟩ 1 (.t 73) (.t 74)⟩,⟨some 4, none, .mv (.t 75)⟩,⟨some 5, none, .mv (.c (.i .i64 0))⟩])
 (.ret))))))))))
theorem fn151 : F 151 = .go 76 [.t 4, .t 5] v151 := by rw [F, fnOf, Tryz.func151]; kernel_rfl

def v152 : VC :=
 .seq (.reg [⟨some 4, none, .alloc 232 [(.i .i64 0), (.i .i64 0), (.i .i64 0), (.i .i64 0), (.i .i64 0), (.i .i64 0), (.i .i64 0), (.s ⟨#[]⟩), (.sl none 0 0 true), (.sl none 0 0 true), (.sl none 0 0 true)]⟩])
 (.seq (.reg [⟨some 7, none, .mv (.t 0)⟩,⟨some 8, none, .nc (.t 7)⟩,⟨some 9, none, .fa 1 (.t 8)⟩,⟨some 10, none, .ld (.t 9)⟩,⟨some 5, none, .mv (.t 10)⟩])
 (.seq (.reg [⟨some 11, none, .mv (.t 0)⟩,⟨some 12, none, .mv (.t 1)⟩,⟨some 13, none, .call 202 [(.t 11), (.t 12)]⟩,⟨some 14, none, .bsl 11 1 [(.i .i64 0), (.i .i64 0), (.i .i64 0), (.i .i64 0), (.i .i64 0), (.i .i64 0), (.i .i64 0), (.s ⟨#[]⟩), (.sl none 0 0 true), (.sl none 0 0 true), (.sl none 0 0 true)] [(0, 11, (.t 13))]⟩,⟨some 6, none, .mv (.t 14)⟩])
 (.seq (.blk 0 (.loop (.seq (.seq (.reg [⟨some 15, none, .mv (.t 0)⟩,⟨some 16, none, .call 153 [(.t 15)]⟩,⟨some 17, none, .un .not (.t 16)⟩,⟨some 18, none, .mv (.t 17)⟩,⟨some 19, some (18, true), .mv (.t 0)⟩,⟨some 20, some (18, true), .mv (.t 0)⟩,⟨some 21, some (18, true), .nc (.t 20)⟩,⟨some 22, some (18, true), .fa 1 (.t 21)⟩,⟨some 23, some (18, true), .ld (.t 22)⟩,⟨some 24, some (18, true), .call 203 [(.t 19), (.t 23)]⟩,⟨some 25, some (18, true), .bin .eql (.t 24) (.c (.i .u8 124))⟩,⟨some 26, none, .pick (.t 18) (.t 25) (.c (.b false))⟩])
 (.cond (.t 26) (.skip)
 (.exit 0)))
 (.blk 1 (.seq (.reg [⟨some 27, none, .mv (.t 0)⟩,⟨some 28, none, .nc (.t 27)⟩,⟨some 29, none, .fa 1 (.t 28)⟩,⟨some 30, none, .ld (.t 29)⟩,⟨some 31, none, .bin .add (.t 30) (.c (.i .i64 1))⟩,⟨some 32, none, .nc (.t 27)⟩,⟨some 33, none, .fa 1 (.t 32)⟩,⟨none, none, .st 1 (.t 33) (.t 31)⟩])
 (.reg [⟨some 34, none, .mv (.t 6)⟩,⟨some 35, none, .mv (.t 0)⟩,⟨some 36, none, .mv (.t 1)⟩,⟨some 37, none, .call 202 [(.t 35), (.t 36)]⟩,⟨some 38, none, .bsl 11 1 [(.i .i64 0), (.i .i64 0), (.i .i64 0), (.i .i64 0), (.i .i64 0), (.i .i64 0), (.i .i64 0), (.s ⟨#[]⟩), (.sl none 0 0 true), (.sl none 0 0 true), (.sl none 0 0 true)] [(0, 11, (.t 37))]⟩,⟨some 39, none, .app ⟨11, (some 232)⟩ 144 (.t 34) (.t 38)⟩,⟨some 6, none, .mv (.t 39)⟩]))))))
 (.seq (.seq (.reg [⟨some 40, none, .mv (.t 6)⟩,⟨some 41, none, .len 1 (.t 40)⟩,⟨some 42, none, .bin .eql (.t 41) (.c (.i .i64 1))⟩])
 (.cond (.t 42) (.seq (.reg [⟨some 43, none, .mv (.t 6)⟩,⟨some 44, none, .ia 11 (.t 43) (.c (.i .i64 0))⟩,⟨some 45, none, .ldn 11 (.t 44)⟩,⟨none, none, .st 11 (.t 4) (.t 45)⟩])
 (.ret))
 (.skip)))
 (.seq (.reg [⟨some 46, none, .mv (.t 5)⟩,⟨some 47, none, .mv (.t 0)⟩,⟨some 48, none, .nc (.t 47)⟩,⟨some 49, none, .fa 1 (.t 48)⟩,⟨some 50, none, .ld (.t 49)⟩,⟨some 51, none, .build [(.i .i64 0), (.i .i64 0), (.i .i64 0), (.i .i64 0), (.i .i64 0), (.i .i64 0), (.i .i64 0), (.s ⟨#[]⟩), (.sl none 0 0 true), (.sl none 0 0 true)] [(0, 1, (.c (.i .i64 6))), (1, 1, (.t 46)), (2, 1, (.t 50))]⟩,⟨some 52, none, .mv (.t 6)⟩,⟨some 53, none, .build [(.i .i64 0), (.i .i64 0), (.i .i64 0), (.i .i64 0), (.i .i64 0), (.i .i64 0), (.i .i64 0), (.s ⟨#[]⟩), (.sl none 0 0 true), (.sl none 0 0 true), (.sl none 0 0 true)] [(0, 10, (.t 51)), (10, 1, (.t 52))]⟩,⟨none, none, .st 11 (.t 4) (.t 53)⟩])
 (.ret))))))
theorem fn152 : F 152 = .go 54 [.c 4 (some 11)] v152 := by rw [F, fnOf, Tryz.func152]; kernel_rfl

def v153 : VC :=
 .seq (.reg [⟨some 2, none, .mv (.c (.b false))⟩])
 (.seq (.regd [⟨some 3, none, .mv (.t 0)⟩,⟨some 4, none, .nc (.t 3)⟩,⟨some 5, none, .fa 8 (.t 4)⟩,⟨some 6, none, .ld (.t 5)⟩,⟨some 7, none, .bin .neq (.t 6) (.c (.i .i64 0))⟩,⟨some 8, none, .mv (.t 7)⟩,⟨some 9, some (8, false), .mv (.t 0)⟩,⟨some 10, some (8, false), .nc (.t 9)⟩,⟨some 11, some (8, false), .fa 1 (.t 10)⟩,⟨some 12, some (8, false), .ld (.t 11)⟩,⟨some 13, some (8, false), .mv (.t 0)⟩,⟨some 14, some (8, false), .nc (.t 13)⟩,⟨some 15, some (8, false), .fa 0 (.t 14)⟩,⟨some 16, some (8, false), .ld (.t 15)⟩,⟨some 17, some (8, false), .len 1 (.t 16)⟩,⟨some 18, some (8, false), .bin .geq (.t 12) (.t 17)⟩,⟨some 19, none, .pick (.t 8) (.c (.b true)) (.t 18)⟩,⟨some 2, none, .mv (.t 19)⟩] [])
 (.ret))
theorem fn153 : F 153 = .go 20 [.t 2] v153 := by rw [F, fnOf, Tryz.func153]; kernel_rfl

def v154 : VC :=
 .seq (.reg [⟨some 6, none, .mv (.t 0)⟩,⟨some 7, none, .nc (.t 6)⟩,⟨some 8, none, .fa 8 (.t 7)⟩,⟨some 9, none, .ld (.t 8)⟩,⟨some 10, none, .bin .eql (.t 9) (.c (.i .i64 0))⟩])
 (.cond (.t 10) (.reg [⟨some 11, none, .mv (.t 0)⟩,⟨some 12, none, .mv (.t 0)⟩,⟨some 13, none, .mv (.t 1)⟩,⟨some 14, none, .mv (.t 2)⟩,⟨some 15, none, .nc (.t 11)⟩,⟨some 16, none, .fa 8 (.t 15)⟩,⟨none, none, .st 1 (.t 16) (.t 13)⟩,⟨some 17, none, .nc (.t 12)⟩,⟨some 18, none, .fa 9 (.t 17)⟩,⟨none, none, .st 1 (.t 18) (.t 14)⟩])
 (.skip))
theorem fn154 : F 154 = .go 19 [] v154 := by rw [F, fnOf, Tryz.func154]; kernel_rfl

def v155 : VC :=
 .seq (.reg [⟨some 2, none, .box 11 (.t 0)⟩,⟨some 4, none, .mv (.c (.sl none 0 0 true))⟩])
 (.seq (.reg [⟨some 9, none, .mv (.t 1)⟩,⟨some 10, none, .len 1 (.t 9)⟩,⟨some 5, none, .mv (.t 10)⟩])
 (.seq (.reg [⟨some 11, none, .mv (.t 1)⟩,⟨some 12, none, .fa 0 (.t 2)⟩,⟨some 13, none, .ldn 10 (.t 12)⟩,⟨some 14, none, .bsl 10 1 [(.i .i64 0), (.i .i64 0), (.i .i64 0), (.i .i64 0), (.i .i64 0), (.i .i64 0), (.i .i64 0), (.s ⟨#[]⟩), (.sl none 0 0 true), (.sl none 0 0 true)] [(0, 10, (.t 13))]⟩,⟨some 15, none, .app ⟨10, (some 209)⟩ 120 (.t 11) (.t 14)⟩,⟨some 1, none, .mv (.t 15)⟩])
 (.seq (.reg [⟨some 6, none, .mv (.c (.sl none 0 0 true))⟩])
 (.seq (.seq (.reg [⟨some 16, none, .fa 10 (.t 2)⟩,⟨some 17, none, .ld (.t 16)⟩,⟨some 18, none, .len 1 (.t 17)⟩,⟨some 19, none, .mv (.c (.i .i64 0))⟩])
 (.blk 0 (.loop (.seq (.reg [⟨some 20, none, .bin .lss (.t 19) (.t 18)⟩])
 (.seq (.cond (.t 20) (.skip)
 (.exit 0))
 (.seq (.blk 1 (.seq (.reg [⟨some 21, none, .ia 11 (.t 17) (.t 19)⟩,⟨some 22, none, .ldn 11 (.t 21)⟩,⟨some 8, none, .alloc 232 [(.i .i64 0), (.i .i64 0), (.i .i64 0), (.i .i64 0), (.i .i64 0), (.i .i64 0), (.i .i64 0), (.s ⟨#[]⟩), (.sl none 0 0 true), (.sl none 0 0 true), (.sl none 0 0 true)]⟩,⟨none, none, .st 11 (.t 8) (.t 22)⟩])
 (.seq (.reg [⟨some 23, none, .mv (.t 6)⟩,⟨some 24, none, .mv (.t 1)⟩,⟨some 25, none, .len 1 (.t 24)⟩,⟨some 26, none, .bsl 1 1 [(.i .i64 0)] [(0, 1, (.t 25))]⟩,⟨some 27, none, .app ⟨1, (some 3)⟩ 8 (.t 23) (.t 26)⟩,⟨some 6, none, .mv (.t 27)⟩])
 (.reg [⟨some 28, none, .ldn 11 (.t 8)⟩,⟨some 29, none, .mv (.t 1)⟩,⟨some 30, none, .call 155 [(.t 28), (.t 29)]⟩,⟨some 1, none, .mv (.t 30)⟩]))))
 (.reg [⟨some 31, none, .bin .add (.t 19) (.c (.i .i64 1))⟩,⟨some 19, none, .mv (.t 31)⟩])))))))
 (.seq (.reg [⟨some 32, none, .mv (.t 1)⟩,⟨some 33, none, .mv (.t 5)⟩,⟨some 34, none, .mv (.t 6)⟩,⟨some 35, none, .ia 10 (.t 32) (.t 33)⟩,⟨some 36, none, .fa 9 (.t 35)⟩,⟨none, none, .st 1 (.t 36) (.t 34)⟩])
 (.seq (.reg [⟨some 37, none, .mv (.t 1)⟩,⟨some 4, none, .mv (.t 37)⟩])
 (.ret)))))))
theorem fn155 : F 155 = .go 38 [.t 4] v155 := by rw [F, fnOf, Tryz.func155]; kernel_rfl

def v156 : VC :=
 .seq (.reg [⟨some 4, none, .mv (.c (.i .i64 0))⟩])
 (.seq (.seq (.reg [⟨some 6, none, .mv (.t 0)⟩,⟨some 7, none, .len 1 (.t 6)⟩,⟨some 8, none, .mv (.c (.i .i64 0))⟩])
 (.blk 0 (.loop (.seq (.reg [⟨some 9, none, .bin .lss (.t 8) (.t 7)⟩])
 (.seq (.cond (.t 9) (.skip)
 (.exit 0))
 (.seq (.blk 1 (.seq (.reg [⟨some 10, none, .mv (.t 8)⟩,⟨some 5, none, .mv (.t 10)⟩])
 (.seq (.reg [⟨some 11, none, .mv (.t 1)⟩,⟨some 12, none, .mv (.t 0)⟩,⟨some 13, none, .mv (.t 5)⟩,⟨some 14, none, .ia 1 (.t 12) (.t 13)⟩,⟨some 15, none, .ld (.t 14)⟩,⟨some 16, none, .bin .eql (.t 11) (.t 15)⟩])
 (.cond (.t 16) (.seq (.reg [⟨some 17, none, .mv (.t 5)⟩,⟨some 4, none, .mv (.t 17)⟩])
 (.ret))
 (.skip)))))
 (.reg [⟨some 18, none, .bin .add (.t 8) (.c (.i .i64 1))⟩,⟨some 8, none, .mv (.t 18)⟩])))))))
 (.seq (.reg [⟨some 4, none, .mv (.c (.i .i64 (-1)))⟩])
 (.ret)))
theorem fn156 : F 156 = .go 19 [.t 4] v156 := by rw [F, fnOf, Tryz.func156]; kernel_rfl

def v157 : VC :=
 .seq (.reg [⟨some 3, none, .box 3 (.t 0)⟩,⟨some 4, none, .box 10 (.t 1)⟩,⟨some 6, none, .mv (.c (.i .i64 0))⟩])
 (.seq (.blk 0 (.seq (.reg [⟨some 9, none, .fa 0 (.t 4)⟩,⟨some 10, none, .ld (.t 9)⟩,⟨some 11, none, .bin .eql (.t 10) (.c (.i .i64 4))⟩,⟨some 12, none, .mv (.t 11)⟩,⟨some 13, some (12, true), .fa 3 (.t 4)⟩,⟨some 14, some (12, true), .ld (.t 13)⟩,⟨some 15, some (12, true), .bin .lss (.t 14) (.c (.i .i64 1))⟩,⟨some 16, some (12, true), .mv (.t 15)⟩,⟨some 17, some (16, false), .fa 3 (.t 4)⟩,⟨some 18, some (16, false), .ld (.t 17)⟩,⟨some 19, some (16, false), .fa 1 (.t 3)⟩,⟨some 20, some (16, false), .ld (.t 19)⟩,⟨some 21, some (16, false), .bin .gtr (.t 18) (.t 20)⟩,⟨some 22, some (12, true), .pick (.t 16) (.c (.b true)) (.t 21)⟩,⟨some 23, none, .pick (.t 12) (.t 22) (.c (.b false))⟩,⟨some 8, none, .mv (.t 23)⟩])
 (.cond (.t 8) (.seq (.reg [⟨some 6, none, .mv (.c (.i .i64 38))⟩])
 (.ret))
 (.seq (.reg [⟨some 25, none, .fa 0 (.t 4)⟩,⟨some 26, none, .ld (.t 25)⟩,⟨some 27, none, .bin .neq (.t 26) (.c (.i .i64 10))⟩,⟨some 28, none, .mv (.t 27)⟩,⟨some 29, some (28, false), .fa 3 (.t 4)⟩,⟨some 30, some (28, false), .ld (.t 29)⟩,⟨some 31, some (28, false), .bin .neq (.t 30) (.c (.i .i64 3))⟩,⟨some 32, some (28, false), .mv (.t 31)⟩,⟨some 33, some (32, true), .fa 3 (.t 4)⟩,⟨some 34, some (32, true), .ld (.t 33)⟩,⟨some 35, some (32, true), .bin .neq (.t 34) (.c (.i .i64 4))⟩,⟨some 36, some (28, false), .pick (.t 32) (.t 35) (.c (.b false))⟩,⟨some 37, none, .pick (.t 28) (.c (.b true)) (.t 36)⟩,⟨some 24, none, .mv (.t 37)⟩])
 (.cond (.t 24) (.seq (.reg [⟨some 6, none, .mv (.c (.i .i64 0))⟩])
 (.ret))
 (.skip))))))
 (.seq (.seq (.reg [⟨some 38, none, .mv (.t 2)⟩,⟨some 39, none, .fa 9 (.t 4)⟩,⟨some 40, none, .ld (.t 39)⟩,⟨some 41, none, .ia 1 (.t 40) (.c (.i .i64 0))⟩,⟨some 42, none, .ld (.t 41)⟩,⟨some 43, none, .ia 2 (.t 38) (.t 42)⟩,⟨some 44, none, .ldn 2 (.t 43)⟩,⟨some 7, none, .alloc 242 [(.i .i64 0), (.i .i64 0)]⟩,⟨none, none, .st 2 (.t 7) (.t 44)⟩])
 (.seq (.reg [⟨some 45, none, .fa 1 (.t 7)⟩,⟨some 46, none, .ld (.t 45)⟩,⟨some 47, none, .bin .eql (.t 46) (.c (.i .i64 (-1)))⟩,⟨some 48, none, .mv (.t 47)⟩,⟨some 49, some (48, false), .fa 1 (.t 7)⟩,⟨some 50, some (48, false), .ld (.t 49)⟩,⟨some 51, some (48, false), .bin .gtr (.t 50) (.c (.i .i64 255))⟩,⟨some 52, none, .pick (.t 48) (.c (.b true)) (.t 51)⟩])
 (.cond (.t 52) (.seq (.reg [⟨some 6, none, .mv (.c (.i .i64 41))⟩])
 (.ret))
 (.skip))))
 (.seq (.reg [⟨some 6, none, .mv (.c (.i .i64 0))⟩])
 (.ret))))
theorem fn157 : F 157 = .go 53 [.t 6] v157 := by rw [F, fnOf, Tryz.func157]; kernel_rfl

def v158 : VC :=
 .seq (.reg [⟨some 1, none, .box 1 (.t 0)⟩,⟨some 2, none, .mv (.c .nf)⟩])
 (.seq (.reg [⟨some 3, none, .fnc 204 [] [(.t 1)]⟩,⟨some 2, none, .mv (.t 3)⟩])
 (.ret))
theorem fn158 : F 158 = .go 4 [.t 2] v158 := by rw [F, fnOf, Tryz.func158]; kernel_rfl

def v159 : VC :=
 .seq (.reg [⟨some 2, none, .box 10 (.t 0)⟩,⟨some 4, none, .alloc 242 [(.i .i64 0), (.i .i64 0)]⟩])
 (.seq (.seq (.reg [⟨some 11, none, .fa 0 (.t 2)⟩,⟨some 12, none, .ld (.t 11)⟩])
 (.blk 0 (.seq (.reg [⟨some 14, none, .bin .eql (.t 12) (.c (.i .i64 2))⟩,⟨some 13, none, .mv (.t 14)⟩])
 (.cond (.t 13) (.seq (.reg [⟨some 15, none, .build [(.i .i64 0), (.i .i64 0)] [(0, 1, (.c (.i .i64 1))), (1, 1, (.c (.i .i64 1)))]⟩,⟨none, none, .st 2 (.t 4) (.t 15)⟩])
 (.ret))
 (.seq (.reg [⟨some 17, none, .bin .eql (.t 12) (.c (.i .i64 4))⟩,⟨some 16, none, .mv (.t 17)⟩])
 (.cond (.t 16) (.seq (.reg [⟨some 18, none, .build [(.i .i64 0), (.i .i64 0)] [(0, 1, (.c (.i .i64 0))), (1, 1, (.c (.i .i64 (-1))))]⟩,⟨none, none, .st 2 (.t 4) (.t 18)⟩])
 (.ret))
 (.seq (.seq (.reg [⟨some 20, none, .bin .eql (.t 12) (.c (.i .i64 7))⟩,⟨some 19, none, .mv (.t 20)⟩])
 (.cond (.t 19) (.skip)
 (.reg [⟨some 21, none, .bin .eql (.t 12) (.c (.i .i64 9))⟩,⟨some 19, none, .mv (.t 21)⟩])))
 (.cond (.t 19) (.seq (.reg [⟨some 22, none, .mv (.t 1)⟩,⟨some 23, none, .fa 9 (.t 2)⟩,⟨some 24, none, .ld (.t 23)⟩,⟨some 25, none, .ia 1 (.t 24) (.c (.i .i64 0))⟩,⟨some 26, none, .ld (.t 25)⟩,⟨some 27, none, .ia 2 (.t 22) (.t 26)⟩,⟨some 28, none, .ldn 2 (.t 27)⟩,⟨none, none, .st 2 (.t 4) (.t 28)⟩])
 (.ret))
 (.seq (.reg [⟨some 30, none, .bin .eql (.t 12) (.c (.i .i64 8))⟩,⟨some 29, none, .mv (.t 30)⟩])
 (.cond (.t 29) (.seq (.regd [⟨some 31, none, .mv (.t 1)⟩,⟨some 32, none, .fa 9 (.t 2)⟩,⟨some 33, none, .ld (.t 32)⟩,⟨some 34, none, .ia 1 (.t 33) (.c (.i .i64 0))⟩,⟨some 35, none, .ld (.t 34)⟩,⟨some 36, none, .ia 2 (.t 31) (.t 35)⟩,⟨some 37, none, .ldn 2 (.t 36)⟩,⟨some 38, none, .fa 4 (.t 2)⟩,⟨some 39, none, .ld (.t 38)⟩,⟨some 40, none, .fa 5 (.t 2)⟩,⟨some 41, none, .ld (.t 40)⟩,⟨some 42, none, .call 206 [(.t 37), (.t 39), (.t 41)]⟩,⟨none, none, .st 2 (.t 4) (.t 42)⟩] [])
 (.ret))
 (.seq (.reg [⟨some 44, none, .bin .eql (.t 12) (.c (.i .i64 5))⟩,⟨some 43, none, .mv (.t 44)⟩])
 (.cond (.t 43) (.seq (.reg [⟨some 5, none, .alloc 242 [(.i .i64 0), (.i .i64 0)]⟩])
 (.seq (.seq (.reg [⟨some 45, none, .fa 9 (.t 2)⟩,⟨some 46, none, .ld (.t 45)⟩,⟨some 47, none, .len 1 (.t 46)⟩,⟨some 48, none, .mv (.c (.i .i64 0))⟩])
 (.blk 1 (.loop (.seq (.reg [⟨some 49, none, .bin .lss (.t 48) (.t 47)⟩])
 (.seq (.cond (.t 49) (.skip)
 (.exit 1))
 (.seq (.blk 2 (.seq (.reg [⟨some 50, none, .ia 1 (.t 46) (.t 48)⟩,⟨some 51, none, .ld (.t 50)⟩,⟨some 7, none, .mv (.t 51)⟩])
 (.regd [⟨some 52, none, .ldn 2 (.t 5)⟩,⟨some 53, none, .mv (.t 1)⟩,⟨some 54, none, .mv (.t 7)⟩,⟨some 55, none, .ia 2 (.t 53) (.t 54)⟩,⟨some 56, none, .ldn 2 (.t 55)⟩,⟨some 57, none, .call 207 [(.t 52), (.t 56)]⟩,⟨none, none, .st 2 (.t 5) (.t 57)⟩] [])))
 (.reg [⟨some 58, none, .bin .add (.t 48) (.c (.i .i64 1))⟩,⟨some 48, none, .mv (.t 58)⟩])))))))
 (.seq (.reg [⟨some 59, none, .ldn 2 (.t 5)⟩,⟨none, none, .st 2 (.t 4) (.t 59)⟩])
 (.ret))))
 (.seq (.reg [⟨some 61, none, .bin .eql (.t 12) (.c (.i .i64 6))⟩,⟨some 60, none, .mv (.t 61)⟩])
 (.cond (.t 60) (.seq (.reg [⟨some 62, none, .mv (.t 1)⟩,⟨some 63, none, .fa 9 (.t 2)⟩,⟨some 64, none, .ld (.t 63)⟩,⟨some 65, none, .ia 1 (.t 64) (.c (.i .i64 0))⟩,⟨some 66, none, .ld (.t 65)⟩,⟨some 67, none, .ia 2 (.t 62) (.t 66)⟩,⟨some 68, none, .ldn 2 (.t 67)⟩,⟨some 8, none, .alloc 242 [(.i .i64 0), (.i .i64 0)]⟩,⟨none, none, .st 2 (.t 8) (.t 68)⟩])
 (.seq (.seq (.reg [⟨some 69, none, .fa 9 (.t 2)⟩,⟨some 70, none, .ld (.t 69)⟩,⟨some 71, none, .slc 1 (.t 70) (some (.c (.i .i64 1))) none none⟩,⟨some 72, none, .len 1 (.t 71)⟩,⟨some 73, none, .mv (.c (.i .i64 0))⟩])
 (.blk 3 (.loop (.seq (.reg [⟨some 74, none, .bin .lss (.t 73) (.t 72)⟩])
 (.seq (.cond (.t 74) (.skip)
 (.exit 3))
 (.seq (.blk 4 (.seq (.reg [⟨some 75, none, .ia 1 (.t 71) (.t 73)⟩,⟨some 76, none, .ld (.t 75)⟩,⟨some 10, none, .mv (.t 76)⟩])
 (.regd [⟨some 77, none, .ldn 2 (.t 8)⟩,⟨some 78, none, .mv (.t 1)⟩,⟨some 79, none, .mv (.t 10)⟩,⟨some 80, none, .ia 2 (.t 78) (.t 79)⟩,⟨some 81, none, .ldn 2 (.t 80)⟩,⟨some 82, none, .call 208 [(.t 77), (.t 81)]⟩,⟨none, none, .st 2 (.t 8) (.t 82)⟩] [])))
 (.reg [⟨some 83, none, .bin .add (.t 73) (.c (.i .i64 1))⟩,⟨some 73, none, .mv (.t 83)⟩])))))))
 (.seq (.reg [⟨some 84, none, .ldn 2 (.t 8)⟩,⟨none, none, .st 2 (.t 4) (.t 84)⟩])
 (.ret))))
 (.skip)))))))))))))))
 (.seq (.reg [⟨some 85, none, .build [(.i .i64 0), (.i .i64 0)] []⟩,⟨none, none, .st 2 (.t 4) (.t 85)⟩])
 (.ret)))
theorem fn159 : F 159 = .go 86 [.c 4 (some 2)] v159 := by rw [F, fnOf, Tryz.func159]; kernel_rfl

def v160 : VC :=
 .seq (.reg [⟨some 12, none, .mv (.t 0)⟩,⟨some 13, none, .mv (.t 1)⟩,⟨some 14, none, .call 114 [(.t 12), (.t 13), (.c (.i .i64 4)), (.c (.i .i64 0)), (.c (.i .i64 0)), (.c (.i .i64 0))]⟩,⟨some 6, none, .mv (.t 14)⟩])
 (.seq (.reg [⟨some 7, none, .mv (.c (.sl none 0 0 true))⟩])
 (.seq (.seq (.reg [⟨some 15, none, .mv (.t 2)⟩,⟨some 16, none, .len 1 (.t 15)⟩,⟨some 17, none, .mv (.c (.i .i64 0))⟩])
 (.blk 0 (.loop (.seq (.reg [⟨some 18, none, .bin .lss (.t 17) (.t 16)⟩])
 (.seq (.cond (.t 18) (.skip)
 (.exit 0))
 (.seq (.blk 1 (.seq (.reg [⟨some 19, none, .mv (.t 17)⟩,⟨some 20, none, .ia 1 (.t 15) (.t 17)⟩,⟨some 21, none, .ld (.t 20)⟩,⟨some 8, none, .mv (.t 19)⟩,⟨some 9, none, .mv (.t 21)⟩])
 (.seq (.reg [⟨some 22, none, .mv (.t 0)⟩,⟨some 23, none, .mv (.t 9)⟩,⟨some 24, none, .call 113 [(.t 22), (.t 23)]⟩])
 (.seq (.seq (.reg [⟨some 25, none, .mv (.t 8)⟩,⟨some 26, none, .mv (.t 2)⟩,⟨some 27, none, .len 1 (.t 26)⟩,⟨some 28, none, .bin .sub (.t 27) (.c (.i .i64 1))⟩,⟨some 29, none, .bin .eql (.t 25) (.t 28)⟩])
 (.cond (.t 29) (.exit 0)
 (.skip)))
 (.seq (.reg [⟨some 30, none, .mv (.t 7)⟩,⟨some 31, none, .mv (.t 0)⟩,⟨some 32, none, .mv (.t 1)⟩,⟨some 33, none, .call 114 [(.t 31), (.t 32), (.c (.i .i64 6)), (.c (.i .i64 0)), (.c (.i .i64 0)), (.c (.i .i64 0))]⟩,⟨some 34, none, .bsl 1 1 [(.i .i64 0)] [(0, 1, (.t 33))]⟩,⟨some 35, none, .app ⟨1, (some 3)⟩ 8 (.t 30) (.t 34)⟩,⟨some 7, none, .mv (.t 35)⟩])
 (.seq (.regd [⟨some 36, none, .mv (.t 0)⟩,⟨some 37, none, .nc (.t 36)⟩,⟨some 38, none, .fa 0 (.t 37)⟩,⟨some 39, none, .fa 0 (.t 38)⟩,⟨some 40, none, .ld (.t 39)⟩,⟨some 41, none, .mv (.t 6)⟩,⟨some 42, none, .mv (.t 0)⟩,⟨some 43, none, .call 164 [(.t 42)]⟩,⟨some 44, none, .ia 6 (.t 40) (.t 41)⟩,⟨some 45, none, .fa 1 (.t 44)⟩,⟨none, none, .st 1 (.t 45) (.t 43)⟩] [(4, 7)])
 (.reg [⟨some 46, none, .mv (.t 0)⟩,⟨some 47, none, .mv (.t 1)⟩,⟨some 48, none, .mv (.t 8)⟩,⟨some 49, none, .bin .add (.t 48) (.c (.i .i64 1))⟩,⟨some 50, none, .call 209 [(.t 46), (.t 47), (.t 49)]⟩,⟨some 6, none, .mv (.t 50)⟩])))))))
 (.reg [⟨some 51, none, .bin .add (.t 17) (.c (.i .i64 1))⟩,⟨some 17, none, .mv (.t 51)⟩])))))))
 (.seq (.reg [⟨some 52, none, .mv (.t 7)⟩,⟨some 53, none, .len 1 (.t 52)⟩,⟨some 54, none, .mv (.c (.i .i64 0))⟩])
 (.blk 2 (.loop (.seq (.reg [⟨some 55, none, .bin .lss (.t 54) (.t 53)⟩])
 (.seq (.cond (.t 55) (.skip)
 (.exit 2))
 (.seq (.blk 3 (.seq (.reg [⟨some 56, none, .ia 1 (.t 52) (.t 54)⟩,⟨some 57, none, .ld (.t 56)⟩,⟨some 11, none, .mv (.t 57)⟩])
 (.regd [⟨some 58, none, .mv (.t 0)⟩,⟨some 59, none, .nc (.t 58)⟩,⟨some 60, none, .fa 0 (.t 59)⟩,⟨some 61, none, .fa 0 (.t 60)⟩,⟨some 62, none, .ld (.t 61)⟩,⟨some 63, none, .mv (.t 11)⟩,⟨some 64, none, .mv (.t 0)⟩,⟨some 65, none, .call 164 [(.t 64)]⟩,⟨some 66, none, .ia 6 (.t 62) (.t 63)⟩,⟨some 67, none, .fa 1 (.t 66)⟩,⟨none, none, .st 1 (.t 67) (.t 65)⟩] [(4, 7)])))
 (.reg [⟨some 68, none, .bin .add (.t 54) (.c (.i .i64 1))⟩,⟨some 54, none, .mv (.t 68)⟩])))))))))
theorem fn160 : F 160 = .go 69 [] v160 := by rw [F, fnOf, Tryz.func160]; kernel_rfl

def v161 : VC :=
 .seq (.reg [⟨some 5, none, .box 10 (.t 2)⟩])
 (.seq (.reg [⟨some 10, none, .mv (.t 0)⟩,⟨some 11, none, .nc (.t 10)⟩,⟨some 12, none, .fa 0 (.t 11)⟩,⟨some 13, none, .fa 2 (.t 12)⟩,⟨some 14, none, .ld (.t 13)⟩,⟨some 15, none, .len 1 (.t 14)⟩,⟨some 6, none, .mv (.t 15)⟩])
 (.seq (.regd [⟨some 16, none, .mv (.t 0)⟩,⟨some 17, none, .mv (.t 0)⟩,⟨some 18, none, .nc (.t 17)⟩,⟨some 19, none, .fa 0 (.t 18)⟩,⟨some 20, none, .fa 2 (.t 19)⟩,⟨some 21, none, .ld (.t 20)⟩,⟨some 22, none, .fa 4 (.t 5)⟩,⟨some 23, none, .ld (.t 22)⟩,⟨some 24, none, .fa 5 (.t 5)⟩,⟨some 25, none, .ld (.t 24)⟩,⟨some 26, none, .fa 6 (.t 5)⟩,⟨some 27, none, .ld (.t 26)⟩,⟨some 28, none, .build [(.i .i64 0), (.i .i64 0), (.i .i64 0)] [(0, 1, (.t 23)), (1, 1, (.t 25)), (2, 1, (.t 27))]⟩,⟨some 29, none, .bsl 3 1 [(.i .i64 0), (.i .i64 0), (.i .i64 0)] [(0, 3, (.t 28))]⟩,⟨some 30, none, .app ⟨3, (some 248)⟩ 24 (.t 21) (.t 29)⟩,⟨some 31, none, .nc (.t 16)⟩,⟨some 32, none, .fa 0 (.t 31)⟩,⟨some 33, none, .fa 2 (.t 32)⟩,⟨none, none, .st 1 (.t 33) (.t 30)⟩] [(5, 13)])
 (.seq (.reg [⟨some 34, none, .mv (.t 0)⟩,⟨some 35, none, .mv (.t 1)⟩,⟨some 36, none, .mv (.t 6)⟩,⟨some 37, none, .call 114 [(.t 34), (.t 35), (.c (.i .i64 7)), (.t 36), (.c (.i .i64 0)), (.c (.i .i64 0))]⟩])
 (.seq (.reg [⟨some 38, none, .mv (.t 0)⟩,⟨some 39, none, .mv (.t 1)⟩,⟨some 40, none, .mv (.t 6)⟩,⟨some 41, none, .call 114 [(.t 38), (.t 39), (.c (.i .i64 8)), (.t 40), (.c (.i .i64 0)), (.c (.i .i64 0))]⟩,⟨some 7, none, .mv (.t 41)⟩])
 (.seq (.reg [⟨some 8, none, .mv (.c (.i .i64 (-1)))⟩])
 (.seq (.seq (.reg [⟨some 42, none, .fa 6 (.t 5)⟩,⟨some 43, none, .ld (.t 42)⟩,⟨some 44, none, .bin .eql (.t 43) (.c (.i .i64 1))⟩])
 (.cond (.t 44) (.reg [⟨some 45, none, .mv (.t 0)⟩,⟨some 46, none, .mv (.t 1)⟩,⟨some 47, none, .call 209 [(.t 45), (.t 46), (.c (.i .i64 1))]⟩])
 (.seq (.reg [⟨some 48, none, .mv (.t 0)⟩,⟨some 49, none, .mv (.t 1)⟩,⟨some 50, none, .call 209 [(.t 48), (.t 49), (.c (.i .i64 2))]⟩])
 (.reg [⟨some 51, none, .mv (.t 0)⟩,⟨some 52, none, .mv (.t 1)⟩,⟨some 53, none, .call 114 [(.t 51), (.t 52), (.c (.i .i64 6)), (.c (.i .i64 0)), (.c (.i .i64 0)), (.c (.i .i64 0))]⟩,⟨some 8, none, .mv (.t 53)⟩]))))
 (.seq (.reg [⟨some 54, none, .mv (.t 0)⟩,⟨some 55, none, .mv (.t 1)⟩,⟨some 56, none, .mv (.t 6)⟩,⟨some 57, none, .call 114 [(.t 54), (.t 55), (.c (.i .i64 9)), (.t 56), (.c (.i .i64 0)), (.c (.i .i64 0))]⟩,⟨some 9, none, .mv (.t 57)⟩])
 (.seq (.reg [⟨some 58, none, .mv (.t 0)⟩,⟨some 59, none, .nc (.t 58)⟩,⟨some 60, none, .fa 0 (.t 59)⟩,⟨some 61, none, .fa 0 (.t 60)⟩,⟨some 62, none, .ld (.t 61)⟩,⟨some 63, none, .mv (.t 7)⟩,⟨some 64, none, .mv (.t 9)⟩,⟨some 65, none, .ia 6 (.t 62) (.t 63)⟩,⟨some 66, none, .fa 3 (.t 65)⟩,⟨none, none, .st 1 (.t 66) (.t 64)⟩])
 (.seq (.reg [⟨some 67, none, .mv (.t 0)⟩,⟨some 68, none, .fa 9 (.t 5)⟩,⟨some 69, none, .ld (.t 68)⟩,⟨some 70, none, .ia 1 (.t 69) (.c (.i .i64 0))⟩,⟨some 71, none, .ld (.t 70)⟩,⟨some 72, none, .call 113 [(.t 67), (.t 71)]⟩])
 (.seq (.reg [⟨some 73, none, .mv (.t 0)⟩,⟨some 74, none, .mv (.t 1)⟩,⟨some 75, none, .mv (.t 6)⟩,⟨some 76, none, .mv (.t 7)⟩,⟨some 77, none, .call 114 [(.t 73), (.t 74), (.c (.i .i64 10)), (.t 75), (.t 76), (.c (.i .i64 0))]⟩])
 (.seq (.regd [⟨some 78, none, .mv (.t 0)⟩,⟨some 79, none, .nc (.t 78)⟩,⟨some 80, none, .fa 0 (.t 79)⟩,⟨some 81, none, .fa 0 (.t 80)⟩,⟨some 82, none, .ld (.t 81)⟩,⟨some 83, none, .mv (.t 7)⟩,⟨some 84, none, .mv (.t 0)⟩,⟨some 85, none, .call 164 [(.t 84)]⟩,⟨some 86, none, .ia 6 (.t 82) (.t 83)⟩,⟨some 87, none, .fa 2 (.t 86)⟩,⟨none, none, .st 1 (.t 87) (.t 85)⟩] [(4, 7)])
 (.seq (.reg [⟨some 88, none, .mv (.t 8)⟩,⟨some 89, none, .bin .neq (.t 88) (.c (.i .i64 (-1)))⟩])
 (.cond (.t 89) (.regd [⟨some 90, none, .mv (.t 0)⟩,⟨some 91, none, .nc (.t 90)⟩,⟨some 92, none, .fa 0 (.t 91)⟩,⟨some 93, none, .fa 0 (.t 92)⟩,⟨some 94, none, .ld (.t 93)⟩,⟨some 95, none, .mv (.t 8)⟩,⟨some 96, none, .mv (.t 0)⟩,⟨some 97, none, .call 164 [(.t 96)]⟩,⟨some 98, none, .ia 6 (.t 94) (.t 95)⟩,⟨some 99, none, .fa 1 (.t 98)⟩,⟨none, none, .st 1 (.t 99) (.t 97)⟩] [(4, 7)])
 (.skip))))))))))))))
theorem fn161 : F 161 = .go 100 [] v161 := by rw [F, fnOf, Tryz.func161]; kernel_rfl

def v162 : VC :=
 .seq (.reg [⟨some 5, none, .box 10 (.t 2)⟩])
 (.seq (.reg [⟨some 9, none, .mv (.t 0)⟩,⟨some 10, none, .mv (.t 1)⟩,⟨some 11, none, .call 114 [(.t 9), (.t 10), (.c (.i .i64 13)), (.c (.i .i64 (-1))), (.c (.i .i64 0)), (.c (.i .i64 0))]⟩,⟨some 6, none, .mv (.t 11)⟩])
 (.seq (.reg [⟨some 12, none, .fa 3 (.t 5)⟩,⟨some 13, none, .ld (.t 12)⟩,⟨some 14, none, .bin .eql (.t 13) (.c (.i .i64 3))⟩,⟨some 15, none, .mv (.t 14)⟩,⟨some 16, some (15, false), .fa 3 (.t 5)⟩,⟨some 17, some (15, false), .ld (.t 16)⟩,⟨some 18, some (15, false), .bin .eql (.t 17) (.c (.i .i64 4))⟩,⟨some 19, none, .pick (.t 15) (.c (.b true)) (.t 18)⟩,⟨some 7, none, .mv (.t 19)⟩])
 (.seq (.seq (.reg [⟨some 20, none, .mv (.t 7)⟩])
 (.cond (.t 20) (.seq (.regd [⟨some 8, none, .alloc 242 [(.i .i64 0), (.i .i64 0)]⟩,⟨some 21, none, .mv (.t 0)⟩,⟨some 22, none, .nc (.t 21)⟩,⟨some 23, none, .fa 7 (.t 22)⟩,⟨some 24, none, .ld (.t 23)⟩,⟨some 25, none, .fa 9 (.t 5)⟩,⟨some 26, none, .ld (.t 25)⟩,⟨some 27, none, .ia 1 (.t 26) (.c (.i .i64 0))⟩,⟨some 28, none, .ld (.t 27)⟩,⟨some 29, none, .ia 2 (.t 24) (.t 28)⟩,⟨some 30, none, .ldn 2 (.t 29)⟩,⟨none, none, .st 2 (.t 8) (.t 30)⟩] [])
 (.reg [⟨some 31, none, .mv (.t 0)⟩,⟨some 32, none, .mv (.t 1)⟩,⟨some 33, none, .fa 0 (.t 8)⟩,⟨some 34, none, .ld (.t 33)⟩,⟨some 35, none, .fa 1 (.t 8)⟩,⟨some 36, none, .ld (.t 35)⟩,⟨some 37, none, .call 114 [(.t 31), (.t 32), (.c (.i .i64 14)), (.t 34), (.t 36), (.c (.i .i64 0))]⟩]))
 (.skip)))
 (.seq (.reg [⟨some 38, none, .mv (.t 0)⟩,⟨some 39, none, .fa 9 (.t 5)⟩,⟨some 40, none, .ld (.t 39)⟩,⟨some 41, none, .ia 1 (.t 40) (.c (.i .i64 0))⟩,⟨some 42, none, .ld (.t 41)⟩,⟨some 43, none, .call 113 [(.t 38), (.t 42)]⟩])
 (.seq (.seq (.reg [⟨some 44, none, .mv (.t 7)⟩])
 (.cond (.t 44) (.reg [⟨some 45, none, .mv (.t 0)⟩,⟨some 46, none, .mv (.t 1)⟩,⟨some 47, none, .call 114 [(.t 45), (.t 46), (.c (.i .i64 15)), (.c (.i .i64 0)), (.c (.i .i64 0)), (.c (.i .i64 0))]⟩])
 (.skip)))
 (.seq (.seq (.reg [⟨some 48, none, .fa 3 (.t 5)⟩,⟨some 49, none, .ld (.t 48)⟩,⟨some 50, none, .bin .eql (.t 49) (.c (.i .i64 1))⟩,⟨some 51, none, .mv (.t 50)⟩,⟨some 52, some (51, false), .fa 3 (.t 5)⟩,⟨some 53, some (51, false), .ld (.t 52)⟩,⟨some 54, some (51, false), .bin .eql (.t 53) (.c (.i .i64 3))⟩,⟨some 55, none, .pick (.t 51) (.c (.b true)) (.t 54)⟩])
 (.cond (.t 55) (.seq (.reg [⟨some 56, none, .mv (.t 0)⟩,⟨some 57, none, .mv (.t 1)⟩,⟨some 58, none, .call 114 [(.t 56), (.t 57), (.c (.i .i64 17)), (.c (.i .i64 0)), (.c (.i .i64 0)), (.c (.i .i64 0))]⟩])
 (.ret))
 (.skip)))
 (.seq (.reg [⟨some 59, none, .mv (.t 0)⟩,⟨some 60, none, .mv (.t 1)⟩,⟨some 61, none, .call 114 [(.t 59), (.t 60), (.c (.i .i64 18)), (.c (.i .i64 0)), (.c (.i .i64 0)), (.c (.i .i64 0))]⟩])
 (.regd [⟨some 62, none, .mv (.t 0)⟩,⟨some 63, none, .nc (.t 62)⟩,⟨some 64, none, .fa 0 (.t 63)⟩,⟨some 65, none, .fa 0 (.t 64)⟩,⟨some 66, none, .ld (.t 65)⟩,⟨some 67, none, .mv (.t 6)⟩,⟨some 68, none, .mv (.t 0)⟩,⟨some 69, none, .call 164 [(.t 68)]⟩,⟨some 70, none, .ia 6 (.t 66) (.t 67)⟩,⟨some 71, none, .fa 1 (.t 70)⟩,⟨none, none, .st 1 (.t 71) (.t 69)⟩] [(4, 7)]))))))))
theorem fn162 : F 162 = .go 72 [] v162 := by rw [F, fnOf, Tryz.func162]; kernel_rfl

def v163 : VC :=
 .seq (.reg [⟨some 5, none, .box 10 (.t 2)⟩])
 (.seq (.reg [⟨some 6, none, .fa 0 (.t 5)⟩,⟨some 7, none, .ld (.t 6)⟩])
 (.blk 0 (.seq (.reg [⟨some 9, none, .bin .eql (.t 7) (.c (.i .i64 2))⟩,⟨some 8, none, .mv (.t 9)⟩])
 (.cond (.t 8) (.seq (.regd [⟨some 10, none, .mv (.t 0)⟩,⟨some 11, none, .mv (.t 0)⟩,⟨some 12, none, .nc (.t 11)⟩,⟨some 13, none, .fa 0 (.t 12)⟩,⟨some 14, none, .fa 1 (.t 13)⟩,⟨some 15, none, .ld (.t 14)⟩,⟨some 16, none, .fa 8 (.t 5)⟩,⟨some 17, none, .ld (.t 16)⟩,⟨some 18, none, .bsl 1 1 [(.sl none 0 0 true)] [(0, 1, (.t 17))]⟩,⟨some 19, none, .app ⟨1, (some 207)⟩ 24 (.t 15) (.t 18)⟩,⟨some 20, none, .nc (.t 10)⟩,⟨some 21, none, .fa 0 (.t 20)⟩,⟨some 22, none, .fa 1 (.t 21)⟩,⟨none, none, .st 1 (.t 22) (.t 19)⟩] [(5, 8)])
 (.reg [⟨some 23, none, .mv (.t 0)⟩,⟨some 24, none, .mv (.t 1)⟩,⟨some 25, none, .mv (.t 0)⟩,⟨some 26, none, .nc (.t 25)⟩,⟨some 27, none, .fa 0 (.t 26)⟩,⟨some 28, none, .fa 1 (.t 27)⟩,⟨some 29, none, .ld (.t 28)⟩,⟨some 30, none, .len 1 (.t 29)⟩,⟨some 31, none, .bin .sub (.t 30) (.c (.i .i64 1))⟩,⟨some 32, none, .call 114 [(.t 23), (.t 24), (.c (.i .i64 1)), (.t 31), (.c (.i .i64 0)), (.c (.i .i64 0))]⟩]))
 (.seq (.reg [⟨some 34, none, .bin .eql (.t 7) (.c (.i .i64 3))⟩,⟨some 33, none, .mv (.t 34)⟩])
 (.cond (.t 33) (.reg [⟨some 35, none, .mv (.t 0)⟩,⟨some 36, none, .mv (.t 1)⟩,⟨some 37, none, .fa 3 (.t 5)⟩,⟨some 38, none, .ld (.t 37)⟩,⟨some 39, none, .call 114 [(.t 35), (.t 36), (.c (.i .i64 2)), (.t 38), (.c (.i .i64 0)), (.c (.i .i64 0))]⟩])
 (.seq (.reg [⟨some 41, none, .bin .eql (.t 7) (.c (.i .i64 4))⟩,⟨some 40, none, .mv (.t 41)⟩])
 (.cond (.t 40) (.reg [⟨some 42, none, .mv (.t 0)⟩,⟨some 43, none, .mv (.t 1)⟩,⟨some 44, none, .fa 3 (.t 5)⟩,⟨some 45, none, .ld (.t 44)⟩,⟨some 46, none, .fa 6 (.t 5)⟩,⟨some 47, none, .ld (.t 46)⟩,⟨some 48, none, .call 114 [(.t 42), (.t 43), (.c (.i .i64 3)), (.t 45), (.t 47), (.c (.i .i64 0))]⟩])
 (.skip)))))))))
theorem fn163 : F 163 = .go 49 [] v163 := by rw [F, fnOf, Tryz.func163]; kernel_rfl

def v164 : VC :=
 .seq (.reg [⟨some 2, none, .mv (.c (.i .i64 0))⟩])
 (.seq (.reg [⟨some 3, none, .mv (.t 0)⟩,⟨some 4, none, .nc (.t 3)⟩,⟨some 5, none, .fa 0 (.t 4)⟩,⟨some 6, none, .fa 0 (.t 5)⟩,⟨some 7, none, .ld (.t 6)⟩,⟨some 8, none, .len 1 (.t 7)⟩,⟨some 2, none, .mv (.t 8)⟩])
 (.ret))
theorem fn164 : F 164 = .go 9 [.t 2] v164 := by rw [F, fnOf, Tryz.func164]; kernel_rfl

def v165 : VC :=
 .seq (.reg [⟨some 6, none, .mv (.c (.b false))⟩])
 (.seq (.reg [⟨some 7, none, .mv (.t 0)⟩,⟨some 8, none, .mv (.t 1)⟩,⟨some 9, none, .bin .geq (.t 7) (.t 8)⟩,⟨some 10, none, .mv (.t 9)⟩,⟨some 11, some (10, true), .mv (.t 0)⟩,⟨some 12, some (10, true), .mv (.t 2)⟩,⟨some 13, some (10, true), .bin .leq (.t 11) (.t 12)⟩,⟨some 14, none, .pick (.t 10) (.t 13) (.c (.b false))⟩,⟨some 6, none, .mv (.t 14)⟩])
 (.ret))
theorem fn165 : F 165 = .go 15 [.t 6] v165 := by rw [F, fnOf, Tryz.func165]; kernel_rfl

def v166 : VC :=
 .seq (.reg [⟨some 2, none, .mv (.c (.b false))⟩])
 (.seq (.reg [⟨some 3, none, .mv (.t 0)⟩,⟨some 4, none, .mv (.t 0)⟩,⟨some 5, none, .call 211 [(.t 4)]⟩,⟨some 6, none, .call 210 [(.t 3), (.t 5)]⟩,⟨some 2, none, .mv (.t 6)⟩])
 (.ret))
theorem fn166 : F 166 = .go 7 [.t 2] v166 := by rw [F, fnOf, Tryz.func166]; kernel_rfl

def v167 : VC :=
 .seq (.reg [⟨some 1, none, .box 3 (.t 0)⟩,⟨some 2, none, .mv (.c (.b false))⟩])
 (.seq (.reg [⟨some 4, none, .fa 0 (.t 1)⟩,⟨some 5, none, .ld (.t 4)⟩,⟨some 6, none, .bin .geq (.t 5) (.c (.i .i64 0))⟩,⟨some 7, none, .mv (.t 6)⟩,⟨some 8, some (7, true), .fa 0 (.t 1)⟩,⟨some 9, some (7, true), .ld (.t 8)⟩,⟨some 10, some (7, true), .bin .leq (.t 9) (.c (.i .i64 1000))⟩,⟨some 11, none, .pick (.t 7) (.t 10) (.c (.b false))⟩,⟨some 12, none, .mv (.t 11)⟩,⟨some 13, some (12, true), .fa 2 (.t 1)⟩,⟨some 14, some (12, true), .ld (.t 13)⟩,⟨some 15, some (12, true), .bin .geq (.t 14) (.c (.i .i64 0))⟩,⟨some 16, none, .pick (.t 12) (.t 15) (.c (.b false))⟩,⟨some 17, none, .mv (.t 16)⟩,⟨some 18, some (17, true), .fa 2 (.t 1)⟩,⟨some 19, some (17, true), .ld (.t 18)⟩,⟨some 20, some (17, true), .bin .leq (.t 19) (.c (.i .i64 1))⟩,⟨some 21, none, .pick (.t 17) (.t 20) (.c (.b false))⟩,⟨some 3, none, .mv (.t 21)⟩])
 (.seq (.reg [⟨some 22, none, .mv (.t 3)⟩,⟨some 23, none, .mv (.t 22)⟩,⟨some 24, some (23, true), .fa 1 (.t 1)⟩,⟨some 25, some (23, true), .ld (.t 24)⟩,⟨some 26, some (23, true), .bin .eql (.t 25) (.c (.i .i64 (-1)))⟩,⟨some 27, some (23, true), .mv (.t 26)⟩,⟨some 28, some (27, false), .fa 1 (.t 1)⟩,⟨some 29, some (27, false), .ld (.t 28)⟩,⟨some 30, some (27, false), .bin .geq (.t 29) (.c (.i .i64 1))⟩,⟨some 31, some (27, false), .mv (.t 30)⟩,⟨some 32, some (31, true), .fa 1 (.t 1)⟩,⟨some 33, some (31, true), .ld (.t 32)⟩,⟨some 34, some (31, true), .fa 0 (.t 1)⟩,⟨some 35, some (31, true), .ld (.t 34)⟩,⟨some 36, some (31, true), .bin .geq (.t 33) (.t 35)⟩,⟨some 37, some (27, false), .pick (.t 31) (.t 36) (.c (.b false))⟩,⟨some 38, some (27, false), .mv (.t 37)⟩,⟨some 39, some (38, true), .fa 1 (.t 1)⟩,⟨some 40, some (38, true), .ld (.t 39)⟩,⟨some 41, some (38, true), .bin .leq (.t 40) (.c (.i .i64 1000))⟩,⟨some 42, some (27, false), .pick (.t 38) (.t 41) (.c (.b false))⟩,⟨some 43, some (23, true), .pick (.t 27) (.c (.b true)) (.t 42)⟩,⟨some 44, none, .pick (.t 23) (.t 43) (.c (.b false))⟩,⟨some 2, none, .mv (.t 44)⟩])
 (.ret)))
theorem fn167 : F 167 = .go 45 [.t 2] v167 := by rw [F, fnOf, Tryz.func167]; kernel_rfl

def v168 : VC :=
 .seq (.reg [⟨some 3, none, .box 4 (.t 0)⟩,⟨some 5, none, .box 6 (.t 2)⟩,⟨some 6, none, .mv (.c (.b false))⟩])
 (.seq (.seq (.reg [⟨some 7, none, .fa 0 (.t 5)⟩,⟨some 8, none, .ld (.t 7)⟩])
 (.blk 0 (.seq (.reg [⟨some 10, none, .bin .eql (.t 8) (.c (.i .i64 1))⟩,⟨some 9, none, .mv (.t 10)⟩])
 (.cond (.t 9) (.seq (.reg [⟨some 11, none, .fa 1 (.t 5)⟩,⟨some 12, none, .ld (.t 11)⟩,⟨some 13, none, .fa 1 (.t 3)⟩,⟨some 14, none, .ld (.t 13)⟩,⟨some 15, none, .len 1 (.t 14)⟩,⟨some 16, none, .bin .sub (.t 15) (.c (.i .i64 1))⟩,⟨some 17, none, .call 165 [(.t 12), (.c (.i .i64 0)), (.t 16)]⟩,⟨some 18, none, .mv (.t 17)⟩,⟨some 19, some (18, true), .fa 2 (.t 5)⟩,⟨some 20, some (18, true), .ld (.t 19)⟩,⟨some 21, some (18, true), .bin .eql (.t 20) (.c (.i .i64 0))⟩,⟨some 22, none, .pick (.t 18) (.t 21) (.c (.b false))⟩,⟨some 23, none, .mv (.t 22)⟩,⟨some 24, some (23, true), .fa 3 (.t 5)⟩,⟨some 25, some (23, true), .ld (.t 24)⟩,⟨some 26, some (23, true), .bin .eql (.t 25) (.c (.i .i64 0))⟩,⟨some 27, none, .pick (.t 23) (.t 26) (.c (.b false))⟩,⟨some 6, none, .mv (.t 27)⟩])
 (.ret))
 (.seq (.reg [⟨some 29, none, .bin .eql (.t 8) (.c (.i .i64 2))⟩,⟨some 28, none, .mv (.t 29)⟩])
 (.cond (.t 28) (.seq (.reg [⟨some 30, none, .fa 1 (.t 5)⟩,⟨some 31, none, .ld (.t 30)⟩,⟨some 32, none, .call 165 [(.t 31), (.c (.i .i64 1)), (.c (.i .i64 7))]⟩,⟨some 33, none, .mv (.t 32)⟩,⟨some 34, some (33, true), .fa 2 (.t 5)⟩,⟨some 35, some (33, true), .ld (.t 34)⟩,⟨some 36, some (33, true), .bin .eql (.t 35) (.c (.i .i64 0))⟩,⟨some 37, none, .pick (.t 33) (.t 36) (.c (.b false))⟩,⟨some 38, none, .mv (.t 37)⟩,⟨some 39, some (38, true), .fa 3 (.t 5)⟩,⟨some 40, some (38, true), .ld (.t 39)⟩,⟨some 41, some (38, true), .bin .eql (.t 40) (.c (.i .i64 0))⟩,⟨some 42, none, .pick (.t 38) (.t 41) (.c (.b false))⟩,⟨some 6, none, .mv (.t 42)⟩])
 (.ret))
 (.seq (.reg [⟨some 44, none, .bin .eql (.t 8) (.c (.i .i64 3))⟩,⟨some 43, none, .mv (.t 44)⟩])
 (.cond (.t 43) (.seq (.reg [⟨some 45, none, .fa 1 (.t 5)⟩,⟨some 46, none, .ld (.t 45)⟩,⟨some 47, none, .fa 3 (.t 3)⟩,⟨some 48, none, .ld (.t 47)⟩,⟨some 49, none, .call 165 [(.t 46), (.c (.i .i64 1)), (.t 48)]⟩,⟨some 50, none, .mv (.t 49)⟩,⟨some 51, some (50, true), .fa 2 (.t 5)⟩,⟨some 52, some (50, true), .ld (.t 51)⟩,⟨some 53, some (50, true), .call 165 [(.t 52), (.c (.i .i64 0)), (.c (.i .i64 1))]⟩,⟨some 54, none, .pick (.t 50) (.t 53) (.c (.b false))⟩,⟨some 55, none, .mv (.t 54)⟩,⟨some 56, some (55, true), .fa 3 (.t 5)⟩,⟨some 57, some (55, true), .ld (.t 56)⟩,⟨some 58, some (55, true), .bin .eql (.t 57) (.c (.i .i64 0))⟩,⟨some 59, none, .pick (.t 55) (.t 58) (.c (.b false))⟩,⟨some 6, none, .mv (.t 59)⟩])
 (.ret))
 (.seq (.seq (.reg [⟨some 61, none, .bin .eql (.t 8) (.c (.i .i64 11))⟩,⟨some 60, none, .mv (.t 61)⟩])
 (.cond (.t 60) (.skip)
 (.reg [⟨some 62, none, .bin .eql (.t 8) (.c (.i .i64 12))⟩,⟨some 60, none, .mv (.t 62)⟩])))
 (.cond (.t 60) (.seq (.reg [⟨some 63, none, .fa 1 (.t 5)⟩,⟨some 64, none, .ld (.t 63)⟩,⟨some 65, none, .fa 3 (.t 3)⟩,⟨some 66, none, .ld (.t 65)⟩,⟨some 67, none, .call 165 [(.t 64), (.c (.i .i64 1)), (.t 66)]⟩,⟨some 68, none, .mv (.t 67)⟩,⟨some 69, some (68, true), .fa 2 (.t 5)⟩,⟨some 70, some (68, true), .ld (.t 69)⟩,⟨some 71, some (68, true), .bin .eql (.t 70) (.c (.i .i64 0))⟩,⟨some 72, none, .pick (.t 68) (.t 71) (.c (.b false))⟩,⟨some 73, none, .mv (.t 72)⟩,⟨some 74, some (73, true), .fa 3 (.t 5)⟩,⟨some 75, some (73, true), .ld (.t 74)⟩,⟨some 76, some (73, true), .bin .eql (.t 75) (.c (.i .i64 0))⟩,⟨some 77, none, .pick (.t 73) (.t 76) (.c (.b false))⟩,⟨some 6, none, .mv (.t 77)⟩])
 (.ret))
 (.seq (.seq (.reg [⟨some 79, none, .bin .eql (.t 8) (.c (.i .i64 7))⟩,⟨some 78, none, .mv (.t 79)⟩])
 (.cond (.t 78) (.skip)
 (.reg [⟨some 80, none, .bin .eql (.t 8) (.c (.i .i64 9))⟩,⟨some 78, none, .mv (.t 80)⟩])))
 (.cond (.t 78) (.seq (.reg [⟨some 81, none, .fa 1 (.t 5)⟩,⟨some 82, none, .ld (.t 81)⟩,⟨some 83, none, .fa 2 (.t 3)⟩,⟨some 84, none, .ld (.t 83)⟩,⟨some 85, none, .len 1 (.t 84)⟩,⟨some 86, none, .bin .sub (.t 85) (.c (.i .i64 1))⟩,⟨some 87, none, .call 165 [(.t 82), (.c (.i .i64 0)), (.t 86)]⟩,⟨some 88, none, .mv (.t 87)⟩,⟨some 89, some (88, true), .fa 2 (.t 5)⟩,⟨some 90, some (88, true), .ld (.t 89)⟩,⟨some 91, some (88, true), .bin .eql (.t 90) (.c (.i .i64 0))⟩,⟨some 92, none, .pick (.t 88) (.t 91) (.c (.b false))⟩,⟨some 93, none, .mv (.t 92)⟩,⟨some 94, some (93, true), .fa 3 (.t 5)⟩,⟨some 95, some (93, true), .ld (.t 94)⟩,⟨some 96, some (93, true), .bin .eql (.t 95) (.c (.i .i64 0))⟩,⟨some 97, none, .pick (.t 93) (.t 96) (.c (.b false))⟩,⟨some 6, none, .mv (.t 97)⟩])
 (.ret))
 (.seq (.reg [⟨some 99, none, .bin .eql (.t 8) (.c (.i .i64 14))⟩,⟨some 98, none, .mv (.t 99)⟩])
 (.cond (.t 98) (.seq (.reg [⟨some 100, none, .fa 1 (.t 5)⟩,⟨some 101, none, .ld (.t 100)⟩,⟨some 102, none, .fa 2 (.t 5)⟩,⟨some 103, none, .ld (.t 102)⟩,⟨some 104, none, .call 165 [(.t 101), (.c (.i .i64 0)), (.t 103)]⟩,⟨some 105, none, .mv (.t 104)⟩,⟨some 106, some (105, true), .fa 2 (.t 5)⟩,⟨some 107, some (105, true), .ld (.t 106)⟩,⟨some 108, some (105, true), .bin .leq (.t 107) (.c (.i .i64 255))⟩,⟨some 109, none, .pick (.t 105) (.t 108) (.c (.b false))⟩,⟨some 110, none, .mv (.t 109)⟩,⟨some 111, some (110, true), .fa 3 (.t 5)⟩,⟨some 112, some (110, true), .ld (.t 111)⟩,⟨some 113, some (110, true), .bin .eql (.t 112) (.c (.i .i64 0))⟩,⟨some 114, none, .pick (.t 110) (.t 113) (.c (.b false))⟩,⟨some 6, none, .mv (.t 114)⟩])
 (.ret))
 (.skip)))))))))))))))
 (.seq (.reg [⟨some 115, none, .ldn 4 (.t 3)⟩,⟨some 116, none, .mv (.t 1)⟩,⟨some 117, none, .ldn 6 (.t 5)⟩,⟨some 118, none, .call 212 [(.t 115), (.t 116), (.t 117)]⟩,⟨some 6, none, .mv (.t 118)⟩])
 (.ret)))
theorem fn168 : F 168 = .go 119 [.t 6] v168 := by rw [F, fnOf, Tryz.func168]; kernel_rfl

def v169 : VC :=
 .seq (.reg [⟨some 1, none, .box 4 (.t 0)⟩,⟨some 2, none, .mv (.c (.b false))⟩])
 (.seq (.reg [⟨some 10, none, .mkm⟩,⟨none, none, .mup .i (.t 10) (.c (.i .i64 0)) (.c (.i .i64 0))⟩,⟨some 11, none, .mv (.t 10)⟩,⟨some 3, none, .mv (.t 11)⟩])
 (.seq (.seq (.reg [⟨some 12, none, .bsl 1 1 [(.i .i64 0)] [(0, 1, (.c (.i .i64 0)))]⟩,⟨some 4, none, .mv (.t 12)⟩])
 (.blk 0 (.loop (.seq (.seq (.reg [⟨some 13, none, .mv (.t 4)⟩,⟨some 14, none, .len 1 (.t 13)⟩,⟨some 15, none, .bin .gtr (.t 14) (.c (.i .i64 0))⟩])
 (.cond (.t 15) (.skip)
 (.exit 0)))
 (.blk 1 (.seq (.reg [⟨some 16, none, .mv (.t 4)⟩,⟨some 17, none, .mv (.t 4)⟩,⟨some 18, none, .len 1 (.t 17)⟩,⟨some 19, none, .bin .sub (.t 18) (.c (.i .i64 1))⟩,⟨some 20, none, .ia 1 (.t 16) (.t 19)⟩,⟨some 21, none, .ld (.t 20)⟩,⟨some 5, none, .mv (.t 21)⟩])
 (.seq (.reg [⟨some 22, none, .mv (.t 4)⟩,⟨some 23, none, .mv (.t 4)⟩,⟨some 24, none, .len 1 (.t 23)⟩,⟨some 25, none, .bin .sub (.t 24) (.c (.i .i64 1))⟩,⟨some 26, none, .slc 1 (.t 22) none (some (.t 25)) none⟩,⟨some 4, none, .mv (.t 26)⟩])
 (.seq (.seq (.regd [⟨some 27, none, .fa 0 (.t 1)⟩,⟨some 28, none, .ld (.t 27)⟩,⟨some 29, none, .mv (.t 5)⟩,⟨some 30, none, .ia 6 (.t 28) (.t 29)⟩,⟨some 31, none, .ldn 6 (.t 30)⟩,⟨some 32, none, .mv (.t 3)⟩,⟨some 33, none, .mv (.t 5)⟩,⟨some 34, none, .lkp .i (.i .i64 0) false (.t 32) (.t 33)⟩,⟨some 35, none, .call 213 [(.t 31), (.t 34)]⟩,⟨some 36, none, .un .not (.t 35)⟩] [(1, 7), (4, 7)])
 (.cond (.t 36) (.seq (.reg [⟨some 2, none, .mv (.c (.b false))⟩])
 (.ret))
 (.skip)))
 (.seq (.regd [⟨some 37, none, .mv (.t 5)⟩,⟨some 38, none, .fa 0 (.t 1)⟩,⟨some 39, none, .ld (.t 38)⟩,⟨some 40, none, .mv (.t 5)⟩,⟨some 41, none, .ia 6 (.t 39) (.t 40)⟩,⟨some 42, none, .ldn 6 (.t 41)⟩,⟨some 43, none, .mv (.t 3)⟩,⟨some 44, none, .mv (.t 5)⟩,⟨some 45, none, .lkp .i (.i .i64 0) false (.t 43) (.t 44)⟩,⟨some 46, none, .call 214 [(.t 37), (.t 42), (.t 45)]⟩,⟨some 47, none, .len 1 (.t 46)⟩,⟨some 48, none, .mv (.c (.i .i64 0))⟩] [(2, 8), (5, 8)])
 (.blk 2 (.loop (.seq (.reg [⟨some 49, none, .bin .lss (.t 48) (.t 47)⟩])
 (.seq (.cond (.t 49) (.skip)
 (.exit 2))
 (.seq (.blk 3 (.seq (.reg [⟨some 50, none, .ia 2 (.t 46) (.t 48)⟩,⟨some 51, none, .ldn 2 (.t 50)⟩,⟨some 7, none, .alloc 302 [(.i .i64 0), (.i .i64 0)]⟩,⟨none, none, .st 2 (.t 7) (.t 51)⟩])
 (.seq (.reg [⟨some 53, none, .mv (.t 3)⟩,⟨some 54, none, .fa 0 (.t 7)⟩,⟨some 55, none, .ld (.t 54)⟩,⟨some 56, none, .lkp .i (.i .i64 0) true (.t 53) (.t 55)⟩,⟨some 52, none, .mv (.t 56)⟩,⟨some 57, none, .ext (.t 52) 0⟩,⟨some 58, none, .ext (.t 52) 1⟩,⟨some 8, none, .mv (.t 57)⟩,⟨some 9, none, .mv (.t 58)⟩])
 (.seq (.seq (.reg [⟨some 59, none, .mv (.t 9)⟩,⟨some 60, none, .mv (.t 59)⟩,⟨some 61, some (60, true), .mv (.t 8)⟩,⟨some 62, some (60, true), .fa 1 (.t 7)⟩,⟨some 63, some (60, true), .ld (.t 62)⟩,⟨some 64, some (60, true), .bin .neq (.t 61) (.t 63)⟩,⟨some 65, none, .pick (.t 60) (.t 64) (.c (.b false))⟩])
 (.cond (.t 65) (.seq (.reg [⟨some 2, none, .mv (.c (.b false))⟩])
 (.ret))
 (.skip)))
 (.seq (.reg [⟨some 66, none, .mv (.t 9)⟩,⟨some 67, none, .un .not (.t 66)⟩])
 (.cond (.t 67) (.seq (.reg [⟨some 68, none, .mv (.t 3)⟩,⟨some 69, none, .fa 0 (.t 7)⟩,⟨some 70, none, .ld (.t 69)⟩,⟨some 71, none, .fa 1 (.t 7)⟩,⟨some 72, none, .ld (.t 71)⟩,⟨none, none, .mup .i (.t 68) (.t 70) (.t 72)⟩])
 (.reg [⟨some 73, none, .mv (.t 4)⟩,⟨some 74, none, .fa 0 (.t 7)⟩,⟨some 75, none, .ld (.t 74)⟩,⟨some 76, none, .bsl 1 1 [(.i .i64 0)] [(0, 1, (.t 75))]⟩,⟨some 77, none, .app ⟨1, (some 3)⟩ 8 (.t 73) (.t 76)⟩,⟨some 4, none, .mv (.t 77)⟩]))
 (.skip)))))))
 (.reg [⟨some 78, none, .bin .add (.t 48) (.c (.i .i64 1))⟩,⟨some 48, none, .mv (.t 78)⟩])))))))))))))))
 (.seq (.reg [⟨some 2, none, .mv (.c (.b true))⟩])
 (.ret))))
theorem fn169 : F 169 = .go 79 [.t 2] v169 := by rw [F, fnOf, Tryz.func169]; kernel_rfl

def v170 : VC :=
 .seq (.reg [⟨some 4, none, .mv (.c (.sl none 0 0 true))⟩])
 (.seq (.seq (.reg [⟨some 9, none, .mv (.t 1)⟩,⟨some 10, none, .bin .lss (.t 9) (.c (.i .i64 0))⟩])
 (.cond (.t 10) (.reg [⟨some 11, none, .mif 9 (.c (.s ⟨#[99, 97, 110, 110, 111, 116, 32, 98, 101, 32, 110, 101, 103, 97, 116, 105, 118, 101]⟩))⟩,⟨none, none, .bad⟩])
 (.skip)))
 (.seq (.reg [⟨some 13, none, .mv (.t 0)⟩,⟨some 14, none, .len 1 (.t 13)⟩,⟨some 15, none, .cvi .u64 (.t 14)⟩,⟨some 16, none, .mv (.t 1)⟩,⟨some 17, none, .cvi .u64 (.t 16)⟩,⟨some 18, none, .call 215 [(.t 15), (.t 17)]⟩,⟨some 12, none, .mv (.t 18)⟩,⟨some 19, none, .ext (.t 12) 0⟩,⟨some 20, none, .ext (.t 12) 1⟩,⟨some 5, none, .mv (.t 19)⟩,⟨some 6, none, .mv (.t 20)⟩])
 (.seq (.seq (.reg [⟨some 21, none, .mv (.t 5)⟩,⟨some 22, none, .bin .gtr (.t 21) (.c (.i .u64 0))⟩,⟨some 23, none, .mv (.t 22)⟩,⟨some 24, some (23, false), .mv (.t 6)⟩,⟨some 25, some (23, false), .bin .gtr (.t 24) (.c (.i .u64 9223372036854775807))⟩,⟨some 26, none, .pick (.t 23) (.c (.b true)) (.t 25)⟩])
 (.cond (.t 26) (.reg [⟨some 27, none, .mif 9 (.c (.s ⟨#[116, 104, 101, 32, 114, 101, 115, 117, 108, 116, 32, 111, 102, 32, 40, 108, 101, 110, 40, 120, 41, 32, 42, 32, 99, 111, 117, 110, 116, 41, 32, 111, 118, 101, 114, 102, 108, 111, 119, 115]⟩))⟩,⟨none, none, .bad⟩])
 (.skip)))
 (.seq (.reg [⟨some 28, none, .mv (.t 6)⟩,⟨some 29, none, .cvi .i64 (.t 28)⟩,⟨some 30, none, .mks 1 8 [(.i .i64 0)] (.t 29) (.t 29)⟩,⟨some 7, none, .mv (.t 30)⟩])
 (.seq (.reg [⟨some 31, none, .mv (.t 7)⟩,⟨some 32, none, .mv (.t 0)⟩,⟨some 33, none, .cpy 1 (.t 31) (.t 32)⟩,⟨some 8, none, .mv (.t 33)⟩])
 (.seq (.blk 0 (.loop (.seq (.seq (.reg [⟨some 34, none, .mv (.t 8)⟩,⟨some 35, none, .mv (.t 7)⟩,⟨some 36, none, .len 1 (.t 35)⟩,⟨some 37, none, .bin .lss (.t 34) (.t 36)⟩])
 (.cond (.t 37) (.skip)
 (.exit 0)))
 (.blk 1 (.regd [⟨some 38, none, .mv (.t 8)⟩,⟨some 39, none, .mv (.t 7)⟩,⟨some 40, none, .mv (.t 8)⟩,⟨some 41, none, .slc 1 (.t 39) (some (.t 40)) none none⟩,⟨some 42, none, .mv (.t 7)⟩,⟨some 43, none, .mv (.t 8)⟩,⟨some 44, none, .slc 1 (.t 42) none (some (.t 43)) none⟩,⟨some 45, none, .cpy 1 (.t 41) (.t 44)⟩,⟨some 46, none, .bin .add (.t 38) (.t 45)⟩,⟨some 8, none, .mv (.t 46)⟩] [])))))
 (.seq (.reg [⟨some 47, none, .mv (.t 7)⟩,⟨some 4, none, .mv (.t 47)⟩])
 (.ret))))))))
theorem fn170 : F 170 = .go 48 [.t 4] v170 := by rw [F, fnOf, Tryz.func170]; kernel_rfl

def v171 : VC :=
 .seq (.reg [⟨some 4, none, .mv (.c (.i .i64 0))⟩])
 (.seq (.reg [⟨some 5, none, .mv (.t 0)⟩,⟨some 6, none, .mv (.t 0)⟩,⟨some 7, none, .nc (.t 6)⟩,⟨some 8, none, .fa 0 (.t 7)⟩,⟨some 9, none, .fa 3 (.t 8)⟩,⟨some 10, none, .ld (.t 9)⟩,⟨some 11, none, .bin .add (.t 10) (.c (.i .i64 1))⟩,⟨some 12, none, .call 216 [(.t 5), (.t 11)]⟩,⟨some 13, none, .mv (.t 1)⟩,⟨some 14, none, .bin .add (.t 12) (.t 13)⟩,⟨some 4, none, .mv (.t 14)⟩])
 (.ret))
theorem fn171 : F 171 = .go 15 [.t 4] v171 := by rw [F, fnOf, Tryz.func171]; kernel_rfl

def v172 : VC :=
 .seq (.reg [⟨some 6, none, .mv (.t 0)⟩,⟨some 7, none, .nc (.t 6)⟩,⟨some 8, none, .fa 9 (.t 7)⟩,⟨some 9, none, .ld (.t 8)⟩,⟨some 10, none, .call 217 [(.t 9)]⟩,⟨some 5, none, .mv (.t 10)⟩,⟨some 11, none, .ext (.t 5) 0⟩,⟨some 12, none, .ext (.t 5) 1⟩,⟨some 2, none, .alloc 307 [(.b false), (.i .i64 0), (.i .i64 0), (.i .i64 0), (.i .i64 0), (.i .i64 0)]⟩,⟨none, none, .st 6 (.t 2) (.t 11)⟩,⟨some 3, none, .mv (.t 12)⟩])
 (.seq (.seq (.reg [⟨some 13, none, .mv (.t 3)⟩,⟨some 14, none, .un .not (.t 13)⟩])
 (.cond (.t 14) (.seq (.reg [⟨some 15, none, .mv (.t 0)⟩,⟨some 16, none, .call 218 [(.t 15)]⟩])
 (.ret))
 (.skip)))
 (.seq (.regd [⟨some 17, none, .mv (.t 0)⟩,⟨some 18, none, .nc (.t 17)⟩,⟨some 19, none, .fa 8 (.t 18)⟩,⟨some 20, none, .ld (.t 19)⟩,⟨some 21, none, .fa 3 (.t 2)⟩,⟨some 22, none, .ld (.t 21)⟩,⟨some 23, none, .call 219 [(.t 20), (.t 22)]⟩] [])
 (.seq (.regd [⟨some 24, none, .mv (.t 0)⟩,⟨some 25, none, .mv (.t 0)⟩,⟨some 26, none, .fa 1 (.t 2)⟩,⟨some 27, none, .ld (.t 26)⟩,⟨some 28, none, .fa 2 (.t 2)⟩,⟨some 29, none, .ld (.t 28)⟩,⟨some 30, none, .nc (.t 24)⟩,⟨some 31, none, .fa 10 (.t 30)⟩,⟨none, none, .st 1 (.t 31) (.t 27)⟩,⟨some 32, none, .nc (.t 25)⟩,⟨some 33, none, .fa 11 (.t 32)⟩,⟨none, none, .st 1 (.t 33) (.t 29)⟩] [(5, 8)])
 (.seq (.regd [⟨some 4, none, .alloc 46 [(.i .i64 0), (.i .i64 0), (.i .i64 0), (.i .i64 0), (.i .i64 0), (.i .i64 0)]⟩,⟨some 34, none, .mv (.t 0)⟩,⟨some 35, none, .nc (.t 34)⟩,⟨some 36, none, .fa 0 (.t 35)⟩,⟨some 37, none, .fa 0 (.t 36)⟩,⟨some 38, none, .ld (.t 37)⟩,⟨some 39, none, .fa 1 (.t 2)⟩,⟨some 40, none, .ld (.t 39)⟩,⟨some 41, none, .ia 6 (.t 38) (.t 40)⟩,⟨some 42, none, .ldn 6 (.t 41)⟩,⟨none, none, .st 6 (.t 4) (.t 42)⟩] [])
 (.blk 0 (.seq (.reg [⟨some 76, none, .fa 0 (.t 2)⟩,⟨some 77, none, .ld (.t 76)⟩,⟨some 75, none, .mv (.t 77)⟩])
 (.cond (.t 75) (.reg [⟨some 78, none, .mv (.t 0)⟩,⟨some 79, none, .ldn 6 (.t 4)⟩,⟨some 80, none, .ldn 6 (.t 2)⟩,⟨some 81, none, .call 220 [(.t 78), (.t 79), (.t 80)]⟩])
 (.seq (.reg [⟨some 83, none, .fa 0 (.t 4)⟩,⟨some 84, none, .ld (.t 83)⟩,⟨some 85, none, .bin .eql (.t 84) (.c (.i .i64 14))⟩,⟨some 82, none, .mv (.t 85)⟩])
 (.cond (.t 82) (.seq (.reg [⟨some 86, none, .mv (.t 0)⟩,⟨some 87, none, .nc (.t 86)⟩,⟨some 88, none, .fa 15 (.t 87)⟩,⟨none, none, .st 1 (.t 88) (.c (.b false))⟩])
 (.reg [⟨some 89, none, .mv (.t 0)⟩,⟨some 90, none, .ldn 6 (.t 4)⟩,⟨some 91, none, .fa 5 (.t 2)⟩,⟨some 92, none, .ld (.t 91)⟩,⟨some 93, none, .fa 4 (.t 2)⟩,⟨some 94, none, .ld (.t 93)⟩,⟨some 95, none, .call 221 [(.t 89), (.t 90), (.t 92), (.c (.i .i64 7)), (.t 94)]⟩]))
 (.seq (.reg [⟨some 43, none, .mv (.t 0)⟩,⟨some 44, none, .nc (.t 43)⟩,⟨some 45, none, .fa 15 (.t 44)⟩,⟨none, none, .st 1 (.t 45) (.c (.b false))⟩])
 (.seq (.seq (.reg [⟨some 46, none, .fa 1 (.t 4)⟩,⟨some 47, none, .ld (.t 46)⟩,⟨some 48, none, .bin .neq (.t 47) (.c (.i .i64 (-1)))⟩])
 (.cond (.t 48) (.regd [⟨some 49, none, .mv (.t 0)⟩,⟨some 50, none, .fa 1 (.t 4)⟩,⟨some 51, none, .ld (.t 50)⟩,⟨some 52, none, .mv (.t 0)⟩,⟨some 53, none, .nc (.t 52)⟩,⟨some 54, none, .fa 11 (.t 53)⟩,⟨some 55, none, .ld (.t 54)⟩,⟨some 56, none, .fa 4 (.t 2)⟩,⟨some 57, none, .ld (.t 56)⟩,⟨some 58, none, .build [(.b false), (.i .i64 0), (.i .i64 0), (.i .i64 0), (.i .i64 0), (.i .i64 0)] [(1, 1, (.t 51)), (2, 1, (.t 55)), (4, 1, (.t 57))]⟩,⟨some 59, none, .call 222 [(.t 49), (.t 58)]⟩] [])
 (.skip)))
 (.seq (.reg [⟨some 60, none, .mv (.t 0)⟩,⟨some 61, none, .fa 4 (.t 4)⟩,⟨some 62, none, .ld (.t 61)⟩,⟨some 63, none, .fa 5 (.t 4)⟩,⟨some 64, none, .ld (.t 63)⟩,⟨some 65, none, .fa 4 (.t 2)⟩,⟨some 66, none, .ld (.t 65)⟩,⟨some 67, none, .call 223 [(.t 60), (.c (.i .i64 7)), (.t 62), (.t 64), (.t 66)]⟩])
 (.reg [⟨some 68, none, .mv (.t 0)⟩,⟨some 69, none, .nc (.t 68)⟩,⟨some 70, none, .fa 10 (.t 69)⟩,⟨some 71, none, .ld (.t 70)⟩,⟨some 72, none, .bin .add (.t 71) (.c (.i .i64 1))⟩,⟨some 73, none, .nc (.t 68)⟩,⟨some 74, none, .fa 10 (.t 73)⟩,⟨none, none, .st 1 (.t 74) (.t 72)⟩])))))))))))))
theorem fn172 : F 172 = .go 96 [] v172 := by rw [F, fnOf, Tryz.func172]; kernel_rfl

def v173 : VC :=
 .seq (.regd [⟨some 2, none, .alloc 46 [(.i .i64 0), (.i .i64 0), (.i .i64 0), (.i .i64 0), (.i .i64 0), (.i .i64 0)]⟩,⟨some 7, none, .mv (.t 0)⟩,⟨some 8, none, .nc (.t 7)⟩,⟨some 9, none, .fa 0 (.t 8)⟩,⟨some 10, none, .fa 0 (.t 9)⟩,⟨some 11, none, .ld (.t 10)⟩,⟨some 12, none, .mv (.t 0)⟩,⟨some 13, none, .nc (.t 12)⟩,⟨some 14, none, .fa 10 (.t 13)⟩,⟨some 15, none, .ld (.t 14)⟩,⟨some 16, none, .ia 6 (.t 11) (.t 15)⟩,⟨some 17, none, .ldn 6 (.t 16)⟩,⟨none, none, .st 6 (.t 2) (.t 17)⟩] [])
 (.seq (.reg [⟨some 18, none, .fa 0 (.t 2)⟩,⟨some 19, none, .ld (.t 18)⟩])
 (.blk 0 (.seq (.reg [⟨some 24, none, .bin .eql (.t 19) (.c (.i .i64 1))⟩,⟨some 23, none, .mv (.t 24)⟩])
 (.cond (.t 23) (.regd [⟨some 25, none, .mv (.t 0)⟩,⟨some 26, none, .mv (.t 0)⟩,⟨some 27, none, .nc (.t 26)⟩,⟨some 28, none, .fa 11 (.t 27)⟩,⟨some 29, none, .ld (.t 28)⟩,⟨some 30, none, .bin .add (.t 29) (.c (.i .i64 1))⟩,⟨some 31, none, .mv (.t 0)⟩,⟨some 32, none, .nc (.t 31)⟩,⟨some 33, none, .fa 4 (.t 32)⟩,⟨some 34, none, .ldn 1 (.t 33)⟩,⟨some 35, none, .mv (.t 0)⟩,⟨some 36, none, .nc (.t 35)⟩,⟨some 37, none, .fa 11 (.t 36)⟩,⟨some 38, none, .ld (.t 37)⟩,⟨some 39, none, .mv (.t 0)⟩,⟨some 40, none, .nc (.t 39)⟩,⟨some 41, none, .fa 0 (.t 40)⟩,⟨some 42, none, .fa 1 (.t 41)⟩,⟨some 43, none, .ld (.t 42)⟩,⟨some 44, none, .fa 1 (.t 2)⟩,⟨some 45, none, .ld (.t 44)⟩,⟨some 46, none, .ia 1 (.t 43) (.t 45)⟩,⟨some 47, none, .ld (.t 46)⟩,⟨some 48, none, .call 225 [(.t 34), (.t 38), (.t 47)]⟩,⟨some 49, none, .ldn 6 (.t 2)⟩,⟨some 50, none, .call 224 [(.t 25), (.t 30), (.t 48), (.t 49)]⟩] [(4, 23), (24, 23)])
 (.seq (.reg [⟨some 52, none, .bin .eql (.t 19) (.c (.i .i64 2))⟩,⟨some 51, none, .mv (.t 52)⟩])
 (.cond (.t 51) (.regd [⟨some 53, none, .mv (.t 0)⟩,⟨some 54, none, .mv (.t 0)⟩,⟨some 55, none, .nc (.t 54)⟩,⟨some 56, none, .fa 4 (.t 55)⟩,⟨some 57, none, .ldn 1 (.t 56)⟩,⟨some 58, none, .fa 1 (.t 2)⟩,⟨some 59, none, .ld (.t 58)⟩,⟨some 60, none, .mv (.t 0)⟩,⟨some 61, none, .nc (.t 60)⟩,⟨some 62, none, .fa 11 (.t 61)⟩,⟨some 63, none, .ld (.t 62)⟩,⟨some 64, none, .call 227 [(.t 57), (.t 59), (.t 63)]⟩,⟨some 65, none, .ldn 6 (.t 2)⟩,⟨some 66, none, .call 226 [(.t 53), (.t 64), (.t 65)]⟩] [(12, 11)])
 (.seq (.reg [⟨some 68, none, .bin .eql (.t 19) (.c (.i .i64 3))⟩,⟨some 67, none, .mv (.t 68)⟩])
 (.cond (.t 67) (.seq (.reg [⟨some 70, none, .mv (.t 0)⟩,⟨some 71, none, .ldn 6 (.t 2)⟩,⟨some 72, none, .call 228 [(.t 70), (.t 71)]⟩,⟨some 69, none, .mv (.t 72)⟩,⟨some 73, none, .ext (.t 69) 0⟩,⟨some 74, none, .ext (.t 69) 1⟩,⟨some 3, none, .mv (.t 73)⟩,⟨some 4, none, .mv (.t 74)⟩])
 (.reg [⟨some 75, none, .mv (.t 0)⟩,⟨some 76, none, .mv (.t 3)⟩,⟨some 77, none, .mv (.t 4)⟩,⟨some 78, none, .ldn 6 (.t 2)⟩,⟨some 79, none, .call 224 [(.t 75), (.t 76), (.t 77), (.t 78)]⟩]))
 (.seq (.reg [⟨some 81, none, .bin .eql (.t 19) (.c (.i .i64 4))⟩,⟨some 80, none, .mv (.t 81)⟩])
 (.cond (.t 80) (.seq (.regd [⟨some 82, none, .mv (.t 0)⟩,⟨some 83, none, .fa 1 (.t 2)⟩,⟨some 84, none, .ld (.t 83)⟩,⟨some 85, none, .mv (.t 0)⟩,⟨some 86, none, .nc (.t 85)⟩,⟨some 87, none, .fa 11 (.t 86)⟩,⟨some 88, none, .ld (.t 87)⟩,⟨some 89, none, .mv (.t 0)⟩,⟨some 90, none, .nc (.t 89)⟩,⟨some 91, none, .fa 13 (.t 90)⟩,⟨some 92, none, .ld (.t 91)⟩,⟨some 93, none, .build [(.b false), (.i .i64 0), (.i .i64 0), (.i .i64 0), (.i .i64 0), (.i .i64 0)] [(1, 1, (.t 84)), (2, 1, (.t 88)), (4, 1, (.t 92))]⟩,⟨some 94, none, .call 222 [(.t 82), (.t 93)]⟩] [])
 (.cond (.t 94) (.seq (.reg [⟨some 95, none, .mv (.t 0)⟩,⟨some 96, none, .nc (.t 95)⟩,⟨some 97, none, .fa 10 (.t 96)⟩,⟨some 98, none, .ld (.t 97)⟩,⟨some 99, none, .bin .add (.t 98) (.c (.i .i64 1))⟩,⟨some 100, none, .nc (.t 95)⟩,⟨some 101, none, .fa 10 (.t 100)⟩,⟨none, none, .st 1 (.t 101) (.t 99)⟩])
 (.reg [⟨some 102, none, .mv (.t 0)⟩,⟨some 103, none, .fa 4 (.t 2)⟩,⟨some 104, none, .ld (.t 103)⟩,⟨some 105, none, .call 223 [(.t 102), (.c (.i .i64 6)), (.t 104), (.c (.i .i64 0)), (.c (.i .i64 (-1)))]⟩]))
 (.skip)))
 (.seq (.reg [⟨some 107, none, .bin .eql (.t 19) (.c (.i .i64 5))⟩,⟨some 106, none, .mv (.t 107)⟩])
 (.cond (.t 106) (.reg [⟨some 108, none, .mv (.t 0)⟩,⟨some 109, none, .nc (.t 108)⟩,⟨some 110, none, .fa 10 (.t 109)⟩,⟨some 111, none, .ld (.t 110)⟩,⟨some 112, none, .bin .add (.t 111) (.c (.i .i64 1))⟩,⟨some 113, none, .nc (.t 108)⟩,⟨some 114, none, .fa 10 (.t 113)⟩,⟨none, none, .st 1 (.t 114) (.t 112)⟩])
 (.seq (.reg [⟨some 116, none, .bin .eql (.t 19) (.c (.i .i64 6))⟩,⟨some 115, none, .mv (.t 116)⟩])
 (.cond (.t 115) (.reg [⟨some 117, none, .mv (.t 0)⟩,⟨some 118, none, .fa 1 (.t 2)⟩,⟨some 119, none, .ld (.t 118)⟩,⟨some 120, none, .nc (.t 117)⟩,⟨some 121, none, .fa 10 (.t 120)⟩,⟨none, none, .st 1 (.t 121) (.t 119)⟩])
 (.seq (.reg [⟨some 123, none, .bin .eql (.t 19) (.c (.i .i64 11))⟩,⟨some 122, none, .mv (.t 123)⟩])
 (.cond (.t 122) (.seq (.regd [⟨some 124, none, .mv (.t 0)⟩,⟨some 125, none, .nc (.t 124)⟩,⟨some 126, none, .fa 8 (.t 125)⟩,⟨some 127, none, .ld (.t 126)⟩,⟨some 128, none, .mv (.t 0)⟩,⟨some 129, none, .fa 1 (.t 2)⟩,⟨some 130, none, .ld (.t 129)⟩,⟨some 131, none, .call 216 [(.t 128), (.t 130)]⟩,⟨some 132, none, .mv (.t 0)⟩,⟨some 133, none, .nc (.t 132)⟩,⟨some 134, none, .fa 11 (.t 133)⟩,⟨some 135, none, .ld (.t 134)⟩,⟨some 136, none, .call 229 [(.t 127), (.t 131), (.t 135)]⟩] [(3, 7), (11, 7)])
 (.seq (.reg [⟨some 137, none, .mv (.t 0)⟩,⟨some 138, none, .nc (.t 137)⟩,⟨some 139, none, .fa 10 (.t 138)⟩,⟨some 140, none, .ld (.t 139)⟩,⟨some 141, none, .bin .add (.t 140) (.c (.i .i64 1))⟩,⟨some 142, none, .nc (.t 137)⟩,⟨some 143, none, .fa 10 (.t 142)⟩,⟨none, none, .st 1 (.t 143) (.t 141)⟩])
 (.reg [⟨some 144, none, .mv (.t 0)⟩,⟨some 145, none, .fa 4 (.t 2)⟩,⟨some 146, none, .ld (.t 145)⟩,⟨some 147, none, .call 223 [(.t 144), (.c (.i .i64 8)), (.t 146), (.c (.i .i64 0)), (.c (.i .i64 (-1)))]⟩])))
 (.seq (.reg [⟨some 149, none, .bin .eql (.t 19) (.c (.i .i64 12))⟩,⟨some 148, none, .mv (.t 149)⟩])
 (.cond (.t 148) (.seq (.regd [⟨some 151, none, .mv (.t 0)⟩,⟨some 152, none, .nc (.t 151)⟩,⟨some 153, none, .fa 8 (.t 152)⟩,⟨some 154, none, .ld (.t 153)⟩,⟨some 155, none, .mv (.t 0)⟩,⟨some 156, none, .fa 1 (.t 2)⟩,⟨some 157, none, .ld (.t 156)⟩,⟨some 158, none, .call 216 [(.t 155), (.t 157)]⟩,⟨some 159, none, .call 230 [(.t 154), (.t 158)]⟩,⟨some 150, none, .mv (.t 159)⟩,⟨some 160, none, .ext (.t 150) 0⟩,⟨some 161, none, .ext (.t 150) 1⟩,⟨some 5, none, .mv (.t 160)⟩,⟨some 6, none, .mv (.t 161)⟩] [(3, 7)])
 (.seq (.reg [⟨some 162, none, .mv (.t 0)⟩,⟨some 163, none, .fa 1 (.t 2)⟩,⟨some 164, none, .ld (.t 163)⟩,⟨some 165, none, .mv (.t 5)⟩,⟨some 166, none, .call 231 [(.t 162), (.t 164), (.t 165)]⟩])
 (.seq (.reg [⟨some 167, none, .mv (.t 0)⟩,⟨some 168, none, .nc (.t 167)⟩,⟨some 169, none, .fa 10 (.t 168)⟩,⟨some 170, none, .ld (.t 169)⟩,⟨some 171, none, .bin .add (.t 170) (.c (.i .i64 1))⟩,⟨some 172, none, .nc (.t 167)⟩,⟨some 173, none, .fa 10 (.t 172)⟩,⟨none, none, .st 1 (.t 173) (.t 171)⟩])
 (.reg [⟨some 174, none, .mv (.t 0)⟩,⟨some 175, none, .fa 4 (.t 2)⟩,⟨some 176, none, .ld (.t 175)⟩,⟨some 177, none, .call 223 [(.t 174), (.c (.i .i64 9)), (.t 176), (.c (.i .i64 0)), (.c (.i .i64 (-1)))]⟩]))))
 (.seq (.reg [⟨some 179, none, .bin .eql (.t 19) (.c (.i .i64 19))⟩,⟨some 178, none, .mv (.t 179)⟩])
 (.cond (.t 178) (.seq (.reg [⟨some 180, none, .mv (.t 0)⟩,⟨some 181, none, .mv (.t 0)⟩,⟨some 182, none, .nc (.t 181)⟩,⟨some 183, none, .fa 12 (.t 182)⟩,⟨some 184, none, .ld (.t 183)⟩,⟨some 185, none, .call 231 [(.t 180), (.c (.i .i64 0)), (.t 184)]⟩])
 (.seq (.reg [⟨some 186, none, .mv (.t 0)⟩,⟨some 187, none, .nc (.t 186)⟩,⟨some 188, none, .fa 14 (.t 187)⟩,⟨none, none, .st 1 (.t 188) (.c (.i .i64 1))⟩])
 (.reg [⟨some 189, none, .mv (.t 0)⟩,⟨some 190, none, .fa 4 (.t 2)⟩,⟨some 191, none, .ld (.t 190)⟩,⟨some 192, none, .call 223 [(.t 189), (.c (.i .i64 13)), (.t 191), (.c (.i .i64 0)), (.c (.i .i64 (-1)))]⟩])))
 (.seq (.seq (.reg [⟨some 194, none, .bin .eql (.t 19) (.c (.i .i64 7))⟩,⟨some 193, none, .mv (.t 194)⟩])
 (.cond (.t 193) (.skip)
 (.seq (.reg [⟨some 195, none, .bin .eql (.t 19) (.c (.i .i64 8))⟩,⟨some 193, none, .mv (.t 195)⟩])
 (.cond (.t 193) (.skip)
 (.seq (.reg [⟨some 196, none, .bin .eql (.t 19) (.c (.i .i64 9))⟩,⟨some 193, none, .mv (.t 196)⟩])
 (.cond (.t 193) (.skip)
 (.reg [⟨some 197, none, .bin .eql (.t 19) (.c (.i .i64 10))⟩,⟨some 193, none, .mv (.t 197)⟩])))))))
 (.cond (.t 193) (.reg [⟨some 198, none, .mv (.t 0)⟩,⟨some 199, none, .ldn 6 (.t 2)⟩,⟨some 200, none, .call 232 [(.t 198), (.t 199)]⟩])
 (.reg [⟨some 20, none, .mv (.t 0)⟩,⟨some 21, none, .ldn 6 (.t 2)⟩,⟨some 22, none, .call 233 [(.t 20), (.t 21)]⟩])))))))))))))))))))))))
theorem fn173 : F 173 = .go 201 [] v173 := by rw [F, fnOf, Tryz.func173]; kernel_rfl

def v182 : VC :=
 .seq (.reg [⟨some 4, none, .mv (.c (.i .i64 0))⟩])
 (.seq (.reg [⟨some 5, none, .mv (.t 0)⟩,⟨some 6, none, .mv (.t 1)⟩,⟨some 7, none, .call 240 [(.t 5), (.t 6)]⟩,⟨some 4, none, .mv (.t 7)⟩])
 (.ret))
theorem fn182 : F 182 = .go 8 [.t 4] v182 := by rw [F, fnOf, Tryz.func182]; kernel_rfl

def v195 : VC :=
 .seq (.reg [⟨some 4, none, .mv (.c (.i .i64 0))⟩,⟨some 5, none, .mv (.c (.i .i64 0))⟩,⟨some 6, none, .mv (.c (.i .i64 0))⟩])
 (.seq (.reg [⟨some 11, none, .mv (.t 0)⟩,⟨some 12, none, .mv (.t 1)⟩,⟨some 13, none, .call 101 [(.t 11), (.t 12)]⟩,⟨some 10, none, .mv (.t 13)⟩,⟨some 14, none, .ext (.t 10) 0⟩,⟨some 15, none, .ext (.t 10) 1⟩,⟨some 16, none, .ext (.t 10) 2⟩,⟨some 7, none, .mv (.t 14)⟩,⟨some 8, none, .mv (.t 15)⟩,⟨some 9, none, .mv (.t 16)⟩])
 (.seq (.reg [⟨some 17, none, .mv (.t 7)⟩,⟨some 18, none, .call 248 [(.t 17)]⟩,⟨some 19, none, .mv (.t 8)⟩,⟨some 20, none, .mv (.t 9)⟩,⟨some 4, none, .mv (.t 18)⟩,⟨some 5, none, .mv (.t 19)⟩,⟨some 6, none, .mv (.t 20)⟩])
 (.ret)))
theorem fn195 : F 195 = .go 21 [.t 4, .t 5, .t 6] v195 := by rw [F, fnOf, Tryz.func195]; kernel_rfl

def v196 : VC :=
 .seq (.reg [⟨some 6, none, .mv (.c (.b false))⟩])
 (.seq (.reg [⟨some 7, none, .mv (.t 0)⟩,⟨some 8, none, .mv (.t 1)⟩,⟨some 9, none, .bin .geq (.t 7) (.t 8)⟩,⟨some 10, none, .mv (.t 9)⟩,⟨some 11, some (10, true), .mv (.t 0)⟩,⟨some 12, some (10, true), .mv (.t 2)⟩,⟨some 13, some (10, true), .bin .leq (.t 11) (.t 12)⟩,⟨some 14, none, .pick (.t 10) (.t 13) (.c (.b false))⟩,⟨some 6, none, .mv (.t 14)⟩])
 (.ret))
theorem fn196 : F 196 = .go 15 [.t 6] v196 := by rw [F, fnOf, Tryz.func196]; kernel_rfl

def v197 : VC :=
 .seq (.reg [⟨some 4, none, .mv (.c (.b false))⟩])
 (.seq (.reg [⟨some 5, none, .mv (.t 0)⟩,⟨some 6, none, .mv (.t 1)⟩,⟨some 7, none, .call 249 [(.t 5), (.t 6)]⟩,⟨some 8, none, .bin .geq (.t 7) (.c (.i .i64 0))⟩,⟨some 4, none, .mv (.t 8)⟩])
 (.ret))
theorem fn197 : F 197 = .go 9 [.t 4] v197 := by rw [F, fnOf, Tryz.func197]; kernel_rfl

def v198 : VC :=
 .seq (.reg [⟨some 2, none, .mv (.c (.b false))⟩])
 (.seq (.reg [⟨some 3, none, .mv (.t 0)⟩,⟨some 4, none, .call 196 [(.t 3), (.c (.i .i64 (-1))), (.c (.i .i64 65536))]⟩,⟨some 5, none, .un .not (.t 4)⟩,⟨some 2, none, .mv (.t 5)⟩])
 (.ret))
theorem fn198 : F 198 = .go 6 [.t 2] v198 := by rw [F, fnOf, Tryz.func198]; kernel_rfl

def v199 : VC :=
 .seq (.reg [⟨some 1, none, .box 8 (.t 0)⟩,⟨some 2, none, .alloc 285 [(.i .i64 0), (.i .i64 0), (.i .i64 0), (.i .i64 0), (.i .i64 0), (.i .i64 0)]⟩])
 (.seq (.reg [⟨some 3, none, .fa 1 (.t 1)⟩,⟨some 4, none, .ld (.t 3)⟩,⟨some 5, none, .fa 2 (.t 1)⟩,⟨some 6, none, .ld (.t 5)⟩,⟨some 7, none, .fa 3 (.t 1)⟩,⟨some 8, none, .ld (.t 7)⟩,⟨some 9, none, .fa 4 (.t 1)⟩,⟨some 10, none, .ld (.t 9)⟩,⟨some 11, none, .fa 5 (.t 1)⟩,⟨some 12, none, .ld (.t 11)⟩,⟨some 13, none, .fa 6 (.t 1)⟩,⟨some 14, none, .ld (.t 13)⟩,⟨some 15, none, .build [(.i .i64 0), (.i .i64 0), (.i .i64 0), (.i .i64 0), (.i .i64 0), (.i .i64 0)] [(0, 1, (.t 4)), (1, 1, (.t 6)), (2, 1, (.t 8)), (3, 1, (.t 10)), (4, 1, (.t 12)), (5, 1, (.t 14))]⟩,⟨none, none, .st 6 (.t 2) (.t 15)⟩])
 (.ret))
theorem fn199 : F 199 = .go 16 [.c 2 (some 6)] v199 := by rw [F, fnOf, Tryz.func199]; kernel_rfl

def v200 : VC :=
 .seq (.reg [⟨some 2, none, .mv (.c (.sl none 0 0 true))⟩])
 (.seq (.reg [⟨some 3, none, .mv (.t 0)⟩,⟨some 4, none, .call 250 [(.t 3)]⟩,⟨some 5, none, .call 105 [(.t 4)]⟩,⟨some 2, none, .mv (.t 5)⟩])
 (.ret))
theorem fn200 : F 200 = .go 6 [.t 2] v200 := by rw [F, fnOf, Tryz.func200]; kernel_rfl

def v201 : VC :=
 .seq (.reg [⟨some 4, none, .mv (.c (.sl none 0 0 true))⟩])
 (.seq (.reg [⟨some 5, none, .mv (.c (.sl none 0 0 true))⟩])
 (.seq (.reg [⟨some 6, none, .mv (.c (.i .i64 0))⟩,⟨some 7, none, .mv (.c (.i .i64 0))⟩])
 (.seq (.seq (.reg [⟨some 10, none, .mv (.t 1)⟩,⟨some 11, none, .len 1 (.t 10)⟩,⟨some 12, none, .mv (.c (.i .i64 0))⟩])
 (.blk 0 (.loop (.seq (.reg [⟨some 13, none, .bin .lss (.t 12) (.t 11)⟩])
 (.seq (.cond (.t 13) (.skip)
 (.exit 0))
 (.seq (.blk 1 (.seq (.reg [⟨some 14, none, .mv (.t 12)⟩,⟨some 15, none, .ia 1 (.t 10) (.t 12)⟩,⟨some 16, none, .ld (.t 15)⟩,⟨some 8, none, .mv (.t 14)⟩,⟨some 9, none, .mv (.t 16)⟩])
 (.seq (.seq (.reg [⟨some 17, none, .mv (.t 9)⟩,⟨some 18, none, .mv (.t 0)⟩,⟨some 19, none, .mv (.t 8)⟩,⟨some 20, none, .ia 1 (.t 18) (.t 19)⟩,⟨some 21, none, .ld (.t 20)⟩,⟨some 22, none, .bin .eql (.t 17) (.t 21)⟩])
 (.cond (.t 22) (.exit 1)
 (.skip)))
 (.seq (.reg [⟨some 23, none, .mv (.t 5)⟩,⟨some 24, none, .mv (.t 8)⟩,⟨some 25, none, .mv (.t 7)⟩,⟨some 26, none, .bin .sub (.t 24) (.t 25)⟩,⟨some 27, none, .cvi .u64 (.t 26)⟩,⟨some 28, none, .call 105 [(.t 27)]⟩,⟨some 29, none, .app ⟨1, (some 5)⟩ 1 (.t 23) (.t 28)⟩,⟨some 5, none, .mv (.t 29)⟩])
 (.seq (.reg [⟨some 30, none, .mv (.t 5)⟩,⟨some 31, none, .mv (.t 9)⟩,⟨some 32, none, .mv (.t 0)⟩,⟨some 33, none, .mv (.t 8)⟩,⟨some 34, none, .ia 1 (.t 32) (.t 33)⟩,⟨some 35, none, .ld (.t 34)⟩,⟨some 36, none, .bin .sub (.t 31) (.t 35)⟩,⟨some 37, none, .call 200 [(.t 36)]⟩,⟨some 38, none, .app ⟨1, (some 5)⟩ 1 (.t 30) (.t 37)⟩,⟨some 5, none, .mv (.t 38)⟩])
 (.reg [⟨some 39, none, .mv (.t 6)⟩,⟨some 40, none, .bin .add (.t 39) (.c (.i .i64 1))⟩,⟨some 41, none, .mv (.t 8)⟩,⟨some 42, none, .bin .add (.t 41) (.c (.i .i64 1))⟩,⟨some 6, none, .mv (.t 40)⟩,⟨some 7, none, .mv (.t 42)⟩]))))))
 (.reg [⟨some 43, none, .bin .add (.t 12) (.c (.i .i64 1))⟩,⟨some 12, none, .mv (.t 43)⟩])))))))
 (.seq (.reg [⟨some 44, none, .mv (.t 6)⟩,⟨some 45, none, .cvi .u64 (.t 44)⟩,⟨some 46, none, .call 105 [(.t 45)]⟩,⟨some 47, none, .mv (.t 5)⟩,⟨some 48, none, .app ⟨1, (some 5)⟩ 1 (.t 46) (.t 47)⟩,⟨some 4, none, .mv (.t 48)⟩])
 (.ret)))))
theorem fn201 : F 201 = .go 49 [.t 4] v201 := by rw [F, fnOf, Tryz.func201]; kernel_rfl

def v202 : VC :=
 .seq (.reg [⟨some 4, none, .alloc 232 [(.i .i64 0), (.i .i64 0), (.i .i64 0), (.i .i64 0), (.i .i64 0), (.i .i64 0), (.i .i64 0), (.s ⟨#[]⟩), (.sl none 0 0 true), (.sl none 0 0 true), (.sl none 0 0 true)]⟩])
 (.seq (.reg [⟨some 7, none, .mv (.t 0)⟩,⟨some 8, none, .nc (.t 7)⟩,⟨some 9, none, .fa 1 (.t 8)⟩,⟨some 10, none, .ld (.t 9)⟩,⟨some 5, none, .mv (.t 10)⟩])
 (.seq (.reg [⟨some 6, none, .mv (.c (.sl none 0 0 true))⟩])
 (.seq (.blk 0 (.loop (.seq (.seq (.reg [⟨some 11, none, .mv (.t 0)⟩,⟨some 12, none, .call 251 [(.t 11)]⟩,⟨some 13, none, .un .not (.t 12)⟩])
 (.cond (.t 13) (.skip)
 (.exit 0)))
 (.blk 1 (.reg [⟨some 14, none, .mv (.t 6)⟩,⟨some 15, none, .mv (.t 0)⟩,⟨some 16, none, .mv (.t 1)⟩,⟨some 17, none, .call 252 [(.t 15), (.t 16)]⟩,⟨some 18, none, .app ⟨11, (some 232)⟩ 144 (.t 14) (.t 17)⟩,⟨some 6, none, .mv (.t 18)⟩])))))
 (.seq (.seq (.reg [⟨some 19, none, .mv (.t 6)⟩,⟨some 20, none, .len 1 (.t 19)⟩])
 (.blk 2 (.seq (.reg [⟨some 22, none, .bin .eql (.t 20) (.c (.i .i64 0))⟩,⟨some 21, none, .mv (.t 22)⟩])
 (.cond (.t 21) (.seq (.reg [⟨some 23, none, .mv (.t 5)⟩,⟨some 24, none, .mv (.t 5)⟩,⟨some 25, none, .build [(.i .i64 0), (.i .i64 0), (.i .i64 0), (.i .i64 0), (.i .i64 0), (.i .i64 0), (.i .i64 0), (.s ⟨#[]⟩), (.sl none 0 0 true), (.sl none 0 0 true)] [(0, 1, (.c (.i .i64 1))), (1, 1, (.t 23)), (2, 1, (.t 24))]⟩,⟨some 26, none, .build [(.i .i64 0), (.i .i64 0), (.i .i64 0), (.i .i64 0), (.i .i64 0), (.i .i64 0), (.i .i64 0), (.s ⟨#[]⟩), (.sl none 0 0 true), (.sl none 0 0 true), (.sl none 0 0 true)] [(0, 10, (.t 25))]⟩,⟨none, none, .st 11 (.t 4) (.t 26)⟩])
 (.ret))
 (.seq (.reg [⟨some 28, none, .bin .eql (.t 20) (.c (.i .i64 1))⟩,⟨some 27, none, .mv (.t 28)⟩])
 (.cond (.t 27) (.seq (.reg [⟨some 29, none, .mv (.t 6)⟩,⟨some 30, none, .ia 11 (.t 29) (.c (.i .i64 0))⟩,⟨some 31, none, .ldn 11 (.t 30)⟩,⟨none, none, .st 11 (.t 4) (.t 31)⟩])
 (.ret))
 (.skip)))))))
 (.seq (.regd [⟨some 32, none, .mv (.t 6)⟩,⟨some 33, none, .ia 11 (.t 32) (.c (.i .i64 0))⟩,⟨some 34, none, .fa 0 (.t 33)⟩,⟨some 35, none, .fa 1 (.t 34)⟩,⟨some 36, none, .ld (.t 35)⟩,⟨some 37, none, .mv (.t 6)⟩,⟨some 38, none, .mv (.t 6)⟩,⟨some 39, none, .len 1 (.t 38)⟩,⟨some 40, none, .bin .sub (.t 39) (.c (.i .i64 1))⟩,⟨some 41, none, .ia 11 (.t 37) (.t 40)⟩,⟨some 42, none, .fa 0 (.t 41)⟩,⟨some 43, none, .fa 2 (.t 42)⟩,⟨some 44, none, .ld (.t 43)⟩,⟨some 45, none, .build [(.i .i64 0), (.i .i64 0), (.i .i64 0), (.i .i64 0), (.i .i64 0), (.i .i64 0), (.i .i64 0), (.s ⟨#[]⟩), (.sl none 0 0 true), (.sl none 0 0 true)] [(0, 1, (.c (.i .i64 5))), (1, 1, (.t 36)), (2, 1, (.t 44))]⟩,⟨some 46, none, .mv (.t 6)⟩,⟨some 47, none, .build [(.i .i64 0), (.i .i64 0), (.i .i64 0), (.i .i64 0), (.i .i64 0), (.i .i64 0), (.i .i64 0), (.s ⟨#[]⟩), (.sl none 0 0 true), (.sl none 0 0 true), (.sl none 0 0 true)] [(0, 10, (.t 45)), (10, 1, (.t 46))]⟩,⟨none, none, .st 11 (.t 4) (.t 47)⟩] [])
 (.ret))))))
theorem fn202 : F 202 = .go 48 [.c 4 (some 11)] v202 := by rw [F, fnOf, Tryz.func202]; kernel_rfl

def v203 : VC :=
 .seq (.reg [⟨some 4, none, .mv (.c (.i .u8 0))⟩])
 (.seq (.seq (.reg [⟨some 5, none, .mv (.t 1)⟩,⟨some 6, none, .mv (.t 0)⟩,⟨some 7, none, .nc (.t 6)⟩,⟨some 8, none, .fa 0 (.t 7)⟩,⟨some 9, none, .ld (.t 8)⟩,⟨some 10, none, .len 1 (.t 9)⟩,⟨some 11, none, .bin .geq (.t 5) (.t 10)⟩])
 (.cond (.t 11) (.seq (.reg [⟨some 4, none, .mv (.c (.i .u8 0))⟩])
 (.ret))
 (.skip)))
 (.seq (.reg [⟨some 12, none, .mv (.t 0)⟩,⟨some 13, none, .nc (.t 12)⟩,⟨some 14, none, .fa 0 (.t 13)⟩,⟨some 15, none, .ld (.t 14)⟩,⟨some 16, none, .mv (.t 1)⟩,⟨some 17, none, .ia 1 (.t 15) (.t 16)⟩,⟨some 18, none, .ld (.t 17)⟩,⟨some 4, none, .mv (.t 18)⟩])
 (.ret)))
theorem fn203 : F 203 = .go 19 [.t 4] v203 := by rw [F, fnOf, Tryz.func203]; kernel_rfl

def v204 : VC :=
 .seq (.reg [⟨some 3, none, .mv (.c (.i .i64 0))⟩])
 (.blk 0 (.loop (.seq (.seq (.reg [⟨some 6, none, .mv (.t 3)⟩,⟨some 7, none, .ld (.t 1)⟩,⟨some 8, none, .len 1 (.t 7)⟩,⟨some 9, none, .bin .lss (.t 6) (.t 8)⟩])
 (.cond (.t 9) (.skip)
 (.exit 0)))
 (.blk 1 (.seq (.reg [⟨some 11, none, .ld (.t 1)⟩,⟨some 12, none, .mv (.t 3)⟩,⟨some 13, none, .call 205 [(.t 11), (.t 12)]⟩,⟨some 10, none, .mv (.t 13)⟩,⟨some 14, none, .ext (.t 10) 0⟩,⟨some 15, none, .ext (.t 10) 1⟩,⟨some 4, none, .mv (.t 14)⟩,⟨some 5, none, .mv (.t 15)⟩])
 (.seq (.seq (.reg [⟨some 16, none, .mv (.t 0)⟩,⟨some 17, none, .mv (.t 3)⟩,⟨some 18, none, .mv (.t 4)⟩,⟨some 19, none, .cv (.t 16) [(.t 17), (.t 18)]⟩,⟨some 20, none, .un .not (.t 19)⟩])
 (.cond (.t 20) (.ret)
 (.skip)))
 (.reg [⟨some 21, none, .mv (.t 3)⟩,⟨some 22, none, .mv (.t 5)⟩,⟨some 23, none, .bin .add (.t 21) (.t 22)⟩,⟨some 3, none, .mv (.t 23)⟩])))))))
theorem fn204 : F 204 = .go 24 [] v204 := by rw [F, fnOf, Tryz.func204]; kernel_rfl

def v205 : VC :=
 .seq (.reg [⟨some 4, none, .mv (.c (.i .i64 0))⟩,⟨some 5, none, .mv (.c (.i .i64 0))⟩])
 (.seq (.seq (.reg [⟨some 8, none, .mv (.t 1)⟩,⟨some 9, none, .bin .lss (.t 8) (.c (.i .i64 0))⟩,⟨some 10, none, .mv (.t 9)⟩,⟨some 11, some (10, false), .mv (.t 1)⟩,⟨some 12, some (10, false), .mv (.t 0)⟩,⟨some 13, some (10, false), .len 1 (.t 12)⟩,⟨some 14, some (10, false), .bin .geq (.t 11) (.t 13)⟩,⟨some 15, none, .pick (.t 10) (.c (.b true)) (.t 14)⟩])
 (.cond (.t 15) (.seq (.reg [⟨some 4, none, .mv (.c (.i .i64 0))⟩,⟨some 5, none, .mv (.c (.i .i64 0))⟩])
 (.ret))
 (.skip)))
 (.seq (.reg [⟨some 17, none, .mv (.t 0)⟩,⟨some 18, none, .mv (.t 1)⟩,⟨some 19, none, .slc 1 (.t 17) (some (.t 18)) none none⟩,⟨some 20, none, .call 253 [(.t 19)]⟩,⟨some 16, none, .mv (.t 20)⟩,⟨some 21, none, .ext (.t 16) 0⟩,⟨some 22, none, .ext (.t 16) 1⟩,⟨some 6, none, .mv (.t 21)⟩,⟨some 7, none, .mv (.t 22)⟩])
 (.seq (.seq (.reg [⟨some 23, none, .mv (.t 6)⟩,⟨some 24, none, .bin .eql (.t 23) (.c (.i .i32 65533))⟩,⟨some 25, none, .mv (.t 24)⟩,⟨some 26, some (25, true), .mv (.t 7)⟩,⟨some 27, some (25, true), .bin .leq (.t 26) (.c (.i .i64 1))⟩,⟨some 28, none, .pick (.t 25) (.t 27) (.c (.b false))⟩])
 (.cond (.t 28) (.seq (.reg [⟨some 29, none, .mv (.t 0)⟩,⟨some 30, none, .mv (.t 1)⟩,⟨some 31, none, .ia 1 (.t 29) (.t 30)⟩,⟨some 32, none, .ld (.t 31)⟩,⟨some 33, none, .cvi .i64 (.t 32)⟩,⟨some 34, none, .bin .add (.c (.i .i64 1114112)) (.t 33)⟩,⟨some 4, none, .mv (.t 34)⟩,⟨some 5, none, .mv (.c (.i .i64 1))⟩])
 (.ret))
 (.skip)))
 (.seq (.reg [⟨some 35, none, .mv (.t 6)⟩,⟨some 36, none, .cvi .i64 (.t 35)⟩,⟨some 37, none, .mv (.t 7)⟩,⟨some 4, none, .mv (.t 36)⟩,⟨some 5, none, .mv (.t 37)⟩])
 (.ret)))))
theorem fn205 : F 205 = .go 38 [.t 4, .t 5] v205 := by rw [F, fnOf, Tryz.func205]; kernel_rfl

def v206 : VC :=
 .seq (.reg [⟨some 3, none, .box 2 (.t 0)⟩,⟨some 6, none, .alloc 242 [(.i .i64 0), (.i .i64 0)]⟩])
 (.seq (.reg [⟨some 8, none, .fa 0 (.t 3)⟩,⟨some 9, none, .ld (.t 8)⟩,⟨some 10, none, .mv (.t 1)⟩,⟨some 11, none, .bin .mul (.t 9) (.t 10)⟩,⟨some 12, none, .mn [(.t 11), (.c (.i .i64 1048576))]⟩,⟨some 13, none, .build [(.i .i64 0), (.i .i64 0)] [(0, 1, (.t 12))]⟩,⟨some 7, none, .alloc 242 [(.i .i64 0), (.i .i64 0)]⟩,⟨none, none, .st 2 (.t 7) (.t 13)⟩])
 (.seq (.blk 0 (.seq (.reg [⟨some 21, none, .fa 1 (.t 3)⟩,⟨some 22, none, .ld (.t 21)⟩,⟨some 23, none, .bin .eql (.t 22) (.c (.i .i64 0))⟩,⟨some 20, none, .mv (.t 23)⟩])
 (.cond (.t 20) (.skip)
 (.seq (.reg [⟨some 25, none, .fa 1 (.t 3)⟩,⟨some 26, none, .ld (.t 25)⟩,⟨some 27, none, .bin .eql (.t 26) (.c (.i .i64 (-1)))⟩,⟨some 28, none, .mv (.t 27)⟩,⟨some 29, some (28, false), .mv (.t 2)⟩,⟨some 30, some (28, false), .bin .eql (.t 29) (.c (.i .i64 (-1)))⟩,⟨some 31, none, .pick (.t 28) (.c (.b true)) (.t 30)⟩,⟨some 24, none, .mv (.t 31)⟩])
 (.cond (.t 24) (.reg [⟨some 32, none, .fa 1 (.t 7)⟩,⟨none, none, .st 1 (.t 32) (.c (.i .i64 (-1)))⟩])
 (.reg [⟨some 14, none, .fa 1 (.t 3)⟩,⟨some 15, none, .ld (.t 14)⟩,⟨some 16, none, .mv (.t 2)⟩,⟨some 17, none, .bin .mul (.t 15) (.t 16)⟩,⟨some 18, none, .call 254 [(.t 17)]⟩,⟨some 19, none, .fa 1 (.t 7)⟩,⟨none, none, .st 1 (.t 19) (.t 18)⟩]))))))
 (.seq (.reg [⟨some 33, none, .ldn 2 (.t 7)⟩,⟨none, none, .st 2 (.t 6) (.t 33)⟩])
 (.ret))))
theorem fn206 : F 206 = .go 34 [.c 6 (some 2)] v206 := by rw [F, fnOf, Tryz.func206]; kernel_rfl

def v207 : VC :=
 .seq (.reg [⟨some 2, none, .box 2 (.t 0)⟩,⟨some 3, none, .box 2 (.t 1)⟩,⟨some 4, none, .alloc 242 [(.i .i64 0), (.i .i64 0)]⟩])
 (.seq (.reg [⟨some 6, none, .fa 0 (.t 2)⟩,⟨some 7, none, .ld (.t 6)⟩,⟨some 8, none, .fa 0 (.t 3)⟩,⟨some 9, none, .ld (.t 8)⟩,⟨some 10, none, .bin .add (.t 7) (.t 9)⟩,⟨some 11, none, .mn [(.t 10), (.c (.i .i64 1048576))]⟩,⟨some 12, none, .build [(.i .i64 0), (.i .i64 0)] [(0, 1, (.t 11)), (1, 1, (.c (.i .i64 (-1))))]⟩,⟨some 5, none, .alloc 242 [(.i .i64 0), (.i .i64 0)]⟩,⟨none, none, .st 2 (.t 5) (.t 12)⟩])
 (.seq (.seq (.reg [⟨some 13, none, .fa 1 (.t 2)⟩,⟨some 14, none, .ld (.t 13)⟩,⟨some 15, none, .bin .neq (.t 14) (.c (.i .i64 (-1)))⟩,⟨some 16, none, .mv (.t 15)⟩,⟨some 17, some (16, true), .fa 1 (.t 3)⟩,⟨some 18, some (16, true), .ld (.t 17)⟩,⟨some 19, some (16, true), .bin .neq (.t 18) (.c (.i .i64 (-1)))⟩,⟨some 20, none, .pick (.t 16) (.t 19) (.c (.b false))⟩])
 (.cond (.t 20) (.reg [⟨some 21, none, .fa 1 (.t 2)⟩,⟨some 22, none, .ld (.t 21)⟩,⟨some 23, none, .fa 1 (.t 3)⟩,⟨some 24, none, .ld (.t 23)⟩,⟨some 25, none, .bin .add (.t 22) (.t 24)⟩,⟨some 26, none, .call 254 [(.t 25)]⟩,⟨some 27, none, .fa 1 (.t 5)⟩,⟨none, none, .st 1 (.t 27) (.t 26)⟩])
 (.skip)))
 (.seq (.reg [⟨some 28, none, .ldn 2 (.t 5)⟩,⟨none, none, .st 2 (.t 4) (.t 28)⟩])
 (.ret))))
theorem fn207 : F 207 = .go 29 [.c 4 (some 2)] v207 := by rw [F, fnOf, Tryz.func207]; kernel_rfl

def v208 : VC :=
 .seq (.reg [⟨some 2, none, .box 2 (.t 0)⟩,⟨some 3, none, .box 2 (.t 1)⟩,⟨some 4, none, .alloc 242 [(.i .i64 0), (.i .i64 0)]⟩])
 (.seq (.reg [⟨some 6, none, .fa 0 (.t 2)⟩,⟨some 7, none, .ld (.t 6)⟩,⟨some 8, none, .fa 0 (.t 3)⟩,⟨some 9, none, .ld (.t 8)⟩,⟨some 10, none, .mn [(.t 7), (.t 9)]⟩,⟨some 11, none, .build [(.i .i64 0), (.i .i64 0)] [(0, 1, (.t 10)), (1, 1, (.c (.i .i64 (-1))))]⟩,⟨some 5, none, .alloc 242 [(.i .i64 0), (.i .i64 0)]⟩,⟨none, none, .st 2 (.t 5) (.t 11)⟩])
 (.seq (.seq (.reg [⟨some 12, none, .fa 1 (.t 2)⟩,⟨some 13, none, .ld (.t 12)⟩,⟨some 14, none, .bin .neq (.t 13) (.c (.i .i64 (-1)))⟩,⟨some 15, none, .mv (.t 14)⟩,⟨some 16, some (15, true), .fa 1 (.t 3)⟩,⟨some 17, some (15, true), .ld (.t 16)⟩,⟨some 18, some (15, true), .bin .neq (.t 17) (.c (.i .i64 (-1)))⟩,⟨some 19, none, .pick (.t 15) (.t 18) (.c (.b false))⟩])
 (.cond (.t 19) (.reg [⟨some 20, none, .fa 1 (.t 2)⟩,⟨some 21, none, .ld (.t 20)⟩,⟨some 22, none, .fa 1 (.t 3)⟩,⟨some 23, none, .ld (.t 22)⟩,⟨some 24, none, .mx [(.t 21), (.t 23)]⟩,⟨some 25, none, .fa 1 (.t 5)⟩,⟨none, none, .st 1 (.t 25) (.t 24)⟩])
 (.skip)))
 (.seq (.reg [⟨some 26, none, .ldn 2 (.t 5)⟩,⟨none, none, .st 2 (.t 4) (.t 26)⟩])
 (.ret))))
theorem fn208 : F 208 = .go 27 [.c 4 (some 2)] v208 := by rw [F, fnOf, Tryz.func208]; kernel_rfl

def v209 : VC :=
 .seq (.reg [⟨some 6, none, .mv (.c (.i .i64 0))⟩])
 (.seq (.reg [⟨some 8, none, .mv (.t 0)⟩,⟨some 9, none, .mv (.t 1)⟩,⟨some 10, none, .call 114 [(.t 8), (.t 9), (.c (.i .i64 5)), (.c (.i .i64 (-1))), (.c (.i .i64 0)), (.c (.i .i64 0))]⟩,⟨some 7, none, .mv (.t 10)⟩])
 (.seq (.reg [⟨some 11, none, .mv (.t 0)⟩,⟨some 12, none, .nc (.t 11)⟩,⟨some 13, none, .fa 0 (.t 12)⟩,⟨some 14, none, .fa 0 (.t 13)⟩,⟨some 15, none, .ld (.t 14)⟩,⟨some 16, none, .mv (.t 7)⟩,⟨some 17, none, .mv (.t 2)⟩,⟨some 18, none, .ia 6 (.t 15) (.t 16)⟩,⟨some 19, none, .fa 5 (.t 18)⟩,⟨none, none, .st 1 (.t 19) (.t 17)⟩])
 (.seq (.reg [⟨some 20, none, .mv (.t 7)⟩,⟨some 6, none, .mv (.t 20)⟩])
 (.ret))))
theorem fn209 : F 209 = .go 21 [.t 6] v209 := by rw [F, fnOf, Tryz.func209]; kernel_rfl

def v210 : VC :=
 .seq (.reg [⟨some 4, none, .mv (.c (.b false))⟩])
 (.seq (.seq (.reg [⟨some 6, none, .mv (.t 0)⟩,⟨some 7, none, .len 1 (.t 6)⟩,⟨some 8, none, .mv (.t 1)⟩,⟨some 9, none, .len 1 (.t 8)⟩,⟨some 10, none, .bin .neq (.t 7) (.t 9)⟩])
 (.cond (.t 10) (.seq (.reg [⟨some 4, none, .mv (.c (.b false))⟩])
 (.ret))
 (.skip)))
 (.seq (.seq (.reg [⟨some 11, none, .mv (.t 0)⟩,⟨some 12, none, .len 1 (.t 11)⟩,⟨some 13, none, .mv (.c (.i .i64 0))⟩])
 (.blk 0 (.loop (.seq (.reg [⟨some 14, none, .bin .lss (.t 13) (.t 12)⟩])
 (.seq (.cond (.t 14) (.skip)
 (.exit 0))
 (.seq (.blk 1 (.seq (.reg [⟨some 15, none, .mv (.t 13)⟩,⟨some 5, none, .mv (.t 15)⟩])
 (.seq (.regd [⟨some 16, none, .mv (.t 0)⟩,⟨some 17, none, .mv (.t 5)⟩,⟨some 18, none, .ia 2 (.t 16) (.t 17)⟩,⟨some 19, none, .ldn 2 (.t 18)⟩,⟨some 20, none, .mv (.t 1)⟩,⟨some 21, none, .mv (.t 5)⟩,⟨some 22, none, .ia 2 (.t 20) (.t 21)⟩,⟨some 23, none, .ldn 2 (.t 22)⟩,⟨some 24, none, .eqa true [(0, .i), (1, .i)] (.t 19) (.t 23)⟩] [])
 (.cond (.t 24) (.seq (.reg [⟨some 4, none, .mv (.c (.b false))⟩])
 (.ret))
 (.skip)))))
 (.reg [⟨some 25, none, .bin .add (.t 13) (.c (.i .i64 1))⟩,⟨some 13, none, .mv (.t 25)⟩])))))))
 (.seq (.reg [⟨some 4, none, .mv (.c (.b true))⟩])
 (.ret))))
theorem fn210 : F 210 = .go 26 [.t 4] v210 := by rw [F, fnOf, Tryz.func210]; kernel_rfl

def v211 : VC :=
 .seq (.reg [⟨some 2, none, .mv (.c (.sl none 0 0 true))⟩])
 (.seq (.reg [⟨some 3, none, .mv (.c (.sl none 0 0 true))⟩])
 (.seq (.seq (.reg [⟨some 12, none, .mv (.t 0)⟩,⟨some 13, none, .len 1 (.t 12)⟩,⟨some 14, none, .mv (.c (.i .i64 0))⟩])
 (.blk 0 (.loop (.seq (.reg [⟨some 15, none, .bin .lss (.t 14) (.t 13)⟩])
 (.seq (.cond (.t 15) (.skip)
 (.exit 0))
 (.seq (.blk 1 (.seq (.reg [⟨some 16, none, .ia 2 (.t 12) (.t 14)⟩,⟨some 17, none, .ldn 2 (.t 16)⟩,⟨some 5, none, .alloc 295 [(.i .i64 0), (.i .i64 0)]⟩,⟨none, none, .st 2 (.t 5) (.t 17)⟩])
 (.seq (.reg [⟨some 19, none, .ldn 2 (.t 5)⟩,⟨some 20, none, .call 255 [(.t 19)]⟩,⟨some 18, none, .mv (.t 20)⟩,⟨some 21, none, .ext (.t 18) 0⟩,⟨some 22, none, .ext (.t 18) 1⟩,⟨some 6, none, .alloc 295 [(.i .i64 0), (.i .i64 0)]⟩,⟨none, none, .st 2 (.t 6) (.t 21)⟩,⟨some 7, none, .mv (.t 22)⟩])
 (.seq (.reg [⟨some 23, none, .mv (.t 7)⟩])
 (.cond (.t 23) (.reg [⟨some 24, none, .mv (.t 3)⟩,⟨some 25, none, .ldn 2 (.t 6)⟩,⟨some 26, none, .bsl 2 1 [(.i .i64 0), (.i .i64 0)] [(0, 2, (.t 25))]⟩,⟨some 27, none, .app ⟨2, (some 295)⟩ 16 (.t 24) (.t 26)⟩,⟨some 3, none, .mv (.t 27)⟩])
 (.skip))))))
 (.reg [⟨some 28, none, .bin .add (.t 14) (.c (.i .i64 1))⟩,⟨some 14, none, .mv (.t 28)⟩])))))))
 (.seq (.reg [⟨some 29, none, .mv (.t 3)⟩,⟨some 30, none, .call 256 [(.t 29), (.c (.f 257 [] []))]⟩])
 (.seq (.reg [⟨some 8, none, .mv (.c (.sl none 0 0 true))⟩])
 (.seq (.seq (.reg [⟨some 31, none, .mv (.t 3)⟩,⟨some 32, none, .len 1 (.t 31)⟩,⟨some 33, none, .mv (.c (.i .i64 0))⟩])
 (.blk 2 (.loop (.seq (.reg [⟨some 34, none, .bin .lss (.t 33) (.t 32)⟩])
 (.seq (.cond (.t 34) (.skip)
 (.exit 2))
 (.seq (.blk 3 (.seq (.reg [⟨some 35, none, .ia 2 (.t 31) (.t 33)⟩,⟨some 36, none, .ldn 2 (.t 35)⟩,⟨some 10, none, .alloc 295 [(.i .i64 0), (.i .i64 0)]⟩,⟨none, none, .st 2 (.t 10) (.t 36)⟩])
 (.seq (.reg [⟨some 37, none, .mv (.t 8)⟩,⟨some 38, none, .len 1 (.t 37)⟩,⟨some 11, none, .mv (.t 38)⟩])
 (.seq (.seq (.regd [⟨some 39, none, .mv (.t 11)⟩,⟨some 40, none, .bin .gtr (.t 39) (.c (.i .i64 0))⟩,⟨some 41, none, .mv (.t 40)⟩,⟨some 42, some (41, true), .fa 0 (.t 10)⟩,⟨some 43, some (41, true), .ld (.t 42)⟩,⟨some 44, some (41, true), .mv (.t 8)⟩,⟨some 45, some (41, true), .mv (.t 11)⟩,⟨some 46, some (41, true), .bin .sub (.t 45) (.c (.i .i64 1))⟩,⟨some 47, some (41, true), .ia 2 (.t 44) (.t 46)⟩,⟨some 48, some (41, true), .fa 1 (.t 47)⟩,⟨some 49, some (41, true), .ld (.t 48)⟩,⟨some 50, some (41, true), .bin .add (.t 49) (.c (.i .i64 1))⟩,⟨some 51, some (41, true), .bin .leq (.t 43) (.t 50)⟩,⟨some 52, none, .pick (.t 41) (.t 51) (.c (.b false))⟩] [])
 (.cond (.t 52) (.seq (.regd [⟨some 53, none, .mv (.t 8)⟩,⟨some 54, none, .mv (.t 11)⟩,⟨some 55, none, .bin .sub (.t 54) (.c (.i .i64 1))⟩,⟨some 56, none, .mv (.t 8)⟩,⟨some 57, none, .mv (.t 11)⟩,⟨some 58, none, .bin .sub (.t 57) (.c (.i .i64 1))⟩,⟨some 59, none, .ia 2 (.t 56) (.t 58)⟩,⟨some 60, none, .fa 1 (.t 59)⟩,⟨some 61, none, .ld (.t 60)⟩,⟨some 62, none, .fa 1 (.t 10)⟩,⟨some 63, none, .ld (.t 62)⟩,⟨some 64, none, .mx [(.t 61), (.t 63)]⟩,⟨some 65, none, .ia 2 (.t 53) (.t 55)⟩,⟨some 66, none, .fa 1 (.t 65)⟩,⟨none, none, .st 1 (.t 66) (.t 64)⟩] [])
 (.exit 3))
 (.skip)))
 (.reg [⟨some 67, none, .mv (.t 8)⟩,⟨some 68, none, .ldn 2 (.t 10)⟩,⟨some 69, none, .bsl 2 1 [(.i .i64 0), (.i .i64 0)] [(0, 2, (.t 68))]⟩,⟨some 70, none, .app ⟨2, (some 295)⟩ 16 (.t 67) (.t 69)⟩,⟨some 8, none, .mv (.t 70)⟩])))))
 (.reg [⟨some 71, none, .bin .add (.t 33) (.c (.i .i64 1))⟩,⟨some 33, none, .mv (.t 71)⟩])))))))
 (.seq (.reg [⟨some 72, none, .mv (.t 8)⟩,⟨some 2, none, .mv (.t 72)⟩])
 (.ret)))))))
theorem fn211 : F 211 = .go 73 [.t 2] v211 := by rw [F, fnOf, Tryz.func211]; kernel_rfl

def v212 : VC :=
 .seq (.reg [⟨some 3, none, .box 4 (.t 0)⟩,⟨some 5, none, .box 6 (.t 2)⟩,⟨some 6, none, .mv (.c (.b false))⟩])
 (.seq (.seq (.reg [⟨some 7, none, .fa 0 (.t 5)⟩,⟨some 8, none, .ld (.t 7)⟩])
 (.blk 0 (.seq (.reg [⟨some 10, none, .bin .eql (.t 8) (.c (.i .i64 4))⟩,⟨some 9, none, .mv (.t 10)⟩])
 (.cond (.t 9) (.seq (.reg [⟨some 11, none, .ldn 4 (.t 3)⟩,⟨some 12, none, .mv (.t 1)⟩,⟨some 13, none, .fa 1 (.t 5)⟩,⟨some 14, none, .ld (.t 13)⟩,⟨some 15, none, .call 260 [(.t 11), (.t 12), (.t 14)]⟩,⟨some 16, none, .mv (.t 15)⟩,⟨some 17, some (16, true), .ldn 4 (.t 3)⟩,⟨some 18, some (16, true), .fa 1 (.t 5)⟩,⟨some 19, some (16, true), .ld (.t 18)⟩,⟨some 20, some (16, true), .call 261 [(.t 17), (.t 19), (.c (.i .i64 5))]⟩,⟨some 21, none, .pick (.t 16) (.t 20) (.c (.b false))⟩,⟨some 22, none, .mv (.t 21)⟩,⟨some 23, some (22, true), .fa 2 (.t 5)⟩,⟨some 24, some (22, true), .ld (.t 23)⟩,⟨some 25, some (22, true), .bin .eql (.t 24) (.c (.i .i64 0))⟩,⟨some 26, none, .pick (.t 22) (.t 25) (.c (.b false))⟩,⟨some 27, none, .mv (.t 26)⟩,⟨some 28, some (27, true), .fa 3 (.t 5)⟩,⟨some 29, some (27, true), .ld (.t 28)⟩,⟨some 30, some (27, true), .bin .eql (.t 29) (.c (.i .i64 0))⟩,⟨some 31, none, .pick (.t 27) (.t 30) (.c (.b false))⟩,⟨some 6, none, .mv (.t 31)⟩])
 (.ret))
 (.seq (.reg [⟨some 33, none, .bin .eql (.t 8) (.c (.i .i64 5))⟩,⟨some 32, none, .mv (.t 33)⟩])
 (.cond (.t 32) (.seq (.reg [⟨some 34, none, .fa 1 (.t 5)⟩,⟨some 35, none, .ld (.t 34)⟩,⟨some 36, none, .bin .eql (.t 35) (.c (.i .i64 (-1)))⟩,⟨some 37, none, .mv (.t 36)⟩,⟨some 38, some (37, false), .ldn 4 (.t 3)⟩,⟨some 39, some (37, false), .mv (.t 1)⟩,⟨some 40, some (37, false), .fa 1 (.t 5)⟩,⟨some 41, some (37, false), .ld (.t 40)⟩,⟨some 42, some (37, false), .call 260 [(.t 38), (.t 39), (.t 41)]⟩,⟨some 43, some (37, false), .mv (.t 42)⟩,⟨some 44, some (43, true), .ldn 4 (.t 3)⟩,⟨some 45, some (43, true), .fa 1 (.t 5)⟩,⟨some 46, some (43, true), .ld (.t 45)⟩,⟨some 47, some (43, true), .call 261 [(.t 44), (.t 46), (.c (.i .i64 5))]⟩,⟨some 48, some (37, false), .pick (.t 43) (.t 47) (.c (.b false))⟩,⟨some 49, none, .pick (.t 37) (.c (.b true)) (.t 48)⟩,⟨some 50, none, .mv (.t 49)⟩,⟨some 51, some (50, true), .fa 2 (.t 5)⟩,⟨some 52, some (50, true), .ld (.t 51)⟩,⟨some 53, some (50, true), .bin .eql (.t 52) (.c (.i .i64 0))⟩,⟨some 54, none, .pick (.t 50) (.t 53) (.c (.b false))⟩,⟨some 55, none, .mv (.t 54)⟩,⟨some 56, some (55, true), .fa 3 (.t 5)⟩,⟨some 57, some (55, true), .ld (.t 56)⟩,⟨some 58, some (55, true), .bin .eql (.t 57) (.c (.i .i64 0))⟩,⟨some 59, none, .pick (.t 55) (.t 58) (.c (.b false))⟩,⟨some 6, none, .mv (.t 59)⟩])
 (.ret))
 (.seq (.reg [⟨some 61, none, .bin .eql (.t 8) (.c (.i .i64 6))⟩,⟨some 60, none, .mv (.t 61)⟩])
 (.cond (.t 60) (.seq (.reg [⟨some 62, none, .ldn 4 (.t 3)⟩,⟨some 63, none, .mv (.t 1)⟩,⟨some 64, none, .fa 1 (.t 5)⟩,⟨some 65, none, .ld (.t 64)⟩,⟨some 66, none, .call 260 [(.t 62), (.t 63), (.t 65)]⟩,⟨some 67, none, .mv (.t 66)⟩,⟨some 68, some (67, true), .fa 2 (.t 5)⟩,⟨some 69, some (67, true), .ld (.t 68)⟩,⟨some 70, some (67, true), .bin .eql (.t 69) (.c (.i .i64 0))⟩,⟨some 71, none, .pick (.t 67) (.t 70) (.c (.b false))⟩,⟨some 72, none, .mv (.t 71)⟩,⟨some 73, some (72, true), .fa 3 (.t 5)⟩,⟨some 74, some (72, true), .ld (.t 73)⟩,⟨some 75, some (72, true), .bin .eql (.t 74) (.c (.i .i64 0))⟩,⟨some 76, none, .pick (.t 72) (.t 75) (.c (.b false))⟩,⟨some 6, none, .mv (.t 76)⟩])
 (.ret))
 (.seq (.reg [⟨some 78, none, .bin .eql (.t 8) (.c (.i .i64 13))⟩,⟨some 77, none, .mv (.t 78)⟩])
 (.cond (.t 77) (.seq (.reg [⟨some 79, none, .fa 1 (.t 5)⟩,⟨some 80, none, .ld (.t 79)⟩,⟨some 81, none, .bin .eql (.t 80) (.c (.i .i64 (-1)))⟩,⟨some 82, none, .mv (.t 81)⟩,⟨some 83, some (82, false), .ldn 4 (.t 3)⟩,⟨some 84, some (82, false), .mv (.t 1)⟩,⟨some 85, some (82, false), .fa 1 (.t 5)⟩,⟨some 86, some (82, false), .ld (.t 85)⟩,⟨some 87, some (82, false), .call 260 [(.t 83), (.t 84), (.t 86)]⟩,⟨some 88, none, .pick (.t 82) (.c (.b true)) (.t 87)⟩,⟨some 89, none, .mv (.t 88)⟩,⟨some 90, some (89, true), .fa 2 (.t 5)⟩,⟨some 91, some (89, true), .ld (.t 90)⟩,⟨some 92, some (89, true), .bin .eql (.t 91) (.c (.i .i64 0))⟩,⟨some 93, none, .pick (.t 89) (.t 92) (.c (.b false))⟩,⟨some 94, none, .mv (.t 93)⟩,⟨some 95, some (94, true), .fa 3 (.t 5)⟩,⟨some 96, some (94, true), .ld (.t 95)⟩,⟨some 97, some (94, true), .bin .eql (.t 96) (.c (.i .i64 0))⟩,⟨some 98, none, .pick (.t 94) (.t 97) (.c (.b false))⟩,⟨some 6, none, .mv (.t 98)⟩])
 (.ret))
 (.seq (.reg [⟨some 100, none, .bin .eql (.t 8) (.c (.i .i64 8))⟩,⟨some 99, none, .mv (.t 100)⟩])
 (.cond (.t 99) (.seq (.reg [⟨some 101, none, .fa 1 (.t 5)⟩,⟨some 102, none, .ld (.t 101)⟩,⟨some 103, none, .fa 2 (.t 3)⟩,⟨some 104, none, .ld (.t 103)⟩,⟨some 105, none, .len 1 (.t 104)⟩,⟨some 106, none, .bin .sub (.t 105) (.c (.i .i64 1))⟩,⟨some 107, none, .call 165 [(.t 102), (.c (.i .i64 0)), (.t 106)]⟩,⟨some 108, none, .mv (.t 107)⟩,⟨some 109, some (108, true), .ldn 4 (.t 3)⟩,⟨some 110, some (108, true), .mv (.t 1)⟩,⟨some 111, some (108, true), .fa 2 (.t 5)⟩,⟨some 112, some (108, true), .ld (.t 111)⟩,⟨some 113, some (108, true), .call 260 [(.t 109), (.t 110), (.t 112)]⟩,⟨some 114, none, .pick (.t 108) (.t 113) (.c (.b false))⟩,⟨some 115, none, .mv (.t 114)⟩,⟨some 116, some (115, true), .ldn 4 (.t 3)⟩,⟨some 117, some (115, true), .mv (.t 1)⟩,⟨some 118, some (115, true), .fa 3 (.t 5)⟩,⟨some 119, some (115, true), .ld (.t 118)⟩,⟨some 120, some (115, true), .call 260 [(.t 116), (.t 117), (.t 119)]⟩,⟨some 121, none, .pick (.t 115) (.t 120) (.c (.b false))⟩,⟨some 122, none, .mv (.t 121)⟩,⟨some 123, some (122, true), .ldn 4 (.t 3)⟩,⟨some 124, some (122, true), .mv (.t 1)⟩,⟨some 125, some (122, true), .bin .add (.t 124) (.c (.i .i64 1))⟩,⟨some 126, some (122, true), .call 261 [(.t 123), (.t 125), (.c (.i .i64 5))]⟩,⟨some 127, none, .pick (.t 122) (.t 126) (.c (.b false))⟩,⟨some 6, none, .mv (.t 127)⟩])
 (.ret))
 (.seq (.reg [⟨some 129, none, .bin .eql (.t 8) (.c (.i .i64 10))⟩,⟨some 128, none, .mv (.t 129)⟩])
 (.cond (.t 128) (.seq (.reg [⟨some 130, none, .fa 1 (.t 5)⟩,⟨some 131, none, .ld (.t 130)⟩,⟨some 132, none, .fa 2 (.t 3)⟩,⟨some 133, none, .ld (.t 132)⟩,⟨some 134, none, .len 1 (.t 133)⟩,⟨some 135, none, .bin .sub (.t 134) (.c (.i .i64 1))⟩,⟨some 136, none, .call 165 [(.t 131), (.c (.i .i64 0)), (.t 135)]⟩,⟨some 137, none, .mv (.t 136)⟩,⟨some 138, some (137, true), .ldn 4 (.t 3)⟩,⟨some 139, some (137, true), .mv (.t 1)⟩,⟨some 140, some (137, true), .ldn 6 (.t 5)⟩,⟨some 141, some (137, true), .call 262 [(.t 138), (.t 139), (.t 140)]⟩,⟨some 142, none, .pick (.t 137) (.t 141) (.c (.b false))⟩,⟨some 143, none, .mv (.t 142)⟩,⟨some 144, some (143, true), .fa 3 (.t 5)⟩,⟨some 145, some (143, true), .ld (.t 144)⟩,⟨some 146, some (143, true), .bin .eql (.t 145) (.c (.i .i64 0))⟩,⟨some 147, none, .pick (.t 143) (.t 146) (.c (.b false))⟩,⟨some 6, none, .mv (.t 147)⟩])
 (.ret))
 (.skip)))))))))))))))
 (.seq (.reg [⟨some 148, none, .fa 1 (.t 5)⟩,⟨some 149, none, .ld (.t 148)⟩,⟨some 150, none, .bin .eql (.t 149) (.c (.i .i64 0))⟩,⟨some 151, none, .mv (.t 150)⟩,⟨some 152, some (151, true), .fa 2 (.t 5)⟩,⟨some 153, some (151, true), .ld (.t 152)⟩,⟨some 154, some (151, true), .bin .eql (.t 153) (.c (.i .i64 0))⟩,⟨some 155, none, .pick (.t 151) (.t 154) (.c (.b false))⟩,⟨some 156, none, .mv (.t 155)⟩,⟨some 157, some (156, true), .fa 3 (.t 5)⟩,⟨some 158, some (156, true), .ld (.t 157)⟩,⟨some 159, some (156, true), .bin .eql (.t 158) (.c (.i .i64 0))⟩,⟨some 160, none, .pick (.t 156) (.t 159) (.c (.b false))⟩,⟨some 6, none, .mv (.t 160)⟩])
 (.ret)))
theorem fn212 : F 212 = .go 161 [.t 6] v212 := by rw [F, fnOf, Tryz.func212]; kernel_rfl

def v213 : VC :=
 .seq (.reg [⟨some 2, none, .box 6 (.t 0)⟩,⟨some 4, none, .mv (.c (.b false))⟩])
 (.seq (.seq (.reg [⟨some 5, none, .fa 0 (.t 2)⟩,⟨some 6, none, .ld (.t 5)⟩])
 (.blk 0 (.seq (.seq (.reg [⟨some 8, none, .bin .eql (.t 6) (.c (.i .i64 14))⟩,⟨some 7, none, .mv (.t 8)⟩])
 (.cond (.t 7) (.skip)
 (.seq (.reg [⟨some 9, none, .bin .eql (.t 6) (.c (.i .i64 15))⟩,⟨some 7, none, .mv (.t 9)⟩])
 (.cond (.t 7) (.skip)
 (.seq (.reg [⟨some 10, none, .bin .eql (.t 6) (.c (.i .i64 16))⟩,⟨some 7, none, .mv (.t 10)⟩])
 (.cond (.t 7) (.skip)
 (.seq (.reg [⟨some 11, none, .bin .eql (.t 6) (.c (.i .i64 17))⟩,⟨some 7, none, .mv (.t 11)⟩])
 (.cond (.t 7) (.skip)
 (.reg [⟨some 12, none, .bin .eql (.t 6) (.c (.i .i64 18))⟩,⟨some 7, none, .mv (.t 12)⟩])))))))))
 (.cond (.t 7) (.seq (.reg [⟨some 13, none, .mv (.t 1)⟩,⟨some 14, none, .bin .gtr (.t 13) (.c (.i .i64 0))⟩,⟨some 4, none, .mv (.t 14)⟩])
 (.ret))
 (.seq (.reg [⟨some 16, none, .bin .eql (.t 6) (.c (.i .i64 19))⟩,⟨some 15, none, .mv (.t 16)⟩])
 (.cond (.t 15) (.seq (.reg [⟨some 17, none, .mv (.t 1)⟩,⟨some 18, none, .bin .eql (.t 17) (.c (.i .i64 0))⟩,⟨some 4, none, .mv (.t 18)⟩])
 (.ret))
 (.skip)))))))
 (.seq (.reg [⟨some 4, none, .mv (.c (.b true))⟩])
 (.ret)))
theorem fn213 : F 213 = .go 19 [.t 4] v213 := by rw [F, fnOf, Tryz.func213]; kernel_rfl

def v214 : VC :=
 .seq (.reg [⟨some 4, none, .box 6 (.t 1)⟩,⟨some 6, none, .mv (.c (.sl none 0 0 true))⟩])
 (.seq (.reg [⟨some 8, none, .mv (.t 0)⟩,⟨some 9, none, .bin .add (.t 8) (.c (.i .i64 1))⟩,⟨some 10, none, .mv (.t 2)⟩,⟨some 11, none, .build [(.i .i64 0), (.i .i64 0)] [(0, 1, (.t 9)), (1, 1, (.t 10))]⟩,⟨some 7, none, .alloc 302 [(.i .i64 0), (.i .i64 0)]⟩,⟨none, none, .st 2 (.t 7) (.t 11)⟩])
 (.seq (.seq (.reg [⟨some 12, none, .fa 0 (.t 4)⟩,⟨some 13, none, .ld (.t 12)⟩])
 (.blk 0 (.seq (.seq (.reg [⟨some 15, none, .bin .eql (.t 13) (.c (.i .i64 4))⟩,⟨some 14, none, .mv (.t 15)⟩])
 (.cond (.t 14) (.skip)
 (.reg [⟨some 16, none, .bin .eql (.t 13) (.c (.i .i64 5))⟩,⟨some 14, none, .mv (.t 16)⟩])))
 (.cond (.t 14) (.seq (.reg [⟨some 17, none, .fa 1 (.t 4)⟩,⟨some 18, none, .ld (.t 17)⟩,⟨some 19, none, .bin .neq (.t 18) (.c (.i .i64 (-1)))⟩])
 (.cond (.t 19) (.seq (.reg [⟨some 20, none, .ldn 2 (.t 7)⟩,⟨some 21, none, .fa 1 (.t 4)⟩,⟨some 22, none, .ld (.t 21)⟩,⟨some 23, none, .mv (.t 2)⟩,⟨some 24, none, .build [(.i .i64 0), (.i .i64 0)] [(0, 1, (.t 22)), (1, 1, (.t 23))]⟩,⟨some 25, none, .bsl 2 2 [(.i .i64 0), (.i .i64 0), (.i .i64 0), (.i .i64 0)] [(0, 2, (.t 20)), (2, 2, (.t 24))]⟩,⟨some 6, none, .mv (.t 25)⟩])
 (.ret))
 (.skip)))
 (.seq (.reg [⟨some 27, none, .bin .eql (.t 13) (.c (.i .i64 6))⟩,⟨some 26, none, .mv (.t 27)⟩])
 (.cond (.t 26) (.seq (.reg [⟨some 28, none, .fa 1 (.t 4)⟩,⟨some 29, none, .ld (.t 28)⟩,⟨some 30, none, .mv (.t 2)⟩,⟨some 31, none, .build [(.i .i64 0), (.i .i64 0)] [(0, 1, (.t 29)), (1, 1, (.t 30))]⟩,⟨some 32, none, .bsl 2 1 [(.i .i64 0), (.i .i64 0)] [(0, 2, (.t 31))]⟩,⟨some 6, none, .mv (.t 32)⟩])
 (.ret))
 (.seq (.reg [⟨some 34, none, .bin .eql (.t 13) (.c (.i .i64 8))⟩,⟨some 33, none, .mv (.t 34)⟩])
 (.cond (.t 33) (.seq (.reg [⟨some 35, none, .ldn 2 (.t 7)⟩,⟨some 36, none, .fa 2 (.t 4)⟩,⟨some 37, none, .ld (.t 36)⟩,⟨some 38, none, .mv (.t 2)⟩,⟨some 39, none, .build [(.i .i64 0), (.i .i64 0)] [(0, 1, (.t 37)), (1, 1, (.t 38))]⟩,⟨some 40, none, .fa 3 (.t 4)⟩,⟨some 41, none, .ld (.t 40)⟩,⟨some 42, none, .mv (.t 2)⟩,⟨some 43, none, .build [(.i .i64 0), (.i .i64 0)] [(0, 1, (.t 41)), (1, 1, (.t 42))]⟩,⟨some 44, none, .bsl 2 3 [(.i .i64 0), (.i .i64 0), (.i .i64 0), (.i .i64 0), (.i .i64 0), (.i .i64 0)] [(0, 2, (.t 35)), (2, 2, (.t 39)), (4, 2, (.t 43))]⟩,⟨some 6, none, .mv (.t 44)⟩])
 (.ret))
 (.seq (.reg [⟨some 46, none, .bin .eql (.t 13) (.c (.i .i64 10))⟩,⟨some 45, none, .mv (.t 46)⟩])
 (.cond (.t 45) (.seq (.reg [⟨some 47, none, .fa 2 (.t 4)⟩,⟨some 48, none, .ld (.t 47)⟩,⟨some 49, none, .mv (.t 2)⟩,⟨some 50, none, .build [(.i .i64 0), (.i .i64 0)] [(0, 1, (.t 48)), (1, 1, (.t 49))]⟩,⟨some 51, none, .bsl 2 1 [(.i .i64 0), (.i .i64 0)] [(0, 2, (.t 50))]⟩,⟨some 6, none, .mv (.t 51)⟩])
 (.ret))
 (.seq (.reg [⟨some 53, none, .bin .eql (.t 13) (.c (.i .i64 13))⟩,⟨some 52, none, .mv (.t 53)⟩])
 (.cond (.t 52) (.seq (.reg [⟨some 54, none, .fa 1 (.t 7)⟩,⟨some 55, none, .ld (.t 54)⟩,⟨some 56, none, .bin .add (.t 55) (.c (.i .i64 1))⟩,⟨some 57, none, .fa 1 (.t 7)⟩,⟨none, none, .st 1 (.t 57) (.t 56)⟩])
 (.seq (.reg [⟨some 58, none, .fa 1 (.t 4)⟩,⟨some 59, none, .ld (.t 58)⟩,⟨some 60, none, .bin .neq (.t 59) (.c (.i .i64 (-1)))⟩])
 (.cond (.t 60) (.seq (.reg [⟨some 61, none, .ldn 2 (.t 7)⟩,⟨some 62, none, .fa 1 (.t 4)⟩,⟨some 63, none, .ld (.t 62)⟩,⟨some 64, none, .mv (.t 2)⟩,⟨some 65, none, .build [(.i .i64 0), (.i .i64 0)] [(0, 1, (.t 63)), (1, 1, (.t 64))]⟩,⟨some 66, none, .bsl 2 2 [(.i .i64 0), (.i .i64 0), (.i .i64 0), (.i .i64 0)] [(0, 2, (.t 61)), (2, 2, (.t 65))]⟩,⟨some 6, none, .mv (.t 66)⟩])
 (.ret))
 (.skip))))
 (.seq (.seq (.reg [⟨some 68, none, .bin .eql (.t 13) (.c (.i .i64 16))⟩,⟨some 67, none, .mv (.t 68)⟩])
 (.cond (.t 67) (.skip)
 (.reg [⟨some 69, none, .bin .eql (.t 13) (.c (.i .i64 17))⟩,⟨some 67, none, .mv (.t 69)⟩])))
 (.cond (.t 67) (.reg [⟨some 70, none, .fa 1 (.t 7)⟩,⟨some 71, none, .ld (.t 70)⟩,⟨some 72, none, .bin .sub (.t 71) (.c (.i .i64 1))⟩,⟨some 73, none, .fa 1 (.t 7)⟩,⟨none, none, .st 1 (.t 73) (.t 72)⟩])
 (.seq (.seq (.reg [⟨some 75, none, .bin .eql (.t 13) (.c (.i .i64 18))⟩,⟨some 74, none, .mv (.t 75)⟩])
 (.cond (.t 74) (.skip)
 (.reg [⟨some 76, none, .bin .eql (.t 13) (.c (.i .i64 19))⟩,⟨some 74, none, .mv (.t 76)⟩])))
 (.cond (.t 74) (.seq (.reg [⟨some 6, none, .mv (.c (.sl none 0 0 true))⟩])
 (.ret))
 (.skip)))))))))))))))))
 (.seq (.reg [⟨some 77, none, .ldn 2 (.t 7)⟩,⟨some 78, none, .bsl 2 1 [(.i .i64 0), (.i .i64 0)] [(0, 2, (.t 77))]⟩,⟨some 6, none, .mv (.t 78)⟩])
 (.ret))))
theorem fn214 : F 214 = .go 79 [.t 6] v214 := by rw [F, fnOf, Tryz.func214]; kernel_rfl

def v215 : VC :=
 .seq (.reg [⟨some 4, none, .mv (.c (.i .u64 0))⟩,⟨some 5, none, .mv (.c (.i .u64 0))⟩])
 (.seq (.cond (.c (.b false)) (.seq (.reg [⟨some 11, none, .mv (.t 0)⟩,⟨some 12, none, .cvi .u32 (.t 11)⟩,⟨some 13, none, .mv (.t 1)⟩,⟨some 14, none, .cvi .u32 (.t 13)⟩,⟨some 15, none, .call 263 [(.t 12), (.t 14)]⟩,⟨some 10, none, .mv (.t 15)⟩,⟨some 16, none, .ext (.t 10) 0⟩,⟨some 17, none, .ext (.t 10) 1⟩,⟨some 6, none, .mv (.t 16)⟩,⟨some 7, none, .mv (.t 17)⟩])
 (.seq (.reg [⟨some 18, none, .mv (.t 6)⟩,⟨some 19, none, .cvi .u64 (.t 18)⟩,⟨some 20, none, .mv (.t 7)⟩,⟨some 21, none, .cvi .u64 (.t 20)⟩,⟨some 4, none, .mv (.t 19)⟩,⟨some 5, none, .mv (.t 21)⟩])
 (.ret)))
 (.skip))
 (.seq (.reg [⟨some 23, none, .mv (.t 0)⟩,⟨some 24, none, .mv (.t 1)⟩,⟨some 25, none, .call 264 [(.t 23), (.t 24)]⟩,⟨some 22, none, .mv (.t 25)⟩,⟨some 26, none, .ext (.t 22) 0⟩,⟨some 27, none, .ext (.t 22) 1⟩,⟨some 8, none, .mv (.t 26)⟩,⟨some 9, none, .mv (.t 27)⟩])
 (.seq (.reg [⟨some 28, none, .mv (.t 8)⟩,⟨some 29, none, .mv (.t 9)⟩,⟨some 4, none, .mv (.t 28)⟩,⟨some 5, none, .mv (.t 29)⟩])
 (.ret))))
theorem fn215 : F 215 = .go 30 [.t 4, .t 5] v215 := by rw [F, fnOf, Tryz.func215]; kernel_rfl

def v216 : VC :=
 .seq (.reg [⟨some 4, none, .mv (.c (.i .i64 0))⟩])
 (.seq (.reg [⟨some 5, none, .mv (.t 0)⟩,⟨some 6, none, .nc (.t 5)⟩,⟨some 7, none, .fa 0 (.t 6)⟩,⟨some 8, none, .fa 3 (.t 7)⟩,⟨some 9, none, .ld (.t 8)⟩,⟨some 10, none, .bin .add (.t 9) (.c (.i .i64 1))⟩,⟨some 11, none, .bin .mul (.c (.i .i64 2)) (.t 10)⟩,⟨some 12, none, .mv (.t 1)⟩,⟨some 13, none, .bin .add (.t 11) (.t 12)⟩,⟨some 4, none, .mv (.t 13)⟩])
 (.ret))
theorem fn216 : F 216 = .go 14 [.t 4] v216 := by rw [F, fnOf, Tryz.func216]; kernel_rfl

def v217 : VC :=
 .seq (.reg [⟨some 2, none, .alloc 307 [(.b false), (.i .i64 0), (.i .i64 0), (.i .i64 0), (.i .i64 0), (.i .i64 0)]⟩,⟨some 3, none, .mv (.c (.b false))⟩])
 (.seq (.reg [⟨some 7, none, .mv (.t 0)⟩,⟨some 8, none, .call 265 [(.t 7)]⟩,⟨some 6, none, .mv (.t 8)⟩,⟨some 9, none, .ext (.t 6) 0⟩,⟨some 10, none, .ext (.t 6) 1⟩,⟨some 4, none, .alloc 307 [(.b false), (.i .i64 0), (.i .i64 0), (.i .i64 0), (.i .i64 0), (.i .i64 0)]⟩,⟨none, none, .st 6 (.t 4) (.t 9)⟩,⟨some 5, none, .mv (.t 10)⟩])
 (.seq (.seq (.reg [⟨some 11, none, .mv (.t 5)⟩,⟨some 12, none, .un .not (.t 11)⟩])
 (.cond (.t 12) (.seq (.reg [⟨some 13, none, .build [(.b false), (.i .i64 0), (.i .i64 0), (.i .i64 0), (.i .i64 0), (.i .i64 0)] []⟩,⟨none, none, .st 6 (.t 2) (.t 13)⟩,⟨some 3, none, .mv (.c (.b false))⟩])
 (.ret))
 (.skip)))
 (.seq (.regd [⟨some 14, none, .mv (.t 0)⟩,⟨some 15, none, .mv (.t 0)⟩,⟨some 16, none, .nc (.t 15)⟩,⟨some 17, none, .fa 2 (.t 16)⟩,⟨some 18, none, .ld (.t 17)⟩,⟨some 19, none, .mv (.t 0)⟩,⟨some 20, none, .nc (.t 19)⟩,⟨some 21, none, .fa 2 (.t 20)⟩,⟨some 22, none, .ld (.t 21)⟩,⟨some 23, none, .len 1 (.t 22)⟩,⟨some 24, none, .bin .sub (.t 23) (.c (.i .i64 1))⟩,⟨some 25, none, .slc 6 (.t 18) none (some (.t 24)) none⟩,⟨some 26, none, .nc (.t 14)⟩,⟨some 27, none, .fa 2 (.t 26)⟩,⟨none, none, .st 1 (.t 27) (.t 25)⟩] [])
 (.seq (.seq (.reg [⟨some 28, none, .fa 0 (.t 4)⟩,⟨some 29, none, .ld (.t 28)⟩])
 (.cond (.t 29) (.regd [⟨some 30, none, .mv (.t 0)⟩,⟨some 31, none, .mv (.t 0)⟩,⟨some 32, none, .nc (.t 31)⟩,⟨some 33, none, .fa 3 (.t 32)⟩,⟨some 34, none, .ld (.t 33)⟩,⟨some 35, none, .mv (.t 0)⟩,⟨some 36, none, .nc (.t 35)⟩,⟨some 37, none, .fa 3 (.t 36)⟩,⟨some 38, none, .ld (.t 37)⟩,⟨some 39, none, .len 1 (.t 38)⟩,⟨some 40, none, .bin .sub (.t 39) (.c (.i .i64 1))⟩,⟨some 41, none, .slc 1 (.t 34) none (some (.t 40)) none⟩,⟨some 42, none, .nc (.t 30)⟩,⟨some 43, none, .fa 3 (.t 42)⟩,⟨none, none, .st 1 (.t 43) (.t 41)⟩] [])
 (.skip)))
 (.seq (.reg [⟨some 44, none, .ldn 6 (.t 4)⟩,⟨none, none, .st 6 (.t 2) (.t 44)⟩,⟨some 3, none, .mv (.c (.b true))⟩])
 (.ret))))))
theorem fn217 : F 217 = .go 45 [.c 2 (some 6), .t 3] v217 := by rw [F, fnOf, Tryz.func217]; kernel_rfl

def v218 : VC :=
 .seq (.reg [⟨some 2, none, .mv (.t 0)⟩,⟨some 3, none, .nc (.t 2)⟩,⟨some 4, none, .fa 8 (.t 3)⟩,⟨some 5, none, .ld (.t 4)⟩,⟨some 6, none, .call 219 [(.t 5), (.c (.i .i64 0))]⟩])
 (.seq (.reg [⟨some 7, none, .mv (.t 0)⟩,⟨some 8, none, .nc (.t 7)⟩,⟨some 9, none, .fa 9 (.t 8)⟩,⟨some 10, none, .ld (.t 9)⟩,⟨some 11, none, .call 266 [(.t 10)]⟩])
 (.seq (.seq (.regd [⟨some 12, none, .mv (.t 0)⟩,⟨some 13, none, .nc (.t 12)⟩,⟨some 14, none, .fa 16 (.t 13)⟩,⟨some 15, none, .ld (.t 14)⟩,⟨some 16, none, .mv (.t 15)⟩,⟨some 17, some (16, true), .mv (.t 0)⟩,⟨some 18, some (16, true), .nc (.t 17)⟩,⟨some 19, some (16, true), .fa 12 (.t 18)⟩,⟨some 20, some (16, true), .ld (.t 19)⟩,⟨some 21, some (16, true), .mv (.t 0)⟩,⟨some 22, some (16, true), .nc (.t 21)⟩,⟨some 23, some (16, true), .fa 4 (.t 22)⟩,⟨some 24, some (16, true), .ldn 1 (.t 23)⟩,⟨some 25, some (16, true), .call 116 [(.t 24)]⟩,⟨some 26, some (16, true), .bin .eql (.t 20) (.t 25)⟩,⟨some 27, none, .pick (.t 16) (.t 26) (.c (.b false))⟩] [(8, 13)])
 (.cond (.t 27) (.seq (.reg [⟨some 28, none, .mv (.t 0)⟩,⟨some 29, none, .mv (.t 0)⟩,⟨some 30, none, .mv (.t 0)⟩,⟨some 31, none, .nc (.t 30)⟩,⟨some 32, none, .fa 12 (.t 31)⟩,⟨some 33, none, .ld (.t 32)⟩,⟨some 34, none, .nc (.t 28)⟩,⟨some 35, none, .fa 11 (.t 34)⟩,⟨none, none, .st 1 (.t 35) (.t 33)⟩,⟨some 36, none, .nc (.t 29)⟩,⟨some 37, none, .fa 14 (.t 36)⟩,⟨none, none, .st 1 (.t 37) (.c (.i .i64 1))⟩])
 (.seq (.reg [⟨some 38, none, .mv (.t 0)⟩,⟨some 39, none, .call 223 [(.t 38), (.c (.i .i64 14)), (.c (.i .i64 0)), (.c (.i .i64 0)), (.c (.i .i64 (-1)))]⟩])
 (.ret)))
 (.skip)))
 (.seq (.seq (.reg [⟨some 40, none, .mv (.t 0)⟩,⟨some 41, none, .nc (.t 40)⟩,⟨some 42, none, .fa 16 (.t 41)⟩,⟨some 43, none, .ld (.t 42)⟩])
 (.cond (.t 43) (.reg [⟨some 44, none, .mv (.t 0)⟩,⟨some 45, none, .nc (.t 44)⟩,⟨some 46, none, .fa 12 (.t 45)⟩,⟨some 47, none, .ld (.t 46)⟩,⟨some 48, none, .bin .add (.t 47) (.c (.i .i64 1))⟩,⟨some 49, none, .nc (.t 44)⟩,⟨some 50, none, .fa 12 (.t 49)⟩,⟨none, none, .st 1 (.t 50) (.t 48)⟩])
 (.skip)))
 (.seq (.reg [⟨some 51, none, .mv (.t 0)⟩,⟨some 52, none, .mv (.t 0)⟩,⟨some 53, none, .nc (.t 51)⟩,⟨some 54, none, .fa 16 (.t 53)⟩,⟨none, none, .st 1 (.t 54) (.c (.b true))⟩,⟨some 55, none, .nc (.t 52)⟩,⟨some 56, none, .fa 15 (.t 55)⟩,⟨none, none, .st 1 (.t 56) (.c (.b false))⟩])
 (.seq (.reg [⟨some 57, none, .mv (.t 0)⟩,⟨some 58, none, .mv (.t 0)⟩,⟨some 59, none, .mv (.t 0)⟩,⟨some 60, none, .nc (.t 59)⟩,⟨some 61, none, .fa 12 (.t 60)⟩,⟨some 62, none, .ld (.t 61)⟩,⟨some 63, none, .nc (.t 57)⟩,⟨some 64, none, .fa 10 (.t 63)⟩,⟨none, none, .st 1 (.t 64) (.c (.i .i64 0))⟩,⟨some 65, none, .nc (.t 58)⟩,⟨some 66, none, .fa 11 (.t 65)⟩,⟨none, none, .st 1 (.t 66) (.t 62)⟩])
 (.reg [⟨some 67, none, .mv (.t 0)⟩,⟨some 68, none, .call 223 [(.t 67), (.c (.i .i64 1)), (.c (.i .i64 0)), (.c (.i .i64 0)), (.c (.i .i64 (-1)))]⟩]))))))
theorem fn218 : F 218 = .go 69 [] v218 := by rw [F, fnOf, Tryz.func218]; kernel_rfl

def v219 : VC :=
 .seq (.reg [⟨some 2, none, .box 1 (.t 0)⟩,⟨some 4, none, .mv (.c (.b false))⟩])
 (.seq (.seq (.reg [⟨some 7, none, .mv (.t 1)⟩,⟨some 8, none, .bin .lss (.t 7) (.c (.i .i64 0))⟩,⟨some 9, none, .mv (.t 8)⟩,⟨some 10, some (9, false), .mv (.t 1)⟩,⟨some 11, some (9, false), .ld (.t 2)⟩,⟨some 12, some (9, false), .nc (.t 11)⟩,⟨some 13, some (9, false), .fa 1 (.t 12)⟩,⟨some 14, some (9, false), .ld (.t 13)⟩,⟨some 15, some (9, false), .len 1 (.t 14)⟩,⟨some 16, some (9, false), .bin .gtr (.t 10) (.t 15)⟩,⟨some 17, none, .pick (.t 9) (.c (.b true)) (.t 16)⟩])
 (.cond (.t 17) (.seq (.reg [⟨some 4, none, .mv (.c (.b false))⟩])
 (.ret))
 (.skip)))
 (.seq (.seq (.reg [⟨some 18, none, .ld (.t 2)⟩,⟨some 19, none, .nc (.t 18)⟩,⟨some 20, none, .fa 1 (.t 19)⟩,⟨some 21, none, .ld (.t 20)⟩,⟨some 22, none, .mv (.t 1)⟩,⟨some 23, none, .slc 2 (.t 21) (some (.t 22)) none none⟩,⟨some 24, none, .call 267 [(.t 23)]⟩])
 (.blk 0 (.rfn (.t 24) [25, 26] (.reg [⟨some 6, none, .alloc 353 [(.i .i64 0), (.i .i64 0)]⟩,⟨none, none, .st 2 (.t 6) (.t 26)⟩])
 (.blk 1 (.regd [⟨some 27, none, .ld (.t 2)⟩,⟨some 28, none, .nc (.t 27)⟩,⟨some 29, none, .fa 0 (.t 28)⟩,⟨some 30, none, .ld (.t 29)⟩,⟨some 31, none, .fa 0 (.t 6)⟩,⟨some 32, none, .ld (.t 31)⟩,⟨some 33, none, .fa 1 (.t 6)⟩,⟨some 34, none, .ld (.t 33)⟩,⟨some 35, none, .ia 1 (.t 30) (.t 32)⟩,⟨none, none, .st 1 (.t 35) (.t 34)⟩] [])))))
 (.seq (.regd [⟨some 36, none, .ld (.t 2)⟩,⟨some 37, none, .ld (.t 2)⟩,⟨some 38, none, .nc (.t 37)⟩,⟨some 39, none, .fa 1 (.t 38)⟩,⟨some 40, none, .ld (.t 39)⟩,⟨some 41, none, .mv (.t 1)⟩,⟨some 42, none, .slc 2 (.t 40) none (some (.t 41)) none⟩,⟨some 43, none, .nc (.t 36)⟩,⟨some 44, none, .fa 1 (.t 43)⟩,⟨none, none, .st 1 (.t 44) (.t 42)⟩] [])
 (.seq (.reg [⟨some 4, none, .mv (.c (.b true))⟩])
 (.ret)))))
theorem fn219 : F 219 = .go 45 [.t 4] v219 := by rw [F, fnOf, Tryz.func219]; kernel_rfl

def v220 : VC :=
 .seq (.reg [⟨some 4, none, .box 6 (.t 1)⟩,⟨some 5, none, .box 6 (.t 2)⟩])
 (.seq (.reg [⟨some 6, none, .mv (.c (.i .i64 0))⟩])
 (.seq (.seq (.reg [⟨some 7, none, .fa 1 (.t 4)⟩,⟨some 8, none, .ld (.t 7)⟩,⟨some 9, none, .bin .neq (.t 8) (.c (.i .i64 (-1)))⟩])
 (.cond (.t 9) (.seq (.reg [⟨some 6, none, .mv (.c (.i .i64 1))⟩])
 (.reg [⟨some 10, none, .mv (.t 0)⟩,⟨some 11, none, .mv (.t 0)⟩,⟨some 12, none, .fa 1 (.t 4)⟩,⟨some 13, none, .ld (.t 12)⟩,⟨some 14, none, .nc (.t 10)⟩,⟨some 15, none, .fa 10 (.t 14)⟩,⟨none, none, .st 1 (.t 15) (.t 13)⟩,⟨some 16, none, .nc (.t 11)⟩,⟨some 17, none, .fa 15 (.t 16)⟩,⟨none, none, .st 1 (.t 17) (.c (.b false))⟩]))
 (.skip)))
 (.reg [⟨some 18, none, .mv (.t 0)⟩,⟨some 19, none, .fa 4 (.t 4)⟩,⟨some 20, none, .ld (.t 19)⟩,⟨some 21, none, .mv (.t 6)⟩,⟨some 22, none, .fa 4 (.t 5)⟩,⟨some 23, none, .ld (.t 22)⟩,⟨some 24, none, .call 223 [(.t 18), (.c (.i .i64 12)), (.t 20), (.t 21), (.t 23)]⟩])))
theorem fn220 : F 220 = .go 25 [] v220 := by rw [F, fnOf, Tryz.func220]; kernel_rfl

def v221 : VC :=
 .seq (.reg [⟨some 6, none, .box 6 (.t 1)⟩])
 (.seq (.regd [⟨some 10, none, .alloc 307 [(.b false), (.i .i64 0), (.i .i64 0), (.i .i64 0), (.i .i64 0), (.i .i64 0)]⟩,⟨some 11, none, .mv (.t 0)⟩,⟨some 12, none, .nc (.t 11)⟩,⟨some 13, none, .fa 10 (.t 12)⟩,⟨some 14, none, .ld (.t 13)⟩,⟨some 15, none, .mv (.t 0)⟩,⟨some 16, none, .nc (.t 15)⟩,⟨some 17, none, .fa 11 (.t 16)⟩,⟨some 18, none, .ld (.t 17)⟩,⟨some 19, none, .mv (.t 4)⟩,⟨some 20, none, .mv (.t 2)⟩,⟨some 21, none, .bin .add (.t 20) (.c (.i .i64 1))⟩,⟨some 22, none, .build [(.b false), (.i .i64 0), (.i .i64 0), (.i .i64 0), (.i .i64 0), (.i .i64 0)] [(1, 1, (.t 14)), (2, 1, (.t 18)), (4, 1, (.t 19)), (5, 1, (.t 21))]⟩,⟨none, none, .st 6 (.t 10) (.t 22)⟩] [])
 (.seq (.seq (.reg [⟨some 23, none, .mv (.t 3)⟩,⟨some 24, none, .bin .eql (.t 23) (.c (.i .i64 6))⟩])
 (.cond (.t 24) (.reg [⟨some 25, none, .mv (.t 0)⟩,⟨some 26, none, .nc (.t 25)⟩,⟨some 27, none, .fa 13 (.t 26)⟩,⟨some 28, none, .ld (.t 27)⟩,⟨some 29, none, .fa 4 (.t 10)⟩,⟨none, none, .st 1 (.t 29) (.t 28)⟩])
 (.skip)))
 (.seq (.seq (.reg [⟨some 30, none, .mv (.t 2)⟩,⟨some 31, none, .bin .add (.t 30) (.c (.i .i64 1))⟩,⟨some 32, none, .fa 2 (.t 6)⟩,⟨some 33, none, .ld (.t 32)⟩,⟨some 34, none, .bin .leq (.t 31) (.t 33)⟩,⟨some 35, none, .mv (.t 34)⟩,⟨some 36, some (35, true), .mv (.t 2)⟩,⟨some 37, some (35, true), .bin .add (.t 36) (.c (.i .i64 1))⟩,⟨some 38, some (35, true), .mv (.t 0)⟩,⟨some 39, some (35, true), .nc (.t 38)⟩,⟨some 40, some (35, true), .fa 11 (.t 39)⟩,⟨some 41, some (35, true), .ld (.t 40)⟩,⟨some 42, some (35, true), .bin .leq (.t 37) (.t 41)⟩,⟨some 43, none, .pick (.t 35) (.t 42) (.c (.b false))⟩,⟨some 44, none, .mv (.t 43)⟩,⟨some 45, some (44, true), .mv (.t 0)⟩,⟨some 46, some (44, true), .ldn 6 (.t 10)⟩,⟨some 47, some (44, true), .call 222 [(.t 45), (.t 46)]⟩,⟨some 48, some (44, true), .un .not (.t 47)⟩,⟨some 49, none, .pick (.t 44) (.t 48) (.c (.b false))⟩])
 (.cond (.t 49) (.ret)
 (.skip)))
 (.seq (.reg [⟨some 50, none, .mv (.t 0)⟩,⟨some 51, none, .nc (.t 50)⟩,⟨some 52, none, .fa 11 (.t 51)⟩,⟨some 53, none, .ld (.t 52)⟩,⟨some 54, none, .mv (.t 2)⟩,⟨some 55, none, .bin .sub (.t 53) (.t 54)⟩,⟨some 56, none, .nc (.t 50)⟩,⟨some 57, none, .fa 11 (.t 56)⟩,⟨none, none, .st 1 (.t 57) (.t 55)⟩])
 (.seq (.reg [⟨some 58, none, .mv (.t 0)⟩,⟨some 59, none, .nc (.t 58)⟩,⟨some 60, none, .fa 10 (.t 59)⟩,⟨some 61, none, .ld (.t 60)⟩,⟨some 62, none, .bin .add (.t 61) (.c (.i .i64 1))⟩,⟨some 63, none, .nc (.t 58)⟩,⟨some 64, none, .fa 10 (.t 63)⟩,⟨none, none, .st 1 (.t 64) (.t 62)⟩])
 (.reg [⟨some 65, none, .mv (.t 0)⟩,⟨some 66, none, .mv (.t 3)⟩,⟨some 67, none, .fa 4 (.t 6)⟩,⟨some 68, none, .ld (.t 67)⟩,⟨some 69, none, .mv (.t 2)⟩,⟨some 70, none, .bin .add (.t 69) (.c (.i .i64 1))⟩,⟨some 71, none, .mv (.t 4)⟩,⟨some 72, none, .call 223 [(.t 65), (.t 66), (.t 68), (.t 70), (.t 71)]⟩]))))))
theorem fn221 : F 221 = .go 73 [] v221 := by rw [F, fnOf, Tryz.func221]; kernel_rfl

def v222 : VC :=
 .seq (.reg [⟨some 3, none, .box 6 (.t 1)⟩,⟨some 4, none, .mv (.c (.b false))⟩])
 (.seq (.reg [⟨some 5, none, .mv (.t 0)⟩,⟨some 6, none, .nc (.t 5)⟩,⟨some 7, none, .fa 8 (.t 6)⟩,⟨some 8, none, .ld (.t 7)⟩,⟨some 9, none, .call 268 [(.t 8)]⟩,⟨some 10, none, .fa 3 (.t 3)⟩,⟨none, none, .st 1 (.t 10) (.t 9)⟩])
 (.seq (.seq (.regd [⟨some 11, none, .mv (.t 0)⟩,⟨some 12, none, .nc (.t 11)⟩,⟨some 13, none, .fa 9 (.t 12)⟩,⟨some 14, none, .ld (.t 13)⟩,⟨some 15, none, .ldn 6 (.t 3)⟩,⟨some 16, none, .call 269 [(.t 14), (.t 15)]⟩,⟨some 17, none, .un .not (.t 16)⟩] [])
 (.cond (.t 17) (.seq (.reg [⟨some 18, none, .mv (.t 0)⟩,⟨some 19, none, .nc (.t 18)⟩,⟨some 20, none, .fa 14 (.t 19)⟩,⟨none, none, .st 1 (.t 20) (.c (.i .i64 3))⟩])
 (.seq (.reg [⟨some 4, none, .mv (.c (.b false))⟩])
 (.ret)))
 (.skip)))
 (.seq (.reg [⟨some 4, none, .mv (.c (.b true))⟩])
 (.ret))))
theorem fn222 : F 222 = .go 21 [.t 4] v222 := by rw [F, fnOf, Tryz.func222]; kernel_rfl

def v223 : VC :=
 .seq (.regd [⟨some 11, none, .mv (.t 0)⟩,⟨some 12, none, .nc (.t 11)⟩,⟨some 13, none, .fa 8 (.t 12)⟩,⟨some 14, none, .ld (.t 13)⟩,⟨some 15, none, .mv (.t 0)⟩,⟨some 16, none, .nc (.t 15)⟩,⟨some 17, none, .fa 0 (.t 16)⟩,⟨some 18, none, .fa 3 (.t 17)⟩,⟨some 19, none, .ld (.t 18)⟩,⟨some 20, none, .bin .add (.t 19) (.c (.i .i64 1))⟩,⟨some 21, none, .bin .mul (.c (.i .i64 2)) (.t 20)⟩,⟨some 22, none, .call 270 [(.t 14), (.c (.i .i64 0)), (.t 21)]⟩,⟨some 10, none, .mv (.t 22)⟩] [])
 (.seq (.regd [⟨some 23, none, .mv (.t 0)⟩,⟨some 24, none, .mv (.t 1)⟩,⟨some 25, none, .mv (.t 2)⟩,⟨some 26, none, .mv (.t 3)⟩,⟨some 27, none, .mv (.t 0)⟩,⟨some 28, none, .nc (.t 27)⟩,⟨some 29, none, .fa 11 (.t 28)⟩,⟨some 30, none, .ld (.t 29)⟩,⟨some 31, none, .mv (.t 0)⟩,⟨some 32, none, .nc (.t 31)⟩,⟨some 33, none, .fa 12 (.t 32)⟩,⟨some 34, none, .ld (.t 33)⟩,⟨some 35, none, .mv (.t 0)⟩,⟨some 36, none, .nc (.t 35)⟩,⟨some 37, none, .fa 9 (.t 36)⟩,⟨some 38, none, .ld (.t 37)⟩,⟨some 39, none, .call 271 [(.t 38)]⟩,⟨some 40, none, .mv (.t 4)⟩,⟨some 41, none, .mv (.t 10)⟩,⟨some 42, none, .build [(.i .i64 0), (.i .i64 0), (.i .i64 0), (.i .i64 0), (.i .i64 0), (.i .i64 0), (.i .i64 0), (.sl none 0 0 true)] [(0, 1, (.t 24)), (1, 1, (.t 25)), (2, 1, (.t 26)), (3, 1, (.t 30)), (4, 1, (.t 34)), (5, 1, (.t 39)), (6, 1, (.t 40)), (7, 1, (.t 41))]⟩,⟨some 43, none, .nc (.t 23)⟩,⟨some 44, none, .fa 17 (.t 43)⟩,⟨none, none, .st 8 (.t 44) (.t 42)⟩] [(7, 16), (11, 16)])
 (.reg [⟨some 45, none, .mv (.t 0)⟩,⟨some 46, none, .nc (.t 45)⟩,⟨some 47, none, .fa 25 (.t 46)⟩,⟨none, none, .st 1 (.t 47) (.c (.b true))⟩]))
theorem fn223 : F 223 = .go 48 [] v223 := by rw [F, fnOf, Tryz.func223]; kernel_rfl

def v224 : VC :=
 .seq (.reg [⟨some 7, none, .box 6 (.t 3)⟩])
 (.seq (.seq (.reg [⟨some 8, none, .mv (.t 2)⟩,⟨some 9, none, .un .not (.t 8)⟩])
 (.cond (.t 9) (.seq (.reg [⟨some 10, none, .mv (.t 0)⟩,⟨some 11, none, .ldn 6 (.t 7)⟩,⟨some 12, none, .call 272 [(.t 10), (.t 11), (.c (.i .i64 0))]⟩])
 (.ret))
 (.skip)))
 (.seq (.reg [⟨some 13, none, .mv (.t 0)⟩,⟨some 14, none, .nc (.t 13)⟩,⟨some 15, none, .fa 10 (.t 14)⟩,⟨some 16, none, .ld (.t 15)⟩,⟨some 17, none, .bin .add (.t 16) (.c (.i .i64 1))⟩,⟨some 18, none, .nc (.t 13)⟩,⟨some 19, none, .fa 10 (.t 18)⟩,⟨none, none, .st 1 (.t 19) (.t 17)⟩])
 (.seq (.reg [⟨some 20, none, .mv (.t 0)⟩,⟨some 21, none, .mv (.t 1)⟩,⟨some 22, none, .nc (.t 20)⟩,⟨some 23, none, .fa 11 (.t 22)⟩,⟨none, none, .st 1 (.t 23) (.t 21)⟩])
 (.reg [⟨some 24, none, .mv (.t 0)⟩,⟨some 25, none, .fa 4 (.t 7)⟩,⟨some 26, none, .ld (.t 25)⟩,⟨some 27, none, .call 223 [(.t 24), (.c (.i .i64 2)), (.t 26), (.c (.i .i64 0)), (.c (.i .i64 (-1)))]⟩]))))
theorem fn224 : F 224 = .go 28 [] v224 := by rw [F, fnOf, Tryz.func224]; kernel_rfl

def v225 : VC :=
 .seq (.reg [⟨some 3, none, .box 1 (.t 0)⟩,⟨some 6, none, .mv (.c (.b false))⟩])
 (.seq (.reg [⟨some 7, none, .mv (.t 2)⟩,⟨some 8, none, .ldn 1 (.t 3)⟩,⟨some 9, none, .mv (.t 1)⟩,⟨some 10, none, .call 274 [(.t 8), (.t 9)]⟩,⟨some 11, none, .call 273 [(.t 7), (.t 10)]⟩,⟨some 6, none, .mv (.t 11)⟩])
 (.ret))
theorem fn225 : F 225 = .go 12 [.t 6] v225 := by rw [F, fnOf, Tryz.func225]; kernel_rfl

def v226 : VC :=
 .seq (.reg [⟨some 5, none, .box 6 (.t 2)⟩])
 (.seq (.seq (.reg [⟨some 6, none, .mv (.t 1)⟩,⟨some 7, none, .un .not (.t 6)⟩])
 (.cond (.t 7) (.seq (.reg [⟨some 8, none, .mv (.t 0)⟩,⟨some 9, none, .ldn 6 (.t 5)⟩,⟨some 10, none, .call 272 [(.t 8), (.t 9), (.c (.i .i64 0))]⟩])
 (.ret))
 (.skip)))
 (.seq (.reg [⟨some 11, none, .mv (.t 0)⟩,⟨some 12, none, .nc (.t 11)⟩,⟨some 13, none, .fa 10 (.t 12)⟩,⟨some 14, none, .ld (.t 13)⟩,⟨some 15, none, .bin .add (.t 14) (.c (.i .i64 1))⟩,⟨some 16, none, .nc (.t 11)⟩,⟨some 17, none, .fa 10 (.t 16)⟩,⟨none, none, .st 1 (.t 17) (.t 15)⟩])
 (.reg [⟨some 18, none, .mv (.t 0)⟩,⟨some 19, none, .fa 4 (.t 5)⟩,⟨some 20, none, .ld (.t 19)⟩,⟨some 21, none, .call 223 [(.t 18), (.c (.i .i64 4)), (.t 20), (.c (.i .i64 0)), (.c (.i .i64 (-1)))]⟩])))
theorem fn226 : F 226 = .go 22 [] v226 := by rw [F, fnOf, Tryz.func226]; kernel_rfl

end Go.Proofs.YtjlckbphpmogjaaGreatDoor
